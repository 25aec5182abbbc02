/-
  Proved: the given card of the law FreeStuck: whatever the input, the call returns true and each argument reads afterwards as it did. Conditions: those of the given row alone (its listed package-level variables start as the program's text lays them; each string, slice and map that is handed in lies within a process's addresses).
-/
import Derived.Test.YtmmdeeeifpepjaaGreatDoorAsZX3
set_option linter.unusedSectionVars false
set_option linter.unusedVariables false
set_option linter.unusedSimpArgs false
section
namespace Go.As.Try
open Go hiding Stat Spec shape
open Go.As
set_option maxRecDepth 100000
def asK (d x:D) (m:Nat):List Int:=[(d.hd 0).n,enc (d.hd 1),(d.hd 2).n,enc (d.hd 3),(d.hd 4).n,(x.hd 0).n,(x.hd 1).n,(if (x.hd 2).n=0 then 0 else 1),(x.hd 3).n,enc (x.hd 4),enc (x.hd 5),(m:Int)]
def Snd (d x:D) (m:Nat):Prop:=L 500 (asK d x m)=some [1]
theorem asJ (d x:D) (m:Nat) (h:(x.hd 4).l.length≤140737488351232): ∃c,L 500 (asK d x m)=some [c]∧(c=0∨c=1):=by obtain⟨ys,h1,c,rfl,hc⟩:=YC (d.hd 0).n (enc (d.hd 1)) (d.hd 2).n (enc (d.hd 3)) (d.hd 4).n (x.hd 0).n (x.hd 1).n (if (x.hd 2).n=0 then 0 else 1) (x.hd 3).n (m:Int) (x.hd 4) (x.hd 5) h;exact⟨c,h1,hc⟩
theorem aK:((1:Int)=0)=False:=by simp
def Ib (s:D):Prop:= ∀x∈s.l,(x.hd 4).l.length≤140737488351232
section
variable {d0 d1 s:D} (hr:Ib s) (hle:s.l.length=d0.l.length) (hlen:d0.l.length≤140737488351232)
include hr hle hlen
theorem LW: ∀(j i:Nat),i+j=s.l.length→∃b:Int,L 351 [enc s,(s.l.length:Int),(i:Int),enc d0,enc d1]=some [b]∧(b=0∨b=1)∧
 (b=1↔∀(k:Nat) (hk:k < s.l.length),i≤k→Snd (d0.l[k]'(hle▸hk)) s.l[k] d1.l.length)
 | 0,i,hi=>by
   have c1: ¬(i:Int) < (s.l.length:Int):=by omega
   refine⟨1,?_,.inr rfl,fun _ k hk h=>absurd hk (by omega),fun _=>rfl⟩;rw [aQ,avD];simp only [Yg,zz,c1,fin]
 | j+1,i,hi=>by
   have hil:i < s.l.length:=by omega
   have hid:i < d0.l.length:=by omega
   have c1:(i:Int) < (s.l.length:Int):=by omega
   have c2: ¬((i:Int) < 0):=by omega
   have c3:(i:Int) < (d0.l.length:Int):=by omega
   have w:=aY (n:=i) (by omega);obtain⟨c,hS,hc⟩:=asJ d0.l[i] s.l[i] d1.l.length (hr _ (List.getElem_mem hil));obtain⟨b,hb1,hb2,ih⟩:=LW j (i+1) (by omega);have hS':=hS;unfold asK at hS;by_cases hc0:c=0
   ·subst hc0;refine⟨0,?_,.inl rfl,fun h=>absurd h (by omega),fun h=>?_⟩
    ·rw [aQ,avD];by_cases hn:((s.l[i]).hd 2).n=0
     ·rw [if_pos hn] at hS;simp only [Yg,zz,c1,c2,c3,w,aX hil,aX hid,hn,hS,fin]
     ·rw [if_neg hn] at hS;simp only [Yg,zz,c1,c2,c3,w,aX hil,aX hid,hn,hS,fin]
    ·have:=h i hil (Nat.le_refl i);unfold Snd at this;rw [hS'] at this;simp at this
   ·have hc1:c=1:=by omega
    subst hc1;refine⟨b,?_,hb2,fun h k hk hik=>?_,fun h=>ih.2 fun k hk hik=>h k hk (by omega)⟩
    ·rw [aQ,avD];by_cases hn:((s.l[i]).hd 2).n=0
     ·rw [if_pos hn] at hS;simp only [Yg,zz,c1,c2,c3,w,aX hil,aX hid,hn,hS,fin,aK,hb1]
     ·rw [if_neg hn] at hS;simp only [Yg,zz,c1,c2,c3,w,aX hil,aX hid,hn,hS,fin,aK,hb1]
    ·by_cases hke:k=i
     ·subst hke;exact hS'
     ·exact ih.1 h k hk (by omega)
end
theorem oW {d0 d1 s:D} (h0:Wd (.sl 3) d0) (h1:Wd (.sl 4) d1) (hr:Ib s): ∃b:Int,L 350 [enc d0,enc d1,enc s]=some [b]∧(b=0∨b=1)∧
 (b=1↔L 450 [enc d0,enc d1]=some [0]∧∃hle:s.l.length=d0.l.length,∀(k:Nat) (hk:k < s.l.length),Snd (d0.l[k]'(hle▸hk)) s.l[k] d1.l.length):=by
 obtain⟨ys,hC,c,rfl,hc,hok⟩:=DC h0 h1;by_cases hc0:c=0
 ·subst hc0;by_cases hl:s.l.length=d0.l.length
  ·have hlen:=h0.len;obtain⟨b,hb1,hb2,hb3⟩:=LW (d1:=d1) hr hl hlen s.l.length 0 (by omega);refine⟨b,?_,hb2,fun h=> ⟨hC,hl,fun k hk=>hb3.1 h k hk (by omega)⟩,fun⟨_,_,h⟩=>hb3.2 fun k hk _=>h k hk⟩;have hl':(s.l.length:Int)=(d0.l.length:Int):=by omega
   rw [aQ,avE,aiV,dP,if_pos,dP,if_pos,dP,if_pos,nZ]
   ·simp only [List.map,bK,gU,iM,aP,Nat.reduceLT,aH,aN,aA,fin];exact hb1
   ·simp only [iI,oM,bK,gB,iE,gU,List.map,iM,aP,Nat.reduceLT,aH,aN,aA];exact hl'
   ·simp only [iI,oM,bK,gB,iE,gU,List.map,iM,aP,Nat.reduceLT,aH,aN,aA];rw [hC];simp only [aH,aN,Option.isSome_some,Option.getD_some,if_true]
   ·simp only [iI,oM,bK,gB,iE,gU,List.map,iM,aP,Nat.reduceLT,aH,aN,aA];rw [hC];simp only [aH,aN,Option.isSome_some,Option.getD_some,if_true]
  ·refine⟨0,?_,.inl rfl,fun h=>absurd h (by omega),fun⟨_,h,_⟩=>absurd h hl⟩;have hl': ¬(s.l.length:Int)=(d0.l.length:Int):=by omega
   rw [aQ,avE,aiV,dP,if_pos,dP,if_pos,dP,if_neg]
   ·simp only [jL,List.map,bK,fin]
   ·simp only [iI,oM,bK,gB,iE,gU,List.map,iM,aP,Nat.reduceLT,aH,aN,aA];exact hl'
   ·simp only [iI,oM,bK,gB,iE,gU,List.map,iM,aP,Nat.reduceLT,aH,aN,aA];rw [hC];simp only [aH,aN,Option.isSome_some,Option.getD_some,if_true]
   ·simp only [iI,oM,bK,gB,iE,gU,List.map,iM,aP,Nat.reduceLT,aH,aN,aA];rw [hC];simp only [aH,aN,Option.isSome_some,Option.getD_some,if_true]
 ·refine⟨0,?_,.inl rfl,fun h=>absurd h (by omega),fun⟨h,_⟩=>?_⟩
  ·rw [aQ,avE,aiV,dP,if_pos,dP,if_neg]
   ·simp only [jL,List.map,bK,fin]
   ·simp only [iI,oM,bK,gB,iE,gU,List.map,iM,aP,Nat.reduceLT,aH,aN,aA];rw [hC];simp only [aH,aN,Option.isSome_some,Option.getD_some,if_true];exact hc0
   ·simp only [iI,oM,bK,gB,iE,gU,List.map,iM,aP,Nat.reduceLT,aH,aN,aA];rw [hC];simp only [aH,aN,Option.isSome_some,Option.getD_some,if_true]
  ·rw [hC] at h;simp at h;exact absurd h hc0
end Go.As.Try
end
section
namespace Go.As.Try
open Go hiding Stat Spec shape
open Go.As
set_option maxRecDepth 100000
def OkT (d0:D) (nl nc:Nat) (a:Int) (ll:Nat) (w o g t:Int):Prop:=
 0≤a∧a≤(nc:Int)∧(ll:Int)=(nl:Int)∧0≤t∧t≤4611686018427387904∧
  (w=0∧o=0∧g=0∨w=24∧0≤o∧o < (d0.l.length:Int)∧((d0.at o).hd 0).n=4∨w=25∧0≤o∧o < (d0.l.length:Int)∧((d0.at o).hd 0).n=5)
def WC (p:Prop) (ys:List Int):Prop:= ∃b:Int,ys= [b]∧(b=0∧¬p∨b=1∧p)
theorem BD {p:Prop} (h: ¬p):WC p [0]:=⟨0,rfl,.inl ⟨rfl,h⟩⟩
theorem WB {p:Prop} (h:p):WC p [1]:=⟨1,rfl,.inr ⟨rfl,h⟩⟩
theorem arQ (d0 d3 d4 d6:D) (x1 x2 x5 x7 x8 x9 x10:Int):Tot 1600 [enc d0,x1,x2,enc d3,enc d4,x5,enc d6,x7,x8,x9,x10] (WC (OkT d0 d3.l.length d4.l.length x5 d6.l.length x7 x8 x9 x10)):=by
 unfold OkT;refine Tot.of ?_;rw [ayP];simp only [ajC,zz]
 repeat' first
  | exact .out (BD (by omega))
  | exact .out (WB (by omega))
  | refine .ite (fun _=>?_) (fun _=>?_)
def OkK (d0 x k:D):Prop:=OkT d0 (x.hd 1).l.length (x.hd 2).l.length (k.hd 0).n (k.hd 1).l.length (k.hd 2).n (k.hd 3).n (k.hd 4).n (k.hd 5).n
section
variable {d0 d1 k:D} (hle:k.l.length=d1.l.length) (hlen:d1.l.length≤140737488351232)
include hle hlen
theorem Jh: ∀(j i:Nat),i+j=k.l.length→Tot 1501 [enc k,(k.l.length:Int),(i:Int),enc d0,enc d1] (WC (∀(n:Nat) (hn:n < k.l.length),i≤n→OkK d0 (d1.l[n]'(hle▸hn)) k.l[n]))
 | 0,i,hi=>by
   have c1: ¬(i:Int) < (k.l.length:Int):=by omega
   refine Tot.of ?_;rw [aoO];simp only [abB,zz,c1];exact .out (WB fun n hn h=>by omega)
 | j+1,i,hi=>by
   have hil:i < k.l.length:=by omega
   have hid:i < d1.l.length:=by omega
   have c1:(i:Int) < (k.l.length:Int):=by omega
   have c2: ¬((i:Int) < 0):=by omega
   have c3:(i:Int) < (d1.l.length:Int):=by omega
   have w:=aY (n:=i) (by omega);obtain⟨ys,hT,b,rfl,hb⟩:=arQ d0 ((d1.l[i]).hd 1) ((d1.l[i]).hd 2) ((k.l[i]).hd 1) (enc d1) (enc ((d1.l[i]).hd 0)) ((k.l[i]).hd 0).n ((k.l[i]).hd 2).n ((k.l[i]).hd 3).n ((k.l[i]).hd 4).n ((k.l[i]).hd 5).n;obtain⟨ys,ih,b',rfl,hb'⟩:=Jh j (i+1) (by omega);refine Tot.of ?_;rw [aoO];simp only [abB,zz,c1,c2,c3,aX hil,aX hid,w,hT];refine .ite (fun h0=> .out (BD fun h=>?_)) (fun h0=> .jump ⟨_,ih,b',rfl,?_⟩)
   ·rcases hb with ⟨_,hb⟩ | ⟨hb,_⟩
    ·exact hb (h i hil (Nat.le_refl _))
    ·omega
   ·rcases hb with ⟨hb,_⟩ | ⟨_,hb⟩
    ·exact absurd hb h0
    ·rcases hb' with ⟨q,hb'⟩ | ⟨q,hb'⟩
     ·exact .inl ⟨q,fun h=>hb' fun n hn hni=>h n hn (by omega)⟩
     ·refine .inr ⟨q,fun n hn hni=>?_⟩;by_cases he:n=i
      ·subst he; exact hb
      ·exact hb' n hn (by omega)
end
def MR (d0 d1 s k:D):Prop:=L 350 [enc d0,enc d1,enc s]=some [1]∧∃hle:k.l.length=d1.l.length,∀(n:Nat) (hn:n < k.l.length),OkK d0 (d1.l[n]'(hle▸hn)) k.l[n]
theorem QO {d0 d1 s k:D} (h0:Wd (.sl 3) d0) (h1:Wd (.sl 4) d1) (hr:Ib s) (hlen:d1.l.length≤140737488351232):Tot 1500 [enc d0,enc d1,enc s,enc k] (WC (MR d0 d1 s k)):=by
 obtain⟨b,hb,hb1,_⟩:=oW h0 h1 hr;refine Tot.of ?_;rw [ayR];simp only [ajE,zz,hb];refine .ite (fun h=> .out (BD fun q=>?_)) (fun h=> .ite (fun hl=>?_) (fun hl=> .out (BD fun q=>?_)))
 ·have:=q.1;rw [hb] at this;simp at this;omega
 ·have hle:k.l.length=d1.l.length:=by omega
  obtain⟨ys,hL,b',rfl,hb'⟩:=Jh (d0:=d0) hle hlen k.l.length 0 (by omega);refine .jump ⟨_,hL,b',rfl,?_⟩;have hone:b=1:=by omega
  subst hone;rcases hb' with ⟨q,hb'⟩ | ⟨q,hb'⟩
  ·exact .inl ⟨q,fun h=>hb' fun n hn _=>h.2.2 n hn⟩
  ·exact .inr ⟨q,hb,hle,fun n hn=>hb' n hn (Nat.zero_le _)⟩
 ·have:=q.2.1;omega
theorem LX {d0 d1 s k:D} (h0:Wd (.sl 3) d0) (h1:Wd (.sl 4) d1) (hr:Ib s) (hlen:d1.l.length≤140737488351232) (t:Int):Tot 1550 [enc d0,enc d1,enc s,enc k,t] (WC (0≤t∧t < (d1.l.length:Int)∧MR d0 d1 s k)):=by
 obtain⟨ys,hM,b,rfl,hb⟩:=QO h0 h1 hr hlen (k:=k);refine Tot.of ?_;rw [ayQ];simp only [ajD,zz,hM];refine .ite (fun h=> .out (BD fun q=>by omega)) (fun h=> .ite (fun h2=> .ite (fun h3=> .out (BD fun q=>?_)) (fun h3=> .out (WB ?_))) (fun h2=> .out (BD fun q=>by omega)))
 ·rcases hb with ⟨_,hb⟩ | ⟨hb,_⟩
  ·exact hb q.2.2
  ·omega
 ·rcases hb with ⟨hb,_⟩ | ⟨_,hb⟩
  ·exact absurd hb h3
  ·exact⟨by omega,h2,hb⟩
end Go.As.Try
end
section
namespace Go.As.Try
open Go hiding Stat Spec shape
open Go.As
set_option maxRecDepth 100000
def firstAt (t:Int):List D→Nat→Int
 | [],_=> -1
 | x :: l,i=>if x.n=t then (i:Int) else firstAt t l (i+1)
def place (r:D) (t:Int):Int:=firstAt t r.l 0
def wo (t:Int) (l:List D):List D:=l.filter fun x=>decide (x.n≠t)
theorem D9 (t:Int): ∀(l:List D) (i:Nat),(firstAt t l i= -1∧∀x∈l,x.n≠t)∨∃(k:Nat) (h:k < l.length),firstAt t l i=((i+k:Nat):Int)∧(l[k]).n=t∧∀x∈l.take k,x.n≠t
 | [],_=> .inl ⟨rfl,fun x h=>absurd h (by simp)⟩
 | x :: l,i=>by
   unfold firstAt;by_cases hx:x.n=t
   ·rw [if_pos hx];exact .inr ⟨0,by simp,by simp,hx,by simp⟩
   ·rw [if_neg hx];rcases D9 t l (i+1) with ⟨h1,h2⟩ | ⟨k,hk,h1,h2,h3⟩
    ·exact .inl ⟨h1,fun y hy=>by rcases List.mem_cons.1 hy with rfl | hy; exact hx; exact h2 y hy⟩
    ·refine .inr ⟨k+1,by simp; omega,by rw [h1]; congr 1; omega,by simpa using h2,fun y hy=>?_⟩;rw [List.take_succ_cons] at hy;rcases List.mem_cons.1 hy with rfl | hy
     ·exact hx
     ·exact h3 y hy
theorem sF (r:D) (t:Int):(place r t= -1∧∀x∈r.l,x.n≠t)∨∃(k:Nat) (h:k < r.l.length),place r t=(k:Int)∧(r.l[k]).n=t∧∀x∈r.l.take k,x.n≠t:=by have:=D9 t r.l 0;simp only [Nat.zero_add] at this;exact this
theorem iK (r:D) (t:Int): -1≤place r t∧place r t < (r.l.length:Int):=by rcases sF r t with ⟨h,_⟩ | ⟨k,hk,h,_⟩ <;> rw [h] <;> omega
theorem JR {t:Int} {l:List D} (h: ∀x∈l,x.n≠t):wo t l=l:=List.filter_eq_self.2 fun x hx=>by simpa using h x hx
theorem zS {r:D} {t:Int} {i:Nat} (h:i < r.l.length):firstAt t (r.l.drop i) i=if (r.at (i:Int)).n=t then (i:Int) else firstAt t (r.l.drop (i+1)) (i+1):=by rw [List.drop_eq_getElem_cons h,aX h];rfl
theorem amE (r:D) (t:Int) (hl:r.l.length≤140737488351232): ∀(j i:Nat),i+j=r.l.length→L 851 [enc r,t,(r.l.length:Int),(i:Int)]=some [firstAt t (r.l.drop i) i]
 | 0,i,hi=>by
   have c1: ¬(i:Int) < (r.l.length:Int):=by omega
   rw [List.drop_of_length_le (by omega),aQ,aBE];simp only [aiD,zz,c1,fin,firstAt]
 | j+1,i,hi=>by
   have c1:(i:Int) < (r.l.length:Int):=by omega
   have c2: ¬((i:Int) < 0):=by omega
   have w:=aY (n:=i) (by omega);have ih:=amE r t hl j (i+1) (by omega);rw [zS (by omega),aQ,aBE];by_cases he:(r.at (i:Int)).n=t
   ·simp only [aiD,zz,c1,c2,he,fin]
   ·have he': ¬t=(r.at (i:Int)).n:=fun h=>he h.symm;simp only [aiD,zz,c1,c2,if_neg he,if_neg he',w,fin,ih]
theorem dK (r:D) (t:Int) (hl:r.l.length≤140737488351232):L 850 [enc r,t]=some [place r t]:=by have h:=amE r t hl r.l.length 0 (by omega);rw [aQ,aDZ];simp only [azZ,zz,fin];exact h
theorem has_is (r:D) (t:Int) (hl:r.l.length≤140737488351232):L 900 [enc r,t]=some [if place r t < 0 then 0 else 1]:=by rw [aQ,aDY];simp only [azY,zz,dK r t hl];split <;> rfl
theorem FY (r:D) (t:Int) (hl:r.l.length≤140737488351232) (y2 y3 y4 y5 y6 y7 y8 y9 qH qG qF:Int): ∀(j i:Nat),i+j=r.l.length→
 L 12051 [enc r,t,y2,y3,y4,y5,y6,y7,y8,y9,qH,qG,qF,(r.l.length:Int),(i:Int)]=some [0,enc r,t,y2,y3,y4,y5,y6,y7,y8,y9,qH,qG,qF,firstAt t (r.l.drop i) i]
 | 0,i,hi=>by
   have c1: ¬(i:Int) < (r.l.length:Int):=by omega
   rw [List.drop_of_length_le (by omega),aQ,ZH];simp only [Le,zz,c1,fin,firstAt]
 | j+1,i,hi=>by
   have c1:(i:Int) < (r.l.length:Int):=by omega
   have c2: ¬((i:Int) < 0):=by omega
   have w:=aY (n:=i) (by omega);have ih:=FY r t hl y2 y3 y4 y5 y6 y7 y8 y9 qH qG qF j (i+1) (by omega);rw [zS (by omega),aQ,ZH];by_cases he:(r.at (i:Int)).n=t
   ·simp only [Le,zz,c1,c2,he,fin]
   ·simp only [Le,zz,c1,c2,if_neg he,w,fin,ih]
theorem atN (r:D) (t:Int) (hl:r.l.length≤140737488351232) (y2 y3 y4 y5 y6 y7 y8 y9 qH qG qF:Int):L 12050 [enc r,t,y2,y3,y4,y5,y6,y7,y8,y9,qH,qG,qF]=some [0,enc r,t,y2,y3,y4,y5,y6,y7,y8,y9,qH,qG,qF,place r t]:=by have h:=FY r t hl y2 y3 y4 y5 y6 y7 y8 y9 qH qG qF r.l.length 0 (by omega);rw [aQ,apQ];simp only [Yy,zz,fin];exact h
theorem FX (r:D) (t:Int) (hl:r.l.length≤140737488351232) (y2 y3 y4 y5 y6 y7 y8 y9 qH qG qF:Int): ∀(j i:Nat),i+j=r.l.length→
 L 12151 [enc r,t,y2,y3,y4,y5,y6,y7,y8,y9,qH,qG,qF,(r.l.length:Int),(i:Int)]=some [0,enc r,t,y2,y3,y4,y5,y6,y7,y8,y9,qH,qG,qF,firstAt t (r.l.drop i) i]
 | 0,i,hi=>by
   have c1: ¬(i:Int) < (r.l.length:Int):=by omega
   rw [List.drop_of_length_le (by omega),aQ,ZF];simp only [La,zz,c1,fin,firstAt]
 | j+1,i,hi=>by
   have c1:(i:Int) < (r.l.length:Int):=by omega
   have c2: ¬((i:Int) < 0):=by omega
   have w:=aY (n:=i) (by omega);have ih:=FX r t hl y2 y3 y4 y5 y6 y7 y8 y9 qH qG qF j (i+1) (by omega);rw [zS (by omega),aQ,ZF];by_cases he:(r.at (i:Int)).n=t
   ·simp only [La,zz,c1,c2,he,fin]
   ·simp only [La,zz,c1,c2,if_neg he,w,fin,ih]
theorem atM (r:D) (t:Int) (hl:r.l.length≤140737488351232) (y2 y3 y4 y5 y6 y7 y8 y9 qH qG qF:Int):L 12150 [enc r,t,y2,y3,y4,y5,y6,y7,y8,y9,qH,qG,qF]=some [0,enc r,t,y2,y3,y4,y5,y6,y7,y8,y9,qH,qG,qF,place r t]:=by have h:=FX r t hl y2 y3 y4 y5 y6 y7 y8 y9 qH qG qF r.l.length 0 (by omega);rw [aQ,apP];simp only [Yx,zz,fin];exact h
theorem CJ {t:Int} {l:List D} {j:Nat} (h:j < l.length):wo t (l.take (j+1))=if (l[j]).n=t then wo t (l.take j) else wo t (l.take j)++ [l[j]]:=by
 unfold wo;rw [List.take_succ_eq_append_getElem h,List.filter_append];by_cases he:(l[j]).n=t
 ·simp [he]
 ·simp [he]
theorem ahI (t:Int) (l:List D):(wo t l).length≤l.length:=List.length_filter_le _ _
theorem Ad (r0:D) (t:Int) (l0:List D) (hl:l0.length≤140737488351232) (hn: ∀x∈l0,x= .i x.n) (y2 y3 y4 y5 y6 y7 y8 y9 qH qG qF:Int): ∀(m i j:Nat) (r:D),r.l.length=l0.length→i < j→j+m=l0.length→r.l.drop j=l0.drop j→r.l.take i=wo t (l0.take j)→
 ∃(n:Nat) (r':D),n < l0.length∧r'.l.length=l0.length∧r'.l.take n=wo t l0∧L 12001 [enc r0,t,y2,y3,y4,y5,y6,y7,y8,y9,qH,qG,qF,enc r,(i:Int),(j:Int)]=some [1,enc r0,t,y2,y3,y4,y5,y6,y7,y8,y9,qH,qG,qF,(n:Int),enc r',(l0.length:Int)]
 | 0,i,j,r,hr,h1,h2,h3,h4=>by
   have c1: ¬(j:Int) < (l0.length:Int):=by omega
   have c2: ¬((i:Int) < 0):=by omega
   have c3: ¬((l0.length:Int) < (i:Int)):=by omega
   have c4: ¬((l0.length:Int) - (i:Int) < 0):=by omega
   have c5:(i:Int)+((l0.length:Int) - (i:Int))=(l0.length:Int):=by omega
   refine⟨i,dL (r.l.take i++List.replicate (r.l.length - i) (.i 0)),by omega,by rw [aW]; simp only [List.length_append,List.length_take,List.length_replicate]; omega,?_,?_⟩
   ·rw [aW,List.take_append_of_le_length (by rw [List.length_take]; omega),List.take_take,Nat.min_self,h4,List.take_of_length_le (by omega)]
   ·rw [aQ,U7];simp only [Lh,zz,c1,c2,c3,c4,c5,Int.toNat_natCast,fin,hr]
 | m+1,i,j,r,hr,h1,h2,h3,h4=>by
   have c1:(j:Int) < (l0.length:Int):=by omega
   have c2: ¬((j:Int) < 0):=by omega
   have w:=aY (n:=j) (by omega);have hj:j < r.l.length:=by omega
   have hj0:j < l0.length:=by omega
   have hx:r.at (j:Int)=l0[j]:=by rw [aX hj];rw [List.drop_eq_getElem_cons hj,List.drop_eq_getElem_cons hj0] at h3;exact (List.cons.inj h3).1
   have h3':r.l.drop (j+1)=l0.drop (j+1):=by rw [List.drop_eq_getElem_cons hj,List.drop_eq_getElem_cons hj0] at h3;exact (List.cons.inj h3).2
   by_cases he:(r.at (j:Int)).n=t
   ·obtain⟨n,r',q1,q2,q3,ih⟩:=Ad r0 t l0 hl hn y2 y3 y4 y5 y6 y7 y8 y9 qH qG qF m i (j+1) r hr (by omega) (by omega) h3' (by rw [CJ hj0,← hx,if_pos he,h4]);refine⟨n,r',q1,q2,q3,?_⟩;rw [aQ,U7];simp only [Lh,zz,c1,c2,he,w,hr,fin,ih]
   ·have c3: ¬((i:Int) < 0):=by omega
    have c4:(i:Int) < (l0.length:Int):=by omega
    have w2:=aY (n:=i) (by omega);have hs:fP r.l (i:Int) (.i (r.at (j:Int)).n)=r.l.set i l0[j]:=by rw [xK,hx,← hn _ (List.getElem_mem hj0)]
    obtain⟨n,r',q1,q2,q3,ih⟩:=Ad r0 t l0 hl hn y2 y3 y4 y5 y6 y7 y8 y9 qH qG qF m (i+1) (j+1) (dL (fP r.l (i:Int) (.i (r.at (j:Int)).n))) (by rw [aW,iH,hr]) (by omega) (by omega)
     (by rw [aW,hs,List.drop_set_of_lt (by omega),h3'])
     (by rw [aW,hs,List.take_succ_eq_append_getElem (by rw [List.length_set]; omega),List.take_set_of_le (Nat.le_refl _),List.getElem_set_self,h4,CJ hj0,← hx,if_neg he])
    refine⟨n,r',q1,q2,q3,?_⟩;rw [aQ,U7];simp only [Lh,zz,c1,c2,c3,c4,if_neg he,w,w2,hr,fin,ih]
theorem avQ (r:D) (t:Int) (hl:r.l.length≤140737488351232) (hn: ∀x∈r.l,x= .i x.n):(wo t r.l=r.l∧∀y2 y3 y4 y5 y6 y7 y8 y9 qH qG qF:Int,L 12000 [enc r,t,y2,y3,y4,y5,y6,y7,y8,y9,qH,qG,qF]=some [0,enc r,t,y2,y3,y4,y5,y6,y7,y8,y9,qH,qG,qF])∨
 ∀y2 y3 y4 y5 y6 y7 y8 y9 qH qG qF:Int,∃(n:Nat) (r':D),n < r.l.length∧r'.l.length=r.l.length∧r'.l.take n=wo t r.l∧L 12000 [enc r,t,y2,y3,y4,y5,y6,y7,y8,y9,qH,qG,qF]=some [1,enc r,t,y2,y3,y4,y5,y6,y7,y8,y9,qH,qG,qF,(n:Int),enc r',(r.l.length:Int)]:=by
 have h:=atN r t hl;rcases sF r t with ⟨hp,hno⟩ | ⟨i,hi,hp,hat,hno⟩
 ·refine .inl ⟨JR hno,fun y2 y3 y4 y5 y6 y7 y8 y9 qH qG qF=>?_⟩;have h':=h y2 y3 y4 y5 y6 y7 y8 y9 qH qG qF;clear h;rw [hp] at h';rw [aQ,ZI,TB,dP,if_pos,dP,if_pos,dP,if_pos]
  ·simp only [jL,List.map,bK,aP,aH,aN,Nat.reduceLT,fin]
  ·simp only [Qm3,iI,bK,gB,iE,List.map,aP,Nat.reduceLT,aH,aN];rw [h'];simp only [aH,aN,Option.isSome_some,Option.getD_some,if_true]
  ·simp only [iI,bK,gB,iE,List.map,aP,Nat.reduceLT,aH,aN];rw [h'];simp only [aH,aN,Option.isSome_some,Option.getD_some,if_true]
  ·simp only [iI,bK,gB,iE,List.map,aP,Nat.reduceLT,aH,aN];rw [h'];simp only [aH,aN,Option.isSome_some,Option.getD_some,if_true]
 ·refine .inr fun y2 y3 y4 y5 y6 y7 y8 y9 qH qG qF=>?_;have h':=h y2 y3 y4 y5 y6 y7 y8 y9 qH qG qF;clear h;rw [hp] at h';have w:=aY (n:=i) (by omega);have h0:r.l.take i=wo t (r.l.take (i+1)):=by rw [CJ hi,if_pos hat,JR hno]
  obtain⟨n,r',q1,q2,q3,ih⟩:=Ad r t r.l hl hn y2 y3 y4 y5 y6 y7 y8 y9 qH qG qF (r.l.length - (i+1)) i (i+1) r rfl (by omega) (by omega) rfl h0;refine⟨n,r',q1,q2,q3,?_⟩;rw [aQ,ZI,TB,dP,if_pos,dP,if_pos,dP,if_neg]
  ·simp only [nZ,List.map,Qm3,bK,gB,BR,den_add,aP,aH,aN,Nat.reduceLT];rw [h'];simp only [aH,aN,Option.getD_some,w,fin];rw [ih]
  ·simp only [Qm3,iI,bK,gB,iE,List.map,aP,Nat.reduceLT,aH,aN];rw [h'];simp only [aH,aN,Option.isSome_some,Option.getD_some,if_true];omega
  ·simp only [iI,bK,gB,iE,List.map,aP,Nat.reduceLT,aH,aN];rw [h'];simp only [aH,aN,Option.isSome_some,Option.getD_some,if_true]
  ·simp only [iI,bK,gB,iE,List.map,aP,Nat.reduceLT,aH,aN];rw [h'];simp only [aH,aN,Option.isSome_some,Option.getD_some,if_true]
theorem Ac (r0:D) (t:Int) (l0:List D) (hl:l0.length≤140737488351232) (hn: ∀x∈l0,x= .i x.n) (y2 y3 y4 y5 y6 y7 y8 y9 qH qG qF:Int): ∀(m i j:Nat) (r:D),r.l.length=l0.length→i < j→j+m=l0.length→r.l.drop j=l0.drop j→r.l.take i=wo t (l0.take j)→
 ∃(n:Nat) (r':D),n < l0.length∧r'.l.length=l0.length∧r'.l.take n=wo t l0∧L 12101 [enc r0,t,y2,y3,y4,y5,y6,y7,y8,y9,qH,qG,qF,enc r,(i:Int),(j:Int)]=some [1,enc r0,t,y2,y3,y4,y5,y6,y7,y8,y9,qH,qG,qF,(n:Int),enc r',(l0.length:Int)]
 | 0,i,j,r,hr,h1,h2,h3,h4=>by
   have c1: ¬(j:Int) < (l0.length:Int):=by omega
   have c2: ¬((i:Int) < 0):=by omega
   have c3: ¬((l0.length:Int) < (i:Int)):=by omega
   have c4: ¬((l0.length:Int) - (i:Int) < 0):=by omega
   have c5:(i:Int)+((l0.length:Int) - (i:Int))=(l0.length:Int):=by omega
   refine⟨i,dL (r.l.take i++List.replicate (r.l.length - i) (.i 0)),by omega,by rw [aW]; simp only [List.length_append,List.length_take,List.length_replicate]; omega,?_,?_⟩
   ·rw [aW,List.take_append_of_le_length (by rw [List.length_take]; omega),List.take_take,Nat.min_self,h4,List.take_of_length_le (by omega)]
   ·rw [aQ,U6];simp only [Ld,zz,c1,c2,c3,c4,c5,Int.toNat_natCast,fin,hr]
 | m+1,i,j,r,hr,h1,h2,h3,h4=>by
   have c1:(j:Int) < (l0.length:Int):=by omega
   have c2: ¬((j:Int) < 0):=by omega
   have w:=aY (n:=j) (by omega);have hj:j < r.l.length:=by omega
   have hj0:j < l0.length:=by omega
   have hx:r.at (j:Int)=l0[j]:=by rw [aX hj];rw [List.drop_eq_getElem_cons hj,List.drop_eq_getElem_cons hj0] at h3;exact (List.cons.inj h3).1
   have h3':r.l.drop (j+1)=l0.drop (j+1):=by rw [List.drop_eq_getElem_cons hj,List.drop_eq_getElem_cons hj0] at h3;exact (List.cons.inj h3).2
   by_cases he:(r.at (j:Int)).n=t
   ·obtain⟨n,r',q1,q2,q3,ih⟩:=Ac r0 t l0 hl hn y2 y3 y4 y5 y6 y7 y8 y9 qH qG qF m i (j+1) r hr (by omega) (by omega) h3' (by rw [CJ hj0,← hx,if_pos he,h4]);refine⟨n,r',q1,q2,q3,?_⟩;rw [aQ,U6];simp only [Ld,zz,c1,c2,he,w,hr,fin,ih]
   ·have c3: ¬((i:Int) < 0):=by omega
    have c4:(i:Int) < (l0.length:Int):=by omega
    have w2:=aY (n:=i) (by omega);have hs:fP r.l (i:Int) (.i (r.at (j:Int)).n)=r.l.set i l0[j]:=by rw [xK,hx,← hn _ (List.getElem_mem hj0)]
    obtain⟨n,r',q1,q2,q3,ih⟩:=Ac r0 t l0 hl hn y2 y3 y4 y5 y6 y7 y8 y9 qH qG qF m (i+1) (j+1) (dL (fP r.l (i:Int) (.i (r.at (j:Int)).n))) (by rw [aW,iH,hr]) (by omega) (by omega)
     (by rw [aW,hs,List.drop_set_of_lt (by omega),h3'])
     (by rw [aW,hs,List.take_succ_eq_append_getElem (by rw [List.length_set]; omega),List.take_set_of_le (Nat.le_refl _),List.getElem_set_self,h4,CJ hj0,← hx,if_neg he])
    refine⟨n,r',q1,q2,q3,?_⟩;rw [aQ,U6];simp only [Ld,zz,c1,c2,c3,c4,if_neg he,w,w2,hr,fin,ih]
theorem avP (r:D) (t:Int) (hl:r.l.length≤140737488351232) (hn: ∀x∈r.l,x= .i x.n):(wo t r.l=r.l∧∀y2 y3 y4 y5 y6 y7 y8 y9 qH qG qF:Int,L 12100 [enc r,t,y2,y3,y4,y5,y6,y7,y8,y9,qH,qG,qF]=some [0,enc r,t,y2,y3,y4,y5,y6,y7,y8,y9,qH,qG,qF])∨
 ∀y2 y3 y4 y5 y6 y7 y8 y9 qH qG qF:Int,∃(n:Nat) (r':D),n < r.l.length∧r'.l.length=r.l.length∧r'.l.take n=wo t r.l∧L 12100 [enc r,t,y2,y3,y4,y5,y6,y7,y8,y9,qH,qG,qF]=some [1,enc r,t,y2,y3,y4,y5,y6,y7,y8,y9,qH,qG,qF,(n:Int),enc r',(r.l.length:Int)]:=by
 have h:=atM r t hl;rcases sF r t with ⟨hp,hno⟩ | ⟨i,hi,hp,hat,hno⟩
 ·refine .inl ⟨JR hno,fun y2 y3 y4 y5 y6 y7 y8 y9 qH qG qF=>?_⟩;have h':=h y2 y3 y4 y5 y6 y7 y8 y9 qH qG qF;clear h;rw [hp] at h';rw [aQ,ZG,TA,dP,if_pos,dP,if_pos,dP,if_pos]
  ·simp only [jL,List.map,bK,aP,aH,aN,Nat.reduceLT,fin]
  ·simp only [Qnf,iI,bK,gB,iE,List.map,aP,Nat.reduceLT,aH,aN];rw [h'];simp only [aH,aN,Option.isSome_some,Option.getD_some,if_true]
  ·simp only [iI,bK,gB,iE,List.map,aP,Nat.reduceLT,aH,aN];rw [h'];simp only [aH,aN,Option.isSome_some,Option.getD_some,if_true]
  ·simp only [iI,bK,gB,iE,List.map,aP,Nat.reduceLT,aH,aN];rw [h'];simp only [aH,aN,Option.isSome_some,Option.getD_some,if_true]
 ·refine .inr fun y2 y3 y4 y5 y6 y7 y8 y9 qH qG qF=>?_;have h':=h y2 y3 y4 y5 y6 y7 y8 y9 qH qG qF;clear h;rw [hp] at h';have w:=aY (n:=i) (by omega);have h0:r.l.take i=wo t (r.l.take (i+1)):=by rw [CJ hi,if_pos hat,JR hno]
  obtain⟨n,r',q1,q2,q3,ih⟩:=Ac r t r.l hl hn y2 y3 y4 y5 y6 y7 y8 y9 qH qG qF (r.l.length - (i+1)) i (i+1) r rfl (by omega) (by omega) rfl h0;refine⟨n,r',q1,q2,q3,?_⟩;rw [aQ,ZG,TA,dP,if_pos,dP,if_pos,dP,if_neg]
  ·simp only [nZ,List.map,Qnf,bK,gB,BR,den_add,aP,aH,aN,Nat.reduceLT];rw [h'];simp only [aH,aN,Option.getD_some,w,fin];rw [ih]
  ·simp only [Qnf,iI,bK,gB,iE,List.map,aP,Nat.reduceLT,aH,aN];rw [h'];simp only [aH,aN,Option.isSome_some,Option.getD_some,if_true];omega
  ·simp only [iI,bK,gB,iE,List.map,aP,Nat.reduceLT,aH,aN];rw [h'];simp only [aH,aN,Option.isSome_some,Option.getD_some,if_true]
  ·simp only [iI,bK,gB,iE,List.map,aP,Nat.reduceLT,aH,aN];rw [h'];simp only [aH,aN,Option.isSome_some,Option.getD_some,if_true]
theorem avO (r:D) (t:Int): ∀y2 y3 y4 y5 y6 y7 y8 y9 qH qG qF:Int,L 12200 [enc r,t,y2,y3,y4,y5,y6,y7,y8,y9,qH,qG,qF]=some [0,enc r,t,y2,y3,y4,y5,y6,y7,y8,y9,qH,qG,qF]:=by
 intro y2 y3 y4 y5 y6 y7 y8 y9 qH qG qF
 have h:L 12250 [enc r,t,y2,y3,y4,y5,y6,y7,y8,y9,qH,qG,qF]=some [0,enc r,t,y2,y3,y4,y5,y6,y7,y8,y9,qH,qG,qF]:=by rw [aQ,apN];simp only [Yv,zz,fin];rw [aQ,apM];simp only [Yu,zz,fin]
 have h':=h;clear h;rw [aQ,apO,Yw,dP,if_pos,dP,if_pos]
 ·simp only [jL,List.map,bK,aP,aH,aN,Nat.reduceLT,fin]
 ·simp only [iI,bK,gB,iE,List.map,aP,Nat.reduceLT,aH,aN];rw [h'];simp only [aH,aN,Option.isSome_some,Option.getD_some,if_true]
 ·simp only [iI,bK,gB,iE,List.map,aP,Nat.reduceLT,aH,aN];rw [h'];simp only [aH,aN,Option.isSome_some,Option.getD_some,if_true]
theorem avN (r:D) (t:Int): ∀y2 y3 y4 y5 y6 y7 y8 y9 qH qG qF:Int,L 12300 [enc r,t,y2,y3,y4,y5,y6,y7,y8,y9,qH,qG,qF]=some [0,enc r,t,y2,y3,y4,y5,y6,y7,y8,y9,qH,qG,qF]:=by
 intro y2 y3 y4 y5 y6 y7 y8 y9 qH qG qF
 have h:L 12350 [enc r,t,y2,y3,y4,y5,y6,y7,y8,y9,qH,qG,qF]=some [0,enc r,t,y2,y3,y4,y5,y6,y7,y8,y9,qH,qG,qF]:=by rw [aQ,apK];simp only [Yr,zz,fin];rw [aQ,apJ];simp only [Yq,zz,fin]
 have h':=h;clear h;rw [aQ,apL,Yt,dP,if_pos,dP,if_pos]
 ·simp only [jL,List.map,bK,aP,aH,aN,Nat.reduceLT,fin]
 ·simp only [iI,bK,gB,iE,List.map,aP,Nat.reduceLT,aH,aN];rw [h'];simp only [aH,aN,Option.isSome_some,Option.getD_some,if_true]
 ·simp only [iI,bK,gB,iE,List.map,aP,Nat.reduceLT,aH,aN];rw [h'];simp only [aH,aN,Option.isSome_some,Option.getD_some,if_true]
end Go.As.Try
end
section
namespace Go.As.Try
open Go hiding Stat Spec shape
open Go.As
set_option maxRecDepth 100000
abbrev Mx (d0:D) (obj:Int):Int:=((d0.at obj).hd 2).n
abbrev Mo (d0 s:D) (obj:Int):Int:=((s.at ((d0.at obj).hd 2).n).hd 0).n
inductive Act where
 | blk
 | mis
 | res (o c dn g:Int) (r v:D) (m:Option Int) (a oc:Int)
def act (M mo th op arg tries o c dn g:Int) (r v:D):Act:=
 if op=1 then (if o=th then .mis else if place r th < 0 then (if o < 0 then .res th c dn g r v none 0 2 else .blk) else .mis)
 else if op=2 then (if o=th then .res (-1) c dn g r v none 0 2 else .mis)
 else if op=8 then (if o=th then .res (-1) c dn g r v none 0 2 else .mis)
 else if op=3 then (if o < 0 then .res th c dn g r v none 1 2 else .res o c dn g r v none 0 2)
 else if op=4 then (if o < 0 then .res th c dn g r v none 1 2 else if tries < arg then .blk else .res o c dn g r v none 0 2)
 else if op=5 then (if o=th then .mis else if place r th < 0 then (if o < 0 then .res o c dn g (dL (r.l++ [.i th])) v none 0 2 else .blk) else .mis)
 else if op=6 then (if place r th < 0 then .mis else .res o c dn g (gV (.i 2) (r.l.take (place r th).toNat++r.l.drop ((place r th).toNat+1))) v none 0 2)
 else if op=7 then (if o=th then .mis else if place r th < 0 then (if (r.l.length:Int)=0 then (if o < 0 then .res th c dn g r v none 0 2 else .blk) else .blk) else .mis)
 else if op=9 then (if 0 < c then .res o (IntKind.i64.wrap (c - 1)) dn g r v none 0 2 else .blk)
 else if op=11 then (if 0 < c then .res o (IntKind.i64.wrap (c - 1)) dn g r v none 1 2 else .res o c dn g r v none 0 2)
 else if op=10 then (if c < M then .res o (IntKind.i64.wrap (c+1)) dn g r v none 0 2 else .mis)
 else if op=17 then (if arg < IntKind.i64.wrap (0 - c) then .mis else if IntKind.i64.wrap (1099511627776 - c) < arg then .mis else .res o (IntKind.i64.wrap (c+arg)) dn g r v none (IntKind.i64.wrap (c+arg)) 2)
 else if op=18 then (if 0 < c then .res o (IntKind.i64.wrap (c - 1)) dn g r v none (IntKind.i64.wrap (c - 1)) 2 else .mis)
 else if op=19 then (if c=0 then .res o c dn g r v none 0 2 else .blk)
 else if op=22 then .res o c dn g r v none c 2
 else if op=23 then .res o arg dn g r v none arg 2
 else if op=20 then (if (v.l.length:Int) < M then .res o c dn g r (dL (v.l++ [.i arg])) none arg 2 else .blk)
 else if op=21 then (if (v.l.length:Int)=0 then .blk else .res o c dn g r (gV v (v.l.drop 1)) none (v.at 0).n 2)
 else if op=12 then (if mo=th then .res o c dn g (dL (wo th r.l++ [.i th])) v (some (-1)) 0 3 else .mis)
 else if op=13 then (if (r.l.length:Int)=0 then .res o c dn g r v none 0 2 else .res o c dn g (gV r (r.l.drop 1)) v none (IntKind.i64.wrap ((r.at 0).n+1)) 2)
 else if op=14 then .res o c dn g (.i 1) v none (r.l.length:Int) 2
 else if op=24 then (if place r th < 0 then (if mo < 0 then .res o c dn g r v (some th) 0 2 else .blk) else .blk)
 else if op=15 then (if g < 4611686018427387904 then (if IntKind.i64.wrap (c+1)=M then .res o 0 dn (IntKind.i64.wrap (g+1)) r v none g 3 else .res o (IntKind.i64.wrap (c+1)) dn g r v none g 3) else .mis)
 else if op=25 then (if arg < g then .res o c dn g r v none arg 2 else .blk)
 else if op=16 then (if dn=0 then (if o=th then .mis else if o < 0 then .res th c dn g r v none 1 2 else .blk) else .res o c dn g r v none 0 2)
 else (if o=th then .res (-1) c 1 g r v none 0 2 else .mis)
def Ey (s:D) (obj M:Int):Act→D
 | .res o c dn g r v m _ _=>dL (fP (match m with | none=>s.l | some q=>fP s.l M (dL (fP (s.at M).l 0 (.i q)))) obj (dL [.i o,.i c,.i (if dn=0 then 0 else 1),.i g,r,v]))
 | _=>s
def outA (s:D) (th op obj M:Int):Act→List Int
 | .blk=>[enc s,0,0,0,0,0,0]
 | .mis=>[enc s,th,27,obj,IntKind.i64.wrap op,0,2]
 | .res o c dn g r v m a oc=>[enc (Ey s obj M (.res o c dn g r v m a oc)),th,op,obj,a,0,oc]
structure TH (d0 d1 s:D) (th op obj arg tries o c dn g:Int) (r v:D):Prop where
 hcp:L 9000 [obj,enc s]=some [oP r v,obj,enc s,o,c,dn,g,enc r,enc v]
 iY:L 550 [enc s]=some [enc s]
 hR:L 350 [enc d0,enc d1,enc s]=some [1]
 F8:0≤th
 F7:th < (d1.l.length:Int)
 BI:0≤obj
 BH:obj < (s.l.length:Int)
 hlen:s.l.length=d0.l.length
 hk:L 600 [op]=some [((d0.at obj).hd 0).n]
 hr:(r.l.length:Int) < 17592186044415
 hv:(v.l.length:Int) < 17592186044415
 hn: ∀x∈r.l,x= .i x.n
 hM:op=12∨op=24→0≤((d0.at obj).hd 2).n∧((d0.at obj).hd 2).n < (s.l.length:Int)∧((d0.at obj).hd 2).n≠obj
theorem TH.hb {d0 d1 s:D} {th op obj arg tries o c dn g:Int} {r v:D} (H:TH d0 d1 s th op obj arg tries o c dn g r v):r.l.length≤140737488351232:=by have:=H.hr; omega
noncomputable abbrev dG (d0 d1 s:D) (th op obj arg tries:Int):Nat→Int:=bM L (low [enc d0,enc d1,enc s,th,op,obj,arg,tries])
abbrev aZ (k:Nat):SE:=rr 9000 [.aO 5,.aO 2] k
abbrev YV:SE:=nm (ce 2 (el (.aO 0) (.aO 5)))
abbrev kK:SE:=rr 850 [aZ 7,.aO 3] 0
abbrev aeP (q:SE):SE:=.op .set (aZ 2) (cn (mk YV) (.op .set (el (aZ 2) YV) (cn (.dat (.i 0)) q)))
abbrev xE:List SE:=[aZ 7,.aO 3,.aO 5,YV,aeP (.dat (.i (-1))),.aO 4,.aO 6,.aO 7,aZ 3,aZ 4,aZ 5,aZ 6,aZ 8]
abbrev thg (o c d g r v:SE):SE:=cn (mk (.aO 5)) (cn o (cn c (cn d (cn g (cn r (cn v (.dat (.i 0))))))))
abbrev wS:T Lf:=ou [rr 550 [.aO 2] 0,.aO 3,.lit 27,.aO 5,wr (.aO 4),.lit 0,.lit 2]
abbrev DL:T Lf:=ou [rr 550 [.aO 2] 0,.lit 0,.lit 0,.lit 0,.lit 0,.lit 0,.lit 0]
abbrev lQ (z o c d g r v a:SE) (oc:Int):T Lf:=ou [.op .set z (thg o c d g r v),.aO 3,.aO 4,.aO 5,a,.lit 0,.lit oc]
theorem C9 {r:D} (h:r.l= []) (t:Int):place r t= -1:=by unfold place; rw [h]; rfl
theorem azV {r:D} (h:r.l= []) (t:Int):wo t r.l= []:=by rw [h]; rfl
theorem alt3 {r v:D} (h:0 < r.l.length) (h':0 < v.l.length):oP r v=3:=by simp [oP,h,h']
theorem aE5 {r v:D} (h:0 < r.l.length) (h':v.l= []):oP r v=4:=by simp [oP,h,h']
theorem aE4 {r v:D} (h:r.l= []) (h':0 < v.l.length):oP r v=5:=by simp [oP,h,h']
theorem aE3 {r v:D} (h:r.l= []) (h':v.l= []):oP r v=6:=by simp [oP,h,h']
abbrev Gl (d0 s:D) (th op obj arg tries o c dn g:Int) (r v:D):RS:=.out (outA s th op obj (Mx d0 obj) (act (Mx d0 obj) (Mo d0 s obj) th op arg tries o c dn g r v))
theorem dF (s:D) (th op obj M:Int):outA s th op obj M .blk= [enc s,0,0,0,0,0,0]:=rfl
theorem dD (s:D) (th op obj M:Int):outA s th op obj M .mis= [enc s,th,27,obj,IntKind.i64.wrap op,0,2]:=rfl
theorem bQ (s:D) (th op obj M o c dn g:Int) (r v:D) (a oc:Int):outA s th op obj M (.res o c dn g r v none a oc)= [enc (dL (fP s.l obj (dL [.i o,.i c,.i (if dn=0 then 0 else 1),.i g,r,v]))),th,op,obj,a,0,oc]:=rfl
theorem bP (s:D) (th op obj M o c dn g:Int) (r v:D) (q a oc:Int):outA s th op obj M (.res o c dn g r v (some q) a oc)= [enc (dL (fP (fP s.l M (dL (fP (s.at M).l 0 (.i q)))) obj (dL [.i o,.i c,.i (if dn=0 then 0 else 1),.i g,r,v]))),th,op,obj,a,0,oc]:=rfl
section
variable {s:D} {th op obj M:Int}
theorem eX {c:Prop} [Decidable c] {a b:Act}:RS.out (outA s th op obj M (if c then a else b))=if c then RS.out (outA s th op obj M a) else RS.out (outA s th op obj M b):=by split <;> rfl
end
theorem AQ {p:Prop} [Decidable p]:((if p then (0:Int) else 1)=0)=p:=by by_cases h:p <;> simp [h]
theorem kP (l:List D):l= []∨0 < l.length:=by cases l <;> simp
theorem z2 {ρ:Nat→Int} {a b c d:List SB} (h:zY ρ a∧zW ρ b) (h':zY ρ c∧zW ρ d):zY ρ (a++c)∧zW ρ (b++d):=⟨ahD h.1 h'.1,ahG h.2 h'.2⟩
end Go.As.Try
end
section
namespace Go.As.Try
open Go hiding Stat Spec shape
open Go.As
set_option maxRecDepth 100000
abbrev bt:SE:=.op .bit (mk (aZ 5)) (.lit 0)
abbrev kW:SE:=wr (.add kK (.lit 1))
abbrev kL:SE:=.sub (ln (aZ 7)) kW
abbrev kD:SE:=.add kK kL
abbrev kC:SE:=.op .cat (.op .cat (.op .take (aZ 7) kK) (.op .drop (.op .take (aZ 7) (.add kW kL)) kW)) (.op .drop (aZ 7) kD)
abbrev kF:SE:=.op .fill kC (cn (mk kD) (.dat (.i 0)))
section
variable {d0 d1 s r v:D} {th op obj arg tries o c dn g:Int}
abbrev YG:List SB:=[.eq (a0 9000 [.aO 5,.aO 2]) (.lit 1),.eq (a0 350 [.aO 0,.aO 1,.aO 2]) (.lit 1),.eq (a0 600 [.aO 4]) (.lit 1),.eq (a0 550 [.aO 2]) (.lit 1),.eq (a0 900 [aZ 7,.aO 3]) (.lit 1),.eq (a0 850 [aZ 7,.aO 3]) (.lit 1),.lt (.aO 3) (ln (.aO 1)),.lt (.aO 5) (ln (.aO 0)),.lt (.aO 5) (ln (aZ 2)),.eq (rr 600 [.aO 4] 0) (nm (ce 0 (el (.aO 0) (.aO 5)))),.lt (ln (aZ 7)) (.lit 17592186044415),.lt (ln (aZ 8)) (.lit 17592186044415)]
abbrev NG:List SB:=[.lt (.aO 5) (.lit 0),.eq (rr 350 [.aO 0,.aO 1,.aO 2] 0) (.lit 0),.lt (.aO 3) (.lit 0),.lt (ln (aZ 7)) (ln (aZ 7)),.lt (ln (aZ 8)) (.add (.lit 1) (.sub (ln (aZ 8)) (.lit 1))),.lt (ln (aZ 7)) (.add (.lit 1) (.sub (ln (aZ 7)) (.lit 1)))]
theorem fG (H:TH d0 d1 s th op obj arg tries o c dn g r v):zY (dG d0 d1 s th op obj arg tries) YG∧zW (dG d0 d1 s th op obj arg tries) NG:=by have hb:=H.hb;have h1:=H.F8; have h2:=H.F7; have h3:=H.BI; have h4:=H.BH; have h5:=H.hlen; have h6:=H.hr; have h7:=H.hv; have hp:=iK r th;simp only [zz,H.hcp,H.iY,H.hR,H.hk,has_is r th hb,dK r th hb] <;> omega
abbrev YA3:List SB:=[.eq (aZ 0) (.lit 3)]
abbrev NA3:List SB:=[.eq (aZ 0) (.lit 0),.eq (aZ 0) (.lit 1),.eq (aZ 0) (.lit 2),.eq (aZ 0) (.lit 4),.eq (aZ 0) (.lit 5),.eq (aZ 0) (.lit 6),.lt (.sub (ln (aZ 7)) (.lit 1)) (.lit 0),.lt (.sub (ln (aZ 8)) (.lit 1)) (.lit 0)]
theorem fA3 (H:TH d0 d1 s th op obj arg tries o c dn g r v) (hr:0 < r.l.length) (hv:0 < v.l.length):zY (dG d0 d1 s th op obj arg tries) YA3∧zW (dG d0 d1 s th op obj arg tries) NA3:=by have hb:=H.hb;have h1:=H.F8; have h2:=H.F7; have h3:=H.BI; have h4:=H.BH; have h5:=H.hlen; have h6:=H.hr; have h7:=H.hv; have hp:=iK r th;simp only [zz,H.hcp,H.iY,H.hR,H.hk,has_is r th hb,dK r th hb,alt3 hr hv] <;> omega
abbrev YA4:List SB:=[.eq (aZ 0) (.lit 4)]
abbrev NA4:List SB:=[.eq (aZ 0) (.lit 0),.eq (aZ 0) (.lit 1),.eq (aZ 0) (.lit 2),.eq (aZ 0) (.lit 3),.eq (aZ 0) (.lit 5),.eq (aZ 0) (.lit 6),.lt (.sub (ln (aZ 7)) (.lit 1)) (.lit 0)]
theorem fA4 (H:TH d0 d1 s th op obj arg tries o c dn g r v) (hr:0 < r.l.length) (hv:v.l= []):zY (dG d0 d1 s th op obj arg tries) YA4∧zW (dG d0 d1 s th op obj arg tries) NA4:=by have hb:=H.hb;have h1:=H.F8; have h2:=H.F7; have h3:=H.BI; have h4:=H.BH; have h5:=H.hlen; have h6:=H.hr; have h7:=H.hv; have hp:=iK r th;simp only [zz,H.hcp,H.iY,H.hR,H.hk,has_is r th hb,dK r th hb,aE5 hr hv] <;> omega
abbrev YA5:List SB:=[.eq (aZ 0) (.lit 5),.lt kK (.lit 0)]
abbrev NA5:List SB:=[.eq (aZ 0) (.lit 0),.eq (aZ 0) (.lit 1),.eq (aZ 0) (.lit 2),.eq (aZ 0) (.lit 3),.eq (aZ 0) (.lit 4),.eq (aZ 0) (.lit 6),.lt (.sub (ln (aZ 8)) (.lit 1)) (.lit 0)]
theorem fA5 (H:TH d0 d1 s th op obj arg tries o c dn g r v) (hr:r.l= []) (hv:0 < v.l.length):zY (dG d0 d1 s th op obj arg tries) YA5∧zW (dG d0 d1 s th op obj arg tries) NA5:=by have hb:=H.hb;have h1:=H.F8; have h2:=H.F7; have h3:=H.BI; have h4:=H.BH; have h5:=H.hlen; have h6:=H.hr; have h7:=H.hv; have hp:=iK r th;simp only [zz,H.hcp,H.iY,H.hR,H.hk,has_is r th hb,dK r th hb,aE4 hr hv,C9 hr] <;> omega
abbrev YA6:List SB:=[.eq (aZ 0) (.lit 6),.lt kK (.lit 0)]
abbrev NA6:List SB:=[.eq (aZ 0) (.lit 0),.eq (aZ 0) (.lit 1),.eq (aZ 0) (.lit 2),.eq (aZ 0) (.lit 3),.eq (aZ 0) (.lit 4),.eq (aZ 0) (.lit 5)]
theorem fA6 (H:TH d0 d1 s th op obj arg tries o c dn g r v) (hr:r.l= []) (hv:v.l= []):zY (dG d0 d1 s th op obj arg tries) YA6∧zW (dG d0 d1 s th op obj arg tries) NA6:=by have hb:=H.hb;have h1:=H.F8; have h2:=H.F7; have h3:=H.BI; have h4:=H.BH; have h5:=H.hlen; have h6:=H.hr; have h7:=H.hv; have hp:=iK r th;simp only [zz,H.hcp,H.iY,H.hR,H.hk,has_is r th hb,dK r th hb,aE3 hr hv,C9 hr] <;> omega
abbrev YM:List SB:=[.lt YV (ln (aZ 2))]
abbrev NM:List SB:=[.lt YV (.lit 0),.eq YV (.aO 5)]
theorem fM (H:TH d0 d1 s th op obj arg tries o c dn g r v) (ho:op=12∨op=24):zY (dG d0 d1 s th op obj arg tries) YM∧zW (dG d0 d1 s th op obj arg tries) NM:=by have hb:=H.hb;have h1:=H.F8; have h2:=H.F7; have h3:=H.BI; have h4:=H.BH; have h5:=H.hlen; have h6:=H.hr; have h7:=H.hv; have hp:=iK r th; have hm:=H.hM ho;simp only [zz,H.hcp,H.iY,H.hR,H.hk,has_is r th hb,dK r th hb] <;> omega
abbrev YK0:List SB:=[.lt kK (.lit 0)]
abbrev NK0:List SB:=[]
theorem fK0 (H:TH d0 d1 s th op obj arg tries o c dn g r v) (hk:place r th < 0):zY (dG d0 d1 s th op obj arg tries) YK0∧zW (dG d0 d1 s th op obj arg tries) NK0:=by have hb:=H.hb;have h1:=H.F8; have h2:=H.F7; have h3:=H.BI; have h4:=H.BH; have h5:=H.hlen; have h6:=H.hr; have h7:=H.hv; have hp:=iK r th;simp only [zz,H.hcp,H.iY,H.hR,H.hk,has_is r th hb,dK r th hb] <;> omega
abbrev YK1:List SB:=[.lt kD (ln (aZ 7)),.eq (.add kD (.sub (ln (aZ 7)) kD)) (ln kC)]
abbrev NK1:List SB:=[.lt kK (.lit 0),.lt kW kK,.lt (ln (aZ 7)) kW,.eq kK kW,.lt (ln (aZ 7)) kK,.lt kW (.lit 0),.lt kL (.lit 0),.lt (ln (aZ 7)) (.add kW kL),.lt (ln (aZ 7)) kD,.lt kD (.lit 0),.lt (ln kC) (ln (aZ 7)),.lt (.sub (ln (aZ 7)) kD) (.lit 0),.lt (ln kF) kD]
theorem fK1 (H:TH d0 d1 s th op obj arg tries o c dn g r v) (hk: ¬place r th < 0):zY (dG d0 d1 s th op obj arg tries) YK1∧zW (dG d0 d1 s th op obj arg tries) NK1:=by have hb:=H.hb;have h1:=H.F8; have h2:=H.F7; have h3:=H.BI; have h4:=H.BH; have h5:=H.hlen; have h6:=H.hr; have h7:=H.hv; have hp:=iK r th; have hw:IntKind.i64.wrap (place r th+1)=place r th+1:=pJ (by omega) (by omega);simp only [zz,H.hcp,H.iY,H.hR,H.hk,has_is r th hb,dK r th hb,iO,aW,List.length_append,List.length_take,List.length_drop,List.length_replicate,hw] <;> omega
abbrev dA (d0 s r v:D) (th op obj arg tries o c dn g:Int):List Int:=[enc r,th,obj,Mx d0 obj,enc (dL (fP s.l (Mx d0 obj) (dL (fP (s.at (Mx d0 obj)).l 0 (.i (-1)))))),op,arg,tries,o,c,dn,g,enc v]
abbrev aFa:List SB:=[.eq (a0 12000 xE) (.lit 1),.eq (rr 12000 xE 0) (.lit 0)]
abbrev aFg:List SB:=[]
theorem aEZ (H:TH d0 d1 s th op obj arg tries o c dn g r v) (hd:L 12000 (dA d0 s r v th op obj arg tries o c dn g)=some (0 :: (dA d0 s r v th op obj arg tries o c dn g))):zY (dG d0 d1 s th op obj arg tries) aFa∧zW (dG d0 d1 s th op obj arg tries) aFg:=by have hb:=H.hb;have h1:=H.F8; have h2:=H.F7; have h3:=H.BI; have h4:=H.BH; have h5:=H.hlen; have h6:=H.hr; have h7:=H.hv; have hp:=iK r th;simp only [zz,H.hcp,H.iY,H.hR,H.hk,has_is r th hb,dK r th hb,hd] <;> omega
abbrev aFb:List SB:=[.eq (a0 12000 xE) (.lit 1),.eq (rr 12000 xE 0) (.lit 1)]
abbrev aFh:List SB:=[.eq (rr 12000 xE 0) (.lit 0),.lt (rr 12000 xE 14) (.lit 0),.lt (ln (rr 12000 xE 15)) (.add (rr 12000 xE 14) (.lit 1)),.lt (.add (rr 12000 xE 14) (.lit 1)) (.lit 0),.lt (ln (.op .cat (.op .cat (.op .take (rr 12000 xE 15) (rr 12000 xE 14)) (.op .snoc (.dat (.i 0)) (mk (.aO 3)))) (.op .drop (rr 12000 xE 15) (.add (rr 12000 xE 14) (.lit 1))))) (.add (rr 12000 xE 14) (.lit 1))]
theorem aE0 (H:TH d0 d1 s th op obj arg tries o c dn g r v) {n:Nat} {r1:D} (hn:n < r.l.length) (hl:r1.l.length=r.l.length) (hd:L 12000 (dA d0 s r v th op obj arg tries o c dn g)=some (1 :: ((dA d0 s r v th op obj arg tries o c dn g)++ [(n:Int),enc r1,(r.l.length:Int)]))):zY (dG d0 d1 s th op obj arg tries) aFb∧zW (dG d0 d1 s th op obj arg tries) aFh:=by have hb:=H.hb;have h1:=H.F8; have h2:=H.F7; have h3:=H.BI; have h4:=H.BH; have h5:=H.hlen; have h6:=H.hr; have h7:=H.hv; have hp:=iK r th;simp only [zz,H.hcp,H.iY,H.hR,H.hk,has_is r th hb,dK r th hb,hd,iO,aW,AP,List.cons_append,List.nil_append,List.length_append,List.length_take,List.length_drop,List.length_cons,List.length_nil] <;> omega
abbrev aE8:List SB:=[.eq (a0 12100 xE) (.lit 1),.eq (rr 12100 xE 0) (.lit 0)]
abbrev aFe:List SB:=[]
theorem aEX (H:TH d0 d1 s th op obj arg tries o c dn g r v) (hd:L 12100 (dA d0 s r v th op obj arg tries o c dn g)=some (0 :: (dA d0 s r v th op obj arg tries o c dn g))):zY (dG d0 d1 s th op obj arg tries) aE8∧zW (dG d0 d1 s th op obj arg tries) aFe:=by have hb:=H.hb;have h1:=H.F8; have h2:=H.F7; have h3:=H.BI; have h4:=H.BH; have h5:=H.hlen; have h6:=H.hr; have h7:=H.hv; have hp:=iK r th;simp only [zz,H.hcp,H.iY,H.hR,H.hk,has_is r th hb,dK r th hb,hd] <;> omega
abbrev aE9:List SB:=[.eq (a0 12100 xE) (.lit 1),.eq (rr 12100 xE 0) (.lit 1)]
abbrev aFf:List SB:=[.eq (rr 12100 xE 0) (.lit 0),.lt (rr 12100 xE 14) (.lit 0),.lt (ln (rr 12100 xE 15)) (.add (rr 12100 xE 14) (.lit 1)),.lt (.add (rr 12100 xE 14) (.lit 1)) (.lit 0),.lt (ln (.op .cat (.op .cat (.op .take (rr 12100 xE 15) (rr 12100 xE 14)) (.op .snoc (.dat (.i 0)) (mk (.aO 3)))) (.op .drop (rr 12100 xE 15) (.add (rr 12100 xE 14) (.lit 1))))) (.add (rr 12100 xE 14) (.lit 1))]
theorem aEY (H:TH d0 d1 s th op obj arg tries o c dn g r v) {n:Nat} {r1:D} (hn:n < r.l.length) (hl:r1.l.length=r.l.length) (hd:L 12100 (dA d0 s r v th op obj arg tries o c dn g)=some (1 :: ((dA d0 s r v th op obj arg tries o c dn g)++ [(n:Int),enc r1,(r.l.length:Int)]))):zY (dG d0 d1 s th op obj arg tries) aE9∧zW (dG d0 d1 s th op obj arg tries) aFf:=by have hb:=H.hb;have h1:=H.F8; have h2:=H.F7; have h3:=H.BI; have h4:=H.BH; have h5:=H.hlen; have h6:=H.hr; have h7:=H.hv; have hp:=iK r th;simp only [zz,H.hcp,H.iY,H.hR,H.hk,has_is r th hb,dK r th hb,hd,iO,aW,AP,List.cons_append,List.nil_append,List.length_append,List.length_take,List.length_drop,List.length_cons,List.length_nil] <;> omega
abbrev aE7:List SB:=[.eq (a0 12200 xE) (.lit 1),.eq (rr 12200 xE 0) (.lit 0)]
abbrev aFd:List SB:=[]
theorem aEW (H:TH d0 d1 s th op obj arg tries o c dn g r v) (hd:L 12200 (dA d0 s r v th op obj arg tries o c dn g)=some (0 :: (dA d0 s r v th op obj arg tries o c dn g))):zY (dG d0 d1 s th op obj arg tries) aE7∧zW (dG d0 d1 s th op obj arg tries) aFd:=by have hb:=H.hb;have h1:=H.F8; have h2:=H.F7; have h3:=H.BI; have h4:=H.BH; have h5:=H.hlen; have h6:=H.hr; have h7:=H.hv; have hp:=iK r th;simp only [zz,H.hcp,H.iY,H.hR,H.hk,has_is r th hb,dK r th hb,hd] <;> omega
abbrev aE6:List SB:=[.eq (a0 12300 xE) (.lit 1),.eq (rr 12300 xE 0) (.lit 0)]
abbrev aFc:List SB:=[]
theorem aEV (H:TH d0 d1 s th op obj arg tries o c dn g r v) (hd:L 12300 (dA d0 s r v th op obj arg tries o c dn g)=some (0 :: (dA d0 s r v th op obj arg tries o c dn g))):zY (dG d0 d1 s th op obj arg tries) aE6∧zW (dG d0 d1 s th op obj arg tries) aFc:=by have hb:=H.hb;have h1:=H.F8; have h2:=H.F7; have h3:=H.BI; have h4:=H.BH; have h5:=H.hlen; have h6:=H.hr; have h7:=H.hv; have hp:=iK r th;simp only [zz,H.hcp,H.iY,H.hR,H.hk,has_is r th hb,dK r th hb,hd] <;> omega
end
end Go.As.Try
end
section
namespace Go.As.Try
open Go hiding Stat Spec shape
open Go.As
set_option maxRecDepth 100000
theorem Oj (l m:List D):gV (dL l) m=gV (.i 2) m:=by
 cases m with
 | cons a m=>rfl
 | nil=>cases l <;> rfl
theorem aaE (d:D) (h:0 < d.l.length):gV (gV d (d.l.take (1+((d.l.length:Int) - 1)).toNat)) ((gV d (d.l.take (1+((d.l.length:Int) - 1)).toNat)).l.drop (1:Int).toNat)=gV d (d.l.drop 1):=by rw [ER (fun e=>by rw [e]; rfl),iO,List.take_of_length_le (by omega)];rfl
theorem aBT (l:List D) (k:Nat) (hk:k < l.length) (R B:List D):((l.take k++(l.take l.length).drop (k+1)++B).take (l.length - 1)++R).take (l.length - 1)=l.take k++l.drop (k+1)∨B.length=0:=by
 by_cases hB:B.length=0
 ·exact .inr hB
 ·left;have e:(l.take k++(l.take l.length).drop (k+1)).length=l.length - 1:=by simp only [List.length_append,List.length_take,List.length_drop]; omega
  rw [List.take_append_of_le_length (by rw [List.length_take,List.length_append,e]; omega),List.take_take,Nat.min_self,List.take_append_of_le_length (by omega),List.take_of_length_le (by omega),List.take_length]
section
variable {d0 d1 s r v:D} {th op obj arg tries o c dn g:Int}
abbrev zt0:T Lf:=(sp (.eq (aZ 3) (.aO 3)) wS (sp (.eq (rr 900 [aZ 7,.aO 3] 0) (.lit 0)) (sp (.lt (aZ 3) (.lit 0)) (lQ (aZ 2) (mk (.aO 3)) (mk (aZ 4)) bt (mk (aZ 6)) (aZ 7) (aZ 8) (.lit 0) 2) DL) wS))
theorem sm0 (H:TH d0 d1 s th 1 obj arg tries o c dn g r v):dY (dG d0 d1 s th 1 obj arg tries) zt0=Gl d0 s th 1 obj arg tries o c dn g r v:=by
 have hb:=H.hb;simp only [zz,H.hcp,H.iY,H.hR,H.hk,has_is r th hb,dK r th hb,aK,AQ,eX,dF,dD,bQ,bP,dL,act,Int.reduceEq,Gl] <;> (repeat' split) <;> first | rfl | (exfalso; omega)
abbrev zt1:T Lf:=(sp (.eq (aZ 3) (.aO 3)) (lQ (aZ 2) (.dat (.i (-1))) (mk (aZ 4)) bt (mk (aZ 6)) (aZ 7) (aZ 8) (.lit 0) 2) wS)
theorem sm1 (H:TH d0 d1 s th 2 obj arg tries o c dn g r v):dY (dG d0 d1 s th 2 obj arg tries) zt1=Gl d0 s th 2 obj arg tries o c dn g r v:=by
 have hb:=H.hb;simp only [zz,H.hcp,H.iY,H.hR,H.hk,has_is r th hb,dK r th hb,aK,AQ,eX,dF,dD,bQ,bP,dL,act,Int.reduceEq,Gl] <;> (repeat' split) <;> first | rfl | (exfalso; omega)
theorem sm2 (H:TH d0 d1 s th 8 obj arg tries o c dn g r v):dY (dG d0 d1 s th 8 obj arg tries) zt1=Gl d0 s th 8 obj arg tries o c dn g r v:=by
 have hb:=H.hb;simp only [zz,H.hcp,H.iY,H.hR,H.hk,has_is r th hb,dK r th hb,aK,AQ,eX,dF,dD,bQ,bP,dL,act,Int.reduceEq,Gl] <;> (repeat' split) <;> first | rfl | (exfalso; omega)
abbrev zt2:T Lf:=(sp (.lt (aZ 3) (.lit 0)) (lQ (aZ 2) (mk (.aO 3)) (mk (aZ 4)) bt (mk (aZ 6)) (aZ 7) (aZ 8) (.lit 1) 2) (lQ (aZ 2) (mk (aZ 3)) (mk (aZ 4)) bt (mk (aZ 6)) (aZ 7) (aZ 8) (.lit 0) 2))
theorem sm3 (H:TH d0 d1 s th 3 obj arg tries o c dn g r v):dY (dG d0 d1 s th 3 obj arg tries) zt2=Gl d0 s th 3 obj arg tries o c dn g r v:=by
 have hb:=H.hb;simp only [zz,H.hcp,H.iY,H.hR,H.hk,has_is r th hb,dK r th hb,aK,AQ,eX,dF,dD,bQ,bP,dL,act,Int.reduceEq,Gl] <;> (repeat' split) <;> first | rfl | (exfalso; omega)
abbrev zt3:T Lf:=(sp (.lt (aZ 3) (.lit 0)) (lQ (aZ 2) (mk (.aO 3)) (mk (aZ 4)) bt (mk (aZ 6)) (aZ 7) (aZ 8) (.lit 1) 2) (sp (.lt (.aO 7) (.aO 6)) DL (lQ (aZ 2) (mk (aZ 3)) (mk (aZ 4)) bt (mk (aZ 6)) (aZ 7) (aZ 8) (.lit 0) 2)))
theorem sm4 (H:TH d0 d1 s th 4 obj arg tries o c dn g r v):dY (dG d0 d1 s th 4 obj arg tries) zt3=Gl d0 s th 4 obj arg tries o c dn g r v:=by
 have hb:=H.hb;simp only [zz,H.hcp,H.iY,H.hR,H.hk,has_is r th hb,dK r th hb,aK,AQ,eX,dF,dD,bQ,bP,dL,act,Int.reduceEq,Gl] <;> (repeat' split) <;> first | rfl | (exfalso; omega)
abbrev zt4:T Lf:=(sp (.eq (aZ 3) (.aO 3)) wS (sp (.eq (rr 900 [aZ 7,.aO 3] 0) (.lit 0)) (sp (.lt (aZ 3) (.lit 0)) (lQ (aZ 2) (mk (aZ 3)) (mk (aZ 4)) bt (mk (aZ 6)) (.op .snoc (aZ 7) (mk (.aO 3))) (aZ 8) (.lit 0) 2) DL) wS))
theorem sm5 (H:TH d0 d1 s th 5 obj arg tries o c dn g r v) (hr:0 < r.l.length):dY (dG d0 d1 s th 5 obj arg tries) zt4=Gl d0 s th 5 obj arg tries o c dn g r v:=by
 have hb:=H.hb;simp only [zz,H.hcp,H.iY,H.hR,H.hk,has_is r th hb,dK r th hb,AP,List.nil_append,aK,AQ,eX,dF,dD,bQ,bP,dL,act,Int.reduceEq,Gl] <;> (repeat' split) <;> first | rfl | (exfalso; omega)
abbrev zt5:T Lf:=wS
theorem sm6 (H:TH d0 d1 s th 6 obj arg tries o c dn g r v) (hk:place r th < 0):dY (dG d0 d1 s th 6 obj arg tries) zt5=Gl d0 s th 6 obj arg tries o c dn g r v:=by
 have hb:=H.hb;simp only [zz,H.hcp,H.iY,H.hR,H.hk,has_is r th hb,dK r th hb,hk,aK,AQ,eX,dF,dD,bQ,bP,dL,act,Int.reduceEq,Gl] <;> (repeat' split) <;> first | rfl | (exfalso; omega)
abbrev zt6:T Lf:=(lQ (aZ 2) (mk (aZ 3)) (mk (aZ 4)) bt (mk (aZ 6)) (.op .take kF kD) (aZ 8) (.lit 0) 2)
theorem sm7 (H:TH d0 d1 s th 6 obj arg tries o c dn g r v) (hr:0 < r.l.length) (hk: ¬place r th < 0):dY (dG d0 d1 s th 6 obj arg tries) zt6=Gl d0 s th 6 obj arg tries o c dn g r v:=by
 have hb:=H.hb;rcases sF r th with ⟨hp,_⟩ | ⟨k,hkl,hp,_⟩
 ·exact absurd hk (by rw [hp]; omega)
 have hw:IntKind.i64.wrap ((k:Int)+1)=(k:Int)+1:=pJ (by omega) (by omega);have e1:((k:Int)+1+((r.l.length:Int) - ((k:Int)+1))).toNat=r.l.length:=by omega
 have e2:((k:Int)+((r.l.length:Int) - ((k:Int)+1))).toNat=r.l.length - 1:=by omega
 have e3:((k:Int)+1).toNat=k+1:=by omega
 have h0: ¬((k:Int) < 0):=by omega
 have hd:=fun R=>(aBT r.l k hkl R (r.l.drop (r.l.length - 1))).resolve_right (by rw [List.length_drop]; omega);simp only [zz,H.hcp,H.iY,H.hR,H.hk,has_is r th hb,dK r th hb,hp,hw,e1,e2,e3,h0,iO,aW,Int.toNat_natCast,hd,Oj,aK,AQ,eX,dF,dD,bQ,bP,dL,act,Int.reduceEq,Gl] <;> (repeat' split) <;> first | rfl | (exfalso; omega)
abbrev zt7:T Lf:=(sp (.eq (aZ 3) (.aO 3)) wS (sp (.eq (rr 900 [aZ 7,.aO 3] 0) (.lit 0)) (sp (.eq (ln (aZ 7)) (.lit 0)) (sp (.lt (aZ 3) (.lit 0)) (lQ (aZ 2) (mk (.aO 3)) (mk (aZ 4)) bt (mk (aZ 6)) (aZ 7) (aZ 8) (.lit 0) 2) DL) DL) wS))
theorem sm8 (H:TH d0 d1 s th 7 obj arg tries o c dn g r v) (hr:0 < r.l.length):dY (dG d0 d1 s th 7 obj arg tries) zt7=Gl d0 s th 7 obj arg tries o c dn g r v:=by
 have hb:=H.hb;simp only [zz,H.hcp,H.iY,H.hR,H.hk,has_is r th hb,dK r th hb,aK,AQ,eX,dF,dD,bQ,bP,dL,act,Int.reduceEq,Gl] <;> (repeat' split) <;> first | rfl | (exfalso; omega)
abbrev zt8:T Lf:=(sp (.lt (.lit 0) (aZ 4)) (lQ (aZ 2) (mk (aZ 3)) (mk (wr (.sub (aZ 4) (.lit 1)))) bt (mk (aZ 6)) (aZ 7) (aZ 8) (.lit 0) 2) DL)
theorem sm9 (H:TH d0 d1 s th 9 obj arg tries o c dn g r v):dY (dG d0 d1 s th 9 obj arg tries) zt8=Gl d0 s th 9 obj arg tries o c dn g r v:=by
 have hb:=H.hb;simp only [zz,H.hcp,H.iY,H.hR,H.hk,has_is r th hb,dK r th hb,aK,AQ,eX,dF,dD,bQ,bP,dL,act,Int.reduceEq,Gl] <;> (repeat' split) <;> first | rfl | (exfalso; omega)
abbrev zt9:T Lf:=(sp (.lt (.lit 0) (aZ 4)) (lQ (aZ 2) (mk (aZ 3)) (mk (wr (.sub (aZ 4) (.lit 1)))) bt (mk (aZ 6)) (aZ 7) (aZ 8) (.lit 1) 2) (lQ (aZ 2) (mk (aZ 3)) (mk (aZ 4)) bt (mk (aZ 6)) (aZ 7) (aZ 8) (.lit 0) 2))
theorem aEt (H:TH d0 d1 s th 11 obj arg tries o c dn g r v):dY (dG d0 d1 s th 11 obj arg tries) zt9=Gl d0 s th 11 obj arg tries o c dn g r v:=by
 have hb:=H.hb;simp only [zz,H.hcp,H.iY,H.hR,H.hk,has_is r th hb,dK r th hb,aK,AQ,eX,dF,dD,bQ,bP,dL,act,Int.reduceEq,Gl] <;> (repeat' split) <;> first | rfl | (exfalso; omega)
abbrev aB9:T Lf:=(sp (.lt (aZ 4) YV) (lQ (aZ 2) (mk (aZ 3)) (mk (wr (.add (aZ 4) (.lit 1)))) bt (mk (aZ 6)) (aZ 7) (aZ 8) (.lit 0) 2) wS)
theorem aEs (H:TH d0 d1 s th 10 obj arg tries o c dn g r v):dY (dG d0 d1 s th 10 obj arg tries) aB9=Gl d0 s th 10 obj arg tries o c dn g r v:=by
 have hb:=H.hb;simp only [zz,H.hcp,H.iY,H.hR,H.hk,has_is r th hb,dK r th hb,aK,AQ,eX,dF,dD,bQ,bP,dL,act,Int.reduceEq,Gl] <;> (repeat' split) <;> first | rfl | (exfalso; omega)
abbrev aB8:T Lf:=(sp (.lt (.aO 6) (wr (.sub (.lit 0) (aZ 4)))) wS (sp (.lt (wr (.sub (.lit 1099511627776) (aZ 4))) (.aO 6)) wS (lQ (aZ 2) (mk (aZ 3)) (mk (wr (.add (aZ 4) (.aO 6)))) bt (mk (aZ 6)) (aZ 7) (aZ 8) (wr (.add (aZ 4) (.aO 6))) 2)))
theorem aEr (H:TH d0 d1 s th 17 obj arg tries o c dn g r v):dY (dG d0 d1 s th 17 obj arg tries) aB8=Gl d0 s th 17 obj arg tries o c dn g r v:=by
 have hb:=H.hb;simp only [zz,H.hcp,H.iY,H.hR,H.hk,has_is r th hb,dK r th hb,aK,AQ,eX,dF,dD,bQ,bP,dL,act,Int.reduceEq,Gl] <;> (repeat' split) <;> first | rfl | (exfalso; omega)
abbrev aB7:T Lf:=(sp (.lt (.lit 0) (aZ 4)) (lQ (aZ 2) (mk (aZ 3)) (mk (wr (.sub (aZ 4) (.lit 1)))) bt (mk (aZ 6)) (aZ 7) (aZ 8) (wr (.sub (aZ 4) (.lit 1))) 2) wS)
theorem aEq (H:TH d0 d1 s th 18 obj arg tries o c dn g r v):dY (dG d0 d1 s th 18 obj arg tries) aB7=Gl d0 s th 18 obj arg tries o c dn g r v:=by
 have hb:=H.hb;simp only [zz,H.hcp,H.iY,H.hR,H.hk,has_is r th hb,dK r th hb,aK,AQ,eX,dF,dD,bQ,bP,dL,act,Int.reduceEq,Gl] <;> (repeat' split) <;> first | rfl | (exfalso; omega)
abbrev aB6:T Lf:=(sp (.eq (aZ 4) (.lit 0)) (lQ (aZ 2) (mk (aZ 3)) (mk (aZ 4)) bt (mk (aZ 6)) (aZ 7) (aZ 8) (.lit 0) 2) DL)
theorem aEp (H:TH d0 d1 s th 19 obj arg tries o c dn g r v):dY (dG d0 d1 s th 19 obj arg tries) aB6=Gl d0 s th 19 obj arg tries o c dn g r v:=by
 have hb:=H.hb;simp only [zz,H.hcp,H.iY,H.hR,H.hk,has_is r th hb,dK r th hb,aK,AQ,eX,dF,dD,bQ,bP,dL,act,Int.reduceEq,Gl] <;> (repeat' split) <;> first | rfl | (exfalso; omega)
abbrev aB5:T Lf:=(lQ (aZ 2) (mk (aZ 3)) (mk (aZ 4)) bt (mk (aZ 6)) (aZ 7) (aZ 8) (aZ 4) 2)
theorem aEo (H:TH d0 d1 s th 22 obj arg tries o c dn g r v):dY (dG d0 d1 s th 22 obj arg tries) aB5=Gl d0 s th 22 obj arg tries o c dn g r v:=by
 have hb:=H.hb;simp only [zz,H.hcp,H.iY,H.hR,H.hk,has_is r th hb,dK r th hb,aK,AQ,eX,dF,dD,bQ,bP,dL,act,Int.reduceEq,Gl] <;> (repeat' split) <;> first | rfl | (exfalso; omega)
abbrev aB4:T Lf:=(lQ (aZ 2) (mk (aZ 3)) (mk (.aO 6)) bt (mk (aZ 6)) (aZ 7) (aZ 8) (.aO 6) 2)
theorem aEn (H:TH d0 d1 s th 23 obj arg tries o c dn g r v):dY (dG d0 d1 s th 23 obj arg tries) aB4=Gl d0 s th 23 obj arg tries o c dn g r v:=by
 have hb:=H.hb;simp only [zz,H.hcp,H.iY,H.hR,H.hk,has_is r th hb,dK r th hb,aK,AQ,eX,dF,dD,bQ,bP,dL,act,Int.reduceEq,Gl] <;> (repeat' split) <;> first | rfl | (exfalso; omega)
abbrev azU:T Lf:=(sp (.lt (ln (aZ 8)) YV) (lQ (aZ 2) (mk (aZ 3)) (mk (aZ 4)) bt (mk (aZ 6)) (aZ 7) (.op .snoc (aZ 8) (mk (.aO 6))) (.aO 6) 2) DL)
theorem aCz (H:TH d0 d1 s th 20 obj arg tries o c dn g r v) (hv:0 < v.l.length):dY (dG d0 d1 s th 20 obj arg tries) azU=Gl d0 s th 20 obj arg tries o c dn g r v:=by
 have hb:=H.hb;simp only [zz,H.hcp,H.iY,H.hR,H.hk,has_is r th hb,dK r th hb,AP,List.nil_append,aK,AQ,eX,dF,dD,bQ,bP,dL,act,Int.reduceEq,Gl] <;> (repeat' split) <;> first | rfl | (exfalso; omega)
abbrev azT:T Lf:=(sp (.eq (ln (aZ 8)) (.lit 0)) DL (lQ (aZ 2) (mk (aZ 3)) (mk (aZ 4)) bt (mk (aZ 6)) (aZ 7) (.op .drop (.op .take (aZ 8) (.add (.lit 1) (.sub (ln (aZ 8)) (.lit 1)))) (.lit 1)) (nm (el (aZ 8) (.lit 0))) 2))
theorem aCy (H:TH d0 d1 s th 21 obj arg tries o c dn g r v) (hv:0 < v.l.length):dY (dG d0 d1 s th 21 obj arg tries) azT=Gl d0 s th 21 obj arg tries o c dn g r v:=by
 have hb:=H.hb;simp only [zz,H.hcp,H.iY,H.hR,H.hk,has_is r th hb,dK r th hb,aaE v hv,aK,AQ,eX,dF,dD,bQ,bP,dL,act,Int.reduceEq,Gl] <;> (repeat' split) <;> first | rfl | (exfalso; omega)
abbrev azS:T Lf:=(sp (.eq (nm (ce 0 (el (aZ 2) YV))) (.aO 3)) (lQ (aeP (.dat (.i (-1)))) (mk (aZ 3)) (mk (aZ 4)) bt (mk (aZ 6)) (.op .snoc (aZ 7) (mk (.aO 3))) (aZ 8) (.lit 0) 3) wS)
theorem aCx (H:TH d0 d1 s th 12 obj arg tries o c dn g r v) (hr:0 < r.l.length) (hw:wo th r.l=r.l):dY (dG d0 d1 s th 12 obj arg tries) azS=Gl d0 s th 12 obj arg tries o c dn g r v:=by
 have hb:=H.hb;simp only [zz,H.hcp,H.iY,H.hR,H.hk,has_is r th hb,dK r th hb,hw,aW,AP,List.nil_append,aK,AQ,eX,dF,dD,bQ,bP,dL,act,Int.reduceEq,Gl] <;> (repeat' split) <;> first | rfl | (exfalso; omega)
abbrev aB3:T Lf:=(sp (.eq (nm (ce 0 (el (aZ 2) YV))) (.aO 3)) (lQ (aeP (.dat (.i (-1)))) (mk (aZ 3)) (mk (aZ 4)) bt (mk (aZ 6)) (.op .take (.op .cat (.op .cat (.op .take (rr 12000 xE 15) (rr 12000 xE 14)) (.op .snoc (.dat (.i 0)) (mk (.aO 3)))) (.op .drop (rr 12000 xE 15) (.add (rr 12000 xE 14) (.lit 1)))) (.add (rr 12000 xE 14) (.lit 1))) (aZ 8) (.lit 0) 3) wS)
theorem aEm (H:TH d0 d1 s th 12 obj arg tries o c dn g r v) (hr:0 < r.l.length) (hv:0 < v.l.length) {n:Nat} {r1:D} (hn:n < r.l.length) (hl:r1.l.length=r.l.length) (hw:r1.l.take n=wo th r.l) (hd:L 12000 (dA d0 s r v th 12 obj arg tries o c dn g)=some (1 :: ((dA d0 s r v th 12 obj arg tries o c dn g)++ [(n:Int),enc r1,(r.l.length:Int)]))):dY (dG d0 d1 s th 12 obj arg tries) aB3=Gl d0 s th 12 obj arg tries o c dn g r v:=by
 have hb:=H.hb;have e3:((n:Int)+1).toNat=n+1:=by omega
 have hA: ∀B,(wo th r.l++ [D.i th]++B).take (n+1)=wo th r.l++ [.i th]:=fun B=>by
  have:(wo th r.l++ [D.i th]).length=n+1:=by rw [← hw]; simp only [List.length_append,List.length_take,List.length_cons,List.length_nil]; omega
  rw [List.take_append_of_le_length (by omega),List.take_of_length_le (by omega)]
 have hB:wo th r.l++ [D.i th]≠[]:=by simp
 simp only [zz,H.hcp,H.iY,H.hR,H.hk,has_is r th hb,dK r th hb,hd,List.cons_append,e3,l_p,iO,aW,AP,List.nil_append,Int.toNat_natCast,hw,hA,Oj,Gz hB,aK,AQ,eX,dF,dD,bQ,bP,dL,act,Int.reduceEq,Gl] <;> (repeat' split) <;> first | rfl | (exfalso; omega)
abbrev azR:T Lf:=(sp (.eq (ln (aZ 7)) (.lit 0)) (lQ (aZ 2) (mk (aZ 3)) (mk (aZ 4)) bt (mk (aZ 6)) (aZ 7) (aZ 8) (.lit 0) 2) (lQ (aZ 2) (mk (aZ 3)) (mk (aZ 4)) bt (mk (aZ 6)) (.op .drop (.op .take (aZ 7) (.add (.lit 1) (.sub (ln (aZ 7)) (.lit 1)))) (.lit 1)) (aZ 8) (wr (.add (nm (el (aZ 7) (.lit 0))) (.lit 1))) 2))
theorem aCw (H:TH d0 d1 s th 13 obj arg tries o c dn g r v) (hr:0 < r.l.length):dY (dG d0 d1 s th 13 obj arg tries) azR=Gl d0 s th 13 obj arg tries o c dn g r v:=by
 have hb:=H.hb;simp only [zz,H.hcp,H.iY,H.hR,H.hk,has_is r th hb,dK r th hb,aaE r hr,AP,List.nil_append,aK,AQ,eX,dF,dD,bQ,bP,dL,act,Int.reduceEq,Gl] <;> (repeat' split) <;> first | rfl | (exfalso; omega)
abbrev azQ:T Lf:=(lQ (aZ 2) (mk (aZ 3)) (mk (aZ 4)) bt (mk (aZ 6)) (.dat (.i 1)) (aZ 8) (ln (aZ 7)) 2)
theorem aCv (H:TH d0 d1 s th 14 obj arg tries o c dn g r v) (hr:0 < r.l.length):dY (dG d0 d1 s th 14 obj arg tries) azQ=Gl d0 s th 14 obj arg tries o c dn g r v:=by
 have hb:=H.hb;simp only [zz,H.hcp,H.iY,H.hR,H.hk,has_is r th hb,dK r th hb,AP,List.nil_append,aK,AQ,eX,dF,dD,bQ,bP,dL,act,Int.reduceEq,Gl] <;> (repeat' split) <;> first | rfl | (exfalso; omega)
abbrev ahB:T Lf:=(sp (.eq (rr 900 [aZ 7,.aO 3] 0) (.lit 0)) (sp (.lt (nm (ce 0 (el (aZ 2) YV))) (.lit 0)) (lQ (aeP (mk (.aO 3))) (mk (aZ 3)) (mk (aZ 4)) bt (mk (aZ 6)) (aZ 7) (aZ 8) (.lit 0) 2) DL) DL)
theorem asL (H:TH d0 d1 s th 24 obj arg tries o c dn g r v):dY (dG d0 d1 s th 24 obj arg tries) ahB=Gl d0 s th 24 obj arg tries o c dn g r v:=by
 have hb:=H.hb;simp only [zz,H.hcp,H.iY,H.hR,H.hk,has_is r th hb,dK r th hb,aW,AP,List.nil_append,aK,AQ,eX,dF,dD,bQ,bP,dL,act,Int.reduceEq,Gl] <;> (repeat' split) <;> first | rfl | (exfalso; omega)
abbrev aB2:T Lf:=(sp (.lt (aZ 6) (.lit 4611686018427387904)) (sp (.eq (wr (.add (aZ 4) (.lit 1))) YV) (lQ (aZ 2) (mk (aZ 3)) (.dat (.i 0)) bt (mk (wr (.add (aZ 6) (.lit 1)))) (aZ 7) (aZ 8) (aZ 6) 3) (lQ (aZ 2) (mk (aZ 3)) (mk (wr (.add (aZ 4) (.lit 1)))) bt (mk (aZ 6)) (aZ 7) (aZ 8) (aZ 6) 3)) wS)
theorem aEl (H:TH d0 d1 s th 15 obj arg tries o c dn g r v):dY (dG d0 d1 s th 15 obj arg tries) aB2=Gl d0 s th 15 obj arg tries o c dn g r v:=by
 have hb:=H.hb;simp only [zz,H.hcp,H.iY,H.hR,H.hk,has_is r th hb,dK r th hb,aK,AQ,eX,dF,dD,bQ,bP,dL,act,Int.reduceEq,Gl] <;> (repeat' split) <;> first | rfl | (exfalso; omega)
abbrev aB1:T Lf:=(sp (.lt (.aO 6) (aZ 6)) (lQ (aZ 2) (mk (aZ 3)) (mk (aZ 4)) bt (mk (aZ 6)) (aZ 7) (aZ 8) (.aO 6) 2) DL)
theorem aEk (H:TH d0 d1 s th 25 obj arg tries o c dn g r v):dY (dG d0 d1 s th 25 obj arg tries) aB1=Gl d0 s th 25 obj arg tries o c dn g r v:=by
 have hb:=H.hb;simp only [zz,H.hcp,H.iY,H.hR,H.hk,has_is r th hb,dK r th hb,aK,AQ,eX,dF,dD,bQ,bP,dL,act,Int.reduceEq,Gl] <;> (repeat' split) <;> first | rfl | (exfalso; omega)
abbrev aB0:T Lf:=(sp (.eq (aZ 5) (.lit 0)) (sp (.eq (aZ 3) (.aO 3)) wS (sp (.lt (aZ 3) (.lit 0)) (lQ (aZ 2) (mk (.aO 3)) (mk (aZ 4)) bt (mk (aZ 6)) (aZ 7) (aZ 8) (.lit 1) 2) DL)) (lQ (aZ 2) (mk (aZ 3)) (mk (aZ 4)) bt (mk (aZ 6)) (aZ 7) (aZ 8) (.lit 0) 2))
theorem aEj (H:TH d0 d1 s th 16 obj arg tries o c dn g r v):dY (dG d0 d1 s th 16 obj arg tries) aB0=Gl d0 s th 16 obj arg tries o c dn g r v:=by
 have hb:=H.hb;simp only [zz,H.hcp,H.iY,H.hR,H.hk,has_is r th hb,dK r th hb,aK,AQ,eX,dF,dD,bQ,bP,dL,act,Int.reduceEq,Gl] <;> (repeat' split) <;> first | rfl | (exfalso; omega)
abbrev aBZ:T Lf:=(sp (.eq (aZ 3) (.aO 3)) (lQ (aZ 2) (.dat (.i (-1))) (mk (aZ 4)) (.dat (.i 1)) (mk (aZ 6)) (aZ 7) (aZ 8) (.lit 0) 2) wS)
theorem aEi (H:TH d0 d1 s th 26 obj arg tries o c dn g r v):dY (dG d0 d1 s th 26 obj arg tries) aBZ=Gl d0 s th 26 obj arg tries o c dn g r v:=by
 have hb:=H.hb;simp only [zz,H.hcp,H.iY,H.hR,H.hk,has_is r th hb,dK r th hb,aK,AQ,eX,dF,dD,bQ,bP,dL,act,Int.reduceEq,Gl] <;> (repeat' split) <;> first | rfl | (exfalso; omega)
abbrev azP:T Lf:=(sp (.lt (.lit 0) YV) (lQ (aZ 2) (mk (aZ 3)) (mk (aZ 4)) bt (mk (aZ 6)) (aZ 7) (.op .snoc (.dat (.i 0)) (mk (.aO 6))) (.aO 6) 2) DL)
theorem aCu (H:TH d0 d1 s th 20 obj arg tries o c dn g r v) (hv:v.l= []):dY (dG d0 d1 s th 20 obj arg tries) azP=Gl d0 s th 20 obj arg tries o c dn g r v:=by
 have hb:=H.hb;have hz2:((0:Nat):Int)=0:=rfl;simp only [zz,H.hcp,H.iY,H.hR,H.hk,has_is r th hb,dK r th hb,hv,List.length_nil,List.nil_append,hz2,AP,aK,AQ,eX,dF,dD,bQ,bP,dL,act,Int.reduceEq,Gl] <;> (repeat' split) <;> first | rfl | (exfalso; omega)
abbrev azO:T Lf:=DL
theorem aCt (H:TH d0 d1 s th 21 obj arg tries o c dn g r v) (hv:v.l= []):dY (dG d0 d1 s th 21 obj arg tries) azO=Gl d0 s th 21 obj arg tries o c dn g r v:=by
 have hb:=H.hb;have hz2:((0:Nat):Int)=0:=rfl;simp only [zz,H.hcp,H.iY,H.hR,H.hk,has_is r th hb,dK r th hb,hv,List.length_nil,List.nil_append,hz2,aK,AQ,eX,dF,dD,bQ,bP,dL,act,Int.reduceEq,Gl] <;> (repeat' split) <;> first | rfl | (exfalso; omega)
abbrev aBY:T Lf:=(sp (.eq (nm (ce 0 (el (aZ 2) YV))) (.aO 3)) (lQ (aeP (.dat (.i (-1)))) (mk (aZ 3)) (mk (aZ 4)) bt (mk (aZ 6)) (.op .take (.op .cat (.op .cat (.op .take (rr 12100 xE 15) (rr 12100 xE 14)) (.op .snoc (.dat (.i 0)) (mk (.aO 3)))) (.op .drop (rr 12100 xE 15) (.add (rr 12100 xE 14) (.lit 1)))) (.add (rr 12100 xE 14) (.lit 1))) (aZ 8) (.lit 0) 3) wS)
theorem aEh (H:TH d0 d1 s th 12 obj arg tries o c dn g r v) (hr:0 < r.l.length) (hv:v.l= []) {n:Nat} {r1:D} (hn:n < r.l.length) (hl:r1.l.length=r.l.length) (hw:r1.l.take n=wo th r.l) (hd:L 12100 (dA d0 s r v th 12 obj arg tries o c dn g)=some (1 :: ((dA d0 s r v th 12 obj arg tries o c dn g)++ [(n:Int),enc r1,(r.l.length:Int)]))):dY (dG d0 d1 s th 12 obj arg tries) aBY=Gl d0 s th 12 obj arg tries o c dn g r v:=by
 have hb:=H.hb;have hz2:((0:Nat):Int)=0:=rfl;have e3:((n:Int)+1).toNat=n+1:=by omega
 have hA: ∀B,(wo th r.l++ [D.i th]++B).take (n+1)=wo th r.l++ [.i th]:=fun B=>by
  have:(wo th r.l++ [D.i th]).length=n+1:=by rw [← hw]; simp only [List.length_append,List.length_take,List.length_cons,List.length_nil]; omega
  rw [List.take_append_of_le_length (by omega),List.take_of_length_le (by omega)]
 have hB:wo th r.l++ [D.i th]≠[]:=by simp
 simp only [zz,H.hcp,H.iY,H.hR,H.hk,has_is r th hb,dK r th hb,hv,List.length_nil,List.nil_append,hz2,hd,List.cons_append,e3,l_p,iO,aW,AP,Int.toNat_natCast,hw,hA,Oj,Gz hB,aK,AQ,eX,dF,dD,bQ,bP,dL,act,Int.reduceEq,Gl] <;> (repeat' split) <;> first | rfl | (exfalso; omega)
abbrev azN:T Lf:=(sp (.eq (aZ 3) (.aO 3)) wS (sp (.eq (rr 900 [aZ 7,.aO 3] 0) (.lit 0)) (sp (.lt (aZ 3) (.lit 0)) (lQ (aZ 2) (mk (aZ 3)) (mk (aZ 4)) bt (mk (aZ 6)) (.op .snoc (.dat (.i 0)) (mk (.aO 3))) (aZ 8) (.lit 0) 2) DL) wS))
theorem aCs (H:TH d0 d1 s th 5 obj arg tries o c dn g r v) (hr:r.l= []):dY (dG d0 d1 s th 5 obj arg tries) azN=Gl d0 s th 5 obj arg tries o c dn g r v:=by
 have hb:=H.hb;have hz:((0:Nat):Int)=0:=rfl;simp only [zz,H.hcp,H.iY,H.hR,H.hk,has_is r th hb,dK r th hb,hr,List.length_nil,List.nil_append,hz,AP,aK,AQ,eX,dF,dD,bQ,bP,dL,act,Int.reduceEq,Gl] <;> (repeat' split) <;> first | rfl | (exfalso; omega)
theorem aCr (H:TH d0 d1 s th 7 obj arg tries o c dn g r v) (hr:r.l= []):dY (dG d0 d1 s th 7 obj arg tries) zt0=Gl d0 s th 7 obj arg tries o c dn g r v:=by
 have hb:=H.hb;have hz:((0:Nat):Int)=0:=rfl;simp only [zz,H.hcp,H.iY,H.hR,H.hk,has_is r th hb,dK r th hb,hr,List.length_nil,List.nil_append,hz,aK,AQ,eX,dF,dD,bQ,bP,dL,act,Int.reduceEq,Gl] <;> (repeat' split) <;> first | rfl | (exfalso; omega)
abbrev azM:T Lf:=(sp (.eq (nm (ce 0 (el (aZ 2) YV))) (.aO 3)) (lQ (aeP (.dat (.i (-1)))) (mk (aZ 3)) (mk (aZ 4)) bt (mk (aZ 6)) (.op .snoc (.dat (.i 0)) (mk (.aO 3))) (aZ 8) (.lit 0) 3) wS)
theorem aCq (H:TH d0 d1 s th 12 obj arg tries o c dn g r v) (hr:r.l= []):dY (dG d0 d1 s th 12 obj arg tries) azM=Gl d0 s th 12 obj arg tries o c dn g r v:=by
 have hb:=H.hb;have hz:((0:Nat):Int)=0:=rfl;simp only [zz,H.hcp,H.iY,H.hR,H.hk,has_is r th hb,dK r th hb,hr,List.length_nil,List.nil_append,hz,azV hr,aW,AP,aK,AQ,eX,dF,dD,bQ,bP,dL,act,Int.reduceEq,Gl] <;> (repeat' split) <;> first | rfl | (exfalso; omega)
abbrev azL:T Lf:=(lQ (aZ 2) (mk (aZ 3)) (mk (aZ 4)) bt (mk (aZ 6)) (aZ 7) (aZ 8) (.lit 0) 2)
theorem aCp (H:TH d0 d1 s th 13 obj arg tries o c dn g r v) (hr:r.l= []):dY (dG d0 d1 s th 13 obj arg tries) azL=Gl d0 s th 13 obj arg tries o c dn g r v:=by
 have hb:=H.hb;have hz:((0:Nat):Int)=0:=rfl;simp only [zz,H.hcp,H.iY,H.hR,H.hk,has_is r th hb,dK r th hb,hr,List.length_nil,List.nil_append,hz,AP,aK,AQ,eX,dF,dD,bQ,bP,dL,act,Int.reduceEq,Gl] <;> (repeat' split) <;> first | rfl | (exfalso; omega)
abbrev azK:T Lf:=(lQ (aZ 2) (mk (aZ 3)) (mk (aZ 4)) bt (mk (aZ 6)) (.dat (.i 1)) (aZ 8) (.lit 0) 2)
theorem aCo (H:TH d0 d1 s th 14 obj arg tries o c dn g r v) (hr:r.l= []):dY (dG d0 d1 s th 14 obj arg tries) azK=Gl d0 s th 14 obj arg tries o c dn g r v:=by
 have hb:=H.hb;have hz:((0:Nat):Int)=0:=rfl;simp only [zz,H.hcp,H.iY,H.hR,H.hk,has_is r th hb,dK r th hb,hr,List.length_nil,List.nil_append,hz,AP,aK,AQ,eX,dF,dD,bQ,bP,dL,act,Int.reduceEq,Gl] <;> (repeat' split) <;> first | rfl | (exfalso; omega)
end
end Go.As.Try
end
section
namespace Go.As.Try
open Go hiding Stat Spec shape
open Go.As
set_option maxRecDepth 100000
def ops:List Int:=[1,2,8,3,4,5,6,7,9,11,10,17,18,19,22,23,20,21,12,13,14,24,15,25,16,26]
abbrev Yo (k:Int):List SB:=[.eq (.aO 4) (.lit k)]
abbrev No (k:Int):List SB:=(ops.filter fun j=>!(j == k)).map fun j=> .eq (.aO 4) (.lit j)
abbrev p3:T Lf:=prune (YG++YA3) (NG++NA3) kE
abbrev p4:T Lf:=prune (YG++YA4) (NG++NA4) kE
abbrev p5:T Lf:=prune (YG++YA5) (NG++NA5) kE
abbrev p6:T Lf:=prune (YG++YA6) (NG++NA6) kE
section
variable {d0 d1 s r v:D} {th op obj arg tries o c dn g:Int}
theorem ahE {ρ:Nat→Int}: ∀{l:List SB},(∀c∈l,¬c.den ρ=true)→zW ρ l
 | [],_=>trivial
 | c :: l,h=> ⟨h c (by simp),ahE fun x hx=>h x (List.mem_cons_of_mem _ hx)⟩
theorem fO (k:Int):zY (dG d0 d1 s th k obj arg tries) (Yo k)∧zW (dG d0 d1 s th k obj arg tries) (No k):=by refine⟨by simp only [zz],ahE fun c hc=>?_⟩;obtain⟨j,hj,rfl⟩:=List.mem_map.1 hc;have:=(List.mem_filter.1 hj).2;simp only [zz];intro h;subst h;simp at this
theorem sp3 (H:TH d0 d1 s th op obj arg tries o c dn g r v) (hr:0 < r.l.length) (hv:0 < v.l.length):dY (dG d0 d1 s th op obj arg tries) p3=dY (dG d0 d1 s th op obj arg tries) kE:=dI (z2 (fG H) (fA3 H hr hv)) kE
theorem sp4 (H:TH d0 d1 s th op obj arg tries o c dn g r v) (hr:0 < r.l.length) (hv:v.l= []):dY (dG d0 d1 s th op obj arg tries) p4=dY (dG d0 d1 s th op obj arg tries) kE:=dI (z2 (fG H) (fA4 H hr hv)) kE
theorem sp5 (H:TH d0 d1 s th op obj arg tries o c dn g r v) (hr:r.l= []) (hv:0 < v.l.length):dY (dG d0 d1 s th op obj arg tries) p5=dY (dG d0 d1 s th op obj arg tries) kE:=dI (z2 (fG H) (fA5 H hr hv)) kE
theorem sp6 (H:TH d0 d1 s th op obj arg tries o c dn g r v) (hr:r.l= []) (hv:v.l= []):dY (dG d0 d1 s th op obj arg tries) p6=dY (dG d0 d1 s th op obj arg tries) kE:=dI (z2 (fG H) (fA6 H hr hv)) kE
theorem jW {k:Int} {t u:T Lf} {Q:RS} (e:prune (Yo k) (No k) t=u) (h:dY (dG d0 d1 s th k obj arg tries) u=Q):dY (dG d0 d1 s th k obj arg tries) t=Q:=by rw [← dI (fO k) t,e,h]
theorem jX (H:TH d0 d1 s th op obj arg tries o c dn g r v) {u:T Lf} {Q:RS} (e3:prune (Yo op) (No op) p3=u) (e4:prune (Yo op) (No op) p4=u) (e5:prune (Yo op) (No op) p5=u) (e6:prune (Yo op) (No op) p6=u) (h:dY (dG d0 d1 s th op obj arg tries) u=Q):dY (dG d0 d1 s th op obj arg tries) kE=Q:=by
 rcases kP r.l with hr | hr <;> rcases kP v.l with hv | hv
 ·exact (sp6 H hr hv).symm.trans (jW e6 h)
 ·exact (sp5 H hr hv).symm.trans (jW e5 h)
 ·exact (sp4 H hr hv).symm.trans (jW e4 h)
 ·exact (sp3 H hr hv).symm.trans (jW e3 h)
theorem o1 (H:TH d0 d1 s th 1 obj arg tries o c dn g r v):dY (dG d0 d1 s th 1 obj arg tries) kE=Gl d0 s th 1 obj arg tries o c dn g r v:=jX H (u:=zt0) (by kernel_rfl) (by kernel_rfl) (by kernel_rfl) (by kernel_rfl) (sm0 H)
theorem o2 (H:TH d0 d1 s th 2 obj arg tries o c dn g r v):dY (dG d0 d1 s th 2 obj arg tries) kE=Gl d0 s th 2 obj arg tries o c dn g r v:=jX H (u:=zt1) (by kernel_rfl) (by kernel_rfl) (by kernel_rfl) (by kernel_rfl) (sm1 H)
theorem o8 (H:TH d0 d1 s th 8 obj arg tries o c dn g r v):dY (dG d0 d1 s th 8 obj arg tries) kE=Gl d0 s th 8 obj arg tries o c dn g r v:=jX H (u:=zt1) (by kernel_rfl) (by kernel_rfl) (by kernel_rfl) (by kernel_rfl) (sm2 H)
theorem o3 (H:TH d0 d1 s th 3 obj arg tries o c dn g r v):dY (dG d0 d1 s th 3 obj arg tries) kE=Gl d0 s th 3 obj arg tries o c dn g r v:=jX H (u:=zt2) (by kernel_rfl) (by kernel_rfl) (by kernel_rfl) (by kernel_rfl) (sm3 H)
theorem o4 (H:TH d0 d1 s th 4 obj arg tries o c dn g r v):dY (dG d0 d1 s th 4 obj arg tries) kE=Gl d0 s th 4 obj arg tries o c dn g r v:=jX H (u:=zt3) (by kernel_rfl) (by kernel_rfl) (by kernel_rfl) (by kernel_rfl) (sm4 H)
theorem o5 (H:TH d0 d1 s th 5 obj arg tries o c dn g r v):dY (dG d0 d1 s th 5 obj arg tries) kE=Gl d0 s th 5 obj arg tries o c dn g r v:=by
 rcases kP r.l with hr | hr <;> rcases kP v.l with hv | hv
 ·exact (sp6 H hr hv).symm.trans (jW (u:=azN) (by kernel_rfl) (aCs H hr))
 ·exact (sp5 H hr hv).symm.trans (jW (u:=azN) (by kernel_rfl) (aCs H hr))
 ·exact (sp4 H hr hv).symm.trans (jW (u:=zt4) (by kernel_rfl) (sm5 H hr))
 ·exact (sp3 H hr hv).symm.trans (jW (u:=zt4) (by kernel_rfl) (sm5 H hr))
theorem o6 (H:TH d0 d1 s th 6 obj arg tries o c dn g r v):dY (dG d0 d1 s th 6 obj arg tries) kE=Gl d0 s th 6 obj arg tries o c dn g r v:=by
 rcases kP r.l with hr | hr <;> rcases kP v.l with hv | hv
 ·exact (sp6 H hr hv).symm.trans (jW (u:=zt5) (by kernel_rfl) (sm6 H (by rw [C9 hr]; omega)))
 ·exact (sp5 H hr hv).symm.trans (jW (u:=zt5) (by kernel_rfl) (sm6 H (by rw [C9 hr]; omega)))
 ·by_cases hk:place r th < 0
  ·exact (sp4 H hr hv).symm.trans ((dI (fK0 H hk) _).symm.trans (jW (u:=zt5) (by kernel_rfl) (sm6 H hk)))
  ·exact (sp4 H hr hv).symm.trans ((dI (fK1 H hk) _).symm.trans (jW (u:=zt6) (by kernel_rfl) (sm7 H hr hk)))
 ·by_cases hk:place r th < 0
  ·exact (sp3 H hr hv).symm.trans ((dI (fK0 H hk) _).symm.trans (jW (u:=zt5) (by kernel_rfl) (sm6 H hk)))
  ·exact (sp3 H hr hv).symm.trans ((dI (fK1 H hk) _).symm.trans (jW (u:=zt6) (by kernel_rfl) (sm7 H hr hk)))
theorem o7 (H:TH d0 d1 s th 7 obj arg tries o c dn g r v):dY (dG d0 d1 s th 7 obj arg tries) kE=Gl d0 s th 7 obj arg tries o c dn g r v:=by
 rcases kP r.l with hr | hr <;> rcases kP v.l with hv | hv
 ·exact (sp6 H hr hv).symm.trans (jW (u:=zt0) (by kernel_rfl) (aCr H hr))
 ·exact (sp5 H hr hv).symm.trans (jW (u:=zt0) (by kernel_rfl) (aCr H hr))
 ·exact (sp4 H hr hv).symm.trans (jW (u:=zt7) (by kernel_rfl) (sm8 H hr))
 ·exact (sp3 H hr hv).symm.trans (jW (u:=zt7) (by kernel_rfl) (sm8 H hr))
theorem o9 (H:TH d0 d1 s th 9 obj arg tries o c dn g r v):dY (dG d0 d1 s th 9 obj arg tries) kE=Gl d0 s th 9 obj arg tries o c dn g r v:=jX H (u:=zt8) (by kernel_rfl) (by kernel_rfl) (by kernel_rfl) (by kernel_rfl) (sm9 H)
theorem o11 (H:TH d0 d1 s th 11 obj arg tries o c dn g r v):dY (dG d0 d1 s th 11 obj arg tries) kE=Gl d0 s th 11 obj arg tries o c dn g r v:=jX H (u:=zt9) (by kernel_rfl) (by kernel_rfl) (by kernel_rfl) (by kernel_rfl) (aEt H)
theorem o10 (H:TH d0 d1 s th 10 obj arg tries o c dn g r v):dY (dG d0 d1 s th 10 obj arg tries) kE=Gl d0 s th 10 obj arg tries o c dn g r v:=jX H (u:=aB9) (by kernel_rfl) (by kernel_rfl) (by kernel_rfl) (by kernel_rfl) (aEs H)
theorem o17 (H:TH d0 d1 s th 17 obj arg tries o c dn g r v):dY (dG d0 d1 s th 17 obj arg tries) kE=Gl d0 s th 17 obj arg tries o c dn g r v:=jX H (u:=aB8) (by kernel_rfl) (by kernel_rfl) (by kernel_rfl) (by kernel_rfl) (aEr H)
theorem o18 (H:TH d0 d1 s th 18 obj arg tries o c dn g r v):dY (dG d0 d1 s th 18 obj arg tries) kE=Gl d0 s th 18 obj arg tries o c dn g r v:=jX H (u:=aB7) (by kernel_rfl) (by kernel_rfl) (by kernel_rfl) (by kernel_rfl) (aEq H)
theorem o19 (H:TH d0 d1 s th 19 obj arg tries o c dn g r v):dY (dG d0 d1 s th 19 obj arg tries) kE=Gl d0 s th 19 obj arg tries o c dn g r v:=jX H (u:=aB6) (by kernel_rfl) (by kernel_rfl) (by kernel_rfl) (by kernel_rfl) (aEp H)
theorem o22 (H:TH d0 d1 s th 22 obj arg tries o c dn g r v):dY (dG d0 d1 s th 22 obj arg tries) kE=Gl d0 s th 22 obj arg tries o c dn g r v:=jX H (u:=aB5) (by kernel_rfl) (by kernel_rfl) (by kernel_rfl) (by kernel_rfl) (aEo H)
theorem o23 (H:TH d0 d1 s th 23 obj arg tries o c dn g r v):dY (dG d0 d1 s th 23 obj arg tries) kE=Gl d0 s th 23 obj arg tries o c dn g r v:=jX H (u:=aB4) (by kernel_rfl) (by kernel_rfl) (by kernel_rfl) (by kernel_rfl) (aEn H)
theorem o20 (H:TH d0 d1 s th 20 obj arg tries o c dn g r v):dY (dG d0 d1 s th 20 obj arg tries) kE=Gl d0 s th 20 obj arg tries o c dn g r v:=by
 rcases kP r.l with hr | hr <;> rcases kP v.l with hv | hv
 ·exact (sp6 H hr hv).symm.trans (jW (u:=azP) (by kernel_rfl) (aCu H hv))
 ·exact (sp5 H hr hv).symm.trans (jW (u:=azU) (by kernel_rfl) (aCz H hv))
 ·exact (sp4 H hr hv).symm.trans (jW (u:=azP) (by kernel_rfl) (aCu H hv))
 ·exact (sp3 H hr hv).symm.trans (jW (u:=azU) (by kernel_rfl) (aCz H hv))
theorem o21 (H:TH d0 d1 s th 21 obj arg tries o c dn g r v):dY (dG d0 d1 s th 21 obj arg tries) kE=Gl d0 s th 21 obj arg tries o c dn g r v:=by
 rcases kP r.l with hr | hr <;> rcases kP v.l with hv | hv
 ·exact (sp6 H hr hv).symm.trans (jW (u:=azO) (by kernel_rfl) (aCt H hv))
 ·exact (sp5 H hr hv).symm.trans (jW (u:=azT) (by kernel_rfl) (aCy H hv))
 ·exact (sp4 H hr hv).symm.trans (jW (u:=azO) (by kernel_rfl) (aCt H hv))
 ·exact (sp3 H hr hv).symm.trans (jW (u:=azT) (by kernel_rfl) (aCy H hv))
theorem o12 (H:TH d0 d1 s th 12 obj arg tries o c dn g r v):dY (dG d0 d1 s th 12 obj arg tries) kE=Gl d0 s th 12 obj arg tries o c dn g r v:=by
 rcases kP r.l with hr | hr <;> rcases kP v.l with hv | hv
 ·have hd:=avN r th obj (Mx d0 obj) (enc (dL (fP s.l (Mx d0 obj) (dL (fP (s.at (Mx d0 obj)).l 0 (.i (-1))))))) 12 arg tries o c dn g (enc v);exact (sp6 H hr hv).symm.trans ((dI (fM H (by omega)) _).symm.trans ((dI (aEV H hd) _).symm.trans (jW (u:=azM) (by kernel_rfl) (aCq H hr))))
 ·have hd:=avO r th obj (Mx d0 obj) (enc (dL (fP s.l (Mx d0 obj) (dL (fP (s.at (Mx d0 obj)).l 0 (.i (-1))))))) 12 arg tries o c dn g (enc v);exact (sp5 H hr hv).symm.trans ((dI (fM H (by omega)) _).symm.trans ((dI (aEW H hd) _).symm.trans (jW (u:=azM) (by kernel_rfl) (aCq H hr))))
 ·rcases avP r th (by have:=H.hr; omega) H.hn with ⟨hw,hd⟩ | hd
  ·have hd:=hd obj (Mx d0 obj) (enc (dL (fP s.l (Mx d0 obj) (dL (fP (s.at (Mx d0 obj)).l 0 (.i (-1))))))) 12 arg tries o c dn g (enc v);exact (sp4 H hr hv).symm.trans ((dI (fM H (by omega)) _).symm.trans ((dI (aEX H hd) _).symm.trans (jW (u:=azS) (by kernel_rfl) (aCx H hr hw))))
  ·obtain⟨n,r1,hn,hl,hw,hd⟩:=hd obj (Mx d0 obj) (enc (dL (fP s.l (Mx d0 obj) (dL (fP (s.at (Mx d0 obj)).l 0 (.i (-1))))))) 12 arg tries o c dn g (enc v);exact (sp4 H hr hv).symm.trans ((dI (fM H (by omega)) _).symm.trans ((dI (aEY H hn hl hd) _).symm.trans (jW (u:=aBY) (by kernel_rfl) (aEh H hr hv hn hl hw hd))))
 ·rcases avQ r th (by have:=H.hr; omega) H.hn with ⟨hw,hd⟩ | hd
  ·have hd:=hd obj (Mx d0 obj) (enc (dL (fP s.l (Mx d0 obj) (dL (fP (s.at (Mx d0 obj)).l 0 (.i (-1))))))) 12 arg tries o c dn g (enc v);exact (sp3 H hr hv).symm.trans ((dI (fM H (by omega)) _).symm.trans ((dI (aEZ H hd) _).symm.trans (jW (u:=azS) (by kernel_rfl) (aCx H hr hw))))
  ·obtain⟨n,r1,hn,hl,hw,hd⟩:=hd obj (Mx d0 obj) (enc (dL (fP s.l (Mx d0 obj) (dL (fP (s.at (Mx d0 obj)).l 0 (.i (-1))))))) 12 arg tries o c dn g (enc v);exact (sp3 H hr hv).symm.trans ((dI (fM H (by omega)) _).symm.trans ((dI (aE0 H hn hl hd) _).symm.trans (jW (u:=aB3) (by kernel_rfl) (aEm H hr hv hn hl hw hd))))
theorem o13 (H:TH d0 d1 s th 13 obj arg tries o c dn g r v):dY (dG d0 d1 s th 13 obj arg tries) kE=Gl d0 s th 13 obj arg tries o c dn g r v:=by
 rcases kP r.l with hr | hr <;> rcases kP v.l with hv | hv
 ·exact (sp6 H hr hv).symm.trans (jW (u:=azL) (by kernel_rfl) (aCp H hr))
 ·exact (sp5 H hr hv).symm.trans (jW (u:=azL) (by kernel_rfl) (aCp H hr))
 ·exact (sp4 H hr hv).symm.trans (jW (u:=azR) (by kernel_rfl) (aCw H hr))
 ·exact (sp3 H hr hv).symm.trans (jW (u:=azR) (by kernel_rfl) (aCw H hr))
theorem o14 (H:TH d0 d1 s th 14 obj arg tries o c dn g r v):dY (dG d0 d1 s th 14 obj arg tries) kE=Gl d0 s th 14 obj arg tries o c dn g r v:=by
 rcases kP r.l with hr | hr <;> rcases kP v.l with hv | hv
 ·exact (sp6 H hr hv).symm.trans (jW (u:=azK) (by kernel_rfl) (aCo H hr))
 ·exact (sp5 H hr hv).symm.trans (jW (u:=azK) (by kernel_rfl) (aCo H hr))
 ·exact (sp4 H hr hv).symm.trans (jW (u:=azQ) (by kernel_rfl) (aCv H hr))
 ·exact (sp3 H hr hv).symm.trans (jW (u:=azQ) (by kernel_rfl) (aCv H hr))
theorem o24 (H:TH d0 d1 s th 24 obj arg tries o c dn g r v):dY (dG d0 d1 s th 24 obj arg tries) kE=Gl d0 s th 24 obj arg tries o c dn g r v:=by
 rcases kP r.l with hr | hr <;> rcases kP v.l with hv | hv
 ·exact (sp6 H hr hv).symm.trans ((dI (fM H (by omega)) _).symm.trans (jW (u:=ahB) (by kernel_rfl) (asL H)))
 ·exact (sp5 H hr hv).symm.trans ((dI (fM H (by omega)) _).symm.trans (jW (u:=ahB) (by kernel_rfl) (asL H)))
 ·exact (sp4 H hr hv).symm.trans ((dI (fM H (by omega)) _).symm.trans (jW (u:=ahB) (by kernel_rfl) (asL H)))
 ·exact (sp3 H hr hv).symm.trans ((dI (fM H (by omega)) _).symm.trans (jW (u:=ahB) (by kernel_rfl) (asL H)))
theorem o15 (H:TH d0 d1 s th 15 obj arg tries o c dn g r v):dY (dG d0 d1 s th 15 obj arg tries) kE=Gl d0 s th 15 obj arg tries o c dn g r v:=jX H (u:=aB2) (by kernel_rfl) (by kernel_rfl) (by kernel_rfl) (by kernel_rfl) (aEl H)
theorem o25 (H:TH d0 d1 s th 25 obj arg tries o c dn g r v):dY (dG d0 d1 s th 25 obj arg tries) kE=Gl d0 s th 25 obj arg tries o c dn g r v:=jX H (u:=aB1) (by kernel_rfl) (by kernel_rfl) (by kernel_rfl) (by kernel_rfl) (aEk H)
theorem o16 (H:TH d0 d1 s th 16 obj arg tries o c dn g r v):dY (dG d0 d1 s th 16 obj arg tries) kE=Gl d0 s th 16 obj arg tries o c dn g r v:=jX H (u:=aB0) (by kernel_rfl) (by kernel_rfl) (by kernel_rfl) (by kernel_rfl) (aEj H)
theorem o26 (H:TH d0 d1 s th 26 obj arg tries o c dn g r v):dY (dG d0 d1 s th 26 obj arg tries) kE=Gl d0 s th 26 obj arg tries o c dn g r v:=jX H (u:=aBZ) (by kernel_rfl) (by kernel_rfl) (by kernel_rfl) (by kernel_rfl) (aEi H)
theorem arL (H:TH d0 d1 s th op obj arg tries o c dn g r v) (hop:op∈ops):L 400 [enc d0,enc d1,enc s,th,op,obj,arg,tries]=some (outA s th op obj (Mx d0 obj) (act (Mx d0 obj) (Mo d0 s obj) th op arg tries o c dn g r v)):=by
 rw [aQ,aBO]
 suffices h:dY (dG d0 d1 s th op obj arg tries) kE=Gl d0 s th op obj arg tries o c dn g r v by rw [h]; rfl
 unfold ops at hop;simp only [List.mem_cons,List.not_mem_nil,or_false] at hop;rcases hop with rfl | rfl | rfl | rfl | rfl | rfl | rfl | rfl | rfl | rfl | rfl | rfl | rfl | rfl | rfl | rfl | rfl | rfl | rfl | rfl | rfl | rfl | rfl | rfl | rfl | rfl
 ·exact o1 H
 ·exact o2 H
 ·exact o8 H
 ·exact o3 H
 ·exact o4 H
 ·exact o5 H
 ·exact o6 H
 ·exact o7 H
 ·exact o9 H
 ·exact o11 H
 ·exact o10 H
 ·exact o17 H
 ·exact o18 H
 ·exact o19 H
 ·exact o22 H
 ·exact o23 H
 ·exact o20 H
 ·exact o21 H
 ·exact o12 H
 ·exact o13 H
 ·exact o14 H
 ·exact o24 H
 ·exact o15 H
 ·exact o25 H
 ·exact o16 H
 ·exact o26 H
end
end Go.As.Try
end
section
namespace Go.As.Try
open Go hiding Stat Spec shape
open Go.As
set_option maxRecDepth 100000
abbrev alA:T Lf:=ou [.op .set (aZ 2) (thg (mk (aZ 3)) (mk (aZ 4)) bt (mk (aZ 6)) (aZ 7) (aZ 8)),.lit 0,.lit 0,.lit 0,.lit 0,.lit 0,.lit 0]
abbrev Ya (a:Int):List SB:=[.eq (a0 9000 [.aO 5,.aO 2]) (.lit 1),.eq (aZ 0) (.lit a),.eq (a0 350 [.aO 0,.aO 1,.aO 2]) (.lit 1)]
abbrev Na (a:Int):List SB:=([0,1,2,3,4,5].filter fun j=>!(j == a)).map fun j=> .eq (aZ 0) (.lit j)
abbrev r3:SB:=.eq (rr 350 [.aO 0,.aO 1,.aO 2] 0) (.lit 0)
abbrev t3:SB:=.lt (.aO 3) (.lit 0)
abbrev u3:SB:=.lt (.aO 3) (ln (.aO 1))
section
variable {d0 d1 s r v:D} {th op obj arg tries o c dn g b kop a:Int} (hR:L 350 [enc d0,enc d1,enc s]=some [b])
include hR
theorem fa {l:List Int} (hc:L 9000 [obj,enc s]=some (a :: l)):zY (dG d0 d1 s th op obj arg tries) (Ya a)∧zW (dG d0 d1 s th op obj arg tries) (Na a):=by refine⟨by simp only [zz,hc,hR],ahE fun c hc'=>?_⟩;obtain⟨j,hj,rfl⟩:=List.mem_map.1 hc';have:=(List.mem_filter.1 hj).2;simp only [zz,hc];intro h;subst h;simp at this
theorem wY (k:dY (dG d0 d1 s th op obj arg tries) kE= .out [enc s,0,0,0,0,0,0]):L 400 [enc d0,enc d1,enc s,th,op,obj,arg,tries]=some [enc s,0,0,0,0,0,0]:=by rw [aQ,aBO];exact congrArg (fin L) k
section
variable (ha:a=3∨a=4∨a=5∨a=6) (hcp:L 9000 [obj,enc s]=some [a,obj,enc s,o,c,dn,g,enc r,enc v]) (BI:0≤obj) (BH:obj < (s.l.length:Int)) (hd:dn=0∨dn=1) (hs:s=dL (fP s.l obj (dL [.i o,.i c,.i dn,.i g,r,v])))
include ha hcp BI BH hd hs
omit ha hR BI BH in
theorem J3:dY (dG d0 d1 s th op obj arg tries) alA= .out [enc s,0,0,0,0,0,0]:=by
 have e:(if dn=0 then (0:Int) else 1)=dn:=by rcases hd with rfl | rfl <;> rfl
 simp only [dL] at hs;simp only [zz,hcp,e,← hs]
theorem aEx (h:b=0):L 400 [enc d0,enc d1,enc s,th,op,obj,arg,tries]=some [enc s,0,0,0,0,0,0]:=
 wY hR (bU (Ya a++ [r3]) (Na a++ []) alA (z2 (fa hR hcp) (by simp only [zz,hcp,hR] <;> omega)) (by rcases ha with rfl | rfl | rfl | rfl <;> kernel_rfl) (J3 hcp hd hs))
theorem aEw (hb:b≠0) (h:th < 0):L 400 [enc d0,enc d1,enc s,th,op,obj,arg,tries]=some [enc s,0,0,0,0,0,0]:=
 wY hR (bU (Ya a++ [t3]) (Na a++ [r3]) alA (z2 (fa hR hcp) (by simp only [zz,hcp,hR] <;> omega)) (by rcases ha with rfl | rfl | rfl | rfl <;> kernel_rfl) (J3 hcp hd hs))
theorem aEv (hb:b≠0) (h0:0≤th) (h: ¬th < (d1.l.length:Int)):L 400 [enc d0,enc d1,enc s,th,op,obj,arg,tries]=some [enc s,0,0,0,0,0,0]:=
 wY hR (bU (Ya a++ []) (Na a++ [r3,t3,u3]) alA (z2 (fa hR hcp) (by simp only [zz,hcp,hR] <;> omega)) (by rcases ha with rfl | rfl | rfl | rfl <;> kernel_rfl) (J3 hcp hd hs))
theorem aEy (hb:b≠0) (h0:0≤th) (h:th < (d1.l.length:Int)) (hk:L 600 [op]=some [kop]) (hlen:s.l.length=d0.l.length) (hne: ¬kop=((d0.at obj).hd 0).n):L 400 [enc d0,enc d1,enc s,th,op,obj,arg,tries]=some [enc s,0,0,0,0,0,0]:=
 wY hR (bU (Ya a++ [u3,.lt (.aO 5) (ln (aZ 2)),.eq (a0 600 [.aO 4]) (.lit 1),.lt (.aO 5) (ln (.aO 0))]) (Na a++ [r3,t3,.lt (.aO 5) (.lit 0),.eq (rr 600 [.aO 4] 0) (nm (ce 0 (el (.aO 0) (.aO 5))))]) alA (z2 (fa hR hcp) (by simp only [zz,hcp,hR,hk] <;> omega)) (by rcases ha with rfl | rfl | rfl | rfl <;> kernel_rfl) (J3 hcp hd hs))
end
theorem aCM (hcp:L 9000 [obj,enc s]=some [0,obj,enc s]) (h:obj < 0):L 400 [enc d0,enc d1,enc s,th,op,obj,arg,tries]=some [enc s,0,0,0,0,0,0]:=
 wY hR (bU (Ya 0++ [.lt (.aO 5) (.lit 0)]) (Na 0++ []) (sp r3 (ou [aZ 2,.lit 0,.lit 0,.lit 0,.lit 0,.lit 0,.lit 0]) (sp t3 (ou [aZ 2,.lit 0,.lit 0,.lit 0,.lit 0,.lit 0,.lit 0]) (sp u3 (ou [aZ 2,.lit 0,.lit 0,.lit 0,.lit 0,.lit 0,.lit 0]) (ou [aZ 2,.lit 0,.lit 0,.lit 0,.lit 0,.lit 0,.lit 0])))) (z2 (fa hR hcp) (by simp only [zz,hcp] <;> omega)) (by kernel_rfl) (by simp only [zz,hcp,hR,ite_self]))
theorem aCL (hcp:L 9000 [obj,enc s]=some [0,obj,enc s]) (h0:0≤obj) (h: ¬obj < (s.l.length:Int)):L 400 [enc d0,enc d1,enc s,th,op,obj,arg,tries]=some [enc s,0,0,0,0,0,0]:=
 wY hR (bU (Ya 0++ []) (Na 0++ [.lt (.aO 5) (.lit 0),.lt (.aO 5) (ln (aZ 2))]) (sp r3 (ou [aZ 2,.lit 0,.lit 0,.lit 0,.lit 0,.lit 0,.lit 0]) (sp t3 (ou [aZ 2,.lit 0,.lit 0,.lit 0,.lit 0,.lit 0,.lit 0]) (sp u3 (ou [aZ 2,.lit 0,.lit 0,.lit 0,.lit 0,.lit 0,.lit 0]) (ou [aZ 2,.lit 0,.lit 0,.lit 0,.lit 0,.lit 0,.lit 0])))) (z2 (fa hR hcp) (by simp only [zz,hcp] <;> omega)) (by kernel_rfl) (by simp only [zz,hcp,hR,ite_self]))
theorem aCK (hcp:L 9000 [obj,enc s]=some [1,obj]) (h:obj < 0) (hs:s= .i 1):L 400 [enc d0,enc d1,enc s,th,op,obj,arg,tries]=some [enc s,0,0,0,0,0,0]:=
 wY hR (bU (Ya 1++ [.lt (.aO 5) (.lit 0)]) (Na 1++ []) (sp r3 (ou [.dat (.i 1),.lit 0,.lit 0,.lit 0,.lit 0,.lit 0,.lit 0]) (sp t3 (ou [.dat (.i 1),.lit 0,.lit 0,.lit 0,.lit 0,.lit 0,.lit 0]) (sp u3 (ou [.dat (.i 1),.lit 0,.lit 0,.lit 0,.lit 0,.lit 0,.lit 0]) (ou [.dat (.i 1),.lit 0,.lit 0,.lit 0,.lit 0,.lit 0,.lit 0])))) (z2 (fa hR hcp) (by simp only [zz,hcp] <;> omega)) (by kernel_rfl) (by simp only [zz,hcp,hR,hs,ite_self]))
theorem aCJ (hcp:L 9000 [obj,enc s]=some [1,obj]) (h0:0≤obj) (h: ¬obj < (s.l.length:Int)) (hs:s= .i 1):L 400 [enc d0,enc d1,enc s,th,op,obj,arg,tries]=some [enc s,0,0,0,0,0,0]:=
 wY hR (bU (Ya 1++ []) (Na 1++ [.lt (.aO 5) (.lit 0)]) (sp r3 (ou [.dat (.i 1),.lit 0,.lit 0,.lit 0,.lit 0,.lit 0,.lit 0]) (sp t3 (ou [.dat (.i 1),.lit 0,.lit 0,.lit 0,.lit 0,.lit 0,.lit 0]) (sp u3 (ou [.dat (.i 1),.lit 0,.lit 0,.lit 0,.lit 0,.lit 0,.lit 0]) (ou [.dat (.i 1),.lit 0,.lit 0,.lit 0,.lit 0,.lit 0,.lit 0])))) (z2 (fa hR hcp) (by simp only [zz,hcp] <;> omega)) (by kernel_rfl) (by simp only [zz,hcp,hR,hs,ite_self]))
theorem aCI (hcp:L 9000 [obj,enc s]=some [2,obj]) (h:obj < 0) (hs:s= .i 2):L 400 [enc d0,enc d1,enc s,th,op,obj,arg,tries]=some [enc s,0,0,0,0,0,0]:=
 wY hR (bU (Ya 2++ [.lt (.aO 5) (.lit 0)]) (Na 2++ []) (sp r3 (ou [.dat (.i 2),.lit 0,.lit 0,.lit 0,.lit 0,.lit 0,.lit 0]) (sp t3 (ou [.dat (.i 2),.lit 0,.lit 0,.lit 0,.lit 0,.lit 0,.lit 0]) (sp u3 (ou [.dat (.i 2),.lit 0,.lit 0,.lit 0,.lit 0,.lit 0,.lit 0]) (ou [.dat (.i 2),.lit 0,.lit 0,.lit 0,.lit 0,.lit 0,.lit 0])))) (z2 (fa hR hcp) (by simp only [zz,hcp] <;> omega)) (by kernel_rfl) (by simp only [zz,hcp,hR,hs,ite_self]))
theorem aCH (hcp:L 9000 [obj,enc s]=some [2,obj]) (h0:0≤obj) (h: ¬obj < (s.l.length:Int)) (hs:s= .i 2):L 400 [enc d0,enc d1,enc s,th,op,obj,arg,tries]=some [enc s,0,0,0,0,0,0]:=
 wY hR (bU (Ya 2++ []) (Na 2++ [.lt (.aO 5) (.lit 0)]) (sp r3 (ou [.dat (.i 2),.lit 0,.lit 0,.lit 0,.lit 0,.lit 0,.lit 0]) (sp t3 (ou [.dat (.i 2),.lit 0,.lit 0,.lit 0,.lit 0,.lit 0,.lit 0]) (sp u3 (ou [.dat (.i 2),.lit 0,.lit 0,.lit 0,.lit 0,.lit 0,.lit 0]) (ou [.dat (.i 2),.lit 0,.lit 0,.lit 0,.lit 0,.lit 0,.lit 0])))) (z2 (fa hR hcp) (by simp only [zz,hcp] <;> omega)) (by kernel_rfl) (by simp only [zz,hcp,hR,hs,ite_self]))
end
end Go.As.Try
end
section
namespace Go.As.Try
open Go hiding Stat Spec shape
open Go.As
set_option maxRecDepth 100000
def kindOf (o:Int):Int:=if o < 27 then (if o=0 then 0 else if o=1 then 1 else if o=2 then 1 else if o=3 then 1 else if o=4 then 1 else if o=5 then 2 else if o=6 then 2 else if o=7 then 2 else if o=8 then 2 else if o=9 then 3 else if o=10 then 3 else if o=11 then 3 else if o=12 then 4 else if o=13 then 4 else if o=14 then 4 else if o=15 then 5 else if o=16 then 6 else if o=17 then 7 else if o=18 then 7 else if o=19 then 7 else if o=20 then 8 else if o=21 then 8 else if o=22 then 9 else if o=23 then 9 else if o=24 then 4 else if o=25 then 5 else 6) else 0
theorem Wx (o:Int) (h:iJ .u8 o):L 600 [o]=some [kindOf o]:=by
 have h1:=h.1;have w:=aCc h;have c1: ¬(o < 0):=by omega
 rw [aQ,aD3];simp only [aAd,zz,w,c1];by_cases h27:o < 27
 ·simp only [if_pos h27];have:o=0∨o=1∨o=2∨o=3∨o=4∨o=5∨o=6∨o=7∨o=8∨o=9∨o=10∨o=11∨o=12∨o=13∨o=14∨o=15∨o=16∨o=17∨o=18∨o=19∨o=20∨o=21∨o=22∨o=23∨o=24∨o=25∨o=26:=by omega
  rcases this with rfl | rfl | rfl | rfl | rfl | rfl | rfl | rfl | rfl | rfl | rfl | rfl | rfl | rfl | rfl | rfl | rfl | rfl | rfl | rfl | rfl | rfl | rfl | rfl | rfl | rfl | rfl
  all_goals rfl
 ·simp only [if_neg h27];unfold kindOf;rw [if_neg h27];rfl
theorem alU {o:Int} (h0:0≤o) (h:kindOf o≠0):o∈ops:=by
 have h27:o < 27:=by refine Decidable.byContradiction fun hn=>h ?_;unfold kindOf;rw [if_neg hn]
 have:o=0∨o=1∨o=2∨o=3∨o=4∨o=5∨o=6∨o=7∨o=8∨o=9∨o=10∨o=11∨o=12∨o=13∨o=14∨o=15∨o=16∨o=17∨o=18∨o=19∨o=20∨o=21∨o=22∨o=23∨o=24∨o=25∨o=26:=by omega
 rcases this with rfl | rfl | rfl | rfl | rfl | rfl | rfl | rfl | rfl | rfl | rfl | rfl | rfl | rfl | rfl | rfl | rfl | rfl | rfl | rfl | rfl | rfl | rfl | rfl | rfl | rfl | rfl
 all_goals first | exact absurd rfl h | decide
structure Acc (d0 d1 s:D) (th op obj:Int):Prop where
 r:L 350 [enc d0,enc d1,enc s]=some [1]
 t0:0≤th
 t1:th < (d1.l.length:Int)
 o0:0≤obj
 o1:obj < (s.l.length:Int)
 k:kindOf op=((d0.at obj).hd 0).n
structure Tg (x:D) (o c dn g:Int) (r v:D):Prop where
 is:x=dL [.i o,.i c,.i dn,.i g,r,v]
 ho:iJ .i64 o
 hc:iJ .i64 c
 hd:dn=0∨dn=1
 hg:iJ .i64 g
 hr:Wd (.sl 0) r
 hv:Wd (.sl 0) v
theorem KR {x:D} (h:Dj x): ∃o c dn g r v,Tg x o c dn g r v:=by obtain⟨o,c,d,g,r,v,h1,h2,h3,h4,h5,h6,h7⟩:=h;exact⟨o,c,d,g,r,v,h1,h2,h3,h4,h5,h6,h7⟩
theorem arI {r:D} (h:Wd (.sl 0) r): ∀x∈r.l,x= .i x.n:=by intro x hx;obtain⟨n,rfl,_⟩:=(h.el1 rfl x hx).i;rfl
def few (s:D):Prop:= ∀x∈s.l,(x.hd 4).l.length < 17592186044415∧(x.hd 5).l.length < 17592186044415
theorem few.rows {s:D} (h:few s):Ib s:=fun x hx=>by have:=(h x hx).1; omega
section
variable {d0 d1 s:D} {th op obj arg tries:Int} (h0:Wd (.sl 3) d0) (h1:Wd (.sl 4) d1) (hs:Wd (.sl 7) s) (hf:few s) (hop:iJ .u8 op)
include h0 h1 hf in
theorem LV (h:L 350 [enc d0,enc d1,enc s]=some [1]):EC d0 d1∧s.l.length=d0.l.length:=by obtain⟨b,hb,_,hi⟩:=oW h0 h1 hf.rows;rw [h] at hb;simp only [Option.some.injEq,List.cons.injEq,and_true] at hb;obtain⟨hC,hle,_⟩:=hi.1 hb.symm;obtain⟨ys,hC',c,rfl,_,hok⟩:=DC h0 h1;rw [hC] at hC';simp only [Option.some.injEq,List.cons.injEq,and_true] at hC';exact⟨(hok hC'.symm).1,hle⟩
include h0 h1 hf in
theorem aeG (A:Acc d0 d1 s th op obj):akT d0 (d0.at obj)∧s.l.length=d0.l.length:=by
 obtain⟨hok,hle⟩:=LV h0 h1 hf A.r;refine⟨?_,hle⟩;have a1:=A.o0; have a2:=A.o1;obtain⟨i,rfl⟩ : ∃i:Nat,obj=(i:Int):=⟨obj.toNat,by omega⟩;have hi:i < d0.l.length:=by omega
 rw [aX hi];exact hok.2.2 _ (List.getElem_mem hi)
include h0 h1 hs hf hop
theorem OE (A:Acc d0 d1 s th op obj) (h:op=12∨op=24):0≤Mx d0 obj∧Mx d0 obj < (s.l.length:Int)∧Mx d0 obj≠obj:=by
 obtain⟨ho,hle⟩:=aeG h0 h1 hf A
 have h4:((d0.at obj).hd 0).n=4:=by rw [← A.k];rcases h with rfl | rfl <;> rfl
 obtain⟨m1,m2,m3⟩:=ho.2.2.2.2.2 h4;refine⟨m1,by rw [hle]; exact m2,fun he=>?_⟩;have he:((d0.at obj).hd 2).n=obj:=he;rw [he,h4] at m3;omega
theorem Td (A:Acc d0 d1 s th op obj):op∈ops∧∃o c dn g r v,Tg (s.at obj) o c dn g r v∧
 L 400 [enc d0,enc d1,enc s,th,op,obj,arg,tries]=some (outA s th op obj (Mx d0 obj) (act (Mx d0 obj) (Mo d0 s obj) th op arg tries o c dn g r v)):=by
 obtain⟨ho,hle⟩:=aeG h0 h1 hf A;have hin:op∈ops:=alU hop.1 (by rw [A.k]; have:=ho.1; omega);have a1:=A.o0; have a2:=A.o1;obtain⟨i,rfl⟩ : ∃i:Nat,obj=(i:Int):=⟨obj.toNat,by omega⟩;have hi:i < s.l.length:=by omega
 have ht:=IX hs (by omega);obtain⟨o,c,dn,g,r,v,T⟩:=KR (hs.thing _ (List.getElem_mem hi));have hfx:=hf _ (List.getElem_mem hi);rw [T.is] at hfx;have hkk:L 600 [op]=some [((d0.at (i:Int)).hd 0).n]:=by rw [Wx op hop,A.k]
 refine⟨hin,o,c,dn,g,r,v,by rw [aX hi]; exact T,?_⟩;refine arL ⟨azD s ht i hi o c dn g r v T.is,aqF s hs,A.r,A.t0,A.t1,A.o0,A.o1,hle,hkk,?_,?_,(arI T.hr),fun h=>OE h0 h1 hs hf hop A h⟩ hin
 ·have:(r.l.length:Int) < 17592186044415:=Int.ofNat_lt.2 hfx.1;exact this
 ·have:(v.l.length:Int) < 17592186044415:=Int.ofNat_lt.2 hfx.2;exact this
theorem Yc (A: ¬Acc d0 d1 s th op obj):L 400 [enc d0,enc d1,enc s,th,op,obj,arg,tries]=some [enc s,0,0,0,0,0,0]:=by
 obtain⟨b,hb,hb2,_⟩:=oW h0 h1 hf.rows;by_cases ho:0≤obj∧obj < (s.l.length:Int)
 ·obtain⟨i,rfl⟩ : ∃i:Nat,obj=(i:Int):=⟨obj.toNat,by omega⟩;have hi:i < s.l.length:=by omega
  have ht:=IX hs (by omega);obtain⟨o,c,dn,g,r,v,T⟩:=KR (hs.thing _ (List.getElem_mem hi));have hcp:=azD s ht i hi o c dn g r v T.is
  have hss:s=dL (fP s.l (i:Int) (dL [.i o,.i c,.i dn,.i g,r,v])):=by have:=set_self ht.sh hi;rw [T.is] at this;exact this.symm
  have hkk:=Wx op hop
  have key: ∀alt:Int,(alt=3∨alt=4∨alt=5∨alt=6)→L 9000 [(i:Int),enc s]=some [alt,(i:Int),enc s,o,c,dn,g,enc r,enc v]→L 400 [enc d0,enc d1,enc s,th,op,(i:Int),arg,tries]=some [enc s,0,0,0,0,0,0]:=by
   intro alt ha hcp;by_cases hb0:b=0
   ·exact aEx hb ha hcp ho.1 ho.2 T.hd hss hb0
   ·have hb1:b=1:=by omega
    by_cases t0:th < 0
    ·exact aEw hb ha hcp ho.1 ho.2 T.hd hss hb0 t0
    ·by_cases t1:th < (d1.l.length:Int)
     ·have hne: ¬kindOf op=((d0.at (i:Int)).hd 0).n:=fun hk=>A ⟨by rw [hb,hb1],by omega,t1,ho.1,ho.2,hk⟩;obtain⟨_,hle⟩:=LV h0 h1 hf (by rw [hb,hb1]);exact aEy hb ha hcp ho.1 ho.2 T.hd hss hb0 (by omega) t1 hkk hle hne
     ·exact aEv hb ha hcp ho.1 ho.2 T.hd hss hb0 (by omega) t1
  refine key _ ?_ hcp;unfold oP;split <;> split <;> simp
 ·obtain⟨ys,hc,hys⟩:=copyN s hs obj (by omega);by_cases hn:obj < 0
  ·rcases hys with rfl | ⟨rfl,he⟩ | ⟨rfl,he⟩
   ·exact aCM hb hc hn
   ·exact aCK hb hc hn he
   ·exact aCI hb hc hn he
  ·rcases hys with rfl | ⟨rfl,he⟩ | ⟨rfl,he⟩
   ·exact aCL hb hc (by omega) (by omega)
   ·exact aCJ hb hc (by omega) (by omega) he
   ·exact aCH hb hc (by omega) (by omega) he
end
end Go.As.Try
end
section
namespace Go.As.Try
open Go hiding Stat Spec shape
open Go.As
set_option maxRecDepth 100000
theorem JU {d:D} {l:List D} (h: ∀x∈l,∃n,x= .i n∧iJ .i64 n) (hl:l.length≤17592186043904):Wd (.sl 0) (gV d l):=by
 cases l with
 | nil=>
   show Wd (.sl 0) (if d= .i 1 then .i 1 else .i 2);split
   ·exact .nil 0
   ·exact .non 0
 | cons a l=> refine .one 0 (.int .i64) (a :: l) rfl (by simp) (by have:yJ 0=8:=rfl; rw [this]; omega) fun x hx=>?_;obtain⟨n,rfl,hn⟩:=h x hx;exact .int _ _ hn
theorem CP {l:List D} (h: ∀x∈l,∃n,x= .i n∧iJ .i64 n) (hn:l≠[]) (hl:l.length≤17592186043904):Wd (.sl 0) (dL l):=by rw [← Gz (d:=.i 2) hn];exact JU h hl
theorem yN {r:D} (h:Wd (.sl 0) r): ∀x∈r.l,∃n,x= .i n∧iJ .i64 n:=fun x hx=>(h.el1 rfl x hx).i
theorem wrap_in (z:Int):iJ .i64 (IntKind.i64.wrap z):=by constructor <;> (rw [IntKind.wrap_i64]; omega)
def OQ (n:Nat):Act→Prop
 | .res o c dn g r v m _ oc=>iJ .i64 o∧iJ .i64 c∧(dn=0∨dn=1)∧iJ .i64 g∧Wd (.sl 0) r∧r.l.length≤n∧Wd (.sl 0) v∧v.l.length≤n∧(∀q,m=some q→iJ .i64 q)∧(oc=2∨oc=3)
 | _=>True
theorem OQ.ite {n:Nat} {p:Prop} [Decidable p] {a b:Act} (ha:OQ n a) (hb:OQ n b):OQ n (if p then a else b):=by
 split
 ·exact ha
 ·exact hb
def NoM:Act→Prop
 | .res _ _ _ _ _ _ m _ _=>m=none
 | _=>True
theorem NoM.ite {p:Prop} [Decidable p] {a b:Act} (ha:NoM a) (hb:NoM b):NoM (if p then a else b):=by
 split
 ·exact ha
 ·exact hb
section
variable {x:D} {M mo th op arg tries o c dn g:Int} {r v:D}
theorem aqZ (T:Tg x o c dn g r v) {n:Nat} (hr:r.l.length≤n) (hv:v.l.length≤n) (hn:n < 17592186043904) (ht:iJ .i64 th) (ha:iJ .i64 arg):OQ (n+1) (act M mo th op arg tries o c dn g r v):=by
 have hm:iJ .i64 (-1):=⟨by omega,by omega⟩;have hz:iJ .i64 0:=⟨by omega,by omega⟩;have e1: ∀q:Int,(none:Option Int)=some q→iJ .i64 q:=fun q h=>by simp at h
 have e2: ∀{p:Int},iJ .i64 p→∀q:Int,some p=some q→iJ .i64 q:=fun hp q h=>by simp only [Option.some.injEq] at h; exact h▸hp
 have hr1:r.l.length≤n+1:=by omega
 have hv1:v.l.length≤n+1:=by omega
 have w:=@wrap_in
 have sn: ∀{l:List D} {t:Int},(∀x∈l,∃n,x= .i n∧iJ .i64 n)→iJ .i64 t→∀x∈l++ [.i t],∃n,x= .i n∧iJ .i64 n:=fun h ht x hx=>by
  rcases List.mem_append.1 hx with hx | hx
  ·exact h x hx
  ·simp only [List.mem_cons,List.not_mem_nil,or_false] at hx;exact⟨_,hx,ht⟩
 have r5:Wd (.sl 0) (dL (r.l++ [.i th])):=CP (sn (yN T.hr) ht) (by simp) (by simp; omega);have l5:(dL (r.l++ [.i th])).l.length≤n+1:=by rw [aW]; simp; omega
 have r20:Wd (.sl 0) (dL (v.l++ [.i arg])):=CP (sn (yN T.hv) ha) (by simp) (by simp; omega);have l20:(dL (v.l++ [.i arg])).l.length≤n+1:=by rw [aW]; simp; omega
 have r12:Wd (.sl 0) (dL (wo th r.l++ [.i th])):=CP (sn (fun x hx=>(yN T.hr) x (List.mem_filter.1 hx).1) ht) (by simp) (by have:=ahI th r.l; simp; omega);have l12:(dL (wo th r.l++ [.i th])).l.length≤n+1:=by have:=ahI th r.l; rw [aW]; simp; omega
 have r6: ∀k,Wd (.sl 0) (gV (.i 2) (r.l.take k++r.l.drop (k+1))):=fun k=>JU (fun x hx=>by
  rcases List.mem_append.1 hx with hx | hx
  ·exact (yN T.hr) x (List.mem_of_mem_take hx)
  ·exact (yN T.hr) x (List.mem_of_mem_drop hx)) (by simp only [List.length_append,List.length_take,List.length_drop]; omega)
 have l6: ∀k,(gV (.i 2) (r.l.take k++r.l.drop (k+1))).l.length≤n+1:=fun k=>by rw [iO]; simp only [List.length_append,List.length_take,List.length_drop]; omega
 have r21:Wd (.sl 0) (gV v (v.l.drop 1)):=JU (fun x hx=>(yN T.hv) x (List.mem_of_mem_drop hx)) (by simp; omega);have l21:(gV v (v.l.drop 1)).l.length≤n+1:=by rw [iO]; simp; omega
 have r13:Wd (.sl 0) (gV r (r.l.drop 1)):=JU (fun x hx=>(yN T.hr) x (List.mem_of_mem_drop hx)) (by simp; omega);have l13:(gV r (r.l.drop 1)).l.length≤n+1:=by rw [iO]; simp; omega
 have r14:Wd (.sl 0) (.i 1):=.nil 0;have l14:(D.i 1).l.length≤n+1:=by simp [D.l]
 unfold act
 repeat' refine OQ.ite ?_ ?_
 all_goals first
  | trivial
  | exact⟨by first | exact T.ho | exact ht | exact hm,by first | exact T.hc | exact w _ | exact ha | exact hz,by first | exact T.hd | exact .inr rfl,by first | exact T.hg | exact w _,by first | exact T.hr | exact r5 | exact r6 _ | exact r12 | exact r13 | exact r14,by first | exact hr1 | exact l5 | exact l6 _ | exact l12 | exact l13 | exact l14,by first | exact T.hv | exact r20 | exact r21,by first | exact hv1 | exact l20 | exact l21,by first | exact e1 | exact e2 hm | exact e2 ht,by first | exact .inl rfl | exact .inr rfl⟩
theorem SC (h12:op≠12) (h24:op≠24):NoM (act M mo th op arg tries o c dn g r v):=by
 unfold act;rw [if_neg h12,if_neg h24]
 repeat' refine NoM.ite ?_ ?_
 all_goals first
  | exact rfl
  | trivial
end
end Go.As.Try
end
section
namespace Go.As.Try
open Go hiding Stat Spec shape
open Go.As
set_option maxRecDepth 100000
def isN (ys:List Int):Prop:= ∃v:Int,ys= [v]∧iJ .i64 v
theorem alZ:isN [0]:=⟨0,rfl,by constructor <;> omega⟩
theorem alY:isN [1]:=⟨1,rfl,by constructor <;> omega⟩
theorem axD (z:Int):isN [IntKind.i64.wrap z]:=⟨_,rfl,wrap_in z⟩
theorem LJ: ∀{d x:D},x∈d.l→SizeOf.sizeOf x < SizeOf.sizeOf d
 | .i _,x,h=>by simp [D.l] at h
 | .p a b,x,h=>by
   simp only [D.l,List.mem_cons] at h;rcases h with rfl | h
   ·simp only [D.p.sizeOf_spec]; omega
   ·have:=LJ (d:=b) h;simp only [D.p.sizeOf_spec]; omega
def Nums (l:List D):Prop:= ∀y∈l,iJ .i64 (apX y).n
theorem alB:Nums []:=fun y h=>by simp at h
theorem FU: ∀{l:List D} {k v:D},Nums l→iJ .i64 v.n→Nums (Bv l k v)
 | [],k,v,_,hv=>by intro y hy;simp only [Bv,List.mem_cons,List.not_mem_nil,or_false] at hy;subst hy;exact hv
 | d :: l,k,v,hl,hv=>by
   intro y hy;simp only [Bv] at hy;split at hy
   ·simp only [List.mem_cons] at hy;rcases hy with rfl | hy
    ·exact hv
    ·exact hl y (by simp [hy])
   ·simp only [List.mem_cons] at hy;rcases hy with rfl | hy
    ·exact hl _ (by simp)
    ·exact FU (fun z hz=>hl z (by simp [hz])) hv y hy
theorem Wi: ∀{l:List D} {k:D},Nums l→iJ .i64 ((nT l k).getD (.i 0)).n
 | [],k,_=>by constructor <;> simp [nT,D.n]
 | d :: l,k,hl=>by
   simp only [nT];split
   ·exact hl d (by simp)
   ·exact Wi fun y hy=>hl y (by simp [hy])
theorem atO {l:List D} {k:D} (h:Nums l):isN [((nT l k).getD (.i 0)).n]:=⟨_,rfl,Wi h⟩
def Ints (d:D):Prop:= ∀x∈d.l,iJ .i64 x.n
theorem ints_at {d:D} (h:Ints d) {i:Int} (h0: ¬i < 0) (h1:i < (d.l.length:Int)):iJ .i64 (d.at i).n:=by obtain⟨k,rfl⟩ : ∃k:Nat,i=(k:Int):=⟨i.toNat,by omega⟩;rw [aX (by omega:k < d.l.length)];exact h _ (List.getElem_mem _)
set_option maxHeartbeats 4000000 in
theorem WV: ∀(N:Nat) (kids:D),SizeOf.sizeOf kids≤N→Wd (.sl 6) kids→∀(k n:Int) (s loc:D),iJ .i64 n→Ints loc→Tot 1950 [k,enc s,n,enc kids,enc loc] isN
 | 0,kids,hN,_,_,_,_,_,_,_=>by exfalso;cases kids <;> simp at hN
 | N+1,kids,hN,hk,k,n,s,loc,hn,hi=>by
   have sub: ∀i:Nat,∃v:Int,iJ .i64 v∧(i < kids.l.length→L 1950 [((kids.at (i:Int)).hd 0).n,enc ((kids.at (i:Int)).hd 1),((kids.at (i:Int)).hd 2).n,enc ((kids.at (i:Int)).hd 3),enc loc]=some [v]):=by
    intro i;by_cases hil:i < kids.l.length
    ·obtain⟨k',s',n',ks',he,_,_,hn',h2⟩:=Dt hk hil
     have hsz:SizeOf.sizeOf ks' < SizeOf.sizeOf kids.l[i]:=by rw [he];exact LJ (by rw [aW]; simp)
     have hsz2:=LJ (List.getElem_mem hil);obtain⟨ys,hL,v,rfl,hv⟩:=WV N ks' (by omega) h2 k' n' s' loc hn' hi;refine⟨v,hv,fun _=>?_⟩;rw [aX hil,he];simp only [zg,Option.getD_some];exact hL
    ·exact⟨0,by constructor <;> omega,fun h=>absurd h hil⟩
   obtain⟨v0,hv0,h0⟩:=sub 0;obtain⟨v1,hv1,h1⟩:=sub 1;by_cases l1:(kids.l.length:Int)=1
   ·have h0:=h0 (by omega);simp only [Int.natCast_zero] at h0;refine Tot.of ?_;rw [adI];simp only [VH,zz,l1,h0]
    repeat' first | exact .out ⟨_,rfl,hn⟩ | exact .out alZ | exact .out alY | exact .out (axD _) | exact .out ⟨_,rfl,ints_at hi ‹_› ‹_›⟩ | refine .ite (fun _=>?_) (fun _=>?_)
   ·by_cases l2:(kids.l.length:Int)=2
    ·have h0:=h0 (by omega);have h1:=h1 (by omega);simp only [Int.natCast_zero,Int.natCast_one] at h0 h1;refine Tot.of ?_;rw [adI];simp only [VH,zz,l1,l2,h0,h1]
     repeat' first | exact .out ⟨_,rfl,hn⟩ | exact .out alZ | exact .out alY | exact .out (axD _) | exact .out ⟨_,rfl,ints_at hi ‹_› ‹_›⟩ | (simp only [aW]; exact .out (atO (FU (FU (FU alB (wrap_in _)) (wrap_in _)) (wrap_in _)))) | refine .ite (fun _=>?_) (fun _=>?_)
    ·refine Tot.of ?_;rw [adI];simp only [VH,zz,l1,l2]
     repeat' first | exact .out ⟨_,rfl,hn⟩ | exact .out alZ | exact .out alY | exact .out ⟨_,rfl,ints_at hi ‹_› ‹_›⟩ | refine .ite (fun _=>?_) (fun _=>?_)
end Go.As.Try
end
section
namespace Go.As.Try
open Go hiding Stat Spec shape
open Go.As
set_option maxRecDepth 100000
structure Kt (x:D) (a:Int) (lc:D) (w o g tr:Int):Prop where
 is:x=dL [.i a,lc,.i w,.i o,.i g,.i tr]
 ha:iJ .i64 a
 hl:Wd (.sl 0) lc
 hw:iJ .u8 w
 ho:iJ .i64 o
 hg:iJ .i64 g
 ht:iJ .i64 tr
theorem lW {d:D} (h:Wd (.sl 8) d): ∀x∈d.l,∃a lc w o g tr,Kt x a lc w o g tr:=by intro x hx;obtain⟨r,rfl,hl,hc⟩:=h.elN (cs:=[.int .i64,.sl 0,.int .u8,.int .i64,.int .i64,.int .i64]) rfl x hx;obtain⟨a,b,c,d,e,f,rfl⟩:=six hl;obtain⟨a,rfl,ha⟩:=(hc 0 _ _ rfl rfl).i;obtain⟨w,rfl,hw⟩:=(hc 2 _ _ rfl rfl).i;obtain⟨o,rfl,ho⟩:=(hc 3 _ _ rfl rfl).i;obtain⟨g,rfl,hg⟩:=(hc 4 _ _ rfl rfl).i;obtain⟨t,rfl,ht⟩:=(hc 5 _ _ rfl rfl).i;exact⟨a,b,w,o,g,t,rfl,ha,hc 1 _ _ rfl rfl,hw,ho,hg,ht⟩
structure Tk (d:D):Prop where
 wd:Wd (.sl 8) d
 sh:d=dL d.l
 few:d.l.length≤2199023255500
theorem O9 {d:D} (h:Wd (.sl 8) d) (hn:0 < d.l.length):Tk d:=by
 refine⟨h,?_,?_⟩
 ·rcases h.sh with rfl | rfl | ⟨h1,_⟩
  ·simp [D.l] at hn
  ·simp [D.l] at hn
  ·exact h1
 ·have hr:=h.room;have h3:yJ 8=64:=rfl;rw [h3] at hr;omega
theorem I7 (a b c d e f x:D):fP [a,b,c,d,e,f] 1 x= [a,x,c,d,e,f]:=rfl
theorem bC (j:Nat) (xs:List Int):fin L (.jump j xs)=L j xs:=rfl
theorem bJ (ys:List Int):fin L (.out ys)=some ys:=rfl
def EW (lc:D):Int:=if 0 < lc.l.length then 3 else 4
theorem XG {lc:D} (h:(0:Int) < (lc.l.length:Int)):EW lc=3:=if_pos (by omega)
theorem Va (d:D) (h:Th d) (x0:Int) (k:D): ∀(j i:Nat),i+j=d.l.length→L 9051 [x0,(d.l.length:Int),(i:Int),enc d,enc k]=L 9060 [x0,(k.l.length:Int),0,enc d,enc k]
 | 0,i,hi=>by
   have c1: ¬(i:Int) < (d.l.length:Int):=by omega
   rw [aQ,anS];simp only [aaK,zz,c1,bC,Int.natCast_zero]
 | j+1,i,hi=>by
   have hl:=h.few;have hil:i < d.l.length:=by omega
   have c1:(i:Int) < (d.l.length:Int):=by omega
   have c2: ¬((i:Int) < 0):=by omega
   have w:=aY (n:=i) (by omega);have ih:=Va d h x0 k j (i+1) (by omega);obtain⟨o,c,dn,g,r,v,he,_,_,_,_,hr,hv⟩:=h.wd.thing _ (List.getElem_mem hil);have hs:=set_self h.sh hil;rw [he] at hs;rw [aQ,anS];rcases cO hr with rfl | rfl | ⟨r1,r2⟩ <;> rcases cO hv with rfl | rfl | ⟨v1,v2⟩
   all_goals
    simp only [aaK,zz,c1,c2,w,aX hil,he,iL,aW,List.getElem?_cons_zero,List.getElem?_cons_succ,TL,TJ,hs,len1,len2,xZ,qB]
    try simp only [r1,r2,zz]
    try simp only [v1,v2,zz]
    try simp only [bC]
    exact ih
theorem adR (d:D) (h:Th d) (x0:Int): ∀(j i:Nat),i+j=d.l.length→L 9052 [x0,(d.l.length:Int),(i:Int),enc d]=L 9061 [x0,enc d]
 | 0,i,hi=>by
   have c1: ¬(i:Int) < (d.l.length:Int):=by omega
   rw [aQ,anR];simp only [aaJ,zz,c1,bC,Int.natCast_zero]
 | j+1,i,hi=>by
   have hl:=h.few;have hil:i < d.l.length:=by omega
   have c1:(i:Int) < (d.l.length:Int):=by omega
   have c2: ¬((i:Int) < 0):=by omega
   have w:=aY (n:=i) (by omega);have ih:=adR d h x0 j (i+1) (by omega);obtain⟨o,c,dn,g,r,v,he,_,_,_,_,hr,hv⟩:=h.wd.thing _ (List.getElem_mem hil);have hs:=set_self h.sh hil;rw [he] at hs;rw [aQ,anR];rcases cO hr with rfl | rfl | ⟨r1,r2⟩ <;> rcases cO hv with rfl | rfl | ⟨v1,v2⟩
   all_goals
    simp only [aaJ,zz,c1,c2,w,aX hil,he,iL,aW,List.getElem?_cons_zero,List.getElem?_cons_succ,TL,TJ,hs,len1,len2,xZ,qB]
    try simp only [r1,r2,zz]
    try simp only [v1,v2,zz]
    try simp only [bC]
    exact ih
theorem adX (k:D) (h:Tk k) (x0:Int) (s:D): ∀(j i:Nat),(hx:x0 < 0∨(k.l.length:Int)≤x0)→i+j=k.l.length→L 9060 [x0,(k.l.length:Int),(i:Int),enc s,enc k]=some [0,x0,enc s,enc k]
 | 0,i,hx,hi=>by
   have c1: ¬(i:Int) < (k.l.length:Int):=by omega
   rw [aQ,Xl];by_cases c0:(i:Int)=x0
   ·subst c0;simp only [Fe,zz,c1,bJ]
   ·simp only [Fe,zz,c0,c1,bJ]
 | j+1,i,hx,hi=>by
   have hl:=h.few;have hil:i < k.l.length:=by omega
   have c1:(i:Int) < (k.l.length:Int):=by omega
   have c2: ¬((i:Int) < 0):=by omega
   have c0: ¬((i:Int)=x0):=by omega
   have w:=aY (n:=i) (by omega);have ih:=adX k h x0 s j (i+1) hx (by omega);obtain⟨a,lc,w',o,g,tr,T⟩:=lW h.wd _ (List.getElem_mem hil);have hs:=set_self h.sh hil;rw [T.is] at hs;rw [aQ,Xl];rcases cO T.hl with rfl | rfl | ⟨r1,r2⟩
   all_goals
    simp only [Fe,zz,c0,c1,c2,w,aX hil,T.is,iL,aW,List.getElem?_cons_zero,List.getElem?_cons_succ,I7,hs,len1,len2,xZ,qB]
    try simp only [r1,r2,zz]
    try simp only [bC]
    exact ih
theorem adW (k:D) (h:Tk k) (x0:Int): ∀(j i:Nat),(hx:x0 < 0∨(k.l.length:Int)≤x0)→i+j=k.l.length→L 9063 [x0,(k.l.length:Int),(i:Int),enc k]=some [0,x0,enc (.i 1),enc k]
 | 0,i,hx,hi=>by
   have c1: ¬(i:Int) < (k.l.length:Int):=by omega
   rw [aQ,Xk];by_cases c0:(i:Int)=x0
   ·subst c0;simp only [Fb,zz,c1,bJ]
   ·simp only [Fb,zz,c0,c1,bJ]
 | j+1,i,hx,hi=>by
   have hl:=h.few;have hil:i < k.l.length:=by omega
   have c1:(i:Int) < (k.l.length:Int):=by omega
   have c2: ¬((i:Int) < 0):=by omega
   have c0: ¬((i:Int)=x0):=by omega
   have w:=aY (n:=i) (by omega);have ih:=adW k h x0 j (i+1) hx (by omega);obtain⟨a,lc,w',o,g,tr,T⟩:=lW h.wd _ (List.getElem_mem hil);have hs:=set_self h.sh hil;rw [T.is] at hs;rw [aQ,Xk];rcases cO T.hl with rfl | rfl | ⟨r1,r2⟩
   all_goals
    simp only [Fb,zz,c0,c1,c2,w,aX hil,T.is,iL,aW,List.getElem?_cons_zero,List.getElem?_cons_succ,I7,hs,len1,len2,xZ,qB]
    try simp only [r1,r2,zz]
    try simp only [bC]
    exact ih
theorem adV (k:D) (h:Tk k) (gi:Nat) (x4 x5 x6 x7 x8 x9:Int) (s:D): ∀(j i:Nat),gi < i→i+j=k.l.length→L 9069 [(gi:Int),(k.l.length:Int),(i:Int),enc s,enc k,x4,x5,x6,x7,x8,x9]=some [3,(gi:Int),enc s,enc k,x4,x5,x6,x7,x8,x9]
 | 0,i,hg,hi=>by
   have c1: ¬(i:Int) < (k.l.length:Int):=by omega
   have c0: ¬((i:Int)=(gi:Int)):=by omega
   rw [aQ,anQ];simp only [aaI,zz,c0,c1,bJ]
 | j+1,i,hg,hi=>by
   have hl:=h.few;have hil:i < k.l.length:=by omega
   have c1:(i:Int) < (k.l.length:Int):=by omega
   have c2: ¬((i:Int) < 0):=by omega
   have c0: ¬((i:Int)=(gi:Int)):=by omega
   have w:=aY (n:=i) (by omega);have ih:=adV k h gi x4 x5 x6 x7 x8 x9 s j (i+1) (by omega) (by omega);obtain⟨a,lc,w',o,g,tr,T⟩:=lW h.wd _ (List.getElem_mem hil);have hs:=set_self h.sh hil;rw [T.is] at hs;rw [aQ,anQ];rcases cO T.hl with rfl | rfl | ⟨r1,r2⟩
   all_goals
    simp only [aaI,zz,c0,c1,c2,w,aX hil,T.is,iL,aW,List.getElem?_cons_zero,List.getElem?_cons_succ,I7,hs,len1,len2,xZ,qB]
    try simp only [r1,r2,zz]
    try simp only [bC]
    exact ih
theorem Vd (k:D) (h:Tk k) (gi:Nat) (x4 x5 x6 x7 x8 x9:Int) (s:D): ∀(j i:Nat),gi < i→i+j=k.l.length→L 9070 [(gi:Int),(k.l.length:Int),(i:Int),enc s,enc k,x4,x5,x6,x7,x8,x9]=some [4,(gi:Int),enc s,enc k,x4,x5,x6,x7,x8,x9]
 | 0,i,hg,hi=>by
   have c1: ¬(i:Int) < (k.l.length:Int):=by omega
   have c0: ¬((i:Int)=(gi:Int)):=by omega
   rw [aQ,anP];simp only [aaH,zz,c0,c1,bJ]
 | j+1,i,hg,hi=>by
   have hl:=h.few;have hil:i < k.l.length:=by omega
   have c1:(i:Int) < (k.l.length:Int):=by omega
   have c2: ¬((i:Int) < 0):=by omega
   have c0: ¬((i:Int)=(gi:Int)):=by omega
   have w:=aY (n:=i) (by omega);have ih:=Vd k h gi x4 x5 x6 x7 x8 x9 s j (i+1) (by omega) (by omega);obtain⟨a,lc,w',o,g,tr,T⟩:=lW h.wd _ (List.getElem_mem hil);have hs:=set_self h.sh hil;rw [T.is] at hs;rw [aQ,anP];rcases cO T.hl with rfl | rfl | ⟨r1,r2⟩
   all_goals
    simp only [aaH,zz,c0,c1,c2,w,aX hil,T.is,iL,aW,List.getElem?_cons_zero,List.getElem?_cons_succ,I7,hs,len1,len2,xZ,qB]
    try simp only [r1,r2,zz]
    try simp only [bC]
    exact ih
theorem adU (k:D) (h:Tk k) (gi:Nat) (x4 x5 x6 x7 x8 x9:Int): ∀(j i:Nat),gi < i→i+j=k.l.length→L 9071 [(gi:Int),(k.l.length:Int),(i:Int),enc k,x4,x5,x6,x7,x8,x9]=some [3,(gi:Int),enc (.i 1),enc k,x4,x5,x6,x7,x8,x9]
 | 0,i,hg,hi=>by
   have c1: ¬(i:Int) < (k.l.length:Int):=by omega
   have c0: ¬((i:Int)=(gi:Int)):=by omega
   rw [aQ,anO];simp only [aaG,zz,c0,c1,bJ]
 | j+1,i,hg,hi=>by
   have hl:=h.few;have hil:i < k.l.length:=by omega
   have c1:(i:Int) < (k.l.length:Int):=by omega
   have c2: ¬((i:Int) < 0):=by omega
   have c0: ¬((i:Int)=(gi:Int)):=by omega
   have w:=aY (n:=i) (by omega);have ih:=adU k h gi x4 x5 x6 x7 x8 x9 j (i+1) (by omega) (by omega);obtain⟨a,lc,w',o,g,tr,T⟩:=lW h.wd _ (List.getElem_mem hil);have hs:=set_self h.sh hil;rw [T.is] at hs;rw [aQ,anO];rcases cO T.hl with rfl | rfl | ⟨r1,r2⟩
   all_goals
    simp only [aaG,zz,c0,c1,c2,w,aX hil,T.is,iL,aW,List.getElem?_cons_zero,List.getElem?_cons_succ,I7,hs,len1,len2,xZ,qB]
    try simp only [r1,r2,zz]
    try simp only [bC]
    exact ih
theorem Vb (k:D) (h:Tk k) (gi:Nat) (x4 x5 x6 x7 x8 x9:Int): ∀(j i:Nat),gi < i→i+j=k.l.length→L 9072 [(gi:Int),(k.l.length:Int),(i:Int),enc k,x4,x5,x6,x7,x8,x9]=some [4,(gi:Int),enc (.i 1),enc k,x4,x5,x6,x7,x8,x9]
 | 0,i,hg,hi=>by
   have c1: ¬(i:Int) < (k.l.length:Int):=by omega
   have c0: ¬((i:Int)=(gi:Int)):=by omega
   rw [aQ,anN];simp only [aaF,zz,c0,c1,bJ]
 | j+1,i,hg,hi=>by
   have hl:=h.few;have hil:i < k.l.length:=by omega
   have c1:(i:Int) < (k.l.length:Int):=by omega
   have c2: ¬((i:Int) < 0):=by omega
   have c0: ¬((i:Int)=(gi:Int)):=by omega
   have w:=aY (n:=i) (by omega);have ih:=Vb k h gi x4 x5 x6 x7 x8 x9 j (i+1) (by omega) (by omega);obtain⟨a,lc,w',o,g,tr,T⟩:=lW h.wd _ (List.getElem_mem hil);have hs:=set_self h.sh hil;rw [T.is] at hs;rw [aQ,anN];rcases cO T.hl with rfl | rfl | ⟨r1,r2⟩
   all_goals
    simp only [aaF,zz,c0,c1,c2,w,aX hil,T.is,iL,aW,List.getElem?_cons_zero,List.getElem?_cons_succ,I7,hs,len1,len2,xZ,qB]
    try simp only [r1,r2,zz]
    try simp only [bC]
    exact ih
theorem adT (k:D) (h:Tk k) (s:D) (gi:Nat) (hgi:gi < k.l.length) (a:Int) (lc:D) (w o g tr:Int) (T:Kt k.l[gi] a lc w o g tr): ∀(j i:Nat),i+j=gi→L 9060 [(gi:Int),(k.l.length:Int),(i:Int),enc s,enc k]=some [EW lc,(gi:Int),enc s,enc k,a,enc lc,w,o,g,tr]
 | 0,i,hi=>by
   have hl:=h.few;have he:i=gi:=by omega
   subst he;have c1:(i:Int) < (k.l.length:Int):=by omega
   have c2: ¬((i:Int) < 0):=by omega
   have w':=aY (n:=i) (by omega);rw [aQ,Xl];rcases cO T.hl with rfl | rfl | ⟨r1,r2⟩
   ·have ih:=Vd k h i a (enc (.i 1)) w o g tr s (k.l.length - (i+1)) (i+1) (by omega) (by omega);simp only [Fe,zz,c1,c2,w',aX hgi,T.is,iL,aW,List.getElem?_cons_zero,List.getElem?_cons_succ,List.getElem?_nil,Option.getD_none,len1,len2,xZ,qB,bC];exact ih
   ·have ih:=Vd k h i a (enc (.i 2)) w o g tr s (k.l.length - (i+1)) (i+1) (by omega) (by omega);simp only [Fe,zz,c1,c2,w',aX hgi,T.is,iL,aW,List.getElem?_cons_zero,List.getElem?_cons_succ,List.getElem?_nil,Option.getD_none,len1,len2,xZ,qB,bC];exact ih
   ·have ih:=adV k h i a (enc lc) w o g tr s (k.l.length - (i+1)) (i+1) (by omega) (by omega);simp only [Fe,zz,c1,c2,w',aX hgi,T.is,iL,aW,List.getElem?_cons_zero,List.getElem?_cons_succ,len1,len2,xZ,qB];simp only [r1,r2,zz,bC];rw [XG r1];exact ih
 | j+1,i,hi=>by
   have hl:=h.few;have hil:i < k.l.length:=by omega
   have c1:(i:Int) < (k.l.length:Int):=by omega
   have c2: ¬((i:Int) < 0):=by omega
   have c0: ¬((i:Int)=(gi:Int)):=by omega
   have w1:=aY (n:=i) (by omega);have ih:=adT k h s gi hgi a lc w o g tr T j (i+1) (by omega);obtain⟨a',lc',w',o',g',tr',T'⟩:=lW h.wd _ (List.getElem_mem hil);have hs:=set_self h.sh hil;rw [T'.is] at hs;rw [aQ,Xl];rcases cO T'.hl with rfl | rfl | ⟨r1,r2⟩
   all_goals
    simp only [Fe,zz,c0,c1,c2,w1,aX hil,T'.is,iL,aW,List.getElem?_cons_zero,List.getElem?_cons_succ,I7,hs,len1,len2,xZ,qB]
    try simp only [r1,r2,zz]
    try simp only [bC]
    exact ih
theorem adS (k:D) (h:Tk k) (gi:Nat) (hgi:gi < k.l.length) (a:Int) (lc:D) (w o g tr:Int) (T:Kt k.l[gi] a lc w o g tr): ∀(j i:Nat),i+j=gi→L 9063 [(gi:Int),(k.l.length:Int),(i:Int),enc k]=some [EW lc,(gi:Int),enc (.i 1),enc k,a,enc lc,w,o,g,tr]
 | 0,i,hi=>by
   have hl:=h.few;have he:i=gi:=by omega
   subst he;have c1:(i:Int) < (k.l.length:Int):=by omega
   have c2: ¬((i:Int) < 0):=by omega
   have w':=aY (n:=i) (by omega);rw [aQ,Xk];rcases cO T.hl with rfl | rfl | ⟨r1,r2⟩
   ·have ih:=Vb k h i a (enc (.i 1)) w o g tr (k.l.length - (i+1)) (i+1) (by omega) (by omega);simp only [Fb,zz,c1,c2,w',aX hgi,T.is,iL,aW,List.getElem?_cons_zero,List.getElem?_cons_succ,List.getElem?_nil,Option.getD_none,len1,len2,xZ,qB,bC];exact ih
   ·have ih:=Vb k h i a (enc (.i 2)) w o g tr (k.l.length - (i+1)) (i+1) (by omega) (by omega);simp only [Fb,zz,c1,c2,w',aX hgi,T.is,iL,aW,List.getElem?_cons_zero,List.getElem?_cons_succ,List.getElem?_nil,Option.getD_none,len1,len2,xZ,qB,bC];exact ih
   ·have ih:=adU k h i a (enc lc) w o g tr (k.l.length - (i+1)) (i+1) (by omega) (by omega);simp only [Fb,zz,c1,c2,w',aX hgi,T.is,iL,aW,List.getElem?_cons_zero,List.getElem?_cons_succ,len1,len2,xZ,qB];simp only [r1,r2,zz,bC];rw [XG r1];exact ih
 | j+1,i,hi=>by
   have hl:=h.few;have hil:i < k.l.length:=by omega
   have c1:(i:Int) < (k.l.length:Int):=by omega
   have c2: ¬((i:Int) < 0):=by omega
   have c0: ¬((i:Int)=(gi:Int)):=by omega
   have w1:=aY (n:=i) (by omega);have ih:=adS k h gi hgi a lc w o g tr T j (i+1) (by omega);obtain⟨a',lc',w',o',g',tr',T'⟩:=lW h.wd _ (List.getElem_mem hil);have hs:=set_self h.sh hil;rw [T'.is] at hs;rw [aQ,Xk];rcases cO T'.hl with rfl | rfl | ⟨r1,r2⟩
   all_goals
    simp only [Fb,zz,c0,c1,c2,w1,aX hil,T'.is,iL,aW,List.getElem?_cons_zero,List.getElem?_cons_succ,I7,hs,len1,len2,xZ,qB]
    try simp only [r1,r2,zz]
    try simp only [bC]
    exact ih
structure Sk (s k:D):Prop where
 ws:Wd (.sl 7) s
 wk:Wd (.sl 8) k
 n2s:s≠.i 2
 n2k:k≠.i 2
theorem YQ {t:Nat} {d:D} (h:Wd (.sl t) d) (h2:d≠.i 2):d= .i 1∨0 < d.l.length:=by
 rcases h.sh with h1 | h1 | ⟨_,h1⟩
 ·exact .inl h1
 ·exact absurd h1 h2
 ·exact .inr (List.length_pos_iff.2 h1)
theorem atH (x0:Int) (s:D):L 9061 [x0,enc s]=some [1,x0,enc s]:=by rw [aQ,axL];simp only [ahZ,zz];split <;> rfl
theorem atG (x0:Int):L 9064 [x0]=some [1,x0,enc (.i 1)]:=by rw [aQ,axK];simp only [ahY,zz];split <;> rfl
theorem amT (x0:Int) (k:D):L 9054 [x0,enc k]=L 9063 [x0,(k.l.length:Int),0,enc k]:=by rw [aQ,axN];simp only [aiA,zz,bC]
theorem aAP (x0:Int):L 9055 [x0]=L 9064 [x0]:=by rw [aQ,axM];rfl
section
variable {s k:D} (h:Sk s k)
include h
theorem Sv {gi:Nat} (hgi:gi < k.l.length) {a:Int} {lc:D} {w o g tr:Int} (T:Kt k.l[gi] a lc w o g tr):L 9050 [(gi:Int),enc s,enc k]=some [EW lc,(gi:Int),enc s,enc k,a,enc lc,w,o,g,tr]:=by
 have hk:0 < k.l.length:=by omega
 have hK:=O9 h.wk hk;have hl':=hK.few;have c1':(0:Int) < (k.l.length:Int):=by omega
 have c2':(k.l.length:Int) < 2199023255552:=by omega
 rw [aQ,anT];rcases YQ h.ws h.n2s with rfl | hs
 ·simp only [IY,zz,len1,xZ,c1',c2',bC];exact (amT _ k).trans (adS k hK gi hgi a lc w o g tr T gi 0 (by omega))
 ·have hT:=IX h.ws hs;have hl:=hT.few;have c1:(0:Int) < (s.l.length:Int):=by omega
  have c2:(s.l.length:Int) < 1759218604441:=by omega
  simp only [IY,zz,xZ,c1,c2,c1',c2',bC];exact (Va s hT _ k s.l.length 0 (by omega)).trans (adT k hK s gi hgi a lc w o g tr T gi 0 (by omega))
theorem agS {x:Int} (hx:x < 0∨(k.l.length:Int)≤x):L 9050 [x,enc s,enc k]=some [0,x,enc s,enc k]∨L 9050 [x,enc s,enc k]=some [1,x,enc s]∧k= .i 1:=by
 rw [aQ,anT];rcases YQ h.ws h.n2s with rfl | hs <;> rcases YQ h.wk h.n2k with rfl | hk
 ·refine .inr ⟨?_,rfl⟩;simp only [IY,zz,len1,xZ,bC];exact (aAP _).trans (atG _)
 ·have hK:=O9 h.wk hk;have hl:=hK.few;have c1:(0:Int) < (k.l.length:Int):=by omega
  have c2:(k.l.length:Int) < 2199023255552:=by omega
  refine .inl ?_;simp only [IY,zz,len1,xZ,c1,c2,bC];exact (amT _ k).trans (adW k hK _ k.l.length 0 hx (by omega))
 ·have hT:=IX h.ws hs;have hl:=hT.few;have c1:(0:Int) < (s.l.length:Int):=by omega
  have c2:(s.l.length:Int) < 1759218604441:=by omega
  refine .inr ⟨?_,rfl⟩;simp only [IY,zz,len1,xZ,c1,c2,bC];exact (adR s hT _ s.l.length 0 (by omega)).trans (atH _ s)
 ·have hT:=IX h.ws hs;have hl:=hT.few;have c1:(0:Int) < (s.l.length:Int):=by omega
  have c2:(s.l.length:Int) < 1759218604441:=by omega
  have hK:=O9 h.wk hk;have hl':=hK.few;have c1':(0:Int) < (k.l.length:Int):=by omega
  have c2':(k.l.length:Int) < 2199023255552:=by omega
  refine .inl ?_;simp only [IY,zz,xZ,c1,c2,c1',c2',bC];exact (Va s hT _ k s.l.length 0 (by omega)).trans (adX k hK _ s k.l.length 0 hx (by omega))
end
end Go.As.Try
end
section
namespace Go.As.Try
open Go hiding Stat Spec shape
open Go.As
set_option maxRecDepth 100000
def EqI (a b:D) (i:Nat):Prop:= ∀(k:Nat) (h1:k < a.l.length) (h2:k < b.l.length),i≤k→(a.l[k]).n=(b.l[k]).n
theorem EqI.step {a b:D} {i:Nat} (h1:i < a.l.length) (h2:i < b.l.length) (h:(a.l[i]).n=(b.l[i]).n):EqI a b i↔EqI a b (i+1):=by
 constructor
 ·intro q k x y z;exact q k x y (by omega)
 ·intro q k x y z;by_cases hk:k=i
  ·subst hk;exact h
  ·exact q k x y (by omega)
theorem EqI.end' {a b:D} {i:Nat} (h:a.l.length≤i):EqI a b i:=fun k h1 _ h3=>absurd h1 (by omega)
section
variable {a b:D} (hle:a.l.length=b.l.length) (hlen:a.l.length≤140737488351232)
include hle hlen
theorem Rj: ∀(j i:Nat),i+j=a.l.length→∃c:Int,L 251 [enc a,enc b,(i:Int)]=some [c]∧(c=0∨c=1)∧(c=1↔EqI a b i)
 | 0,i,hi=>by
   have c1: ¬(i:Int) < (a.l.length:Int):=by omega
   refine⟨1,?_,.inr rfl,fun _=>EqI.end' (by omega),fun _=>rfl⟩;rw [aQ,e251];simp only [aiY,zz,c1,fin]
 | j+1,i,hi=>by
   have hil:i < a.l.length:=by omega
   have hib:i < b.l.length:=by omega
   have c1:(i:Int) < (a.l.length:Int):=by omega
   have c2: ¬((i:Int) < 0):=by omega
   have c3:(i:Int) < (b.l.length:Int):=by omega
   have w:=aY (n:=i) (by omega);obtain⟨c,h1,h2,h3⟩:=Rj j (i+1) (by omega);by_cases he:(a.l[i]).n=(b.l[i]).n
   ·refine⟨c,?_,h2,h3.trans (EqI.step hil hib he).symm⟩;rw [aQ,e251];simp only [aiY,zz,c1,c2,c3,w,aX hil,aX hib,he,fin,h1]
   ·refine⟨0,?_,.inl rfl,fun h=>absurd h (by omega),fun h=>absurd (h i hil hib (Nat.le_refl i)) he⟩;rw [aQ,e251];simp only [aiY,zz,c1,c2,c3,w,aX hil,aX hib,he,fin]
end
def arB (a b:D):Prop:=a.l.length=b.l.length∧EqI a b 0
theorem afU (a b:D) (hlen:a.l.length≤140737488351232): ∃c:Int,L 250 [enc a,enc b]=some [c]∧(c=0∨c=1)∧(c=1↔arB a b):=by
 by_cases hl:a.l.length=b.l.length
 ·obtain⟨c,h1,h2,h3⟩:=Rj hl hlen a.l.length 0 (by omega);refine⟨c,?_,h2,h3.trans ⟨fun h=> ⟨hl,h⟩,fun h=>h.2⟩⟩;have hl':(a.l.length:Int)=(b.l.length:Int):=by omega
  rw [aQ,e250,asF,dP,if_pos,nZ]
  ·simp only [List.map,bK,aP,Nat.reduceLT,aH,aN,fin];exact h1
  ·simp only [iI,gU,aP,Nat.reduceLT,aH,aN,aA,iM];exact hl'
 ·refine⟨0,?_,.inl rfl,fun h=>absurd h (by omega),fun h=>absurd h.1 hl⟩;have hl': ¬(a.l.length:Int)=(b.l.length:Int):=by omega
  rw [aQ,e250,asF,dP,if_neg]
  ·simp only [jL,List.map,bK,fin]
  ·simp only [iI,gU,aP,Nat.reduceLT,aH,aN,aA,iM];exact hl'
theorem O8 (x y:D) (hle:x.l.length=y.l.length) (hlen:x.l.length≤140737488351232) (x0 x1 x2:Int) (i:Nat) (hi:i < 9223372036854775807) (c:Int) (hc:c=0∨c=1) (h:L 201 [x0,x1,x2,((i+1:Nat):Int)]=some [c]) (x6 x7 x8 x9 x10 x12 x13 x14 x15 x16:Int) :
 ∀(j k:Nat),k+j=x.l.length→∃e:Int,L 202 [x0,x1,x2,(i:Int),(x.l.length:Int),(k:Int),x6,x7,x8,x9,x10,enc x,x12,x13,x14,x15,x16,enc y]=some [e]∧(e=0∨e=1)∧(e=1↔EqI x y k∧c=1)
 | 0,k,hk=>by
   have c1: ¬(k:Int) < (x.l.length:Int):=by omega
   have w:=aY (n:=i) (by omega);refine⟨c,?_,hc,fun h=> ⟨EqI.end' (by omega),h⟩,fun h=>h.2⟩;rw [aQ,avF];simp only [ajA,zz,c1,w,fin,h]
 | j+1,k,hk=>by
   have hil:k < x.l.length:=by omega
   have hib:k < y.l.length:=by omega
   have c1:(k:Int) < (x.l.length:Int):=by omega
   have c2: ¬((k:Int) < 0):=by omega
   have c3:(k:Int) < (y.l.length:Int):=by omega
   have w:=aY (n:=k) (by omega);obtain⟨e,h1,h2,h3⟩:=O8 x y hle hlen x0 x1 x2 i hi c hc h x6 x7 x8 x9 x10 x12 x13 x14 x15 x16 j (k+1) (by omega);by_cases he:(x.l[k]).n=(y.l[k]).n
   ·refine⟨e,?_,h2,h3.trans ⟨fun q=> ⟨(EqI.step hil hib he).2 q.1,q.2⟩,fun q=> ⟨(EqI.step hil hib he).1 q.1,q.2⟩⟩⟩;rw [aQ,avF];simp only [ajA,zz,c1,c2,c3,w,aX hil,aX hib,he,fin,h1]
   ·refine⟨0,?_,.inl rfl,fun h=>absurd h (by omega),fun h=>absurd (h.1 k hil hib (Nat.le_refl k)) he⟩;rw [aQ,avF];simp only [ajA,zz,c1,c2,c3,w,aX hil,aX hib,he,fin]
end Go.As.Try
end
section
namespace Go.As.Try
open Go hiding Stat Spec shape
open Go.As
set_option maxRecDepth 100000
theorem H7 (ρ) (a b:SB):((SB.and a b).den ρ=true)=(a.den ρ=true∧b.den ρ=true):=by simp [SB.den]
structure aEf (x y:D):Prop where
 o:(x.hd 0).n=(y.hd 0).n
 c:(x.hd 1).n=(y.hd 1).n
 d:(x.hd 2).n=0↔(y.hd 2).n=0
 g:(x.hd 3).n=(y.hd 3).n
 r:arB (x.hd 4) (y.hd 4)
 v:arB (x.hd 5) (y.hd 5)
def XI (a b:D) (i:Nat):Prop:= ∀(k:Nat) (h1:k < a.l.length) (h2:k < b.l.length),i≤k→aEf a.l[k] b.l[k]
theorem bits {p q:Int}:((¬(¬p=0∧¬q=0))∧¬(¬¬p=0∧¬¬q=0))↔¬(p=0↔q=0):=by omega
def TN (s:D):Prop:= ∀x∈s.l,(x.hd 4).l.length≤140737488351232∧(x.hd 5).l.length≤140737488351232
section
variable {a b:D} (hle:a.l.length=b.l.length) (hlen:a.l.length≤140737488351232) (hr:TN a)
include hle hlen hr
theorem PK: ∀(j i:Nat),i+j=a.l.length→∃c:Int,L 201 [enc a,enc b,(a.l.length:Int),(i:Int)]=some [c]∧(c=0∨c=1)∧(c=1↔XI a b i)
 | 0,i,hi=>by
   have c1: ¬(i:Int) < (a.l.length:Int):=by omega
   refine⟨1,?_,.inr rfl,fun _ k h1 _ h3=>absurd h1 (by omega),fun _=>rfl⟩;rw [aQ,U5];simp only [t201,zz,c1,fin]
 | j+1,i,hi=>by
   have hil:i < a.l.length:=by omega
   have hib:i < b.l.length:=by omega
   have c1:(i:Int) < (a.l.length:Int):=by omega
   have c2: ¬((i:Int) < 0):=by omega
   have c3:(i:Int) < (b.l.length:Int):=by omega
   obtain⟨c,h1,h2,h3⟩:=PK j (i+1) (by omega);have hb:=hr _ (List.getElem_mem hil);by_cases b0:((a.l[i]).hd 0).n=((b.l[i]).hd 0).n
   case neg=>
    refine⟨0,?_,.inl rfl,fun h=>absurd h (by omega),fun h=>absurd (h i hil hib (Nat.le_refl i)).o b0⟩;rw [aQ,U5];simp only [t201,zz,c1,c2,c3,aX hil,aX hib,b0,fin]
   by_cases b1:((a.l[i]).hd 1).n=((b.l[i]).hd 1).n
   case neg=>
    refine⟨0,?_,.inl rfl,fun h=>absurd h (by omega),fun h=>absurd (h i hil hib (Nat.le_refl i)).c b1⟩;rw [aQ,U5];simp only [t201,zz,c1,c2,c3,aX hil,aX hib,b0,b1,fin]
   by_cases b2:(((a.l[i]).hd 2).n=0↔((b.l[i]).hd 2).n=0)
   case neg=>
    refine⟨0,?_,.inl rfl,fun h=>absurd h (by omega),fun h=>absurd (h i hil hib (Nat.le_refl i)).d b2⟩;rw [aQ,U5];have b2':=bits.2 b2;simp only [t201,zz,H7,LK,c1,c2,c3,aX hil,aX hib,b0,b1,if_pos b2',fin]
   have b2': ¬_:=fun h=>bits.1 h b2;by_cases b3:((a.l[i]).hd 3).n=((b.l[i]).hd 3).n
   case neg=>
    refine⟨0,?_,.inl rfl,fun h=>absurd h (by omega),fun h=>absurd (h i hil hib (Nat.le_refl i)).g b3⟩;rw [aQ,U5];simp only [t201,zz,H7,LK,c1,c2,c3,aX hil,aX hib,b0,b1,if_neg b2',b3,fin]
   obtain⟨e,g1,g2,g3⟩:=afU ((a.l[i]).hd 4) ((b.l[i]).hd 4) hb.1;by_cases b4:e=0
   ·subst b4;refine⟨0,?_,.inl rfl,fun h=>absurd h (by omega),fun h=>absurd (g3.2 (h i hil hib (Nat.le_refl i)).r) (by omega)⟩;rw [aQ,U5];simp only [t201,zz,H7,LK,c1,c2,c3,aX hil,aX hib,b0,b1,if_neg b2',b3,g1,fin]
   have he:e=1:=by omega
   subst he;by_cases b5:((a.l[i]).hd 5).l.length=((b.l[i]).hd 5).l.length
   case neg=>
    have b5': ¬(((a.l[i]).hd 5).l.length:Int)=(((b.l[i]).hd 5).l.length:Int):=by omega
    refine⟨0,?_,.inl rfl,fun h=>absurd h (by omega),fun h=>absurd (h i hil hib (Nat.le_refl i)).v.1 b5⟩;rw [aQ,U5];simp only [t201,zz,H7,LK,c1,c2,c3,aX hil,aX hib,b0,b1,if_neg b2',b3,g1,aK,b5',fin]
   have b5':(((a.l[i]).hd 5).l.length:Int)=(((b.l[i]).hd 5).l.length:Int):=by omega
   obtain⟨f,f1,f2,f3⟩:=O8 ((a.l[i]).hd 5) ((b.l[i]).hd 5) b5 hb.2 (enc a) (enc b) (a.l.length:Int) i (by omega) c h2 h1 ((b.l[i]).hd 0).n ((b.l[i]).hd 1).n ((a.l[i]).hd 2).n ((b.l[i]).hd 3).n (enc ((a.l[i]).hd 4)) ((b.l[i]).hd 0).n ((b.l[i]).hd 1).n ((b.l[i]).hd 2).n ((b.l[i]).hd 3).n (enc ((b.l[i]).hd 4)) ((a.l[i]).hd 5).l.length 0 (by omega);refine⟨f,?_,f2,fun h k k1 k2 k3=>?_,fun h=>f3.2 ⟨(h i hil hib (Nat.le_refl i)).v.2,h3.2 fun k k1 k2 k3=>h k k1 k2 (by omega)⟩⟩
   ·rw [aQ,U5];rw [b5'] at f1;simp only [t201,zz,H7,LK,c1,c2,c3,aX hil,aX hib,b0,b1,if_neg b2',b3,g1,aK,b5',fin];exact f1
   ·by_cases hk:k=i
    ·subst hk;exact⟨b0,b1,b2,b3,g3.1 rfl,b5,(f3.1 h).1⟩
    ·exact h3.1 (f3.1 h).2 k k1 k2 (by omega)
end
theorem aeT (a b:D) (hlen:a.l.length≤140737488351232) (hr:TN a): ∃c:Int,L 200 [enc a,enc b]=some [c]∧(c=0∨c=1)∧(c=1↔a.l.length=b.l.length∧XI a b 0):=by
 by_cases hl:a.l.length=b.l.length
 ·obtain⟨c,h1,h2,h3⟩:=PK hl hlen hr a.l.length 0 (by omega);refine⟨c,?_,h2,h3.trans ⟨fun h=> ⟨hl,h⟩,fun h=>h.2⟩⟩;have hl':(a.l.length:Int)=(b.l.length:Int):=by omega
  rw [aQ,aBP,asG,dP,if_pos,nZ]
  ·simp only [List.map,bK,gU,iM,aP,Nat.reduceLT,aH,aN,aA,fin];exact h1
  ·simp only [iI,gU,aP,Nat.reduceLT,aH,aN,aA,iM];exact hl'
 ·refine⟨0,?_,.inl rfl,fun h=>absurd h (by omega),fun h=>absurd h.1 hl⟩;have hl': ¬(a.l.length:Int)=(b.l.length:Int):=by omega
  rw [aQ,aBP,asG,dP,if_neg]
  ·simp only [jL,List.map,bK,fin]
  ·simp only [iI,gU,aP,Nat.reduceLT,aH,aN,aA,iM];exact hl'
end Go.As.Try
end
section
namespace Go.As.Try
open Go hiding Stat Spec shape
open Go.As
set_option maxRecDepth 100000
end Go.As.Try
end
section
namespace Go.As.Try
open Go hiding Stat Spec shape
open Go.As
set_option maxRecDepth 100000
theorem agT {d0:D} (hl:d0.l.length≤64) (hn:0 < d0.l.length):L 301 [enc d0,(d0.l.length:Int)]=some [enc (dL (d0.l.map mG))]:=by
 have e0:=OC d0 hl (d0.l.length - 1) 1 [mG (d0.l[0]'hn)] (by omega) rfl
 have e1:[mG (d0.l[0]'hn)]++(d0.l.drop 1).map mG=d0.l.map mG:=by
  conv=>rhs; rw [← List.drop_zero (l:=d0.l),List.drop_eq_getElem_cons hn]
  rfl
 rw [e1] at e0;have a0:d0.at 0=d0.l[0]'hn:=aX (i:=0) hn;have c1:(0:Int) < (d0.l.length:Int):=by omega
 have key: ∀q:Int,q=(if (((d0.l[0]'hn)).hd 0).n=3∨((d0.l[0]'hn).hd 0).n=9 then ((d0.l[0]'hn).hd 2).n else 0)→enc (dL [mG (d0.l[0]'hn)])=enc (.p (.p (.i (-1)) (.p (.i q) (.p (.i 0) (.p (.i 0) (.p (.i 1) (.p (.i 1) (.i 0))))))) (.i 0)):=fun q hq=>by rw [hq]; rfl
 have k:dY (bM L (low [enc d0,(d0.l.length:Int)])) Yh= .jump 302 [enc (dL [mG (d0.l[0]'hn)]),enc d0,(d0.l.length:Int),1]:=by
  by_cases h3:((d0.l[0]'hn).hd 0).n=3
  ·rw [key _ (by rw [if_pos (.inl h3)])];simp only [Yh,zz,c1,a0,AP,List.nil_append,h3,dL]
  ·by_cases h9:((d0.l[0]'hn).hd 0).n=9
   ·rw [key _ (by rw [if_pos (.inr h9)])];simp only [Yh,zz,c1,a0,AP,List.nil_append,if_neg h3,if_pos h9,dL]
   ·rw [key 0 (by rw [if_neg (by omega)])];simp only [Yh,zz,c1,a0,AP,List.nil_append,if_neg h3,if_neg h9,dL]
 rw [aQ,e301];exact (congrArg (fin L) k).trans e0
theorem aqR {d0 d1:D} (hc:L 450 [enc d0,enc d1]=some [0]) (hl:d0.l.length≤64) (hn:0 < d0.l.length):L 300 [enc d0,enc d1]=some [enc (dL (d0.l.map mG))]:=by
 have k:dY (bM L (low [enc d0,enc d1])) aiW= .jump 301 [enc d0,(d0.l.length:Int)]:=by refine bU [.eq (a0 450 [.aO 0,.aO 1]) (.lit 1),.eq (rr 450 [.aO 0,.aO 1] 0) (.lit 0)] [] (ju 301 [.aO 0,ln (.aO 0)]) (by simp only [zz,hc]) (by kernel_rfl) ?_;simp only [nZ,List.map,aP,gU,Nat.reduceLT,aH,aN,aA]
 rw [aQ,e300];exact (congrArg (fin L) k).trans (agT hl hn)
theorem aqQ {d0 d1:D} {c:Int} (hc:L 450 [enc d0,enc d1]=some [c]) (h:c≠0∨d0.l.length=0):L 300 [enc d0,enc d1]=some [enc (.i 1)]:=by
 by_cases h0:c=0
 ·subst h0;have hz:d0.l.length=0:=h.resolve_left (fun h=>h rfl)
  have k:dY (bM L (low [enc d0,enc d1])) aiW= .jump 301 [enc d0,0]:=by refine bU [.eq (a0 450 [.aO 0,.aO 1]) (.lit 1),.eq (rr 450 [.aO 0,.aO 1] 0) (.lit 0)] [] (ju 301 [.aO 0,ln (.aO 0)]) (by simp only [zz,hc]) (by kernel_rfl) ?_;simp only [nZ,List.map,aP,gU,Nat.reduceLT,aH,aN,aA,hz];rfl
  have k1:dY (bM L (low [enc d0,0])) Yh= .out [enc (.i 1)]:=by refine bU [] [.lt (.lit 0) (.aO 1)] (ou [.dat (.i 1)]) (by simp only [zz] <;> omega) (by kernel_rfl) rfl
  rw [aQ,e300];refine (congrArg (fin L) k).trans ?_;show L 301 [enc d0,0]=_;rw [aQ,e301];exact congrArg (fin L) k1
 ·have k:dY (bM L (low [enc d0,enc d1])) aiW= .out [enc (.i 1)]:=by
   refine bU [.eq (a0 450 [.aO 0,.aO 1]) (.lit 1)] [.eq (rr 450 [.aO 0,.aO 1] 0) (.lit 0)] (ou [.dat (.i 1)]) (by simp only [zz,hc] <;> omega) (by kernel_rfl) rfl
  rw [aQ,e300];exact congrArg (fin L) k
structure Gs (s:D) (n:Nat):Prop where
 wd:Wd (.sl 7) s
 rows: ∀x∈s.l,(x.hd 4).l.length≤n∧(x.hd 5).l.length≤n
theorem Gs.few {s:D} {n:Nat} (h:Gs s n) (hn:n < 17592186044415):few s:=fun x hx=>by have:=h.rows x hx; omega
theorem Gs.mono {s:D} {n m:Nat} (h:Gs s n) (hm:n≤m):Gs s m:=⟨h.wd,fun x hx=>by have:=h.rows x hx; omega⟩
theorem O6 {l:List D} (h: ∀x∈l,Dj x) (hn:l≠[]) (hl:l.length≤1759218604390):Wd (.sl 7) (dL l):=by
 have e:(l.map fun x=>x.l).map dL=l:=by
  rw [List.map_map]
  conv=>rhs; rw [← List.map_id l]
  apply List.map_congr_left;intro x hx;obtain⟨o,c,d,g,r,v,rfl,_⟩:=h x hx;rfl
 rw [← e];refine .many 7 [.int .i64,.int .i64,.bool,.int .i64,.sl 0,.sl 0] _ rfl (by simpa using hn) (by have:yJ 7=80:=rfl; rw [this,List.length_map]; omega) (fun r hr=>?_) fun r hr j d c h1 h2=>?_
 ·obtain⟨x,hx,rfl⟩:=List.mem_map.1 hr;obtain⟨o,c,d,g,r,v,rfl,_⟩:=h x hx;rfl
 ·obtain⟨x,hx,rfl⟩:=List.mem_map.1 hr;obtain⟨o,c',d',g,r,v,rfl,ho,hc,hd,hg,hr,hv⟩:=h x hx;rw [aW] at h1
  match j with
  | 0=>simp at h1 h2; subst h1 h2; exact .int _ _ ho
  | 1=>simp at h1 h2; subst h1 h2; exact .int _ _ hc
  | 2=>
    simp at h1 h2; subst h1 h2;rcases hd with rfl | rfl
    ·exact .bool false
    ·exact .bool true
  | 3=>simp at h1 h2; subst h1 h2; exact .int _ _ hg
  | 4=>simp at h1 h2; subst h1 h2; exact hr
  | 5=>simp at h1 h2; subst h1 h2; exact hv
  | j+6=>simp at h1
theorem Tg.thing {x:D} {o c dn g:Int} {r v:D} (T:Tg x o c dn g r v):Dj x:=⟨o,c,dn,g,r,v,T.is,T.ho,T.hc,T.hd,T.hg,T.hr,T.hv⟩
theorem Bq {l:List D} {z:Int} {y x:D} (h:x∈fP l z y):x∈l∨x=y:=by
 unfold fP at h;split at h
 ·exact .inl h
 ·exact List.mem_or_eq_of_mem_set h
theorem sK {l:List D} {z:Int} {y:D} {k:Nat} (h:(k:Int)≠z):(fP l z y)[k]?=l[k]?:=by
 unfold fP;split
 ·rfl
 ·rw [List.getElem?_set,if_neg (by omega)]
theorem Nv {l:List D} {k:Nat} {y:D} (h:k < l.length):(fP l (k:Int) y)[k]?=some y:=by rw [xK,List.getElem?_set,if_pos rfl,if_pos h]
theorem Zd {s:D} {n:Nat} (G:Gs s n) {z:Int} {y:D} (hy:Dj y) (h4:(y.hd 4).l.length≤n) (h5:(y.hd 5).l.length≤n) (hn:0 < s.l.length):Gs (dL (fP s.l z y)) n:=by
 have ht:=IX G.wd hn;refine⟨O6 (fun x hx=>?_) (fun he=>?_) (by rw [iH]; exact ht.few),fun x hx=>?_⟩
 ·rcases Bq hx with h | rfl
  ·exact G.wd.thing x h
  ·exact hy
 ·have:=iH s.l z y;rw [he] at this;simp at this;omega
 ·rw [aW] at hx;rcases Bq hx with h | rfl
  ·exact G.rows x h
  ·exact⟨h4,h5⟩
theorem VZ (s:D) (obj M:Int) (A:Act):(Ey s obj M A).l.length=s.l.length:=by
 cases A with
 | blk=>rfl
 | mis=>rfl
 | res o c dn g r v m a oc=>
   unfold Ey;rw [aW,iH]
   cases m with
   | none=>rfl
   | some q=>exact iH _ _ _
theorem abQ {s:D} {n:Nat} (G:Gs s n) {obj M:Int} {A:Act} (hA:OQ (n+1) A) (ho0:0≤obj) (ho1:obj < (s.l.length:Int)) (hM:NoM A∨0≤M∧M < (s.l.length:Int)):Gs (Ey s obj M A) (n+1):=by
 have G1:=G.mono (Nat.le_succ n)
 cases A with
 | blk=>exact G1
 | mis=>exact G1
 | res o c dn g r v m a oc=>
   obtain⟨h1,h2,h3,h4,h5,h6,h7,h8,h9,_⟩:=hA
   have hd:(if dn=0 then (0:Int) else 1)=dn:=by rcases h3 with rfl | rfl <;> rfl
   have hy:Dj (dL [.i o,.i c,.i (if dn=0 then 0 else 1),.i g,r,v]):=⟨o,c,_,g,r,v,rfl,h1,h2,by rw [hd]; exact h3,h4,h5,h7⟩
   cases m with
   | none=>exact Zd G1 hy h6 h8 (by omega)
   | some q=>
     have hM:0≤M∧M < (s.l.length:Int):=hM.resolve_left (fun h=>by simp [NoM] at h);obtain⟨k,rfl⟩ : ∃k:Nat,M=(k:Int):=⟨M.toNat,by omega⟩;have hk:k < s.l.length:=by omega
     obtain⟨o',c',d',g',r',v',he,q1,q2,q3,q4,q5,q6⟩:=G.wd.thing _ (List.getElem_mem hk);have hrw:=G1.rows _ (List.getElem_mem hk);rw [he] at hrw;have hz:dL (fP (s.at (k:Int)).l 0 (.i q))=dL [.i q,.i c',.i d',.i g',r',v']:=by rw [aX hk,he]; rfl
     have G2:Gs (dL (fP s.l (k:Int) (dL (fP (s.at (k:Int)).l 0 (.i q))))) (n+1):=by rw [hz];exact Zd G1 ⟨q,c',d',g',r',v',rfl,h9 q rfl,q2,q3,q4,q5,q6⟩ hrw.1 hrw.2 (by omega)
     have:=Zd (z:=obj) G2 hy h6 h8 (by rw [aW,iH]; omega);rw [aW] at this;exact this
theorem akQ {s:D} {obj M:Int} {A:Act} {k:Nat} (h:(k:Int)≠obj) (hM:NoM A∨(k:Int)≠M):(Ey s obj M A).l[k]?=s.l[k]?:=by
 cases A with
 | blk=>rfl
 | mis=>rfl
 | res o c dn g r v m a oc=>
   unfold Ey;rw [aW,sK h]
   cases m with
   | none=>rfl
   | some q=> have hM:(k:Int)≠M:=hM.resolve_left (fun h=>by simp [NoM] at h);exact sK hM
def evA (th op obj:Int):Act→List Int
 | .blk=>[0,0,0,0,0,0]
 | .mis=>[th,27,obj,IntKind.i64.wrap op,0,2]
 | .res _ _ _ _ _ _ _ a oc=>[th,op,obj,a,0,oc]
theorem Ub (s:D) (th op obj M:Int) (A:Act):outA s th op obj M A=enc (Ey s obj M A) :: evA th op obj A:=by cases A <;> rfl
end Go.As.Try
end
section
namespace Go.As.Try
open Go hiding Stat Spec shape
open Go.As
set_option maxRecDepth 100000
theorem z6:((2:Int)=1)=False∧((4:Int)=3)=False∧((5:Int)=3)=False∧((5:Int)=4)=False∧((6:Int)=3)=False∧((6:Int)=4)=False∧((6:Int)=5)=False∧((7:Int)=3)=False∧((7:Int)=4)=False∧((7:Int)=5)=False∧((7:Int)=6)=False:=by simp
structure KT where
 a:Int
 lc:D
 w:Int
 o:Int
 g:Int
 tr:Int
abbrev KT.d (x:KT):D:=dL [.i x.a,x.lc,.i x.w,.i x.o,.i x.g,.i x.tr]
structure Cd (d0 d1:D):Prop where
 h0:Wd (.sl 3) d0
 h1:Wd (.sl 4) d1
 ok:EC d0 d1
 ins: ∀x∈d1.l,acQ d0 x
theorem MR.code {d0 d1 s k:D} (h0:Wd (.sl 3) d0) (h1:Wd (.sl 4) d1) (hr:Ib s) (M:MR d0 d1 s k):Cd d0 d1∧s.l.length=d0.l.length:=by obtain⟨b,hb,_,hi⟩:=oW h0 h1 hr;rw [M.1] at hb;simp only [Option.some.injEq,List.cons.injEq,and_true] at hb;obtain⟨hC,hle,_⟩:=hi.1 hb.symm;obtain⟨ys,hC',c,rfl,_,hok⟩:=DC h0 h1;rw [hC] at hC';simp only [Option.some.injEq,List.cons.injEq,and_true] at hC';have:=hok hC'.symm;exact⟨⟨h0,h1,this.1,this.2⟩,hle⟩
structure Rt (d0 d1:D) (t:Int) (x:KT):Prop where
 t0:0≤t
 t1:t < (d1.l.length:Int)
 ok:OkT d0 ((d1.at t).hd 1).l.length ((d1.at t).hd 2).l.length x.a x.lc.l.length x.w x.o x.g x.tr
 hl:Wd (.sl 0) x.lc
 hg:iJ .i64 x.g
abbrev Ins (d1:D) (t:Int) (x:KT):D:=((d1.at t).hd 2).at x.a
abbrev Nc (d1:D) (t:Int):Nat:=((d1.at t).hd 2).l.length
structure InF (d0:D) (nl nc:Nat) (I:D):Prop where
 ok:OkI d0 nl nc (I.hd 0).n (I.hd 1).n (I.hd 2).n (I.hd 3).n (I.hd 4).n (I.hd 6).l.length
 op:iJ .u8 (I.hd 1).n
 ob:iJ .i64 (I.hd 2).n
 to:iJ .i64 (I.hd 4).n
 nn:iJ .i64 (I.hd 5).n
 ar:Wd (.sl 6) (I.hd 6)
theorem Cd.at {d0 d1:D} (C:Cd d0 d1) {t:Int} (t0:0≤t) (t1:t < (d1.l.length:Int)):d1.at t∈d1.l:=by obtain⟨i,rfl⟩ : ∃i:Nat,t=(i:Int):=⟨t.toNat,by omega⟩;rw [aX (by omega:i < d1.l.length)];exact List.getElem_mem _
theorem alJ {d:D} {i:Int} (h0:0≤i) (h1:i < (d.l.length:Int)):d.at i∈d.l:=by obtain⟨k,rfl⟩ : ∃k:Nat,i=(k:Int):=⟨i.toNat,by omega⟩;rw [aX (by omega:k < d.l.length)];exact List.getElem_mem _
theorem Cd.code {d0 d1:D} (C:Cd d0 d1) {t:Int} (t0:0≤t) (t1:t < (d1.l.length:Int)):Wd (.sl 5) ((d1.at t).hd 2):=by
 obtain⟨i,rfl⟩ : ∃i:Nat,t=(i:Int):=⟨t.toNat,by omega⟩;have hi:i < d1.l.length:=by omega
 obtain⟨nm',lc,cd,he,_,_,h⟩:=Fa C.h1 hi;rw [aX hi,he];exact h
theorem Cd.inf {d0 d1:D} (C:Cd d0 d1) {t:Int} {x:KT} (R:Rt d0 d1 t x) (h:x.a < (Nc d1 t:Int)):InF d0 ((d1.at t).hd 1).l.length (Nc d1 t) (Ins d1 t x):=by
 have ha:=R.ok.1;have h1:=C.ins _ (C.at R.t0 R.t1) (Ins d1 t x) (alJ ha h);obtain⟨i,hi⟩ : ∃i:Nat,x.a=(i:Int):=⟨x.a.toNat,by omega⟩;have hil:i < ((d1.at t).hd 2).l.length:=by unfold Nc at h; omega
 obtain⟨a,b,c,e,f,g,OU,he,_,hb,hc,_,hf,hg,hw⟩:=Y8 (C.code R.t0 R.t1) hil;have hI:Ins d1 t x=dL [.i a,.i b,.i c,.i e,.i f,.i g,OU]:=by unfold Ins; rw [hi,aX hil,he]
 refine⟨h1,?_,?_,?_,?_,?_⟩
 all_goals
  rw [hI];simp only [zg,Option.getD_some,n_i];assumption
theorem Rt.ints {d0 d1:D} {t:Int} {x:KT} (R:Rt d0 d1 t x):Ints x.lc:=fun y hy=>by obtain⟨n,rfl,hn⟩:=(R.hl.el1 rfl y hy).i;exact hn
section
variable {d0 d1 s k:D} {t:Int} {x:KT} (hk:k.at t=x.d) (ht:t < (k.l.length:Int)) (R:Rt d0 d1 t x)
include hk ht R
def kN (d1:D) (t:Int) (x:KT):Int:=if x.w=0 then (if x.a=(Nc d1 t:Int) then 1 else 0) else 0
theorem FI:L 1650 [enc d0,enc d1,enc s,enc k,t]=some [kN d1 t x]:=by
 have c1: ¬t < 0:=by have:=R.t0; omega
 have c2:=R.t1;unfold kN Nc;rw [aQ,ayO];simp only [ajB,zz,hk,c1,ht,c2,zg];by_cases w0:x.w=0
 ·simp only [w0,if_true];by_cases a0:x.a=(((d1.at t).hd 2).l.length:Int)
  ·simp only [a0,if_true];rfl
  ·simp only [a0,if_false];rfl
 ·simp only [w0,if_false];rfl
end
noncomputable def ev (e lc:D):Int:=low ((L 1950 [(e.hd 0).n,enc (e.hd 1),(e.hd 2).n,enc (e.hd 3),enc lc]).getD []) 0
theorem WW {IQ lc:D} (ha:Wd (.sl 6) IQ) (hl:Ints lc) {i:Int} (i0:0≤i) (i1:i < (IQ.l.length:Int)):L 1950 [((IQ.at i).hd 0).n,enc ((IQ.at i).hd 1),((IQ.at i).hd 2).n,enc ((IQ.at i).hd 3),enc lc]=some [ev (IQ.at i) lc]∧iJ .i64 (ev (IQ.at i) lc):=by
 obtain⟨j,rfl⟩ : ∃j:Nat,i=(j:Int):=⟨i.toNat,by omega⟩;have hj:j < IQ.l.length:=by omega
 obtain⟨k',s',n',ks',he,_,_,hn',h2⟩:=Dt ha hj;obtain⟨ys,hL,v,rfl,hv⟩:=WV _ ks' (Nat.le_refl _) h2 k' n' s' lc hn' hl;have e1:IQ.at (j:Int)=dL [.i k',s',.i n',ks']:=by rw [aX hj,he]
 unfold ev;rw [e1];simp only [zg,Option.getD_some,n_i,hL,aH];exact⟨trivial,hv⟩
noncomputable def Vm (IQ lc:D):Int:=if IQ.l.length=0 then 0 else ev (IQ.at ((IQ.l.length:Int) - 1)) lc
theorem avY {IQ lc:D} (ha:Wd (.sl 6) IQ) (hl:Ints lc):iJ .i64 (Vm IQ lc):=by
 unfold Vm;split
 ·constructor <;> omega
 ·exact (WW ha hl (by omega) (by omega)).2
theorem QM {IQ lc:D} (ha:Wd (.sl 6) IQ) (hl:Ints lc) (x3 x5 x6 x7 x8 x9 x10:Int): ∀(j i:Nat) (v:Int),i+j=IQ.l.length→L 1751 [enc IQ,(IQ.l.length:Int),(i:Int),x3,enc lc,x5,x6,x7,x8,x9,x10,v]=some [x9,x10,if j=0 then v else Vm IQ lc,x8,1]
 | 0,i,v,hi=>by
   have c1: ¬(i:Int) < (IQ.l.length:Int):=by omega
   rw [aQ,aoM];simp only [abA,zz,c1,bJ,if_true]
 | j+1,i,v,hi=>by
   have hr:=ha.len;have c1:(i:Int) < (IQ.l.length:Int):=by omega
   have c2: ¬((i:Int) < 0):=by omega
   have w:=aY (n:=i) (by omega);obtain⟨he,_⟩:=WW ha hl (i:=(i:Int)) (by omega) c1;have ih:=QM ha hl x3 x5 x6 x7 x8 x9 x10 j (i+1) (ev (IQ.at (i:Int)) lc) (by omega);rw [aQ,aoM];simp only [abA,zz,c1,c2,w,he,bC];rw [ih,if_neg (Nat.succ_ne_zero j)];by_cases hj:j=0
   ·subst hj;rw [if_pos rfl];unfold Vm;rw [if_neg (by omega),show ((IQ.l.length:Int) - 1)=(i:Int) by omega]
   ·rw [if_neg hj]
noncomputable def kV (d1:D) (t:Int) (x:KT):List Int:=
 if x.w=0 then
  if x.a=(Nc d1 t:Int) then [0,0,0,0,0]
  else if ((Ins d1 t x).hd 0).n=1 then [((Ins d1 t x).hd 1).n,((Ins d1 t x).hd 2).n,Vm ((Ins d1 t x).hd 6) x.lc,x.tr,1]
  else if ((Ins d1 t x).hd 0).n=2 then [26,((Ins d1 t x).hd 2).n,0,0,1]
  else [0,0,0,0,0]
 else [x.w,x.o,x.g,0,1]
section
variable {d0 d1 s k:D} {t:Int} {x:KT} (C:Cd d0 d1) (hk:k.at t=x.d) (ht:t < (k.l.length:Int)) (R:Rt d0 d1 t x)
include C hk ht R
theorem Ug:L 1750 [enc d0,enc d1,enc s,enc k,t]=some (kV d1 t x):=by
 have c1: ¬t < 0:=by have:=R.t0; omega
 have c2:=R.t1;have c3: ¬x.a < 0:=by have:=R.ok.1; omega
 have ho:=FI (s:=s) hk ht R;unfold kV;rw [aQ,ayN];by_cases w0:x.w=0
 ·by_cases a0:x.a=(Nc d1 t:Int)
  ·have e:kN d1 t x=1:=by unfold kN; rw [if_pos w0,if_pos a0]
   rw [e] at ho;rw [if_pos w0,if_pos a0];simp only [KY,zz,hk,c1,ht,c2,zg,w0,ho,aK,bJ]
  ·have e:kN d1 t x=0:=by unfold kN; rw [if_pos w0,if_neg a0]
   rw [e] at ho;have hlt:x.a < (Nc d1 t:Int):=by have:=R.ok.2.1; unfold Nc at a0 ⊢; omega
   have F:=C.inf R hlt;rw [if_pos w0,if_neg a0];unfold Ins at F ⊢;unfold Nc at hlt;by_cases h1:((((d1.at t).hd 2).at x.a).hd 0).n=1
   ·rw [if_pos h1];have lp:=QM F.ar R.ints x.a x.w x.o x.g x.tr ((((d1.at t).hd 2).at x.a).hd 1).n ((((d1.at t).hd 2).at x.a).hd 2).n ((((d1.at t).hd 2).at x.a).hd 6).l.length 0 0 (by omega)
    have e2:(if ((((d1.at t).hd 2).at x.a).hd 6).l.length=0 then 0 else Vm ((((d1.at t).hd 2).at x.a).hd 6) x.lc)=Vm ((((d1.at t).hd 2).at x.a).hd 6) x.lc:=by
     by_cases hz:((((d1.at t).hd 2).at x.a).hd 6).l.length=0
     ·rw [if_pos hz]; unfold Vm; rw [if_pos hz]
     ·rw [if_neg hz]
    rw [e2] at lp;simp only [KY,zz,hk,c1,ht,c2,c3,zg,w0,ho,hlt,h1,bC];rw [w0] at lp;exact lp
   ·by_cases h2:((((d1.at t).hd 2).at x.a).hd 0).n=2
    ·rw [if_neg h1,if_pos h2];simp only [KY,zz,hk,c1,ht,c2,c3,zg,w0,ho,hlt,h2,bJ,if_false,z6]
    ·rw [if_neg h1,if_neg h2];simp only [KY,zz,hk,c1,ht,c2,c3,zg,w0,ho,hlt,h1,h2,bJ]
 ·rw [if_neg w0];simp only [KY,zz,hk,c1,ht,zg,w0,bJ]
end
noncomputable def AO (I:D) (x:KT):KT:=
 if (I.hd 0).n=3 then { x with a:=x.a+1,lc:=dL (fP x.lc.l (I.hd 3).n (.i (ev ((I.hd 6).at 0) x.lc))) }
 else if (I.hd 0).n=4 then (if ev ((I.hd 6).at 0) x.lc=0 then { x with a:=(I.hd 4).n } else { x with a:=x.a+1 })
 else if (I.hd 0).n=5 then { x with a:=(I.hd 4).n }
 else if (I.hd 0).n=6 then { x with a:=x.a+1,lc:=dL (fP x.lc.l (I.hd 3).n (.i (I.hd 5).n)) }
 else if 0 < (x.lc.at (I.hd 3).n).n then { x with a:=x.a+1,lc:=dL (fP x.lc.l (I.hd 3).n (.i (IntKind.i64.wrap ((x.lc.at (I.hd 3).n).n - 1)))) }
 else { x with a:=(I.hd 4).n }
structure Loc (d1:D) (t:Int) (x:KT):Prop where
 w:x.w=0
 a:x.a < (Nc d1 t:Int)
 n1:((Ins d1 t x).hd 0).n≠1
 n2:((Ins d1 t x).hd 0).n≠2
theorem Y0 {d0 d1:D} {t:Int} {x:KT} (R:Rt d0 d1 t x) (ho:kN d1 t x=0) (hn:low (kV d1 t x) 4=0):Loc d1 t x:=by
 unfold kN at ho;unfold kV at hn;have h2:=R.ok.2.1;by_cases w0:x.w=0
 ·rw [if_pos w0] at ho hn;by_cases a0:x.a=(Nc d1 t:Int)
  ·rw [if_pos a0] at ho;omega
  ·rw [if_neg a0] at hn;by_cases h1:((Ins d1 t x).hd 0).n=1
   ·rw [if_pos h1] at hn;simp only [aN,aH] at hn;omega
   ·by_cases h2':((Ins d1 t x).hd 0).n=2
    ·rw [if_neg h1,if_pos h2'] at hn;simp only [aN,aH] at hn;omega
    ·exact⟨w0,by unfold Nc at a0 ⊢; omega,h1,h2'⟩
 ·rw [if_neg w0] at hn;simp only [aN,aH] at hn;omega
section
variable {d0 d1 s k:D} {t:Int} {x:KT} (C:Cd d0 d1) (ht:t < (k.l.length:Int)) (R:Rt d0 d1 t x) (Lc:Loc d1 t x)
include C ht R Lc
theorem alQ:L 14000 [enc d0,enc d1,t,enc s,enc k,x.a,enc x.lc,x.w,x.o,x.g,x.tr]=some [0,enc d0,enc d1,t,enc s,enc k,x.a,enc x.lc,x.w,x.o,x.g,x.tr,(AO (Ins d1 t x) x).a,enc (AO (Ins d1 t x) x).lc]:=by
 have c1: ¬t < 0:=by have:=R.t0; omega
 have c2:=R.t1;have c3: ¬x.a < 0:=by have:=R.ok.1; omega
 have c4:=Lc.a;have F:=C.inf R c4;have hln:(x.lc.l.length:Int)=(((d1.at t).hd 1).l.length:Int):=R.ok.2.2.1;have hnc:((d1.at t).hd 2).l.length≤140737488351232:=(C.code R.t0 R.t1).len;have n1:=Lc.n1;have n2:=Lc.n2
 have hw:IntKind.i64.wrap (x.a+1)=x.a+1:=by refine pJ (by omega) ?_;unfold Nc at c4;omega
 have E:=WW F.ar R.ints (i:=0);have ok:=F.ok;unfold Ins at n1 n2 ok E ⊢;unfold Nc at c4;rw [aQ,aoV];unfold AO;rcases ok with h | h | ⟨h,i0,i1,na⟩ | ⟨h,_,_,na⟩ | ⟨h,_⟩ | ⟨h,i0,i1⟩ | ⟨h,i0,i1,_⟩
 ·exact absurd h.1 n1
 ·exact absurd h.1 n2
 ·have c5: ¬(((((d1.at t).hd 2).at x.a).hd 3).n < 0):=by omega
  have c6:(((((d1.at t).hd 2).at x.a).hd 3).n < (x.lc.l.length:Int)):=by omega
  have c7:(0:Int) < (((((d1.at t).hd 2).at x.a).hd 6).l.length:Int):=by omega
  obtain⟨E,_⟩:=E (by omega) c7;simp only [yP,zz,c1,ht,c2,c3,c4,c5,c6,c7,h,E,hw,bJ]
 ·have c7:(0:Int) < (((((d1.at t).hd 2).at x.a).hd 6).l.length:Int):=by omega
  obtain⟨E,_⟩:=E (by omega) c7;by_cases hz:ev (((((d1.at t).hd 2).at x.a).hd 6).at 0) x.lc=0
  ·simp only [yP,zz,c1,ht,c2,c3,c4,c7,h,E,hw,hz,bJ,z6]
  ·simp only [yP,zz,c1,ht,c2,c3,c4,c7,h,E,hw,hz,bJ,z6]
 ·simp only [yP,zz,c1,ht,c2,c3,c4,h,hw,bJ,z6]
 ·have c5: ¬(((((d1.at t).hd 2).at x.a).hd 3).n < 0):=by omega
  have c6:(((((d1.at t).hd 2).at x.a).hd 3).n < (x.lc.l.length:Int)):=by omega
  simp only [yP,zz,c1,ht,c2,c3,c4,c5,c6,h,hw,bJ,z6]
 ·have c5: ¬(((((d1.at t).hd 2).at x.a).hd 3).n < 0):=by omega
  have c6:(((((d1.at t).hd 2).at x.a).hd 3).n < (x.lc.l.length:Int)):=by omega
  by_cases hz:0 < (x.lc.at ((((d1.at t).hd 2).at x.a).hd 3).n).n
  ·simp only [yP,zz,c1,ht,c2,c3,c4,c5,c6,h,hw,hz,bJ,z6]
  ·simp only [yP,zz,c1,ht,c2,c3,c4,c5,c6,h,hw,hz,bJ,z6]
theorem alP (hz:x.lc.l.length=0):L 14050 [enc d0,enc d1,t,enc s,enc k,x.a,enc x.lc,x.w,x.o,x.g,x.tr]=some [0,enc d0,enc d1,t,enc s,enc k,x.a,enc x.lc,x.w,x.o,x.g,x.tr,(AO (Ins d1 t x) x).a]∧(AO (Ins d1 t x) x).lc=x.lc:=by
 have c1: ¬t < 0:=by have:=R.t0; omega
 have c2:=R.t1;have c3: ¬x.a < 0:=by have:=R.ok.1; omega
 have c4:=Lc.a;have F:=C.inf R c4;have hln:(x.lc.l.length:Int)=(((d1.at t).hd 1).l.length:Int):=R.ok.2.2.1;have hnc:((d1.at t).hd 2).l.length≤140737488351232:=(C.code R.t0 R.t1).len;have n1:=Lc.n1;have n2:=Lc.n2
 have hw:IntKind.i64.wrap (x.a+1)=x.a+1:=by refine pJ (by omega) ?_;unfold Nc at c4;omega
 have E:=WW F.ar R.ints (i:=0);have ok:=F.ok;unfold Ins at n1 n2 ok E ⊢;unfold Nc at c4;rw [aQ,aoU];unfold AO;rcases ok with h | h | ⟨h,i0,i1,na⟩ | ⟨h,_,_,na⟩ | ⟨h,_⟩ | ⟨h,i0,i1⟩ | ⟨h,i0,i1,_⟩
 ·exact absurd h.1 n1
 ·exact absurd h.1 n2
 ·omega
 ·have c7:(0:Int) < (((((d1.at t).hd 2).at x.a).hd 6).l.length:Int):=by omega
  obtain⟨E,_⟩:=E (by omega) c7;by_cases hz:ev (((((d1.at t).hd 2).at x.a).hd 6).at 0) x.lc=0
  ·simp only [KZ,zz,c1,ht,c2,c3,c4,c7,h,E,hw,hz,bJ,z6]
  ·simp only [KZ,zz,c1,ht,c2,c3,c4,c7,h,E,hw,hz,bJ,z6]
 ·simp only [KZ,zz,c1,ht,c2,c3,c4,h,hw,bJ,z6]
 ·omega
 ·omega
theorem Ws:Rt d0 d1 t (AO (Ins d1 t x) x)∧(AO (Ins d1 t x) x).lc.l.length=x.lc.l.length:=by
 have c4:=Lc.a;have F:=C.inf R c4;obtain⟨a0,a1,hln,tr0,tr1,hw⟩:=R.ok;have n1:=Lc.n1;have n2:=Lc.n2;have ok:=F.ok;have hI:=R.ints
 have hwd: ∀{z v:Int},0≤z→z < (x.lc.l.length:Int)→iJ .i64 v→Wd (.sl 0) (dL (fP x.lc.l z (.i v))):=fun {z v} h0 h1 hv=>by
  have:=R.hl.room;have h3:yJ 0=8:=rfl;rw [h3] at this;have hs:=iH x.lc.l z (.i v);refine CP (fun y hy=>?_) (fun he=>?_) (by rw [hs]; omega)
  ·rcases Bq hy with h | rfl
   ·exact (R.hl.el1 rfl y h).i
   ·exact⟨v,rfl,hv⟩
  ·rw [he] at hs;simp only [List.length_nil] at hs;omega
 have hsl: ∀z v,(dL (fP x.lc.l z v)).l.length=x.lc.l.length:=fun z v=>by rw [aW,iH]
 have T:=R.t0;have T':=R.t1;unfold Nc at c4 ok F;unfold AO;have go: ∀{a:Int} {lc:D},0≤a→a≤(((d1.at t).hd 2).l.length:Int)→lc.l.length=x.lc.l.length→Wd (.sl 0) lc→Rt d0 d1 t { x with a:=a,lc:=lc }∧({ x with a:=a,lc:=lc }:KT).lc.l.length=x.lc.l.length:=fun h0 h1 h2 h3=> ⟨⟨T,T',⟨h0,h1,by rw [h2]; exact hln,tr0,tr1,hw⟩,h3,R.hg⟩,h2⟩;rcases ok with h | h | ⟨h,i0,i1,na⟩ | ⟨h,t0,t1,na⟩ | ⟨h,t0,t1⟩ | ⟨h,i0,i1⟩ | ⟨h,i0,i1,t0,t1⟩
 ·exact absurd h.1 n1
 ·exact absurd h.1 n2
 ·rw [if_pos h];exact go (by omega) (by omega) (hsl _ _) (hwd i0 (by omega) (WW F.ar hI (by omega) (by omega)).2)
 ·rw [if_neg (by omega),if_pos h];split
  ·exact go t0 t1 rfl R.hl
  ·exact go (by omega) (by omega) rfl R.hl
 ·rw [if_neg (by omega),if_neg (by omega),if_pos h];exact go t0 t1 rfl R.hl
 ·rw [if_neg (by omega),if_neg (by omega),if_neg (by omega),if_pos h];exact go (by omega) (by omega) (hsl _ _) (hwd i0 (by omega) F.nn)
 ·rw [if_neg (by omega),if_neg (by omega),if_neg (by omega),if_neg (by omega)];split
  ·exact go (by omega) (by omega) (hsl _ _) (hwd i0 (by omega) (wrap_in _))
  ·exact go t0 t1 rfl R.hl
end
end Go.As.Try
end
section
namespace Go.As.Try
open Go hiding Stat Spec shape
open Go.As
set_option maxRecDepth 100000
theorem z5:(∀p:Prop,(p∧False)=False)∧(∀p:Prop,(False∧p)=False)∧(¬True)=False∧(∀p:Prop,(p∧p)=p)∧(∀(a:Int) (l m:List Int),(a :: l)++m=a :: (l++m))∧(∀l:List Int,[]++l=l)∧((16:Int)=15)=False∧((3:Int)=0)=False∧((15:Int)=16)=False∧(∀ys:List Int,fin L (.out ys)=some ys):=
 ⟨and_false,false_and,not_true_eq_false,and_self,fun _ _ _=>rfl,fun _=>rfl,by simp,by simp,by simp,fun _=>rfl⟩
def ahA:Act→Prop
 | .res _ _ _ _ _ _ _ a _=>iJ .i64 a
 | _=>True
theorem ahA.ite {p:Prop} [Decidable p] {a b:Act} (ha:ahA a) (hb:ahA b):ahA (if p then a else b):=by
 split
 ·exact ha
 ·exact hb
theorem aCb {r:D} (h:Wd (.sl 0) r) (i:Nat):iJ .i64 (r.at (i:Int)).n:=by
 by_cases hi:i < r.l.length
 ·rw [aX hi];obtain⟨n,hn,hk⟩:=(h.el1 rfl _ (List.getElem_mem hi)).i;rw [hn];exact hk
 ·rw [Am,List.getElem?_eq_none (by omega)];constructor <;> (simp only [Option.getD_none,n_i]; omega)
theorem aEe {y:D} {M mo th op arg tries o c dn g:Int} {r v:D} (T:Tg y o c dn g r v) (hr:r.l.length≤140737488351232) (ha:iJ .i64 arg):ahA (act M mo th op arg tries o c dn g r v):=by
 have hz:iJ .i64 0:=⟨by omega,by omega⟩;have h1:iJ .i64 1:=⟨by omega,by omega⟩;have w:=@wrap_in;have hv:=aCb T.hv 0;have hl:iJ .i64 (r.l.length:Int):=⟨by omega,by omega⟩;unfold act
 repeat' refine ahA.ite ?_ ?_
 all_goals first
  | trivial
  | exact hz
  | exact h1
  | exact w _
  | exact T.hc
  | exact ha
  | exact T.hg
  | exact hv
  | exact hl
def rW (I:D) (x:KT) (op e2 e3 e4 oc:Int):KT:=
 if oc=0 then (if op=4 then { x with tr:=if 4611686018427387904 < x.tr+1 then 4611686018427387904 else x.tr+1 } else x)
 else if x.w=0 then
  { a:=if (I.hd 0).n=1∧(I.hd 1).n=16∧¬(e2=16∧e4=1) then (I.hd 4).n else x.a+1,lc:=if (I.hd 0).n=1∧¬(I.hd 3).n < 0 then dL (fP x.lc.l (I.hd 3).n (.i e4)) else x.lc,w:=if oc=3 then (if e2=15 then 25 else 24) else 0,o:=if oc=3 then e3 else x.o,g:=if oc=3∧e2=15 then e4 else x.g,tr:=0 }
 else { x with w:=0,o:=0,g:=0,tr:=0 }
def evT (e1 e2 e3 e4 e5 oc:Int):List Int:=if oc=0 then [0,0,0,0,0] else [e1,e2,e3,e4,e5]
section
variable {d0 d1 s s' k:D} {t op obj arg tries e1 e2 e3 e4 e5 oc:Int} {x:KT} (C:Cd d0 d1) (ht:t < (k.l.length:Int)) (R:Rt d0 d1 t x)
 (hA:L 400 [enc d0,enc d1,enc s,t,op,obj,arg,tries]=some [enc s',e1,e2,e3,e4,e5,oc]) (h0:oc=0→s'=s) (hx:x.w=0→x.a < (Nc d1 t:Int))
include C ht R hA h0 hx
set_option maxHeartbeats 4000000 in
theorem ahQ:L 14500 [enc d0,enc d1,t,op,obj,arg,tries,enc s,enc k,x.a,enc x.lc,x.w,x.o,x.g,x.tr]=some (0 :: enc d0 :: enc d1 :: t :: op :: obj :: arg :: tries :: enc s :: enc k :: x.a :: enc x.lc :: x.w :: x.o :: x.g :: x.tr :: (evT e1 e2 e3 e4 e5 oc++ [oc,enc s',(rW (Ins d1 t x) x op e2 e3 e4 oc).a,enc (rW (Ins d1 t x) x op e2 e3 e4 oc).lc,(rW (Ins d1 t x) x op e2 e3 e4 oc).w,(rW (Ins d1 t x) x op e2 e3 e4 oc).o,(rW (Ins d1 t x) x op e2 e3 e4 oc).g,(rW (Ins d1 t x) x op e2 e3 e4 oc).tr])):=by
 have c1: ¬t < 0:=by have:=R.t0; omega
 have c2:=R.t1;have c3: ¬x.a < 0:=by have:=R.ok.1; omega
 have q0:=R.ok.2.2.2.1;have q1:=R.ok.2.2.2.2.1;have wt:IntKind.i64.wrap (x.tr+1)=x.tr+1:=pJ (by omega) (by omega);rw [aQ,aoS];unfold rW evT;by_cases o0:oc=0
 ·have hs:=h0 o0;subst hs;subst o0;by_cases p4:op=4
  ·subst p4;by_cases pt:4611686018427387904 < x.tr+1
   ·simp only [fB,zz,hA,c1,ht,wt,pt,bJ,if_true,eq_self,List.cons_append,List.nil_append]
   ·simp only [fB,zz,hA,c1,ht,wt,pt,bJ,if_true,eq_self,if_false,List.cons_append,List.nil_append]
  ·simp only [fB,zz,hA,c1,ht,p4,bJ,if_true,if_false,List.cons_append,List.nil_append]
 ·by_cases w0:x.w=0
  ·have c4:=hx w0;have F:=C.inf R c4;have ok:=F.ok;have hln:(x.lc.l.length:Int)=(((d1.at t).hd 1).l.length:Int):=R.ok.2.2.1;have hnc:((d1.at t).hd 2).l.length≤140737488351232:=(C.code R.t0 R.t1).len;unfold Nc at c4;have hw:IntKind.i64.wrap (x.a+1)=x.a+1:=pJ (by omega) (by omega);unfold OkI Ins at ok;unfold Ins;by_cases n1:((((d1.at t).hd 2).at x.a).hd 0).n=1
   ·have hin:((((d1.at t).hd 2).at x.a).hd 3).n= -1∨0≤((((d1.at t).hd 2).at x.a).hd 3).n∧((((d1.at t).hd 2).at x.a).hd 3).n < (x.lc.l.length:Int):=by
     rw [hln];omega
    by_cases i0:((((d1.at t).hd 2).at x.a).hd 3).n < 0
    ·by_cases p16:((((d1.at t).hd 2).at x.a).hd 1).n=16
     ·by_cases q16:e2=16
      ·by_cases q4:e4=1
       ·by_cases q3:oc=3
        ·simp only [fB,zz,hA,c1,ht,c2,c3,c4,o0,w0,hw,n1,i0,p16,q16,q4,q3,z5]
        ·simp only [fB,zz,hA,c1,ht,c2,c3,c4,o0,w0,hw,n1,i0,p16,q16,q4,q3,z5]
       ·by_cases q3:oc=3
        ·simp only [fB,zz,hA,c1,ht,c2,c3,c4,o0,w0,hw,n1,i0,p16,q16,q4,q3,z5]
        ·simp only [fB,zz,hA,c1,ht,c2,c3,c4,o0,w0,hw,n1,i0,p16,q16,q4,q3,z5]
      ·by_cases yX:e2=15
       ·by_cases q3:oc=3
        ·simp only [fB,zz,hA,c1,ht,c2,c3,c4,o0,w0,hw,n1,i0,p16,q16,yX,q3,z5]
        ·simp only [fB,zz,hA,c1,ht,c2,c3,c4,o0,w0,hw,n1,i0,p16,q16,yX,q3,z5]
       ·by_cases q3:oc=3
        ·simp only [fB,zz,hA,c1,ht,c2,c3,c4,o0,w0,hw,n1,i0,p16,q16,yX,q3,z5]
        ·simp only [fB,zz,hA,c1,ht,c2,c3,c4,o0,w0,hw,n1,i0,p16,q16,yX,q3,z5]
     ·by_cases yX:e2=15
      ·by_cases q3:oc=3
       ·simp only [fB,zz,hA,c1,ht,c2,c3,c4,o0,w0,hw,n1,i0,p16,yX,q3,z5]
       ·simp only [fB,zz,hA,c1,ht,c2,c3,c4,o0,w0,hw,n1,i0,p16,yX,q3,z5]
      ·by_cases q3:oc=3
       ·simp only [fB,zz,hA,c1,ht,c2,c3,c4,o0,w0,hw,n1,i0,p16,yX,q3,z5]
       ·simp only [fB,zz,hA,c1,ht,c2,c3,c4,o0,w0,hw,n1,i0,p16,yX,q3,z5]
    ·have i1:((((d1.at t).hd 2).at x.a).hd 3).n < (x.lc.l.length:Int):=by omega
     by_cases p16:((((d1.at t).hd 2).at x.a).hd 1).n=16
     ·by_cases q16:e2=16
      ·by_cases q4:e4=1
       ·by_cases q3:oc=3
        ·simp only [fB,zz,hA,c1,ht,c2,c3,c4,o0,w0,hw,n1,i0,i1,p16,q16,q4,q3,z5]
        ·simp only [fB,zz,hA,c1,ht,c2,c3,c4,o0,w0,hw,n1,i0,i1,p16,q16,q4,q3,z5]
       ·by_cases q3:oc=3
        ·simp only [fB,zz,hA,c1,ht,c2,c3,c4,o0,w0,hw,n1,i0,i1,p16,q16,q4,q3,z5]
        ·simp only [fB,zz,hA,c1,ht,c2,c3,c4,o0,w0,hw,n1,i0,i1,p16,q16,q4,q3,z5]
      ·by_cases yX:e2=15
       ·by_cases q3:oc=3
        ·simp only [fB,zz,hA,c1,ht,c2,c3,c4,o0,w0,hw,n1,i0,i1,p16,q16,yX,q3,z5]
        ·simp only [fB,zz,hA,c1,ht,c2,c3,c4,o0,w0,hw,n1,i0,i1,p16,q16,yX,q3,z5]
       ·by_cases q3:oc=3
        ·simp only [fB,zz,hA,c1,ht,c2,c3,c4,o0,w0,hw,n1,i0,i1,p16,q16,yX,q3,z5]
        ·simp only [fB,zz,hA,c1,ht,c2,c3,c4,o0,w0,hw,n1,i0,i1,p16,q16,yX,q3,z5]
     ·by_cases yX:e2=15
      ·by_cases q3:oc=3
       ·simp only [fB,zz,hA,c1,ht,c2,c3,c4,o0,w0,hw,n1,i0,i1,p16,yX,q3,z5]
       ·simp only [fB,zz,hA,c1,ht,c2,c3,c4,o0,w0,hw,n1,i0,i1,p16,yX,q3,z5]
      ·by_cases q3:oc=3
       ·simp only [fB,zz,hA,c1,ht,c2,c3,c4,o0,w0,hw,n1,i0,i1,p16,yX,q3,z5]
       ·simp only [fB,zz,hA,c1,ht,c2,c3,c4,o0,w0,hw,n1,i0,i1,p16,yX,q3,z5]
   ·by_cases yX:e2=15
    ·by_cases q3:oc=3
     ·simp only [fB,zz,hA,c1,ht,c2,c3,c4,o0,w0,hw,n1,yX,q3,z5]
     ·simp only [fB,zz,hA,c1,ht,c2,c3,c4,o0,w0,hw,n1,yX,q3,z5]
    ·by_cases q3:oc=3
     ·simp only [fB,zz,hA,c1,ht,c2,c3,c4,o0,w0,hw,n1,yX,q3,z5]
     ·simp only [fB,zz,hA,c1,ht,c2,c3,c4,o0,w0,hw,n1,yX,q3,z5]
  ·simp only [fB,zz,hA,c1,ht,o0,w0,bJ,if_true,if_false,List.cons_append,List.nil_append]
end
section
variable {d0 d1 s s' k:D} {t op obj arg tries e1 e2 e3 e4 e5 oc:Int} {x:KT} (C:Cd d0 d1) (ht:t < (k.l.length:Int)) (R:Rt d0 d1 t x)
 (hA:L 400 [enc d0,enc d1,enc s,t,op,obj,arg,tries]=some [enc s',e1,e2,e3,e4,e5,oc]) (h0:oc=0→s'=s) (hx:x.w=0→x.a < (Nc d1 t:Int)) (hz:x.lc.l.length=0)
include C ht R hA h0 hx hz
set_option maxHeartbeats 4000000 in
theorem ahP:L 14550 [enc d0,enc d1,t,op,obj,arg,tries,enc s,enc k,x.a,enc x.lc,x.w,x.o,x.g,x.tr]=some (0 :: enc d0 :: enc d1 :: t :: op :: obj :: arg :: tries :: enc s :: enc k :: x.a :: enc x.lc :: x.w :: x.o :: x.g :: x.tr :: (evT e1 e2 e3 e4 e5 oc++ [oc,enc s',(rW (Ins d1 t x) x op e2 e3 e4 oc).a,(rW (Ins d1 t x) x op e2 e3 e4 oc).w,(rW (Ins d1 t x) x op e2 e3 e4 oc).o,(rW (Ins d1 t x) x op e2 e3 e4 oc).g,(rW (Ins d1 t x) x op e2 e3 e4 oc).tr]))∧(rW (Ins d1 t x) x op e2 e3 e4 oc).lc=x.lc:=by
 have c1: ¬t < 0:=by have:=R.t0; omega
 have c2:=R.t1;have c3: ¬x.a < 0:=by have:=R.ok.1; omega
 have q0:=R.ok.2.2.2.1;have q1:=R.ok.2.2.2.2.1;have wt:IntKind.i64.wrap (x.tr+1)=x.tr+1:=pJ (by omega) (by omega);rw [aQ,aoP];unfold rW evT;by_cases o0:oc=0
 ·have hs:=h0 o0;subst hs;subst o0;by_cases p4:op=4
  ·subst p4;by_cases pt:4611686018427387904 < x.tr+1
   ·simp only [jK,zz,hA,c1,ht,wt,pt,bJ,if_true,eq_self,List.cons_append,List.nil_append] <;> exact⟨rfl,rfl⟩
   ·simp only [jK,zz,hA,c1,ht,wt,pt,bJ,if_true,eq_self,if_false,List.cons_append,List.nil_append] <;> exact⟨rfl,rfl⟩
  ·simp only [jK,zz,hA,c1,ht,p4,bJ,if_true,if_false,List.cons_append,List.nil_append] <;> exact⟨rfl,rfl⟩
 ·by_cases w0:x.w=0
  ·have c4:=hx w0;have F:=C.inf R c4;have ok:=F.ok;have hln:(x.lc.l.length:Int)=(((d1.at t).hd 1).l.length:Int):=R.ok.2.2.1;have hnc:((d1.at t).hd 2).l.length≤140737488351232:=(C.code R.t0 R.t1).len;unfold Nc at c4;have hw:IntKind.i64.wrap (x.a+1)=x.a+1:=pJ (by omega) (by omega);unfold OkI Ins at ok;unfold Ins;by_cases n1:((((d1.at t).hd 2).at x.a).hd 0).n=1
   ·have hin:((((d1.at t).hd 2).at x.a).hd 3).n= -1∨0≤((((d1.at t).hd 2).at x.a).hd 3).n∧((((d1.at t).hd 2).at x.a).hd 3).n < (x.lc.l.length:Int):=by
     rw [hln];omega
    by_cases i0:((((d1.at t).hd 2).at x.a).hd 3).n < 0
    ·by_cases p16:((((d1.at t).hd 2).at x.a).hd 1).n=16
     ·by_cases q16:e2=16
      ·by_cases q4:e4=1
       ·by_cases q3:oc=3
        ·simp only [jK,zz,hA,c1,ht,c2,c3,c4,o0,w0,hw,n1,i0,p16,q16,q4,q3,z5] <;> exact⟨rfl,rfl⟩
        ·simp only [jK,zz,hA,c1,ht,c2,c3,c4,o0,w0,hw,n1,i0,p16,q16,q4,q3,z5] <;> exact⟨rfl,rfl⟩
       ·by_cases q3:oc=3
        ·simp only [jK,zz,hA,c1,ht,c2,c3,c4,o0,w0,hw,n1,i0,p16,q16,q4,q3,z5] <;> exact⟨rfl,rfl⟩
        ·simp only [jK,zz,hA,c1,ht,c2,c3,c4,o0,w0,hw,n1,i0,p16,q16,q4,q3,z5] <;> exact⟨rfl,rfl⟩
      ·by_cases yX:e2=15
       ·by_cases q3:oc=3
        ·simp only [jK,zz,hA,c1,ht,c2,c3,c4,o0,w0,hw,n1,i0,p16,q16,yX,q3,z5] <;> exact⟨rfl,rfl⟩
        ·simp only [jK,zz,hA,c1,ht,c2,c3,c4,o0,w0,hw,n1,i0,p16,q16,yX,q3,z5] <;> exact⟨rfl,rfl⟩
       ·by_cases q3:oc=3
        ·simp only [jK,zz,hA,c1,ht,c2,c3,c4,o0,w0,hw,n1,i0,p16,q16,yX,q3,z5] <;> exact⟨rfl,rfl⟩
        ·simp only [jK,zz,hA,c1,ht,c2,c3,c4,o0,w0,hw,n1,i0,p16,q16,yX,q3,z5] <;> exact⟨rfl,rfl⟩
     ·by_cases yX:e2=15
      ·by_cases q3:oc=3
       ·simp only [jK,zz,hA,c1,ht,c2,c3,c4,o0,w0,hw,n1,i0,p16,yX,q3,z5] <;> exact⟨rfl,rfl⟩
       ·simp only [jK,zz,hA,c1,ht,c2,c3,c4,o0,w0,hw,n1,i0,p16,yX,q3,z5] <;> exact⟨rfl,rfl⟩
      ·by_cases q3:oc=3
       ·simp only [jK,zz,hA,c1,ht,c2,c3,c4,o0,w0,hw,n1,i0,p16,yX,q3,z5] <;> exact⟨rfl,rfl⟩
       ·simp only [jK,zz,hA,c1,ht,c2,c3,c4,o0,w0,hw,n1,i0,p16,yX,q3,z5] <;> exact⟨rfl,rfl⟩
    ·omega
   ·by_cases yX:e2=15
    ·by_cases q3:oc=3
     ·simp only [jK,zz,hA,c1,ht,c2,c3,c4,o0,w0,hw,n1,yX,q3,z5] <;> exact⟨rfl,rfl⟩
     ·simp only [jK,zz,hA,c1,ht,c2,c3,c4,o0,w0,hw,n1,yX,q3,z5] <;> exact⟨rfl,rfl⟩
    ·by_cases q3:oc=3
     ·simp only [jK,zz,hA,c1,ht,c2,c3,c4,o0,w0,hw,n1,yX,q3,z5] <;> exact⟨rfl,rfl⟩
     ·simp only [jK,zz,hA,c1,ht,c2,c3,c4,o0,w0,hw,n1,yX,q3,z5] <;> exact⟨rfl,rfl⟩
  ·simp only [jK,zz,hA,c1,ht,o0,w0,bJ,if_true,if_false,List.cons_append,List.nil_append] <;> exact⟨rfl,rfl⟩
end
end Go.As.Try
end
section
namespace Go.As.Try
open Go hiding Stat Spec shape
open Go.As
set_option maxRecDepth 100000
structure Sx (s k:D) (n:Nat):Prop where
 g:Gs s n
 wk:Wd (.sl 8) k
 n2s:s≠.i 2
 n2k:k≠.i 2
theorem Sx.st {s k:D} {n:Nat} (S:Sx s k n):Sk s k:=⟨S.g.wd,S.wk,S.n2s,S.n2k⟩
theorem Sx.mono {s k:D} {n m:Nat} (S:Sx s k n) (h:n≤m):Sx s k m:=⟨S.g.mono h,S.wk,S.n2s,S.n2k⟩
abbrev qR (k:D) (t:Int) (x:KT):D:=dL (fP k.l t x.d)
theorem kM (a:D) (l:List D):dL (a :: l)= .p a (dL l):=rfl
theorem oC:dL []= .i 0:=rfl
structure Tried (d0 d1 s:D) (t op obj arg tries:Int) (n:Nat) (s':D) (e1 e2 e3 e4 e5 oc:Int):Prop where
 eq:L 400 [enc d0,enc d1,enc s,t,op,obj,arg,tries]=some [enc s',e1,e2,e3,e4,e5,oc]
 no:oc=0→s'=s∧e1=0∧e2=0∧e3=0∧e4=0∧e5=0
 oc3:oc=0∨oc=2∨oc=3
 gs:Gs s' (n+1)
 len:s'.l.length=s.l.length
 n2:s≠.i 2→s'≠.i 2
 e3:iJ .i64 e3
 e4:iJ .i64 e4
theorem try_any {d0 d1 s:D} {t op obj arg tries:Int} {n:Nat} (h0:Wd (.sl 3) d0) (h1:Wd (.sl 4) d1) (G:Gs s n) (hn:n < 17592186043904) (ht:iJ .i64 t) (hop:iJ .u8 op) (hob:iJ .i64 obj) (ha:iJ .i64 arg) :
 ∃s' e1 e2 e3 e4 e5 oc,Tried d0 d1 s t op obj arg tries n s' e1 e2 e3 e4 e5 oc:=by
 have hf:=G.few (by omega:n < 17592186044415);have z:iJ .i64 0:=⟨by omega,by omega⟩;by_cases A:Acc d0 d1 s t op obj
 ·obtain⟨_,o,c,dn,g,r,v,T,hL⟩:=Td (arg:=arg) (tries:=tries) h0 h1 G.wd hf hop A;rw [Ub] at hL;have o0:=A.o0;have o1:=A.o1;obtain⟨i,rfl⟩ : ∃i:Nat,obj=(i:Int):=⟨obj.toNat,by omega⟩;have hi:i < s.l.length:=by omega
  have hrow:=G.rows _ (List.getElem_mem hi);have e:s.l[i]=dL [.i o,.i c,.i dn,.i g,r,v]:=by rw [← aX hi]; exact T.is
  rw [e] at hrow;have hA:=aqZ (M:=Mx d0 (i:Int)) (mo:=Mo d0 s (i:Int)) (op:=op) (tries:=tries) T (n:=n) hrow.1 hrow.2 (by omega) ht ha;have hE:=aEe (M:=Mx d0 (i:Int)) (mo:=Mo d0 s (i:Int)) (th:=t) (op:=op) (tries:=tries) T (by have:=hrow.1; have:r.l.length≤n:=this; omega) ha
  have hM:NoM (act (Mx d0 (i:Int)) (Mo d0 s (i:Int)) t op arg tries o c dn g r v)∨0≤Mx d0 (i:Int)∧Mx d0 (i:Int) < (s.l.length:Int):=by
   by_cases h:op=12∨op=24
   ·have:=OE h0 h1 G.wd hf hop A h;exact .inr ⟨this.1,this.2.1⟩
   ·exact .inl (SC (by omega) (by omega))
  have hg:=abQ G hA o0 o1 hM;have hl:=VZ s (i:Int) (Mx d0 (i:Int)) (act (Mx d0 (i:Int)) (Mo d0 s (i:Int)) t op arg tries o c dn g r v);generalize act (Mx d0 (i:Int)) (Mo d0 s (i:Int)) t op arg tries o c dn g r v=B at *
  have hn2:s≠.i 2→Ey s (i:Int) (Mx d0 (i:Int)) B≠.i 2:=fun _ he=>by rw [he] at hl;have:(D.i 2).l.length=0:=rfl;omega
  cases B with
  | blk=>exact⟨s,0,0,0,0,0,0,hL,fun _=> ⟨rfl,rfl,rfl,rfl,rfl,rfl⟩,.inl rfl,hg,rfl,fun h=>h,z,z⟩
  | mis=>exact⟨s,t,27,_,_,0,2,hL,fun h=>absurd h (by omega),.inr (.inl rfl),hg,rfl,fun h=>h,hob,wrap_in _⟩
  | res o' c' O1 g' r' v' m a oc=>exact⟨_,t,op,_,a,0,oc,hL,fun h=>by have:=hA.2.2.2.2.2.2.2.2.2; omega,.inr hA.2.2.2.2.2.2.2.2.2,hg,hl,hn2,hob,hE⟩
 ·exact⟨s,0,0,0,0,0,0,Yc h0 h1 G.wd hf hop A,fun _=> ⟨rfl,rfl,rfl,rfl,rfl,rfl⟩,.inl rfl,G.mono (Nat.le_succ n),rfl,fun h=>h,z,z⟩
noncomputable abbrev stE (d0 d1 s k:D) (t:Int):Nat→Int:=bM L (low [enc d0,enc d1,enc s,enc k,t])
theorem YD {k:D} {t:Int} {x:KT} (h:k=dL k.l) (t0:0≤t) (t1:t < (k.l.length:Int)) (hk:k.at t=x.d):qR k t x=k:=by
 obtain⟨i,rfl⟩ : ∃i:Nat,t=(i:Int):=⟨t.toNat,by omega⟩;have hi:i < k.l.length:=by omega
 rw [aX hi] at hk;unfold qR;rw [← hk];exact set_self h hi
section
variable {d0 d1 s k:D} {t:Int} {n:Nat} (S:Sx s k n)
include S
theorem abG (hR:L 1550 [enc d0,enc d1,enc s,enc k,t]=some [0]):L 1850 [enc d0,enc d1,enc s,enc k,t]=some [enc s,enc k,0,0,0,0,0,0]:=by
 by_cases hr:t < 0∨(k.l.length:Int)≤t
 ·rcases agS S.st hr with h | ⟨h,he⟩
  ·have K:dY (stE d0 d1 s k t) IZ= .out [enc s,enc k,0,0,0,0,0,0]:=by
    refine bU [.eq (a0 9050 SN) Q0,.eq wP Qa,XK,XJ] [] (ou [KJ,ZW,Qa,Qa,Qa,Qa,Qa,Qa]) (by simp only [zz,h,hR] <;> omega) (by kernel_rfl) ?_;simp only [zz,h]
   rw [aQ,N8];exact congrArg (fin L) K
  ·subst he
   have K:dY (stE d0 d1 s (.i 1) t) IZ= .out [enc s,enc (.i 1),0,0,0,0,0,0]:=by refine bU [.eq (a0 9050 SN) Q0,.eq wP Q0,XK,XJ] [.eq wP Qa] (ou [KJ,Qh,Qa,Qa,Qa,Qa,Qa,Qa]) (by simp only [zz,h,hR] <;> omega) (by kernel_rfl) ?_;simp only [zz,h]
   rw [aQ,N8];exact congrArg (fin L) K
 ·obtain⟨i,rfl⟩ : ∃i:Nat,t=(i:Int):=⟨t.toNat,by omega⟩;have hi:i < k.l.length:=by omega
  obtain⟨a,lc,w,o,g,tr,T⟩:=lW S.wk _ (List.getElem_mem hi);have h:=Sv S.st hi T;have hs:qR k (i:Int) ⟨a,lc,w,o,g,tr⟩ = k:=YD (O9 S.wk (by omega)).sh (by omega) (by omega) (by rw [aX hi,T.is]);simp only [qR,KT.d,kM,oC] at hs;have ha:EW lc=3∨EW lc=4:=by unfold EW; split <;> simp
  have K:dY (stE d0 d1 s k (i:Int)) IZ= .out [enc s,enc k,0,0,0,0,0,0]:=by
   rcases ha with ha | ha
   ·rw [ha] at h;refine bU [.eq (a0 9050 SN) Q0,.eq wP wQ,XK,XJ] [.eq wP Qa,.eq wP Q0,.eq wP nN] (ou [KJ,Qpc,Qa,Qa,Qa,Qa,Qa,Qa]) (by simp only [zz,h,hR] <;> omega) (by kernel_rfl) ?_;simp only [zz,h,hs]
   ·rw [ha] at h;refine bU [.eq (a0 9050 SN) Q0,.eq wP DX,XK,XJ] [.eq wP Qa,.eq wP Q0,.eq wP nN,.eq wP wQ] (ou [KJ,Qpc,Qa,Qa,Qa,Qa,Qa,Qa]) (by simp only [zz,h,hR] <;> omega) (by kernel_rfl) ?_;simp only [zz,h,hs]
  rw [aQ,N8];exact congrArg (fin L) K
end
structure Rs (d0 d1 s k:D) (t:Int) (x:KT):Prop where
 c:Cd d0 d1
 r:Rt d0 d1 t x
 hk:k.at t=x.d
 ht:t < (k.l.length:Int)
 yes:L 1550 [enc d0,enc d1,enc s,enc k,t]=some [1]
theorem abO {d0 d1 s k:D} {t:Int} {n:Nat} (S:Sx s k n) (hn:n < 17592186043904) (h0:Wd (.sl 3) d0) (h1:Wd (.sl 4) d1):L 1550 [enc d0,enc d1,enc s,enc k,t]=some [0]∨∃x,Rs d0 d1 s k t x:=by
 obtain⟨ys,hL,b,rfl,hb⟩:=LX (k:=k) h0 h1 (S.g.few (by omega)).rows h1.len t;rcases hb with ⟨rfl,_⟩ | ⟨rfl,t0,t1,M⟩
 ·exact .inl hL
 ·refine .inr ?_;obtain⟨hle,hO⟩:=M.2;obtain⟨i,rfl⟩ : ∃i:Nat,t=(i:Int):=⟨t.toNat,by omega⟩;have hi:i < k.l.length:=by omega
  have hd:i < d1.l.length:=by omega
  obtain⟨a,lc,w,o,g,tr,T⟩:=lW S.wk _ (List.getElem_mem hi);have ok:=hO i hi;unfold OkK at ok;rw [T.is] at ok;simp only [zg,Option.getD_some,n_i] at ok;refine⟨⟨a,lc,w,o,g,tr⟩,(MR.code h0 h1 (S.g.few (by omega)).rows M).1,⟨by omega,by omega,?_,T.hl,T.hg⟩,by rw [aX hi,T.is],by omega,hL⟩;rw [aX hd];exact ok
section
variable {d0 d1 s k:D} {t:Int} {n:Nat} {x:KT} (S:Sx s k n) (R:Rs d0 d1 s k t x)
include S R
theorem Rs.cp:L 9050 [t,enc s,enc k]=some [EW x.lc,t,enc s,enc k,x.a,enc x.lc,x.w,x.o,x.g,x.tr]:=by
 have t0:=R.r.t0;have ht:=R.ht;obtain⟨i,rfl⟩ : ∃i:Nat,t=(i:Int):=⟨t.toNat,by omega⟩;have hi:i < k.l.length:=by omega
 obtain⟨a,lc,w,o,g,tr,T⟩:=lW S.wk _ (List.getElem_mem hi);have h:=Sv S.st hi T;have e:=R.hk;rw [aX hi,T.is] at e;simp only [KT.d,kM,oC,D.p.injEq,D.i.injEq,and_true] at e;obtain⟨rfl,rfl,rfl,rfl,rfl,rfl⟩:=e;exact h
theorem Rs.self:dL (fP k.l t (.p (.i x.a) (.p x.lc (.p (.i x.w) (.p (.i x.o) (.p (.i x.g) (.p (.i x.tr) (.i 0))))))))=k:=by
 have hl:0 < k.l.length:=by have:=R.r.t0; have:=R.ht; omega
 exact YD (O9 S.wk hl).sh R.r.t0 R.ht R.hk
theorem CU (ho:kN d1 t x=1):L 1850 [enc d0,enc d1,enc s,enc k,t]=some [enc s,enc k,0,0,0,0,0,4]:=by
 have h:=R.cp S;have hs:=R.self S;have hR:=R.yes;have hO:=FI (s:=s) R.hk R.ht R.r;rw [ho] at hO;have ha:EW x.lc=3∨EW x.lc=4:=by unfold EW; split <;> simp
 have K:dY (stE d0 d1 s k t) IZ= .out [enc s,enc k,0,0,0,0,0,4]:=by
  rcases ha with ha | ha
  ·rw [ha] at h;refine bU [.eq (a0 9050 SN) Q0,.eq wP wQ,XK,.eq (a0 1650 SL) Q0] [.eq wP Qa,.eq wP Q0,.eq wP nN,XJ,Qpf] (ou [KJ,Qpc,Qa,Qa,Qa,Qa,Qa,DX]) (by simp only [zz,h,hR,hs,hO] <;> omega) (by kernel_rfl) ?_;simp only [zz,h,hs]
  ·rw [ha] at h;refine bU [.eq (a0 9050 SN) Q0,.eq wP DX,XK,.eq (a0 1650 SL) Q0] [.eq wP Qa,.eq wP Q0,.eq wP nN,.eq wP wQ,XJ,Qpf] (ou [KJ,Qpc,Qa,Qa,Qa,Qa,Qa,DX]) (by simp only [zz,h,hR,hs,hO] <;> omega) (by kernel_rfl) ?_;simp only [zz,h,hs]
 rw [aQ,N8];exact congrArg (fin L) K
theorem LD (ho:kN d1 t x=0) (hn:low (kV d1 t x) 4=0):L 1850 [enc d0,enc d1,enc s,enc k,t]=some [enc s,enc (qR k t (AO (Ins d1 t x) x)),0,0,0,0,0,1]:=by
 have h:=R.cp S;have hs:=R.self S;have hR:=R.yes;have hO:=FI (s:=s) R.hk R.ht R.r;have hN:=Ug (s:=s) R.c R.hk R.ht R.r;have Lc:=Y0 R.r ho hn;rw [ho] at hO
 have K:dY (stE d0 d1 s k t) IZ= .out [enc s,enc (qR k t (AO (Ins d1 t x) x)),0,0,0,0,0,1]:=by
  have hw:(AO (Ins d1 t x) x).w=x.w∧(AO (Ins d1 t x) x).o=x.o∧(AO (Ins d1 t x) x).g=x.g∧(AO (Ins d1 t x) x).tr=x.tr:=by
   unfold AO
   repeat' split
   all_goals exact⟨rfl,rfl,rfl,rfl⟩
  by_cases hp:0 < x.lc.l.length
  ·have ha:EW x.lc=3:=if_pos hp;rw [ha] at h;have hl:=alQ (s:=s) R.c R.ht R.r Lc;refine bU [.eq (a0 9050 SN) Q0,.eq wP wQ,XK,.eq (a0 1650 SL) Q0,Qpf,.eq (a0 1750 SL) Q0,Qpg,.eq (a0 14000 Qph) Q0,.eq (rr 14000 Qph 0) Qa] [.eq wP Qa,.eq wP Q0,.eq wP nN,XJ] (ou [KJ,.op .set ZW (cn (mk bG) (cn (mk (rr 14000 Qph 12)) (cn (rr 14000 Qph 13) Qpb))),Qa,Qa,Qa,Qa,Qa,Q0]) (by simp only [zz,h,hR,hs,hO,hN,hn,hl] <;> omega) (by kernel_rfl) ?_;simp only [zz,h,hs,hl,qR,KT.d,kM,oC,hw]
  ·have ha:EW x.lc=4:=if_neg hp;rw [ha] at h;obtain⟨hl,hc⟩:=alP (s:=s) R.c R.ht R.r Lc (by omega);refine bU [.eq (a0 9050 SN) Q0,.eq wP DX,XK,.eq (a0 1650 SL) Q0,Qpf,.eq (a0 1750 SL) Q0,Qpg,.eq (a0 14050 Qph) Q0,.eq (rr 14050 Qph 0) Qa] [.eq wP Qa,.eq wP Q0,.eq wP nN,.eq wP wQ,XJ] (ou [KJ,.op .set ZW (cn (mk bG) (cn (mk (rr 14050 Qph 12)) (cn Qo6 Qpb))),Qa,Qa,Qa,Qa,Qa,Q0]) (by simp only [zz,h,hR,hs,hO,hN,hn,hl] <;> omega) (by kernel_rfl) ?_;simp only [zz,h,hs,hl,qR,KT.d,kM,oC,hw,hc]
 rw [aQ,N8];exact congrArg (fin L) K
theorem yS {op obj arg tries e1 e2 e3 e4 e5 oc:Int} {s':D} (ho:kN d1 t x=0) (hn:kV d1 t x= [op,obj,arg,tries,1]) (A:Tried d0 d1 s t op obj arg tries n s' e1 e2 e3 e4 e5 oc) :
 L 1850 [enc d0,enc d1,enc s,enc k,t]=some [enc s',enc (qR k t (rW (Ins d1 t x) x op e2 e3 e4 oc)),e1,e2,e3,e4,e5,oc]:=by
 have h:=R.cp S;have hs:=R.self S;have hR:=R.yes;have hO:=FI (s:=s) R.hk R.ht R.r;have hN:=Ug (s:=s) R.c R.hk R.ht R.r;rw [ho] at hO;rw [hn] at hN
 have hx:x.w=0→x.a < (Nc d1 t:Int):=fun w0=>by unfold kN at ho;rw [if_pos w0] at ho;have:=R.r.ok.2.1;unfold Nc at ho ⊢;split at ho <;> omega
 have hE:evT e1 e2 e3 e4 e5 oc= [e1,e2,e3,e4,e5]:=by
  unfold evT;split
  ·rename_i h0;obtain⟨_,rfl,rfl,rfl,rfl,rfl⟩:=A.no h0;rfl
  ·rfl
 have K:dY (stE d0 d1 s k t) IZ= .out [enc s',enc (qR k t (rW (Ins d1 t x) x op e2 e3 e4 oc)),e1,e2,e3,e4,e5,oc]:=by
  by_cases hp:0 < x.lc.l.length
  ·have ha:EW x.lc=3:=if_pos hp;rw [ha] at h;have hl:=ahQ R.c R.ht R.r A.eq (fun h=>(A.no h).1) hx;rw [hE] at hl;simp only [List.cons_append,List.nil_append] at hl;refine bU [.eq (a0 9050 SN) Q0,.eq wP wQ,XK,.eq (a0 1650 SL) Q0,Qpf,.eq (a0 1750 SL) Q0,.eq (a0 14500 qQ) Q0,.eq (rr 14500 qQ 0) Qa] [.eq wP Qa,.eq wP Q0,.eq wP nN,XJ,Qpg] (ou [rr 14500 qQ 22,.op .set ZW (cn (mk bG) (cn (mk (rr 14500 qQ 23)) (cn (rr 14500 qQ 24) (cn (mk (rr 14500 qQ 25)) (cn (mk (rr 14500 qQ 26)) (cn (mk (rr 14500 qQ 27)) (cn (mk (rr 14500 qQ 28)) mF))))))),rr 14500 qQ 16,rr 14500 qQ 17,rr 14500 qQ 18,rr 14500 qQ 19,rr 14500 qQ 20,rr 14500 qQ 21]) (by simp only [zz,h,hR,hs,hO,hN,hl] <;> omega) (by kernel_rfl) ?_;simp only [zz,h,hs,hN,hl,qR,KT.d,kM,oC]
  ·have ha:EW x.lc=4:=if_neg hp;rw [ha] at h;obtain⟨hl,hc⟩:=ahP R.c R.ht R.r A.eq (fun h=>(A.no h).1) hx (by omega);rw [hE] at hl;simp only [List.cons_append,List.nil_append] at hl;refine bU [.eq (a0 9050 SN) Q0,.eq wP DX,XK,.eq (a0 1650 SL) Q0,Qpf,.eq (a0 1750 SL) Q0,.eq (a0 14550 qQ) Q0,.eq (rr 14550 qQ 0) Qa] [.eq wP Qa,.eq wP Q0,.eq wP nN,.eq wP wQ,XJ,Qpg] (ou [rr 14550 qQ 22,.op .set ZW (cn (mk bG) (cn (mk (rr 14550 qQ 23)) (cn Qo6 (cn (mk (rr 14550 qQ 24)) (cn (mk (rr 14550 qQ 25)) (cn (mk (rr 14550 qQ 26)) (cn (mk (rr 14550 qQ 27)) mF))))))),rr 14550 qQ 16,rr 14550 qQ 17,rr 14550 qQ 18,rr 14550 qQ 19,rr 14550 qQ 20,rr 14550 qQ 21]) (by simp only [zz,h,hR,hs,hO,hN,hl] <;> omega) (by kernel_rfl) ?_;simp only [zz,h,hs,hN,hl,qR,KT.d,kM,oC,hc]
 rw [aQ,N8];exact congrArg (fin L) K
end
end Go.As.Try
end
section
namespace Go.As.Try
open Go hiding Stat Spec shape
open Go.As
set_option maxRecDepth 100000
theorem Tot.jmp {j k:Nat} {xs ys:List Int} {t:T Lf} {p:List Int→Prop} (e:S.tree j=t) (h:dY (bM L (low xs)) t= .jump k ys) (q:Tot k ys p):Tot j xs p:=by refine Tot.of ?_;rw [e,h];exact .jump q
theorem Tot.ret {j:Nat} {xs ys:List Int} {t:T Lf} {p:List Int→Prop} (e:S.tree j=t) (h:dY (bM L (low xs)) t= .out ys) (q:p ys):Tot j xs p:=by refine Tot.of ?_;rw [e,h];exact .out q
theorem Pz (m:Nat) (hm:m≤60) (ih: ∀(k n:Int) (s kids:D),Wd .str s→Wd (.sl 6) kids→Tot 150 [k,enc s,n,enc kids,(m:Int)] one) (x3 x4 x5:Int) (kids:D) (hk:Wd (.sl 6) kids) :
 ∀(j i:Nat) (x1:Int),i+j=kids.l.length→Tot 151 [((m+1:Nat):Int),x1,(i:Int),x3,x4,x5,enc kids] one
 | 0,i,x1,hi=>Tot.ret avG (ys:=[x1]) (bU [] [.lt Qo Qfb] (ou [Qb]) (by simp only [zz] <;> omega) (by kernel_rfl) (by simp only [zz])) ⟨x1,rfl⟩
 | j+1,i,x1,hi=>by
   have hl:=hk.len;have hil:i < kids.l.length:=by omega
   have hw:=aY (n:=i) (by omega);obtain⟨k,s,n,ks,he,_,hs,_,hks⟩:=Dt hk hil;have ha:kids.at (i:Int)=dL [.i k,s,.i n,ks]:=by rw [aX hil]; exact he
   obtain⟨ys,Zc,z,rfl⟩:=ih k n s ks hs hks;have hw2:IntKind.i64.wrap (((m+1:Nat):Int) - 1)=(m:Int):=by rw [pJ (by omega) (by omega)]; omega
   by_cases hx:10000 < x1
   ·exact Tot.ret avG (ys:=[x1]) (bU [.lt Qo Qfb,.lt (.lit 10000) Qb] [] (ou [Qb]) (by simp only [zz] <;> omega) (by kernel_rfl) (by simp only [zz])) ⟨x1,rfl⟩
   ·exact Tot.jmp avG (bU [.lt Qo Qfb,.eq (a0 150 Qfd) Q0] [.lt (.lit 10000) Qb,vV] (ju 151 [Qf,wr (.add Qb (rr 150 Qfd 0)),lK,Qm,bG,dJ,dU]) (by simp only [zz,ha,zg,hw2,Zc] <;> omega) (by kernel_rfl) (by simp only [zz,ha,zg,hw2,Zc,hw] <;> rfl)) (Pz m hm ih x3 x4 x5 kids hk j (i+1) (IntKind.i64.wrap (x1+z)) (by omega))
theorem VP: ∀(m:Nat),m≤60→∀(k n:Int) (s kids:D),Wd .str s→Wd (.sl 6) kids→Tot 150 [k,enc s,n,enc kids,(m:Int)] one
 | 0,_,k,n,s,kids,_,_=>Tot.ret aBQ (ys:=[10000]) (bU [Qe9] [] (ou [.lit 10000]) (by simp only [zz] <;> omega) (by kernel_rfl) (by simp only [zz])) ⟨_,rfl⟩
 | m+1,hm,k,n,s,kids,hs,hk=>Tot.jmp aBQ (ys:=[((m+1:Nat):Int),_,(0:Nat),k,enc s,n,enc kids]) (bU [] [Qe9] (ju 151 [bG,wr (.add Q0 (wr (.quo Qc Qfa))),Qa,Qf,Qb,Qo,Qm]) (by simp only [zz] <;> omega) (by kernel_rfl) (by simp only [nZ,List.map,aP,Nat.reduceLT,aH,aN] <;> rfl)) (Pz m (by omega) (VP m (by omega)) k (enc s) n kids hk kids.l.length 0 _ (by omega))
section
variable {d0 d1:D} (h1:Wd (.sl 4) d1)
include h1
theorem Nu (x1 x2 x3:Int) (OU:D) (ha:Wd (.sl 6) OU) (q: ∀x0,Tot 102 [x0,x1,IntKind.i64.wrap (x2+1),x3,enc d0,enc d1] EL): ∀(j i:Nat) (x0:Int),i+j=OU.l.length→Tot 103 [x0,x1,x2,x3,enc OU,(OU.l.length:Int),(i:Int),enc d0,enc d1] EL
 | 0,i,x0,hi=>Tot.jmp aBR (bU [] [.lt dU dJ] (ju 102 [Qf,Qb,lK,Qm,fJ,iQ]) (by simp only [zz] <;> omega) (by kernel_rfl) (by simp only [zz])) (q x0)
 | j+1,i,x0,hi=>by
   have hl:=ha.len;have hil:i < OU.l.length:=by omega
   have hw:=aY (n:=i) (by omega);obtain⟨k,s,n,ks,he,_,hs,_,hks⟩:=Dt ha hil;have hat:OU.at (i:Int)=dL [.i k,s,.i n,ks]:=by rw [aX hil]; exact he
   obtain⟨ys,Zc,z,rfl⟩:=VP 60 (by omega) k n s ks hs hks;have Zc:L 150 [k,enc s,n,enc ks,60]=some [z]:=Zc;exact Tot.jmp aBR (bU [.lt dU dJ,.lt dU Qdh,.eq (a0 150 Qe8) Q0] [.lt dU Qa] (ju 103 [wr (.add Qf (rr 150 Qe8 0)),Qb,Qo,Qm,bG,dJ,wr (.add dU Q0),fJ,iQ]) (by simp only [zz,hat,zg,Zc] <;> omega) (by kernel_rfl) (by simp only [zz,hat,zg,Zc,hw] <;> rfl)) (Nu x1 x2 x3 OU ha q j (i+1) (IntKind.i64.wrap (x0+z)) (by omega))
theorem afZ (i:Nat) (hi:i < d1.l.length) (q: ∀x0,Tot 101 [x0,(d1.l.length:Int),((i+1:Nat):Int),enc d0,enc d1] EL): ∀(j k:Nat) (x0:Int),(∀nm' lc cd,d1.l[i]=dL [nm',lc,cd]→k+j=cd.l.length)→Tot 102 [x0,(i:Int),(k:Int),(d1.l.length:Int),enc d0,enc d1] EL:=by
 have hl:=h1.len;have hw:=aY (n:=i) (by omega);obtain⟨nm',lc,cd,he,_,_,hcd⟩:=Fa h1 hi;have hat:d1.at (i:Int)=dL [nm',lc,cd]:=by rw [aX hi]; exact he
 have hcl:=hcd.len;intro j
 induction j with
 | zero=> intro k x0 hk;have hk:=hk _ _ _ he;exact Tot.jmp avH (bU [Qe2] [Qe1,.lt Qo (ln (ce 2 X5))] (ju 101 [Qf,Qm,Qe4,bG,dJ]) (by simp only [zz,hat,zg] <;> omega) (by kernel_rfl) (by simp only [zz,hw] <;> rfl)) (q x0)
 | succ j ih=>
   intro k x0 hk;have hk':=hk _ _ _ he;by_cases h6:6000 < x0
   ·exact Tot.jmp avH (bU [Qe2,.lt Qo (ln (ce 2 X5)),.lt (.lit 6000) Qf] [Qe1] (ju 101 [Qf,Qm,Qe4,bG,dJ]) (by simp only [zz,hat,zg] <;> omega) (by kernel_rfl) (by simp only [zz,hw] <;> rfl)) (q x0)
   ·have hkl:k < cd.l.length:=by omega
    have hw2:=aY (n:=k) (by omega);obtain⟨a,b,c,e,f,g,OU,hin,_,_,_,_,_,_,has⟩:=Y8 hcd hkl;have aER:cd.at (k:Int)=dL [.i a,.i b,.i c,.i e,.i f,.i g,OU]:=by rw [aX hkl]; exact hin
    refine Tot.jmp avH (bU [Qe2,.lt Qo (ln (ce 2 X5))] [Qe1,.lt (.lit 6000) Qf,vV] (ju 103 [Qf,Qb,Qo,Qm,Qe6,ln Qe6,Qa,bG,dJ]) (by simp only [zz,hat,zg] <;> omega) (by kernel_rfl) (by simp only [zz,hat,aER,zg] <;> rfl)) (Nu h1 (i:Int) (k:Int) (d1.l.length:Int) OU has (fun x0=>?_) OU.l.length 0 x0 (by omega));rw [hw2];exact ih (k+1) x0 fun nm' lc cd he=>by have:=hk nm' lc cd he; omega
theorem Ns: ∀(j i:Nat) (x0:Int),i+j=d1.l.length→Tot 101 [x0,(d1.l.length:Int),(i:Int),enc d0,enc d1] EL
 | 0,i,x0,hi=>by
   by_cases h6:6000 < x0
   ·exact Tot.ret avI (bU [.lt (.lit 6000) Qf] [yM] (ou [Q0]) (by simp only [zz] <;> omega) (by kernel_rfl) (by simp only [zz])) zF
   ·exact Tot.ret avI (bU [] [yM,.lt (.lit 6000) Qf] (ou [Qa]) (by simp only [zz] <;> omega) (by kernel_rfl) (by simp only [zz])) zG
 | j+1,i,x0,hi=>by
   have hil:i < d1.l.length:=by omega
   obtain⟨nm',lc,cd,he,_,_,hcd⟩:=Fa h1 hil;refine Tot.jmp avI (ys:=[_,(i:Int),((0:Nat):Int),(d1.l.length:Int),enc d0,enc d1]) (bU [yM,Qdj] [vV] (ju 102 [wr (.add Qf (wr (.add (ln Qdl) (ln (ce 2 Qdk))))),Qo,Qa,Qb,Qm,bG]) (by simp only [zz] <;> omega) (by kernel_rfl) (by simp only [zz] <;> rfl)) (afZ h1 i hil (fun x0=>Ns j (i+1) x0 (by omega)) cd.l.length 0 _ fun n' l' c' he'=>?_);rw [he] at he';have:=Om he';simp only [List.cons.injEq,and_true] at this;rw [this.2.2];omega
theorem afY:Tot 100 [enc d0,enc d1] EL:=
 Tot.jmp e100 (ys:=[_,(d1.l.length:Int),((0:Nat):Int),enc d0,enc d1]) (bU [] [] (ju 101 [wr (.add vU Qc),Qc,Qa,Qf,Qb]) (by simp only [zz] <;> omega) (by kernel_rfl) (by simp only [zz] <;> rfl)) (Ns h1 d1.l.length 0 _ (by omega))
end
end Go.As.Try
end
section
namespace Go.As.Try
open Go hiding Stat Spec shape
open Go.As
set_option maxRecDepth 100000
def oJ (x:D):D:=dL [.i 0,if (x.hd 1).l.length=0 then .i 2 else dL (List.replicate (x.hd 1).l.length (.i 0)),.i 0,.i 0,.i 0,.i 0]
def rF (d0:D):D:=if d0.l.length=0 then .i 1 else dL (d0.l.map mG)
def uT (d1:D):D:=if d1.l.length=0 then .i 1 else dL (d1.l.map oJ)
theorem VB {l:List D} (h: ∀x∈l,∃a lc w o g tr,Kt x a lc w o g tr) (hn:l≠[]) (hl:l.length≤2199023255488):Wd (.sl 8) (dL l):=by
 have e:(l.map fun x=>x.l).map dL=l:=by
  rw [List.map_map]
  conv=>rhs; rw [← List.map_id l]
  apply List.map_congr_left;intro x hx;obtain⟨a,lc,w,o,g,tr,T⟩:=h x hx;rw [T.is];rfl
 rw [← e];refine .many 8 [.int .i64,.sl 0,.int .u8,.int .i64,.int .i64,.int .i64] _ rfl (by simpa using hn) (by have:yJ 8=64:=rfl; rw [this,List.length_map]; omega) (fun r hr=>?_) fun r hr j d c h1 h2=>?_
 ·obtain⟨x,hx,rfl⟩:=List.mem_map.1 hr;obtain⟨a,lc,w,o,g,tr,T⟩:=h x hx;rw [T.is];rfl
 ·obtain⟨x,hx,rfl⟩:=List.mem_map.1 hr;obtain⟨a,lc,w,o,g,tr,T⟩:=h x hx;rw [T.is,aW] at h1
  match j with
  | 0=>simp at h1 h2; subst h1 h2; exact .int _ _ T.ha
  | 1=>simp at h1 h2; subst h1 h2; exact T.hl
  | 2=>simp at h1 h2; subst h1 h2; exact .int _ _ T.hw
  | 3=>simp at h1 h2; subst h1 h2; exact .int _ _ T.ho
  | 4=>simp at h1 h2; subst h1 h2; exact .int _ _ T.hg
  | 5=>simp at h1 h2; subst h1 h2; exact .int _ _ T.ht
  | j+6=>simp at h1
theorem ahX (x:D) (h:(x.hd 1).l.length≤17592186043904): ∃a lc w o g tr,Kt (oJ x) a lc w o g tr:=by
 have z:iJ .i64 0:=⟨by omega,by omega⟩;refine⟨0,_,0,0,0,0,rfl,z,?_,⟨by omega,by omega⟩,z,z,z⟩;split
 ·exact .non 0
 ·rename_i hn;refine CP (fun y hy=> ⟨0,(List.mem_replicate.1 hy).2,z⟩) (fun he=>?_) (by simpa using h);have:=congrArg List.length he;simp only [List.length_replicate,List.length_nil] at this;omega
theorem EH {d1:D} (h1:Wd (.sl 4) d1): ∀x∈d1.l,(x.hd 1).l.length≤8796093021952:=by intro x hx;obtain⟨i,hi,rfl⟩:=List.getElem_of_mem hx;obtain⟨nm',lc,cd,he,_,hlc,_⟩:=Fa h1 hi;rw [he];simp only [zg,Option.getD_some];have:=hlc.room;have h3:yJ 2=16:=rfl;rw [h3] at this;omega
theorem ajP {d0 d1:D} (h0:Wd (.sl 3) d0) (h1:Wd (.sl 4) d1) (ok:EC d0 d1):Sx (rF d0) (uT d1) 0:=by
 refine⟨?_,?_,?_,?_⟩
 ·unfold rF;split
  ·exact⟨.nil 7,fun x hx=>by simp [D.l] at hx⟩
  ·refine⟨O6 (fun x hx=>?_) (fun he=>?_) (by rw [List.length_map]; have:=ok.1; omega),fun x hx=>?_⟩
   ·obtain⟨y,hy,rfl⟩:=List.mem_map.1 hx;obtain⟨kd,nm',ln,s1,s2,he,_,hnn,_⟩:=h0.decl y hy;rw [he];refine⟨-1,_,0,0,.i 1,.i 1,rfl,⟨by omega,by omega⟩,?_,.inl rfl,⟨by omega,by omega⟩,.nil 0,.nil 0⟩;split
    ·exact hnn
    ·exact⟨by omega,by omega⟩
   ·have:=congrArg List.length he;simp only [List.length_map,List.length_nil] at this;omega
   ·rw [aW] at hx;obtain⟨y,hy,rfl⟩:=List.mem_map.1 hx;exact⟨Nat.le_refl 0,Nat.le_refl 0⟩
 ·unfold uT;split
  ·exact .nil 8
  ·refine VB (fun x hx=>?_) (fun he=>?_) (by rw [List.length_map]; have:=ok.2.1; omega)
   ·obtain⟨y,hy,rfl⟩:=List.mem_map.1 hx;exact ahX y (by have:=EH h1 y hy; omega)
   ·have:=congrArg List.length he;simp only [List.length_map,List.length_nil] at this;omega
 ·unfold rF;split
  ·intro h; cases h
  ·intro h;have:=congrArg (fun d=>d.l.length) h;simp only [aW,List.length_map,AP,List.length_nil] at this;omega
 ·unfold uT;split
  ·intro h; cases h
  ·intro h;have:=congrArg (fun d=>d.l.length) h;simp only [aW,List.length_map,AP,List.length_nil] at this;omega
theorem Ji (d1:D) (h1:Wd (.sl 4) d1) (hlen:d1.l.length≤16) (s:D): ∀(k i:Nat) (acc:List D),i+k=d1.l.length→acc.length=i→
 L 1452 [enc d1,(d1.l.length:Int),(i:Int),enc s,enc (dL acc)]=some [enc s,enc (dL (acc++(d1.l.drop i).map oJ)),0]
 | 0,i,acc,hi,ha=>by
   have c1: ¬(i:Int) < (d1.l.length:Int):=by omega
   rw [aQ,aoQ,List.drop_of_length_le (by omega)];simp only [VJ,zz,c1,bJ,List.map_nil,List.append_nil]
 | k+1,i,acc,hi,ha=>by
   have hil:i < d1.l.length:=by omega
   have hd:d1.l.drop i=d1.l[i] :: d1.l.drop (i+1):=List.drop_eq_getElem_cons hil;have ih:=Ji d1 h1 hlen s k (i+1) (acc++ [oJ d1.l[i]]) (by omega) (by simp [ha]);have c1:(i:Int) < (d1.l.length:Int):=by omega
   have c2: ¬((i:Int) < 0):=by omega
   have w:=aY (n:=i) (by omega);have c3:(acc.length:Int) < 2199023255551:=by omega
   have hb:=EH h1 _ (List.getElem_mem hil);have c4:((((d1.l[i]).hd 1).l.length:Nat):Int) < 17592186044416:=by omega
   have e2:acc++(oJ d1.l[i] :: (d1.l.drop (i+1)).map oJ)=acc++ [oJ d1.l[i]]++(d1.l.drop (i+1)).map oJ:=by simp
   rw [hd,List.map_cons,e2,← ih,aQ,aoQ];by_cases hz:((d1.l[i]).hd 1).l.length=0
   ·have hz':((((d1.l[i]).hd 1).l.length:Nat):Int)=0:=by omega
    have et:oJ d1.l[i]= .p (.i 0) (.p (.i 2) (.p (.i 0) (.p (.i 0) (.p (.i 0) (.p (.i 0) (.i 0)))))):=by unfold oJ; rw [if_pos hz]; rfl
    rw [et];simp only [VJ,zz,c1,c2,w,aX hil,hz',c3,aW,bC]
   ·have hz': ¬((((d1.l[i]).hd 1).l.length:Nat):Int)=0:=by omega
    have et:oJ d1.l[i]= .p (.i 0) (.p (dL (List.replicate ((d1.l[i]).hd 1).l.length (.i 0))) (.p (.i 0) (.p (.i 0) (.p (.i 0) (.p (.i 0) (.i 0)))))):=by unfold oJ; rw [if_neg hz]; rfl
    rw [et];simp only [VJ,zz,c1,c2,w,aX hil,hz',c3,c4,aW,Int.toNat_natCast,bC]
theorem Wq (d1:D) (h1:Wd (.sl 4) d1) (hlen:d1.l.length≤16) (s:D):L 1451 [enc d1,(d1.l.length:Int),enc s]=some [enc s,enc (uT d1),0]:=by
 by_cases hn:d1.l.length=0
 ·have c1: ¬(0:Int) < (d1.l.length:Int):=by omega
  have e:uT d1= .i 1:=by unfold uT; rw [if_pos hn]
  rw [aQ,aoR,e];simp only [VK,zz,c1,bJ]
 ·have hp:0 < d1.l.length:=by omega
  have c1:(0:Int) < (d1.l.length:Int):=by omega
  have e:uT d1=dL (d1.l.map oJ):=by unfold uT; rw [if_neg hn]
  have ih:=Ji d1 h1 hlen s (d1.l.length - 1) 1 [oJ (d1.l[0]'hp)] (by omega) rfl
  have e1:[oJ (d1.l[0]'hp)]++(d1.l.drop 1).map oJ=d1.l.map oJ:=by
   conv=>rhs; rw [← List.drop_zero (l:=d1.l),List.drop_eq_getElem_cons hp]
   rfl
  rw [e1,← e] at ih;have a0:d1.at 0=d1.l[0]'hp:=aX (i:=0) hp;have hb:=EH h1 _ (List.getElem_mem hp);have c4:((((d1.l[0]'hp).hd 1).l.length:Nat):Int) < 17592186044416:=by omega
  rw [← ih,aQ,aoR];by_cases hz:((d1.l[0]'hp).hd 1).l.length=0
  ·have hz':((((d1.l[0]'hp).hd 1).l.length:Nat):Int)=0:=by omega
   have et:dL [oJ (d1.l[0]'hp)]= .p (.p (.i 0) (.p (.i 2) (.p (.i 0) (.p (.i 0) (.p (.i 0) (.p (.i 0) (.i 0))))))) (.i 0):=by unfold oJ; rw [if_pos hz]; rfl
   rw [et];simp only [VK,zz,c1,a0,hz',AP,List.nil_append,kM,oC,bC,Int.natCast_one]
  ·have hz': ¬((((d1.l[0]'hp).hd 1).l.length:Nat):Int)=0:=by omega
   have et:dL [oJ (d1.l[0]'hp)]= .p (.p (.i 0) (.p (dL (List.replicate ((d1.l[0]'hp).hd 1).l.length (.i 0))) (.p (.i 0) (.p (.i 0) (.p (.i 0) (.p (.i 0) (.i 0))))))) (.i 0):=by unfold oJ; rw [if_neg hz]; rfl
   rw [et];simp only [VK,zz,c1,a0,hz',c4,AP,List.nil_append,kM,oC,Int.toNat_natCast,bC,Int.natCast_one]
theorem afP {d0 d1:D} (h1:Wd (.sl 4) d1) (hc:L 450 [enc d0,enc d1]=some [0]) (ok:EC d0 d1):L 1450 [enc d0,enc d1]=some [enc (rF d0),enc (uT d1),0]:=by
 have h3:L 300 [enc d0,enc d1]=some [enc (rF d0)]:=by
  by_cases hn:d0.l.length=0
  ·have e:rF d0= .i 1:=by unfold rF; rw [if_pos hn]
   rw [e];exact aqQ hc (.inr hn)
  ·have e:rF d0=dL (d0.l.map mG):=by unfold rF; rw [if_neg hn]
   rw [e];exact aqR hc ok.1 (by omega)
 have K:dY (bM L (low [enc d0,enc d1])) abC= .jump 1451 [enc d1,(d1.l.length:Int),enc (rF d0)]:=by refine bU [Qf0,Qf1,.eq (a0 300 OV) Q0] [] (ju 1451 [Qb,Qc,rr 300 OV 0]) (by simp only [zz,hc,h3] <;> omega) (by kernel_rfl) ?_;simp only [zz,h3]
 rw [aQ,aoT];exact (congrArg (fin L) K).trans (Wq d1 h1 ok.2.1 _)
theorem afO {d0 d1:D} {c:Int} (hc:L 450 [enc d0,enc d1]=some [c]) (h:c≠0):L 1450 [enc d0,enc d1]=some [enc (.i 1),enc (.i 1),c]:=by
 have K:dY (bM L (low [enc d0,enc d1])) abC= .out [enc (.i 1),enc (.i 1),c]:=by refine bU [Qf0] [Qf1] (ou [Qh,Qh,rr 450 OV 0]) (by simp only [zz,hc] <;> omega) (by kernel_rfl) ?_;simp only [zz,hc]
 rw [aQ,aoT];exact congrArg (fin L) K
theorem abI {k:D} {t:Int} (t0:0≤t) (ht:t < (k.l.length:Int)) (x:KT):(qR k t x).at t=x.d:=by obtain⟨i,rfl⟩ : ∃i:Nat,t=(i:Int):=⟨t.toNat,by omega⟩;rw [Am,aW,Nv (by omega)];rfl
theorem uZ (k:D) (t:Int) (x:KT):(qR k t x).l.length=k.l.length:=by rw [aW,iH]
theorem QN {d1:D} {t:Int} {x:KT} (ho: ¬kN d1 t x=1) (h: ¬low (kV d1 t x) 4=0): ∃op obj arg tr,kV d1 t x= [op,obj,arg,tr,1]:=by
 unfold kN at ho;unfold kV at h ⊢;by_cases w0:x.w=0
 ·rw [if_pos w0] at ho h ⊢;by_cases a0:x.a=(Nc d1 t:Int)
  ·rw [if_pos a0] at ho;omega
  ·rw [if_neg a0] at h ⊢;by_cases h1:((Ins d1 t x).hd 0).n=1
   ·rw [if_pos h1];exact⟨_,_,_,_,rfl⟩
   ·rw [if_neg h1] at h ⊢;by_cases h2:((Ins d1 t x).hd 0).n=2
    ·rw [if_pos h2];exact⟨_,_,_,_,rfl⟩
    ·rw [if_neg h2] at h;exact absurd rfl h
 ·rw [if_neg w0];exact⟨_,_,_,_,rfl⟩
theorem J5 (d1:D) (t:Int) (x:KT):kN d1 t x=0∨kN d1 t x=1:=by
 unfold kN;split
 ·split
  ·exact .inr rfl
  ·exact .inl rfl
 ·exact .inl rfl
theorem abW {d0 d1:D} {t:Int} {x:KT} (C:Cd d0 d1) (R:Rt d0 d1 t x) (hd0:d0.l.length≤64) {op obj arg tr b:Int} (hn:kV d1 t x= [op,obj,arg,tr,b]):iJ .u8 op∧iJ .i64 obj∧iJ .i64 arg:=by
 have z8:iJ .u8 0:=⟨by omega,by omega⟩;have z:iJ .i64 0:=⟨by omega,by omega⟩;have ok:=R.ok;unfold kV at hn;by_cases w0:x.w=0
 ·rw [if_pos w0] at hn;by_cases a0:x.a=(Nc d1 t:Int)
  ·rw [if_pos a0] at hn;simp only [List.cons.injEq] at hn;obtain⟨rfl,rfl,rfl,_⟩:=hn;exact⟨z8,z,z⟩
  ·have hlt:x.a < (Nc d1 t:Int):=by have:=ok.2.1; unfold Nc at a0 ⊢; omega
   have F:=C.inf R hlt;rw [if_neg a0] at hn;by_cases h1:((Ins d1 t x).hd 0).n=1
   ·rw [if_pos h1] at hn;simp only [List.cons.injEq] at hn;obtain⟨rfl,rfl,rfl,_⟩:=hn;exact⟨F.op,F.ob,avY F.ar R.ints⟩
   ·rw [if_neg h1] at hn;by_cases h2:((Ins d1 t x).hd 0).n=2
    ·rw [if_pos h2] at hn;simp only [List.cons.injEq] at hn;obtain⟨rfl,rfl,rfl,_⟩:=hn;exact⟨⟨by omega,by omega⟩,F.ob,z⟩
    ·rw [if_neg h2] at hn;simp only [List.cons.injEq] at hn;obtain⟨rfl,rfl,rfl,_⟩:=hn;exact⟨z8,z,z⟩
 ·rw [if_neg w0] at hn;simp only [List.cons.injEq] at hn;obtain⟨rfl,rfl,rfl,_⟩:=hn;obtain⟨_,_,_,_,_,hw⟩:=ok;exact⟨⟨by omega,by omega⟩,⟨by omega,by omega⟩,R.hg⟩
end Go.As.Try
end
section
namespace Go.As.Try
open Go hiding Stat Spec shape
open Go.As
set_option maxRecDepth 100000
theorem arH {lc:D} (h:Wd (.sl 0) lc) {z v:Int} (h0:0≤z) (h1:z < (lc.l.length:Int)) (hv:iJ .i64 v):Wd (.sl 0) (dL (fP lc.l z (.i v))):=by
 have:=h.room;have h3:yJ 0=8:=rfl;rw [h3] at this;have hs:=iH lc.l z (.i v);refine CP (fun y hy=>?_) (fun he=>?_) (by rw [hs]; omega)
 ·rcases Bq hy with h' | rfl
  ·exact (h.el1 rfl y h').i
  ·exact⟨v,rfl,hv⟩
 ·rw [he] at hs;simp only [List.length_nil] at hs;omega
theorem aaA {k:D} (hk:Wd (.sl 8) k) {t:Int} {x:KT} (h: ∃a lc w o g tr,Kt x.d a lc w o g tr) (hp:0 < k.l.length):Wd (.sl 8) (qR k t x):=by
 have hf:=hk.room;have h3:yJ 8=64:=rfl;rw [h3] at hf;have hs:=iH k.l t x.d;refine VB (fun y hy=>?_) (fun he=>?_) (by rw [hs]; omega)
 ·rcases Bq hy with h' | rfl
  ·exact lW hk y h'
  ·exact h
 ·rw [he] at hs;simp only [List.length_nil] at hs;omega
section
variable {d0 d1 s k:D} {t:Int} {n:Nat} {x:KT}
theorem Wv {x:KT} (ha:iJ .i64 x.a) (hl:Wd (.sl 0) x.lc) (hw:iJ .u8 x.w) (ho:iJ .i64 x.o) (hg:iJ .i64 x.g) (ht:iJ .i64 x.tr): ∃a lc w o g tr,Kt x.d a lc w o g tr:=⟨_,_,_,_,_,_,rfl,ha,hl,hw,ho,hg,ht⟩
theorem Rt.kt (C:Cd d0 d1) (R:Rt d0 d1 t x): ∃a lc w o g tr,Kt x.d a lc w o g tr:=by obtain⟨a0,a1,_,t0,t1,hw⟩:=R.ok;have hd:=C.ok.1;have hnc:=(C.code R.t0 R.t1).len;exact Wv ⟨by omega,by omega⟩ R.hl ⟨by omega,by omega⟩ ⟨by omega,by omega⟩ R.hg ⟨by omega,by omega⟩
theorem ahT (C:Cd d0 d1) (R:Rt d0 d1 t x) (hx:x.w=0→x.a < (Nc d1 t:Int)) {op e2 e3 e4 oc:Int} (h3:iJ .i64 e3) (h4:iJ .i64 e4): ∃a lc w o g tr,Kt (rW (Ins d1 t x) x op e2 e3 e4 oc).d a lc w o g tr:=by
 obtain⟨a0,a1,hln,t0,t1,hw⟩:=R.ok;have hd:=C.ok.1;have hnc:=(C.code R.t0 R.t1).len;have ka:iJ .i64 x.a:=⟨by omega,by omega⟩;have kw:iJ .u8 x.w:=⟨by omega,by omega⟩;have ko:iJ .i64 x.o:=⟨by omega,by omega⟩;have kt:iJ .i64 x.tr:=⟨by omega,by omega⟩;have z:iJ .i64 0:=⟨by omega,by omega⟩;have z8: ∀v:Int,v=0∨v=24∨v=25→iJ .u8 v:=fun v h=> ⟨by omega,by omega⟩;unfold rW;split
 ·split
  ·exact Wv ka R.hl kw ko R.hg (by
    show iJ .i64 (if 4611686018427387904 < x.tr+1 then 4611686018427387904 else x.tr+1)
    split <;> exact⟨by omega,by omega⟩)
  ·exact Wv ka R.hl kw ko R.hg kt
 ·split
  ·rename_i w0;have F:=C.inf R (hx w0);have ok:=F.ok;have h1:=hx w0;unfold Nc at h1;unfold OkI at ok;have k1:iJ .i64 (x.a+1):=⟨by omega,by omega⟩;refine Wv ?_ ?_ ?_ ?_ ?_ z
   ·show iJ .i64 (if _ then _ else _);split
    ·exact F.to
    ·exact k1
   ·show Wd (.sl 0) (if _ then _ else _);split
    ·rename_i hc;refine arH R.hl (by omega) ?_ h4;have:=hc.1;omega
    ·exact R.hl
   ·show iJ .u8 (if _ then _ else _);split
    ·split
     ·exact z8 _ (by omega)
     ·exact z8 _ (by omega)
    ·exact z8 _ (by omega)
   ·show iJ .i64 (if _ then _ else _);split
    ·exact h3
    ·exact ko
   ·show iJ .i64 (if _ then _ else _);split
    ·exact h4
    ·exact R.hg
  ·exact Wv ka R.hl (z8 _ (.inl rfl)) z z z
theorem abH {k:D} (hp:0 < k.l.length) (t:Int) (x:KT):qR k t x≠.i 2:=fun he=>by have:=uZ k t x;rw [he] at this;have e:(D.i 2).l.length=0:=rfl;omega
theorem ahS (S:Sx s k n) (C:Cd d0 d1) (R:Rt d0 d1 t x) (ht:t < (k.l.length:Int)) (hx:x.w=0→x.a < (Nc d1 t:Int)) {op obj arg tries e1 e2 e3 e4 e5 oc:Int} {s':D} (A:Tried d0 d1 s t op obj arg tries n s' e1 e2 e3 e4 e5 oc) :
 Sx s' (qR k t (rW (Ins d1 t x) x op e2 e3 e4 oc)) (n+1):=by
 have hp:0 < k.l.length:=by have:=R.t0; omega
 exact⟨A.gs,aaA S.wk (ahT C R hx A.e3 A.e4) hp,A.n2 S.n2s,abH hp _ _⟩
theorem aqT (R:Rt d0 d1 t x) (ho:kN d1 t x=0):x.w=0→x.a < (Nc d1 t:Int):=fun w0=>by unfold kN at ho;rw [if_pos w0] at ho;have:=R.ok.2.1;unfold Nc at ho ⊢;split at ho <;> omega
end
end Go.As.Try
end
section
namespace Go.As.Try
open Go hiding Stat Spec shape
open Go.As
set_option maxRecDepth 100000
theorem QV: ∀(l:List D) (k v k':D),nT (Bv l k v) k'=if k=k' then some v else nT l k'
 | [],k,v,k'=>by
   simp only [Bv,nT];by_cases h:k=k'
   ·rw [if_pos h]; exact if_pos h
   ·rw [if_neg h]; exact if_neg h
 | d :: l,k,v,k'=>by
   simp only [Bv];by_cases h:Xt d=k
   ·rw [if_pos h];simp only [nT];by_cases h2:k=k'
    ·rw [if_pos h2]; exact if_pos h2
    ·rw [if_neg h2,if_neg (fun h3=>h2 (h.symm.trans h3))]; exact if_neg h2
   ·rw [if_neg h];simp only [nT,QV l k v k'];by_cases h2:Xt d=k'
    ·rw [if_pos h2,if_neg (fun h3=>h (h2.trans h3.symm)),if_pos h2]
    ·rw [if_neg h2,if_neg h2]
def wO (m:Int) (l:List D):Prop:=(∀x∈l,0≤x.n∧x.n < m)∧(l.map D.n).Nodup
def JC (N o dn:Int) (rl vl:Nat):Prop:=(N < 0→(vl:Int)=0)∧(0≤N→(vl:Int)≤N)∧(o < 0∨(rl:Int)=0∧dn=0)
def ZV (s:D) (l:List D):Prop:= ∀n:Int,(nT s.l (.i n)=none∧n∉l.map D.n)∨(nT s.l (.i n)=some (.i 1)∧n∈l.map D.n)
theorem akC {s x:D} {l:List D} (h:ZV s l):ZV (dL (Bv s.l (.i x.n) (.i 1))) (l++ [x]):=fun n=>by
 rw [aW,QV,List.map_append];by_cases hn:x.n=n
 ·rw [if_pos (by rw [hn])];exact .inr ⟨rfl,List.mem_append_right _ (by simp [hn])⟩
 ·rw [if_neg (fun h=>hn (by simpa using h))];rcases h n with ⟨h1,h2⟩ | ⟨h1,h2⟩
  ·refine .inl ⟨h1,fun h3=>?_⟩;rcases List.mem_append.1 h3 with h3 | h3
   ·exact h2 h3
   ·simp only [List.map,List.mem_cons,List.not_mem_nil,or_false] at h3;exact hn h3.symm
  ·exact .inr ⟨h1,List.mem_append_left _ h2⟩
theorem Kr {P Q:Prop} {ys:List Int} (h:P) (hQ:WC Q ys):WC (P∧Q) ys:=by
 obtain⟨b,rfl,h1 | h1⟩:=hQ
 ·exact⟨b,rfl,.inl ⟨h1.1,fun q=>h1.2 q.2⟩⟩
 ·exact⟨b,rfl,.inr ⟨h1.1,h,h1.2⟩⟩
theorem zD {P Q:Prop} (h: ¬P):WC (P∧Q) [0]:=BD fun q=>h q.1
theorem VW (m:Int) (r:D) (hl:r.l.length≤140737488351232) (k nm' N x7 x8 o c dn g:Int) (v:D): ∀(j i:Nat) (seen:D),i+j=r.l.length→ZV seen (r.l.take i)→wO m (r.l.take i)→
 Tot 501 [m,enc r,(r.l.length:Int),(i:Int),k,nm',N,x7,x8,o,c,dn,g,enc v,enc seen] (WC (wO m r.l∧JC N o dn r.l.length v.l.length))
 | 0,i,seen,hi,_,hR=>by
   have c1: ¬(i:Int) < (r.l.length:Int):=by omega
   rw [List.take_of_length_le (by omega)] at hR;refine Tot.of ?_;unfold JC;rw [aoE];simp only [Yf,zz,c1]
   repeat' first
    | exact .out (Kr hR (BD (by omega)))
    | exact .out (Kr hR (WB (by omega)))
    | refine .ite (fun _=>?_) (fun _=>?_)
 | j+1,i,seen,hi,hS,hR=>by
   have hil:i < r.l.length:=by omega
   have c1:(i:Int) < (r.l.length:Int):=by omega
   have c2: ¬((i:Int) < 0):=by omega
   have w:=aY (n:=i) (by omega);have ht:r.l.take (i+1)=r.l.take i++ [r.l[i]]:=by rw [List.take_add_one,List.getElem?_eq_getElem hil]; rfl
   have hmem:r.l[i]∈r.l:=List.getElem_mem hil;have ih:=fun h=>VW m r hl k nm' N x7 x8 o c dn g v j (i+1) (dL (Bv seen.l (.i (r.l[i]).n) (.i 1))) (by omega) (by rw [ht]; exact akC hS) h;refine Tot.of ?_;rw [aoE];rcases hS (r.l[i]).n with ⟨h1,h2⟩ | ⟨h1,h2⟩
   ·simp only [Yf,zz,c1,c2,w,aX hil,h1,Option.isSome_none,Bool.false_eq_true];refine .ite (fun q=> .out (zD fun R=>?_)) (fun q=> .ite (fun q2=>?_) (fun q2=> .out (zD fun R=>?_)))
    ·have:=R.1 _ hmem;omega
    ·refine .jump (ih ?_);rw [ht];refine⟨fun x hx=>?_,?_⟩
     ·rcases List.mem_append.1 hx with hx | hx
      ·exact hR.1 x hx
      ·simp only [List.mem_cons,List.not_mem_nil,or_false] at hx;subst hx;exact⟨by omega,q2⟩
     ·rw [List.map_append,List.nodup_append];refine⟨hR.2,by simp,fun a ha b hb=>?_⟩;simp only [List.map,List.mem_cons,List.not_mem_nil,or_false] at hb;subst hb;intro he;subst he;exact h2 ha
    ·have:=R.1 _ hmem;omega
   ·simp only [Yf,zz,c1,c2,w,aX hil,h1,aK]
    have nd: ¬wO m r.l:=fun R=>by
     have hn:=R.2;have e:r.l=r.l.take i++r.l[i] :: r.l.drop (i+1):=by rw [← List.drop_eq_getElem_cons hil,List.take_append_drop]
     rw [e,List.map_append,List.nodup_append] at hn;exact hn.2.2 _ h2 _ (by rw [List.map_cons]; exact List.mem_cons_self) rfl
    refine .ite (fun q=> .out (zD nd)) (fun q=> .ite (fun q2=> .out (zD nd)) (fun q2=> .out (zD nd)))
theorem aeX (m:Int) (r:D) (hl:r.l.length≤140737488351232) (k nm' N x7 x8 o c dn g:Int) (v:D) :
 Tot 501 [m,enc r,(r.l.length:Int),0,k,nm',N,x7,x8,o,c,dn,g,enc v,enc (.i 0)] (WC (wO m r.l∧JC N o dn r.l.length v.l.length)):=
 VW m r hl k nm' N x7 x8 o c dn g v r.l.length 0 (.i 0) (by omega) (fun n=> .inl ⟨rfl,by simp⟩) ⟨by simp,by simp⟩
def vW (k N c:Int):Prop:=k=9∨(k=3∧0≤c∧c≤N)∨(k=5∧0≤c∧c≤IntKind.i64.wrap (N - 1))∨(k=7∧0≤c∧c≤1099511627776)∨(k≠3∧k≠5∧k≠7∧k≠9∧c=0)
theorem atK (k x1 N x3 x4 c:Int): ∃a b:Int,L 650 [k,x1,N,x3,x4]=some [a,b]∧(b=0∧vW k N c∨b=1∧(vW k N c↔0≤c∧c≤a)):=by
 have:Tot 650 [k,x1,N,x3,x4] (fun ys=> ∃a b:Int,ys= [a,b]∧(b=0∧vW k N c∨b=1∧(vW k N c↔0≤c∧c≤a))):=by
  unfold vW;refine Tot.of ?_;rw [aBF];simp only [arW,zz]
  repeat' first
   | exact .out ⟨_,_,rfl,by omega⟩
   | refine .ite (fun _=>?_) (fun _=>?_)
 obtain⟨ys,h,a,b,rfl,h2⟩:=this;exact⟨a,b,h,h2⟩
def SV (k N m o c dn g:Int) (rl vl:Nat):Prop:=
 vW k N c∧-1≤o∧o < m∧0≤g∧g≤4611686018427387904∧(0≤o→k=1∨k=2∨k=6)∧(0 < (rl:Int)→k=4∨k=2)∧(0 < (vl:Int)→k=8)∧(dn≠0→k=6)∧(0 < g→k=5)
def ZU (k N m o c dn g:Int) (r v:D):Prop:=SV k N m o c dn g r.l.length v.l.length∧wO m r.l∧JC N o dn r.l.length v.l.length
set_option maxHeartbeats 4000000 in
theorem ajW (k x1 N x3 x4 m o c dn g:Int) (r v:D) (hl:r.l.length≤140737488351232):Tot 500 [k,x1,N,x3,x4,o,c,dn,g,enc r,enc v,m] (WC (ZU k N m o c dn g r v)):=by
 unfold ZU SV;obtain⟨a,b,hM,hb⟩:=atK k x1 N x3 x4 c;have ih:=aeX m r hl k x1 N x3 x4 o c dn g v;refine Tot.of ?_;rw [aBH];generalize vW k N c=H at *;by_cases b0:b=0
 ·subst b0
  have hH:H:=by
   rcases hb with h | h
   ·exact h.2
   ·omega
  simp only [aiU,zz,hM]
  repeat' first
   | exact .out (zD (by omega))
   | exact .jump (let ⟨ys,hL,hB⟩:=ih; ⟨ys,hL,Kr ⟨hH,by omega,by omega,by omega,by omega,by omega,by omega,by omega,by omega,by omega⟩ hB⟩)
   | refine .ite (fun _=>?_) (fun _=>?_)
 ·have hH:H↔0≤c∧c≤a:=by
   rcases hb with h | h
   ·omega
   ·exact h.2
  simp only [aiU,zz,hM,if_neg b0]
  repeat' first
   | exact .out (zD fun h=>by first | omega | (have:=hH.1 h.1; omega))
   | exact .jump (let ⟨ys,hL,hB⟩:=ih; ⟨ys,hL,Kr ⟨hH.2 ⟨by omega,by omega⟩,by omega,by omega,by omega,by omega,by omega,by omega,by omega,by omega,by omega⟩ hB⟩)
   | refine .ite (fun _=>?_) (fun _=>?_)
theorem Ut {P:Prop} {j:Nat} {xs:List Int} (h:Tot j xs (WC P)):L j xs=some [1]↔P:=by
 obtain⟨ys,hL,b,rfl,hb⟩:=h;rw [hL];simp only [Option.some.injEq,List.cons.injEq,and_true];rcases hb with ⟨h1,h2⟩ | ⟨h1,h2⟩
 ·exact⟨fun h=>by omega,fun h=>absurd h h2⟩
 ·exact⟨fun _=>h2,fun _=>h1⟩
theorem ajX {d x:D} {m:Nat} {o c dn g:Int} {r v:D} (T:Tg x o c dn g r v) (hl:r.l.length≤140737488351232):Snd d x m↔ZU (d.hd 0).n (d.hd 2).n (m:Int) o c dn g r v:=by
 have h:=Ut (ajW (d.hd 0).n (enc (d.hd 1)) (d.hd 2).n (enc (d.hd 3)) (d.hd 4).n (m:Int) o c dn g r v hl)
 have e:(if dn=0 then (0:Int) else 1)=dn:=by rcases T.hd with rfl | rfl <;> rfl
 unfold Snd asK;rw [T.is];simp only [zg,Option.getD_some,n_i,e];exact h
end Go.As.Try
end
section
namespace Go.As.Try
open Go hiding Stat Spec shape
open Go.As
set_option maxRecDepth 100000
theorem TP {m:Int} {l l':List D} (h:wO m l) (hs:l'.Sublist l):wO m l':=⟨fun x hx=>h.1 x (hs.subset hx),h.2.sublist (hs.map _)⟩
theorem asU (m:Int):wO m []:=⟨by simp,by simp⟩
theorem VU {m t:Int} {l:List D} (h:wO m l) (hn: ∀x∈l,x.n≠t) (t0:0≤t) (t1:t < m):wO m (l++ [.i t]):=by
 refine⟨fun x hx=>?_,?_⟩
 ·rcases List.mem_append.1 hx with hx | hx
  ·exact h.1 x hx
  ·simp only [List.mem_cons,List.not_mem_nil,or_false] at hx;subst hx;exact⟨t0,t1⟩
 ·rw [List.map_append,List.nodup_append];refine⟨h.2,by simp,fun a ha b hb=>?_⟩;simp only [List.map,List.mem_cons,List.not_mem_nil,or_false,n_i] at hb;subst hb;obtain⟨x,hx,rfl⟩:=List.mem_map.1 ha;exact hn x hx
theorem aAj {m t:Int} {l:List D} (h:wO m l) (t0:0≤t) (t1:t < m):wO m (wo t l++ [.i t]):=
 VU (TP h List.filter_sublist) (fun x hx=>by simpa using (List.mem_filter.1 hx).2) t0 t1
theorem asV {m:Int} {l:List D} (h:wO m l) (k:Nat):wO m (l.take k++l.drop (k+1)):=by rw [← List.eraseIdx_eq_take_drop_succ];exact TP h (List.eraseIdx_sublist _ _)
theorem V5 {r:D} {t:Int} (h:place r t < 0): ∀x∈r.l,x.n≠t:=by
 rcases sF r t with ⟨_,h2⟩ | ⟨k,_,h1,_⟩
 ·exact h2
 ·omega
def agY (k N m:Int):Act→Prop
 | .res o c dn g r v _ _ _=>ZU k N m o c dn g r v
 | _=>True
theorem agY.ite {k N m:Int} {p:Prop} [Decidable p] {a b:Act} (ha:p→agY k N m a) (hb: ¬p→agY k N m b):agY k N m (if p then a else b):=by
 by_cases h:p
 ·rw [if_pos h]; exact ha h
 ·rw [if_neg h]; exact hb h
theorem Y2 {op k:Int} (h0:0≤op) (hk:kindOf op=k) (h1:1≤k) :
 (op=1∨op=2∨op=3∨op=4)∧k=1∨(op=5∨op=6∨op=7∨op=8)∧k=2∨(op=9∨op=10∨op=11)∧k=3∨(op=12∨op=13∨op=14∨op=24)∧k=4∨(op=15∨op=25)∧k=5∨(op=16∨op=26)∧k=6∨(op=17∨op=18∨op=19)∧k=7∨(op=20∨op=21)∧k=8∨(op=22∨op=23)∧k=9:=by
 unfold kindOf at hk;by_cases h27:op < 27
 ·have:op=0∨op=1∨op=2∨op=3∨op=4∨op=5∨op=6∨op=7∨op=8∨op=9∨op=10∨op=11∨op=12∨op=13∨op=14∨op=15∨op=16∨op=17∨op=18∨op=19∨op=20∨op=21∨op=22∨op=23∨op=24∨op=25∨op=26:=by omega
  rcases this with rfl | rfl | rfl | rfl | rfl | rfl | rfl | rfl | rfl | rfl | rfl | rfl | rfl | rfl | rfl | rfl | rfl | rfl | rfl | rfl | rfl | rfl | rfl | rfl | rfl | rfl | rfl
  all_goals simp at hk
  all_goals subst hk
  all_goals first | omega | simp
 ·rw [if_neg h27] at hk;omega
section
variable {d0 x:D} {k N m mo th op arg tries o c dn g:Int} {r v:D}
set_option maxHeartbeats 8000000 in
theorem awE (T:Tg x o c dn g r v) (S:ZU k N m o c dn g r v) (hop:0≤op) (hk:kindOf op=k) (hO:OkO d0 k N) (t0:0≤th) (t1:th < m) (hm:m≤16):agY k N m (act N mo th op arg tries o c dn g r v):=by
 obtain⟨P,R,E⟩:=S;have hc1:=T.hc.1;have hc2:=T.hc.2;have hg1:=T.hg.1;have hd:=T.hd;have pr:=iK r th;have pn:=fun h=>V5 (r:=r) (t:=th) h;have rs:=fun h=>VU R (V5 (r:=r) (t:=th) h) t0 t1;have rw':=aAj R t0 t1
 have rd:=asV R (place r th).toNat
 have r1:=TP R (List.drop_sublist 1 r.l);obtain⟨k1,k2,_,kn,k5,_⟩:=hO;unfold SV vW at P;unfold JC at E;have hcs:=Y2 hop hk k1;rcases hcs with ⟨h | h | h | h,hk'⟩ | ⟨h | h | h | h,hk'⟩ | ⟨h | h | h,hk'⟩ | ⟨h | h | h | h,hk'⟩ | ⟨h | h,hk'⟩ | ⟨h | h,hk'⟩ | ⟨h | h | h,hk'⟩ | ⟨h | h,hk'⟩ | ⟨h | h,hk'⟩
 all_goals
  subst h;subst hk';simp only [act,Int.reduceEq,if_true,if_false,reduceIte]
  repeat' first
   | exact trivial
   | refine agY.ite (fun _=>?_) (fun _=>?_)
 all_goals
  refine⟨?_,?_,?_⟩
  ·clear rs rw' rd r1 pn;unfold SV vW
   try simp only [aW,iO,AP,List.length_append,List.length_cons,List.length_nil,List.length_drop,IntKind.wrap_i64,true_or,or_true,true_and,and_true,implies_true,true_implies] at *
   omega
  ·try simp only [aW,iO,AP]
   first
    | exact R
    | exact rs (by omega)
    | exact rw'
    | exact rd
    | exact r1
    | exact asU _
  ·unfold JC
   try simp only [aW,iO,AP,List.length_append,List.length_cons,List.length_nil,List.length_drop,List.length_take,IntKind.wrap_i64,true_or,or_true,true_and,and_true,implies_true,true_implies] at *
   omega
end
end Go.As.Try
end
section
namespace Go.As.Try
open Go hiding Stat Spec shape
open Go.As
set_option maxRecDepth 100000
structure aBX (d0 d1 s k:D) (t:Int) (n:Nat) (s' k':D) (e1 e2 e3 e4 e5 oc:Int):Prop where
 eq:L 1850 [enc d0,enc d1,enc s,enc k,t]=some [enc s',enc k',e1,e2,e3,e4,e5,oc]
 sx:Sx s' k' (n+1)
 ls:s'.l.length=s.l.length
 lk:k'.l.length=k.l.length
section
variable {d0 d1 s k:D} {n:Nat} (S:Sx s k n) (hn:n < 17592186043904) (h0:Wd (.sl 3) d0) (h1:Wd (.sl 4) d1)
include S hn h0 h1
theorem alR {t:Int} {x:KT} (R:Rs d0 d1 s k t x) (ho:kN d1 t x=0) (ha:low (kV d1 t x) 4=0):Sx s (qR k t (AO (Ins d1 t x) x)) n:=by
 have hp:0 < k.l.length:=by have:=R.r.t0; have:=R.ht; omega
 exact⟨S.g,aaA S.wk ((Ws R.c R.ht R.r (Y0 R.r ho ha)).1.kt R.c) hp,S.n2s,abH hp _ _⟩
theorem Fj (t:Int): ∃s' k' e1 e2 e3 e4 e5 oc,aBX d0 d1 s k t n s' k' e1 e2 e3 e4 e5 oc:=by
 rcases abO (t:=t) S hn h0 h1 with h | ⟨x,R⟩
 ·exact⟨s,k,0,0,0,0,0,0,abG S h,S.mono (Nat.le_succ n),rfl,rfl⟩
 ·rcases J5 d1 t x with ho | ho
  ·by_cases ha:low (kV d1 t x) 4=0
   ·exact⟨_,_,0,0,0,0,0,1,LD S R ho ha,(alR S hn h0 h1 R ho ha).mono (Nat.le_succ n),rfl,uZ _ _ _⟩
   ·obtain⟨op,obj,arg,tr,hq⟩:=QN (by omega) ha;obtain⟨k1,k2,k3⟩:=abW R.c R.r R.c.ok.1 hq
    have hti:iJ .i64 t:=by have:=R.r.t0;have:=R.r.t1;have:=h1.len;exact⟨by omega,by omega⟩
    obtain⟨s',e1,e2,e3,e4,e5,oc,A⟩:=try_any (tries:=tr) h0 h1 S.g hn hti k1 k2 k3;exact⟨s',_,e1,e2,e3,e4,e5,oc,yS S R ho hq A,ahS S R.c R.r R.ht (aqT R.r ho) A,A.len,uZ _ _ _⟩
  ·exact⟨s,k,0,0,0,0,0,4,CU S R ho,S.mono (Nat.le_succ n),rfl,rfl⟩
end
def vF (x n:Int):Int:=if x.tmod n < 0 then x.tmod n+n else x.tmod n
theorem KQ {x n:Int} (h:0 < n): -n < x.tmod n∧x.tmod n < n:=by have h1:=Int.tmod_lt_of_pos x h;have h2:=Int.tmod_lt_of_pos (-x) h;rw [Int.neg_tmod] at h2;omega
theorem P8 {x n:Int} (h:0 < n):0≤vF x n∧vF x n < n:=by have:=KQ (x:=x) h;unfold vF;split <;> omega
theorem afE {x n:Int} (h:0 < n) (hb:n≤140737488351232):(IntKind.i64.wrap (x.tmod n+n)).tmod n=vF x n:=by
 have h1:=KQ (x:=x) h;rw [pJ (by omega) (by omega)];unfold vF;split
 ·exact Int.tmod_eq_of_lt (by omega) (by omega)
 ·rw [Int.tmod_eq_emod_of_nonneg (by omega),Int.add_emod_right];exact Int.emod_eq_of_lt (by omega) (by omega)
theorem abS {x n:Int} (h:0 < n) (hb:n≤140737488351232):L 2100 [x,n]=some [vF x n]:=by
 have h1:=KQ (x:=x) h;have c1: ¬n < 1:=by omega
 have w:IntKind.i64.wrap (x.tmod n+n)=x.tmod n+n:=pJ (by omega) (by omega);rw [aQ,ayK];unfold vF;have dr: ∀{ρ:Nat→Int} (a b:SE),(SE.rem a b).den ρ=(a.den ρ).tmod (b.den ρ):=fun _ _=>rfl;by_cases hz:x.tmod n < 0
 ·simp only [aaW,zz,c1,dr,hz,w,bJ,if_true]
 ·simp only [aaW,zz,c1,dr,hz,bJ,if_false]
end Go.As.Try
end
section
namespace Go.As.Try
open Go hiding Stat Spec shape
open Go.As
set_option maxRecDepth 100000
inductive agU (d0 d1 s:D) (t op obj arg tries:Int):D→Int→Int→Int→Int→Int→Int→Prop
 | no:agU d0 d1 s t op obj arg tries s 0 0 0 0 0 0
 | mis (A:Acc d0 d1 s t op obj):agU d0 d1 s t op obj arg tries s t 27 obj (IntKind.i64.wrap op) 0 2
 | res (A:Acc d0 d1 s t op obj) (o c dn g:Int) (r v:D) (o' c' O1 g':Int) (r' v':D) (m:Option Int) (a oc:Int) (T:Tg (s.at obj) o c dn g r v)
  (h:act (Mx d0 obj) (Mo d0 s obj) t op arg tries o c dn g r v= .res o' c' O1 g' r' v' m a oc):agU d0 d1 s t op obj arg tries (Ey s obj (Mx d0 obj) (.res o' c' O1 g' r' v' m a oc)) t op obj a 0 oc
section
variable {d0 d1 s s':D} {t op obj arg tries e1 e2 e3 e4 e5 oc:Int} {n:Nat}
theorem Yd (h0:Wd (.sl 3) d0) (h1:Wd (.sl 4) d1) (G:Gs s n) (hn:n < 17592186043904) (hop:iJ .u8 op) (A:Tried d0 d1 s t op obj arg tries n s' e1 e2 e3 e4 e5 oc):agU d0 d1 s t op obj arg tries s' e1 e2 e3 e4 e5 oc:=by
 have hf:=G.few (by omega:n < 17592186044415);have hA:=A.eq;by_cases h:Acc d0 d1 s t op obj
 ·obtain⟨_,o,c,dn,g,r,v,T,hL⟩:=Td (arg:=arg) (tries:=tries) h0 h1 G.wd hf hop h;rw [Ub] at hL;rw [hA] at hL
  cases hB:act (Mx d0 obj) (Mo d0 s obj) t op arg tries o c dn g r v with
  | blk=> rw [hB] at hL;simp only [evA,Option.some.injEq,List.cons.injEq,and_true] at hL;obtain⟨q,rfl,rfl,rfl,rfl,rfl,rfl⟩:=hL;have q:=lF q;subst q;exact .no
  | mis=> rw [hB] at hL;simp only [evA,Option.some.injEq,List.cons.injEq,and_true] at hL;obtain⟨q,rfl,rfl,rfl,rfl,rfl,rfl⟩:=hL;have q:=lF q;subst q;exact .mis h
  | res o' c' O1 g' r' v' m a oc'=> rw [hB] at hL;simp only [evA,Option.some.injEq,List.cons.injEq,and_true] at hL;obtain⟨q,rfl,rfl,rfl,rfl,rfl,rfl⟩:=hL;have q:=lF q;subst q;exact .res h o c dn g r v o' c' O1 g' r' v' m _ _ T hB
 ·have hL:=Yc (arg:=arg) (tries:=tries) h0 h1 G.wd hf hop h;rw [hA] at hL;simp only [Option.some.injEq,List.cons.injEq,and_true] at hL;obtain⟨q,rfl,rfl,rfl,rfl,rfl,rfl⟩:=hL;have q:=lF q;subst q;exact .no
end
section
variable {d0 d1 s:D} {n:Nat} (h0:Wd (.sl 3) d0) (h1:Wd (.sl 4) d1) (G:Gs s n) (hn:n < 17592186044000)
include h0 h1 G hn
theorem abN (R:L 350 [enc d0,enc d1,enc s]=some [1]):L 450 [enc d0,enc d1]=some [0]∧EC d0 d1∧s.l.length=d0.l.length:=by obtain⟨b,hb,_,hi⟩:=oW h0 h1 (G.few (by omega)).rows;rw [R] at hb;simp only [Option.some.injEq,List.cons.injEq,and_true] at hb;obtain⟨hC,hle,_⟩:=hi.1 hb.symm;exact⟨hC,LV h0 h1 (G.few (by omega)) R⟩
theorem YH (R:L 350 [enc d0,enc d1,enc s]=some [1]) {i:Int} (i0:0≤i) (i1:i < (s.l.length:Int)) {o c dn g:Int} {r v:D} (T:Tg (s.at i) o c dn g r v):ZU ((d0.at i).hd 0).n ((d0.at i).hd 2).n (d1.l.length:Int) o c dn g r v:=by
 obtain⟨b,hb,_,hi⟩:=oW h0 h1 (G.few (by omega)).rows;rw [R] at hb;simp only [Option.some.injEq,List.cons.injEq,and_true] at hb;obtain⟨_,hle,hs⟩:=hi.1 hb.symm;obtain⟨k,rfl⟩ : ∃k:Nat,i=(k:Int):=⟨i.toNat,by omega⟩;have hk:k < s.l.length:=by omega
 have h:=hs k hk;rw [aX hk] at T;have hrow:=G.rows _ (List.getElem_mem hk);rw [T.is] at hrow;have hl:r.l.length≤140737488351232:=by have:=hrow.1; have:r.l.length≤n:=this; omega
 rw [ajX T hl] at h;rw [aX (by omega:k < d0.l.length)];exact h
theorem aCC (hC:L 450 [enc d0,enc d1]=some [0]) (hle:s.l.length=d0.l.length) (h: ∀i:Nat,i < s.l.length→∃o c dn g r v,Tg (s.at (i:Int)) o c dn g r v∧ZU ((d0.at (i:Int)).hd 0).n ((d0.at (i:Int)).hd 2).n (d1.l.length:Int) o c dn g r v):L 350 [enc d0,enc d1,enc s]=some [1]:=by
 obtain⟨b,hb,_,hi⟩:=oW h0 h1 (G.few (by omega)).rows;rw [hb,hi.2 ⟨hC,hle,fun k hk=>?_⟩];obtain⟨o,c,dn,g,r,v,T,P⟩:=h k hk;rw [aX hk] at T;rw [aX (by omega:k < d0.l.length)] at P;have hrow:=G.rows _ (List.getElem_mem hk);rw [T.is] at hrow;have hl:r.l.length≤140737488351232:=by have:=hrow.1; have:r.l.length≤n:=this; omega
 exact (ajX T hl).2 P
end
theorem axI {s:D} {n:Nat} (G:Gs s n) {i:Int} (i0:0≤i) (i1:i < (s.l.length:Int)): ∃o c dn g r v,Tg (s.at i) o c dn g r v∧r.l.length≤n∧v.l.length≤n:=by
 obtain⟨k,rfl⟩ : ∃k:Nat,i=(k:Int):=⟨i.toNat,by omega⟩;have hk:k < s.l.length:=by omega
 obtain⟨o,c,dn,g,r,v,T⟩:=KR (G.wd.thing _ (List.getElem_mem hk));have hrow:=G.rows _ (List.getElem_mem hk);rw [T.is] at hrow;exact⟨o,c,dn,g,r,v,by rw [aX hk]; exact T,hrow.1,hrow.2⟩
def agZ (th:Int):Act→Prop
 | .res _ _ _ _ _ _ m _ _=> ∀q,m=some q→q= -1∨q=th
 | _=>True
theorem agZ.ite {th:Int} {p:Prop} [Decidable p] {a b:Act} (ha:agZ th a) (hb:agZ th b):agZ th (if p then a else b):=by
 split
 ·exact ha
 ·exact hb
theorem aEd {M mo th op arg tries o c dn g:Int} {r v:D}:agZ th (act M mo th op arg tries o c dn g r v):=by
 have e1: ∀q:Int,(none:Option Int)=some q→q= -1∨q=th:=fun q h=>by simp at h
 have e2: ∀q:Int,some (-1:Int)=some q→q= -1∨q=th:=fun q h=>by simp only [Option.some.injEq] at h; exact .inl h.symm
 have e3: ∀q:Int,some th=some q→q= -1∨q=th:=fun q h=>by simp only [Option.some.injEq] at h; exact .inr h.symm
 unfold act
 repeat' refine agZ.ite ?_ ?_
 all_goals first
  | trivial
  | exact e1
  | exact e2
  | exact e3
theorem aqU {s:D} {i:Nat} {x:D} (h:s.l[i]?=some x):s.at (i:Int)=x:=by rw [Am,h]; rfl
section
variable {d0 d1 s:D} {t op obj arg tries:Int} {n:Nat} (h0:Wd (.sl 3) d0) (h1:Wd (.sl 4) d1) (G:Gs s n) (hn:n < 17592186043904) (hop:iJ .u8 op) (ht:iJ .i64 t) (ha:iJ .i64 arg)
include h0 h1 G hn hop ht ha
theorem aeY (A:Acc d0 d1 s t op obj) {o c dn g:Int} {r v:D} (T:Tg (s.at obj) o c dn g r v) {o' c' O1 g':Int} {r' v':D} {m:Option Int} {a oc:Int}
 (h:act (Mx d0 obj) (Mo d0 s obj) t op arg tries o c dn g r v= .res o' c' O1 g' r' v' m a oc):L 350 [enc d0,enc d1,enc (Ey s obj (Mx d0 obj) (.res o' c' O1 g' r' v' m a oc))]=some [1]:=by
 obtain⟨hC,ok,hle⟩:=abN h0 h1 G (by omega) A.r;have a0:=A.o0;have a1:=A.o1;obtain⟨i,rfl⟩ : ∃i:Nat,obj=(i:Int):=⟨obj.toNat,by omega⟩;have hi:i < s.l.length:=by omega
 have hO:=ok.2.2 _ (alJ (d:=d0) a0 (by omega))
 have hrv:r.l.length≤n∧v.l.length≤n:=by
  have hrow:=G.rows _ (List.getElem_mem hi);have e:s.l[i]=dL [.i o,.i c,.i dn,.i g,r,v]:=by rw [← aX hi]; exact T.is
  rw [e] at hrow;exact hrow
 have hS:=YH h0 h1 G (by omega) A.r a0 a1 T;have hS':=awE (d0:=d0) (mo:=Mo d0 s (i:Int)) (tries:=tries) (arg:=arg) (th:=t) T hS hop.1 A.k hO A.t0 A.t1 (by have:=ok.2.1; omega);have hK:=aqZ (M:=Mx d0 (i:Int)) (mo:=Mo d0 s (i:Int)) (op:=op) (tries:=tries) T (n:=n) hrv.1 hrv.2 (by omega) ht ha;have hQ:=aEd (M:=Mx d0 (i:Int)) (mo:=Mo d0 s (i:Int)) (th:=t) (op:=op) (arg:=arg) (tries:=tries) (o:=o) (c:=c) (dn:=dn) (g:=g) (r:=r) (v:=v)
 have hN:m=none∨op=12∨op=24:=by
  by_cases h2:op=12∨op=24
  ·exact .inr h2
  ·have:=SC (M:=Mx d0 (i:Int)) (mo:=Mo d0 s (i:Int)) (th:=t) (op:=op) (arg:=arg) (tries:=tries) (o:=o) (c:=c) (dn:=dn) (g:=g) (r:=r) (v:=v) (by omega) (by omega);rw [h] at this;exact .inl this
 rw [h] at hS' hK hQ
 have hM:NoM (.res o' c' O1 g' r' v' m a oc)∨0≤Mx d0 (i:Int)∧Mx d0 (i:Int) < (s.l.length:Int)∧Mx d0 (i:Int)≠(i:Int):=by
  rcases hN with h2 | h2
  ·exact .inl h2
  ·exact .inr (OE h0 h1 G.wd (G.few (by omega)) hop A h2)
 have G':=abQ G hK a0 a1 (hM.imp id fun h=> ⟨h.1,h.2.1⟩);have hl:=VZ s (i:Int) (Mx d0 (i:Int)) (.res o' c' O1 g' r' v' m a oc)
 have hd:(if O1=0 then (0:Int) else 1)=O1:=by rcases hK.2.2.1 with rfl | rfl <;> rfl
 refine aCC h0 h1 G' (by omega) hC (by rw [hl]; exact hle) fun j hj=>?_;rw [hl] at hj;by_cases hji:j=i
 ·subst hji
  have e:(Ey s (j:Int) (Mx d0 (j:Int)) (.res o' c' O1 g' r' v' m a oc)).at (j:Int)=dL [.i o',.i c',.i O1,.i g',r',v']:=by refine aqU ?_;unfold Ey;rw [aW,hd];exact Nv (by cases m with | none=>exact hj | some q=>rw [iH]; exact hj)
  exact⟨o',c',O1,g',r',v',⟨e,hK.1,hK.2.1,hK.2.2.1,hK.2.2.2.1,hK.2.2.2.2.1,hK.2.2.2.2.2.2.1⟩,hS'⟩
 ·by_cases hjm:NoM (.res o' c' O1 g' r' v' m a oc)∨(j:Int)≠Mx d0 (i:Int)
  ·have e:(Ey s (i:Int) (Mx d0 (i:Int)) (.res o' c' O1 g' r' v' m a oc)).at (j:Int)=s.at (j:Int):=by
    rw [Am,Am,akQ (by omega) hjm]
   obtain⟨o2,c2,dn2,g2,r2,v2,T2,_,_⟩:=axI G (i:=(j:Int)) (by omega) (by omega);exact⟨o2,c2,dn2,g2,r2,v2,by rw [e]; exact T2,YH h0 h1 G (by omega) A.r (by omega) (by omega) T2⟩
  ·have hj1:(j:Int)=Mx d0 (i:Int):=Decidable.byContradiction fun hne=>hjm (.inr hne)
   cases m with
   | none=>exact absurd (.inl rfl) hjm
   | some q=>
     obtain⟨o2,c2,dn2,g2,r2,v2,T2,_,_⟩:=axI G (i:=(j:Int)) (by omega) (by omega);have P2:=YH h0 h1 G (by omega) A.r (by omega) (by omega) T2
     have hk1:((d0.at (j:Int)).hd 0).n=1:=by
      have h4:((d0.at (i:Int)).hd 0).n=4:=by
       rw [← A.k];rcases hN with h2 | h2 | h2
       ·simp at h2
       ·rw [h2]; rfl
       ·rw [h2]; rfl
      obtain⟨_,_,m3⟩:=hO.2.2.2.2.2 h4;rw [hj1];exact m3
     have e:(Ey s (i:Int) (Mx d0 (i:Int)) (.res o' c' O1 g' r' v' (some q) a oc)).at (j:Int)=dL [.i q,.i c2,.i dn2,.i g2,r2,v2]:=by refine aqU ?_;unfold Ey;rw [aW,sK (by omega),← hj1,Nv (by omega),T2.is];rfl
     refine⟨q,c2,dn2,g2,r2,v2,⟨e,hK.2.2.2.2.2.2.2.2.1 q rfl,T2.hc,T2.hd,T2.hg,T2.hr,T2.hv⟩,?_⟩;have t0:=A.t0;have t1:=A.t1;have hq:=hQ q rfl;rw [hk1] at P2 ⊢;obtain⟨p,q2,q3⟩:=P2;unfold SV vW at p;unfold JC at q3;refine⟨?_,q2,?_⟩
     ·unfold SV vW;omega
     ·unfold JC;omega
end
def agX (op:Int):Act→Prop
 | .res _ _ _ _ _ _ _ _ oc=>oc=2∨oc=3∧(op=12∨op=15)
 | _=>True
theorem agX.ite {op:Int} {p:Prop} [Decidable p] {a b:Act} (ha:p→agX op a) (hb: ¬p→agX op b):agX op (if p then a else b):=by
 by_cases h:p
 ·rw [if_pos h]; exact ha h
 ·rw [if_neg h]; exact hb h
theorem aEc {M mo th op arg tries o c dn g:Int} {r v:D}:agX op (act M mo th op arg tries o c dn g r v):=by
 unfold act
 repeat' first
  | trivial
  | exact .inl rfl
  | exact .inr ⟨rfl,.inl (by assumption)⟩
  | exact .inr ⟨rfl,.inr (by assumption)⟩
  | refine agX.ite (fun _=>?_) (fun _=>?_)
section
variable {d0 d1 s s' k:D} {t op obj arg tries e1 e2 e3 e4 e5 oc:Int} {n:Nat} {x:KT}
theorem azW (C:Cd d0 d1) (R:Rt d0 d1 t x) (hx:x.w=0→x.a < (Nc d1 t:Int)) (hle:s.l.length=d0.l.length) (h3:iJ .i64 e3) (h4:iJ .i64 e4) (T:agU d0 d1 s t op obj arg tries s' e1 e2 e3 e4 e5 oc):Rt d0 d1 t (rW (Ins d1 t x) x op e2 e3 e4 oc):=by
 obtain⟨a',lc',w',o',g',tr',hK⟩:=ahT (op:=op) (e2:=e2) (oc:=oc) C R hx h3 h4;have hd:=hK.is;simp only [KT.d,kM,oC,D.p.injEq,D.i.injEq,and_true] at hd;obtain⟨e_a,e_l,e_w,e_o,e_g,e_t⟩:=hd
 have hw3:oc=3→0≤e3∧e3 < (d0.l.length:Int)∧(e2=15∧((d0.at e3).hd 0).n=5∨e2≠15∧((d0.at e3).hd 0).n=4):=by
  intro ho
  cases T with
  | no=>omega
  | mis A=>omega
  | res A o c dn g r v o' c' O1 g' r' v' m a oc T h=>
    have hW:=aEc (M:=Mx d0 obj) (mo:=Mo d0 s obj) (th:=t) (op:=op) (arg:=arg) (tries:=tries) (o:=o) (c:=c) (dn:=dn) (g:=g) (r:=r) (v:=v);rw [h] at hW;have hk:=A.k;have:=A.o0;have:=A.o1;refine⟨A.o0,by omega,?_⟩;rcases hW with hW | ⟨_,hW | hW⟩
    ·omega
    ·subst hW;exact .inr ⟨by omega,by rw [← hk]; rfl⟩
    ·subst hW;exact .inl ⟨rfl,by rw [← hk]; rfl⟩
 refine⟨R.t0,R.t1,?_,by rw [e_l]; exact hK.hl,by rw [e_g]; exact hK.hg⟩;obtain⟨a0,a1,hln,tr0,tr1,hw⟩:=R.ok;unfold rW;by_cases o0:oc=0
 ·rw [if_pos o0];split
  ·refine⟨a0,a1,hln,?_,?_,hw⟩
   ·show 0≤(if 4611686018427387904 < x.tr+1 then (4611686018427387904:Int) else x.tr+1);split <;> omega
   ·show (if 4611686018427387904 < x.tr+1 then (4611686018427387904:Int) else x.tr+1)≤4611686018427387904;split <;> omega
  ·exact⟨a0,a1,hln,tr0,tr1,hw⟩
 ·rw [if_neg o0];by_cases w0:x.w=0
  ·rw [if_pos w0];have c4:=hx w0;have F:=C.inf R c4;have ok:=F.ok;unfold OkI at ok;unfold Nc at c4;have hxo:x.o=0∧x.g=0:=by omega
   refine⟨?_,?_,?_,Int.le_refl _,by show (0:Int)≤4611686018427387904; omega,?_⟩
   ·show (0:Int)≤(if ((Ins d1 t x).hd 0).n=1∧((Ins d1 t x).hd 1).n=16∧¬(e2=16∧e4=1) then ((Ins d1 t x).hd 4).n else x.a+1);split
    ·rename_i hc;obtain⟨c1,c2,_⟩:=hc;omega
    ·omega
   ·show (if ((Ins d1 t x).hd 0).n=1∧((Ins d1 t x).hd 1).n=16∧¬(e2=16∧e4=1) then ((Ins d1 t x).hd 4).n else x.a+1)≤(((d1.at t).hd 2).l.length:Int);split
    ·rename_i hc;obtain⟨c1,c2,_⟩:=hc;unfold Nc at ok;omega
    ·omega
   ·show ((if ((Ins d1 t x).hd 0).n=1∧¬((Ins d1 t x).hd 3).n < 0 then dL (fP x.lc.l ((Ins d1 t x).hd 3).n (.i e4)) else x.lc).l.length:Int)=_;split
    ·rw [aW,iH]; exact hln
    ·exact hln
   ·show (if oc=3 then (if e2=15 then (25:Int) else 24) else 0)=0∧(if oc=3 then e3 else x.o)=0∧(if oc=3∧e2=15 then e4 else x.g)=0∨(if oc=3 then (if e2=15 then (25:Int) else 24) else 0)=24∧0≤(if oc=3 then e3 else x.o)∧(if oc=3 then e3 else x.o) < (d0.l.length:Int)∧((d0.at (if oc=3 then e3 else x.o)).hd 0).n=4∨(if oc=3 then (if e2=15 then (25:Int) else 24) else 0)=25∧0≤(if oc=3 then e3 else x.o)∧(if oc=3 then e3 else x.o) < (d0.l.length:Int)∧((d0.at (if oc=3 then e3 else x.o)).hd 0).n=5;by_cases ho:oc=3
    ·obtain⟨q0,q1,q2⟩:=hw3 ho;rcases q2 with ⟨q2,q3⟩ | ⟨q2,q3⟩
     ·simp only [ho,q2,if_true,true_and,and_self];exact .inr (.inr ⟨q0,q1,q3⟩)
     ·simp only [ho,q2,if_true,if_false,true_and,and_false];exact .inr (.inl ⟨q0,q1,q3⟩)
    ·simp only [ho,if_false,false_and,hxo,true_and,and_self,true_or]
  ·rw [if_neg w0];exact⟨a0,a1,hln,Int.le_refl _,by show (0:Int)≤4611686018427387904; omega,.inl ⟨rfl,rfl,rfl⟩⟩
end
inductive OI (d0 d1 s k:D) (t:Int) (n:Nat):D→D→Int→Int→Int→Int→Int→Int→Prop
 | no (h:L 1550 [enc d0,enc d1,enc s,enc k,t]=some [0]):OI d0 d1 s k t n s k 0 0 0 0 0 0
 | over (x:KT) (R:Rs d0 d1 s k t x) (ho:kN d1 t x=1):OI d0 d1 s k t n s k 0 0 0 0 0 4
 | loc (x:KT) (R:Rs d0 d1 s k t x) (ho:kN d1 t x=0) (ha:low (kV d1 t x) 4=0):OI d0 d1 s k t n s (qR k t (AO (Ins d1 t x) x)) 0 0 0 0 0 1
 | tri (x:KT) (R:Rs d0 d1 s k t x) (ho:kN d1 t x=0) (op obj arg tr:Int) (hq:kV d1 t x= [op,obj,arg,tr,1]) (k1:iJ .u8 op) (k2:iJ .i64 obj) (k3:iJ .i64 arg) (hti:iJ .i64 t) (s':D) (e1 e2 e3 e4 e5 oc:Int)
  (A:Tried d0 d1 s t op obj arg tr n s' e1 e2 e3 e4 e5 oc) (T:agU d0 d1 s t op obj arg tr s' e1 e2 e3 e4 e5 oc):OI d0 d1 s k t n s' (qR k t (rW (Ins d1 t x) x op e2 e3 e4 oc)) e1 e2 e3 e4 e5 oc
section
variable {d0 d1 s k:D} {n:Nat} (S:Sx s k n) (hn:n < 17592186043904) (h0:Wd (.sl 3) d0) (h1:Wd (.sl 4) d1)
include S hn h0 h1
theorem LG (t:Int): ∃s' k' e1 e2 e3 e4 e5 oc,L 1850 [enc d0,enc d1,enc s,enc k,t]=some [enc s',enc k',e1,e2,e3,e4,e5,oc]∧OI d0 d1 s k t n s' k' e1 e2 e3 e4 e5 oc:=by
 rcases abO (t:=t) S hn h0 h1 with h | ⟨x,R⟩
 ·exact⟨s,k,0,0,0,0,0,0,abG S h,.no h⟩
 ·rcases J5 d1 t x with ho | ho
  ·by_cases ha:low (kV d1 t x) 4=0
   ·exact⟨_,_,0,0,0,0,0,1,LD S R ho ha,.loc x R ho ha⟩
   ·obtain⟨op,obj,arg,tr,hq⟩:=QN (by omega) ha;obtain⟨k1,k2,k3⟩:=abW R.c R.r R.c.ok.1 hq
    have hti:iJ .i64 t:=by have:=R.r.t0;have:=R.r.t1;have:=h1.len;exact⟨by omega,by omega⟩
    obtain⟨s',e1,e2,e3,e4,e5,oc,A⟩:=try_any (tries:=tr) h0 h1 S.g hn hti k1 k2 k3;exact⟨s',_,e1,e2,e3,e4,e5,oc,yS S R ho hq A,.tri x R ho op obj arg tr hq k1 k2 k3 hti s' e1 e2 e3 e4 e5 oc A (Yd h0 h1 S.g hn k1 A)⟩
  ·exact⟨s,k,0,0,0,0,0,4,CU S R ho,.over x R ho⟩
theorem ajR {t:Int} {s' k':D} {e1 e2 e3 e4 e5 oc:Int} (H:OI d0 d1 s k t n s' k' e1 e2 e3 e4 e5 oc):Sx s' k' (n+1)∧s'.l.length=s.l.length∧k'.l.length=k.l.length:=by
 cases H with
 | no h=>exact⟨S.mono (Nat.le_succ n),rfl,rfl⟩
 | over x R ho=>exact⟨S.mono (Nat.le_succ n),rfl,rfl⟩
 | loc x R ho ha=>exact⟨(alR S hn h0 h1 R ho ha).mono (Nat.le_succ n),rfl,uZ _ _ _⟩
 | tri x R ho op obj arg tr hq k1 k2 k3 hti s' e1 e2 e3 e4 e5 oc A T=>exact⟨ahS S R.c R.r R.ht (aqT R.r ho) A,A.len,uZ _ _ _⟩
omit h0 h1 in
theorem alG {t:Int} {x:KT} {s':D} (M:MR d0 d1 s k) (R:Rt d0 d1 t x) (ht:t < (k.l.length:Int)) (hs:L 350 [enc d0,enc d1,enc s']=some [1]):MR d0 d1 s' (qR k t x):=by
 obtain⟨_,hle,hO⟩:=M;refine⟨hs,(uZ k t x).trans hle,fun i hi=>?_⟩;have hi':i < k.l.length:=by rw [uZ] at hi; exact hi
 have t0:=R.t0;obtain⟨j,rfl⟩ : ∃j:Nat,t=(j:Int):=⟨t.toNat,by omega⟩;by_cases hij:i=j
 ·subst hij
  have e:(qR k (i:Int) x).l[i]=x.d:=by rw [← aX hi];exact abI (by omega) ht x
  have ok:=R.ok;rw [aX (by omega:i < d1.l.length)] at ok;unfold OkK;rw [e];simp only [KT.d,zg,Option.getD_some,n_i];exact ok
 ·have e:(qR k (j:Int) x).l[i]=k.l[i]:=by
   have h:=sK (l:=k.l) (z:=(j:Int)) (y:=x.d) (k:=i) (by omega)
   have h2:(qR k (j:Int) x).l[i]?=k.l[i]?:=by show (dL (fP k.l (j:Int) x.d)).l[i]?=_;rw [aW];exact h
   rw [List.getElem?_eq_getElem hi,List.getElem?_eq_getElem hi'] at h2;simpa using h2
  rw [e];exact hO i hi'
theorem ajS {t:Int} {s' k':D} {e1 e2 e3 e4 e5 oc:Int} (M:MR d0 d1 s k) (H:OI d0 d1 s k t n s' k' e1 e2 e3 e4 e5 oc):MR d0 d1 s' k':=by
 cases H with
 | no h=>exact M
 | over x R ho=>exact M
 | loc x R ho ha=>exact alG S hn M (Ws R.c R.ht R.r (Y0 R.r ho ha)).1 R.ht M.1
 | tri x R ho op obj arg tr hq k1 k2 k3 hti s' e1 e2 e3 e4 e5 oc A T=>
   have hle:=(abN h0 h1 S.g (by omega) M.1).2.2;have hR:=azW R.c R.r (aqT R.r ho) hle A.e3 A.e4 T;refine alG S hn M hR R.ht ?_
   cases T with
   | no=>exact M.1
   | mis A'=>exact M.1
   | res A' o c dn g r v o' c' O1 g' r' v' m a oc T' h=>exact aeY h0 h1 S.g hn k1 hti k3 A' T' h
end
theorem MR.thr {d0 d1 s k:D} {n:Nat} (S:Sx s k n) (hn:n < 17592186043904) (h0:Wd (.sl 3) d0) (h1:Wd (.sl 4) d1) (M:MR d0 d1 s k) {t:Int} (t0:0≤t) (t1:t < (d1.l.length:Int)): ∃x,Rs d0 d1 s k t x:=by
 obtain⟨ys,hL,b,rfl,hb⟩:=LX (k:=k) h0 h1 (S.g.few (by omega)).rows h1.len t;rcases hb with ⟨_,hb⟩ | ⟨rfl,_⟩
 ·exact absurd ⟨t0,t1,M⟩ hb
 ·rcases abO (t:=t) S hn h0 h1 with h | h
  ·rw [hL] at h;simp at h
  ·exact h
end Go.As.Try
end
section
namespace Go.As.Try
open Go hiding Stat Spec shape
open Go.As
set_option maxRecDepth 100000
def EqN (a b:D):Prop:=a.l.length=b.l.length∧∀(i:Nat),(a.at (i:Int)).n=(b.at (i:Int)).n
structure KEq (x y:D):Prop where
 c0:(x.hd 0).n=(y.hd 0).n
 c1:EqN (x.hd 1) (y.hd 1)
 c2:(x.hd 2).n=(y.hd 2).n
 c3:(x.hd 3).n=(y.hd 3).n
 c4:(x.hd 4).n=(y.hd 4).n
 c5:(x.hd 5).n=(y.hd 5).n
theorem EqN.rfl' (a:D):EqN a a:=⟨rfl,fun _=>rfl⟩
theorem KEq.rfl' (a:D):KEq a a:=⟨rfl,EqN.rfl' _,rfl,rfl,rfl,rfl⟩
def alN (k:D):Prop:=k.l.length≤140737488351232∧∀i:Nat,((k.at (i:Int)).hd 1).l.length≤140737488351232
section
variable {s k s' k':D} (hl:k.l.length=k'.l.length) (hq: ∀i:Nat,KEq (k.at (i:Int)) (k'.at (i:Int))) (hb:alN k)
include hl hq hb
theorem Fz: ∀(j i:Nat),i+j=k.l.length→L 2051 [(k.l.length:Int),(i:Int),enc s,enc k,enc s',enc k']=some [1]
 | 0,i,hi=>by
   have c1: ¬(i:Int) < (k.l.length:Int):=by omega
   rw [aQ,aoL];simp only [aaY,zz,c1,bJ]
 | j+1,i,hi=>by
   have c1:(i:Int) < (k.l.length:Int):=by omega
   have c2: ¬((i:Int) < 0):=by omega
   have c3:(i:Int) < (k'.l.length:Int):=by omega
   have b1:=hb.1;have w:=aY (n:=i) (by omega);have ih:=Fz j (i+1) (by omega);have q:=hq i;obtain⟨q1,q2⟩:=q.c1;have b2:=hb.2 i
   have lp: ∀(j' i':Nat),i'+j'=((k.at (i:Int)).hd 1).l.length→L 2052 [(k.l.length:Int),(i:Int),(((k.at (i:Int)).hd 1).l.length:Int),(i':Int),enc s,enc k,enc s',enc k',((k.at (i:Int)).hd 0).n,enc ((k.at (i:Int)).hd 1),((k.at (i:Int)).hd 2).n,((k.at (i:Int)).hd 3).n,((k.at (i:Int)).hd 4).n,((k.at (i:Int)).hd 5).n,((k'.at (i:Int)).hd 0).n,enc ((k'.at (i:Int)).hd 1),((k'.at (i:Int)).hd 2).n,((k'.at (i:Int)).hd 3).n,((k'.at (i:Int)).hd 4).n,((k'.at (i:Int)).hd 5).n]=some [1]:=by
    intro j'
    induction j' with
    | zero=>
      intro i' hi';have d1: ¬(i':Int) < (((k.at (i:Int)).hd 1).l.length:Int):=by omega
      rw [aQ,aoK];simp only [aaX,zz,d1,w,bC,ih]
    | succ j' ihj=>
      intro i' hi';have d1:(i':Int) < (((k.at (i:Int)).hd 1).l.length:Int):=by omega
      have d2: ¬((i':Int) < 0):=by omega
      have d3:(i':Int) < (((k'.at (i:Int)).hd 1).l.length:Int):=by omega
      have w':=aY (n:=i') (by omega);have h':=ihj (i'+1) (by omega);have hn:=q2 i';rw [aQ,aoK];simp only [aaX,zz,d1,d2,d3,w',hn,bC];exact h'
   have l0:=lp ((k.at (i:Int)).hd 1).l.length 0 (by omega);have q1':(((k.at (i:Int)).hd 1).l.length:Int)=(((k'.at (i:Int)).hd 1).l.length:Int):=by omega
   simp only [q.c0,q.c2,q.c3,q.c4,q.c5,q1',Int.natCast_zero] at l0;rw [aQ,aoL];simp only [aaY,zz,c1,c2,c3,q.c0,q.c2,q.c3,q.c4,q.c5,q1',bC];exact l0
theorem aeV (hs:L 200 [enc s,enc s']=some [1]):L 2050 [enc s,enc k,enc s',enc k']=some [1]:=by
 have h:=Fz (s:=s) (s':=s') hl hq hb k.l.length 0 (by omega);have hl':(k.l.length:Int)=(k'.l.length:Int):=by omega
 rw [Int.natCast_zero] at h;rw [aQ,ayL];simp only [aiZ,zz,hs,aK,hl',bC];rw [hl'] at h;exact h
end
theorem aeU {s:D} (hlen:s.l.length≤140737488351232) (hr:TN s):L 200 [enc s,enc s]=some [1]:=by obtain⟨c,h1,_,h3⟩:=aeT s s hlen hr;rw [h1,h3.2 ⟨rfl,fun k h1 h2 _=> ⟨rfl,rfl,Iff.rfl,rfl,⟨rfl,fun _ _ _ _=>rfl⟩,⟨rfl,fun _ _ _ _=>rfl⟩⟩⟩]
theorem Sx.aEz {s k:D} {n:Nat} (S:Sx s k n):alN k:=by
 refine⟨S.wk.len,fun i=>?_⟩;by_cases hi:i < k.l.length
 ·obtain⟨a,lc,w,o,g,tr,T⟩:=lW S.wk _ (List.getElem_mem hi);rw [aX hi,T.is,iL];exact T.hl.len
 ·rw [Am,List.getElem?_eq_none (by omega)];show ((D.i 0).hd 1).l.length≤_;simp [D.hd,D.l]
theorem Sx.same {s k:D} {n:Nat} (S:Sx s k n) (hn:n < 17592186043904):L 2050 [enc s,enc k,enc s,enc k]=some [1]:=
 aeV rfl (fun _=>KEq.rfl' _) S.aEz (aeU S.g.wd.len (fun x hx=>by have:=S.g.rows x hx; omega))
end Go.As.Try
end
section
namespace Go.As.Try
open Go hiding Stat Spec shape
open Go.As
set_option maxRecDepth 100000
abbrev evD (e1 e2 e3 e4 e5:Int):D:=dL [.i e1,.i e2,.i e3,.i e4,.i e5]
structure PS where
 s:D
 k:D
 l:List D
noncomputable def stA (d0 d1 s k:D) (t:Int):List Int:=(L 1850 [enc d0,enc d1,enc s,enc k,t]).getD []
noncomputable def stP (d0 d1:D) (p:PS) (t:Int):PS:=
 ⟨dec (low (stA d0 d1 p.s p.k t) 0),dec (low (stA d0 d1 p.s p.k t) 1),if low (stA d0 d1 p.s p.k t) 7=2∨low (stA d0 d1 p.s p.k t) 7=3 then p.l++ [evD (low (stA d0 d1 p.s p.k t) 2) (low (stA d0 d1 p.s p.k t) 3) (low (stA d0 d1 p.s p.k t) 4) (low (stA d0 d1 p.s p.k t) 5) (low (stA d0 d1 p.s p.k t) 6)] else p.l⟩
noncomputable def OY (d0 d1:D):PS→List Int→PS
 | p,[]=>p
 | p,t :: ts=>OY d0 d1 (stP d0 d1 p t) ts
structure POk (d1:D) (p:PS) (n:Nat):Prop where
 sx:Sx p.s p.k n
 lk:p.k.l.length=d1.l.length
 ll:p.l.length≤n
theorem ajV {d0 d1:D} {p:PS} {t:Int} {n:Nat} {s' k':D} {e1 e2 e3 e4 e5 oc:Int} (A:aBX d0 d1 p.s p.k t n s' k' e1 e2 e3 e4 e5 oc):stP d0 d1 p t=⟨s',k',if oc=2∨oc=3 then p.l++ [evD e1 e2 e3 e4 e5] else p.l⟩:=by unfold stP stA;rw [A.eq];simp only [Option.getD_some,aH,aN,aA];rfl
theorem ajU {d0 d1:D} {p:PS} {t:Int} {n:Nat} (P:POk d1 p n) {s' k':D} {e1 e2 e3 e4 e5 oc:Int} (A:aBX d0 d1 p.s p.k t n s' k' e1 e2 e3 e4 e5 oc):POk d1 (stP d0 d1 p t) (n+1):=by
 rw [ajV A];refine⟨A.sx,A.lk.trans P.lk,?_⟩;have:=P.ll;show (if oc=2∨oc=3 then p.l++ [evD e1 e2 e3 e4 e5] else p.l).length≤n+1;split
 ·rw [List.length_append]; exact Nat.succ_le_succ this
 ·omega
def pkD (d1:D) (x:D):Int:=vF x.n (d1.l.length:Int)
theorem dr {ρ:Nat→Int} (a b:SE):(SE.rem a b).den ρ=(a.den ρ).tmod (b.den ρ):=rfl
theorem aCR:((3:Int)=2)=False:=by simp
theorem aCT:((1:Int)=2)=False:=by simp
theorem aCS:((1:Int)=3)=False:=by simp
section
variable {d0 d1:D} (h0:Wd (.sl 3) d0) (h1:Wd (.sl 4) d1)
include h0 h1
theorem abM: ∀(ts:List Int) (p:PS) (n:Nat),POk d1 p n→n+ts.length < 17592186043904→POk d1 (OY d0 d1 p ts) (n+ts.length)
 | [],p,n,P,_=>P
 | t :: ts,p,n,P,hn=>by
   simp only [List.length_cons] at hn;obtain⟨s',k',e1,e2,e3,e4,e5,oc,A⟩:=Fj P.sx (by omega) h0 h1 t;have h:=abM ts _ (n+1) (ajU P A) (by omega);have e:n+1+ts.length=n+(t :: ts).length:=by rw [List.length_cons]; omega
   rw [e] at h;exact h
end
theorem Ye (d1:D):(uT d1).l.length=d1.l.length:=by
 unfold uT;split
 ·rename_i h; rw [h]; rfl
 ·rw [aW,List.length_map]
section
variable {d0 d1:D} (h0:Wd (.sl 3) d0) (h1:Wd (.sl 4) d1)
include h0 h1
theorem begins:(∃s k:D,L 1450 [enc d0,enc d1]=some [enc s,enc k,0]∧POk d1 ⟨s,k,[]⟩ 0)∨(∃c:Int,c≠0∧L 1450 [enc d0,enc d1]=some [enc (.i 1),enc (.i 1),c]):=by
 obtain⟨ys,hC,c,rfl,_,hok⟩:=DC h0 h1;by_cases hc:c=0
 ·subst hc;have ok:=(hok rfl).1;exact .inl ⟨_,_,afP h1 hC ok,ajP h0 h1 ok,Ye d1,Nat.le_refl _⟩
 ·exact .inr ⟨c,hc,afO hC hc⟩
end
theorem aAg:Sx (.i 1) (.i 1) 0:=⟨⟨.nil 7,fun x hx=>by simp [D.l] at hx⟩,.nil 8,by simp,by simp⟩
end Go.As.Try
end
section
namespace Go.As.Try
open Go hiding Stat Spec shape
open Go.As
set_option maxRecDepth 100000
section
variable {d0 d1 d:D} (h0:Wd (.sl 3) d0) (h1:Wd (.sl 4) d1) (hn:0 < d1.l.length) (hd:d.l.length≤140737488351232)
include h0 h1 hn hd
end
theorem Bz {x y:KT} (h:x.d=y.d):x=y:=by simp only [KT.d,kM,oC,D.p.injEq,D.i.injEq,and_true] at h;obtain⟨h1,h2,h3,h4,h5,h6⟩:=h;cases x; cases y;simp only at h1 h2 h3 h4 h5 h6;subst h1 h2 h3 h4 h5 h6;rfl
structure One (d0 d1 s k:D) (t:Int) (s' k':D) (e1 e2 e3 e4 e5 oc:Int) (x y:KT):Prop where
 hk:k.at t=x.d
 hk':k'=qR k t y
 how:(oc=0∧s'=s∧e1=0∧e2=0∧e3=0∧e4=0∧e5=0∧y= { x with tr:=y.tr }∧L 1700 [enc d0,enc d1,enc s,enc k,t]=some [0])∨
  (oc=4∧s'=s∧e1=0∧e2=0∧e3=0∧e4=0∧e5=0∧y=x∧L 1700 [enc d0,enc d1,enc s,enc k,t]=some [1])∨
  (oc=1∧s'=s∧e1=0∧e2=0∧e3=0∧e4=0∧e5=0∧L 1700 [enc d0,enc d1,enc s,enc k,t]=some [0])∨
  ((oc=2∨oc=3)∧e2≠0∧L 1700 [enc d0,enc d1,enc s,enc k,t]=some [0])
section
variable {d0 d1 s k:D} {n:Nat} (S:Sx s k n) (hn:n < 17592186043904) (h0:Wd (.sl 3) d0) (h1:Wd (.sl 4) d1)
include S hn h0 h1
omit hn h0 h1 in
theorem aCW {t:Int} (t0:0≤t) (t1:t < (k.l.length:Int)): ∃x:KT,k.at t=x.d∧qR k t x=k:=by
 obtain⟨i,rfl⟩ : ∃i:Nat,t=(i:Int):=⟨t.toNat,by omega⟩;have hi:i < k.l.length:=by omega
 obtain⟨a,lc,w,o,g,tr,T⟩:=lW S.wk _ (List.getElem_mem hi);exact⟨⟨a,lc,w,o,g,tr⟩,by rw [aX hi,T.is],YD (O9 S.wk (by omega)).sh t0 t1 (by rw [aX hi,T.is])⟩
omit S h0 h1 in
theorem aAU {t:Int} (h:L 1550 [enc d0,enc d1,enc s,enc k,t]=some [0]):L 1700 [enc d0,enc d1,enc s,enc k,t]=some [0]:=by rw [aQ,aoN];simp only [VI,zz,h,bJ]
omit S h0 h1 in
theorem aAV {t:Int} {x:KT} (R:Rs d0 d1 s k t x):L 1700 [enc d0,enc d1,enc s,enc k,t]=some [kN d1 t x]:=by
 have hO:=FI (s:=s) R.hk R.ht R.r;have h:=R.yes;rw [aQ,aoN];rcases J5 d1 t x with ho | ho
 ·rw [ho] at hO ⊢;simp only [VI,zz,h,hO,aK,bJ]
 ·rw [ho] at hO ⊢;simp only [VI,zz,h,hO,aK,bJ]
end
section
variable {d0 d1 s k:D} {n:Nat} (S:Sx s k n) (hn:n < 17592186043900) (h0:Wd (.sl 3) d0) (h1:Wd (.sl 4) d1) (hl:k.l.length=d1.l.length)
include S hn h0 h1 hl
end
end Go.As.Try
end
section
namespace Go.As.Try
open Go hiding Stat Spec shape
open Go.As
set_option maxRecDepth 100000
theorem YE (k:D) {t u:Int} (u0:0≤u) (h:u≠t) (x:KT):(qR k t x).at u=k.at u:=by obtain⟨i,rfl⟩ : ∃i:Nat,u=(i:Int):=⟨u.toNat,by omega⟩;show (dL (fP k.l t x.d)).at (i:Int)=k.at (i:Int);rw [Am,Am,aW,sK h]
section
variable {d0 d1 s k:D} {n:Nat} (S:Sx s k n) (hn:n < 17592186043900) (h0:Wd (.sl 3) d0) (h1:Wd (.sl 4) d1)
include S hn h0 h1
theorem aCE {t:Int} {x:KT} (R:Rs d0 d1 s k t x):MR d0 d1 s k:=by
 obtain⟨ys,hL,b,rfl,hb⟩:=LX (k:=k) h0 h1 (S.g.few (by omega)).rows h1.len t;rw [R.yes] at hL;simp only [Option.some.injEq,List.cons.injEq,and_true] at hL;rcases hb with ⟨h,_⟩ | ⟨_,h⟩
 ·omega
 ·exact h.2.2
theorem aCD (M:MR d0 d1 s k) {t:Int} {x:KT} (t0:0≤t) (t1:t < (d1.l.length:Int)) (h:k.at t=x.d):Rs d0 d1 s k t x:=by obtain⟨y,R⟩:=M.thr S (by omega) h0 h1 t0 t1;rw [Bz (h.symm.trans R.hk)];exact R
end
section
variable {d0 d1 s k:D} {n:Nat} (S:Sx s k n) (hn:n < 17592186043800) (h0:Wd (.sl 3) d0) (h1:Wd (.sl 4) d1)
include S hn h0 h1
end
end Go.As.Try
end
section
namespace Go.As.Try
open Go hiding Stat Spec shape
open Go.As
set_option maxRecDepth 100000
def aqW (q:PS):List Int:=[enc (if q.l= [] then .i 1 else dL q.l),enc q.s,enc q.k]
section
variable {d0 d1:D} (h0:Wd (.sl 3) d0) (h1:Wd (.sl 4) d1) (hn:0 < d1.l.length)
include h0 h1 hn
theorem akR (d:D) (hd:d.l.length≤40000000): ∀(j i:Nat) (p:PS),i+j=d.l.length→POk d1 p i→
 (p.l= []→L 2401 [enc d,(d1.l.length:Int),(i:Int),enc d0,enc d1,enc p.s,enc p.k]=some (aqW (OY d0 d1 p ((d.l.drop i).map (pkD d1)))))∧
 (p.l≠[]→L 2402 [enc d,(d1.l.length:Int),(i:Int),enc (dL p.l),enc d0,enc d1,enc p.s,enc p.k]=some (aqW (OY d0 d1 p ((d.l.drop i).map (pkD d1)))))
 | 0,i,p,hi,P=>by
   have c1: ¬(i:Int) < (d.l.length:Int):=by omega
   rw [List.drop_of_length_le (by omega)];simp only [List.map_nil,OY];refine⟨fun hp=>?_,fun hp=>?_⟩
   ·rw [aQ,aoI];simp only [KX,zz,c1,bJ,aqW,hp,if_true]
   ·rw [aQ,aoH];simp only [KW,zz,c1,bJ,aqW,if_neg hp]
 | j+1,i,p,hi,P=>by
   have hil:i < d.l.length:=by omega
   have c1:(i:Int) < (d.l.length:Int):=by omega
   have c2:(0:Int) < (d1.l.length:Int):=by omega
   have c3: ¬((i:Int) < 0):=by omega
   have w:=aY (n:=i) (by omega);have hb:=h1.len;have pk:=afE (x:=(d.at (i:Int)).n) c2 (by omega);obtain⟨r1,r2⟩:=P8 (x:=(d.at (i:Int)).n) c2;have c4: ¬(vF (d.at (i:Int)).n (d1.l.length:Int) < 0):=by omega
   have c5:vF (d.at (i:Int)).n (d1.l.length:Int) < (p.k.l.length:Int):=by have:=P.lk; omega
   obtain⟨s',k',e1,e2,e3,e4,e5,oc,A⟩:=Fj P.sx (by omega) h0 h1 (vF (d.at (i:Int)).n (d1.l.length:Int));have hA:=A.eq;have c6:vF (d.at (i:Int)).n (d1.l.length:Int) < (k'.l.length:Int):=by have:=P.lk; have:=A.lk; omega
   have P':=ajU P A;have ih:=akR d hd j (i+1) _ (by omega) P'
   have hdr:OY d0 d1 p ((d.l.drop i).map (pkD d1))=OY d0 d1 (stP d0 d1 p (vF (d.at (i:Int)).n (d1.l.length:Int))) ((d.l.drop (i+1)).map (pkD d1)):=by rw [List.drop_eq_getElem_cons hil,List.map_cons,OY,pkD,aX hil]
   have hl:=P.ll;have c7:(p.l.length:Int) < 3518437208882:=by omega
   rw [hdr];generalize OY d0 d1 (stP d0 d1 p (vF (d.at (i:Int)).n (d1.l.length:Int))) ((d.l.drop (i+1)).map (pkD d1))=Q at *;rw [ajV A] at ih;obtain⟨ih1,ih2⟩:=ih;refine⟨fun hp=>?_,fun hp=>?_⟩
   ·rw [aQ,aoI];by_cases o2:oc=2
    ·simp only [o2,true_or,if_true,hp,List.nil_append,evD,kM,oC] at ih2;simp only [KX,zz,dr,c1,c2,c3,c4,c5,pk,hA,o2,w,bC,AP,List.nil_append,kM,oC];exact ih2 (by simp)
    ·by_cases o3:oc=3
     ·simp only [o3,or_true,if_true,hp,List.nil_append,evD,kM,oC] at ih2;simp only [KX,zz,dr,c1,c2,c3,c4,c5,pk,hA,o3,w,bC,AP,List.nil_append,kM,oC,aCR];exact ih2 (by simp)
     ·simp only [o2,o3,or_self,if_false] at ih1;by_cases o1:oc=1
      ·simp only [KX,zz,dr,c1,c2,c3,c4,c5,pk,hA,o1,w,bC,aCT,aCS];exact ih1 hp
      ·simp only [KX,zz,dr,c1,c2,c3,c4,c5,c6,pk,hA,o1,o2,o3,w,bC];exact ih1 hp
   ·rw [aQ,aoH];by_cases o2:oc=2
    ·simp only [o2,true_or,if_true,evD,kM,oC] at ih2;simp only [KW,zz,dr,c1,c2,c3,c4,c5,c7,pk,hA,o2,w,bC,aW];exact ih2 (by simp)
    ·by_cases o3:oc=3
     ·simp only [o3,or_true,if_true,evD,kM,oC] at ih2;simp only [KW,zz,dr,c1,c2,c3,c4,c5,c7,pk,hA,o3,w,bC,aW,aCR];exact ih2 (by simp)
     ·simp only [o2,o3,or_self,if_false] at ih2;by_cases o1:oc=1
      ·simp only [KW,zz,dr,c1,c2,c3,c4,c5,pk,hA,o1,w,bC,aCT,aCS];exact ih2 hp
      ·simp only [KW,zz,dr,c1,c2,c3,c4,c5,c6,pk,hA,o1,o2,o3,w,bC];exact ih2 hp
theorem asZ {s k:D} (hB:L 1450 [enc d0,enc d1]=some [enc s,enc k,0]) (P:POk d1 ⟨s,k,[]⟩ 0) (d:D) (hd:d.l.length≤40000000):L 2400 [enc d0,enc d1,enc d]=some (aqW (OY d0 d1 ⟨s,k,[]⟩ (d.l.map (pkD d1)))):=by have h:=(akR h0 h1 hn d hd d.l.length 0 ⟨s,k,[]⟩ (by omega) P).1 rfl;rw [List.drop_zero,Int.natCast_zero] at h;rw [aQ,aoJ];simp only [aaV,zz,hB,bC];exact h
omit h0 h1 hn in
theorem auY {c:Int} (hc:c≠0) (hB:L 1450 [enc d0,enc d1]=some [enc (.i 1),enc (.i 1),c]) (d:D):L 2400 [enc d0,enc d1,enc d]=some [enc (.i 1),enc (.i 1),enc (.i 1)]:=by rw [aQ,aoJ];simp only [aaV,zz,hB,if_neg hc,bJ]
end
theorem P6 {d0 d1:D} (h0:Wd (.sl 3) d0) (h1:Wd (.sl 4) d1) (hn:0 < d1.l.length) (d:D) (hd:d.l.length≤40000000): ∃l s k,L 2400 [enc d0,enc d1,enc d]=some [enc l,enc s,enc k]∧Sx s k d.l.length:=by
 rcases begins h0 h1 with ⟨s,k,hB,P⟩ | ⟨z,hz,hB⟩
 ·have hQ:=abM h0 h1 (d.l.map (pkD d1)) _ 0 P (by rw [List.length_map]; omega);rw [List.length_map,Nat.zero_add] at hQ;exact⟨_,_,_,asZ h0 h1 hn hB P d hd,hQ.sx⟩
 ·exact⟨_,_,_,auY hz hB d,aAg.mono (Nat.zero_le _)⟩
end Go.As.Try
end
section
namespace Go.As.Try
open Go hiding Stat Spec shape
open Go.As
set_option maxRecDepth 100000
theorem axC (d1:D) (t:Int) (x:KT): ∃a b c d e,kV d1 t x= [a,b,c,d,e]∧(e=0∨e=1):=by
 unfold kV;split
 ·split
  ·exact⟨_,_,_,_,_,rfl,.inl rfl⟩
  ·split
   ·exact⟨_,_,_,_,_,rfl,.inr rfl⟩
   ·split
    ·exact⟨_,_,_,_,_,rfl,.inr rfl⟩
    ·exact⟨_,_,_,_,_,rfl,.inl rfl⟩
 ·exact⟨_,_,_,_,_,rfl,.inr rfl⟩
theorem aAt {d0 d1 s k:D} {t:Int} {x:KT} (R:Rs d0 d1 s k t x):L 1800 [enc d0,enc d1,enc s,enc k,t]=some (kV d1 t x):=by
 obtain⟨a,b,c,d,e,hq,he⟩:=axC d1 t x;have hN:=Ug (s:=s) R.c R.hk R.ht R.r;have h:=R.yes;rw [hq] at hN ⊢;rw [aQ,ayM];rcases he with rfl | rfl
 ·simp only [aaZ,zz,h,hN,aK,bJ]
 ·simp only [aaZ,zz,h,hN,aK,bJ]
def JA (d0 d1 s k:D) (t:Int) (x:KT):Prop:= ∃s' k' e1 e2 e3 e4 e5 oc,L 1850 [enc d0,enc d1,enc s,enc k,t]=some [enc s',enc k',e1,e2,e3,e4,e5,oc]∧(oc=0∨oc=4)∧¬(low (kV d1 t x) 0=4∧low (kV d1 t x) 3 < low (kV d1 t x) 2)
def OH (d0 d1 s k:D):Prop:=MR d0 d1 s k∧∀(t:Int) (x:KT),Rs d0 d1 s k t x→JA d0 d1 s k t x
section
variable {d0 d1 s k:D} {n:Nat} (S:Sx s k n) (hn:n < 17592186043800) (h0:Wd (.sl 3) d0) (h1:Wd (.sl 4) d1)
include S hn h0 h1
theorem Ll (M:MR d0 d1 s k): ∀(j i:Nat),i+j=d1.l.length→Tot 2551 [(d1.l.length:Int),(i:Int),enc d0,enc d1,enc s,enc k] (WC (∀(t:Int) (x:KT),(i:Int)≤t→Rs d0 d1 s k t x→JA d0 d1 s k t x))
 | 0,i,hi=>by
   have c1: ¬(i:Int) < (d1.l.length:Int):=by omega
   refine Tot.of ?_;rw [aoG];simp only [aaU,zz,c1];exact .out (WB fun t x ht R=>by have:=R.r.t1; omega)
 | j+1,i,hi=>by
   have c1:(i:Int) < (d1.l.length:Int):=by omega
   have hb:=h1.len;have w:=aY (n:=i) (by omega);obtain⟨x,R⟩:=M.thr S (by omega) h0 h1 (by omega:(0:Int)≤(i:Int)) c1;obtain⟨s',k',e1,e2,e3,e4,e5,oc,A⟩:=Fj S (by omega) h0 h1 (i:Int);have hA:=A.eq;obtain⟨a,b,c,d,e,hq,_⟩:=axC d1 (i:Int) x;have h18:=aAt R;rw [hq] at h18;have ih:=Ll M j (i+1) (by omega)
   have stay:JA d0 d1 s k (i:Int) x↔(oc=0∨oc=4)∧¬(a=4∧d < c):=by unfold JA;rw [hq];refine⟨fun⟨s2,k2,f1,f2,f3,f4,f5,oc2,q1,q2,q3⟩=>?_,fun⟨q1,q2⟩=> ⟨s',k',e1,e2,e3,e4,e5,oc,hA,q1,q2⟩⟩;rw [hA] at q1;simp only [Option.some.injEq,List.cons.injEq,and_true] at q1;exact⟨by omega,q3⟩
   have no: ¬JA d0 d1 s k (i:Int) x→WC (∀(t:Int) (x:KT),(i:Int)≤t→Rs d0 d1 s k t x→JA d0 d1 s k t x) [0]:=fun h=>BD fun q=>h (q _ _ (Int.le_refl _) R)
   have yes:JA d0 d1 s k (i:Int) x→Tot 2551 [(d1.l.length:Int),((i+1:Nat):Int),enc d0,enc d1,enc s,enc k] (WC (∀(t:Int) (x:KT),(i:Int)≤t→Rs d0 d1 s k t x→JA d0 d1 s k t x)):=fun h=>by
    obtain⟨ys,hL,b,rfl,hb⟩:=ih;refine⟨_,hL,b,rfl,hb.imp (fun q=> ⟨q.1,fun g=>q.2 fun t y ht Ry=>g t y (by omega) Ry⟩) (fun q=> ⟨q.1,fun t y ht Ry=>?_⟩)⟩;by_cases hti:t=(i:Int)
    ·subst hti;have:=Bz (Ry.hk.symm.trans R.hk);rw [this];exact h
    ·exact q.2 t y (by omega) Ry
   refine Tot.of ?_;rw [aoG];simp only [aaU,zz,c1,hA,h18,w];refine .ite (fun o0=> .ite (fun a4=> .ite (fun hlt=> .out (no fun h=>(stay.1 h).2 ⟨a4,hlt⟩)) (fun hlt=> .jump (yes (stay.2 ⟨.inl o0,fun h=>hlt h.2⟩)))) (fun a4=> .jump (yes (stay.2 ⟨.inl o0,fun h=>a4 h.1⟩)))) (fun o0=> .ite (fun o4=> .ite (fun a4=> .ite (fun hlt=> .out (no fun h=>(stay.1 h).2 ⟨a4,hlt⟩)) (fun hlt=> .jump (yes (stay.2 ⟨.inr o4,fun h=>hlt h.2⟩)))) (fun a4=> .jump (yes (stay.2 ⟨.inr o4,fun h=>a4 h.1⟩)))) (fun o4=> .out (no fun h=>by rcases (stay.1 h).1 with h | h; exact o0 h; exact o4 h)))
theorem Lm:Tot 2550 [enc d0,enc d1,enc s,enc k] (WC (OH d0 d1 s k)):=by
 obtain⟨ys,hM,b,rfl,hb⟩:=QO h0 h1 (S.g.few (by omega)).rows h1.len (k:=k);refine Tot.of ?_;rw [ayJ];simp only [aiX,zz,hM];refine .ite (fun h=> .out (BD fun q=>?_)) (fun h=>?_)
 ·rcases hb with ⟨_,hb⟩ | ⟨h',_⟩
  ·exact hb q.1
  ·omega
 ·have M:MR d0 d1 s k:=by
   rcases hb with ⟨h',_⟩ | ⟨_,hb⟩
   ·exact absurd h' h
   ·exact hb
  obtain⟨ys,hL,b',rfl,hb'⟩:=Ll S hn h0 h1 M d1.l.length 0 (by omega);rw [Int.natCast_zero] at hL;refine .jump ⟨_,hL,b',rfl,hb'.imp (fun q=> ⟨q.1,fun g=>q.2 fun t x _ R=>g.2 t x R⟩) (fun q=> ⟨q.1,M,fun t x R=>q.2 t x (by have:=R.r.t0; omega) R⟩)⟩
theorem alO {t obj arg tr:Int} {s':D} {e1 e2 e3 e4 e5 oc:Int} (A:Tried d0 d1 s t 4 obj arg tr n s' e1 e2 e3 e4 e5 oc) (ho:oc=0) (ht: ¬tr < arg): ¬Acc d0 d1 s t 4 obj:=fun h=>by
 obtain⟨_,o,c,dn,g,r,v,T,hL⟩:=Td (arg:=arg) (tries:=tr) h0 h1 S.g.wd (S.g.few (by omega)) (⟨by omega,by omega⟩ : iJ .u8 4) h;rw [A.eq,Ub] at hL
 have e:act (Mx d0 obj) (Mo d0 s obj) t 4 arg tr o c dn g r v=if o < 0 then .res t c dn g r v none 1 2 else .res o c dn g r v none 0 2:=by simp only [act,Int.reduceEq,if_false,if_true,reduceIte,if_neg ht]
 rw [e] at hL;by_cases h2:o < 0
 ·rw [if_pos h2] at hL;simp only [evA,Option.some.injEq,List.cons.injEq,and_true] at hL;omega
 ·rw [if_neg h2] at hL;simp only [evA,Option.some.injEq,List.cons.injEq,and_true] at hL;omega
theorem Yz (P:OH d0 d1 s k) {t:Int} (t0:0≤t) (t1:t < (d1.l.length:Int)): ∃k' oc,L 1850 [enc d0,enc d1,enc s,enc k,t]=some [enc s,enc k',0,0,0,0,0,oc]∧oc≠1∧OH d0 d1 s k'∧Sx s k' (n+1):=by
 obtain⟨M,hP⟩:=P;obtain⟨x,R⟩:=M.thr S (by omega) h0 h1 t0 t1;obtain⟨s2,k2,f1,f2,f3,f4,f5,oc2,q1,q2,q3⟩:=hP t x R;obtain⟨s',k',e1,e2,e3,e4,e5,oc,hL,H⟩:=LG S (by omega) h0 h1 t
 have hoc:oc=0∨oc=4:=by rw [hL] at q1;simp only [Option.some.injEq,List.cons.injEq,and_true] at q1;omega
 have M':=ajS S (by omega) h0 h1 M H;have S':=(ajR S (by omega) h0 h1 H).1
 cases H with
 | no h=>exact⟨k,0,hL,by omega,⟨M,hP⟩,S'⟩
 | over y Ry ho=>exact⟨k,4,hL,by omega,⟨M,hP⟩,S'⟩
 | loc y Ry ho ha=>omega
 | tri y Ry ho op obj arg tr hq k1 k2' k3 hti s' e1 e2 e3 e4 e5 oc A T=>
   have e:=Bz (Ry.hk.symm.trans R.hk);subst e;have o0:oc=0:=by have:=A.oc3; omega
   obtain⟨z1,z2,z3,z4,z5,z6⟩:=A.no o0;subst z1 z2 z3 z4 z5 z6 o0;refine⟨_,0,hL,by omega,?_,S'⟩;by_cases h4:op=4
   ·subst h4;have hlt: ¬tr < arg:=fun h=>q3 (by rw [hq]; exact⟨rfl,h⟩);have hna:=alO S hn h0 h1 A rfl hlt
    have hw:y.w=0∧y.tr=tr∧∀q,kV d1 t { y with tr:=q }= [4,obj,arg,q,1]:=by
     have hw:=R.r.ok.2.2.2.2.2;unfold kV at hq ⊢;by_cases w0:y.w=0
     ·rw [if_pos w0] at hq;simp only [w0,if_true];by_cases a0:y.a=(Nc d1 t:Int)
      ·rw [if_pos a0] at hq; simp at hq
      ·rw [if_neg a0] at hq;simp only [a0,if_false];by_cases d1':((Ins d1 t y).hd 0).n=1
       ·rw [if_pos d1'] at hq;simp only [List.cons.injEq,and_true] at hq;obtain⟨r1,r2,r3,r4⟩:=hq;refine⟨trivial,r4,fun q=>?_⟩;have aE1:((Ins d1 t { y with tr:=q }).hd 0).n=1:=d1';rw [if_pos aE1];show [((Ins d1 t y).hd 1).n,((Ins d1 t y).hd 2).n,Vm ((Ins d1 t y).hd 6) y.lc,q,1]=_;rw [r1,r2,r3]
       ·rw [if_neg d1'] at hq;split at hq <;> simp at hq
     ·rw [if_neg w0] at hq;simp only [List.cons.injEq,and_true] at hq;omega
    obtain⟨w0,htr,hnx⟩:=hw
    have hz:rW (Ins d1 t y) y 4 0 0 0 0= { y with tr:=if 4611686018427387904 < y.tr+1 then 4611686018427387904 else y.tr+1 }:=by unfold rW;rw [if_pos rfl,if_pos rfl]
    rw [hz] at M' S' ⊢
    have hge:y.tr≤(if 4611686018427387904 < y.tr+1 then (4611686018427387904:Int) else y.tr+1):=by have:=R.r.ok.2.2.2.2.1;split <;> omega
    generalize (if 4611686018427387904 < y.tr+1 then (4611686018427387904:Int) else y.tr+1)=q at *;refine⟨M',fun u z Rz=>?_⟩;by_cases hut:u=t
    ·subst hut;have hzq:z= { y with tr:=q }:=Bz (Rz.hk.symm.trans (abI t0 R.ht _));subst hzq;have hov:kN d1 u { y with tr:=q }=0:=ho;obtain⟨s3,g1,g2,g3,g4,g5,oc3,A3⟩:=try_any (tries:=q) h0 h1 S'.g (by omega) hti k1 k2' k3;have hno:=Yc (arg:=arg) (tries:=q) h0 h1 S.g.wd (S.g.few (by omega)) k1 hna;have hst:=yS S' Rz hov (hnx q) A3
     have o3:oc3=0:=by have h:=A3.eq;rw [hno] at h;simp only [Option.some.injEq,List.cons.injEq,and_true] at h;omega
     exact⟨_,_,_,_,_,_,_,_,hst,.inl o3,by rw [hnx q]; show ¬((4:Int)=4∧q < arg); omega⟩
    ·have hk':k.at u=z.d:=(YE k Rz.r.t0 hut _).symm.trans Rz.hk;have Ru:=aCD S (by omega) h0 h1 M Rz.r.t0 Rz.r.t1 hk';obtain⟨s4,k4,g1,g2,g3,g4,g5,oc4,p1,p2,p3⟩:=hP u z Ru;obtain⟨s5,k5,b1,b2,b3,b4,b5,oc5,hL5,H5⟩:=LG S (by omega) h0 h1 u
     have ho5:oc5=0∨oc5=4:=by rw [hL5] at p1;simp only [Option.some.injEq,List.cons.injEq,and_true] at p1;omega
     cases H5 with
     | no h5=> have:=Ru.yes;rw [h5] at this;simp at this
     | over v Rv hv=> have e:=Bz (Rv.hk.symm.trans Ru.hk);subst e;exact⟨_,_,_,_,_,_,_,_,CU S' Rz hv,.inr rfl,p3⟩
     | loc v Rv hv ha=>omega
     | tri v Rv hv op' aFk arg' tr' hq' l1 l2 l3 aEH s5 b1 b2 b3 b4 b5 oc5 A5 T5=>
       have e:=Bz (Rv.hk.symm.trans Ru.hk);subst e;have z0:oc5=0:=by have:=A5.oc3; omega
       obtain⟨s6,i1,i2,i3,i4,i5,oc6,A6⟩:=try_any (tries:=tr') h0 h1 S'.g (by omega) aEH l1 l2 l3
       have o6:oc6=0:=by have h:=A6.eq;rw [A5.eq] at h;simp only [Option.some.injEq,List.cons.injEq,and_true] at h;omega
       exact⟨_,_,_,_,_,_,_,_,yS S' Rz hv hq' A6,.inl o6,p3⟩
   ·have hz:rW (Ins d1 t y) y op 0 0 0 0=y:=by
     unfold rW;rw [if_pos rfl,if_neg h4]
    rw [hz]
    have hkk:qR k t y=k:=by obtain⟨x',hx',hs'⟩:=aCW S t0 R.ht;rw [Bz (R.hk.symm.trans hx')];exact hs'
    rw [hkk];exact⟨M,hP⟩
end
section
variable {d0 d1:D} (h0:Wd (.sl 3) d0) (h1:Wd (.sl 4) d1) (hn:0 < d1.l.length) (d:D) (hd:d.l.length≤140737488351232) (x3:Int)
include h0 h1 hn hd
theorem Em: ∀(j i:Nat) (s k:D),i+j=40→Sx s k (1000+i)→OH d0 d1 s k→L 2603 [(i:Int),enc d0,enc d1,x3,enc d,enc s,enc k]=some [1]
 | 0,i,s,k,hi,S,P=>by
   have c1: ¬(i:Int) < 40:=by omega
   rw [aQ,adH];by_cases hz:(i:Int) < (d.l.length:Int)
   ·simp only [Pm,zz,hz,c1,bJ]
   ·simp only [Pm,zz,hz,bJ]
 | j+1,i,s,k,hi,S,P=>by
   have c1:(i:Int) < 40:=by omega
   have c2: ¬((i:Int) < 0):=by omega
   have w:=aY (n:=i) (by omega);by_cases hz:(i:Int) < (d.l.length:Int)
   ·have hb:=h1.len;have hp:=abS (x:=(d.at (i:Int)).n) (n:=(d1.l.length:Int)) (by omega) (by omega);obtain⟨p0,p1⟩:=P8 (x:=(d.at (i:Int)).n) (n:=(d1.l.length:Int)) (by omega);obtain⟨k',oc,hL,h1',P',S'⟩:=Yz S (by omega) h0 h1 P p0 p1;have hs:=(Ut (Lm S' (by omega) h0 h1)).2 P';have ih:=Em j (i+1) s k' (by omega) S' P';rw [aQ,adH];simp only [Pm,zz,hz,c1,c2,hp,hL,if_neg h1',hs,H7,and_self,aK,w,bC];exact ih
   ·rw [aQ,adH];simp only [Pm,zz,hz,bJ]
theorem Lp: ∀(j i:Nat) (s k:D),i+j=40→Sx s k (1000+i)→L 2604 [(i:Int),enc d0,enc d1,x3,enc d,enc s,enc k]=some [1]
 | 0,i,s,k,hi,S=>by
   have c1: ¬(i:Int) < 40:=by omega
   rw [aQ,adG];by_cases hz:(i:Int) < (d.l.length:Int)
   ·simp only [Pj,zz,hz,c1,bJ]
   ·simp only [Pj,zz,hz,bJ]
 | j+1,i,s,k,hi,S=>by
   have c1:(i:Int) < 40:=by omega
   have c2: ¬((i:Int) < 0):=by omega
   have w:=aY (n:=i) (by omega);by_cases hz:(i:Int) < (d.l.length:Int)
   ·have hb:=h1.len;have hp:=abS (x:=(d.at (i:Int)).n) (n:=(d1.l.length:Int)) (by omega) (by omega);obtain⟨s',k',e1,e2,e3,e4,e5,oc,A⟩:=Fj S (by omega) h0 h1 (vF (d.at (i:Int)).n (d1.l.length:Int));have hA:=A.eq;have ih:=Lp j (i+1) s' k' (by omega) A.sx;rw [aQ,adG];simp only [Pj,zz,hz,c1,c2,hp,hA,w,bC];exact ih
   ·rw [aQ,adG];simp only [Pj,zz,hz,bJ]
end
section
variable {d0 d1 s k:D} (S:Sx s k 1000) (h0:Wd (.sl 3) d0) (h1:Wd (.sl 4) d1) (hn:0 < d1.l.length) (d:D) (hd:d.l.length≤140737488351232) (x2:Int)
include S h0 h1 hn hd
theorem Lr: ∀(j i:Nat),i+j=d1.l.length→L 2602 [(d1.l.length:Int),(i:Int),enc d0,enc d1,x2,enc d,enc s,enc k]=some [1]
 | 0,i,hi=>by
   have c1: ¬(i:Int) < (d1.l.length:Int):=by omega
   have h3:=Em h0 h1 hn d hd x2 40 0 s k (by omega) S;have h4:=Lp h0 h1 hn d hd x2 40 0 s k (by omega) S;rw [Int.natCast_zero] at h3 h4;obtain⟨ys,hs,b,rfl,hb⟩:=Lm S (by omega) h0 h1;rw [aQ,aoF];rcases hb with ⟨rfl,hb⟩ | ⟨rfl,hb⟩
   ·simp only [VG,zz,c1,hs,bC];exact h4
   ·simp only [VG,zz,c1,hs,aK,bC];exact h3 hb
 | j+1,i,hi=>by
   have c1:(i:Int) < (d1.l.length:Int):=by omega
   have hb:=h1.len;have w:=aY (n:=i) (by omega);have ih:=Lr j (i+1) (by omega);rw [aQ,aoF];simp only [VG,zz,c1,w,bC];exact ih
theorem Ep: ∀(j i:Nat),i+j=d1.l.length→(∀t:Int,0≤t→t < (i:Int)→∃x,Rs d0 d1 s k t x∧kN d1 t x=1)→L 2601 [(d1.l.length:Int),(i:Int),enc d0,enc d1,x2,enc d,enc s,enc k]=some [1]
 | 0,i,hi,hov=>by
   have c1: ¬(i:Int) < (d1.l.length:Int):=by omega
   have h3:=Em h0 h1 hn d hd x2 40 0 s k (by omega) S;rw [Int.natCast_zero] at h3;obtain⟨x0,R0,_⟩:=hov 0 (by omega) (by omega);have M:=aCE S (by omega) h0 h1 R0
   have P:OH d0 d1 s k:=⟨M,fun t x R=>by
    obtain⟨y,Ry,hy⟩:=hov t R.r.t0 (by have:=R.r.t1; omega);have e:=Bz (Ry.hk.symm.trans R.hk);subst e;refine⟨_,_,_,_,_,_,_,_,CU S R hy,.inr rfl,?_⟩
    have hx:y.w=0∧y.a=(Nc d1 t:Int):=by
     unfold kN at hy;by_cases w0:y.w=0
     ·rw [if_pos w0] at hy;by_cases a0:y.a=(Nc d1 t:Int)
      ·exact⟨w0,a0⟩
      ·rw [if_neg a0] at hy; omega
     ·rw [if_neg w0] at hy; omega
    have e:kV d1 t y= [0,0,0,0,0]:=by unfold kV;rw [if_pos hx.1,if_pos hx.2]
    rw [e];show ¬((0:Int)=4∧_)
    omega⟩
   have hs:=(Ut (Lm S (by omega) h0 h1)).2 P;rw [aQ,Xn];simp only [Pn,zz,c1,hs,aK,bC];exact h3 P
 | j+1,i,hi,hov=>by
   have c1:(i:Int) < (d1.l.length:Int):=by omega
   have hb:=h1.len;have w:=aY (n:=i) (by omega);have h2:=Lr S h0 h1 hn d hd x2 j (i+1) (by omega);rcases abO (t:=(i:Int)) S (by omega) h0 h1 with h | ⟨x,R⟩
   ·have hF:=aAU (n:=1000) (by omega) h;rw [aQ,Xn];simp only [Pn,zz,c1,hF,w,bC];exact h2
   ·have hF:=aAV (n:=1000) (by omega) R;rcases J5 d1 (i:Int) x with ho | ho
    ·rw [ho] at hF;rw [aQ,Xn];simp only [Pn,zz,c1,hF,w,bC];exact h2
    ·rw [ho] at hF
     have ih:=Ep j (i+1) (by omega) fun t t0 t1=>by
      by_cases hti:t=(i:Int)
      ·subst hti; exact⟨x,R,ho⟩
      ·exact hov t t0 (by omega)
     rw [aQ,Xn];simp only [Pn,zz,c1,hF,aK,w,bC];exact ih
end
theorem aeM {d0 d1:D} (h0:Wd (.sl 3) d0) (h1:Wd (.sl 4) d1) (a b:D) (hb:b.l.length≤140737488351232):L 2600 [enc d0,enc d1,enc a,enc b]=some [1]:=by
 obtain⟨ys,hG,g,rfl,_⟩:=afY (d0:=d0) h1;rw [aQ,ayI];by_cases g0:g=0
 ·subst g0;by_cases n0:(d1.l.length:Int)=0
  ·simp only [Po,zz,hG,n0,bJ]
  ·have hn:0 < d1.l.length:=by omega
   by_cases c1:(100:Int) < (a.l.length:Int)
   ·obtain⟨l,s,k,hp,S⟩:=P6 h0 h1 hn (gV a (a.l.take 100)) (by rw [iO,List.length_take]; omega);have h:=Ep (S.mono (by rw [iO,List.length_take]; omega)) h0 h1 hn b hb (enc a) d1.l.length 0 (by omega) (fun t t0 t1=>by omega);rw [Int.natCast_zero] at h;simp only [Po,zz,hG,if_neg n0,c1,show (100:Int).toNat=100 from rfl,hp,bC];exact h
   ·obtain⟨l,s,k,hp,S⟩:=P6 h0 h1 hn (gV a (a.l.take a.l.length)) (by rw [iO,List.length_take]; omega);have h:=Ep (S.mono (by rw [iO,List.length_take]; omega)) h0 h1 hn b hb (enc a) d1.l.length 0 (by omega) (fun t t0 t1=>by omega);rw [Int.natCast_zero] at h;simp only [Po,zz,hG,if_neg n0,c1,Int.toNat_natCast,Int.lt_irrefl,hp,bC];exact h
 ·simp only [Po,zz,hG,if_neg g0,bJ]
end Go.As.Try
end
section
namespace Go.Proofs.YtmmdeeeifpepjaaGreatDoor.fnFreeStuck
open Go hiding Stat
open Go.As Go.As.Try Go.Proofs Go.RowKit Go.ChangeShapes Go.WideShapes Go.ChangeAt
set_option maxRecDepth 100000
theorem atZ:Au Tryz.prog atE 8 25=some [.sl 3,.sl 4]:=by kernel_rfl
theorem atY:Au Tryz.prog atE 8 51=some [.sl 0,.sl 0]:=by kernel_rfl
theorem Xz {H:Type} {enc:TypeId×Value→H} {W:World} {t:TypeId} {v:Value} {d:DataW H} {p:List MemPlace} {O4:List CK} (hf:Au Tryz.prog atE 8 t=some O4) (h:DataW.Trod enc Tryz.prog W 0 (fun _=>true) true t v d p) (hw:(d.weights Tryz.prog t).all (·≤reachBytes)=true) :
 ∃ds,Rs (YJ W) W.heap O4 ds v.cells.toList:=by
 obtain⟨fuel,hx⟩:=h;exact TQ atD fuel t 8 O4 v.cells.toList (d,p) hf hx hw
theorem aCO:2600∈S.nums 5:=by
 have h:S.nums 5= [2600]:=by kernel_rfl
 rw [h];simp
theorem contract (H:Type) (enc:TypeId×Value→H) (W:World) (base:Nat) (args:Array Value) (ds gs:List (DataW H)) (before:List MemPlace)
 (hval: ∀(j:Nat) t v,Tryz.f5.params[j]?=some t→args[j]?=some v→Value.okWide Tryz.prog W .any base t v)
 (hW:DataW.Whole enc Tryz.prog Tryz.f5.params.toList Rows.freeStuckSpec.vars false W args.toList ds gs before)
 (hsz:(DataW.weightsEach Tryz.prog (Tryz.f5.params.toList++ []) (ds++gs)).all (·≤reachBytes)=true) (hsh:W.ShapedOpen Tryz.prog) :
 Calls Tryz.prog 5 args W fun e W'=> ∃v,e= .returned v∧Rows.freeStuckSpec.post enc Tryz.prog Tryz.f5 false true false false W args v W':=by
 have hW':=hW;obtain⟨p,q,hA0,hV,rfl,hfz,hnd⟩:=hW;have hA:DataW.TrodAll enc Tryz.prog W 0 (fun _=>true) true Tryz.f5.params.toList args.toList ds p:=hA0;rw [Tryz.params5] at hA hval hsz;obtain⟨v0,vs0,d0,ds0,p0,q0,hargs,rfl,rfl,h0,r0⟩:=trodAll_cons hA;obtain⟨v1,vs1,d1,ds1,p1,q1,rfl,rfl,rfl,h1,r1⟩:=trodAll_cons r0;obtain⟨rfl,rfl,rfl⟩:=trodAll_nil r1;obtain rfl:args= #[v0,v1]:=by cases args; simp_all
 obtain⟨rfl,rfl⟩:=trodVars_none hV;clear hA0;simp only [List.append_nil] at hW';have hlt: ∀x∈p0++p1,x.block < W.heap.size:=fun x hx=>by simpa using hW'.lt x (by simpa using hx)
 have hlt0: ∀x∈p0,x.block < W.heap.size:=fun x hx=>hlt x (List.mem_append_left _ hx);have hlt1: ∀x∈p1,x.block < W.heap.size:=fun x hx=>hlt x (List.mem_append_right _ hx)
 have hsz':(d0.weights Tryz.prog 25).all (·≤reachBytes)=true∧(d1.weights Tryz.prog 51).all (·≤reachBytes)=true:=by have:(DataW.weightsEach Tryz.prog [25,51] [d0,d1]).all (·≤reachBytes)=true:=hsz;simp only [DataW.weightsEach,List.all_append,Bool.and_eq_true] at this;exact⟨this.1,this.2.1⟩
 obtain⟨es0,R0⟩:=Xz atZ h0 hsz'.1;obtain⟨es1,R1⟩:=Xz atY h1 hsz'.2;obtain⟨cs0,rfl,_⟩:=okWide_struct Tryz.underlying25 (hval 0 25 v0 rfl rfl);have e0:(Value.agg cs0).cells.toList=cs0.toList:=rfl;obtain⟨cs1,rfl,_⟩:=Ud Tryz.underlying51 (hval 1 51 v1 rfl rfl);have e1:(Value.agg cs1).cells.toList=cs1.toList:=rfl;rw [e0] at R0;rw [e1] at R1
 match es0,hcs0:cs0.toList,R0 with
 | [x0,x1],[u0,u1],.cons r0_ w0 (.cons r1_ w1 .nil)=>
   obtain rfl:cs0= #[u0,u1]:=by rw [← Array.toArray_toList (xs:=cs0),hcs0]
   match es1,hcs1:cs1.toList,R1 with
   | [x2,x3],[u2,u3],.cons r2_ w2 (.cons r3_ w3 .nil)=>
     obtain rfl:cs1= #[u2,u3]:=by rw [← Array.toArray_toList (xs:=cs1),hcs1]
     have hL:=aeM w0 w1 x2 x3 w3.len;refine (aqK (g:=5) (j:=2600) (e:=anB.ent) aCO (by kernel_rfl) rfl rfl hL hsh (vals:=[.agg [u0,u1].toArray,.agg [u2,u3].toArray]) (fl:=[u0,u1,u2,u3]) (.agg _ [u0,u1] rfl (.agg _ [u2,u3] rfl .nil)) ⟨_,_,_,_,rfl,rfl,GU r0_,_,_,_,_,rfl,rfl,GU r1_,_,_,_,_,rfl,rfl,GU r2_,_,_,_,_,rfl,rfl,GU r3_,rfl,rfl⟩).mono fun e W' ⟨he,hb⟩=>?_;subst he;exact⟨_,rfl,⟨_,_,_,[],_,[],hW',trodAll_mk1 (shut_bool Tryz.underlying4 _),trodAll_mk2 (Below.trod laidOut (by kernel_rfl) (of_decide_eq_true (by kernel_rfl)) h0 hb hlt0) (Below.trod laidOut (by kernel_rfl) (of_decide_eq_true (by kernel_rfl)) h1 hb hlt1),rfl,hb.frame _,fun h=>by cases h⟩⟩
abbrev aaB:Array Value:=#[.agg #[.slice none 0 0,.slice none 0 0],.agg #[.slice none 0 0,.slice none 0 0]]
theorem laid_met (os:Os):laidMet Tryz.prog Rows.freeStuckRow.laid ((laidWorld os).forCall (fun _ _=>0) ⟨#[],aaB,[]⟩).memory:=
 laidMet_of_run' 8 (by kernel_rfl) (by kernel_rfl)
theorem reads (os:Os) {H:Type} (enc:TypeId×Value→H): ∃places,DataW.whole enc Tryz.prog ((laidWorld os).forCall (fun _ _=>0) ⟨#[],aaB,[]⟩).memory Tryz.f5.params.toList [] false aaB.toList 8=some ([.agg [.nil,.nil],.agg [.nil,.nil]],[],places):=
 ⟨[],by kernel_rfl⟩
set_option maxHeartbeats 400000 in
theorem lifted (os:Os) (started:os.Started) (H:Type) (enc:TypeId×Value→H) (F:Stop.Interp) :
 ReturnsInHanded {} Tryz.checked os 5 .any ((OpenSpec.ofChange Rows.freeStuckSpec).preRow enc Tryz.prog Tryz.f5 Rows.freeStuckRow.domain false Rows.freeStuckRow.laid) (((OpenSpec.ofChange Rows.freeStuckSpec).at F).post enc Tryz.prog Tryz.f5 false true false false):=by
 obtain⟨places,hx⟩:=reads os enc
 refine returnsInHanded_of_row (C:=Tryz.checked) (s:=OpenSpec.ofChange Rows.freeStuckSpec) Try.own started (by kernel_rfl) Tryz.func5
  (witness_row_at (enc:=enc) (C:=Tryz.checked) false (laidWorld os) aaB rfl (by kernel_rfl) (by kernel_rfl) (by kernel_rfl)
   (OpenSpec.preRow_of_cond 8 hx (by kernel_rfl) (fun k hk=>by cases hk) (by kernel_rfl) (laid_met os))) ?_
 intro W base args ds gs before hval hW _ _ hsz _ hsh _;exact contract H enc W base args ds gs before hval hW hsz hsh
theorem jI {a b:Bool} (h1:a=true) (h2:b=true):(a && b)=true:=by rw [h1,h2]; rfl
theorem closed:joinedFacts Tryz.pinned.checked.prog 5 Tryz.f5 (OpenSpec.ofChange Rows.freeStuckSpec).bare Rows.freeStuckRow=true:=(jI (jI (jI (jI (jI (jI (jI (jI (jI (jI (jI (jI (jI (jI (jI (jI (jI (jI (jI (jI (jI (jI (jI (jI (jI (jI (jI (jI (jI (jI (jI (by kernel_rfl) (by kernel_rfl)) (by kernel_rfl)) (by kernel_rfl)) (by kernel_rfl)) (by kernel_rfl)) (by kernel_rfl)) (by kernel_rfl)) (by kernel_rfl)) (by kernel_rfl)) (by kernel_rfl)) (by kernel_rfl)) (by kernel_rfl)) (by kernel_rfl)) (by kernel_rfl)) (by kernel_rfl)) (by kernel_rfl)) (by kernel_rfl)) (by kernel_rfl)) (by kernel_rfl)) (by kernel_rfl)) (by kernel_rfl)) (by kernel_rfl)) (by kernel_rfl)) (by kernel_rfl)) (by kernel_rfl)) (by kernel_rfl)) (by kernel_rfl)) (by kernel_rfl)) (by kernel_rfl)) (by kernel_rfl)) (by kernel_rfl))
theorem said:Rows.FreeStuckSaid:=
 OpenClaim.holds_of_cond 5 Tryz.f5 rfl rfl rfl rfl rfl rfl rfl ⟨rfl,rfl,rfl,rfl,rfl⟩ rfl rfl rfl rfl rfl (by kernel_rfl) Tryz.func5 closed
  (of_decide_eq_true (by kernel_rfl)) (by unfold Func.isWrapper; first | (rw [if_pos (by decide +kernel)]; kernel_rfl) | (rw [if_neg (by decide +kernel)]; exact⟨rfl,rfl⟩))
  (fun os started H enc _ F=>by rw [OpenClaim.pre_eq_preRow]; exact lifted os started H enc F)
theorem plain (f:FuncId) (fn:Func) (hf:Tryz.pinned.checked.prog.funcNamed "amanuensis/amanuensislaw17.FreeStuck" = some f) (hfn:Tryz.pinned.checked.prog.funcs[f]?=some fn) :
 false=Tryz.pinned.checked.prog.looks []∧∀(j:Nat) t,fn.params[j]?=some t→Tryz.pinned.checked.prog.wantsStandIn t=false:=by
 obtain rfl:f=5:=Option.some.inj ((show Tryz.prog.funcNamed "amanuensis/amanuensislaw17.FreeStuck" = some 5 by kernel_rfl).symm.trans hf) |>.symm;obtain rfl:fn=Tryz.f5:=(Option.some.inj (Tryz.func5.symm.trans hfn)).symm;refine⟨by kernel_rfl,fun j t ht=>?_⟩;rw [Tryz.params5] at ht;have hm:=Array.mem_of_getElem? ht;simp only [List.mem_toArray,List.mem_cons,List.not_mem_nil,or_false] at hm;rcases hm with rfl | rfl
 all_goals exact (by kernel_rfl:Tryz.prog.wantsStandIn _=false)
theorem card:Rows.FreeStuckCardSaid:=
 Claim7.holds_tied_plain_at .later [] _ _ _ _ said (fun _ h=>by cases h) (by kernel_rfl) (fun _ h=>by cases h) freeStuck_row_tie rfl ⟨rfl,rfl⟩ (by kernel_rfl) rfl plain (by kernel_rfl)
end Go.Proofs.YtmmdeeeifpepjaaGreatDoor.fnFreeStuck
end

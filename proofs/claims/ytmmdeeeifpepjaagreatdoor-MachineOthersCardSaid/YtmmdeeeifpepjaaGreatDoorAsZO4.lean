/-
  Proved: the given card of the law MachineOthers: whatever the input, the call returns true and each argument reads afterwards as it did. Conditions: those of the given row alone (its listed package-level variables start as the program's text lays them; each string, slice and map that is handed in lies within a process's addresses).
-/
import Derived.Test.YtmmdeeeifpepjaaGreatDoorAsZO3
set_option linter.unusedSectionVars false
set_option linter.unusedVariables false
set_option linter.unusedSimpArgs false
section
namespace Go.As.Try
open Go hiding Stat Spec shape
open Go.As
set_option maxRecDepth 100000
def OkT (d0:D) (nl nc:Nat) (a:Int) (ll:Nat) (w o g t:Int):Prop:=
 0≤a∧a≤(nc:Int)∧(ll:Int)=(nl:Int)∧0≤t∧t≤4611686018427387904∧
  (w=0∧o=0∧g=0∨w=24∧0≤o∧o < (d0.l.length:Int)∧((d0.at o).hd 0).n=4∨w=25∧0≤o∧o < (d0.l.length:Int)∧((d0.at o).hd 0).n=5)
def isB (p:Prop) (ys:List Int):Prop:= ∃b:Int,ys= [b]∧(b=0∧¬p∨b=1∧p)
theorem LQ {p:Prop} (h: ¬p):isB p [0]:=⟨0,rfl,.inl ⟨rfl,h⟩⟩
theorem ajJ {p:Prop} (h:p):isB p [1]:=⟨1,rfl,.inr ⟨rfl,h⟩⟩
theorem aoR (d0 d3 d4 d6:D) (x1 x2 x5 x7 x8 x9 x10:Int):Tot 1600 [enc d0,x1,x2,enc d3,enc d4,x5,enc d6,x7,x8,x9,x10] (isB (OkT d0 d3.l.length d4.l.length x5 d6.l.length x7 x8 x9 x10)):=by
 unfold OkT;refine Tot.of ?_;rw [avL];simp only [agO,zz]
 repeat' first
  | exact .out (LQ (by omega))
  | exact .out (ajJ (by omega))
  | refine .ite (fun _=>?_) (fun _=>?_)
def OkK (d0 x k:D):Prop:=OkT d0 (x.hd 1).l.length (x.hd 2).l.length (k.hd 0).n (k.hd 1).l.length (k.hd 2).n (k.hd 3).n (k.hd 4).n (k.hd 5).n
section
variable {d0 d1 k:D} (hle:k.l.length=d1.l.length) (hlen:d1.l.length≤140737488351232)
include hle hlen
theorem IV: ∀(j i:Nat),i+j=k.l.length→Tot 1501 [enc k,(k.l.length:Int),(i:Int),enc d0,enc d1] (isB (∀(n:Nat) (hn:n < k.l.length),i≤n→OkK d0 (d1.l[n]'(hle▸hn)) k.l[n]))
 | 0,i,hi=>by
   have c1: ¬(i:Int) < (k.l.length:Int):=by omega
   refine Tot.of ?_;rw [alS];simp only [Zv,zz,c1];exact .out (ajJ fun n hn h=>by omega)
 | j+1,i,hi=>by
   have hil:i < k.l.length:=by omega
   have hid:i < d1.l.length:=by omega
   have c1:(i:Int) < (k.l.length:Int):=by omega
   have c2: ¬((i:Int) < 0):=by omega
   have c3:(i:Int) < (d1.l.length:Int):=by omega
   have w:=bD (n:=i) (by omega);obtain⟨ys,hT,b,rfl,hb⟩:=aoR d0 ((d1.l[i]).hd 1) ((d1.l[i]).hd 2) ((k.l[i]).hd 1) (enc d1) (enc ((d1.l[i]).hd 0)) ((k.l[i]).hd 0).n ((k.l[i]).hd 2).n ((k.l[i]).hd 3).n ((k.l[i]).hd 4).n ((k.l[i]).hd 5).n;obtain⟨ys,ih,b',rfl,hb'⟩:=IV j (i+1) (by omega);refine Tot.of ?_;rw [alS];simp only [Zv,zz,c1,c2,c3,aZ hil,aZ hid,w,hT];refine .ite (fun h0=> .out (LQ fun h=>?_)) (fun h0=> .jump ⟨_,ih,b',rfl,?_⟩)
   ·rcases hb with ⟨_,hb⟩ | ⟨hb,_⟩
    ·exact hb (h i hil (Nat.le_refl _))
    ·omega
   ·rcases hb with ⟨hb,_⟩ | ⟨_,hb⟩
    ·exact absurd hb h0
    ·rcases hb' with ⟨q,hb'⟩ | ⟨q,hb'⟩
     ·exact .inl ⟨q,fun h=>hb' fun n hn hni=>h n hn (by omega)⟩
     ·refine .inr ⟨q,fun n hn hni=>?_⟩;by_cases he:n=i
      ·subst he; exact hb
      ·exact hb' n hn (by omega)
end
def MR (d0 d1 s k:D):Prop:=L 350 [enc d0,enc d1,enc s]=some [1]∧∃hle:k.l.length=d1.l.length,∀(n:Nat) (hn:n < k.l.length),OkK d0 (d1.l[n]'(hle▸hn)) k.l[n]
theorem adB {d0 d1 s k:D} (h0:Wd (.sl 3) d0) (h1:Wd (.sl 4) d1) (hr:He s) (hlen:d1.l.length≤140737488351232):Tot 1500 [enc d0,enc d1,enc s,enc k] (isB (MR d0 d1 s k)):=by
 obtain⟨b,hb,hb1,_⟩:=yN h0 h1 hr;refine Tot.of ?_;rw [avN];simp only [agQ,zz,hb];refine .ite (fun h=> .out (LQ fun q=>?_)) (fun h=> .ite (fun hl=>?_) (fun hl=> .out (LQ fun q=>?_)))
 ·have:=q.1;rw [hb] at this;simp at this;omega
 ·have hle:k.l.length=d1.l.length:=by omega
  obtain⟨ys,hL,b',rfl,hb'⟩:=IV (d0:=d0) hle hlen k.l.length 0 (by omega);refine .jump ⟨_,hL,b',rfl,?_⟩;have hone:b=1:=by omega
  subst hone;rcases hb' with ⟨q,hb'⟩ | ⟨q,hb'⟩
  ·exact .inl ⟨q,fun h=>hb' fun n hn _=>h.2.2 n hn⟩
  ·exact .inr ⟨q,hb,hle,fun n hn=>hb' n hn (Nat.zero_le _)⟩
 ·have:=q.2.1;omega
theorem ahR {d0 d1 s k:D} (h0:Wd (.sl 3) d0) (h1:Wd (.sl 4) d1) (hr:He s) (hlen:d1.l.length≤140737488351232) (t:Int):Tot 1550 [enc d0,enc d1,enc s,enc k,t] (isB (0≤t∧t < (d1.l.length:Int)∧MR d0 d1 s k)):=by
 obtain⟨ys,hM,b,rfl,hb⟩:=adB h0 h1 hr hlen (k:=k);refine Tot.of ?_;rw [avM];simp only [agP,zz,hM];refine .ite (fun h=> .out (LQ fun q=>by omega)) (fun h=> .ite (fun h2=> .ite (fun h3=> .out (LQ fun q=>?_)) (fun h3=> .out (ajJ ?_))) (fun h2=> .out (LQ fun q=>by omega)))
 ·rcases hb with ⟨_,hb⟩ | ⟨hb,_⟩
  ·exact hb q.2.2
  ·omega
 ·rcases hb with ⟨hb,_⟩ | ⟨_,hb⟩
  ·exact absurd hb h3
  ·exact⟨by omega,h2,hb⟩
end Go.As.Try
end
section
namespace Go.As.Try
open Go hiding Stat Spec shape
open Go.As
set_option maxRecDepth 100000
def firstAt (t:Int):List D→Nat→Int
 | [],_=> -1
 | x :: l,i=>if x.n=t then (i:Int) else firstAt t l (i+1)
def place (r:D) (t:Int):Int:=firstAt t r.l 0
def wo (t:Int) (l:List D):List D:=l.filter fun x=>decide (x.n≠t)
theorem DR (t:Int): ∀(l:List D) (i:Nat),(firstAt t l i= -1∧∀x∈l,x.n≠t)∨∃(k:Nat) (h:k < l.length),firstAt t l i=((i+k:Nat):Int)∧(l[k]).n=t∧∀x∈l.take k,x.n≠t
 | [],_=> .inl ⟨rfl,fun x h=>absurd h (by simp)⟩
 | x :: l,i=>by
   unfold firstAt;by_cases hx:x.n=t
   ·rw [if_pos hx];exact .inr ⟨0,by simp,by simp,hx,by simp⟩
   ·rw [if_neg hx];rcases DR t l (i+1) with ⟨h1,h2⟩ | ⟨k,hk,h1,h2,h3⟩
    ·exact .inl ⟨h1,fun y hy=>by rcases List.mem_cons.1 hy with rfl | hy; exact hx; exact h2 y hy⟩
    ·refine .inr ⟨k+1,by simp; omega,by rw [h1]; congr 1; omega,by simpa using h2,fun y hy=>?_⟩;rw [List.take_succ_cons] at hy;rcases List.mem_cons.1 hy with rfl | hy
     ·exact hx
     ·exact h3 y hy
theorem vT (r:D) (t:Int):(place r t= -1∧∀x∈r.l,x.n≠t)∨∃(k:Nat) (h:k < r.l.length),place r t=(k:Int)∧(r.l[k]).n=t∧∀x∈r.l.take k,x.n≠t:=by have:=DR t r.l 0;simp only [Nat.zero_add] at this;exact this
theorem iQ (r:D) (t:Int): -1≤place r t∧place r t < (r.l.length:Int):=by rcases vT r t with ⟨h,_⟩ | ⟨k,hk,h,_⟩ <;> rw [h] <;> omega
theorem Jw {t:Int} {l:List D} (h: ∀x∈l,x.n≠t):wo t l=l:=List.filter_eq_self.2 fun x hx=>by simpa using h x hx
theorem zF {r:D} {t:Int} {i:Nat} (h:i < r.l.length):firstAt t (r.l.drop i) i=if (r.at (i:Int)).n=t then (i:Int) else firstAt t (r.l.drop (i+1)) (i+1):=by rw [List.drop_eq_getElem_cons h,aZ h];rfl
theorem ajM (r:D) (t:Int) (hl:r.l.length≤140737488351232): ∀(j i:Nat),i+j=r.l.length→L 851 [enc r,t,(r.l.length:Int),(i:Int)]=some [firstAt t (r.l.drop i) i]
 | 0,i,hi=>by
   have c1: ¬(i:Int) < (r.l.length:Int):=by omega
   rw [List.drop_of_length_le (by omega),aT,aAm];simp only [afR,zz,c1,fin,firstAt]
 | j+1,i,hi=>by
   have c1:(i:Int) < (r.l.length:Int):=by omega
   have c2: ¬((i:Int) < 0):=by omega
   have w:=bD (n:=i) (by omega);have ih:=ajM r t hl j (i+1) (by omega);rw [zF (by omega),aT,aAm];by_cases he:(r.at (i:Int)).n=t
   ·simp only [afR,zz,c1,c2,he,fin]
   ·have he': ¬t=(r.at (i:Int)).n:=fun h=>he h.symm;simp only [afR,zz,c1,c2,if_neg he,if_neg he',w,fin,ih]
theorem dJ (r:D) (t:Int) (hl:r.l.length≤140737488351232):L 850 [enc r,t]=some [place r t]:=by have h:=ajM r t hl r.l.length 0 (by omega);rw [aT,aCz];simp only [awY,zz,fin];exact h
theorem has_is (r:D) (t:Int) (hl:r.l.length≤140737488351232):L 900 [enc r,t]=some [if place r t < 0 then 0 else 1]:=by rw [aT,aCy];simp only [awX,zz,dJ r t hl];split <;> rfl
theorem Fz (r:D) (t:Int) (hl:r.l.length≤140737488351232) (y2 y3 y4 y5 y6 y7 y8 y9 qA pY pX:Int): ∀(j i:Nat),i+j=r.l.length→
 L 12051 [enc r,t,y2,y3,y4,y5,y6,y7,y8,y9,qA,pY,pX,(r.l.length:Int),(i:Int)]=some [0,enc r,t,y2,y3,y4,y5,y6,y7,y8,y9,qA,pY,pX,firstAt t (r.l.drop i) i]
 | 0,i,hi=>by
   have c1: ¬(i:Int) < (r.l.length:Int):=by omega
   rw [List.drop_of_length_le (by omega),aT,YK];simp only [Ky,zz,c1,fin,firstAt]
 | j+1,i,hi=>by
   have c1:(i:Int) < (r.l.length:Int):=by omega
   have c2: ¬((i:Int) < 0):=by omega
   have w:=bD (n:=i) (by omega);have ih:=Fz r t hl y2 y3 y4 y5 y6 y7 y8 y9 qA pY pX j (i+1) (by omega);rw [zF (by omega),aT,YK];by_cases he:(r.at (i:Int)).n=t
   ·simp only [Ky,zz,c1,c2,he,fin]
   ·simp only [Ky,zz,c1,c2,if_neg he,w,fin,ih]
theorem aqL (r:D) (t:Int) (hl:r.l.length≤140737488351232) (y2 y3 y4 y5 y6 y7 y8 y9 qA pY pX:Int):L 12050 [enc r,t,y2,y3,y4,y5,y6,y7,y8,y9,qA,pY,pX]=some [0,enc r,t,y2,y3,y4,y5,y6,y7,y8,y9,qA,pY,pX,place r t]:=by have h:=Fz r t hl y2 y3 y4 y5 y6 y7 y8 y9 qA pY pX r.l.length 0 (by omega);rw [aT,amU];simp only [Xx,zz,fin];exact h
theorem Fv (r:D) (t:Int) (hl:r.l.length≤140737488351232) (y2 y3 y4 y5 y6 y7 y8 y9 qA pY pX:Int): ∀(j i:Nat),i+j=r.l.length→
 L 12151 [enc r,t,y2,y3,y4,y5,y6,y7,y8,y9,qA,pY,pX,(r.l.length:Int),(i:Int)]=some [0,enc r,t,y2,y3,y4,y5,y6,y7,y8,y9,qA,pY,pX,firstAt t (r.l.drop i) i]
 | 0,i,hi=>by
   have c1: ¬(i:Int) < (r.l.length:Int):=by omega
   rw [List.drop_of_length_le (by omega),aT,YI];simp only [Kv,zz,c1,fin,firstAt]
 | j+1,i,hi=>by
   have c1:(i:Int) < (r.l.length:Int):=by omega
   have c2: ¬((i:Int) < 0):=by omega
   have w:=bD (n:=i) (by omega);have ih:=Fv r t hl y2 y3 y4 y5 y6 y7 y8 y9 qA pY pX j (i+1) (by omega);rw [zF (by omega),aT,YI];by_cases he:(r.at (i:Int)).n=t
   ·simp only [Kv,zz,c1,c2,he,fin]
   ·simp only [Kv,zz,c1,c2,if_neg he,w,fin,ih]
theorem aqK (r:D) (t:Int) (hl:r.l.length≤140737488351232) (y2 y3 y4 y5 y6 y7 y8 y9 qA pY pX:Int):L 12150 [enc r,t,y2,y3,y4,y5,y6,y7,y8,y9,qA,pY,pX]=some [0,enc r,t,y2,y3,y4,y5,y6,y7,y8,y9,qA,pY,pX,place r t]:=by have h:=Fv r t hl y2 y3 y4 y5 y6 y7 y8 y9 qA pY pX r.l.length 0 (by omega);rw [aT,amT];simp only [Xw,zz,fin];exact h
theorem BR {t:Int} {l:List D} {j:Nat} (h:j < l.length):wo t (l.take (j+1))=if (l[j]).n=t then wo t (l.take j) else wo t (l.take j)++ [l[j]]:=by
 unfold wo;rw [List.take_succ_eq_append_getElem h,List.filter_append];by_cases he:(l[j]).n=t
 ·simp [he]
 ·simp [he]
theorem aeV (t:Int) (l:List D):(wo t l).length≤l.length:=List.length_filter_le _ _
theorem zO (r0:D) (t:Int) (l0:List D) (hl:l0.length≤140737488351232) (hn: ∀x∈l0,x= .i x.n) (y2 y3 y4 y5 y6 y7 y8 y9 qA pY pX:Int): ∀(m i j:Nat) (r:D),r.l.length=l0.length→i < j→j+m=l0.length→r.l.drop j=l0.drop j→r.l.take i=wo t (l0.take j)→
 ∃(n:Nat) (r':D),n < l0.length∧r'.l.length=l0.length∧r'.l.take n=wo t l0∧L 12001 [enc r0,t,y2,y3,y4,y5,y6,y7,y8,y9,qA,pY,pX,enc r,(i:Int),(j:Int)]=some [1,enc r0,t,y2,y3,y4,y5,y6,y7,y8,y9,qA,pY,pX,(n:Int),enc r',(l0.length:Int)]
 | 0,i,j,r,hr,h1,h2,h3,h4=>by
   have c1: ¬(j:Int) < (l0.length:Int):=by omega
   have c2: ¬((i:Int) < 0):=by omega
   have c3: ¬((l0.length:Int) < (i:Int)):=by omega
   have c4: ¬((l0.length:Int) - (i:Int) < 0):=by omega
   have c5:(i:Int)+((l0.length:Int) - (i:Int))=(l0.length:Int):=by omega
   refine⟨i,dL (r.l.take i++List.replicate (r.l.length - i) (.i 0)),by omega,by rw [aX]; simp only [List.length_append,List.length_take,List.length_replicate]; omega,?_,?_⟩
   ·rw [aX,List.take_append_of_le_length (by rw [List.length_take]; omega),List.take_take,Nat.min_self,h4,List.take_of_length_le (by omega)]
   ·rw [aT,Ua];simp only [Kz,zz,c1,c2,c3,c4,c5,Int.toNat_natCast,fin,hr]
 | m+1,i,j,r,hr,h1,h2,h3,h4=>by
   have c1:(j:Int) < (l0.length:Int):=by omega
   have c2: ¬((j:Int) < 0):=by omega
   have w:=bD (n:=j) (by omega);have hj:j < r.l.length:=by omega
   have hj0:j < l0.length:=by omega
   have hx:r.at (j:Int)=l0[j]:=by rw [aZ hj];rw [List.drop_eq_getElem_cons hj,List.drop_eq_getElem_cons hj0] at h3;exact (List.cons.inj h3).1
   have h3':r.l.drop (j+1)=l0.drop (j+1):=by rw [List.drop_eq_getElem_cons hj,List.drop_eq_getElem_cons hj0] at h3;exact (List.cons.inj h3).2
   by_cases he:(r.at (j:Int)).n=t
   ·obtain⟨n,r',q1,q2,q3,ih⟩:=zO r0 t l0 hl hn y2 y3 y4 y5 y6 y7 y8 y9 qA pY pX m i (j+1) r hr (by omega) (by omega) h3' (by rw [BR hj0,← hx,if_pos he,h4]);refine⟨n,r',q1,q2,q3,?_⟩;rw [aT,Ua];simp only [Kz,zz,c1,c2,he,w,hr,fin,ih]
   ·have c3: ¬((i:Int) < 0):=by omega
    have c4:(i:Int) < (l0.length:Int):=by omega
    have w2:=bD (n:=i) (by omega);have hs:fA r.l (i:Int) (.i (r.at (j:Int)).n)=r.l.set i l0[j]:=by rw [xA,hx,← hn _ (List.getElem_mem hj0)]
    obtain⟨n,r',q1,q2,q3,ih⟩:=zO r0 t l0 hl hn y2 y3 y4 y5 y6 y7 y8 y9 qA pY pX m (i+1) (j+1) (dL (fA r.l (i:Int) (.i (r.at (j:Int)).n))) (by rw [aX,iU,hr]) (by omega) (by omega)
     (by rw [aX,hs,List.drop_set_of_lt (by omega),h3'])
     (by rw [aX,hs,List.take_succ_eq_append_getElem (by rw [List.length_set]; omega),List.take_set_of_le (Nat.le_refl _),List.getElem_set_self,h4,BR hj0,← hx,if_neg he])
    refine⟨n,r',q1,q2,q3,?_⟩;rw [aT,Ua];simp only [Kz,zz,c1,c2,c3,c4,if_neg he,w,w2,hr,fin,ih]
theorem asL (r:D) (t:Int) (hl:r.l.length≤140737488351232) (hn: ∀x∈r.l,x= .i x.n):(wo t r.l=r.l∧∀y2 y3 y4 y5 y6 y7 y8 y9 qA pY pX:Int,L 12000 [enc r,t,y2,y3,y4,y5,y6,y7,y8,y9,qA,pY,pX]=some [0,enc r,t,y2,y3,y4,y5,y6,y7,y8,y9,qA,pY,pX])∨
 ∀y2 y3 y4 y5 y6 y7 y8 y9 qA pY pX:Int,∃(n:Nat) (r':D),n < r.l.length∧r'.l.length=r.l.length∧r'.l.take n=wo t r.l∧L 12000 [enc r,t,y2,y3,y4,y5,y6,y7,y8,y9,qA,pY,pX]=some [1,enc r,t,y2,y3,y4,y5,y6,y7,y8,y9,qA,pY,pX,(n:Int),enc r',(r.l.length:Int)]:=by
 have h:=aqL r t hl;rcases vT r t with ⟨hp,hno⟩ | ⟨i,hi,hp,hat,hno⟩
 ·refine .inl ⟨Jw hno,fun y2 y3 y4 y5 y6 y7 y8 y9 qA pY pX=>?_⟩;have h':=h y2 y3 y4 y5 y6 y7 y8 y9 qA pY pX;clear h;rw [hp] at h';rw [aT,YL,RF,dP,if_pos,dP,if_pos,dP,if_pos]
  ·simp only [jK,List.map,bI,aP,aH,aK,Nat.reduceLT,fin]
  ·simp only [Qm3,iG,bI,fZ,iD,List.map,aP,Nat.reduceLT,aH,aK];rw [h'];simp only [aH,aK,Option.isSome_some,Option.getD_some,if_true]
  ·simp only [iG,bI,fZ,iD,List.map,aP,Nat.reduceLT,aH,aK];rw [h'];simp only [aH,aK,Option.isSome_some,Option.getD_some,if_true]
  ·simp only [iG,bI,fZ,iD,List.map,aP,Nat.reduceLT,aH,aK];rw [h'];simp only [aH,aK,Option.isSome_some,Option.getD_some,if_true]
 ·refine .inr fun y2 y3 y4 y5 y6 y7 y8 y9 qA pY pX=>?_;have h':=h y2 y3 y4 y5 y6 y7 y8 y9 qA pY pX;clear h;rw [hp] at h';have w:=bD (n:=i) (by omega);have h0:r.l.take i=wo t (r.l.take (i+1)):=by rw [BR hi,if_pos hat,Jw hno]
  obtain⟨n,r',q1,q2,q3,ih⟩:=zO r t r.l hl hn y2 y3 y4 y5 y6 y7 y8 y9 qA pY pX (r.l.length - (i+1)) i (i+1) r rfl (by omega) (by omega) rfl h0;refine⟨n,r',q1,q2,q3,?_⟩;rw [aT,YL,RF,dP,if_pos,dP,if_pos,dP,if_neg]
  ·simp only [nT,List.map,Qm3,bI,fZ,BF,den_add,aP,aH,aK,Nat.reduceLT];rw [h'];simp only [aH,aK,Option.getD_some,w,fin];rw [ih]
  ·simp only [Qm3,iG,bI,fZ,iD,List.map,aP,Nat.reduceLT,aH,aK];rw [h'];simp only [aH,aK,Option.isSome_some,Option.getD_some,if_true];omega
  ·simp only [iG,bI,fZ,iD,List.map,aP,Nat.reduceLT,aH,aK];rw [h'];simp only [aH,aK,Option.isSome_some,Option.getD_some,if_true]
  ·simp only [iG,bI,fZ,iD,List.map,aP,Nat.reduceLT,aH,aK];rw [h'];simp only [aH,aK,Option.isSome_some,Option.getD_some,if_true]
theorem zM (r0:D) (t:Int) (l0:List D) (hl:l0.length≤140737488351232) (hn: ∀x∈l0,x= .i x.n) (y2 y3 y4 y5 y6 y7 y8 y9 qA pY pX:Int): ∀(m i j:Nat) (r:D),r.l.length=l0.length→i < j→j+m=l0.length→r.l.drop j=l0.drop j→r.l.take i=wo t (l0.take j)→
 ∃(n:Nat) (r':D),n < l0.length∧r'.l.length=l0.length∧r'.l.take n=wo t l0∧L 12101 [enc r0,t,y2,y3,y4,y5,y6,y7,y8,y9,qA,pY,pX,enc r,(i:Int),(j:Int)]=some [1,enc r0,t,y2,y3,y4,y5,y6,y7,y8,y9,qA,pY,pX,(n:Int),enc r',(l0.length:Int)]
 | 0,i,j,r,hr,h1,h2,h3,h4=>by
   have c1: ¬(j:Int) < (l0.length:Int):=by omega
   have c2: ¬((i:Int) < 0):=by omega
   have c3: ¬((l0.length:Int) < (i:Int)):=by omega
   have c4: ¬((l0.length:Int) - (i:Int) < 0):=by omega
   have c5:(i:Int)+((l0.length:Int) - (i:Int))=(l0.length:Int):=by omega
   refine⟨i,dL (r.l.take i++List.replicate (r.l.length - i) (.i 0)),by omega,by rw [aX]; simp only [List.length_append,List.length_take,List.length_replicate]; omega,?_,?_⟩
   ·rw [aX,List.take_append_of_le_length (by rw [List.length_take]; omega),List.take_take,Nat.min_self,h4,List.take_of_length_le (by omega)]
   ·rw [aT,TY];simp only [Kw,zz,c1,c2,c3,c4,c5,Int.toNat_natCast,fin,hr]
 | m+1,i,j,r,hr,h1,h2,h3,h4=>by
   have c1:(j:Int) < (l0.length:Int):=by omega
   have c2: ¬((j:Int) < 0):=by omega
   have w:=bD (n:=j) (by omega);have hj:j < r.l.length:=by omega
   have hj0:j < l0.length:=by omega
   have hx:r.at (j:Int)=l0[j]:=by rw [aZ hj];rw [List.drop_eq_getElem_cons hj,List.drop_eq_getElem_cons hj0] at h3;exact (List.cons.inj h3).1
   have h3':r.l.drop (j+1)=l0.drop (j+1):=by rw [List.drop_eq_getElem_cons hj,List.drop_eq_getElem_cons hj0] at h3;exact (List.cons.inj h3).2
   by_cases he:(r.at (j:Int)).n=t
   ·obtain⟨n,r',q1,q2,q3,ih⟩:=zM r0 t l0 hl hn y2 y3 y4 y5 y6 y7 y8 y9 qA pY pX m i (j+1) r hr (by omega) (by omega) h3' (by rw [BR hj0,← hx,if_pos he,h4]);refine⟨n,r',q1,q2,q3,?_⟩;rw [aT,TY];simp only [Kw,zz,c1,c2,he,w,hr,fin,ih]
   ·have c3: ¬((i:Int) < 0):=by omega
    have c4:(i:Int) < (l0.length:Int):=by omega
    have w2:=bD (n:=i) (by omega);have hs:fA r.l (i:Int) (.i (r.at (j:Int)).n)=r.l.set i l0[j]:=by rw [xA,hx,← hn _ (List.getElem_mem hj0)]
    obtain⟨n,r',q1,q2,q3,ih⟩:=zM r0 t l0 hl hn y2 y3 y4 y5 y6 y7 y8 y9 qA pY pX m (i+1) (j+1) (dL (fA r.l (i:Int) (.i (r.at (j:Int)).n))) (by rw [aX,iU,hr]) (by omega) (by omega)
     (by rw [aX,hs,List.drop_set_of_lt (by omega),h3'])
     (by rw [aX,hs,List.take_succ_eq_append_getElem (by rw [List.length_set]; omega),List.take_set_of_le (Nat.le_refl _),List.getElem_set_self,h4,BR hj0,← hx,if_neg he])
    refine⟨n,r',q1,q2,q3,?_⟩;rw [aT,TY];simp only [Kw,zz,c1,c2,c3,c4,if_neg he,w,w2,hr,fin,ih]
theorem asK (r:D) (t:Int) (hl:r.l.length≤140737488351232) (hn: ∀x∈r.l,x= .i x.n):(wo t r.l=r.l∧∀y2 y3 y4 y5 y6 y7 y8 y9 qA pY pX:Int,L 12100 [enc r,t,y2,y3,y4,y5,y6,y7,y8,y9,qA,pY,pX]=some [0,enc r,t,y2,y3,y4,y5,y6,y7,y8,y9,qA,pY,pX])∨
 ∀y2 y3 y4 y5 y6 y7 y8 y9 qA pY pX:Int,∃(n:Nat) (r':D),n < r.l.length∧r'.l.length=r.l.length∧r'.l.take n=wo t r.l∧L 12100 [enc r,t,y2,y3,y4,y5,y6,y7,y8,y9,qA,pY,pX]=some [1,enc r,t,y2,y3,y4,y5,y6,y7,y8,y9,qA,pY,pX,(n:Int),enc r',(r.l.length:Int)]:=by
 have h:=aqK r t hl;rcases vT r t with ⟨hp,hno⟩ | ⟨i,hi,hp,hat,hno⟩
 ·refine .inl ⟨Jw hno,fun y2 y3 y4 y5 y6 y7 y8 y9 qA pY pX=>?_⟩;have h':=h y2 y3 y4 y5 y6 y7 y8 y9 qA pY pX;clear h;rw [hp] at h';rw [aT,YJ,RD,dP,if_pos,dP,if_pos,dP,if_pos]
  ·simp only [jK,List.map,bI,aP,aH,aK,Nat.reduceLT,fin]
  ·simp only [Qnf,iG,bI,fZ,iD,List.map,aP,Nat.reduceLT,aH,aK];rw [h'];simp only [aH,aK,Option.isSome_some,Option.getD_some,if_true]
  ·simp only [iG,bI,fZ,iD,List.map,aP,Nat.reduceLT,aH,aK];rw [h'];simp only [aH,aK,Option.isSome_some,Option.getD_some,if_true]
  ·simp only [iG,bI,fZ,iD,List.map,aP,Nat.reduceLT,aH,aK];rw [h'];simp only [aH,aK,Option.isSome_some,Option.getD_some,if_true]
 ·refine .inr fun y2 y3 y4 y5 y6 y7 y8 y9 qA pY pX=>?_;have h':=h y2 y3 y4 y5 y6 y7 y8 y9 qA pY pX;clear h;rw [hp] at h';have w:=bD (n:=i) (by omega);have h0:r.l.take i=wo t (r.l.take (i+1)):=by rw [BR hi,if_pos hat,Jw hno]
  obtain⟨n,r',q1,q2,q3,ih⟩:=zM r t r.l hl hn y2 y3 y4 y5 y6 y7 y8 y9 qA pY pX (r.l.length - (i+1)) i (i+1) r rfl (by omega) (by omega) rfl h0;refine⟨n,r',q1,q2,q3,?_⟩;rw [aT,YJ,RD,dP,if_pos,dP,if_pos,dP,if_neg]
  ·simp only [nT,List.map,Qnf,bI,fZ,BF,den_add,aP,aH,aK,Nat.reduceLT];rw [h'];simp only [aH,aK,Option.getD_some,w,fin];rw [ih]
  ·simp only [Qnf,iG,bI,fZ,iD,List.map,aP,Nat.reduceLT,aH,aK];rw [h'];simp only [aH,aK,Option.isSome_some,Option.getD_some,if_true];omega
  ·simp only [iG,bI,fZ,iD,List.map,aP,Nat.reduceLT,aH,aK];rw [h'];simp only [aH,aK,Option.isSome_some,Option.getD_some,if_true]
  ·simp only [iG,bI,fZ,iD,List.map,aP,Nat.reduceLT,aH,aK];rw [h'];simp only [aH,aK,Option.isSome_some,Option.getD_some,if_true]
theorem asJ (r:D) (t:Int): ∀y2 y3 y4 y5 y6 y7 y8 y9 qA pY pX:Int,L 12200 [enc r,t,y2,y3,y4,y5,y6,y7,y8,y9,qA,pY,pX]=some [0,enc r,t,y2,y3,y4,y5,y6,y7,y8,y9,qA,pY,pX]:=by
 intro y2 y3 y4 y5 y6 y7 y8 y9 qA pY pX
 have h:L 12250 [enc r,t,y2,y3,y4,y5,y6,y7,y8,y9,qA,pY,pX]=some [0,enc r,t,y2,y3,y4,y5,y6,y7,y8,y9,qA,pY,pX]:=by rw [aT,amR];simp only [Xu,zz,fin];rw [aT,amQ];simp only [Xt,zz,fin]
 have h':=h;clear h;rw [aT,amS,Xv,dP,if_pos,dP,if_pos]
 ·simp only [jK,List.map,bI,aP,aH,aK,Nat.reduceLT,fin]
 ·simp only [iG,bI,fZ,iD,List.map,aP,Nat.reduceLT,aH,aK];rw [h'];simp only [aH,aK,Option.isSome_some,Option.getD_some,if_true]
 ·simp only [iG,bI,fZ,iD,List.map,aP,Nat.reduceLT,aH,aK];rw [h'];simp only [aH,aK,Option.isSome_some,Option.getD_some,if_true]
theorem asI (r:D) (t:Int): ∀y2 y3 y4 y5 y6 y7 y8 y9 qA pY pX:Int,L 12300 [enc r,t,y2,y3,y4,y5,y6,y7,y8,y9,qA,pY,pX]=some [0,enc r,t,y2,y3,y4,y5,y6,y7,y8,y9,qA,pY,pX]:=by
 intro y2 y3 y4 y5 y6 y7 y8 y9 qA pY pX
 have h:L 12350 [enc r,t,y2,y3,y4,y5,y6,y7,y8,y9,qA,pY,pX]=some [0,enc r,t,y2,y3,y4,y5,y6,y7,y8,y9,qA,pY,pX]:=by rw [aT,amO];simp only [Xq,zz,fin];rw [aT,amN];simp only [Xp,zz,fin]
 have h':=h;clear h;rw [aT,amP,Xr,dP,if_pos,dP,if_pos]
 ·simp only [jK,List.map,bI,aP,aH,aK,Nat.reduceLT,fin]
 ·simp only [iG,bI,fZ,iD,List.map,aP,Nat.reduceLT,aH,aK];rw [h'];simp only [aH,aK,Option.isSome_some,Option.getD_some,if_true]
 ·simp only [iG,bI,fZ,iD,List.map,aP,Nat.reduceLT,aH,aK];rw [h'];simp only [aH,aK,Option.isSome_some,Option.getD_some,if_true]
end Go.As.Try
end
section
namespace Go.As.Try
open Go hiding Stat Spec shape
open Go.As
set_option maxRecDepth 100000
abbrev Mx (d0:D) (obj:Int):Int:=((d0.at obj).hd 2).n
abbrev Mo (d0 s:D) (obj:Int):Int:=((s.at ((d0.at obj).hd 2).n).hd 0).n
inductive Act where
 | blk
 | mis
 | res (o c dn g:Int) (r v:D) (m:Option Int) (a oc:Int)
def act (M mo th op arg tries o c dn g:Int) (r v:D):Act:=
 if op=1 then (if o=th then .mis else if place r th < 0 then (if o < 0 then .res th c dn g r v none 0 2 else .blk) else .mis)
 else if op=2 then (if o=th then .res (-1) c dn g r v none 0 2 else .mis)
 else if op=8 then (if o=th then .res (-1) c dn g r v none 0 2 else .mis)
 else if op=3 then (if o < 0 then .res th c dn g r v none 1 2 else .res o c dn g r v none 0 2)
 else if op=4 then (if o < 0 then .res th c dn g r v none 1 2 else if tries < arg then .blk else .res o c dn g r v none 0 2)
 else if op=5 then (if o=th then .mis else if place r th < 0 then (if o < 0 then .res o c dn g (dL (r.l++ [.i th])) v none 0 2 else .blk) else .mis)
 else if op=6 then (if place r th < 0 then .mis else .res o c dn g (iH (.i 2) (r.l.take (place r th).toNat++r.l.drop ((place r th).toNat+1))) v none 0 2)
 else if op=7 then (if o=th then .mis else if place r th < 0 then (if (r.l.length:Int)=0 then (if o < 0 then .res th c dn g r v none 0 2 else .blk) else .blk) else .mis)
 else if op=9 then (if 0 < c then .res o (IntKind.i64.wrap (c - 1)) dn g r v none 0 2 else .blk)
 else if op=11 then (if 0 < c then .res o (IntKind.i64.wrap (c - 1)) dn g r v none 1 2 else .res o c dn g r v none 0 2)
 else if op=10 then (if c < M then .res o (IntKind.i64.wrap (c+1)) dn g r v none 0 2 else .mis)
 else if op=17 then (if arg < IntKind.i64.wrap (0 - c) then .mis else if IntKind.i64.wrap (1099511627776 - c) < arg then .mis else .res o (IntKind.i64.wrap (c+arg)) dn g r v none (IntKind.i64.wrap (c+arg)) 2)
 else if op=18 then (if 0 < c then .res o (IntKind.i64.wrap (c - 1)) dn g r v none (IntKind.i64.wrap (c - 1)) 2 else .mis)
 else if op=19 then (if c=0 then .res o c dn g r v none 0 2 else .blk)
 else if op=22 then .res o c dn g r v none c 2
 else if op=23 then .res o arg dn g r v none arg 2
 else if op=20 then (if (v.l.length:Int) < M then .res o c dn g r (dL (v.l++ [.i arg])) none arg 2 else .blk)
 else if op=21 then (if (v.l.length:Int)=0 then .blk else .res o c dn g r (iH v (v.l.drop 1)) none (v.at 0).n 2)
 else if op=12 then (if mo=th then .res o c dn g (dL (wo th r.l++ [.i th])) v (some (-1)) 0 3 else .mis)
 else if op=13 then (if (r.l.length:Int)=0 then .res o c dn g r v none 0 2 else .res o c dn g (iH r (r.l.drop 1)) v none (IntKind.i64.wrap ((r.at 0).n+1)) 2)
 else if op=14 then .res o c dn g (.i 1) v none (r.l.length:Int) 2
 else if op=24 then (if place r th < 0 then (if mo < 0 then .res o c dn g r v (some th) 0 2 else .blk) else .blk)
 else if op=15 then (if g < 4611686018427387904 then (if IntKind.i64.wrap (c+1)=M then .res o 0 dn (IntKind.i64.wrap (g+1)) r v none g 3 else .res o (IntKind.i64.wrap (c+1)) dn g r v none g 3) else .mis)
 else if op=25 then (if arg < g then .res o c dn g r v none arg 2 else .blk)
 else if op=16 then (if dn=0 then (if o=th then .mis else if o < 0 then .res th c dn g r v none 1 2 else .blk) else .res o c dn g r v none 0 2)
 else (if o=th then .res (-1) c 1 g r v none 0 2 else .mis)
def XL (s:D) (obj M:Int):Act→D
 | .res o c dn g r v m _ _=>dL (fA (match m with | none=>s.l | some q=>fA s.l M (dL (fA (s.at M).l 0 (.i q)))) obj (dL [.i o,.i c,.i (if dn=0 then 0 else 1),.i g,r,v]))
 | _=>s
def outA (s:D) (th op obj M:Int):Act→List Int
 | .blk=>[enc s,0,0,0,0,0,0]
 | .mis=>[enc s,th,27,obj,IntKind.i64.wrap op,0,2]
 | .res o c dn g r v m a oc=>[enc (XL s obj M (.res o c dn g r v m a oc)),th,op,obj,a,0,oc]
structure TH (d0 d1 s:D) (th op obj arg tries o c dn g:Int) (r v:D):Prop where
 hcp:L 9000 [obj,enc s]=some [oL r v,obj,enc s,o,c,dn,g,enc r,enc v]
 iW:L 550 [enc s]=some [enc s]
 hR:L 350 [enc d0,enc d1,enc s]=some [1]
 FI:0≤th
 FH:th < (d1.l.length:Int)
 Bh:0≤obj
 Bg:obj < (s.l.length:Int)
 hlen:s.l.length=d0.l.length
 hk:L 600 [op]=some [((d0.at obj).hd 0).n]
 hr:(r.l.length:Int) < 17592186044415
 hv:(v.l.length:Int) < 17592186044415
 hn: ∀x∈r.l,x= .i x.n
 hM:op=12∨op=24→0≤((d0.at obj).hd 2).n∧((d0.at obj).hd 2).n < (s.l.length:Int)∧((d0.at obj).hd 2).n≠obj
theorem TH.hb {d0 d1 s:D} {th op obj arg tries o c dn g:Int} {r v:D} (H:TH d0 d1 s th op obj arg tries o c dn g r v):r.l.length≤140737488351232:=by have:=H.hr; omega
noncomputable abbrev dG (d0 d1 s:D) (th op obj arg tries:Int):Nat→Int:=bJ L (low [enc d0,enc d1,enc s,th,op,obj,arg,tries])
abbrev aW (k:Nat):SE:=rr 9000 [.aN 5,.aN 2] k
abbrev XV:SE:=nm (ce 2 (el (.aN 0) (.aN 5)))
abbrev kK:SE:=rr 850 [aW 7,.aN 3] 0
abbrev acG (q:SE):SE:=.op .set (aW 2) (cn (mk XV) (.op .set (el (aW 2) XV) (cn (.dat (.i 0)) q)))
abbrev wS:List SE:=[aW 7,.aN 3,.aN 5,XV,acG (.dat (.i (-1))),.aN 4,.aN 6,.aN 7,aW 3,aW 4,aW 5,aW 6,aW 8]
abbrev thg (o c d g r v:SE):SE:=cn (mk (.aN 5)) (cn o (cn c (cn d (cn g (cn r (cn v (.dat (.i 0))))))))
abbrev wI:T Lf:=ou [rr 550 [.aN 2] 0,.aN 3,.lit 27,.aN 5,wr (.aN 4),.lit 0,.lit 2]
abbrev Dv:T Lf:=ou [rr 550 [.aN 2] 0,.lit 0,.lit 0,.lit 0,.lit 0,.lit 0,.lit 0]
abbrev lI (z o c d g r v a:SE) (oc:Int):T Lf:=ou [.op .set z (thg o c d g r v),.aN 3,.aN 4,.aN 5,a,.lit 0,.lit oc]
theorem CB {r:D} (h:r.l= []) (t:Int):place r t= -1:=by unfold place; rw [h]; rfl
theorem awU {r:D} (h:r.l= []) (t:Int):wo t r.l= []:=by rw [h]; rfl
theorem alt3 {r v:D} (h:0 < r.l.length) (h':0 < v.l.length):oL r v=3:=by simp [oL,h,h']
theorem aDF {r v:D} (h:0 < r.l.length) (h':v.l= []):oL r v=4:=by simp [oL,h,h']
theorem aDE {r v:D} (h:r.l= []) (h':0 < v.l.length):oL r v=5:=by simp [oL,h,h']
theorem aDD {r v:D} (h:r.l= []) (h':v.l= []):oL r v=6:=by simp [oL,h,h']
abbrev Gl (d0 s:D) (th op obj arg tries o c dn g:Int) (r v:D):RS:=.out (outA s th op obj (Mx d0 obj) (act (Mx d0 obj) (Mo d0 s obj) th op arg tries o c dn g r v))
theorem dF (s:D) (th op obj M:Int):outA s th op obj M .blk= [enc s,0,0,0,0,0,0]:=rfl
theorem dD (s:D) (th op obj M:Int):outA s th op obj M .mis= [enc s,th,27,obj,IntKind.i64.wrap op,0,2]:=rfl
theorem bM (s:D) (th op obj M o c dn g:Int) (r v:D) (a oc:Int):outA s th op obj M (.res o c dn g r v none a oc)= [enc (dL (fA s.l obj (dL [.i o,.i c,.i (if dn=0 then 0 else 1),.i g,r,v]))),th,op,obj,a,0,oc]:=rfl
theorem bK (s:D) (th op obj M o c dn g:Int) (r v:D) (q a oc:Int):outA s th op obj M (.res o c dn g r v (some q) a oc)= [enc (dL (fA (fA s.l M (dL (fA (s.at M).l 0 (.i q)))) obj (dL [.i o,.i c,.i (if dn=0 then 0 else 1),.i g,r,v]))),th,op,obj,a,0,oc]:=rfl
section
variable {s:D} {th op obj M:Int}
theorem eX {c:Prop} [Decidable c] {a b:Act}:RS.out (outA s th op obj M (if c then a else b))=if c then RS.out (outA s th op obj M a) else RS.out (outA s th op obj M b):=by split <;> rfl
end
theorem Aq {p:Prop} [Decidable p]:((if p then (0:Int) else 1)=0)=p:=by by_cases h:p <;> simp [h]
theorem kJ (l:List D):l= []∨0 < l.length:=by cases l <;> simp
theorem z2 {ρ:Nat→Int} {a b c d:List SB} (h:zY ρ a∧zW ρ b) (h':zY ρ c∧zW ρ d):zY ρ (a++c)∧zW ρ (b++d):=⟨aeQ h.1 h'.1,aeT h.2 h'.2⟩
end Go.As.Try
end
section
namespace Go.As.Try
open Go hiding Stat Spec shape
open Go.As
set_option maxRecDepth 100000
abbrev bt:SE:=.op .bit (mk (aW 5)) (.lit 0)
abbrev kW:SE:=wr (.add kK (.lit 1))
abbrev kL:SE:=.sub (ln (aW 7)) kW
abbrev kD:SE:=.add kK kL
abbrev kC:SE:=.op .cat (.op .cat (.op .take (aW 7) kK) (.op .drop (.op .take (aW 7) (.add kW kL)) kW)) (.op .drop (aW 7) kD)
abbrev kF:SE:=.op .fill kC (cn (mk kD) (.dat (.i 0)))
section
variable {d0 d1 s r v:D} {th op obj arg tries o c dn g:Int}
abbrev YG:List SB:=[.eq (a0 9000 [.aN 5,.aN 2]) (.lit 1),.eq (a0 350 [.aN 0,.aN 1,.aN 2]) (.lit 1),.eq (a0 600 [.aN 4]) (.lit 1),.eq (a0 550 [.aN 2]) (.lit 1),.eq (a0 900 [aW 7,.aN 3]) (.lit 1),.eq (a0 850 [aW 7,.aN 3]) (.lit 1),.lt (.aN 3) (ln (.aN 1)),.lt (.aN 5) (ln (.aN 0)),.lt (.aN 5) (ln (aW 2)),.eq (rr 600 [.aN 4] 0) (nm (ce 0 (el (.aN 0) (.aN 5)))),.lt (ln (aW 7)) (.lit 17592186044415),.lt (ln (aW 8)) (.lit 17592186044415)]
abbrev NG:List SB:=[.lt (.aN 5) (.lit 0),.eq (rr 350 [.aN 0,.aN 1,.aN 2] 0) (.lit 0),.lt (.aN 3) (.lit 0),.lt (ln (aW 7)) (ln (aW 7)),.lt (ln (aW 8)) (.add (.lit 1) (.sub (ln (aW 8)) (.lit 1))),.lt (ln (aW 7)) (.add (.lit 1) (.sub (ln (aW 7)) (.lit 1)))]
theorem fG (H:TH d0 d1 s th op obj arg tries o c dn g r v):zY (dG d0 d1 s th op obj arg tries) YG∧zW (dG d0 d1 s th op obj arg tries) NG:=by have hb:=H.hb;have h1:=H.FI; have h2:=H.FH; have h3:=H.Bh; have h4:=H.Bg; have h5:=H.hlen; have h6:=H.hr; have h7:=H.hv; have hp:=iQ r th;simp only [zz,H.hcp,H.iW,H.hR,H.hk,has_is r th hb,dJ r th hb] <;> omega
abbrev YA3:List SB:=[.eq (aW 0) (.lit 3)]
abbrev NA3:List SB:=[.eq (aW 0) (.lit 0),.eq (aW 0) (.lit 1),.eq (aW 0) (.lit 2),.eq (aW 0) (.lit 4),.eq (aW 0) (.lit 5),.eq (aW 0) (.lit 6),.lt (.sub (ln (aW 7)) (.lit 1)) (.lit 0),.lt (.sub (ln (aW 8)) (.lit 1)) (.lit 0)]
theorem fA3 (H:TH d0 d1 s th op obj arg tries o c dn g r v) (hr:0 < r.l.length) (hv:0 < v.l.length):zY (dG d0 d1 s th op obj arg tries) YA3∧zW (dG d0 d1 s th op obj arg tries) NA3:=by have hb:=H.hb;have h1:=H.FI; have h2:=H.FH; have h3:=H.Bh; have h4:=H.Bg; have h5:=H.hlen; have h6:=H.hr; have h7:=H.hv; have hp:=iQ r th;simp only [zz,H.hcp,H.iW,H.hR,H.hk,has_is r th hb,dJ r th hb,alt3 hr hv] <;> omega
abbrev YA4:List SB:=[.eq (aW 0) (.lit 4)]
abbrev NA4:List SB:=[.eq (aW 0) (.lit 0),.eq (aW 0) (.lit 1),.eq (aW 0) (.lit 2),.eq (aW 0) (.lit 3),.eq (aW 0) (.lit 5),.eq (aW 0) (.lit 6),.lt (.sub (ln (aW 7)) (.lit 1)) (.lit 0)]
theorem fA4 (H:TH d0 d1 s th op obj arg tries o c dn g r v) (hr:0 < r.l.length) (hv:v.l= []):zY (dG d0 d1 s th op obj arg tries) YA4∧zW (dG d0 d1 s th op obj arg tries) NA4:=by have hb:=H.hb;have h1:=H.FI; have h2:=H.FH; have h3:=H.Bh; have h4:=H.Bg; have h5:=H.hlen; have h6:=H.hr; have h7:=H.hv; have hp:=iQ r th;simp only [zz,H.hcp,H.iW,H.hR,H.hk,has_is r th hb,dJ r th hb,aDF hr hv] <;> omega
abbrev YA5:List SB:=[.eq (aW 0) (.lit 5),.lt kK (.lit 0)]
abbrev NA5:List SB:=[.eq (aW 0) (.lit 0),.eq (aW 0) (.lit 1),.eq (aW 0) (.lit 2),.eq (aW 0) (.lit 3),.eq (aW 0) (.lit 4),.eq (aW 0) (.lit 6),.lt (.sub (ln (aW 8)) (.lit 1)) (.lit 0)]
theorem fA5 (H:TH d0 d1 s th op obj arg tries o c dn g r v) (hr:r.l= []) (hv:0 < v.l.length):zY (dG d0 d1 s th op obj arg tries) YA5∧zW (dG d0 d1 s th op obj arg tries) NA5:=by have hb:=H.hb;have h1:=H.FI; have h2:=H.FH; have h3:=H.Bh; have h4:=H.Bg; have h5:=H.hlen; have h6:=H.hr; have h7:=H.hv; have hp:=iQ r th;simp only [zz,H.hcp,H.iW,H.hR,H.hk,has_is r th hb,dJ r th hb,aDE hr hv,CB hr] <;> omega
abbrev YA6:List SB:=[.eq (aW 0) (.lit 6),.lt kK (.lit 0)]
abbrev NA6:List SB:=[.eq (aW 0) (.lit 0),.eq (aW 0) (.lit 1),.eq (aW 0) (.lit 2),.eq (aW 0) (.lit 3),.eq (aW 0) (.lit 4),.eq (aW 0) (.lit 5)]
theorem fA6 (H:TH d0 d1 s th op obj arg tries o c dn g r v) (hr:r.l= []) (hv:v.l= []):zY (dG d0 d1 s th op obj arg tries) YA6∧zW (dG d0 d1 s th op obj arg tries) NA6:=by have hb:=H.hb;have h1:=H.FI; have h2:=H.FH; have h3:=H.Bh; have h4:=H.Bg; have h5:=H.hlen; have h6:=H.hr; have h7:=H.hv; have hp:=iQ r th;simp only [zz,H.hcp,H.iW,H.hR,H.hk,has_is r th hb,dJ r th hb,aDD hr hv,CB hr] <;> omega
abbrev YM:List SB:=[.lt XV (ln (aW 2))]
abbrev NM:List SB:=[.lt XV (.lit 0),.eq XV (.aN 5)]
theorem fM (H:TH d0 d1 s th op obj arg tries o c dn g r v) (ho:op=12∨op=24):zY (dG d0 d1 s th op obj arg tries) YM∧zW (dG d0 d1 s th op obj arg tries) NM:=by have hb:=H.hb;have h1:=H.FI; have h2:=H.FH; have h3:=H.Bh; have h4:=H.Bg; have h5:=H.hlen; have h6:=H.hr; have h7:=H.hv; have hp:=iQ r th; have hm:=H.hM ho;simp only [zz,H.hcp,H.iW,H.hR,H.hk,has_is r th hb,dJ r th hb] <;> omega
abbrev YK0:List SB:=[.lt kK (.lit 0)]
abbrev NK0:List SB:=[]
theorem fK0 (H:TH d0 d1 s th op obj arg tries o c dn g r v) (hk:place r th < 0):zY (dG d0 d1 s th op obj arg tries) YK0∧zW (dG d0 d1 s th op obj arg tries) NK0:=by have hb:=H.hb;have h1:=H.FI; have h2:=H.FH; have h3:=H.Bh; have h4:=H.Bg; have h5:=H.hlen; have h6:=H.hr; have h7:=H.hv; have hp:=iQ r th;simp only [zz,H.hcp,H.iW,H.hR,H.hk,has_is r th hb,dJ r th hb] <;> omega
abbrev YK1:List SB:=[.lt kD (ln (aW 7)),.eq (.add kD (.sub (ln (aW 7)) kD)) (ln kC)]
abbrev NK1:List SB:=[.lt kK (.lit 0),.lt kW kK,.lt (ln (aW 7)) kW,.eq kK kW,.lt (ln (aW 7)) kK,.lt kW (.lit 0),.lt kL (.lit 0),.lt (ln (aW 7)) (.add kW kL),.lt (ln (aW 7)) kD,.lt kD (.lit 0),.lt (ln kC) (ln (aW 7)),.lt (.sub (ln (aW 7)) kD) (.lit 0),.lt (ln kF) kD]
theorem fK1 (H:TH d0 d1 s th op obj arg tries o c dn g r v) (hk: ¬place r th < 0):zY (dG d0 d1 s th op obj arg tries) YK1∧zW (dG d0 d1 s th op obj arg tries) NK1:=by have hb:=H.hb;have h1:=H.FI; have h2:=H.FH; have h3:=H.Bh; have h4:=H.Bg; have h5:=H.hlen; have h6:=H.hr; have h7:=H.hv; have hp:=iQ r th; have hw:IntKind.i64.wrap (place r th+1)=place r th+1:=qB (by omega) (by omega);simp only [zz,H.hcp,H.iW,H.hR,H.hk,has_is r th hb,dJ r th hb,lX,aX,List.length_append,List.length_take,List.length_drop,List.length_replicate,hw] <;> omega
abbrev dA (d0 s r v:D) (th op obj arg tries o c dn g:Int):List Int:=[enc r,th,obj,Mx d0 obj,enc (dL (fA s.l (Mx d0 obj) (dL (fA (s.at (Mx d0 obj)).l 0 (.i (-1)))))),op,arg,tries,o,c,dn,g,enc v]
abbrev aDK:List SB:=[.eq (a0 12000 wS) (.lit 1),.eq (rr 12000 wS 0) (.lit 0)]
abbrev aDS:List SB:=[]
theorem aDA (H:TH d0 d1 s th op obj arg tries o c dn g r v) (hd:L 12000 (dA d0 s r v th op obj arg tries o c dn g)=some (0 :: (dA d0 s r v th op obj arg tries o c dn g))):zY (dG d0 d1 s th op obj arg tries) aDK∧zW (dG d0 d1 s th op obj arg tries) aDS:=by have hb:=H.hb;have h1:=H.FI; have h2:=H.FH; have h3:=H.Bh; have h4:=H.Bg; have h5:=H.hlen; have h6:=H.hr; have h7:=H.hv; have hp:=iQ r th;simp only [zz,H.hcp,H.iW,H.hR,H.hk,has_is r th hb,dJ r th hb,hd] <;> omega
abbrev aDL:List SB:=[.eq (a0 12000 wS) (.lit 1),.eq (rr 12000 wS 0) (.lit 1)]
abbrev aDT:List SB:=[.eq (rr 12000 wS 0) (.lit 0),.lt (rr 12000 wS 14) (.lit 0),.lt (ln (rr 12000 wS 15)) (.add (rr 12000 wS 14) (.lit 1)),.lt (.add (rr 12000 wS 14) (.lit 1)) (.lit 0),.lt (ln (.op .cat (.op .cat (.op .take (rr 12000 wS 15) (rr 12000 wS 14)) (.op .snoc (.dat (.i 0)) (mk (.aN 3)))) (.op .drop (rr 12000 wS 15) (.add (rr 12000 wS 14) (.lit 1))))) (.add (rr 12000 wS 14) (.lit 1))]
theorem aDB (H:TH d0 d1 s th op obj arg tries o c dn g r v) {n:Nat} {r1:D} (hn:n < r.l.length) (hl:r1.l.length=r.l.length) (hd:L 12000 (dA d0 s r v th op obj arg tries o c dn g)=some (1 :: ((dA d0 s r v th op obj arg tries o c dn g)++ [(n:Int),enc r1,(r.l.length:Int)]))):zY (dG d0 d1 s th op obj arg tries) aDL∧zW (dG d0 d1 s th op obj arg tries) aDT:=by have hb:=H.hb;have h1:=H.FI; have h2:=H.FH; have h3:=H.Bh; have h4:=H.Bg; have h5:=H.hlen; have h6:=H.hr; have h7:=H.hv; have hp:=iQ r th;simp only [zz,H.hcp,H.iW,H.hR,H.hk,has_is r th hb,dJ r th hb,hd,lX,aX,Ej,List.cons_append,List.nil_append,List.length_append,List.length_take,List.length_drop,List.length_cons,List.length_nil] <;> omega
abbrev aDI:List SB:=[.eq (a0 12100 wS) (.lit 1),.eq (rr 12100 wS 0) (.lit 0)]
abbrev aDQ:List SB:=[]
theorem aDy (H:TH d0 d1 s th op obj arg tries o c dn g r v) (hd:L 12100 (dA d0 s r v th op obj arg tries o c dn g)=some (0 :: (dA d0 s r v th op obj arg tries o c dn g))):zY (dG d0 d1 s th op obj arg tries) aDI∧zW (dG d0 d1 s th op obj arg tries) aDQ:=by have hb:=H.hb;have h1:=H.FI; have h2:=H.FH; have h3:=H.Bh; have h4:=H.Bg; have h5:=H.hlen; have h6:=H.hr; have h7:=H.hv; have hp:=iQ r th;simp only [zz,H.hcp,H.iW,H.hR,H.hk,has_is r th hb,dJ r th hb,hd] <;> omega
abbrev aDJ:List SB:=[.eq (a0 12100 wS) (.lit 1),.eq (rr 12100 wS 0) (.lit 1)]
abbrev aDR:List SB:=[.eq (rr 12100 wS 0) (.lit 0),.lt (rr 12100 wS 14) (.lit 0),.lt (ln (rr 12100 wS 15)) (.add (rr 12100 wS 14) (.lit 1)),.lt (.add (rr 12100 wS 14) (.lit 1)) (.lit 0),.lt (ln (.op .cat (.op .cat (.op .take (rr 12100 wS 15) (rr 12100 wS 14)) (.op .snoc (.dat (.i 0)) (mk (.aN 3)))) (.op .drop (rr 12100 wS 15) (.add (rr 12100 wS 14) (.lit 1))))) (.add (rr 12100 wS 14) (.lit 1))]
theorem aDz (H:TH d0 d1 s th op obj arg tries o c dn g r v) {n:Nat} {r1:D} (hn:n < r.l.length) (hl:r1.l.length=r.l.length) (hd:L 12100 (dA d0 s r v th op obj arg tries o c dn g)=some (1 :: ((dA d0 s r v th op obj arg tries o c dn g)++ [(n:Int),enc r1,(r.l.length:Int)]))):zY (dG d0 d1 s th op obj arg tries) aDJ∧zW (dG d0 d1 s th op obj arg tries) aDR:=by have hb:=H.hb;have h1:=H.FI; have h2:=H.FH; have h3:=H.Bh; have h4:=H.Bg; have h5:=H.hlen; have h6:=H.hr; have h7:=H.hv; have hp:=iQ r th;simp only [zz,H.hcp,H.iW,H.hR,H.hk,has_is r th hb,dJ r th hb,hd,lX,aX,Ej,List.cons_append,List.nil_append,List.length_append,List.length_take,List.length_drop,List.length_cons,List.length_nil] <;> omega
abbrev aDH:List SB:=[.eq (a0 12200 wS) (.lit 1),.eq (rr 12200 wS 0) (.lit 0)]
abbrev aDP:List SB:=[]
theorem aDx (H:TH d0 d1 s th op obj arg tries o c dn g r v) (hd:L 12200 (dA d0 s r v th op obj arg tries o c dn g)=some (0 :: (dA d0 s r v th op obj arg tries o c dn g))):zY (dG d0 d1 s th op obj arg tries) aDH∧zW (dG d0 d1 s th op obj arg tries) aDP:=by have hb:=H.hb;have h1:=H.FI; have h2:=H.FH; have h3:=H.Bh; have h4:=H.Bg; have h5:=H.hlen; have h6:=H.hr; have h7:=H.hv; have hp:=iQ r th;simp only [zz,H.hcp,H.iW,H.hR,H.hk,has_is r th hb,dJ r th hb,hd] <;> omega
abbrev aDG:List SB:=[.eq (a0 12300 wS) (.lit 1),.eq (rr 12300 wS 0) (.lit 0)]
abbrev aDO:List SB:=[]
theorem aDw (H:TH d0 d1 s th op obj arg tries o c dn g r v) (hd:L 12300 (dA d0 s r v th op obj arg tries o c dn g)=some (0 :: (dA d0 s r v th op obj arg tries o c dn g))):zY (dG d0 d1 s th op obj arg tries) aDG∧zW (dG d0 d1 s th op obj arg tries) aDO:=by have hb:=H.hb;have h1:=H.FI; have h2:=H.FH; have h3:=H.Bh; have h4:=H.Bg; have h5:=H.hlen; have h6:=H.hr; have h7:=H.hv; have hp:=iQ r th;simp only [zz,H.hcp,H.iW,H.hR,H.hk,has_is r th hb,dJ r th hb,hd] <;> omega
end
end Go.As.Try
end
section
namespace Go.As.Try
open Go hiding Stat Spec shape
open Go.As
set_option maxRecDepth 100000
theorem Nu (l m:List D):iH (dL l) m=iH (.i 2) m:=by
 cases m with
 | cons a m=>rfl
 | nil=>cases l <;> rfl
theorem Za (d:D) (h:0 < d.l.length):iH (iH d (d.l.take (1+((d.l.length:Int) - 1)).toNat)) ((iH d (d.l.take (1+((d.l.length:Int) - 1)).toNat)).l.drop (1:Int).toNat)=iH d (d.l.drop 1):=by rw [Ey (fun e=>by rw [e]; rfl),lX,List.take_of_length_le (by omega)];rfl
theorem aAA (l:List D) (k:Nat) (hk:k < l.length) (R B:List D):((l.take k++(l.take l.length).drop (k+1)++B).take (l.length - 1)++R).take (l.length - 1)=l.take k++l.drop (k+1)∨B.length=0:=by
 by_cases hB:B.length=0
 ·exact .inr hB
 ·left;have e:(l.take k++(l.take l.length).drop (k+1)).length=l.length - 1:=by simp only [List.length_append,List.length_take,List.length_drop]; omega
  rw [List.take_append_of_le_length (by rw [List.length_take,List.length_append,e]; omega),List.take_take,Nat.min_self,List.take_append_of_le_length (by omega),List.take_of_length_le (by omega),List.take_length]
section
variable {d0 d1 s r v:D} {th op obj arg tries o c dn g:Int}
abbrev zt0:T Lf:=(sp (.eq (aW 3) (.aN 3)) wI (sp (.eq (rr 900 [aW 7,.aN 3] 0) (.lit 0)) (sp (.lt (aW 3) (.lit 0)) (lI (aW 2) (mk (.aN 3)) (mk (aW 4)) bt (mk (aW 6)) (aW 7) (aW 8) (.lit 0) 2) Dv) wI))
theorem sm0 (H:TH d0 d1 s th 1 obj arg tries o c dn g r v):dX (dG d0 d1 s th 1 obj arg tries) zt0=Gl d0 s th 1 obj arg tries o c dn g r v:=by
 have hb:=H.hb;simp only [zz,H.hcp,H.iW,H.hR,H.hk,has_is r th hb,dJ r th hb,aO,Aq,eX,dF,dD,bM,bK,dL,act,Int.reduceEq,Gl] <;> (repeat' split) <;> first | rfl | (exfalso; omega)
abbrev zt1:T Lf:=(sp (.eq (aW 3) (.aN 3)) (lI (aW 2) (.dat (.i (-1))) (mk (aW 4)) bt (mk (aW 6)) (aW 7) (aW 8) (.lit 0) 2) wI)
theorem sm1 (H:TH d0 d1 s th 2 obj arg tries o c dn g r v):dX (dG d0 d1 s th 2 obj arg tries) zt1=Gl d0 s th 2 obj arg tries o c dn g r v:=by
 have hb:=H.hb;simp only [zz,H.hcp,H.iW,H.hR,H.hk,has_is r th hb,dJ r th hb,aO,Aq,eX,dF,dD,bM,bK,dL,act,Int.reduceEq,Gl] <;> (repeat' split) <;> first | rfl | (exfalso; omega)
theorem sm2 (H:TH d0 d1 s th 8 obj arg tries o c dn g r v):dX (dG d0 d1 s th 8 obj arg tries) zt1=Gl d0 s th 8 obj arg tries o c dn g r v:=by
 have hb:=H.hb;simp only [zz,H.hcp,H.iW,H.hR,H.hk,has_is r th hb,dJ r th hb,aO,Aq,eX,dF,dD,bM,bK,dL,act,Int.reduceEq,Gl] <;> (repeat' split) <;> first | rfl | (exfalso; omega)
abbrev zt2:T Lf:=(sp (.lt (aW 3) (.lit 0)) (lI (aW 2) (mk (.aN 3)) (mk (aW 4)) bt (mk (aW 6)) (aW 7) (aW 8) (.lit 1) 2) (lI (aW 2) (mk (aW 3)) (mk (aW 4)) bt (mk (aW 6)) (aW 7) (aW 8) (.lit 0) 2))
theorem sm3 (H:TH d0 d1 s th 3 obj arg tries o c dn g r v):dX (dG d0 d1 s th 3 obj arg tries) zt2=Gl d0 s th 3 obj arg tries o c dn g r v:=by
 have hb:=H.hb;simp only [zz,H.hcp,H.iW,H.hR,H.hk,has_is r th hb,dJ r th hb,aO,Aq,eX,dF,dD,bM,bK,dL,act,Int.reduceEq,Gl] <;> (repeat' split) <;> first | rfl | (exfalso; omega)
abbrev zt3:T Lf:=(sp (.lt (aW 3) (.lit 0)) (lI (aW 2) (mk (.aN 3)) (mk (aW 4)) bt (mk (aW 6)) (aW 7) (aW 8) (.lit 1) 2) (sp (.lt (.aN 7) (.aN 6)) Dv (lI (aW 2) (mk (aW 3)) (mk (aW 4)) bt (mk (aW 6)) (aW 7) (aW 8) (.lit 0) 2)))
theorem sm4 (H:TH d0 d1 s th 4 obj arg tries o c dn g r v):dX (dG d0 d1 s th 4 obj arg tries) zt3=Gl d0 s th 4 obj arg tries o c dn g r v:=by
 have hb:=H.hb;simp only [zz,H.hcp,H.iW,H.hR,H.hk,has_is r th hb,dJ r th hb,aO,Aq,eX,dF,dD,bM,bK,dL,act,Int.reduceEq,Gl] <;> (repeat' split) <;> first | rfl | (exfalso; omega)
abbrev zt4:T Lf:=(sp (.eq (aW 3) (.aN 3)) wI (sp (.eq (rr 900 [aW 7,.aN 3] 0) (.lit 0)) (sp (.lt (aW 3) (.lit 0)) (lI (aW 2) (mk (aW 3)) (mk (aW 4)) bt (mk (aW 6)) (.op .snoc (aW 7) (mk (.aN 3))) (aW 8) (.lit 0) 2) Dv) wI))
theorem sm5 (H:TH d0 d1 s th 5 obj arg tries o c dn g r v) (hr:0 < r.l.length):dX (dG d0 d1 s th 5 obj arg tries) zt4=Gl d0 s th 5 obj arg tries o c dn g r v:=by
 have hb:=H.hb;simp only [zz,H.hcp,H.iW,H.hR,H.hk,has_is r th hb,dJ r th hb,Ej,List.nil_append,aO,Aq,eX,dF,dD,bM,bK,dL,act,Int.reduceEq,Gl] <;> (repeat' split) <;> first | rfl | (exfalso; omega)
abbrev zt5:T Lf:=wI
theorem sm6 (H:TH d0 d1 s th 6 obj arg tries o c dn g r v) (hk:place r th < 0):dX (dG d0 d1 s th 6 obj arg tries) zt5=Gl d0 s th 6 obj arg tries o c dn g r v:=by
 have hb:=H.hb;simp only [zz,H.hcp,H.iW,H.hR,H.hk,has_is r th hb,dJ r th hb,hk,aO,Aq,eX,dF,dD,bM,bK,dL,act,Int.reduceEq,Gl] <;> (repeat' split) <;> first | rfl | (exfalso; omega)
abbrev zt6:T Lf:=(lI (aW 2) (mk (aW 3)) (mk (aW 4)) bt (mk (aW 6)) (.op .take kF kD) (aW 8) (.lit 0) 2)
theorem sm7 (H:TH d0 d1 s th 6 obj arg tries o c dn g r v) (hr:0 < r.l.length) (hk: ¬place r th < 0):dX (dG d0 d1 s th 6 obj arg tries) zt6=Gl d0 s th 6 obj arg tries o c dn g r v:=by
 have hb:=H.hb;rcases vT r th with ⟨hp,_⟩ | ⟨k,hkl,hp,_⟩
 ·exact absurd hk (by rw [hp]; omega)
 have hw:IntKind.i64.wrap ((k:Int)+1)=(k:Int)+1:=qB (by omega) (by omega);have e1:((k:Int)+1+((r.l.length:Int) - ((k:Int)+1))).toNat=r.l.length:=by omega
 have e2:((k:Int)+((r.l.length:Int) - ((k:Int)+1))).toNat=r.l.length - 1:=by omega
 have e3:((k:Int)+1).toNat=k+1:=by omega
 have h0: ¬((k:Int) < 0):=by omega
 have hd:=fun R=>(aAA r.l k hkl R (r.l.drop (r.l.length - 1))).resolve_right (by rw [List.length_drop]; omega);simp only [zz,H.hcp,H.iW,H.hR,H.hk,has_is r th hb,dJ r th hb,hp,hw,e1,e2,e3,h0,lX,aX,Int.toNat_natCast,hd,Nu,aO,Aq,eX,dF,dD,bM,bK,dL,act,Int.reduceEq,Gl] <;> (repeat' split) <;> first | rfl | (exfalso; omega)
abbrev zt7:T Lf:=(sp (.eq (aW 3) (.aN 3)) wI (sp (.eq (rr 900 [aW 7,.aN 3] 0) (.lit 0)) (sp (.eq (ln (aW 7)) (.lit 0)) (sp (.lt (aW 3) (.lit 0)) (lI (aW 2) (mk (.aN 3)) (mk (aW 4)) bt (mk (aW 6)) (aW 7) (aW 8) (.lit 0) 2) Dv) Dv) wI))
theorem sm8 (H:TH d0 d1 s th 7 obj arg tries o c dn g r v) (hr:0 < r.l.length):dX (dG d0 d1 s th 7 obj arg tries) zt7=Gl d0 s th 7 obj arg tries o c dn g r v:=by
 have hb:=H.hb;simp only [zz,H.hcp,H.iW,H.hR,H.hk,has_is r th hb,dJ r th hb,aO,Aq,eX,dF,dD,bM,bK,dL,act,Int.reduceEq,Gl] <;> (repeat' split) <;> first | rfl | (exfalso; omega)
abbrev zt8:T Lf:=(sp (.lt (.lit 0) (aW 4)) (lI (aW 2) (mk (aW 3)) (mk (wr (.sub (aW 4) (.lit 1)))) bt (mk (aW 6)) (aW 7) (aW 8) (.lit 0) 2) Dv)
theorem sm9 (H:TH d0 d1 s th 9 obj arg tries o c dn g r v):dX (dG d0 d1 s th 9 obj arg tries) zt8=Gl d0 s th 9 obj arg tries o c dn g r v:=by
 have hb:=H.hb;simp only [zz,H.hcp,H.iW,H.hR,H.hk,has_is r th hb,dJ r th hb,aO,Aq,eX,dF,dD,bM,bK,dL,act,Int.reduceEq,Gl] <;> (repeat' split) <;> first | rfl | (exfalso; omega)
abbrev zt9:T Lf:=(sp (.lt (.lit 0) (aW 4)) (lI (aW 2) (mk (aW 3)) (mk (wr (.sub (aW 4) (.lit 1)))) bt (mk (aW 6)) (aW 7) (aW 8) (.lit 1) 2) (lI (aW 2) (mk (aW 3)) (mk (aW 4)) bt (mk (aW 6)) (aW 7) (aW 8) (.lit 0) 2))
theorem aC6 (H:TH d0 d1 s th 11 obj arg tries o c dn g r v):dX (dG d0 d1 s th 11 obj arg tries) zt9=Gl d0 s th 11 obj arg tries o c dn g r v:=by
 have hb:=H.hb;simp only [zz,H.hcp,H.iW,H.hR,H.hk,has_is r th hb,dJ r th hb,aO,Aq,eX,dF,dD,bM,bK,dL,act,Int.reduceEq,Gl] <;> (repeat' split) <;> first | rfl | (exfalso; omega)
abbrev aAR:T Lf:=(sp (.lt (aW 4) XV) (lI (aW 2) (mk (aW 3)) (mk (wr (.add (aW 4) (.lit 1)))) bt (mk (aW 6)) (aW 7) (aW 8) (.lit 0) 2) wI)
theorem aC5 (H:TH d0 d1 s th 10 obj arg tries o c dn g r v):dX (dG d0 d1 s th 10 obj arg tries) aAR=Gl d0 s th 10 obj arg tries o c dn g r v:=by
 have hb:=H.hb;simp only [zz,H.hcp,H.iW,H.hR,H.hk,has_is r th hb,dJ r th hb,aO,Aq,eX,dF,dD,bM,bK,dL,act,Int.reduceEq,Gl] <;> (repeat' split) <;> first | rfl | (exfalso; omega)
abbrev aAQ:T Lf:=(sp (.lt (.aN 6) (wr (.sub (.lit 0) (aW 4)))) wI (sp (.lt (wr (.sub (.lit 1099511627776) (aW 4))) (.aN 6)) wI (lI (aW 2) (mk (aW 3)) (mk (wr (.add (aW 4) (.aN 6)))) bt (mk (aW 6)) (aW 7) (aW 8) (wr (.add (aW 4) (.aN 6))) 2)))
theorem aC4 (H:TH d0 d1 s th 17 obj arg tries o c dn g r v):dX (dG d0 d1 s th 17 obj arg tries) aAQ=Gl d0 s th 17 obj arg tries o c dn g r v:=by
 have hb:=H.hb;simp only [zz,H.hcp,H.iW,H.hR,H.hk,has_is r th hb,dJ r th hb,aO,Aq,eX,dF,dD,bM,bK,dL,act,Int.reduceEq,Gl] <;> (repeat' split) <;> first | rfl | (exfalso; omega)
abbrev aAP:T Lf:=(sp (.lt (.lit 0) (aW 4)) (lI (aW 2) (mk (aW 3)) (mk (wr (.sub (aW 4) (.lit 1)))) bt (mk (aW 6)) (aW 7) (aW 8) (wr (.sub (aW 4) (.lit 1))) 2) wI)
theorem aC3 (H:TH d0 d1 s th 18 obj arg tries o c dn g r v):dX (dG d0 d1 s th 18 obj arg tries) aAP=Gl d0 s th 18 obj arg tries o c dn g r v:=by
 have hb:=H.hb;simp only [zz,H.hcp,H.iW,H.hR,H.hk,has_is r th hb,dJ r th hb,aO,Aq,eX,dF,dD,bM,bK,dL,act,Int.reduceEq,Gl] <;> (repeat' split) <;> first | rfl | (exfalso; omega)
abbrev aAO:T Lf:=(sp (.eq (aW 4) (.lit 0)) (lI (aW 2) (mk (aW 3)) (mk (aW 4)) bt (mk (aW 6)) (aW 7) (aW 8) (.lit 0) 2) Dv)
theorem aC2 (H:TH d0 d1 s th 19 obj arg tries o c dn g r v):dX (dG d0 d1 s th 19 obj arg tries) aAO=Gl d0 s th 19 obj arg tries o c dn g r v:=by
 have hb:=H.hb;simp only [zz,H.hcp,H.iW,H.hR,H.hk,has_is r th hb,dJ r th hb,aO,Aq,eX,dF,dD,bM,bK,dL,act,Int.reduceEq,Gl] <;> (repeat' split) <;> first | rfl | (exfalso; omega)
abbrev aAN:T Lf:=(lI (aW 2) (mk (aW 3)) (mk (aW 4)) bt (mk (aW 6)) (aW 7) (aW 8) (aW 4) 2)
theorem aC1 (H:TH d0 d1 s th 22 obj arg tries o c dn g r v):dX (dG d0 d1 s th 22 obj arg tries) aAN=Gl d0 s th 22 obj arg tries o c dn g r v:=by
 have hb:=H.hb;simp only [zz,H.hcp,H.iW,H.hR,H.hk,has_is r th hb,dJ r th hb,aO,Aq,eX,dF,dD,bM,bK,dL,act,Int.reduceEq,Gl] <;> (repeat' split) <;> first | rfl | (exfalso; omega)
abbrev aAM:T Lf:=(lI (aW 2) (mk (aW 3)) (mk (.aN 6)) bt (mk (aW 6)) (aW 7) (aW 8) (.aN 6) 2)
theorem aC0 (H:TH d0 d1 s th 23 obj arg tries o c dn g r v):dX (dG d0 d1 s th 23 obj arg tries) aAM=Gl d0 s th 23 obj arg tries o c dn g r v:=by
 have hb:=H.hb;simp only [zz,H.hcp,H.iW,H.hR,H.hk,has_is r th hb,dJ r th hb,aO,Aq,eX,dF,dD,bM,bK,dL,act,Int.reduceEq,Gl] <;> (repeat' split) <;> first | rfl | (exfalso; omega)
abbrev awT:T Lf:=(sp (.lt (ln (aW 8)) XV) (lI (aW 2) (mk (aW 3)) (mk (aW 4)) bt (mk (aW 6)) (aW 7) (.op .snoc (aW 8) (mk (.aN 6))) (.aN 6) 2) Dv)
theorem aBi (H:TH d0 d1 s th 20 obj arg tries o c dn g r v) (hv:0 < v.l.length):dX (dG d0 d1 s th 20 obj arg tries) awT=Gl d0 s th 20 obj arg tries o c dn g r v:=by
 have hb:=H.hb;simp only [zz,H.hcp,H.iW,H.hR,H.hk,has_is r th hb,dJ r th hb,Ej,List.nil_append,aO,Aq,eX,dF,dD,bM,bK,dL,act,Int.reduceEq,Gl] <;> (repeat' split) <;> first | rfl | (exfalso; omega)
abbrev awS:T Lf:=(sp (.eq (ln (aW 8)) (.lit 0)) Dv (lI (aW 2) (mk (aW 3)) (mk (aW 4)) bt (mk (aW 6)) (aW 7) (.op .drop (.op .take (aW 8) (.add (.lit 1) (.sub (ln (aW 8)) (.lit 1)))) (.lit 1)) (nm (el (aW 8) (.lit 0))) 2))
theorem aBh (H:TH d0 d1 s th 21 obj arg tries o c dn g r v) (hv:0 < v.l.length):dX (dG d0 d1 s th 21 obj arg tries) awS=Gl d0 s th 21 obj arg tries o c dn g r v:=by
 have hb:=H.hb;simp only [zz,H.hcp,H.iW,H.hR,H.hk,has_is r th hb,dJ r th hb,Za v hv,aO,Aq,eX,dF,dD,bM,bK,dL,act,Int.reduceEq,Gl] <;> (repeat' split) <;> first | rfl | (exfalso; omega)
abbrev awR:T Lf:=(sp (.eq (nm (ce 0 (el (aW 2) XV))) (.aN 3)) (lI (acG (.dat (.i (-1)))) (mk (aW 3)) (mk (aW 4)) bt (mk (aW 6)) (.op .snoc (aW 7) (mk (.aN 3))) (aW 8) (.lit 0) 3) wI)
theorem aBg (H:TH d0 d1 s th 12 obj arg tries o c dn g r v) (hr:0 < r.l.length) (hw:wo th r.l=r.l):dX (dG d0 d1 s th 12 obj arg tries) awR=Gl d0 s th 12 obj arg tries o c dn g r v:=by
 have hb:=H.hb;simp only [zz,H.hcp,H.iW,H.hR,H.hk,has_is r th hb,dJ r th hb,hw,aX,Ej,List.nil_append,aO,Aq,eX,dF,dD,bM,bK,dL,act,Int.reduceEq,Gl] <;> (repeat' split) <;> first | rfl | (exfalso; omega)
abbrev aAL:T Lf:=(sp (.eq (nm (ce 0 (el (aW 2) XV))) (.aN 3)) (lI (acG (.dat (.i (-1)))) (mk (aW 3)) (mk (aW 4)) bt (mk (aW 6)) (.op .take (.op .cat (.op .cat (.op .take (rr 12000 wS 15) (rr 12000 wS 14)) (.op .snoc (.dat (.i 0)) (mk (.aN 3)))) (.op .drop (rr 12000 wS 15) (.add (rr 12000 wS 14) (.lit 1)))) (.add (rr 12000 wS 14) (.lit 1))) (aW 8) (.lit 0) 3) wI)
theorem aCZ (H:TH d0 d1 s th 12 obj arg tries o c dn g r v) (hr:0 < r.l.length) (hv:0 < v.l.length) {n:Nat} {r1:D} (hn:n < r.l.length) (hl:r1.l.length=r.l.length) (hw:r1.l.take n=wo th r.l) (hd:L 12000 (dA d0 s r v th 12 obj arg tries o c dn g)=some (1 :: ((dA d0 s r v th 12 obj arg tries o c dn g)++ [(n:Int),enc r1,(r.l.length:Int)]))):dX (dG d0 d1 s th 12 obj arg tries) aAL=Gl d0 s th 12 obj arg tries o c dn g r v:=by
 have hb:=H.hb;have e3:((n:Int)+1).toNat=n+1:=by omega
 have hA: ∀B,(wo th r.l++ [D.i th]++B).take (n+1)=wo th r.l++ [.i th]:=fun B=>by
  have:(wo th r.l++ [D.i th]).length=n+1:=by rw [← hw]; simp only [List.length_append,List.length_take,List.length_cons,List.length_nil]; omega
  rw [List.take_append_of_le_length (by omega),List.take_of_length_le (by omega)]
 have hB:wo th r.l++ [D.i th]≠[]:=by simp
 simp only [zz,H.hcp,H.iW,H.hR,H.hk,has_is r th hb,dJ r th hb,hd,List.cons_append,e3,l_p,lX,aX,Ej,List.nil_append,Int.toNat_natCast,hw,hA,Nu,Gf hB,aO,Aq,eX,dF,dD,bM,bK,dL,act,Int.reduceEq,Gl] <;> (repeat' split) <;> first | rfl | (exfalso; omega)
abbrev awQ:T Lf:=(sp (.eq (ln (aW 7)) (.lit 0)) (lI (aW 2) (mk (aW 3)) (mk (aW 4)) bt (mk (aW 6)) (aW 7) (aW 8) (.lit 0) 2) (lI (aW 2) (mk (aW 3)) (mk (aW 4)) bt (mk (aW 6)) (.op .drop (.op .take (aW 7) (.add (.lit 1) (.sub (ln (aW 7)) (.lit 1)))) (.lit 1)) (aW 8) (wr (.add (nm (el (aW 7) (.lit 0))) (.lit 1))) 2))
theorem aBf (H:TH d0 d1 s th 13 obj arg tries o c dn g r v) (hr:0 < r.l.length):dX (dG d0 d1 s th 13 obj arg tries) awQ=Gl d0 s th 13 obj arg tries o c dn g r v:=by
 have hb:=H.hb;simp only [zz,H.hcp,H.iW,H.hR,H.hk,has_is r th hb,dJ r th hb,Za r hr,Ej,List.nil_append,aO,Aq,eX,dF,dD,bM,bK,dL,act,Int.reduceEq,Gl] <;> (repeat' split) <;> first | rfl | (exfalso; omega)
abbrev awP:T Lf:=(lI (aW 2) (mk (aW 3)) (mk (aW 4)) bt (mk (aW 6)) (.dat (.i 1)) (aW 8) (ln (aW 7)) 2)
theorem aBe (H:TH d0 d1 s th 14 obj arg tries o c dn g r v) (hr:0 < r.l.length):dX (dG d0 d1 s th 14 obj arg tries) awP=Gl d0 s th 14 obj arg tries o c dn g r v:=by
 have hb:=H.hb;simp only [zz,H.hcp,H.iW,H.hR,H.hk,has_is r th hb,dJ r th hb,Ej,List.nil_append,aO,Aq,eX,dF,dD,bM,bK,dL,act,Int.reduceEq,Gl] <;> (repeat' split) <;> first | rfl | (exfalso; omega)
abbrev aeO:T Lf:=(sp (.eq (rr 900 [aW 7,.aN 3] 0) (.lit 0)) (sp (.lt (nm (ce 0 (el (aW 2) XV))) (.lit 0)) (lI (acG (mk (.aN 3))) (mk (aW 3)) (mk (aW 4)) bt (mk (aW 6)) (aW 7) (aW 8) (.lit 0) 2) Dv) Dv)
theorem apL (H:TH d0 d1 s th 24 obj arg tries o c dn g r v):dX (dG d0 d1 s th 24 obj arg tries) aeO=Gl d0 s th 24 obj arg tries o c dn g r v:=by
 have hb:=H.hb;simp only [zz,H.hcp,H.iW,H.hR,H.hk,has_is r th hb,dJ r th hb,aX,Ej,List.nil_append,aO,Aq,eX,dF,dD,bM,bK,dL,act,Int.reduceEq,Gl] <;> (repeat' split) <;> first | rfl | (exfalso; omega)
abbrev aAK:T Lf:=(sp (.lt (aW 6) (.lit 4611686018427387904)) (sp (.eq (wr (.add (aW 4) (.lit 1))) XV) (lI (aW 2) (mk (aW 3)) (.dat (.i 0)) bt (mk (wr (.add (aW 6) (.lit 1)))) (aW 7) (aW 8) (aW 6) 3) (lI (aW 2) (mk (aW 3)) (mk (wr (.add (aW 4) (.lit 1)))) bt (mk (aW 6)) (aW 7) (aW 8) (aW 6) 3)) wI)
theorem aCY (H:TH d0 d1 s th 15 obj arg tries o c dn g r v):dX (dG d0 d1 s th 15 obj arg tries) aAK=Gl d0 s th 15 obj arg tries o c dn g r v:=by
 have hb:=H.hb;simp only [zz,H.hcp,H.iW,H.hR,H.hk,has_is r th hb,dJ r th hb,aO,Aq,eX,dF,dD,bM,bK,dL,act,Int.reduceEq,Gl] <;> (repeat' split) <;> first | rfl | (exfalso; omega)
abbrev aAJ:T Lf:=(sp (.lt (.aN 6) (aW 6)) (lI (aW 2) (mk (aW 3)) (mk (aW 4)) bt (mk (aW 6)) (aW 7) (aW 8) (.aN 6) 2) Dv)
theorem aCX (H:TH d0 d1 s th 25 obj arg tries o c dn g r v):dX (dG d0 d1 s th 25 obj arg tries) aAJ=Gl d0 s th 25 obj arg tries o c dn g r v:=by
 have hb:=H.hb;simp only [zz,H.hcp,H.iW,H.hR,H.hk,has_is r th hb,dJ r th hb,aO,Aq,eX,dF,dD,bM,bK,dL,act,Int.reduceEq,Gl] <;> (repeat' split) <;> first | rfl | (exfalso; omega)
abbrev aAI:T Lf:=(sp (.eq (aW 5) (.lit 0)) (sp (.eq (aW 3) (.aN 3)) wI (sp (.lt (aW 3) (.lit 0)) (lI (aW 2) (mk (.aN 3)) (mk (aW 4)) bt (mk (aW 6)) (aW 7) (aW 8) (.lit 1) 2) Dv)) (lI (aW 2) (mk (aW 3)) (mk (aW 4)) bt (mk (aW 6)) (aW 7) (aW 8) (.lit 0) 2))
theorem aCW (H:TH d0 d1 s th 16 obj arg tries o c dn g r v):dX (dG d0 d1 s th 16 obj arg tries) aAI=Gl d0 s th 16 obj arg tries o c dn g r v:=by
 have hb:=H.hb;simp only [zz,H.hcp,H.iW,H.hR,H.hk,has_is r th hb,dJ r th hb,aO,Aq,eX,dF,dD,bM,bK,dL,act,Int.reduceEq,Gl] <;> (repeat' split) <;> first | rfl | (exfalso; omega)
abbrev aAH:T Lf:=(sp (.eq (aW 3) (.aN 3)) (lI (aW 2) (.dat (.i (-1))) (mk (aW 4)) (.dat (.i 1)) (mk (aW 6)) (aW 7) (aW 8) (.lit 0) 2) wI)
theorem aCV (H:TH d0 d1 s th 26 obj arg tries o c dn g r v):dX (dG d0 d1 s th 26 obj arg tries) aAH=Gl d0 s th 26 obj arg tries o c dn g r v:=by
 have hb:=H.hb;simp only [zz,H.hcp,H.iW,H.hR,H.hk,has_is r th hb,dJ r th hb,aO,Aq,eX,dF,dD,bM,bK,dL,act,Int.reduceEq,Gl] <;> (repeat' split) <;> first | rfl | (exfalso; omega)
abbrev awO:T Lf:=(sp (.lt (.lit 0) XV) (lI (aW 2) (mk (aW 3)) (mk (aW 4)) bt (mk (aW 6)) (aW 7) (.op .snoc (.dat (.i 0)) (mk (.aN 6))) (.aN 6) 2) Dv)
theorem aBd (H:TH d0 d1 s th 20 obj arg tries o c dn g r v) (hv:v.l= []):dX (dG d0 d1 s th 20 obj arg tries) awO=Gl d0 s th 20 obj arg tries o c dn g r v:=by
 have hb:=H.hb;have hz2:((0:Nat):Int)=0:=rfl;simp only [zz,H.hcp,H.iW,H.hR,H.hk,has_is r th hb,dJ r th hb,hv,List.length_nil,List.nil_append,hz2,Ej,aO,Aq,eX,dF,dD,bM,bK,dL,act,Int.reduceEq,Gl] <;> (repeat' split) <;> first | rfl | (exfalso; omega)
abbrev awN:T Lf:=Dv
theorem aBb (H:TH d0 d1 s th 21 obj arg tries o c dn g r v) (hv:v.l= []):dX (dG d0 d1 s th 21 obj arg tries) awN=Gl d0 s th 21 obj arg tries o c dn g r v:=by
 have hb:=H.hb;have hz2:((0:Nat):Int)=0:=rfl;simp only [zz,H.hcp,H.iW,H.hR,H.hk,has_is r th hb,dJ r th hb,hv,List.length_nil,List.nil_append,hz2,aO,Aq,eX,dF,dD,bM,bK,dL,act,Int.reduceEq,Gl] <;> (repeat' split) <;> first | rfl | (exfalso; omega)
abbrev aAG:T Lf:=(sp (.eq (nm (ce 0 (el (aW 2) XV))) (.aN 3)) (lI (acG (.dat (.i (-1)))) (mk (aW 3)) (mk (aW 4)) bt (mk (aW 6)) (.op .take (.op .cat (.op .cat (.op .take (rr 12100 wS 15) (rr 12100 wS 14)) (.op .snoc (.dat (.i 0)) (mk (.aN 3)))) (.op .drop (rr 12100 wS 15) (.add (rr 12100 wS 14) (.lit 1)))) (.add (rr 12100 wS 14) (.lit 1))) (aW 8) (.lit 0) 3) wI)
theorem aCU (H:TH d0 d1 s th 12 obj arg tries o c dn g r v) (hr:0 < r.l.length) (hv:v.l= []) {n:Nat} {r1:D} (hn:n < r.l.length) (hl:r1.l.length=r.l.length) (hw:r1.l.take n=wo th r.l) (hd:L 12100 (dA d0 s r v th 12 obj arg tries o c dn g)=some (1 :: ((dA d0 s r v th 12 obj arg tries o c dn g)++ [(n:Int),enc r1,(r.l.length:Int)]))):dX (dG d0 d1 s th 12 obj arg tries) aAG=Gl d0 s th 12 obj arg tries o c dn g r v:=by
 have hb:=H.hb;have hz2:((0:Nat):Int)=0:=rfl;have e3:((n:Int)+1).toNat=n+1:=by omega
 have hA: ∀B,(wo th r.l++ [D.i th]++B).take (n+1)=wo th r.l++ [.i th]:=fun B=>by
  have:(wo th r.l++ [D.i th]).length=n+1:=by rw [← hw]; simp only [List.length_append,List.length_take,List.length_cons,List.length_nil]; omega
  rw [List.take_append_of_le_length (by omega),List.take_of_length_le (by omega)]
 have hB:wo th r.l++ [D.i th]≠[]:=by simp
 simp only [zz,H.hcp,H.iW,H.hR,H.hk,has_is r th hb,dJ r th hb,hv,List.length_nil,List.nil_append,hz2,hd,List.cons_append,e3,l_p,lX,aX,Ej,Int.toNat_natCast,hw,hA,Nu,Gf hB,aO,Aq,eX,dF,dD,bM,bK,dL,act,Int.reduceEq,Gl] <;> (repeat' split) <;> first | rfl | (exfalso; omega)
abbrev awM:T Lf:=(sp (.eq (aW 3) (.aN 3)) wI (sp (.eq (rr 900 [aW 7,.aN 3] 0) (.lit 0)) (sp (.lt (aW 3) (.lit 0)) (lI (aW 2) (mk (aW 3)) (mk (aW 4)) bt (mk (aW 6)) (.op .snoc (.dat (.i 0)) (mk (.aN 3))) (aW 8) (.lit 0) 2) Dv) wI))
theorem aBa (H:TH d0 d1 s th 5 obj arg tries o c dn g r v) (hr:r.l= []):dX (dG d0 d1 s th 5 obj arg tries) awM=Gl d0 s th 5 obj arg tries o c dn g r v:=by
 have hb:=H.hb;have hz:((0:Nat):Int)=0:=rfl;simp only [zz,H.hcp,H.iW,H.hR,H.hk,has_is r th hb,dJ r th hb,hr,List.length_nil,List.nil_append,hz,Ej,aO,Aq,eX,dF,dD,bM,bK,dL,act,Int.reduceEq,Gl] <;> (repeat' split) <;> first | rfl | (exfalso; omega)
theorem aA9 (H:TH d0 d1 s th 7 obj arg tries o c dn g r v) (hr:r.l= []):dX (dG d0 d1 s th 7 obj arg tries) zt0=Gl d0 s th 7 obj arg tries o c dn g r v:=by
 have hb:=H.hb;have hz:((0:Nat):Int)=0:=rfl;simp only [zz,H.hcp,H.iW,H.hR,H.hk,has_is r th hb,dJ r th hb,hr,List.length_nil,List.nil_append,hz,aO,Aq,eX,dF,dD,bM,bK,dL,act,Int.reduceEq,Gl] <;> (repeat' split) <;> first | rfl | (exfalso; omega)
abbrev awL:T Lf:=(sp (.eq (nm (ce 0 (el (aW 2) XV))) (.aN 3)) (lI (acG (.dat (.i (-1)))) (mk (aW 3)) (mk (aW 4)) bt (mk (aW 6)) (.op .snoc (.dat (.i 0)) (mk (.aN 3))) (aW 8) (.lit 0) 3) wI)
theorem aA8 (H:TH d0 d1 s th 12 obj arg tries o c dn g r v) (hr:r.l= []):dX (dG d0 d1 s th 12 obj arg tries) awL=Gl d0 s th 12 obj arg tries o c dn g r v:=by
 have hb:=H.hb;have hz:((0:Nat):Int)=0:=rfl;simp only [zz,H.hcp,H.iW,H.hR,H.hk,has_is r th hb,dJ r th hb,hr,List.length_nil,List.nil_append,hz,awU hr,aX,Ej,aO,Aq,eX,dF,dD,bM,bK,dL,act,Int.reduceEq,Gl] <;> (repeat' split) <;> first | rfl | (exfalso; omega)
abbrev awK:T Lf:=(lI (aW 2) (mk (aW 3)) (mk (aW 4)) bt (mk (aW 6)) (aW 7) (aW 8) (.lit 0) 2)
theorem aA7 (H:TH d0 d1 s th 13 obj arg tries o c dn g r v) (hr:r.l= []):dX (dG d0 d1 s th 13 obj arg tries) awK=Gl d0 s th 13 obj arg tries o c dn g r v:=by
 have hb:=H.hb;have hz:((0:Nat):Int)=0:=rfl;simp only [zz,H.hcp,H.iW,H.hR,H.hk,has_is r th hb,dJ r th hb,hr,List.length_nil,List.nil_append,hz,Ej,aO,Aq,eX,dF,dD,bM,bK,dL,act,Int.reduceEq,Gl] <;> (repeat' split) <;> first | rfl | (exfalso; omega)
abbrev awJ:T Lf:=(lI (aW 2) (mk (aW 3)) (mk (aW 4)) bt (mk (aW 6)) (.dat (.i 1)) (aW 8) (.lit 0) 2)
theorem aA6 (H:TH d0 d1 s th 14 obj arg tries o c dn g r v) (hr:r.l= []):dX (dG d0 d1 s th 14 obj arg tries) awJ=Gl d0 s th 14 obj arg tries o c dn g r v:=by
 have hb:=H.hb;have hz:((0:Nat):Int)=0:=rfl;simp only [zz,H.hcp,H.iW,H.hR,H.hk,has_is r th hb,dJ r th hb,hr,List.length_nil,List.nil_append,hz,Ej,aO,Aq,eX,dF,dD,bM,bK,dL,act,Int.reduceEq,Gl] <;> (repeat' split) <;> first | rfl | (exfalso; omega)
end
end Go.As.Try
end
section
namespace Go.As.Try
open Go hiding Stat Spec shape
open Go.As
set_option maxRecDepth 100000
def ops:List Int:=[1,2,8,3,4,5,6,7,9,11,10,17,18,19,22,23,20,21,12,13,14,24,15,25,16,26]
abbrev Yo (k:Int):List SB:=[.eq (.aN 4) (.lit k)]
abbrev No (k:Int):List SB:=(ops.filter fun j=>!(j == k)).map fun j=> .eq (.aN 4) (.lit j)
abbrev p3:T Lf:=prune (YG++YA3) (NG++NA3) jZ
abbrev p4:T Lf:=prune (YG++YA4) (NG++NA4) jZ
abbrev p5:T Lf:=prune (YG++YA5) (NG++NA5) jZ
abbrev p6:T Lf:=prune (YG++YA6) (NG++NA6) jZ
section
variable {d0 d1 s r v:D} {th op obj arg tries o c dn g:Int}
theorem aeR {ρ:Nat→Int}: ∀{l:List SB},(∀c∈l,¬c.den ρ=true)→zW ρ l
 | [],_=>trivial
 | c :: l,h=> ⟨h c (by simp),aeR fun x hx=>h x (List.mem_cons_of_mem _ hx)⟩
theorem fO (k:Int):zY (dG d0 d1 s th k obj arg tries) (Yo k)∧zW (dG d0 d1 s th k obj arg tries) (No k):=by refine⟨by simp only [zz],aeR fun c hc=>?_⟩;obtain⟨j,hj,rfl⟩:=List.mem_map.1 hc;have:=(List.mem_filter.1 hj).2;simp only [zz];intro h;subst h;simp at this
theorem sp3 (H:TH d0 d1 s th op obj arg tries o c dn g r v) (hr:0 < r.l.length) (hv:0 < v.l.length):dX (dG d0 d1 s th op obj arg tries) p3=dX (dG d0 d1 s th op obj arg tries) jZ:=dI (z2 (fG H) (fA3 H hr hv)) jZ
theorem sp4 (H:TH d0 d1 s th op obj arg tries o c dn g r v) (hr:0 < r.l.length) (hv:v.l= []):dX (dG d0 d1 s th op obj arg tries) p4=dX (dG d0 d1 s th op obj arg tries) jZ:=dI (z2 (fG H) (fA4 H hr hv)) jZ
theorem sp5 (H:TH d0 d1 s th op obj arg tries o c dn g r v) (hr:r.l= []) (hv:0 < v.l.length):dX (dG d0 d1 s th op obj arg tries) p5=dX (dG d0 d1 s th op obj arg tries) jZ:=dI (z2 (fG H) (fA5 H hr hv)) jZ
theorem sp6 (H:TH d0 d1 s th op obj arg tries o c dn g r v) (hr:r.l= []) (hv:v.l= []):dX (dG d0 d1 s th op obj arg tries) p6=dX (dG d0 d1 s th op obj arg tries) jZ:=dI (z2 (fG H) (fA6 H hr hv)) jZ
theorem jV {k:Int} {t u:T Lf} {Q:RS} (e:prune (Yo k) (No k) t=u) (h:dX (dG d0 d1 s th k obj arg tries) u=Q):dX (dG d0 d1 s th k obj arg tries) t=Q:=by rw [← dI (fO k) t,e,h]
theorem jW (H:TH d0 d1 s th op obj arg tries o c dn g r v) {u:T Lf} {Q:RS} (e3:prune (Yo op) (No op) p3=u) (e4:prune (Yo op) (No op) p4=u) (e5:prune (Yo op) (No op) p5=u) (e6:prune (Yo op) (No op) p6=u) (h:dX (dG d0 d1 s th op obj arg tries) u=Q):dX (dG d0 d1 s th op obj arg tries) jZ=Q:=by
 rcases kJ r.l with hr | hr <;> rcases kJ v.l with hv | hv
 ·exact (sp6 H hr hv).symm.trans (jV e6 h)
 ·exact (sp5 H hr hv).symm.trans (jV e5 h)
 ·exact (sp4 H hr hv).symm.trans (jV e4 h)
 ·exact (sp3 H hr hv).symm.trans (jV e3 h)
theorem o1 (H:TH d0 d1 s th 1 obj arg tries o c dn g r v):dX (dG d0 d1 s th 1 obj arg tries) jZ=Gl d0 s th 1 obj arg tries o c dn g r v:=jW H (u:=zt0) (by kernel_rfl) (by kernel_rfl) (by kernel_rfl) (by kernel_rfl) (sm0 H)
theorem o2 (H:TH d0 d1 s th 2 obj arg tries o c dn g r v):dX (dG d0 d1 s th 2 obj arg tries) jZ=Gl d0 s th 2 obj arg tries o c dn g r v:=jW H (u:=zt1) (by kernel_rfl) (by kernel_rfl) (by kernel_rfl) (by kernel_rfl) (sm1 H)
theorem o8 (H:TH d0 d1 s th 8 obj arg tries o c dn g r v):dX (dG d0 d1 s th 8 obj arg tries) jZ=Gl d0 s th 8 obj arg tries o c dn g r v:=jW H (u:=zt1) (by kernel_rfl) (by kernel_rfl) (by kernel_rfl) (by kernel_rfl) (sm2 H)
theorem o3 (H:TH d0 d1 s th 3 obj arg tries o c dn g r v):dX (dG d0 d1 s th 3 obj arg tries) jZ=Gl d0 s th 3 obj arg tries o c dn g r v:=jW H (u:=zt2) (by kernel_rfl) (by kernel_rfl) (by kernel_rfl) (by kernel_rfl) (sm3 H)
theorem o4 (H:TH d0 d1 s th 4 obj arg tries o c dn g r v):dX (dG d0 d1 s th 4 obj arg tries) jZ=Gl d0 s th 4 obj arg tries o c dn g r v:=jW H (u:=zt3) (by kernel_rfl) (by kernel_rfl) (by kernel_rfl) (by kernel_rfl) (sm4 H)
theorem o5 (H:TH d0 d1 s th 5 obj arg tries o c dn g r v):dX (dG d0 d1 s th 5 obj arg tries) jZ=Gl d0 s th 5 obj arg tries o c dn g r v:=by
 rcases kJ r.l with hr | hr <;> rcases kJ v.l with hv | hv
 ·exact (sp6 H hr hv).symm.trans (jV (u:=awM) (by kernel_rfl) (aBa H hr))
 ·exact (sp5 H hr hv).symm.trans (jV (u:=awM) (by kernel_rfl) (aBa H hr))
 ·exact (sp4 H hr hv).symm.trans (jV (u:=zt4) (by kernel_rfl) (sm5 H hr))
 ·exact (sp3 H hr hv).symm.trans (jV (u:=zt4) (by kernel_rfl) (sm5 H hr))
theorem o6 (H:TH d0 d1 s th 6 obj arg tries o c dn g r v):dX (dG d0 d1 s th 6 obj arg tries) jZ=Gl d0 s th 6 obj arg tries o c dn g r v:=by
 rcases kJ r.l with hr | hr <;> rcases kJ v.l with hv | hv
 ·exact (sp6 H hr hv).symm.trans (jV (u:=zt5) (by kernel_rfl) (sm6 H (by rw [CB hr]; omega)))
 ·exact (sp5 H hr hv).symm.trans (jV (u:=zt5) (by kernel_rfl) (sm6 H (by rw [CB hr]; omega)))
 ·by_cases hk:place r th < 0
  ·exact (sp4 H hr hv).symm.trans ((dI (fK0 H hk) _).symm.trans (jV (u:=zt5) (by kernel_rfl) (sm6 H hk)))
  ·exact (sp4 H hr hv).symm.trans ((dI (fK1 H hk) _).symm.trans (jV (u:=zt6) (by kernel_rfl) (sm7 H hr hk)))
 ·by_cases hk:place r th < 0
  ·exact (sp3 H hr hv).symm.trans ((dI (fK0 H hk) _).symm.trans (jV (u:=zt5) (by kernel_rfl) (sm6 H hk)))
  ·exact (sp3 H hr hv).symm.trans ((dI (fK1 H hk) _).symm.trans (jV (u:=zt6) (by kernel_rfl) (sm7 H hr hk)))
theorem o7 (H:TH d0 d1 s th 7 obj arg tries o c dn g r v):dX (dG d0 d1 s th 7 obj arg tries) jZ=Gl d0 s th 7 obj arg tries o c dn g r v:=by
 rcases kJ r.l with hr | hr <;> rcases kJ v.l with hv | hv
 ·exact (sp6 H hr hv).symm.trans (jV (u:=zt0) (by kernel_rfl) (aA9 H hr))
 ·exact (sp5 H hr hv).symm.trans (jV (u:=zt0) (by kernel_rfl) (aA9 H hr))
 ·exact (sp4 H hr hv).symm.trans (jV (u:=zt7) (by kernel_rfl) (sm8 H hr))
 ·exact (sp3 H hr hv).symm.trans (jV (u:=zt7) (by kernel_rfl) (sm8 H hr))
theorem o9 (H:TH d0 d1 s th 9 obj arg tries o c dn g r v):dX (dG d0 d1 s th 9 obj arg tries) jZ=Gl d0 s th 9 obj arg tries o c dn g r v:=jW H (u:=zt8) (by kernel_rfl) (by kernel_rfl) (by kernel_rfl) (by kernel_rfl) (sm9 H)
theorem o11 (H:TH d0 d1 s th 11 obj arg tries o c dn g r v):dX (dG d0 d1 s th 11 obj arg tries) jZ=Gl d0 s th 11 obj arg tries o c dn g r v:=jW H (u:=zt9) (by kernel_rfl) (by kernel_rfl) (by kernel_rfl) (by kernel_rfl) (aC6 H)
theorem o10 (H:TH d0 d1 s th 10 obj arg tries o c dn g r v):dX (dG d0 d1 s th 10 obj arg tries) jZ=Gl d0 s th 10 obj arg tries o c dn g r v:=jW H (u:=aAR) (by kernel_rfl) (by kernel_rfl) (by kernel_rfl) (by kernel_rfl) (aC5 H)
theorem o17 (H:TH d0 d1 s th 17 obj arg tries o c dn g r v):dX (dG d0 d1 s th 17 obj arg tries) jZ=Gl d0 s th 17 obj arg tries o c dn g r v:=jW H (u:=aAQ) (by kernel_rfl) (by kernel_rfl) (by kernel_rfl) (by kernel_rfl) (aC4 H)
theorem o18 (H:TH d0 d1 s th 18 obj arg tries o c dn g r v):dX (dG d0 d1 s th 18 obj arg tries) jZ=Gl d0 s th 18 obj arg tries o c dn g r v:=jW H (u:=aAP) (by kernel_rfl) (by kernel_rfl) (by kernel_rfl) (by kernel_rfl) (aC3 H)
theorem o19 (H:TH d0 d1 s th 19 obj arg tries o c dn g r v):dX (dG d0 d1 s th 19 obj arg tries) jZ=Gl d0 s th 19 obj arg tries o c dn g r v:=jW H (u:=aAO) (by kernel_rfl) (by kernel_rfl) (by kernel_rfl) (by kernel_rfl) (aC2 H)
theorem o22 (H:TH d0 d1 s th 22 obj arg tries o c dn g r v):dX (dG d0 d1 s th 22 obj arg tries) jZ=Gl d0 s th 22 obj arg tries o c dn g r v:=jW H (u:=aAN) (by kernel_rfl) (by kernel_rfl) (by kernel_rfl) (by kernel_rfl) (aC1 H)
theorem o23 (H:TH d0 d1 s th 23 obj arg tries o c dn g r v):dX (dG d0 d1 s th 23 obj arg tries) jZ=Gl d0 s th 23 obj arg tries o c dn g r v:=jW H (u:=aAM) (by kernel_rfl) (by kernel_rfl) (by kernel_rfl) (by kernel_rfl) (aC0 H)
theorem o20 (H:TH d0 d1 s th 20 obj arg tries o c dn g r v):dX (dG d0 d1 s th 20 obj arg tries) jZ=Gl d0 s th 20 obj arg tries o c dn g r v:=by
 rcases kJ r.l with hr | hr <;> rcases kJ v.l with hv | hv
 ·exact (sp6 H hr hv).symm.trans (jV (u:=awO) (by kernel_rfl) (aBd H hv))
 ·exact (sp5 H hr hv).symm.trans (jV (u:=awT) (by kernel_rfl) (aBi H hv))
 ·exact (sp4 H hr hv).symm.trans (jV (u:=awO) (by kernel_rfl) (aBd H hv))
 ·exact (sp3 H hr hv).symm.trans (jV (u:=awT) (by kernel_rfl) (aBi H hv))
theorem o21 (H:TH d0 d1 s th 21 obj arg tries o c dn g r v):dX (dG d0 d1 s th 21 obj arg tries) jZ=Gl d0 s th 21 obj arg tries o c dn g r v:=by
 rcases kJ r.l with hr | hr <;> rcases kJ v.l with hv | hv
 ·exact (sp6 H hr hv).symm.trans (jV (u:=awN) (by kernel_rfl) (aBb H hv))
 ·exact (sp5 H hr hv).symm.trans (jV (u:=awS) (by kernel_rfl) (aBh H hv))
 ·exact (sp4 H hr hv).symm.trans (jV (u:=awN) (by kernel_rfl) (aBb H hv))
 ·exact (sp3 H hr hv).symm.trans (jV (u:=awS) (by kernel_rfl) (aBh H hv))
theorem o12 (H:TH d0 d1 s th 12 obj arg tries o c dn g r v):dX (dG d0 d1 s th 12 obj arg tries) jZ=Gl d0 s th 12 obj arg tries o c dn g r v:=by
 rcases kJ r.l with hr | hr <;> rcases kJ v.l with hv | hv
 ·have hd:=asI r th obj (Mx d0 obj) (enc (dL (fA s.l (Mx d0 obj) (dL (fA (s.at (Mx d0 obj)).l 0 (.i (-1))))))) 12 arg tries o c dn g (enc v);exact (sp6 H hr hv).symm.trans ((dI (fM H (by omega)) _).symm.trans ((dI (aDw H hd) _).symm.trans (jV (u:=awL) (by kernel_rfl) (aA8 H hr))))
 ·have hd:=asJ r th obj (Mx d0 obj) (enc (dL (fA s.l (Mx d0 obj) (dL (fA (s.at (Mx d0 obj)).l 0 (.i (-1))))))) 12 arg tries o c dn g (enc v);exact (sp5 H hr hv).symm.trans ((dI (fM H (by omega)) _).symm.trans ((dI (aDx H hd) _).symm.trans (jV (u:=awL) (by kernel_rfl) (aA8 H hr))))
 ·rcases asK r th (by have:=H.hr; omega) H.hn with ⟨hw,hd⟩ | hd
  ·have hd:=hd obj (Mx d0 obj) (enc (dL (fA s.l (Mx d0 obj) (dL (fA (s.at (Mx d0 obj)).l 0 (.i (-1))))))) 12 arg tries o c dn g (enc v);exact (sp4 H hr hv).symm.trans ((dI (fM H (by omega)) _).symm.trans ((dI (aDy H hd) _).symm.trans (jV (u:=awR) (by kernel_rfl) (aBg H hr hw))))
  ·obtain⟨n,r1,hn,hl,hw,hd⟩:=hd obj (Mx d0 obj) (enc (dL (fA s.l (Mx d0 obj) (dL (fA (s.at (Mx d0 obj)).l 0 (.i (-1))))))) 12 arg tries o c dn g (enc v);exact (sp4 H hr hv).symm.trans ((dI (fM H (by omega)) _).symm.trans ((dI (aDz H hn hl hd) _).symm.trans (jV (u:=aAG) (by kernel_rfl) (aCU H hr hv hn hl hw hd))))
 ·rcases asL r th (by have:=H.hr; omega) H.hn with ⟨hw,hd⟩ | hd
  ·have hd:=hd obj (Mx d0 obj) (enc (dL (fA s.l (Mx d0 obj) (dL (fA (s.at (Mx d0 obj)).l 0 (.i (-1))))))) 12 arg tries o c dn g (enc v);exact (sp3 H hr hv).symm.trans ((dI (fM H (by omega)) _).symm.trans ((dI (aDA H hd) _).symm.trans (jV (u:=awR) (by kernel_rfl) (aBg H hr hw))))
  ·obtain⟨n,r1,hn,hl,hw,hd⟩:=hd obj (Mx d0 obj) (enc (dL (fA s.l (Mx d0 obj) (dL (fA (s.at (Mx d0 obj)).l 0 (.i (-1))))))) 12 arg tries o c dn g (enc v);exact (sp3 H hr hv).symm.trans ((dI (fM H (by omega)) _).symm.trans ((dI (aDB H hn hl hd) _).symm.trans (jV (u:=aAL) (by kernel_rfl) (aCZ H hr hv hn hl hw hd))))
theorem o13 (H:TH d0 d1 s th 13 obj arg tries o c dn g r v):dX (dG d0 d1 s th 13 obj arg tries) jZ=Gl d0 s th 13 obj arg tries o c dn g r v:=by
 rcases kJ r.l with hr | hr <;> rcases kJ v.l with hv | hv
 ·exact (sp6 H hr hv).symm.trans (jV (u:=awK) (by kernel_rfl) (aA7 H hr))
 ·exact (sp5 H hr hv).symm.trans (jV (u:=awK) (by kernel_rfl) (aA7 H hr))
 ·exact (sp4 H hr hv).symm.trans (jV (u:=awQ) (by kernel_rfl) (aBf H hr))
 ·exact (sp3 H hr hv).symm.trans (jV (u:=awQ) (by kernel_rfl) (aBf H hr))
theorem o14 (H:TH d0 d1 s th 14 obj arg tries o c dn g r v):dX (dG d0 d1 s th 14 obj arg tries) jZ=Gl d0 s th 14 obj arg tries o c dn g r v:=by
 rcases kJ r.l with hr | hr <;> rcases kJ v.l with hv | hv
 ·exact (sp6 H hr hv).symm.trans (jV (u:=awJ) (by kernel_rfl) (aA6 H hr))
 ·exact (sp5 H hr hv).symm.trans (jV (u:=awJ) (by kernel_rfl) (aA6 H hr))
 ·exact (sp4 H hr hv).symm.trans (jV (u:=awP) (by kernel_rfl) (aBe H hr))
 ·exact (sp3 H hr hv).symm.trans (jV (u:=awP) (by kernel_rfl) (aBe H hr))
theorem o24 (H:TH d0 d1 s th 24 obj arg tries o c dn g r v):dX (dG d0 d1 s th 24 obj arg tries) jZ=Gl d0 s th 24 obj arg tries o c dn g r v:=by
 rcases kJ r.l with hr | hr <;> rcases kJ v.l with hv | hv
 ·exact (sp6 H hr hv).symm.trans ((dI (fM H (by omega)) _).symm.trans (jV (u:=aeO) (by kernel_rfl) (apL H)))
 ·exact (sp5 H hr hv).symm.trans ((dI (fM H (by omega)) _).symm.trans (jV (u:=aeO) (by kernel_rfl) (apL H)))
 ·exact (sp4 H hr hv).symm.trans ((dI (fM H (by omega)) _).symm.trans (jV (u:=aeO) (by kernel_rfl) (apL H)))
 ·exact (sp3 H hr hv).symm.trans ((dI (fM H (by omega)) _).symm.trans (jV (u:=aeO) (by kernel_rfl) (apL H)))
theorem o15 (H:TH d0 d1 s th 15 obj arg tries o c dn g r v):dX (dG d0 d1 s th 15 obj arg tries) jZ=Gl d0 s th 15 obj arg tries o c dn g r v:=jW H (u:=aAK) (by kernel_rfl) (by kernel_rfl) (by kernel_rfl) (by kernel_rfl) (aCY H)
theorem o25 (H:TH d0 d1 s th 25 obj arg tries o c dn g r v):dX (dG d0 d1 s th 25 obj arg tries) jZ=Gl d0 s th 25 obj arg tries o c dn g r v:=jW H (u:=aAJ) (by kernel_rfl) (by kernel_rfl) (by kernel_rfl) (by kernel_rfl) (aCX H)
theorem o16 (H:TH d0 d1 s th 16 obj arg tries o c dn g r v):dX (dG d0 d1 s th 16 obj arg tries) jZ=Gl d0 s th 16 obj arg tries o c dn g r v:=jW H (u:=aAI) (by kernel_rfl) (by kernel_rfl) (by kernel_rfl) (by kernel_rfl) (aCW H)
theorem o26 (H:TH d0 d1 s th 26 obj arg tries o c dn g r v):dX (dG d0 d1 s th 26 obj arg tries) jZ=Gl d0 s th 26 obj arg tries o c dn g r v:=jW H (u:=aAH) (by kernel_rfl) (by kernel_rfl) (by kernel_rfl) (by kernel_rfl) (aCV H)
theorem aoM (H:TH d0 d1 s th op obj arg tries o c dn g r v) (hop:op∈ops):L 400 [enc d0,enc d1,enc s,th,op,obj,arg,tries]=some (outA s th op obj (Mx d0 obj) (act (Mx d0 obj) (Mo d0 s obj) th op arg tries o c dn g r v)):=by
 rw [aT,aAv]
 suffices h:dX (dG d0 d1 s th op obj arg tries) jZ=Gl d0 s th op obj arg tries o c dn g r v by rw [h]; rfl
 unfold ops at hop;simp only [List.mem_cons,List.not_mem_nil,or_false] at hop;rcases hop with rfl | rfl | rfl | rfl | rfl | rfl | rfl | rfl | rfl | rfl | rfl | rfl | rfl | rfl | rfl | rfl | rfl | rfl | rfl | rfl | rfl | rfl | rfl | rfl | rfl | rfl
 ·exact o1 H
 ·exact o2 H
 ·exact o8 H
 ·exact o3 H
 ·exact o4 H
 ·exact o5 H
 ·exact o6 H
 ·exact o7 H
 ·exact o9 H
 ·exact o11 H
 ·exact o10 H
 ·exact o17 H
 ·exact o18 H
 ·exact o19 H
 ·exact o22 H
 ·exact o23 H
 ·exact o20 H
 ·exact o21 H
 ·exact o12 H
 ·exact o13 H
 ·exact o14 H
 ·exact o24 H
 ·exact o15 H
 ·exact o25 H
 ·exact o16 H
 ·exact o26 H
end
end Go.As.Try
end
section
namespace Go.As.Try
open Go hiding Stat Spec shape
open Go.As
set_option maxRecDepth 100000
abbrev aiI:T Lf:=ou [.op .set (aW 2) (thg (mk (aW 3)) (mk (aW 4)) bt (mk (aW 6)) (aW 7) (aW 8)),.lit 0,.lit 0,.lit 0,.lit 0,.lit 0,.lit 0]
abbrev Ya (a:Int):List SB:=[.eq (a0 9000 [.aN 5,.aN 2]) (.lit 1),.eq (aW 0) (.lit a),.eq (a0 350 [.aN 0,.aN 1,.aN 2]) (.lit 1)]
abbrev Na (a:Int):List SB:=([0,1,2,3,4,5].filter fun j=>!(j == a)).map fun j=> .eq (aW 0) (.lit j)
abbrev r3:SB:=.eq (rr 350 [.aN 0,.aN 1,.aN 2] 0) (.lit 0)
abbrev t3:SB:=.lt (.aN 3) (.lit 0)
abbrev u3:SB:=.lt (.aN 3) (ln (.aN 1))
section
variable {d0 d1 s r v:D} {th op obj arg tries o c dn g b kop a:Int} (hR:L 350 [enc d0,enc d1,enc s]=some [b])
include hR
theorem fa {l:List Int} (hc:L 9000 [obj,enc s]=some (a :: l)):zY (dG d0 d1 s th op obj arg tries) (Ya a)∧zW (dG d0 d1 s th op obj arg tries) (Na a):=by refine⟨by simp only [zz,hc,hR],aeR fun c hc'=>?_⟩;obtain⟨j,hj,rfl⟩:=List.mem_map.1 hc';have:=(List.mem_filter.1 hj).2;simp only [zz,hc];intro h;subst h;simp at this
theorem wM (k:dX (dG d0 d1 s th op obj arg tries) jZ= .out [enc s,0,0,0,0,0,0]):L 400 [enc d0,enc d1,enc s,th,op,obj,arg,tries]=some [enc s,0,0,0,0,0,0]:=by rw [aT,aAv];exact congrArg (fin L) k
section
variable (ha:a=3∨a=4∨a=5∨a=6) (hcp:L 9000 [obj,enc s]=some [a,obj,enc s,o,c,dn,g,enc r,enc v]) (Bh:0≤obj) (Bg:obj < (s.l.length:Int)) (hd:dn=0∨dn=1) (hs:s=dL (fA s.l obj (dL [.i o,.i c,.i dn,.i g,r,v])))
include ha hcp Bh Bg hd hs
omit ha hR Bh Bg in
theorem JD:dX (dG d0 d1 s th op obj arg tries) aiI= .out [enc s,0,0,0,0,0,0]:=by
 have e:(if dn=0 then (0:Int) else 1)=dn:=by rcases hd with rfl | rfl <;> rfl
 simp only [dL] at hs;simp only [zz,hcp,e,← hs]
theorem aDa (h:b=0):L 400 [enc d0,enc d1,enc s,th,op,obj,arg,tries]=some [enc s,0,0,0,0,0,0]:=
 wM hR (bT (Ya a++ [r3]) (Na a++ []) aiI (z2 (fa hR hcp) (by simp only [zz,hcp,hR] <;> omega)) (by rcases ha with rfl | rfl | rfl | rfl <;> kernel_rfl) (JD hcp hd hs))
theorem aC9 (hb:b≠0) (h:th < 0):L 400 [enc d0,enc d1,enc s,th,op,obj,arg,tries]=some [enc s,0,0,0,0,0,0]:=
 wM hR (bT (Ya a++ [t3]) (Na a++ [r3]) aiI (z2 (fa hR hcp) (by simp only [zz,hcp,hR] <;> omega)) (by rcases ha with rfl | rfl | rfl | rfl <;> kernel_rfl) (JD hcp hd hs))
theorem aC8 (hb:b≠0) (h0:0≤th) (h: ¬th < (d1.l.length:Int)):L 400 [enc d0,enc d1,enc s,th,op,obj,arg,tries]=some [enc s,0,0,0,0,0,0]:=
 wM hR (bT (Ya a++ []) (Na a++ [r3,t3,u3]) aiI (z2 (fa hR hcp) (by simp only [zz,hcp,hR] <;> omega)) (by rcases ha with rfl | rfl | rfl | rfl <;> kernel_rfl) (JD hcp hd hs))
theorem aDb (hb:b≠0) (h0:0≤th) (h:th < (d1.l.length:Int)) (hk:L 600 [op]=some [kop]) (hlen:s.l.length=d0.l.length) (hne: ¬kop=((d0.at obj).hd 0).n):L 400 [enc d0,enc d1,enc s,th,op,obj,arg,tries]=some [enc s,0,0,0,0,0,0]:=
 wM hR (bT (Ya a++ [u3,.lt (.aN 5) (ln (aW 2)),.eq (a0 600 [.aN 4]) (.lit 1),.lt (.aN 5) (ln (.aN 0))]) (Na a++ [r3,t3,.lt (.aN 5) (.lit 0),.eq (rr 600 [.aN 4] 0) (nm (ce 0 (el (.aN 0) (.aN 5))))]) aiI (z2 (fa hR hcp) (by simp only [zz,hcp,hR,hk] <;> omega)) (by rcases ha with rfl | rfl | rfl | rfl <;> kernel_rfl) (JD hcp hd hs))
end
theorem aBs (hcp:L 9000 [obj,enc s]=some [0,obj,enc s]) (h:obj < 0):L 400 [enc d0,enc d1,enc s,th,op,obj,arg,tries]=some [enc s,0,0,0,0,0,0]:=
 wM hR (bT (Ya 0++ [.lt (.aN 5) (.lit 0)]) (Na 0++ []) (sp r3 (ou [aW 2,.lit 0,.lit 0,.lit 0,.lit 0,.lit 0,.lit 0]) (sp t3 (ou [aW 2,.lit 0,.lit 0,.lit 0,.lit 0,.lit 0,.lit 0]) (sp u3 (ou [aW 2,.lit 0,.lit 0,.lit 0,.lit 0,.lit 0,.lit 0]) (ou [aW 2,.lit 0,.lit 0,.lit 0,.lit 0,.lit 0,.lit 0])))) (z2 (fa hR hcp) (by simp only [zz,hcp] <;> omega)) (by kernel_rfl) (by simp only [zz,hcp,hR,ite_self]))
theorem aBr (hcp:L 9000 [obj,enc s]=some [0,obj,enc s]) (h0:0≤obj) (h: ¬obj < (s.l.length:Int)):L 400 [enc d0,enc d1,enc s,th,op,obj,arg,tries]=some [enc s,0,0,0,0,0,0]:=
 wM hR (bT (Ya 0++ []) (Na 0++ [.lt (.aN 5) (.lit 0),.lt (.aN 5) (ln (aW 2))]) (sp r3 (ou [aW 2,.lit 0,.lit 0,.lit 0,.lit 0,.lit 0,.lit 0]) (sp t3 (ou [aW 2,.lit 0,.lit 0,.lit 0,.lit 0,.lit 0,.lit 0]) (sp u3 (ou [aW 2,.lit 0,.lit 0,.lit 0,.lit 0,.lit 0,.lit 0]) (ou [aW 2,.lit 0,.lit 0,.lit 0,.lit 0,.lit 0,.lit 0])))) (z2 (fa hR hcp) (by simp only [zz,hcp] <;> omega)) (by kernel_rfl) (by simp only [zz,hcp,hR,ite_self]))
theorem aBq (hcp:L 9000 [obj,enc s]=some [1,obj]) (h:obj < 0) (hs:s= .i 1):L 400 [enc d0,enc d1,enc s,th,op,obj,arg,tries]=some [enc s,0,0,0,0,0,0]:=
 wM hR (bT (Ya 1++ [.lt (.aN 5) (.lit 0)]) (Na 1++ []) (sp r3 (ou [.dat (.i 1),.lit 0,.lit 0,.lit 0,.lit 0,.lit 0,.lit 0]) (sp t3 (ou [.dat (.i 1),.lit 0,.lit 0,.lit 0,.lit 0,.lit 0,.lit 0]) (sp u3 (ou [.dat (.i 1),.lit 0,.lit 0,.lit 0,.lit 0,.lit 0,.lit 0]) (ou [.dat (.i 1),.lit 0,.lit 0,.lit 0,.lit 0,.lit 0,.lit 0])))) (z2 (fa hR hcp) (by simp only [zz,hcp] <;> omega)) (by kernel_rfl) (by simp only [zz,hcp,hR,hs,ite_self]))
theorem aBp (hcp:L 9000 [obj,enc s]=some [1,obj]) (h0:0≤obj) (h: ¬obj < (s.l.length:Int)) (hs:s= .i 1):L 400 [enc d0,enc d1,enc s,th,op,obj,arg,tries]=some [enc s,0,0,0,0,0,0]:=
 wM hR (bT (Ya 1++ []) (Na 1++ [.lt (.aN 5) (.lit 0)]) (sp r3 (ou [.dat (.i 1),.lit 0,.lit 0,.lit 0,.lit 0,.lit 0,.lit 0]) (sp t3 (ou [.dat (.i 1),.lit 0,.lit 0,.lit 0,.lit 0,.lit 0,.lit 0]) (sp u3 (ou [.dat (.i 1),.lit 0,.lit 0,.lit 0,.lit 0,.lit 0,.lit 0]) (ou [.dat (.i 1),.lit 0,.lit 0,.lit 0,.lit 0,.lit 0,.lit 0])))) (z2 (fa hR hcp) (by simp only [zz,hcp] <;> omega)) (by kernel_rfl) (by simp only [zz,hcp,hR,hs,ite_self]))
theorem aBo (hcp:L 9000 [obj,enc s]=some [2,obj]) (h:obj < 0) (hs:s= .i 2):L 400 [enc d0,enc d1,enc s,th,op,obj,arg,tries]=some [enc s,0,0,0,0,0,0]:=
 wM hR (bT (Ya 2++ [.lt (.aN 5) (.lit 0)]) (Na 2++ []) (sp r3 (ou [.dat (.i 2),.lit 0,.lit 0,.lit 0,.lit 0,.lit 0,.lit 0]) (sp t3 (ou [.dat (.i 2),.lit 0,.lit 0,.lit 0,.lit 0,.lit 0,.lit 0]) (sp u3 (ou [.dat (.i 2),.lit 0,.lit 0,.lit 0,.lit 0,.lit 0,.lit 0]) (ou [.dat (.i 2),.lit 0,.lit 0,.lit 0,.lit 0,.lit 0,.lit 0])))) (z2 (fa hR hcp) (by simp only [zz,hcp] <;> omega)) (by kernel_rfl) (by simp only [zz,hcp,hR,hs,ite_self]))
theorem aBn (hcp:L 9000 [obj,enc s]=some [2,obj]) (h0:0≤obj) (h: ¬obj < (s.l.length:Int)) (hs:s= .i 2):L 400 [enc d0,enc d1,enc s,th,op,obj,arg,tries]=some [enc s,0,0,0,0,0,0]:=
 wM hR (bT (Ya 2++ []) (Na 2++ [.lt (.aN 5) (.lit 0)]) (sp r3 (ou [.dat (.i 2),.lit 0,.lit 0,.lit 0,.lit 0,.lit 0,.lit 0]) (sp t3 (ou [.dat (.i 2),.lit 0,.lit 0,.lit 0,.lit 0,.lit 0,.lit 0]) (sp u3 (ou [.dat (.i 2),.lit 0,.lit 0,.lit 0,.lit 0,.lit 0,.lit 0]) (ou [.dat (.i 2),.lit 0,.lit 0,.lit 0,.lit 0,.lit 0,.lit 0])))) (z2 (fa hR hcp) (by simp only [zz,hcp] <;> omega)) (by kernel_rfl) (by simp only [zz,hcp,hR,hs,ite_self]))
end
end Go.As.Try
end
section
namespace Go.As.Try
open Go hiding Stat Spec shape
open Go.As
set_option maxRecDepth 100000
def kindOf (o:Int):Int:=if o < 27 then (if o=0 then 0 else if o=1 then 1 else if o=2 then 1 else if o=3 then 1 else if o=4 then 1 else if o=5 then 2 else if o=6 then 2 else if o=7 then 2 else if o=8 then 2 else if o=9 then 3 else if o=10 then 3 else if o=11 then 3 else if o=12 then 4 else if o=13 then 4 else if o=14 then 4 else if o=15 then 5 else if o=16 then 6 else if o=17 then 7 else if o=18 then 7 else if o=19 then 7 else if o=20 then 8 else if o=21 then 8 else if o=22 then 9 else if o=23 then 9 else if o=24 then 4 else if o=25 then 5 else 6) else 0
theorem Vl (o:Int) (h:iI .u8 o):L 600 [o]=some [kindOf o]:=by
 have h1:=h.1;have w:=aAU h;have c1: ¬(o < 0):=by omega
 rw [aT,aCE];simp only [axD,zz,w,c1];by_cases h27:o < 27
 ·simp only [if_pos h27];have:o=0∨o=1∨o=2∨o=3∨o=4∨o=5∨o=6∨o=7∨o=8∨o=9∨o=10∨o=11∨o=12∨o=13∨o=14∨o=15∨o=16∨o=17∨o=18∨o=19∨o=20∨o=21∨o=22∨o=23∨o=24∨o=25∨o=26:=by omega
  rcases this with rfl | rfl | rfl | rfl | rfl | rfl | rfl | rfl | rfl | rfl | rfl | rfl | rfl | rfl | rfl | rfl | rfl | rfl | rfl | rfl | rfl | rfl | rfl | rfl | rfl | rfl | rfl
  all_goals rfl
 ·simp only [if_neg h27];unfold kindOf;rw [if_neg h27];rfl
theorem ajB {o:Int} (h0:0≤o) (h:kindOf o≠0):o∈ops:=by
 have h27:o < 27:=by refine Decidable.byContradiction fun hn=>h ?_;unfold kindOf;rw [if_neg hn]
 have:o=0∨o=1∨o=2∨o=3∨o=4∨o=5∨o=6∨o=7∨o=8∨o=9∨o=10∨o=11∨o=12∨o=13∨o=14∨o=15∨o=16∨o=17∨o=18∨o=19∨o=20∨o=21∨o=22∨o=23∨o=24∨o=25∨o=26:=by omega
 rcases this with rfl | rfl | rfl | rfl | rfl | rfl | rfl | rfl | rfl | rfl | rfl | rfl | rfl | rfl | rfl | rfl | rfl | rfl | rfl | rfl | rfl | rfl | rfl | rfl | rfl | rfl | rfl
 all_goals first | exact absurd rfl h | decide
structure Acc (d0 d1 s:D) (th op obj:Int):Prop where
 r:L 350 [enc d0,enc d1,enc s]=some [1]
 t0:0≤th
 t1:th < (d1.l.length:Int)
 o0:0≤obj
 o1:obj < (s.l.length:Int)
 k:kindOf op=((d0.at obj).hd 0).n
structure Tg (x:D) (o c dn g:Int) (r v:D):Prop where
 is:x=dL [.i o,.i c,.i dn,.i g,r,v]
 ho:iI .i64 o
 hc:iI .i64 c
 hd:dn=0∨dn=1
 hg:iI .i64 g
 hr:Wd (.sl 0) r
 hv:Wd (.sl 0) v
theorem UJ {x:D} (h:CU x): ∃o c dn g r v,Tg x o c dn g r v:=by obtain⟨o,c,d,g,r,v,h1,h2,h3,h4,h5,h6,h7⟩:=h;exact⟨o,c,d,g,r,v,h1,h2,h3,h4,h5,h6,h7⟩
theorem aoJ {r:D} (h:Wd (.sl 0) r): ∀x∈r.l,x= .i x.n:=by intro x hx;obtain⟨n,rfl,_⟩:=(h.el1 rfl x hx).i;rfl
def few (s:D):Prop:= ∀x∈s.l,(x.hd 4).l.length < 17592186044415∧(x.hd 5).l.length < 17592186044415
theorem few.rows {s:D} (h:few s):He s:=fun x hx=>by have:=(h x hx).1; omega
section
variable {d0 d1 s:D} {th op obj arg tries:Int} (h0:Wd (.sl 3) d0) (h1:Wd (.sl 4) d1) (hs:Wd (.sl 7) s) (hf:few s) (hop:iI .u8 op)
include h0 h1 hf in
theorem U2 (h:L 350 [enc d0,enc d1,enc s]=some [1]):Ho d0 d1∧s.l.length=d0.l.length:=by obtain⟨b,hb,_,hi⟩:=yN h0 h1 hf.rows;rw [h] at hb;simp only [Option.some.injEq,List.cons.injEq,and_true] at hb;obtain⟨hC,hle,_⟩:=hi.1 hb.symm;obtain⟨ys,hC',c,rfl,_,hok⟩:=Dl h0 h1;rw [hC] at hC';simp only [Option.some.injEq,List.cons.injEq,and_true] at hC';exact⟨(hok hC'.symm).1,hle⟩
include h0 h1 hf in
theorem Ur (A:Acc d0 d1 s th op obj):aiB d0 (d0.at obj)∧s.l.length=d0.l.length:=by
 obtain⟨hok,hle⟩:=U2 h0 h1 hf A.r;refine⟨?_,hle⟩;have a1:=A.o0; have a2:=A.o1;obtain⟨i,rfl⟩ : ∃i:Nat,obj=(i:Int):=⟨obj.toNat,by omega⟩;have hi:i < d0.l.length:=by omega
 rw [aZ hi];exact hok.2.2 _ (List.getElem_mem hi)
include h0 h1 hs hf hop
theorem WB (A:Acc d0 d1 s th op obj) (h:op=12∨op=24):0≤Mx d0 obj∧Mx d0 obj < (s.l.length:Int)∧Mx d0 obj≠obj:=by
 obtain⟨ho,hle⟩:=Ur h0 h1 hf A
 have h4:((d0.at obj).hd 0).n=4:=by rw [← A.k];rcases h with rfl | rfl <;> rfl
 obtain⟨m1,m2,m3⟩:=ho.2.2.2.2.2 h4;refine⟨m1,by rw [hle]; exact m2,fun he=>?_⟩;have he:((d0.at obj).hd 2).n=obj:=he;rw [he,h4] at m3;omega
theorem Y9 (A:Acc d0 d1 s th op obj):op∈ops∧∃o c dn g r v,Tg (s.at obj) o c dn g r v∧
 L 400 [enc d0,enc d1,enc s,th,op,obj,arg,tries]=some (outA s th op obj (Mx d0 obj) (act (Mx d0 obj) (Mo d0 s obj) th op arg tries o c dn g r v)):=by
 obtain⟨ho,hle⟩:=Ur h0 h1 hf A;have hin:op∈ops:=ajB hop.1 (by rw [A.k]; have:=ho.1; omega);have a1:=A.o0; have a2:=A.o1;obtain⟨i,rfl⟩ : ∃i:Nat,obj=(i:Int):=⟨obj.toNat,by omega⟩;have hi:i < s.l.length:=by omega
 have ht:=Ir hs (by omega);obtain⟨o,c,dn,g,r,v,T⟩:=UJ (hs.thing _ (List.getElem_mem hi));have hfx:=hf _ (List.getElem_mem hi);rw [T.is] at hfx;have hkk:L 600 [op]=some [((d0.at (i:Int)).hd 0).n]:=by rw [Vl op hop,A.k]
 refine⟨hin,o,c,dn,g,r,v,by rw [aZ hi]; exact T,?_⟩;refine aoM ⟨avZ s ht i hi o c dn g r v T.is,anJ s hs,A.r,A.t0,A.t1,A.o0,A.o1,hle,hkk,?_,?_,(aoJ T.hr),fun h=>WB h0 h1 hs hf hop A h⟩ hin
 ·have:(r.l.length:Int) < 17592186044415:=Int.ofNat_lt.2 hfx.1;exact this
 ·have:(v.l.length:Int) < 17592186044415:=Int.ofNat_lt.2 hfx.2;exact this
theorem afC (A: ¬Acc d0 d1 s th op obj):L 400 [enc d0,enc d1,enc s,th,op,obj,arg,tries]=some [enc s,0,0,0,0,0,0]:=by
 obtain⟨b,hb,hb2,_⟩:=yN h0 h1 hf.rows;by_cases ho:0≤obj∧obj < (s.l.length:Int)
 ·obtain⟨i,rfl⟩ : ∃i:Nat,obj=(i:Int):=⟨obj.toNat,by omega⟩;have hi:i < s.l.length:=by omega
  have ht:=Ir hs (by omega);obtain⟨o,c,dn,g,r,v,T⟩:=UJ (hs.thing _ (List.getElem_mem hi));have hcp:=avZ s ht i hi o c dn g r v T.is
  have hss:s=dL (fA s.l (i:Int) (dL [.i o,.i c,.i dn,.i g,r,v])):=by have:=set_self ht.sh hi;rw [T.is] at this;exact this.symm
  have hkk:=Vl op hop
  have key: ∀alt:Int,(alt=3∨alt=4∨alt=5∨alt=6)→L 9000 [(i:Int),enc s]=some [alt,(i:Int),enc s,o,c,dn,g,enc r,enc v]→L 400 [enc d0,enc d1,enc s,th,op,(i:Int),arg,tries]=some [enc s,0,0,0,0,0,0]:=by
   intro alt ha hcp;by_cases hb0:b=0
   ·exact aDa hb ha hcp ho.1 ho.2 T.hd hss hb0
   ·have hb1:b=1:=by omega
    by_cases t0:th < 0
    ·exact aC9 hb ha hcp ho.1 ho.2 T.hd hss hb0 t0
    ·by_cases t1:th < (d1.l.length:Int)
     ·have hne: ¬kindOf op=((d0.at (i:Int)).hd 0).n:=fun hk=>A ⟨by rw [hb,hb1],by omega,t1,ho.1,ho.2,hk⟩;obtain⟨_,hle⟩:=U2 h0 h1 hf (by rw [hb,hb1]);exact aDb hb ha hcp ho.1 ho.2 T.hd hss hb0 (by omega) t1 hkk hle hne
     ·exact aC8 hb ha hcp ho.1 ho.2 T.hd hss hb0 (by omega) t1
  refine key _ ?_ hcp;unfold oL;split <;> split <;> simp
 ·obtain⟨ys,hc,hys⟩:=copyN s hs obj (by omega);by_cases hn:obj < 0
  ·rcases hys with rfl | ⟨rfl,he⟩ | ⟨rfl,he⟩
   ·exact aBs hb hc hn
   ·exact aBq hb hc hn he
   ·exact aBo hb hc hn he
  ·rcases hys with rfl | ⟨rfl,he⟩ | ⟨rfl,he⟩
   ·exact aBr hb hc (by omega) (by omega)
   ·exact aBp hb hc (by omega) (by omega) he
   ·exact aBn hb hc (by omega) (by omega) he
end
end Go.As.Try
end
section
namespace Go.As.Try
open Go hiding Stat Spec shape
open Go.As
set_option maxRecDepth 100000
theorem Jy {d:D} {l:List D} (h: ∀x∈l,∃n,x= .i n∧iI .i64 n) (hl:l.length≤17592186043904):Wd (.sl 0) (iH d l):=by
 cases l with
 | nil=>
   show Wd (.sl 0) (if d= .i 1 then .i 1 else .i 2);split
   ·exact .nil 0
   ·exact .non 0
 | cons a l=> refine .one 0 (.int .i64) (a :: l) rfl (by simp) (by have:yA 0=8:=rfl; rw [this]; omega) fun x hx=>?_;obtain⟨n,rfl,hn⟩:=h x hx;exact .int _ _ hn
theorem BX {l:List D} (h: ∀x∈l,∃n,x= .i n∧iI .i64 n) (hn:l≠[]) (hl:l.length≤17592186043904):Wd (.sl 0) (dL l):=by rw [← Gf (d:=.i 2) hn];exact Jy h hl
theorem yE {r:D} (h:Wd (.sl 0) r): ∀x∈r.l,∃n,x= .i n∧iI .i64 n:=fun x hx=>(h.el1 rfl x hx).i
theorem wrap_in (z:Int):iI .i64 (IntKind.i64.wrap z):=by constructor <;> (rw [IntKind.wrap_i64]; omega)
def N8 (n:Nat):Act→Prop
 | .res o c dn g r v m _ oc=>iI .i64 o∧iI .i64 c∧(dn=0∨dn=1)∧iI .i64 g∧Wd (.sl 0) r∧r.l.length≤n∧Wd (.sl 0) v∧v.l.length≤n∧(∀q,m=some q→iI .i64 q)∧(oc=2∨oc=3)
 | _=>True
theorem N8.ite {n:Nat} {p:Prop} [Decidable p] {a b:Act} (ha:N8 n a) (hb:N8 n b):N8 n (if p then a else b):=by
 split
 ·exact ha
 ·exact hb
def NoM:Act→Prop
 | .res _ _ _ _ _ _ m _ _=>m=none
 | _=>True
theorem NoM.ite {p:Prop} [Decidable p] {a b:Act} (ha:NoM a) (hb:NoM b):NoM (if p then a else b):=by
 split
 ·exact ha
 ·exact hb
section
variable {x:D} {M mo th op arg tries o c dn g:Int} {r v:D}
theorem aAE (T:Tg x o c dn g r v) {n:Nat} (hr:r.l.length≤n) (hv:v.l.length≤n) (hn:n < 17592186043904) (ht:iI .i64 th) (ha:iI .i64 arg):N8 (n+1) (act M mo th op arg tries o c dn g r v):=by
 have hm:iI .i64 (-1):=⟨by omega,by omega⟩;have hz:iI .i64 0:=⟨by omega,by omega⟩;have e1: ∀q:Int,(none:Option Int)=some q→iI .i64 q:=fun q h=>by simp at h
 have e2: ∀{p:Int},iI .i64 p→∀q:Int,some p=some q→iI .i64 q:=fun hp q h=>by simp only [Option.some.injEq] at h; exact h▸hp
 have hr1:r.l.length≤n+1:=by omega
 have hv1:v.l.length≤n+1:=by omega
 have w:=@wrap_in
 have sn: ∀{l:List D} {t:Int},(∀x∈l,∃n,x= .i n∧iI .i64 n)→iI .i64 t→∀x∈l++ [.i t],∃n,x= .i n∧iI .i64 n:=fun h ht x hx=>by
  rcases List.mem_append.1 hx with hx | hx
  ·exact h x hx
  ·simp only [List.mem_cons,List.not_mem_nil,or_false] at hx;exact⟨_,hx,ht⟩
 have r5:Wd (.sl 0) (dL (r.l++ [.i th])):=BX (sn (yE T.hr) ht) (by simp) (by simp; omega);have l5:(dL (r.l++ [.i th])).l.length≤n+1:=by rw [aX]; simp; omega
 have r20:Wd (.sl 0) (dL (v.l++ [.i arg])):=BX (sn (yE T.hv) ha) (by simp) (by simp; omega);have l20:(dL (v.l++ [.i arg])).l.length≤n+1:=by rw [aX]; simp; omega
 have r12:Wd (.sl 0) (dL (wo th r.l++ [.i th])):=BX (sn (fun x hx=>(yE T.hr) x (List.mem_filter.1 hx).1) ht) (by simp) (by have:=aeV th r.l; simp; omega);have l12:(dL (wo th r.l++ [.i th])).l.length≤n+1:=by have:=aeV th r.l; rw [aX]; simp; omega
 have r6: ∀k,Wd (.sl 0) (iH (.i 2) (r.l.take k++r.l.drop (k+1))):=fun k=>Jy (fun x hx=>by
  rcases List.mem_append.1 hx with hx | hx
  ·exact (yE T.hr) x (List.mem_of_mem_take hx)
  ·exact (yE T.hr) x (List.mem_of_mem_drop hx)) (by simp only [List.length_append,List.length_take,List.length_drop]; omega)
 have l6: ∀k,(iH (.i 2) (r.l.take k++r.l.drop (k+1))).l.length≤n+1:=fun k=>by rw [lX]; simp only [List.length_append,List.length_take,List.length_drop]; omega
 have r21:Wd (.sl 0) (iH v (v.l.drop 1)):=Jy (fun x hx=>(yE T.hv) x (List.mem_of_mem_drop hx)) (by simp; omega);have l21:(iH v (v.l.drop 1)).l.length≤n+1:=by rw [lX]; simp; omega
 have r13:Wd (.sl 0) (iH r (r.l.drop 1)):=Jy (fun x hx=>(yE T.hr) x (List.mem_of_mem_drop hx)) (by simp; omega);have l13:(iH r (r.l.drop 1)).l.length≤n+1:=by rw [lX]; simp; omega
 have r14:Wd (.sl 0) (.i 1):=.nil 0;have l14:(D.i 1).l.length≤n+1:=by simp [D.l]
 unfold act
 repeat' refine N8.ite ?_ ?_
 all_goals first
  | trivial
  | exact⟨by first | exact T.ho | exact ht | exact hm,by first | exact T.hc | exact w _ | exact ha | exact hz,by first | exact T.hd | exact .inr rfl,by first | exact T.hg | exact w _,by first | exact T.hr | exact r5 | exact r6 _ | exact r12 | exact r13 | exact r14,by first | exact hr1 | exact l5 | exact l6 _ | exact l12 | exact l13 | exact l14,by first | exact T.hv | exact r20 | exact r21,by first | exact hv1 | exact l20 | exact l21,by first | exact e1 | exact e2 hm | exact e2 ht,by first | exact .inl rfl | exact .inr rfl⟩
theorem aeK (h12:op≠12) (h24:op≠24):NoM (act M mo th op arg tries o c dn g r v):=by
 unfold act;rw [if_neg h12,if_neg h24]
 repeat' refine NoM.ite ?_ ?_
 all_goals first
  | exact rfl
  | trivial
end
end Go.As.Try
end
section
namespace Go.As.Try
open Go hiding Stat Spec shape
open Go.As
set_option maxRecDepth 100000
def isN (ys:List Int):Prop:= ∃v:Int,ys= [v]∧iI .i64 v
theorem ajG:isN [0]:=⟨0,rfl,by constructor <;> omega⟩
theorem ajF:isN [1]:=⟨1,rfl,by constructor <;> omega⟩
theorem auB (z:Int):isN [IntKind.i64.wrap z]:=⟨_,rfl,wrap_in z⟩
theorem KJ: ∀{d x:D},x∈d.l→SizeOf.sizeOf x < SizeOf.sizeOf d
 | .i _,x,h=>by simp [D.l] at h
 | .p a b,x,h=>by
   simp only [D.l,List.mem_cons] at h;rcases h with rfl | h
   ·simp only [D.p.sizeOf_spec]; omega
   ·have:=KJ (d:=b) h;simp only [D.p.sizeOf_spec]; omega
def Nums (l:List D):Prop:= ∀y∈l,iI .i64 (anB y).n
theorem aiJ:Nums []:=fun y h=>by simp at h
theorem Fj: ∀{l:List D} {k v:D},Nums l→iI .i64 v.n→Nums (Jl l k v)
 | [],k,v,_,hv=>by intro y hy;simp only [Jl,List.mem_cons,List.not_mem_nil,or_false] at hy;subst hy;exact hv
 | d :: l,k,v,hl,hv=>by
   intro y hy;simp only [Jl] at hy;split at hy
   ·simp only [List.mem_cons] at hy;rcases hy with rfl | hy
    ·exact hv
    ·exact hl y (by simp [hy])
   ·simp only [List.mem_cons] at hy;rcases hy with rfl | hy
    ·exact hl _ (by simp)
    ·exact Fj (fun z hz=>hl z (by simp [hz])) hv y hy
theorem Vd: ∀{l:List D} {k:D},Nums l→iI .i64 ((uU l k).getD (.i 0)).n
 | [],k,_=>by constructor <;> simp [uU,D.n]
 | d :: l,k,hl=>by
   simp only [uU];split
   ·exact hl d (by simp)
   ·exact Vd fun y hy=>hl y (by simp [hy])
theorem aqM {l:List D} {k:D} (h:Nums l):isN [((uU l k).getD (.i 0)).n]:=⟨_,rfl,Vd h⟩
def Ints (d:D):Prop:= ∀x∈d.l,iI .i64 x.n
theorem ints_at {d:D} (h:Ints d) {i:Int} (h0: ¬i < 0) (h1:i < (d.l.length:Int)):iI .i64 (d.at i).n:=by obtain⟨k,rfl⟩ : ∃k:Nat,i=(k:Int):=⟨i.toNat,by omega⟩;rw [aZ (by omega:k < d.l.length)];exact h _ (List.getElem_mem _)
set_option maxHeartbeats 4000000 in
theorem VE: ∀(N:Nat) (kids:D),SizeOf.sizeOf kids≤N→Wd (.sl 6) kids→∀(k n:Int) (s loc:D),iI .i64 n→Ints loc→Tot 1950 [k,enc s,n,enc kids,enc loc] isN
 | 0,kids,hN,_,_,_,_,_,_,_=>by exfalso;cases kids <;> simp at hN
 | N+1,kids,hN,hk,k,n,s,loc,hn,hi=>by
   have sub: ∀i:Nat,∃v:Int,iI .i64 v∧(i < kids.l.length→L 1950 [((kids.at (i:Int)).hd 0).n,enc ((kids.at (i:Int)).hd 1),((kids.at (i:Int)).hd 2).n,enc ((kids.at (i:Int)).hd 3),enc loc]=some [v]):=by
    intro i;by_cases hil:i < kids.l.length
    ·obtain⟨k',s',n',ks',he,_,_,hn',h2⟩:=C9 hk hil
     have hsz:SizeOf.sizeOf ks' < SizeOf.sizeOf kids.l[i]:=by rw [he];exact KJ (by rw [aX]; simp)
     have hsz2:=KJ (List.getElem_mem hil);obtain⟨ys,hL,v,rfl,hv⟩:=VE N ks' (by omega) h2 k' n' s' loc hn' hi;refine⟨v,hv,fun _=>?_⟩;rw [aZ hil,he];simp only [zg,Option.getD_some];exact hL
    ·exact⟨0,by constructor <;> omega,fun h=>absurd h hil⟩
   obtain⟨v0,hv0,h0⟩:=sub 0;obtain⟨v1,hv1,h1⟩:=sub 1;by_cases l1:(kids.l.length:Int)=1
   ·have h0:=h0 (by omega);simp only [Int.natCast_zero] at h0;refine Tot.of ?_;rw [aaZ];simp only [UM,zz,l1,h0]
    repeat' first | exact .out ⟨_,rfl,hn⟩ | exact .out ajG | exact .out ajF | exact .out (auB _) | exact .out ⟨_,rfl,ints_at hi ‹_› ‹_›⟩ | refine .ite (fun _=>?_) (fun _=>?_)
   ·by_cases l2:(kids.l.length:Int)=2
    ·have h0:=h0 (by omega);have h1:=h1 (by omega);simp only [Int.natCast_zero,Int.natCast_one] at h0 h1;refine Tot.of ?_;rw [aaZ];simp only [UM,zz,l1,l2,h0,h1]
     repeat' first | exact .out ⟨_,rfl,hn⟩ | exact .out ajG | exact .out ajF | exact .out (auB _) | exact .out ⟨_,rfl,ints_at hi ‹_› ‹_›⟩ | (simp only [aX]; exact .out (aqM (Fj (Fj (Fj aiJ (wrap_in _)) (wrap_in _)) (wrap_in _)))) | refine .ite (fun _=>?_) (fun _=>?_)
    ·refine Tot.of ?_;rw [aaZ];simp only [UM,zz,l1,l2]
     repeat' first | exact .out ⟨_,rfl,hn⟩ | exact .out ajG | exact .out ajF | exact .out ⟨_,rfl,ints_at hi ‹_› ‹_›⟩ | refine .ite (fun _=>?_) (fun _=>?_)
end Go.As.Try
end
section
namespace Go.As.Try
open Go hiding Stat Spec shape
open Go.As
set_option maxRecDepth 100000
structure Kt (x:D) (a:Int) (lc:D) (w o g tr:Int):Prop where
 is:x=dL [.i a,lc,.i w,.i o,.i g,.i tr]
 ha:iI .i64 a
 hl:Wd (.sl 0) lc
 hw:iI .u8 w
 ho:iI .i64 o
 hg:iI .i64 g
 ht:iI .i64 tr
theorem lS {d:D} (h:Wd (.sl 8) d): ∀x∈d.l,∃a lc w o g tr,Kt x a lc w o g tr:=by intro x hx;obtain⟨r,rfl,hl,hc⟩:=h.elN (cs:=[.int .i64,.sl 0,.int .u8,.int .i64,.int .i64,.int .i64]) rfl x hx;obtain⟨a,b,c,d,e,f,rfl⟩:=six hl;obtain⟨a,rfl,ha⟩:=(hc 0 _ _ rfl rfl).i;obtain⟨w,rfl,hw⟩:=(hc 2 _ _ rfl rfl).i;obtain⟨o,rfl,ho⟩:=(hc 3 _ _ rfl rfl).i;obtain⟨g,rfl,hg⟩:=(hc 4 _ _ rfl rfl).i;obtain⟨t,rfl,ht⟩:=(hc 5 _ _ rfl rfl).i;exact⟨a,b,w,o,g,t,rfl,ha,hc 1 _ _ rfl rfl,hw,ho,hg,ht⟩
structure Tk (d:D):Prop where
 wd:Wd (.sl 8) d
 sh:d=dL d.l
 few:d.l.length≤2199023255500
theorem J9 {d:D} (h:Wd (.sl 8) d) (hn:0 < d.l.length):Tk d:=by
 refine⟨h,?_,?_⟩
 ·rcases h.sh with rfl | rfl | ⟨h1,_⟩
  ·simp [D.l] at hn
  ·simp [D.l] at hn
  ·exact h1
 ·have hr:=h.room;have h3:yA 8=64:=rfl;rw [h3] at hr;omega
theorem Ae (a b c d e f x:D):fA [a,b,c,d,e,f] 1 x= [a,x,c,d,e,f]:=rfl
theorem bP (j:Nat) (xs:List Int):fin L (.jump j xs)=L j xs:=rfl
theorem bW (ys:List Int):fin L (.out ys)=some ys:=rfl
def EF (lc:D):Int:=if 0 < lc.l.length then 3 else 4
theorem Wy {lc:D} (h:(0:Int) < (lc.l.length:Int)):EF lc=3:=if_pos (by omega)
theorem Ud (d:D) (h:Th d) (x0:Int) (k:D): ∀(j i:Nat),i+j=d.l.length→L 9051 [x0,(d.l.length:Int),(i:Int),enc d,enc k]=L 9060 [x0,(k.l.length:Int),0,enc d,enc k]
 | 0,i,hi=>by
   have c1: ¬(i:Int) < (d.l.length:Int):=by omega
   rw [aT,alB];simp only [Zg,zz,c1,bP,Int.natCast_zero]
 | j+1,i,hi=>by
   have hl:=h.few;have hil:i < d.l.length:=by omega
   have c1:(i:Int) < (d.l.length:Int):=by omega
   have c2: ¬((i:Int) < 0):=by omega
   have w:=bD (n:=i) (by omega);have ih:=Ud d h x0 k j (i+1) (by omega);obtain⟨o,c,dn,g,r,v,he,_,_,_,_,hr,hv⟩:=h.wd.thing _ (List.getElem_mem hil);have hs:=set_self h.sh hil;rw [he] at hs;rw [aT,alB];rcases cO hr with rfl | rfl | ⟨r1,r2⟩ <;> rcases cO hv with rfl | rfl | ⟨v1,v2⟩
   all_goals
    simp only [Zg,zz,c1,c2,w,aZ hil,he,iJ,aX,List.getElem?_cons_zero,List.getElem?_cons_succ,RN,RJ,hs,len1,len2,xM,pU]
    try simp only [r1,r2,zz]
    try simp only [v1,v2,zz]
    try simp only [bP]
    exact ih
theorem abJ (d:D) (h:Th d) (x0:Int): ∀(j i:Nat),i+j=d.l.length→L 9052 [x0,(d.l.length:Int),(i:Int),enc d]=L 9061 [x0,enc d]
 | 0,i,hi=>by
   have c1: ¬(i:Int) < (d.l.length:Int):=by omega
   rw [aT,alA];simp only [Zf,zz,c1,bP,Int.natCast_zero]
 | j+1,i,hi=>by
   have hl:=h.few;have hil:i < d.l.length:=by omega
   have c1:(i:Int) < (d.l.length:Int):=by omega
   have c2: ¬((i:Int) < 0):=by omega
   have w:=bD (n:=i) (by omega);have ih:=abJ d h x0 j (i+1) (by omega);obtain⟨o,c,dn,g,r,v,he,_,_,_,_,hr,hv⟩:=h.wd.thing _ (List.getElem_mem hil);have hs:=set_self h.sh hil;rw [he] at hs;rw [aT,alA];rcases cO hr with rfl | rfl | ⟨r1,r2⟩ <;> rcases cO hv with rfl | rfl | ⟨v1,v2⟩
   all_goals
    simp only [Zf,zz,c1,c2,w,aZ hil,he,iJ,aX,List.getElem?_cons_zero,List.getElem?_cons_succ,RN,RJ,hs,len1,len2,xM,pU]
    try simp only [r1,r2,zz]
    try simp only [v1,v2,zz]
    try simp only [bP]
    exact ih
theorem abP (k:D) (h:Tk k) (x0:Int) (s:D): ∀(j i:Nat),(hx:x0 < 0∨(k.l.length:Int)≤x0)→i+j=k.l.length→L 9060 [x0,(k.l.length:Int),(i:Int),enc s,enc k]=some [0,x0,enc s,enc k]
 | 0,i,hx,hi=>by
   have c1: ¬(i:Int) < (k.l.length:Int):=by omega
   rw [aT,VZ];by_cases c0:(i:Int)=x0
   ·subst c0;simp only [EN,zz,c1,bW]
   ·simp only [EN,zz,c0,c1,bW]
 | j+1,i,hx,hi=>by
   have hl:=h.few;have hil:i < k.l.length:=by omega
   have c1:(i:Int) < (k.l.length:Int):=by omega
   have c2: ¬((i:Int) < 0):=by omega
   have c0: ¬((i:Int)=x0):=by omega
   have w:=bD (n:=i) (by omega);have ih:=abP k h x0 s j (i+1) hx (by omega);obtain⟨a,lc,w',o,g,tr,T⟩:=lS h.wd _ (List.getElem_mem hil);have hs:=set_self h.sh hil;rw [T.is] at hs;rw [aT,VZ];rcases cO T.hl with rfl | rfl | ⟨r1,r2⟩
   all_goals
    simp only [EN,zz,c0,c1,c2,w,aZ hil,T.is,iJ,aX,List.getElem?_cons_zero,List.getElem?_cons_succ,Ae,hs,len1,len2,xM,pU]
    try simp only [r1,r2,zz]
    try simp only [bP]
    exact ih
theorem abO (k:D) (h:Tk k) (x0:Int): ∀(j i:Nat),(hx:x0 < 0∨(k.l.length:Int)≤x0)→i+j=k.l.length→L 9063 [x0,(k.l.length:Int),(i:Int),enc k]=some [0,x0,enc (.i 1),enc k]
 | 0,i,hx,hi=>by
   have c1: ¬(i:Int) < (k.l.length:Int):=by omega
   rw [aT,VY];by_cases c0:(i:Int)=x0
   ·subst c0;simp only [EM,zz,c1,bW]
   ·simp only [EM,zz,c0,c1,bW]
 | j+1,i,hx,hi=>by
   have hl:=h.few;have hil:i < k.l.length:=by omega
   have c1:(i:Int) < (k.l.length:Int):=by omega
   have c2: ¬((i:Int) < 0):=by omega
   have c0: ¬((i:Int)=x0):=by omega
   have w:=bD (n:=i) (by omega);have ih:=abO k h x0 j (i+1) hx (by omega);obtain⟨a,lc,w',o,g,tr,T⟩:=lS h.wd _ (List.getElem_mem hil);have hs:=set_self h.sh hil;rw [T.is] at hs;rw [aT,VY];rcases cO T.hl with rfl | rfl | ⟨r1,r2⟩
   all_goals
    simp only [EM,zz,c0,c1,c2,w,aZ hil,T.is,iJ,aX,List.getElem?_cons_zero,List.getElem?_cons_succ,Ae,hs,len1,len2,xM,pU]
    try simp only [r1,r2,zz]
    try simp only [bP]
    exact ih
theorem abN (k:D) (h:Tk k) (gi:Nat) (x4 x5 x6 x7 x8 x9:Int) (s:D): ∀(j i:Nat),gi < i→i+j=k.l.length→L 9069 [(gi:Int),(k.l.length:Int),(i:Int),enc s,enc k,x4,x5,x6,x7,x8,x9]=some [3,(gi:Int),enc s,enc k,x4,x5,x6,x7,x8,x9]
 | 0,i,hg,hi=>by
   have c1: ¬(i:Int) < (k.l.length:Int):=by omega
   have c0: ¬((i:Int)=(gi:Int)):=by omega
   rw [aT,akZ];simp only [Ze,zz,c0,c1,bW]
 | j+1,i,hg,hi=>by
   have hl:=h.few;have hil:i < k.l.length:=by omega
   have c1:(i:Int) < (k.l.length:Int):=by omega
   have c2: ¬((i:Int) < 0):=by omega
   have c0: ¬((i:Int)=(gi:Int)):=by omega
   have w:=bD (n:=i) (by omega);have ih:=abN k h gi x4 x5 x6 x7 x8 x9 s j (i+1) (by omega) (by omega);obtain⟨a,lc,w',o,g,tr,T⟩:=lS h.wd _ (List.getElem_mem hil);have hs:=set_self h.sh hil;rw [T.is] at hs;rw [aT,akZ];rcases cO T.hl with rfl | rfl | ⟨r1,r2⟩
   all_goals
    simp only [Ze,zz,c0,c1,c2,w,aZ hil,T.is,iJ,aX,List.getElem?_cons_zero,List.getElem?_cons_succ,Ae,hs,len1,len2,xM,pU]
    try simp only [r1,r2,zz]
    try simp only [bP]
    exact ih
theorem Uf (k:D) (h:Tk k) (gi:Nat) (x4 x5 x6 x7 x8 x9:Int) (s:D): ∀(j i:Nat),gi < i→i+j=k.l.length→L 9070 [(gi:Int),(k.l.length:Int),(i:Int),enc s,enc k,x4,x5,x6,x7,x8,x9]=some [4,(gi:Int),enc s,enc k,x4,x5,x6,x7,x8,x9]
 | 0,i,hg,hi=>by
   have c1: ¬(i:Int) < (k.l.length:Int):=by omega
   have c0: ¬((i:Int)=(gi:Int)):=by omega
   rw [aT,akY];simp only [Zd,zz,c0,c1,bW]
 | j+1,i,hg,hi=>by
   have hl:=h.few;have hil:i < k.l.length:=by omega
   have c1:(i:Int) < (k.l.length:Int):=by omega
   have c2: ¬((i:Int) < 0):=by omega
   have c0: ¬((i:Int)=(gi:Int)):=by omega
   have w:=bD (n:=i) (by omega);have ih:=Uf k h gi x4 x5 x6 x7 x8 x9 s j (i+1) (by omega) (by omega);obtain⟨a,lc,w',o,g,tr,T⟩:=lS h.wd _ (List.getElem_mem hil);have hs:=set_self h.sh hil;rw [T.is] at hs;rw [aT,akY];rcases cO T.hl with rfl | rfl | ⟨r1,r2⟩
   all_goals
    simp only [Zd,zz,c0,c1,c2,w,aZ hil,T.is,iJ,aX,List.getElem?_cons_zero,List.getElem?_cons_succ,Ae,hs,len1,len2,xM,pU]
    try simp only [r1,r2,zz]
    try simp only [bP]
    exact ih
theorem abM (k:D) (h:Tk k) (gi:Nat) (x4 x5 x6 x7 x8 x9:Int): ∀(j i:Nat),gi < i→i+j=k.l.length→L 9071 [(gi:Int),(k.l.length:Int),(i:Int),enc k,x4,x5,x6,x7,x8,x9]=some [3,(gi:Int),enc (.i 1),enc k,x4,x5,x6,x7,x8,x9]
 | 0,i,hg,hi=>by
   have c1: ¬(i:Int) < (k.l.length:Int):=by omega
   have c0: ¬((i:Int)=(gi:Int)):=by omega
   rw [aT,akX];simp only [Zc,zz,c0,c1,bW]
 | j+1,i,hg,hi=>by
   have hl:=h.few;have hil:i < k.l.length:=by omega
   have c1:(i:Int) < (k.l.length:Int):=by omega
   have c2: ¬((i:Int) < 0):=by omega
   have c0: ¬((i:Int)=(gi:Int)):=by omega
   have w:=bD (n:=i) (by omega);have ih:=abM k h gi x4 x5 x6 x7 x8 x9 j (i+1) (by omega) (by omega);obtain⟨a,lc,w',o,g,tr,T⟩:=lS h.wd _ (List.getElem_mem hil);have hs:=set_self h.sh hil;rw [T.is] at hs;rw [aT,akX];rcases cO T.hl with rfl | rfl | ⟨r1,r2⟩
   all_goals
    simp only [Zc,zz,c0,c1,c2,w,aZ hil,T.is,iJ,aX,List.getElem?_cons_zero,List.getElem?_cons_succ,Ae,hs,len1,len2,xM,pU]
    try simp only [r1,r2,zz]
    try simp only [bP]
    exact ih
theorem Ue (k:D) (h:Tk k) (gi:Nat) (x4 x5 x6 x7 x8 x9:Int): ∀(j i:Nat),gi < i→i+j=k.l.length→L 9072 [(gi:Int),(k.l.length:Int),(i:Int),enc k,x4,x5,x6,x7,x8,x9]=some [4,(gi:Int),enc (.i 1),enc k,x4,x5,x6,x7,x8,x9]
 | 0,i,hg,hi=>by
   have c1: ¬(i:Int) < (k.l.length:Int):=by omega
   have c0: ¬((i:Int)=(gi:Int)):=by omega
   rw [aT,akW];simp only [Zb,zz,c0,c1,bW]
 | j+1,i,hg,hi=>by
   have hl:=h.few;have hil:i < k.l.length:=by omega
   have c1:(i:Int) < (k.l.length:Int):=by omega
   have c2: ¬((i:Int) < 0):=by omega
   have c0: ¬((i:Int)=(gi:Int)):=by omega
   have w:=bD (n:=i) (by omega);have ih:=Ue k h gi x4 x5 x6 x7 x8 x9 j (i+1) (by omega) (by omega);obtain⟨a,lc,w',o,g,tr,T⟩:=lS h.wd _ (List.getElem_mem hil);have hs:=set_self h.sh hil;rw [T.is] at hs;rw [aT,akW];rcases cO T.hl with rfl | rfl | ⟨r1,r2⟩
   all_goals
    simp only [Zb,zz,c0,c1,c2,w,aZ hil,T.is,iJ,aX,List.getElem?_cons_zero,List.getElem?_cons_succ,Ae,hs,len1,len2,xM,pU]
    try simp only [r1,r2,zz]
    try simp only [bP]
    exact ih
theorem abL (k:D) (h:Tk k) (s:D) (gi:Nat) (hgi:gi < k.l.length) (a:Int) (lc:D) (w o g tr:Int) (T:Kt k.l[gi] a lc w o g tr): ∀(j i:Nat),i+j=gi→L 9060 [(gi:Int),(k.l.length:Int),(i:Int),enc s,enc k]=some [EF lc,(gi:Int),enc s,enc k,a,enc lc,w,o,g,tr]
 | 0,i,hi=>by
   have hl:=h.few;have he:i=gi:=by omega
   subst he;have c1:(i:Int) < (k.l.length:Int):=by omega
   have c2: ¬((i:Int) < 0):=by omega
   have w':=bD (n:=i) (by omega);rw [aT,VZ];rcases cO T.hl with rfl | rfl | ⟨r1,r2⟩
   ·have ih:=Uf k h i a (enc (.i 1)) w o g tr s (k.l.length - (i+1)) (i+1) (by omega) (by omega);simp only [EN,zz,c1,c2,w',aZ hgi,T.is,iJ,aX,List.getElem?_cons_zero,List.getElem?_cons_succ,List.getElem?_nil,Option.getD_none,len1,len2,xM,pU,bP];exact ih
   ·have ih:=Uf k h i a (enc (.i 2)) w o g tr s (k.l.length - (i+1)) (i+1) (by omega) (by omega);simp only [EN,zz,c1,c2,w',aZ hgi,T.is,iJ,aX,List.getElem?_cons_zero,List.getElem?_cons_succ,List.getElem?_nil,Option.getD_none,len1,len2,xM,pU,bP];exact ih
   ·have ih:=abN k h i a (enc lc) w o g tr s (k.l.length - (i+1)) (i+1) (by omega) (by omega);simp only [EN,zz,c1,c2,w',aZ hgi,T.is,iJ,aX,List.getElem?_cons_zero,List.getElem?_cons_succ,len1,len2,xM,pU];simp only [r1,r2,zz,bP];rw [Wy r1];exact ih
 | j+1,i,hi=>by
   have hl:=h.few;have hil:i < k.l.length:=by omega
   have c1:(i:Int) < (k.l.length:Int):=by omega
   have c2: ¬((i:Int) < 0):=by omega
   have c0: ¬((i:Int)=(gi:Int)):=by omega
   have w1:=bD (n:=i) (by omega);have ih:=abL k h s gi hgi a lc w o g tr T j (i+1) (by omega);obtain⟨a',lc',w',o',g',tr',T'⟩:=lS h.wd _ (List.getElem_mem hil);have hs:=set_self h.sh hil;rw [T'.is] at hs;rw [aT,VZ];rcases cO T'.hl with rfl | rfl | ⟨r1,r2⟩
   all_goals
    simp only [EN,zz,c0,c1,c2,w1,aZ hil,T'.is,iJ,aX,List.getElem?_cons_zero,List.getElem?_cons_succ,Ae,hs,len1,len2,xM,pU]
    try simp only [r1,r2,zz]
    try simp only [bP]
    exact ih
theorem abK (k:D) (h:Tk k) (gi:Nat) (hgi:gi < k.l.length) (a:Int) (lc:D) (w o g tr:Int) (T:Kt k.l[gi] a lc w o g tr): ∀(j i:Nat),i+j=gi→L 9063 [(gi:Int),(k.l.length:Int),(i:Int),enc k]=some [EF lc,(gi:Int),enc (.i 1),enc k,a,enc lc,w,o,g,tr]
 | 0,i,hi=>by
   have hl:=h.few;have he:i=gi:=by omega
   subst he;have c1:(i:Int) < (k.l.length:Int):=by omega
   have c2: ¬((i:Int) < 0):=by omega
   have w':=bD (n:=i) (by omega);rw [aT,VY];rcases cO T.hl with rfl | rfl | ⟨r1,r2⟩
   ·have ih:=Ue k h i a (enc (.i 1)) w o g tr (k.l.length - (i+1)) (i+1) (by omega) (by omega);simp only [EM,zz,c1,c2,w',aZ hgi,T.is,iJ,aX,List.getElem?_cons_zero,List.getElem?_cons_succ,List.getElem?_nil,Option.getD_none,len1,len2,xM,pU,bP];exact ih
   ·have ih:=Ue k h i a (enc (.i 2)) w o g tr (k.l.length - (i+1)) (i+1) (by omega) (by omega);simp only [EM,zz,c1,c2,w',aZ hgi,T.is,iJ,aX,List.getElem?_cons_zero,List.getElem?_cons_succ,List.getElem?_nil,Option.getD_none,len1,len2,xM,pU,bP];exact ih
   ·have ih:=abM k h i a (enc lc) w o g tr (k.l.length - (i+1)) (i+1) (by omega) (by omega);simp only [EM,zz,c1,c2,w',aZ hgi,T.is,iJ,aX,List.getElem?_cons_zero,List.getElem?_cons_succ,len1,len2,xM,pU];simp only [r1,r2,zz,bP];rw [Wy r1];exact ih
 | j+1,i,hi=>by
   have hl:=h.few;have hil:i < k.l.length:=by omega
   have c1:(i:Int) < (k.l.length:Int):=by omega
   have c2: ¬((i:Int) < 0):=by omega
   have c0: ¬((i:Int)=(gi:Int)):=by omega
   have w1:=bD (n:=i) (by omega);have ih:=abK k h gi hgi a lc w o g tr T j (i+1) (by omega);obtain⟨a',lc',w',o',g',tr',T'⟩:=lS h.wd _ (List.getElem_mem hil);have hs:=set_self h.sh hil;rw [T'.is] at hs;rw [aT,VY];rcases cO T'.hl with rfl | rfl | ⟨r1,r2⟩
   all_goals
    simp only [EM,zz,c0,c1,c2,w1,aZ hil,T'.is,iJ,aX,List.getElem?_cons_zero,List.getElem?_cons_succ,Ae,hs,len1,len2,xM,pU]
    try simp only [r1,r2,zz]
    try simp only [bP]
    exact ih
structure Sk (s k:D):Prop where
 ws:Wd (.sl 7) s
 wk:Wd (.sl 8) k
 n2s:s≠.i 2
 n2k:k≠.i 2
theorem XP {t:Nat} {d:D} (h:Wd (.sl t) d) (h2:d≠.i 2):d= .i 1∨0 < d.l.length:=by
 rcases h.sh with h1 | h1 | ⟨_,h1⟩
 ·exact .inl h1
 ·exact absurd h1 h2
 ·exact .inr (List.length_pos_iff.2 h1)
theorem aqG (x0:Int) (s:D):L 9061 [x0,enc s]=some [1,x0,enc s]:=by rw [aT,auI];simp only [afN,zz];split <;> rfl
theorem aqF (x0:Int):L 9064 [x0]=some [1,x0,enc (.i 1)]:=by rw [aT,auH];simp only [afM,zz];split <;> rfl
theorem akB (x0:Int) (k:D):L 9054 [x0,enc k]=L 9063 [x0,(k.l.length:Int),0,enc k]:=by rw [aT,auK];simp only [afO,zz,bP]
theorem ayR (x0:Int):L 9055 [x0]=L 9064 [x0]:=by rw [aT,auJ];rfl
section
variable {s k:D} (h:Sk s k)
include h
theorem QN {gi:Nat} (hgi:gi < k.l.length) {a:Int} {lc:D} {w o g tr:Int} (T:Kt k.l[gi] a lc w o g tr):L 9050 [(gi:Int),enc s,enc k]=some [EF lc,(gi:Int),enc s,enc k,a,enc lc,w,o,g,tr]:=by
 have hk:0 < k.l.length:=by omega
 have hK:=J9 h.wk hk;have hl':=hK.few;have c1':(0:Int) < (k.l.length:Int):=by omega
 have c2':(k.l.length:Int) < 2199023255552:=by omega
 rw [aT,alC];rcases XP h.ws h.n2s with rfl | hs
 ·simp only [Iu,zz,len1,xM,c1',c2',bP];exact (akB _ k).trans (abK k hK gi hgi a lc w o g tr T gi 0 (by omega))
 ·have hT:=Ir h.ws hs;have hl:=hT.few;have c1:(0:Int) < (s.l.length:Int):=by omega
  have c2:(s.l.length:Int) < 1759218604441:=by omega
  simp only [Iu,zz,xM,c1,c2,c1',c2',bP];exact (Ud s hT _ k s.l.length 0 (by omega)).trans (abL k hK s gi hgi a lc w o g tr T gi 0 (by omega))
theorem aeH {x:Int} (hx:x < 0∨(k.l.length:Int)≤x):L 9050 [x,enc s,enc k]=some [0,x,enc s,enc k]∨L 9050 [x,enc s,enc k]=some [1,x,enc s]∧k= .i 1:=by
 rw [aT,alC];rcases XP h.ws h.n2s with rfl | hs <;> rcases XP h.wk h.n2k with rfl | hk
 ·refine .inr ⟨?_,rfl⟩;simp only [Iu,zz,len1,xM,bP];exact (ayR _).trans (aqF _)
 ·have hK:=J9 h.wk hk;have hl:=hK.few;have c1:(0:Int) < (k.l.length:Int):=by omega
  have c2:(k.l.length:Int) < 2199023255552:=by omega
  refine .inl ?_;simp only [Iu,zz,len1,xM,c1,c2,bP];exact (akB _ k).trans (abO k hK _ k.l.length 0 hx (by omega))
 ·have hT:=Ir h.ws hs;have hl:=hT.few;have c1:(0:Int) < (s.l.length:Int):=by omega
  have c2:(s.l.length:Int) < 1759218604441:=by omega
  refine .inr ⟨?_,rfl⟩;simp only [Iu,zz,len1,xM,c1,c2,bP];exact (abJ s hT _ s.l.length 0 (by omega)).trans (aqG _ s)
 ·have hT:=Ir h.ws hs;have hl:=hT.few;have c1:(0:Int) < (s.l.length:Int):=by omega
  have c2:(s.l.length:Int) < 1759218604441:=by omega
  have hK:=J9 h.wk hk;have hl':=hK.few;have c1':(0:Int) < (k.l.length:Int):=by omega
  have c2':(k.l.length:Int) < 2199023255552:=by omega
  refine .inl ?_;simp only [Iu,zz,xM,c1,c2,c1',c2',bP];exact (Ud s hT _ k s.l.length 0 (by omega)).trans (abP k hK _ s k.l.length 0 hx (by omega))
end
end Go.As.Try
end
section
namespace Go.As.Try
open Go hiding Stat Spec shape
open Go.As
set_option maxRecDepth 100000
def EqI (a b:D) (i:Nat):Prop:= ∀(k:Nat) (h1:k < a.l.length) (h2:k < b.l.length),i≤k→(a.l[k]).n=(b.l[k]).n
theorem EqI.step {a b:D} {i:Nat} (h1:i < a.l.length) (h2:i < b.l.length) (h:(a.l[i]).n=(b.l[i]).n):EqI a b i↔EqI a b (i+1):=by
 constructor
 ·intro q k x y z;exact q k x y (by omega)
 ·intro q k x y z;by_cases hk:k=i
  ·subst hk;exact h
  ·exact q k x y (by omega)
theorem EqI.end' {a b:D} {i:Nat} (h:a.l.length≤i):EqI a b i:=fun k h1 _ h3=>absurd h1 (by omega)
section
variable {a b:D} (hle:a.l.length=b.l.length) (hlen:a.l.length≤140737488351232)
include hle hlen
theorem PK: ∀(j i:Nat),i+j=a.l.length→∃c:Int,L 251 [enc a,enc b,(i:Int)]=some [c]∧(c=0∨c=1)∧(c=1↔EqI a b i)
 | 0,i,hi=>by
   have c1: ¬(i:Int) < (a.l.length:Int):=by omega
   refine⟨1,?_,.inr rfl,fun _=>EqI.end' (by omega),fun _=>rfl⟩;rw [aT,e251];simp only [agK,zz,c1,fin]
 | j+1,i,hi=>by
   have hil:i < a.l.length:=by omega
   have hib:i < b.l.length:=by omega
   have c1:(i:Int) < (a.l.length:Int):=by omega
   have c2: ¬((i:Int) < 0):=by omega
   have c3:(i:Int) < (b.l.length:Int):=by omega
   have w:=bD (n:=i) (by omega);obtain⟨c,h1,h2,h3⟩:=PK j (i+1) (by omega);by_cases he:(a.l[i]).n=(b.l[i]).n
   ·refine⟨c,?_,h2,h3.trans (EqI.step hil hib he).symm⟩;rw [aT,e251];simp only [agK,zz,c1,c2,c3,w,aZ hil,aZ hib,he,fin,h1]
   ·refine⟨0,?_,.inl rfl,fun h=>absurd h (by omega),fun h=>absurd (h i hil hib (Nat.le_refl i)) he⟩;rw [aT,e251];simp only [agK,zz,c1,c2,c3,w,aZ hil,aZ hib,he,fin]
end
def aoC (a b:D):Prop:=a.l.length=b.l.length∧EqI a b 0
theorem adI (a b:D) (hlen:a.l.length≤140737488351232): ∃c:Int,L 250 [enc a,enc b]=some [c]∧(c=0∨c=1)∧(c=1↔aoC a b):=by
 by_cases hl:a.l.length=b.l.length
 ·obtain⟨c,h1,h2,h3⟩:=PK hl hlen a.l.length 0 (by omega);refine⟨c,?_,h2,h3.trans ⟨fun h=> ⟨hl,h⟩,fun h=>h.2⟩⟩;have hl':(a.l.length:Int)=(b.l.length:Int):=by omega
  rw [aT,e250,apG,dP,if_pos,nT]
  ·simp only [List.map,bI,aP,Nat.reduceLT,aH,aK,fin];exact h1
  ·simp only [iG,gU,aP,Nat.reduceLT,aH,aK,aA,iK];exact hl'
 ·refine⟨0,?_,.inl rfl,fun h=>absurd h (by omega),fun h=>absurd h.1 hl⟩;have hl': ¬(a.l.length:Int)=(b.l.length:Int):=by omega
  rw [aT,e250,apG,dP,if_neg]
  ·simp only [jK,List.map,bI,fin]
  ·simp only [iG,gU,aP,Nat.reduceLT,aH,aK,aA,iK];exact hl'
theorem Oo (x y:D) (hle:x.l.length=y.l.length) (hlen:x.l.length≤140737488351232) (x0 x1 x2:Int) (i:Nat) (hi:i < 9223372036854775807) (c:Int) (hc:c=0∨c=1) (h:L 201 [x0,x1,x2,((i+1:Nat):Int)]=some [c]) (x6 x7 x8 x9 x10 x12 x13 x14 x15 x16:Int) :
 ∀(j k:Nat),k+j=x.l.length→∃e:Int,L 202 [x0,x1,x2,(i:Int),(x.l.length:Int),(k:Int),x6,x7,x8,x9,x10,enc x,x12,x13,x14,x15,x16,enc y]=some [e]∧(e=0∨e=1)∧(e=1↔EqI x y k∧c=1)
 | 0,k,hk=>by
   have c1: ¬(k:Int) < (x.l.length:Int):=by omega
   have w:=bD (n:=i) (by omega);refine⟨c,?_,hc,fun h=> ⟨EqI.end' (by omega),h⟩,fun h=>h.2⟩;rw [aT,asA];simp only [agM,zz,c1,w,fin,h]
 | j+1,k,hk=>by
   have hil:k < x.l.length:=by omega
   have hib:k < y.l.length:=by omega
   have c1:(k:Int) < (x.l.length:Int):=by omega
   have c2: ¬((k:Int) < 0):=by omega
   have c3:(k:Int) < (y.l.length:Int):=by omega
   have w:=bD (n:=k) (by omega);obtain⟨e,h1,h2,h3⟩:=Oo x y hle hlen x0 x1 x2 i hi c hc h x6 x7 x8 x9 x10 x12 x13 x14 x15 x16 j (k+1) (by omega);by_cases he:(x.l[k]).n=(y.l[k]).n
   ·refine⟨e,?_,h2,h3.trans ⟨fun q=> ⟨(EqI.step hil hib he).2 q.1,q.2⟩,fun q=> ⟨(EqI.step hil hib he).1 q.1,q.2⟩⟩⟩;rw [aT,asA];simp only [agM,zz,c1,c2,c3,w,aZ hil,aZ hib,he,fin,h1]
   ·refine⟨0,?_,.inl rfl,fun h=>absurd h (by omega),fun h=>absurd (h.1 k hil hib (Nat.le_refl k)) he⟩;rw [aT,asA];simp only [agM,zz,c1,c2,c3,w,aZ hil,aZ hib,he,fin]
end Go.As.Try
end
section
namespace Go.As.Try
open Go hiding Stat Spec shape
open Go.As
set_option maxRecDepth 100000
theorem yM (ρ) (a b:SB):((SB.and a b).den ρ=true)=(a.den ρ=true∧b.den ρ=true):=by simp [SB.den]
structure aCP (x y:D):Prop where
 o:(x.hd 0).n=(y.hd 0).n
 c:(x.hd 1).n=(y.hd 1).n
 d:(x.hd 2).n=0↔(y.hd 2).n=0
 g:(x.hd 3).n=(y.hd 3).n
 r:aoC (x.hd 4) (y.hd 4)
 v:aoC (x.hd 5) (y.hd 5)
def WC (a b:D) (i:Nat):Prop:= ∀(k:Nat) (h1:k < a.l.length) (h2:k < b.l.length),i≤k→aCP a.l[k] b.l[k]
theorem bits {p q:Int}:((¬(¬p=0∧¬q=0))∧¬(¬¬p=0∧¬¬q=0))↔¬(p=0↔q=0):=by omega
def RQ (s:D):Prop:= ∀x∈s.l,(x.hd 4).l.length≤140737488351232∧(x.hd 5).l.length≤140737488351232
section
variable {a b:D} (hle:a.l.length=b.l.length) (hlen:a.l.length≤140737488351232) (hr:RQ a)
include hle hlen hr
theorem OI: ∀(j i:Nat),i+j=a.l.length→∃c:Int,L 201 [enc a,enc b,(a.l.length:Int),(i:Int)]=some [c]∧(c=0∨c=1)∧(c=1↔WC a b i)
 | 0,i,hi=>by
   have c1: ¬(i:Int) < (a.l.length:Int):=by omega
   refine⟨1,?_,.inr rfl,fun _ k h1 _ h3=>absurd h1 (by omega),fun _=>rfl⟩;rw [aT,TW];simp only [t201,zz,c1,fin]
 | j+1,i,hi=>by
   have hil:i < a.l.length:=by omega
   have hib:i < b.l.length:=by omega
   have c1:(i:Int) < (a.l.length:Int):=by omega
   have c2: ¬((i:Int) < 0):=by omega
   have c3:(i:Int) < (b.l.length:Int):=by omega
   obtain⟨c,h1,h2,h3⟩:=OI j (i+1) (by omega);have hb:=hr _ (List.getElem_mem hil);by_cases b0:((a.l[i]).hd 0).n=((b.l[i]).hd 0).n
   case neg=>
    refine⟨0,?_,.inl rfl,fun h=>absurd h (by omega),fun h=>absurd (h i hil hib (Nat.le_refl i)).o b0⟩;rw [aT,TW];simp only [t201,zz,c1,c2,c3,aZ hil,aZ hib,b0,fin]
   by_cases b1:((a.l[i]).hd 1).n=((b.l[i]).hd 1).n
   case neg=>
    refine⟨0,?_,.inl rfl,fun h=>absurd h (by omega),fun h=>absurd (h i hil hib (Nat.le_refl i)).c b1⟩;rw [aT,TW];simp only [t201,zz,c1,c2,c3,aZ hil,aZ hib,b0,b1,fin]
   by_cases b2:(((a.l[i]).hd 2).n=0↔((b.l[i]).hd 2).n=0)
   case neg=>
    refine⟨0,?_,.inl rfl,fun h=>absurd h (by omega),fun h=>absurd (h i hil hib (Nat.le_refl i)).d b2⟩;rw [aT,TW];have b2':=bits.2 b2;simp only [t201,zz,yM,KL,c1,c2,c3,aZ hil,aZ hib,b0,b1,if_pos b2',fin]
   have b2': ¬_:=fun h=>bits.1 h b2;by_cases b3:((a.l[i]).hd 3).n=((b.l[i]).hd 3).n
   case neg=>
    refine⟨0,?_,.inl rfl,fun h=>absurd h (by omega),fun h=>absurd (h i hil hib (Nat.le_refl i)).g b3⟩;rw [aT,TW];simp only [t201,zz,yM,KL,c1,c2,c3,aZ hil,aZ hib,b0,b1,if_neg b2',b3,fin]
   obtain⟨e,g1,g2,g3⟩:=adI ((a.l[i]).hd 4) ((b.l[i]).hd 4) hb.1;by_cases b4:e=0
   ·subst b4;refine⟨0,?_,.inl rfl,fun h=>absurd h (by omega),fun h=>absurd (g3.2 (h i hil hib (Nat.le_refl i)).r) (by omega)⟩;rw [aT,TW];simp only [t201,zz,yM,KL,c1,c2,c3,aZ hil,aZ hib,b0,b1,if_neg b2',b3,g1,fin]
   have he:e=1:=by omega
   subst he;by_cases b5:((a.l[i]).hd 5).l.length=((b.l[i]).hd 5).l.length
   case neg=>
    have b5': ¬(((a.l[i]).hd 5).l.length:Int)=(((b.l[i]).hd 5).l.length:Int):=by omega
    refine⟨0,?_,.inl rfl,fun h=>absurd h (by omega),fun h=>absurd (h i hil hib (Nat.le_refl i)).v.1 b5⟩;rw [aT,TW];simp only [t201,zz,yM,KL,c1,c2,c3,aZ hil,aZ hib,b0,b1,if_neg b2',b3,g1,aO,b5',fin]
   have b5':(((a.l[i]).hd 5).l.length:Int)=(((b.l[i]).hd 5).l.length:Int):=by omega
   obtain⟨f,f1,f2,f3⟩:=Oo ((a.l[i]).hd 5) ((b.l[i]).hd 5) b5 hb.2 (enc a) (enc b) (a.l.length:Int) i (by omega) c h2 h1 ((b.l[i]).hd 0).n ((b.l[i]).hd 1).n ((a.l[i]).hd 2).n ((b.l[i]).hd 3).n (enc ((a.l[i]).hd 4)) ((b.l[i]).hd 0).n ((b.l[i]).hd 1).n ((b.l[i]).hd 2).n ((b.l[i]).hd 3).n (enc ((b.l[i]).hd 4)) ((a.l[i]).hd 5).l.length 0 (by omega);refine⟨f,?_,f2,fun h k k1 k2 k3=>?_,fun h=>f3.2 ⟨(h i hil hib (Nat.le_refl i)).v.2,h3.2 fun k k1 k2 k3=>h k k1 k2 (by omega)⟩⟩
   ·rw [aT,TW];rw [b5'] at f1;simp only [t201,zz,yM,KL,c1,c2,c3,aZ hil,aZ hib,b0,b1,if_neg b2',b3,g1,aO,b5',fin];exact f1
   ·by_cases hk:k=i
    ·subst hk;exact⟨b0,b1,b2,b3,g3.1 rfl,b5,(f3.1 h).1⟩
    ·exact h3.1 (f3.1 h).2 k k1 k2 (by omega)
end
theorem acK (a b:D) (hlen:a.l.length≤140737488351232) (hr:RQ a): ∃c:Int,L 200 [enc a,enc b]=some [c]∧(c=0∨c=1)∧(c=1↔a.l.length=b.l.length∧WC a b 0):=by
 by_cases hl:a.l.length=b.l.length
 ·obtain⟨c,h1,h2,h3⟩:=OI hl hlen hr a.l.length 0 (by omega);refine⟨c,?_,h2,h3.trans ⟨fun h=> ⟨hl,h⟩,fun h=>h.2⟩⟩;have hl':(a.l.length:Int)=(b.l.length:Int):=by omega
  rw [aT,aAw,apH,dP,if_pos,nT]
  ·simp only [List.map,bI,gU,iK,aP,Nat.reduceLT,aH,aK,aA,fin];exact h1
  ·simp only [iG,gU,aP,Nat.reduceLT,aH,aK,aA,iK];exact hl'
 ·refine⟨0,?_,.inl rfl,fun h=>absurd h (by omega),fun h=>absurd h.1 hl⟩;have hl': ¬(a.l.length:Int)=(b.l.length:Int):=by omega
  rw [aT,aAw,apH,dP,if_neg]
  ·simp only [jK,List.map,bI,fin]
  ·simp only [iG,gU,aP,Nat.reduceLT,aH,aK,aA,iK];exact hl'
end Go.As.Try
end
section
namespace Go.As.Try
open Go hiding Stat Spec shape
open Go.As
set_option maxRecDepth 100000
end Go.As.Try
end
section
namespace Go.As.Try
open Go hiding Stat Spec shape
open Go.As
set_option maxRecDepth 100000
theorem aeI {d0:D} (hl:d0.l.length≤64) (hn:0 < d0.l.length):L 301 [enc d0,(d0.l.length:Int)]=some [enc (dL (d0.l.map lZ))]:=by
 have e0:=NS d0 hl (d0.l.length - 1) 1 [lZ (d0.l[0]'hn)] (by omega) rfl
 have e1:[lZ (d0.l[0]'hn)]++(d0.l.drop 1).map lZ=d0.l.map lZ:=by
  conv=>rhs; rw [← List.drop_zero (l:=d0.l),List.drop_eq_getElem_cons hn]
  rfl
 rw [e1] at e0;have a0:d0.at 0=d0.l[0]'hn:=aZ (i:=0) hn;have c1:(0:Int) < (d0.l.length:Int):=by omega
 have key: ∀q:Int,q=(if (((d0.l[0]'hn)).hd 0).n=3∨((d0.l[0]'hn).hd 0).n=9 then ((d0.l[0]'hn).hd 2).n else 0)→enc (dL [lZ (d0.l[0]'hn)])=enc (.p (.p (.i (-1)) (.p (.i q) (.p (.i 0) (.p (.i 0) (.p (.i 1) (.p (.i 1) (.i 0))))))) (.i 0)):=fun q hq=>by rw [hq]; rfl
 have k:dX (bJ L (low [enc d0,(d0.l.length:Int)])) Xh= .jump 302 [enc (dL [lZ (d0.l[0]'hn)]),enc d0,(d0.l.length:Int),1]:=by
  by_cases h3:((d0.l[0]'hn).hd 0).n=3
  ·rw [key _ (by rw [if_pos (.inl h3)])];simp only [Xh,zz,c1,a0,Ej,List.nil_append,h3,dL]
  ·by_cases h9:((d0.l[0]'hn).hd 0).n=9
   ·rw [key _ (by rw [if_pos (.inr h9)])];simp only [Xh,zz,c1,a0,Ej,List.nil_append,if_neg h3,if_pos h9,dL]
   ·rw [key 0 (by rw [if_neg (by omega)])];simp only [Xh,zz,c1,a0,Ej,List.nil_append,if_neg h3,if_neg h9,dL]
 rw [aT,e301];exact (congrArg (fin L) k).trans e0
theorem anV {d0 d1:D} (hc:L 450 [enc d0,enc d1]=some [0]) (hl:d0.l.length≤64) (hn:0 < d0.l.length):L 300 [enc d0,enc d1]=some [enc (dL (d0.l.map lZ))]:=by
 have k:dX (bJ L (low [enc d0,enc d1])) agJ= .jump 301 [enc d0,(d0.l.length:Int)]:=by refine bT [.eq (a0 450 [.aN 0,.aN 1]) (.lit 1),.eq (rr 450 [.aN 0,.aN 1] 0) (.lit 0)] [] (ju 301 [.aN 0,ln (.aN 0)]) (by simp only [zz,hc]) (by kernel_rfl) ?_;simp only [nT,List.map,aP,gU,Nat.reduceLT,aH,aK,aA]
 rw [aT,e300];exact (congrArg (fin L) k).trans (aeI hl hn)
theorem anU {d0 d1:D} {c:Int} (hc:L 450 [enc d0,enc d1]=some [c]) (h:c≠0∨d0.l.length=0):L 300 [enc d0,enc d1]=some [enc (.i 1)]:=by
 by_cases h0:c=0
 ·subst h0;have hz:d0.l.length=0:=h.resolve_left (fun h=>h rfl)
  have k:dX (bJ L (low [enc d0,enc d1])) agJ= .jump 301 [enc d0,0]:=by refine bT [.eq (a0 450 [.aN 0,.aN 1]) (.lit 1),.eq (rr 450 [.aN 0,.aN 1] 0) (.lit 0)] [] (ju 301 [.aN 0,ln (.aN 0)]) (by simp only [zz,hc]) (by kernel_rfl) ?_;simp only [nT,List.map,aP,gU,Nat.reduceLT,aH,aK,aA,hz];rfl
  have k1:dX (bJ L (low [enc d0,0])) Xh= .out [enc (.i 1)]:=by refine bT [] [.lt (.lit 0) (.aN 1)] (ou [.dat (.i 1)]) (by simp only [zz] <;> omega) (by kernel_rfl) rfl
  rw [aT,e300];refine (congrArg (fin L) k).trans ?_;show L 301 [enc d0,0]=_;rw [aT,e301];exact congrArg (fin L) k1
 ·have k:dX (bJ L (low [enc d0,enc d1])) agJ= .out [enc (.i 1)]:=by
   refine bT [.eq (a0 450 [.aN 0,.aN 1]) (.lit 1)] [.eq (rr 450 [.aN 0,.aN 1] 0) (.lit 0)] (ou [.dat (.i 1)]) (by simp only [zz,hc] <;> omega) (by kernel_rfl) rfl
  rw [aT,e300];exact congrArg (fin L) k
structure Gs (s:D) (n:Nat):Prop where
 wd:Wd (.sl 7) s
 rows: ∀x∈s.l,(x.hd 4).l.length≤n∧(x.hd 5).l.length≤n
theorem Gs.few {s:D} {n:Nat} (h:Gs s n) (hn:n < 17592186044415):few s:=fun x hx=>by have:=h.rows x hx; omega
theorem Gs.mono {s:D} {n m:Nat} (h:Gs s n) (hm:n≤m):Gs s m:=⟨h.wd,fun x hx=>by have:=h.rows x hx; omega⟩
theorem Ol {l:List D} (h: ∀x∈l,CU x) (hn:l≠[]) (hl:l.length≤1759218604390):Wd (.sl 7) (dL l):=by
 have e:(l.map fun x=>x.l).map dL=l:=by
  rw [List.map_map]
  conv=>rhs; rw [← List.map_id l]
  apply List.map_congr_left;intro x hx;obtain⟨o,c,d,g,r,v,rfl,_⟩:=h x hx;rfl
 rw [← e];refine .many 7 [.int .i64,.int .i64,.bool,.int .i64,.sl 0,.sl 0] _ rfl (by simpa using hn) (by have:yA 7=80:=rfl; rw [this,List.length_map]; omega) (fun r hr=>?_) fun r hr j d c h1 h2=>?_
 ·obtain⟨x,hx,rfl⟩:=List.mem_map.1 hr;obtain⟨o,c,d,g,r,v,rfl,_⟩:=h x hx;rfl
 ·obtain⟨x,hx,rfl⟩:=List.mem_map.1 hr;obtain⟨o,c',d',g,r,v,rfl,ho,hc,hd,hg,hr,hv⟩:=h x hx;rw [aX] at h1
  match j with
  | 0=>simp at h1 h2; subst h1 h2; exact .int _ _ ho
  | 1=>simp at h1 h2; subst h1 h2; exact .int _ _ hc
  | 2=>
    simp at h1 h2; subst h1 h2;rcases hd with rfl | rfl
    ·exact .bool false
    ·exact .bool true
  | 3=>simp at h1 h2; subst h1 h2; exact .int _ _ hg
  | 4=>simp at h1 h2; subst h1 h2; exact hr
  | 5=>simp at h1 h2; subst h1 h2; exact hv
  | j+6=>simp at h1
theorem Tg.thing {x:D} {o c dn g:Int} {r v:D} (T:Tg x o c dn g r v):CU x:=⟨o,c,dn,g,r,v,T.is,T.ho,T.hc,T.hd,T.hg,T.hr,T.hv⟩
theorem Ba {l:List D} {z:Int} {y x:D} (h:x∈fA l z y):x∈l∨x=y:=by
 unfold fA at h;split at h
 ·exact .inl h
 ·exact List.mem_or_eq_of_mem_set h
theorem akF {l:List D} {k:Nat} {y:D} (h:k < l.length):(fA l (k:Int) y)[k]?=some y:=by rw [xA,List.getElem?_set,if_pos rfl,if_pos h]
theorem Ye {s:D} {n:Nat} (G:Gs s n) {z:Int} {y:D} (hy:CU y) (h4:(y.hd 4).l.length≤n) (h5:(y.hd 5).l.length≤n) (hn:0 < s.l.length):Gs (dL (fA s.l z y)) n:=by
 have ht:=Ir G.wd hn;refine⟨Ol (fun x hx=>?_) (fun he=>?_) (by rw [iU]; exact ht.few),fun x hx=>?_⟩
 ·rcases Ba hx with h | rfl
  ·exact G.wd.thing x h
  ·exact hy
 ·have:=iU s.l z y;rw [he] at this;simp at this;omega
 ·rw [aX] at hx;rcases Ba hx with h | rfl
  ·exact G.rows x h
  ·exact⟨h4,h5⟩
theorem ahY (s:D) (obj M:Int) (A:Act):(XL s obj M A).l.length=s.l.length:=by
 cases A with
 | blk=>rfl
 | mis=>rfl
 | res o c dn g r v m a oc=>
   unfold XL;rw [aX,iU]
   cases m with
   | none=>rfl
   | some q=>exact iU _ _ _
theorem apX {s:D} {n:Nat} (G:Gs s n) {obj M:Int} {A:Act} (hA:N8 (n+1) A) (ho0:0≤obj) (ho1:obj < (s.l.length:Int)) (hM:NoM A∨0≤M∧M < (s.l.length:Int)):Gs (XL s obj M A) (n+1):=by
 have G1:=G.mono (Nat.le_succ n)
 cases A with
 | blk=>exact G1
 | mis=>exact G1
 | res o c dn g r v m a oc=>
   obtain⟨h1,h2,h3,h4,h5,h6,h7,h8,h9,_⟩:=hA
   have hd:(if dn=0 then (0:Int) else 1)=dn:=by rcases h3 with rfl | rfl <;> rfl
   have hy:CU (dL [.i o,.i c,.i (if dn=0 then 0 else 1),.i g,r,v]):=⟨o,c,_,g,r,v,rfl,h1,h2,by rw [hd]; exact h3,h4,h5,h7⟩
   cases m with
   | none=>exact Ye G1 hy h6 h8 (by omega)
   | some q=>
     have hM:0≤M∧M < (s.l.length:Int):=hM.resolve_left (fun h=>by simp [NoM] at h);obtain⟨k,rfl⟩ : ∃k:Nat,M=(k:Int):=⟨M.toNat,by omega⟩;have hk:k < s.l.length:=by omega
     obtain⟨o',c',d',g',r',v',he,q1,q2,q3,q4,q5,q6⟩:=G.wd.thing _ (List.getElem_mem hk);have hrw:=G1.rows _ (List.getElem_mem hk);rw [he] at hrw;have hz:dL (fA (s.at (k:Int)).l 0 (.i q))=dL [.i q,.i c',.i d',.i g',r',v']:=by rw [aZ hk,he]; rfl
     have G2:Gs (dL (fA s.l (k:Int) (dL (fA (s.at (k:Int)).l 0 (.i q))))) (n+1):=by rw [hz];exact Ye G1 ⟨q,c',d',g',r',v',rfl,h9 q rfl,q2,q3,q4,q5,q6⟩ hrw.1 hrw.2 (by omega)
     have:=Ye (z:=obj) G2 hy h6 h8 (by rw [aX,iU]; omega);rw [aX] at this;exact this
def evA (th op obj:Int):Act→List Int
 | .blk=>[0,0,0,0,0,0]
 | .mis=>[th,27,obj,IntKind.i64.wrap op,0,2]
 | .res _ _ _ _ _ _ _ a oc=>[th,op,obj,a,0,oc]
theorem ZP (s:D) (th op obj M:Int) (A:Act):outA s th op obj M A=enc (XL s obj M A) :: evA th op obj A:=by cases A <;> rfl
end Go.As.Try
end
section
namespace Go.As.Try
open Go hiding Stat Spec shape
open Go.As
set_option maxRecDepth 100000
theorem z6:((2:Int)=1)=False∧((4:Int)=3)=False∧((5:Int)=3)=False∧((5:Int)=4)=False∧((6:Int)=3)=False∧((6:Int)=4)=False∧((6:Int)=5)=False∧((7:Int)=3)=False∧((7:Int)=4)=False∧((7:Int)=5)=False∧((7:Int)=6)=False:=by simp
structure KT where
 a:Int
 lc:D
 w:Int
 o:Int
 g:Int
 tr:Int
abbrev KT.d (x:KT):D:=dL [.i x.a,x.lc,.i x.w,.i x.o,.i x.g,.i x.tr]
structure Cd (d0 d1:D):Prop where
 h0:Wd (.sl 3) d0
 h1:Wd (.sl 4) d1
 ok:Ho d0 d1
 ins: ∀x∈d1.l,aaH d0 x
theorem MR.code {d0 d1 s k:D} (h0:Wd (.sl 3) d0) (h1:Wd (.sl 4) d1) (hr:He s) (M:MR d0 d1 s k):Cd d0 d1∧s.l.length=d0.l.length:=by obtain⟨b,hb,_,hi⟩:=yN h0 h1 hr;rw [M.1] at hb;simp only [Option.some.injEq,List.cons.injEq,and_true] at hb;obtain⟨hC,hle,_⟩:=hi.1 hb.symm;obtain⟨ys,hC',c,rfl,_,hok⟩:=Dl h0 h1;rw [hC] at hC';simp only [Option.some.injEq,List.cons.injEq,and_true] at hC';have:=hok hC'.symm;exact⟨⟨h0,h1,this.1,this.2⟩,hle⟩
structure Rt (d0 d1:D) (t:Int) (x:KT):Prop where
 t0:0≤t
 t1:t < (d1.l.length:Int)
 ok:OkT d0 ((d1.at t).hd 1).l.length ((d1.at t).hd 2).l.length x.a x.lc.l.length x.w x.o x.g x.tr
 hl:Wd (.sl 0) x.lc
 hg:iI .i64 x.g
abbrev Ins (d1:D) (t:Int) (x:KT):D:=((d1.at t).hd 2).at x.a
abbrev Nc (d1:D) (t:Int):Nat:=((d1.at t).hd 2).l.length
structure InF (d0:D) (nl nc:Nat) (I:D):Prop where
 ok:OkI d0 nl nc (I.hd 0).n (I.hd 1).n (I.hd 2).n (I.hd 3).n (I.hd 4).n (I.hd 6).l.length
 op:iI .u8 (I.hd 1).n
 ob:iI .i64 (I.hd 2).n
 to:iI .i64 (I.hd 4).n
 nn:iI .i64 (I.hd 5).n
 ar:Wd (.sl 6) (I.hd 6)
theorem Cd.at {d0 d1:D} (C:Cd d0 d1) {t:Int} (t0:0≤t) (t1:t < (d1.l.length:Int)):d1.at t∈d1.l:=by obtain⟨i,rfl⟩ : ∃i:Nat,t=(i:Int):=⟨t.toNat,by omega⟩;rw [aZ (by omega:i < d1.l.length)];exact List.getElem_mem _
theorem axY {d:D} {i:Int} (h0:0≤i) (h1:i < (d.l.length:Int)):d.at i∈d.l:=by obtain⟨k,rfl⟩ : ∃k:Nat,i=(k:Int):=⟨i.toNat,by omega⟩;rw [aZ (by omega:k < d.l.length)];exact List.getElem_mem _
theorem Cd.code {d0 d1:D} (C:Cd d0 d1) {t:Int} (t0:0≤t) (t1:t < (d1.l.length:Int)):Wd (.sl 5) ((d1.at t).hd 2):=by
 obtain⟨i,rfl⟩ : ∃i:Nat,t=(i:Int):=⟨t.toNat,by omega⟩;have hi:i < d1.l.length:=by omega
 obtain⟨nm',lc,cd,he,_,_,h⟩:=EL C.h1 hi;rw [aZ hi,he];exact h
theorem Cd.inf {d0 d1:D} (C:Cd d0 d1) {t:Int} {x:KT} (R:Rt d0 d1 t x) (h:x.a < (Nc d1 t:Int)):InF d0 ((d1.at t).hd 1).l.length (Nc d1 t) (Ins d1 t x):=by
 have ha:=R.ok.1;have h1:=C.ins _ (C.at R.t0 R.t1) (Ins d1 t x) (axY ha h);obtain⟨i,hi⟩ : ∃i:Nat,x.a=(i:Int):=⟨x.a.toNat,by omega⟩;have hil:i < ((d1.at t).hd 2).l.length:=by unfold Nc at h; omega
 obtain⟨a,b,c,e,f,g,Oa,he,_,hb,hc,_,hf,hg,hw⟩:=X8 (C.code R.t0 R.t1) hil;have hI:Ins d1 t x=dL [.i a,.i b,.i c,.i e,.i f,.i g,Oa]:=by unfold Ins; rw [hi,aZ hil,he]
 refine⟨h1,?_,?_,?_,?_,?_⟩
 all_goals
  rw [hI];simp only [zg,Option.getD_some,n_i];assumption
theorem Rt.ints {d0 d1:D} {t:Int} {x:KT} (R:Rt d0 d1 t x):Ints x.lc:=fun y hy=>by obtain⟨n,rfl,hn⟩:=(R.hl.el1 rfl y hy).i;exact hn
section
variable {d0 d1 s k:D} {t:Int} {x:KT} (hk:k.at t=x.d) (ht:t < (k.l.length:Int)) (R:Rt d0 d1 t x)
include hk ht R
def lT (d1:D) (t:Int) (x:KT):Int:=if x.w=0 then (if x.a=(Nc d1 t:Int) then 1 else 0) else 0
theorem E5:L 1650 [enc d0,enc d1,enc s,enc k,t]=some [lT d1 t x]:=by
 have c1: ¬t < 0:=by have:=R.t0; omega
 have c2:=R.t1;unfold lT Nc;rw [aT,avK];simp only [agN,zz,hk,c1,ht,c2,zg];by_cases w0:x.w=0
 ·simp only [w0,if_true];by_cases a0:x.a=(((d1.at t).hd 2).l.length:Int)
  ·simp only [a0,if_true];rfl
  ·simp only [a0,if_false];rfl
 ·simp only [w0,if_false];rfl
end
noncomputable def ev (e lc:D):Int:=low ((L 1950 [(e.hd 0).n,enc (e.hd 1),(e.hd 2).n,enc (e.hd 3),enc lc]).getD []) 0
theorem VF {Il lc:D} (ha:Wd (.sl 6) Il) (hl:Ints lc) {i:Int} (i0:0≤i) (i1:i < (Il.l.length:Int)):L 1950 [((Il.at i).hd 0).n,enc ((Il.at i).hd 1),((Il.at i).hd 2).n,enc ((Il.at i).hd 3),enc lc]=some [ev (Il.at i) lc]∧iI .i64 (ev (Il.at i) lc):=by
 obtain⟨j,rfl⟩ : ∃j:Nat,i=(j:Int):=⟨i.toNat,by omega⟩;have hj:j < Il.l.length:=by omega
 obtain⟨k',s',n',ks',he,_,_,hn',h2⟩:=C9 ha hj;obtain⟨ys,hL,v,rfl,hv⟩:=VE _ ks' (Nat.le_refl _) h2 k' n' s' lc hn' hl;have e1:Il.at (j:Int)=dL [.i k',s',.i n',ks']:=by rw [aZ hj,he]
 unfold ev;rw [e1];simp only [zg,Option.getD_some,n_i,hL,aH];exact⟨trivial,hv⟩
noncomputable def Ws (Il lc:D):Int:=if Il.l.length=0 then 0 else ev (Il.at ((Il.l.length:Int) - 1)) lc
theorem asU {Il lc:D} (ha:Wd (.sl 6) Il) (hl:Ints lc):iI .i64 (Ws Il lc):=by
 unfold Ws;split
 ·constructor <;> omega
 ·exact (VF ha hl (by omega) (by omega)).2
theorem Pn {Il lc:D} (ha:Wd (.sl 6) Il) (hl:Ints lc) (x3 x5 x6 x7 x8 x9 x10:Int): ∀(j i:Nat) (v:Int),i+j=Il.l.length→L 1751 [enc Il,(Il.l.length:Int),(i:Int),x3,enc lc,x5,x6,x7,x8,x9,x10,v]=some [x9,x10,if j=0 then v else Ws Il lc,x8,1]
 | 0,i,v,hi=>by
   have c1: ¬(i:Int) < (Il.l.length:Int):=by omega
   rw [aT,alQ];simp only [Zu,zz,c1,bW,if_true]
 | j+1,i,v,hi=>by
   have hr:=ha.len;have c1:(i:Int) < (Il.l.length:Int):=by omega
   have c2: ¬((i:Int) < 0):=by omega
   have w:=bD (n:=i) (by omega);obtain⟨he,_⟩:=VF ha hl (i:=(i:Int)) (by omega) c1;have ih:=Pn ha hl x3 x5 x6 x7 x8 x9 x10 j (i+1) (ev (Il.at (i:Int)) lc) (by omega);rw [aT,alQ];simp only [Zu,zz,c1,c2,w,he,bP];rw [ih,if_neg (Nat.succ_ne_zero j)];by_cases hj:j=0
   ·subst hj;rw [if_pos rfl];unfold Ws;rw [if_neg (by omega),show ((Il.l.length:Int) - 1)=(i:Int) by omega]
   ·rw [if_neg hj]
noncomputable def sV (d1:D) (t:Int) (x:KT):List Int:=
 if x.w=0 then
  if x.a=(Nc d1 t:Int) then [0,0,0,0,0]
  else if ((Ins d1 t x).hd 0).n=1 then [((Ins d1 t x).hd 1).n,((Ins d1 t x).hd 2).n,Ws ((Ins d1 t x).hd 6) x.lc,x.tr,1]
  else if ((Ins d1 t x).hd 0).n=2 then [26,((Ins d1 t x).hd 2).n,0,0,1]
  else [0,0,0,0,0]
 else [x.w,x.o,x.g,0,1]
section
variable {d0 d1 s k:D} {t:Int} {x:KT} (C:Cd d0 d1) (hk:k.at t=x.d) (ht:t < (k.l.length:Int)) (R:Rt d0 d1 t x)
include C hk ht R
theorem ZR:L 1750 [enc d0,enc d1,enc s,enc k,t]=some (sV d1 t x):=by
 have c1: ¬t < 0:=by have:=R.t0; omega
 have c2:=R.t1;have c3: ¬x.a < 0:=by have:=R.ok.1; omega
 have ho:=E5 (s:=s) hk ht R;unfold sV;rw [aT,avJ];by_cases w0:x.w=0
 ·by_cases a0:x.a=(Nc d1 t:Int)
  ·have e:lT d1 t x=1:=by unfold lT; rw [if_pos w0,if_pos a0]
   rw [e] at ho;rw [if_pos w0,if_pos a0];simp only [Kr,zz,hk,c1,ht,c2,zg,w0,ho,aO,bW]
  ·have e:lT d1 t x=0:=by unfold lT; rw [if_pos w0,if_neg a0]
   rw [e] at ho;have hlt:x.a < (Nc d1 t:Int):=by have:=R.ok.2.1; unfold Nc at a0 ⊢; omega
   have F:=C.inf R hlt;rw [if_pos w0,if_neg a0];unfold Ins at F ⊢;unfold Nc at hlt;by_cases h1:((((d1.at t).hd 2).at x.a).hd 0).n=1
   ·rw [if_pos h1];have lp:=Pn F.ar R.ints x.a x.w x.o x.g x.tr ((((d1.at t).hd 2).at x.a).hd 1).n ((((d1.at t).hd 2).at x.a).hd 2).n ((((d1.at t).hd 2).at x.a).hd 6).l.length 0 0 (by omega)
    have e2:(if ((((d1.at t).hd 2).at x.a).hd 6).l.length=0 then 0 else Ws ((((d1.at t).hd 2).at x.a).hd 6) x.lc)=Ws ((((d1.at t).hd 2).at x.a).hd 6) x.lc:=by
     by_cases hz:((((d1.at t).hd 2).at x.a).hd 6).l.length=0
     ·rw [if_pos hz]; unfold Ws; rw [if_pos hz]
     ·rw [if_neg hz]
    rw [e2] at lp;simp only [Kr,zz,hk,c1,ht,c2,c3,zg,w0,ho,hlt,h1,bP];rw [w0] at lp;exact lp
   ·by_cases h2:((((d1.at t).hd 2).at x.a).hd 0).n=2
    ·rw [if_neg h1,if_pos h2];simp only [Kr,zz,hk,c1,ht,c2,c3,zg,w0,ho,hlt,h2,bW,if_false,z6]
    ·rw [if_neg h1,if_neg h2];simp only [Kr,zz,hk,c1,ht,c2,c3,zg,w0,ho,hlt,h1,h2,bW]
 ·rw [if_neg w0];simp only [Kr,zz,hk,c1,ht,zg,w0,bW]
end
noncomputable def Ap (I:D) (x:KT):KT:=
 if (I.hd 0).n=3 then { x with a:=x.a+1,lc:=dL (fA x.lc.l (I.hd 3).n (.i (ev ((I.hd 6).at 0) x.lc))) }
 else if (I.hd 0).n=4 then (if ev ((I.hd 6).at 0) x.lc=0 then { x with a:=(I.hd 4).n } else { x with a:=x.a+1 })
 else if (I.hd 0).n=5 then { x with a:=(I.hd 4).n }
 else if (I.hd 0).n=6 then { x with a:=x.a+1,lc:=dL (fA x.lc.l (I.hd 3).n (.i (I.hd 5).n)) }
 else if 0 < (x.lc.at (I.hd 3).n).n then { x with a:=x.a+1,lc:=dL (fA x.lc.l (I.hd 3).n (.i (IntKind.i64.wrap ((x.lc.at (I.hd 3).n).n - 1)))) }
 else { x with a:=(I.hd 4).n }
structure Loc (d1:D) (t:Int) (x:KT):Prop where
 w:x.w=0
 a:x.a < (Nc d1 t:Int)
 n1:((Ins d1 t x).hd 0).n≠1
 n2:((Ins d1 t x).hd 0).n≠2
theorem aiY {d0 d1:D} {t:Int} {x:KT} (R:Rt d0 d1 t x) (ho:lT d1 t x=0) (hn:low (sV d1 t x) 4=0):Loc d1 t x:=by
 unfold lT at ho;unfold sV at hn;have h2:=R.ok.2.1;by_cases w0:x.w=0
 ·rw [if_pos w0] at ho hn;by_cases a0:x.a=(Nc d1 t:Int)
  ·rw [if_pos a0] at ho;omega
  ·rw [if_neg a0] at hn;by_cases h1:((Ins d1 t x).hd 0).n=1
   ·rw [if_pos h1] at hn;simp only [aK,aH] at hn;omega
   ·by_cases h2':((Ins d1 t x).hd 0).n=2
    ·rw [if_neg h1,if_pos h2'] at hn;simp only [aK,aH] at hn;omega
    ·exact⟨w0,by unfold Nc at a0 ⊢; omega,h1,h2'⟩
 ·rw [if_neg w0] at hn;simp only [aK,aH] at hn;omega
section
variable {d0 d1 s k:D} {t:Int} {x:KT} (C:Cd d0 d1) (ht:t < (k.l.length:Int)) (R:Rt d0 d1 t x) (Lc:Loc d1 t x)
include C ht R Lc
theorem aiW:L 14000 [enc d0,enc d1,t,enc s,enc k,x.a,enc x.lc,x.w,x.o,x.g,x.tr]=some [0,enc d0,enc d1,t,enc s,enc k,x.a,enc x.lc,x.w,x.o,x.g,x.tr,(Ap (Ins d1 t x) x).a,enc (Ap (Ins d1 t x) x).lc]:=by
 have c1: ¬t < 0:=by have:=R.t0; omega
 have c2:=R.t1;have c3: ¬x.a < 0:=by have:=R.ok.1; omega
 have c4:=Lc.a;have F:=C.inf R c4;have hln:(x.lc.l.length:Int)=(((d1.at t).hd 1).l.length:Int):=R.ok.2.2.1;have hnc:((d1.at t).hd 2).l.length≤140737488351232:=(C.code R.t0 R.t1).len;have n1:=Lc.n1;have n2:=Lc.n2
 have hw:IntKind.i64.wrap (x.a+1)=x.a+1:=by refine qB (by omega) ?_;unfold Nc at c4;omega
 have E:=VF F.ar R.ints (i:=0);have ok:=F.ok;unfold Ins at n1 n2 ok E ⊢;unfold Nc at c4;rw [aT,alZ];unfold Ap;rcases ok with h | h | ⟨h,i0,i1,na⟩ | ⟨h,_,_,na⟩ | ⟨h,_⟩ | ⟨h,i0,i1⟩ | ⟨h,i0,i1,_⟩
 ·exact absurd h.1 n1
 ·exact absurd h.1 n2
 ·have c5: ¬(((((d1.at t).hd 2).at x.a).hd 3).n < 0):=by omega
  have c6:(((((d1.at t).hd 2).at x.a).hd 3).n < (x.lc.l.length:Int)):=by omega
  have c7:(0:Int) < (((((d1.at t).hd 2).at x.a).hd 6).l.length:Int):=by omega
  obtain⟨E,_⟩:=E (by omega) c7;simp only [yG,zz,c1,ht,c2,c3,c4,c5,c6,c7,h,E,hw,bW]
 ·have c7:(0:Int) < (((((d1.at t).hd 2).at x.a).hd 6).l.length:Int):=by omega
  obtain⟨E,_⟩:=E (by omega) c7;by_cases hz:ev (((((d1.at t).hd 2).at x.a).hd 6).at 0) x.lc=0
  ·simp only [yG,zz,c1,ht,c2,c3,c4,c7,h,E,hw,hz,bW,z6]
  ·simp only [yG,zz,c1,ht,c2,c3,c4,c7,h,E,hw,hz,bW,z6]
 ·simp only [yG,zz,c1,ht,c2,c3,c4,h,hw,bW,z6]
 ·have c5: ¬(((((d1.at t).hd 2).at x.a).hd 3).n < 0):=by omega
  have c6:(((((d1.at t).hd 2).at x.a).hd 3).n < (x.lc.l.length:Int)):=by omega
  simp only [yG,zz,c1,ht,c2,c3,c4,c5,c6,h,hw,bW,z6]
 ·have c5: ¬(((((d1.at t).hd 2).at x.a).hd 3).n < 0):=by omega
  have c6:(((((d1.at t).hd 2).at x.a).hd 3).n < (x.lc.l.length:Int)):=by omega
  by_cases hz:0 < (x.lc.at ((((d1.at t).hd 2).at x.a).hd 3).n).n
  ·simp only [yG,zz,c1,ht,c2,c3,c4,c5,c6,h,hw,hz,bW,z6]
  ·simp only [yG,zz,c1,ht,c2,c3,c4,c5,c6,h,hw,hz,bW,z6]
theorem aiV (hz:x.lc.l.length=0):L 14050 [enc d0,enc d1,t,enc s,enc k,x.a,enc x.lc,x.w,x.o,x.g,x.tr]=some [0,enc d0,enc d1,t,enc s,enc k,x.a,enc x.lc,x.w,x.o,x.g,x.tr,(Ap (Ins d1 t x) x).a]∧(Ap (Ins d1 t x) x).lc=x.lc:=by
 have c1: ¬t < 0:=by have:=R.t0; omega
 have c2:=R.t1;have c3: ¬x.a < 0:=by have:=R.ok.1; omega
 have c4:=Lc.a;have F:=C.inf R c4;have hln:(x.lc.l.length:Int)=(((d1.at t).hd 1).l.length:Int):=R.ok.2.2.1;have hnc:((d1.at t).hd 2).l.length≤140737488351232:=(C.code R.t0 R.t1).len;have n1:=Lc.n1;have n2:=Lc.n2
 have hw:IntKind.i64.wrap (x.a+1)=x.a+1:=by refine qB (by omega) ?_;unfold Nc at c4;omega
 have E:=VF F.ar R.ints (i:=0);have ok:=F.ok;unfold Ins at n1 n2 ok E ⊢;unfold Nc at c4;rw [aT,alY];unfold Ap;rcases ok with h | h | ⟨h,i0,i1,na⟩ | ⟨h,_,_,na⟩ | ⟨h,_⟩ | ⟨h,i0,i1⟩ | ⟨h,i0,i1,_⟩
 ·exact absurd h.1 n1
 ·exact absurd h.1 n2
 ·omega
 ·have c7:(0:Int) < (((((d1.at t).hd 2).at x.a).hd 6).l.length:Int):=by omega
  obtain⟨E,_⟩:=E (by omega) c7;by_cases hz:ev (((((d1.at t).hd 2).at x.a).hd 6).at 0) x.lc=0
  ·simp only [Ku,zz,c1,ht,c2,c3,c4,c7,h,E,hw,hz,bW,z6]
  ·simp only [Ku,zz,c1,ht,c2,c3,c4,c7,h,E,hw,hz,bW,z6]
 ·simp only [Ku,zz,c1,ht,c2,c3,c4,h,hw,bW,z6]
 ·omega
 ·omega
theorem aiU:Rt d0 d1 t (Ap (Ins d1 t x) x)∧(Ap (Ins d1 t x) x).lc.l.length=x.lc.l.length:=by
 have c4:=Lc.a;have F:=C.inf R c4;obtain⟨a0,a1,hln,tr0,tr1,hw⟩:=R.ok;have n1:=Lc.n1;have n2:=Lc.n2;have ok:=F.ok;have hI:=R.ints
 have hwd: ∀{z v:Int},0≤z→z < (x.lc.l.length:Int)→iI .i64 v→Wd (.sl 0) (dL (fA x.lc.l z (.i v))):=fun {z v} h0 h1 hv=>by
  have:=R.hl.room;have h3:yA 0=8:=rfl;rw [h3] at this;have hs:=iU x.lc.l z (.i v);refine BX (fun y hy=>?_) (fun he=>?_) (by rw [hs]; omega)
  ·rcases Ba hy with h | rfl
   ·exact (R.hl.el1 rfl y h).i
   ·exact⟨v,rfl,hv⟩
  ·rw [he] at hs;simp only [List.length_nil] at hs;omega
 have hsl: ∀z v,(dL (fA x.lc.l z v)).l.length=x.lc.l.length:=fun z v=>by rw [aX,iU]
 have T:=R.t0;have T':=R.t1;unfold Nc at c4 ok F;unfold Ap;have go: ∀{a:Int} {lc:D},0≤a→a≤(((d1.at t).hd 2).l.length:Int)→lc.l.length=x.lc.l.length→Wd (.sl 0) lc→Rt d0 d1 t { x with a:=a,lc:=lc }∧({ x with a:=a,lc:=lc }:KT).lc.l.length=x.lc.l.length:=fun h0 h1 h2 h3=> ⟨⟨T,T',⟨h0,h1,by rw [h2]; exact hln,tr0,tr1,hw⟩,h3,R.hg⟩,h2⟩;rcases ok with h | h | ⟨h,i0,i1,na⟩ | ⟨h,t0,t1,na⟩ | ⟨h,t0,t1⟩ | ⟨h,i0,i1⟩ | ⟨h,i0,i1,t0,t1⟩
 ·exact absurd h.1 n1
 ·exact absurd h.1 n2
 ·rw [if_pos h];exact go (by omega) (by omega) (hsl _ _) (hwd i0 (by omega) (VF F.ar hI (by omega) (by omega)).2)
 ·rw [if_neg (by omega),if_pos h];split
  ·exact go t0 t1 rfl R.hl
  ·exact go (by omega) (by omega) rfl R.hl
 ·rw [if_neg (by omega),if_neg (by omega),if_pos h];exact go t0 t1 rfl R.hl
 ·rw [if_neg (by omega),if_neg (by omega),if_neg (by omega),if_pos h];exact go (by omega) (by omega) (hsl _ _) (hwd i0 (by omega) F.nn)
 ·rw [if_neg (by omega),if_neg (by omega),if_neg (by omega),if_neg (by omega)];split
  ·exact go (by omega) (by omega) (hsl _ _) (hwd i0 (by omega) (wrap_in _))
  ·exact go t0 t1 rfl R.hl
end
end Go.As.Try
end
section
namespace Go.As.Try
open Go hiding Stat Spec shape
open Go.As
set_option maxRecDepth 100000
theorem z5:(∀p:Prop,(p∧False)=False)∧(∀p:Prop,(False∧p)=False)∧(¬True)=False∧(∀p:Prop,(p∧p)=p)∧(∀(a:Int) (l m:List Int),(a :: l)++m=a :: (l++m))∧(∀l:List Int,[]++l=l)∧((16:Int)=15)=False∧((3:Int)=0)=False∧((15:Int)=16)=False∧(∀ys:List Int,fin L (.out ys)=some ys):=
 ⟨and_false,false_and,not_true_eq_false,and_self,fun _ _ _=>rfl,fun _=>rfl,by simp,by simp,by simp,fun _=>rfl⟩
def aeN:Act→Prop
 | .res _ _ _ _ _ _ _ a _=>iI .i64 a
 | _=>True
theorem aeN.ite {p:Prop} [Decidable p] {a b:Act} (ha:aeN a) (hb:aeN b):aeN (if p then a else b):=by
 split
 ·exact ha
 ·exact hb
theorem aAT {r:D} (h:Wd (.sl 0) r) (i:Nat):iI .i64 (r.at (i:Int)).n:=by
 by_cases hi:i < r.l.length
 ·rw [aZ hi];obtain⟨n,hn,hk⟩:=(h.el1 rfl _ (List.getElem_mem hi)).i;rw [hn];exact hk
 ·rw [Ul,List.getElem?_eq_none (by omega)];constructor <;> (simp only [Option.getD_none,n_i]; omega)
theorem aCO {y:D} {M mo th op arg tries o c dn g:Int} {r v:D} (T:Tg y o c dn g r v) (hr:r.l.length≤140737488351232) (ha:iI .i64 arg):aeN (act M mo th op arg tries o c dn g r v):=by
 have hz:iI .i64 0:=⟨by omega,by omega⟩;have h1:iI .i64 1:=⟨by omega,by omega⟩;have w:=@wrap_in;have hv:=aAT T.hv 0;have hl:iI .i64 (r.l.length:Int):=⟨by omega,by omega⟩;unfold act
 repeat' refine aeN.ite ?_ ?_
 all_goals first
  | trivial
  | exact hz
  | exact h1
  | exact w _
  | exact T.hc
  | exact ha
  | exact T.hg
  | exact hv
  | exact hl
def wG (I:D) (x:KT) (op e2 e3 e4 oc:Int):KT:=
 if oc=0 then (if op=4 then { x with tr:=if 4611686018427387904 < x.tr+1 then 4611686018427387904 else x.tr+1 } else x)
 else if x.w=0 then
  { a:=if (I.hd 0).n=1∧(I.hd 1).n=16∧¬(e2=16∧e4=1) then (I.hd 4).n else x.a+1,lc:=if (I.hd 0).n=1∧¬(I.hd 3).n < 0 then dL (fA x.lc.l (I.hd 3).n (.i e4)) else x.lc,w:=if oc=3 then (if e2=15 then 25 else 24) else 0,o:=if oc=3 then e3 else x.o,g:=if oc=3∧e2=15 then e4 else x.g,tr:=0 }
 else { x with w:=0,o:=0,g:=0,tr:=0 }
def evT (e1 e2 e3 e4 e5 oc:Int):List Int:=if oc=0 then [0,0,0,0,0] else [e1,e2,e3,e4,e5]
section
variable {d0 d1 s s' k:D} {t op obj arg tries e1 e2 e3 e4 e5 oc:Int} {x:KT} (C:Cd d0 d1) (ht:t < (k.l.length:Int)) (R:Rt d0 d1 t x)
 (hA:L 400 [enc d0,enc d1,enc s,t,op,obj,arg,tries]=some [enc s',e1,e2,e3,e4,e5,oc]) (h0:oc=0→s'=s) (hx:x.w=0→x.a < (Nc d1 t:Int))
include C ht R hA h0 hx
set_option maxHeartbeats 4000000 in
theorem afE:L 14500 [enc d0,enc d1,t,op,obj,arg,tries,enc s,enc k,x.a,enc x.lc,x.w,x.o,x.g,x.tr]=some (0 :: enc d0 :: enc d1 :: t :: op :: obj :: arg :: tries :: enc s :: enc k :: x.a :: enc x.lc :: x.w :: x.o :: x.g :: x.tr :: (evT e1 e2 e3 e4 e5 oc++ [oc,enc s',(wG (Ins d1 t x) x op e2 e3 e4 oc).a,enc (wG (Ins d1 t x) x op e2 e3 e4 oc).lc,(wG (Ins d1 t x) x op e2 e3 e4 oc).w,(wG (Ins d1 t x) x op e2 e3 e4 oc).o,(wG (Ins d1 t x) x op e2 e3 e4 oc).g,(wG (Ins d1 t x) x op e2 e3 e4 oc).tr])):=by
 have c1: ¬t < 0:=by have:=R.t0; omega
 have c2:=R.t1;have c3: ¬x.a < 0:=by have:=R.ok.1; omega
 have q0:=R.ok.2.2.2.1;have q1:=R.ok.2.2.2.2.1;have wt:IntKind.i64.wrap (x.tr+1)=x.tr+1:=qB (by omega) (by omega);rw [aT,alW];unfold wG evT;by_cases o0:oc=0
 ·have hs:=h0 o0;subst hs;subst o0;by_cases p4:op=4
  ·subst p4;by_cases pt:4611686018427387904 < x.tr+1
   ·simp only [fC,zz,hA,c1,ht,wt,pt,bW,if_true,eq_self,List.cons_append,List.nil_append]
   ·simp only [fC,zz,hA,c1,ht,wt,pt,bW,if_true,eq_self,if_false,List.cons_append,List.nil_append]
  ·simp only [fC,zz,hA,c1,ht,p4,bW,if_true,if_false,List.cons_append,List.nil_append]
 ·by_cases w0:x.w=0
  ·have c4:=hx w0;have F:=C.inf R c4;have ok:=F.ok;have hln:(x.lc.l.length:Int)=(((d1.at t).hd 1).l.length:Int):=R.ok.2.2.1;have hnc:((d1.at t).hd 2).l.length≤140737488351232:=(C.code R.t0 R.t1).len;unfold Nc at c4;have hw:IntKind.i64.wrap (x.a+1)=x.a+1:=qB (by omega) (by omega);unfold OkI Ins at ok;unfold Ins;by_cases n1:((((d1.at t).hd 2).at x.a).hd 0).n=1
   ·have hin:((((d1.at t).hd 2).at x.a).hd 3).n= -1∨0≤((((d1.at t).hd 2).at x.a).hd 3).n∧((((d1.at t).hd 2).at x.a).hd 3).n < (x.lc.l.length:Int):=by
     rw [hln];omega
    by_cases i0:((((d1.at t).hd 2).at x.a).hd 3).n < 0
    ·by_cases p16:((((d1.at t).hd 2).at x.a).hd 1).n=16
     ·by_cases q16:e2=16
      ·by_cases q4:e4=1
       ·by_cases q3:oc=3
        ·simp only [fC,zz,hA,c1,ht,c2,c3,c4,o0,w0,hw,n1,i0,p16,q16,q4,q3,z5]
        ·simp only [fC,zz,hA,c1,ht,c2,c3,c4,o0,w0,hw,n1,i0,p16,q16,q4,q3,z5]
       ·by_cases q3:oc=3
        ·simp only [fC,zz,hA,c1,ht,c2,c3,c4,o0,w0,hw,n1,i0,p16,q16,q4,q3,z5]
        ·simp only [fC,zz,hA,c1,ht,c2,c3,c4,o0,w0,hw,n1,i0,p16,q16,q4,q3,z5]
      ·by_cases yO:e2=15
       ·by_cases q3:oc=3
        ·simp only [fC,zz,hA,c1,ht,c2,c3,c4,o0,w0,hw,n1,i0,p16,q16,yO,q3,z5]
        ·simp only [fC,zz,hA,c1,ht,c2,c3,c4,o0,w0,hw,n1,i0,p16,q16,yO,q3,z5]
       ·by_cases q3:oc=3
        ·simp only [fC,zz,hA,c1,ht,c2,c3,c4,o0,w0,hw,n1,i0,p16,q16,yO,q3,z5]
        ·simp only [fC,zz,hA,c1,ht,c2,c3,c4,o0,w0,hw,n1,i0,p16,q16,yO,q3,z5]
     ·by_cases yO:e2=15
      ·by_cases q3:oc=3
       ·simp only [fC,zz,hA,c1,ht,c2,c3,c4,o0,w0,hw,n1,i0,p16,yO,q3,z5]
       ·simp only [fC,zz,hA,c1,ht,c2,c3,c4,o0,w0,hw,n1,i0,p16,yO,q3,z5]
      ·by_cases q3:oc=3
       ·simp only [fC,zz,hA,c1,ht,c2,c3,c4,o0,w0,hw,n1,i0,p16,yO,q3,z5]
       ·simp only [fC,zz,hA,c1,ht,c2,c3,c4,o0,w0,hw,n1,i0,p16,yO,q3,z5]
    ·have i1:((((d1.at t).hd 2).at x.a).hd 3).n < (x.lc.l.length:Int):=by omega
     by_cases p16:((((d1.at t).hd 2).at x.a).hd 1).n=16
     ·by_cases q16:e2=16
      ·by_cases q4:e4=1
       ·by_cases q3:oc=3
        ·simp only [fC,zz,hA,c1,ht,c2,c3,c4,o0,w0,hw,n1,i0,i1,p16,q16,q4,q3,z5]
        ·simp only [fC,zz,hA,c1,ht,c2,c3,c4,o0,w0,hw,n1,i0,i1,p16,q16,q4,q3,z5]
       ·by_cases q3:oc=3
        ·simp only [fC,zz,hA,c1,ht,c2,c3,c4,o0,w0,hw,n1,i0,i1,p16,q16,q4,q3,z5]
        ·simp only [fC,zz,hA,c1,ht,c2,c3,c4,o0,w0,hw,n1,i0,i1,p16,q16,q4,q3,z5]
      ·by_cases yO:e2=15
       ·by_cases q3:oc=3
        ·simp only [fC,zz,hA,c1,ht,c2,c3,c4,o0,w0,hw,n1,i0,i1,p16,q16,yO,q3,z5]
        ·simp only [fC,zz,hA,c1,ht,c2,c3,c4,o0,w0,hw,n1,i0,i1,p16,q16,yO,q3,z5]
       ·by_cases q3:oc=3
        ·simp only [fC,zz,hA,c1,ht,c2,c3,c4,o0,w0,hw,n1,i0,i1,p16,q16,yO,q3,z5]
        ·simp only [fC,zz,hA,c1,ht,c2,c3,c4,o0,w0,hw,n1,i0,i1,p16,q16,yO,q3,z5]
     ·by_cases yO:e2=15
      ·by_cases q3:oc=3
       ·simp only [fC,zz,hA,c1,ht,c2,c3,c4,o0,w0,hw,n1,i0,i1,p16,yO,q3,z5]
       ·simp only [fC,zz,hA,c1,ht,c2,c3,c4,o0,w0,hw,n1,i0,i1,p16,yO,q3,z5]
      ·by_cases q3:oc=3
       ·simp only [fC,zz,hA,c1,ht,c2,c3,c4,o0,w0,hw,n1,i0,i1,p16,yO,q3,z5]
       ·simp only [fC,zz,hA,c1,ht,c2,c3,c4,o0,w0,hw,n1,i0,i1,p16,yO,q3,z5]
   ·by_cases yO:e2=15
    ·by_cases q3:oc=3
     ·simp only [fC,zz,hA,c1,ht,c2,c3,c4,o0,w0,hw,n1,yO,q3,z5]
     ·simp only [fC,zz,hA,c1,ht,c2,c3,c4,o0,w0,hw,n1,yO,q3,z5]
    ·by_cases q3:oc=3
     ·simp only [fC,zz,hA,c1,ht,c2,c3,c4,o0,w0,hw,n1,yO,q3,z5]
     ·simp only [fC,zz,hA,c1,ht,c2,c3,c4,o0,w0,hw,n1,yO,q3,z5]
  ·simp only [fC,zz,hA,c1,ht,o0,w0,bW,if_true,if_false,List.cons_append,List.nil_append]
end
section
variable {d0 d1 s s' k:D} {t op obj arg tries e1 e2 e3 e4 e5 oc:Int} {x:KT} (C:Cd d0 d1) (ht:t < (k.l.length:Int)) (R:Rt d0 d1 t x)
 (hA:L 400 [enc d0,enc d1,enc s,t,op,obj,arg,tries]=some [enc s',e1,e2,e3,e4,e5,oc]) (h0:oc=0→s'=s) (hx:x.w=0→x.a < (Nc d1 t:Int)) (hz:x.lc.l.length=0)
include C ht R hA h0 hx hz
set_option maxHeartbeats 4000000 in
theorem afD:L 14550 [enc d0,enc d1,t,op,obj,arg,tries,enc s,enc k,x.a,enc x.lc,x.w,x.o,x.g,x.tr]=some (0 :: enc d0 :: enc d1 :: t :: op :: obj :: arg :: tries :: enc s :: enc k :: x.a :: enc x.lc :: x.w :: x.o :: x.g :: x.tr :: (evT e1 e2 e3 e4 e5 oc++ [oc,enc s',(wG (Ins d1 t x) x op e2 e3 e4 oc).a,(wG (Ins d1 t x) x op e2 e3 e4 oc).w,(wG (Ins d1 t x) x op e2 e3 e4 oc).o,(wG (Ins d1 t x) x op e2 e3 e4 oc).g,(wG (Ins d1 t x) x op e2 e3 e4 oc).tr]))∧(wG (Ins d1 t x) x op e2 e3 e4 oc).lc=x.lc:=by
 have c1: ¬t < 0:=by have:=R.t0; omega
 have c2:=R.t1;have c3: ¬x.a < 0:=by have:=R.ok.1; omega
 have q0:=R.ok.2.2.2.1;have q1:=R.ok.2.2.2.2.1;have wt:IntKind.i64.wrap (x.tr+1)=x.tr+1:=qB (by omega) (by omega);rw [aT,alT];unfold wG evT;by_cases o0:oc=0
 ·have hs:=h0 o0;subst hs;subst o0;by_cases p4:op=4
  ·subst p4;by_cases pt:4611686018427387904 < x.tr+1
   ·simp only [jJ,zz,hA,c1,ht,wt,pt,bW,if_true,eq_self,List.cons_append,List.nil_append] <;> exact⟨rfl,rfl⟩
   ·simp only [jJ,zz,hA,c1,ht,wt,pt,bW,if_true,eq_self,if_false,List.cons_append,List.nil_append] <;> exact⟨rfl,rfl⟩
  ·simp only [jJ,zz,hA,c1,ht,p4,bW,if_true,if_false,List.cons_append,List.nil_append] <;> exact⟨rfl,rfl⟩
 ·by_cases w0:x.w=0
  ·have c4:=hx w0;have F:=C.inf R c4;have ok:=F.ok;have hln:(x.lc.l.length:Int)=(((d1.at t).hd 1).l.length:Int):=R.ok.2.2.1;have hnc:((d1.at t).hd 2).l.length≤140737488351232:=(C.code R.t0 R.t1).len;unfold Nc at c4;have hw:IntKind.i64.wrap (x.a+1)=x.a+1:=qB (by omega) (by omega);unfold OkI Ins at ok;unfold Ins;by_cases n1:((((d1.at t).hd 2).at x.a).hd 0).n=1
   ·have hin:((((d1.at t).hd 2).at x.a).hd 3).n= -1∨0≤((((d1.at t).hd 2).at x.a).hd 3).n∧((((d1.at t).hd 2).at x.a).hd 3).n < (x.lc.l.length:Int):=by
     rw [hln];omega
    by_cases i0:((((d1.at t).hd 2).at x.a).hd 3).n < 0
    ·by_cases p16:((((d1.at t).hd 2).at x.a).hd 1).n=16
     ·by_cases q16:e2=16
      ·by_cases q4:e4=1
       ·by_cases q3:oc=3
        ·simp only [jJ,zz,hA,c1,ht,c2,c3,c4,o0,w0,hw,n1,i0,p16,q16,q4,q3,z5] <;> exact⟨rfl,rfl⟩
        ·simp only [jJ,zz,hA,c1,ht,c2,c3,c4,o0,w0,hw,n1,i0,p16,q16,q4,q3,z5] <;> exact⟨rfl,rfl⟩
       ·by_cases q3:oc=3
        ·simp only [jJ,zz,hA,c1,ht,c2,c3,c4,o0,w0,hw,n1,i0,p16,q16,q4,q3,z5] <;> exact⟨rfl,rfl⟩
        ·simp only [jJ,zz,hA,c1,ht,c2,c3,c4,o0,w0,hw,n1,i0,p16,q16,q4,q3,z5] <;> exact⟨rfl,rfl⟩
      ·by_cases yO:e2=15
       ·by_cases q3:oc=3
        ·simp only [jJ,zz,hA,c1,ht,c2,c3,c4,o0,w0,hw,n1,i0,p16,q16,yO,q3,z5] <;> exact⟨rfl,rfl⟩
        ·simp only [jJ,zz,hA,c1,ht,c2,c3,c4,o0,w0,hw,n1,i0,p16,q16,yO,q3,z5] <;> exact⟨rfl,rfl⟩
       ·by_cases q3:oc=3
        ·simp only [jJ,zz,hA,c1,ht,c2,c3,c4,o0,w0,hw,n1,i0,p16,q16,yO,q3,z5] <;> exact⟨rfl,rfl⟩
        ·simp only [jJ,zz,hA,c1,ht,c2,c3,c4,o0,w0,hw,n1,i0,p16,q16,yO,q3,z5] <;> exact⟨rfl,rfl⟩
     ·by_cases yO:e2=15
      ·by_cases q3:oc=3
       ·simp only [jJ,zz,hA,c1,ht,c2,c3,c4,o0,w0,hw,n1,i0,p16,yO,q3,z5] <;> exact⟨rfl,rfl⟩
       ·simp only [jJ,zz,hA,c1,ht,c2,c3,c4,o0,w0,hw,n1,i0,p16,yO,q3,z5] <;> exact⟨rfl,rfl⟩
      ·by_cases q3:oc=3
       ·simp only [jJ,zz,hA,c1,ht,c2,c3,c4,o0,w0,hw,n1,i0,p16,yO,q3,z5] <;> exact⟨rfl,rfl⟩
       ·simp only [jJ,zz,hA,c1,ht,c2,c3,c4,o0,w0,hw,n1,i0,p16,yO,q3,z5] <;> exact⟨rfl,rfl⟩
    ·omega
   ·by_cases yO:e2=15
    ·by_cases q3:oc=3
     ·simp only [jJ,zz,hA,c1,ht,c2,c3,c4,o0,w0,hw,n1,yO,q3,z5] <;> exact⟨rfl,rfl⟩
     ·simp only [jJ,zz,hA,c1,ht,c2,c3,c4,o0,w0,hw,n1,yO,q3,z5] <;> exact⟨rfl,rfl⟩
    ·by_cases q3:oc=3
     ·simp only [jJ,zz,hA,c1,ht,c2,c3,c4,o0,w0,hw,n1,yO,q3,z5] <;> exact⟨rfl,rfl⟩
     ·simp only [jJ,zz,hA,c1,ht,c2,c3,c4,o0,w0,hw,n1,yO,q3,z5] <;> exact⟨rfl,rfl⟩
  ·simp only [jJ,zz,hA,c1,ht,o0,w0,bW,if_true,if_false,List.cons_append,List.nil_append] <;> exact⟨rfl,rfl⟩
end
end Go.As.Try
end
section
namespace Go.As.Try
open Go hiding Stat Spec shape
open Go.As
set_option maxRecDepth 100000
structure Sx (s k:D) (n:Nat):Prop where
 g:Gs s n
 wk:Wd (.sl 8) k
 n2s:s≠.i 2
 n2k:k≠.i 2
theorem Sx.st {s k:D} {n:Nat} (S:Sx s k n):Sk s k:=⟨S.g.wd,S.wk,S.n2s,S.n2k⟩
theorem Sx.mono {s k:D} {n m:Nat} (S:Sx s k n) (h:n≤m):Sx s k m:=⟨S.g.mono h,S.wk,S.n2s,S.n2k⟩
abbrev vM (k:D) (t:Int) (x:KT):D:=dL (fA k.l t x.d)
theorem tV (a:D) (l:List D):dL (a :: l)= .p a (dL l):=rfl
theorem zV:dL []= .i 0:=rfl
structure Tried (d0 d1 s:D) (t op obj arg tries:Int) (n:Nat) (s':D) (e1 e2 e3 e4 e5 oc:Int):Prop where
 eq:L 400 [enc d0,enc d1,enc s,t,op,obj,arg,tries]=some [enc s',e1,e2,e3,e4,e5,oc]
 no:oc=0→s'=s∧e1=0∧e2=0∧e3=0∧e4=0∧e5=0
 oc3:oc=0∨oc=2∨oc=3
 gs:Gs s' (n+1)
 len:s'.l.length=s.l.length
 n2:s≠.i 2→s'≠.i 2
 e3:iI .i64 e3
 e4:iI .i64 e4
theorem try_any {d0 d1 s:D} {t op obj arg tries:Int} {n:Nat} (h0:Wd (.sl 3) d0) (h1:Wd (.sl 4) d1) (G:Gs s n) (hn:n < 17592186043904) (ht:iI .i64 t) (hop:iI .u8 op) (hob:iI .i64 obj) (ha:iI .i64 arg) :
 ∃s' e1 e2 e3 e4 e5 oc,Tried d0 d1 s t op obj arg tries n s' e1 e2 e3 e4 e5 oc:=by
 have hf:=G.few (by omega:n < 17592186044415);have z:iI .i64 0:=⟨by omega,by omega⟩;by_cases A:Acc d0 d1 s t op obj
 ·obtain⟨_,o,c,dn,g,r,v,T,hL⟩:=Y9 (arg:=arg) (tries:=tries) h0 h1 G.wd hf hop A;rw [ZP] at hL;have o0:=A.o0;have o1:=A.o1;obtain⟨i,rfl⟩ : ∃i:Nat,obj=(i:Int):=⟨obj.toNat,by omega⟩;have hi:i < s.l.length:=by omega
  have hrow:=G.rows _ (List.getElem_mem hi);have e:s.l[i]=dL [.i o,.i c,.i dn,.i g,r,v]:=by rw [← aZ hi]; exact T.is
  rw [e] at hrow;have hA:=aAE (M:=Mx d0 (i:Int)) (mo:=Mo d0 s (i:Int)) (op:=op) (tries:=tries) T (n:=n) hrow.1 hrow.2 (by omega) ht ha;have hE:=aCO (M:=Mx d0 (i:Int)) (mo:=Mo d0 s (i:Int)) (th:=t) (op:=op) (tries:=tries) T (by have:=hrow.1; have:r.l.length≤n:=this; omega) ha
  have hM:NoM (act (Mx d0 (i:Int)) (Mo d0 s (i:Int)) t op arg tries o c dn g r v)∨0≤Mx d0 (i:Int)∧Mx d0 (i:Int) < (s.l.length:Int):=by
   by_cases h:op=12∨op=24
   ·have:=WB h0 h1 G.wd hf hop A h;exact .inr ⟨this.1,this.2.1⟩
   ·exact .inl (aeK (by omega) (by omega))
  have hg:=apX G hA o0 o1 hM;have hl:=ahY s (i:Int) (Mx d0 (i:Int)) (act (Mx d0 (i:Int)) (Mo d0 s (i:Int)) t op arg tries o c dn g r v);generalize act (Mx d0 (i:Int)) (Mo d0 s (i:Int)) t op arg tries o c dn g r v=B at *
  have hn2:s≠.i 2→XL s (i:Int) (Mx d0 (i:Int)) B≠.i 2:=fun _ he=>by rw [he] at hl;have:(D.i 2).l.length=0:=rfl;omega
  cases B with
  | blk=>exact⟨s,0,0,0,0,0,0,hL,fun _=> ⟨rfl,rfl,rfl,rfl,rfl,rfl⟩,.inl rfl,hg,rfl,fun h=>h,z,z⟩
  | mis=>exact⟨s,t,27,_,_,0,2,hL,fun h=>absurd h (by omega),.inr (.inl rfl),hg,rfl,fun h=>h,hob,wrap_in _⟩
  | res o' c' dn' g' r' v' m a oc=>exact⟨_,t,op,_,a,0,oc,hL,fun h=>by have:=hA.2.2.2.2.2.2.2.2.2; omega,.inr hA.2.2.2.2.2.2.2.2.2,hg,hl,hn2,hob,hE⟩
 ·exact⟨s,0,0,0,0,0,0,afC h0 h1 G.wd hf hop A,fun _=> ⟨rfl,rfl,rfl,rfl,rfl,rfl⟩,.inl rfl,G.mono (Nat.le_succ n),rfl,fun h=>h,z,z⟩
noncomputable abbrev stE (d0 d1 s k:D) (t:Int):Nat→Int:=bJ L (low [enc d0,enc d1,enc s,enc k,t])
theorem XC {k:D} {t:Int} {x:KT} (h:k=dL k.l) (t0:0≤t) (t1:t < (k.l.length:Int)) (hk:k.at t=x.d):vM k t x=k:=by
 obtain⟨i,rfl⟩ : ∃i:Nat,t=(i:Int):=⟨t.toNat,by omega⟩;have hi:i < k.l.length:=by omega
 rw [aZ hi] at hk;unfold vM;rw [← hk];exact set_self h hi
section
variable {d0 d1 s k:D} {t:Int} {n:Nat} (S:Sx s k n)
include S
theorem Zz (hR:L 1550 [enc d0,enc d1,enc s,enc k,t]=some [0]):L 1850 [enc d0,enc d1,enc s,enc k,t]=some [enc s,enc k,0,0,0,0,0,0]:=by
 by_cases hr:t < 0∨(k.l.length:Int)≤t
 ·rcases aeH S.st hr with h | ⟨h,he⟩
  ·have K:dX (stE d0 d1 s k t) Iw= .out [enc s,enc k,0,0,0,0,0,0]:=by
    refine bT [.eq (a0 9050 QZ) Q0,.eq wF Qa,WV,WU] [] (ou [J4,YX,Qa,Qa,Qa,Qa,Qa,Qa]) (by simp only [zz,h,hR] <;> omega) (by kernel_rfl) ?_;simp only [zz,h]
   rw [aT,Nb];exact congrArg (fin L) K
  ·subst he
   have K:dX (stE d0 d1 s (.i 1) t) Iw= .out [enc s,enc (.i 1),0,0,0,0,0,0]:=by refine bT [.eq (a0 9050 QZ) Q0,.eq wF Q0,WV,WU] [.eq wF Qa] (ou [J4,Qh,Qa,Qa,Qa,Qa,Qa,Qa]) (by simp only [zz,h,hR] <;> omega) (by kernel_rfl) ?_;simp only [zz,h]
   rw [aT,Nb];exact congrArg (fin L) K
 ·obtain⟨i,rfl⟩ : ∃i:Nat,t=(i:Int):=⟨t.toNat,by omega⟩;have hi:i < k.l.length:=by omega
  obtain⟨a,lc,w,o,g,tr,T⟩:=lS S.wk _ (List.getElem_mem hi);have h:=QN S.st hi T;have hs:vM k (i:Int) ⟨a,lc,w,o,g,tr⟩ = k:=XC (J9 S.wk (by omega)).sh (by omega) (by omega) (by rw [aZ hi,T.is]);simp only [vM,KT.d,tV,zV] at hs;have ha:EF lc=3∨EF lc=4:=by unfold EF; split <;> simp
  have K:dX (stE d0 d1 s k (i:Int)) Iw= .out [enc s,enc k,0,0,0,0,0,0]:=by
   rcases ha with ha | ha
   ·rw [ha] at h;refine bT [.eq (a0 9050 QZ) Q0,.eq wF wU,WV,WU] [.eq wF Qa,.eq wF Q0,.eq wF nV] (ou [J4,Qpc,Qa,Qa,Qa,Qa,Qa,Qa]) (by simp only [zz,h,hR] <;> omega) (by kernel_rfl) ?_;simp only [zz,h,hs]
   ·rw [ha] at h;refine bT [.eq (a0 9050 QZ) Q0,.eq wF DY,WV,WU] [.eq wF Qa,.eq wF Q0,.eq wF nV,.eq wF wU] (ou [J4,Qpc,Qa,Qa,Qa,Qa,Qa,Qa]) (by simp only [zz,h,hR] <;> omega) (by kernel_rfl) ?_;simp only [zz,h,hs]
  rw [aT,Nb];exact congrArg (fin L) K
end
structure Rs (d0 d1 s k:D) (t:Int) (x:KT):Prop where
 c:Cd d0 d1
 r:Rt d0 d1 t x
 hk:k.at t=x.d
 ht:t < (k.l.length:Int)
 yes:L 1550 [enc d0,enc d1,enc s,enc k,t]=some [1]
theorem atY {d0 d1 s k:D} {t:Int} {n:Nat} (S:Sx s k n) (hn:n < 17592186043904) (h0:Wd (.sl 3) d0) (h1:Wd (.sl 4) d1):L 1550 [enc d0,enc d1,enc s,enc k,t]=some [0]∨∃x,Rs d0 d1 s k t x:=by
 obtain⟨ys,hL,b,rfl,hb⟩:=ahR (k:=k) h0 h1 (S.g.few (by omega)).rows h1.len t;rcases hb with ⟨rfl,_⟩ | ⟨rfl,t0,t1,M⟩
 ·exact .inl hL
 ·refine .inr ?_;obtain⟨hle,hO⟩:=M.2;obtain⟨i,rfl⟩ : ∃i:Nat,t=(i:Int):=⟨t.toNat,by omega⟩;have hi:i < k.l.length:=by omega
  have hd:i < d1.l.length:=by omega
  obtain⟨a,lc,w,o,g,tr,T⟩:=lS S.wk _ (List.getElem_mem hi);have ok:=hO i hi;unfold OkK at ok;rw [T.is] at ok;simp only [zg,Option.getD_some,n_i] at ok;refine⟨⟨a,lc,w,o,g,tr⟩,(MR.code h0 h1 (S.g.few (by omega)).rows M).1,⟨by omega,by omega,?_,T.hl,T.hg⟩,by rw [aZ hi,T.is],by omega,hL⟩;rw [aZ hd];exact ok
section
variable {d0 d1 s k:D} {t:Int} {n:Nat} {x:KT} (S:Sx s k n) (R:Rs d0 d1 s k t x)
include S R
theorem Rs.cp:L 9050 [t,enc s,enc k]=some [EF x.lc,t,enc s,enc k,x.a,enc x.lc,x.w,x.o,x.g,x.tr]:=by
 have t0:=R.r.t0;have ht:=R.ht;obtain⟨i,rfl⟩ : ∃i:Nat,t=(i:Int):=⟨t.toNat,by omega⟩;have hi:i < k.l.length:=by omega
 obtain⟨a,lc,w,o,g,tr,T⟩:=lS S.wk _ (List.getElem_mem hi);have h:=QN S.st hi T;have e:=R.hk;rw [aZ hi,T.is] at e;simp only [KT.d,tV,zV,D.p.injEq,D.i.injEq,and_true] at e;obtain⟨rfl,rfl,rfl,rfl,rfl,rfl⟩:=e;exact h
theorem Rs.self:dL (fA k.l t (.p (.i x.a) (.p x.lc (.p (.i x.w) (.p (.i x.o) (.p (.i x.g) (.p (.i x.tr) (.i 0))))))))=k:=by
 have hl:0 < k.l.length:=by have:=R.r.t0; have:=R.ht; omega
 exact XC (J9 S.wk hl).sh R.r.t0 R.ht R.hk
theorem Oy (ho:lT d1 t x=1):L 1850 [enc d0,enc d1,enc s,enc k,t]=some [enc s,enc k,0,0,0,0,0,4]:=by
 have h:=R.cp S;have hs:=R.self S;have hR:=R.yes;have hO:=E5 (s:=s) R.hk R.ht R.r;rw [ho] at hO;have ha:EF x.lc=3∨EF x.lc=4:=by unfold EF; split <;> simp
 have K:dX (stE d0 d1 s k t) Iw= .out [enc s,enc k,0,0,0,0,0,4]:=by
  rcases ha with ha | ha
  ·rw [ha] at h;refine bT [.eq (a0 9050 QZ) Q0,.eq wF wU,WV,.eq (a0 1650 QY) Q0] [.eq wF Qa,.eq wF Q0,.eq wF nV,WU,Qpf] (ou [J4,Qpc,Qa,Qa,Qa,Qa,Qa,DY]) (by simp only [zz,h,hR,hs,hO] <;> omega) (by kernel_rfl) ?_;simp only [zz,h,hs]
  ·rw [ha] at h;refine bT [.eq (a0 9050 QZ) Q0,.eq wF DY,WV,.eq (a0 1650 QY) Q0] [.eq wF Qa,.eq wF Q0,.eq wF nV,.eq wF wU,WU,Qpf] (ou [J4,Qpc,Qa,Qa,Qa,Qa,Qa,DY]) (by simp only [zz,h,hR,hs,hO] <;> omega) (by kernel_rfl) ?_;simp only [zz,h,hs]
 rw [aT,Nb];exact congrArg (fin L) K
theorem KH (ho:lT d1 t x=0) (hn:low (sV d1 t x) 4=0):L 1850 [enc d0,enc d1,enc s,enc k,t]=some [enc s,enc (vM k t (Ap (Ins d1 t x) x)),0,0,0,0,0,1]:=by
 have h:=R.cp S;have hs:=R.self S;have hR:=R.yes;have hO:=E5 (s:=s) R.hk R.ht R.r;have hN:=ZR (s:=s) R.c R.hk R.ht R.r;have Lc:=aiY R.r ho hn;rw [ho] at hO
 have K:dX (stE d0 d1 s k t) Iw= .out [enc s,enc (vM k t (Ap (Ins d1 t x) x)),0,0,0,0,0,1]:=by
  have hw:(Ap (Ins d1 t x) x).w=x.w∧(Ap (Ins d1 t x) x).o=x.o∧(Ap (Ins d1 t x) x).g=x.g∧(Ap (Ins d1 t x) x).tr=x.tr:=by
   unfold Ap
   repeat' split
   all_goals exact⟨rfl,rfl,rfl,rfl⟩
  by_cases hp:0 < x.lc.l.length
  ·have ha:EF x.lc=3:=if_pos hp;rw [ha] at h;have hl:=aiW (s:=s) R.c R.ht R.r Lc;refine bT [.eq (a0 9050 QZ) Q0,.eq wF wU,WV,.eq (a0 1650 QY) Q0,Qpf,.eq (a0 1750 QY) Q0,Qpg,.eq (a0 14000 Qph) Q0,.eq (rr 14000 Qph 0) Qa] [.eq wF Qa,.eq wF Q0,.eq wF nV,WU] (ou [J4,.op .set YX (cn (mk bG) (cn (mk (rr 14000 Qph 12)) (cn (rr 14000 Qph 13) Qpb))),Qa,Qa,Qa,Qa,Qa,Q0]) (by simp only [zz,h,hR,hs,hO,hN,hn,hl] <;> omega) (by kernel_rfl) ?_;simp only [zz,h,hs,hl,vM,KT.d,tV,zV,hw]
  ·have ha:EF x.lc=4:=if_neg hp;rw [ha] at h;obtain⟨hl,hc⟩:=aiV (s:=s) R.c R.ht R.r Lc (by omega);refine bT [.eq (a0 9050 QZ) Q0,.eq wF DY,WV,.eq (a0 1650 QY) Q0,Qpf,.eq (a0 1750 QY) Q0,Qpg,.eq (a0 14050 Qph) Q0,.eq (rr 14050 Qph 0) Qa] [.eq wF Qa,.eq wF Q0,.eq wF nV,.eq wF wU,WU] (ou [J4,.op .set YX (cn (mk bG) (cn (mk (rr 14050 Qph 12)) (cn Qo6 Qpb))),Qa,Qa,Qa,Qa,Qa,Q0]) (by simp only [zz,h,hR,hs,hO,hN,hn,hl] <;> omega) (by kernel_rfl) ?_;simp only [zz,h,hs,hl,vM,KT.d,tV,zV,hw,hc]
 rw [aT,Nb];exact congrArg (fin L) K
theorem KG {op obj arg tries e1 e2 e3 e4 e5 oc:Int} {s':D} (ho:lT d1 t x=0) (hn:sV d1 t x= [op,obj,arg,tries,1]) (A:Tried d0 d1 s t op obj arg tries n s' e1 e2 e3 e4 e5 oc) :
 L 1850 [enc d0,enc d1,enc s,enc k,t]=some [enc s',enc (vM k t (wG (Ins d1 t x) x op e2 e3 e4 oc)),e1,e2,e3,e4,e5,oc]:=by
 have h:=R.cp S;have hs:=R.self S;have hR:=R.yes;have hO:=E5 (s:=s) R.hk R.ht R.r;have hN:=ZR (s:=s) R.c R.hk R.ht R.r;rw [ho] at hO;rw [hn] at hN
 have hx:x.w=0→x.a < (Nc d1 t:Int):=fun w0=>by unfold lT at ho;rw [if_pos w0] at ho;have:=R.r.ok.2.1;unfold Nc at ho ⊢;split at ho <;> omega
 have hE:evT e1 e2 e3 e4 e5 oc= [e1,e2,e3,e4,e5]:=by
  unfold evT;split
  ·rename_i h0;obtain⟨_,rfl,rfl,rfl,rfl,rfl⟩:=A.no h0;rfl
  ·rfl
 have K:dX (stE d0 d1 s k t) Iw= .out [enc s',enc (vM k t (wG (Ins d1 t x) x op e2 e3 e4 oc)),e1,e2,e3,e4,e5,oc]:=by
  by_cases hp:0 < x.lc.l.length
  ·have ha:EF x.lc=3:=if_pos hp;rw [ha] at h;have hl:=afE R.c R.ht R.r A.eq (fun h=>(A.no h).1) hx;rw [hE] at hl;simp only [List.cons_append,List.nil_append] at hl;refine bT [.eq (a0 9050 QZ) Q0,.eq wF wU,WV,.eq (a0 1650 QY) Q0,Qpf,.eq (a0 1750 QY) Q0,.eq (a0 14500 qL) Q0,.eq (rr 14500 qL 0) Qa] [.eq wF Qa,.eq wF Q0,.eq wF nV,WU,Qpg] (ou [rr 14500 qL 22,.op .set YX (cn (mk bG) (cn (mk (rr 14500 qL 23)) (cn (rr 14500 qL 24) (cn (mk (rr 14500 qL 25)) (cn (mk (rr 14500 qL 26)) (cn (mk (rr 14500 qL 27)) (cn (mk (rr 14500 qL 28)) mW))))))),rr 14500 qL 16,rr 14500 qL 17,rr 14500 qL 18,rr 14500 qL 19,rr 14500 qL 20,rr 14500 qL 21]) (by simp only [zz,h,hR,hs,hO,hN,hl] <;> omega) (by kernel_rfl) ?_;simp only [zz,h,hs,hN,hl,vM,KT.d,tV,zV]
  ·have ha:EF x.lc=4:=if_neg hp;rw [ha] at h;obtain⟨hl,hc⟩:=afD R.c R.ht R.r A.eq (fun h=>(A.no h).1) hx (by omega);rw [hE] at hl;simp only [List.cons_append,List.nil_append] at hl;refine bT [.eq (a0 9050 QZ) Q0,.eq wF DY,WV,.eq (a0 1650 QY) Q0,Qpf,.eq (a0 1750 QY) Q0,.eq (a0 14550 qL) Q0,.eq (rr 14550 qL 0) Qa] [.eq wF Qa,.eq wF Q0,.eq wF nV,.eq wF wU,WU,Qpg] (ou [rr 14550 qL 22,.op .set YX (cn (mk bG) (cn (mk (rr 14550 qL 23)) (cn Qo6 (cn (mk (rr 14550 qL 24)) (cn (mk (rr 14550 qL 25)) (cn (mk (rr 14550 qL 26)) (cn (mk (rr 14550 qL 27)) mW))))))),rr 14550 qL 16,rr 14550 qL 17,rr 14550 qL 18,rr 14550 qL 19,rr 14550 qL 20,rr 14550 qL 21]) (by simp only [zz,h,hR,hs,hO,hN,hl] <;> omega) (by kernel_rfl) ?_;simp only [zz,h,hs,hN,hl,vM,KT.d,tV,zV,hc]
 rw [aT,Nb];exact congrArg (fin L) K
end
end Go.As.Try
end
section
namespace Go.As.Try
open Go hiding Stat Spec shape
open Go.As
set_option maxRecDepth 100000
theorem Tot.jmp {j k:Nat} {xs ys:List Int} {t:T Lf} {p:List Int→Prop} (e:S.tree j=t) (h:dX (bJ L (low xs)) t= .jump k ys) (q:Tot k ys p):Tot j xs p:=by refine Tot.of ?_;rw [e,h];exact .jump q
theorem Tot.ret {j:Nat} {xs ys:List Int} {t:T Lf} {p:List Int→Prop} (e:S.tree j=t) (h:dX (bJ L (low xs)) t= .out ys) (q:p ys):Tot j xs p:=by refine Tot.of ?_;rw [e,h];exact .out q
theorem OB (m:Nat) (hm:m≤60) (ih: ∀(k n:Int) (s kids:D),Wd .str s→Wd (.sl 6) kids→Tot 150 [k,enc s,n,enc kids,(m:Int)] one) (x3 x4 x5:Int) (kids:D) (hk:Wd (.sl 6) kids) :
 ∀(j i:Nat) (x1:Int),i+j=kids.l.length→Tot 151 [((m+1:Nat):Int),x1,(i:Int),x3,x4,x5,enc kids] one
 | 0,i,x1,hi=>Tot.ret asB (ys:=[x1]) (bT [] [.lt Qo Qfb] (ou [Qb]) (by simp only [zz] <;> omega) (by kernel_rfl) (by simp only [zz])) ⟨x1,rfl⟩
 | j+1,i,x1,hi=>by
   have hl:=hk.len;have hil:i < kids.l.length:=by omega
   have hw:=bD (n:=i) (by omega);obtain⟨k,s,n,ks,he,_,hs,_,hks⟩:=C9 hk hil;have ha:kids.at (i:Int)=dL [.i k,s,.i n,ks]:=by rw [aZ hil]; exact he
   obtain⟨ys,Yd,z,rfl⟩:=ih k n s ks hs hks;have hw2:IntKind.i64.wrap (((m+1:Nat):Int) - 1)=(m:Int):=by rw [qB (by omega) (by omega)]; omega
   by_cases hx:10000 < x1
   ·exact Tot.ret asB (ys:=[x1]) (bT [.lt Qo Qfb,.lt (.lit 10000) Qb] [] (ou [Qb]) (by simp only [zz] <;> omega) (by kernel_rfl) (by simp only [zz])) ⟨x1,rfl⟩
   ·exact Tot.jmp asB (bT [.lt Qo Qfb,.eq (a0 150 Qfd) Q0] [.lt (.lit 10000) Qb,vK] (ju 151 [Qf,wr (.add Qb (rr 150 Qfd 0)),lQ,Qm,bG,dK,dZ]) (by simp only [zz,ha,zg,hw2,Yd] <;> omega) (by kernel_rfl) (by simp only [zz,ha,zg,hw2,Yd,hw] <;> rfl)) (OB m hm ih x3 x4 x5 kids hk j (i+1) (IntKind.i64.wrap (x1+z)) (by omega))
theorem UY: ∀(m:Nat),m≤60→∀(k n:Int) (s kids:D),Wd .str s→Wd (.sl 6) kids→Tot 150 [k,enc s,n,enc kids,(m:Int)] one
 | 0,_,k,n,s,kids,_,_=>Tot.ret aAx (ys:=[10000]) (bT [Qe9] [] (ou [.lit 10000]) (by simp only [zz] <;> omega) (by kernel_rfl) (by simp only [zz])) ⟨_,rfl⟩
 | m+1,hm,k,n,s,kids,hs,hk=>Tot.jmp aAx (ys:=[((m+1:Nat):Int),_,(0:Nat),k,enc s,n,enc kids]) (bT [] [Qe9] (ju 151 [bG,wr (.add Q0 (wr (.quo Qc Qfa))),Qa,Qf,Qb,Qo,Qm]) (by simp only [zz] <;> omega) (by kernel_rfl) (by simp only [nT,List.map,aP,Nat.reduceLT,aH,aK] <;> rfl)) (OB m (by omega) (UY m (by omega)) k (enc s) n kids hk kids.l.length 0 _ (by omega))
section
variable {d0 d1:D} (h1:Wd (.sl 4) d1)
include h1
theorem Mc (x1 x2 x3:Int) (Oa:D) (ha:Wd (.sl 6) Oa) (q: ∀x0,Tot 102 [x0,x1,IntKind.i64.wrap (x2+1),x3,enc d0,enc d1] Es): ∀(j i:Nat) (x0:Int),i+j=Oa.l.length→Tot 103 [x0,x1,x2,x3,enc Oa,(Oa.l.length:Int),(i:Int),enc d0,enc d1] Es
 | 0,i,x0,hi=>Tot.jmp aAy (bT [] [.lt dZ dK] (ju 102 [Qf,Qb,lQ,Qm,gB,iM]) (by simp only [zz] <;> omega) (by kernel_rfl) (by simp only [zz])) (q x0)
 | j+1,i,x0,hi=>by
   have hl:=ha.len;have hil:i < Oa.l.length:=by omega
   have hw:=bD (n:=i) (by omega);obtain⟨k,s,n,ks,he,_,hs,_,hks⟩:=C9 ha hil;have hat:Oa.at (i:Int)=dL [.i k,s,.i n,ks]:=by rw [aZ hil]; exact he
   obtain⟨ys,Yd,z,rfl⟩:=UY 60 (by omega) k n s ks hs hks;have Yd:L 150 [k,enc s,n,enc ks,60]=some [z]:=Yd;exact Tot.jmp aAy (bT [.lt dZ dK,.lt dZ Qdh,.eq (a0 150 Qe8) Q0] [.lt dZ Qa] (ju 103 [wr (.add Qf (rr 150 Qe8 0)),Qb,Qo,Qm,bG,dK,wr (.add dZ Q0),gB,iM]) (by simp only [zz,hat,zg,Yd] <;> omega) (by kernel_rfl) (by simp only [zz,hat,zg,Yd,hw] <;> rfl)) (Mc x1 x2 x3 Oa ha q j (i+1) (IntKind.i64.wrap (x0+z)) (by omega))
theorem adN (i:Nat) (hi:i < d1.l.length) (q: ∀x0,Tot 101 [x0,(d1.l.length:Int),((i+1:Nat):Int),enc d0,enc d1] Es): ∀(j k:Nat) (x0:Int),(∀nm' lc cd,d1.l[i]=dL [nm',lc,cd]→k+j=cd.l.length)→Tot 102 [x0,(i:Int),(k:Int),(d1.l.length:Int),enc d0,enc d1] Es:=by
 have hl:=h1.len;have hw:=bD (n:=i) (by omega);obtain⟨nm',lc,cd,he,_,_,hcd⟩:=EL h1 hi;have hat:d1.at (i:Int)=dL [nm',lc,cd]:=by rw [aZ hi]; exact he
 have hcl:=hcd.len;intro j
 induction j with
 | zero=> intro k x0 hk;have hk:=hk _ _ _ he;exact Tot.jmp asC (bT [Qe2] [Qe1,.lt Qo (ln (ce 2 WI))] (ju 101 [Qf,Qm,Qe4,bG,dK]) (by simp only [zz,hat,zg] <;> omega) (by kernel_rfl) (by simp only [zz,hw] <;> rfl)) (q x0)
 | succ j ih=>
   intro k x0 hk;have hk':=hk _ _ _ he;by_cases h6:6000 < x0
   ·exact Tot.jmp asC (bT [Qe2,.lt Qo (ln (ce 2 WI)),.lt (.lit 6000) Qf] [Qe1] (ju 101 [Qf,Qm,Qe4,bG,dK]) (by simp only [zz,hat,zg] <;> omega) (by kernel_rfl) (by simp only [zz,hw] <;> rfl)) (q x0)
   ·have hkl:k < cd.l.length:=by omega
    have hw2:=bD (n:=k) (by omega);obtain⟨a,b,c,e,f,g,Oa,hin,_,_,_,_,_,_,has⟩:=X8 hcd hkl;have aDs:cd.at (k:Int)=dL [.i a,.i b,.i c,.i e,.i f,.i g,Oa]:=by rw [aZ hkl]; exact hin
    refine Tot.jmp asC (bT [Qe2,.lt Qo (ln (ce 2 WI))] [Qe1,.lt (.lit 6000) Qf,vK] (ju 103 [Qf,Qb,Qo,Qm,Qe6,ln Qe6,Qa,bG,dK]) (by simp only [zz,hat,zg] <;> omega) (by kernel_rfl) (by simp only [zz,hat,aDs,zg] <;> rfl)) (Mc h1 (i:Int) (k:Int) (d1.l.length:Int) Oa has (fun x0=>?_) Oa.l.length 0 x0 (by omega));rw [hw2];exact ih (k+1) x0 fun nm' lc cd he=>by have:=hk nm' lc cd he; omega
theorem L9: ∀(j i:Nat) (x0:Int),i+j=d1.l.length→Tot 101 [x0,(d1.l.length:Int),(i:Int),enc d0,enc d1] Es
 | 0,i,x0,hi=>by
   by_cases h6:6000 < x0
   ·exact Tot.ret asD (bT [.lt (.lit 6000) Qf] [yD] (ou [Q0]) (by simp only [zz] <;> omega) (by kernel_rfl) (by simp only [zz])) yU
   ·exact Tot.ret asD (bT [] [yD,.lt (.lit 6000) Qf] (ou [Qa]) (by simp only [zz] <;> omega) (by kernel_rfl) (by simp only [zz])) yV
 | j+1,i,x0,hi=>by
   have hil:i < d1.l.length:=by omega
   obtain⟨nm',lc,cd,he,_,_,hcd⟩:=EL h1 hil;refine Tot.jmp asD (ys:=[_,(i:Int),((0:Nat):Int),(d1.l.length:Int),enc d0,enc d1]) (bT [yD,Qdj] [vK] (ju 102 [wr (.add Qf (wr (.add (ln Qdl) (ln (ce 2 Qdk))))),Qo,Qa,Qb,Qm,bG]) (by simp only [zz] <;> omega) (by kernel_rfl) (by simp only [zz] <;> rfl)) (adN h1 i hil (fun x0=>L9 j (i+1) x0 (by omega)) cd.l.length 0 _ fun n' l' c' he'=>?_);rw [he] at he';have:=Nw he';simp only [List.cons.injEq,and_true] at this;rw [this.2.2];omega
theorem adM:Tot 100 [enc d0,enc d1] Es:=
 Tot.jmp e100 (ys:=[_,(d1.l.length:Int),((0:Nat):Int),enc d0,enc d1]) (bT [] [] (ju 101 [wr (.add vJ Qc),Qc,Qa,Qf,Qb]) (by simp only [zz] <;> omega) (by kernel_rfl) (by simp only [zz] <;> rfl)) (L9 h1 d1.l.length 0 _ (by omega))
end
end Go.As.Try
end
section
namespace Go.As.Try
open Go hiding Stat Spec shape
open Go.As
set_option maxRecDepth 100000
def oD (x:D):D:=dL [.i 0,if (x.hd 1).l.length=0 then .i 2 else dL (List.replicate (x.hd 1).l.length (.i 0)),.i 0,.i 0,.i 0,.i 0]
def qX (d0:D):D:=if d0.l.length=0 then .i 1 else dL (d0.l.map lZ)
def uK (d1:D):D:=if d1.l.length=0 then .i 1 else dL (d1.l.map oD)
theorem UE {l:List D} (h: ∀x∈l,∃a lc w o g tr,Kt x a lc w o g tr) (hn:l≠[]) (hl:l.length≤2199023255488):Wd (.sl 8) (dL l):=by
 have e:(l.map fun x=>x.l).map dL=l:=by
  rw [List.map_map]
  conv=>rhs; rw [← List.map_id l]
  apply List.map_congr_left;intro x hx;obtain⟨a,lc,w,o,g,tr,T⟩:=h x hx;rw [T.is];rfl
 rw [← e];refine .many 8 [.int .i64,.sl 0,.int .u8,.int .i64,.int .i64,.int .i64] _ rfl (by simpa using hn) (by have:yA 8=64:=rfl; rw [this,List.length_map]; omega) (fun r hr=>?_) fun r hr j d c h1 h2=>?_
 ·obtain⟨x,hx,rfl⟩:=List.mem_map.1 hr;obtain⟨a,lc,w,o,g,tr,T⟩:=h x hx;rw [T.is];rfl
 ·obtain⟨x,hx,rfl⟩:=List.mem_map.1 hr;obtain⟨a,lc,w,o,g,tr,T⟩:=h x hx;rw [T.is,aX] at h1
  match j with
  | 0=>simp at h1 h2; subst h1 h2; exact .int _ _ T.ha
  | 1=>simp at h1 h2; subst h1 h2; exact T.hl
  | 2=>simp at h1 h2; subst h1 h2; exact .int _ _ T.hw
  | 3=>simp at h1 h2; subst h1 h2; exact .int _ _ T.ho
  | 4=>simp at h1 h2; subst h1 h2; exact .int _ _ T.hg
  | 5=>simp at h1 h2; subst h1 h2; exact .int _ _ T.ht
  | j+6=>simp at h1
theorem afL (x:D) (h:(x.hd 1).l.length≤17592186043904): ∃a lc w o g tr,Kt (oD x) a lc w o g tr:=by
 have z:iI .i64 0:=⟨by omega,by omega⟩;refine⟨0,_,0,0,0,0,rfl,z,?_,⟨by omega,by omega⟩,z,z,z⟩;split
 ·exact .non 0
 ·rename_i hn;refine BX (fun y hy=> ⟨0,(List.mem_replicate.1 hy).2,z⟩) (fun he=>?_) (by simpa using h);have:=congrArg List.length he;simp only [List.length_replicate,List.length_nil] at this;omega
theorem Eh {d1:D} (h1:Wd (.sl 4) d1): ∀x∈d1.l,(x.hd 1).l.length≤8796093021952:=by intro x hx;obtain⟨i,hi,rfl⟩:=List.getElem_of_mem hx;obtain⟨nm',lc,cd,he,_,hlc,_⟩:=EL h1 hi;rw [he];simp only [zg,Option.getD_some];have:=hlc.room;have h3:yA 2=16:=rfl;rw [h3] at this;omega
theorem ahB {d0 d1:D} (h0:Wd (.sl 3) d0) (h1:Wd (.sl 4) d1) (ok:Ho d0 d1):Sx (qX d0) (uK d1) 0:=by
 refine⟨?_,?_,?_,?_⟩
 ·unfold qX;split
  ·exact⟨.nil 7,fun x hx=>by simp [D.l] at hx⟩
  ·refine⟨Ol (fun x hx=>?_) (fun he=>?_) (by rw [List.length_map]; have:=ok.1; omega),fun x hx=>?_⟩
   ·obtain⟨y,hy,rfl⟩:=List.mem_map.1 hx;obtain⟨kd,nm',ln,s1,s2,he,_,hnn,_⟩:=h0.decl y hy;rw [he];refine⟨-1,_,0,0,.i 1,.i 1,rfl,⟨by omega,by omega⟩,?_,.inl rfl,⟨by omega,by omega⟩,.nil 0,.nil 0⟩;split
    ·exact hnn
    ·exact⟨by omega,by omega⟩
   ·have:=congrArg List.length he;simp only [List.length_map,List.length_nil] at this;omega
   ·rw [aX] at hx;obtain⟨y,hy,rfl⟩:=List.mem_map.1 hx;exact⟨Nat.le_refl 0,Nat.le_refl 0⟩
 ·unfold uK;split
  ·exact .nil 8
  ·refine UE (fun x hx=>?_) (fun he=>?_) (by rw [List.length_map]; have:=ok.2.1; omega)
   ·obtain⟨y,hy,rfl⟩:=List.mem_map.1 hx;exact afL y (by have:=Eh h1 y hy; omega)
   ·have:=congrArg List.length he;simp only [List.length_map,List.length_nil] at this;omega
 ·unfold qX;split
  ·intro h; cases h
  ·intro h;have:=congrArg (fun d=>d.l.length) h;simp only [aX,List.length_map,Ej,List.length_nil] at this;omega
 ·unfold uK;split
  ·intro h; cases h
  ·intro h;have:=congrArg (fun d=>d.l.length) h;simp only [aX,List.length_map,Ej,List.length_nil] at this;omega
theorem IW (d1:D) (h1:Wd (.sl 4) d1) (hlen:d1.l.length≤16) (s:D): ∀(k i:Nat) (acc:List D),i+k=d1.l.length→acc.length=i→
 L 1452 [enc d1,(d1.l.length:Int),(i:Int),enc s,enc (dL acc)]=some [enc s,enc (dL (acc++(d1.l.drop i).map oD)),0]
 | 0,i,acc,hi,ha=>by
   have c1: ¬(i:Int) < (d1.l.length:Int):=by omega
   rw [aT,alU,List.drop_of_length_le (by omega)];simp only [UO,zz,c1,bW,List.map_nil,List.append_nil]
 | k+1,i,acc,hi,ha=>by
   have hil:i < d1.l.length:=by omega
   have hd:d1.l.drop i=d1.l[i] :: d1.l.drop (i+1):=List.drop_eq_getElem_cons hil;have ih:=IW d1 h1 hlen s k (i+1) (acc++ [oD d1.l[i]]) (by omega) (by simp [ha]);have c1:(i:Int) < (d1.l.length:Int):=by omega
   have c2: ¬((i:Int) < 0):=by omega
   have w:=bD (n:=i) (by omega);have c3:(acc.length:Int) < 2199023255551:=by omega
   have hb:=Eh h1 _ (List.getElem_mem hil);have c4:((((d1.l[i]).hd 1).l.length:Nat):Int) < 17592186044416:=by omega
   have e2:acc++(oD d1.l[i] :: (d1.l.drop (i+1)).map oD)=acc++ [oD d1.l[i]]++(d1.l.drop (i+1)).map oD:=by simp
   rw [hd,List.map_cons,e2,← ih,aT,alU];by_cases hz:((d1.l[i]).hd 1).l.length=0
   ·have hz':((((d1.l[i]).hd 1).l.length:Nat):Int)=0:=by omega
    have et:oD d1.l[i]= .p (.i 0) (.p (.i 2) (.p (.i 0) (.p (.i 0) (.p (.i 0) (.p (.i 0) (.i 0)))))):=by unfold oD; rw [if_pos hz]; rfl
    rw [et];simp only [UO,zz,c1,c2,w,aZ hil,hz',c3,aX,bP]
   ·have hz': ¬((((d1.l[i]).hd 1).l.length:Nat):Int)=0:=by omega
    have et:oD d1.l[i]= .p (.i 0) (.p (dL (List.replicate ((d1.l[i]).hd 1).l.length (.i 0))) (.p (.i 0) (.p (.i 0) (.p (.i 0) (.p (.i 0) (.i 0)))))):=by unfold oD; rw [if_neg hz]; rfl
    rw [et];simp only [UO,zz,c1,c2,w,aZ hil,hz',c3,c4,aX,Int.toNat_natCast,bP]
theorem Vh (d1:D) (h1:Wd (.sl 4) d1) (hlen:d1.l.length≤16) (s:D):L 1451 [enc d1,(d1.l.length:Int),enc s]=some [enc s,enc (uK d1),0]:=by
 by_cases hn:d1.l.length=0
 ·have c1: ¬(0:Int) < (d1.l.length:Int):=by omega
  have e:uK d1= .i 1:=by unfold uK; rw [if_pos hn]
  rw [aT,alV,e];simp only [UQ,zz,c1,bW]
 ·have hp:0 < d1.l.length:=by omega
  have c1:(0:Int) < (d1.l.length:Int):=by omega
  have e:uK d1=dL (d1.l.map oD):=by unfold uK; rw [if_neg hn]
  have ih:=IW d1 h1 hlen s (d1.l.length - 1) 1 [oD (d1.l[0]'hp)] (by omega) rfl
  have e1:[oD (d1.l[0]'hp)]++(d1.l.drop 1).map oD=d1.l.map oD:=by
   conv=>rhs; rw [← List.drop_zero (l:=d1.l),List.drop_eq_getElem_cons hp]
   rfl
  rw [e1,← e] at ih;have a0:d1.at 0=d1.l[0]'hp:=aZ (i:=0) hp;have hb:=Eh h1 _ (List.getElem_mem hp);have c4:((((d1.l[0]'hp).hd 1).l.length:Nat):Int) < 17592186044416:=by omega
  rw [← ih,aT,alV];by_cases hz:((d1.l[0]'hp).hd 1).l.length=0
  ·have hz':((((d1.l[0]'hp).hd 1).l.length:Nat):Int)=0:=by omega
   have et:dL [oD (d1.l[0]'hp)]= .p (.p (.i 0) (.p (.i 2) (.p (.i 0) (.p (.i 0) (.p (.i 0) (.p (.i 0) (.i 0))))))) (.i 0):=by unfold oD; rw [if_pos hz]; rfl
   rw [et];simp only [UQ,zz,c1,a0,hz',Ej,List.nil_append,tV,zV,bP,Int.natCast_one]
  ·have hz': ¬((((d1.l[0]'hp).hd 1).l.length:Nat):Int)=0:=by omega
   have et:dL [oD (d1.l[0]'hp)]= .p (.p (.i 0) (.p (dL (List.replicate ((d1.l[0]'hp).hd 1).l.length (.i 0))) (.p (.i 0) (.p (.i 0) (.p (.i 0) (.p (.i 0) (.i 0))))))) (.i 0):=by unfold oD; rw [if_neg hz]; rfl
   rw [et];simp only [UQ,zz,c1,a0,hz',c4,Ej,List.nil_append,tV,zV,Int.toNat_natCast,bP,Int.natCast_one]
theorem adD {d0 d1:D} (h1:Wd (.sl 4) d1) (hc:L 450 [enc d0,enc d1]=some [0]) (ok:Ho d0 d1):L 1450 [enc d0,enc d1]=some [enc (qX d0),enc (uK d1),0]:=by
 have h3:L 300 [enc d0,enc d1]=some [enc (qX d0)]:=by
  by_cases hn:d0.l.length=0
  ·have e:qX d0= .i 1:=by unfold qX; rw [if_pos hn]
   rw [e];exact anU hc (.inr hn)
  ·have e:qX d0=dL (d0.l.map lZ):=by unfold qX; rw [if_neg hn]
   rw [e];exact anV hc ok.1 (by omega)
 have K:dX (bJ L (low [enc d0,enc d1])) Zw= .jump 1451 [enc d1,(d1.l.length:Int),enc (qX d0)]:=by refine bT [Qf0,Qf1,.eq (a0 300 Ob) Q0] [] (ju 1451 [Qb,Qc,rr 300 Ob 0]) (by simp only [zz,hc,h3] <;> omega) (by kernel_rfl) ?_;simp only [zz,h3]
 rw [aT,alX];exact (congrArg (fin L) K).trans (Vh d1 h1 ok.2.1 _)
theorem adC {d0 d1:D} {c:Int} (hc:L 450 [enc d0,enc d1]=some [c]) (h:c≠0):L 1450 [enc d0,enc d1]=some [enc (.i 1),enc (.i 1),c]:=by
 have K:dX (bJ L (low [enc d0,enc d1])) Zw= .out [enc (.i 1),enc (.i 1),c]:=by refine bT [Qf0] [Qf1] (ou [Qh,Qh,rr 450 Ob 0]) (by simp only [zz,hc] <;> omega) (by kernel_rfl) ?_;simp only [zz,hc]
 rw [aT,alX];exact congrArg (fin L) K
theorem apP {k:D} {t:Int} (t0:0≤t) (ht:t < (k.l.length:Int)) (x:KT):(vM k t x).at t=x.d:=by obtain⟨i,rfl⟩ : ∃i:Nat,t=(i:Int):=⟨t.toNat,by omega⟩;rw [Ul,aX,akF (by omega)];rfl
theorem AL (k:D) (t:Int) (x:KT):(vM k t x).l.length=k.l.length:=by rw [aX,iU]
theorem Po {d1:D} {t:Int} {x:KT} (ho: ¬lT d1 t x=1) (h: ¬low (sV d1 t x) 4=0): ∃op obj arg tr,sV d1 t x= [op,obj,arg,tr,1]:=by
 unfold lT at ho;unfold sV at h ⊢;by_cases w0:x.w=0
 ·rw [if_pos w0] at ho h ⊢;by_cases a0:x.a=(Nc d1 t:Int)
  ·rw [if_pos a0] at ho;omega
  ·rw [if_neg a0] at h ⊢;by_cases h1:((Ins d1 t x).hd 0).n=1
   ·rw [if_pos h1];exact⟨_,_,_,_,rfl⟩
   ·rw [if_neg h1] at h ⊢;by_cases h2:((Ins d1 t x).hd 0).n=2
    ·rw [if_pos h2];exact⟨_,_,_,_,rfl⟩
    ·rw [if_neg h2] at h;exact absurd rfl h
 ·rw [if_neg w0];exact⟨_,_,_,_,rfl⟩
theorem Sm (d1:D) (t:Int) (x:KT):lT d1 t x=0∨lT d1 t x=1:=by
 unfold lT;split
 ·split
  ·exact .inr rfl
  ·exact .inl rfl
 ·exact .inl rfl
theorem ZT {d0 d1:D} {t:Int} {x:KT} (C:Cd d0 d1) (R:Rt d0 d1 t x) (hd0:d0.l.length≤64) {op obj arg tr b:Int} (hn:sV d1 t x= [op,obj,arg,tr,b]):iI .u8 op∧iI .i64 obj∧iI .i64 arg:=by
 have z8:iI .u8 0:=⟨by omega,by omega⟩;have z:iI .i64 0:=⟨by omega,by omega⟩;have ok:=R.ok;unfold sV at hn;by_cases w0:x.w=0
 ·rw [if_pos w0] at hn;by_cases a0:x.a=(Nc d1 t:Int)
  ·rw [if_pos a0] at hn;simp only [List.cons.injEq] at hn;obtain⟨rfl,rfl,rfl,_⟩:=hn;exact⟨z8,z,z⟩
  ·have hlt:x.a < (Nc d1 t:Int):=by have:=ok.2.1; unfold Nc at a0 ⊢; omega
   have F:=C.inf R hlt;rw [if_neg a0] at hn;by_cases h1:((Ins d1 t x).hd 0).n=1
   ·rw [if_pos h1] at hn;simp only [List.cons.injEq] at hn;obtain⟨rfl,rfl,rfl,_⟩:=hn;exact⟨F.op,F.ob,asU F.ar R.ints⟩
   ·rw [if_neg h1] at hn;by_cases h2:((Ins d1 t x).hd 0).n=2
    ·rw [if_pos h2] at hn;simp only [List.cons.injEq] at hn;obtain⟨rfl,rfl,rfl,_⟩:=hn;exact⟨⟨by omega,by omega⟩,F.ob,z⟩
    ·rw [if_neg h2] at hn;simp only [List.cons.injEq] at hn;obtain⟨rfl,rfl,rfl,_⟩:=hn;exact⟨z8,z,z⟩
 ·rw [if_neg w0] at hn;simp only [List.cons.injEq] at hn;obtain⟨rfl,rfl,rfl,_⟩:=hn;obtain⟨_,_,_,_,_,hw⟩:=ok;exact⟨⟨by omega,by omega⟩,⟨by omega,by omega⟩,R.hg⟩
end Go.As.Try
end
section
namespace Go.As.Try
open Go hiding Stat Spec shape
open Go.As
set_option maxRecDepth 100000
theorem aoI {lc:D} (h:Wd (.sl 0) lc) {z v:Int} (h0:0≤z) (h1:z < (lc.l.length:Int)) (hv:iI .i64 v):Wd (.sl 0) (dL (fA lc.l z (.i v))):=by
 have:=h.room;have h3:yA 0=8:=rfl;rw [h3] at this;have hs:=iU lc.l z (.i v);refine BX (fun y hy=>?_) (fun he=>?_) (by rw [hs]; omega)
 ·rcases Ba hy with h' | rfl
  ·exact (h.el1 rfl y h').i
  ·exact⟨v,rfl,hv⟩
 ·rw [he] at hs;simp only [List.length_nil] at hs;omega
theorem Y5 {k:D} (hk:Wd (.sl 8) k) {t:Int} {x:KT} (h: ∃a lc w o g tr,Kt x.d a lc w o g tr) (hp:0 < k.l.length):Wd (.sl 8) (vM k t x):=by
 have hf:=hk.room;have h3:yA 8=64:=rfl;rw [h3] at hf;have hs:=iU k.l t x.d;refine UE (fun y hy=>?_) (fun he=>?_) (by rw [hs]; omega)
 ·rcases Ba hy with h' | rfl
  ·exact lS hk y h'
  ·exact h
 ·rw [he] at hs;simp only [List.length_nil] at hs;omega
section
variable {d0 d1 s k:D} {t:Int} {n:Nat} {x:KT}
theorem Vk {x:KT} (ha:iI .i64 x.a) (hl:Wd (.sl 0) x.lc) (hw:iI .u8 x.w) (ho:iI .i64 x.o) (hg:iI .i64 x.g) (ht:iI .i64 x.tr): ∃a lc w o g tr,Kt x.d a lc w o g tr:=⟨_,_,_,_,_,_,rfl,ha,hl,hw,ho,hg,ht⟩
theorem Rt.kt (C:Cd d0 d1) (R:Rt d0 d1 t x): ∃a lc w o g tr,Kt x.d a lc w o g tr:=by obtain⟨a0,a1,_,t0,t1,hw⟩:=R.ok;have hd:=C.ok.1;have hnc:=(C.code R.t0 R.t1).len;exact Vk ⟨by omega,by omega⟩ R.hl ⟨by omega,by omega⟩ ⟨by omega,by omega⟩ R.hg ⟨by omega,by omega⟩
theorem awV (C:Cd d0 d1) (R:Rt d0 d1 t x) (hx:x.w=0→x.a < (Nc d1 t:Int)) {op e2 e3 e4 oc:Int} (h3:iI .i64 e3) (h4:iI .i64 e4): ∃a lc w o g tr,Kt (wG (Ins d1 t x) x op e2 e3 e4 oc).d a lc w o g tr:=by
 obtain⟨a0,a1,hln,t0,t1,hw⟩:=R.ok;have hd:=C.ok.1;have hnc:=(C.code R.t0 R.t1).len;have ka:iI .i64 x.a:=⟨by omega,by omega⟩;have kw:iI .u8 x.w:=⟨by omega,by omega⟩;have ko:iI .i64 x.o:=⟨by omega,by omega⟩;have kt:iI .i64 x.tr:=⟨by omega,by omega⟩;have z:iI .i64 0:=⟨by omega,by omega⟩;have z8: ∀v:Int,v=0∨v=24∨v=25→iI .u8 v:=fun v h=> ⟨by omega,by omega⟩;unfold wG;split
 ·split
  ·exact Vk ka R.hl kw ko R.hg (by
    show iI .i64 (if 4611686018427387904 < x.tr+1 then 4611686018427387904 else x.tr+1)
    split <;> exact⟨by omega,by omega⟩)
  ·exact Vk ka R.hl kw ko R.hg kt
 ·split
  ·rename_i w0;have F:=C.inf R (hx w0);have ok:=F.ok;have h1:=hx w0;unfold Nc at h1;unfold OkI at ok;have k1:iI .i64 (x.a+1):=⟨by omega,by omega⟩;refine Vk ?_ ?_ ?_ ?_ ?_ z
   ·show iI .i64 (if _ then _ else _);split
    ·exact F.to
    ·exact k1
   ·show Wd (.sl 0) (if _ then _ else _);split
    ·rename_i hc;refine aoI R.hl (by omega) ?_ h4;have:=hc.1;omega
    ·exact R.hl
   ·show iI .u8 (if _ then _ else _);split
    ·split
     ·exact z8 _ (by omega)
     ·exact z8 _ (by omega)
    ·exact z8 _ (by omega)
   ·show iI .i64 (if _ then _ else _);split
    ·exact h3
    ·exact ko
   ·show iI .i64 (if _ then _ else _);split
    ·exact h4
    ·exact R.hg
  ·exact Vk ka R.hl (z8 _ (.inl rfl)) z z z
theorem ZG {k:D} (hp:0 < k.l.length) (t:Int) (x:KT):vM k t x≠.i 2:=fun he=>by have:=AL k t x;rw [he] at this;have e:(D.i 2).l.length=0:=rfl;omega
theorem afG (S:Sx s k n) (C:Cd d0 d1) (R:Rt d0 d1 t x) (ht:t < (k.l.length:Int)) (hx:x.w=0→x.a < (Nc d1 t:Int)) {op obj arg tries e1 e2 e3 e4 e5 oc:Int} {s':D} (A:Tried d0 d1 s t op obj arg tries n s' e1 e2 e3 e4 e5 oc) :
 Sx s' (vM k t (wG (Ins d1 t x) x op e2 e3 e4 oc)) (n+1):=by
 have hp:0 < k.l.length:=by have:=R.t0; omega
 exact⟨A.gs,Y5 S.wk (awV C R hx A.e3 A.e4) hp,A.n2 S.n2s,ZG hp _ _⟩
theorem awE (R:Rt d0 d1 t x) (ho:lT d1 t x=0):x.w=0→x.a < (Nc d1 t:Int):=fun w0=>by unfold lT at ho;rw [if_pos w0] at ho;have:=R.ok.2.1;unfold Nc at ho ⊢;split at ho <;> omega
end
end Go.As.Try
end
section
namespace Go.As.Try
open Go hiding Stat Spec shape
open Go.As
set_option maxRecDepth 100000
def aCR (m:Int) (l:List D):Prop:=(∀x∈l,0≤x.n∧x.n < m)∧(l.map D.n).Nodup
def aCT (N o dn:Int) (rl vl:Nat):Prop:=(N < 0→(vl:Int)=0)∧(0≤N→(vl:Int)≤N)∧(o < 0∨(rl:Int)=0∧dn=0)
def aAF (k N c:Int):Prop:=k=9∨(k=3∧0≤c∧c≤N)∨(k=5∧0≤c∧c≤IntKind.i64.wrap (N - 1))∨(k=7∧0≤c∧c≤1099511627776)∨(k≠3∧k≠5∧k≠7∧k≠9∧c=0)
def aCS (k N m o c dn g:Int) (rl vl:Nat):Prop:=
 aAF k N c∧-1≤o∧o < m∧0≤g∧g≤4611686018427387904∧(0≤o→k=1∨k=2∨k=6)∧(0 < (rl:Int)→k=4∨k=2)∧(0 < (vl:Int)→k=8)∧(dn≠0→k=6)∧(0 < g→k=5)
def aDN (k N m o c dn g:Int) (r v:D):Prop:=aCS k N m o c dn g r.l.length v.l.length∧aCR m r.l∧aCT N o dn r.l.length v.l.length
end Go.As.Try
end
section
namespace Go.As.Try
open Go hiding Stat Spec shape
open Go.As
set_option maxRecDepth 100000
def atC (k N m:Int):Act→Prop
 | .res o c dn g r v _ _ _=>aDN k N m o c dn g r v
 | _=>True
theorem atC.ite {k N m:Int} {p:Prop} [Decidable p] {a b:Act} (ha:p→atC k N m a) (hb: ¬p→atC k N m b):atC k N m (if p then a else b):=by
 by_cases h:p
 ·rw [if_pos h]; exact ha h
 ·rw [if_neg h]; exact hb h
section
variable {d0 x:D} {k N m mo th op arg tries o c dn g:Int} {r v:D}
end
end Go.As.Try
end
section
namespace Go.As.Try
open Go hiding Stat Spec shape
open Go.As
set_option maxRecDepth 100000
structure aDM (d0 d1 s k:D) (t:Int) (n:Nat) (s' k':D) (e1 e2 e3 e4 e5 oc:Int):Prop where
 eq:L 1850 [enc d0,enc d1,enc s,enc k,t]=some [enc s',enc k',e1,e2,e3,e4,e5,oc]
 sx:Sx s' k' (n+1)
 ls:s'.l.length=s.l.length
 lk:k'.l.length=k.l.length
section
variable {d0 d1 s k:D} {n:Nat} (S:Sx s k n) (hn:n < 17592186043904) (h0:Wd (.sl 3) d0) (h1:Wd (.sl 4) d1)
include S hn h0 h1
theorem aiX {t:Int} {x:KT} (R:Rs d0 d1 s k t x) (ho:lT d1 t x=0) (ha:low (sV d1 t x) 4=0):Sx s (vM k t (Ap (Ins d1 t x) x)) n:=by
 have hp:0 < k.l.length:=by have:=R.r.t0; have:=R.ht; omega
 exact⟨S.g,Y5 S.wk ((aiU R.c R.ht R.r (aiY R.r ho ha)).1.kt R.c) hp,S.n2s,ZG hp _ _⟩
theorem ahD (t:Int): ∃s' k' e1 e2 e3 e4 e5 oc,aDM d0 d1 s k t n s' k' e1 e2 e3 e4 e5 oc:=by
 rcases atY (t:=t) S hn h0 h1 with h | ⟨x,R⟩
 ·exact⟨s,k,0,0,0,0,0,0,Zz S h,S.mono (Nat.le_succ n),rfl,rfl⟩
 ·rcases Sm d1 t x with ho | ho
  ·by_cases ha:low (sV d1 t x) 4=0
   ·exact⟨_,_,0,0,0,0,0,1,KH S R ho ha,(aiX S hn h0 h1 R ho ha).mono (Nat.le_succ n),rfl,AL _ _ _⟩
   ·obtain⟨op,obj,arg,tr,hq⟩:=Po (by omega) ha;obtain⟨k1,k2,k3⟩:=ZT R.c R.r R.c.ok.1 hq
    have hti:iI .i64 t:=by have:=R.r.t0;have:=R.r.t1;have:=h1.len;exact⟨by omega,by omega⟩
    obtain⟨s',e1,e2,e3,e4,e5,oc,A⟩:=try_any (tries:=tr) h0 h1 S.g hn hti k1 k2 k3;exact⟨s',_,e1,e2,e3,e4,e5,oc,KG S R ho hq A,afG S R.c R.r R.ht (awE R.r ho) A,A.len,AL _ _ _⟩
  ·exact⟨s,k,0,0,0,0,0,4,Oy S R ho,S.mono (Nat.le_succ n),rfl,rfl⟩
end
def ahZ (x n:Int):Int:=if x.tmod n < 0 then x.tmod n+n else x.tmod n
theorem afJ {x n:Int} (h:0 < n): -n < x.tmod n∧x.tmod n < n:=by have h1:=Int.tmod_lt_of_pos x h;have h2:=Int.tmod_lt_of_pos (-x) h;rw [Int.neg_tmod] at h2;omega
theorem apZ {x n:Int} (h:0 < n) (hb:n≤140737488351232):L 2100 [x,n]=some [ahZ x n]:=by
 have h1:=afJ (x:=x) h;have c1: ¬n < 1:=by omega
 have w:IntKind.i64.wrap (x.tmod n+n)=x.tmod n+n:=qB (by omega) (by omega);rw [aT,avH];unfold ahZ;have dr: ∀{ρ:Nat→Int} (a b:SE),(SE.rem a b).den ρ=(a.den ρ).tmod (b.den ρ):=fun _ _=>rfl;by_cases hz:x.tmod n < 0
 ·simp only [Zq,zz,c1,dr,hz,w,bW,if_true]
 ·simp only [Zq,zz,c1,dr,hz,bW,if_false]
end Go.As.Try
end
section
namespace Go.As.Try
open Go hiding Stat Spec shape
open Go.As
set_option maxRecDepth 100000
inductive aoA (d0 d1 s:D) (t op obj arg tries:Int):D→Int→Int→Int→Int→Int→Int→Prop
 | no:aoA d0 d1 s t op obj arg tries s 0 0 0 0 0 0
 | mis (A:Acc d0 d1 s t op obj):aoA d0 d1 s t op obj arg tries s t 27 obj (IntKind.i64.wrap op) 0 2
 | res (A:Acc d0 d1 s t op obj) (o c dn g:Int) (r v:D) (o' c' dn' g':Int) (r' v':D) (m:Option Int) (a oc:Int) (T:Tg (s.at obj) o c dn g r v)
  (h:act (Mx d0 obj) (Mo d0 s obj) t op arg tries o c dn g r v= .res o' c' dn' g' r' v' m a oc):aoA d0 d1 s t op obj arg tries (XL s obj (Mx d0 obj) (.res o' c' dn' g' r' v' m a oc)) t op obj a 0 oc
section
variable {d0 d1 s s':D} {t op obj arg tries e1 e2 e3 e4 e5 oc:Int} {n:Nat}
theorem Xe (h0:Wd (.sl 3) d0) (h1:Wd (.sl 4) d1) (G:Gs s n) (hn:n < 17592186043904) (hop:iI .u8 op) (A:Tried d0 d1 s t op obj arg tries n s' e1 e2 e3 e4 e5 oc):aoA d0 d1 s t op obj arg tries s' e1 e2 e3 e4 e5 oc:=by
 have hf:=G.few (by omega:n < 17592186044415);have hA:=A.eq;by_cases h:Acc d0 d1 s t op obj
 ·obtain⟨_,o,c,dn,g,r,v,T,hL⟩:=Y9 (arg:=arg) (tries:=tries) h0 h1 G.wd hf hop h;rw [ZP] at hL;rw [hA] at hL
  cases hB:act (Mx d0 obj) (Mo d0 s obj) t op arg tries o c dn g r v with
  | blk=> rw [hB] at hL;simp only [evA,Option.some.injEq,List.cons.injEq,and_true] at hL;obtain⟨q,rfl,rfl,rfl,rfl,rfl,rfl⟩:=hL;have q:=kY q;subst q;exact .no
  | mis=> rw [hB] at hL;simp only [evA,Option.some.injEq,List.cons.injEq,and_true] at hL;obtain⟨q,rfl,rfl,rfl,rfl,rfl,rfl⟩:=hL;have q:=kY q;subst q;exact .mis h
  | res o' c' dn' g' r' v' m a oc'=> rw [hB] at hL;simp only [evA,Option.some.injEq,List.cons.injEq,and_true] at hL;obtain⟨q,rfl,rfl,rfl,rfl,rfl,rfl⟩:=hL;have q:=kY q;subst q;exact .res h o c dn g r v o' c' dn' g' r' v' m _ _ T hB
 ·have hL:=afC (arg:=arg) (tries:=tries) h0 h1 G.wd hf hop h;rw [hA] at hL;simp only [Option.some.injEq,List.cons.injEq,and_true] at hL;obtain⟨q,rfl,rfl,rfl,rfl,rfl,rfl⟩:=hL;have q:=kY q;subst q;exact .no
end
section
variable {d0 d1 s:D} {n:Nat} (h0:Wd (.sl 3) d0) (h1:Wd (.sl 4) d1) (G:Gs s n) (hn:n < 17592186044000)
include h0 h1 G hn
end
def atD (th:Int):Act→Prop
 | .res _ _ _ _ _ _ m _ _=> ∀q,m=some q→q= -1∨q=th
 | _=>True
theorem atD.ite {th:Int} {p:Prop} [Decidable p] {a b:Act} (ha:atD th a) (hb:atD th b):atD th (if p then a else b):=by
 split
 ·exact ha
 ·exact hb
section
variable {d0 d1 s:D} {t op obj arg tries:Int} {n:Nat} (h0:Wd (.sl 3) d0) (h1:Wd (.sl 4) d1) (G:Gs s n) (hn:n < 17592186043904) (hop:iI .u8 op) (ht:iI .i64 t) (ha:iI .i64 arg)
include h0 h1 G hn hop ht ha
end
def atB (op:Int):Act→Prop
 | .res _ _ _ _ _ _ _ _ oc=>oc=2∨oc=3∧(op=12∨op=15)
 | _=>True
theorem atB.ite {op:Int} {p:Prop} [Decidable p] {a b:Act} (ha:p→atB op a) (hb: ¬p→atB op b):atB op (if p then a else b):=by
 by_cases h:p
 ·rw [if_pos h]; exact ha h
 ·rw [if_neg h]; exact hb h
section
variable {d0 d1 s s' k:D} {t op obj arg tries e1 e2 e3 e4 e5 oc:Int} {n:Nat} {x:KT}
end
inductive NV (d0 d1 s k:D) (t:Int) (n:Nat):D→D→Int→Int→Int→Int→Int→Int→Prop
 | no (h:L 1550 [enc d0,enc d1,enc s,enc k,t]=some [0]):NV d0 d1 s k t n s k 0 0 0 0 0 0
 | over (x:KT) (R:Rs d0 d1 s k t x) (ho:lT d1 t x=1):NV d0 d1 s k t n s k 0 0 0 0 0 4
 | loc (x:KT) (R:Rs d0 d1 s k t x) (ho:lT d1 t x=0) (ha:low (sV d1 t x) 4=0):NV d0 d1 s k t n s (vM k t (Ap (Ins d1 t x) x)) 0 0 0 0 0 1
 | tri (x:KT) (R:Rs d0 d1 s k t x) (ho:lT d1 t x=0) (op obj arg tr:Int) (hq:sV d1 t x= [op,obj,arg,tr,1]) (k1:iI .u8 op) (k2:iI .i64 obj) (k3:iI .i64 arg) (hti:iI .i64 t) (s':D) (e1 e2 e3 e4 e5 oc:Int)
  (A:Tried d0 d1 s t op obj arg tr n s' e1 e2 e3 e4 e5 oc) (T:aoA d0 d1 s t op obj arg tr s' e1 e2 e3 e4 e5 oc):NV d0 d1 s k t n s' (vM k t (wG (Ins d1 t x) x op e2 e3 e4 oc)) e1 e2 e3 e4 e5 oc
section
variable {d0 d1 s k:D} {n:Nat} (S:Sx s k n) (hn:n < 17592186043904) (h0:Wd (.sl 3) d0) (h1:Wd (.sl 4) d1)
include S hn h0 h1
theorem Xy (t:Int): ∃s' k' e1 e2 e3 e4 e5 oc,L 1850 [enc d0,enc d1,enc s,enc k,t]=some [enc s',enc k',e1,e2,e3,e4,e5,oc]∧NV d0 d1 s k t n s' k' e1 e2 e3 e4 e5 oc:=by
 rcases atY (t:=t) S hn h0 h1 with h | ⟨x,R⟩
 ·exact⟨s,k,0,0,0,0,0,0,Zz S h,.no h⟩
 ·rcases Sm d1 t x with ho | ho
  ·by_cases ha:low (sV d1 t x) 4=0
   ·exact⟨_,_,0,0,0,0,0,1,KH S R ho ha,.loc x R ho ha⟩
   ·obtain⟨op,obj,arg,tr,hq⟩:=Po (by omega) ha;obtain⟨k1,k2,k3⟩:=ZT R.c R.r R.c.ok.1 hq
    have hti:iI .i64 t:=by have:=R.r.t0;have:=R.r.t1;have:=h1.len;exact⟨by omega,by omega⟩
    obtain⟨s',e1,e2,e3,e4,e5,oc,A⟩:=try_any (tries:=tr) h0 h1 S.g hn hti k1 k2 k3;exact⟨s',_,e1,e2,e3,e4,e5,oc,KG S R ho hq A,.tri x R ho op obj arg tr hq k1 k2 k3 hti s' e1 e2 e3 e4 e5 oc A (Xe h0 h1 S.g hn k1 A)⟩
  ·exact⟨s,k,0,0,0,0,0,4,Oy S R ho,.over x R ho⟩
theorem ahE {t:Int} {s' k':D} {e1 e2 e3 e4 e5 oc:Int} (H:NV d0 d1 s k t n s' k' e1 e2 e3 e4 e5 oc):Sx s' k' (n+1)∧s'.l.length=s.l.length∧k'.l.length=k.l.length:=by
 cases H with
 | no h=>exact⟨S.mono (Nat.le_succ n),rfl,rfl⟩
 | over x R ho=>exact⟨S.mono (Nat.le_succ n),rfl,rfl⟩
 | loc x R ho ha=>exact⟨(aiX S hn h0 h1 R ho ha).mono (Nat.le_succ n),rfl,AL _ _ _⟩
 | tri x R ho op obj arg tr hq k1 k2 k3 hti s' e1 e2 e3 e4 e5 oc A T=>exact⟨afG S R.c R.r R.ht (awE R.r ho) A,A.len,AL _ _ _⟩
end
end Go.As.Try
end
section
namespace Go.As.Try
open Go hiding Stat Spec shape
open Go.As
set_option maxRecDepth 100000
def EqN (a b:D):Prop:=a.l.length=b.l.length∧∀(i:Nat),(a.at (i:Int)).n=(b.at (i:Int)).n
structure KEq (x y:D):Prop where
 c0:(x.hd 0).n=(y.hd 0).n
 c1:EqN (x.hd 1) (y.hd 1)
 c2:(x.hd 2).n=(y.hd 2).n
 c3:(x.hd 3).n=(y.hd 3).n
 c4:(x.hd 4).n=(y.hd 4).n
 c5:(x.hd 5).n=(y.hd 5).n
theorem EqN.rfl' (a:D):EqN a a:=⟨rfl,fun _=>rfl⟩
theorem KEq.rfl' (a:D):KEq a a:=⟨rfl,EqN.rfl' _,rfl,rfl,rfl,rfl⟩
def aiT (k:D):Prop:=k.l.length≤140737488351232∧∀i:Nat,((k.at (i:Int)).hd 1).l.length≤140737488351232
section
variable {s k s' k':D} (hl:k.l.length=k'.l.length) (hq: ∀i:Nat,KEq (k.at (i:Int)) (k'.at (i:Int))) (hb:aiT k)
include hl hq hb
theorem EU: ∀(j i:Nat),i+j=k.l.length→L 2051 [(k.l.length:Int),(i:Int),enc s,enc k,enc s',enc k']=some [1]
 | 0,i,hi=>by
   have c1: ¬(i:Int) < (k.l.length:Int):=by omega
   rw [aT,alP];simp only [Zt,zz,c1,bW]
 | j+1,i,hi=>by
   have c1:(i:Int) < (k.l.length:Int):=by omega
   have c2: ¬((i:Int) < 0):=by omega
   have c3:(i:Int) < (k'.l.length:Int):=by omega
   have b1:=hb.1;have w:=bD (n:=i) (by omega);have ih:=EU j (i+1) (by omega);have q:=hq i;obtain⟨q1,q2⟩:=q.c1;have b2:=hb.2 i
   have lp: ∀(j' i':Nat),i'+j'=((k.at (i:Int)).hd 1).l.length→L 2052 [(k.l.length:Int),(i:Int),(((k.at (i:Int)).hd 1).l.length:Int),(i':Int),enc s,enc k,enc s',enc k',((k.at (i:Int)).hd 0).n,enc ((k.at (i:Int)).hd 1),((k.at (i:Int)).hd 2).n,((k.at (i:Int)).hd 3).n,((k.at (i:Int)).hd 4).n,((k.at (i:Int)).hd 5).n,((k'.at (i:Int)).hd 0).n,enc ((k'.at (i:Int)).hd 1),((k'.at (i:Int)).hd 2).n,((k'.at (i:Int)).hd 3).n,((k'.at (i:Int)).hd 4).n,((k'.at (i:Int)).hd 5).n]=some [1]:=by
    intro j'
    induction j' with
    | zero=>
      intro i' hi';have d1: ¬(i':Int) < (((k.at (i:Int)).hd 1).l.length:Int):=by omega
      rw [aT,alO];simp only [Zr,zz,d1,w,bP,ih]
    | succ j' ihj=>
      intro i' hi';have d1:(i':Int) < (((k.at (i:Int)).hd 1).l.length:Int):=by omega
      have d2: ¬((i':Int) < 0):=by omega
      have d3:(i':Int) < (((k'.at (i:Int)).hd 1).l.length:Int):=by omega
      have w':=bD (n:=i') (by omega);have h':=ihj (i'+1) (by omega);have hn:=q2 i';rw [aT,alO];simp only [Zr,zz,d1,d2,d3,w',hn,bP];exact h'
   have l0:=lp ((k.at (i:Int)).hd 1).l.length 0 (by omega);have q1':(((k.at (i:Int)).hd 1).l.length:Int)=(((k'.at (i:Int)).hd 1).l.length:Int):=by omega
   simp only [q.c0,q.c2,q.c3,q.c4,q.c5,q1',Int.natCast_zero] at l0;rw [aT,alP];simp only [Zt,zz,c1,c2,c3,q.c0,q.c2,q.c3,q.c4,q.c5,q1',bP];exact l0
theorem acL (hs:L 200 [enc s,enc s']=some [1]):L 2050 [enc s,enc k,enc s',enc k']=some [1]:=by
 have h:=EU (s:=s) (s':=s') hl hq hb k.l.length 0 (by omega);have hl':(k.l.length:Int)=(k'.l.length:Int):=by omega
 rw [Int.natCast_zero] at h;rw [aT,avI];simp only [agL,zz,hs,aO,hl',bP];rw [hl'] at h;exact h
end
theorem OH {s:D} (hlen:s.l.length≤140737488351232) (hr:RQ s):L 200 [enc s,enc s]=some [1]:=by obtain⟨c,h1,_,h3⟩:=acK s s hlen hr;rw [h1,h3.2 ⟨rfl,fun k h1 h2 _=> ⟨rfl,rfl,Iff.rfl,rfl,⟨rfl,fun _ _ _ _=>rfl⟩,⟨rfl,fun _ _ _ _=>rfl⟩⟩⟩]
theorem Sx.aDc {s k:D} {n:Nat} (S:Sx s k n):aiT k:=by
 refine⟨S.wk.len,fun i=>?_⟩;by_cases hi:i < k.l.length
 ·obtain⟨a,lc,w,o,g,tr,T⟩:=lS S.wk _ (List.getElem_mem hi);rw [aZ hi,T.is,iJ];exact T.hl.len
 ·rw [Ul,List.getElem?_eq_none (by omega)];show ((D.i 0).hd 1).l.length≤_;simp [D.hd,D.l]
theorem Sx.same {s k:D} {n:Nat} (S:Sx s k n) (hn:n < 17592186043904):L 2050 [enc s,enc k,enc s,enc k]=some [1]:=
 acL rfl (fun _=>KEq.rfl' _) S.aDc (OH S.g.wd.len (fun x hx=>by have:=S.g.rows x hx; omega))
end Go.As.Try
end
section
namespace Go.As.Try
open Go hiding Stat Spec shape
open Go.As
set_option maxRecDepth 100000
structure PS where
 s:D
 k:D
 l:List D
structure POk (d1:D) (p:PS) (n:Nat):Prop where
 sx:Sx p.s p.k n
 lk:p.k.l.length=d1.l.length
 ll:p.l.length≤n
theorem dr {ρ:Nat→Int} (a b:SE):(SE.rem a b).den ρ=(a.den ρ).tmod (b.den ρ):=rfl
section
variable {d0 d1:D} (h0:Wd (.sl 3) d0) (h1:Wd (.sl 4) d1)
include h0 h1
end
theorem Xf (d1:D):(uK d1).l.length=d1.l.length:=by
 unfold uK;split
 ·rename_i h; rw [h]; rfl
 ·rw [aX,List.length_map]
section
variable {d0 d1:D} (h0:Wd (.sl 3) d0) (h1:Wd (.sl 4) d1)
include h0 h1
theorem begins:(∃s k:D,L 1450 [enc d0,enc d1]=some [enc s,enc k,0]∧POk d1 ⟨s,k,[]⟩ 0)∨(∃c:Int,c≠0∧L 1450 [enc d0,enc d1]=some [enc (.i 1),enc (.i 1),c]):=by
 obtain⟨ys,hC,c,rfl,_,hok⟩:=Dl h0 h1;by_cases hc:c=0
 ·subst hc;have ok:=(hok rfl).1;exact .inl ⟨_,_,adD h1 hC ok,ahB h0 h1 ok,Xf d1,Nat.le_refl _⟩
 ·exact .inr ⟨c,hc,adC hC hc⟩
end
end Go.As.Try
end
section
namespace Go.As.Try
open Go hiding Stat Spec shape
open Go.As
set_option maxRecDepth 100000
theorem ZJ {ρ:Nat→Int} (a:SB):((SB.not a).den ρ=true)= ¬(a.den ρ=true):=by simp [SB.den]
section
variable {d0 d1 d:D} (h0:Wd (.sl 3) d0) (h1:Wd (.sl 4) d1) (hn:0 < d1.l.length) (hd:d.l.length≤140737488351232)
include h0 h1 hn hd
theorem U1 (m:Nat) (hm:m≤1000): ∀(j i:Nat) (s k:D),i+j=m→Sx s k i→∃s' k',L 2251 [enc d,(m:Int),(i:Int),enc d0,enc d1,enc s,enc k]=some [enc s',enc k',1]∧Sx s' k' m∧k'.l.length=k.l.length
 | 0,i,s,k,hi,S=>by
   have c1: ¬(i:Int) < (m:Int):=by omega
   refine⟨s,k,?_,S.mono (by omega),rfl⟩;rw [aT,aaX];by_cases hz:(i:Int) < (d.l.length:Int)
   ·simp only [Ou,zz,hz,c1,bW]
   ·simp only [Ou,zz,hz,bW]
 | j+1,i,s,k,hi,S=>by
   have c1:(i:Int) < (m:Int):=by omega
   have c2: ¬((i:Int) < 0):=by omega
   have w:=bD (n:=i) (by omega);by_cases hz:(i:Int) < (d.l.length:Int)
   ·have hp:=apZ (x:=(d.at (i:Int)).n) (n:=(d1.l.length:Int)) (by omega) (by have:=h1.len; omega);obtain⟨s1,k1,e1,e2,e3,e4,e5,oc,A⟩:=ahD S (by omega) h0 h1 (ahZ (d.at (i:Int)).n (d1.l.length:Int));have hA:=A.eq;obtain⟨s',k',hL,S',hl⟩:=U1 m hm j (i+1) s1 k1 (by omega) A.sx;refine⟨s',k',?_,S',hl.trans A.lk⟩;rw [aT,aaX];simp only [Ou,zz,hz,c1,c2,hp,hA,w,bP];exact hL
   ·refine⟨s,k,?_,S.mono (by omega),rfl⟩;rw [aT,aaX];simp only [Ou,zz,hz,bW]
end
theorem axK {d0 d1:D} (h0:Wd (.sl 3) d0) (h1:Wd (.sl 4) d1) (d:D) (hd:d.l.length≤140737488351232) (m:Nat) (hm:m≤1000):(∃a b:Int,L 2250 [enc d0,enc d1,enc d,(m:Int)]=some [a,b,0])∨
 ∃s k,L 2250 [enc d0,enc d1,enc d,(m:Int)]=some [enc s,enc k,1]∧Sx s k m∧k.l.length=d1.l.length∧0 < d1.l.length:=by
 rcases begins h0 h1 with ⟨s,k,hB,P⟩ | ⟨z,hz,hB⟩
 ·by_cases hn:d1.l.length=0
  ·refine .inl ⟨enc s,enc k,?_⟩;have c1:(d1.l.length:Int)=0:=by omega
   rw [aT,aaY];simp only [UL,zz,hB,c1,bW]
  ·obtain⟨s',k',hL,S',hl⟩:=U1 h0 h1 (by omega:0 < d1.l.length) hd m hm m 0 s k (by omega) P.sx;refine .inr ⟨s',k',?_,S',hl.trans P.lk,by omega⟩;have c1: ¬(d1.l.length:Int)=0:=by omega
   rw [Int.natCast_zero] at hL;rw [aT,aaY];simp only [UL,zz,hB,if_neg c1,bP];exact hL
 ·refine .inl ⟨enc (.i 1),enc (.i 1),?_⟩;rw [aT,aaY];simp only [UL,zz,hB,if_neg hz,bW]
theorem ayB {x y:KT} (h:x.d=y.d):x=y:=by simp only [KT.d,tV,zV,D.p.injEq,D.i.injEq,and_true] at h;obtain⟨h1,h2,h3,h4,h5,h6⟩:=h;cases x; cases y;simp only at h1 h2 h3 h4 h5 h6;subst h1 h2 h3 h4 h5 h6;rfl
structure One (d0 d1 s k:D) (t:Int) (s' k':D) (e1 e2 e3 e4 e5 oc:Int) (x y:KT):Prop where
 hk:k.at t=x.d
 hk':k'=vM k t y
 how:(oc=0∧s'=s∧e1=0∧e2=0∧e3=0∧e4=0∧e5=0∧y= { x with tr:=y.tr }∧L 1700 [enc d0,enc d1,enc s,enc k,t]=some [0])∨
  (oc=4∧s'=s∧e1=0∧e2=0∧e3=0∧e4=0∧e5=0∧y=x∧L 1700 [enc d0,enc d1,enc s,enc k,t]=some [1])∨
  (oc=1∧s'=s∧e1=0∧e2=0∧e3=0∧e4=0∧e5=0∧L 1700 [enc d0,enc d1,enc s,enc k,t]=some [0])∨
  ((oc=2∨oc=3)∧e2≠0∧L 1700 [enc d0,enc d1,enc s,enc k,t]=some [0])
section
variable {d0 d1 s k:D} {n:Nat} (S:Sx s k n) (hn:n < 17592186043904) (h0:Wd (.sl 3) d0) (h1:Wd (.sl 4) d1)
include S hn h0 h1
omit hn h0 h1 in
theorem auA {t:Int} (t0:0≤t) (t1:t < (k.l.length:Int)): ∃x:KT,k.at t=x.d∧vM k t x=k:=by
 obtain⟨i,rfl⟩ : ∃i:Nat,t=(i:Int):=⟨t.toNat,by omega⟩;have hi:i < k.l.length:=by omega
 obtain⟨a,lc,w,o,g,tr,T⟩:=lS S.wk _ (List.getElem_mem hi);exact⟨⟨a,lc,w,o,g,tr⟩,by rw [aZ hi,T.is],XC (J9 S.wk (by omega)).sh t0 t1 (by rw [aZ hi,T.is])⟩
omit S h0 h1 in
theorem ayW {t:Int} (h:L 1550 [enc d0,enc d1,enc s,enc k,t]=some [0]):L 1700 [enc d0,enc d1,enc s,enc k,t]=some [0]:=by rw [aT,alR];simp only [UN,zz,h,bW]
omit S h0 h1 in
theorem Yg {t:Int} {x:KT} (R:Rs d0 d1 s k t x):L 1700 [enc d0,enc d1,enc s,enc k,t]=some [lT d1 t x]:=by
 have hO:=E5 (s:=s) R.hk R.ht R.r;have h:=R.yes;rw [aT,alR];rcases Sm d1 t x with ho | ho
 ·rw [ho] at hO ⊢;simp only [UN,zz,h,hO,aO,bW]
 ·rw [ho] at hO ⊢;simp only [UN,zz,h,hO,aO,bW]
theorem acD {t:Int} (t0:0≤t) (t1:t < (k.l.length:Int)) {s' k':D} {e1 e2 e3 e4 e5 oc:Int} (H:NV d0 d1 s k t n s' k' e1 e2 e3 e4 e5 oc): ∃x y,One d0 d1 s k t s' k' e1 e2 e3 e4 e5 oc x y:=by
 obtain⟨x,hx,hs⟩:=auA S t0 t1
 cases H with
 | no h=>exact⟨x,x,hx,hs.symm,.inl ⟨rfl,rfl,rfl,rfl,rfl,rfl,rfl,rfl,ayW hn h⟩⟩
 | over y R ho=> have hf:=Yg hn R;rw [ho] at hf;exact⟨x,x,hx,hs.symm,.inr (.inl ⟨rfl,rfl,rfl,rfl,rfl,rfl,rfl,rfl,hf⟩)⟩
 | loc y R ho ha=> have hf:=Yg hn R;rw [ho] at hf;exact⟨y,_,R.hk,rfl,.inr (.inr (.inl ⟨rfl,rfl,rfl,rfl,rfl,rfl,rfl,hf⟩))⟩
 | tri y R ho op obj arg tr hq k1 k2 k3 hti s' e1 e2 e3 e4 e5 oc A T=>
   have hf:=Yg hn R;rw [ho] at hf;refine⟨y,_,R.hk,rfl,?_⟩;rcases A.oc3 with h | h
   ·obtain⟨q,q1,q2,q3,q4,q5⟩:=A.no h;refine .inl ⟨h,q,q1,q2,q3,q4,q5,?_,hf⟩;unfold wG;rw [if_pos h];split <;> rfl
   ·refine .inr (.inr (.inr ⟨h,?_,hf⟩))
    cases T with
    | no=>omega
    | mis A'=>omega
    | res A' o c dn g r v o' c' dn' g' r' v' m a oc T' hB=> intro he;subst he;have hO:=(Ur h0 h1 (S.g.few (by omega)) A').1.1;rw [← A'.k] at hO;exact absurd hO (by decide)
end
theorem ZF (a b c d e f x:D):fA [a,b,c,d,e,f] 0 x= [x,b,c,d,e,f]:=rfl
theorem ZE (a b c d e f x:D):fA [a,b,c,d,e,f] 2 x= [a,b,x,d,e,f]:=rfl
theorem ZC (a b c d e f x:D):fA [a,b,c,d,e,f] 3 x= [a,b,c,x,e,f]:=rfl
theorem ZB (a b c d e f x:D):fA [a,b,c,d,e,f] 4 x= [a,b,c,d,x,f]:=rfl
theorem ZA (a b c d e f x:D):fA [a,b,c,d,e,f] 5 x= [a,b,c,d,e,x]:=rfl
theorem set_set (l:List D) (z:Int) (x y:D):fA (fA l z x) z y=fA l z y:=by
 unfold fA;split
 ·rfl
 ·exact List.set_set ..
section
variable {d0 d1 s k:D} {n:Nat} (S:Sx s k n) (hn:n < 17592186043900) (h0:Wd (.sl 3) d0) (h1:Wd (.sl 4) d1) (hl:k.l.length=d1.l.length)
include S hn h0 h1 hl
theorem IL: ∀(j i:Nat),i+j=d1.l.length→L 2301 [(d1.l.length:Int),(i:Int),enc d0,enc d1,enc s,enc k]=some [1]
 | 0,i,hi=>by
   have c1: ¬(i:Int) < (d1.l.length:Int):=by omega
   rw [aT,alN];simp only [Kq,zz,c1,bW]
 | j+1,i,hi=>by
   have c1:(i:Int) < (d1.l.length:Int):=by omega
   have c2: ¬((i:Int) < 0):=by omega
   have hb:=h1.len;have w:=bD (n:=i) (by omega);have ih:=IL j (i+1) (by omega);obtain⟨s',k',e1,e2,e3,e4,e5,oc,hL,H⟩:=Xy S (by omega) h0 h1 (i:Int);obtain⟨Sx',hls,hlk⟩:=ahE S (by omega) h0 h1 H;obtain⟨x,y,O⟩:=acD S (by omega) h0 h1 (by omega:(0:Int)≤(i:Int)) (by omega) H;have hk:=O.hk;have hk':=O.hk';have hat:k'.at (i:Int)=y.d:=by rw [hk']; exact apP (by omega) (by omega) y
   have st:dL (fA k.l (i:Int) (dL [.i y.a,y.lc,.i y.w,.i y.o,.i y.g,.i y.tr]))=k':=hk'.symm;have c3:(k'.l.length:Int)=(d1.l.length:Int):=by omega
   have c4:(k.l.length:Int)=(d1.l.length:Int):=by omega
   have c5: ¬(d1.l.length:Int)=0:=by omega
   have c6:(d1.l.length:Int) < 2199023255552:=by have:=(J9 S.wk (by omega)).few; omega
   have hS:=Sx'.same (by omega);have hS0:=S.same (by omega);have h2:L 200 [enc s,enc s]=some [1]:=OH S.g.wd.len (fun x hx=>by have:=S.g.rows x hx; omega)
   have back:y= { x with tr:=y.tr }→dL (fA k'.l (i:Int) (dL [.i y.a,y.lc,.i y.w,.i y.o,.i y.g,.i x.tr]))=k:=fun hy=>by
    obtain⟨x',hx',hs'⟩:=auA S (by omega:(0:Int)≤(i:Int)) (by omega);have e:x'=x:=ayB (hx'.symm.trans hk);rw [e] at hs';have e2:k'.l=fA k.l (i:Int) y.d:=by rw [hk']; exact aX _
    rw [e2,set_set,hy];exact hs'
   rw [aT,alN];rcases O.how with ⟨rfl,rfl,rfl,rfl,rfl,rfl,rfl,hy,hF⟩ | ⟨rfl,rfl,rfl,rfl,rfl,rfl,rfl,hy,hF⟩ | ⟨rfl,rfl,rfl,rfl,rfl,rfl,rfl,hF⟩ | ⟨ho,he,hF⟩
   ·have bk:=back hy;simp only [Kq,zz,c1,c2,c3,c4,c5,c6,hL,hk,hat,zg,aX,ZF,Ae,ZE,ZC,ZB,ZA,st,bk,hS,hS0,h2,hF,yM,ZJ,aO,w,bP,Int.reduceEq,and_self,not_true_eq_false,not_false_eq_true,and_true,and_false];exact ih
   ·have bk:=back (by rw [hy]);rw [hy] at hat st bk;simp only [Kq,zz,c1,c2,c3,c4,c5,c6,hL,hk,hat,zg,aX,ZF,Ae,ZE,ZC,ZB,ZA,st,bk,hS,hS0,h2,hF,yM,ZJ,aO,w,bP,Int.reduceEq,and_self,not_true_eq_false,not_false_eq_true,and_true,and_false];exact ih
   ·simp only [Kq,zz,c1,c2,c3,c4,c5,c6,hL,hk,hat,zg,aX,ZF,Ae,ZE,ZC,ZB,ZA,st,hS,hS0,h2,hF,yM,ZJ,aO,w,bP,Int.reduceEq,and_self,not_true_eq_false,not_false_eq_true,and_true,and_false];exact ih
   ·have o0: ¬oc=0:=by omega
    have o1: ¬oc=1:=by omega
    have o4: ¬oc=4:=by omega
    have ne: ¬(e1=0∧e2=0∧e3=0∧e4=0∧e5=0):=fun h=>he h.2.1;simp only [Kq,zz,c1,c2,c3,c4,c5,c6,hL,hk,hat,zg,aX,ZF,Ae,ZE,ZC,ZB,ZA,st,hS,hS0,h2,hF,o0,o1,o4,ne,yM,ZJ,aO,w,bP,Int.reduceEq,and_self,not_true_eq_false,not_false_eq_true,and_true,and_false,false_and];exact ih
end
theorem XO {d0 d1:D} (h0:Wd (.sl 3) d0) (h1:Wd (.sl 4) d1) (d:D) (hd:d.l.length≤140737488351232):L 2300 [enc d0,enc d1,enc d]=some [1]:=by
 obtain⟨ys,hG,g,rfl,_⟩:=adM (d0:=d0) h1;have hr:=axK h0 h1 d hd 80 (by omega);have e80:((80:Nat):Int)=80:=rfl;rw [e80] at hr;rw [aT,avG];by_cases g0:g=0
 ·subst g0;rcases hr with ⟨a,b,hr⟩ | ⟨s,k,hr,S,hl,hn⟩
  ·simp only [UK,zz,hG,hr,bW]
  ·have h:=IL S (by omega) h0 h1 hl d1.l.length 0 (by omega);rw [Int.natCast_zero] at h;simp only [UK,zz,hG,hr,aO,bP];exact h
 ·simp only [UK,zz,hG,if_neg g0,bW]
end Go.As.Try
end
section
namespace Go.Proofs.YtmmdeeeifpepjaaGreatDoor.fnMachineOthers
open Go hiding Stat
open Go.As Go.As.Try Go.Proofs Go.RowKit Go.ChangeShapes Go.WideShapes Go.ChangeAt
set_option maxRecDepth 100000
theorem aqW:Ag Tryz.prog aqD 8 25=some [.sl 3,.sl 4]:=by kernel_rfl
theorem aqV:Ag Tryz.prog aqD 8 26=some [.sl 0]:=by kernel_rfl
theorem Wn {H:Type} {enc:TypeId×Value→H} {W:World} {t:TypeId} {v:Value} {d:DataW H} {p:List MemPlace} {Oh:List CK} (hf:Ag Tryz.prog aqD 8 t=some Oh) (h:DataW.Trod enc Tryz.prog W 0 (fun _=>true) true t v d p) (hw:(d.weights Tryz.prog t).all (·≤reachBytes)=true) :
 ∃ds,Rs (XG W) W.heap Oh ds v.cells.toList:=by
 obtain⟨fuel,hx⟩:=h;exact RU aqC fuel t 8 Oh v.cells.toList (d,p) hf hx hw
theorem aBu:2300∈S.nums 3:=by
 have h:S.nums 3= [2300]:=by kernel_rfl
 rw [h];simp
theorem contract (H:Type) (enc:TypeId×Value→H) (W:World) (base:Nat) (args:Array Value) (ds gs:List (DataW H)) (before:List MemPlace)
 (hval: ∀(j:Nat) t v,Tryz.f3.params[j]?=some t→args[j]?=some v→Value.okWide Tryz.prog W .any base t v)
 (hW:DataW.Whole enc Tryz.prog Tryz.f3.params.toList Rows.machineOthersSpec.vars false W args.toList ds gs before)
 (hsz:(DataW.weightsEach Tryz.prog (Tryz.f3.params.toList++ []) (ds++gs)).all (·≤reachBytes)=true) (hsh:W.ShapedOpen Tryz.prog) :
 Calls Tryz.prog 3 args W fun e W'=> ∃v,e= .returned v∧Rows.machineOthersSpec.post enc Tryz.prog Tryz.f3 false true false false W args v W':=by
 have hW':=hW;obtain⟨p,q,hA0,hV,rfl,hfz,hnd⟩:=hW;have hA:DataW.TrodAll enc Tryz.prog W 0 (fun _=>true) true Tryz.f3.params.toList args.toList ds p:=hA0;rw [Tryz.params3] at hA hval hsz;obtain⟨v0,vs0,d0,ds0,p0,q0,hargs,rfl,rfl,h0,r0⟩:=trodAll_cons hA;obtain⟨v1,vs1,d1,ds1,p1,q1,rfl,rfl,rfl,h1,r1⟩:=trodAll_cons r0;obtain⟨rfl,rfl,rfl⟩:=trodAll_nil r1;obtain rfl:args= #[v0,v1]:=by cases args; simp_all
 obtain⟨rfl,rfl⟩:=trodVars_none hV;clear hA0;simp only [List.append_nil] at hW';have hlt: ∀x∈p0++p1,x.block < W.heap.size:=fun x hx=>by simpa using hW'.lt x (by simpa using hx)
 have hlt0: ∀x∈p0,x.block < W.heap.size:=fun x hx=>hlt x (List.mem_append_left _ hx);have hlt1: ∀x∈p1,x.block < W.heap.size:=fun x hx=>hlt x (List.mem_append_right _ hx)
 have hsz':(d0.weights Tryz.prog 25).all (·≤reachBytes)=true∧(d1.weights Tryz.prog 26).all (·≤reachBytes)=true:=by have:(DataW.weightsEach Tryz.prog [25,26] [d0,d1]).all (·≤reachBytes)=true:=hsz;simp only [DataW.weightsEach,List.all_append,Bool.and_eq_true] at this;exact⟨this.1,this.2.1⟩
 obtain⟨es0,R0⟩:=Wn aqW h0 hsz'.1;obtain⟨es1,R1⟩:=Wn aqV h1 hsz'.2;obtain⟨cs0,rfl,_⟩:=okWide_struct Tryz.underlying25 (hval 0 25 v0 rfl rfl);have e0:(Value.agg cs0).cells.toList=cs0.toList:=rfl;obtain⟨ad1,len1,cap1,rfl⟩:=okWide_slice Tryz.underlying26 (hval 1 26 v1 rfl rfl);have e1:(Value.slice ad1 len1 cap1).cells.toList= [.slice ad1 len1 cap1]:=rfl;rw [e0] at R0;rw [e1] at R1
 match es0,hcs0:cs0.toList,R0 with
 | [x0,x1],[u0,u1],.cons r0_ w0 (.cons r1_ w1 .nil)=>
   obtain rfl:cs0= #[u0,u1]:=by rw [← Array.toArray_toList (xs:=cs0),hcs0]
   match es1,R1 with
   | [x2],.cons r2_ w2 .nil=> have hL:=XO w0 w1 x2 w2.len;refine (anO (g:=3) (j:=2300) (e:=akK.ent) aBu (by kernel_rfl) rfl rfl hL hsh (vals:=[.agg [u0,u1].toArray,.slice ad1 len1 cap1]) (fl:=[u0,u1,.slice ad1 len1 cap1]) (.agg _ [u0,u1] rfl (.one _ _ .nil)) ⟨_,_,_,_,rfl,rfl,NK r0_,_,_,_,_,rfl,rfl,NK r1_,_,_,_,_,rfl,rfl,NK r2_,rfl,rfl⟩).mono fun e W' ⟨he,hb⟩=>?_;subst he;exact⟨_,rfl,⟨_,_,_,[],_,[],hW',trodAll_mk1 (shut_bool Tryz.underlying4 _),trodAll_mk2 (Below.trod laidOut (by kernel_rfl) (of_decide_eq_true (by kernel_rfl)) h0 hb hlt0) (Below.trod laidOut (by kernel_rfl) (of_decide_eq_true (by kernel_rfl)) h1 hb hlt1),rfl,hb.frame _,fun h=>by cases h⟩⟩
abbrev Y6:Array Value:=#[.agg #[.slice none 0 0,.slice none 0 0],.slice none 0 0]
theorem laid_met (os:Os):laidMet Tryz.prog Rows.machineOthersRow.laid ((laidWorld os).forCall (fun _ _=>0) ⟨#[],Y6,[]⟩).memory:=
 laidMet_of_run' 8 (by kernel_rfl) (by kernel_rfl)
theorem reads (os:Os) {H:Type} (enc:TypeId×Value→H): ∃places,DataW.whole enc Tryz.prog ((laidWorld os).forCall (fun _ _=>0) ⟨#[],Y6,[]⟩).memory Tryz.f3.params.toList [] false Y6.toList 8=some ([.agg [.nil,.nil],.nil],[],places):=
 ⟨[],by kernel_rfl⟩
set_option maxHeartbeats 400000 in
theorem lifted (os:Os) (started:os.Started) (H:Type) (enc:TypeId×Value→H) (F:Stop.Interp) :
 ReturnsInHanded {} Tryz.checked os 3 .any ((OpenSpec.ofChange Rows.machineOthersSpec).preRow enc Tryz.prog Tryz.f3 Rows.machineOthersRow.domain false Rows.machineOthersRow.laid) (((OpenSpec.ofChange Rows.machineOthersSpec).at F).post enc Tryz.prog Tryz.f3 false true false false):=by
 obtain⟨places,hx⟩:=reads os enc
 refine returnsInHanded_of_row (C:=Tryz.checked) (s:=OpenSpec.ofChange Rows.machineOthersSpec) Try.own started (by kernel_rfl) Tryz.func3
  (witness_row_at (enc:=enc) (C:=Tryz.checked) false (laidWorld os) Y6 rfl (by kernel_rfl) (by kernel_rfl) (by kernel_rfl)
   (OpenSpec.preRow_of_cond 8 hx (by kernel_rfl) (fun k hk=>by cases hk) (by kernel_rfl) (laid_met os))) ?_
 intro W base args ds gs before hval hW _ _ hsz _ hsh _;exact contract H enc W base args ds gs before hval hW hsz hsh
theorem jH {a b:Bool} (h1:a=true) (h2:b=true):(a && b)=true:=by rw [h1,h2]; rfl
theorem closed:joinedFacts Tryz.pinned.checked.prog 3 Tryz.f3 (OpenSpec.ofChange Rows.machineOthersSpec).bare Rows.machineOthersRow=true:=(jH (jH (jH (jH (jH (jH (jH (jH (jH (jH (jH (jH (jH (jH (jH (jH (jH (jH (jH (jH (jH (jH (jH (jH (jH (jH (jH (jH (jH (jH (jH (by kernel_rfl) (by kernel_rfl)) (by kernel_rfl)) (by kernel_rfl)) (by kernel_rfl)) (by kernel_rfl)) (by kernel_rfl)) (by kernel_rfl)) (by kernel_rfl)) (by kernel_rfl)) (by kernel_rfl)) (by kernel_rfl)) (by kernel_rfl)) (by kernel_rfl)) (by kernel_rfl)) (by kernel_rfl)) (by kernel_rfl)) (by kernel_rfl)) (by kernel_rfl)) (by kernel_rfl)) (by kernel_rfl)) (by kernel_rfl)) (by kernel_rfl)) (by kernel_rfl)) (by kernel_rfl)) (by kernel_rfl)) (by kernel_rfl)) (by kernel_rfl)) (by kernel_rfl)) (by kernel_rfl)) (by kernel_rfl)) (by kernel_rfl))
theorem said:Rows.MachineOthersSaid:=
 OpenClaim.holds_of_cond 3 Tryz.f3 rfl rfl rfl rfl rfl rfl rfl ⟨rfl,rfl,rfl,rfl,rfl⟩ rfl rfl rfl rfl rfl (by kernel_rfl) Tryz.func3 closed
  (of_decide_eq_true (by kernel_rfl)) (by unfold Func.isWrapper; first | (rw [if_pos (by decide +kernel)]; kernel_rfl) | (rw [if_neg (by decide +kernel)]; exact⟨rfl,rfl⟩))
  (fun os started H enc _ F=>by rw [OpenClaim.pre_eq_preRow]; exact lifted os started H enc F)
theorem plain (f:FuncId) (fn:Func) (hf:Tryz.pinned.checked.prog.funcNamed "amanuensis/amanuensislaw13.MachineOthers" = some f) (hfn:Tryz.pinned.checked.prog.funcs[f]?=some fn) :
 false=Tryz.pinned.checked.prog.looks []∧∀(j:Nat) t,fn.params[j]?=some t→Tryz.pinned.checked.prog.wantsStandIn t=false:=by
 obtain rfl:f=3:=Option.some.inj ((show Tryz.prog.funcNamed "amanuensis/amanuensislaw13.MachineOthers" = some 3 by kernel_rfl).symm.trans hf) |>.symm;obtain rfl:fn=Tryz.f3:=(Option.some.inj (Tryz.func3.symm.trans hfn)).symm;refine⟨by kernel_rfl,fun j t ht=>?_⟩;rw [Tryz.params3] at ht;have hm:=Array.mem_of_getElem? ht;simp only [List.mem_toArray,List.mem_cons,List.not_mem_nil,or_false] at hm;rcases hm with rfl | rfl
 all_goals exact (by kernel_rfl:Tryz.prog.wantsStandIn _=false)
theorem card:Rows.MachineOthersCardSaid:=
 Claim7.holds_tied_plain_at .later [] _ _ _ _ said (fun _ h=>by cases h) (by kernel_rfl) (fun _ h=>by cases h) machineOthers_row_tie rfl ⟨rfl,rfl⟩ (by kernel_rfl) rfl plain (by kernel_rfl)
end Go.Proofs.YtmmdeeeifpepjaaGreatDoor.fnMachineOthers
end

/-
  Proved: the given card of the law MachineForces: whatever the input, the call returns true and each argument reads afterwards as it did. Conditions: those of the given row alone (its listed package-level variables start as the program's text lays them; each string, slice and map that is handed in lies within a process's addresses).
-/
import Derived.Test.YtmmdeeeifpepjacGreatDoorAsZF4
set_option linter.unusedSectionVars false
set_option linter.unusedVariables false
set_option linter.unusedSimpArgs false
section
namespace Go.As.Try
open Go hiding Stat Spec shape
open Go.As
set_option maxRecDepth 100000
theorem Yv (d0 x:D) (m:Nat) (h:acD d0 x):Snd x (kY x) m:=by obtain⟨ys,h1,h2⟩:=aeY (x.hd 0).n (x.hd 2).n (enc (x.hd 1)) (enc (x.hd 3)) (x.hd 4).n m (fun e=>(h.2.2.2.1 (.inl e)).1) h.2.2.2.2.1;rw [h2] at h1;exact h1
theorem alU {d0 d1:D} (h0:Wd (.sl 3) d0) (h1:Wd (.sl 4) d1) (hC:L 450 [enc d0,enc d1]=some [0]) (ok:BG d0 d1):MR d0 d1 (lN d0) (oZ d1):=by
 have S:=LK h0 h1 ok
 have hl:(lN d0).l=d0.l.map kY:=by
  unfold lN;split
  ·rename_i h;rw [List.eq_nil_of_length_eq_zero h];rfl
  ·rw [aT]
 have hk:(oZ d1).l=d1.l.map nD:=by
  unfold oZ;split
  ·rename_i h;rw [List.eq_nil_of_length_eq_zero h];rfl
  ·rw [aT]
 refine⟨?_,EJ d1,fun i hi=>?_⟩
 ·obtain⟨b,hb,_,hi⟩:=nH h0 h1 (S.g.few (by omega)).rows;rw [hb,hi.2 ⟨hC,by rw [hl,List.length_map],fun q hq=>?_⟩];have hq':q < d0.l.length:=by rw [hl,List.length_map] at hq; exact hq
  have e:(lN d0).l[q]?=some (kY d0.l[q]):=by rw [hl,List.getElem?_map,List.getElem?_eq_getElem hq'];rfl
  rw [List.getElem?_eq_getElem hq] at e;rw [Option.some.inj e];exact Yv d0 _ _ (ok.2.2 _ (List.getElem_mem _))
 ·have hi':i < d1.l.length:=by rw [EJ] at hi; exact hi
  have e:(oZ d1).l[i]?=some (nD d1.l[i]):=by rw [hk,List.getElem?_map,List.getElem?_eq_getElem hi'];rfl
  rw [List.getElem?_eq_getElem hi] at e;rw [Option.some.inj e];refine⟨Int.le_refl _,Int.natCast_nonneg _,?_,Int.le_refl _,by show (0:Int)≤_; omega,.inl ⟨rfl,rfl,rfl⟩⟩;show ((if ((d1.l[i]).hd 1).l.length=0 then (.i 2:D) else dL (List.replicate ((d1.l[i]).hd 1).l.length (.i 0))).l.length:Int)=_;split
  ·rename_i h; rw [h]; rfl
  ·rw [aT,List.length_replicate]
theorem DY {l:List D} {t:Int} (t0:0≤t) (ht:t < (l.length:Int)) (x:D):(dL (dY l t x)).at t=x:=by obtain⟨i,rfl⟩ : ∃i:Nat,t=(i:Int):=⟨t.toNat,by omega⟩;rw [rG,aT,Gy (by omega)];rfl
theorem AL {d:D} {t:Int} {u:Nat} (h:(u:Int)≠t) (x:D):(dL (dY d.l t x)).at (u:Int)=d.at (u:Int):=by rw [rG,aT,qK h,rG]
def Ahd (d0 d1 s k:D) (u:Int) (a:D) (i n:Nat):Prop:= ∃(ka:D) (x y:KT) (j:Nat),a=dL [s,ka]∧Sx s ka n∧Rs d0 d1 s ka u x∧O8 d1 u j x y∧j≤i∧k=iH ka u y
structure Inv (d0 d1 s k A V:D) (i n:Nat):Prop where
 va:A=dL A.l
 vv:V=dL V.l
 la:A.l.length=d1.l.length
 lv:V.l.length=d1.l.length
 ra: ∀u:Nat,u < d1.l.length→∃p q,A.at (u:Int)=dL [p,q]
 bv: ∀u:Nat,u < d1.l.length→V.at (u:Int)= .i 0∨V.at (u:Int)= .i 1∧Ahd d0 d1 s k (u:Int) (A.at (u:Int)) i n
theorem wv {V:D} {u:Nat} (h:V.at (u:Int)= .i 0):(V.at (u:Int)).n=0:=by rw [h]; rfl
theorem wv1 {V:D} {u:Nat} (h:V.at (u:Int)= .i 1):(V.at (u:Int)).n=1:=by rw [h]; rfl
section
variable {d0 d1 A:D} {x3:Nat} {x0 o1 o2 o3 o4 o5 xs xk ys yk t oc:Int} {N:Nat} (hN:N≤140737488351232)
include hN
theorem Le: ∀(q u:Nat) (V:D),u+q=N→V=dL V.l→V.l.length=N→(∀w:Nat,w < N→V.at (w:Int)= .i 0∨V.at (w:Int)= .i 1)→∃V':D,
 L 3503 [x0,enc A,enc V,(x3:Int),t,oc,(N:Int),(u:Int),enc d0,enc d1,o1,o2,o3,o4,o5,xs,xk,ys,yk]=L 3501 [x0,enc A,enc V',IntKind.i64.wrap ((x3:Int)+1),enc d0,enc d1,o1,o2,o3,o4,o5,ys,yk]∧V'=dL V'.l∧V'.l.length=N∧
  ∀w:Nat,w < N→V'.at (w:Int)=(if u≤w then (if (w:Int)=t∧oc=1∧V.at (w:Int)= .i 1 then .i 1 else .i 0) else V.at (w:Int))
 | 0,u,V,hu,hv,hl,hb=>by
   have c1: ¬(u:Int) < (N:Int):=by omega
   refine⟨V,?_,hv,hl,fun w hw=>by rw [if_neg (by omega)]⟩;rw [aQ,SH];simp only [Lr,zz,c1,aX]
 | q+1,u,V,hu,hv,hl,hb=>by
   have c1:(u:Int) < (N:Int):=by omega
   have c2: ¬(u:Int) < 0:=by omega
   have c3:(u:Int) < (V.l.length:Int):=by omega
   have wz:=bC (n:=u) (by omega)
   have step: ∀b:Int,(b=0∨b=1)→(b=1↔(u:Int)=t∧oc=1∧V.at (u:Int)= .i 1)→L 3503 [x0,enc A,enc V,(x3:Int),t,oc,(N:Int),(u:Int),enc d0,enc d1,o1,o2,o3,o4,o5,xs,xk,ys,yk]=L 3503 [x0,enc A,enc (dL (dY V.l (u:Int) (.i b))),(x3:Int),t,oc,(N:Int),((u+1:Nat):Int),enc d0,enc d1,o1,o2,o3,o4,o5,xs,xk,ys,yk]→∃V':D,
    L 3503 [x0,enc A,enc V,(x3:Int),t,oc,(N:Int),(u:Int),enc d0,enc d1,o1,o2,o3,o4,o5,xs,xk,ys,yk]=L 3501 [x0,enc A,enc V',IntKind.i64.wrap ((x3:Int)+1),enc d0,enc d1,o1,o2,o3,o4,o5,ys,yk]∧V'=dL V'.l∧V'.l.length=N∧
     ∀w:Nat,w < N→V'.at (w:Int)=(if u≤w then (if (w:Int)=t∧oc=1∧V.at (w:Int)= .i 1 then .i 1 else .i 0) else V.at (w:Int)):=fun b aDI hbi hstep=>by
    obtain⟨V',e,v1,v2,v3⟩:=Le q (u+1) (dL (dY V.l (u:Int) (.i b))) (by omega) (by rw [aT]) (by rw [aT,fU,hl]) (fun w hw=>by
     by_cases hwu:(w:Int)=(u:Int)
     ·rw [hwu,DY (by omega) (by omega)];rcases aDI with rfl | rfl
      ·exact .inl rfl
      ·exact .inr rfl
     ·rw [AL hwu]; exact hb w hw)
    refine⟨V',hstep.trans e,v1,v2,fun w hw=>?_⟩;rw [v3 w hw];by_cases hwu:(w:Int)=(u:Int)
    ·obtain rfl:w=u:=by omega
     rw [if_neg (by omega),if_pos (Nat.le_refl w),DY (by omega) (by omega)];split
     ·rename_i h; rw [hbi.2 h]
     ·rename_i h;rcases aDI with rfl | rfl
      ·rfl
      ·exact absurd (hbi.1 rfl) h
    ·rw [AL hwu];by_cases hle:u≤w
     ·rw [if_pos (by omega),if_pos hle]
     ·rw [if_neg (by omega),if_neg hle]
   rcases hb u (by omega) with hz | hz
   ·refine step 0 (.inl rfl) ⟨fun h=>by omega,fun h=>by rw [hz] at h; simp at h⟩ ?_;rw [aQ,SH];simp only [Lr,zz,c1,c2,c3,wv hz,wz,aX]
   ·have hz1:=wv1 hz;by_cases ht:(u:Int)=t
    ·subst ht;by_cases ho:oc=1
     ·refine step 1 (.inr rfl) ⟨fun _=> ⟨rfl,ho,hz⟩,fun _=>rfl⟩ ?_;rw [aQ,SH];simp only [Lr,zz,c1,c2,c3,hz1,ho,wz,aG,if_true,aX]
     ·refine step 0 (.inl rfl) ⟨fun h=>by omega,fun h=>absurd h.2.1 ho⟩ ?_;rw [aQ,SH];simp only [Lr,zz,c1,c2,c3,hz1,if_neg ho,wz,aG,if_true,aX]
    ·refine step 0 (.inl rfl) ⟨fun h=>by omega,fun h=>absurd h.1 ht⟩ ?_;rw [aQ,SH];simp only [Lr,zz,c1,c2,c3,hz1,if_neg ht,wz,aG,aX]
end
end Go.As.Try
end
section
namespace Go.As.Try
open Go hiding Stat Spec shape
open Go.As
set_option maxRecDepth 100000
theorem akO (a b x:D):dY [a,b] 0 x= [x,b]:=rfl
theorem hp0 (a b:D):(D.p a b).hd 0=a:=rfl
theorem hp1 (a b c:D):(D.p a (D.p b c)).hd 1=b:=rfl
theorem lp2 (a b:D):(D.p a (D.p b (.i 0))).l= [a,b]:=rfl
theorem akN (a b x:D):dY [a,b] 1 x= [a,x]:=rfl
section
variable {d0 d1 A V s k s' k':D} {x3 N:Nat} {x0 o1 o2 o3 o4 o5 e1 e2 e3 e4 e5 t oc:Int}
theorem XR (hN:N≤140737488351232) (hk:k.l.length=N) (hk':k'.l.length=N) (hne: ∀u:Nat,(u:Int)≠t→k'.at (u:Int)=k.at (u:Int)): ∀(q u:Nat),u+q=N→
 L 3502 [x0,enc A,enc V,(x3:Int),t,oc,(N:Int),(u:Int),enc d0,enc d1,o1,o2,o3,o4,o5,enc s,enc k,enc s',enc k',e1,e2,e3,e4,e5]=L 3502 [x0,enc A,enc V,(x3:Int),t,oc,(N:Int),(N:Int),enc d0,enc d1,o1,o2,o3,o4,o5,enc s,enc k,enc s',enc k',e1,e2,e3,e4,e5]
 | 0,u,hu=>by rw [show u=N by omega]
 | q+1,u,hu=>by
   have c1:(u:Int) < (N:Int):=by omega
   have c2: ¬(u:Int) < 0:=by omega
   have c3:(u:Int) < (k.l.length:Int):=by omega
   have c4:(u:Int) < (k'.l.length:Int):=by omega
   have w:=bC (n:=u) (by omega);rw [← XR hN hk hk' hne q (u+1) (by omega)];by_cases ht:(u:Int)=t
   ·subst ht;rw [aQ,Oi];simp only [Ef,zz,c1,w,if_true,aX]
   ·have e:=hne u ht;rw [aQ,Oi];simp only [Ef,zz,c1,c2,c3,c4,if_neg ht,e,w,aX]
variable (hN:N≤140737488351232) (hA:A.l.length=N) (hV:V.l.length=N) (t0:0≤t) (tN:t < (N:Int)) {p q:D} (hr:A.at t=dL [p,q])
include hA hV t0 tN hr
theorem aEe (h2: ¬oc=2) (h3: ¬oc=3) (hb:V.at t= .i 0∨V.at t= .i 1): ∃A' V':D,L 3502 [x0,enc A,enc V,(x3:Int),t,oc,(N:Int),(N:Int),enc d0,enc d1,o1,o2,o3,o4,o5,enc s,enc k,enc s',enc k',e1,e2,e3,e4,e5] =
 L 3503 [x0,enc A',enc V',(x3:Int),t,oc,(N:Int),0,enc d0,enc d1,o1,o2,o3,o4,o5,enc s,enc k,enc s',enc k']∧(V.at t= .i 0→A'=dL (dY A.l t (dL [s,k]))∧V'=dL (dY V.l t (.i 1)))∧(V.at t= .i 1→A'=A∧V'=V):=by
 have c1: ¬(N:Int) < (N:Int):=by omega
 have c2: ¬t < 0:=by omega
 have c3:t < (V.l.length:Int):=by omega
 have c4:t < (A.l.length:Int):=by omega
 rcases hb with h | h
 ·refine⟨_,_,?_,fun _=> ⟨rfl,rfl⟩,fun h'=>by rw [h] at h'; simp at h'⟩;rw [aQ,Oi];simp only [Ef,zz,c1,c2,tN,c4,h,hr,hV,zg,aT,lp2,WO,akO,akN,fK,iY,if_neg h2,if_neg h3,aX]
 ·refine⟨A,V,?_,fun h'=>by rw [h] at h'; simp at h',fun _=> ⟨rfl,rfl⟩⟩;rw [aQ,Oi];simp only [Ef,zz,c1,c2,tN,c4,h,hV,zg,WO,aG,if_neg h2,if_neg h3,aX]
theorem aEf (h23:oc=2∨oc=3) (hb:V.at t= .i 0∨V.at t= .i 1∧∃sa ka:D,A.at t=dL [sa,ka]∧L 2000 [enc d0,enc d1,enc sa,enc ka,e1,e2,e3,e4,e5]=some [enc s',enc k',1])
 (hF:L 2000 [enc d0,enc d1,enc s,enc k,e1,e2,e3,e4,e5]=some [enc s',enc k',1]) (hS:L 2050 [enc s',enc k',enc s',enc k']=some [1])
 (hO: ∃a b c:Int,L 2000 [enc d0,enc d1,enc s,enc k,t,o2,o3,o4,o5]=some [a,b,c]∧(c=0∨(t=e1∧o2=e2∧o3=e3∧o4=e4∧o5=e5)∨e2=4)): ∃A' V':D,L 3502 [x0,enc A,enc V,(x3:Int),t,oc,(N:Int),(N:Int),enc d0,enc d1,o1,o2,o3,o4,o5,enc s,enc k,enc s',enc k',e1,e2,e3,e4,e5] =
 L 3503 [x0,enc A',enc V',(x3:Int),t,oc,(N:Int),0,enc d0,enc d1,t,o2,o3,o4,o5,enc s,enc k,enc s',enc k']∧(V.at t= .i 0→A'=dL (dY A.l t (dL [s,k]))∧V'=dL (dY V.l t (.i 1)))∧(V.at t= .i 1→A'=A∧V'=V):=by
 have c1: ¬(N:Int) < (N:Int):=by omega
 have c2: ¬t < 0:=by omega
 have c3:t < (V.l.length:Int):=by omega
 have c4:t < (A.l.length:Int):=by omega
 obtain⟨a,b,c,hO1,hO2⟩:=hO
 have key: ∀X:RS,(if c=0 then X else if t=e1∧o2=e2∧o3=e3∧o4=e4∧o5=e5 then X else if e2=4 then X else .out [0])=X:=fun X=>by
  by_cases z:c=0
  ·rw [if_pos z]
  ·rw [if_neg z];by_cases z2:t=e1∧o2=e2∧o3=e3∧o4=e4∧o5=e5
   ·rw [if_pos z2]
   ·rw [if_neg z2,if_pos];rcases hO2 with h | h | h
    ·exact absurd h z
    ·exact absurd h z2
    ·exact h
 rcases hb with h | ⟨h,sa,ka,hAt,hF2⟩
 ·refine⟨_,_,?_,fun _=> ⟨rfl,rfl⟩,fun h'=>by rw [h] at h'; simp at h'⟩;have q1:(dL (dY A.l t (.p s (.p k (.i 0))))).at t= .p s (.p k (.i 0)):=DY t0 c4 _;rw [aQ,Oi];rcases h23 with rfl | rfl
  ·simp only [Ef,zz,c1,c2,tN,c4,h,hr,hV,zg,aT,lp2,WO,akO,akN,fK,iY,q1,hp0,hp1,hF,hS,hO1,kS,key,aG,Int.reduceEq,aX]
  ·simp only [Ef,zz,c1,c2,tN,c4,h,hr,hV,zg,aT,lp2,WO,akO,akN,fK,iY,q1,hp0,hp1,hF,hS,hO1,kS,key,aG,Int.reduceEq,aX]
 ·refine⟨A,V,?_,fun h'=>by rw [h] at h'; simp at h',fun _=> ⟨rfl,rfl⟩⟩;rw [aQ,Oi];rcases h23 with rfl | rfl
  ·simp only [Ef,zz,c1,c2,tN,c4,h,hAt,hV,zg,WO,fK,iY,hp0,hp1,hF,hF2,hS,hO1,kS,key,aG,Int.reduceEq,aX]
  ·simp only [Ef,zz,c1,c2,tN,c4,h,hAt,hV,zg,WO,fK,iY,hp0,hp1,hF,hF2,hS,hO1,kS,key,aG,Int.reduceEq,aX]
end
end Go.As.Try
end
section
namespace Go.As.Try
open Go hiding Stat Spec shape
open Go.As
set_option maxRecDepth 100000
theorem Wi (k:D) (t:Int) (x y:KT):iH (iH k t x) t y=iH k t y:=by show dL (dY (dL (dY k.l t x.d)).l t y.d)=_;rw [aT,set_set]
theorem Ahd.mono {d0 d1 s k:D} {u:Int} {a:D} {i i' n n':Nat} (h:Ahd d0 d1 s k u a i n) (hi:i≤i') (hn:n≤n'):Ahd d0 d1 s k u a i' n':=by obtain⟨ka,x,y,j,h1,h2,h3,h4,h5,h6⟩:=h;exact⟨ka,x,y,j,h1,h2.mono hn,h3,h4,by omega,h6⟩
section
variable {d0 d1:D} (h0:Wd (.sl 3) d0) (h1:Wd (.sl 4) d1)
include h0 h1
theorem JK {s k ka s':D} {t:Int} {i j:Nat} {xa x:KT} {op obj arg tr e1 e2 e3 e4 e5 oc:Int} (hi:i < 200) (S:Sx s ka i) (R:Rs d0 d1 s ka t xa) (hl:O8 d1 t j xa x) (hj:j≤i) (hk:k=iH ka t x)
 (ho:jA d1 t x=0) (ha:mV d1 t x= [op,obj,arg,tr,1]) (htr:tr≤4611686018427387904) (hop:iP .u8 op) (hoc:oc≠0) (he:e1=t) (A:Tried d0 d1 s t op obj arg tr i s' e1 e2 e3 e4 e5 oc) :
 L 2000 [enc d0,enc d1,enc s,enc ka,e1,e2,e3,e4,e5]=some [enc s',enc (iH k t (qO (Ins d1 t x) x op e2 e3 e4 oc)),1]:=by
 have A':=VW h0 h1 S.g (by omega) hop A hoc htr;have h:=NP (rM:=e2) (uO:=e3) (ea:=e4) (eb:=e5) S R (by omega) hl ho ha A';rw [if_pos ⟨hoc,he,rfl,rfl,rfl,rfl⟩] at h;rw [hk,Wi,he];exact h
theorem aAI {s s':D} {t op obj arg tr e1 e2 e3 e4 e5 oc:Int} (T:aaE d0 d1 s t op obj arg tr s' e1 e2 e3 e4 e5 oc) (hoc:oc≠0):e1=t:=by
 cases T with
 | no=>exact absurd rfl hoc
 | mis=>rfl
 | res=>rfl
theorem Jw {d:D} (hp:0 < d1.l.length) (hd:d.l.length≤140737488351232) {o2 o3 o4 o5:Int}: ∀(j i:Nat) (s k A V:D) (o1:Int),i+j=120→Sx s k i→MR d0 d1 s k→Inv d0 d1 s k A V i i→
 L 3501 [enc d,enc A,enc V,(i:Int),enc d0,enc d1,o1,o2,o3,o4,o5,enc s,enc k]=some [1]
 | 0,i,s,k,A,V,o1,hi,S,M,I=>by
   have c1: ¬(i:Int) < 120:=by omega
   rw [aQ,adM];by_cases hz:(i:Int) < (d.l.length:Int)
   ·simp only [PO,zz,hz,c1,cO]
   ·simp only [PO,zz,hz,cO]
 | j+1,i,s,k,A,V,o1,hi,S,M,I=>by
   have c1:(i:Int) < 120:=by omega
   have c2: ¬(i:Int) < 0:=by omega
   by_cases hz:(i:Int) < (d.l.length:Int)
   ·have hb:=h1.len;have hlk:k.l.length=d1.l.length:=M.2.1;have hp':(0:Int) < (d1.l.length:Int):=by omega
    have c3: ¬(d1.l.length:Int)=0:=by omega
    have pk:=afP (x:=(d.at (i:Int)).n) hp' (by omega);obtain⟨t0,t1⟩:=afQ (x:=(d.at (i:Int)).n) hp';generalize QN (d.at (i:Int)).n (d1.l.length:Int)=t at pk t0 t1;obtain⟨u,rfl⟩ : ∃u:Nat,t=(u:Int):=⟨t.toNat,by omega⟩;have hu:u < d1.l.length:=by omega
    obtain⟨s',k',e1,e2,e3,e4,e5,oc,hL,H⟩:=YR S (by omega) h0 h1 (u:Int);obtain⟨S',hls,aFs⟩:=akF S (by omega) h0 h1 H;have M':=akG S (by omega) h0 h1 M H;have hR:L 1500 [enc d0,enc d1,enc s',enc k']=some [1]:=(acT (Rl h0 h1 (S'.g.few (by omega)).rows (by omega))).2 M';have hSm:=S'.same (by omega);obtain⟨x,R⟩:=M.thr S (by omega) h0 h1 t0 t1
    have e1':L 3501 [enc d,enc A,enc V,(i:Int),enc d0,enc d1,o1,o2,o3,o4,o5,enc s,enc k]=L 3502 [enc d,enc A,enc V,(i:Int),(u:Int),oc,(d1.l.length:Int),0,enc d0,enc d1,o1,o2,o3,o4,o5,enc s,enc k,enc s',enc k',e1,e2,e3,e4,e5]:=by rw [aQ,adM];simp only [PO,zz,dr,hz,c1,c2,c3,pk,hL,hR,hlk,aG,aX]
    have hne: ∀w:Nat,(w:Int)≠(u:Int)→k'.at (w:Int)=k.at (w:Int):=fun w hw=>by obtain⟨x',y',O⟩:=aeW S (by omega) h0 h1 t0 (by omega) H;rw [O.hk'];exact YV k (by omega) hw y'
    have e2':=XR (A:=A) (V:=V) (s:=s) (s':=s') (d0:=d0) (d1:=d1) (x3:=i) (x0:=enc d) (o1:=o1) (o2:=o2) (o3:=o3) (o4:=o4) (o5:=o5) (e1:=e1) (e2:=e2) (e3:=e3) (e4:=e4) (e5:=e5) (oc:=oc) hb hlk (aFs.trans hlk) hne d1.l.length 0 (by omega);rw [Int.natCast_zero] at e2';rw [e1',e2'];obtain⟨p,q,hr⟩:=I.ra u hu;have bv:=I.bv u hu
    have tail: ∀(A' V':D) (o:Int),(V.at (u:Int)= .i 0→A'=dL (dY A.l (u:Int) (dL [s,k]))∧V'=dL (dY V.l (u:Int) (.i 1)))→(V.at (u:Int)= .i 1→A'=A∧V'=V)→
     L 3503 [enc d,enc A',enc V',(i:Int),(u:Int),oc,(d1.l.length:Int),0,enc d0,enc d1,o,o2,o3,o4,o5,enc s,enc k,enc s',enc k']=some [1]:=fun A' V' o hq0 hq1=>by
     have facts:A'=dL A'.l∧V'=dL V'.l∧A'.l.length=d1.l.length∧V'.l.length=d1.l.length∧(∀w:Nat,w < d1.l.length→∃p q,A'.at (w:Int)=dL [p,q])∧(∀w:Nat,w < d1.l.length→V'.at (w:Int)= .i 0∨V'.at (w:Int)= .i 1)∧Ahd d0 d1 s k (u:Int) (A'.at (u:Int)) i i:=by
      rcases bv with h | ⟨h,ah⟩
      ·obtain⟨rfl,rfl⟩:=hq0 h;refine⟨by rw [aT],by rw [aT],by rw [aT,fU,I.la],by rw [aT,fU,I.lv],fun w hw=>?_,fun w hw=>?_,?_⟩
       ·by_cases hwu:(w:Int)=(u:Int)
        ·rw [hwu,DY (by omega) (by rw [I.la]; omega)]; exact⟨s,k,rfl⟩
        ·rw [AL hwu]; exact I.ra w hw
       ·by_cases hwu:(w:Int)=(u:Int)
        ·rw [hwu,DY (by omega) (by rw [I.lv]; omega)]; exact .inr rfl
        ·rw [AL hwu];rcases I.bv w hw with h | h
         ·exact .inl h
         ·exact .inr h.1
       ·rw [DY (by omega) (by rw [I.la]; omega)];exact⟨k,x,x,0,rfl,S,R,.zero x,by omega,(LX (Ed S.wk (by omega)).sh t0 (by omega) R.hk).symm⟩
      ·obtain⟨rfl,rfl⟩:=hq1 h;refine⟨I.va,I.vv,I.la,I.lv,I.ra,fun w hw=>?_,ah⟩;rcases I.bv w hw with h | h
       ·exact .inl h
       ·exact .inr h.1
     obtain⟨f1,f2,f3,f4,f5,f6,f7⟩:=facts;obtain⟨V'',e3',g1,g2,g3⟩:=Le (d0:=d0) (d1:=d1) (A:=A') (x3:=i) (x0:=enc d) (o1:=o) (o2:=o2) (o3:=o3) (o4:=o4) (o5:=o5) (xs:=enc s) (xk:=enc k) (ys:=enc s') (yk:=enc k') (t:=(u:Int)) (oc:=oc) hb d1.l.length 0 V' (by omega) f2 f4 f6;rw [Int.natCast_zero] at e3';rw [e3',bC (n:=i) (by omega)];refine Jw hp hd j (i+1) s' k' A' V'' o (by omega) S' M' ⟨f1,g1,f3,g2,f5,fun w hw=>?_⟩;rw [g3 w hw,if_pos (Nat.zero_le w)];split
     ·rename_i h;refine .inr ⟨rfl,?_⟩;obtain⟨hwu,hoc,_⟩:=h;rw [hwu];obtain⟨ka,xa,y,jj,a1,a2,a3,a4,a5,a6⟩:=f7
      cases H with
      | no=>omega
      | over=>omega
      | loc y' Ry ho ha=>
        have hy:y'=y:=by apply amE;rw [← Ry.hk,a6];exact qX (by omega) a3.ht y
        subst hy;exact⟨ka,xa,_,jj+1,a1,a2.mono (by omega),a3,a4.snoc ho ha,by omega,by rw [a6,Wi]⟩
      | tri _ _ _ _ _ _ _ _ _ _ _ _ _ _ _ _ _ _ _ A T=> have:=A.oc3;omega
     ·exact .inl rfl
    have hr':A.at (u:Int)=dL [p,q]:=hr;by_cases h23:oc=2∨oc=3
    ·cases H with
     | no=>omega
     | over=>omega
     | loc=>omega
     | tri z Rz ho op obj arg tr hq k1 k2 k3 hti s' e1 e2 e3 e4 e5 oc T TR=>
       have hoc:oc≠0:=by omega
       have he:=aAI h0 h1 TR hoc
       have htr:tr≤4611686018427387904:=by
        have:=Rz.r.ok.2.2.2.2.1;unfold mV at hq
        repeat' split at hq
        all_goals (simp only [List.cons.injEq] at hq; obtain⟨_,_,_,hq,_⟩:=hq; omega)
       have hF:=JK h0 h1 (j:=0) (k:=k) (by omega) S Rz (.zero z) (by omega) (LX (Ed S.wk (by omega)).sh t0 (by omega) Rz.hk).symm ho hq htr k1 hoc he T
       have hO: ∃a b c:Int,L 2000 [enc d0,enc d1,enc s,enc k,(u:Int),o2,o3,o4,o5]=some [a,b,c]∧(c=0∨((u:Int)=e1∧o2=e2∧o3=e3∧o4=e4∧o5=e5)∨e2=4):=by
        by_cases h4:op=4
        ·obtain⟨s2,f1,f2,f3,f4,f5,fc,T2⟩:=try_any (tries:=frT o2 o4) h0 h1 S.g (by omega) hti k1 k2 k3;have:=NP (rM:=o2) (uO:=o3) (ea:=o4) (eb:=o5) S Rz (by omega) (.zero z) ho hq T2;rw [this];have e4':=(Ll h0 h1 S.g (by omega) k1 T h4 hoc htr).1;split
         ·exact⟨_,_,_,rfl,.inr (.inr e4')⟩
         ·exact⟨_,_,_,rfl,.inl rfl⟩
        ·have T2:=PK h0 h1 S.g (by omega) k1 T h4 (frT o2 o4);have:=NP (rM:=o2) (uO:=o3) (ea:=o4) (eb:=o5) S Rz (by omega) (.zero z) ho hq T2;rw [this];split
         ·rename_i h;exact⟨_,_,_,rfl,.inr (.inl ⟨he.symm,h.2.2.1.symm,h.2.2.2.1.symm,h.2.2.2.2.1.symm,h.2.2.2.2.2.symm⟩)⟩
         ·exact⟨_,_,_,rfl,.inl rfl⟩
       have hb2:V.at (u:Int)= .i 0∨V.at (u:Int)= .i 1∧∃sa ka:D,A.at (u:Int)=dL [sa,ka]∧L 2000 [enc d0,enc d1,enc sa,enc ka,e1,e2,e3,e4,e5]=some [enc s',enc (iH k (u:Int) (qO (Ins d1 (u:Int) z) z op e2 e3 e4 oc)),1]:=by
        rcases bv with h | ⟨h,ka,xa,y,jj,a1,a2,a3,a4,a5,a6⟩
        ·exact .inl h
        ·have hy:z=y:=by
          apply amE;rw [← Rz.hk,a6];exact qX (by omega) a3.ht y
         subst hy;exact .inr ⟨h,s,ka,a1,JK h0 h1 (by omega) a2 a3 a4 a5 a6 ho hq htr k1 hoc he T⟩
       obtain⟨A',V',e4',hq0,hq1⟩:=aEf (d0:=d0) (d1:=d1) (A:=A) (V:=V) (x3:=i) (x0:=enc d) (o1:=o1) I.la I.lv t0 t1 hr' h23 hb2 hF hSm hO;rw [e4'];exact tail A' V' _ hq0 hq1
    ·obtain⟨A',V',e4',hq0,hq1⟩:=aEe (d0:=d0) (d1:=d1) (s:=s) (k:=k) (s':=s') (k':=k') (A:=A) (V:=V) (x3:=i) (x0:=enc d) (o1:=o1) (o2:=o2) (o3:=o3) (o4:=o4) (o5:=o5) (e1:=e1) (e2:=e2) (e3:=e3) (e4:=e4) (e5:=e5) I.la I.lv t0 t1 hr' (fun h=>h23 (.inl h)) (fun h=>h23 (.inr h)) (bv.imp id (·.1));rw [e4'];exact tail A' V' _ hq0 hq1
   ·rw [aQ,adM];simp only [PO,zz,hz,cO]
end
theorem Zt {d0 d1:D} (h0:Wd (.sl 3) d0) (h1:Wd (.sl 4) d1) (d:D) (hd:d.l.length≤140737488351232) (o1 o2 o3 o4 o5:Int):L 3500 [enc d0,enc d1,enc d,o1,o2,o3,o4,o5]=some [1]:=by
 obtain⟨ys,hG,g,rfl,_⟩:=agJ (d0:=d0) h1;rw [aQ,azO];by_cases g0:g=0
 ·subst g0;obtain⟨ys,hC,c,rfl,_,hok⟩:=yT h0 h1;by_cases hc:c=0
  ·subst hc;have ok:=(hok rfl).1;have hB:=Rq h1 hC ok;by_cases hp:(d1.l.length:Int)=0
   ·simp only [Ls,zz,hG,hB,hp,cO]
   ·have S:=LK h0 h1 ok;have M:=alU h0 h1 hC ok;have c1:(d1.l.length:Int) < 2932031007402:=by have:=ok.2.1; omega
    have I:Inv d0 d1 (lN d0) (oZ d1) (dL (List.replicate d1.l.length (.p (.i 1) (.p (.i 1) (.i 0))))) (dL (List.replicate d1.l.length (.i 0))) 0 0:=by
     refine⟨by rw [aT],by rw [aT],by rw [aT,List.length_replicate],by rw [aT,List.length_replicate],fun u hu=> ⟨.i 1,.i 1,?_⟩,fun u hu=> .inl ?_⟩
     ·rw [rG,aT,List.getElem?_replicate,if_pos hu]; rfl
     ·rw [rG,aT,List.getElem?_replicate,if_pos hu]; rfl
    have h:=Jw h0 h1 (d:=d) (o2:=o2) (o3:=o3) (o4:=o4) (o5:=o5) (by omega) hd 120 0 _ _ _ _ o1 (by omega) S M I;rw [Int.natCast_zero] at h;simp only [Ls,zz,hG,hB,if_neg hp,c1,Int.toNat_natCast,aX];exact h
  ·simp only [Ls,zz,hG,Ro hC hc,if_neg hc,cO]
 ·rcases begins h0 h1 with ⟨s,k,hB,_⟩ | ⟨c,_,hB⟩
  ·simp only [Ls,zz,hG,hB,if_neg g0,cO]
  ·simp only [Ls,zz,hG,hB,if_neg g0,cO]
end Go.As.Try
end
section
namespace Go.Proofs.YtmmdeeeifpepjacGreatDoor.fnMachineForces
open Go hiding Stat
open Go.As Go.As.Try Go.Proofs Go.RowKit Go.ChangeShapes Go.WideShapes Go.ChangeAt
set_option maxRecDepth 100000
theorem auO:yQ Tryz.prog alG 8 25=some [.sl 3,.sl 4]:=by kernel_rfl
theorem auN:yQ Tryz.prog alG 8 26=some [.sl 0]:=by kernel_rfl
theorem auM:yQ Tryz.prog alG 8 29=some [.int .i64,.int .u8,.int .i64,.int .i64,.int .i64]:=by kernel_rfl
theorem OH {H:Type} {enc:TypeId×Value→H} {W:World} {t:TypeId} {v:Value} {d:DataW H} {p:List MemPlace} {Py:List CK} (hf:yQ Tryz.prog alG 8 t=some Py) (h:DataW.Trod enc Tryz.prog W 0 (fun _=>true) true t v d p) (hw:(d.weights Tryz.prog t).all (·≤reachBytes)=true) :
 ∃ds,Rs (QG W) W.heap Py ds v.cells.toList:=by
 obtain⟨fuel,hx⟩:=h;exact Ug atN fuel t 8 Py v.cells.toList (d,p) hf hx hw
theorem aDm:3500∈S.nums 3:=by
 have h:S.nums 3= [3500]:=by kernel_rfl
 rw [h];simp
theorem contract (H:Type) (enc:TypeId×Value→H) (W:World) (base:Nat) (args:Array Value) (ds gs:List (DataW H)) (before:List MemPlace)
 (hval: ∀(j:Nat) t v,Tryz.f3.params[j]?=some t→args[j]?=some v→Value.okWide Tryz.prog W .any base t v)
 (hW:DataW.Whole enc Tryz.prog Tryz.f3.params.toList Rows.machineForcesSpec.vars false W args.toList ds gs before)
 (hsz:(DataW.weightsEach Tryz.prog (Tryz.f3.params.toList++ []) (ds++gs)).all (·≤reachBytes)=true) (hsh:W.ShapedOpen Tryz.prog) :
 Calls Tryz.prog 3 args W fun e W'=> ∃v,e= .returned v∧Rows.machineForcesSpec.post enc Tryz.prog Tryz.f3 false true false false W args v W':=by
 have hW':=hW;obtain⟨p,q,hA0,hV,rfl,hfz,hnd⟩:=hW;have hA:DataW.TrodAll enc Tryz.prog W 0 (fun _=>true) true Tryz.f3.params.toList args.toList ds p:=hA0;rw [Tryz.params3] at hA hval hsz;obtain⟨v0,vs0,d0,ds0,p0,q0,hargs,rfl,rfl,h0,r0⟩:=trodAll_cons hA;obtain⟨v1,vs1,d1,ds1,p1,q1,rfl,rfl,rfl,h1,r1⟩:=trodAll_cons r0;obtain⟨v2,vs2,d2,ds2,p2,q2,rfl,rfl,rfl,h2,r2⟩:=trodAll_cons r1;obtain⟨rfl,rfl,rfl⟩:=trodAll_nil r2;obtain rfl:args= #[v0,v1,v2]:=by cases args; simp_all
 obtain⟨rfl,rfl⟩:=trodVars_none hV;clear hA0;simp only [List.append_nil] at hW';have hlt: ∀x∈p0++(p1++p2),x.block < W.heap.size:=fun x hx=>by simpa using hW'.lt x (by simpa using hx)
 have hlt0: ∀x∈p0,x.block < W.heap.size:=fun x hx=>hlt x (List.mem_append_left _ hx);have hlt1: ∀x∈p1,x.block < W.heap.size:=fun x hx=>hlt x (List.mem_append_right _ (List.mem_append_left _ hx));have hlt2: ∀x∈p2,x.block < W.heap.size:=fun x hx=>hlt x (List.mem_append_right _ (List.mem_append_right _ hx))
 have hsz':(d0.weights Tryz.prog 25).all (·≤reachBytes)=true∧(d1.weights Tryz.prog 26).all (·≤reachBytes)=true∧(d2.weights Tryz.prog 29).all (·≤reachBytes)=true:=by have:(DataW.weightsEach Tryz.prog [25,26,29] [d0,d1,d2]).all (·≤reachBytes)=true:=hsz;simp only [DataW.weightsEach,List.all_append,Bool.and_eq_true] at this;exact⟨this.1,this.2.1,this.2.2.1⟩
 obtain⟨es0,R0⟩:=OH auO h0 hsz'.1;obtain⟨es1,R1⟩:=OH auN h1 hsz'.2.1;obtain⟨es2,R2⟩:=OH auM h2 hsz'.2.2;obtain⟨cs0,rfl,_⟩:=okWide_struct Tryz.underlying25 (hval 0 25 v0 rfl rfl);have e0:(Value.agg cs0).cells.toList=cs0.toList:=rfl;obtain⟨ad1,len1,cap1,rfl⟩:=okWide_slice Tryz.underlying26 (hval 1 26 v1 rfl rfl);have e1:(Value.slice ad1 len1 cap1).cells.toList= [.slice ad1 len1 cap1]:=rfl;obtain⟨cs2,rfl,_⟩:=okWide_struct Tryz.underlying29 (hval 2 29 v2 rfl rfl);have e2:(Value.agg cs2).cells.toList=cs2.toList:=rfl;rw [e0] at R0;rw [e1] at R1;rw [e2] at R2
 match es0,hcs0:cs0.toList,R0 with
 | [x0,x1],[u0,u1],.cons r0_ w0 (.cons r1_ w1 .nil)=>
   obtain rfl:cs0= #[u0,u1]:=by rw [← Array.toArray_toList (xs:=cs0),hcs0]
   match es1,R1 with
   | [x2],.cons r2_ w2 .nil=>
     match es2,hcs2:cs2.toList,R2 with
     | [x3,x4,x5,x6,x7],[u3,u4,u5,u6,u7],.cons r3_ w3 (.cons r4_ w4 (.cons r5_ w5 (.cons r6_ w6 (.cons r7_ w7 .nil))))=>
       obtain rfl:cs2= #[u3,u4,u5,u6,u7]:=by rw [← Array.toArray_toList (xs:=cs2),hcs2]
       obtain⟨n3,rfl,h3_⟩:=w3.i;have q3:uU (QG W) W.heap (.int .i64) n3 (u3):=by cases r3_; rfl
       obtain⟨n4,rfl,h4_⟩:=w4.i;have q4:uU (QG W) W.heap (.int .u8) n4 (u4):=by cases r4_; rfl
       obtain⟨n5,rfl,h5_⟩:=w5.i;have q5:uU (QG W) W.heap (.int .i64) n5 (u5):=by cases r5_; rfl
       obtain⟨n6,rfl,h6_⟩:=w6.i;have q6:uU (QG W) W.heap (.int .i64) n6 (u6):=by cases r6_; rfl
       obtain⟨n7,rfl,h7_⟩:=w7.i;have q7:uU (QG W) W.heap (.int .i64) n7 (u7):=by cases r7_; rfl
       have hL:=Zt w0 w1 x2 w2.len n3 n4 n5 n6 n7;refine (aqX (g:=3) (j:=3500) (e:=anM.ent) aDm (by kernel_rfl) rfl rfl hL hsh (vals:=[.agg [u0,u1].toArray,.slice ad1 len1 cap1,.agg [u3,u4,u5,u6,u7].toArray]) (fl:=[u0,u1,.slice ad1 len1 cap1,u3,u4,u5,u6,u7]) (.agg _ [u0,u1] rfl (.one _ _ (.agg _ [u3,u4,u5,u6,u7] rfl .nil))) ⟨_,_,_,_,rfl,rfl,OL r0_,_,_,_,_,rfl,rfl,OL r1_,_,_,_,_,rfl,rfl,OL r2_,_,_,_,_,rfl,rfl,q3,_,_,_,_,rfl,rfl,q4,_,_,_,_,rfl,rfl,q5,_,_,_,_,rfl,rfl,q6,_,_,_,_,rfl,rfl,q7,rfl,rfl⟩).mono fun e W' ⟨he,hb⟩=>?_;subst he;exact⟨_,rfl,⟨_,_,_,[],_,[],hW',trodAll_mk1 (shut_bool Tryz.underlying4 _),trodAll_mk3 (Below.trod laidOut (by kernel_rfl) (of_decide_eq_true (by kernel_rfl)) h0 hb hlt0) (Below.trod laidOut (by kernel_rfl) (of_decide_eq_true (by kernel_rfl)) h1 hb hlt1) (Below.trod laidOut (by kernel_rfl) (of_decide_eq_true (by kernel_rfl)) h2 hb hlt2),rfl,hb.frame _,fun h=>by cases h⟩⟩
abbrev aaK:Array Value:=#[.agg #[.slice none 0 0,.slice none 0 0],.slice none 0 0,.agg #[.int .i64 0,.int .u8 0,.int .i64 0,.int .i64 0,.int .i64 0]]
theorem laid_met (os:Os):laidMet Tryz.prog Rows.machineForcesRow.laid ((laidWorld os).forCall (fun _ _=>0) ⟨#[],aaK,[]⟩).memory:=
 laidMet_of_run' 8 (by kernel_rfl) (by kernel_rfl)
theorem reads (os:Os) {H:Type} (enc:TypeId×Value→H): ∃places,DataW.whole enc Tryz.prog ((laidWorld os).forCall (fun _ _=>0) ⟨#[],aaK,[]⟩).memory Tryz.f3.params.toList [] false aaK.toList 8=some ([.agg [.nil,.nil],.nil,.agg [.lit (.int .i64 0),.lit (.int .u8 0),.lit (.int .i64 0),.lit (.int .i64 0),.lit (.int .i64 0)]],[],places):=
 ⟨[],by kernel_rfl⟩
set_option maxHeartbeats 400000 in
theorem lifted (os:Os) (started:os.Started) (H:Type) (enc:TypeId×Value→H) (F:Stop.Interp) :
 ReturnsInHanded {} Tryz.checked os 3 .any ((OpenSpec.ofChange Rows.machineForcesSpec).preRow enc Tryz.prog Tryz.f3 Rows.machineForcesRow.domain false Rows.machineForcesRow.laid) (((OpenSpec.ofChange Rows.machineForcesSpec).at F).post enc Tryz.prog Tryz.f3 false true false false):=by
 obtain⟨places,hx⟩:=reads os enc
 refine returnsInHanded_of_row (C:=Tryz.checked) (s:=OpenSpec.ofChange Rows.machineForcesSpec) Try.own started (by kernel_rfl) Tryz.func3
  (witness_row_at (enc:=enc) (C:=Tryz.checked) false (laidWorld os) aaK rfl (by kernel_rfl) (by kernel_rfl) (by kernel_rfl)
   (OpenSpec.preRow_of_cond 8 hx (by kernel_rfl) (fun k hk=>by cases hk) (by kernel_rfl) (laid_met os))) ?_
 intro W base args ds gs before hval hW _ _ hsz _ hsh _;exact contract H enc W base args ds gs before hval hW hsz hsh
theorem jO {a b:Bool} (h1:a=true) (h2:b=true):(a && b)=true:=by rw [h1,h2]; rfl
theorem closed:joinedFacts Tryz.pinned.checked.prog 3 Tryz.f3 (OpenSpec.ofChange Rows.machineForcesSpec).bare Rows.machineForcesRow=true:=(jO (jO (jO (jO (jO (jO (jO (jO (jO (jO (jO (jO (jO (jO (jO (jO (jO (jO (jO (jO (jO (jO (jO (jO (jO (jO (jO (jO (jO (jO (jO (by kernel_rfl) (by kernel_rfl)) (by kernel_rfl)) (by kernel_rfl)) (by kernel_rfl)) (by kernel_rfl)) (by kernel_rfl)) (by kernel_rfl)) (by kernel_rfl)) (by kernel_rfl)) (by kernel_rfl)) (by kernel_rfl)) (by kernel_rfl)) (by kernel_rfl)) (by kernel_rfl)) (by kernel_rfl)) (by kernel_rfl)) (by kernel_rfl)) (by kernel_rfl)) (by kernel_rfl)) (by kernel_rfl)) (by kernel_rfl)) (by kernel_rfl)) (by kernel_rfl)) (by kernel_rfl)) (by kernel_rfl)) (by kernel_rfl)) (by kernel_rfl)) (by kernel_rfl)) (by kernel_rfl)) (by kernel_rfl)) (by kernel_rfl))
theorem said:Rows.MachineForcesSaid:=
 OpenClaim.holds_of_cond 3 Tryz.f3 rfl rfl rfl rfl rfl rfl rfl ⟨rfl,rfl,rfl,rfl,rfl⟩ rfl rfl rfl rfl rfl (by kernel_rfl) Tryz.func3 closed
  (of_decide_eq_true (by kernel_rfl)) (by unfold Func.isWrapper; first | (rw [if_pos (by decide +kernel)]; kernel_rfl) | (rw [if_neg (by decide +kernel)]; exact⟨rfl,rfl⟩))
  (fun os started H enc _ F=>by rw [OpenClaim.pre_eq_preRow]; exact lifted os started H enc F)
theorem plain (f:FuncId) (fn:Func) (hf:Tryz.pinned.checked.prog.funcNamed "amanuensis/amanuensislaw13.MachineForces" = some f) (hfn:Tryz.pinned.checked.prog.funcs[f]?=some fn) :
 false=Tryz.pinned.checked.prog.looks []∧∀(j:Nat) t,fn.params[j]?=some t→Tryz.pinned.checked.prog.wantsStandIn t=false:=by
 obtain rfl:f=3:=Option.some.inj ((show Tryz.prog.funcNamed "amanuensis/amanuensislaw13.MachineForces" = some 3 by kernel_rfl).symm.trans hf) |>.symm;obtain rfl:fn=Tryz.f3:=(Option.some.inj (Tryz.func3.symm.trans hfn)).symm;refine⟨by kernel_rfl,fun j t ht=>?_⟩;rw [Tryz.params3] at ht;have hm:=Array.mem_of_getElem? ht;simp only [List.mem_toArray,List.mem_cons,List.not_mem_nil,or_false] at hm;rcases hm with rfl | rfl | rfl
 all_goals exact (by kernel_rfl:Tryz.prog.wantsStandIn _=false)
theorem card:Rows.MachineForcesCardSaid:=
 Claim7.holds_tied_plain_at .later [] _ _ _ _ said (fun _ h=>by cases h) (by kernel_rfl) (fun _ h=>by cases h) machineForces_row_tie rfl ⟨rfl,rfl⟩ (by kernel_rfl) rfl plain (by kernel_rfl)
end Go.Proofs.YtmmdeeeifpepjacGreatDoor.fnMachineForces
end

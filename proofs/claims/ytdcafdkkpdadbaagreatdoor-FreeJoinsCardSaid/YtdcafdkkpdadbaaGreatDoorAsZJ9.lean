import Derived.Test.YtdcafdkkpdadbaaGreatDoorAsZJ8
set_option linter.unusedSectionVars false
set_option linter.unusedVariables false
set_option linter.unusedSimpArgs false
section
namespace Go.As.Try
open Go hiding Stat Spec shape
open Go.As
set_option maxRecDepth 100000
def isD (a b:Int) (ys:List Int):Prop:= ∃c:Int,ys= [c]∧(c=0∨c=1)∧(c=1→a= -1∨b≠0)
theorem fV {a b:Int}:isD a b [0]:=⟨0,rfl,.inl rfl,fun h=>absurd h (by omega)⟩
theorem nU {a b:Int} (h:a= -1∨b≠0):isD a b [1]:=⟨1,rfl,.inr rfl,fun _=>h⟩
theorem Tot.mono {j:Nat} {xs:List Int} {p q:List Int→Prop} (h:Tot j xs p) (f: ∀ys,p ys→q ys):Tot j xs q:=by
 obtain⟨ys,a,b⟩:=h
 exact⟨ys,a,f ys b⟩
theorem auV (x0 x2 x3 x4 x5 x6 x7 x8:Int):Tot 951 [x0,0,x2,x3,x4,x5,x6,x7,x8] (isD x5 0):=by
 obtain⟨ys,a1,b1,l1,rfl,g1⟩:=Tq x0 1 0 0 x3 0 0
 obtain⟨ys,a2,b2,l2,rfl,g2⟩:=Tq x0 0 0 0 x3 0 0
 obtain⟨ys,a3,b3,l3,rfl,g3⟩:=ajV 0 0 x0 0 0 0 x3 0 0
 obtain⟨ys,a4,b4,l4,rfl,g4⟩:=Tn x0 1 0 0 x3 0 0
 obtain⟨ys,a5,b5,l5,rfl,g5⟩:=Tn x0 0 0 0 x3 0 0
 obtain⟨ys,a6,b6,l6,rfl,g6⟩:=ajU 0 0 x0 0 0 0 x3 0 0
 obtain⟨ys,a7,k,rfl⟩:=TF x3
 refine Tot.of ?_
 rw [aBP]
 simp only [arD,zz,aG.den,Nat.reduceLT,Int.lt_irrefl,a1,a2,a3,a4,a5,a6,a7,ahD,ahC]
 repeat' first | exact .out fV | exact .out (nU (by omega)) | refine .ite (fun _=>?_) (fun _=>?_) | (exfalso; omega)
theorem auU (x0 x2 x3 x4 x5 x6 x7 x8:Int):Tot 952 [x0,0,x2,x3,x4,x5,x6,x7,x8] (isD x5 1):=by
 obtain⟨ys,a1,b1,l1,rfl,g1⟩:=Tq x0 1 0 0 x3 0 0
 obtain⟨ys,a2,b2,l2,rfl,g2⟩:=Tq x0 0 0 0 x3 0 0
 obtain⟨ys,a3,b3,l3,rfl,g3⟩:=ajV 0 0 x0 0 0 0 x3 0 0
 obtain⟨ys,a4,b4,l4,rfl,g4⟩:=Tn x0 1 0 0 x3 0 0
 obtain⟨ys,a5,b5,l5,rfl,g5⟩:=Tn x0 0 0 0 x3 0 0
 obtain⟨ys,a6,b6,l6,rfl,g6⟩:=ajU 0 0 x0 0 0 0 x3 0 0
 obtain⟨ys,a7,k,rfl⟩:=TF x3
 refine Tot.of ?_
 rw [aBO]
 simp only [arC,zz,aG.den,Nat.reduceLT,Int.lt_irrefl,a1,a2,a3,a4,a5,a6,a7,ahD,ahC]
 repeat' first | exact .out fV | exact .out (nU (by omega)) | refine .ite (fun _=>?_) (fun _=>?_) | (exfalso; omega)
theorem WY (m:Nat) (hm:1≤m) (x0 x3 x4 x5 x6 x7 x8 x9:Int):Tot 953 [x0,(m:Int),(m:Int),x3,x4,x5,x6,x7,x8,x9,enc (wH m)] (isD x6 0):=by
 obtain⟨ys,a7,k,rfl⟩:=TF x4
 by_cases hn:x6= -1
 ·by_cases h3:x0=3
  ·subst h3
   obtain⟨ys,hR,hC⟩:=Bc m hm 3 1 0 0 x4 0 0
   refine Tot.of ?_
   rw [JG]
   rcases hC with ⟨l,rfl⟩ | ⟨rfl,q1,q2,q3⟩
   ·simp only [uO,zz,aG.den,Nat.reduceLT,Int.lt_irrefl,hn,hR,Int.reduceEq]
    exact .out fV
   ·simp only [uO,zz,aG.den,Nat.reduceLT,Int.lt_irrefl,hn,hR,q1,q2,q3,a7,nY,Int.reduceEq,Int.natCast_one]
    repeat' first | exact .out fV | exact .out (nU (by omega)) | refine .ite (fun _=>?_) (fun _=>?_) | (exfalso; omega)
  by_cases h8:x0=8
  ·subst h8
   obtain⟨ys,hR,hC⟩:=Bc m hm 8 1 0 0 x4 0 0
   refine Tot.of ?_
   rw [JG]
   rcases hC with ⟨l,rfl⟩ | ⟨rfl,q1,q2,q3⟩
   ·simp only [uO,zz,aG.den,Nat.reduceLT,Int.lt_irrefl,hn,hR,Int.reduceEq]
    exact .out fV
   ·simp only [uO,zz,aG.den,Nat.reduceLT,Int.lt_irrefl,hn,hR,q1,q2,q3,a7,nY,Int.reduceEq,Int.natCast_one]
    repeat' first | exact .out fV | exact .out (nU (by omega)) | refine .ite (fun _=>?_) (fun _=>?_) | (exfalso; omega)
  by_cases h5:x0=5
  ·subst h5
   obtain⟨ys,hR,hC⟩:=Bc m hm 5 1 0 0 x4 0 0
   refine Tot.of ?_
   rw [JG]
   rcases hC with ⟨l,rfl⟩ | ⟨rfl,q1,q2,q3⟩
   ·simp only [uO,zz,aG.den,Nat.reduceLT,Int.lt_irrefl,hn,hR,Int.reduceEq]
    exact .out fV
   ·simp only [uO,zz,aG.den,Nat.reduceLT,Int.lt_irrefl,hn,hR,q1,q2,q3,a7,nY,Int.reduceEq,Int.natCast_one]
    repeat' first | exact .out fV | exact .out (nU (by omega)) | refine .ite (fun _=>?_) (fun _=>?_) | (exfalso; omega)
  by_cases h4:x0=4
  ·subst h4
   obtain⟨ys,hR,hC⟩:=ajT m hm 0 0 4 0 0 0 x4 0 0
   refine Tot.of ?_
   rw [JG]
   rcases hC with ⟨l,rfl⟩ | ⟨rfl,q1,q2,q3⟩
   ·simp only [uO,zz,aG.den,Nat.reduceLT,Int.lt_irrefl,hn,hR,Int.reduceEq]
    exact .out fV
   ·simp only [uO,zz,aG.den,Nat.reduceLT,Int.lt_irrefl,hn,hR,q1,q2,q3,a7,Sm,Int.reduceEq,Int.natCast_one]
    repeat' first | exact .out fV | exact .out (nU (by omega)) | refine .ite (fun _=>?_) (fun _=>?_) | (exfalso; omega)
  obtain⟨ys,hR,hC⟩:=Bc m hm x0 0 0 0 x4 0 0
  refine Tot.of ?_
  rw [JG]
  rcases hC with ⟨l,rfl⟩ | ⟨rfl,q1,q2,q3⟩
  ·simp only [uO,zz,aG.den,Nat.reduceLT,Int.lt_irrefl,hn,h3,h8,h5,h4,hR,Int.reduceEq]
   exact .out fV
  ·simp only [uO,zz,aG.den,Nat.reduceLT,Int.lt_irrefl,hn,h3,h8,h5,h4,hR,q1,q2,q3,a7,nY,Int.reduceEq,Int.natCast_one]
   repeat' first | exact .out fV | exact .out (nU (by omega)) | refine .ite (fun _=>?_) (fun _=>?_) | (exfalso; omega)
 ·by_cases h3:x0=3
  ·subst h3
   obtain⟨ys,hR,hC⟩:=Ba m hm 3 1 0 0 x4 0 0
   refine Tot.of ?_
   rw [JG]
   rcases hC with ⟨l,rfl⟩ | ⟨rfl,q1,q2,q3⟩
   ·simp only [uO,zz,aG.den,Nat.reduceLT,Int.lt_irrefl,hn,hR,Int.reduceEq]
    exact .out fV
   ·simp only [uO,zz,aG.den,Nat.reduceLT,Int.lt_irrefl,hn,hR,q1,q2,q3,a7,nY,Int.reduceEq,Int.natCast_one]
    repeat' first | exact .out fV | exact .out (nU (by omega)) | refine .ite (fun _=>?_) (fun _=>?_) | (exfalso; omega)
  by_cases h8:x0=8
  ·subst h8
   obtain⟨ys,hR,hC⟩:=Ba m hm 8 1 0 0 x4 0 0
   refine Tot.of ?_
   rw [JG]
   rcases hC with ⟨l,rfl⟩ | ⟨rfl,q1,q2,q3⟩
   ·simp only [uO,zz,aG.den,Nat.reduceLT,Int.lt_irrefl,hn,hR,Int.reduceEq]
    exact .out fV
   ·simp only [uO,zz,aG.den,Nat.reduceLT,Int.lt_irrefl,hn,hR,q1,q2,q3,a7,nY,Int.reduceEq,Int.natCast_one]
    repeat' first | exact .out fV | exact .out (nU (by omega)) | refine .ite (fun _=>?_) (fun _=>?_) | (exfalso; omega)
  by_cases h5:x0=5
  ·subst h5
   obtain⟨ys,hR,hC⟩:=Ba m hm 5 1 0 0 x4 0 0
   refine Tot.of ?_
   rw [JG]
   rcases hC with ⟨l,rfl⟩ | ⟨rfl,q1,q2,q3⟩
   ·simp only [uO,zz,aG.den,Nat.reduceLT,Int.lt_irrefl,hn,hR,Int.reduceEq]
    exact .out fV
   ·simp only [uO,zz,aG.den,Nat.reduceLT,Int.lt_irrefl,hn,hR,q1,q2,q3,a7,nY,Int.reduceEq,Int.natCast_one]
    repeat' first | exact .out fV | exact .out (nU (by omega)) | refine .ite (fun _=>?_) (fun _=>?_) | (exfalso; omega)
  by_cases h4:x0=4
  ·subst h4
   obtain⟨ys,hR,hC⟩:=ajS m hm 0 0 4 0 0 0 x4 0 0
   refine Tot.of ?_
   rw [JG]
   rcases hC with ⟨l,rfl⟩ | ⟨rfl,q1,q2,q3⟩
   ·simp only [uO,zz,aG.den,Nat.reduceLT,Int.lt_irrefl,hn,hR,Int.reduceEq]
    exact .out fV
   ·simp only [uO,zz,aG.den,Nat.reduceLT,Int.lt_irrefl,hn,hR,q1,q2,q3,a7,Sm,Int.reduceEq,Int.natCast_one]
    repeat' first | exact .out fV | exact .out (nU (by omega)) | refine .ite (fun _=>?_) (fun _=>?_) | (exfalso; omega)
  obtain⟨ys,hR,hC⟩:=Ba m hm x0 0 0 0 x4 0 0
  refine Tot.of ?_
  rw [JG]
  rcases hC with ⟨l,rfl⟩ | ⟨rfl,q1,q2,q3⟩
  ·simp only [uO,zz,aG.den,Nat.reduceLT,Int.lt_irrefl,hn,h3,h8,h5,h4,hR,Int.reduceEq]
   exact .out fV
  ·simp only [uO,zz,aG.den,Nat.reduceLT,Int.lt_irrefl,hn,h3,h8,h5,h4,hR,q1,q2,q3,a7,nY,Int.reduceEq,Int.natCast_one]
   repeat' first | exact .out fV | exact .out (nU (by omega)) | refine .ite (fun _=>?_) (fun _=>?_) | (exfalso; omega)
theorem acQ (M:Nat) (hM:M≤2513169434915) (x0 x3 x4 x5 x6 x7 x8 x9:Int): ∀(j m:Nat),m+j=M→1≤m→Tot 953 [x0,(M:Int),(m:Int),x3,x4,x5,x6,x7,x8,x9,enc (wH m)] (isD x6 0)
 | 0,m,h1,h2=>by
   obtain rfl:M=m:=by omega
   exact WY M h2 x0 x3 x4 x5 x6 x7 x8 x9
 | j+1,m,h1,h2=>by
   have ih:=acQ M hM x0 x3 x4 x5 x6 x7 x8 x9 j (m+1) (by omega) (by omega)
   have c1:(m:Int) < (M:Int):=by omega
   have c2:((m:Nat):Int) < 2513169434915:=by omega
   have w:=aY (n:=m) (by omega)
   have hr:wH (m+1)=dL ((wH m).l++ [E1]):=by
    unfold wH
    rw [aX,List.replicate_succ']
   rw [hr] at ih
   refine Tot.of ?_
   rw [JG]
   simp only [uO,zz,aG.den,Nat.reduceLT,c1,c2,xH,w]
   exact .jump ih
theorem WX (m:Nat) (hm:1≤m) (x0 x3 x4 x5 x6 x7 x8 x9:Int):Tot 954 [x0,(m:Int),(m:Int),x3,x4,x5,x6,x7,x8,x9,enc (wH m)] (isD x6 1):=by
 obtain⟨ys,a7,k,rfl⟩:=TF x4
 by_cases hn:x6= -1
 ·by_cases h3:x0=3
  ·subst h3
   obtain⟨ys,hR,hC⟩:=Bc m hm 3 1 0 0 x4 0 0
   refine Tot.of ?_
   rw [JF]
   rcases hC with ⟨l,rfl⟩ | ⟨rfl,q1,q2,q3⟩
   ·simp only [uN,zz,aG.den,Nat.reduceLT,Int.lt_irrefl,hn,hR,Int.reduceEq]
    exact .out fV
   ·simp only [uN,zz,aG.den,Nat.reduceLT,Int.lt_irrefl,hn,hR,q1,q2,q3,a7,nY,Int.reduceEq,Int.natCast_one]
    repeat' first | exact .out fV | exact .out (nU (by omega)) | refine .ite (fun _=>?_) (fun _=>?_) | (exfalso; omega)
  by_cases h8:x0=8
  ·subst h8
   obtain⟨ys,hR,hC⟩:=Bc m hm 8 1 0 0 x4 0 0
   refine Tot.of ?_
   rw [JF]
   rcases hC with ⟨l,rfl⟩ | ⟨rfl,q1,q2,q3⟩
   ·simp only [uN,zz,aG.den,Nat.reduceLT,Int.lt_irrefl,hn,hR,Int.reduceEq]
    exact .out fV
   ·simp only [uN,zz,aG.den,Nat.reduceLT,Int.lt_irrefl,hn,hR,q1,q2,q3,a7,nY,Int.reduceEq,Int.natCast_one]
    repeat' first | exact .out fV | exact .out (nU (by omega)) | refine .ite (fun _=>?_) (fun _=>?_) | (exfalso; omega)
  by_cases h5:x0=5
  ·subst h5
   obtain⟨ys,hR,hC⟩:=Bc m hm 5 1 0 0 x4 0 0
   refine Tot.of ?_
   rw [JF]
   rcases hC with ⟨l,rfl⟩ | ⟨rfl,q1,q2,q3⟩
   ·simp only [uN,zz,aG.den,Nat.reduceLT,Int.lt_irrefl,hn,hR,Int.reduceEq]
    exact .out fV
   ·simp only [uN,zz,aG.den,Nat.reduceLT,Int.lt_irrefl,hn,hR,q1,q2,q3,a7,nY,Int.reduceEq,Int.natCast_one]
    repeat' first | exact .out fV | exact .out (nU (by omega)) | refine .ite (fun _=>?_) (fun _=>?_) | (exfalso; omega)
  by_cases h4:x0=4
  ·subst h4
   obtain⟨ys,hR,hC⟩:=ajT m hm 0 0 4 0 0 0 x4 0 0
   refine Tot.of ?_
   rw [JF]
   rcases hC with ⟨l,rfl⟩ | ⟨rfl,q1,q2,q3⟩
   ·simp only [uN,zz,aG.den,Nat.reduceLT,Int.lt_irrefl,hn,hR,Int.reduceEq]
    exact .out fV
   ·simp only [uN,zz,aG.den,Nat.reduceLT,Int.lt_irrefl,hn,hR,q1,q2,q3,a7,Sm,Int.reduceEq,Int.natCast_one]
    repeat' first | exact .out fV | exact .out (nU (by omega)) | refine .ite (fun _=>?_) (fun _=>?_) | (exfalso; omega)
  obtain⟨ys,hR,hC⟩:=Bc m hm x0 0 0 0 x4 0 0
  refine Tot.of ?_
  rw [JF]
  rcases hC with ⟨l,rfl⟩ | ⟨rfl,q1,q2,q3⟩
  ·simp only [uN,zz,aG.den,Nat.reduceLT,Int.lt_irrefl,hn,h3,h8,h5,h4,hR,Int.reduceEq]
   exact .out fV
  ·simp only [uN,zz,aG.den,Nat.reduceLT,Int.lt_irrefl,hn,h3,h8,h5,h4,hR,q1,q2,q3,a7,nY,Int.reduceEq,Int.natCast_one]
   repeat' first | exact .out fV | exact .out (nU (by omega)) | refine .ite (fun _=>?_) (fun _=>?_) | (exfalso; omega)
 ·by_cases h3:x0=3
  ·subst h3
   obtain⟨ys,hR,hC⟩:=Ba m hm 3 1 0 0 x4 0 0
   refine Tot.of ?_
   rw [JF]
   rcases hC with ⟨l,rfl⟩ | ⟨rfl,q1,q2,q3⟩
   ·simp only [uN,zz,aG.den,Nat.reduceLT,Int.lt_irrefl,hn,hR,Int.reduceEq]
    exact .out fV
   ·simp only [uN,zz,aG.den,Nat.reduceLT,Int.lt_irrefl,hn,hR,q1,q2,q3,a7,nY,Int.reduceEq,Int.natCast_one]
    repeat' first | exact .out fV | exact .out (nU (by omega)) | refine .ite (fun _=>?_) (fun _=>?_) | (exfalso; omega)
  by_cases h8:x0=8
  ·subst h8
   obtain⟨ys,hR,hC⟩:=Ba m hm 8 1 0 0 x4 0 0
   refine Tot.of ?_
   rw [JF]
   rcases hC with ⟨l,rfl⟩ | ⟨rfl,q1,q2,q3⟩
   ·simp only [uN,zz,aG.den,Nat.reduceLT,Int.lt_irrefl,hn,hR,Int.reduceEq]
    exact .out fV
   ·simp only [uN,zz,aG.den,Nat.reduceLT,Int.lt_irrefl,hn,hR,q1,q2,q3,a7,nY,Int.reduceEq,Int.natCast_one]
    repeat' first | exact .out fV | exact .out (nU (by omega)) | refine .ite (fun _=>?_) (fun _=>?_) | (exfalso; omega)
  by_cases h5:x0=5
  ·subst h5
   obtain⟨ys,hR,hC⟩:=Ba m hm 5 1 0 0 x4 0 0
   refine Tot.of ?_
   rw [JF]
   rcases hC with ⟨l,rfl⟩ | ⟨rfl,q1,q2,q3⟩
   ·simp only [uN,zz,aG.den,Nat.reduceLT,Int.lt_irrefl,hn,hR,Int.reduceEq]
    exact .out fV
   ·simp only [uN,zz,aG.den,Nat.reduceLT,Int.lt_irrefl,hn,hR,q1,q2,q3,a7,nY,Int.reduceEq,Int.natCast_one]
    repeat' first | exact .out fV | exact .out (nU (by omega)) | refine .ite (fun _=>?_) (fun _=>?_) | (exfalso; omega)
  by_cases h4:x0=4
  ·subst h4
   obtain⟨ys,hR,hC⟩:=ajS m hm 0 0 4 0 0 0 x4 0 0
   refine Tot.of ?_
   rw [JF]
   rcases hC with ⟨l,rfl⟩ | ⟨rfl,q1,q2,q3⟩
   ·simp only [uN,zz,aG.den,Nat.reduceLT,Int.lt_irrefl,hn,hR,Int.reduceEq]
    exact .out fV
   ·simp only [uN,zz,aG.den,Nat.reduceLT,Int.lt_irrefl,hn,hR,q1,q2,q3,a7,Sm,Int.reduceEq,Int.natCast_one]
    repeat' first | exact .out fV | exact .out (nU (by omega)) | refine .ite (fun _=>?_) (fun _=>?_) | (exfalso; omega)
  obtain⟨ys,hR,hC⟩:=Ba m hm x0 0 0 0 x4 0 0
  refine Tot.of ?_
  rw [JF]
  rcases hC with ⟨l,rfl⟩ | ⟨rfl,q1,q2,q3⟩
  ·simp only [uN,zz,aG.den,Nat.reduceLT,Int.lt_irrefl,hn,h3,h8,h5,h4,hR,Int.reduceEq]
   exact .out fV
  ·simp only [uN,zz,aG.den,Nat.reduceLT,Int.lt_irrefl,hn,h3,h8,h5,h4,hR,q1,q2,q3,a7,nY,Int.reduceEq,Int.natCast_one]
   repeat' first | exact .out fV | exact .out (nU (by omega)) | refine .ite (fun _=>?_) (fun _=>?_) | (exfalso; omega)
theorem acP (M:Nat) (hM:M≤2513169434915) (x0 x3 x4 x5 x6 x7 x8 x9:Int): ∀(j m:Nat),m+j=M→1≤m→Tot 954 [x0,(M:Int),(m:Int),x3,x4,x5,x6,x7,x8,x9,enc (wH m)] (isD x6 1)
 | 0,m,h1,h2=>by
   obtain rfl:M=m:=by omega
   exact WX M h2 x0 x3 x4 x5 x6 x7 x8 x9
 | j+1,m,h1,h2=>by
   have ih:=acP M hM x0 x3 x4 x5 x6 x7 x8 x9 j (m+1) (by omega) (by omega)
   have c1:(m:Int) < (M:Int):=by omega
   have c2:((m:Nat):Int) < 2513169434915:=by omega
   have w:=aY (n:=m) (by omega)
   have hr:wH (m+1)=dL ((wH m).l++ [E1]):=by
    unfold wH
    rw [aX,List.replicate_succ']
   rw [hr] at ih
   refine Tot.of ?_
   rw [JF]
   simp only [uN,zz,aG.den,Nat.reduceLT,c1,c2,xH,w]
   exact .jump ih
theorem WW (x0 x1 x2 x3 x4 x5 x6 x8:Int) (d:D) (hd:d.l.length≤2513169434915):Tot 950 [x0,x1,x2,x3,x4,x5,x6,enc d,x8] (isD x4 x8):=by
 have key: ∀(t t2:Nat) (b:Int),(t=951∧t2=953∧b=0)∨(t=952∧t2=954∧b=1)→Tot t [x0,(d.l.length:Int),x1,x2,x3,x4,x5,x6,enc d] (isD x4 b):=by
  intro t t2 b ht
  by_cases h0:d.l.length=0
  ·rw [h0]
   rcases ht with ⟨rfl,rfl,rfl⟩ | ⟨rfl,rfl,rfl⟩
   ·exact auV x0 x1 x2 x3 x4 x5 x6 (enc d)
   ·exact auU x0 x1 x2 x3 x4 x5 x6 (enc d)
  ·have c1:(0:Int) < (d.l.length:Int):=by omega
   have hr:enc (wH 1)=enc (dL ([]++ [E1])):=rfl
   rcases ht with ⟨rfl,rfl,rfl⟩ | ⟨rfl,rfl,rfl⟩
   ·have:=acQ d.l.length hd x0 x1 x2 x3 x4 x5 x6 (enc d) (d.l.length - 1) 1 (by omega) (by omega)
    rw [hr] at this
    refine Tot.of ?_
    rw [aBP]
    simp only [arD,zz,aG.den,Nat.reduceLT,c1,yG]
    exact .jump this
   ·have:=acP d.l.length hd x0 x1 x2 x3 x4 x5 x6 (enc d) (d.l.length - 1) 1 (by omega) (by omega)
    rw [hr] at this
    refine Tot.of ?_
    rw [aBO]
    simp only [arC,zz,aG.den,Nat.reduceLT,c1,yG]
    exact .jump this
 refine Tot.of ?_
 rw [aD1]
 simp only [azM,zz,aG.den,Nat.reduceLT]
 exact .ite (fun h=> .jump ((key 951 953 0 (.inl ⟨rfl,rfl,rfl⟩)).mono fun ys ⟨c,a,b,e⟩=> ⟨c,a,b,fun q=>by have:=e q; omega⟩)) fun h=> .jump ((key 952 954 1 (.inr ⟨rfl,rfl,rfl⟩)).mono fun ys ⟨c,a,b,e⟩=> ⟨c,a,b,fun _=> .inr h⟩)
end Go.As.Try
end
section
namespace Go.As.Try
open Go hiding Stat Spec shape
open Go.As
set_option maxRecDepth 100000
def OkI (d0:D) (nl nc:Nat) (dx op ob into to:Int) (na:Nat):Prop:=
 (dx=1∧0≤ob∧ob < (d0.l.length:Int)∧(into= -1∨0≤into∧into < (nl:Int))∧(op=16→0≤to∧to≤(nc:Int)))∨
 (dx=2∧0≤ob∧ob < (d0.l.length:Int))∨(dx=3∧0≤into∧into < (nl:Int)∧(na:Int)=1)∨(dx=4∧0≤to∧to≤(nc:Int)∧(na:Int)=1)∨
 (dx=5∧0≤to∧to≤(nc:Int))∨(dx=6∧0≤into∧into < (nl:Int))∨(dx=7∧0≤into∧into < (nl:Int)∧0≤to∧to≤(nc:Int))
def isI (p:Prop) (ys:List Int):Prop:= ∃c:Int,ys= [c]∧(c=0∨c=1)∧(c=1→p)
theorem aDa {p:Prop}:isI p [0]:=⟨0,rfl,.inl rfl,fun h=>absurd h (by omega)⟩
theorem aC9 {p:Prop} (h:p):isI p [1]:=⟨1,rfl,.inr rfl,fun _=>h⟩
set_option maxHeartbeats 2000000 in
theorem asT (d0 d1 d3 d4 d:D) (x2 x5 x6 x7 x8 x9 x10:Int) (hd:d.l.length≤2513169434915):Tot 750 [enc d0,enc d1,x2,enc d3,enc d4,x5,x6,x7,x8,x9,x10,enc d] (isI (OkI d0 d3.l.length d4.l.length x5 x6 x7 x8 x9 d.l.length)):=by
 unfold OkI
 obtain⟨ys,h0,b0,rfl,_,f0⟩:=WW ((d0.at x7).hd 0).n x5 x6 x7 x8 x9 x10 0 d hd
 obtain⟨ys,h1,b1,rfl,_,f1⟩:=WW ((d0.at x7).hd 0).n x5 x6 x7 x8 x9 x10 1 d hd
 refine Tot.of ?_
 rw [aEh]
 simp only [azQ,zz,aG.den,Nat.reduceLT,h0,h1]
 repeat' first | exact .out aDa | exact .out (aC9 (by omega)) | refine .ite (fun _=>?_) (fun _=>?_)
def OkO (d0:D) (k n:Int):Prop:=1≤k∧k≤9∧(k=1∨k=2∨k=6∨k=7→n=0)∧(k=3∨k=8→1≤n∧n≤1048576)∧(k=5→1≤n∧n≤16)∧(k=4→0≤n∧n < (d0.l.length:Int)∧((d0.at n).hd 0).n=1)
def akA (d0:D) (x:D):Prop:=OkO d0 (x.hd 0).n (x.hd 2).n
def aAw (d0:D) (k n:Int) (ys:List Int):Prop:= ∃b:Int,ys= [b]∧(b=0∨b=1)∧(b≠0→OkO d0 k n)
theorem aeP (d0:D) (x1 x2 x3 x4 x5 x6:Int):Tot 700 [enc d0,x1,x2,x3,x4,x5,x6] (aAw d0 x2 x4):=by
 refine Tot.of ?_
 rw [aEi]
 simp only [azR,zz,aG.den,Nat.reduceLT]
 repeat' first
  | exact .out ⟨0,rfl,.inl rfl,fun h=>absurd rfl h⟩
  | exact .out ⟨1,rfl,.inr rfl,fun _=> ⟨by omega,by omega,by omega,by omega,by omega,fun h4=>by first | omega | exact⟨by omega,by omega,by assumption⟩⟩⟩
  | refine .ite (fun _=>?_) (fun _=>?_)
def Ic (d0 d1:D):Prop:=d0.l.length≤64∧d1.l.length≤16∧∀x∈d0.l,akA d0 x
def abX (d0 x:D):Prop:= ∀y∈(x.hd 2).l,OkI d0 (x.hd 1).l.length (x.hd 2).l.length (y.hd 0).n (y.hd 1).n (y.hd 2).n (y.hd 3).n (y.hd 4).n (y.hd 6).l.length
def ML (d0 d1:D) (ys:List Int):Prop:= ∃b:Int,ys= [b]∧(b=0∨b=120)∧(b=0→Ic d0 d1∧∀x∈d1.l,abX d0 x)
theorem EW {d:D} (h:Wd (.sl 4) d) {i:Nat} (hi:i < d.l.length): ∃nm' lc cd,d.l[i]=dL [nm',lc,cd]∧Wd .str nm'∧Wd (.sl 2) lc∧Wd (.sl 5) cd:=by
 obtain⟨r,h1,hl,hc⟩:=h.elN (cs:=[.str,.sl 2,.sl 5]) rfl _ (List.getElem_mem hi)
 match r,hl with
 | [a,b,c],_=>exact⟨a,b,c,h1,hc 0 _ _ rfl rfl,hc 1 _ _ rfl rfl,hc 2 _ _ rfl rfl⟩
theorem YJ {d:D} (h:Wd (.sl 5) d) {i:Nat} (hi:i < d.l.length): ∃a b c e f g OH,d.l[i]=dL [.i a,.i b,.i c,.i e,.i f,.i g,OH]∧iT .u8 a∧iT .u8 b∧iT .i64 c∧iT .i64 e∧iT .i64 f∧iT .i64 g∧Wd (.sl 6) OH:=by
 obtain⟨r,h1,hl,hc⟩:=h.elN (cs:=[.int .u8,.int .u8,.int .i64,.int .i64,.int .i64,.int .i64,.sl 6]) rfl _ (List.getElem_mem hi)
 match r,hl with
 | [a,b,c,e,f,g,OH],_=>
   obtain⟨a,rfl,ha⟩:=(hc 0 _ _ rfl rfl).i
   obtain⟨b,rfl,hb⟩:=(hc 1 _ _ rfl rfl).i
   obtain⟨c,rfl,hc'⟩:=(hc 2 _ _ rfl rfl).i
   obtain⟨e,rfl,he⟩:=(hc 3 _ _ rfl rfl).i
   obtain⟨f,rfl,hf⟩:=(hc 4 _ _ rfl rfl).i
   obtain⟨g,rfl,hg⟩:=(hc 5 _ _ rfl rfl).i
   exact⟨a,b,c,e,f,g,OH,h1,ha,hb,hc',he,hf,hg,hc 6 _ _ rfl rfl⟩
section
variable {d0 d1:D} (h0:Wd (.sl 3) d0) (h1:Wd (.sl 4) d1)
include h1
theorem EU (hx: ∀x y:Int,x=y→True): ∀(j i:Nat),i+j=d1.l.length→Tot 453 [enc d1,(d1.l.length:Int),(i:Int),enc d0] (ML d0 d1)
 | 0,i,hi=>by
   have c1: ¬(i:Int) < (d1.l.length:Int):=by omega
   refine Tot.of ?_
   rw [aBW]
   simp only [arJ,zz,aG.den,Nat.reduceLT,c1]
   exact .out ⟨120,rfl,.inr rfl,fun h=>by omega⟩
 | j+1,i,hi=>by
   have hl:=h1.len
   have c1:(i:Int) < (d1.l.length:Int):=by omega
   have c2: ¬((i:Int) < 0):=by omega
   have w:=aY (n:=i) (by omega)
   refine Tot.of ?_
   rw [aBW]
   simp only [arJ,zz,aG.den,Nat.reduceLT,c1,c2]
   refine .jump (Tot.of ?_)
   rw [aBU]
   simp only [arH,zz,aG.den,Nat.reduceLT,w]
   exact .ite (fun _=> .jump (EU hx j (i+1) (by omega))) fun _=> .jump (EU hx j (i+1) (by omega))
theorem Sv (i:Nat) (hi:i < d1.l.length) (j:Nat) (hj:i+1+j=d1.l.length) (x0 x5 x6 x7:Int):Tot 455 [x0,enc d1,(d1.l.length:Int),(i:Int),enc d0,x5,x6,x7] (ML d0 d1):=by
 have hl:=h1.len
 have w:=aY (n:=i) (by omega)
 refine Tot.of ?_
 rw [aBU]
 simp only [arH,zz,aG.den,Nat.reduceLT,w]
 exact .ite (fun _=> .jump (EU h1 (fun _ _ _=>trivial) j (i+1) (by omega))) fun _=> .jump (EU h1 (fun _ _ _=>trivial) j (i+1) (by omega))
theorem Vh (hg:Ic d0 d1): ∀(j i:Nat),i+j=d1.l.length→(∀(n:Nat) (h:n < d1.l.length),n < i→abX d0 d1.l[n])→Tot 454 [enc d1,(d1.l.length:Int),(i:Int),enc d0] (ML d0 d1)
 | 0,i,hi,hp=>by
   have c1: ¬(i:Int) < (d1.l.length:Int):=by omega
   refine Tot.of ?_
   rw [aBV]
   simp only [arI,zz,aG.den,Nat.reduceLT,c1]
   refine .out ⟨0,rfl,.inl rfl,fun _=> ⟨hg,fun x hx=>?_⟩⟩
   obtain⟨n,hn,rfl⟩:=List.getElem_of_mem hx
   exact hp n hn (by omega)
 | j+1,i,hi,hp=>by
   have hl:=h1.len
   have hil:i < d1.l.length:=by omega
   have c1:(i:Int) < (d1.l.length:Int):=by omega
   have c2: ¬((i:Int) < 0):=by omega
   have w:=aY (n:=i) (by omega)
   obtain⟨nm',lc,cd,he,hn,hlc,hcd⟩:=EW h1 hil
   have hcl:=hcd.len
   have e1:(d1.l[i]).hd 1=lc:=by rw [he,dR]; rfl
   have e2:(d1.l[i]).hd 2=cd:=by rw [he,dR]; rfl
   have loop: ∀(m k:Nat),k+m=cd.l.length→(∀(n:Nat) (h:n < cd.l.length),n < k→OkI d0 lc.l.length cd.l.length ((cd.l[n]).hd 0).n ((cd.l[n]).hd 1).n ((cd.l[n]).hd 2).n ((cd.l[n]).hd 3).n ((cd.l[n]).hd 4).n ((cd.l[n]).hd 6).l.length)→Tot 456 [(k:Int),enc d1,(d1.l.length:Int),(i:Int),enc d0,enc nm',enc lc,enc cd] (ML d0 d1):=by
    intro m
    induction m with
    | zero=>
      intro k hk hq
      have c3: ¬(k:Int) < (cd.l.length:Int):=by omega
      have ih:=Vh hg j (i+1) (by omega) fun n hn hni=>by
       by_cases hne:n=i
       ·subst hne
        unfold abX
        rw [e1,e2]
        intro y hy
        obtain⟨z,hz,rfl⟩:=List.getElem_of_mem hy
        exact hq z hz (by omega)
       ·exact hp n hn (by omega)
      refine Tot.of ?_
      rw [aBT]
      simp only [arG,zz,aG.den,Nat.reduceLT,c3,w]
      exact .jump ih
    | succ m ihm=>
      intro k hk hq
      have hkl:k < cd.l.length:=by omega
      have c3:(k:Int) < (cd.l.length:Int):=by omega
      have c4: ¬((k:Int) < 0):=by omega
      have w2:=aY (n:=k) (by omega)
      obtain⟨a,b,c,e,f,g,OH,hin,_,_,_,_,_,_,has⟩:=YJ hcd hkl
      have hroom:=has.room
      have hal:OH.l.length≤2513169434915:=by
       have:yD 6=56:=rfl
       rw [this] at hroom
       omega
      obtain⟨ys,hM,q,rfl,aFB,hqI⟩:=asT d0 d1 lc cd OH (enc nm') a b c e f g hal
      obtain⟨ys,hX,r,rfl,_⟩:=afO OH lc (enc nm') (enc cd) has
      refine Tot.of ?_
      rw [aBT]
      simp only [arG,zz,aG.den,Nat.reduceLT,c3,c4,bC hkl,hin,dR,List.getElem?_cons_zero,List.getElem?_cons_succ,hM,hX,w2]
      refine .ite (fun _=> .jump (Sv h1 i hil j (by omega) _ _ _ _)) fun hq0=> .ite (fun _=> .jump (ihm (k+1) (by omega) fun n hn hnk=>?_)) fun _=> .jump (Sv h1 i hil j (by omega) _ _ _ _)
      by_cases hne:n=k
      ·subst hne
       simp only [hin,dR,List.getElem?_cons_zero,List.getElem?_cons_succ]
       exact hqI (by omega)
      ·exact hq n hn (by omega)
   refine Tot.of ?_
   rw [aBV]
   simp only [arI,zz,aG.den,Nat.reduceLT,c1,c2,bC hil,he,dR,List.getElem?_cons_zero,List.getElem?_cons_succ]
   exact .ite (fun _=> .jump (Sv h1 i hil j (by omega) _ _ _ _)) fun _=> .ite (fun _=> .jump (Sv h1 i hil j (by omega) _ _ _ _)) fun _=> .jump (loop cd.l.length 0 (by omega) fun n hn h=>absurd h (by omega))
include h0
theorem J5: ∀(j i:Nat),i+j=d0.l.length→Tot 451 [enc d0,(d0.l.length:Int),(i:Int),enc d1] (ML d0 d1)
 | 0,i,hi=>by
   have c1: ¬(i:Int) < (d0.l.length:Int):=by omega
   refine Tot.of ?_
   rw [aBY]
   simp only [arL,zz,aG.den,Nat.reduceLT,c1]
   exact .jump (EU h1 (fun _ _ _=>trivial) d1.l.length 0 (by omega))
 | j+1,i,hi=>by
   have hl:=h0.len
   have c1:(i:Int) < (d0.l.length:Int):=by omega
   have c2: ¬((i:Int) < 0):=by omega
   have w:=aY (n:=i) (by omega)
   refine Tot.of ?_
   rw [aBY]
   simp only [arL,zz,aG.den,Nat.reduceLT,c1,c2,w]
   exact .jump (J5 j (i+1) (by omega))
theorem VH (hs:d0.l.length≤64) (ht:d1.l.length≤16): ∀(j i:Nat),i+j=d0.l.length→(∀(k:Nat) (h:k < d0.l.length),k < i→akA d0 d0.l[k])→Tot 452 [enc d0,(d0.l.length:Int),(i:Int),enc d1] (ML d0 d1)
 | 0,i,hi,hp=>by
   have c1: ¬(i:Int) < (d0.l.length:Int):=by omega
   refine Tot.of ?_
   rw [aBX]
   simp only [arK,zz,aG.den,Nat.reduceLT,c1]
   refine .jump (Vh h1 ⟨hs,ht,fun x hx=>?_⟩ d1.l.length 0 (by omega) fun n hn h=>absurd h (by omega))
   obtain⟨k,hk,rfl⟩:=List.getElem_of_mem hx
   exact hp k hk (by omega)
 | j+1,i,hi,hp=>by
   have hil:i < d0.l.length:=by omega
   have c1:(i:Int) < (d0.l.length:Int):=by omega
   have c2: ¬((i:Int) < 0):=by omega
   have w:=aY (n:=i) (by omega)
   obtain⟨ys,hO,b,rfl,_,hob⟩:=aeP d0 (enc d1) ((d0.l[i]).hd 0).n (enc ((d0.l[i]).hd 1)) ((d0.l[i]).hd 2).n (enc ((d0.l[i]).hd 3)) ((d0.l[i]).hd 4).n
   refine Tot.of ?_
   rw [aBX]
   simp only [arK,zz,aG.den,Nat.reduceLT,c1,c2,w,bC hil,hO]
   refine .ite (fun _=> .jump (J5 h0 h1 j (i+1) (by omega))) fun hb=> .jump (VH hs ht j (i+1) (by omega) fun k hk hki=>?_)
   by_cases hke:k=i
   ·subst hke
    exact hob hb
   ·exact hp k hk (by omega)
theorem Dq:Tot 450 [enc d0,enc d1] (ML d0 d1):=by
 refine Tot.of ?_
 rw [aEr]
 simp only [azV,zz,aG.den,Nat.reduceLT]
 exact .ite (fun _=> .jump (J5 h0 h1 d0.l.length 0 (by omega))) fun ha=> .ite (fun _=> .jump (J5 h0 h1 d0.l.length 0 (by omega))) fun hb=>
  .jump (VH h0 h1 (by omega) (by omega) d0.l.length 0 (by omega) fun k hk hki=>by omega)
end
end Go.As.Try
end
section
namespace Go.As.Try
open Go hiding Stat Spec shape
open Go.As
set_option maxRecDepth 100000
def one (ys:List Int):Prop:= ∃k:Int,ys= [k]
theorem aCo {o:Int} (h:iT .u8 o):IntKind.i64.wrap o=o:=mM (by have:=h.1; omega) (by have:=h.2; omega)
theorem akO (a b c d e:Int):Tot 650 [a,b,c,d,e] (fun ys=> ∃k l:Int,ys= [k,l]∧(l=0∨l=1)):=by
 refine Tot.of ?_
 rw [aEj]
 simp only [azS,zz,aG.den,Nat.reduceLT]
 repeat' first | exact .out ⟨_,_,rfl,.inl rfl⟩ | exact .out ⟨_,_,rfl,.inr rfl⟩ | refine .ite (fun _=>?_) (fun _=>?_)
theorem O9 (r:D) (hl:r.l.length≤140737488351232) (x0 x4 x5 x6 x7 x8 x9 x10 x11 x12:Int) (v:D): ∀(j i:Nat) (x14:Int),i+j=r.l.length→
 Tot 501 [x0,enc r,(r.l.length:Int),(i:Int),x4,x5,x6,x7,x8,x9,x10,x11,x12,enc v,x14] ED
 | 0,i,x14,hi=>by
   have c1: ¬(i:Int) < (r.l.length:Int):=by omega
   refine Tot.of ?_
   rw [aBS]
   simp only [arF,zz,aG.den,Nat.reduceLT,c1]
   repeat' first | exact .out zA | exact .out yZ | refine .ite (fun _=>?_) (fun _=>?_)
 | j+1,i,x14,hi=>by
   have c1:(i:Int) < (r.l.length:Int):=by omega
   have c2: ¬((i:Int) < 0):=by omega
   have w:=aY (n:=i) (by omega)
   have ih:=fun x=>O9 r hl x0 x4 x5 x6 x7 x8 x9 x10 x11 x12 v j (i+1) x (by omega)
   refine Tot.of ?_
   rw [aBS]
   simp only [arF,zz,aG.den,Nat.reduceLT,c1,c2,w]
   repeat' first | exact .out zA | exact .out yZ | exact .jump (ih _) | refine .ite (fun _=>?_) (fun _=>?_)
theorem Yi (x0 x1 x2 x3 x4 x5 x6 x7 x8 x11:Int) (r v:D) (hl:r.l.length≤140737488351232):Tot 500 [x0,x1,x2,x3,x4,x5,x6,x7,x8,enc r,enc v,x11] ED:=by
 obtain⟨ys,hM,a,b,rfl,hb⟩:=akO x0 x1 x2 x3 x4
 have ih:=O9 r hl x11 x0 x1 x2 x3 x4 x5 x6 x7 x8 v r.l.length 0 (enc (.i 0)) (by omega)
 refine Tot.of ?_
 rw [aEq]
 simp only [azU,zz,aG.den,Nat.reduceLT,hM]
 repeat' first | exact .out zA | exact .out yZ | exact .jump ih | refine .ite (fun _=>?_) (fun _=>?_)
end Go.As.Try
end
section
namespace Go.As.Try
open Go hiding Stat Spec shape
open Go.As
set_option maxRecDepth 100000
theorem set_self {d:D} (hd:d=dL d.l) {i:Nat} (hi:i < d.l.length):dL (iK d.l (i:Int) d.l[i])=d:=by
 rw [AQ,List.set_getElem_self,← hd]
theorem Tc (a b c d e f x:D):iK [a,b,c,d,e,f] 4 x= [a,b,c,d,x,f]:=rfl
theorem S9 (a b c d e f x:D):iK [a,b,c,d,e,f] 5 x= [a,b,c,d,e,x]:=rfl
theorem pW: ¬(enc (.i 2)=enc (.i 1)):=fun h=>by have:=qK h; simp at this
theorem len1:(((D.i 1).l.length:Nat):Int)=0:=rfl
theorem len2:(((D.i 2).l.length:Nat):Int)=0:=rfl
theorem xM: ¬((0:Int) < 0):=by omega
theorem cZ {r:D} (h:Wd (.sl 0) r):r= .i 1∨r= .i 2∨((0:Int) < (r.l.length:Int)∧(r.l.length:Int) < 17592186044416):=by
 rcases h.sh with h1 | h1 | ⟨h1,h2⟩
 ·exact .inl h1
 ·exact .inr (.inl h1)
 ·have hr:=h.room
  have h3:yD 0=8:=rfl
  rw [h3] at hr
  have:=List.length_pos_iff.2 h2
  exact .inr (.inr ⟨by omega,by omega⟩)
structure Th (d:D):Prop where
 wd:Wd (.sl 7) d
 sh:d=dL d.l
 few:d.l.length≤1759218604390
theorem IV {d:D} (h:Wd (.sl 7) d) (hn:0 < d.l.length):Th d:=by
 refine⟨h,?_,?_⟩
 ·rcases h.sh with rfl | rfl | ⟨h1,_⟩
  ·simp [D.l] at hn
  ·simp [D.l] at hn
  ·exact h1
 ·have hr:=h.room
  have h3:yD 7=80:=rfl
  rw [h3] at hr
  omega
theorem Ry (d:D) (h:Th d): ∀(j i:Nat),i+j=d.l.length→L 551 [enc d,(d.l.length:Int),(i:Int)]=some [enc d]
 | 0,i,hi=>by
   have c1: ¬(i:Int) < (d.l.length:Int):=by omega
   rw [aT,aBR]
   simp only [arE,zz,aG.den,Nat.reduceLT,c1,fin]
 | j+1,i,hi=>by
   have hl:=h.few
   have hil:i < d.l.length:=by omega
   have c1:(i:Int) < (d.l.length:Int):=by omega
   have c2: ¬((i:Int) < 0):=by omega
   have w:=aY (n:=i) (by omega)
   have ih:=Ry d h j (i+1) (by omega)
   obtain⟨o,c,dn,g,r,v,he,_,_,_,_,hr,hv⟩:=h.wd.thing _ (List.getElem_mem hil)
   have hs:=set_self h.sh hil
   rw [he] at hs
   rw [aT,aBR]
   rcases cZ hr with rfl | rfl | ⟨r1,r2⟩ <;> rcases cZ hv with rfl | rfl | ⟨v1,v2⟩
   all_goals
    simp only [arE,zz,aG.den,Nat.reduceLT,c1,c2,w,bC hil,he,dR,aX,List.getElem?_cons_zero,List.getElem?_cons_succ,Tc,S9,hs,len1,len2,xM,pW]
    try simp only [r1,r2,zz]
    try simp only [v1,v2,zz]
    try simp only [fin]
    exact ih
theorem apQ (d:D) (h:Wd (.sl 7) d):L 550 [enc d]=some [enc d]:=by
 rw [aT,aEp]
 rcases h.sh with rfl | rfl | ⟨h1,h2⟩
 ·simp only [ahQ,zz,aG.den,Nat.reduceLT,len1,xM,fin]
  rw [aT,aEo]
  rfl
 ·simp only [ahQ,zz,aG.den,Nat.reduceLT,len2,xM,pW,fin]
  rw [aT,aEn]
  rfl
 ·have hp:=List.length_pos_iff.2 h2
  have ht:=IV h hp
  have hl:=ht.few
  have c1:(0:Int) < (d.l.length:Int):=by omega
  have c2:(d.l.length:Int) < 1759218604441:=by omega
  simp only [ahQ,zz,aG.den,Nat.reduceLT,c1,c2,fin]
  exact Ry d ht d.l.length 0 (by omega)
theorem RG (d:D) (h:Th d) (gi:Nat) (x4 x5 x6 x7 x8 x9:Int): ∀(j i:Nat),gi < i→i+j=d.l.length→L 9004 [(gi:Int),enc d,(d.l.length:Int),(i:Int),x4,x5,x6,x7,x8,x9]=some [3,(gi:Int),enc d,x4,x5,x6,x7,x8,x9]
 | 0,i,hg,hi=>by
   have c1: ¬(i:Int) < (d.l.length:Int):=by omega
   have c0: ¬((i:Int)=(gi:Int)):=by omega
   rw [aT,anH]
   simp only [aaB,zz,aG.den,Nat.reduceLT,c0,c1,fin]
 | j+1,i,hg,hi=>by
   have hl:=h.few
   have hil:i < d.l.length:=by omega
   have c1:(i:Int) < (d.l.length:Int):=by omega
   have c2: ¬((i:Int) < 0):=by omega
   have c0: ¬((i:Int)=(gi:Int)):=by omega
   have w:=aY (n:=i) (by omega)
   have ih:=RG d h gi x4 x5 x6 x7 x8 x9 j (i+1) (by omega) (by omega)
   obtain⟨o,c,dn,g,r,v,he,_,_,_,_,hr,hv⟩:=h.wd.thing _ (List.getElem_mem hil)
   have hs:=set_self h.sh hil
   rw [he] at hs
   rw [aT,anH]
   rcases cZ hr with rfl | rfl | ⟨r1,r2⟩ <;> rcases cZ hv with rfl | rfl | ⟨v1,v2⟩
   all_goals
    simp only [aaB,zz,aG.den,Nat.reduceLT,c0,c1,c2,w,bC hil,he,dR,aX,List.getElem?_cons_zero,List.getElem?_cons_succ,Tc,S9,hs,len1,len2,xM,pW]
    try simp only [r1,r2,zz]
    try simp only [v1,v2,zz]
    try simp only [fin]
    exact ih
theorem RF (d:D) (h:Th d) (gi:Nat) (x4 x5 x6 x7 x8 x9:Int): ∀(j i:Nat),gi < i→i+j=d.l.length→L 9005 [(gi:Int),enc d,(d.l.length:Int),(i:Int),x4,x5,x6,x7,x8,x9]=some [4,(gi:Int),enc d,x4,x5,x6,x7,x8,x9]
 | 0,i,hg,hi=>by
   have c1: ¬(i:Int) < (d.l.length:Int):=by omega
   have c0: ¬((i:Int)=(gi:Int)):=by omega
   rw [aT,anG]
   simp only [aaA,zz,aG.den,Nat.reduceLT,c0,c1,fin]
 | j+1,i,hg,hi=>by
   have hl:=h.few
   have hil:i < d.l.length:=by omega
   have c1:(i:Int) < (d.l.length:Int):=by omega
   have c2: ¬((i:Int) < 0):=by omega
   have c0: ¬((i:Int)=(gi:Int)):=by omega
   have w:=aY (n:=i) (by omega)
   have ih:=RF d h gi x4 x5 x6 x7 x8 x9 j (i+1) (by omega) (by omega)
   obtain⟨o,c,dn,g,r,v,he,_,_,_,_,hr,hv⟩:=h.wd.thing _ (List.getElem_mem hil)
   have hs:=set_self h.sh hil
   rw [he] at hs
   rw [aT,anG]
   rcases cZ hr with rfl | rfl | ⟨r1,r2⟩ <;> rcases cZ hv with rfl | rfl | ⟨v1,v2⟩
   all_goals
    simp only [aaA,zz,aG.den,Nat.reduceLT,c0,c1,c2,w,bC hil,he,dR,aX,List.getElem?_cons_zero,List.getElem?_cons_succ,Tc,S9,hs,len1,len2,xM,pW]
    try simp only [r1,r2,zz]
    try simp only [v1,v2,zz]
    try simp only [fin]
    exact ih
theorem RD (d:D) (h:Th d) (gi:Nat) (x4 x5 x6 x7 x8 x9:Int): ∀(j i:Nat),gi < i→i+j=d.l.length→L 9006 [(gi:Int),enc d,(d.l.length:Int),(i:Int),x4,x5,x6,x7,x8,x9]=some [5,(gi:Int),enc d,x4,x5,x6,x7,x8,x9]
 | 0,i,hg,hi=>by
   have c1: ¬(i:Int) < (d.l.length:Int):=by omega
   have c0: ¬((i:Int)=(gi:Int)):=by omega
   rw [aT,anF]
   simp only [Z9,zz,aG.den,Nat.reduceLT,c0,c1,fin]
 | j+1,i,hg,hi=>by
   have hl:=h.few
   have hil:i < d.l.length:=by omega
   have c1:(i:Int) < (d.l.length:Int):=by omega
   have c2: ¬((i:Int) < 0):=by omega
   have c0: ¬((i:Int)=(gi:Int)):=by omega
   have w:=aY (n:=i) (by omega)
   have ih:=RD d h gi x4 x5 x6 x7 x8 x9 j (i+1) (by omega) (by omega)
   obtain⟨o,c,dn,g,r,v,he,_,_,_,_,hr,hv⟩:=h.wd.thing _ (List.getElem_mem hil)
   have hs:=set_self h.sh hil
   rw [he] at hs
   rw [aT,anF]
   rcases cZ hr with rfl | rfl | ⟨r1,r2⟩ <;> rcases cZ hv with rfl | rfl | ⟨v1,v2⟩
   all_goals
    simp only [Z9,zz,aG.den,Nat.reduceLT,c0,c1,c2,w,bC hil,he,dR,aX,List.getElem?_cons_zero,List.getElem?_cons_succ,Tc,S9,hs,len1,len2,xM,pW]
    try simp only [r1,r2,zz]
    try simp only [v1,v2,zz]
    try simp only [fin]
    exact ih
theorem Rz (d:D) (h:Th d) (gi:Nat) (x4 x5 x6 x7 x8 x9:Int): ∀(j i:Nat),gi < i→i+j=d.l.length→L 9007 [(gi:Int),enc d,(d.l.length:Int),(i:Int),x4,x5,x6,x7,x8,x9]=some [6,(gi:Int),enc d,x4,x5,x6,x7,x8,x9]
 | 0,i,hg,hi=>by
   have c1: ¬(i:Int) < (d.l.length:Int):=by omega
   have c0: ¬((i:Int)=(gi:Int)):=by omega
   rw [aT,anE]
   simp only [Z8,zz,aG.den,Nat.reduceLT,c0,c1,fin]
 | j+1,i,hg,hi=>by
   have hl:=h.few
   have hil:i < d.l.length:=by omega
   have c1:(i:Int) < (d.l.length:Int):=by omega
   have c2: ¬((i:Int) < 0):=by omega
   have c0: ¬((i:Int)=(gi:Int)):=by omega
   have w:=aY (n:=i) (by omega)
   have ih:=Rz d h gi x4 x5 x6 x7 x8 x9 j (i+1) (by omega) (by omega)
   obtain⟨o,c,dn,g,r,v,he,_,_,_,_,hr,hv⟩:=h.wd.thing _ (List.getElem_mem hil)
   have hs:=set_self h.sh hil
   rw [he] at hs
   rw [aT,anE]
   rcases cZ hr with rfl | rfl | ⟨r1,r2⟩ <;> rcases cZ hv with rfl | rfl | ⟨v1,v2⟩
   all_goals
    simp only [Z8,zz,aG.den,Nat.reduceLT,c0,c1,c2,w,bC hil,he,dR,aX,List.getElem?_cons_zero,List.getElem?_cons_succ,Tc,S9,hs,len1,len2,xM,pW]
    try simp only [r1,r2,zz]
    try simp only [v1,v2,zz]
    try simp only [fin]
    exact ih
def oO (r v:D):Int:=if 0 < r.l.length then (if 0 < v.l.length then 3 else 4) else (if 0 < v.l.length then 5 else 6)
theorem ayR (d:D) (h:Th d) (gi:Nat) (hgi:gi < d.l.length) (o c dn g:Int) (r v:D) (he':d.l[gi]=dL [.i o,.i c,.i dn,.i g,r,v]): ∀(j i:Nat),i≤gi→i+j=gi→
 L 9001 [(gi:Int),enc d,(d.l.length:Int),(i:Int)]=some [oO r v,(gi:Int),enc d,o,c,dn,g,enc r,enc v]
 | 0,i,hg,hi=>by
   obtain rfl:i=gi:=by omega
   have hl:=h.few
   have c1:(i:Int) < (d.l.length:Int):=by omega
   have c2: ¬((i:Int) < 0):=by omega
   have w:=aY (n:=i) (by omega)
   obtain⟨o',c',dn',g',r',v',he,_,_,_,_,hr,hv⟩:=h.wd.thing _ (List.getElem_mem hgi)
   rw [he'] at he
   have he:=Ob he
   simp only [List.cons.injEq,D.i.injEq,and_true] at he
   obtain⟨rfl,rfl,rfl,rfl,rfl,rfl⟩:=he
   have b4:=fun a b=>RG d h i o c dn g a b (d.l.length - (i+1)) (i+1) (by omega) (by omega)
   have b5:=fun a b=>RF d h i o c dn g a b (d.l.length - (i+1)) (i+1) (by omega) (by omega)
   have b6:=fun a b=>RD d h i o c dn g a b (d.l.length - (i+1)) (i+1) (by omega) (by omega)
   have b7:=fun a b=>Rz d h i o c dn g a b (d.l.length - (i+1)) (i+1) (by omega) (by omega)
   rw [aT,WV]
   rcases cZ hr with rfl | rfl | ⟨r1,r2⟩
   ·rcases cZ hv with rfl | rfl | ⟨v1,v2⟩
    ·simp only [uP,zz,aG.den,Nat.reduceLT,c1,c2,w,bC hgi,he',dR,aX,List.getElem?_cons_zero,List.getElem?_cons_succ,len1,xM,fin,b7]
     rw [oO,if_neg (by simp [D.l]),if_neg (by simp [D.l])]
    ·simp only [uP,zz,aG.den,Nat.reduceLT,c1,c2,w,bC hgi,he',dR,aX,List.getElem?_cons_zero,List.getElem?_cons_succ,len1,xM,len2,pW,fin,b7]
     rw [oO,if_neg (by simp [D.l]),if_neg (by simp [D.l])]
    ·simp only [uP,zz,aG.den,Nat.reduceLT,c1,c2,w,bC hgi,he',dR,aX,List.getElem?_cons_zero,List.getElem?_cons_succ,len1,xM,v1,v2,fin,b6]
     rw [oO,if_neg (by simp [D.l]),if_pos (by omega)]
   ·rcases cZ hv with rfl | rfl | ⟨v1,v2⟩
    ·simp only [uP,zz,aG.den,Nat.reduceLT,c1,c2,w,bC hgi,he',dR,aX,List.getElem?_cons_zero,List.getElem?_cons_succ,len2,xM,pW,len1,fin,b7]
     rw [oO,if_neg (by simp [D.l]),if_neg (by simp [D.l])]
    ·simp only [uP,zz,aG.den,Nat.reduceLT,c1,c2,w,bC hgi,he',dR,aX,List.getElem?_cons_zero,List.getElem?_cons_succ,len2,xM,pW,fin,b7]
     rw [oO,if_neg (by simp [D.l]),if_neg (by simp [D.l])]
    ·simp only [uP,zz,aG.den,Nat.reduceLT,c1,c2,w,bC hgi,he',dR,aX,List.getElem?_cons_zero,List.getElem?_cons_succ,len2,xM,pW,v1,v2,fin,b6]
     rw [oO,if_neg (by simp [D.l]),if_pos (by omega)]
   ·rcases cZ hv with rfl | rfl | ⟨v1,v2⟩
    ·simp only [uP,zz,aG.den,Nat.reduceLT,c1,c2,w,bC hgi,he',dR,aX,List.getElem?_cons_zero,List.getElem?_cons_succ,r1,r2,len1,xM,fin,b5]
     rw [oO,if_pos (by omega),if_neg (by simp [D.l])]
    ·simp only [uP,zz,aG.den,Nat.reduceLT,c1,c2,w,bC hgi,he',dR,aX,List.getElem?_cons_zero,List.getElem?_cons_succ,r1,r2,len2,xM,pW,fin,b5]
     rw [oO,if_pos (by omega),if_neg (by simp [D.l])]
    ·simp only [uP,zz,aG.den,Nat.reduceLT,c1,c2,w,bC hgi,he',dR,aX,List.getElem?_cons_zero,List.getElem?_cons_succ,r1,r2,v1,v2,fin,b4]
     rw [oO,if_pos (by omega),if_pos (by omega)]
 | j+1,i,hg,hi=>by
   have hl:=h.few
   have hil:i < d.l.length:=by omega
   have c1:(i:Int) < (d.l.length:Int):=by omega
   have c2: ¬((i:Int) < 0):=by omega
   have c0: ¬((i:Int)=(gi:Int)):=by omega
   have w:=aY (n:=i) (by omega)
   have ih:=ayR d h gi hgi o c dn g r v he' j (i+1) (by omega) (by omega)
   clear he'
   obtain⟨o2,c2',dn2,g2,r2',v2',he,_,_,_,_,hr,hv⟩:=h.wd.thing _ (List.getElem_mem hil)
   have hs:=set_self h.sh hil
   rw [he] at hs
   rw [aT,WV]
   rcases cZ hr with rfl | rfl | ⟨r1,r2⟩ <;> rcases cZ hv with rfl | rfl | ⟨v1,v2⟩
   all_goals
    simp only [uP,zz,aG.den,Nat.reduceLT,c0,c1,c2,w,bC hil,he,dR,aX,List.getElem?_cons_zero,List.getElem?_cons_succ,Tc,S9,hs,len1,len2,xM,pW]
    try simp only [r1,r2,zz]
    try simp only [v1,v2,zz]
    try simp only [fin]
    exact ih
theorem ayQ (d:D) (h:Th d) (gi:Nat) (hgi:gi < d.l.length) (o c dn g:Int) (r v:D) (he':d.l[gi]=dL [.i o,.i c,.i dn,.i g,r,v]) :
 L 9000 [(gi:Int),enc d]=some [oO r v,(gi:Int),enc d,o,c,dn,g,enc r,enc v]:=by
 have hl:=h.few
 have c1:(0:Int) < (d.l.length:Int):=by omega
 have c2:(d.l.length:Int) < 1759218604441:=by omega
 rw [aT,anI]
 simp only [OZ,zz,aG.den,Nat.reduceLT,c1,c2,fin]
 exact ayR d h gi hgi o c dn g r v he' gi 0 (by omega) (by omega)
theorem Oe (d:D) (h:Th d) (x:Int) (hx:x < 0∨(d.l.length:Int)≤x): ∀(j i:Nat),i+j=d.l.length→L 9001 [x,enc d,(d.l.length:Int),(i:Int)]=some [0,x,enc d]
 | 0,i,hi=>by
   have c1: ¬(i:Int) < (d.l.length:Int):=by omega
   rw [aT,WV]
   by_cases c0:(i:Int)=x
   ·simp only [uP,zz,aG.den,Nat.reduceLT,c0,fin]
    have c1: ¬x < (d.l.length:Int):=by omega
    simp only [if_neg c1]
   ·simp only [uP,zz,aG.den,Nat.reduceLT,c0,c1,fin]
 | j+1,i,hi=>by
   have hl:=h.few
   have hil:i < d.l.length:=by omega
   have c1:(i:Int) < (d.l.length:Int):=by omega
   have c2: ¬((i:Int) < 0):=by omega
   have c0: ¬((i:Int)=x):=by omega
   have w:=aY (n:=i) (by omega)
   have ih:=Oe d h x hx j (i+1) (by omega)
   obtain⟨o,c,dn,g,r,v,he,_,_,_,_,hr,hv⟩:=h.wd.thing _ (List.getElem_mem hil)
   have hs:=set_self h.sh hil
   rw [he] at hs
   rw [aT,WV]
   rcases cZ hr with rfl | rfl | ⟨r1,r2⟩ <;> rcases cZ hv with rfl | rfl | ⟨v1,v2⟩
   all_goals
    simp only [uP,zz,aG.den,Nat.reduceLT,c0,c1,c2,w,bC hil,he,dR,aX,List.getElem?_cons_zero,List.getElem?_cons_succ,Tc,S9,hs,len1,len2,xM,pW]
    try simp only [r1,r2,zz]
    try simp only [v1,v2,zz]
    try simp only [fin]
    exact ih
theorem copyN (d:D) (h:Wd (.sl 7) d) (x:Int) (hx:x < 0∨(d.l.length:Int)≤x):Tot 9000 [x,enc d] (fun ys=>ys= [0,x,enc d]∨(ys= [1,x]∧d= .i 1)∨(ys= [2,x]∧d= .i 2)):=by
 refine Tot.of ?_
 rw [anI]
 rcases h.sh with rfl | rfl | ⟨h1,h2⟩
 ·simp only [OZ,zz,aG.den,Nat.reduceLT,len1,xM]
  refine .jump (Tot.of ?_)
  rw [awZ]
  simp only [ahK,zz,aG.den,Nat.reduceLT]
  exact .ite (fun _=> .out (.inr (.inl rfl))) fun _=> .out (.inr (.inl rfl))
 ·simp only [OZ,zz,aG.den,Nat.reduceLT,len2,xM,pW]
  refine .jump (Tot.of ?_)
  rw [awY]
  simp only [ahJ,zz,aG.den,Nat.reduceLT]
  exact .ite (fun _=> .out (.inr (.inr rfl))) fun _=> .out (.inr (.inr rfl))
 ·have hp:=List.length_pos_iff.2 h2
  have ht:=IV h hp
  have hl:=ht.few
  have c1:(0:Int) < (d.l.length:Int):=by omega
  have c2:(d.l.length:Int) < 1759218604441:=by omega
  simp only [OZ,zz,aG.den,Nat.reduceLT,c1,c2]
  exact .jump ⟨_,Oe d ht x hx d.l.length 0 (by omega),.inl rfl⟩
end Go.As.Try
end
section
namespace Go.As.Try
open Go hiding Stat Spec shape
open Go.As
set_option maxRecDepth 100000
def azX (d x:D) (m:Nat):List Int:=[(d.hd 0).n,enc (d.hd 1),(d.hd 2).n,enc (d.hd 3),(d.hd 4).n,(x.hd 0).n,(x.hd 1).n,(if (x.hd 2).n=0 then 0 else 1),(x.hd 3).n,enc (x.hd 4),enc (x.hd 5),(m:Int)]
def Snd (d x:D) (m:Nat):Prop:=L 500 (azX d x m)=some [1]
theorem arR (d x:D) (m:Nat) (h:(x.hd 4).l.length≤140737488351232): ∃c,L 500 (azX d x m)=some [c]∧(c=0∨c=1):=by
 obtain⟨ys,h1,c,rfl,hc⟩:=Yi (d.hd 0).n (enc (d.hd 1)) (d.hd 2).n (enc (d.hd 3)) (d.hd 4).n (x.hd 0).n (x.hd 1).n (if (x.hd 2).n=0 then 0 else 1) (x.hd 3).n (m:Int) (x.hd 4) (x.hd 5) h
 exact⟨c,h1,hc⟩
theorem aH:((1:Int)=0)=False:=by simp
def H8 (s:D):Prop:= ∀x∈s.l,(x.hd 4).l.length≤140737488351232
section
variable {d0 d1 s:D} (hr:H8 s) (hle:s.l.length=d0.l.length) (hlen:d0.l.length≤140737488351232)
include hr hle hlen
theorem LC: ∀(j i:Nat),i+j=s.l.length→∃b:Int,L 351 [enc s,(s.l.length:Int),(i:Int),enc d0,enc d1]=some [b]∧(b=0∨b=1)∧
 (b=1↔∀(k:Nat) (hk:k < s.l.length),i≤k→Snd (d0.l[k]'(hle▸hk)) s.l[k] d1.l.length)
 | 0,i,hi=>by
   have c1: ¬(i:Int) < (s.l.length:Int):=by omega
   refine⟨1,?_,.inr rfl,fun _ k hk h=>absurd hk (by omega),fun _=>rfl⟩
   rw [aT,auM]
   simp only [XO,zz,aG.den,Nat.reduceLT,c1,fin]
 | j+1,i,hi=>by
   have hil:i < s.l.length:=by omega
   have hid:i < d0.l.length:=by omega
   have c1:(i:Int) < (s.l.length:Int):=by omega
   have c2: ¬((i:Int) < 0):=by omega
   have c3:(i:Int) < (d0.l.length:Int):=by omega
   have w:=aY (n:=i) (by omega)
   obtain⟨c,hS,hc⟩:=arR d0.l[i] s.l[i] d1.l.length (hr _ (List.getElem_mem hil))
   obtain⟨b,hb1,hb2,ih⟩:=LC j (i+1) (by omega)
   have hS':=hS
   unfold azX at hS
   by_cases hc0:c=0
   ·subst hc0
    refine⟨0,?_,.inl rfl,fun h=>absurd h (by omega),fun h=>?_⟩
    ·rw [aT,auM]
     by_cases hn:((s.l[i]).hd 2).n=0
     ·rw [if_pos hn] at hS
      simp only [XO,zz,aG.den,Nat.reduceLT,c1,c2,c3,w,bC hil,bC hid,hn,hS,fin]
     ·rw [if_neg hn] at hS
      simp only [XO,zz,aG.den,Nat.reduceLT,c1,c2,c3,w,bC hil,bC hid,hn,hS,fin]
    ·have:=h i hil (Nat.le_refl i)
     unfold Snd at this
     rw [hS'] at this
     simp at this
   ·have hc1:c=1:=by omega
    subst hc1
    refine⟨b,?_,hb2,fun h k hk hik=>?_,fun h=>ih.2 fun k hk hik=>h k hk (by omega)⟩
    ·rw [aT,auM]
     by_cases hn:((s.l[i]).hd 2).n=0
     ·rw [if_pos hn] at hS
      simp only [XO,zz,aG.den,Nat.reduceLT,c1,c2,c3,w,bC hil,bC hid,hn,hS,fin,aH,hb1]
     ·rw [if_neg hn] at hS
      simp only [XO,zz,aG.den,Nat.reduceLT,c1,c2,c3,w,bC hil,bC hid,hn,hS,fin,aH,hb1]
    ·by_cases hke:k=i
     ·subst hke
      exact hS'
     ·exact ih.1 h k hk (by omega)
end
theorem yR {d0 d1 s:D} (h0:Wd (.sl 3) d0) (h1:Wd (.sl 4) d1) (hr:H8 s): ∃b:Int,L 350 [enc d0,enc d1,enc s]=some [b]∧(b=0∨b=1)∧
 (b=1↔L 450 [enc d0,enc d1]=some [0]∧∃hle:s.l.length=d0.l.length,∀(k:Nat) (hk:k < s.l.length),Snd (d0.l[k]'(hle▸hk)) s.l[k] d1.l.length):=by
 obtain⟨ys,hC,c,rfl,hc,hok⟩:=Dq h0 h1
 by_cases hc0:c=0
 ·subst hc0
  by_cases hl:s.l.length=d0.l.length
  ·have hlen:=h0.len
   obtain⟨b,hb1,hb2,hb3⟩:=LC (d1:=d1) hr hl hlen s.l.length 0 (by omega)
   refine⟨b,?_,hb2,fun h=> ⟨hC,hl,fun k hk=>hb3.1 h k hk (by omega)⟩,fun⟨_,_,h⟩=>hb3.2 fun k hk _=>h k hk⟩
   have hl':(s.l.length:Int)=(d0.l.length:Int):=by omega
   rw [aT,auN,aiC,dS,if_pos,dS,if_pos,dS,if_pos,nZ]
   ·simp only [List.map,bP,gY,iP,bH,Nat.reduceLT,aN,aO,aC,fin]
    exact hb1
   ·simp only [iL,oL,bP,gJ,iI,gY,List.map,iP,bH,Nat.reduceLT,aN,aO,aC]
    exact hl'
   ·simp only [iL,oL,bP,gJ,iI,gY,List.map,iP,bH,Nat.reduceLT,aN,aO,aC]
    rw [hC]
    simp only [aN,aO,Option.isSome_some,Option.getD_some,if_true]
   ·simp only [iL,oL,bP,gJ,iI,gY,List.map,iP,bH,Nat.reduceLT,aN,aO,aC]
    rw [hC]
    simp only [aN,aO,Option.isSome_some,Option.getD_some,if_true]
  ·refine⟨0,?_,.inl rfl,fun h=>absurd h (by omega),fun⟨_,h,_⟩=>absurd h hl⟩
   have hl': ¬(s.l.length:Int)=(d0.l.length:Int):=by omega
   rw [aT,auN,aiC,dS,if_pos,dS,if_pos,dS,if_neg]
   ·simp only [jP,List.map,bP,fin]
   ·simp only [iL,oL,bP,gJ,iI,gY,List.map,iP,bH,Nat.reduceLT,aN,aO,aC]
    exact hl'
   ·simp only [iL,oL,bP,gJ,iI,gY,List.map,iP,bH,Nat.reduceLT,aN,aO,aC]
    rw [hC]
    simp only [aN,aO,Option.isSome_some,Option.getD_some,if_true]
   ·simp only [iL,oL,bP,gJ,iI,gY,List.map,iP,bH,Nat.reduceLT,aN,aO,aC]
    rw [hC]
    simp only [aN,aO,Option.isSome_some,Option.getD_some,if_true]
 ·refine⟨0,?_,.inl rfl,fun h=>absurd h (by omega),fun⟨h,_⟩=>?_⟩
  ·rw [aT,auN,aiC,dS,if_pos,dS,if_neg]
   ·simp only [jP,List.map,bP,fin]
   ·simp only [iL,oL,bP,gJ,iI,gY,List.map,iP,bH,Nat.reduceLT,aN,aO,aC]
    rw [hC]
    simp only [aN,aO,Option.isSome_some,Option.getD_some,if_true]
    exact hc0
   ·simp only [iL,oL,bP,gJ,iI,gY,List.map,iP,bH,Nat.reduceLT,aN,aO,aC]
    rw [hC]
    simp only [aN,aO,Option.isSome_some,Option.getD_some,if_true]
  ·rw [hC] at h
   simp at h
   exact absurd h hc0
end Go.As.Try
end
section
namespace Go.As.Try
open Go hiding Stat Spec shape
open Go.As
set_option maxRecDepth 100000
def OkT (d0:D) (nl nc:Nat) (a:Int) (ll:Nat) (w o g t:Int):Prop:=
 0≤a∧a≤(nc:Int)∧(ll:Int)=(nl:Int)∧0≤t∧t≤4611686018427387904∧
  (w=0∧o=0∧g=0∨w=24∧0≤o∧o < (d0.l.length:Int)∧((d0.at o).hd 0).n=4∨w=25∧0≤o∧o < (d0.l.length:Int)∧((d0.at o).hd 0).n=5)
def isB (p:Prop) (ys:List Int):Prop:= ∃b:Int,ys= [b]∧(b=0∧¬p∨b=1∧p)
theorem MN {p:Prop} (h: ¬p):isB p [0]:=⟨0,rfl,.inl ⟨rfl,h⟩⟩
theorem alI {p:Prop} (h:p):isB p [1]:=⟨1,rfl,.inr ⟨rfl,h⟩⟩
theorem aqY (d0 d3 d4 d6:D) (x1 x2 x5 x7 x8 x9 x10:Int):Tot 1600 [enc d0,x1,x2,enc d3,enc d4,x5,enc d6,x7,x8,x9,x10] (isB (OkT d0 d3.l.length d4.l.length x5 d6.l.length x7 x8 x9 x10)):=by
 unfold OkT
 refine Tot.of ?_
 rw [ayC]
 simp only [aiN,zz,aG.den,Nat.reduceLT]
 repeat' first
  | exact .out (MN (by omega))
  | exact .out (alI (by omega))
  | refine .ite (fun _=>?_) (fun _=>?_)
def OkK (d0 x k:D):Prop:=OkT d0 (x.hd 1).l.length (x.hd 2).l.length (k.hd 0).n (k.hd 1).l.length (k.hd 2).n (k.hd 3).n (k.hd 4).n (k.hd 5).n
section
variable {d0 d1 k:D} (hle:k.l.length=d1.l.length) (hlen:d1.l.length≤140737488351232)
include hle hlen
theorem Jh: ∀(j i:Nat),i+j=k.l.length→Tot 1501 [enc k,(k.l.length:Int),(i:Int),enc d0,enc d1] (isB (∀(n:Nat) (hn:n < k.l.length),i≤n→OkK d0 (d1.l[n]'(hle▸hn)) k.l[n]))
 | 0,i,hi=>by
   have c1: ¬(i:Int) < (k.l.length:Int):=by omega
   refine Tot.of ?_
   rw [anZ]
   simp only [aaP,zz,aG.den,Nat.reduceLT,c1]
   exact .out (alI fun n hn h=>by omega)
 | j+1,i,hi=>by
   have hil:i < k.l.length:=by omega
   have hid:i < d1.l.length:=by omega
   have c1:(i:Int) < (k.l.length:Int):=by omega
   have c2: ¬((i:Int) < 0):=by omega
   have c3:(i:Int) < (d1.l.length:Int):=by omega
   have w:=aY (n:=i) (by omega)
   obtain⟨ys,hT,b,rfl,hb⟩:=aqY d0 ((d1.l[i]).hd 1) ((d1.l[i]).hd 2) ((k.l[i]).hd 1) (enc d1) (enc ((d1.l[i]).hd 0)) ((k.l[i]).hd 0).n ((k.l[i]).hd 2).n ((k.l[i]).hd 3).n ((k.l[i]).hd 4).n ((k.l[i]).hd 5).n
   obtain⟨ys,ih,b',rfl,hb'⟩:=Jh j (i+1) (by omega)
   refine Tot.of ?_
   rw [anZ]
   simp only [aaP,zz,aG.den,Nat.reduceLT,c1,c2,c3,bC hil,bC hid,w,hT]
   refine .ite (fun h0=> .out (MN fun h=>?_)) (fun h0=> .jump ⟨_,ih,b',rfl,?_⟩)
   ·rcases hb with ⟨_,hb⟩ | ⟨hb,_⟩
    ·exact hb (h i hil (Nat.le_refl _))
    ·omega
   ·rcases hb with ⟨hb,_⟩ | ⟨_,hb⟩
    ·exact absurd hb h0
    ·rcases hb' with ⟨q,hb'⟩ | ⟨q,hb'⟩
     ·exact .inl ⟨q,fun h=>hb' fun n hn hni=>h n hn (by omega)⟩
     ·refine .inr ⟨q,fun n hn hni=>?_⟩
      by_cases he:n=i
      ·subst he; exact hb
      ·exact hb' n hn (by omega)
end
def MR (d0 d1 s k:D):Prop:=L 350 [enc d0,enc d1,enc s]=some [1]∧∃hle:k.l.length=d1.l.length,∀(n:Nat) (hn:n < k.l.length),OkK d0 (d1.l[n]'(hle▸hn)) k.l[n]
theorem aeW {d0 d1 s k:D} (h0:Wd (.sl 3) d0) (h1:Wd (.sl 4) d1) (hr:H8 s) (hlen:d1.l.length≤140737488351232):Tot 1500 [enc d0,enc d1,enc s,enc k] (isB (MR d0 d1 s k)):=by
 obtain⟨b,hb,hb1,_⟩:=yR h0 h1 hr
 refine Tot.of ?_
 rw [ayE]
 simp only [aiP,zz,aG.den,Nat.reduceLT,hb]
 refine .ite (fun h=> .out (MN fun q=>?_)) (fun h=> .ite (fun hl=>?_) (fun hl=> .out (MN fun q=>?_)))
 ·have:=q.1
  rw [hb] at this
  simp at this
  omega
 ·have hle:k.l.length=d1.l.length:=by omega
  obtain⟨ys,hL,b',rfl,hb'⟩:=Jh (d0:=d0) hle hlen k.l.length 0 (by omega)
  refine .jump ⟨_,hL,b',rfl,?_⟩
  have hone:b=1:=by omega
  subst hone
  rcases hb' with ⟨q,hb'⟩ | ⟨q,hb'⟩
  ·exact .inl ⟨q,fun h=>hb' fun n hn _=>h.2.2 n hn⟩
  ·exact .inr ⟨q,hb,hle,fun n hn=>hb' n hn (Nat.zero_le _)⟩
 ·have:=q.2.1
  omega
theorem ajP {d0 d1 s k:D} (h0:Wd (.sl 3) d0) (h1:Wd (.sl 4) d1) (hr:H8 s) (hlen:d1.l.length≤140737488351232) (t:Int):Tot 1550 [enc d0,enc d1,enc s,enc k,t] (isB (0≤t∧t < (d1.l.length:Int)∧MR d0 d1 s k)):=by
 obtain⟨ys,hM,b,rfl,hb⟩:=aeW h0 h1 hr hlen (k:=k)
 refine Tot.of ?_
 rw [ayD]
 simp only [aiO,zz,aG.den,Nat.reduceLT,hM]
 refine .ite (fun h=> .out (MN fun q=>by omega)) (fun h=> .ite (fun h2=> .ite (fun h3=> .out (MN fun q=>?_)) (fun h3=> .out (alI ?_))) (fun h2=> .out (MN fun q=>by omega)))
 ·rcases hb with ⟨_,hb⟩ | ⟨hb,_⟩
  ·exact hb q.2.2
  ·omega
 ·rcases hb with ⟨hb,_⟩ | ⟨_,hb⟩
  ·exact absurd hb h3
  ·exact⟨by omega,h2,hb⟩
end Go.As.Try
end
section
namespace Go.As.Try
open Go hiding Stat Spec shape
open Go.As
set_option maxRecDepth 100000
def firstAt (t:Int):List D→Nat→Int
 | [],_=> -1
 | x :: l,i=>if x.n=t then (i:Int) else firstAt t l (i+1)
def place (r:D) (t:Int):Int:=firstAt t r.l 0
def wo (t:Int) (l:List D):List D:=l.filter fun x=>decide (x.n≠t)
theorem DV (t:Int): ∀(l:List D) (i:Nat),(firstAt t l i= -1∧∀x∈l,x.n≠t)∨∃(k:Nat) (h:k < l.length),firstAt t l i=((i+k:Nat):Int)∧(l[k]).n=t∧∀x∈l.take k,x.n≠t
 | [],_=> .inl ⟨rfl,fun x h=>absurd h (by simp)⟩
 | x :: l,i=>by
   unfold firstAt
   by_cases hx:x.n=t
   ·rw [if_pos hx]
    exact .inr ⟨0,by simp,by simp,hx,by simp⟩
   ·rw [if_neg hx]
    rcases DV t l (i+1) with ⟨h1,h2⟩ | ⟨k,hk,h1,h2,h3⟩
    ·exact .inl ⟨h1,fun y hy=>by rcases List.mem_cons.1 hy with rfl | hy; exact hx; exact h2 y hy⟩
    ·refine .inr ⟨k+1,by simp; omega,by rw [h1]; congr 1; omega,by simpa using h2,fun y hy=>?_⟩
     rw [List.take_succ_cons] at hy
     rcases List.mem_cons.1 hy with rfl | hy
     ·exact hx
     ·exact h3 y hy
theorem vT (r:D) (t:Int):(place r t= -1∧∀x∈r.l,x.n≠t)∨∃(k:Nat) (h:k < r.l.length),place r t=(k:Int)∧(r.l[k]).n=t∧∀x∈r.l.take k,x.n≠t:=by
 have:=DV t r.l 0
 simp only [Nat.zero_add] at this
 exact this
theorem iV (r:D) (t:Int): -1≤place r t∧place r t < (r.l.length:Int):=by
 rcases vT r t with ⟨h,_⟩ | ⟨k,hk,h,_⟩ <;> rw [h] <;> omega
theorem JM {t:Int} {l:List D} (h: ∀x∈l,x.n≠t):wo t l=l:=List.filter_eq_self.2 fun x hx=>by simpa using h x hx
theorem zK {r:D} {t:Int} {i:Nat} (h:i < r.l.length):firstAt t (r.l.drop i) i=if (r.at (i:Int)).n=t then (i:Int) else firstAt t (r.l.drop (i+1)) (i+1):=by
 rw [List.drop_eq_getElem_cons h,bC h]
 rfl
theorem alL (r:D) (t:Int) (hl:r.l.length≤140737488351232): ∀(j i:Nat),i+j=r.l.length→L 851 [enc r,t,(r.l.length:Int),(i:Int)]=some [firstAt t (r.l.drop i) i]
 | 0,i,hi=>by
   have c1: ¬(i:Int) < (r.l.length:Int):=by omega
   rw [List.drop_of_length_le (by omega),aT,aBQ]
   simp only [ahL,zz,aG.den,Nat.reduceLT,c1,fin,firstAt]
 | j+1,i,hi=>by
   have c1:(i:Int) < (r.l.length:Int):=by omega
   have c2: ¬((i:Int) < 0):=by omega
   have w:=aY (n:=i) (by omega)
   have ih:=alL r t hl j (i+1) (by omega)
   rw [zK (by omega),aT,aBQ]
   by_cases he:(r.at (i:Int)).n=t
   ·simp only [ahL,zz,aG.den,Nat.reduceLT,c1,c2,he,fin]
   ·have he': ¬t=(r.at (i:Int)).n:=fun h=>he h.symm
    simp only [ahL,zz,aG.den,Nat.reduceLT,c1,c2,if_neg he,if_neg he',w,fin,ih]
theorem dM (r:D) (t:Int) (hl:r.l.length≤140737488351232):L 850 [enc r,t]=some [place r t]:=by
 have h:=alL r t hl r.l.length 0 (by omega)
 rw [aT,aEf]
 simp only [azO,zz,aG.den,Nat.reduceLT,fin]
 exact h
theorem has_is (r:D) (t:Int) (hl:r.l.length≤140737488351232):L 900 [enc r,t]=some [if place r t < 0 then 0 else 1]:=by
 rw [aT,aEe]
 simp only [azN,zz,aG.den,Nat.reduceLT,dM r t hl]
 split <;> rfl
theorem FQ (r:D) (t:Int) (hl:r.l.length≤140737488351232) (y2 y3 y4 y5 y6 y7 y8 y9 qE qC qB:Int): ∀(j i:Nat),i+j=r.l.length→
 L 12051 [enc r,t,y2,y3,y4,y5,y6,y7,y8,y9,qE,qC,qB,(r.l.length:Int),(i:Int)]=some [0,enc r,t,y2,y3,y4,y5,y6,y7,y8,y9,qE,qC,qB,firstAt t (r.l.drop i) i]
 | 0,i,hi=>by
   have c1: ¬(i:Int) < (r.l.length:Int):=by omega
   rw [List.drop_of_length_le (by omega),aT,Zq]
   simp only [KU,zz,aG.den,Nat.reduceLT,c1,fin,firstAt]
 | j+1,i,hi=>by
   have c1:(i:Int) < (r.l.length:Int):=by omega
   have c2: ¬((i:Int) < 0):=by omega
   have w:=aY (n:=i) (by omega)
   have ih:=FQ r t hl y2 y3 y4 y5 y6 y7 y8 y9 qE qC qB j (i+1) (by omega)
   rw [zK (by omega),aT,Zq]
   by_cases he:(r.at (i:Int)).n=t
   ·simp only [KU,zz,aG.den,Nat.reduceLT,c1,c2,he,fin]
   ·simp only [KU,zz,aG.den,Nat.reduceLT,c1,c2,if_neg he,w,fin,ih]
theorem asV (r:D) (t:Int) (hl:r.l.length≤140737488351232) (y2 y3 y4 y5 y6 y7 y8 y9 qE qC qB:Int):L 12050 [enc r,t,y2,y3,y4,y5,y6,y7,y8,y9,qE,qC,qB]=some [0,enc r,t,y2,y3,y4,y5,y6,y7,y8,y9,qE,qC,qB,place r t]:=by
 have h:=FQ r t hl y2 y3 y4 y5 y6 y7 y8 y9 qE qC qB r.l.length 0 (by omega)
 rw [aT,apB]
 simp only [X9,zz,aG.den,Nat.reduceLT,fin]
 exact h
theorem FP (r:D) (t:Int) (hl:r.l.length≤140737488351232) (y2 y3 y4 y5 y6 y7 y8 y9 qE qC qB:Int): ∀(j i:Nat),i+j=r.l.length→
 L 12151 [enc r,t,y2,y3,y4,y5,y6,y7,y8,y9,qE,qC,qB,(r.l.length:Int),(i:Int)]=some [0,enc r,t,y2,y3,y4,y5,y6,y7,y8,y9,qE,qC,qB,firstAt t (r.l.drop i) i]
 | 0,i,hi=>by
   have c1: ¬(i:Int) < (r.l.length:Int):=by omega
   rw [List.drop_of_length_le (by omega),aT,Zo]
   simp only [KQ,zz,aG.den,Nat.reduceLT,c1,fin,firstAt]
 | j+1,i,hi=>by
   have c1:(i:Int) < (r.l.length:Int):=by omega
   have c2: ¬((i:Int) < 0):=by omega
   have w:=aY (n:=i) (by omega)
   have ih:=FP r t hl y2 y3 y4 y5 y6 y7 y8 y9 qE qC qB j (i+1) (by omega)
   rw [zK (by omega),aT,Zo]
   by_cases he:(r.at (i:Int)).n=t
   ·simp only [KQ,zz,aG.den,Nat.reduceLT,c1,c2,he,fin]
   ·simp only [KQ,zz,aG.den,Nat.reduceLT,c1,c2,if_neg he,w,fin,ih]
theorem asU (r:D) (t:Int) (hl:r.l.length≤140737488351232) (y2 y3 y4 y5 y6 y7 y8 y9 qE qC qB:Int):L 12150 [enc r,t,y2,y3,y4,y5,y6,y7,y8,y9,qE,qC,qB]=some [0,enc r,t,y2,y3,y4,y5,y6,y7,y8,y9,qE,qC,qB,place r t]:=by
 have h:=FP r t hl y2 y3 y4 y5 y6 y7 y8 y9 qE qC qB r.l.length 0 (by omega)
 rw [aT,apA]
 simp only [X8,zz,aG.den,Nat.reduceLT,fin]
 exact h
theorem Cb {t:Int} {l:List D} {j:Nat} (h:j < l.length):wo t (l.take (j+1))=if (l[j]).n=t then wo t (l.take j) else wo t (l.take j)++ [l[j]]:=by
 unfold wo
 rw [List.take_succ_eq_append_getElem h,List.filter_append]
 by_cases he:(l[j]).n=t
 ·simp [he]
 ·simp [he]
theorem agS (t:Int) (l:List D):(wo t l).length≤l.length:=List.length_filter_le _ _
theorem zV (r0:D) (t:Int) (l0:List D) (hl:l0.length≤140737488351232) (hn: ∀x∈l0,x= .i x.n) (y2 y3 y4 y5 y6 y7 y8 y9 qE qC qB:Int): ∀(m i j:Nat) (r:D),r.l.length=l0.length→i < j→j+m=l0.length→r.l.drop j=l0.drop j→r.l.take i=wo t (l0.take j)→
 ∃(n:Nat) (r':D),n < l0.length∧r'.l.length=l0.length∧r'.l.take n=wo t l0∧L 12001 [enc r0,t,y2,y3,y4,y5,y6,y7,y8,y9,qE,qC,qB,enc r,(i:Int),(j:Int)]=some [1,enc r0,t,y2,y3,y4,y5,y6,y7,y8,y9,qE,qC,qB,(n:Int),enc r',(l0.length:Int)]
 | 0,i,j,r,hr,h1,h2,h3,h4=>by
   have c1: ¬(j:Int) < (l0.length:Int):=by omega
   have c2: ¬((i:Int) < 0):=by omega
   have c3: ¬((l0.length:Int) < (i:Int)):=by omega
   have c4: ¬((l0.length:Int) - (i:Int) < 0):=by omega
   have c5:(i:Int)+((l0.length:Int) - (i:Int))=(l0.length:Int):=by omega
   refine⟨i,dL (r.l.take i++List.replicate (r.l.length - i) (.i 0)),by omega,by rw [aX]; simp only [List.length_append,List.length_take,List.length_replicate]; omega,?_,?_⟩
   ·rw [aX,List.take_append_of_le_length (by rw [List.length_take]; omega),List.take_take,Nat.min_self,h4,List.take_of_length_le (by omega)]
   ·rw [aT,UH]
    simp only [KW,zz,aG.den,Nat.reduceLT,c1,c2,c3,c4,c5,Int.toNat_natCast,fin,hr]
 | m+1,i,j,r,hr,h1,h2,h3,h4=>by
   have c1:(j:Int) < (l0.length:Int):=by omega
   have c2: ¬((j:Int) < 0):=by omega
   have w:=aY (n:=j) (by omega)
   have hj:j < r.l.length:=by omega
   have hj0:j < l0.length:=by omega
   have hx:r.at (j:Int)=l0[j]:=by
    rw [bC hj]
    rw [List.drop_eq_getElem_cons hj,List.drop_eq_getElem_cons hj0] at h3
    exact (List.cons.inj h3).1
   have h3':r.l.drop (j+1)=l0.drop (j+1):=by
    rw [List.drop_eq_getElem_cons hj,List.drop_eq_getElem_cons hj0] at h3
    exact (List.cons.inj h3).2
   by_cases he:(r.at (j:Int)).n=t
   ·obtain⟨n,r',q1,q2,q3,ih⟩:=zV r0 t l0 hl hn y2 y3 y4 y5 y6 y7 y8 y9 qE qC qB m i (j+1) r hr (by omega) (by omega) h3' (by rw [Cb hj0,← hx,if_pos he,h4])
    refine⟨n,r',q1,q2,q3,?_⟩
    rw [aT,UH]
    simp only [KW,zz,aG.den,Nat.reduceLT,c1,c2,he,w,hr,fin,ih]
   ·have c3: ¬((i:Int) < 0):=by omega
    have c4:(i:Int) < (l0.length:Int):=by omega
    have w2:=aY (n:=i) (by omega)
    have hs:iK r.l (i:Int) (.i (r.at (j:Int)).n)=r.l.set i l0[j]:=by rw [AQ,hx,← hn _ (List.getElem_mem hj0)]
    obtain⟨n,r',q1,q2,q3,ih⟩:=zV r0 t l0 hl hn y2 y3 y4 y5 y6 y7 y8 y9 qE qC qB m (i+1) (j+1) (dL (iK r.l (i:Int) (.i (r.at (j:Int)).n))) (by rw [aX,iY,hr]) (by omega) (by omega)
     (by rw [aX,hs,List.drop_set_of_lt (by omega),h3'])
     (by rw [aX,hs,List.take_succ_eq_append_getElem (by rw [List.length_set]; omega),List.take_set_of_le (Nat.le_refl _),List.getElem_set_self,h4,Cb hj0,← hx,if_neg he])
    refine⟨n,r',q1,q2,q3,?_⟩
    rw [aT,UH]
    simp only [KW,zz,aG.den,Nat.reduceLT,c1,c2,c3,c4,if_neg he,w,w2,hr,fin,ih]
theorem auZ (r:D) (t:Int) (hl:r.l.length≤140737488351232) (hn: ∀x∈r.l,x= .i x.n):(wo t r.l=r.l∧∀y2 y3 y4 y5 y6 y7 y8 y9 qE qC qB:Int,L 12000 [enc r,t,y2,y3,y4,y5,y6,y7,y8,y9,qE,qC,qB]=some [0,enc r,t,y2,y3,y4,y5,y6,y7,y8,y9,qE,qC,qB])∨
 ∀y2 y3 y4 y5 y6 y7 y8 y9 qE qC qB:Int,∃(n:Nat) (r':D),n < r.l.length∧r'.l.length=r.l.length∧r'.l.take n=wo t r.l∧L 12000 [enc r,t,y2,y3,y4,y5,y6,y7,y8,y9,qE,qC,qB]=some [1,enc r,t,y2,y3,y4,y5,y6,y7,y8,y9,qE,qC,qB,(n:Int),enc r',(r.l.length:Int)]:=by
 have h:=asV r t hl
 rcases vT r t with ⟨hp,hno⟩ | ⟨i,hi,hp,hat,hno⟩
 ·refine .inl ⟨JM hno,fun y2 y3 y4 y5 y6 y7 y8 y9 qE qC qB=>?_⟩
  have h':=h y2 y3 y4 y5 y6 y7 y8 y9 qE qC qB
  clear h
  rw [hp] at h'
  rw [aT,Zr,SS,dS,if_pos,dS,if_pos,dS,if_pos]
  ·simp only [jP,List.map,bP,bH,aN,aO,Nat.reduceLT,fin]
  ·simp only [Qm3,iL,bP,gJ,iI,List.map,bH,Nat.reduceLT,aN,aO]
   rw [h']
   simp only [aN,aO,Option.isSome_some,Option.getD_some,if_true]
  ·simp only [iL,bP,gJ,iI,List.map,bH,Nat.reduceLT,aN,aO]
   rw [h']
   simp only [aN,aO,Option.isSome_some,Option.getD_some,if_true]
  ·simp only [iL,bP,gJ,iI,List.map,bH,Nat.reduceLT,aN,aO]
   rw [h']
   simp only [aN,aO,Option.isSome_some,Option.getD_some,if_true]
 ·refine .inr fun y2 y3 y4 y5 y6 y7 y8 y9 qE qC qB=>?_
  have h':=h y2 y3 y4 y5 y6 y7 y8 y9 qE qC qB
  clear h
  rw [hp] at h'
  have w:=aY (n:=i) (by omega)
  have h0:r.l.take i=wo t (r.l.take (i+1)):=by rw [Cb hi,if_pos hat,JM hno]
  obtain⟨n,r',q1,q2,q3,ih⟩:=zV r t r.l hl hn y2 y3 y4 y5 y6 y7 y8 y9 qE qC qB (r.l.length - (i+1)) i (i+1) r rfl (by omega) (by omega) rfl h0
  refine⟨n,r',q1,q2,q3,?_⟩
  rw [aT,Zr,SS,dS,if_pos,dS,if_pos,dS,if_neg]
  ·simp only [nZ,List.map,Qm3,bP,gJ,BK,den_add,bH,aN,aO,Nat.reduceLT]
   rw [h']
   simp only [aN,aO,Option.getD_some,w,fin]
   rw [ih]
  ·simp only [Qm3,iL,bP,gJ,iI,List.map,bH,Nat.reduceLT,aN,aO]
   rw [h']
   simp only [aN,aO,Option.isSome_some,Option.getD_some,if_true]
   omega
  ·simp only [iL,bP,gJ,iI,List.map,bH,Nat.reduceLT,aN,aO]
   rw [h']
   simp only [aN,aO,Option.isSome_some,Option.getD_some,if_true]
  ·simp only [iL,bP,gJ,iI,List.map,bH,Nat.reduceLT,aN,aO]
   rw [h']
   simp only [aN,aO,Option.isSome_some,Option.getD_some,if_true]
theorem zT (r0:D) (t:Int) (l0:List D) (hl:l0.length≤140737488351232) (hn: ∀x∈l0,x= .i x.n) (y2 y3 y4 y5 y6 y7 y8 y9 qE qC qB:Int): ∀(m i j:Nat) (r:D),r.l.length=l0.length→i < j→j+m=l0.length→r.l.drop j=l0.drop j→r.l.take i=wo t (l0.take j)→
 ∃(n:Nat) (r':D),n < l0.length∧r'.l.length=l0.length∧r'.l.take n=wo t l0∧L 12101 [enc r0,t,y2,y3,y4,y5,y6,y7,y8,y9,qE,qC,qB,enc r,(i:Int),(j:Int)]=some [1,enc r0,t,y2,y3,y4,y5,y6,y7,y8,y9,qE,qC,qB,(n:Int),enc r',(l0.length:Int)]
 | 0,i,j,r,hr,h1,h2,h3,h4=>by
   have c1: ¬(j:Int) < (l0.length:Int):=by omega
   have c2: ¬((i:Int) < 0):=by omega
   have c3: ¬((l0.length:Int) < (i:Int)):=by omega
   have c4: ¬((l0.length:Int) - (i:Int) < 0):=by omega
   have c5:(i:Int)+((l0.length:Int) - (i:Int))=(l0.length:Int):=by omega
   refine⟨i,dL (r.l.take i++List.replicate (r.l.length - i) (.i 0)),by omega,by rw [aX]; simp only [List.length_append,List.length_take,List.length_replicate]; omega,?_,?_⟩
   ·rw [aX,List.take_append_of_le_length (by rw [List.length_take]; omega),List.take_take,Nat.min_self,h4,List.take_of_length_le (by omega)]
   ·rw [aT,UG]
    simp only [KR,zz,aG.den,Nat.reduceLT,c1,c2,c3,c4,c5,Int.toNat_natCast,fin,hr]
 | m+1,i,j,r,hr,h1,h2,h3,h4=>by
   have c1:(j:Int) < (l0.length:Int):=by omega
   have c2: ¬((j:Int) < 0):=by omega
   have w:=aY (n:=j) (by omega)
   have hj:j < r.l.length:=by omega
   have hj0:j < l0.length:=by omega
   have hx:r.at (j:Int)=l0[j]:=by
    rw [bC hj]
    rw [List.drop_eq_getElem_cons hj,List.drop_eq_getElem_cons hj0] at h3
    exact (List.cons.inj h3).1
   have h3':r.l.drop (j+1)=l0.drop (j+1):=by
    rw [List.drop_eq_getElem_cons hj,List.drop_eq_getElem_cons hj0] at h3
    exact (List.cons.inj h3).2
   by_cases he:(r.at (j:Int)).n=t
   ·obtain⟨n,r',q1,q2,q3,ih⟩:=zT r0 t l0 hl hn y2 y3 y4 y5 y6 y7 y8 y9 qE qC qB m i (j+1) r hr (by omega) (by omega) h3' (by rw [Cb hj0,← hx,if_pos he,h4])
    refine⟨n,r',q1,q2,q3,?_⟩
    rw [aT,UG]
    simp only [KR,zz,aG.den,Nat.reduceLT,c1,c2,he,w,hr,fin,ih]
   ·have c3: ¬((i:Int) < 0):=by omega
    have c4:(i:Int) < (l0.length:Int):=by omega
    have w2:=aY (n:=i) (by omega)
    have hs:iK r.l (i:Int) (.i (r.at (j:Int)).n)=r.l.set i l0[j]:=by rw [AQ,hx,← hn _ (List.getElem_mem hj0)]
    obtain⟨n,r',q1,q2,q3,ih⟩:=zT r0 t l0 hl hn y2 y3 y4 y5 y6 y7 y8 y9 qE qC qB m (i+1) (j+1) (dL (iK r.l (i:Int) (.i (r.at (j:Int)).n))) (by rw [aX,iY,hr]) (by omega) (by omega)
     (by rw [aX,hs,List.drop_set_of_lt (by omega),h3'])
     (by rw [aX,hs,List.take_succ_eq_append_getElem (by rw [List.length_set]; omega),List.take_set_of_le (Nat.le_refl _),List.getElem_set_self,h4,Cb hj0,← hx,if_neg he])
    refine⟨n,r',q1,q2,q3,?_⟩
    rw [aT,UG]
    simp only [KR,zz,aG.den,Nat.reduceLT,c1,c2,c3,c4,if_neg he,w,w2,hr,fin,ih]
theorem auY (r:D) (t:Int) (hl:r.l.length≤140737488351232) (hn: ∀x∈r.l,x= .i x.n):(wo t r.l=r.l∧∀y2 y3 y4 y5 y6 y7 y8 y9 qE qC qB:Int,L 12100 [enc r,t,y2,y3,y4,y5,y6,y7,y8,y9,qE,qC,qB]=some [0,enc r,t,y2,y3,y4,y5,y6,y7,y8,y9,qE,qC,qB])∨
 ∀y2 y3 y4 y5 y6 y7 y8 y9 qE qC qB:Int,∃(n:Nat) (r':D),n < r.l.length∧r'.l.length=r.l.length∧r'.l.take n=wo t r.l∧L 12100 [enc r,t,y2,y3,y4,y5,y6,y7,y8,y9,qE,qC,qB]=some [1,enc r,t,y2,y3,y4,y5,y6,y7,y8,y9,qE,qC,qB,(n:Int),enc r',(r.l.length:Int)]:=by
 have h:=asU r t hl
 rcases vT r t with ⟨hp,hno⟩ | ⟨i,hi,hp,hat,hno⟩
 ·refine .inl ⟨JM hno,fun y2 y3 y4 y5 y6 y7 y8 y9 qE qC qB=>?_⟩
  have h':=h y2 y3 y4 y5 y6 y7 y8 y9 qE qC qB
  clear h
  rw [hp] at h'
  rw [aT,Zp,SQ,dS,if_pos,dS,if_pos,dS,if_pos]
  ·simp only [jP,List.map,bP,bH,aN,aO,Nat.reduceLT,fin]
  ·simp only [Qnf,iL,bP,gJ,iI,List.map,bH,Nat.reduceLT,aN,aO]
   rw [h']
   simp only [aN,aO,Option.isSome_some,Option.getD_some,if_true]
  ·simp only [iL,bP,gJ,iI,List.map,bH,Nat.reduceLT,aN,aO]
   rw [h']
   simp only [aN,aO,Option.isSome_some,Option.getD_some,if_true]
  ·simp only [iL,bP,gJ,iI,List.map,bH,Nat.reduceLT,aN,aO]
   rw [h']
   simp only [aN,aO,Option.isSome_some,Option.getD_some,if_true]
 ·refine .inr fun y2 y3 y4 y5 y6 y7 y8 y9 qE qC qB=>?_
  have h':=h y2 y3 y4 y5 y6 y7 y8 y9 qE qC qB
  clear h
  rw [hp] at h'
  have w:=aY (n:=i) (by omega)
  have h0:r.l.take i=wo t (r.l.take (i+1)):=by rw [Cb hi,if_pos hat,JM hno]
  obtain⟨n,r',q1,q2,q3,ih⟩:=zT r t r.l hl hn y2 y3 y4 y5 y6 y7 y8 y9 qE qC qB (r.l.length - (i+1)) i (i+1) r rfl (by omega) (by omega) rfl h0
  refine⟨n,r',q1,q2,q3,?_⟩
  rw [aT,Zp,SQ,dS,if_pos,dS,if_pos,dS,if_neg]
  ·simp only [nZ,List.map,Qnf,bP,gJ,BK,den_add,bH,aN,aO,Nat.reduceLT]
   rw [h']
   simp only [aN,aO,Option.getD_some,w,fin]
   rw [ih]
  ·simp only [Qnf,iL,bP,gJ,iI,List.map,bH,Nat.reduceLT,aN,aO]
   rw [h']
   simp only [aN,aO,Option.isSome_some,Option.getD_some,if_true]
   omega
  ·simp only [iL,bP,gJ,iI,List.map,bH,Nat.reduceLT,aN,aO]
   rw [h']
   simp only [aN,aO,Option.isSome_some,Option.getD_some,if_true]
  ·simp only [iL,bP,gJ,iI,List.map,bH,Nat.reduceLT,aN,aO]
   rw [h']
   simp only [aN,aO,Option.isSome_some,Option.getD_some,if_true]
theorem auX (r:D) (t:Int): ∀y2 y3 y4 y5 y6 y7 y8 y9 qE qC qB:Int,L 12200 [enc r,t,y2,y3,y4,y5,y6,y7,y8,y9,qE,qC,qB]=some [0,enc r,t,y2,y3,y4,y5,y6,y7,y8,y9,qE,qC,qB]:=by
 intro y2 y3 y4 y5 y6 y7 y8 y9 qE qC qB
 have h:L 12250 [enc r,t,y2,y3,y4,y5,y6,y7,y8,y9,qE,qC,qB]=some [0,enc r,t,y2,y3,y4,y5,y6,y7,y8,y9,qE,qC,qB]:=by
  rw [aT,aoY]
  simp only [X6,zz,aG.den,Nat.reduceLT,fin]
  rw [aT,aoX]
  simp only [X5,zz,aG.den,Nat.reduceLT,fin]
 have h':=h
 clear h
 rw [aT,aoZ,X7,dS,if_pos,dS,if_pos]
 ·simp only [jP,List.map,bP,bH,aN,aO,Nat.reduceLT,fin]
 ·simp only [iL,bP,gJ,iI,List.map,bH,Nat.reduceLT,aN,aO]
  rw [h']
  simp only [aN,aO,Option.isSome_some,Option.getD_some,if_true]
 ·simp only [iL,bP,gJ,iI,List.map,bH,Nat.reduceLT,aN,aO]
  rw [h']
  simp only [aN,aO,Option.isSome_some,Option.getD_some,if_true]
theorem auW (r:D) (t:Int): ∀y2 y3 y4 y5 y6 y7 y8 y9 qE qC qB:Int,L 12300 [enc r,t,y2,y3,y4,y5,y6,y7,y8,y9,qE,qC,qB]=some [0,enc r,t,y2,y3,y4,y5,y6,y7,y8,y9,qE,qC,qB]:=by
 intro y2 y3 y4 y5 y6 y7 y8 y9 qE qC qB
 have h:L 12350 [enc r,t,y2,y3,y4,y5,y6,y7,y8,y9,qE,qC,qB]=some [0,enc r,t,y2,y3,y4,y5,y6,y7,y8,y9,qE,qC,qB]:=by
  rw [aT,aoV]
  simp only [X3,zz,aG.den,Nat.reduceLT,fin]
  rw [aT,aoU]
  simp only [X0,zz,aG.den,Nat.reduceLT,fin]
 have h':=h
 clear h
 rw [aT,aoW,X4,dS,if_pos,dS,if_pos]
 ·simp only [jP,List.map,bP,bH,aN,aO,Nat.reduceLT,fin]
 ·simp only [iL,bP,gJ,iI,List.map,bH,Nat.reduceLT,aN,aO]
  rw [h']
  simp only [aN,aO,Option.isSome_some,Option.getD_some,if_true]
 ·simp only [iL,bP,gJ,iI,List.map,bH,Nat.reduceLT,aN,aO]
  rw [h']
  simp only [aN,aO,Option.isSome_some,Option.getD_some,if_true]
end Go.As.Try
end
section
namespace Go.As.Try
open Go hiding Stat Spec shape
open Go.As
set_option maxRecDepth 100000
abbrev Mx (d0:D) (obj:Int):Int:=((d0.at obj).hd 2).n
abbrev Mo (d0 s:D) (obj:Int):Int:=((s.at ((d0.at obj).hd 2).n).hd 0).n
inductive Act where
 | blk
 | mis
 | res (o c dn g:Int) (r v:D) (m:Option Int) (a oc:Int)
def act (M mo th op arg tries o c dn g:Int) (r v:D):Act:=
 if op=1 then (if o=th then .mis else if place r th < 0 then (if o < 0 then .res th c dn g r v none 0 2 else .blk) else .mis)
 else if op=2 then (if o=th then .res (-1) c dn g r v none 0 2 else .mis)
 else if op=8 then (if o=th then .res (-1) c dn g r v none 0 2 else .mis)
 else if op=3 then (if o < 0 then .res th c dn g r v none 1 2 else .res o c dn g r v none 0 2)
 else if op=4 then (if o < 0 then .res th c dn g r v none 1 2 else if tries < arg then .blk else .res o c dn g r v none 0 2)
 else if op=5 then (if o=th then .mis else if place r th < 0 then (if o < 0 then .res o c dn g (dL (r.l++ [.i th])) v none 0 2 else .blk) else .mis)
 else if op=6 then (if place r th < 0 then .mis else .res o c dn g (iM (.i 2) (r.l.take (place r th).toNat++r.l.drop ((place r th).toNat+1))) v none 0 2)
 else if op=7 then (if o=th then .mis else if place r th < 0 then (if (r.l.length:Int)=0 then (if o < 0 then .res th c dn g r v none 0 2 else .blk) else .blk) else .mis)
 else if op=9 then (if 0 < c then .res o (IntKind.i64.wrap (c - 1)) dn g r v none 0 2 else .blk)
 else if op=11 then (if 0 < c then .res o (IntKind.i64.wrap (c - 1)) dn g r v none 1 2 else .res o c dn g r v none 0 2)
 else if op=10 then (if c < M then .res o (IntKind.i64.wrap (c+1)) dn g r v none 0 2 else .mis)
 else if op=17 then (if arg < IntKind.i64.wrap (0 - c) then .mis else if IntKind.i64.wrap (1099511627776 - c) < arg then .mis else .res o (IntKind.i64.wrap (c+arg)) dn g r v none (IntKind.i64.wrap (c+arg)) 2)
 else if op=18 then (if 0 < c then .res o (IntKind.i64.wrap (c - 1)) dn g r v none (IntKind.i64.wrap (c - 1)) 2 else .mis)
 else if op=19 then (if c=0 then .res o c dn g r v none 0 2 else .blk)
 else if op=22 then .res o c dn g r v none c 2
 else if op=23 then .res o arg dn g r v none arg 2
 else if op=20 then (if (v.l.length:Int) < M then .res o c dn g r (dL (v.l++ [.i arg])) none arg 2 else .blk)
 else if op=21 then (if (v.l.length:Int)=0 then .blk else .res o c dn g r (iM v (v.l.drop 1)) none (v.at 0).n 2)
 else if op=12 then (if mo=th then .res o c dn g (dL (wo th r.l++ [.i th])) v (some (-1)) 0 3 else .mis)
 else if op=13 then (if (r.l.length:Int)=0 then .res o c dn g r v none 0 2 else .res o c dn g (iM r (r.l.drop 1)) v none (IntKind.i64.wrap ((r.at 0).n+1)) 2)
 else if op=14 then .res o c dn g (.i 1) v none (r.l.length:Int) 2
 else if op=24 then (if place r th < 0 then (if mo < 0 then .res o c dn g r v (some th) 0 2 else .blk) else .blk)
 else if op=15 then (if g < 4611686018427387904 then (if IntKind.i64.wrap (c+1)=M then .res o 0 dn (IntKind.i64.wrap (g+1)) r v none g 3 else .res o (IntKind.i64.wrap (c+1)) dn g r v none g 3) else .mis)
 else if op=25 then (if arg < g then .res o c dn g r v none arg 2 else .blk)
 else if op=16 then (if dn=0 then (if o=th then .mis else if o < 0 then .res th c dn g r v none 1 2 else .blk) else .res o c dn g r v none 0 2)
 else (if o=th then .res (-1) c 1 g r v none 0 2 else .mis)
def aeJ (s:D) (obj M:Int):Act→D
 | .res o c dn g r v m _ _=>dL (iK (match m with | none=>s.l | some q=>iK s.l M (dL (iK (s.at M).l 0 (.i q)))) obj (dL [.i o,.i c,.i (if dn=0 then 0 else 1),.i g,r,v]))
 | _=>s
def outA (s:D) (th op obj M:Int):Act→List Int
 | .blk=>[enc s,0,0,0,0,0,0]
 | .mis=>[enc s,th,27,obj,IntKind.i64.wrap op,0,2]
 | .res o c dn g r v m a oc=>[enc (aeJ s obj M (.res o c dn g r v m a oc)),th,op,obj,a,0,oc]
structure TH (d0 d1 s:D) (th op obj arg tries o c dn g:Int) (r v:D):Prop where
 hcp:L 9000 [obj,enc s]=some [oO r v,obj,enc s,o,c,dn,g,enc r,enc v]
 jA:L 550 [enc s]=some [enc s]
 hR:L 350 [enc d0,enc d1,enc s]=some [1]
 FX:0≤th
 FW:th < (d1.l.length:Int)
 Bv:0≤obj
 Bq:obj < (s.l.length:Int)
 hlen:s.l.length=d0.l.length
 hk:L 600 [op]=some [((d0.at obj).hd 0).n]
 hr:(r.l.length:Int) < 17592186044415
 hv:(v.l.length:Int) < 17592186044415
 hn: ∀x∈r.l,x= .i x.n
 hM:op=12∨op=24→0≤((d0.at obj).hd 2).n∧((d0.at obj).hd 2).n < (s.l.length:Int)∧((d0.at obj).hd 2).n≠obj
noncomputable abbrev dH (d0 d1 s:D) (th op obj arg tries:Int):Nat→Int:=dK L (low [enc d0,enc d1,enc s,th,op,obj,arg,tries])
abbrev aZ (k:Nat):SE:=rr 9000 [.aQ 5,.aQ 2] k
abbrev Yz:SE:=nm (ce 2 (el (.aQ 0) (.aQ 5)))
abbrev kK:SE:=rr 850 [aZ 7,.aQ 3] 0
abbrev adW (q:SE):SE:=.op .set (aZ 2) (cn (mk Yz) (.op .set (el (aZ 2) Yz) (cn (.dat (.i 0)) q)))
abbrev wS:List SE:=[aZ 7,.aQ 3,.aQ 5,Yz,adW (.dat (.i (-1))),.aQ 4,.aQ 6,.aQ 7,aZ 3,aZ 4,aZ 5,aZ 6,aZ 8]
abbrev thg (o c d g r v:SE):SE:=cn (mk (.aQ 5)) (cn o (cn c (cn d (cn g (cn r (cn v (.dat (.i 0))))))))
abbrev wI:T Lf:=ou [rr 550 [.aQ 2] 0,.aQ 3,.lit 27,.aQ 5,wr (.aQ 4),.lit 0,.lit 2]
abbrev Dx:T Lf:=ou [rr 550 [.aQ 2] 0,.lit 0,.lit 0,.lit 0,.lit 0,.lit 0,.lit 0]
abbrev lT (z o c d g r v a:SE) (oc:Int):T Lf:=ou [.op .set z (thg o c d g r v),.aQ 3,.aQ 4,.aQ 5,a,.lit 0,.lit oc]
theorem CO {r:D} (h:r.l= []) (t:Int):place r t= -1:=by unfold place; rw [h]; rfl
theorem azI {r:D} (h:r.l= []) (t:Int):wo t r.l= []:=by rw [h]; rfl
theorem alt3 {r v:D} (h:0 < r.l.length) (h':0 < v.l.length):oO r v=3:=by simp [oO,h,h']
theorem aFk {r v:D} (h:0 < r.l.length) (h':v.l= []):oO r v=4:=by simp [oO,h,h']
theorem aFj {r v:D} (h:r.l= []) (h':0 < v.l.length):oO r v=5:=by simp [oO,h,h']
theorem aFi {r v:D} (h:r.l= []) (h':v.l= []):oO r v=6:=by simp [oO,h,h']
abbrev Gl (d0 s:D) (th op obj arg tries o c dn g:Int) (r v:D):RS:=.out (outA s th op obj (Mx d0 obj) (act (Mx d0 obj) (Mo d0 s obj) th op arg tries o c dn g r v))
theorem dG (s:D) (th op obj M:Int):outA s th op obj M .blk= [enc s,0,0,0,0,0,0]:=rfl
theorem dF (s:D) (th op obj M:Int):outA s th op obj M .mis= [enc s,th,27,obj,IntKind.i64.wrap op,0,2]:=rfl
theorem bT (s:D) (th op obj M o c dn g:Int) (r v:D) (a oc:Int):outA s th op obj M (.res o c dn g r v none a oc)= [enc (dL (iK s.l obj (dL [.i o,.i c,.i (if dn=0 then 0 else 1),.i g,r,v]))),th,op,obj,a,0,oc]:=rfl
theorem bQ (s:D) (th op obj M o c dn g:Int) (r v:D) (q a oc:Int):outA s th op obj M (.res o c dn g r v (some q) a oc)= [enc (dL (iK (iK s.l M (dL (iK (s.at M).l 0 (.i q)))) obj (dL [.i o,.i c,.i (if dn=0 then 0 else 1),.i g,r,v]))),th,op,obj,a,0,oc]:=rfl
section
variable {s:D} {th op obj M:Int}
theorem fB {c:Prop} [Decidable c] {a b:Act}:RS.out (outA s th op obj M (if c then a else b))=if c then RS.out (outA s th op obj M a) else RS.out (outA s th op obj M b):=by split <;> rfl
end
theorem Au {p:Prop} [Decidable p]:((if p then (0:Int) else 1)=0)=p:=by by_cases h:p <;> simp [h]
theorem kR (l:List D):l= []∨0 < l.length:=by cases l <;> simp
theorem z2 {ρ:Nat→Int} {a b c d:List SB} (h:zY ρ a∧zW ρ b) (h':zY ρ c∧zW ρ d):zY ρ (a++c)∧zW ρ (b++d):=⟨agM h.1 h'.1,agP h.2 h'.2⟩
end Go.As.Try
end
section
namespace Go.As.Try
open Go hiding Stat Spec shape
open Go.As
set_option maxRecDepth 100000
abbrev bt:SE:=.op .bit (mk (aZ 5)) (.lit 0)
abbrev kW:SE:=wr (.add kK (.lit 1))
abbrev kL:SE:=.sub (ln (aZ 7)) kW
abbrev kD:SE:=.add kK kL
abbrev kC:SE:=.op .cat (.op .cat (.op .take (aZ 7) kK) (.op .drop (.op .take (aZ 7) (.add kW kL)) kW)) (.op .drop (aZ 7) kD)
abbrev kF:SE:=.op .fill kC (cn (mk kD) (.dat (.i 0)))
section
variable {d0 d1 s r v:D} {th op obj arg tries o c dn g:Int}
abbrev YG:List SB:=[.eq (a0 9000 [.aQ 5,.aQ 2]) (.lit 1),.eq (a0 350 [.aQ 0,.aQ 1,.aQ 2]) (.lit 1),.eq (a0 600 [.aQ 4]) (.lit 1),.eq (a0 550 [.aQ 2]) (.lit 1),.eq (a0 900 [aZ 7,.aQ 3]) (.lit 1),.eq (a0 850 [aZ 7,.aQ 3]) (.lit 1),.lt (.aQ 3) (ln (.aQ 1)),.lt (.aQ 5) (ln (.aQ 0)),.lt (.aQ 5) (ln (aZ 2)),.eq (rr 600 [.aQ 4] 0) (nm (ce 0 (el (.aQ 0) (.aQ 5)))),.lt (ln (aZ 7)) (.lit 17592186044415),.lt (ln (aZ 8)) (.lit 17592186044415)]
abbrev NG:List SB:=[.lt (.aQ 5) (.lit 0),.eq (rr 350 [.aQ 0,.aQ 1,.aQ 2] 0) (.lit 0),.lt (.aQ 3) (.lit 0),.lt (ln (aZ 7)) (ln (aZ 7)),.lt (ln (aZ 8)) (.add (.lit 1) (.sub (ln (aZ 8)) (.lit 1))),.lt (ln (aZ 7)) (.add (.lit 1) (.sub (ln (aZ 7)) (.lit 1)))]
theorem fG (H:TH d0 d1 s th op obj arg tries o c dn g r v):zY (dH d0 d1 s th op obj arg tries) YG∧zW (dH d0 d1 s th op obj arg tries) NG:=by
 have hb:r.l.length≤140737488351232:=by have:=H.hr; omega
 have h1:=H.FX; have h2:=H.FW; have h3:=H.Bv; have h4:=H.Bq; have h5:=H.hlen; have h6:=H.hr; have h7:=H.hv; have hp:=iV r th
 simp only [zz,aG.den,Nat.reduceLT,H.hcp,H.jA,H.hR,H.hk,has_is r th hb,dM r th hb] <;> omega
abbrev YA3:List SB:=[.eq (aZ 0) (.lit 3)]
abbrev NA3:List SB:=[.eq (aZ 0) (.lit 0),.eq (aZ 0) (.lit 1),.eq (aZ 0) (.lit 2),.eq (aZ 0) (.lit 4),.eq (aZ 0) (.lit 5),.eq (aZ 0) (.lit 6),.lt (.sub (ln (aZ 7)) (.lit 1)) (.lit 0),.lt (.sub (ln (aZ 8)) (.lit 1)) (.lit 0)]
theorem fA3 (H:TH d0 d1 s th op obj arg tries o c dn g r v) (hr:0 < r.l.length) (hv:0 < v.l.length):zY (dH d0 d1 s th op obj arg tries) YA3∧zW (dH d0 d1 s th op obj arg tries) NA3:=by
 have hb:r.l.length≤140737488351232:=by have:=H.hr; omega
 have h1:=H.FX; have h2:=H.FW; have h3:=H.Bv; have h4:=H.Bq; have h5:=H.hlen; have h6:=H.hr; have h7:=H.hv; have hp:=iV r th
 simp only [zz,aG.den,Nat.reduceLT,H.hcp,H.jA,H.hR,H.hk,has_is r th hb,dM r th hb,alt3 hr hv] <;> omega
abbrev YA4:List SB:=[.eq (aZ 0) (.lit 4)]
abbrev NA4:List SB:=[.eq (aZ 0) (.lit 0),.eq (aZ 0) (.lit 1),.eq (aZ 0) (.lit 2),.eq (aZ 0) (.lit 3),.eq (aZ 0) (.lit 5),.eq (aZ 0) (.lit 6),.lt (.sub (ln (aZ 7)) (.lit 1)) (.lit 0)]
theorem fA4 (H:TH d0 d1 s th op obj arg tries o c dn g r v) (hr:0 < r.l.length) (hv:v.l= []):zY (dH d0 d1 s th op obj arg tries) YA4∧zW (dH d0 d1 s th op obj arg tries) NA4:=by
 have hb:r.l.length≤140737488351232:=by have:=H.hr; omega
 have h1:=H.FX; have h2:=H.FW; have h3:=H.Bv; have h4:=H.Bq; have h5:=H.hlen; have h6:=H.hr; have h7:=H.hv; have hp:=iV r th
 simp only [zz,aG.den,Nat.reduceLT,H.hcp,H.jA,H.hR,H.hk,has_is r th hb,dM r th hb,aFk hr hv] <;> omega
abbrev YA5:List SB:=[.eq (aZ 0) (.lit 5),.lt kK (.lit 0)]
abbrev NA5:List SB:=[.eq (aZ 0) (.lit 0),.eq (aZ 0) (.lit 1),.eq (aZ 0) (.lit 2),.eq (aZ 0) (.lit 3),.eq (aZ 0) (.lit 4),.eq (aZ 0) (.lit 6),.lt (.sub (ln (aZ 8)) (.lit 1)) (.lit 0)]
theorem fA5 (H:TH d0 d1 s th op obj arg tries o c dn g r v) (hr:r.l= []) (hv:0 < v.l.length):zY (dH d0 d1 s th op obj arg tries) YA5∧zW (dH d0 d1 s th op obj arg tries) NA5:=by
 have hb:r.l.length≤140737488351232:=by have:=H.hr; omega
 have h1:=H.FX; have h2:=H.FW; have h3:=H.Bv; have h4:=H.Bq; have h5:=H.hlen; have h6:=H.hr; have h7:=H.hv; have hp:=iV r th
 simp only [zz,aG.den,Nat.reduceLT,H.hcp,H.jA,H.hR,H.hk,has_is r th hb,dM r th hb,aFj hr hv,CO hr] <;> omega
abbrev YA6:List SB:=[.eq (aZ 0) (.lit 6),.lt kK (.lit 0)]
abbrev NA6:List SB:=[.eq (aZ 0) (.lit 0),.eq (aZ 0) (.lit 1),.eq (aZ 0) (.lit 2),.eq (aZ 0) (.lit 3),.eq (aZ 0) (.lit 4),.eq (aZ 0) (.lit 5)]
theorem fA6 (H:TH d0 d1 s th op obj arg tries o c dn g r v) (hr:r.l= []) (hv:v.l= []):zY (dH d0 d1 s th op obj arg tries) YA6∧zW (dH d0 d1 s th op obj arg tries) NA6:=by
 have hb:r.l.length≤140737488351232:=by have:=H.hr; omega
 have h1:=H.FX; have h2:=H.FW; have h3:=H.Bv; have h4:=H.Bq; have h5:=H.hlen; have h6:=H.hr; have h7:=H.hv; have hp:=iV r th
 simp only [zz,aG.den,Nat.reduceLT,H.hcp,H.jA,H.hR,H.hk,has_is r th hb,dM r th hb,aFi hr hv,CO hr] <;> omega
abbrev YM:List SB:=[.lt Yz (ln (aZ 2))]
abbrev NM:List SB:=[.lt Yz (.lit 0),.eq Yz (.aQ 5)]
theorem fM (H:TH d0 d1 s th op obj arg tries o c dn g r v) (ho:op=12∨op=24):zY (dH d0 d1 s th op obj arg tries) YM∧zW (dH d0 d1 s th op obj arg tries) NM:=by
 have hb:r.l.length≤140737488351232:=by have:=H.hr; omega
 have h1:=H.FX; have h2:=H.FW; have h3:=H.Bv; have h4:=H.Bq; have h5:=H.hlen; have h6:=H.hr; have h7:=H.hv; have hp:=iV r th; have hm:=H.hM ho
 simp only [zz,aG.den,Nat.reduceLT,H.hcp,H.jA,H.hR,H.hk,has_is r th hb,dM r th hb] <;> omega
abbrev YK0:List SB:=[.lt kK (.lit 0)]
abbrev NK0:List SB:=[]
theorem fK0 (H:TH d0 d1 s th op obj arg tries o c dn g r v) (hk:place r th < 0):zY (dH d0 d1 s th op obj arg tries) YK0∧zW (dH d0 d1 s th op obj arg tries) NK0:=by
 have hb:r.l.length≤140737488351232:=by have:=H.hr; omega
 have h1:=H.FX; have h2:=H.FW; have h3:=H.Bv; have h4:=H.Bq; have h5:=H.hlen; have h6:=H.hr; have h7:=H.hv; have hp:=iV r th
 simp only [zz,aG.den,Nat.reduceLT,H.hcp,H.jA,H.hR,H.hk,has_is r th hb,dM r th hb] <;> omega
abbrev YK1:List SB:=[.lt kD (ln (aZ 7)),.eq (.add kD (.sub (ln (aZ 7)) kD)) (ln kC)]
abbrev NK1:List SB:=[.lt kK (.lit 0),.lt kW kK,.lt (ln (aZ 7)) kW,.eq kK kW,.lt (ln (aZ 7)) kK,.lt kW (.lit 0),.lt kL (.lit 0),.lt (ln (aZ 7)) (.add kW kL),.lt (ln (aZ 7)) kD,.lt kD (.lit 0),.lt (ln kC) (ln (aZ 7)),.lt (.sub (ln (aZ 7)) kD) (.lit 0),.lt (ln kF) kD]
theorem fK1 (H:TH d0 d1 s th op obj arg tries o c dn g r v) (hk: ¬place r th < 0):zY (dH d0 d1 s th op obj arg tries) YK1∧zW (dH d0 d1 s th op obj arg tries) NK1:=by
 have hb:r.l.length≤140737488351232:=by have:=H.hr; omega
 have h1:=H.FX; have h2:=H.FW; have h3:=H.Bv; have h4:=H.Bq; have h5:=H.hlen; have h6:=H.hr; have h7:=H.hv; have hp:=iV r th; have hw:IntKind.i64.wrap (place r th+1)=place r th+1:=mM (by omega) (by omega)
 simp only [zz,aG.den,Nat.reduceLT,H.hcp,H.jA,H.hR,H.hk,has_is r th hb,dM r th hb,kP,aX,List.length_append,List.length_take,List.length_drop,List.length_replicate,hw] <;> omega
abbrev dA (d0 s r v:D) (th op obj arg tries o c dn g:Int):List Int:=[enc r,th,obj,Mx d0 obj,enc (dL (iK s.l (Mx d0 obj) (dL (iK (s.at (Mx d0 obj)).l 0 (.i (-1)))))),op,arg,tries,o,c,dn,g,enc v]
abbrev aFq:List SB:=[.eq (a0 12000 wS) (.lit 1),.eq (rr 12000 wS 0) (.lit 0)]
abbrev aFw:List SB:=[]
theorem aFf (H:TH d0 d1 s th op obj arg tries o c dn g r v) (hd:L 12000 (dA d0 s r v th op obj arg tries o c dn g)=some (0 :: (dA d0 s r v th op obj arg tries o c dn g))):zY (dH d0 d1 s th op obj arg tries) aFq∧zW (dH d0 d1 s th op obj arg tries) aFw:=by
 have hb:r.l.length≤140737488351232:=by have:=H.hr; omega
 have h1:=H.FX; have h2:=H.FW; have h3:=H.Bv; have h4:=H.Bq; have h5:=H.hlen; have h6:=H.hr; have h7:=H.hv; have hp:=iV r th
 simp only [zz,aG.den,Nat.reduceLT,H.hcp,H.jA,H.hR,H.hk,has_is r th hb,dM r th hb,hd] <;> omega
abbrev aFr:List SB:=[.eq (a0 12000 wS) (.lit 1),.eq (rr 12000 wS 0) (.lit 1)]
abbrev aFx:List SB:=[.eq (rr 12000 wS 0) (.lit 0),.lt (rr 12000 wS 14) (.lit 0),.lt (ln (rr 12000 wS 15)) (.add (rr 12000 wS 14) (.lit 1)),.lt (.add (rr 12000 wS 14) (.lit 1)) (.lit 0),.lt (ln (.op .cat (.op .cat (.op .take (rr 12000 wS 15) (rr 12000 wS 14)) (.op .snoc (.dat (.i 0)) (mk (.aQ 3)))) (.op .drop (rr 12000 wS 15) (.add (rr 12000 wS 14) (.lit 1))))) (.add (rr 12000 wS 14) (.lit 1))]
theorem aFg (H:TH d0 d1 s th op obj arg tries o c dn g r v) {n:Nat} {r1:D} (hn:n < r.l.length) (hl:r1.l.length=r.l.length) (hd:L 12000 (dA d0 s r v th op obj arg tries o c dn g)=some (1 :: ((dA d0 s r v th op obj arg tries o c dn g)++ [(n:Int),enc r1,(r.l.length:Int)]))):zY (dH d0 d1 s th op obj arg tries) aFr∧zW (dH d0 d1 s th op obj arg tries) aFx:=by
 have hb:r.l.length≤140737488351232:=by have:=H.hr; omega
 have h1:=H.FX; have h2:=H.FW; have h3:=H.Bv; have h4:=H.Bq; have h5:=H.hlen; have h6:=H.hr; have h7:=H.hv; have hp:=iV r th
 simp only [zz,aG.den,Nat.reduceLT,H.hcp,H.jA,H.hR,H.hk,has_is r th hb,dM r th hb,hd,kP,aX,yG,List.cons_append,List.nil_append,List.length_append,List.length_take,List.length_drop,List.length_cons,List.length_nil] <;> omega
abbrev aFo:List SB:=[.eq (a0 12100 wS) (.lit 1),.eq (rr 12100 wS 0) (.lit 0)]
abbrev aFu:List SB:=[]
theorem aFd (H:TH d0 d1 s th op obj arg tries o c dn g r v) (hd:L 12100 (dA d0 s r v th op obj arg tries o c dn g)=some (0 :: (dA d0 s r v th op obj arg tries o c dn g))):zY (dH d0 d1 s th op obj arg tries) aFo∧zW (dH d0 d1 s th op obj arg tries) aFu:=by
 have hb:r.l.length≤140737488351232:=by have:=H.hr; omega
 have h1:=H.FX; have h2:=H.FW; have h3:=H.Bv; have h4:=H.Bq; have h5:=H.hlen; have h6:=H.hr; have h7:=H.hv; have hp:=iV r th
 simp only [zz,aG.den,Nat.reduceLT,H.hcp,H.jA,H.hR,H.hk,has_is r th hb,dM r th hb,hd] <;> omega
abbrev aFp:List SB:=[.eq (a0 12100 wS) (.lit 1),.eq (rr 12100 wS 0) (.lit 1)]
abbrev aFv:List SB:=[.eq (rr 12100 wS 0) (.lit 0),.lt (rr 12100 wS 14) (.lit 0),.lt (ln (rr 12100 wS 15)) (.add (rr 12100 wS 14) (.lit 1)),.lt (.add (rr 12100 wS 14) (.lit 1)) (.lit 0),.lt (ln (.op .cat (.op .cat (.op .take (rr 12100 wS 15) (rr 12100 wS 14)) (.op .snoc (.dat (.i 0)) (mk (.aQ 3)))) (.op .drop (rr 12100 wS 15) (.add (rr 12100 wS 14) (.lit 1))))) (.add (rr 12100 wS 14) (.lit 1))]
theorem aFe (H:TH d0 d1 s th op obj arg tries o c dn g r v) {n:Nat} {r1:D} (hn:n < r.l.length) (hl:r1.l.length=r.l.length) (hd:L 12100 (dA d0 s r v th op obj arg tries o c dn g)=some (1 :: ((dA d0 s r v th op obj arg tries o c dn g)++ [(n:Int),enc r1,(r.l.length:Int)]))):zY (dH d0 d1 s th op obj arg tries) aFp∧zW (dH d0 d1 s th op obj arg tries) aFv:=by
 have hb:r.l.length≤140737488351232:=by have:=H.hr; omega
 have h1:=H.FX; have h2:=H.FW; have h3:=H.Bv; have h4:=H.Bq; have h5:=H.hlen; have h6:=H.hr; have h7:=H.hv; have hp:=iV r th
 simp only [zz,aG.den,Nat.reduceLT,H.hcp,H.jA,H.hR,H.hk,has_is r th hb,dM r th hb,hd,kP,aX,yG,List.cons_append,List.nil_append,List.length_append,List.length_take,List.length_drop,List.length_cons,List.length_nil] <;> omega
abbrev aFm:List SB:=[.eq (a0 12200 wS) (.lit 1),.eq (rr 12200 wS 0) (.lit 0)]
abbrev aFt:List SB:=[]
theorem aFc (H:TH d0 d1 s th op obj arg tries o c dn g r v) (hd:L 12200 (dA d0 s r v th op obj arg tries o c dn g)=some (0 :: (dA d0 s r v th op obj arg tries o c dn g))):zY (dH d0 d1 s th op obj arg tries) aFm∧zW (dH d0 d1 s th op obj arg tries) aFt:=by
 have hb:r.l.length≤140737488351232:=by have:=H.hr; omega
 have h1:=H.FX; have h2:=H.FW; have h3:=H.Bv; have h4:=H.Bq; have h5:=H.hlen; have h6:=H.hr; have h7:=H.hv; have hp:=iV r th
 simp only [zz,aG.den,Nat.reduceLT,H.hcp,H.jA,H.hR,H.hk,has_is r th hb,dM r th hb,hd] <;> omega
abbrev aFl:List SB:=[.eq (a0 12300 wS) (.lit 1),.eq (rr 12300 wS 0) (.lit 0)]
abbrev aFs:List SB:=[]
theorem aFb (H:TH d0 d1 s th op obj arg tries o c dn g r v) (hd:L 12300 (dA d0 s r v th op obj arg tries o c dn g)=some (0 :: (dA d0 s r v th op obj arg tries o c dn g))):zY (dH d0 d1 s th op obj arg tries) aFl∧zW (dH d0 d1 s th op obj arg tries) aFs:=by
 have hb:r.l.length≤140737488351232:=by have:=H.hr; omega
 have h1:=H.FX; have h2:=H.FW; have h3:=H.Bv; have h4:=H.Bq; have h5:=H.hlen; have h6:=H.hr; have h7:=H.hv; have hp:=iV r th
 simp only [zz,aG.den,Nat.reduceLT,H.hcp,H.jA,H.hR,H.hk,has_is r th hb,dM r th hb,hd] <;> omega
end
end Go.As.Try
end
section
namespace Go.As.Try
open Go hiding Stat Spec shape
open Go.As
set_option maxRecDepth 100000
theorem N9 (l m:List D):iM (dL l) m=iM (.i 2) m:=by
 cases m with
 | cons a m=>rfl
 | nil=>cases l <;> rfl
theorem ZV (d:D) (h:0 < d.l.length):iM (iM d (d.l.take (1+((d.l.length:Int) - 1)).toNat)) ((iM d (d.l.take (1+((d.l.length:Int) - 1)).toNat)).l.drop (1:Int).toNat)=iM d (d.l.drop 1):=by
 rw [EJ (fun e=>by rw [e]; rfl),kP,List.take_of_length_le (by omega)]
 rfl
theorem aB4 (l:List D) (k:Nat) (hk:k < l.length) (R B:List D):((l.take k++(l.take l.length).drop (k+1)++B).take (l.length - 1)++R).take (l.length - 1)=l.take k++l.drop (k+1)∨B.length=0:=by
 by_cases hB:B.length=0
 ·exact .inr hB
 ·left
  have e:(l.take k++(l.take l.length).drop (k+1)).length=l.length - 1:=by simp only [List.length_append,List.length_take,List.length_drop]; omega
  rw [List.take_append_of_le_length (by rw [List.length_take,List.length_append,e]; omega),List.take_take,Nat.min_self,List.take_append_of_le_length (by omega),List.take_of_length_le (by omega),List.take_length]
section
variable {d0 d1 s r v:D} {th op obj arg tries o c dn g:Int}
abbrev zt0:T Lf:=(sp (.eq (aZ 3) (.aQ 3)) wI (sp (.eq (rr 900 [aZ 7,.aQ 3] 0) (.lit 0)) (sp (.lt (aZ 3) (.lit 0)) (lT (aZ 2) (mk (.aQ 3)) (mk (aZ 4)) bt (mk (aZ 6)) (aZ 7) (aZ 8) (.lit 0) 2) Dx) wI))
theorem sm0 (H:TH d0 d1 s th 1 obj arg tries o c dn g r v):eF (dH d0 d1 s th 1 obj arg tries) zt0=Gl d0 s th 1 obj arg tries o c dn g r v:=by
 have hb:r.l.length≤140737488351232:=by have:=H.hr; omega
 simp only [zz,aG.den,Nat.reduceLT,H.hcp,H.jA,H.hR,H.hk,has_is r th hb,dM r th hb,aH,Au,fB,dG,dF,bT,bQ,dL,act,Int.reduceEq,Gl] <;> (repeat' split) <;> first | rfl | (exfalso; omega)
abbrev zt1:T Lf:=(sp (.eq (aZ 3) (.aQ 3)) (lT (aZ 2) (.dat (.i (-1))) (mk (aZ 4)) bt (mk (aZ 6)) (aZ 7) (aZ 8) (.lit 0) 2) wI)
theorem sm1 (H:TH d0 d1 s th 2 obj arg tries o c dn g r v):eF (dH d0 d1 s th 2 obj arg tries) zt1=Gl d0 s th 2 obj arg tries o c dn g r v:=by
 have hb:r.l.length≤140737488351232:=by have:=H.hr; omega
 simp only [zz,aG.den,Nat.reduceLT,H.hcp,H.jA,H.hR,H.hk,has_is r th hb,dM r th hb,aH,Au,fB,dG,dF,bT,bQ,dL,act,Int.reduceEq,Gl] <;> (repeat' split) <;> first | rfl | (exfalso; omega)
theorem sm2 (H:TH d0 d1 s th 8 obj arg tries o c dn g r v):eF (dH d0 d1 s th 8 obj arg tries) zt1=Gl d0 s th 8 obj arg tries o c dn g r v:=by
 have hb:r.l.length≤140737488351232:=by have:=H.hr; omega
 simp only [zz,aG.den,Nat.reduceLT,H.hcp,H.jA,H.hR,H.hk,has_is r th hb,dM r th hb,aH,Au,fB,dG,dF,bT,bQ,dL,act,Int.reduceEq,Gl] <;> (repeat' split) <;> first | rfl | (exfalso; omega)
abbrev zt2:T Lf:=(sp (.lt (aZ 3) (.lit 0)) (lT (aZ 2) (mk (.aQ 3)) (mk (aZ 4)) bt (mk (aZ 6)) (aZ 7) (aZ 8) (.lit 1) 2) (lT (aZ 2) (mk (aZ 3)) (mk (aZ 4)) bt (mk (aZ 6)) (aZ 7) (aZ 8) (.lit 0) 2))
theorem sm3 (H:TH d0 d1 s th 3 obj arg tries o c dn g r v):eF (dH d0 d1 s th 3 obj arg tries) zt2=Gl d0 s th 3 obj arg tries o c dn g r v:=by
 have hb:r.l.length≤140737488351232:=by have:=H.hr; omega
 simp only [zz,aG.den,Nat.reduceLT,H.hcp,H.jA,H.hR,H.hk,has_is r th hb,dM r th hb,aH,Au,fB,dG,dF,bT,bQ,dL,act,Int.reduceEq,Gl] <;> (repeat' split) <;> first | rfl | (exfalso; omega)
abbrev zt3:T Lf:=(sp (.lt (aZ 3) (.lit 0)) (lT (aZ 2) (mk (.aQ 3)) (mk (aZ 4)) bt (mk (aZ 6)) (aZ 7) (aZ 8) (.lit 1) 2) (sp (.lt (.aQ 7) (.aQ 6)) Dx (lT (aZ 2) (mk (aZ 3)) (mk (aZ 4)) bt (mk (aZ 6)) (aZ 7) (aZ 8) (.lit 0) 2)))
theorem sm4 (H:TH d0 d1 s th 4 obj arg tries o c dn g r v):eF (dH d0 d1 s th 4 obj arg tries) zt3=Gl d0 s th 4 obj arg tries o c dn g r v:=by
 have hb:r.l.length≤140737488351232:=by have:=H.hr; omega
 simp only [zz,aG.den,Nat.reduceLT,H.hcp,H.jA,H.hR,H.hk,has_is r th hb,dM r th hb,aH,Au,fB,dG,dF,bT,bQ,dL,act,Int.reduceEq,Gl] <;> (repeat' split) <;> first | rfl | (exfalso; omega)
abbrev zt4:T Lf:=(sp (.eq (aZ 3) (.aQ 3)) wI (sp (.eq (rr 900 [aZ 7,.aQ 3] 0) (.lit 0)) (sp (.lt (aZ 3) (.lit 0)) (lT (aZ 2) (mk (aZ 3)) (mk (aZ 4)) bt (mk (aZ 6)) (.op .snoc (aZ 7) (mk (.aQ 3))) (aZ 8) (.lit 0) 2) Dx) wI))
theorem sm5 (H:TH d0 d1 s th 5 obj arg tries o c dn g r v) (hr:0 < r.l.length):eF (dH d0 d1 s th 5 obj arg tries) zt4=Gl d0 s th 5 obj arg tries o c dn g r v:=by
 have hb:r.l.length≤140737488351232:=by have:=H.hr; omega
 simp only [zz,aG.den,Nat.reduceLT,H.hcp,H.jA,H.hR,H.hk,has_is r th hb,dM r th hb,yG,List.nil_append,aH,Au,fB,dG,dF,bT,bQ,dL,act,Int.reduceEq,Gl] <;> (repeat' split) <;> first | rfl | (exfalso; omega)
abbrev zt5:T Lf:=wI
theorem sm6 (H:TH d0 d1 s th 6 obj arg tries o c dn g r v) (hk:place r th < 0):eF (dH d0 d1 s th 6 obj arg tries) zt5=Gl d0 s th 6 obj arg tries o c dn g r v:=by
 have hb:r.l.length≤140737488351232:=by have:=H.hr; omega
 simp only [zz,aG.den,Nat.reduceLT,H.hcp,H.jA,H.hR,H.hk,has_is r th hb,dM r th hb,hk,aH,Au,fB,dG,dF,bT,bQ,dL,act,Int.reduceEq,Gl] <;> (repeat' split) <;> first | rfl | (exfalso; omega)
abbrev zt6:T Lf:=(lT (aZ 2) (mk (aZ 3)) (mk (aZ 4)) bt (mk (aZ 6)) (.op .take kF kD) (aZ 8) (.lit 0) 2)
theorem sm7 (H:TH d0 d1 s th 6 obj arg tries o c dn g r v) (hr:0 < r.l.length) (hk: ¬place r th < 0):eF (dH d0 d1 s th 6 obj arg tries) zt6=Gl d0 s th 6 obj arg tries o c dn g r v:=by
 have hb:r.l.length≤140737488351232:=by have:=H.hr; omega
 rcases vT r th with ⟨hp,_⟩ | ⟨k,hkl,hp,_⟩
 ·exact absurd hk (by rw [hp]; omega)
 have hw:IntKind.i64.wrap ((k:Int)+1)=(k:Int)+1:=mM (by omega) (by omega)
 have e1:((k:Int)+1+((r.l.length:Int) - ((k:Int)+1))).toNat=r.l.length:=by omega
 have e2:((k:Int)+((r.l.length:Int) - ((k:Int)+1))).toNat=r.l.length - 1:=by omega
 have e3:((k:Int)+1).toNat=k+1:=by omega
 have h0: ¬((k:Int) < 0):=by omega
 have hd:=fun R=>(aB4 r.l k hkl R (r.l.drop (r.l.length - 1))).resolve_right (by rw [List.length_drop]; omega)
 simp only [zz,aG.den,Nat.reduceLT,H.hcp,H.jA,H.hR,H.hk,has_is r th hb,dM r th hb,hp,hw,e1,e2,e3,h0,kP,aX,Int.toNat_natCast,hd,N9,aH,Au,fB,dG,dF,bT,bQ,dL,act,Int.reduceEq,Gl] <;> (repeat' split) <;> first | rfl | (exfalso; omega)
abbrev zt7:T Lf:=(sp (.eq (aZ 3) (.aQ 3)) wI (sp (.eq (rr 900 [aZ 7,.aQ 3] 0) (.lit 0)) (sp (.eq (ln (aZ 7)) (.lit 0)) (sp (.lt (aZ 3) (.lit 0)) (lT (aZ 2) (mk (.aQ 3)) (mk (aZ 4)) bt (mk (aZ 6)) (aZ 7) (aZ 8) (.lit 0) 2) Dx) Dx) wI))
theorem sm8 (H:TH d0 d1 s th 7 obj arg tries o c dn g r v) (hr:0 < r.l.length):eF (dH d0 d1 s th 7 obj arg tries) zt7=Gl d0 s th 7 obj arg tries o c dn g r v:=by
 have hb:r.l.length≤140737488351232:=by have:=H.hr; omega
 simp only [zz,aG.den,Nat.reduceLT,H.hcp,H.jA,H.hR,H.hk,has_is r th hb,dM r th hb,aH,Au,fB,dG,dF,bT,bQ,dL,act,Int.reduceEq,Gl] <;> (repeat' split) <;> first | rfl | (exfalso; omega)
abbrev zt8:T Lf:=(sp (.lt (.lit 0) (aZ 4)) (lT (aZ 2) (mk (aZ 3)) (mk (wr (.sub (aZ 4) (.lit 1)))) bt (mk (aZ 6)) (aZ 7) (aZ 8) (.lit 0) 2) Dx)
theorem sm9 (H:TH d0 d1 s th 9 obj arg tries o c dn g r v):eF (dH d0 d1 s th 9 obj arg tries) zt8=Gl d0 s th 9 obj arg tries o c dn g r v:=by
 have hb:r.l.length≤140737488351232:=by have:=H.hr; omega
 simp only [zz,aG.den,Nat.reduceLT,H.hcp,H.jA,H.hR,H.hk,has_is r th hb,dM r th hb,aH,Au,fB,dG,dF,bT,bQ,dL,act,Int.reduceEq,Gl] <;> (repeat' split) <;> first | rfl | (exfalso; omega)
abbrev zt9:T Lf:=(sp (.lt (.lit 0) (aZ 4)) (lT (aZ 2) (mk (aZ 3)) (mk (wr (.sub (aZ 4) (.lit 1)))) bt (mk (aZ 6)) (aZ 7) (aZ 8) (.lit 1) 2) (lT (aZ 2) (mk (aZ 3)) (mk (aZ 4)) bt (mk (aZ 6)) (aZ 7) (aZ 8) (.lit 0) 2))
theorem aEL (H:TH d0 d1 s th 11 obj arg tries o c dn g r v):eF (dH d0 d1 s th 11 obj arg tries) zt9=Gl d0 s th 11 obj arg tries o c dn g r v:=by
 have hb:r.l.length≤140737488351232:=by have:=H.hr; omega
 simp only [zz,aG.den,Nat.reduceLT,H.hcp,H.jA,H.hR,H.hk,has_is r th hb,dM r th hb,aH,Au,fB,dG,dF,bT,bQ,dL,act,Int.reduceEq,Gl] <;> (repeat' split) <;> first | rfl | (exfalso; omega)
abbrev aCl:T Lf:=(sp (.lt (aZ 4) Yz) (lT (aZ 2) (mk (aZ 3)) (mk (wr (.add (aZ 4) (.lit 1)))) bt (mk (aZ 6)) (aZ 7) (aZ 8) (.lit 0) 2) wI)
theorem aEK (H:TH d0 d1 s th 10 obj arg tries o c dn g r v):eF (dH d0 d1 s th 10 obj arg tries) aCl=Gl d0 s th 10 obj arg tries o c dn g r v:=by
 have hb:r.l.length≤140737488351232:=by have:=H.hr; omega
 simp only [zz,aG.den,Nat.reduceLT,H.hcp,H.jA,H.hR,H.hk,has_is r th hb,dM r th hb,aH,Au,fB,dG,dF,bT,bQ,dL,act,Int.reduceEq,Gl] <;> (repeat' split) <;> first | rfl | (exfalso; omega)
abbrev aCk:T Lf:=(sp (.lt (.aQ 6) (wr (.sub (.lit 0) (aZ 4)))) wI (sp (.lt (wr (.sub (.lit 1099511627776) (aZ 4))) (.aQ 6)) wI (lT (aZ 2) (mk (aZ 3)) (mk (wr (.add (aZ 4) (.aQ 6)))) bt (mk (aZ 6)) (aZ 7) (aZ 8) (wr (.add (aZ 4) (.aQ 6))) 2)))
theorem aEJ (H:TH d0 d1 s th 17 obj arg tries o c dn g r v):eF (dH d0 d1 s th 17 obj arg tries) aCk=Gl d0 s th 17 obj arg tries o c dn g r v:=by
 have hb:r.l.length≤140737488351232:=by have:=H.hr; omega
 simp only [zz,aG.den,Nat.reduceLT,H.hcp,H.jA,H.hR,H.hk,has_is r th hb,dM r th hb,aH,Au,fB,dG,dF,bT,bQ,dL,act,Int.reduceEq,Gl] <;> (repeat' split) <;> first | rfl | (exfalso; omega)
abbrev aCj:T Lf:=(sp (.lt (.lit 0) (aZ 4)) (lT (aZ 2) (mk (aZ 3)) (mk (wr (.sub (aZ 4) (.lit 1)))) bt (mk (aZ 6)) (aZ 7) (aZ 8) (wr (.sub (aZ 4) (.lit 1))) 2) wI)
theorem aEI (H:TH d0 d1 s th 18 obj arg tries o c dn g r v):eF (dH d0 d1 s th 18 obj arg tries) aCj=Gl d0 s th 18 obj arg tries o c dn g r v:=by
 have hb:r.l.length≤140737488351232:=by have:=H.hr; omega
 simp only [zz,aG.den,Nat.reduceLT,H.hcp,H.jA,H.hR,H.hk,has_is r th hb,dM r th hb,aH,Au,fB,dG,dF,bT,bQ,dL,act,Int.reduceEq,Gl] <;> (repeat' split) <;> first | rfl | (exfalso; omega)
abbrev aCi:T Lf:=(sp (.eq (aZ 4) (.lit 0)) (lT (aZ 2) (mk (aZ 3)) (mk (aZ 4)) bt (mk (aZ 6)) (aZ 7) (aZ 8) (.lit 0) 2) Dx)
theorem aEH (H:TH d0 d1 s th 19 obj arg tries o c dn g r v):eF (dH d0 d1 s th 19 obj arg tries) aCi=Gl d0 s th 19 obj arg tries o c dn g r v:=by
 have hb:r.l.length≤140737488351232:=by have:=H.hr; omega
 simp only [zz,aG.den,Nat.reduceLT,H.hcp,H.jA,H.hR,H.hk,has_is r th hb,dM r th hb,aH,Au,fB,dG,dF,bT,bQ,dL,act,Int.reduceEq,Gl] <;> (repeat' split) <;> first | rfl | (exfalso; omega)
abbrev aCh:T Lf:=(lT (aZ 2) (mk (aZ 3)) (mk (aZ 4)) bt (mk (aZ 6)) (aZ 7) (aZ 8) (aZ 4) 2)
theorem aEG (H:TH d0 d1 s th 22 obj arg tries o c dn g r v):eF (dH d0 d1 s th 22 obj arg tries) aCh=Gl d0 s th 22 obj arg tries o c dn g r v:=by
 have hb:r.l.length≤140737488351232:=by have:=H.hr; omega
 simp only [zz,aG.den,Nat.reduceLT,H.hcp,H.jA,H.hR,H.hk,has_is r th hb,dM r th hb,aH,Au,fB,dG,dF,bT,bQ,dL,act,Int.reduceEq,Gl] <;> (repeat' split) <;> first | rfl | (exfalso; omega)
abbrev aCg:T Lf:=(lT (aZ 2) (mk (aZ 3)) (mk (.aQ 6)) bt (mk (aZ 6)) (aZ 7) (aZ 8) (.aQ 6) 2)
theorem aEF (H:TH d0 d1 s th 23 obj arg tries o c dn g r v):eF (dH d0 d1 s th 23 obj arg tries) aCg=Gl d0 s th 23 obj arg tries o c dn g r v:=by
 have hb:r.l.length≤140737488351232:=by have:=H.hr; omega
 simp only [zz,aG.den,Nat.reduceLT,H.hcp,H.jA,H.hR,H.hk,has_is r th hb,dM r th hb,aH,Au,fB,dG,dF,bT,bQ,dL,act,Int.reduceEq,Gl] <;> (repeat' split) <;> first | rfl | (exfalso; omega)
abbrev azH:T Lf:=(sp (.lt (ln (aZ 8)) Yz) (lT (aZ 2) (mk (aZ 3)) (mk (aZ 4)) bt (mk (aZ 6)) (aZ 7) (.op .snoc (aZ 8) (mk (.aQ 6))) (.aQ 6) 2) Dx)
theorem aCL (H:TH d0 d1 s th 20 obj arg tries o c dn g r v) (hv:0 < v.l.length):eF (dH d0 d1 s th 20 obj arg tries) azH=Gl d0 s th 20 obj arg tries o c dn g r v:=by
 have hb:r.l.length≤140737488351232:=by have:=H.hr; omega
 simp only [zz,aG.den,Nat.reduceLT,H.hcp,H.jA,H.hR,H.hk,has_is r th hb,dM r th hb,yG,List.nil_append,aH,Au,fB,dG,dF,bT,bQ,dL,act,Int.reduceEq,Gl] <;> (repeat' split) <;> first | rfl | (exfalso; omega)
abbrev azG:T Lf:=(sp (.eq (ln (aZ 8)) (.lit 0)) Dx (lT (aZ 2) (mk (aZ 3)) (mk (aZ 4)) bt (mk (aZ 6)) (aZ 7) (.op .drop (.op .take (aZ 8) (.add (.lit 1) (.sub (ln (aZ 8)) (.lit 1)))) (.lit 1)) (nm (el (aZ 8) (.lit 0))) 2))
theorem aCK (H:TH d0 d1 s th 21 obj arg tries o c dn g r v) (hv:0 < v.l.length):eF (dH d0 d1 s th 21 obj arg tries) azG=Gl d0 s th 21 obj arg tries o c dn g r v:=by
 have hb:r.l.length≤140737488351232:=by have:=H.hr; omega
 simp only [zz,aG.den,Nat.reduceLT,H.hcp,H.jA,H.hR,H.hk,has_is r th hb,dM r th hb,ZV v hv,aH,Au,fB,dG,dF,bT,bQ,dL,act,Int.reduceEq,Gl] <;> (repeat' split) <;> first | rfl | (exfalso; omega)
abbrev azF:T Lf:=(sp (.eq (nm (ce 0 (el (aZ 2) Yz))) (.aQ 3)) (lT (adW (.dat (.i (-1)))) (mk (aZ 3)) (mk (aZ 4)) bt (mk (aZ 6)) (.op .snoc (aZ 7) (mk (.aQ 3))) (aZ 8) (.lit 0) 3) wI)
theorem aCJ (H:TH d0 d1 s th 12 obj arg tries o c dn g r v) (hr:0 < r.l.length) (hw:wo th r.l=r.l):eF (dH d0 d1 s th 12 obj arg tries) azF=Gl d0 s th 12 obj arg tries o c dn g r v:=by
 have hb:r.l.length≤140737488351232:=by have:=H.hr; omega
 simp only [zz,aG.den,Nat.reduceLT,H.hcp,H.jA,H.hR,H.hk,has_is r th hb,dM r th hb,hw,aX,yG,List.nil_append,aH,Au,fB,dG,dF,bT,bQ,dL,act,Int.reduceEq,Gl] <;> (repeat' split) <;> first | rfl | (exfalso; omega)
abbrev aCf:T Lf:=(sp (.eq (nm (ce 0 (el (aZ 2) Yz))) (.aQ 3)) (lT (adW (.dat (.i (-1)))) (mk (aZ 3)) (mk (aZ 4)) bt (mk (aZ 6)) (.op .take (.op .cat (.op .cat (.op .take (rr 12000 wS 15) (rr 12000 wS 14)) (.op .snoc (.dat (.i 0)) (mk (.aQ 3)))) (.op .drop (rr 12000 wS 15) (.add (rr 12000 wS 14) (.lit 1)))) (.add (rr 12000 wS 14) (.lit 1))) (aZ 8) (.lit 0) 3) wI)
theorem aEE (H:TH d0 d1 s th 12 obj arg tries o c dn g r v) (hr:0 < r.l.length) (hv:0 < v.l.length) {n:Nat} {r1:D} (hn:n < r.l.length) (hl:r1.l.length=r.l.length) (hw:r1.l.take n=wo th r.l) (hd:L 12000 (dA d0 s r v th 12 obj arg tries o c dn g)=some (1 :: ((dA d0 s r v th 12 obj arg tries o c dn g)++ [(n:Int),enc r1,(r.l.length:Int)]))):eF (dH d0 d1 s th 12 obj arg tries) aCf=Gl d0 s th 12 obj arg tries o c dn g r v:=by
 have hb:r.l.length≤140737488351232:=by have:=H.hr; omega
 have e3:((n:Int)+1).toNat=n+1:=by omega
 have hA: ∀B,(wo th r.l++ [D.i th]++B).take (n+1)=wo th r.l++ [.i th]:=fun B=>by
  have:(wo th r.l++ [D.i th]).length=n+1:=by rw [← hw]; simp only [List.length_append,List.length_take,List.length_cons,List.length_nil]; omega
  rw [List.take_append_of_le_length (by omega),List.take_of_length_le (by omega)]
 have hB:wo th r.l++ [D.i th]≠[]:=by simp
 simp only [zz,aG.den,Nat.reduceLT,H.hcp,H.jA,H.hR,H.hk,has_is r th hb,dM r th hb,hd,List.cons_append,e3,l_p,kP,aX,yG,List.nil_append,Int.toNat_natCast,hw,hA,N9,Gt hB,aH,Au,fB,dG,dF,bT,bQ,dL,act,Int.reduceEq,Gl] <;> (repeat' split) <;> first | rfl | (exfalso; omega)
abbrev azE:T Lf:=(sp (.eq (ln (aZ 7)) (.lit 0)) (lT (aZ 2) (mk (aZ 3)) (mk (aZ 4)) bt (mk (aZ 6)) (aZ 7) (aZ 8) (.lit 0) 2) (lT (aZ 2) (mk (aZ 3)) (mk (aZ 4)) bt (mk (aZ 6)) (.op .drop (.op .take (aZ 7) (.add (.lit 1) (.sub (ln (aZ 7)) (.lit 1)))) (.lit 1)) (aZ 8) (wr (.add (nm (el (aZ 7) (.lit 0))) (.lit 1))) 2))
theorem aCI (H:TH d0 d1 s th 13 obj arg tries o c dn g r v) (hr:0 < r.l.length):eF (dH d0 d1 s th 13 obj arg tries) azE=Gl d0 s th 13 obj arg tries o c dn g r v:=by
 have hb:r.l.length≤140737488351232:=by have:=H.hr; omega
 simp only [zz,aG.den,Nat.reduceLT,H.hcp,H.jA,H.hR,H.hk,has_is r th hb,dM r th hb,ZV r hr,yG,List.nil_append,aH,Au,fB,dG,dF,bT,bQ,dL,act,Int.reduceEq,Gl] <;> (repeat' split) <;> first | rfl | (exfalso; omega)
abbrev azD:T Lf:=(lT (aZ 2) (mk (aZ 3)) (mk (aZ 4)) bt (mk (aZ 6)) (.dat (.i 1)) (aZ 8) (ln (aZ 7)) 2)
theorem aCH (H:TH d0 d1 s th 14 obj arg tries o c dn g r v) (hr:0 < r.l.length):eF (dH d0 d1 s th 14 obj arg tries) azD=Gl d0 s th 14 obj arg tries o c dn g r v:=by
 have hb:r.l.length≤140737488351232:=by have:=H.hr; omega
 simp only [zz,aG.den,Nat.reduceLT,H.hcp,H.jA,H.hR,H.hk,has_is r th hb,dM r th hb,yG,List.nil_append,aH,Au,fB,dG,dF,bT,bQ,dL,act,Int.reduceEq,Gl] <;> (repeat' split) <;> first | rfl | (exfalso; omega)
abbrev agK:T Lf:=(sp (.eq (rr 900 [aZ 7,.aQ 3] 0) (.lit 0)) (sp (.lt (nm (ce 0 (el (aZ 2) Yz))) (.lit 0)) (lT (adW (mk (.aQ 3))) (mk (aZ 3)) (mk (aZ 4)) bt (mk (aZ 6)) (aZ 7) (aZ 8) (.lit 0) 2) Dx) Dx)
theorem arS (H:TH d0 d1 s th 24 obj arg tries o c dn g r v):eF (dH d0 d1 s th 24 obj arg tries) agK=Gl d0 s th 24 obj arg tries o c dn g r v:=by
 have hb:r.l.length≤140737488351232:=by have:=H.hr; omega
 simp only [zz,aG.den,Nat.reduceLT,H.hcp,H.jA,H.hR,H.hk,has_is r th hb,dM r th hb,aX,yG,List.nil_append,aH,Au,fB,dG,dF,bT,bQ,dL,act,Int.reduceEq,Gl] <;> (repeat' split) <;> first | rfl | (exfalso; omega)
abbrev aCe:T Lf:=(sp (.lt (aZ 6) (.lit 4611686018427387904)) (sp (.eq (wr (.add (aZ 4) (.lit 1))) Yz) (lT (aZ 2) (mk (aZ 3)) (.dat (.i 0)) bt (mk (wr (.add (aZ 6) (.lit 1)))) (aZ 7) (aZ 8) (aZ 6) 3) (lT (aZ 2) (mk (aZ 3)) (mk (wr (.add (aZ 4) (.lit 1)))) bt (mk (aZ 6)) (aZ 7) (aZ 8) (aZ 6) 3)) wI)
theorem aED (H:TH d0 d1 s th 15 obj arg tries o c dn g r v):eF (dH d0 d1 s th 15 obj arg tries) aCe=Gl d0 s th 15 obj arg tries o c dn g r v:=by
 have hb:r.l.length≤140737488351232:=by have:=H.hr; omega
 simp only [zz,aG.den,Nat.reduceLT,H.hcp,H.jA,H.hR,H.hk,has_is r th hb,dM r th hb,aH,Au,fB,dG,dF,bT,bQ,dL,act,Int.reduceEq,Gl] <;> (repeat' split) <;> first | rfl | (exfalso; omega)
abbrev aCd:T Lf:=(sp (.lt (.aQ 6) (aZ 6)) (lT (aZ 2) (mk (aZ 3)) (mk (aZ 4)) bt (mk (aZ 6)) (aZ 7) (aZ 8) (.aQ 6) 2) Dx)
theorem aEC (H:TH d0 d1 s th 25 obj arg tries o c dn g r v):eF (dH d0 d1 s th 25 obj arg tries) aCd=Gl d0 s th 25 obj arg tries o c dn g r v:=by
 have hb:r.l.length≤140737488351232:=by have:=H.hr; omega
 simp only [zz,aG.den,Nat.reduceLT,H.hcp,H.jA,H.hR,H.hk,has_is r th hb,dM r th hb,aH,Au,fB,dG,dF,bT,bQ,dL,act,Int.reduceEq,Gl] <;> (repeat' split) <;> first | rfl | (exfalso; omega)
abbrev aCc:T Lf:=(sp (.eq (aZ 5) (.lit 0)) (sp (.eq (aZ 3) (.aQ 3)) wI (sp (.lt (aZ 3) (.lit 0)) (lT (aZ 2) (mk (.aQ 3)) (mk (aZ 4)) bt (mk (aZ 6)) (aZ 7) (aZ 8) (.lit 1) 2) Dx)) (lT (aZ 2) (mk (aZ 3)) (mk (aZ 4)) bt (mk (aZ 6)) (aZ 7) (aZ 8) (.lit 0) 2))
theorem aEB (H:TH d0 d1 s th 16 obj arg tries o c dn g r v):eF (dH d0 d1 s th 16 obj arg tries) aCc=Gl d0 s th 16 obj arg tries o c dn g r v:=by
 have hb:r.l.length≤140737488351232:=by have:=H.hr; omega
 simp only [zz,aG.den,Nat.reduceLT,H.hcp,H.jA,H.hR,H.hk,has_is r th hb,dM r th hb,aH,Au,fB,dG,dF,bT,bQ,dL,act,Int.reduceEq,Gl] <;> (repeat' split) <;> first | rfl | (exfalso; omega)
abbrev aCb:T Lf:=(sp (.eq (aZ 3) (.aQ 3)) (lT (aZ 2) (.dat (.i (-1))) (mk (aZ 4)) (.dat (.i 1)) (mk (aZ 6)) (aZ 7) (aZ 8) (.lit 0) 2) wI)
theorem aEA (H:TH d0 d1 s th 26 obj arg tries o c dn g r v):eF (dH d0 d1 s th 26 obj arg tries) aCb=Gl d0 s th 26 obj arg tries o c dn g r v:=by
 have hb:r.l.length≤140737488351232:=by have:=H.hr; omega
 simp only [zz,aG.den,Nat.reduceLT,H.hcp,H.jA,H.hR,H.hk,has_is r th hb,dM r th hb,aH,Au,fB,dG,dF,bT,bQ,dL,act,Int.reduceEq,Gl] <;> (repeat' split) <;> first | rfl | (exfalso; omega)
abbrev azC:T Lf:=(sp (.lt (.lit 0) Yz) (lT (aZ 2) (mk (aZ 3)) (mk (aZ 4)) bt (mk (aZ 6)) (aZ 7) (.op .snoc (.dat (.i 0)) (mk (.aQ 6))) (.aQ 6) 2) Dx)
theorem aCG (H:TH d0 d1 s th 20 obj arg tries o c dn g r v) (hv:v.l= []):eF (dH d0 d1 s th 20 obj arg tries) azC=Gl d0 s th 20 obj arg tries o c dn g r v:=by
 have hb:r.l.length≤140737488351232:=by have:=H.hr; omega
 have hz2:((0:Nat):Int)=0:=rfl
 simp only [zz,aG.den,Nat.reduceLT,H.hcp,H.jA,H.hR,H.hk,has_is r th hb,dM r th hb,hv,List.length_nil,List.nil_append,hz2,yG,aH,Au,fB,dG,dF,bT,bQ,dL,act,Int.reduceEq,Gl] <;> (repeat' split) <;> first | rfl | (exfalso; omega)
abbrev azB:T Lf:=Dx
theorem aCF (H:TH d0 d1 s th 21 obj arg tries o c dn g r v) (hv:v.l= []):eF (dH d0 d1 s th 21 obj arg tries) azB=Gl d0 s th 21 obj arg tries o c dn g r v:=by
 have hb:r.l.length≤140737488351232:=by have:=H.hr; omega
 have hz2:((0:Nat):Int)=0:=rfl
 simp only [zz,aG.den,Nat.reduceLT,H.hcp,H.jA,H.hR,H.hk,has_is r th hb,dM r th hb,hv,List.length_nil,List.nil_append,hz2,aH,Au,fB,dG,dF,bT,bQ,dL,act,Int.reduceEq,Gl] <;> (repeat' split) <;> first | rfl | (exfalso; omega)
abbrev aCa:T Lf:=(sp (.eq (nm (ce 0 (el (aZ 2) Yz))) (.aQ 3)) (lT (adW (.dat (.i (-1)))) (mk (aZ 3)) (mk (aZ 4)) bt (mk (aZ 6)) (.op .take (.op .cat (.op .cat (.op .take (rr 12100 wS 15) (rr 12100 wS 14)) (.op .snoc (.dat (.i 0)) (mk (.aQ 3)))) (.op .drop (rr 12100 wS 15) (.add (rr 12100 wS 14) (.lit 1)))) (.add (rr 12100 wS 14) (.lit 1))) (aZ 8) (.lit 0) 3) wI)
theorem aEz (H:TH d0 d1 s th 12 obj arg tries o c dn g r v) (hr:0 < r.l.length) (hv:v.l= []) {n:Nat} {r1:D} (hn:n < r.l.length) (hl:r1.l.length=r.l.length) (hw:r1.l.take n=wo th r.l) (hd:L 12100 (dA d0 s r v th 12 obj arg tries o c dn g)=some (1 :: ((dA d0 s r v th 12 obj arg tries o c dn g)++ [(n:Int),enc r1,(r.l.length:Int)]))):eF (dH d0 d1 s th 12 obj arg tries) aCa=Gl d0 s th 12 obj arg tries o c dn g r v:=by
 have hb:r.l.length≤140737488351232:=by have:=H.hr; omega
 have hz2:((0:Nat):Int)=0:=rfl
 have e3:((n:Int)+1).toNat=n+1:=by omega
 have hA: ∀B,(wo th r.l++ [D.i th]++B).take (n+1)=wo th r.l++ [.i th]:=fun B=>by
  have:(wo th r.l++ [D.i th]).length=n+1:=by rw [← hw]; simp only [List.length_append,List.length_take,List.length_cons,List.length_nil]; omega
  rw [List.take_append_of_le_length (by omega),List.take_of_length_le (by omega)]
 have hB:wo th r.l++ [D.i th]≠[]:=by simp
 simp only [zz,aG.den,Nat.reduceLT,H.hcp,H.jA,H.hR,H.hk,has_is r th hb,dM r th hb,hv,List.length_nil,List.nil_append,hz2,hd,List.cons_append,e3,l_p,kP,aX,yG,Int.toNat_natCast,hw,hA,N9,Gt hB,aH,Au,fB,dG,dF,bT,bQ,dL,act,Int.reduceEq,Gl] <;> (repeat' split) <;> first | rfl | (exfalso; omega)
abbrev azA:T Lf:=(sp (.eq (aZ 3) (.aQ 3)) wI (sp (.eq (rr 900 [aZ 7,.aQ 3] 0) (.lit 0)) (sp (.lt (aZ 3) (.lit 0)) (lT (aZ 2) (mk (aZ 3)) (mk (aZ 4)) bt (mk (aZ 6)) (.op .snoc (.dat (.i 0)) (mk (.aQ 3))) (aZ 8) (.lit 0) 2) Dx) wI))
theorem aCE (H:TH d0 d1 s th 5 obj arg tries o c dn g r v) (hr:r.l= []):eF (dH d0 d1 s th 5 obj arg tries) azA=Gl d0 s th 5 obj arg tries o c dn g r v:=by
 have hb:r.l.length≤140737488351232:=by have:=H.hr; omega
 have hz:((0:Nat):Int)=0:=rfl
 simp only [zz,aG.den,Nat.reduceLT,H.hcp,H.jA,H.hR,H.hk,has_is r th hb,dM r th hb,hr,List.length_nil,List.nil_append,hz,yG,aH,Au,fB,dG,dF,bT,bQ,dL,act,Int.reduceEq,Gl] <;> (repeat' split) <;> first | rfl | (exfalso; omega)
theorem aCD (H:TH d0 d1 s th 7 obj arg tries o c dn g r v) (hr:r.l= []):eF (dH d0 d1 s th 7 obj arg tries) zt0=Gl d0 s th 7 obj arg tries o c dn g r v:=by
 have hb:r.l.length≤140737488351232:=by have:=H.hr; omega
 have hz:((0:Nat):Int)=0:=rfl
 simp only [zz,aG.den,Nat.reduceLT,H.hcp,H.jA,H.hR,H.hk,has_is r th hb,dM r th hb,hr,List.length_nil,List.nil_append,hz,aH,Au,fB,dG,dF,bT,bQ,dL,act,Int.reduceEq,Gl] <;> (repeat' split) <;> first | rfl | (exfalso; omega)
abbrev ayZ:T Lf:=(sp (.eq (nm (ce 0 (el (aZ 2) Yz))) (.aQ 3)) (lT (adW (.dat (.i (-1)))) (mk (aZ 3)) (mk (aZ 4)) bt (mk (aZ 6)) (.op .snoc (.dat (.i 0)) (mk (.aQ 3))) (aZ 8) (.lit 0) 3) wI)
theorem aCC (H:TH d0 d1 s th 12 obj arg tries o c dn g r v) (hr:r.l= []):eF (dH d0 d1 s th 12 obj arg tries) ayZ=Gl d0 s th 12 obj arg tries o c dn g r v:=by
 have hb:r.l.length≤140737488351232:=by have:=H.hr; omega
 have hz:((0:Nat):Int)=0:=rfl
 simp only [zz,aG.den,Nat.reduceLT,H.hcp,H.jA,H.hR,H.hk,has_is r th hb,dM r th hb,hr,List.length_nil,List.nil_append,hz,azI hr,aX,yG,aH,Au,fB,dG,dF,bT,bQ,dL,act,Int.reduceEq,Gl] <;> (repeat' split) <;> first | rfl | (exfalso; omega)
abbrev ayY:T Lf:=(lT (aZ 2) (mk (aZ 3)) (mk (aZ 4)) bt (mk (aZ 6)) (aZ 7) (aZ 8) (.lit 0) 2)
theorem aCB (H:TH d0 d1 s th 13 obj arg tries o c dn g r v) (hr:r.l= []):eF (dH d0 d1 s th 13 obj arg tries) ayY=Gl d0 s th 13 obj arg tries o c dn g r v:=by
 have hb:r.l.length≤140737488351232:=by have:=H.hr; omega
 have hz:((0:Nat):Int)=0:=rfl
 simp only [zz,aG.den,Nat.reduceLT,H.hcp,H.jA,H.hR,H.hk,has_is r th hb,dM r th hb,hr,List.length_nil,List.nil_append,hz,yG,aH,Au,fB,dG,dF,bT,bQ,dL,act,Int.reduceEq,Gl] <;> (repeat' split) <;> first | rfl | (exfalso; omega)
abbrev ayX:T Lf:=(lT (aZ 2) (mk (aZ 3)) (mk (aZ 4)) bt (mk (aZ 6)) (.dat (.i 1)) (aZ 8) (.lit 0) 2)
theorem aCA (H:TH d0 d1 s th 14 obj arg tries o c dn g r v) (hr:r.l= []):eF (dH d0 d1 s th 14 obj arg tries) ayX=Gl d0 s th 14 obj arg tries o c dn g r v:=by
 have hb:r.l.length≤140737488351232:=by have:=H.hr; omega
 have hz:((0:Nat):Int)=0:=rfl
 simp only [zz,aG.den,Nat.reduceLT,H.hcp,H.jA,H.hR,H.hk,has_is r th hb,dM r th hb,hr,List.length_nil,List.nil_append,hz,yG,aH,Au,fB,dG,dF,bT,bQ,dL,act,Int.reduceEq,Gl] <;> (repeat' split) <;> first | rfl | (exfalso; omega)
end
end Go.As.Try
end
section
namespace Go.As.Try
open Go hiding Stat Spec shape
open Go.As
set_option maxRecDepth 100000
def ops:List Int:=[1,2,8,3,4,5,6,7,9,11,10,17,18,19,22,23,20,21,12,13,14,24,15,25,16,26]
abbrev Yo (k:Int):List SB:=[.eq (.aQ 4) (.lit k)]
abbrev No (k:Int):List SB:=(ops.filter fun j=>!(j == k)).map fun j=> .eq (.aQ 4) (.lit j)
abbrev p3:T Lf:=prune (YG++YA3) (NG++NA3) kH
abbrev p4:T Lf:=prune (YG++YA4) (NG++NA4) kH
abbrev p5:T Lf:=prune (YG++YA5) (NG++NA5) kH
abbrev p6:T Lf:=prune (YG++YA6) (NG++NA6) kH
section
variable {d0 d1 s r v:D} {th op obj arg tries o c dn g:Int}
theorem agN {ρ:Nat→Int}: ∀{l:List SB},(∀c∈l,¬c.den ρ=true)→zW ρ l
 | [],_=>trivial
 | c :: l,h=> ⟨h c (by simp),agN fun x hx=>h x (List.mem_cons_of_mem _ hx)⟩
theorem fO (k:Int):zY (dH d0 d1 s th k obj arg tries) (Yo k)∧zW (dH d0 d1 s th k obj arg tries) (No k):=by
 refine⟨by simp only [zz,aG.den,Nat.reduceLT],agN fun c hc=>?_⟩
 obtain⟨j,hj,rfl⟩:=List.mem_map.1 hc
 have:=(List.mem_filter.1 hj).2
 simp only [zz,aG.den,Nat.reduceLT]
 intro h
 subst h
 simp at this
theorem sp3 (H:TH d0 d1 s th op obj arg tries o c dn g r v) (hr:0 < r.l.length) (hv:0 < v.l.length):eF (dH d0 d1 s th op obj arg tries) p3=eF (dH d0 d1 s th op obj arg tries) kH:=dJ (z2 (fG H) (fA3 H hr hv)) kH
theorem sp4 (H:TH d0 d1 s th op obj arg tries o c dn g r v) (hr:0 < r.l.length) (hv:v.l= []):eF (dH d0 d1 s th op obj arg tries) p4=eF (dH d0 d1 s th op obj arg tries) kH:=dJ (z2 (fG H) (fA4 H hr hv)) kH
theorem sp5 (H:TH d0 d1 s th op obj arg tries o c dn g r v) (hr:r.l= []) (hv:0 < v.l.length):eF (dH d0 d1 s th op obj arg tries) p5=eF (dH d0 d1 s th op obj arg tries) kH:=dJ (z2 (fG H) (fA5 H hr hv)) kH
theorem sp6 (H:TH d0 d1 s th op obj arg tries o c dn g r v) (hr:r.l= []) (hv:v.l= []):eF (dH d0 d1 s th op obj arg tries) p6=eF (dH d0 d1 s th op obj arg tries) kH:=dJ (z2 (fG H) (fA6 H hr hv)) kH
theorem jY {k:Int} {t u:T Lf} {Q:RS} (e:prune (Yo k) (No k) t=u) (h:eF (dH d0 d1 s th k obj arg tries) u=Q):eF (dH d0 d1 s th k obj arg tries) t=Q:=by rw [← dJ (fO k) t,e,h]
theorem jZ (H:TH d0 d1 s th op obj arg tries o c dn g r v) {u:T Lf} {Q:RS} (e3:prune (Yo op) (No op) p3=u) (e4:prune (Yo op) (No op) p4=u) (e5:prune (Yo op) (No op) p5=u) (e6:prune (Yo op) (No op) p6=u) (h:eF (dH d0 d1 s th op obj arg tries) u=Q):eF (dH d0 d1 s th op obj arg tries) kH=Q:=by
 rcases kR r.l with hr | hr <;> rcases kR v.l with hv | hv
 ·exact (sp6 H hr hv).symm.trans (jY e6 h)
 ·exact (sp5 H hr hv).symm.trans (jY e5 h)
 ·exact (sp4 H hr hv).symm.trans (jY e4 h)
 ·exact (sp3 H hr hv).symm.trans (jY e3 h)
theorem o1 (H:TH d0 d1 s th 1 obj arg tries o c dn g r v):eF (dH d0 d1 s th 1 obj arg tries) kH=Gl d0 s th 1 obj arg tries o c dn g r v:=jZ H (u:=zt0) (by kernel_rfl) (by kernel_rfl) (by kernel_rfl) (by kernel_rfl) (sm0 H)
theorem o2 (H:TH d0 d1 s th 2 obj arg tries o c dn g r v):eF (dH d0 d1 s th 2 obj arg tries) kH=Gl d0 s th 2 obj arg tries o c dn g r v:=jZ H (u:=zt1) (by kernel_rfl) (by kernel_rfl) (by kernel_rfl) (by kernel_rfl) (sm1 H)
theorem o8 (H:TH d0 d1 s th 8 obj arg tries o c dn g r v):eF (dH d0 d1 s th 8 obj arg tries) kH=Gl d0 s th 8 obj arg tries o c dn g r v:=jZ H (u:=zt1) (by kernel_rfl) (by kernel_rfl) (by kernel_rfl) (by kernel_rfl) (sm2 H)
theorem o3 (H:TH d0 d1 s th 3 obj arg tries o c dn g r v):eF (dH d0 d1 s th 3 obj arg tries) kH=Gl d0 s th 3 obj arg tries o c dn g r v:=jZ H (u:=zt2) (by kernel_rfl) (by kernel_rfl) (by kernel_rfl) (by kernel_rfl) (sm3 H)
theorem o4 (H:TH d0 d1 s th 4 obj arg tries o c dn g r v):eF (dH d0 d1 s th 4 obj arg tries) kH=Gl d0 s th 4 obj arg tries o c dn g r v:=jZ H (u:=zt3) (by kernel_rfl) (by kernel_rfl) (by kernel_rfl) (by kernel_rfl) (sm4 H)
theorem o5 (H:TH d0 d1 s th 5 obj arg tries o c dn g r v):eF (dH d0 d1 s th 5 obj arg tries) kH=Gl d0 s th 5 obj arg tries o c dn g r v:=by
 rcases kR r.l with hr | hr <;> rcases kR v.l with hv | hv
 ·exact (sp6 H hr hv).symm.trans (jY (u:=azA) (by kernel_rfl) (aCE H hr))
 ·exact (sp5 H hr hv).symm.trans (jY (u:=azA) (by kernel_rfl) (aCE H hr))
 ·exact (sp4 H hr hv).symm.trans (jY (u:=zt4) (by kernel_rfl) (sm5 H hr))
 ·exact (sp3 H hr hv).symm.trans (jY (u:=zt4) (by kernel_rfl) (sm5 H hr))
theorem o6 (H:TH d0 d1 s th 6 obj arg tries o c dn g r v):eF (dH d0 d1 s th 6 obj arg tries) kH=Gl d0 s th 6 obj arg tries o c dn g r v:=by
 rcases kR r.l with hr | hr <;> rcases kR v.l with hv | hv
 ·exact (sp6 H hr hv).symm.trans (jY (u:=zt5) (by kernel_rfl) (sm6 H (by rw [CO hr]; omega)))
 ·exact (sp5 H hr hv).symm.trans (jY (u:=zt5) (by kernel_rfl) (sm6 H (by rw [CO hr]; omega)))
 ·by_cases hk:place r th < 0
  ·exact (sp4 H hr hv).symm.trans ((dJ (fK0 H hk) _).symm.trans (jY (u:=zt5) (by kernel_rfl) (sm6 H hk)))
  ·exact (sp4 H hr hv).symm.trans ((dJ (fK1 H hk) _).symm.trans (jY (u:=zt6) (by kernel_rfl) (sm7 H hr hk)))
 ·by_cases hk:place r th < 0
  ·exact (sp3 H hr hv).symm.trans ((dJ (fK0 H hk) _).symm.trans (jY (u:=zt5) (by kernel_rfl) (sm6 H hk)))
  ·exact (sp3 H hr hv).symm.trans ((dJ (fK1 H hk) _).symm.trans (jY (u:=zt6) (by kernel_rfl) (sm7 H hr hk)))
theorem o7 (H:TH d0 d1 s th 7 obj arg tries o c dn g r v):eF (dH d0 d1 s th 7 obj arg tries) kH=Gl d0 s th 7 obj arg tries o c dn g r v:=by
 rcases kR r.l with hr | hr <;> rcases kR v.l with hv | hv
 ·exact (sp6 H hr hv).symm.trans (jY (u:=zt0) (by kernel_rfl) (aCD H hr))
 ·exact (sp5 H hr hv).symm.trans (jY (u:=zt0) (by kernel_rfl) (aCD H hr))
 ·exact (sp4 H hr hv).symm.trans (jY (u:=zt7) (by kernel_rfl) (sm8 H hr))
 ·exact (sp3 H hr hv).symm.trans (jY (u:=zt7) (by kernel_rfl) (sm8 H hr))
theorem o9 (H:TH d0 d1 s th 9 obj arg tries o c dn g r v):eF (dH d0 d1 s th 9 obj arg tries) kH=Gl d0 s th 9 obj arg tries o c dn g r v:=jZ H (u:=zt8) (by kernel_rfl) (by kernel_rfl) (by kernel_rfl) (by kernel_rfl) (sm9 H)
theorem o11 (H:TH d0 d1 s th 11 obj arg tries o c dn g r v):eF (dH d0 d1 s th 11 obj arg tries) kH=Gl d0 s th 11 obj arg tries o c dn g r v:=jZ H (u:=zt9) (by kernel_rfl) (by kernel_rfl) (by kernel_rfl) (by kernel_rfl) (aEL H)
theorem o10 (H:TH d0 d1 s th 10 obj arg tries o c dn g r v):eF (dH d0 d1 s th 10 obj arg tries) kH=Gl d0 s th 10 obj arg tries o c dn g r v:=jZ H (u:=aCl) (by kernel_rfl) (by kernel_rfl) (by kernel_rfl) (by kernel_rfl) (aEK H)
theorem o17 (H:TH d0 d1 s th 17 obj arg tries o c dn g r v):eF (dH d0 d1 s th 17 obj arg tries) kH=Gl d0 s th 17 obj arg tries o c dn g r v:=jZ H (u:=aCk) (by kernel_rfl) (by kernel_rfl) (by kernel_rfl) (by kernel_rfl) (aEJ H)
theorem o18 (H:TH d0 d1 s th 18 obj arg tries o c dn g r v):eF (dH d0 d1 s th 18 obj arg tries) kH=Gl d0 s th 18 obj arg tries o c dn g r v:=jZ H (u:=aCj) (by kernel_rfl) (by kernel_rfl) (by kernel_rfl) (by kernel_rfl) (aEI H)
theorem o19 (H:TH d0 d1 s th 19 obj arg tries o c dn g r v):eF (dH d0 d1 s th 19 obj arg tries) kH=Gl d0 s th 19 obj arg tries o c dn g r v:=jZ H (u:=aCi) (by kernel_rfl) (by kernel_rfl) (by kernel_rfl) (by kernel_rfl) (aEH H)
theorem o22 (H:TH d0 d1 s th 22 obj arg tries o c dn g r v):eF (dH d0 d1 s th 22 obj arg tries) kH=Gl d0 s th 22 obj arg tries o c dn g r v:=jZ H (u:=aCh) (by kernel_rfl) (by kernel_rfl) (by kernel_rfl) (by kernel_rfl) (aEG H)
theorem o23 (H:TH d0 d1 s th 23 obj arg tries o c dn g r v):eF (dH d0 d1 s th 23 obj arg tries) kH=Gl d0 s th 23 obj arg tries o c dn g r v:=jZ H (u:=aCg) (by kernel_rfl) (by kernel_rfl) (by kernel_rfl) (by kernel_rfl) (aEF H)
theorem o20 (H:TH d0 d1 s th 20 obj arg tries o c dn g r v):eF (dH d0 d1 s th 20 obj arg tries) kH=Gl d0 s th 20 obj arg tries o c dn g r v:=by
 rcases kR r.l with hr | hr <;> rcases kR v.l with hv | hv
 ·exact (sp6 H hr hv).symm.trans (jY (u:=azC) (by kernel_rfl) (aCG H hv))
 ·exact (sp5 H hr hv).symm.trans (jY (u:=azH) (by kernel_rfl) (aCL H hv))
 ·exact (sp4 H hr hv).symm.trans (jY (u:=azC) (by kernel_rfl) (aCG H hv))
 ·exact (sp3 H hr hv).symm.trans (jY (u:=azH) (by kernel_rfl) (aCL H hv))
theorem o21 (H:TH d0 d1 s th 21 obj arg tries o c dn g r v):eF (dH d0 d1 s th 21 obj arg tries) kH=Gl d0 s th 21 obj arg tries o c dn g r v:=by
 rcases kR r.l with hr | hr <;> rcases kR v.l with hv | hv
 ·exact (sp6 H hr hv).symm.trans (jY (u:=azB) (by kernel_rfl) (aCF H hv))
 ·exact (sp5 H hr hv).symm.trans (jY (u:=azG) (by kernel_rfl) (aCK H hv))
 ·exact (sp4 H hr hv).symm.trans (jY (u:=azB) (by kernel_rfl) (aCF H hv))
 ·exact (sp3 H hr hv).symm.trans (jY (u:=azG) (by kernel_rfl) (aCK H hv))
theorem o12 (H:TH d0 d1 s th 12 obj arg tries o c dn g r v):eF (dH d0 d1 s th 12 obj arg tries) kH=Gl d0 s th 12 obj arg tries o c dn g r v:=by
 rcases kR r.l with hr | hr <;> rcases kR v.l with hv | hv
 ·have hd:=auW r th obj (Mx d0 obj) (enc (dL (iK s.l (Mx d0 obj) (dL (iK (s.at (Mx d0 obj)).l 0 (.i (-1))))))) 12 arg tries o c dn g (enc v)
  exact (sp6 H hr hv).symm.trans ((dJ (fM H (by omega)) _).symm.trans ((dJ (aFb H hd) _).symm.trans (jY (u:=ayZ) (by kernel_rfl) (aCC H hr))))
 ·have hd:=auX r th obj (Mx d0 obj) (enc (dL (iK s.l (Mx d0 obj) (dL (iK (s.at (Mx d0 obj)).l 0 (.i (-1))))))) 12 arg tries o c dn g (enc v)
  exact (sp5 H hr hv).symm.trans ((dJ (fM H (by omega)) _).symm.trans ((dJ (aFc H hd) _).symm.trans (jY (u:=ayZ) (by kernel_rfl) (aCC H hr))))
 ·rcases auY r th (by have:=H.hr; omega) H.hn with ⟨hw,hd⟩ | hd
  ·have hd:=hd obj (Mx d0 obj) (enc (dL (iK s.l (Mx d0 obj) (dL (iK (s.at (Mx d0 obj)).l 0 (.i (-1))))))) 12 arg tries o c dn g (enc v)
   exact (sp4 H hr hv).symm.trans ((dJ (fM H (by omega)) _).symm.trans ((dJ (aFd H hd) _).symm.trans (jY (u:=azF) (by kernel_rfl) (aCJ H hr hw))))
  ·obtain⟨n,r1,hn,hl,hw,hd⟩:=hd obj (Mx d0 obj) (enc (dL (iK s.l (Mx d0 obj) (dL (iK (s.at (Mx d0 obj)).l 0 (.i (-1))))))) 12 arg tries o c dn g (enc v)
   exact (sp4 H hr hv).symm.trans ((dJ (fM H (by omega)) _).symm.trans ((dJ (aFe H hn hl hd) _).symm.trans (jY (u:=aCa) (by kernel_rfl) (aEz H hr hv hn hl hw hd))))
 ·rcases auZ r th (by have:=H.hr; omega) H.hn with ⟨hw,hd⟩ | hd
  ·have hd:=hd obj (Mx d0 obj) (enc (dL (iK s.l (Mx d0 obj) (dL (iK (s.at (Mx d0 obj)).l 0 (.i (-1))))))) 12 arg tries o c dn g (enc v)
   exact (sp3 H hr hv).symm.trans ((dJ (fM H (by omega)) _).symm.trans ((dJ (aFf H hd) _).symm.trans (jY (u:=azF) (by kernel_rfl) (aCJ H hr hw))))
  ·obtain⟨n,r1,hn,hl,hw,hd⟩:=hd obj (Mx d0 obj) (enc (dL (iK s.l (Mx d0 obj) (dL (iK (s.at (Mx d0 obj)).l 0 (.i (-1))))))) 12 arg tries o c dn g (enc v)
   exact (sp3 H hr hv).symm.trans ((dJ (fM H (by omega)) _).symm.trans ((dJ (aFg H hn hl hd) _).symm.trans (jY (u:=aCf) (by kernel_rfl) (aEE H hr hv hn hl hw hd))))
theorem o13 (H:TH d0 d1 s th 13 obj arg tries o c dn g r v):eF (dH d0 d1 s th 13 obj arg tries) kH=Gl d0 s th 13 obj arg tries o c dn g r v:=by
 rcases kR r.l with hr | hr <;> rcases kR v.l with hv | hv
 ·exact (sp6 H hr hv).symm.trans (jY (u:=ayY) (by kernel_rfl) (aCB H hr))
 ·exact (sp5 H hr hv).symm.trans (jY (u:=ayY) (by kernel_rfl) (aCB H hr))
 ·exact (sp4 H hr hv).symm.trans (jY (u:=azE) (by kernel_rfl) (aCI H hr))
 ·exact (sp3 H hr hv).symm.trans (jY (u:=azE) (by kernel_rfl) (aCI H hr))
theorem o14 (H:TH d0 d1 s th 14 obj arg tries o c dn g r v):eF (dH d0 d1 s th 14 obj arg tries) kH=Gl d0 s th 14 obj arg tries o c dn g r v:=by
 rcases kR r.l with hr | hr <;> rcases kR v.l with hv | hv
 ·exact (sp6 H hr hv).symm.trans (jY (u:=ayX) (by kernel_rfl) (aCA H hr))
 ·exact (sp5 H hr hv).symm.trans (jY (u:=ayX) (by kernel_rfl) (aCA H hr))
 ·exact (sp4 H hr hv).symm.trans (jY (u:=azD) (by kernel_rfl) (aCH H hr))
 ·exact (sp3 H hr hv).symm.trans (jY (u:=azD) (by kernel_rfl) (aCH H hr))
theorem o24 (H:TH d0 d1 s th 24 obj arg tries o c dn g r v):eF (dH d0 d1 s th 24 obj arg tries) kH=Gl d0 s th 24 obj arg tries o c dn g r v:=by
 rcases kR r.l with hr | hr <;> rcases kR v.l with hv | hv
 ·exact (sp6 H hr hv).symm.trans ((dJ (fM H (by omega)) _).symm.trans (jY (u:=agK) (by kernel_rfl) (arS H)))
 ·exact (sp5 H hr hv).symm.trans ((dJ (fM H (by omega)) _).symm.trans (jY (u:=agK) (by kernel_rfl) (arS H)))
 ·exact (sp4 H hr hv).symm.trans ((dJ (fM H (by omega)) _).symm.trans (jY (u:=agK) (by kernel_rfl) (arS H)))
 ·exact (sp3 H hr hv).symm.trans ((dJ (fM H (by omega)) _).symm.trans (jY (u:=agK) (by kernel_rfl) (arS H)))
theorem o15 (H:TH d0 d1 s th 15 obj arg tries o c dn g r v):eF (dH d0 d1 s th 15 obj arg tries) kH=Gl d0 s th 15 obj arg tries o c dn g r v:=jZ H (u:=aCe) (by kernel_rfl) (by kernel_rfl) (by kernel_rfl) (by kernel_rfl) (aED H)
theorem o25 (H:TH d0 d1 s th 25 obj arg tries o c dn g r v):eF (dH d0 d1 s th 25 obj arg tries) kH=Gl d0 s th 25 obj arg tries o c dn g r v:=jZ H (u:=aCd) (by kernel_rfl) (by kernel_rfl) (by kernel_rfl) (by kernel_rfl) (aEC H)
theorem o16 (H:TH d0 d1 s th 16 obj arg tries o c dn g r v):eF (dH d0 d1 s th 16 obj arg tries) kH=Gl d0 s th 16 obj arg tries o c dn g r v:=jZ H (u:=aCc) (by kernel_rfl) (by kernel_rfl) (by kernel_rfl) (by kernel_rfl) (aEB H)
theorem o26 (H:TH d0 d1 s th 26 obj arg tries o c dn g r v):eF (dH d0 d1 s th 26 obj arg tries) kH=Gl d0 s th 26 obj arg tries o c dn g r v:=jZ H (u:=aCb) (by kernel_rfl) (by kernel_rfl) (by kernel_rfl) (by kernel_rfl) (aEA H)
theorem aqT (H:TH d0 d1 s th op obj arg tries o c dn g r v) (hop:op∈ops):L 400 [enc d0,enc d1,enc s,th,op,obj,arg,tries]=some (outA s th op obj (Mx d0 obj) (act (Mx d0 obj) (Mo d0 s obj) th op arg tries o c dn g r v)):=by
 rw [aT,aBZ]
 suffices h:eF (dH d0 d1 s th op obj arg tries) kH=Gl d0 s th op obj arg tries o c dn g r v by rw [h]; rfl
 unfold ops at hop
 simp only [List.mem_cons,List.not_mem_nil,or_false] at hop
 rcases hop with rfl | rfl | rfl | rfl | rfl | rfl | rfl | rfl | rfl | rfl | rfl | rfl | rfl | rfl | rfl | rfl | rfl | rfl | rfl | rfl | rfl | rfl | rfl | rfl | rfl | rfl
 ·exact o1 H
 ·exact o2 H
 ·exact o8 H
 ·exact o3 H
 ·exact o4 H
 ·exact o5 H
 ·exact o6 H
 ·exact o7 H
 ·exact o9 H
 ·exact o11 H
 ·exact o10 H
 ·exact o17 H
 ·exact o18 H
 ·exact o19 H
 ·exact o22 H
 ·exact o23 H
 ·exact o20 H
 ·exact o21 H
 ·exact o12 H
 ·exact o13 H
 ·exact o14 H
 ·exact o24 H
 ·exact o15 H
 ·exact o25 H
 ·exact o16 H
 ·exact o26 H
end
end Go.As.Try
end
section
namespace Go.As.Try
open Go hiding Stat Spec shape
open Go.As
set_option maxRecDepth 100000
abbrev akH:T Lf:=ou [.op .set (aZ 2) (thg (mk (aZ 3)) (mk (aZ 4)) bt (mk (aZ 6)) (aZ 7) (aZ 8)),.lit 0,.lit 0,.lit 0,.lit 0,.lit 0,.lit 0]
abbrev Ya (a:Int):List SB:=[.eq (a0 9000 [.aQ 5,.aQ 2]) (.lit 1),.eq (aZ 0) (.lit a),.eq (a0 350 [.aQ 0,.aQ 1,.aQ 2]) (.lit 1)]
abbrev Na (a:Int):List SB:=([0,1,2,3,4,5].filter fun j=>!(j == a)).map fun j=> .eq (aZ 0) (.lit j)
abbrev r3:SB:=.eq (rr 350 [.aQ 0,.aQ 1,.aQ 2] 0) (.lit 0)
abbrev t3:SB:=.lt (.aQ 3) (.lit 0)
abbrev u3:SB:=.lt (.aQ 3) (ln (.aQ 1))
section
variable {d0 d1 s r v:D} {th op obj arg tries o c dn g b kop a:Int} (hR:L 350 [enc d0,enc d1,enc s]=some [b])
include hR
theorem fa {l:List Int} (hc:L 9000 [obj,enc s]=some (a :: l)):zY (dH d0 d1 s th op obj arg tries) (Ya a)∧zW (dH d0 d1 s th op obj arg tries) (Na a):=by
 refine⟨by simp only [zz,aG.den,Nat.reduceLT,hc,hR],agN fun c hc'=>?_⟩
 obtain⟨j,hj,rfl⟩:=List.mem_map.1 hc'
 have:=(List.mem_filter.1 hj).2
 simp only [zz,aG.den,Nat.reduceLT,hc]
 intro h
 subst h
 simp at this
theorem wM (k:eF (dH d0 d1 s th op obj arg tries) kH= .out [enc s,0,0,0,0,0,0]):L 400 [enc d0,enc d1,enc s,th,op,obj,arg,tries]=some [enc s,0,0,0,0,0,0]:=by
 rw [aT,aBZ]
 exact congrArg (fin L) k
section
variable (ha:a=3∨a=4∨a=5∨a=6) (hcp:L 9000 [obj,enc s]=some [a,obj,enc s,o,c,dn,g,enc r,enc v]) (Bv:0≤obj) (Bq:obj < (s.l.length:Int)) (hd:dn=0∨dn=1) (hs:s=dL (iK s.l obj (dL [.i o,.i c,.i dn,.i g,r,v])))
include ha hcp Bv Bq hd hs
omit ha hR Bv Bq in
theorem JX:eF (dH d0 d1 s th op obj arg tries) akH= .out [enc s,0,0,0,0,0,0]:=by
 have e:(if dn=0 then (0:Int) else 1)=dn:=by rcases hd with rfl | rfl <;> rfl
 simp only [dL] at hs
 simp only [zz,aG.den,Nat.reduceLT,hcp,e,← hs]
theorem aEP (h:b=0):L 400 [enc d0,enc d1,enc s,th,op,obj,arg,tries]=some [enc s,0,0,0,0,0,0]:=
 wM hR (bV (Ya a++ [r3]) (Na a++ []) akH (z2 (fa hR hcp) (by simp only [zz,aG.den,Nat.reduceLT,hcp,hR] <;> omega)) (by rcases ha with rfl | rfl | rfl | rfl <;> kernel_rfl) (JX hcp hd hs))
theorem aEO (hb:b≠0) (h:th < 0):L 400 [enc d0,enc d1,enc s,th,op,obj,arg,tries]=some [enc s,0,0,0,0,0,0]:=
 wM hR (bV (Ya a++ [t3]) (Na a++ [r3]) akH (z2 (fa hR hcp) (by simp only [zz,aG.den,Nat.reduceLT,hcp,hR] <;> omega)) (by rcases ha with rfl | rfl | rfl | rfl <;> kernel_rfl) (JX hcp hd hs))
theorem aEN (hb:b≠0) (h0:0≤th) (h: ¬th < (d1.l.length:Int)):L 400 [enc d0,enc d1,enc s,th,op,obj,arg,tries]=some [enc s,0,0,0,0,0,0]:=
 wM hR (bV (Ya a++ []) (Na a++ [r3,t3,u3]) akH (z2 (fa hR hcp) (by simp only [zz,aG.den,Nat.reduceLT,hcp,hR] <;> omega)) (by rcases ha with rfl | rfl | rfl | rfl <;> kernel_rfl) (JX hcp hd hs))
theorem aEQ (hb:b≠0) (h0:0≤th) (h:th < (d1.l.length:Int)) (hk:L 600 [op]=some [kop]) (hlen:s.l.length=d0.l.length) (hne: ¬kop=((d0.at obj).hd 0).n):L 400 [enc d0,enc d1,enc s,th,op,obj,arg,tries]=some [enc s,0,0,0,0,0,0]:=
 wM hR (bV (Ya a++ [u3,.lt (.aQ 5) (ln (aZ 2)),.eq (a0 600 [.aQ 4]) (.lit 1),.lt (.aQ 5) (ln (.aQ 0))]) (Na a++ [r3,t3,.lt (.aQ 5) (.lit 0),.eq (rr 600 [.aQ 4] 0) (nm (ce 0 (el (.aQ 0) (.aQ 5))))]) akH (z2 (fa hR hcp) (by simp only [zz,aG.den,Nat.reduceLT,hcp,hR,hk] <;> omega)) (by rcases ha with rfl | rfl | rfl | rfl <;> kernel_rfl) (JX hcp hd hs))
end
theorem aCV (hcp:L 9000 [obj,enc s]=some [0,obj,enc s]) (h:obj < 0):L 400 [enc d0,enc d1,enc s,th,op,obj,arg,tries]=some [enc s,0,0,0,0,0,0]:=
 wM hR (bV (Ya 0++ [.lt (.aQ 5) (.lit 0)]) (Na 0++ []) (sp r3 (ou [aZ 2,.lit 0,.lit 0,.lit 0,.lit 0,.lit 0,.lit 0]) (sp t3 (ou [aZ 2,.lit 0,.lit 0,.lit 0,.lit 0,.lit 0,.lit 0]) (sp u3 (ou [aZ 2,.lit 0,.lit 0,.lit 0,.lit 0,.lit 0,.lit 0]) (ou [aZ 2,.lit 0,.lit 0,.lit 0,.lit 0,.lit 0,.lit 0])))) (z2 (fa hR hcp) (by simp only [zz,aG.den,Nat.reduceLT,hcp] <;> omega)) (by kernel_rfl) (by simp only [zz,aG.den,Nat.reduceLT,hcp,hR,ite_self]))
theorem aCU (hcp:L 9000 [obj,enc s]=some [0,obj,enc s]) (h0:0≤obj) (h: ¬obj < (s.l.length:Int)):L 400 [enc d0,enc d1,enc s,th,op,obj,arg,tries]=some [enc s,0,0,0,0,0,0]:=
 wM hR (bV (Ya 0++ []) (Na 0++ [.lt (.aQ 5) (.lit 0),.lt (.aQ 5) (ln (aZ 2))]) (sp r3 (ou [aZ 2,.lit 0,.lit 0,.lit 0,.lit 0,.lit 0,.lit 0]) (sp t3 (ou [aZ 2,.lit 0,.lit 0,.lit 0,.lit 0,.lit 0,.lit 0]) (sp u3 (ou [aZ 2,.lit 0,.lit 0,.lit 0,.lit 0,.lit 0,.lit 0]) (ou [aZ 2,.lit 0,.lit 0,.lit 0,.lit 0,.lit 0,.lit 0])))) (z2 (fa hR hcp) (by simp only [zz,aG.den,Nat.reduceLT,hcp] <;> omega)) (by kernel_rfl) (by simp only [zz,aG.den,Nat.reduceLT,hcp,hR,ite_self]))
theorem aCT (hcp:L 9000 [obj,enc s]=some [1,obj]) (h:obj < 0) (hs:s= .i 1):L 400 [enc d0,enc d1,enc s,th,op,obj,arg,tries]=some [enc s,0,0,0,0,0,0]:=
 wM hR (bV (Ya 1++ [.lt (.aQ 5) (.lit 0)]) (Na 1++ []) (sp r3 (ou [.dat (.i 1),.lit 0,.lit 0,.lit 0,.lit 0,.lit 0,.lit 0]) (sp t3 (ou [.dat (.i 1),.lit 0,.lit 0,.lit 0,.lit 0,.lit 0,.lit 0]) (sp u3 (ou [.dat (.i 1),.lit 0,.lit 0,.lit 0,.lit 0,.lit 0,.lit 0]) (ou [.dat (.i 1),.lit 0,.lit 0,.lit 0,.lit 0,.lit 0,.lit 0])))) (z2 (fa hR hcp) (by simp only [zz,aG.den,Nat.reduceLT,hcp] <;> omega)) (by kernel_rfl) (by simp only [zz,aG.den,Nat.reduceLT,hcp,hR,hs,ite_self]))
theorem aCS (hcp:L 9000 [obj,enc s]=some [1,obj]) (h0:0≤obj) (h: ¬obj < (s.l.length:Int)) (hs:s= .i 1):L 400 [enc d0,enc d1,enc s,th,op,obj,arg,tries]=some [enc s,0,0,0,0,0,0]:=
 wM hR (bV (Ya 1++ []) (Na 1++ [.lt (.aQ 5) (.lit 0)]) (sp r3 (ou [.dat (.i 1),.lit 0,.lit 0,.lit 0,.lit 0,.lit 0,.lit 0]) (sp t3 (ou [.dat (.i 1),.lit 0,.lit 0,.lit 0,.lit 0,.lit 0,.lit 0]) (sp u3 (ou [.dat (.i 1),.lit 0,.lit 0,.lit 0,.lit 0,.lit 0,.lit 0]) (ou [.dat (.i 1),.lit 0,.lit 0,.lit 0,.lit 0,.lit 0,.lit 0])))) (z2 (fa hR hcp) (by simp only [zz,aG.den,Nat.reduceLT,hcp] <;> omega)) (by kernel_rfl) (by simp only [zz,aG.den,Nat.reduceLT,hcp,hR,hs,ite_self]))
theorem aCR (hcp:L 9000 [obj,enc s]=some [2,obj]) (h:obj < 0) (hs:s= .i 2):L 400 [enc d0,enc d1,enc s,th,op,obj,arg,tries]=some [enc s,0,0,0,0,0,0]:=
 wM hR (bV (Ya 2++ [.lt (.aQ 5) (.lit 0)]) (Na 2++ []) (sp r3 (ou [.dat (.i 2),.lit 0,.lit 0,.lit 0,.lit 0,.lit 0,.lit 0]) (sp t3 (ou [.dat (.i 2),.lit 0,.lit 0,.lit 0,.lit 0,.lit 0,.lit 0]) (sp u3 (ou [.dat (.i 2),.lit 0,.lit 0,.lit 0,.lit 0,.lit 0,.lit 0]) (ou [.dat (.i 2),.lit 0,.lit 0,.lit 0,.lit 0,.lit 0,.lit 0])))) (z2 (fa hR hcp) (by simp only [zz,aG.den,Nat.reduceLT,hcp] <;> omega)) (by kernel_rfl) (by simp only [zz,aG.den,Nat.reduceLT,hcp,hR,hs,ite_self]))
theorem aCQ (hcp:L 9000 [obj,enc s]=some [2,obj]) (h0:0≤obj) (h: ¬obj < (s.l.length:Int)) (hs:s= .i 2):L 400 [enc d0,enc d1,enc s,th,op,obj,arg,tries]=some [enc s,0,0,0,0,0,0]:=
 wM hR (bV (Ya 2++ []) (Na 2++ [.lt (.aQ 5) (.lit 0)]) (sp r3 (ou [.dat (.i 2),.lit 0,.lit 0,.lit 0,.lit 0,.lit 0,.lit 0]) (sp t3 (ou [.dat (.i 2),.lit 0,.lit 0,.lit 0,.lit 0,.lit 0,.lit 0]) (sp u3 (ou [.dat (.i 2),.lit 0,.lit 0,.lit 0,.lit 0,.lit 0,.lit 0]) (ou [.dat (.i 2),.lit 0,.lit 0,.lit 0,.lit 0,.lit 0,.lit 0])))) (z2 (fa hR hcp) (by simp only [zz,aG.den,Nat.reduceLT,hcp] <;> omega)) (by kernel_rfl) (by simp only [zz,aG.den,Nat.reduceLT,hcp,hR,hs,ite_self]))
end
end Go.As.Try
end
section
namespace Go.As.Try
open Go hiding Stat Spec shape
open Go.As
set_option maxRecDepth 100000
def kindOf (o:Int):Int:=if o < 27 then (if o=0 then 0 else if o=1 then 1 else if o=2 then 1 else if o=3 then 1 else if o=4 then 1 else if o=5 then 2 else if o=6 then 2 else if o=7 then 2 else if o=8 then 2 else if o=9 then 3 else if o=10 then 3 else if o=11 then 3 else if o=12 then 4 else if o=13 then 4 else if o=14 then 4 else if o=15 then 5 else if o=16 then 6 else if o=17 then 7 else if o=18 then 7 else if o=19 then 7 else if o=20 then 8 else if o=21 then 8 else if o=22 then 9 else if o=23 then 9 else if o=24 then 4 else if o=25 then 5 else 6) else 0
theorem VW (o:Int) (h:iT .u8 o):L 600 [o]=some [kindOf o]:=by
 have h1:=h.1
 have w:=aCo h
 have c1: ¬(o < 0):=by omega
 rw [aT,aEk]
 simp only [azT,zz,aG.den,Nat.reduceLT,w,c1]
 by_cases h27:o < 27
 ·simp only [if_pos h27]
  have:o=0∨o=1∨o=2∨o=3∨o=4∨o=5∨o=6∨o=7∨o=8∨o=9∨o=10∨o=11∨o=12∨o=13∨o=14∨o=15∨o=16∨o=17∨o=18∨o=19∨o=20∨o=21∨o=22∨o=23∨o=24∨o=25∨o=26:=by omega
  rcases this with rfl | rfl | rfl | rfl | rfl | rfl | rfl | rfl | rfl | rfl | rfl | rfl | rfl | rfl | rfl | rfl | rfl | rfl | rfl | rfl | rfl | rfl | rfl | rfl | rfl | rfl | rfl
  all_goals rfl
 ·simp only [if_neg h27]
  unfold kindOf
  rw [if_neg h27]
  rfl
theorem alA {o:Int} (h0:0≤o) (h:kindOf o≠0):o∈ops:=by
 have h27:o < 27:=by
  refine Decidable.byContradiction fun hn=>h ?_
  unfold kindOf
  rw [if_neg hn]
 have:o=0∨o=1∨o=2∨o=3∨o=4∨o=5∨o=6∨o=7∨o=8∨o=9∨o=10∨o=11∨o=12∨o=13∨o=14∨o=15∨o=16∨o=17∨o=18∨o=19∨o=20∨o=21∨o=22∨o=23∨o=24∨o=25∨o=26:=by omega
 rcases this with rfl | rfl | rfl | rfl | rfl | rfl | rfl | rfl | rfl | rfl | rfl | rfl | rfl | rfl | rfl | rfl | rfl | rfl | rfl | rfl | rfl | rfl | rfl | rfl | rfl | rfl | rfl
 all_goals first | exact absurd rfl h | decide
structure Acc (d0 d1 s:D) (th op obj:Int):Prop where
 r:L 350 [enc d0,enc d1,enc s]=some [1]
 t0:0≤th
 t1:th < (d1.l.length:Int)
 o0:0≤obj
 o1:obj < (s.l.length:Int)
 k:kindOf op=((d0.at obj).hd 0).n
structure Tg (x:D) (o c dn g:Int) (r v:D):Prop where
 is:x=dL [.i o,.i c,.i dn,.i g,r,v]
 ho:iT .i64 o
 hc:iT .i64 c
 hd:dn=0∨dn=1
 hg:iT .i64 g
 hr:Wd (.sl 0) r
 hv:Wd (.sl 0) v
theorem Vj {x:D} (h:CX x): ∃o c dn g r v,Tg x o c dn g r v:=by
 obtain⟨o,c,d,g,r,v,h1,h2,h3,h4,h5,h6,h7⟩:=h
 exact⟨o,c,d,g,r,v,h1,h2,h3,h4,h5,h6,h7⟩
theorem aqP {r:D} (h:Wd (.sl 0) r): ∀x∈r.l,x= .i x.n:=by
 intro x hx
 obtain⟨n,rfl,_⟩:=(h.el1 rfl x hx).i
 rfl
def few (s:D):Prop:= ∀x∈s.l,(x.hd 4).l.length < 17592186044415∧(x.hd 5).l.length < 17592186044415
theorem few.rows {s:D} (h:few s):H8 s:=fun x hx=>by have:=(h x hx).1; omega
section
variable {d0 d1 s:D} {th op obj arg tries:Int} (h0:Wd (.sl 3) d0) (h1:Wd (.sl 4) d1) (hs:Wd (.sl 7) s) (hf:few s) (hop:iT .u8 op)
include h0 h1 hf in
theorem Vw (h:L 350 [enc d0,enc d1,enc s]=some [1]):Ic d0 d1∧s.l.length=d0.l.length:=by
 obtain⟨b,hb,_,hi⟩:=yR h0 h1 hf.rows
 rw [h] at hb
 simp only [Option.some.injEq,List.cons.injEq,and_true] at hb
 obtain⟨hC,hle,_⟩:=hi.1 hb.symm
 obtain⟨ys,hC',c,rfl,_,hok⟩:=Dq h0 h1
 rw [hC] at hC'
 simp only [Option.some.injEq,List.cons.injEq,and_true] at hC'
 exact⟨(hok hC'.symm).1,hle⟩
include h0 h1 hf in
theorem adN (A:Acc d0 d1 s th op obj):akA d0 (d0.at obj)∧s.l.length=d0.l.length:=by
 obtain⟨hok,hle⟩:=Vw h0 h1 hf A.r
 refine⟨?_,hle⟩
 have a1:=A.o0; have a2:=A.o1
 obtain⟨i,rfl⟩ : ∃i:Nat,obj=(i:Int):=⟨obj.toNat,by omega⟩
 have hi:i < d0.l.length:=by omega
 rw [bC hi]
 exact hok.2.2 _ (List.getElem_mem hi)
include h0 h1 hs hf hop
theorem Xl (A:Acc d0 d1 s th op obj) (h:op=12∨op=24):0≤Mx d0 obj∧Mx d0 obj < (s.l.length:Int)∧Mx d0 obj≠obj:=by
 obtain⟨ho,hle⟩:=adN h0 h1 hf A
 have h4:((d0.at obj).hd 0).n=4:=by
  rw [← A.k]
  rcases h with rfl | rfl <;> rfl
 obtain⟨m1,m2,m3⟩:=ho.2.2.2.2.2 h4
 refine⟨m1,by rw [hle]; exact m2,fun he=>?_⟩
 have he:((d0.at obj).hd 2).n=obj:=he
 rw [he,h4] at m3
 omega
theorem aqS (A:Acc d0 d1 s th op obj):op∈ops∧∃o c dn g r v,Tg (s.at obj) o c dn g r v∧
 L 400 [enc d0,enc d1,enc s,th,op,obj,arg,tries]=some (outA s th op obj (Mx d0 obj) (act (Mx d0 obj) (Mo d0 s obj) th op arg tries o c dn g r v)):=by
 obtain⟨ho,hle⟩:=adN h0 h1 hf A
 have hin:op∈ops:=alA hop.1 (by rw [A.k]; have:=ho.1; omega)
 have a1:=A.o0; have a2:=A.o1
 obtain⟨i,rfl⟩ : ∃i:Nat,obj=(i:Int):=⟨obj.toNat,by omega⟩
 have hi:i < s.l.length:=by omega
 have ht:=IV hs (by omega)
 obtain⟨o,c,dn,g,r,v,T⟩:=Vj (hs.thing _ (List.getElem_mem hi))
 have hfx:=hf _ (List.getElem_mem hi)
 rw [T.is] at hfx
 have hkk:L 600 [op]=some [((d0.at (i:Int)).hd 0).n]:=by rw [VW op hop,A.k]
 refine⟨hin,o,c,dn,g,r,v,by rw [bC hi]; exact T,?_⟩
 refine aqT ⟨ayQ s ht i hi o c dn g r v T.is,apQ s hs,A.r,A.t0,A.t1,A.o0,A.o1,hle,hkk,?_,?_,(aqP T.hr),fun h=>Xl h0 h1 hs hf hop A h⟩ hin
 ·have:(r.l.length:Int) < 17592186044415:=Int.ofNat_lt.2 hfx.1
  exact this
 ·have:(v.l.length:Int) < 17592186044415:=Int.ofNat_lt.2 hfx.2
  exact this
theorem azJ (A: ¬Acc d0 d1 s th op obj):L 400 [enc d0,enc d1,enc s,th,op,obj,arg,tries]=some [enc s,0,0,0,0,0,0]:=by
 obtain⟨b,hb,hb2,_⟩:=yR h0 h1 hf.rows
 by_cases ho:0≤obj∧obj < (s.l.length:Int)
 ·obtain⟨i,rfl⟩ : ∃i:Nat,obj=(i:Int):=⟨obj.toNat,by omega⟩
  have hi:i < s.l.length:=by omega
  have ht:=IV hs (by omega)
  obtain⟨o,c,dn,g,r,v,T⟩:=Vj (hs.thing _ (List.getElem_mem hi))
  have hcp:=ayQ s ht i hi o c dn g r v T.is
  have hss:s=dL (iK s.l (i:Int) (dL [.i o,.i c,.i dn,.i g,r,v])):=by
   have:=set_self ht.sh hi
   rw [T.is] at this
   exact this.symm
  have hkk:=VW op hop
  have key: ∀alt:Int,(alt=3∨alt=4∨alt=5∨alt=6)→L 9000 [(i:Int),enc s]=some [alt,(i:Int),enc s,o,c,dn,g,enc r,enc v]→L 400 [enc d0,enc d1,enc s,th,op,(i:Int),arg,tries]=some [enc s,0,0,0,0,0,0]:=by
   intro alt ha hcp
   by_cases hb0:b=0
   ·exact aEP hb ha hcp ho.1 ho.2 T.hd hss hb0
   ·have hb1:b=1:=by omega
    by_cases t0:th < 0
    ·exact aEO hb ha hcp ho.1 ho.2 T.hd hss hb0 t0
    ·by_cases t1:th < (d1.l.length:Int)
     ·have hne: ¬kindOf op=((d0.at (i:Int)).hd 0).n:=fun hk=>A ⟨by rw [hb,hb1],by omega,t1,ho.1,ho.2,hk⟩
      obtain⟨_,hle⟩:=Vw h0 h1 hf (by rw [hb,hb1])
      exact aEQ hb ha hcp ho.1 ho.2 T.hd hss hb0 (by omega) t1 hkk hle hne
     ·exact aEN hb ha hcp ho.1 ho.2 T.hd hss hb0 (by omega) t1
  refine key _ ?_ hcp
  unfold oO
  split <;> split <;> simp
 ·obtain⟨ys,hc,hys⟩:=copyN s hs obj (by omega)
  by_cases hn:obj < 0
  ·rcases hys with rfl | ⟨rfl,he⟩ | ⟨rfl,he⟩
   ·exact aCV hb hc hn
   ·exact aCT hb hc hn he
   ·exact aCR hb hc hn he
  ·rcases hys with rfl | ⟨rfl,he⟩ | ⟨rfl,he⟩
   ·exact aCU hb hc (by omega) (by omega)
   ·exact aCS hb hc (by omega) (by omega) he
   ·exact aCQ hb hc (by omega) (by omega) he
end
end Go.As.Try
end
section
namespace Go.As.Try
open Go hiding Stat Spec shape
open Go.As
set_option maxRecDepth 100000
theorem JO {d:D} {l:List D} (h: ∀x∈l,∃n,x= .i n∧iT .i64 n) (hl:l.length≤17592186043904):Wd (.sl 0) (iM d l):=by
 cases l with
 | nil=>
   show Wd (.sl 0) (if d= .i 1 then .i 1 else .i 2)
   split
   ·exact .nil 0
   ·exact .non 0
 | cons a l=>
   refine .one 0 (.int .i64) (a :: l) rfl (by simp) (by have:yD 0=8:=rfl; rw [this]; omega) fun x hx=>?_
   obtain⟨n,rfl,hn⟩:=h x hx
   exact .int _ _ hn
theorem Ce {l:List D} (h: ∀x∈l,∃n,x= .i n∧iT .i64 n) (hn:l≠[]) (hl:l.length≤17592186043904):Wd (.sl 0) (dL l):=by
 rw [← Gt (d:=.i 2) hn]
 exact JO h hl
theorem yI {r:D} (h:Wd (.sl 0) r): ∀x∈r.l,∃n,x= .i n∧iT .i64 n:=fun x hx=>(h.el1 rfl x hx).i
theorem wrap_in (z:Int):iT .i64 (IntKind.i64.wrap z):=by
 constructor <;> (rw [IntKind.wrap_i64]; omega)
def OE (n:Nat):Act→Prop
 | .res o c dn g r v m _ oc=>iT .i64 o∧iT .i64 c∧(dn=0∨dn=1)∧iT .i64 g∧Wd (.sl 0) r∧r.l.length≤n∧Wd (.sl 0) v∧v.l.length≤n∧(∀q,m=some q→iT .i64 q)∧(oc=2∨oc=3)
 | _=>True
theorem OE.ite {n:Nat} {p:Prop} [Decidable p] {a b:Act} (ha:OE n a) (hb:OE n b):OE n (if p then a else b):=by
 split
 ·exact ha
 ·exact hb
def NoM:Act→Prop
 | .res _ _ _ _ _ _ m _ _=>m=none
 | _=>True
theorem NoM.ite {p:Prop} [Decidable p] {a b:Act} (ha:NoM a) (hb:NoM b):NoM (if p then a else b):=by
 split
 ·exact ha
 ·exact hb
section
variable {x:D} {M mo th op arg tries o c dn g:Int} {r v:D}
theorem aB8 (T:Tg x o c dn g r v) {n:Nat} (hr:r.l.length≤n) (hv:v.l.length≤n) (hn:n < 17592186043904) (ht:iT .i64 th) (ha:iT .i64 arg):OE (n+1) (act M mo th op arg tries o c dn g r v):=by
 have hm:iT .i64 (-1):=⟨by omega,by omega⟩
 have hz:iT .i64 0:=⟨by omega,by omega⟩
 have e1: ∀q:Int,(none:Option Int)=some q→iT .i64 q:=fun q h=>by simp at h
 have e2: ∀{p:Int},iT .i64 p→∀q:Int,some p=some q→iT .i64 q:=fun hp q h=>by simp only [Option.some.injEq] at h; exact h▸hp
 have hr1:r.l.length≤n+1:=by omega
 have hv1:v.l.length≤n+1:=by omega
 have w:=@wrap_in
 have sn: ∀{l:List D} {t:Int},(∀x∈l,∃n,x= .i n∧iT .i64 n)→iT .i64 t→∀x∈l++ [.i t],∃n,x= .i n∧iT .i64 n:=fun h ht x hx=>by
  rcases List.mem_append.1 hx with hx | hx
  ·exact h x hx
  ·simp only [List.mem_cons,List.not_mem_nil,or_false] at hx
   exact⟨_,hx,ht⟩
 have r5:Wd (.sl 0) (dL (r.l++ [.i th])):=Ce (sn (yI T.hr) ht) (by simp) (by simp; omega)
 have l5:(dL (r.l++ [.i th])).l.length≤n+1:=by rw [aX]; simp; omega
 have r20:Wd (.sl 0) (dL (v.l++ [.i arg])):=Ce (sn (yI T.hv) ha) (by simp) (by simp; omega)
 have l20:(dL (v.l++ [.i arg])).l.length≤n+1:=by rw [aX]; simp; omega
 have r12:Wd (.sl 0) (dL (wo th r.l++ [.i th])):=Ce (sn (fun x hx=>(yI T.hr) x (List.mem_filter.1 hx).1) ht) (by simp) (by have:=agS th r.l; simp; omega)
 have l12:(dL (wo th r.l++ [.i th])).l.length≤n+1:=by have:=agS th r.l; rw [aX]; simp; omega
 have r6: ∀k,Wd (.sl 0) (iM (.i 2) (r.l.take k++r.l.drop (k+1))):=fun k=>JO (fun x hx=>by
  rcases List.mem_append.1 hx with hx | hx
  ·exact (yI T.hr) x (List.mem_of_mem_take hx)
  ·exact (yI T.hr) x (List.mem_of_mem_drop hx)) (by simp only [List.length_append,List.length_take,List.length_drop]; omega)
 have l6: ∀k,(iM (.i 2) (r.l.take k++r.l.drop (k+1))).l.length≤n+1:=fun k=>by rw [kP]; simp only [List.length_append,List.length_take,List.length_drop]; omega
 have r21:Wd (.sl 0) (iM v (v.l.drop 1)):=JO (fun x hx=>(yI T.hv) x (List.mem_of_mem_drop hx)) (by simp; omega)
 have l21:(iM v (v.l.drop 1)).l.length≤n+1:=by rw [kP]; simp; omega
 have r13:Wd (.sl 0) (iM r (r.l.drop 1)):=JO (fun x hx=>(yI T.hr) x (List.mem_of_mem_drop hx)) (by simp; omega)
 have l13:(iM r (r.l.drop 1)).l.length≤n+1:=by rw [kP]; simp; omega
 have r14:Wd (.sl 0) (.i 1):=.nil 0
 have l14:(D.i 1).l.length≤n+1:=by simp [D.l]
 unfold act
 repeat' refine OE.ite ?_ ?_
 all_goals first
  | trivial
  | exact⟨by first | exact T.ho | exact ht | exact hm,by first | exact T.hc | exact w _ | exact ha | exact hz,by first | exact T.hd | exact .inr rfl,by first | exact T.hg | exact w _,by first | exact T.hr | exact r5 | exact r6 _ | exact r12 | exact r13 | exact r14,by first | exact hr1 | exact l5 | exact l6 _ | exact l12 | exact l13 | exact l14,by first | exact T.hv | exact r20 | exact r21,by first | exact hv1 | exact l20 | exact l21,by first | exact e1 | exact e2 hm | exact e2 ht,by first | exact .inl rfl | exact .inr rfl⟩
theorem agG (h12:op≠12) (h24:op≠24):NoM (act M mo th op arg tries o c dn g r v):=by
 unfold act
 rw [if_neg h12,if_neg h24]
 repeat' refine NoM.ite ?_ ?_
 all_goals first
  | exact rfl
  | trivial
end
end Go.As.Try
end
section
namespace Go.As.Try
open Go hiding Stat Spec shape
open Go.As
set_option maxRecDepth 100000
def isN (ys:List Int):Prop:= ∃v:Int,ys= [v]∧iT .i64 v
theorem alF:isN [0]:=⟨0,rfl,by constructor <;> omega⟩
theorem alE:isN [1]:=⟨1,rfl,by constructor <;> omega⟩
theorem awO (z:Int):isN [IntKind.i64.wrap z]:=⟨_,rfl,wrap_in z⟩
theorem Lj: ∀{d x:D},x∈d.l→SizeOf.sizeOf x < SizeOf.sizeOf d
 | .i _,x,h=>by simp [D.l] at h
 | .p a b,x,h=>by
   simp only [D.l,List.mem_cons] at h
   rcases h with rfl | h
   ·simp only [D.p.sizeOf_spec]; omega
   ·have:=Lj (d:=b) h
    simp only [D.p.sizeOf_spec]; omega
def Nums (l:List D):Prop:= ∀y∈l,iT .i64 (apI y).n
theorem akI:Nums []:=fun y h=>by simp at h
theorem FK: ∀{l:List D} {k v:D},Nums l→iT .i64 v.n→Nums (Me l k v)
 | [],k,v,_,hv=>by
   intro y hy
   simp only [Me,List.mem_cons,List.not_mem_nil,or_false] at hy
   subst hy
   exact hv
 | d :: l,k,v,hl,hv=>by
   intro y hy
   simp only [Me] at hy
   split at hy
   ·simp only [List.mem_cons] at hy
    rcases hy with rfl | hy
    ·exact hv
    ·exact hl y (by simp [hy])
   ·simp only [List.mem_cons] at hy
    rcases hy with rfl | hy
    ·exact hl _ (by simp)
    ·exact FK (fun z hz=>hl z (by simp [hz])) hv y hy
theorem VI: ∀{l:List D} {k:D},Nums l→iT .i64 ((xQ l k).getD (.i 0)).n
 | [],k,_=>by constructor <;> simp [xQ,D.n]
 | d :: l,k,hl=>by
   simp only [xQ]
   split
   ·exact hl d (by simp)
   ·exact VI fun y hy=>hl y (by simp [hy])
theorem asW {l:List D} {k:D} (h:Nums l):isN [((xQ l k).getD (.i 0)).n]:=⟨_,rfl,VI h⟩
def Ints (d:D):Prop:= ∀x∈d.l,iT .i64 x.n
theorem ints_at {d:D} (h:Ints d) {i:Int} (h0: ¬i < 0) (h1:i < (d.l.length:Int)):iT .i64 (d.at i).n:=by
 obtain⟨k,rfl⟩ : ∃k:Nat,i=(k:Int):=⟨i.toNat,by omega⟩
 rw [bC (by omega:k < d.l.length)]
 exact h _ (List.getElem_mem _)
set_option maxHeartbeats 4000000 in
theorem Wv: ∀(N:Nat) (kids:D),SizeOf.sizeOf kids≤N→Wd (.sl 6) kids→∀(k n:Int) (s loc:D),iT .i64 n→Ints loc→Tot 1950 [k,enc s,n,enc kids,enc loc] isN
 | 0,kids,hN,_,_,_,_,_,_,_=>by
   exfalso
   cases kids <;> simp at hN
 | N+1,kids,hN,hk,k,n,s,loc,hn,hi=>by
   have sub: ∀i:Nat,∃v:Int,iT .i64 v∧(i < kids.l.length→L 1950 [((kids.at (i:Int)).hd 0).n,enc ((kids.at (i:Int)).hd 1),((kids.at (i:Int)).hd 2).n,enc ((kids.at (i:Int)).hd 3),enc loc]=some [v]):=by
    intro i
    by_cases hil:i < kids.l.length
    ·obtain⟨k',s',n',ks',he,_,_,hn',h2⟩:=Dh hk hil
     have hsz:SizeOf.sizeOf ks' < SizeOf.sizeOf kids.l[i]:=by
      rw [he]
      exact Lj (by rw [aX]; simp)
     have hsz2:=Lj (List.getElem_mem hil)
     obtain⟨ys,hL,v,rfl,hv⟩:=Wv N ks' (by omega) h2 k' n' s' loc hn' hi
     refine⟨v,hv,fun _=>?_⟩
     rw [bC hil,he]
     simp only [dR,List.getElem?_cons_zero,List.getElem?_cons_succ,Option.getD_some]
     exact hL
    ·exact⟨0,by constructor <;> omega,fun h=>absurd h hil⟩
   obtain⟨v0,hv0,h0⟩:=sub 0
   obtain⟨v1,hv1,h1⟩:=sub 1
   by_cases l1:(kids.l.length:Int)=1
   ·have h0:=h0 (by omega)
    simp only [Int.natCast_zero] at h0
    refine Tot.of ?_
    rw [acO]
    simp only [Vl,zz,aG.den,Nat.reduceLT,l1,h0]
    repeat' first | exact .out ⟨_,rfl,hn⟩ | exact .out alF | exact .out alE | exact .out (awO _) | exact .out ⟨_,rfl,ints_at hi ‹_› ‹_›⟩ | refine .ite (fun _=>?_) (fun _=>?_)
   ·by_cases l2:(kids.l.length:Int)=2
    ·have h0:=h0 (by omega)
     have h1:=h1 (by omega)
     simp only [Int.natCast_zero,Int.natCast_one] at h0 h1
     refine Tot.of ?_
     rw [acO]
     simp only [Vl,zz,aG.den,Nat.reduceLT,l1,l2,h0,h1]
     repeat' first | exact .out ⟨_,rfl,hn⟩ | exact .out alF | exact .out alE | exact .out (awO _) | exact .out ⟨_,rfl,ints_at hi ‹_› ‹_›⟩ | (simp only [aX]; exact .out (asW (FK (FK (FK akI (wrap_in _)) (wrap_in _)) (wrap_in _)))) | refine .ite (fun _=>?_) (fun _=>?_)
    ·refine Tot.of ?_
     rw [acO]
     simp only [Vl,zz,aG.den,Nat.reduceLT,l1,l2]
     repeat' first | exact .out ⟨_,rfl,hn⟩ | exact .out alF | exact .out alE | exact .out ⟨_,rfl,ints_at hi ‹_› ‹_›⟩ | refine .ite (fun _=>?_) (fun _=>?_)
end Go.As.Try
end

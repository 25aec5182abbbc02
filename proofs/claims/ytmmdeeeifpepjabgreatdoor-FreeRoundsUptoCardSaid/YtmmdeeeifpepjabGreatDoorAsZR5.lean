/-
  Proved: the given card of the second form of the law FreeRounds: whatever the input, of bulk at most 1048576, the call returns true and each argument reads afterwards as it did. Conditions: those of the given row alone (what it reads is of bulk at most 1048576; its listed package-level variables start as the program's text lays them; each string, slice and map that is handed in lies within a process's addresses).
-/
import Derived.Test.YtmmdeeeifpepjabGreatDoorAsZR4
set_option linter.unusedSectionVars false
set_option linter.unusedVariables false
set_option linter.unusedSimpArgs false
section
namespace Go.As.Try
open Go hiding Stat Spec shape
open Go.As
set_option maxRecDepth 100000
theorem W9 {d0 d1:D} {p:PS} {t:Int} {a b:D} {e1 e2 e3 e4 e5 oc:Int} (hL:L 1850 [enc d0,enc d1,enc p.s,enc p.k,t]=some [enc a,enc b,e1,e2,e3,e4,e5,oc]):stP d0 d1 p t=⟨a,b,if oc=2∨oc=3 then p.l++ [D6 e1 e2 e3 e4 e5] else p.l⟩:=by unfold stP stA;rw [hL];simp only [Option.getD_some,aN,aO,aG];rfl
theorem aEg {x:KT} {z:Int} (h:z=x.tr):({ x with tr:=z }:KT)=x:=by subst h; rfl
theorem WZ {d0 d1 s k:D} {t:Int} {n:Nat} {a b:D} {e1 e2 e3 e4 e5 oc:Int} (S:Sx s k n) (H:Dn d0 d1 s k t n a b e1 e2 e3 e4 e5 oc) (h1:oc≠1) (h2:oc≠2) (h3:oc≠3) (he:((b.at t).hd 5).n=((k.at t).hd 5).n):a=s∧b=k:=by
 cases H with
 | no h=>exact⟨rfl,rfl⟩
 | over x R ho=>exact⟨rfl,rfl⟩
 | loc x R ho ha=>omega
 | tri x R ho op obj arg tr hq k1 k2 k3 hti s' e1 e2 e3 e4 e5 oc A T=>
   have o0:oc=0:=by have:=A.oc3; omega
   refine⟨(A.no o0).1,?_⟩;rw [acT R.r.t0 R.ht,R.hk] at he
   have e:uI (Ins d1 t x) x op e2 e3 e4 oc=x:=by
    unfold uI at he ⊢;rw [if_pos o0] at he ⊢;by_cases h4:op=4
    ·rw [if_pos h4] at he ⊢;simp only [KT.d,zg,Option.getD_some,n_i] at he;exact aEg he
    ·rw [if_neg h4]
   rw [e];exact R.self S
noncomputable def rC (mo n m i:Int) (d0 d1:D) (b:Bool) (p:PS):Option (List Int):=
 if p.l= [] then L (if b=true then 2654 else 2652) [mo,n,m,i,enc d0,enc d1,enc p.s,enc p.k] else L (if b=true then 2653 else 2657) [mo,n,m,i,enc d0,enc d1,enc (dL p.l),enc p.s,enc p.k]
noncomputable def hdR (mo n:Int) (d0 d1:D) (b:Bool) (p:PS):Option (List Int):=
 if b=true then (if p.l= [] then L 2651 [mo,n,enc d0,enc d1,enc p.s,enc p.k] else L 2656 [mo,n,enc d0,enc d1,enc (dL p.l),enc p.s,enc p.k])
 else some [enc (if p.l= [] then .i 1 else dL p.l),enc p.s,enc p.k]
section
variable {d0 d1:D} (h0:Wd (.sl 3) d0) (h1:Wd (.sl 4) d1)
include h0 h1
theorem agI {s k:D} {l:List D} {N i:Nat} (P:POk d1 ⟨s,k,l⟩ N) (hN:N < 1000000) (hi:i < d1.l.length) (mo n:Int) (b:Bool): ∃b2:Bool,rC mo n (d1.l.length:Int) (i:Int) d0 d1 b ⟨s,k,l⟩ = rC mo n (d1.l.length:Int) ((i+1:Nat):Int) d0 d1 b2 (stP d0 d1 ⟨s,k,l⟩ (i:Int))∧(b2=false→b=false∧stP d0 d1 ⟨s,k,l⟩ (i:Int)=⟨s,k,l⟩)∧POk d1 (stP d0 d1 ⟨s,k,l⟩ (i:Int)) (N+1):=by
 have S:=P.sx;have hlk:=P.lk;have hll:=P.ll;simp only at S hlk hll;have hb:=h1.len;obtain⟨a,c,e1,e2,e3,e4,e5,oc,hL,H⟩:=ER S (by omega) h0 h1 (i:Int);obtain⟨S',_,aGG⟩:=MZ S (by omega) h0 h1 H;have hst:=W9 (p:=⟨s,k,l⟩) hL;have c1:(i:Int) < (d1.l.length:Int):=by omega
 have c2: ¬(i:Int) < 0:=by omega
 have c3:(i:Int) < (k.l.length:Int):=by omega
 have c4:(i:Int) < (c.l.length:Int):=by omega
 have c5:(l.length:Int) < 3518437208882:=by omega
 have w:=aZ (n:=i) (by omega);have still:=WZ S H
 have lF:POk d1 (stP d0 d1 ⟨s,k,l⟩ (i:Int)) (N+1):=by
  rw [hst];refine⟨S',by show c.l.length=_; omega,?_⟩;show (if oc=2∨oc=3 then l++ [D6 e1 e2 e3 e4 e5] else l).length≤N+1;split
  ·rw [List.length_append]; exact Nat.succ_le_succ hll
  ·omega
 rw [hst] at lF ⊢;by_cases hl:l= []
 ·subst hl
  cases b with
  | false=>
    have q:rC mo n (d1.l.length:Int) (i:Int) d0 d1 false ⟨s,k,[]⟩ = L 2652 [mo,n,(d1.l.length:Int),(i:Int),enc d0,enc d1,enc s,enc k]:=by unfold rC; rfl
    by_cases o2:oc=2
    ·rw [if_pos (by omega)] at lF ⊢;have g:rC mo n (d1.l.length:Int) ((i+1:Nat):Int) d0 d1 true ⟨a,c,[]++ [D6 e1 e2 e3 e4 e5]⟩ = L 2653 [mo,n,(d1.l.length:Int),((i+1:Nat):Int),enc d0,enc d1,enc (dL ([]++ [D6 e1 e2 e3 e4 e5])),enc a,enc c]:=by unfold rC; rw [if_neg (by simp)]; rfl
     refine⟨true,?_,fun hf=>by simp at hf,lF⟩;rw [q,g,aQ,O1];simp only [Jw,zz,o2,c1,c2,c3,hL,w,aF,rQ,List.nil_append,dO,eU,D6]
    ·by_cases o3:oc=3
     ·rw [if_pos (by omega)] at lF ⊢;have g:rC mo n (d1.l.length:Int) ((i+1:Nat):Int) d0 d1 true ⟨a,c,[]++ [D6 e1 e2 e3 e4 e5]⟩ = L 2653 [mo,n,(d1.l.length:Int),((i+1:Nat):Int),enc d0,enc d1,enc (dL ([]++ [D6 e1 e2 e3 e4 e5])),enc a,enc c]:=by unfold rC; rw [if_neg (by simp)]; rfl
      refine⟨true,?_,fun hf=>by simp at hf,lF⟩;rw [q,g,aQ,O1];simp only [Jw,zz,o3,agY,c1,c2,c3,hL,w,aF,rQ,List.nil_append,dO,eU,D6]
     ·by_cases o1:oc=1
      ·rw [if_neg (by omega)] at lF ⊢;have g:rC mo n (d1.l.length:Int) ((i+1:Nat):Int) d0 d1 true ⟨a,c,[]⟩ = L 2654 [mo,n,(d1.l.length:Int),((i+1:Nat):Int),enc d0,enc d1,enc a,enc c]:=by unfold rC; rfl
       refine⟨true,?_,fun hf=>by simp at hf,lF⟩;rw [q,g,aQ,O1];simp only [Jw,zz,o1,ahA,agZ,c1,c2,c3,hL,w,aF,rQ,List.nil_append,dO,eU,c4]
      ·by_cases he:((c.at (i:Int)).hd 5).n=((k.at (i:Int)).hd 5).n
       ·rw [if_neg (by omega)] at lF ⊢;have g:rC mo n (d1.l.length:Int) ((i+1:Nat):Int) d0 d1 false ⟨a,c,[]⟩ = L 2652 [mo,n,(d1.l.length:Int),((i+1:Nat):Int),enc d0,enc d1,enc a,enc c]:=by unfold rC; rfl
        refine⟨false,?_,fun _=>by obtain⟨ea,eb⟩:=still o1 o2 o3 he; rw [ea,eb]; exact⟨rfl,rfl⟩,lF⟩;rw [q,g,aQ,O1];simp only [Jw,zz,if_neg o1,if_neg o2,if_neg o3,if_pos he,c1,c2,c3,hL,w,aF,rQ,List.nil_append,dO,eU,c4]
       ·rw [if_neg (by omega)] at lF ⊢;have g:rC mo n (d1.l.length:Int) ((i+1:Nat):Int) d0 d1 true ⟨a,c,[]⟩ = L 2654 [mo,n,(d1.l.length:Int),((i+1:Nat):Int),enc d0,enc d1,enc a,enc c]:=by unfold rC; rfl
        refine⟨true,?_,fun hf=>by simp at hf,lF⟩;rw [q,g,aQ,O1];simp only [Jw,zz,if_neg o1,if_neg o2,if_neg o3,if_neg he,c1,c2,c3,hL,w,aF,rQ,List.nil_append,dO,eU,c4]
  | true=>
    have q:rC mo n (d1.l.length:Int) (i:Int) d0 d1 true ⟨s,k,[]⟩ = L 2654 [mo,n,(d1.l.length:Int),(i:Int),enc d0,enc d1,enc s,enc k]:=by unfold rC; rfl
    by_cases o2:oc=2
    ·rw [if_pos (by omega)] at lF ⊢;have g:rC mo n (d1.l.length:Int) ((i+1:Nat):Int) d0 d1 true ⟨a,c,[]++ [D6 e1 e2 e3 e4 e5]⟩ = L 2653 [mo,n,(d1.l.length:Int),((i+1:Nat):Int),enc d0,enc d1,enc (dL ([]++ [D6 e1 e2 e3 e4 e5])),enc a,enc c]:=by unfold rC; rw [if_neg (by simp)]; rfl
     refine⟨true,?_,fun hf=>by simp at hf,lF⟩;rw [q,g,aQ,OY];simp only [Ju,zz,o2,c1,c2,c3,hL,w,aF,rQ,List.nil_append,dO,eU,D6]
    ·by_cases o3:oc=3
     ·rw [if_pos (by omega)] at lF ⊢;have g:rC mo n (d1.l.length:Int) ((i+1:Nat):Int) d0 d1 true ⟨a,c,[]++ [D6 e1 e2 e3 e4 e5]⟩ = L 2653 [mo,n,(d1.l.length:Int),((i+1:Nat):Int),enc d0,enc d1,enc (dL ([]++ [D6 e1 e2 e3 e4 e5])),enc a,enc c]:=by unfold rC; rw [if_neg (by simp)]; rfl
      refine⟨true,?_,fun hf=>by simp at hf,lF⟩;rw [q,g,aQ,OY];simp only [Ju,zz,o3,agY,c1,c2,c3,hL,w,aF,rQ,List.nil_append,dO,eU,D6]
     ·by_cases o1:oc=1
      ·rw [if_neg (by omega)] at lF ⊢;have g:rC mo n (d1.l.length:Int) ((i+1:Nat):Int) d0 d1 true ⟨a,c,[]⟩ = L 2654 [mo,n,(d1.l.length:Int),((i+1:Nat):Int),enc d0,enc d1,enc a,enc c]:=by unfold rC; rfl
       refine⟨true,?_,fun hf=>by simp at hf,lF⟩;rw [q,g,aQ,OY];simp only [Ju,zz,o1,ahA,agZ,c1,c2,c3,hL,w,aF,rQ,List.nil_append,dO,eU,c4]
      ·by_cases he:((c.at (i:Int)).hd 5).n=((k.at (i:Int)).hd 5).n
       ·rw [if_neg (by omega)] at lF ⊢;have g:rC mo n (d1.l.length:Int) ((i+1:Nat):Int) d0 d1 true ⟨a,c,[]⟩ = L 2654 [mo,n,(d1.l.length:Int),((i+1:Nat):Int),enc d0,enc d1,enc a,enc c]:=by unfold rC; rfl
        refine⟨true,?_,fun hf=>by simp at hf,lF⟩;rw [q,g,aQ,OY];simp only [Ju,zz,if_neg o1,if_neg o2,if_neg o3,he,if_true,ite_self,c1,c2,c3,hL,w,aF,rQ,List.nil_append,dO,eU,c4]
       ·rw [if_neg (by omega)] at lF ⊢;have g:rC mo n (d1.l.length:Int) ((i+1:Nat):Int) d0 d1 true ⟨a,c,[]⟩ = L 2654 [mo,n,(d1.l.length:Int),((i+1:Nat):Int),enc d0,enc d1,enc a,enc c]:=by unfold rC; rfl
        refine⟨true,?_,fun hf=>by simp at hf,lF⟩;rw [q,g,aQ,OY];simp only [Ju,zz,if_neg o1,if_neg o2,if_neg o3,if_neg he,ite_self,c1,c2,c3,hL,w,aF,rQ,List.nil_append,dO,eU,c4]
 ·cases b with
  | false=>
    have q:rC mo n (d1.l.length:Int) (i:Int) d0 d1 false ⟨s,k,l⟩ = L 2657 [mo,n,(d1.l.length:Int),(i:Int),enc d0,enc d1,enc (dL l),enc s,enc k]:=by unfold rC; rw [if_neg hl]; rfl
    by_cases o2:oc=2
    ·rw [if_pos (by omega)] at lF ⊢;have g:rC mo n (d1.l.length:Int) ((i+1:Nat):Int) d0 d1 true ⟨a,c,l++ [D6 e1 e2 e3 e4 e5]⟩ = L 2653 [mo,n,(d1.l.length:Int),((i+1:Nat):Int),enc d0,enc d1,enc (dL (l++ [D6 e1 e2 e3 e4 e5])),enc a,enc c]:=by unfold rC; rw [if_neg (by simp)]; rfl
     refine⟨true,?_,fun hf=>by simp at hf,lF⟩;rw [q,g,aQ,OX];simp only [Jt,zz,o2,c1,c2,c3,hL,w,aF,c5,aT,dO,eU,D6]
    ·by_cases o3:oc=3
     ·rw [if_pos (by omega)] at lF ⊢;have g:rC mo n (d1.l.length:Int) ((i+1:Nat):Int) d0 d1 true ⟨a,c,l++ [D6 e1 e2 e3 e4 e5]⟩ = L 2653 [mo,n,(d1.l.length:Int),((i+1:Nat):Int),enc d0,enc d1,enc (dL (l++ [D6 e1 e2 e3 e4 e5])),enc a,enc c]:=by unfold rC; rw [if_neg (by simp)]; rfl
      refine⟨true,?_,fun hf=>by simp at hf,lF⟩;rw [q,g,aQ,OX];simp only [Jt,zz,o3,agY,c1,c2,c3,hL,w,aF,c5,aT,dO,eU,D6]
     ·by_cases o1:oc=1
      ·rw [if_neg (by omega)] at lF ⊢;have g:rC mo n (d1.l.length:Int) ((i+1:Nat):Int) d0 d1 true ⟨a,c,l⟩ = L 2653 [mo,n,(d1.l.length:Int),((i+1:Nat):Int),enc d0,enc d1,enc (dL l),enc a,enc c]:=by unfold rC; rw [if_neg hl]; rfl
       refine⟨true,?_,fun hf=>by simp at hf,lF⟩;rw [q,g,aQ,OX];simp only [Jt,zz,o1,ahA,agZ,c1,c2,c3,hL,w,aF,c5,aT,dO,eU,c4]
      ·by_cases he:((c.at (i:Int)).hd 5).n=((k.at (i:Int)).hd 5).n
       ·rw [if_neg (by omega)] at lF ⊢;have g:rC mo n (d1.l.length:Int) ((i+1:Nat):Int) d0 d1 false ⟨a,c,l⟩ = L 2657 [mo,n,(d1.l.length:Int),((i+1:Nat):Int),enc d0,enc d1,enc (dL l),enc a,enc c]:=by unfold rC; rw [if_neg hl]; rfl
        refine⟨false,?_,fun _=>by obtain⟨ea,eb⟩:=still o1 o2 o3 he; rw [ea,eb]; exact⟨rfl,rfl⟩,lF⟩;rw [q,g,aQ,OX];simp only [Jt,zz,if_neg o1,if_neg o2,if_neg o3,if_pos he,c1,c2,c3,hL,w,aF,c5,aT,dO,eU,c4]
       ·rw [if_neg (by omega)] at lF ⊢;have g:rC mo n (d1.l.length:Int) ((i+1:Nat):Int) d0 d1 true ⟨a,c,l⟩ = L 2653 [mo,n,(d1.l.length:Int),((i+1:Nat):Int),enc d0,enc d1,enc (dL l),enc a,enc c]:=by unfold rC; rw [if_neg hl]; rfl
        refine⟨true,?_,fun hf=>by simp at hf,lF⟩;rw [q,g,aQ,OX];simp only [Jt,zz,if_neg o1,if_neg o2,if_neg o3,if_neg he,c1,c2,c3,hL,w,aF,c5,aT,dO,eU,c4]
  | true=>
    have q:rC mo n (d1.l.length:Int) (i:Int) d0 d1 true ⟨s,k,l⟩ = L 2653 [mo,n,(d1.l.length:Int),(i:Int),enc d0,enc d1,enc (dL l),enc s,enc k]:=by unfold rC; rw [if_neg hl]; rfl
    by_cases o2:oc=2
    ·rw [if_pos (by omega)] at lF ⊢;have g:rC mo n (d1.l.length:Int) ((i+1:Nat):Int) d0 d1 true ⟨a,c,l++ [D6 e1 e2 e3 e4 e5]⟩ = L 2653 [mo,n,(d1.l.length:Int),((i+1:Nat):Int),enc d0,enc d1,enc (dL (l++ [D6 e1 e2 e3 e4 e5])),enc a,enc c]:=by unfold rC; rw [if_neg (by simp)]; rfl
     refine⟨true,?_,fun hf=>by simp at hf,lF⟩;rw [q,g,aQ,OZ];simp only [Jv,zz,o2,c1,c2,c3,hL,w,aF,c5,aT,dO,eU,D6]
    ·by_cases o3:oc=3
     ·rw [if_pos (by omega)] at lF ⊢;have g:rC mo n (d1.l.length:Int) ((i+1:Nat):Int) d0 d1 true ⟨a,c,l++ [D6 e1 e2 e3 e4 e5]⟩ = L 2653 [mo,n,(d1.l.length:Int),((i+1:Nat):Int),enc d0,enc d1,enc (dL (l++ [D6 e1 e2 e3 e4 e5])),enc a,enc c]:=by unfold rC; rw [if_neg (by simp)]; rfl
      refine⟨true,?_,fun hf=>by simp at hf,lF⟩;rw [q,g,aQ,OZ];simp only [Jv,zz,o3,agY,c1,c2,c3,hL,w,aF,c5,aT,dO,eU,D6]
     ·by_cases o1:oc=1
      ·rw [if_neg (by omega)] at lF ⊢;have g:rC mo n (d1.l.length:Int) ((i+1:Nat):Int) d0 d1 true ⟨a,c,l⟩ = L 2653 [mo,n,(d1.l.length:Int),((i+1:Nat):Int),enc d0,enc d1,enc (dL l),enc a,enc c]:=by unfold rC; rw [if_neg hl]; rfl
       refine⟨true,?_,fun hf=>by simp at hf,lF⟩;rw [q,g,aQ,OZ];simp only [Jv,zz,o1,ahA,agZ,c1,c2,c3,hL,w,aF,c5,aT,dO,eU,c4]
      ·by_cases he:((c.at (i:Int)).hd 5).n=((k.at (i:Int)).hd 5).n
       ·rw [if_neg (by omega)] at lF ⊢;have g:rC mo n (d1.l.length:Int) ((i+1:Nat):Int) d0 d1 true ⟨a,c,l⟩ = L 2653 [mo,n,(d1.l.length:Int),((i+1:Nat):Int),enc d0,enc d1,enc (dL l),enc a,enc c]:=by unfold rC; rw [if_neg hl]; rfl
        refine⟨true,?_,fun hf=>by simp at hf,lF⟩;rw [q,g,aQ,OZ];simp only [Jv,zz,if_neg o1,if_neg o2,if_neg o3,he,if_true,ite_self,c1,c2,c3,hL,w,aF,c5,aT,dO,eU,c4]
       ·rw [if_neg (by omega)] at lF ⊢;have g:rC mo n (d1.l.length:Int) ((i+1:Nat):Int) d0 d1 true ⟨a,c,l⟩ = L 2653 [mo,n,(d1.l.length:Int),((i+1:Nat):Int),enc d0,enc d1,enc (dL l),enc a,enc c]:=by unfold rC; rw [if_neg hl]; rfl
        refine⟨true,?_,fun hf=>by simp at hf,lF⟩;rw [q,g,aQ,OZ];simp only [Jv,zz,if_neg o1,if_neg o2,if_neg o3,if_neg he,ite_self,c1,c2,c3,hL,w,aF,c5,aT,dO,eU,c4]
end
end Go.As.Try
end
section
namespace Go.As.Try
open Go hiding Stat Spec shape
open Go.As
set_option maxRecDepth 100000
def Jr (i j:Nat):List Int:=(List.range' i j).map fun x:Nat=>(x:Int)
theorem Mc (i j:Nat):Jr i (j+1)=(i:Int) :: Jr (i+1) j:=rfl
def zH (m:Nat):Nat→List Int
 | 0=>[]
 | j+1=>Jr 0 m++zH m j
theorem acY (m:Nat): ∀a b:Nat,zH m (a+b)=zH m a++zH m b
 | 0,b=>by rw [Nat.zero_add]; rfl
 | a+1,b=>by rw [show a+1+b=(a+b)+1 by omega];show Jr 0 m++zH m (a+b)=Jr 0 m++zH m a++zH m b;rw [acY m a b,List.append_assoc]
def KF (p:PS):List Int:=[enc (if p.l= [] then .i 1 else dL p.l),enc p.s,enc p.k]
section
variable {d0 d1:D} (h0:Wd (.sl 3) d0) (h1:Wd (.sl 4) d1)
include h0 h1
theorem Rz (mo:Int) {n:Nat} (hn:n < 1000): ∀(j i:Nat) (p:PS) (N:Nat) (b:Bool),i+j=d1.l.length→POk d1 p N→N+j < 1000000→
 ∃b2:Bool,rC mo (n:Int) (d1.l.length:Int) (i:Int) d0 d1 b p=hdR mo ((n+1:Nat):Int) d0 d1 b2 (gB d0 d1 p (Jr i j))∧(b2=false→b=false∧gB d0 d1 p (Jr i j)=p)∧POk d1 (gB d0 d1 p (Jr i j)) (N+j)
 | 0,i,⟨s,k,l⟩,N,b,hi,P,hN=>by
   have c1: ¬(i:Int) < (d1.l.length:Int):=by omega
   have w:=aZ (n:=n) (by omega);refine⟨b,?_,fun h=> ⟨h,rfl⟩,P⟩;show rC mo (n:Int) (d1.l.length:Int) (i:Int) d0 d1 b ⟨s,k,l⟩ = hdR mo ((n+1:Nat):Int) d0 d1 b ⟨s,k,l⟩;by_cases hl:l= []
   ·subst hl
    cases b with
    | false=> show L 2652 _=some [enc (.i 1),enc s,enc k];rw [aQ,O1];simp only [Jw,zz,c1,w,aF];rw [aQ,aAH];simp only [akQ,zz,bH]
    | true=> show L 2654 _=L 2651 _;rw [aQ,OY];simp only [Ju,zz,c1,w,aF]
   ·cases b with
    | false=> unfold rC hdR;rw [if_neg hl,if_neg (by simp),if_neg (by simp),if_neg hl,aQ,OX];simp only [Jt,zz,c1,w,aF];rw [aQ,aAG];simp only [akP,zz,bH]
    | true=> unfold rC hdR;rw [if_neg hl,if_pos rfl,if_pos rfl,if_neg hl,aQ,OZ];simp only [Jv,zz,c1,w,aF]
 | j+1,i,⟨s,k,l⟩,N,b,hi,P,hN=>by
   obtain⟨b2,q1,q2,q3⟩:=agI h0 h1 P (by omega) (by omega:i < d1.l.length) mo (n:Int) b;obtain⟨b3,r1,r2,r3⟩:=Rz mo hn j (i+1) (stP d0 d1 ⟨s,k,l⟩ (i:Int)) (N+1) b2 (by omega) q3 (by omega);refine⟨b3,q1.trans r1,fun h=>?_,?_⟩
   ·obtain⟨x1,x2⟩:=r2 h;obtain⟨y1,y2⟩:=q2 x1;exact⟨y1,x2.trans y2⟩
   ·rw [show N+(j+1)=N+1+j by omega];exact r3
omit h0 h1 in
theorem Rq {p:PS} (h:gB d0 d1 p (Jr 0 d1.l.length)=p): ∀j:Nat,gB d0 d1 p (zH d1.l.length j)=p
 | 0=>rfl
 | j+1=>by show gB d0 d1 p (Jr 0 d1.l.length++zH d1.l.length j)=p;rw [sU,h];exact Rq h j
noncomputable def hd0 (mo n:Int) (d0 d1:D) (p:PS):Option (List Int):=if p.l= [] then L 2651 [mo,n,enc d0,enc d1,enc p.s,enc p.k] else L 2656 [mo,n,enc d0,enc d1,enc (dL p.l),enc p.s,enc p.k]
theorem Nq {mo:Nat} (hmo:mo < 1000): ∀(j n:Nat) (p:PS) (N:Nat),n+j=mo→POk d1 p N→N+j*d1.l.length < 1000000→hd0 (mo:Int) (n:Int) d0 d1 p=some (KF (gB d0 d1 p (zH d1.l.length j)))∧POk d1 (gB d0 d1 p (zH d1.l.length j)) (N+j*d1.l.length)
 | 0,n,⟨s,k,l⟩,N,hj,P,hN=>by
   have c0: ¬(100000:Int) < (mo:Int):=by omega
   have c1: ¬(n:Int) < (mo:Int):=by omega
   refine⟨?_,by rw [Nat.zero_mul]; exact P⟩;show hd0 (mo:Int) (n:Int) d0 d1 ⟨s,k,l⟩ = some (KF ⟨s,k,l⟩);unfold hd0 KF;by_cases hl:l= []
   ·rw [if_pos hl,if_pos hl,aQ,aqM];simp only [acI,zz,c0,c1,bH]
   ·rw [if_neg hl,if_neg hl,aQ,aqL];simp only [acH,zz,c0,c1,bH]
 | j+1,n,⟨s,k,l⟩,N,hj,P,hN=>by
   have c0: ¬(100000:Int) < (mo:Int):=by omega
   have c1:(n:Int) < (mo:Int):=by omega
   have hm:(j+1)*d1.l.length=d1.l.length+j*d1.l.length:=by rw [Nat.add_mul,Nat.one_mul,Nat.add_comm]
   rw [hm] at hN ⊢;obtain⟨b2,q1,q2,q3⟩:=Rz h0 h1 (mo:Int) (n:=n) (by omega) d1.l.length 0 ⟨s,k,l⟩ N false (by omega) P (by omega)
   have ent:hd0 (mo:Int) (n:Int) d0 d1 ⟨s,k,l⟩ = rC (mo:Int) (n:Int) (d1.l.length:Int) 0 d0 d1 false ⟨s,k,l⟩:=by
    unfold hd0 rC;by_cases hl:l= []
    ·rw [if_pos hl,if_pos hl,if_neg (by simp),aQ,aqM];simp only [acI,zz,c0,c1,aF]
    ·rw [if_neg hl,if_neg hl,if_neg (by simp),aQ,aqL];simp only [acH,zz,c0,c1,aF]
   rw [Int.natCast_zero] at q1;rw [ent,q1];obtain⟨r1,r2⟩:=Nq hmo j (n+1) _ (N+d1.l.length) (by omega) q3 (by omega);have er:gB d0 d1 ⟨s,k,l⟩ (zH d1.l.length (j+1))=gB d0 d1 (gB d0 d1 ⟨s,k,l⟩ (Jr 0 d1.l.length)) (zH d1.l.length j):=sU d0 d1 _ _ _;rw [er];refine⟨?_,by rw [← Nat.add_assoc]; exact r2⟩
   cases b2 with
   | true=>exact r1
   | false=> obtain⟨_,x⟩:=q2 rfl;rw [x,Rq x];rfl
end
end Go.As.Try
end
section
namespace Go.As.Try
open Go hiding Stat Spec shape
open Go.As
set_option maxRecDepth 100000
theorem Tn {a b:D} (h:a.l=b.l) (hd:a.l.length≤140737488351232): ∀(j i:Nat),i+j=a.l.length→L 2451 [enc a,enc b,(a.l.length:Int),(i:Int)]=some [1]
 | 0,i,hi=>by
   have c1: ¬(i:Int) < (a.l.length:Int):=by omega
   rw [aQ,aqO];simp only [acJ,zz,c1,bH]
 | j+1,i,hi=>by
   have c1:(i:Int) < (a.l.length:Int):=by omega
   have c2: ¬((i:Int) < 0):=by omega
   have c3:(i:Int) < (b.l.length:Int):=by rw [← h]; exact c1
   have w:=aZ (n:=i) (by omega);have ih:=Tn h hd j (i+1) (by omega);have e:=at_eq h (i:Int);rw [aQ,aqO];simp only [acJ,zz,c1,c2,c3,e,w,IC,and_self,aF,ih]
theorem xO {a b:D} (h:a.l=b.l) (hd:a.l.length≤140737488351232):L 2450 [enc a,enc b]=some [1]:=by
 have g:=Tn h hd a.l.length 0 (by omega);have e:(a.l.length:Int)=(b.l.length:Int):=by rw [h]
 rw [Int.natCast_zero] at g;rw [aQ,aAI];simp only [akS,zz,e,aF];rw [e] at g;exact g
theorem yH {s s' k:D} {n:Nat} (S:Sx s k n) (h:Ua s s') (hn:n < 17592186043904):L 2050 [enc s,enc k,enc s',enc k]=some [1]:=by refine Ro rfl (fun _=>KEq.rfl' _) S.aEe ?_;obtain⟨c,h1,_,h3⟩:=Rk s s' S.g.wd.len (fun x hx=>by have:=S.g.rows x hx; omega);rw [h1,h3.2 ⟨h.len.symm,fun k k1 k2 _=>?_⟩];have q:=h.ats k;rw [aX k1,aX k2] at q;exact⟨q.c0,q.c1,by rw [q.c2],q.c3,⟨by rw [q.c4],fun i _ _ _=>by simp only [q.c4]⟩,⟨by rw [q.c5],fun i _ _ _=>by simp only [q.c5]⟩⟩
structure PW (p:PS) (n:Nat):Prop where
 sx:Sx p.s p.k n
 ll:p.l.length≤n
structure atN (p q:PS) (n:Nat):Prop where
 pk:PW p n
 qk:PW q n
 k:q.k=p.k
 l:q.l=p.l
 se:Ua p.s q.s
 nk:NK p.k
section
variable {d0 d1:D} (h0:Wd (.sl 3) d0) (h1:Wd (.sl 4) d1)
include h0 h1
theorem aBx {p q:PS} {n:Nat} (E:atN p q n) (hn:n < 17592186043800) (t:Int):atN (stP d0 d1 p t) (stP d0 d1 q t) (n+1):=by
 obtain⟨s,k,l⟩:=p;obtain⟨s',k',l'⟩:=q;obtain⟨P,Q,ek,el,se,nk⟩:=E;simp only at ek el se nk;subst ek el;have S:=P.sx;have S':=Q.sx;have ll:=P.ll;simp only at S S' ll;by_cases M:MR d0 d1 s k'
 ·obtain⟨a,a',b,e1,e2,e3,e4,e5,oc,hL,hL',q1,q2,q3,q4,H⟩:=step_eq h0 h1 se S S' hn M t
  have bd:(if oc=2∨oc=3 then l'++ [D6 e1 e2 e3 e4 e5] else l').length≤n+1:=by
   split
   ·rw [List.length_append]; exact Nat.succ_le_succ ll
   ·omega
  rw [W9 (p:=⟨s,k',l'⟩) hL,W9 (p:=⟨s',k',l'⟩) hL'];exact⟨⟨q2,bd⟩,⟨q3,bd⟩,rfl,rfl,q1,alM nk H⟩
 ·have no: ∀s:D,Sx s k' n→¬MR d0 d1 s k'→stP d0 d1 ⟨s,k',l'⟩ t=⟨s,k',l'⟩:=fun s S M=>by
   obtain⟨_,q,w,rfl,hw⟩:=BP (k:=k') h0 h1 (S.g.few (by omega)).rows h1.len t;rcases hw with ⟨rfl,_⟩ | ⟨_,hw⟩
   ·rw [W9 (p:=⟨s,k',l'⟩) (KQ S q)];rfl
   ·exact absurd hw.2.2 M
  have M': ¬MR d0 d1 s' k':=fun m=>M (adJ h0 h1 ⟨se.len.symm,fun i=> ⟨(se.ats i).c0.symm,(se.ats i).c1.symm,(se.ats i).c2.symm,(se.ats i).c3.symm,(se.ats i).c4.symm,(se.ats i).c5.symm⟩⟩ S'.g S.g (by omega) m);rw [no s S M,no s' S' M'];exact⟨⟨S.mono (Nat.le_succ n),Nat.le_succ_of_le ll⟩,⟨S'.mono (Nat.le_succ n),Nat.le_succ_of_le ll⟩,rfl,rfl,se,nk⟩
theorem run_eq: ∀(ts:List Int) (p q:PS) (n:Nat),atN p q n→n+ts.length < 17592186043800→atN (gB d0 d1 p ts) (gB d0 d1 q ts) (n+ts.length)
 | [],p,q,n,E,_=>E
 | t :: ts,p,q,n,E,hn=>by simp only [List.length_cons] at hn;have:=run_eq ts _ _ (n+1) (aBx h0 h1 E (by omega) t) (by omega);rw [show n+(t :: ts).length=n+1+ts.length by rw [List.length_cons]; omega];exact this
theorem Gg {s k:D} {l:List D} {n:Nat} (S:Sx s k n) (hn:n < 17592186043800) (M: ¬MR d0 d1 s k): ∀ts:List Int,gB d0 d1 ⟨s,k,l⟩ ts=⟨s,k,l⟩
 | []=>rfl
 | t :: ts=>by
   have e:stP d0 d1 ⟨s,k,l⟩ t=⟨s,k,l⟩:=by
    obtain⟨_,q,w,rfl,hw⟩:=BP (k:=k) h0 h1 (S.g.few (by omega)).rows h1.len t;rcases hw with ⟨rfl,_⟩ | ⟨_,hw⟩
    ·rw [W9 (p:=⟨s,k,l⟩) (KQ S q)];rfl
    ·exact absurd hw.2.2 M
   show gB d0 d1 (stP d0 d1 ⟨s,k,l⟩ t) ts=_;rw [e];exact Gg S hn M ts
theorem DC {s k:D} {N mo:Nat} (S:Sx s k N) (NK':NK k) (hmo:mo < 1000) (hN:N+mo*d1.l.length < 1000000):L 2650 [enc d0,enc d1,enc s,enc k,(mo:Int)]=some (KF (gB d0 d1 ⟨AZ s,k,[]⟩ (zH d1.l.length mo))):=by
 have hc:=JR S NK' (by omega);have S':=VX S;obtain⟨_,q,w,rfl,hw⟩:=IX (k:=k) h0 h1 (S.g.few (by omega)).rows h1.len;rw [aQ,aqN];rcases hw with ⟨rfl,M⟩ | ⟨rfl,M⟩
 ·have M': ¬MR d0 d1 (AZ s) k:=fun m=>by
   have se:=Jj S.g;exact M (adJ h0 h1 ⟨se.len.symm,fun i=> ⟨(se.ats i).c0.symm,(se.ats i).c1.symm,(se.ats i).c2.symm,(se.ats i).c3.symm,(se.ats i).c4.symm,(se.ats i).c5.symm⟩⟩ S'.g S.g (by omega) m)
  rw [Gg h0 h1 S' (by omega) M'];simp only [WS,zz,hc,q,bH,KF,if_true]
 ·have P:POk d1 ⟨AZ s,k,[]⟩ N:=⟨S',M.2.1,Nat.zero_le _⟩;have h:=(Nq h0 h1 hmo mo 0 ⟨AZ s,k,[]⟩ N (by omega) P hN).1;rw [Int.natCast_zero] at h;have e:hd0 (mo:Int) 0 d0 d1 ⟨AZ s,k,[]⟩ = L 2651 [(mo:Int),0,enc d0,enc d1,enc (AZ s),enc k]:=by unfold hd0; rfl
  rw [e] at h;simp only [WS,zz,hc,q,aC,aF];exact h
end
end Go.As.Try
end
section
namespace Go.As.Try
open Go hiding Stat Spec shape
open Go.As
set_option maxRecDepth 100000
theorem aDJ (d0 d1 s k:D) (l:List D) (t:Int):stP d0 d1 ⟨s,k,l⟩ t=⟨(stP d0 d1 ⟨s,k,[]⟩ t).s,(stP d0 d1 ⟨s,k,[]⟩ t).k,l++(stP d0 d1 ⟨s,k,[]⟩ t).l⟩:=by
 unfold stP;simp only [List.nil_append];split
 ·rfl
 ·rw [List.append_nil]
theorem Zt (d0 d1:D): ∀(ts:List Int) (s k:D) (l:List D),gB d0 d1 ⟨s,k,l⟩ ts=⟨(gB d0 d1 ⟨s,k,[]⟩ ts).s,(gB d0 d1 ⟨s,k,[]⟩ ts).k,l++(gB d0 d1 ⟨s,k,[]⟩ ts).l⟩
 | [],s,k,l=>by simp [gB]
 | t :: ts,s,k,l=>by show gB d0 d1 (stP d0 d1 ⟨s,k,l⟩ t) ts=⟨(gB d0 d1 (stP d0 d1 ⟨s,k,[]⟩ t) ts).s,(gB d0 d1 (stP d0 d1 ⟨s,k,[]⟩ t) ts).k,l++(gB d0 d1 (stP d0 d1 ⟨s,k,[]⟩ t) ts).l⟩;rw [aDJ d0 d1 s k l t,Zt d0 d1 ts _ _ (l++_)];obtain⟨a,b,x,e⟩ : ∃a b x,stP d0 d1 ⟨s,k,[]⟩ t=⟨a,b,x⟩:=⟨_,_,_,rfl⟩;rw [e,Zt d0 d1 ts a b x];simp only [List.append_assoc]
section
variable {d0 d1:D} (h0:Wd (.sl 3) d0) (h1:Wd (.sl 4) d1)
include h0 h1
theorem asK {s k:D} {l l':List D} {n:Nat} (S:Sx s k n) (N:NK k) (ts:List Int) (hn:n+ts.length < 17592186043800) :
 (gB d0 d1 ⟨AZ s,k,[]⟩ ts).k=(gB d0 d1 ⟨s,k,l⟩ ts).k∧(gB d0 d1 ⟨s,k,l⟩ ts).l=l++(gB d0 d1 ⟨AZ s,k,[]⟩ ts).l∧Ua (gB d0 d1 ⟨s,k,l⟩ ts).s (gB d0 d1 ⟨AZ s,k,[]⟩ ts).s∧NK (gB d0 d1 ⟨AZ s,k,[]⟩ ts).k∧Sx (gB d0 d1 ⟨AZ s,k,[]⟩ ts).s (gB d0 d1 ⟨AZ s,k,[]⟩ ts).k (n+ts.length)∧Sx (gB d0 d1 ⟨s,k,l⟩ ts).s (gB d0 d1 ⟨s,k,l⟩ ts).k (n+ts.length)∧(gB d0 d1 ⟨AZ s,k,[]⟩ ts).l.length≤n+ts.length:=by
 have E:=run_eq h0 h1 ts ⟨s,k,[]⟩ ⟨AZ s,k,[]⟩ n ⟨⟨S,Nat.zero_le _⟩,⟨VX S,Nat.zero_le _⟩,rfl,rfl,Jj S.g,N⟩ hn;rw [Zt d0 d1 ts s k l];exact⟨E.k,by rw [E.l],E.se,by rw [E.k]; exact E.nk,E.qk.sx,E.pk.sx,E.qk.ll⟩
omit h0 h1 in
theorem KY (m:Nat): ∀j:Nat,(zH m j).length=j*m
 | 0=>by rw [Nat.zero_mul]; rfl
 | j+1=>by show (Jr 0 m++zH m j).length=_;rw [List.length_append,KY m j,Nat.add_mul,Nat.one_mul,Nat.add_comm];unfold Jr;rw [List.length_map,List.length_range']
omit h0 h1 in
theorem BL {s s':D} (h:Ua s s'):Ua s' s:=⟨h.len.symm,fun i=> ⟨(h.ats i).c0.symm,(h.ats i).c1.symm,(h.ats i).c2.symm,(h.ats i).c3.symm,(h.ats i).c4.symm,(h.ats i).c5.symm⟩⟩
theorem Dz {s k:D} {N:Nat} (S:Sx s k N) (hN:N < 17592186043800) (NK':NK k) (M: ¬MR d0 d1 s k) (mo:Int):L 2650 [enc d0,enc d1,enc s,enc k,mo]=some (KF ⟨AZ s,k,[]⟩):=by
 have hc:=JR S NK' (by omega);obtain⟨_,q,w,rfl,hw⟩:=IX (k:=k) h0 h1 (S.g.few (by omega)).rows h1.len;rw [aQ,aqN];rcases hw with ⟨rfl,_⟩ | ⟨_,hw⟩
 ·simp only [WS,zz,hc,q,bH,KF,if_true]
 ·exact absurd hw M
structure P6 (d0 d1 s k:D) (l0:List D) (one two:Nat) (A B V W:PS):Prop where
 a:L 2650 [enc d0,enc d1,enc s,enc k,(one:Int)]=some (KF A)
 b:L 2650 [enc d0,enc d1,enc A.s,enc A.k,(two:Int)]=some (KF B)
 v:L 2650 [enc d0,enc d1,enc s,enc k,((one+two:Nat):Int)]=some (KF V)
 z:L 2650 [enc d0,enc d1,enc s,enc k,0]=some [enc (.i 1),enc (AZ s),enc k]
 w:W=gB d0 d1 ⟨s,k,l0⟩ (zH d1.l.length one)
 vl:V.l=A.l++B.l
 wl:W.l=l0++A.l
 uv:L 2050 [enc B.s,enc B.k,enc V.s,enc V.k]=some [1]
 tw:L 2050 [enc A.s,enc A.k,enc W.s,enc W.k]=some [1]
 sx:L 2050 [enc s,enc k,enc (AZ s),enc k]=some [1]
 la:A.l.length≤2000
 lb:B.l.length≤2000
theorem agH {s k:D} {l0:List D} (S:Sx s k 60) (N:NK k) {one two:Nat} (ho:one≤30) (ht:two≤30): ∃A B V W,P6 d0 d1 s k l0 one two A B V W:=by
 have hz:L 2050 [enc s,enc k,enc (AZ s),enc k]=some [1]:=yH S (Jj S.g) (by omega);by_cases M:MR d0 d1 s k
 ·have hm:d1.l.length≤16:=by have:=(KW h0 h1 S.g (by omega) M.1).2.1.2.1; omega
  have b1:one*d1.l.length≤480:=Nat.le_trans (Nat.mul_le_mul ho hm) (by omega);have b2:two*d1.l.length≤480:=Nat.le_trans (Nat.mul_le_mul ht hm) (by omega);have b3:(one+two)*d1.l.length≤960:=by rw [Nat.add_mul]; omega
  have l1:=KY d1.l.length one;have l2:=KY d1.l.length two;obtain⟨k1,g1,s1,n1,x1,y1,e1⟩:=asK (l':=l0) h0 h1 (l:=l0) S N (zH d1.l.length one) (by omega);have hA:gB d0 d1 ⟨AZ s,k,[]⟩ (zH d1.l.length one)=⟨(gB d0 d1 ⟨AZ s,k,[]⟩ (zH d1.l.length one)).s,(gB d0 d1 ⟨AZ s,k,[]⟩ (zH d1.l.length one)).k,(gB d0 d1 ⟨AZ s,k,[]⟩ (zH d1.l.length one)).l⟩:=rfl;have hV:gB d0 d1 ⟨AZ s,k,[]⟩ (zH d1.l.length (one+two))=gB d0 d1 (gB d0 d1 ⟨AZ s,k,[]⟩ (zH d1.l.length one)) (zH d1.l.length two):=by rw [acY,sU]
  obtain⟨A,hAe⟩ : ∃A,gB d0 d1 ⟨AZ s,k,[]⟩ (zH d1.l.length one)=A:=⟨_,rfl⟩;rw [hAe] at k1 g1 s1 n1 x1 e1 hV;obtain⟨As,Ak,Al⟩:=A;simp only at k1 g1 s1 n1 x1 e1;obtain⟨k2,g2,s2,n2,x2,y2,e2⟩:=asK (l':=l0) h0 h1 (l:=Al) x1 n1 (zH d1.l.length two) (by omega);have ra:=DC h0 h1 S N (mo:=one) (by omega) (by omega);have rb:=DC h0 h1 x1 n1 (mo:=two) (by omega) (by omega);have rv:=DC h0 h1 S N (mo:=one+two) (by omega) (by omega);have rz:=DC h0 h1 S N (mo:=0) (by omega) (by omega);rw [hAe] at ra;rw [hV] at rv;refine⟨_,_,_,_,⟨ra,rb,rv,rz,rfl,g2,g1,?_,?_,hz,by show Al.length≤2000; omega,by omega⟩⟩
  ·rw [← k2];exact yH x2 (BL s2) (by omega)
  ·rw [← k1];exact yH x1 (BL s1) (by omega)
 ·have S1:=VX S;have M1: ¬MR d0 d1 (AZ s) k:=fun m=>M (adJ h0 h1 (BL (Jj S.g)) S1.g S.g (by omega) m);have S2:=VX S1;refine⟨⟨AZ s,k,[]⟩,⟨AZ (AZ s),k,[]⟩,⟨AZ s,k,[]⟩,⟨s,k,l0⟩,⟨Dz h0 h1 S (by omega) N M _,Dz h0 h1 S1 (by omega) N M1 _,Dz h0 h1 S (by omega) N M _,Dz h0 h1 S (by omega) N M 0,(Gg h0 h1 S (by omega) M _).symm,rfl,by rw [List.append_nil],?_,?_,hz,Nat.zero_le _,Nat.zero_le _⟩⟩
  ·exact yH S2 (BL (Jj S1.g)) (by omega)
  ·exact yH S1 (BL (Jj S.g)) (by omega)
end
end Go.As.Try
end
section
namespace Go.As.Try
open Go hiding Stat Spec shape
open Go.As
set_option maxRecDepth 100000
section
variable {d0 d1 s k a b x0 x1 w ws wk all sz:D} {one:Int}
theorem apI (l0:x0.l.length≤2000) (l1:x1.l.length≤2000) (hP:L 2400 [enc d0,enc d1,enc all]=some [enc w,enc ws,enc wk]) (hw:w.l=x0.l++x1.l) (tw:L 2050 [enc a,enc b,enc ws,enc wk]=some [1])
 (rz:L 2650 [enc d0,enc d1,enc s,enc k,0]=some [enc (.i 1),enc sz,enc k]) (sx:L 2050 [enc s,enc k,enc sz,enc k]=some [1]):L 2702 [enc x0,enc x1,enc all,one,one,enc d0,enc d1,enc s,enc k,enc a,enc b]=some [1]:=by
 have hwl:w.l.length≤4000:=by rw [hw,List.length_append]; omega
 rw [aQ,aqJ];by_cases z0:(x0.l.length:Int)=0
 ·have e0:x0.l= []:=List.eq_nil_of_length_eq_zero (by omega);by_cases z1:(x1.l.length:Int)=0
  ·have e1:x1.l= []:=List.eq_nil_of_length_eq_zero (by omega);have q:=xO (a:=.i 2) (b:=w) (by rw [hw,e0,e1]; simp [D.l]) (by simp [D.l]);simp only [MC,zz,Int.lt_irrefl,hP,rz,z0,z1,q,tw,sx,len1,aC,bH]
  ·have c1:(x1.l.length:Int) < 3518437208883:=by omega
   have q:=xO (a:=x1) (b:=w) (by rw [hw,e0]; rfl) (by omega);simp only [MC,zz,Int.lt_irrefl,hP,rz,z0,if_neg z1,c1,q,tw,sx,len1,aC,bH]
 ·have c0:(x0.l.length:Int) < 3518437208883:=by omega
  by_cases z1:(x1.l.length:Int)=0
  ·have e1:x1.l= []:=List.eq_nil_of_length_eq_zero (by omega);have q:=xO (a:=x0) (b:=w) (by rw [hw,e1,List.append_nil]) (by omega);simp only [MC,zz,Int.lt_irrefl,hP,rz,if_neg z0,z1,c0,q,tw,sx,len1,aC,bH]
  ·have c1:(x1.l.length:Int) < 3518436208883:=by omega
   have c2:(x0.l.length:Int) < 1000000:=by omega
   have q:=xO (a:=dL (x0.l++x1.l)) (b:=w) (by rw [aT,hw]) (by rw [aT,List.length_append]; omega);simp only [MC,zz,Int.lt_irrefl,hP,rz,if_neg z0,if_neg z1,c0,c1,c2,q,tw,sx,len1,aC,bH]
theorem apJ (l0:x0.l.length≤2000) (l1:x1.l.length≤2000) (hP:L 2400 [enc d0,enc d1,enc (.i 2)]=some [enc w,enc ws,enc wk]) (hw:w.l=x0.l++x1.l) (tw:L 2050 [enc a,enc b,enc ws,enc wk]=some [1])
 (rz:L 2650 [enc d0,enc d1,enc s,enc k,0]=some [enc (.i 1),enc sz,enc k]) (sx:L 2050 [enc s,enc k,enc sz,enc k]=some [1]):L 2701 [enc x0,enc x1,one,one,enc d0,enc d1,enc s,enc k,enc a,enc b]=some [1]:=by
 have hwl:w.l.length≤4000:=by rw [hw,List.length_append]; omega
 rw [aQ,aqK];by_cases z0:(x0.l.length:Int)=0
 ·have e0:x0.l= []:=List.eq_nil_of_length_eq_zero (by omega);by_cases z1:(x1.l.length:Int)=0
  ·have e1:x1.l= []:=List.eq_nil_of_length_eq_zero (by omega);have q:=xO (a:=.i 2) (b:=w) (by rw [hw,e0,e1]; simp [D.l]) (by simp [D.l]);simp only [MF,zz,Int.lt_irrefl,hP,rz,z0,z1,q,tw,sx,len1,aC,bH]
  ·have c1:(x1.l.length:Int) < 3518437208883:=by omega
   have q:=xO (a:=x1) (b:=w) (by rw [hw,e0]; rfl) (by omega);simp only [MF,zz,Int.lt_irrefl,hP,rz,z0,if_neg z1,c1,q,tw,sx,len1,aC,bH]
 ·have c0:(x0.l.length:Int) < 3518437208883:=by omega
  by_cases z1:(x1.l.length:Int)=0
  ·have e1:x1.l= []:=List.eq_nil_of_length_eq_zero (by omega);have q:=xO (a:=x0) (b:=w) (by rw [hw,e1,List.append_nil]) (by omega);simp only [MF,zz,Int.lt_irrefl,hP,rz,if_neg z0,z1,c0,q,tw,sx,len1,aC,bH]
  ·have c1:(x1.l.length:Int) < 3518436208883:=by omega
   have c2:(x0.l.length:Int) < 1000000:=by omega
   have q:=xO (a:=dL (x0.l++x1.l)) (b:=w) (by rw [aT,hw]) (by rw [aT,List.length_append]; omega);simp only [MF,zz,Int.lt_irrefl,hP,rz,if_neg z0,if_neg z1,c0,c1,c2,q,tw,sx,len1,aC,bH]
end
section
variable {d0 d1 s k a b x0 x1:D} (one:Int)
theorem PU (j:Nat) (hj:j < 1000): ∀(q t:Nat) (acc:List D),t+q=d1.l.length→acc.length+q≤17592186044415→d1.l.length≤140737488351232→
 L 2704 [enc x0,enc x1,enc (dL acc),one,(j:Int),(d1.l.length:Int),(t:Int),enc d0,enc d1,enc s,enc k,enc a,enc b]=L 2702 [enc x0,enc x1,enc (dL (acc++(Jr t q).map .i)),one,((j+1:Nat):Int),enc d0,enc d1,enc s,enc k,enc a,enc b]
 | 0,t,acc,ht,hq,hb=>by
   have c1: ¬(t:Int) < (d1.l.length:Int):=by omega
   have w:=aZ (n:=j) (by omega);rw [aQ,aqI];simp only [acG,zz,c1,w,aF];show _=L 2702 [enc x0,enc x1,enc (dL (acc++ [])),one,((j+1:Nat):Int),enc d0,enc d1,enc s,enc k,enc a,enc b];rw [List.append_nil]
 | q+1,t,acc,ht,hq,hb=>by
   have c1:(t:Int) < (d1.l.length:Int):=by omega
   have c2:(acc.length:Int) < 17592186044415:=by omega
   have w:=aZ (n:=t) (by omega);have ih:=PU j hj q (t+1) (acc++ [.i (t:Int)]) (by omega) (by rw [List.length_append]; simp only [List.length_cons,List.length_nil]; omega) hb;rw [List.append_assoc] at ih;rw [Mc,List.map_cons,aQ,aqI];simp only [acG,zz,c1,c2,w,aT,aF];exact ih
theorem PV {one:Nat} (ho:one < 1000) (hb:d1.l.length≤140737488351232): ∀(q j:Nat) (acc:List D),j+q=one→acc.length+q*d1.l.length≤17592186044415→
 L 2702 [enc x0,enc x1,enc (dL acc),(one:Int),(j:Int),enc d0,enc d1,enc s,enc k,enc a,enc b]=L 2702 [enc x0,enc x1,enc (dL (acc++(zH d1.l.length q).map .i)),(one:Int),(one:Int),enc d0,enc d1,enc s,enc k,enc a,enc b]
 | 0,j,acc,hj,hq=>by rw [show j=one by omega];show _=L 2702 [enc x0,enc x1,enc (dL (acc++ [])),(one:Int),(one:Int),enc d0,enc d1,enc s,enc k,enc a,enc b];rw [List.append_nil]
 | q+1,j,acc,hj,hq=>by
   have hm:(q+1)*d1.l.length=d1.l.length+q*d1.l.length:=by rw [Nat.add_mul,Nat.one_mul,Nat.add_comm]
   rw [hm] at hq;have c1:(j:Int) < (one:Int):=by omega
   have h:=PU (d0:=d0) (d1:=d1) (s:=s) (k:=k) (a:=a) (b:=b) (x0:=x0) (x1:=x1) (one:Int) j (by omega) d1.l.length 0 acc (by omega) (by omega) hb;rw [Int.natCast_zero] at h
   have hl:(acc++(Jr 0 d1.l.length).map D.i).length=acc.length+d1.l.length:=by rw [List.length_append,List.length_map];unfold Jr;rw [List.length_map,List.length_range']
   have ih:=PV ho hb q (j+1) (acc++(Jr 0 d1.l.length).map .i) (by omega) (by omega)
   have e:L 2702 [enc x0,enc x1,enc (dL acc),(one:Int),(j:Int),enc d0,enc d1,enc s,enc k,enc a,enc b]=L 2704 [enc x0,enc x1,enc (dL acc),(one:Int),(j:Int),(d1.l.length:Int),0,enc d0,enc d1,enc s,enc k,enc a,enc b]:=by rw [aQ,aqJ];simp only [MC,zz,c1,aF]
   rw [e,h,ih];show _=L 2702 [enc x0,enc x1,enc (dL (acc++(Jr 0 d1.l.length++zH d1.l.length q).map .i)),(one:Int),(one:Int),enc d0,enc d1,enc s,enc k,enc a,enc b];rw [List.map_append,List.append_assoc]
end
end Go.As.Try
end
section
namespace Go.As.Try
open Go hiding Stat Spec shape
open Go.As
set_option maxRecDepth 100000
def abI (q:PS):List Int:=[enc (if q.l= [] then .i 1 else dL q.l),enc q.s,enc q.k]
section
variable {d0 d1:D} (h0:Wd (.sl 3) d0) (h1:Wd (.sl 4) d1) (hn:0 < d1.l.length)
include h0 h1 hn
theorem amM (d:D) (hd:d.l.length≤40000000): ∀(j i:Nat) (p:PS),i+j=d.l.length→POk d1 p i→
 (p.l= []→L 2401 [enc d,(d1.l.length:Int),(i:Int),enc d0,enc d1,enc p.s,enc p.k]=some (abI (gB d0 d1 p ((d.l.drop i).map (YQ d1)))))∧
 (p.l≠[]→L 2402 [enc d,(d1.l.length:Int),(i:Int),enc (dL p.l),enc d0,enc d1,enc p.s,enc p.k]=some (abI (gB d0 d1 p ((d.l.drop i).map (YQ d1)))))
 | 0,i,p,hi,P=>by
   have c1: ¬(i:Int) < (d.l.length:Int):=by omega
   rw [List.drop_of_length_le (by omega)];simp only [List.map_nil,gB];refine⟨fun hp=>?_,fun hp=>?_⟩
   ·rw [aQ,aqQ];simp only [MH,zz,c1,bH,abI,hp,if_true]
   ·rw [aQ,aqP];simp only [MG,zz,c1,bH,abI,if_neg hp]
 | j+1,i,p,hi,P=>by
   have hil:i < d.l.length:=by omega
   have c1:(i:Int) < (d.l.length:Int):=by omega
   have c2:(0:Int) < (d1.l.length:Int):=by omega
   have c3: ¬((i:Int) < 0):=by omega
   have w:=aZ (n:=i) (by omega);have hb:=h1.len;have pk:=agP (x:=(d.at (i:Int)).n) c2 (by omega);obtain⟨r1,r2⟩:=agQ (x:=(d.at (i:Int)).n) c2;have c4: ¬(wQ (d.at (i:Int)).n (d1.l.length:Int) < 0):=by omega
   have c5:wQ (d.at (i:Int)).n (d1.l.length:Int) < (p.k.l.length:Int):=by have:=P.lk; omega
   obtain⟨s',k',e1,e2,e3,e4,e5,oc,A⟩:=alL P.sx (by omega) h0 h1 (wQ (d.at (i:Int)).n (d1.l.length:Int));have hA:=A.eq;have c6:wQ (d.at (i:Int)).n (d1.l.length:Int) < (k'.l.length:Int):=by have:=P.lk; have:=A.lk; omega
   have P':=aBy P A;have ih:=amM d hd j (i+1) _ (by omega) P'
   have hdr:gB d0 d1 p ((d.l.drop i).map (YQ d1))=gB d0 d1 (stP d0 d1 p (wQ (d.at (i:Int)).n (d1.l.length:Int))) ((d.l.drop (i+1)).map (YQ d1)):=by rw [List.drop_eq_getElem_cons hil,List.map_cons,gB,YQ,aX hil]
   have hl:=P.ll;have c7:(p.l.length:Int) < 3518437208882:=by omega
   rw [hdr];generalize gB d0 d1 (stP d0 d1 p (wQ (d.at (i:Int)).n (d1.l.length:Int))) ((d.l.drop (i+1)).map (YQ d1))=Q at *;rw [alP A] at ih;obtain⟨ih1,ih2⟩:=ih;refine⟨fun hp=>?_,fun hp=>?_⟩
   ·rw [aQ,aqQ];by_cases o2:oc=2
    ·simp only [o2,true_or,if_true,hp,List.nil_append,D6,dO,eU] at ih2;simp only [MH,zz,dr,c1,c2,c3,c4,c5,pk,hA,o2,w,aF,rQ,List.nil_append,dO,eU];exact ih2 (by simp)
    ·by_cases o3:oc=3
     ·simp only [o3,or_true,if_true,hp,List.nil_append,D6,dO,eU] at ih2;simp only [MH,zz,dr,c1,c2,c3,c4,c5,pk,hA,o3,w,aF,rQ,List.nil_append,dO,eU,agY];exact ih2 (by simp)
     ·simp only [o2,o3,or_self,if_false] at ih1;by_cases o1:oc=1
      ·simp only [MH,zz,dr,c1,c2,c3,c4,c5,pk,hA,o1,w,aF,ahA,agZ];exact ih1 hp
      ·simp only [MH,zz,dr,c1,c2,c3,c4,c5,c6,pk,hA,o1,o2,o3,w,aF];exact ih1 hp
   ·rw [aQ,aqP];by_cases o2:oc=2
    ·simp only [o2,true_or,if_true,D6,dO,eU] at ih2;simp only [MG,zz,dr,c1,c2,c3,c4,c5,c7,pk,hA,o2,w,aF,aT];exact ih2 (by simp)
    ·by_cases o3:oc=3
     ·simp only [o3,or_true,if_true,D6,dO,eU] at ih2;simp only [MG,zz,dr,c1,c2,c3,c4,c5,c7,pk,hA,o3,w,aF,aT,agY];exact ih2 (by simp)
     ·simp only [o2,o3,or_self,if_false] at ih2;by_cases o1:oc=1
      ·simp only [MG,zz,dr,c1,c2,c3,c4,c5,pk,hA,o1,w,aF,ahA,agZ];exact ih2 hp
      ·simp only [MG,zz,dr,c1,c2,c3,c4,c5,c6,pk,hA,o1,o2,o3,w,aF];exact ih2 hp
theorem avN {s k:D} (hB:L 1450 [enc d0,enc d1]=some [enc s,enc k,0]) (P:POk d1 ⟨s,k,[]⟩ 0) (d:D) (hd:d.l.length≤40000000):L 2400 [enc d0,enc d1,enc d]=some (abI (gB d0 d1 ⟨s,k,[]⟩ (d.l.map (YQ d1)))):=by have h:=(amM h0 h1 hn d hd d.l.length 0 ⟨s,k,[]⟩ (by omega) P).1 rfl;rw [List.drop_zero,Int.natCast_zero] at h;rw [aQ,aqR];simp only [acK,zz,hB,aF];exact h
omit h0 h1 hn in
theorem axP {c:Int} (hc:c≠0) (hB:L 1450 [enc d0,enc d1]=some [enc (.i 1),enc (.i 1),c]) (d:D):L 2400 [enc d0,enc d1,enc d]=some [enc (.i 1),enc (.i 1),enc (.i 1)]:=by rw [aQ,aqR];simp only [acK,zz,hB,if_neg hc,bH]
end
end Go.As.Try
end
section
namespace Go.As.Try
open Go hiding Stat Spec shape
open Go.As
set_option maxRecDepth 100000
theorem adB {d1:D}: ∀(q t:Nat),t+q=d1.l.length→((Jr t q).map D.i).map (YQ d1)=Jr t q
 | 0,t,_=>rfl
 | q+1,t,h=>by
   rw [Mc,List.map_cons,List.map_cons,adB q (t+1) (by omega)]
   have e:YQ d1 (.i (t:Int))=(t:Int):=by show wQ (t:Int) (d1.l.length:Int)=_;unfold wQ;rw [Int.tmod_eq_of_lt (by omega) (by omega),if_neg (by omega)]
   rw [e]
theorem adC {d1:D}: ∀q:Nat,((zH d1.l.length q).map D.i).map (YQ d1)=zH d1.l.length q
 | 0=>rfl
 | q+1=>by show ((Jr 0 d1.l.length++zH d1.l.length q).map D.i).map (YQ d1)=Jr 0 d1.l.length++zH d1.l.length q;rw [List.map_append,List.map_append,adB d1.l.length 0 (by omega),adC q]
abbrev eD (l:List D):D:=if l= [] then .i 1 else dL l
theorem kU (l:List D):(eD l).l=l:=by
 unfold eD;split
 ·rename_i h; rw [h]; rfl
 ·rw [aT]
section
variable {d0 d1 s k a b x0 x1:D}
theorem atF {one:Nat} (ho:one < 1000) (hp:0 < d1.l.length) (hb:d1.l.length≤140737488351232) (hl:one*d1.l.length≤17592186044415) (h1:0 < one) :
 L 2701 [enc x0,enc x1,(one:Int),0,enc d0,enc d1,enc s,enc k,enc a,enc b]=L 2702 [enc x0,enc x1,enc (dL ((zH d1.l.length one).map .i)),(one:Int),(one:Int),enc d0,enc d1,enc s,enc k,enc a,enc b]:=by
 obtain⟨q,rfl⟩ : ∃q,one=q+1:=⟨one - 1,by omega⟩;obtain⟨m,hm⟩ : ∃m,d1.l.length=m+1:=⟨d1.l.length - 1,by omega⟩;have hmul:(q+1)*d1.l.length=d1.l.length+q*d1.l.length:=by rw [Nat.add_mul,Nat.one_mul,Nat.add_comm]
 rw [hmul] at hl;have c1:(0:Int) < ((q+1:Nat):Int):=by omega
 have c2:(0:Int) < (d1.l.length:Int):=by omega
 have h:=PU (d0:=d0) (d1:=d1) (s:=s) (k:=k) (a:=a) (b:=b) (x0:=x0) (x1:=x1) ((q+1:Nat):Int) 0 (by omega) m 1 [.i 0] (by omega) (by simp only [List.length_cons,List.length_nil]; omega) hb;have h2:=PV (d0:=d0) (s:=s) (k:=k) (a:=a) (b:=b) (x0:=x0) (x1:=x1) (one:=q+1) ho hb q 1 ([.i 0]++(Jr 1 m).map .i) (by omega) (by rw [List.length_append,List.length_map]; unfold Jr; rw [List.length_map,List.length_range']; simp only [List.length_cons,List.length_nil]; omega)
 have e:[D.i 0]++(Jr 1 m).map D.i++(zH d1.l.length q).map D.i=(zH d1.l.length (q+1)).map D.i:=by show _=(Jr 0 d1.l.length++zH d1.l.length q).map D.i;rw [List.map_append];congr 1;rw [hm,Mc,List.map_cons];rfl
 rw [e] at h2;rw [Int.natCast_zero] at h;rw [aQ,aqK];simp only [MF,zz,c1,aF];rw [aQ,aAF];simp only [akO,zz,c2,aF,rQ,List.nil_append,dO,eU];exact h.trans h2
end
section
variable {d0 d1 s k dd:D} {l0:List D} {one two:Nat} {A B V W base:PS}
theorem awM (hp:0 < d1.l.length) (hbd:60+30*d1.l.length≤40000000) (ho:one≤30) (hd:dd.l.length≤60) (hdd:dd.l≠[]→dd=dL dd.l) (hl0:l0.length≤60)
 (hPl: ∀e:D,e.l.length≤40000000→L 2400 [enc d0,enc d1,enc e]=some (abI (gB d0 d1 base (e.l.map (YQ d1))))) (hb:gB d0 d1 base (dd.l.map (YQ d1))=⟨s,k,l0⟩) (R:P6 d0 d1 s k l0 one two A B V W) :
 (dd.l= []→L 2701 [enc (eD l0),enc (eD A.l),(one:Int),0,enc d0,enc d1,enc s,enc k,enc A.s,enc A.k]=some [1])∧(dd.l≠[]→L 2702 [enc (eD l0),enc (eD A.l),enc dd,(one:Int),0,enc d0,enc d1,enc s,enc k,enc A.s,enc A.k]=some [1]):=by
 have hmul:one*d1.l.length≤30*d1.l.length:=Nat.mul_le_mul ho (Nat.le_refl _);have hlen:(zH d1.l.length one).length=one*d1.l.length:=KY _ _
 have play: ∀e:D,e.l=dd.l++(zH d1.l.length one).map .i→L 2400 [enc d0,enc d1,enc e]=some [enc (eD W.l),enc W.s,enc W.k]:=fun e he=>by rw [hPl e (by rw [he,List.length_append,List.length_map]; omega),he,List.map_append,adC,sU,hb,← R.w];rfl
 have fin2: ∀e:D,e.l=dd.l++(zH d1.l.length one).map .i→L 2702 [enc (eD l0),enc (eD A.l),enc e,(one:Int),(one:Int),enc d0,enc d1,enc s,enc k,enc A.s,enc A.k]=some [1]:=fun e he=>
  apI (by rw [kU]; omega) (by rw [kU]; exact R.la) (play e he) (by rw [kU,kU,kU]; exact R.wl) R.tw R.z R.sx
 refine⟨fun hz=>?_,fun hz=>?_⟩
 ·by_cases h0:one=0
  ·subst h0;refine apJ (by rw [kU]; omega) (by rw [kU]; exact R.la) (play (.i 2) ?_) (by rw [kU,kU,kU]; exact R.wl) R.tw R.z R.sx;rw [hz]; rfl
  ·rw [atF (by omega) hp (by omega) (by omega) (by omega)];exact fin2 _ (by rw [aT,hz]; rfl)
 ·have h:=PV (d0:=d0) (d1:=d1) (s:=s) (k:=k) (a:=A.s) (b:=A.k) (x0:=eD l0) (x1:=eD A.l) (one:=one) (by omega) (by omega) one 0 dd.l (by omega) (by omega);rw [← hdd hz,Int.natCast_zero] at h;rw [h];exact fin2 _ (aT _)
end
end Go.As.Try
end
section
namespace Go.As.Try
open Go hiding Stat Spec shape
open Go.As
set_option maxRecDepth 100000
section
variable {d0 d1:D} (h0:Wd (.sl 3) d0) (h1:Wd (.sl 4) d1)
include h0 h1
theorem ayO (hp:0 < d1.l.length): ∃base:PS,atN base base 0∧∀e:D,e.l.length≤40000000→L 2400 [enc d0,enc d1,enc e]=some (abI (gB d0 d1 base (e.l.map (YQ d1)))):=by
 obtain⟨ys,hC,c,rfl,_,hok⟩:=Ec h0 h1;by_cases hc:c=0
 ·subst hc;have ok:=(hok rfl).1;have hB:=ahE h1 hC ok;have S:=alJ h0 h1 ok;exact⟨⟨_,_,[]⟩,⟨⟨S,Nat.le_refl _⟩,⟨S,Nat.le_refl _⟩,rfl,rfl,.rfl' _,anC d1⟩,fun e he=>avN h0 h1 hp hB ⟨S,Y3 d1,Nat.le_refl _⟩ e he⟩
 ·have hB:=ahD hC hc
  have M: ¬MR d0 d1 (.i 1) (.i 1):=fun m=>by obtain⟨_,q,_⟩:=m;simp [D.l] at q;omega
  refine⟨⟨.i 1,.i 1,[]⟩,⟨⟨Zm,Nat.le_refl _⟩,⟨Zm,Nat.le_refl _⟩,rfl,rfl,.rfl' _,fun x hx=>by simp [D.l] at hx⟩,fun e _=>?_⟩;rw [axP hc hB e,Gg h0 h1 Zm (by omega) M];rfl
theorem XO (hbd:60+30*d1.l.length≤40000000) (d:D) {x3 x4:Int} (hx:iI .u8 x3) (hy:iI .u8 x4):L 2700 [enc d0,enc d1,enc d,x3,x4]=some [1]:=by
 obtain⟨ys,hG,g,rfl,_⟩:=ahN (d0:=d0) h1;by_cases g0:g=0
 ·subst g0;by_cases n0:(d1.l.length:Int)=0
  ·rw [aQ,Yf];simp only [pX,zz,hG,n0,bH]
  ·have hp:0 < d1.l.length:=by omega
   obtain⟨base,E0,hPl⟩:=ayO h0 h1 hp
   have rng: ∀x:Int,iI .u8 x→∃n:Nat,n≤30∧IntKind.i64.wrap (x.tmod 31)=(n:Int):=fun x hx=>by have a:=hx.1;have b:0≤x:=a;have t1:=Int.tmod_lt_of_pos x (show (0:Int) < 31 by omega);have t0:=Int.tmod_nonneg 31 b;refine⟨(x.tmod 31).toNat,by omega,?_⟩;rw [oQ (by omega) (by omega)];omega
   obtain⟨one,o1,w1⟩:=rng x3 hx;obtain⟨two,o2,w2⟩:=rng x4 hy;have w3:IntKind.i64.wrap ((one:Int)+(two:Int))=((one+two:Nat):Int):=by rw [oQ (by omega) (by omega)]; omega
   have go: ∀dd:D,dd.l.length≤60→(dd.l≠[]→dd=dL dd.l)→∃(l0:List D) (s k:D) (A B V W:PS),L 2400 [enc d0,enc d1,enc dd]=some [enc (eD l0),enc s,enc k]∧P6 d0 d1 s k l0 one two A B V W∧
    (dd.l= []→L 2701 [enc (eD l0),enc (eD A.l),(one:Int),0,enc d0,enc d1,enc s,enc k,enc A.s,enc A.k]=some [1])∧(dd.l≠[]→L 2702 [enc (eD l0),enc (eD A.l),enc dd,(one:Int),0,enc d0,enc d1,enc s,enc k,enc A.s,enc A.k]=some [1]):=fun dd hd hdd=>by
    have E:=run_eq h0 h1 (dd.l.map (YQ d1)) base base 0 E0 (by rw [List.length_map]; omega);have hpl:=hPl dd (by omega);obtain⟨p0,hp0⟩ : ∃p0,gB d0 d1 base (dd.l.map (YQ d1))=p0:=⟨_,rfl⟩;rw [hp0] at E hpl;obtain⟨s,k,l0⟩:=p0;have S:=E.pk.sx;have ll:=E.pk.ll;have nk:=E.nk;simp only [List.length_map,Nat.zero_add] at S ll nk;obtain⟨A,B,V,W,R⟩:=agH h0 h1 (l0:=l0) (S.mono hd) nk o1 o2;obtain⟨f1,f2⟩:=awM hp hbd o1 hd hdd (by omega) hPl hp0 R;exact⟨l0,s,k,A,B,V,W,hpl,R,f1,f2⟩
   by_cases h60:(60:Int) < (d.l.length:Int)
   ·obtain⟨l0,s,k,A,B,V,W,hpl,R,f1,f2⟩:=go (dN d (d.l.take 60)) (by rw [gJ,List.length_take]; omega) (fun hz=>by rw [gJ] at hz ⊢; rw [yY hz]);have ra:=R.a;have rb:=R.b;have rv:=R.v;have uv:=R.uv;have la:=R.la;have lb:=R.lb;have vl:=R.vl;unfold KF at ra rb rv;have c9:((dN d (d.l.take 60)).l.length:Int) < 17592186044416:=by rw [gJ,List.length_take]; omega
    have a1:((eD A.l).l.length:Int) < 3518437208883:=by rw [kU]; omega
    have a2:((eD A.l).l.length:Int) < 1000000:=by rw [kU]; omega
    have b1:((eD B.l).l.length:Int) < 3518437208883:=by rw [kU]; omega
    have b2:((eD B.l).l.length:Int) < 3518436208883:=by rw [kU]; omega
    have q: ∀x:D,x.l=A.l++B.l→L 2450 [enc x,enc (eD V.l)]=some [1]:=fun x hx=>xO (by rw [hx,kU,vl]) (by rw [hx,List.length_append]; omega);rw [aQ,Yf];by_cases zA:((eD A.l).l.length:Int)=0
    ·have eA:A.l= []:=by rw [kU] at zA; exact List.eq_nil_of_length_eq_zero (by omega)
     by_cases zB:((eD B.l).l.length:Int)=0
     ·have eB:B.l= []:=by rw [kU] at zB; exact List.eq_nil_of_length_eq_zero (by omega)
      by_cases zd:((dN d (d.l.take 60)).l.length:Int)=0
      ·have ez:(dN d (d.l.take 60)).l= []:=List.eq_nil_of_length_eq_zero (by omega);have q':=q (.i 2) (by rw [eA,eB]; simp [D.l]);simp only [pX,zz,dr,hG,n0,h60,show (60:Int).toNat=60 from rfl,hpl,w1,w2,w3,ra,rb,rv,uv,q',len1,zA,zB,zd,aC,aF];exact f1 ez
      ·have ez:(dN d (d.l.take 60)).l≠[]:=fun h=>zd (by rw [h]; rfl);have q':=q (.i 2) (by rw [eA,eB]; simp [D.l]);simp only [pX,zz,dr,hG,n0,h60,show (60:Int).toNat=60 from rfl,hpl,w1,w2,w3,ra,rb,rv,uv,q',len1,zA,zB,if_neg zd,c9,aC,aF];exact f2 ez
     ·by_cases zd:((dN d (d.l.take 60)).l.length:Int)=0
      ·have ez:(dN d (d.l.take 60)).l= []:=List.eq_nil_of_length_eq_zero (by omega);have q':=q (eD B.l) (by rw [kU,eA]; rfl);simp only [pX,zz,dr,hG,n0,h60,show (60:Int).toNat=60 from rfl,hpl,w1,w2,w3,ra,rb,rv,uv,q',len1,zA,if_neg zB,b1,b2,zd,aC,aF];exact f1 ez
      ·have ez:(dN d (d.l.take 60)).l≠[]:=fun h=>zd (by rw [h]; rfl);have q':=q (eD B.l) (by rw [kU,eA]; rfl);simp only [pX,zz,dr,hG,n0,h60,show (60:Int).toNat=60 from rfl,hpl,w1,w2,w3,ra,rb,rv,uv,q',len1,zA,if_neg zB,b1,b2,if_neg zd,c9,aC,aF];exact f2 ez
    ·by_cases zB:((eD B.l).l.length:Int)=0
     ·have eB:B.l= []:=by rw [kU] at zB; exact List.eq_nil_of_length_eq_zero (by omega)
      by_cases zd:((dN d (d.l.take 60)).l.length:Int)=0
      ·have ez:(dN d (d.l.take 60)).l= []:=List.eq_nil_of_length_eq_zero (by omega);have q':=q (eD A.l) (by rw [kU,eB,List.append_nil]);simp only [pX,zz,dr,hG,n0,h60,show (60:Int).toNat=60 from rfl,hpl,w1,w2,w3,ra,rb,rv,uv,q',len1,if_neg zA,a1,a2,zB,zd,aC,aF];exact f1 ez
      ·have ez:(dN d (d.l.take 60)).l≠[]:=fun h=>zd (by rw [h]; rfl);have q':=q (eD A.l) (by rw [kU,eB,List.append_nil]);simp only [pX,zz,dr,hG,n0,h60,show (60:Int).toNat=60 from rfl,hpl,w1,w2,w3,ra,rb,rv,uv,q',len1,if_neg zA,a1,a2,zB,if_neg zd,c9,aC,aF];exact f2 ez
     ·by_cases zd:((dN d (d.l.take 60)).l.length:Int)=0
      ·have ez:(dN d (d.l.take 60)).l= []:=List.eq_nil_of_length_eq_zero (by omega);have q':=q (dL ((eD A.l).l++(eD B.l).l)) (by rw [aT,kU,kU]);simp only [pX,zz,dr,hG,n0,h60,show (60:Int).toNat=60 from rfl,hpl,w1,w2,w3,ra,rb,rv,uv,q',len1,if_neg zA,a1,a2,if_neg zB,b1,b2,zd,aC,aF];exact f1 ez
      ·have ez:(dN d (d.l.take 60)).l≠[]:=fun h=>zd (by rw [h]; rfl);have q':=q (dL ((eD A.l).l++(eD B.l).l)) (by rw [aT,kU,kU]);simp only [pX,zz,dr,hG,n0,h60,show (60:Int).toNat=60 from rfl,hpl,w1,w2,w3,ra,rb,rv,uv,q',len1,if_neg zA,a1,a2,if_neg zB,b1,b2,if_neg zd,c9,aC,aF];exact f2 ez
   ·obtain⟨l0,s,k,A,B,V,W,hpl,R,f1,f2⟩:=go (dN d (d.l.take d.l.length)) (by rw [gJ,List.length_take]; omega) (fun hz=>by rw [gJ] at hz ⊢; rw [yY hz]);have ra:=R.a;have rb:=R.b;have rv:=R.v;have uv:=R.uv;have la:=R.la;have lb:=R.lb;have vl:=R.vl;unfold KF at ra rb rv;have c9:((dN d (d.l.take d.l.length)).l.length:Int) < 17592186044416:=by rw [gJ,List.length_take]; omega
    have a1:((eD A.l).l.length:Int) < 3518437208883:=by rw [kU]; omega
    have a2:((eD A.l).l.length:Int) < 1000000:=by rw [kU]; omega
    have b1:((eD B.l).l.length:Int) < 3518437208883:=by rw [kU]; omega
    have b2:((eD B.l).l.length:Int) < 3518436208883:=by rw [kU]; omega
    have q: ∀x:D,x.l=A.l++B.l→L 2450 [enc x,enc (eD V.l)]=some [1]:=fun x hx=>xO (by rw [hx,kU,vl]) (by rw [hx,List.length_append]; omega);rw [aQ,Yf];by_cases zA:((eD A.l).l.length:Int)=0
    ·have eA:A.l= []:=by rw [kU] at zA; exact List.eq_nil_of_length_eq_zero (by omega)
     by_cases zB:((eD B.l).l.length:Int)=0
     ·have eB:B.l= []:=by rw [kU] at zB; exact List.eq_nil_of_length_eq_zero (by omega)
      by_cases zd:((dN d (d.l.take d.l.length)).l.length:Int)=0
      ·have ez:(dN d (d.l.take d.l.length)).l= []:=List.eq_nil_of_length_eq_zero (by omega);have q':=q (.i 2) (by rw [eA,eB]; simp [D.l]);simp only [pX,zz,dr,hG,n0,h60,Int.lt_irrefl,Int.toNat_natCast,hpl,w1,w2,w3,ra,rb,rv,uv,q',len1,zA,zB,zd,aC,aF];exact f1 ez
      ·have ez:(dN d (d.l.take d.l.length)).l≠[]:=fun h=>zd (by rw [h]; rfl);have q':=q (.i 2) (by rw [eA,eB]; simp [D.l]);simp only [pX,zz,dr,hG,n0,h60,Int.lt_irrefl,Int.toNat_natCast,hpl,w1,w2,w3,ra,rb,rv,uv,q',len1,zA,zB,if_neg zd,c9,aC,aF];exact f2 ez
     ·by_cases zd:((dN d (d.l.take d.l.length)).l.length:Int)=0
      ·have ez:(dN d (d.l.take d.l.length)).l= []:=List.eq_nil_of_length_eq_zero (by omega);have q':=q (eD B.l) (by rw [kU,eA]; rfl);simp only [pX,zz,dr,hG,n0,h60,Int.lt_irrefl,Int.toNat_natCast,hpl,w1,w2,w3,ra,rb,rv,uv,q',len1,zA,if_neg zB,b1,b2,zd,aC,aF];exact f1 ez
      ·have ez:(dN d (d.l.take d.l.length)).l≠[]:=fun h=>zd (by rw [h]; rfl);have q':=q (eD B.l) (by rw [kU,eA]; rfl);simp only [pX,zz,dr,hG,n0,h60,Int.lt_irrefl,Int.toNat_natCast,hpl,w1,w2,w3,ra,rb,rv,uv,q',len1,zA,if_neg zB,b1,b2,if_neg zd,c9,aC,aF];exact f2 ez
    ·by_cases zB:((eD B.l).l.length:Int)=0
     ·have eB:B.l= []:=by rw [kU] at zB; exact List.eq_nil_of_length_eq_zero (by omega)
      by_cases zd:((dN d (d.l.take d.l.length)).l.length:Int)=0
      ·have ez:(dN d (d.l.take d.l.length)).l= []:=List.eq_nil_of_length_eq_zero (by omega);have q':=q (eD A.l) (by rw [kU,eB,List.append_nil]);simp only [pX,zz,dr,hG,n0,h60,Int.lt_irrefl,Int.toNat_natCast,hpl,w1,w2,w3,ra,rb,rv,uv,q',len1,if_neg zA,a1,a2,zB,zd,aC,aF];exact f1 ez
      ·have ez:(dN d (d.l.take d.l.length)).l≠[]:=fun h=>zd (by rw [h]; rfl);have q':=q (eD A.l) (by rw [kU,eB,List.append_nil]);simp only [pX,zz,dr,hG,n0,h60,Int.lt_irrefl,Int.toNat_natCast,hpl,w1,w2,w3,ra,rb,rv,uv,q',len1,if_neg zA,a1,a2,zB,if_neg zd,c9,aC,aF];exact f2 ez
     ·by_cases zd:((dN d (d.l.take d.l.length)).l.length:Int)=0
      ·have ez:(dN d (d.l.take d.l.length)).l= []:=List.eq_nil_of_length_eq_zero (by omega);have q':=q (dL ((eD A.l).l++(eD B.l).l)) (by rw [aT,kU,kU]);simp only [pX,zz,dr,hG,n0,h60,Int.lt_irrefl,Int.toNat_natCast,hpl,w1,w2,w3,ra,rb,rv,uv,q',len1,if_neg zA,a1,a2,if_neg zB,b1,b2,zd,aC,aF];exact f1 ez
      ·have ez:(dN d (d.l.take d.l.length)).l≠[]:=fun h=>zd (by rw [h]; rfl);have q':=q (dL ((eD A.l).l++(eD B.l).l)) (by rw [aT,kU,kU]);simp only [pX,zz,dr,hG,n0,h60,Int.lt_irrefl,Int.toNat_natCast,hpl,w1,w2,w3,ra,rb,rv,uv,q',len1,if_neg zA,a1,a2,if_neg zB,b1,b2,if_neg zd,c9,aC,aF];exact f2 ez
 ·rw [aQ,Yf];simp only [pX,zz,hG,if_neg g0,bH]
end
end Go.As.Try
end
section
namespace Go.Proofs.YtmmdeeeifpepjabGreatDoor.fnFreeRounds
open Go hiding Stat
open Go.As Go.As.Try Go.Proofs Go.RowKit Go.ChangeShapes Go.WideShapes Go.ChangeAt
set_option maxRecDepth 100000
theorem awQ:yV Tryz.prog amP 8 25=some [.sl 3,.sl 4]:=by kernel_rfl
theorem awP:yV Tryz.prog amP 8 27=some [.sl 0]:=by kernel_rfl
theorem awO:yV Tryz.prog amP 8 50=some [.int .u8,.int .u8]:=by kernel_rfl
theorem PD {H:Type} {enc:TypeId×Value→H} {W:World} {t:TypeId} {v:Value} {d:DataW H} {p:List MemPlace} {QI:List CK} (hf:yV Tryz.prog amP 8 t=some QI) (h:DataW.Trod enc Tryz.prog W 0 (fun _=>true) true t v d p) (hw:(d.weights Tryz.prog t).all (·≤reachBytes)=true) :
 ∃ds,Rs (Wv W) W.heap QI ds v.cells.toList:=by
 obtain⟨fuel,hx⟩:=h;exact UQ avR fuel t 8 QI v.cells.toList (d,p) hf hx hw
theorem aBF {ro:Nat→Prop} {h:Array Obj} {t:Nat} {x:D} {v:Value} (r:Rd ro h (.sl t) x v): ∃a cap,v= .slice a x.l.length cap:=by
 cases r with
 | nil=>exact⟨_,_,rfl⟩
 | non=>exact⟨_,_,rfl⟩
 | one c b o cap ds f hr hc hb h1 h2=>exact⟨_,_,by rw [aT]⟩
 | many cs b o cap rows f hr hc hb hl h1 h2=>exact⟨_,_,by rw [aT,List.length_map]⟩
theorem Yt {H:Type}: ∀l:List (DataW H),l.length≤Rows.uptoBulkAll l
 | []=>Nat.zero_le _
 | d :: l=>by
   have h:=Yt l
   have h1:1≤Rows.uptoBulk d:=by
    cases d with
    | lit l=>cases l <;> simp [Rows.uptoBulk]
    | nil=>simp [Rows.uptoBulk]
    | ptr d=>simp [Rows.uptoBulk]
    | slice elems spare=>simp [Rows.uptoBulk]
    | agg parts=>simp [Rows.uptoBulk]
    | iface t d=>simp [Rows.uptoBulk]
    | map entries=>simp [Rows.uptoBulk]
    | held h=>simp [Rows.uptoBulk]
   simp only [Rows.uptoBulkAll,List.length_cons];omega
theorem aBn {H:Type} {enc:TypeId×Value→H} {W:World} {d:DataW H} {p:List MemPlace} {u0 u1:Value} (h:DataW.Trod enc Tryz.prog W 0 (fun _=>true) true 25 (.agg #[u0,u1]) d p) {x:D} (r:Rd (Wv W) W.heap (.sl 4) x u1):x.l.length≤Rows.uptoBulk d:=by
 obtain⟨fuel,hx⟩:=h;obtain⟨y0,y1,n,he,_,_,h1⟩:=trod_struct2 Tryz.underlying25 hx;obtain⟨a,cap,rfl⟩:=aBF r;have e: ∀k m:Nat,k=1→m=1→((#[u0,.slice a x.l.length cap]:Array Value).toList.drop k).take m= [.slice a x.l.length cap]:=fun k m hk hm=>by subst hk hm; rfl
 have h1':DataW.trod enc Tryz.prog W 0 (fun _=>true) true n 23 [.slice a x.l.length cap]=some y1:=by rw [← e _ _ (by kernel_rfl) (by kernel_rfl)];exact h1
 have hd:d= .agg [y0.1,y1.1]:=congrArg Prod.fst he;rw [hd];simp only [Rows.uptoBulk,Rows.uptoBulkAll];rcases DataW.trod_slice Tryz.underlying23 h1' with ⟨h2,h3⟩ | ⟨a',len,cap',elems,rest,n',hn,h2,h3,_,_,_,hlen,_⟩
 ·simp only [List.cons.injEq,Value.slice.injEq,and_true] at h2;omega
 ·simp only [List.cons.injEq,Value.slice.injEq,and_true] at h2;have:=Yt (elems.map (·.1));rw [h3];simp only [Rows.uptoBulk,List.length_map] at this ⊢;omega
theorem aD9:2700∈S.nums 5:=by
 have h:S.nums 5= [2700]:=by kernel_rfl
 rw [h];simp
theorem contract (H:Type) (enc:TypeId×Value→H) (W:World) (base:Nat) (args:Array Value) (ds gs:List (DataW H)) (before:List MemPlace)
 (hval: ∀(j:Nat) t v,Tryz.f5.params[j]?=some t→args[j]?=some v→Value.okWide Tryz.prog W .any base t v)
 (hW:DataW.Whole enc Tryz.prog Tryz.f5.params.toList Rows.freeRoundsSpec.vars false W args.toList ds gs before)
 (hsz:(DataW.weightsEach Tryz.prog (Tryz.f5.params.toList++ []) (ds++gs)).all (·≤reachBytes)=true) (hsh:W.ShapedOpen Tryz.prog) (hk:Rows.uptoSmall H (ds++gs)=true) :
 Calls Tryz.prog 5 args W fun e W'=> ∃v,e= .returned v∧Rows.freeRoundsSpec.post enc Tryz.prog Tryz.f5 false true false false W args v W':=by
 have hW':=hW;obtain⟨p,q,hA0,hV,rfl,hfz,hnd⟩:=hW;have hA:DataW.TrodAll enc Tryz.prog W 0 (fun _=>true) true Tryz.f5.params.toList args.toList ds p:=hA0;rw [Tryz.params5] at hA hval hsz;obtain⟨v0,vs0,d0,ds0,p0,q0,hargs,rfl,rfl,h0,r0⟩:=trodAll_cons hA;obtain⟨v1,vs1,d1,ds1,p1,q1,rfl,rfl,rfl,h1,r1⟩:=trodAll_cons r0;obtain⟨v2,vs2,d2,ds2,p2,q2,rfl,rfl,rfl,h2,r2⟩:=trodAll_cons r1;obtain⟨rfl,rfl,rfl⟩:=trodAll_nil r2;obtain rfl:args= #[v0,v1,v2]:=by cases args; simp_all
 obtain⟨rfl,rfl⟩:=trodVars_none hV;clear hA0;simp only [List.append_nil] at hW';have hlt: ∀x∈p0++(p1++p2),x.block < W.heap.size:=fun x hx=>by simpa using hW'.lt x (by simpa using hx)
 have hlt0: ∀x∈p0,x.block < W.heap.size:=fun x hx=>hlt x (List.mem_append_left _ hx);have hlt1: ∀x∈p1,x.block < W.heap.size:=fun x hx=>hlt x (List.mem_append_right _ (List.mem_append_left _ hx));have hlt2: ∀x∈p2,x.block < W.heap.size:=fun x hx=>hlt x (List.mem_append_right _ (List.mem_append_right _ hx))
 have hsz':(d0.weights Tryz.prog 25).all (·≤reachBytes)=true∧(d1.weights Tryz.prog 27).all (·≤reachBytes)=true∧(d2.weights Tryz.prog 50).all (·≤reachBytes)=true:=by have:(DataW.weightsEach Tryz.prog [25,27,50] [d0,d1,d2]).all (·≤reachBytes)=true:=hsz;simp only [DataW.weightsEach,List.all_append,Bool.and_eq_true] at this;exact⟨this.1,this.2.1,this.2.2.1⟩
 obtain⟨es0,R0⟩:=PD awQ h0 hsz'.1;obtain⟨es1,R1⟩:=PD awP h1 hsz'.2.1;obtain⟨es2,R2⟩:=PD awO h2 hsz'.2.2;obtain⟨cs0,rfl,_⟩:=okWide_struct Tryz.underlying25 (hval 0 25 v0 rfl rfl);have e0:(Value.agg cs0).cells.toList=cs0.toList:=rfl;obtain⟨ad1,len1,cap1,rfl⟩:=okWide_slice Tryz.underlying27 (hval 1 27 v1 rfl rfl);have e1:(Value.slice ad1 len1 cap1).cells.toList= [.slice ad1 len1 cap1]:=rfl;obtain⟨cs2,rfl,_⟩:=U3 Tryz.underlying50 (hval 2 50 v2 rfl rfl);have e2:(Value.agg cs2).cells.toList=cs2.toList:=rfl;rw [e0] at R0;rw [e1] at R1;rw [e2] at R2
 match es0,hcs0:cs0.toList,R0 with
 | [x0,x1],[u0,u1],.cons r0_ w0 (.cons r1_ w1 .nil)=>
   obtain rfl:cs0= #[u0,u1]:=by rw [← Array.toArray_toList (xs:=cs0),hcs0]
   match es1,R1 with
   | [x2],.cons r2_ w2 .nil=>
     match es2,hcs2:cs2.toList,R2 with
     | [x3,x4],[u3,u4],.cons r3_ w3 (.cons r4_ w4 .nil)=>
       obtain rfl:cs2= #[u3,u4]:=by rw [← Array.toArray_toList (xs:=cs2),hcs2]
       obtain⟨n3,rfl,h3_⟩:=w3.i;have q3:zG (Wv W) W.heap (.int .u8) n3 (u3):=by cases r3_; rfl
       obtain⟨n4,rfl,h4_⟩:=w4.i;have q4:zG (Wv W) W.heap (.int .u8) n4 (u4):=by cases r4_; rfl
       have hbd:60+30*x1.l.length≤40000000:=by have hb:Rows.uptoBulkAll [d0,d1,d2]≤1048576:=of_decide_eq_true hk;have h2:=aBn h0 r1_;simp only [Rows.uptoBulkAll] at hb;omega
       have hL:=XO w0 w1 hbd x2 h3_ h4_;refine (asV (g:=5) (j:=2700) (e:=aoZ.ent) aD9 (by kernel_rfl) rfl rfl hL hsh (vals:=[.agg [u0,u1].toArray,.slice ad1 len1 cap1,.agg [u3,u4].toArray]) (fl:=[u0,u1,.slice ad1 len1 cap1,u3,u4]) (.agg _ [u0,u1] rfl (.one _ _ (.agg _ [u3,u4] rfl .nil))) ⟨_,_,_,_,rfl,rfl,PI r0_,_,_,_,_,rfl,rfl,PI r1_,_,_,_,_,rfl,rfl,PI r2_,_,_,_,_,rfl,rfl,q3,_,_,_,_,rfl,rfl,q4,rfl,rfl⟩).mono fun e W' ⟨he,hb⟩=>?_;subst he;exact⟨_,rfl,⟨_,_,_,[],_,[],hW',trodAll_mk1 (shut_bool Tryz.underlying4 _),trodAll_mk3 (Below.trod laidOut (by kernel_rfl) (of_decide_eq_true (by kernel_rfl)) h0 hb hlt0) (Below.trod laidOut (by kernel_rfl) (of_decide_eq_true (by kernel_rfl)) h1 hb hlt1) (Below.trod laidOut (by kernel_rfl) (of_decide_eq_true (by kernel_rfl)) h2 hb hlt2),rfl,hb.frame _,fun h=>by cases h⟩⟩
abbrev abN:Array Value:=#[.agg #[.slice none 0 0,.slice none 0 0],.slice none 0 0,.agg #[.int .u8 0,.int .u8 0]]
theorem laid_met (os:Os):laidMet Tryz.prog Rows.freeRoundsUptoRow.laid ((laidWorld os).forCall (fun _ _=>0) ⟨#[],abN,[]⟩).memory:=
 laidMet_of_run' 8 (by kernel_rfl) (by kernel_rfl)
theorem reads (os:Os) {H:Type} (enc:TypeId×Value→H): ∃places,DataW.whole enc Tryz.prog ((laidWorld os).forCall (fun _ _=>0) ⟨#[],abN,[]⟩).memory Tryz.f5.params.toList [] false abN.toList 8=some ([.agg [.nil,.nil],.nil,.agg [.lit (.int .u8 0),.lit (.int .u8 0)]],[],places):=
 ⟨[],by kernel_rfl⟩
set_option maxHeartbeats 400000 in
theorem lifted (os:Os) (started:os.Started) (H:Type) (enc:TypeId×Value→H) (F:Stop.Interp) :
 ReturnsInHanded {} Tryz.checked os 5 .any ((Rows.OpenSpec.upto Rows.freeRoundsSpec).preRow enc Tryz.prog Tryz.f5 Rows.freeRoundsUptoRow.domain false Rows.freeRoundsUptoRow.laid) (((Rows.OpenSpec.upto Rows.freeRoundsSpec).at F).post enc Tryz.prog Tryz.f5 false true false false):=by
 obtain⟨places,hx⟩:=reads os enc
 refine returnsInHanded_of_row (C:=Tryz.checked) (s:=Rows.OpenSpec.upto Rows.freeRoundsSpec) Try.own started (by kernel_rfl) Tryz.func5
  (witness_row_at (enc:=enc) (C:=Tryz.checked) false (laidWorld os) abN rfl (by kernel_rfl) (by kernel_rfl) (by kernel_rfl)
   (OpenSpec.preRow_of_cond 8 hx (by kernel_rfl) (fun k hk=>by cases hk; kernel_rfl) (by kernel_rfl) (laid_met os))) ?_
 intro W base args ds gs before hval hW _ hcond hsz _ hsh _;exact contract H enc W base args ds gs before hval hW hsz hsh (hcond _ rfl)
theorem jM {a b:Bool} (h1:a=true) (h2:b=true):(a && b)=true:=by rw [h1,h2]; rfl
theorem closed:joinedFacts Tryz.pinned.checked.prog 5 Tryz.f5 (Rows.OpenSpec.upto Rows.freeRoundsSpec).bare Rows.freeRoundsUptoRow=true:=(jM (jM (jM (jM (jM (jM (jM (jM (jM (jM (jM (jM (jM (jM (jM (jM (jM (jM (jM (jM (jM (jM (jM (jM (jM (jM (jM (jM (jM (jM (jM (by kernel_rfl) (by kernel_rfl)) (by kernel_rfl)) (by kernel_rfl)) (by kernel_rfl)) (by kernel_rfl)) (by kernel_rfl)) (by kernel_rfl)) (by kernel_rfl)) (by kernel_rfl)) (by kernel_rfl)) (by kernel_rfl)) (by kernel_rfl)) (by kernel_rfl)) (by kernel_rfl)) (by kernel_rfl)) (by kernel_rfl)) (by kernel_rfl)) (by kernel_rfl)) (by kernel_rfl)) (by kernel_rfl)) (by kernel_rfl)) (by kernel_rfl)) (by kernel_rfl)) (by kernel_rfl)) (by kernel_rfl)) (by kernel_rfl)) (by kernel_rfl)) (by kernel_rfl)) (by kernel_rfl)) (by kernel_rfl)) (by kernel_rfl))
theorem said:Rows.FreeRoundsUptoSaid:=
 OpenClaim.holds_of_cond 5 Tryz.f5 rfl rfl rfl rfl rfl rfl rfl ⟨rfl,rfl,rfl,rfl,rfl⟩ rfl rfl rfl rfl rfl (by kernel_rfl) Tryz.func5 closed
  (of_decide_eq_true (by kernel_rfl)) (by unfold Func.isWrapper; first | (rw [if_pos (by decide +kernel)]; kernel_rfl) | (rw [if_neg (by decide +kernel)]; exact⟨rfl,rfl⟩))
  (fun os started H enc _ F=>by rw [OpenClaim.pre_eq_preRow]; exact lifted os started H enc F)
theorem plain (f:FuncId) (fn:Func) (hf:Tryz.pinned.checked.prog.funcNamed "amanuensis/amanuensislaw17.FreeRounds" = some f) (hfn:Tryz.pinned.checked.prog.funcs[f]?=some fn) :
 false=Tryz.pinned.checked.prog.looks []∧∀(j:Nat) t,fn.params[j]?=some t→Tryz.pinned.checked.prog.wantsStandIn t=false:=by
 obtain rfl:f=5:=Option.some.inj ((show Tryz.prog.funcNamed "amanuensis/amanuensislaw17.FreeRounds" = some 5 by kernel_rfl).symm.trans hf) |>.symm;obtain rfl:fn=Tryz.f5:=(Option.some.inj (Tryz.func5.symm.trans hfn)).symm;refine⟨by kernel_rfl,fun j t ht=>?_⟩;rw [Tryz.params5] at ht;have hm:=Array.mem_of_getElem? ht;simp only [List.mem_toArray,List.mem_cons,List.not_mem_nil,or_false] at hm;rcases hm with rfl | rfl | rfl
 all_goals exact (by kernel_rfl:Tryz.prog.wantsStandIn _=false)
theorem card:Rows.FreeRoundsUptoCardSaid:=
 Claim7.holds_tied_plain_at .later [] _ _ _ _ said (fun _ h=>by cases h) (by kernel_rfl) (fun _ h=>by cases h) freeRoundsUpto_row_tie rfl ⟨rfl,rfl⟩ (by kernel_rfl) rfl plain (by kernel_rfl)
end Go.Proofs.YtmmdeeeifpepjabGreatDoor.fnFreeRounds
end

/-
  Proved: the given card of the law PrimsTell: whatever the input, the call returns true and each argument reads afterwards as it did. Conditions: those of the given row alone (its listed package-level variables start as the program's text lays them; each string, slice and map that is handed in lies within a process's addresses).
-/
import Derived.Test.YtmnjojaejpcggaaGreatDoorAsZT3
set_option linter.unusedSectionVars false
set_option linter.unusedVariables false
set_option linter.unusedSimpArgs false
section
namespace Go.As.Try
open Go hiding Stat Spec shape
open Go.As
set_option maxRecDepth 100000
def P5 (nl:Nat) (e:D):Prop:=Ox 20 (nl:Int) e/\parts 20 e<=1000
theorem XL (kids loc:D) (nm' code:Int) (hk:Wd (.sl 6) kids): ∀(j i:Nat),i+j=kids.l.length->Tot 5401 [enc kids,(kids.l.length:Int),(i:Int),nm',enc loc,code] (fun ys=> ∃c:Int,ys= [nm',enc loc,code,c]/\(c<0↔∀e∈kids.l.drop i,P5 loc.l.length e))
 |0,i,hi=>by
  have c1: ¬(i:Int)<(kids.l.length:Int):=by omega
  refine Tot.of ?_;rw [apS,aHE (by omega)];simp only [acF,zz,c1];exact .out ⟨_,rfl,⟨fun _=>by simp,fun _=>by omega⟩⟩
 |j+1,i,hi=>by
  have hlen:=hk.len;have hil:i<kids.l.length:=by omega
  have c1:(i:Int)<(kids.l.length:Int):=by omega
  have c2: ¬((i:Int)<0):=by omega
  have w:=aX (n:=i) (by omega);have hd:kids.l.drop i=kids.l[i]::kids.l.drop (i+1):=aHt hil;obtain⟨k',s',n',ks',he,ys,hR,b,rfl,hb,hb2⟩:=Z5 (loc.l.length:Int) hk hil;refine Tot.of ?_;rw [apS,hd];simp only [acF,zz,c1,c2,bF hil,he,zg,w,hR];rw [<- he];refine .ite (fun h0=> .out ⟨_,rfl,⟨fun h=>by omega,fun h=>?_⟩⟩) fun h0=> .jump ?_
  ·have:=hb2.2 (h _ (aHX ..));omega
  ·obtain⟨ys,hQ,c,rfl,hc⟩:=XL kids loc nm' code hk j (i+1) (by omega);have h1:=hb2.1 (by omega);exact⟨_,hQ,c,rfl,hc.trans ⟨fun q b hb=>(aHm.1 hb).elim (fun e=>e▸h1) (q b),fun q b hb=>q b (aH8 _ hb)⟩⟩
theorem aC1 (kids loc:D) (nm' code:Int) (hk:Wd (.sl 6) kids):Tot 5000 [enc kids,nm',enc loc,code] (fun ys=> ∃c:Int,ys= [nm',enc loc,code,c]/\(c=0↔∀e∈kids.l,P5 loc.l.length e)):=by
 have h0:Tot 5400 [enc kids,nm',enc loc,code] (fun ys=> ∃c:Int,ys= [nm',enc loc,code,c]/\(c<0↔∀e∈kids.l,P5 loc.l.length e)):=by refine Tot.of ?_;rw [azA];simp only [akB,zz];exact .jump (XL kids loc nm' code hk kids.l.length 0 (by omega))
 obtain⟨ys,hR,i,rfl,hi⟩:=h0;refine Tot.of ?_;rw [azL];simp only [akJ,zz,hR];exact .ite (fun h=> .out ⟨_,rfl,⟨fun _=>hi.1 h,fun _=>rfl⟩⟩) fun h=> .out ⟨_,rfl,⟨fun h'=>by omega,fun h'=>absurd (hi.2 h') h⟩⟩
def xU (d0:D) (nl nc:Nat) (dx op ob into to:Int) (na:Nat):Prop:=
 (dx=1/\0<=ob/\ob<(d0.l.length:Int)/\1<=op/\op<=23/\((d0.at ob).hd 0).n=kOf op/\(na:Int)=LP op/\((into= -1/\Ey op=0)\/(Ey op=1/\0<=into/\into<(nl:Int)))/\(op=16->0<=to/\to<=(nc:Int)))\/
 (dx=2/\0<=ob/\ob<(d0.l.length:Int)/\((d0.at ob).hd 0).n=6)\/(dx=3/\0<=into/\into<(nl:Int)/\(na:Int)=1)\/(dx=4/\0<=to/\to<=(nc:Int)/\(na:Int)=1)\/
 (dx=5/\0<=to/\to<=(nc:Int))\/(dx=6/\0<=into/\into<(nl:Int))\/(dx=7/\0<=into/\into<(nl:Int)/\0<=to/\to<=(nc:Int))
def opP (d0:D) (op ob:Int) (na:Nat):Prop:=1<=op/\op<=23/\((d0.at ob).hd 0).n=kOf op/\(na:Int)=LP op
theorem aeQ (d0:D) (nl nc:Nat) (op ob into to:Int) (na:Nat):(0<=ob/\ob<(d0.l.length:Int)/\opP d0 op ob na/\((into= -1/\Ey op=0)\/(Ey op=1/\0<=into/\into<(nl:Int)))/\(op=16->0<=to/\to<=(nc:Int)))↔xU d0 nl nc 1 op ob into to na:=by unfold xU opP;simp only [Int.reduceEq,false_and,true_and,or_false,false_or,and_assoc]
theorem aeP (d0:D) (nl nc:Nat) (op ob into to:Int) (na:Nat):(0<=ob/\ob<(d0.l.length:Int)/\((d0.at ob).hd 0).n=6)↔xU d0 nl nc 2 op ob into to na:=by unfold xU;simp only [Int.reduceEq,false_and,true_and,or_false,false_or,and_assoc]
theorem aeO (d0:D) (nl nc:Nat) (op ob into to:Int) (na:Nat):(0<=into/\into<(nl:Int)/\(na:Int)=1)↔xU d0 nl nc 3 op ob into to na:=by unfold xU;simp only [Int.reduceEq,false_and,true_and,or_false,false_or,and_assoc]
theorem aeN (d0:D) (nl nc:Nat) (op ob into to:Int) (na:Nat):(0<=to/\to<=(nc:Int)/\(na:Int)=1)↔xU d0 nl nc 4 op ob into to na:=by unfold xU;simp only [Int.reduceEq,false_and,true_and,or_false,false_or,and_assoc]
theorem aeM (d0:D) (nl nc:Nat) (op ob into to:Int) (na:Nat):(0<=to/\to<=(nc:Int))↔xU d0 nl nc 5 op ob into to na:=by unfold xU;simp only [Int.reduceEq,false_and,true_and,or_false,false_or,and_assoc]
theorem aeL (d0:D) (nl nc:Nat) (op ob into to:Int) (na:Nat):(0<=into/\into<(nl:Int))↔xU d0 nl nc 6 op ob into to na:=by unfold xU;simp only [Int.reduceEq,false_and,true_and,or_false,false_or,and_assoc]
theorem aeK (d0:D) (nl nc:Nat) (op ob into to:Int) (na:Nat):(0<=into/\into<(nl:Int)/\0<=to/\to<=(nc:Int))↔xU d0 nl nc 7 op ob into to na:=by unfold xU;simp only [Int.reduceEq,false_and,true_and,or_false,false_or,and_assoc]
set_option maxHeartbeats 1000000 in
theorem may1 (d0 d1 d3 d4 d:D) (x2 x6 x7 x8 x9 x10:Int) (hd:d.l.length<=2513169434915):Tot 750 [enc d0,enc d1,x2,enc d3,enc d4,1,x6,x7,x8,x9,x10,enc d] (isIff (0<=x7/\x7<(d0.l.length:Int)/\opP d0 x6 x7 d.l.length/\((x8= -1/\Ey x6=0)\/(Ey x6=1/\0<=x8/\x8<(d3.l.length:Int)))/\(x6=16->0<=x9/\x9<=(d4.l.length:Int)))):=by
 obtain⟨ys,h0,b0,rfl,p0,f0⟩:=afP ((d0.at x7).hd 0).n 1 x6 x7 x8 x9 x10 0 d hd;obtain⟨ys,h1,b1,rfl,p1,f1⟩:=afP ((d0.at x7).hd 0).n 1 x6 x7 x8 x9 x10 1 d hd;by_cases hQ:opP d0 x6 x7 d.l.length
 ·have f0:b0=1↔(x8= -1/\Ey x6=0):=f0.trans ⟨fun h=>h.2.2.2.2.elim id fun h=>absurd rfl h.2.2,fun h=> ⟨hQ.1,hQ.2.1,hQ.2.2.1,hQ.2.2.2,.inl h⟩⟩;have f1:b1=1↔(x8= -1/\Ey x6=0)\/(x8≠-1/\Ey x6=1):=f1.trans ⟨fun h=>h.2.2.2.2.imp id fun h=> ⟨h.1,h.2.1⟩,fun h=> ⟨hQ.1,hQ.2.1,hQ.2.2.1,hQ.2.2.2,h.imp id fun h=> ⟨h.1,h.2,by omega⟩⟩⟩;refine Tot.iff (p:=0<=x7/\x7<(d0.l.length:Int)/\((x8= -1/\Ey x6=0)\/(Ey x6=1/\0<=x8/\x8<(d3.l.length:Int)))/\(x6=16->0<=x9/\x9<=(d4.l.length:Int))) ?_ ⟨fun⟨a,b,c⟩=> ⟨a,b,hQ,c⟩,fun⟨a,b,_,c⟩=> ⟨a,b,c⟩⟩;refine Tot.of ?_;rw [P6];simp only [Me,zz,Int.reduceEq,h0,h1]
  repeat' first |exact .out (aG id)|exact .out (aG (by omega))|exact .out (aQ (by omega))|refine .ite (fun _=>?_) (fun _=>?_)|(exfalso; omega)
 ·have f0:b0=0:=by
   have: ¬b0=1:=fun h=>hQ ⟨(f0.1 h).1,(f0.1 h).2.1,(f0.1 h).2.2.1,(f0.1 h).2.2.2.1⟩;omega
  have f1:b1=0:=by have: ¬b1=1:=fun h=>hQ ⟨(f1.1 h).1,(f1.1 h).2.1,(f1.1 h).2.2.1,(f1.1 h).2.2.2.1⟩;omega
  refine Tot.iff (p:=False) ?_ ⟨fun h=>h.elim,fun h=>hQ h.2.2.1⟩;refine Tot.of ?_;rw [P6];simp only [Me,zz,Int.reduceEq,h0,h1,f0,f1]
  repeat' first |exact .out (aG id)|exact .out (aG (by omega))|exact .out (aQ (by omega))|refine .ite (fun _=>?_) (fun _=>?_)|(exfalso; omega)
set_option maxHeartbeats 1000000 in
theorem aGg (d0 d1 d3 d4 d:D) (x2 x6 x7 x8 x9 x10:Int):Tot 750 [enc d0,enc d1,x2,enc d3,enc d4,2,x6,x7,x8,x9,x10,enc d] (isIff (0<=x7/\x7<(d0.l.length:Int)/\((d0.at x7).hd 0).n=6)):=by
 refine Tot.of ?_;rw [P6];simp only [Me,zz,Int.reduceEq]
 repeat' first |exact .out (aG id)|exact .out (aG (by omega))|exact .out (aQ (by omega))|refine .ite (fun _=>?_) (fun _=>?_)|(exfalso; omega)
set_option maxHeartbeats 1000000 in
theorem aGf (d0 d1 d3 d4 d:D) (x2 x6 x7 x8 x9 x10:Int):Tot 750 [enc d0,enc d1,x2,enc d3,enc d4,3,x6,x7,x8,x9,x10,enc d] (isIff (0<=x8/\x8<(d3.l.length:Int)/\(d.l.length:Int)=1)):=by
 refine Tot.of ?_;rw [P6];simp only [Me,zz,Int.reduceEq]
 repeat' first |exact .out (aG id)|exact .out (aG (by omega))|exact .out (aQ (by omega))|refine .ite (fun _=>?_) (fun _=>?_)|(exfalso; omega)
set_option maxHeartbeats 1000000 in
theorem may4 (d0 d1 d3 d4 d:D) (x2 x6 x7 x8 x9 x10:Int):Tot 750 [enc d0,enc d1,x2,enc d3,enc d4,4,x6,x7,x8,x9,x10,enc d] (isIff (0<=x9/\x9<=(d4.l.length:Int)/\(d.l.length:Int)=1)):=by
 refine Tot.of ?_;rw [P6];simp only [Me,zz,Int.reduceEq]
 repeat' first |exact .out (aG id)|exact .out (aG (by omega))|exact .out (aQ (by omega))|refine .ite (fun _=>?_) (fun _=>?_)|(exfalso; omega)
set_option maxHeartbeats 1000000 in
theorem aGe (d0 d1 d3 d4 d:D) (x2 x6 x7 x8 x9 x10:Int):Tot 750 [enc d0,enc d1,x2,enc d3,enc d4,5,x6,x7,x8,x9,x10,enc d] (isIff (0<=x9/\x9<=(d4.l.length:Int))):=by
 refine Tot.of ?_;rw [P6];simp only [Me,zz,Int.reduceEq]
 repeat' first |exact .out (aG id)|exact .out (aG (by omega))|exact .out (aQ (by omega))|refine .ite (fun _=>?_) (fun _=>?_)|(exfalso; omega)
set_option maxHeartbeats 1000000 in
theorem aGd (d0 d1 d3 d4 d:D) (x2 x6 x7 x8 x9 x10:Int):Tot 750 [enc d0,enc d1,x2,enc d3,enc d4,6,x6,x7,x8,x9,x10,enc d] (isIff (0<=x8/\x8<(d3.l.length:Int))):=by
 refine Tot.of ?_;rw [P6];simp only [Me,zz,Int.reduceEq]
 repeat' first |exact .out (aG id)|exact .out (aG (by omega))|exact .out (aQ (by omega))|refine .ite (fun _=>?_) (fun _=>?_)|(exfalso; omega)
set_option maxHeartbeats 1000000 in
theorem aGc (d0 d1 d3 d4 d:D) (x2 x6 x7 x8 x9 x10:Int):Tot 750 [enc d0,enc d1,x2,enc d3,enc d4,7,x6,x7,x8,x9,x10,enc d] (isIff (0<=x8/\x8<(d3.l.length:Int)/\0<=x9/\x9<=(d4.l.length:Int))):=by
 refine Tot.of ?_;rw [P6];simp only [Me,zz,Int.reduceEq]
 repeat' first |exact .out (aG id)|exact .out (aG (by omega))|exact .out (aQ (by omega))|refine .ite (fun _=>?_) (fun _=>?_)|(exfalso; omega)
set_option maxHeartbeats 1000000 in
theorem may0 (d0 d1 d3 d4 d:D) (x2 x6 x7 x8 x9 x10:Int) (x5:Int) (h1:x5≠1) (h2:x5≠2) (h3:x5≠3) (h4:x5≠4) (h5:x5≠5) (h6:x5≠6) (h7:x5≠7):Tot 750 [enc d0,enc d1,x2,enc d3,enc d4,x5,x6,x7,x8,x9,x10,enc d] (isIff (False)):=by
 refine Tot.of ?_;rw [P6];simp only [Me,zz,Int.reduceEq,h1,h2,h3,h4,h5,h6,h7]
 repeat' first |exact .out (aG id)|exact .out (aG (by omega))|exact .out (aQ (by omega))|refine .ite (fun _=>?_) (fun _=>?_)|(exfalso; omega)
set_option maxHeartbeats 1000000 in
theorem aGp (d0 d1 d3 d4 d:D) (x2 x6 x7 x8 x9 x10:Int) (hl:d4.l.length<=140737488351232):Tot 4250 [enc d0,enc d1,x2,enc d3,enc d4,1,x6,x7,x8,x9,x10,enc d] (isIff (0<=x7/\x7<(d0.l.length:Int)/\opP d0 x6 x7 d.l.length/\((x8= -1/\Ey x6=0)\/(Ey x6=1/\0<=x8/\x8<(d3.l.length:Int)))/\(x6=16->0<=x9/\x9<=(d4.l.length:Int)))):=by
 have w:=aX (n:=d4.l.length) (by omega);obtain⟨ys,g0,b0,rfl,c0,f0⟩:=iP x8 (d3.l.length:Int);obtain⟨ys,g1,b1,rfl,c1,f1⟩:=iP x9 ((d4.l.length+1:Nat):Int);obtain⟨ys,g2,b2,rfl,c2,f2⟩:=iP x7 (d0.l.length:Int);have g3:=W9 x6;have g4:=ZA x6;have g5:=Zz x6;have vK:=dR x6;by_cases hop:1<=x6/\x6<=23
 ·rw [aHd hop] at g3;refine Tot.of ?_;rw [EG];simp only [BF,zz,Int.reduceEq,w,g0,g1,g2,g3,g4,g5];unfold opP
  repeat' first |exact .out (aG id)|exact .out (aG (by omega))|exact .out (aQ (by omega))|refine .ite (fun _=>?_) (fun _=>?_)|(exfalso; omega)
 ·rw [aHc hop] at g3;refine Tot.iff (p:=False) ?_ ⟨fun h=>h.elim,fun h=>hop ⟨h.2.2.1.1,h.2.2.1.2.1⟩⟩;refine Tot.of ?_;rw [EG];simp only [BF,zz,Int.reduceEq,w,g0,g1,g2,g3,g4,g5]
  repeat' first |exact .out (aG id)|exact .out (aG (by omega))|exact .out (aQ (by omega))|refine .ite (fun _=>?_) (fun _=>?_)|(exfalso; omega)
set_option maxHeartbeats 1000000 in
theorem aGo (d0 d1 d3 d4 d:D) (x2 x6 x7 x8 x9 x10:Int) (hl:d4.l.length<=140737488351232):Tot 4250 [enc d0,enc d1,x2,enc d3,enc d4,2,x6,x7,x8,x9,x10,enc d] (isIff (0<=x7/\x7<(d0.l.length:Int)/\((d0.at x7).hd 0).n=6)):=by
 have w:=aX (n:=d4.l.length) (by omega);obtain⟨ys,g0,b0,rfl,c0,f0⟩:=iP x8 (d3.l.length:Int);obtain⟨ys,g1,b1,rfl,c1,f1⟩:=iP x9 ((d4.l.length+1:Nat):Int);obtain⟨ys,g2,b2,rfl,c2,f2⟩:=iP x7 (d0.l.length:Int);refine Tot.of ?_;rw [EG];simp only [BF,zz,Int.reduceEq,w,g0,g1,g2]
 repeat' first |exact .out (aG id)|exact .out (aG (by omega))|exact .out (aQ (by omega))|refine .ite (fun _=>?_) (fun _=>?_)|(exfalso; omega)
set_option maxHeartbeats 1000000 in
theorem aGn (d0 d1 d3 d4 d:D) (x2 x6 x7 x8 x9 x10:Int) (hl:d4.l.length<=140737488351232):Tot 4250 [enc d0,enc d1,x2,enc d3,enc d4,3,x6,x7,x8,x9,x10,enc d] (isIff (0<=x8/\x8<(d3.l.length:Int)/\(d.l.length:Int)=1)):=by
 have w:=aX (n:=d4.l.length) (by omega);obtain⟨ys,g0,b0,rfl,c0,f0⟩:=iP x8 (d3.l.length:Int);obtain⟨ys,g1,b1,rfl,c1,f1⟩:=iP x9 ((d4.l.length+1:Nat):Int);refine Tot.of ?_;rw [EG];simp only [BF,zz,Int.reduceEq,w,g0,g1]
 repeat' first |exact .out (aG id)|exact .out (aG (by omega))|exact .out (aQ (by omega))|refine .ite (fun _=>?_) (fun _=>?_)|(exfalso; omega)
set_option maxHeartbeats 1000000 in
theorem aGm (d0 d1 d3 d4 d:D) (x2 x6 x7 x8 x9 x10:Int) (hl:d4.l.length<=140737488351232):Tot 4250 [enc d0,enc d1,x2,enc d3,enc d4,4,x6,x7,x8,x9,x10,enc d] (isIff (0<=x9/\x9<=(d4.l.length:Int)/\(d.l.length:Int)=1)):=by
 have w:=aX (n:=d4.l.length) (by omega);obtain⟨ys,g0,b0,rfl,c0,f0⟩:=iP x8 (d3.l.length:Int);obtain⟨ys,g1,b1,rfl,c1,f1⟩:=iP x9 ((d4.l.length+1:Nat):Int);refine Tot.of ?_;rw [EG];simp only [BF,zz,Int.reduceEq,w,g0,g1]
 repeat' first |exact .out (aG id)|exact .out (aG (by omega))|exact .out (aQ (by omega))|refine .ite (fun _=>?_) (fun _=>?_)|(exfalso; omega)
set_option maxHeartbeats 1000000 in
theorem aGl (d0 d1 d3 d4 d:D) (x2 x6 x7 x8 x9 x10:Int) (hl:d4.l.length<=140737488351232):Tot 4250 [enc d0,enc d1,x2,enc d3,enc d4,5,x6,x7,x8,x9,x10,enc d] (isIff (0<=x9/\x9<=(d4.l.length:Int))):=by
 have w:=aX (n:=d4.l.length) (by omega);obtain⟨ys,g0,b0,rfl,c0,f0⟩:=iP x8 (d3.l.length:Int);obtain⟨ys,g1,b1,rfl,c1,f1⟩:=iP x9 ((d4.l.length+1:Nat):Int);refine Tot.of ?_;rw [EG];simp only [BF,zz,Int.reduceEq,w,g0,g1]
 repeat' first |exact .out (aG id)|exact .out (aG (by omega))|exact .out (aQ (by omega))|refine .ite (fun _=>?_) (fun _=>?_)|(exfalso; omega)
set_option maxHeartbeats 1000000 in
theorem aGk (d0 d1 d3 d4 d:D) (x2 x6 x7 x8 x9 x10:Int) (hl:d4.l.length<=140737488351232):Tot 4250 [enc d0,enc d1,x2,enc d3,enc d4,6,x6,x7,x8,x9,x10,enc d] (isIff (0<=x8/\x8<(d3.l.length:Int))):=by
 have w:=aX (n:=d4.l.length) (by omega);obtain⟨ys,g0,b0,rfl,c0,f0⟩:=iP x8 (d3.l.length:Int);obtain⟨ys,g1,b1,rfl,c1,f1⟩:=iP x9 ((d4.l.length+1:Nat):Int);refine Tot.of ?_;rw [EG];simp only [BF,zz,Int.reduceEq,w,g0,g1]
 repeat' first |exact .out (aG id)|exact .out (aG (by omega))|exact .out (aQ (by omega))|refine .ite (fun _=>?_) (fun _=>?_)|(exfalso; omega)
set_option maxHeartbeats 1000000 in
theorem aGj (d0 d1 d3 d4 d:D) (x2 x6 x7 x8 x9 x10:Int) (hl:d4.l.length<=140737488351232):Tot 4250 [enc d0,enc d1,x2,enc d3,enc d4,7,x6,x7,x8,x9,x10,enc d] (isIff (0<=x8/\x8<(d3.l.length:Int)/\0<=x9/\x9<=(d4.l.length:Int))):=by
 have w:=aX (n:=d4.l.length) (by omega);obtain⟨ys,g0,b0,rfl,c0,f0⟩:=iP x8 (d3.l.length:Int);obtain⟨ys,g1,b1,rfl,c1,f1⟩:=iP x9 ((d4.l.length+1:Nat):Int);refine Tot.of ?_;rw [EG];simp only [BF,zz,Int.reduceEq,w,g0,g1]
 repeat' first |exact .out (aG id)|exact .out (aG (by omega))|exact .out (aQ (by omega))|refine .ite (fun _=>?_) (fun _=>?_)|(exfalso; omega)
set_option maxHeartbeats 1000000 in
theorem aGq (d0 d1 d3 d4 d:D) (x2 x6 x7 x8 x9 x10:Int) (hl:d4.l.length<=140737488351232) (x5:Int) (h1:x5≠1) (h2:x5≠2) (h3:x5≠3) (h4:x5≠4) (h5:x5≠5) (h6:x5≠6) (h7:x5≠7):Tot 4250 [enc d0,enc d1,x2,enc d3,enc d4,x5,x6,x7,x8,x9,x10,enc d] (isIff (False)):=by
 have w:=aX (n:=d4.l.length) (by omega);obtain⟨ys,g0,b0,rfl,c0,f0⟩:=iP x8 (d3.l.length:Int);obtain⟨ys,g1,b1,rfl,c1,f1⟩:=iP x9 ((d4.l.length+1:Nat):Int);obtain⟨ys,g2,b2,rfl,c2,f2⟩:=iP x7 (d0.l.length:Int);refine Tot.of ?_;rw [EG];simp only [BF,zz,Int.reduceEq,w,g0,g1,g2,h1,h2,h3,h4,h5,h6,h7]
 repeat' first |exact .out (aG id)|exact .out (aG (by omega))|exact .out (aQ (by omega))|refine .ite (fun _=>?_) (fun _=>?_)|(exfalso; omega)
theorem aBQ (d0 d1 d3 d4 d:D) (x2 x5 x6 x7 x8 x9 x10:Int) (hd:d.l.length<=2513169434915):Tot 750 [enc d0,enc d1,x2,enc d3,enc d4,x5,x6,x7,x8,x9,x10,enc d] (isIff (xU d0 d3.l.length d4.l.length x5 x6 x7 x8 x9 d.l.length)):=by
 by_cases h1:x5=1
 ·subst h1;exact (may1 d0 d1 d3 d4 d x2 x6 x7 x8 x9 x10 hd).iff (aeQ _ _ _ _ _ _ _ _)
 by_cases h2:x5=2
 ·subst h2;exact (aGg d0 d1 d3 d4 d x2 x6 x7 x8 x9 x10).iff (aeP _ _ _ _ _ _ _ _)
 by_cases h3:x5=3
 ·subst h3;exact (aGf d0 d1 d3 d4 d x2 x6 x7 x8 x9 x10).iff (aeO _ _ _ _ _ _ _ _)
 by_cases h4:x5=4
 ·subst h4;exact (may4 d0 d1 d3 d4 d x2 x6 x7 x8 x9 x10).iff (aeN _ _ _ _ _ _ _ _)
 by_cases h5:x5=5
 ·subst h5;exact (aGe d0 d1 d3 d4 d x2 x6 x7 x8 x9 x10).iff (aeM _ _ _ _ _ _ _ _)
 by_cases h6:x5=6
 ·subst h6;exact (aGd d0 d1 d3 d4 d x2 x6 x7 x8 x9 x10).iff (aeL _ _ _ _ _ _ _ _)
 by_cases h7:x5=7
 ·subst h7;exact (aGc d0 d1 d3 d4 d x2 x6 x7 x8 x9 x10).iff (aeK _ _ _ _ _ _ _ _)
 exact (may0 d0 d1 d3 d4 d x2 x6 x7 x8 x9 x10 x5 h1 h2 h3 h4 h5 h6 h7).iff (by unfold xU; simp only [h1,h2,h3,h4,h5,h6,h7,false_and,or_false])
theorem aB0 (d0 d1 d3 d4 d:D) (x2 x5 x6 x7 x8 x9 x10:Int) (hl:d4.l.length<=140737488351232):Tot 4250 [enc d0,enc d1,x2,enc d3,enc d4,x5,x6,x7,x8,x9,x10,enc d] (isIff (xU d0 d3.l.length d4.l.length x5 x6 x7 x8 x9 d.l.length)):=by
 by_cases h1:x5=1
 ·subst h1;exact (aGp d0 d1 d3 d4 d x2 x6 x7 x8 x9 x10 hl).iff (aeQ _ _ _ _ _ _ _ _)
 by_cases h2:x5=2
 ·subst h2;exact (aGo d0 d1 d3 d4 d x2 x6 x7 x8 x9 x10 hl).iff (aeP _ _ _ _ _ _ _ _)
 by_cases h3:x5=3
 ·subst h3;exact (aGn d0 d1 d3 d4 d x2 x6 x7 x8 x9 x10 hl).iff (aeO _ _ _ _ _ _ _ _)
 by_cases h4:x5=4
 ·subst h4;exact (aGm d0 d1 d3 d4 d x2 x6 x7 x8 x9 x10 hl).iff (aeN _ _ _ _ _ _ _ _)
 by_cases h5:x5=5
 ·subst h5;exact (aGl d0 d1 d3 d4 d x2 x6 x7 x8 x9 x10 hl).iff (aeM _ _ _ _ _ _ _ _)
 by_cases h6:x5=6
 ·subst h6;exact (aGk d0 d1 d3 d4 d x2 x6 x7 x8 x9 x10 hl).iff (aeL _ _ _ _ _ _ _ _)
 by_cases h7:x5=7
 ·subst h7;exact (aGj d0 d1 d3 d4 d x2 x6 x7 x8 x9 x10 hl).iff (aeK _ _ _ _ _ _ _ _)
 exact (aGq d0 d1 d3 d4 d x2 x6 x7 x8 x9 x10 hl x5 h1 h2 h3 h4 h5 h6 h7).iff (by unfold xU; simp only [h1,h2,h3,h4,h5,h6,h7,false_and,or_false])
theorem aBI (d0:D) (x1 x2 x3 x4 x5 x6:Int):Tot 700 [enc d0,x1,x2,x3,x4,x5,x6] (isIff (OkO d0 x2 x4)):=by
 refine Tot.of ?_;rw [aFy];simp only [aBv,zz];unfold OkO
 repeat' first |exact .out (aG (by omega))|exact .out (aQ (by omega))|refine .ite (fun _=>?_) (fun _=>?_)
theorem avD (d0:D) (x1 x2 x3 x4 x5 x6:Int):Tot 4200 [enc d0,x1,x2,x3,x4,x5,x6] (isIff (OkO d0 x2 x4)):=by
 refine Tot.of ?_;rw [azX];simp only [akV,zz];unfold OkO
 repeat' first |exact .out (aG (by omega))|exact .out (aQ (by omega))|refine .ite (fun _=>?_) (fun _=>?_)
def yP (d0:D) (nl nc:Nat) (y:D):Prop:=xU d0 nl nc (y.hd 0).n (y.hd 1).n (y.hd 2).n (y.hd 3).n (y.hd 4).n (y.hd 6).l.length/\∀e∈(y.hd 6).l,P5 nl e
def EN (d0 t:D):Prop:=(t.hd 1).l.length<=120/\(t.hd 2).l.length<=4000/\∀y∈(t.hd 2).l,yP d0 (t.hd 1).l.length (t.hd 2).l.length y
def P8 (d0 d1:D):Prop:=d0.l.length<=64/\d1.l.length<=16/\(∀x∈d0.l,BU d0 x)/\∀t∈d1.l,EN d0 t
def isC (P:Prop) (ys:List Int):Prop:= ∃b:Int,ys= [b]/\(b=0\/b=120)/\(b=0↔P)
theorem Cc {P:Prop} (h: ¬P):isC P [120]:=⟨120,rfl,.inr rfl,fun h'=>absurd h' (by omega),fun h'=>absurd h' h⟩
theorem aeI {P:Prop} (h:P):isC P [0]:=⟨0,rfl,.inl rfl,fun _=>h,fun _=>rfl⟩
theorem isC.of {P Q:Prop} {ys:List Int} (h:isC P ys) (e:P↔Q):isC Q ys:=by obtain⟨b,h1,h2,h3⟩:=h;exact⟨b,h1,h2,h3.trans e⟩
theorem Tot.c {j:Nat} {xs:List Int} {P Q:Prop} (h:Tot j xs (isC P)) (e:P↔Q):Tot j xs (isC Q):=by obtain⟨ys,a,b⟩:=h;exact⟨ys,a,b.of e⟩
theorem Tot.no {j:Nat} {xs:List Int} {P:Prop} (h:Tot j xs (·= [120])) (e: ¬P):Tot j xs (isC P):=by obtain⟨ys,a,rfl⟩:=h;exact⟨_,a,Cc e⟩
theorem all_cons {a:D} {l:List D} {p:D->Prop} (h:p a):(∀b∈l,p b)↔∀b∈a::l,p b:=
 ⟨fun q b hb=>(aHm.1 hb).elim (fun e=>e▸h) (q b),fun q b hb=>q b (aH8 _ hb)⟩
theorem anR {cd:D} (h:Wd (.sl 5) cd) {i:Nat} (hi:i<cd.l.length): ∃a b c e f g vI,cd.l[i]=dL [.i a,.i b,.i c,.i e,.i f,.i g,vI]/\Wd (.sl 6) vI/\(∀d0 nl nc,yP d0 nl nc cd.l[i]↔xU d0 nl nc a b c e f vI.l.length/\∀x∈vI.l,P5 nl x):=by obtain⟨a,b,c,e,f,g,vI,hin,_,_,_,_,_,_,has⟩:=anS h hi;refine⟨a,b,c,e,f,g,vI,hin,has,fun d0 nl nc=>?_⟩;unfold yP;rw [hin];simp only [iV];rfl
section
variable {d0 d1:D} (h0:Wd (.sl 3) d0) (h1:Wd (.sl 4) d1)
include h1
theorem asM: ∀(j i:Nat),i+j=d1.l.length->Tot 453 [enc d1,(d1.l.length:Int),(i:Int),enc d0] (·= [120])
 |0,i,hi=>by
  have c1: ¬(i:Int)<(d1.l.length:Int):=by omega
  refine Tot.of ?_;rw [aDc];simp only [atW,zz,c1];exact .out rfl
 |j+1,i,hi=>by
  have hl:=h1.len;have c1:(i:Int)<(d1.l.length:Int):=by omega
  have c2: ¬((i:Int)<0):=by omega
  have w:=aX (n:=i) (by omega);refine Tot.of ?_;rw [aDc];simp only [atW,zz,c1,c2];refine .jump (Tot.of ?_);rw [aDa];simp only [atU,zz,w];exact .ite (fun _=> .jump (asM j (i+1) (by omega))) fun _=> .jump (asM j (i+1) (by omega))
theorem axS (i:Nat) (hi:i<d1.l.length) (j:Nat) (hj:i+1+j=d1.l.length) (x0 x5 x6 x7:Int):Tot 455 [x0,enc d1,(d1.l.length:Int),(i:Int),enc d0,x5,x6,x7] (·= [120]):=by have hl:=h1.len;have w:=aX (n:=i) (by omega);refine Tot.of ?_;rw [aDa];simp only [atU,zz,w];exact .ite (fun _=> .jump (asM h1 j (i+1) (by omega))) fun _=> .jump (asM h1 j (i+1) (by omega))
theorem aFH: ∀(j i:Nat),i+j=d1.l.length->Tot 454 [enc d1,(d1.l.length:Int),(i:Int),enc d0] (isC (∀t∈d1.l.drop i,EN d0 t))
 |0,i,hi=>by
  have c1: ¬(i:Int)<(d1.l.length:Int):=by omega
  refine Tot.of ?_;rw [aDb,aHE (by omega)];simp only [atV,zz,c1];exact .out (aeI (by simp))
 |j+1,i,hi=>by
  have hl:=h1.len;have hil:i<d1.l.length:=by omega
  have c1:(i:Int)<(d1.l.length:Int):=by omega
  have c2: ¬((i:Int)<0):=by omega
  have w:=aX (n:=i) (by omega);obtain⟨nm',lc,cd,he,hn,hlc,hcd⟩:=KR h1 hil;have hcl:=hcd.len;have e1:(d1.l[i]).hd 1=lc:=by rw [he,iV]; rfl
  have e2:(d1.l[i]).hd 2=cd:=by rw [he,iV]; rfl
  have hdr:d1.l.drop i=d1.l[i]::d1.l.drop (i+1):=aHt hil;have ih:=aFH j (i+1) (by omega);have hno: ¬EN d0 d1.l[i]->¬∀t∈d1.l.drop i,EN d0 t:=fun h q=>h (q _ (by rw [hdr]; exact aHX ..))
  have loop: ∀(m k:Nat),k+m=cd.l.length->Tot 456 [(k:Int),enc d1,(d1.l.length:Int),(i:Int),enc d0,enc nm',enc lc,enc cd] (isC ((∀y∈cd.l.drop k,yP d0 lc.l.length cd.l.length y)/\∀t∈d1.l.drop (i+1),EN d0 t)):=by
   intro m
   induction m with
   |zero=>
    intro k hk;have c3: ¬(k:Int)<(cd.l.length:Int):=by omega
    refine Tot.of ?_;rw [aC9,aHE (by omega)];simp only [atT,zz,c3,w];exact .jump (ih.c ⟨fun h=> ⟨by simp,h⟩,fun h=>h.2⟩)
   |succ m ihm=>
    intro k hk;have hkl:k<cd.l.length:=by omega
    have c3:(k:Int)<(cd.l.length:Int):=by omega
    have c4: ¬((k:Int)<0):=by omega
    have w2:=aX (n:=k) (by omega);have hdk:cd.l.drop k=cd.l[k]::cd.l.drop (k+1):=aHt hkl;obtain⟨a,b,c,e,f,g,vI,hin,has,hy⟩:=anR hcd hkl;have hroom:=has.room
    have hal:vI.l.length<=2513169434915:=by have:CZ 6=56:=rfl;rw [this] at hroom;omega
    obtain⟨ys,hM,q,rfl,aGw,hqI⟩:=aBQ d0 d1 lc cd vI (enc nm') a b c e f g hal;obtain⟨ys,hX,r,rfl,hr⟩:=aC1 vI lc (enc nm') (enc cd) has;have aoI: ¬yP d0 lc.l.length cd.l.length cd.l[k]->¬((∀y∈cd.l.drop k,yP d0 lc.l.length cd.l.length y)/\∀t∈d1.l.drop (i+1),EN d0 t):=fun h q=>h (q.1 _ (by rw [hdk]; exact aHX ..));refine Tot.of ?_;rw [aC9];simp only [atT,zz,c3,c4,bF hkl,hin,zg,hM,hX,w2];refine .ite (fun hq=> .jump ((axS h1 i hil j (by omega) _ _ _ _).no (aoI fun h=>?_))) fun hq0=> .ite (fun hr0=> .jump ((ihm (k+1) (by omega)).c ?_)) fun hr0=> .jump ((axS h1 i hil j (by omega) _ _ _ _).no (aoI fun h=>?_))
    ·have:=hqI.2 ((hy d0 _ _).1 h).1;omega
    ·rw [hdk];rw [<- all_cons ((hy d0 _ _).2 ⟨hqI.1 (by omega),hr.1 hr0⟩)]
    ·exact hr0 (hr.2 ((hy d0 _ _).1 h).2)
  refine Tot.of ?_;rw [aDb];simp only [atV,zz,c1,c2,bF hil,he,zg];refine .ite (fun q=> .jump ((axS h1 i hil j (by omega) _ _ _ _).no (hno fun h=>?_))) fun q1=> .ite (fun q=> .jump ((axS h1 i hil j (by omega) _ _ _ _).no (hno fun h=>?_))) fun q2=> .jump ((loop cd.l.length 0 (by omega)).c ?_)
  ·have:=h.1;rw [e1] at this;omega
  ·have:=h.2.1;rw [e2] at this;omega
  ·rw [hdr];refine⟨fun⟨x,y⟩=>(all_cons ?_).1 y,fun x=> ⟨?_,fun b hb=>x b (aH8 _ hb)⟩⟩
   ·unfold EN;rw [e1,e2];exact⟨by omega,by omega,by rwa [aH4] at x⟩
   ·have:=(x _ (aHX ..)).2.2;rw [e1,e2] at this;rwa [aH4]
theorem ayJ (i k:Nat) (lc cd:D) (nm':Int) (hi:i<16) (hkl:k<cd.l.length) (hcl:cd.l.length<=4000) (vI:D) (has:Wd (.sl 6) vI) (he6:(cd.l[k]).hd 6=vI): ∀(j n:Nat),n+j=vI.l.length->∃b:Int,(b=1↔∀e∈vI.l.drop n,P5 lc.l.length e)/\L 4054 [(i:Int),(k:Int),(n:Int),enc d0,enc d1,nm',enc lc,enc cd]=if b=1 then L 4053 [(i:Int),((k+1:Nat):Int),enc d0,enc d1,nm',enc lc,enc cd] else some [120]
 |0,n,hn=>by
  have c1: ¬(k:Int)<0:=by omega
  have c2:(k:Int)<(cd.l.length:Int):=by omega
  have c3: ¬(n:Int)<(vI.l.length:Int):=by omega
  have w:=aX (n:=k) (by omega);refine⟨1,⟨fun _=>by rw [aHE (by omega)]; simp,fun _=>rfl⟩,?_⟩;rw [bU,aqK];simp only [QO,zz,c1,c2,bF hkl,he6,c3,w,fin]
 |j+1,n,hn=>by
  have hlen:=has.len;have hil:n<vI.l.length:=by omega
  have c1: ¬(k:Int)<0:=by omega
  have c2:(k:Int)<(cd.l.length:Int):=by omega
  have c3:(n:Int)<(vI.l.length:Int):=by omega
  have c4: ¬(n:Int)<0:=by omega
  have w:=aX (n:=n) (by omega);have hd:vI.l.drop n=vI.l[n]::vI.l.drop (n+1):=aHt hil;obtain⟨b,hb,ih⟩:=ayJ i k lc cd nm' hi hkl hcl vI has he6 j (n+1) (by omega);obtain⟨k',s',n',ks',he,_,g1,_,g2,f0,f1,f2,f3⟩:=GY has hil;obtain⟨ys,hR,c,rfl,hc0,hc1,hc2,hc3⟩:=Yc 20 (by omega) k' n' s' ks' vI.l[n] g2 f3;have hR':L 4300 [k',enc s',n',enc ks',20]=some [c]:=hR;have hno: ¬P5 lc.l.length vI.l[n]->((0:Int)=1↔∀e∈vI.l.drop n,P5 lc.l.length e):=fun h=> ⟨fun h=>absurd h (by omega),fun q=>absurd (q _ (by rw [hd]; exact aHX ..)) h⟩;rw [bU,aqK];by_cases hbig:1000<c
  ·refine⟨0,hno fun h=>?_,?_⟩
   ·have:=hc2.2 ⟨afE _ _ _ h.1,h.2⟩;omega
   ·simp only [QO,zz,c1,c2,bF hkl,he6,c3,c4,bF hil,he,zg,hR',hbig,fin];rfl
  ·obtain⟨x1,x2⟩:=hc2.1 (by omega);obtain⟨ys,hE,e,rfl,he0,he1⟩:=afD 20 k' n' (lc.l.length:Int) s' ks' vI.l[n] g1 g2 x1 f0 f1 f2 f3;by_cases hz:e=0
   ·refine⟨0,hno fun h=>?_,?_⟩
    ·have:=he1.2 h.1;omega
    ·subst hz;simp only [QO,zz,c1,c2,bF hkl,he6,c3,c4,bF hil,he,zg,hR',hbig,hE,fin];rfl
   ·refine⟨b,?_,?_⟩
    ·rw [hd,<- all_cons (p:=P5 lc.l.length) (show P5 lc.l.length vI.l[n] from⟨he1.1 (by omega),x2⟩)];exact hb
    ·simp only [QO,zz,c1,c2,bF hkl,he6,c3,c4,bF hil,he,zg,hR',hbig,hE,hz,w,fin];exact ih
theorem ayK (hs1:d1.l.length<=16): ∀(j i:Nat),i+j=d1.l.length->Tot 4052 [(i:Int),enc d0,enc d1] (isC (∀t∈d1.l.drop i,EN d0 t))
 |0,i,hi=>by
  have c1: ¬(i:Int)<(d1.l.length:Int):=by omega
  refine Tot.of ?_;rw [aqM,aHE (by omega)];simp only [acY,zz,c1];exact .out (aeI (by simp))
 |j+1,i,hi=>by
  have hil:i<d1.l.length:=by omega
  have c1:(i:Int)<(d1.l.length:Int):=by omega
  have c2: ¬((i:Int)<0):=by omega
  have w:=aX (n:=i) (by omega);obtain⟨nm',lc,cd,he,hn,hlc,hcd⟩:=KR h1 hil;have e1:(d1.l[i]).hd 1=lc:=by rw [he,iV]; rfl
  have e2:(d1.l[i]).hd 2=cd:=by rw [he,iV]; rfl
  have hdr:d1.l.drop i=d1.l[i]::d1.l.drop (i+1):=aHt hil;have ih:=ayK hs1 j (i+1) (by omega);have hno: ¬EN d0 d1.l[i]->¬∀t∈d1.l.drop i,EN d0 t:=fun h q=>h (q _ (by rw [hdr]; exact aHX ..));refine Tot.of ?_;rw [aqM];simp only [acY,zz,c1,c2,bF hil,he,zg];refine .ite (fun q=> .out (Cc (hno fun h=>?_))) fun q1=> .ite (fun q=> .out (Cc (hno fun h=>?_))) fun q2=> .jump ?_
  ·have:=h.1;rw [e1] at this;omega
  ·have:=h.2.1;rw [e2] at this;omega
  have hcl:cd.l.length<=4000:=by omega
  have loop: ∀(m k:Nat),k+m=cd.l.length->Tot 4053 [(i:Int),(k:Int),enc d0,enc d1,enc nm',enc lc,enc cd] (isC ((∀y∈cd.l.drop k,yP d0 lc.l.length cd.l.length y)/\∀t∈d1.l.drop (i+1),EN d0 t)):=by
   intro m
   induction m with
   |zero=>
    intro k hk;have c3: ¬(k:Int)<(cd.l.length:Int):=by omega
    refine Tot.of ?_;rw [aqL,aHE (by omega)];simp only [acX,zz,c3,w];exact .jump (ih.c ⟨fun h=> ⟨by simp,h⟩,fun h=>h.2⟩)
   |succ m ihm=>
    intro k hk;have hkl:k<cd.l.length:=by omega
    have c3:(k:Int)<(cd.l.length:Int):=by omega
    have c4: ¬((k:Int)<0):=by omega
    have hdk:cd.l.drop k=cd.l[k]::cd.l.drop (k+1):=aHt hkl;obtain⟨a,b,c,e,f,g,vI,hin,has,hy⟩:=anR hcd hkl;obtain⟨ys,hM,q,rfl,aGw,hqI⟩:=aB0 d0 d1 lc cd vI (enc nm') a b c e f g (by omega);have he6:(cd.l[k]).hd 6=vI:=by rw [hin,iV]; rfl
    obtain⟨r,hr,hX⟩:=ayJ (d0:=d0) h1 i k lc cd (enc nm') (by omega) hkl hcl vI has he6 vI.l.length 0 (by omega);rw [aH4] at hr;have aoI: ¬yP d0 lc.l.length cd.l.length cd.l[k]->¬((∀y∈cd.l.drop k,yP d0 lc.l.length cd.l.length y)/\∀t∈d1.l.drop (i+1),EN d0 t):=fun h q=>h (q.1 _ (by rw [hdk]; exact aHX ..));refine Tot.of ?_;rw [aqL];simp only [acX,zz,c3,c4,bF hkl,hin,zg,hM];refine .ite (fun hq=> .out (Cc (aoI fun h=>?_))) fun hq0=> .jump ?_
    ·have:=hqI.2 ((hy d0 _ _).1 h).1;omega
    ·by_cases hr1:r=1
     ·rw [aHd hr1] at hX;obtain⟨ys,hL,hP⟩:=ihm (k+1) (by omega);refine⟨ys,hX.trans hL,hP.of ?_⟩;rw [hdk];rw [<- all_cons ((hy d0 _ _).2 ⟨hqI.1 (by omega),hr.1 hr1⟩)]
     ·rw [aHc hr1] at hX;exact⟨_,hX,Cc (aoI fun h=>hr1 (hr.2 ((hy d0 _ _).1 h).2))⟩
  refine (loop cd.l.length 0 (by omega)).c ?_;rw [hdr];refine⟨fun⟨x,y⟩=>(all_cons ?_).1 y,fun x=> ⟨?_,fun b hb=>x b (aH8 _ hb)⟩⟩
  ·unfold EN;rw [e1,e2];exact⟨by omega,by omega,by rwa [aH4] at x⟩
  ·have:=(x _ (aHX ..)).2.2;rw [e1,e2] at this;rwa [aH4]
include h0
theorem axT: ∀(j i:Nat),i+j=d0.l.length->Tot 451 [enc d0,(d0.l.length:Int),(i:Int),enc d1] (·= [120])
 |0,i,hi=>by
  have c1: ¬(i:Int)<(d0.l.length:Int):=by omega
  refine Tot.of ?_;rw [aDe];simp only [atY,zz,c1];exact .jump (asM h1 d1.l.length 0 (by omega))
 |j+1,i,hi=>by
  have hl:=h0.len;have c1:(i:Int)<(d0.l.length:Int):=by omega
  have c2: ¬((i:Int)<0):=by omega
  have w:=aX (n:=i) (by omega);refine Tot.of ?_;rw [aDe];simp only [atY,zz,c1,c2,w];exact .jump (axT j (i+1) (by omega))
theorem aFI (hs:d0.l.length<=64): ∀(j i:Nat),i+j=d0.l.length->Tot 452 [enc d0,(d0.l.length:Int),(i:Int),enc d1] (isC ((∀x∈d0.l.drop i,BU d0 x)/\∀t∈d1.l,EN d0 t))
 |0,i,hi=>by
  have c1: ¬(i:Int)<(d0.l.length:Int):=by omega
  refine Tot.of ?_;rw [aDd,aHE (by omega)];simp only [atX,zz,c1];exact .jump ((aFH h1 d1.l.length 0 (by omega)).c (by simp))
 |j+1,i,hi=>by
  have hil:i<d0.l.length:=by omega
  have c1:(i:Int)<(d0.l.length:Int):=by omega
  have c2: ¬((i:Int)<0):=by omega
  have w:=aX (n:=i) (by omega);have hdr:d0.l.drop i=d0.l[i]::d0.l.drop (i+1):=aHt hil;obtain⟨ys,hO,b,rfl,hb0,hob⟩:=aBI d0 (enc d1) ((d0.l[i]).hd 0).n (enc ((d0.l[i]).hd 1)) ((d0.l[i]).hd 2).n (enc ((d0.l[i]).hd 3)) ((d0.l[i]).hd 4).n;refine Tot.of ?_;rw [aDd,hdr];simp only [atX,zz,c1,c2,w,bF hil,hO];refine .ite (fun hb=> .jump ((axT h0 h1 j (i+1) (by omega)).no fun h=>?_)) fun hb=> .jump ((aFI hs j (i+1) (by omega)).c ?_)
  ·have:=hob.2 (h.1 _ (aHX ..));omega
  ·rw [<- all_cons (p:=BU d0) (hob.1 (by omega):BU d0 d0.l[i])]
theorem Yi:Tot 450 [enc d0,enc d1] (isC (P8 d0 d1)):=by
 refine Tot.of ?_;rw [aFF];simp only [aBx,zz];refine .ite (fun _=> .jump ((axT h0 h1 d0.l.length 0 (by omega)).no fun h=>?_)) fun ha=> .ite (fun _=> .jump ((axT h0 h1 d0.l.length 0 (by omega)).no fun h=>?_)) fun hb=> .jump ((aFI h0 h1 (by omega) d0.l.length 0 (by omega)).c ?_)
 ·have:=h.1;omega
 ·have:=h.2.1;omega
 ·rw [aH4];exact⟨fun⟨a,b⟩=> ⟨by omega,by omega,a,b⟩,fun h=>h.2.2⟩
theorem ayL (hs:d0.l.length<=64) (hs1:d1.l.length<=16): ∀(j i:Nat),i+j=d0.l.length->Tot 4051 [(i:Int),enc d0,enc d1] (isC ((∀x∈d0.l.drop i,BU d0 x)/\∀t∈d1.l,EN d0 t))
 |0,i,hi=>by
  have c1: ¬(i:Int)<(d0.l.length:Int):=by omega
  refine Tot.of ?_;rw [aqN,aHE (by omega)];simp only [acZ,zz,c1];exact .jump ((ayK h1 hs1 d1.l.length 0 (by omega)).c (by simp))
 |j+1,i,hi=>by
  have hil:i<d0.l.length:=by omega
  have c1:(i:Int)<(d0.l.length:Int):=by omega
  have c2: ¬((i:Int)<0):=by omega
  have w:=aX (n:=i) (by omega);have hdr:d0.l.drop i=d0.l[i]::d0.l.drop (i+1):=aHt hil;obtain⟨ys,hO,b,rfl,hb0,hob⟩:=avD d0 (enc d1) ((d0.l[i]).hd 0).n (enc ((d0.l[i]).hd 1)) ((d0.l[i]).hd 2).n (enc ((d0.l[i]).hd 3)) ((d0.l[i]).hd 4).n;refine Tot.of ?_;rw [aqN,hdr];simp only [acZ,zz,c1,c2,w,bF hil,hO];refine .ite (fun hb=> .out (Cc fun h=>?_)) fun hb=> .jump ((ayL hs hs1 j (i+1) (by omega)).c ?_)
  ·have:=hob.2 (h.1 _ (aHX ..));omega
  ·rw [<- all_cons (p:=BU d0) (hob.1 (by omega):BU d0 d0.l[i])]
theorem agV:Tot 4050 [enc d0,enc d1] (isC (P8 d0 d1)):=by
 refine Tot.of ?_;rw [aAa];simp only [akX,zz];refine .ite (fun _=> .out (Cc fun h=>?_)) fun ha=> .ite (fun _=> .out (Cc fun h=>?_)) fun hb=> .jump ((ayL h0 h1 (by omega) (by omega) d0.l.length 0 (by omega)).c ?_)
 ·have:=h.1;omega
 ·have:=h.2.1;omega
 ·rw [aH4];exact⟨fun⟨a,b⟩=> ⟨by omega,by omega,a,b⟩,fun h=>h.2.2⟩
theorem Pj: ∃b:Int,(b=0\/b=120)/\(b=0↔P8 d0 d1)/\L 450 [enc d0,enc d1]=some [b]/\L 4050 [enc d0,enc d1]=some [b]:=by
 obtain⟨ys,hA,b,rfl,hb,hb1⟩:=Yi h0 h1;obtain⟨ys,hB,c,rfl,hc,hc1⟩:=agV h0 h1;refine⟨b,hb,hb1,hA,?_⟩;rw [hB];by_cases h:P8 d0 d1
 ·rw [hb1.2 h,hc1.2 h]
 ·have:b≠0:=fun q=>h (hb1.1 q);have:c≠0:=fun q=>h (hc1.1 q);rw [show b=120 by omega,show c=120 by omega]
end
theorem TN {d0 d1:D} (h0:Wd (.sl 3) d0) (h1:Wd (.sl 4) d1):Tot 450 [enc d0,enc d1] (aEE d0 d1):=by
 obtain⟨ys,h,b,rfl,hb,hb1⟩:=Yi h0 h1;refine⟨_,h,b,rfl,hb,fun hz=>?_⟩;obtain⟨q1,q2,q3,q4⟩:=hb1.1 hz;refine⟨⟨q1,q2,q3⟩,fun x hx y hy=>?_⟩;have:=((q4 x hx).2.2 y hy).1;unfold xU at this;unfold OkI;rcases this with ⟨h,a,b,_,_,_,_,e,f⟩|⟨h,a,b,_⟩|h|h|h|h|h
 ·exact .inl ⟨h,a,b,e.elim (fun x=> .inl x.1) (fun x=> .inr ⟨x.2.1,x.2.2⟩),f⟩
 ·exact .inr (.inl ⟨h,a,b⟩)
 ·exact .inr (.inr (.inl h))
 ·exact .inr (.inr (.inr (.inl h)))
 ·exact .inr (.inr (.inr (.inr (.inl h))))
 ·exact .inr (.inr (.inr (.inr (.inr (.inl h)))))
 ·exact .inr (.inr (.inr (.inr (.inr (.inr h)))))
def one (ys:List Int):Prop:= ∃k:Int,ys= [k]
theorem aDH {o:Int} (h:oG .u8 o):IntKind.i64.wrap o=o:=jX (by have:=h.1; omega) (by have:=h.2; omega)
theorem anA (a b c d e:Int):Tot 650 [a,b,c,d,e] (fun ys=> ∃k l:Int,ys= [k,l]/\(l=0\/l=1)):=by
 refine Tot.of ?_;rw [aC6];simp only [atQ,zz]
 repeat' first |exact .out ⟨_,_,rfl,.inl rfl⟩|exact .out ⟨_,_,rfl,.inr rfl⟩|refine .ite (fun _=>?_) (fun _=>?_)
theorem QY (r:D) (hl:r.l.length<=140737488351232) (x0 x4 x5 x6 x7 x8 x9 x10 x11 x12:Int) (v:D): ∀(j i:Nat) (x14:Int),i+j=r.l.length->
 Tot 501 [x0,enc r,(r.l.length:Int),(i:Int),x4,x5,x6,x7,x8,x9,x10,x11,x12,enc v,x14] Fp
 |0,i,x14,hi=>by
  have c1: ¬(i:Int)<(r.l.length:Int):=by omega
  refine Tot.of ?_;rw [apX];simp only [YW,zz,c1]
  repeat' first |exact .out Fj|exact .out Fh|refine .ite (fun _=>?_) (fun _=>?_)
 |j+1,i,x14,hi=>by
  have c1:(i:Int)<(r.l.length:Int):=by omega
  have c2: ¬((i:Int)<0):=by omega
  have w:=aX (n:=i) (by omega);have ih:=fun x=>QY r hl x0 x4 x5 x6 x7 x8 x9 x10 x11 x12 v j (i+1) x (by omega);refine Tot.of ?_;rw [apX];simp only [YW,zz,c1,c2,w]
  repeat' first |exact .out Fj|exact .out Fh|exact .jump (ih _)|refine .ite (fun _=>?_) (fun _=>?_)
theorem Zk (x0 x1 x2 x3 x4 x5 x6 x7 x8 x11:Int) (r v:D) (hl:r.l.length<=140737488351232):Tot 500 [x0,x1,x2,x3,x4,x5,x6,x7,x8,enc r,enc v,x11] Fp:=by
 obtain⟨ys,hM,a,b,rfl,hb⟩:=anA x0 x1 x2 x3 x4;have ih:=QY r hl x11 x0 x1 x2 x3 x4 x5 x6 x7 x8 v r.l.length 0 (enc (.i 0)) (by omega);refine Tot.of ?_;rw [aC8];simp only [akK,zz,hM]
 repeat' first |exact .out Fj|exact .out Fh|exact .jump ih|refine .ite (fun _=>?_) (fun _=>?_)
theorem set_self {d:D} (hd:d=dL d.l) {i:Nat} (hi:i<d.l.length):dL (dV d.l (i:Int) d.l[i])=d:=by rw [vY,aJ1,<- hd]
theorem Zn (a b c d e f x:D):dV [a,b,c,d,e,f] 4 x= [a,b,c,d,x,f]:=rfl
theorem Zm (a b c d e f x:D):dV [a,b,c,d,e,f] 5 x= [a,b,c,d,e,x]:=rfl
theorem Gq: ¬(enc (.i 2)=enc (.i 1)):=fun h=>by have:=gI h; simp at this
theorem len1:(((D.i 1).l.length:Nat):Int)=0:=rfl
theorem len2:(((D.i 2).l.length:Nat):Int)=0:=rfl
theorem UK: ¬((0:Int)<0):=by omega
theorem gY {r:D} (h:Wd (.sl 0) r):r= .i 1\/r= .i 2\/((0:Int)<(r.l.length:Int)/\(r.l.length:Int)<17592186044416):=by
 rcases h.sh with h1|h1|⟨h1,h2⟩
 ·exact .inl h1
 ·exact .inr (.inl h1)
 ·have hr:=h.room;have h3:CZ 0=8:=rfl;rw [h3] at hr;have:=aIi.2 h2;exact .inr (.inr ⟨by omega,by omega⟩)
structure Th (d:D):Prop where
 wd:Wd (.sl 7) d
 sh:d=dL d.l
 few:d.l.length<=1759218604390
theorem WI {d:D} (h:Wd (.sl 7) d) (hn:0<d.l.length):Th d:=by
 refine⟨h,?_,?_⟩
 ·rcases h.sh with rfl|rfl|⟨h1,_⟩
  ·simp [D.l] at hn
  ·simp [D.l] at hn
  ·exact h1
 ·have hr:=h.room;have h3:CZ 7=80:=rfl;rw [h3] at hr;omega
theorem TD (d:D) (h:Th d): ∀(j i:Nat),i+j=d.l.length->L 551 [enc d,(d.l.length:Int),(i:Int)]=some [enc d]
 |0,i,hi=>by
  have c1: ¬(i:Int)<(d.l.length:Int):=by omega
  rw [bU,aC7];simp only [atS,zz,c1,fin]
 |j+1,i,hi=>by
  have hl:=h.few;have hil:i<d.l.length:=by omega
  have c1:(i:Int)<(d.l.length:Int):=by omega
  have c2: ¬((i:Int)<0):=by omega
  have w:=aX (n:=i) (by omega);have ih:=TD d h j (i+1) (by omega);obtain⟨o,c,dn,g,r,v,he,_,_,_,_,hr,hv⟩:=h.wd.thing _ (aHk hil);have hs:=set_self h.sh hil;rw [he] at hs;rw [bU,aC7];rcases gY hr with rfl|rfl|⟨r1,r2⟩ <;>rcases gY hv with rfl|rfl|⟨v1,v2⟩
  all_goals
   simp only [atS,zz,c1,c2,w,bF hil,he,iV,aA,aHA,aHp,Zn,Zm,hs,len1,len2,UK,Gq]
   try simp only [r1,r2,zz]
   try simp only [v1,v2,zz]
   try simp only [fin]
   exact ih
theorem asG (d:D) (h:Wd (.sl 7) d):L 550 [enc d]=some [enc d]:=by
 rw [bU,aFE];rcases h.sh with rfl|rfl|⟨h1,h2⟩
 ·simp only [ajY,zz,len1,UK,fin];rw [bU,aFD];rfl
 ·simp only [ajY,zz,len2,UK,Gq,fin];rw [bU,aFC];rfl
 ·have hp:=aIi.2 h2;have ht:=WI h hp;have hl:=ht.few;have c1:(0:Int)<(d.l.length:Int):=by omega
  have c2:(d.l.length:Int)<1759218604441:=by omega
  simp only [ajY,zz,c1,c2,fin];exact TD d ht d.l.length 0 (by omega)
theorem TL (d:D) (h:Th d) (gi:Nat) (x4 x5 x6 x7 x8 x9:Int): ∀(j i:Nat),gi<i->i+j=d.l.length->L 9004 [(gi:Int),enc d,(d.l.length:Int),(i:Int),x4,x5,x6,x7,x8,x9]=some [3,(gi:Int),enc d,x4,x5,x6,x7,x8,x9]
 |0,i,hg,hi=>by
  have c1: ¬(i:Int)<(d.l.length:Int):=by omega
  have c0: ¬((i:Int)=(gi:Int)):=by omega
  rw [bU,apQ];simp only [acE,zz,c0,c1,fin]
 |j+1,i,hg,hi=>by
  have hl:=h.few;have hil:i<d.l.length:=by omega
  have c1:(i:Int)<(d.l.length:Int):=by omega
  have c2: ¬((i:Int)<0):=by omega
  have c0: ¬((i:Int)=(gi:Int)):=by omega
  have w:=aX (n:=i) (by omega);have ih:=TL d h gi x4 x5 x6 x7 x8 x9 j (i+1) (by omega) (by omega);obtain⟨o,c,dn,g,r,v,he,_,_,_,_,hr,hv⟩:=h.wd.thing _ (aHk hil);have hs:=set_self h.sh hil;rw [he] at hs;rw [bU,apQ];rcases gY hr with rfl|rfl|⟨r1,r2⟩ <;>rcases gY hv with rfl|rfl|⟨v1,v2⟩
  all_goals
   simp only [acE,zz,c0,c1,c2,w,bF hil,he,iV,aA,aHA,aHp,Zn,Zm,hs,len1,len2,UK,Gq]
   try simp only [r1,r2,zz]
   try simp only [v1,v2,zz]
   try simp only [fin]
   exact ih
theorem TJ (d:D) (h:Th d) (gi:Nat) (x4 x5 x6 x7 x8 x9:Int): ∀(j i:Nat),gi<i->i+j=d.l.length->L 9005 [(gi:Int),enc d,(d.l.length:Int),(i:Int),x4,x5,x6,x7,x8,x9]=some [4,(gi:Int),enc d,x4,x5,x6,x7,x8,x9]
 |0,i,hg,hi=>by
  have c1: ¬(i:Int)<(d.l.length:Int):=by omega
  have c0: ¬((i:Int)=(gi:Int)):=by omega
  rw [bU,apP];simp only [acD,zz,c0,c1,fin]
 |j+1,i,hg,hi=>by
  have hl:=h.few;have hil:i<d.l.length:=by omega
  have c1:(i:Int)<(d.l.length:Int):=by omega
  have c2: ¬((i:Int)<0):=by omega
  have c0: ¬((i:Int)=(gi:Int)):=by omega
  have w:=aX (n:=i) (by omega);have ih:=TJ d h gi x4 x5 x6 x7 x8 x9 j (i+1) (by omega) (by omega);obtain⟨o,c,dn,g,r,v,he,_,_,_,_,hr,hv⟩:=h.wd.thing _ (aHk hil);have hs:=set_self h.sh hil;rw [he] at hs;rw [bU,apP];rcases gY hr with rfl|rfl|⟨r1,r2⟩ <;>rcases gY hv with rfl|rfl|⟨v1,v2⟩
  all_goals
   simp only [acD,zz,c0,c1,c2,w,bF hil,he,iV,aA,aHA,aHp,Zn,Zm,hs,len1,len2,UK,Gq]
   try simp only [r1,r2,zz]
   try simp only [v1,v2,zz]
   try simp only [fin]
   exact ih
theorem TG (d:D) (h:Th d) (gi:Nat) (x4 x5 x6 x7 x8 x9:Int): ∀(j i:Nat),gi<i->i+j=d.l.length->L 9006 [(gi:Int),enc d,(d.l.length:Int),(i:Int),x4,x5,x6,x7,x8,x9]=some [5,(gi:Int),enc d,x4,x5,x6,x7,x8,x9]
 |0,i,hg,hi=>by
  have c1: ¬(i:Int)<(d.l.length:Int):=by omega
  have c0: ¬((i:Int)=(gi:Int)):=by omega
  rw [bU,apO];simp only [acC,zz,c0,c1,fin]
 |j+1,i,hg,hi=>by
  have hl:=h.few;have hil:i<d.l.length:=by omega
  have c1:(i:Int)<(d.l.length:Int):=by omega
  have c2: ¬((i:Int)<0):=by omega
  have c0: ¬((i:Int)=(gi:Int)):=by omega
  have w:=aX (n:=i) (by omega);have ih:=TG d h gi x4 x5 x6 x7 x8 x9 j (i+1) (by omega) (by omega);obtain⟨o,c,dn,g,r,v,he,_,_,_,_,hr,hv⟩:=h.wd.thing _ (aHk hil);have hs:=set_self h.sh hil;rw [he] at hs;rw [bU,apO];rcases gY hr with rfl|rfl|⟨r1,r2⟩ <;>rcases gY hv with rfl|rfl|⟨v1,v2⟩
  all_goals
   simp only [acC,zz,c0,c1,c2,w,bF hil,he,iV,aA,aHA,aHp,Zn,Zm,hs,len1,len2,UK,Gq]
   try simp only [r1,r2,zz]
   try simp only [v1,v2,zz]
   try simp only [fin]
   exact ih
theorem TF (d:D) (h:Th d) (gi:Nat) (x4 x5 x6 x7 x8 x9:Int): ∀(j i:Nat),gi<i->i+j=d.l.length->L 9007 [(gi:Int),enc d,(d.l.length:Int),(i:Int),x4,x5,x6,x7,x8,x9]=some [6,(gi:Int),enc d,x4,x5,x6,x7,x8,x9]
 |0,i,hg,hi=>by
  have c1: ¬(i:Int)<(d.l.length:Int):=by omega
  have c0: ¬((i:Int)=(gi:Int)):=by omega
  rw [bU,apN];simp only [acB,zz,c0,c1,fin]
 |j+1,i,hg,hi=>by
  have hl:=h.few;have hil:i<d.l.length:=by omega
  have c1:(i:Int)<(d.l.length:Int):=by omega
  have c2: ¬((i:Int)<0):=by omega
  have c0: ¬((i:Int)=(gi:Int)):=by omega
  have w:=aX (n:=i) (by omega);have ih:=TF d h gi x4 x5 x6 x7 x8 x9 j (i+1) (by omega) (by omega);obtain⟨o,c,dn,g,r,v,he,_,_,_,_,hr,hv⟩:=h.wd.thing _ (aHk hil);have hs:=set_self h.sh hil;rw [he] at hs;rw [bU,apN];rcases gY hr with rfl|rfl|⟨r1,r2⟩ <;>rcases gY hv with rfl|rfl|⟨v1,v2⟩
  all_goals
   simp only [acB,zz,c0,c1,c2,w,bF hil,he,iV,aA,aHA,aHp,Zn,Zm,hs,len1,len2,UK,Gq]
   try simp only [r1,r2,zz]
   try simp only [v1,v2,zz]
   try simp only [fin]
   exact ih
def qA (r v:D):Int:=if 0<r.l.length then (if 0<v.l.length then 3 else 4) else (if 0<v.l.length then 5 else 6)
theorem aAs (d:D) (h:Th d) (gi:Nat) (hgi:gi<d.l.length) (o c dn g:Int) (r v:D) (he':d.l[gi]=dL [.i o,.i c,.i dn,.i g,r,v]): ∀(j i:Nat),i<=gi->i+j=gi->
 L 9001 [(gi:Int),enc d,(d.l.length:Int),(i:Int)]=some [qA r v,(gi:Int),enc d,o,c,dn,g,enc r,enc v]
 |0,i,hg,hi=>by
  obtain rfl:i=gi:=by omega
  have hl:=h.few;have c1:(i:Int)<(d.l.length:Int):=by omega
  have c2: ¬((i:Int)<0):=by omega
  have w:=aX (n:=i) (by omega);obtain⟨o',c',Tz,g',r',v',he,_,_,_,_,hr,hv⟩:=h.wd.thing _ (aHk hgi);rw [he'] at he;have he:=O6 he;simp only [List.cons.injEq,D.i.injEq,and_true] at he;obtain⟨rfl,rfl,rfl,rfl,rfl,rfl⟩:=he;have b4:=fun a b=>TL d h i o c dn g a b (d.l.length-(i+1)) (i+1) (by omega) (by omega);have b5:=fun a b=>TJ d h i o c dn g a b (d.l.length-(i+1)) (i+1) (by omega) (by omega);have b6:=fun a b=>TG d h i o c dn g a b (d.l.length-(i+1)) (i+1) (by omega) (by omega);have b7:=fun a b=>TF d h i o c dn g a b (d.l.length-(i+1)) (i+1) (by omega) (by omega);rw [bU,X6];rcases gY hr with rfl|rfl|⟨r1,r2⟩
  ·rcases gY hv with rfl|rfl|⟨v1,v2⟩
   ·simp only [vW,zz,c1,c2,w,bF hgi,he',iV,aA,aHA,aHp,len1,UK,fin,b7];rw [qA,aHc (by simp [D.l]),aHc (by simp [D.l])]
   ·simp only [vW,zz,c1,c2,w,bF hgi,he',iV,aA,aHA,aHp,len1,UK,len2,Gq,fin,b7];rw [qA,aHc (by simp [D.l]),aHc (by simp [D.l])]
   ·simp only [vW,zz,c1,c2,w,bF hgi,he',iV,aA,aHA,aHp,len1,UK,v1,v2,fin,b6];rw [qA,aHc (by simp [D.l]),aHd (by omega)]
  ·rcases gY hv with rfl|rfl|⟨v1,v2⟩
   ·simp only [vW,zz,c1,c2,w,bF hgi,he',iV,aA,aHA,aHp,len2,UK,Gq,len1,fin,b7];rw [qA,aHc (by simp [D.l]),aHc (by simp [D.l])]
   ·simp only [vW,zz,c1,c2,w,bF hgi,he',iV,aA,aHA,aHp,len2,UK,Gq,fin,b7];rw [qA,aHc (by simp [D.l]),aHc (by simp [D.l])]
   ·simp only [vW,zz,c1,c2,w,bF hgi,he',iV,aA,aHA,aHp,len2,UK,Gq,v1,v2,fin,b6];rw [qA,aHc (by simp [D.l]),aHd (by omega)]
  ·rcases gY hv with rfl|rfl|⟨v1,v2⟩
   ·simp only [vW,zz,c1,c2,w,bF hgi,he',iV,aA,aHA,aHp,r1,r2,len1,UK,fin,b5];rw [qA,aHd (by omega),aHc (by simp [D.l])]
   ·simp only [vW,zz,c1,c2,w,bF hgi,he',iV,aA,aHA,aHp,r1,r2,len2,UK,Gq,fin,b5];rw [qA,aHd (by omega),aHc (by simp [D.l])]
   ·simp only [vW,zz,c1,c2,w,bF hgi,he',iV,aA,aHA,aHp,r1,r2,v1,v2,fin,b4];rw [qA,aHd (by omega),aHd (by omega)]
 |j+1,i,hg,hi=>by
  have hl:=h.few;have hil:i<d.l.length:=by omega
  have c1:(i:Int)<(d.l.length:Int):=by omega
  have c2: ¬((i:Int)<0):=by omega
  have c0: ¬((i:Int)=(gi:Int)):=by omega
  have w:=aX (n:=i) (by omega);have ih:=aAs d h gi hgi o c dn g r v he' j (i+1) (by omega) (by omega);clear he';obtain⟨o2,c2',dn2,g2,r2',v2',he,_,_,_,_,hr,hv⟩:=h.wd.thing _ (aHk hil);have hs:=set_self h.sh hil;rw [he] at hs;rw [bU,X6];rcases gY hr with rfl|rfl|⟨r1,r2⟩ <;>rcases gY hv with rfl|rfl|⟨v1,v2⟩
  all_goals
   simp only [vW,zz,c0,c1,c2,w,bF hil,he,iV,aA,aHA,aHp,Zn,Zm,hs,len1,len2,UK,Gq]
   try simp only [r1,r2,zz]
   try simp only [v1,v2,zz]
   try simp only [fin]
   exact ih
theorem aAr (d:D) (h:Th d) (gi:Nat) (hgi:gi<d.l.length) (o c dn g:Int) (r v:D) (he':d.l[gi]=dL [.i o,.i c,.i dn,.i g,r,v]) :
 L 9000 [(gi:Int),enc d]=some [qA r v,(gi:Int),enc d,o,c,dn,g,enc r,enc v]:=by
 have hl:=h.few;have c1:(0:Int)<(d.l.length:Int):=by omega
 have c2:(d.l.length:Int)<1759218604441:=by omega
 rw [bU,apR];simp only [QL,zz,c1,c2,fin];exact aAs d h gi hgi o c dn g r v he' gi 0 (by omega) (by omega)
theorem Pg (d:D) (h:Th d) (x:Int) (hx:x<0\/(d.l.length:Int)<=x): ∀(j i:Nat),i+j=d.l.length->L 9001 [x,enc d,(d.l.length:Int),(i:Int)]=some [0,x,enc d]
 |0,i,hi=>by
  have c1: ¬(i:Int)<(d.l.length:Int):=by omega
  rw [bU,X6];by_cases c0:(i:Int)=x
  ·simp only [vW,zz,c0,fin];have c1: ¬x<(d.l.length:Int):=by omega
   simp only [aHc c1]
  ·simp only [vW,zz,c0,c1,fin]
 |j+1,i,hi=>by
  have hl:=h.few;have hil:i<d.l.length:=by omega
  have c1:(i:Int)<(d.l.length:Int):=by omega
  have c2: ¬((i:Int)<0):=by omega
  have c0: ¬((i:Int)=x):=by omega
  have w:=aX (n:=i) (by omega);have ih:=Pg d h x hx j (i+1) (by omega);obtain⟨o,c,dn,g,r,v,he,_,_,_,_,hr,hv⟩:=h.wd.thing _ (aHk hil);have hs:=set_self h.sh hil;rw [he] at hs;rw [bU,X6];rcases gY hr with rfl|rfl|⟨r1,r2⟩ <;>rcases gY hv with rfl|rfl|⟨v1,v2⟩
  all_goals
   simp only [vW,zz,c0,c1,c2,w,bF hil,he,iV,aA,aHA,aHp,Zn,Zm,hs,len1,len2,UK,Gq]
   try simp only [r1,r2,zz]
   try simp only [v1,v2,zz]
   try simp only [fin]
   exact ih
theorem copyN (d:D) (h:Wd (.sl 7) d) (x:Int) (hx:x<0\/(d.l.length:Int)<=x):Tot 9000 [x,enc d] (fun ys=>ys= [0,x,enc d]\/(ys= [1,x]/\d= .i 1)\/(ys= [2,x]/\d= .i 2)):=by
 refine Tot.of ?_;rw [apR];rcases h.sh with rfl|rfl|⟨h1,h2⟩
 ·simp only [QL,zz,len1,UK];refine .jump (Tot.of ?_);rw [ayT];simp only [ajS,zz];exact .ite (fun _=> .out (.inr (.inl rfl))) fun _=> .out (.inr (.inl rfl))
 ·simp only [QL,zz,len2,UK,Gq];refine .jump (Tot.of ?_);rw [ayS];simp only [ajR,zz];exact .ite (fun _=> .out (.inr (.inr rfl))) fun _=> .out (.inr (.inr rfl))
 ·have hp:=aIi.2 h2;have ht:=WI h hp;have hl:=ht.few;have c1:(0:Int)<(d.l.length:Int):=by omega
  have c2:(d.l.length:Int)<1759218604441:=by omega
  simp only [QL,zz,c1,c2];exact .jump ⟨_,Pg d ht x hx d.l.length 0 (by omega),.inl rfl⟩
def firstAt (t:Int):List D->Nat->Int
 |[],_=> -1
 |x::l,i=>if x.n=t then (i:Int) else firstAt t l (i+1)
def place (r:D) (t:Int):Int:=firstAt t r.l 0
def wo (t:Int) (l:List D):List D:=l.filter fun x=>decide (x.n≠t)
theorem EF (t:Int): ∀(l:List D) (i:Nat),(firstAt t l i= -1/\∀x∈l,x.n≠t)\/∃(k:Nat) (h:k<l.length),firstAt t l i=((i+k:Nat):Int)/\(l[k]).n=t/\∀x∈l.take k,x.n≠t
 |[],_=> .inl ⟨rfl,fun x h=>absurd h (by simp)⟩
 |x::l,i=>by
  unfold firstAt;by_cases hx:x.n=t
  ·rw [aHd hx];exact .inr ⟨0,by simp,by simp,hx,by simp⟩
  ·rw [aHc hx];rcases EF t l (i+1) with ⟨h1,h2⟩|⟨k,hk,h1,h2,h3⟩
   ·exact .inl ⟨h1,fun y hy=>by rcases aHm.1 hy with rfl|hy; exact hx; exact h2 y hy⟩
   ·refine .inr ⟨k+1,by simp; omega,by rw [h1]; congr 1; omega,by simpa using h2,fun y hy=>?_⟩;rw [aIc] at hy;rcases aHm.1 hy with rfl|hy
    ·exact hx
    ·exact h3 y hy
theorem nU (r:D) (t:Int):(place r t= -1/\∀x∈r.l,x.n≠t)\/∃(k:Nat) (h:k<r.l.length),place r t=(k:Int)/\(r.l[k]).n=t/\∀x∈r.l.take k,x.n≠t:=by have:=EF t r.l 0;simp only [aHn] at this;exact this
theorem gG (r:D) (t:Int): -1<=place r t/\place r t<(r.l.length:Int):=by rcases nU r t with ⟨h,_⟩|⟨k,hk,h,_⟩ <;>rw [h]<;>omega
theorem Dv {t:Int} {l:List D} (h: ∀x∈l,x.n≠t):wo t l=l:=List.filter_eq_self.2 fun x hx=>by simpa using h x hx
theorem Aj {r:D} {t:Int} {i:Nat} (h:i<r.l.length):firstAt t (r.l.drop i) i=if (r.at (i:Int)).n=t then (i:Int) else firstAt t (r.l.drop (i+1)) (i+1):=by rw [aHt h,bF h];rfl
theorem anV (r:D) (t:Int) (hl:r.l.length<=140737488351232): ∀(j i:Nat),i+j=r.l.length->L 851 [enc r,t,(r.l.length:Int),(i:Int)]=some [firstAt t (r.l.drop i) i]
 |0,i,hi=>by
  have c1: ¬(i:Int)<(r.l.length:Int):=by omega
  rw [aHE (by omega),bU,aC5];simp only [ajT,zz,c1,fin,firstAt]
 |j+1,i,hi=>by
  have c1:(i:Int)<(r.l.length:Int):=by omega
  have c2: ¬((i:Int)<0):=by omega
  have w:=aX (n:=i) (by omega);have ih:=anV r t hl j (i+1) (by omega);rw [Aj (by omega),bU,aC5];by_cases he:(r.at (i:Int)).n=t
  ·simp only [ajT,zz,c1,c2,he,fin]
  ·have he': ¬t=(r.at (i:Int)).n:=fun h=>he h.symm;simp only [ajT,zz,c1,c2,aHc he,aHc he',w,fin,ih]
theorem dP (r:D) (t:Int) (hl:r.l.length<=140737488351232):L 850 [enc r,t]=some [place r t]:=by have h:=anV r t hl r.l.length 0 (by omega);rw [bU,aFw];simp only [aBt,zz,fin];exact h
theorem has_is (r:D) (t:Int) (hl:r.l.length<=140737488351232):L 900 [enc r,t]=some [if place r t<0 then 0 else 1]:=by rw [bU,aFv];simp only [aBs,zz,dP r t hl];split<;>rfl
theorem Gw (r:D) (t:Int) (hl:r.l.length<=140737488351232) (y2 y3 y4 y5 y6 y7 y8 y9 qY qX qW:Int): ∀(j i:Nat),i+j=r.l.length->
 L 12051 [enc r,t,y2,y3,y4,y5,y6,y7,y8,y9,qY,qX,qW,(r.l.length:Int),(i:Int)]=some [0,enc r,t,y2,y3,y4,y5,y6,y7,y8,y9,qY,qX,qW,firstAt t (r.l.drop i) i]
 |0,i,hi=>by
  have c1: ¬(i:Int)<(r.l.length:Int):=by omega
  rw [aHE (by omega),bU,abC];simp only [MI,zz,c1,fin,firstAt]
 |j+1,i,hi=>by
  have c1:(i:Int)<(r.l.length:Int):=by omega
  have c2: ¬((i:Int)<0):=by omega
  have w:=aX (n:=i) (by omega);have ih:=Gw r t hl y2 y3 y4 y5 y6 y7 y8 y9 qY qX qW j (i+1) (by omega);rw [Aj (by omega),bU,abC];by_cases he:(r.at (i:Int)).n=t
  ·simp only [MI,zz,c1,c2,he,fin]
  ·simp only [MI,zz,c1,c2,aHc he,w,fin,ih]
theorem avI (r:D) (t:Int) (hl:r.l.length<=140737488351232) (y2 y3 y4 y5 y6 y7 y8 y9 qY qX qW:Int):L 12050 [enc r,t,y2,y3,y4,y5,y6,y7,y8,y9,qY,qX,qW]=some [0,enc r,t,y2,y3,y4,y5,y6,y7,y8,y9,qY,qX,qW,place r t]:=by have h:=Gw r t hl y2 y3 y4 y5 y6 y7 y8 y9 qY qX qW r.l.length 0 (by omega);rw [bU,arP];simp only [Zh,zz,fin];exact h
theorem Gv (r:D) (t:Int) (hl:r.l.length<=140737488351232) (y2 y3 y4 y5 y6 y7 y8 y9 qY qX qW:Int): ∀(j i:Nat),i+j=r.l.length->
 L 12151 [enc r,t,y2,y3,y4,y5,y6,y7,y8,y9,qY,qX,qW,(r.l.length:Int),(i:Int)]=some [0,enc r,t,y2,y3,y4,y5,y6,y7,y8,y9,qY,qX,qW,firstAt t (r.l.drop i) i]
 |0,i,hi=>by
  have c1: ¬(i:Int)<(r.l.length:Int):=by omega
  rw [aHE (by omega),bU,abA];simp only [MG,zz,c1,fin,firstAt]
 |j+1,i,hi=>by
  have c1:(i:Int)<(r.l.length:Int):=by omega
  have c2: ¬((i:Int)<0):=by omega
  have w:=aX (n:=i) (by omega);have ih:=Gv r t hl y2 y3 y4 y5 y6 y7 y8 y9 qY qX qW j (i+1) (by omega);rw [Aj (by omega),bU,abA];by_cases he:(r.at (i:Int)).n=t
  ·simp only [MG,zz,c1,c2,he,fin]
  ·simp only [MG,zz,c1,c2,aHc he,w,fin,ih]
theorem avH (r:D) (t:Int) (hl:r.l.length<=140737488351232) (y2 y3 y4 y5 y6 y7 y8 y9 qY qX qW:Int):L 12150 [enc r,t,y2,y3,y4,y5,y6,y7,y8,y9,qY,qX,qW]=some [0,enc r,t,y2,y3,y4,y5,y6,y7,y8,y9,qY,qX,qW,place r t]:=by have h:=Gv r t hl y2 y3 y4 y5 y6 y7 y8 y9 qY qX qW r.l.length 0 (by omega);rw [bU,arO];simp only [Zg,zz,fin];exact h
theorem Du {t:Int} {l:List D} {j:Nat} (h:j<l.length):wo t (l.take (j+1))=if (l[j]).n=t then wo t (l.take j) else wo t (l.take j)++ [l[j]]:=by
 unfold wo;rw [aJq h,List.filter_append];by_cases he:(l[j]).n=t
 ·simp [he]
 ·simp [he]
theorem TY (t:Int) (l:List D):(wo t l).length<=l.length:=List.length_filter_le _ _
theorem Az (r0:D) (t:Int) (l0:List D) (hl:l0.length<=140737488351232) (hn: ∀x∈l0,x= .i x.n) (y2 y3 y4 y5 y6 y7 y8 y9 qY qX qW:Int): ∀(m i j:Nat) (r:D),r.l.length=l0.length->i<j->j+m=l0.length->r.l.drop j=l0.drop j->r.l.take i=wo t (l0.take j)->
 ∃(n:Nat) (r':D),n<l0.length/\r'.l.length=l0.length/\r'.l.take n=wo t l0/\L 12001 [enc r0,t,y2,y3,y4,y5,y6,y7,y8,y9,qY,qX,qW,enc r,(i:Int),(j:Int)]=some [1,enc r0,t,y2,y3,y4,y5,y6,y7,y8,y9,qY,qX,qW,(n:Int),enc r',(l0.length:Int)]
 |0,i,j,r,hr,h1,h2,h3,h4=>by
  have c1: ¬(j:Int)<(l0.length:Int):=by omega
  have c2: ¬((i:Int)<0):=by omega
  have c3: ¬((l0.length:Int)<(i:Int)):=by omega
  have c4: ¬((l0.length:Int)-(i:Int)<0):=by omega
  have c5:(i:Int)+((l0.length:Int)-(i:Int))=(l0.length:Int):=by omega
  refine⟨i,dL (r.l.take i++List.replicate (r.l.length-i) (.i 0)),by omega,by rw [aA]; simp only [aHC,aHr,aIH]; omega,?_,?_⟩
  ·rw [aA,aIL (by rw [aHr]; omega),aIW,aJS,h4,aIb (by omega)]
  ·rw [bU,VK];simp only [MJ,zz,c1,c2,c3,c4,c5,aHH,fin,hr]
 |m+1,i,j,r,hr,h1,h2,h3,h4=>by
  have c1:(j:Int)<(l0.length:Int):=by omega
  have c2: ¬((j:Int)<0):=by omega
  have w:=aX (n:=j) (by omega);have hj:j<r.l.length:=by omega
  have hj0:j<l0.length:=by omega
  have hx:r.at (j:Int)=l0[j]:=by rw [bF hj];rw [aHt hj,aHt hj0] at h3;exact (List.cons.inj h3).1
  have h3':r.l.drop (j+1)=l0.drop (j+1):=by rw [aHt hj,aHt hj0] at h3;exact (List.cons.inj h3).2
  by_cases he:(r.at (j:Int)).n=t
  ·obtain⟨n,r',q1,q2,q3,ih⟩:=Az r0 t l0 hl hn y2 y3 y4 y5 y6 y7 y8 y9 qY qX qW m i (j+1) r hr (by omega) (by omega) h3' (by rw [Du hj0,<- hx,aHd he,h4]);refine⟨n,r',q1,q2,q3,?_⟩;rw [bU,VK];simp only [MJ,zz,c1,c2,he,w,hr,fin,ih]
  ·have c3: ¬((i:Int)<0):=by omega
   have c4:(i:Int)<(l0.length:Int):=by omega
   have w2:=aX (n:=i) (by omega);have hs:dV r.l (i:Int) (.i (r.at (j:Int)).n)=r.l.set i l0[j]:=by rw [vY,hx,<- hn _ (aHk hj0)]
   obtain⟨n,r',q1,q2,q3,ih⟩:=Az r0 t l0 hl hn y2 y3 y4 y5 y6 y7 y8 y9 qY qX qW m (i+1) (j+1) (dL (dV r.l (i:Int) (.i (r.at (j:Int)).n))) (by rw [aA,gK,hr]) (by omega) (by omega)
    (by rw [aA,hs,aJI (by omega),h3'])
    (by rw [aA,hs,aJq (by rw [aIO]; omega),aJH (aHh _),aJ2,h4,Du hj0,<- hx,aHc he])
   refine⟨n,r',q1,q2,q3,?_⟩;rw [bU,VK];simp only [MJ,zz,c1,c2,c3,c4,aHc he,w,w2,hr,fin,ih]
theorem axK (r:D) (t:Int) (hl:r.l.length<=140737488351232) (hn: ∀x∈r.l,x= .i x.n):(wo t r.l=r.l/\∀y2 y3 y4 y5 y6 y7 y8 y9 qY qX qW:Int,L 12000 [enc r,t,y2,y3,y4,y5,y6,y7,y8,y9,qY,qX,qW]=some [0,enc r,t,y2,y3,y4,y5,y6,y7,y8,y9,qY,qX,qW])\/
 ∀y2 y3 y4 y5 y6 y7 y8 y9 qY qX qW:Int,∃(n:Nat) (r':D),n<r.l.length/\r'.l.length=r.l.length/\r'.l.take n=wo t r.l/\L 12000 [enc r,t,y2,y3,y4,y5,y6,y7,y8,y9,qY,qX,qW]=some [1,enc r,t,y2,y3,y4,y5,y6,y7,y8,y9,qY,qX,qW,(n:Int),enc r',(r.l.length:Int)]:=by
 have h:=avI r t hl;rcases nU r t with ⟨hp,hno⟩|⟨i,hi,hp,hat,hno⟩
 ·refine .inl ⟨Dv hno,fun y2 y3 y4 y5 y6 y7 y8 y9 qY qX qW=>?_⟩;have h':=h y2 y3 y4 y5 y6 y7 y8 y9 qY qX qW;clear h;rw [hp] at h';rw [bU,abD,Ur,fC,aHd,fC,aHd,fC,aHd]
  ·simp only [mZ,List.map,dF,aZ,aP,aT,Nat.reduceLT,fin]
  ·simp only [Qm3,jI,dF,jD,jK,List.map,aZ,Nat.reduceLT,aP,aT];rw [h'];simp only [aP,aT,aHO,aHl,if_true]
  ·simp only [jI,dF,jD,jK,List.map,aZ,Nat.reduceLT,aP,aT];rw [h'];simp only [aP,aT,aHO,aHl,if_true]
  ·simp only [jI,dF,jD,jK,List.map,aZ,Nat.reduceLT,aP,aT];rw [h'];simp only [aP,aT,aHO,aHl,if_true]
 ·refine .inr fun y2 y3 y4 y5 y6 y7 y8 y9 qY qX qW=>?_;have h':=h y2 y3 y4 y5 y6 y7 y8 y9 qY qX qW;clear h;rw [hp] at h';have w:=aX (n:=i) (by omega);have h0:r.l.take i=wo t (r.l.take (i+1)):=by rw [Du hi,aHd hat,Dv hno]
  obtain⟨n,r',q1,q2,q3,ih⟩:=Az r t r.l hl hn y2 y3 y4 y5 y6 y7 y8 y9 qY qX qW (r.l.length-(i+1)) i (i+1) r rfl (by omega) (by omega) rfl h0;refine⟨n,r',q1,q2,q3,?_⟩;rw [bU,abD,Ur,fC,aHd,fC,aHd,fC,aHc]
  ·simp only [pF,List.map,Qm3,dF,jD,CV,den_add,aZ,aP,aT,Nat.reduceLT];rw [h'];simp only [aP,aT,aHl,w,fin];rw [ih]
  ·simp only [Qm3,jI,dF,jD,jK,List.map,aZ,Nat.reduceLT,aP,aT];rw [h'];simp only [aP,aT,aHO,aHl,if_true];omega
  ·simp only [jI,dF,jD,jK,List.map,aZ,Nat.reduceLT,aP,aT];rw [h'];simp only [aP,aT,aHO,aHl,if_true]
  ·simp only [jI,dF,jD,jK,List.map,aZ,Nat.reduceLT,aP,aT];rw [h'];simp only [aP,aT,aHO,aHl,if_true]
theorem Aw (r0:D) (t:Int) (l0:List D) (hl:l0.length<=140737488351232) (hn: ∀x∈l0,x= .i x.n) (y2 y3 y4 y5 y6 y7 y8 y9 qY qX qW:Int): ∀(m i j:Nat) (r:D),r.l.length=l0.length->i<j->j+m=l0.length->r.l.drop j=l0.drop j->r.l.take i=wo t (l0.take j)->
 ∃(n:Nat) (r':D),n<l0.length/\r'.l.length=l0.length/\r'.l.take n=wo t l0/\L 12101 [enc r0,t,y2,y3,y4,y5,y6,y7,y8,y9,qY,qX,qW,enc r,(i:Int),(j:Int)]=some [1,enc r0,t,y2,y3,y4,y5,y6,y7,y8,y9,qY,qX,qW,(n:Int),enc r',(l0.length:Int)]
 |0,i,j,r,hr,h1,h2,h3,h4=>by
  have c1: ¬(j:Int)<(l0.length:Int):=by omega
  have c2: ¬((i:Int)<0):=by omega
  have c3: ¬((l0.length:Int)<(i:Int)):=by omega
  have c4: ¬((l0.length:Int)-(i:Int)<0):=by omega
  have c5:(i:Int)+((l0.length:Int)-(i:Int))=(l0.length:Int):=by omega
  refine⟨i,dL (r.l.take i++List.replicate (r.l.length-i) (.i 0)),by omega,by rw [aA]; simp only [aHC,aHr,aIH]; omega,?_,?_⟩
  ·rw [aA,aIL (by rw [aHr]; omega),aIW,aJS,h4,aIb (by omega)]
  ·rw [bU,VJ];simp only [MH,zz,c1,c2,c3,c4,c5,aHH,fin,hr]
 |m+1,i,j,r,hr,h1,h2,h3,h4=>by
  have c1:(j:Int)<(l0.length:Int):=by omega
  have c2: ¬((j:Int)<0):=by omega
  have w:=aX (n:=j) (by omega);have hj:j<r.l.length:=by omega
  have hj0:j<l0.length:=by omega
  have hx:r.at (j:Int)=l0[j]:=by rw [bF hj];rw [aHt hj,aHt hj0] at h3;exact (List.cons.inj h3).1
  have h3':r.l.drop (j+1)=l0.drop (j+1):=by rw [aHt hj,aHt hj0] at h3;exact (List.cons.inj h3).2
  by_cases he:(r.at (j:Int)).n=t
  ·obtain⟨n,r',q1,q2,q3,ih⟩:=Aw r0 t l0 hl hn y2 y3 y4 y5 y6 y7 y8 y9 qY qX qW m i (j+1) r hr (by omega) (by omega) h3' (by rw [Du hj0,<- hx,aHd he,h4]);refine⟨n,r',q1,q2,q3,?_⟩;rw [bU,VJ];simp only [MH,zz,c1,c2,he,w,hr,fin,ih]
  ·have c3: ¬((i:Int)<0):=by omega
   have c4:(i:Int)<(l0.length:Int):=by omega
   have w2:=aX (n:=i) (by omega);have hs:dV r.l (i:Int) (.i (r.at (j:Int)).n)=r.l.set i l0[j]:=by rw [vY,hx,<- hn _ (aHk hj0)]
   obtain⟨n,r',q1,q2,q3,ih⟩:=Aw r0 t l0 hl hn y2 y3 y4 y5 y6 y7 y8 y9 qY qX qW m (i+1) (j+1) (dL (dV r.l (i:Int) (.i (r.at (j:Int)).n))) (by rw [aA,gK,hr]) (by omega) (by omega)
    (by rw [aA,hs,aJI (by omega),h3'])
    (by rw [aA,hs,aJq (by rw [aIO]; omega),aJH (aHh _),aJ2,h4,Du hj0,<- hx,aHc he])
   refine⟨n,r',q1,q2,q3,?_⟩;rw [bU,VJ];simp only [MH,zz,c1,c2,c3,c4,aHc he,w,w2,hr,fin,ih]
theorem axJ (r:D) (t:Int) (hl:r.l.length<=140737488351232) (hn: ∀x∈r.l,x= .i x.n):(wo t r.l=r.l/\∀y2 y3 y4 y5 y6 y7 y8 y9 qY qX qW:Int,L 12100 [enc r,t,y2,y3,y4,y5,y6,y7,y8,y9,qY,qX,qW]=some [0,enc r,t,y2,y3,y4,y5,y6,y7,y8,y9,qY,qX,qW])\/
 ∀y2 y3 y4 y5 y6 y7 y8 y9 qY qX qW:Int,∃(n:Nat) (r':D),n<r.l.length/\r'.l.length=r.l.length/\r'.l.take n=wo t r.l/\L 12100 [enc r,t,y2,y3,y4,y5,y6,y7,y8,y9,qY,qX,qW]=some [1,enc r,t,y2,y3,y4,y5,y6,y7,y8,y9,qY,qX,qW,(n:Int),enc r',(r.l.length:Int)]:=by
 have h:=avH r t hl;rcases nU r t with ⟨hp,hno⟩|⟨i,hi,hp,hat,hno⟩
 ·refine .inl ⟨Dv hno,fun y2 y3 y4 y5 y6 y7 y8 y9 qY qX qW=>?_⟩;have h':=h y2 y3 y4 y5 y6 y7 y8 y9 qY qX qW;clear h;rw [hp] at h';rw [bU,abB,Uo,fC,aHd,fC,aHd,fC,aHd]
  ·simp only [mZ,List.map,dF,aZ,aP,aT,Nat.reduceLT,fin]
  ·simp only [Qnf,jI,dF,jD,jK,List.map,aZ,Nat.reduceLT,aP,aT];rw [h'];simp only [aP,aT,aHO,aHl,if_true]
  ·simp only [jI,dF,jD,jK,List.map,aZ,Nat.reduceLT,aP,aT];rw [h'];simp only [aP,aT,aHO,aHl,if_true]
  ·simp only [jI,dF,jD,jK,List.map,aZ,Nat.reduceLT,aP,aT];rw [h'];simp only [aP,aT,aHO,aHl,if_true]
 ·refine .inr fun y2 y3 y4 y5 y6 y7 y8 y9 qY qX qW=>?_;have h':=h y2 y3 y4 y5 y6 y7 y8 y9 qY qX qW;clear h;rw [hp] at h';have w:=aX (n:=i) (by omega);have h0:r.l.take i=wo t (r.l.take (i+1)):=by rw [Du hi,aHd hat,Dv hno]
  obtain⟨n,r',q1,q2,q3,ih⟩:=Aw r t r.l hl hn y2 y3 y4 y5 y6 y7 y8 y9 qY qX qW (r.l.length-(i+1)) i (i+1) r rfl (by omega) (by omega) rfl h0;refine⟨n,r',q1,q2,q3,?_⟩;rw [bU,abB,Uo,fC,aHd,fC,aHd,fC,aHc]
  ·simp only [pF,List.map,Qnf,dF,jD,CV,den_add,aZ,aP,aT,Nat.reduceLT];rw [h'];simp only [aP,aT,aHl,w,fin];rw [ih]
  ·simp only [Qnf,jI,dF,jD,jK,List.map,aZ,Nat.reduceLT,aP,aT];rw [h'];simp only [aP,aT,aHO,aHl,if_true];omega
  ·simp only [jI,dF,jD,jK,List.map,aZ,Nat.reduceLT,aP,aT];rw [h'];simp only [aP,aT,aHO,aHl,if_true]
  ·simp only [jI,dF,jD,jK,List.map,aZ,Nat.reduceLT,aP,aT];rw [h'];simp only [aP,aT,aHO,aHl,if_true]
theorem axI (r:D) (t:Int): ∀y2 y3 y4 y5 y6 y7 y8 y9 qY qX qW:Int,L 12200 [enc r,t,y2,y3,y4,y5,y6,y7,y8,y9,qY,qX,qW]=some [0,enc r,t,y2,y3,y4,y5,y6,y7,y8,y9,qY,qX,qW]:=by
 intro y2 y3 y4 y5 y6 y7 y8 y9 qY qX qW
 have h:L 12250 [enc r,t,y2,y3,y4,y5,y6,y7,y8,y9,qY,qX,qW]=some [0,enc r,t,y2,y3,y4,y5,y6,y7,y8,y9,qY,qX,qW]:=by rw [bU,arM];simp only [Ze,zz,fin];rw [bU,arL];simp only [Zd,zz,fin]
 have h':=h;clear h;rw [bU,arN,Zf,fC,aHd,fC,aHd]
 ·simp only [mZ,List.map,dF,aZ,aP,aT,Nat.reduceLT,fin]
 ·simp only [jI,dF,jD,jK,List.map,aZ,Nat.reduceLT,aP,aT];rw [h'];simp only [aP,aT,aHO,aHl,if_true]
 ·simp only [jI,dF,jD,jK,List.map,aZ,Nat.reduceLT,aP,aT];rw [h'];simp only [aP,aT,aHO,aHl,if_true]
theorem axH (r:D) (t:Int): ∀y2 y3 y4 y5 y6 y7 y8 y9 qY qX qW:Int,L 12300 [enc r,t,y2,y3,y4,y5,y6,y7,y8,y9,qY,qX,qW]=some [0,enc r,t,y2,y3,y4,y5,y6,y7,y8,y9,qY,qX,qW]:=by
 intro y2 y3 y4 y5 y6 y7 y8 y9 qY qX qW
 have h:L 12350 [enc r,t,y2,y3,y4,y5,y6,y7,y8,y9,qY,qX,qW]=some [0,enc r,t,y2,y3,y4,y5,y6,y7,y8,y9,qY,qX,qW]:=by rw [bU,arJ];simp only [Zb,zz,fin];rw [bU,arI];simp only [Za,zz,fin]
 have h':=h;clear h;rw [bU,arK,Zc,fC,aHd,fC,aHd]
 ·simp only [mZ,List.map,dF,aZ,aP,aT,Nat.reduceLT,fin]
 ·simp only [jI,dF,jD,jK,List.map,aZ,Nat.reduceLT,aP,aT];rw [h'];simp only [aP,aT,aHO,aHl,if_true]
 ·simp only [jI,dF,jD,jK,List.map,aZ,Nat.reduceLT,aP,aT];rw [h'];simp only [aP,aT,aHO,aHl,if_true]
def auF (d x:D) (m:Nat):List Int:=[(d.hd 0).n,enc (d.hd 1),(d.hd 2).n,enc (d.hd 3),(d.hd 4).n,(x.hd 0).n,(x.hd 1).n,(if (x.hd 2).n=0 then 0 else 1),(x.hd 3).n,enc (x.hd 4),enc (x.hd 5),(m:Int)]
def Snd (d x:D) (m:Nat):Prop:=L 500 (auF d x m)=some [1]
theorem auE (d x:D) (m:Nat) (h:(x.hd 4).l.length<=140737488351232): ∃c,L 500 (auF d x m)=some [c]/\(c=0\/c=1):=by obtain⟨ys,h1,c,rfl,hc⟩:=Zk (d.hd 0).n (enc (d.hd 1)) (d.hd 2).n (enc (d.hd 3)) (d.hd 4).n (x.hd 0).n (x.hd 1).n (if (x.hd 2).n=0 then 0 else 1) (x.hd 3).n (m:Int) (x.hd 4) (x.hd 5) h;exact⟨c,h1,hc⟩
theorem aW:((1:Int)=0)=False:=by simp
def Zr (s:D):Prop:= ∀x∈s.l,(x.hd 4).l.length<=140737488351232
section
variable {d0 d1 s:D} (hr:Zr s) (hle:s.l.length=d0.l.length) (hlen:d0.l.length<=140737488351232)
include hr hle hlen
theorem MZ: ∀(j i:Nat),i+j=s.l.length->∃b:Int,L 351 [enc s,(s.l.length:Int),(i:Int),enc d0,enc d1]=some [b]/\(b=0\/b=1)/\
 (b=1↔∀(k:Nat) (hk:k<s.l.length),i<=k->Snd (d0.l[k]'(hle▸hk)) s.l[k] d1.l.length)
 |0,i,hi=>by
  have c1: ¬(i:Int)<(s.l.length:Int):=by omega
  refine⟨1,?_,.inr rfl,fun _ k hk h=>absurd hk (by omega),fun _=>rfl⟩;rw [bU,awZ];simp only [YX,zz,c1,fin]
 |j+1,i,hi=>by
  have hil:i<s.l.length:=by omega
  have hid:i<d0.l.length:=by omega
  have c1:(i:Int)<(s.l.length:Int):=by omega
  have c2: ¬((i:Int)<0):=by omega
  have c3:(i:Int)<(d0.l.length:Int):=by omega
  have w:=aX (n:=i) (by omega);obtain⟨c,hS,hc⟩:=auE d0.l[i] s.l[i] d1.l.length (hr _ (aHk hil));obtain⟨b,hb1,hb2,ih⟩:=MZ j (i+1) (by omega);have hS':=hS;unfold auF at hS;by_cases hc0:c=0
  ·subst hc0;refine⟨0,?_,.inl rfl,fun h=>absurd h (by omega),fun h=>?_⟩
   ·rw [bU,awZ];by_cases hn:((s.l[i]).hd 2).n=0
    ·rw [aHd hn] at hS;simp only [YX,zz,c1,c2,c3,w,bF hil,bF hid,hn,hS,fin]
    ·rw [aHc hn] at hS;simp only [YX,zz,c1,c2,c3,w,bF hil,bF hid,hn,hS,fin]
   ·have:=h i hil (aHh i);unfold Snd at this;rw [hS'] at this;simp at this
  ·have hc1:c=1:=by omega
   subst hc1;refine⟨b,?_,hb2,fun h k hk hik=>?_,fun h=>ih.2 fun k hk hik=>h k hk (by omega)⟩
   ·rw [bU,awZ];by_cases hn:((s.l[i]).hd 2).n=0
    ·rw [aHd hn] at hS;simp only [YX,zz,c1,c2,c3,w,bF hil,bF hid,hn,hS,fin,aW,hb1]
    ·rw [aHc hn] at hS;simp only [YX,zz,c1,c2,c3,w,bF hil,bF hid,hn,hS,fin,aW,hb1]
   ·by_cases hke:k=i
    ·subst hke;exact hS'
    ·exact ih.1 h k hk (by omega)
end
theorem rZ {d0 d1 s:D} (h0:Wd (.sl 3) d0) (h1:Wd (.sl 4) d1) (hr:Zr s): ∃b:Int,L 350 [enc d0,enc d1,enc s]=some [b]/\(b=0\/b=1)/\
 (b=1↔L 450 [enc d0,enc d1]=some [0]/\∃hle:s.l.length=d0.l.length,∀(k:Nat) (hk:k<s.l.length),Snd (d0.l[k]'(hle▸hk)) s.l[k] d1.l.length):=by
 obtain⟨ys,hC,c,rfl,hc,hok⟩:=TN h0 h1;by_cases hc0:c=0
 ·subst hc0;by_cases hl:s.l.length=d0.l.length
  ·have hlen:=h0.len;obtain⟨b,hb1,hb2,hb3⟩:=MZ (d1:=d1) hr hl hlen s.l.length 0 (by omega);refine⟨b,?_,hb2,fun h=> ⟨hC,hl,fun k hk=>hb3.1 h k hk (by omega)⟩,fun⟨_,_,h⟩=>hb3.2 fun k hk _=>h k hk⟩;have hl':(s.l.length:Int)=(d0.l.length:Int):=by omega
   rw [bU,axA,alC,fC,aHd,fC,aHd,fC,aHd,pF]
   ·simp only [List.map,dF,jG,jJ,aZ,Nat.reduceLT,aP,aT,aC,fin];exact hb1
   ·simp only [jI,rU,dF,jD,jK,jG,List.map,jJ,aZ,Nat.reduceLT,aP,aT,aC];exact hl'
   ·simp only [jI,rU,dF,jD,jK,jG,List.map,jJ,aZ,Nat.reduceLT,aP,aT,aC];rw [hC];simp only [aP,aT,aHO,aHl,if_true]
   ·simp only [jI,rU,dF,jD,jK,jG,List.map,jJ,aZ,Nat.reduceLT,aP,aT,aC];rw [hC];simp only [aP,aT,aHO,aHl,if_true]
  ·refine⟨0,?_,.inl rfl,fun h=>absurd h (by omega),fun⟨_,h,_⟩=>absurd h hl⟩;have hl': ¬(s.l.length:Int)=(d0.l.length:Int):=by omega
   rw [bU,axA,alC,fC,aHd,fC,aHd,fC,aHc]
   ·simp only [mZ,List.map,dF,fin]
   ·simp only [jI,rU,dF,jD,jK,jG,List.map,jJ,aZ,Nat.reduceLT,aP,aT,aC];exact hl'
   ·simp only [jI,rU,dF,jD,jK,jG,List.map,jJ,aZ,Nat.reduceLT,aP,aT,aC];rw [hC];simp only [aP,aT,aHO,aHl,if_true]
   ·simp only [jI,rU,dF,jD,jK,jG,List.map,jJ,aZ,Nat.reduceLT,aP,aT,aC];rw [hC];simp only [aP,aT,aHO,aHl,if_true]
 ·refine⟨0,?_,.inl rfl,fun h=>absurd h (by omega),fun⟨h,_⟩=>?_⟩
  ·rw [bU,axA,alC,fC,aHd,fC,aHc]
   ·simp only [mZ,List.map,dF,fin]
   ·simp only [jI,rU,dF,jD,jK,jG,List.map,jJ,aZ,Nat.reduceLT,aP,aT,aC];rw [hC];simp only [aP,aT,aHO,aHl,if_true];exact hc0
   ·simp only [jI,rU,dF,jD,jK,jG,List.map,jJ,aZ,Nat.reduceLT,aP,aT,aC];rw [hC];simp only [aP,aT,aHO,aHl,if_true]
  ·rw [hC] at h;simp at h;exact absurd h hc0
abbrev Mx (d0:D) (obj:Int):Int:=((d0.at obj).hd 2).n
abbrev Mo (d0 s:D) (obj:Int):Int:=((s.at ((d0.at obj).hd 2).n).hd 0).n
inductive Act where
 |blk
 |mis
 |res (o c dn g:Int) (r v:D) (m:Option Int) (a oc:Int)
def act (M mo th op arg tries o c dn g:Int) (r v:D):Act:=
 if op=1 then (if o=th then .mis else if place r th<0 then (if o<0 then .res th c dn g r v none 0 2 else .blk) else .mis)
 else if op=2 then (if o=th then .res (-1) c dn g r v none 0 2 else .mis)
 else if op=8 then (if o=th then .res (-1) c dn g r v none 0 2 else .mis)
 else if op=3 then (if o<0 then .res th c dn g r v none 1 2 else .res o c dn g r v none 0 2)
 else if op=4 then (if o<0 then .res th c dn g r v none 1 2 else if tries<arg then .blk else .res o c dn g r v none 0 2)
 else if op=5 then (if o=th then .mis else if place r th<0 then (if o<0 then .res o c dn g (dL (r.l++ [.i th])) v none 0 2 else .blk) else .mis)
 else if op=6 then (if place r th<0 then .mis else .res o c dn g (iR (.i 2) (r.l.take (place r th).toNat++r.l.drop ((place r th).toNat+1))) v none 0 2)
 else if op=7 then (if o=th then .mis else if place r th<0 then (if (r.l.length:Int)=0 then (if o<0 then .res th c dn g r v none 0 2 else .blk) else .blk) else .mis)
 else if op=9 then (if 0<c then .res o (IntKind.i64.wrap (c-1)) dn g r v none 0 2 else .blk)
 else if op=11 then (if 0<c then .res o (IntKind.i64.wrap (c-1)) dn g r v none 1 2 else .res o c dn g r v none 0 2)
 else if op=10 then (if c<M then .res o (IntKind.i64.wrap (c+1)) dn g r v none 0 2 else .mis)
 else if op=17 then (if arg<IntKind.i64.wrap (0-c) then .mis else if IntKind.i64.wrap (1099511627776-c)<arg then .mis else .res o (IntKind.i64.wrap (c+arg)) dn g r v none (IntKind.i64.wrap (c+arg)) 2)
 else if op=18 then (if 0<c then .res o (IntKind.i64.wrap (c-1)) dn g r v none (IntKind.i64.wrap (c-1)) 2 else .mis)
 else if op=19 then (if c=0 then .res o c dn g r v none 0 2 else .blk)
 else if op=22 then .res o c dn g r v none c 2
 else if op=23 then .res o arg dn g r v none arg 2
 else if op=20 then (if (v.l.length:Int)<M then .res o c dn g r (dL (v.l++ [.i arg])) none arg 2 else .blk)
 else if op=21 then (if (v.l.length:Int)=0 then .blk else .res o c dn g r (iR v (v.l.drop 1)) none (v.at 0).n 2)
 else if op=12 then (if mo=th then .res o c dn g (dL (wo th r.l++ [.i th])) v (some (-1)) 0 3 else .mis)
 else if op=13 then (if (r.l.length:Int)=0 then .res o c dn g r v none 0 2 else .res o c dn g (iR r (r.l.drop 1)) v none (IntKind.i64.wrap ((r.at 0).n+1)) 2)
 else if op=14 then .res o c dn g (.i 1) v none (r.l.length:Int) 2
 else if op=24 then (if place r th<0 then (if mo<0 then .res o c dn g r v (some th) 0 2 else .blk) else .blk)
 else if op=15 then (if g<4611686018427387904 then (if IntKind.i64.wrap (c+1)=M then .res o 0 dn (IntKind.i64.wrap (g+1)) r v none g 3 else .res o (IntKind.i64.wrap (c+1)) dn g r v none g 3) else .mis)
 else if op=25 then (if arg<g then .res o c dn g r v none arg 2 else .blk)
 else if op=16 then (if dn=0 then (if o=th then .mis else if o<0 then .res th c dn g r v none 1 2 else .blk) else .res o c dn g r v none 0 2)
 else (if o=th then .res (-1) c 1 g r v none 0 2 else .mis)
def PX (s:D) (obj M:Int):Act->D
 | .res o c dn g r v m _ _=>dL (dV (match m with |none=>s.l|some q=>dV s.l M (dL (dV (s.at M).l 0 (.i q)))) obj (dL [.i o,.i c,.i (if dn=0 then 0 else 1),.i g,r,v]))
 |_=>s
def outA (s:D) (th op obj M:Int):Act->List Int
 | .blk=>[enc s,0,0,0,0,0,0]
 | .mis=>[enc s,th,27,obj,IntKind.i64.wrap op,0,2]
 | .res o c dn g r v m a oc=>[enc (PX s obj M (.res o c dn g r v m a oc)),th,op,obj,a,0,oc]
structure TH (d0 d1 s:D) (th op obj arg tries o c dn g:Int) (r v:D):Prop where
 hcp:L 9000 [obj,enc s]=some [qA r v,obj,enc s,o,c,dn,g,enc r,enc v]
 jO:L 550 [enc s]=some [enc s]
 hR:L 350 [enc d0,enc d1,enc s]=some [1]
 uD:0<=th
 mF:th<(d1.l.length:Int)
 jY:0<=obj
 lW:obj<(s.l.length:Int)
 hlen:s.l.length=d0.l.length
 hk:L 600 [op]=some [((d0.at obj).hd 0).n]
 hr:(r.l.length:Int)<17592186044415
 hv:(v.l.length:Int)<17592186044415
 hn: ∀x∈r.l,x= .i x.n
 hM:op=12\/op=24->0<=((d0.at obj).hd 2).n/\((d0.at obj).hd 2).n<(s.l.length:Int)/\((d0.at obj).hd 2).n≠obj
theorem TH.hb {d0 d1 s:D} {th op obj arg tries o c dn g:Int} {r v:D} (H:TH d0 d1 s th op obj arg tries o c dn g r v):r.l.length<=140737488351232:=by have:=H.hr; omega
noncomputable abbrev dM (d0 d1 s:D) (th op obj arg tries:Int):Nat->Int:=bZ L (low [enc d0,enc d1,enc s,th,op,obj,arg,tries])
abbrev bH (k:Nat):SE:=rr 9000 [.aO 5,.aO 2] k
abbrev ZK:SE:=nm (ce 2 (el (.aO 0) (.aO 5)))
abbrev kK:SE:=rr 850 [bH 7,.aO 3] 0
abbrev agL (q:SE):SE:=.op .set (bH 2) (cn (mk ZK) (.op .set (el (bH 2) ZK) (cn (.dat (.i 0)) q)))
abbrev yC:List SE:=[bH 7,.aO 3,.aO 5,ZK,agL (.dat (.i (-1))),.aO 4,.aO 6,.aO 7,bH 3,bH 4,bH 5,bH 6,bH 8]
abbrev thg (o c d g r v:SE):SE:=cn (mk (.aO 5)) (cn o (cn c (cn d (cn g (cn r (cn v (.dat (.i 0))))))))
abbrev xQ:T Lf:=ou [rr 550 [.aO 2] 0,.aO 3,.lit 27,.aO 5,wr (.aO 4),.lit 0,.lit 2]
abbrev Eh:T Lf:=ou [rr 550 [.aO 2] 0,.lit 0,.lit 0,.lit 0,.lit 0,.lit 0,.lit 0]
abbrev mV (z o c d g r v a:SE) (oc:Int):T Lf:=ou [.op .set z (thg o c d g r v),.aO 3,.aO 4,.aO 5,a,.lit 0,.lit oc]
theorem mX {r:D} (h:r.l= []) (t:Int):place r t= -1:=by unfold place; rw [h]; rfl
theorem fJ {r:D} (h:r.l= []) (t:Int):wo t r.l= []:=by rw [h]; rfl
theorem alt3 {r v:D} (h:0<r.l.length) (h':0<v.l.length):qA r v=3:=by simp [qA,h,h']
theorem aGS {r v:D} (h:0<r.l.length) (h':v.l= []):qA r v=4:=by simp [qA,h,h']
theorem aGR {r v:D} (h:r.l= []) (h':0<v.l.length):qA r v=5:=by simp [qA,h,h']
theorem aGQ {r v:D} (h:r.l= []) (h':v.l= []):qA r v=6:=by simp [qA,h,h']
abbrev Gl (d0 s:D) (th op obj arg tries o c dn g:Int) (r v:D):RS:=.out (outA s th op obj (Mx d0 obj) (act (Mx d0 obj) (Mo d0 s obj) th op arg tries o c dn g r v))
theorem dK (s:D) (th op obj M:Int):outA s th op obj M .blk= [enc s,0,0,0,0,0,0]:=rfl
theorem dJ (s:D) (th op obj M:Int):outA s th op obj M .mis= [enc s,th,27,obj,IntKind.i64.wrap op,0,2]:=rfl
theorem cZ (s:D) (th op obj M o c dn g:Int) (r v:D) (a oc:Int):outA s th op obj M (.res o c dn g r v none a oc)= [enc (dL (dV s.l obj (dL [.i o,.i c,.i (if dn=0 then 0 else 1),.i g,r,v]))),th,op,obj,a,0,oc]:=rfl
theorem cO (s:D) (th op obj M o c dn g:Int) (r v:D) (q a oc:Int):outA s th op obj M (.res o c dn g r v (some q) a oc)= [enc (dL (dV (dV s.l M (dL (dV (s.at M).l 0 (.i q)))) obj (dL [.i o,.i c,.i (if dn=0 then 0 else 1),.i g,r,v]))),th,op,obj,a,0,oc]:=rfl
section
variable {s:D} {th op obj M:Int}
theorem fU {c:Prop} [Decidable c] {a b:Act}:RS.out (outA s th op obj M (if c then a else b))=if c then RS.out (outA s th op obj M a) else RS.out (outA s th op obj M b):=by split<;>rfl
end
theorem Bg {p:Prop} [Decidable p]:((if p then (0:Int) else 1)=0)=p:=by by_cases h:p<;>simp [h]
theorem iI (l:List D):l= []\/0<l.length:=by cases l<;>simp
theorem z2 {ρ:Nat->Int} {a b c d:List SB} (h:zY ρ a/\zW ρ b) (h':zY ρ c/\zW ρ d):zY ρ (a++c)/\zW ρ (b++d):=⟨aiU h.1 h'.1,aiX h.2 h'.2⟩
abbrev bt:SE:=.op .bit (mk (bH 5)) (.lit 0)
abbrev kW:SE:=wr (.add kK (.lit 1))
abbrev kL:SE:=.sub (ln (bH 7)) kW
abbrev kD:SE:=.add kK kL
abbrev kC:SE:=.op .cat (.op .cat (.op .take (bH 7) kK) (.op .drop (.op .take (bH 7) (.add kW kL)) kW)) (.op .drop (bH 7) kD)
abbrev kF:SE:=.op .fill kC (cn (mk kD) (.dat (.i 0)))
section
variable {d0 d1 s r v:D} {th op obj arg tries o c dn g:Int}
abbrev YG:List SB:=[.eq (a0 9000 [.aO 5,.aO 2]) (.lit 1),.eq (a0 350 [.aO 0,.aO 1,.aO 2]) (.lit 1),.eq (a0 600 [.aO 4]) (.lit 1),.eq (a0 550 [.aO 2]) (.lit 1),.eq (a0 900 [bH 7,.aO 3]) (.lit 1),.eq (a0 850 [bH 7,.aO 3]) (.lit 1),.lt (.aO 3) (ln (.aO 1)),.lt (.aO 5) (ln (.aO 0)),.lt (.aO 5) (ln (bH 2)),.eq (rr 600 [.aO 4] 0) (nm (ce 0 (el (.aO 0) (.aO 5)))),.lt (ln (bH 7)) (.lit 17592186044415),.lt (ln (bH 8)) (.lit 17592186044415)]
abbrev NG:List SB:=[.lt (.aO 5) (.lit 0),.eq (rr 350 [.aO 0,.aO 1,.aO 2] 0) (.lit 0),.lt (.aO 3) (.lit 0),.lt (ln (bH 7)) (ln (bH 7)),.lt (ln (bH 8)) (.add (.lit 1) (.sub (ln (bH 8)) (.lit 1))),.lt (ln (bH 7)) (.add (.lit 1) (.sub (ln (bH 7)) (.lit 1)))]
theorem fG (H:TH d0 d1 s th op obj arg tries o c dn g r v):zY (dM d0 d1 s th op obj arg tries) YG/\zW (dM d0 d1 s th op obj arg tries) NG:=by have hb:=H.hb;have h1:=H.uD; have h2:=H.mF; have h3:=H.jY; have h4:=H.lW; have h5:=H.hlen; have h6:=H.hr; have h7:=H.hv; have hp:=gG r th;simp only [zz,H.hcp,H.jO,H.hR,H.hk,has_is r th hb,dP r th hb]<;>omega
abbrev YA3:List SB:=[.eq (bH 0) (.lit 3)]
abbrev NA3:List SB:=[.eq (bH 0) (.lit 0),.eq (bH 0) (.lit 1),.eq (bH 0) (.lit 2),.eq (bH 0) (.lit 4),.eq (bH 0) (.lit 5),.eq (bH 0) (.lit 6),.lt (.sub (ln (bH 7)) (.lit 1)) (.lit 0),.lt (.sub (ln (bH 8)) (.lit 1)) (.lit 0)]
theorem fA3 (H:TH d0 d1 s th op obj arg tries o c dn g r v) (hr:0<r.l.length) (hv:0<v.l.length):zY (dM d0 d1 s th op obj arg tries) YA3/\zW (dM d0 d1 s th op obj arg tries) NA3:=by have hb:=H.hb;have h1:=H.uD; have h2:=H.mF; have h3:=H.jY; have h4:=H.lW; have h5:=H.hlen; have h6:=H.hr; have h7:=H.hv; have hp:=gG r th;simp only [zz,H.hcp,H.jO,H.hR,H.hk,has_is r th hb,dP r th hb,alt3 hr hv]<;>omega
abbrev YA4:List SB:=[.eq (bH 0) (.lit 4)]
abbrev NA4:List SB:=[.eq (bH 0) (.lit 0),.eq (bH 0) (.lit 1),.eq (bH 0) (.lit 2),.eq (bH 0) (.lit 3),.eq (bH 0) (.lit 5),.eq (bH 0) (.lit 6),.lt (.sub (ln (bH 7)) (.lit 1)) (.lit 0)]
theorem fA4 (H:TH d0 d1 s th op obj arg tries o c dn g r v) (hr:0<r.l.length) (hv:v.l= []):zY (dM d0 d1 s th op obj arg tries) YA4/\zW (dM d0 d1 s th op obj arg tries) NA4:=by have hb:=H.hb;have h1:=H.uD; have h2:=H.mF; have h3:=H.jY; have h4:=H.lW; have h5:=H.hlen; have h6:=H.hr; have h7:=H.hv; have hp:=gG r th;simp only [zz,H.hcp,H.jO,H.hR,H.hk,has_is r th hb,dP r th hb,aGS hr hv]<;>omega
abbrev YA5:List SB:=[.eq (bH 0) (.lit 5),.lt kK (.lit 0)]
abbrev NA5:List SB:=[.eq (bH 0) (.lit 0),.eq (bH 0) (.lit 1),.eq (bH 0) (.lit 2),.eq (bH 0) (.lit 3),.eq (bH 0) (.lit 4),.eq (bH 0) (.lit 6),.lt (.sub (ln (bH 8)) (.lit 1)) (.lit 0)]
theorem fA5 (H:TH d0 d1 s th op obj arg tries o c dn g r v) (hr:r.l= []) (hv:0<v.l.length):zY (dM d0 d1 s th op obj arg tries) YA5/\zW (dM d0 d1 s th op obj arg tries) NA5:=by have hb:=H.hb;have h1:=H.uD; have h2:=H.mF; have h3:=H.jY; have h4:=H.lW; have h5:=H.hlen; have h6:=H.hr; have h7:=H.hv; have hp:=gG r th;simp only [zz,H.hcp,H.jO,H.hR,H.hk,has_is r th hb,dP r th hb,aGR hr hv,mX hr]<;>omega
abbrev YA6:List SB:=[.eq (bH 0) (.lit 6),.lt kK (.lit 0)]
abbrev NA6:List SB:=[.eq (bH 0) (.lit 0),.eq (bH 0) (.lit 1),.eq (bH 0) (.lit 2),.eq (bH 0) (.lit 3),.eq (bH 0) (.lit 4),.eq (bH 0) (.lit 5)]
theorem fA6 (H:TH d0 d1 s th op obj arg tries o c dn g r v) (hr:r.l= []) (hv:v.l= []):zY (dM d0 d1 s th op obj arg tries) YA6/\zW (dM d0 d1 s th op obj arg tries) NA6:=by have hb:=H.hb;have h1:=H.uD; have h2:=H.mF; have h3:=H.jY; have h4:=H.lW; have h5:=H.hlen; have h6:=H.hr; have h7:=H.hv; have hp:=gG r th;simp only [zz,H.hcp,H.jO,H.hR,H.hk,has_is r th hb,dP r th hb,aGQ hr hv,mX hr]<;>omega
abbrev YM:List SB:=[.lt ZK (ln (bH 2))]
abbrev NM:List SB:=[.lt ZK (.lit 0),.eq ZK (.aO 5)]
theorem fM (H:TH d0 d1 s th op obj arg tries o c dn g r v) (ho:op=12\/op=24):zY (dM d0 d1 s th op obj arg tries) YM/\zW (dM d0 d1 s th op obj arg tries) NM:=by have hb:=H.hb;have h1:=H.uD; have h2:=H.mF; have h3:=H.jY; have h4:=H.lW; have h5:=H.hlen; have h6:=H.hr; have h7:=H.hv; have hp:=gG r th; have hm:=H.hM ho;simp only [zz,H.hcp,H.jO,H.hR,H.hk,has_is r th hb,dP r th hb]<;>omega
abbrev YK0:List SB:=[.lt kK (.lit 0)]
abbrev NK0:List SB:=[]
theorem fK0 (H:TH d0 d1 s th op obj arg tries o c dn g r v) (hk:place r th<0):zY (dM d0 d1 s th op obj arg tries) YK0/\zW (dM d0 d1 s th op obj arg tries) NK0:=by have hb:=H.hb;have h1:=H.uD; have h2:=H.mF; have h3:=H.jY; have h4:=H.lW; have h5:=H.hlen; have h6:=H.hr; have h7:=H.hv; have hp:=gG r th;simp only [zz,H.hcp,H.jO,H.hR,H.hk,has_is r th hb,dP r th hb]<;>omega
abbrev YK1:List SB:=[.lt kD (ln (bH 7)),.eq (.add kD (.sub (ln (bH 7)) kD)) (ln kC)]
abbrev NK1:List SB:=[.lt kK (.lit 0),.lt kW kK,.lt (ln (bH 7)) kW,.eq kK kW,.lt (ln (bH 7)) kK,.lt kW (.lit 0),.lt kL (.lit 0),.lt (ln (bH 7)) (.add kW kL),.lt (ln (bH 7)) kD,.lt kD (.lit 0),.lt (ln kC) (ln (bH 7)),.lt (.sub (ln (bH 7)) kD) (.lit 0),.lt (ln kF) kD]
theorem fK1 (H:TH d0 d1 s th op obj arg tries o c dn g r v) (hk: ¬place r th<0):zY (dM d0 d1 s th op obj arg tries) YK1/\zW (dM d0 d1 s th op obj arg tries) NK1:=by have hb:=H.hb;have h1:=H.uD; have h2:=H.mF; have h3:=H.jY; have h4:=H.lW; have h5:=H.hlen; have h6:=H.hr; have h7:=H.hv; have hp:=gG r th; have hw:IntKind.i64.wrap (place r th+1)=place r th+1:=jX (by omega) (by omega);simp only [zz,H.hcp,H.jO,H.hR,H.hk,has_is r th hb,dP r th hb,aH,aA,aHC,aHr,aHI,aIH,hw]<;>omega
abbrev dA (d0 s r v:D) (th op obj arg tries o c dn g:Int):List Int:=[enc r,th,obj,Mx d0 obj,enc (dL (dV s.l (Mx d0 obj) (dL (dV (s.at (Mx d0 obj)).l 0 (.i (-1)))))),op,arg,tries,o,c,dn,g,enc v]
abbrev aGX:List SB:=[.eq (a0 12000 yC) (.lit 1),.eq (rr 12000 yC 0) (.lit 0)]
abbrev aG3:List SB:=[]
theorem aGN (H:TH d0 d1 s th op obj arg tries o c dn g r v) (hd:L 12000 (dA d0 s r v th op obj arg tries o c dn g)=some (0::(dA d0 s r v th op obj arg tries o c dn g))):zY (dM d0 d1 s th op obj arg tries) aGX/\zW (dM d0 d1 s th op obj arg tries) aG3:=by have hb:=H.hb;have h1:=H.uD; have h2:=H.mF; have h3:=H.jY; have h4:=H.lW; have h5:=H.hlen; have h6:=H.hr; have h7:=H.hv; have hp:=gG r th;simp only [zz,H.hcp,H.jO,H.hR,H.hk,has_is r th hb,dP r th hb,hd]<;>omega
abbrev aGY:List SB:=[.eq (a0 12000 yC) (.lit 1),.eq (rr 12000 yC 0) (.lit 1)]
abbrev aG4:List SB:=[.eq (rr 12000 yC 0) (.lit 0),.lt (rr 12000 yC 14) (.lit 0),.lt (ln (rr 12000 yC 15)) (.add (rr 12000 yC 14) (.lit 1)),.lt (.add (rr 12000 yC 14) (.lit 1)) (.lit 0),.lt (ln (.op .cat (.op .cat (.op .take (rr 12000 yC 15) (rr 12000 yC 14)) (.op .snoc (.dat (.i 0)) (mk (.aO 3)))) (.op .drop (rr 12000 yC 15) (.add (rr 12000 yC 14) (.lit 1))))) (.add (rr 12000 yC 14) (.lit 1))]
theorem aGO (H:TH d0 d1 s th op obj arg tries o c dn g r v) {n:Nat} {r1:D} (hn:n<r.l.length) (hl:r1.l.length=r.l.length) (hd:L 12000 (dA d0 s r v th op obj arg tries o c dn g)=some (1::((dA d0 s r v th op obj arg tries o c dn g)++ [(n:Int),enc r1,(r.l.length:Int)]))):zY (dM d0 d1 s th op obj arg tries) aGY/\zW (dM d0 d1 s th op obj arg tries) aG4:=by have hb:=H.hb;have h1:=H.uD; have h2:=H.mF; have h3:=H.jY; have h4:=H.lW; have h5:=H.hlen; have h6:=H.hr; have h7:=H.hv; have hp:=gG r th;simp only [zz,H.hcp,H.jO,H.hR,H.hk,has_is r th hb,dP r th hb,hd,aH,aA,zF,aHM,aHx,aHC,aHr,aHI,aHq,aHD]<;>omega
abbrev aGV:List SB:=[.eq (a0 12100 yC) (.lit 1),.eq (rr 12100 yC 0) (.lit 0)]
abbrev aG1:List SB:=[]
theorem aGL (H:TH d0 d1 s th op obj arg tries o c dn g r v) (hd:L 12100 (dA d0 s r v th op obj arg tries o c dn g)=some (0::(dA d0 s r v th op obj arg tries o c dn g))):zY (dM d0 d1 s th op obj arg tries) aGV/\zW (dM d0 d1 s th op obj arg tries) aG1:=by have hb:=H.hb;have h1:=H.uD; have h2:=H.mF; have h3:=H.jY; have h4:=H.lW; have h5:=H.hlen; have h6:=H.hr; have h7:=H.hv; have hp:=gG r th;simp only [zz,H.hcp,H.jO,H.hR,H.hk,has_is r th hb,dP r th hb,hd]<;>omega
abbrev aGW:List SB:=[.eq (a0 12100 yC) (.lit 1),.eq (rr 12100 yC 0) (.lit 1)]
abbrev aG2:List SB:=[.eq (rr 12100 yC 0) (.lit 0),.lt (rr 12100 yC 14) (.lit 0),.lt (ln (rr 12100 yC 15)) (.add (rr 12100 yC 14) (.lit 1)),.lt (.add (rr 12100 yC 14) (.lit 1)) (.lit 0),.lt (ln (.op .cat (.op .cat (.op .take (rr 12100 yC 15) (rr 12100 yC 14)) (.op .snoc (.dat (.i 0)) (mk (.aO 3)))) (.op .drop (rr 12100 yC 15) (.add (rr 12100 yC 14) (.lit 1))))) (.add (rr 12100 yC 14) (.lit 1))]
theorem aGM (H:TH d0 d1 s th op obj arg tries o c dn g r v) {n:Nat} {r1:D} (hn:n<r.l.length) (hl:r1.l.length=r.l.length) (hd:L 12100 (dA d0 s r v th op obj arg tries o c dn g)=some (1::((dA d0 s r v th op obj arg tries o c dn g)++ [(n:Int),enc r1,(r.l.length:Int)]))):zY (dM d0 d1 s th op obj arg tries) aGW/\zW (dM d0 d1 s th op obj arg tries) aG2:=by have hb:=H.hb;have h1:=H.uD; have h2:=H.mF; have h3:=H.jY; have h4:=H.lW; have h5:=H.hlen; have h6:=H.hr; have h7:=H.hv; have hp:=gG r th;simp only [zz,H.hcp,H.jO,H.hR,H.hk,has_is r th hb,dP r th hb,hd,aH,aA,zF,aHM,aHx,aHC,aHr,aHI,aHq,aHD]<;>omega
abbrev aGU:List SB:=[.eq (a0 12200 yC) (.lit 1),.eq (rr 12200 yC 0) (.lit 0)]
abbrev aG0:List SB:=[]
theorem aGK (H:TH d0 d1 s th op obj arg tries o c dn g r v) (hd:L 12200 (dA d0 s r v th op obj arg tries o c dn g)=some (0::(dA d0 s r v th op obj arg tries o c dn g))):zY (dM d0 d1 s th op obj arg tries) aGU/\zW (dM d0 d1 s th op obj arg tries) aG0:=by have hb:=H.hb;have h1:=H.uD; have h2:=H.mF; have h3:=H.jY; have h4:=H.lW; have h5:=H.hlen; have h6:=H.hr; have h7:=H.hv; have hp:=gG r th;simp only [zz,H.hcp,H.jO,H.hR,H.hk,has_is r th hb,dP r th hb,hd]<;>omega
abbrev aGT:List SB:=[.eq (a0 12300 yC) (.lit 1),.eq (rr 12300 yC 0) (.lit 0)]
abbrev aGZ:List SB:=[]
theorem aGJ (H:TH d0 d1 s th op obj arg tries o c dn g r v) (hd:L 12300 (dA d0 s r v th op obj arg tries o c dn g)=some (0::(dA d0 s r v th op obj arg tries o c dn g))):zY (dM d0 d1 s th op obj arg tries) aGT/\zW (dM d0 d1 s th op obj arg tries) aGZ:=by have hb:=H.hb;have h1:=H.uD; have h2:=H.mF; have h3:=H.jY; have h4:=H.lW; have h5:=H.hlen; have h6:=H.hr; have h7:=H.hv; have hp:=gG r th;simp only [zz,H.hcp,H.jO,H.hR,H.hk,has_is r th hb,dP r th hb,hd]<;>omega
end
theorem O4 (l m:List D):iR (dL l) m=iR (.i 2) m:=by
 cases m with
 |cons a m=>rfl
 |nil=>cases l<;>rfl
theorem abV (d:D) (h:0<d.l.length):iR (iR d (d.l.take (1+((d.l.length:Int)-1)).toNat)) ((iR d (d.l.take (1+((d.l.length:Int)-1)).toNat)).l.drop (1:Int).toNat)=iR d (d.l.drop 1):=by rw [FC (fun e=>by rw [e]; rfl),aH,aIb (by omega)];rfl
theorem aDk (l:List D) (k:Nat) (hk:k<l.length) (R B:List D):((l.take k++(l.take l.length).drop (k+1)++B).take (l.length-1)++R).take (l.length-1)=l.take k++l.drop (k+1)\/B.length=0:=by
 by_cases hB:B.length=0
 ·exact .inr hB
 ·left;have e:(l.take k++(l.take l.length).drop (k+1)).length=l.length-1:=by simp only [aHC,aHr,aHI]; omega
  rw [aIL (by rw [aHr,aHC,e]; omega),aIW,aJS,aIL (by omega),aIb (by omega),aIF]
section
variable {d0 d1 s r v:D} {th op obj arg tries o c dn g:Int}
abbrev zt0:T Lf:=(sp (.eq (bH 3) (.aO 3)) xQ (sp (.eq (rr 900 [bH 7,.aO 3] 0) (.lit 0)) (sp (.lt (bH 3) (.lit 0)) (mV (bH 2) (mk (.aO 3)) (mk (bH 4)) bt (mk (bH 6)) (bH 7) (bH 8) (.lit 0) 2) Eh) xQ))
theorem sm0 (H:TH d0 d1 s th 1 obj arg tries o c dn g r v):fD (dM d0 d1 s th 1 obj arg tries) zt0=Gl d0 s th 1 obj arg tries o c dn g r v:=by
 have hb:=H.hb;simp only [zz,H.hcp,H.jO,H.hR,H.hk,has_is r th hb,dP r th hb,aW,Bg,fU,dK,dJ,cZ,cO,dL,act,Int.reduceEq,Gl]<;>(repeat' split)<;>first |rfl|(exfalso; omega)
abbrev zt1:T Lf:=(sp (.eq (bH 3) (.aO 3)) (mV (bH 2) (.dat (.i (-1))) (mk (bH 4)) bt (mk (bH 6)) (bH 7) (bH 8) (.lit 0) 2) xQ)
theorem sm1 (H:TH d0 d1 s th 2 obj arg tries o c dn g r v):fD (dM d0 d1 s th 2 obj arg tries) zt1=Gl d0 s th 2 obj arg tries o c dn g r v:=by
 have hb:=H.hb;simp only [zz,H.hcp,H.jO,H.hR,H.hk,has_is r th hb,dP r th hb,aW,Bg,fU,dK,dJ,cZ,cO,dL,act,Int.reduceEq,Gl]<;>(repeat' split)<;>first |rfl|(exfalso; omega)
theorem sm2 (H:TH d0 d1 s th 8 obj arg tries o c dn g r v):fD (dM d0 d1 s th 8 obj arg tries) zt1=Gl d0 s th 8 obj arg tries o c dn g r v:=by
 have hb:=H.hb;simp only [zz,H.hcp,H.jO,H.hR,H.hk,has_is r th hb,dP r th hb,aW,Bg,fU,dK,dJ,cZ,cO,dL,act,Int.reduceEq,Gl]<;>(repeat' split)<;>first |rfl|(exfalso; omega)
abbrev zt2:T Lf:=(sp (.lt (bH 3) (.lit 0)) (mV (bH 2) (mk (.aO 3)) (mk (bH 4)) bt (mk (bH 6)) (bH 7) (bH 8) (.lit 1) 2) (mV (bH 2) (mk (bH 3)) (mk (bH 4)) bt (mk (bH 6)) (bH 7) (bH 8) (.lit 0) 2))
theorem sm3 (H:TH d0 d1 s th 3 obj arg tries o c dn g r v):fD (dM d0 d1 s th 3 obj arg tries) zt2=Gl d0 s th 3 obj arg tries o c dn g r v:=by
 have hb:=H.hb;simp only [zz,H.hcp,H.jO,H.hR,H.hk,has_is r th hb,dP r th hb,aW,Bg,fU,dK,dJ,cZ,cO,dL,act,Int.reduceEq,Gl]<;>(repeat' split)<;>first |rfl|(exfalso; omega)
abbrev zt3:T Lf:=(sp (.lt (bH 3) (.lit 0)) (mV (bH 2) (mk (.aO 3)) (mk (bH 4)) bt (mk (bH 6)) (bH 7) (bH 8) (.lit 1) 2) (sp (.lt (.aO 7) (.aO 6)) Eh (mV (bH 2) (mk (bH 3)) (mk (bH 4)) bt (mk (bH 6)) (bH 7) (bH 8) (.lit 0) 2)))
theorem sm4 (H:TH d0 d1 s th 4 obj arg tries o c dn g r v):fD (dM d0 d1 s th 4 obj arg tries) zt3=Gl d0 s th 4 obj arg tries o c dn g r v:=by
 have hb:=H.hb;simp only [zz,H.hcp,H.jO,H.hR,H.hk,has_is r th hb,dP r th hb,aW,Bg,fU,dK,dJ,cZ,cO,dL,act,Int.reduceEq,Gl]<;>(repeat' split)<;>first |rfl|(exfalso; omega)
abbrev zt4:T Lf:=(sp (.eq (bH 3) (.aO 3)) xQ (sp (.eq (rr 900 [bH 7,.aO 3] 0) (.lit 0)) (sp (.lt (bH 3) (.lit 0)) (mV (bH 2) (mk (bH 3)) (mk (bH 4)) bt (mk (bH 6)) (.op .snoc (bH 7) (mk (.aO 3))) (bH 8) (.lit 0) 2) Eh) xQ))
theorem sm5 (H:TH d0 d1 s th 5 obj arg tries o c dn g r v) (hr:0<r.l.length):fD (dM d0 d1 s th 5 obj arg tries) zt4=Gl d0 s th 5 obj arg tries o c dn g r v:=by
 have hb:=H.hb;simp only [zz,H.hcp,H.jO,H.hR,H.hk,has_is r th hb,dP r th hb,zF,aHx,aW,Bg,fU,dK,dJ,cZ,cO,dL,act,Int.reduceEq,Gl]<;>(repeat' split)<;>first |rfl|(exfalso; omega)
abbrev zt5:T Lf:=xQ
theorem sm6 (H:TH d0 d1 s th 6 obj arg tries o c dn g r v) (hk:place r th<0):fD (dM d0 d1 s th 6 obj arg tries) zt5=Gl d0 s th 6 obj arg tries o c dn g r v:=by
 have hb:=H.hb;simp only [zz,H.hcp,H.jO,H.hR,H.hk,has_is r th hb,dP r th hb,hk,aW,Bg,fU,dK,dJ,cZ,cO,dL,act,Int.reduceEq,Gl]<;>(repeat' split)<;>first |rfl|(exfalso; omega)
abbrev zt6:T Lf:=(mV (bH 2) (mk (bH 3)) (mk (bH 4)) bt (mk (bH 6)) (.op .take kF kD) (bH 8) (.lit 0) 2)
theorem sm7 (H:TH d0 d1 s th 6 obj arg tries o c dn g r v) (hr:0<r.l.length) (hk: ¬place r th<0):fD (dM d0 d1 s th 6 obj arg tries) zt6=Gl d0 s th 6 obj arg tries o c dn g r v:=by
 have hb:=H.hb;rcases nU r th with ⟨hp,_⟩|⟨k,hkl,hp,_⟩
 ·exact absurd hk (by rw [hp]; omega)
 have hw:IntKind.i64.wrap ((k:Int)+1)=(k:Int)+1:=jX (by omega) (by omega);have e1:((k:Int)+1+((r.l.length:Int)-((k:Int)+1))).toNat=r.l.length:=by omega
 have e2:((k:Int)+((r.l.length:Int)-((k:Int)+1))).toNat=r.l.length-1:=by omega
 have e3:((k:Int)+1).toNat=k+1:=by omega
 have h0: ¬((k:Int)<0):=by omega
 have hd:=fun R=>(aDk r.l k hkl R (r.l.drop (r.l.length-1))).resolve_right (by rw [aHI]; omega);simp only [zz,H.hcp,H.jO,H.hR,H.hk,has_is r th hb,dP r th hb,hp,hw,e1,e2,e3,h0,aH,aA,aHH,hd,O4,aW,Bg,fU,dK,dJ,cZ,cO,dL,act,Int.reduceEq,Gl]<;>(repeat' split)<;>first |rfl|(exfalso; omega)
abbrev zt7:T Lf:=(sp (.eq (bH 3) (.aO 3)) xQ (sp (.eq (rr 900 [bH 7,.aO 3] 0) (.lit 0)) (sp (.eq (ln (bH 7)) (.lit 0)) (sp (.lt (bH 3) (.lit 0)) (mV (bH 2) (mk (.aO 3)) (mk (bH 4)) bt (mk (bH 6)) (bH 7) (bH 8) (.lit 0) 2) Eh) Eh) xQ))
theorem sm8 (H:TH d0 d1 s th 7 obj arg tries o c dn g r v) (hr:0<r.l.length):fD (dM d0 d1 s th 7 obj arg tries) zt7=Gl d0 s th 7 obj arg tries o c dn g r v:=by
 have hb:=H.hb;simp only [zz,H.hcp,H.jO,H.hR,H.hk,has_is r th hb,dP r th hb,aW,Bg,fU,dK,dJ,cZ,cO,dL,act,Int.reduceEq,Gl]<;>(repeat' split)<;>first |rfl|(exfalso; omega)
abbrev zt8:T Lf:=(sp (.lt (.lit 0) (bH 4)) (mV (bH 2) (mk (bH 3)) (mk (wr (.sub (bH 4) (.lit 1)))) bt (mk (bH 6)) (bH 7) (bH 8) (.lit 0) 2) Eh)
theorem sm9 (H:TH d0 d1 s th 9 obj arg tries o c dn g r v):fD (dM d0 d1 s th 9 obj arg tries) zt8=Gl d0 s th 9 obj arg tries o c dn g r v:=by
 have hb:=H.hb;simp only [zz,H.hcp,H.jO,H.hR,H.hk,has_is r th hb,dP r th hb,aW,Bg,fU,dK,dJ,cZ,cO,dL,act,Int.reduceEq,Gl]<;>(repeat' split)<;>first |rfl|(exfalso; omega)
abbrev zt9:T Lf:=(sp (.lt (.lit 0) (bH 4)) (mV (bH 2) (mk (bH 3)) (mk (wr (.sub (bH 4) (.lit 1)))) bt (mk (bH 6)) (bH 7) (bH 8) (.lit 1) 2) (mV (bH 2) (mk (bH 3)) (mk (bH 4)) bt (mk (bH 6)) (bH 7) (bH 8) (.lit 0) 2))
theorem aF3 (H:TH d0 d1 s th 11 obj arg tries o c dn g r v):fD (dM d0 d1 s th 11 obj arg tries) zt9=Gl d0 s th 11 obj arg tries o c dn g r v:=by
 have hb:=H.hb;simp only [zz,H.hcp,H.jO,H.hR,H.hk,has_is r th hb,dP r th hb,aW,Bg,fU,dK,dJ,cZ,cO,dL,act,Int.reduceEq,Gl]<;>(repeat' split)<;>first |rfl|(exfalso; omega)
abbrev aDB:T Lf:=(sp (.lt (bH 4) ZK) (mV (bH 2) (mk (bH 3)) (mk (wr (.add (bH 4) (.lit 1)))) bt (mk (bH 6)) (bH 7) (bH 8) (.lit 0) 2) xQ)
theorem aF2 (H:TH d0 d1 s th 10 obj arg tries o c dn g r v):fD (dM d0 d1 s th 10 obj arg tries) aDB=Gl d0 s th 10 obj arg tries o c dn g r v:=by
 have hb:=H.hb;simp only [zz,H.hcp,H.jO,H.hR,H.hk,has_is r th hb,dP r th hb,aW,Bg,fU,dK,dJ,cZ,cO,dL,act,Int.reduceEq,Gl]<;>(repeat' split)<;>first |rfl|(exfalso; omega)
abbrev aDA:T Lf:=(sp (.lt (.aO 6) (wr (.sub (.lit 0) (bH 4)))) xQ (sp (.lt (wr (.sub (.lit 1099511627776) (bH 4))) (.aO 6)) xQ (mV (bH 2) (mk (bH 3)) (mk (wr (.add (bH 4) (.aO 6)))) bt (mk (bH 6)) (bH 7) (bH 8) (wr (.add (bH 4) (.aO 6))) 2)))
theorem aF1 (H:TH d0 d1 s th 17 obj arg tries o c dn g r v):fD (dM d0 d1 s th 17 obj arg tries) aDA=Gl d0 s th 17 obj arg tries o c dn g r v:=by
 have hb:=H.hb;simp only [zz,H.hcp,H.jO,H.hR,H.hk,has_is r th hb,dP r th hb,aW,Bg,fU,dK,dJ,cZ,cO,dL,act,Int.reduceEq,Gl]<;>(repeat' split)<;>first |rfl|(exfalso; omega)
abbrev aDz:T Lf:=(sp (.lt (.lit 0) (bH 4)) (mV (bH 2) (mk (bH 3)) (mk (wr (.sub (bH 4) (.lit 1)))) bt (mk (bH 6)) (bH 7) (bH 8) (wr (.sub (bH 4) (.lit 1))) 2) xQ)
theorem aF0 (H:TH d0 d1 s th 18 obj arg tries o c dn g r v):fD (dM d0 d1 s th 18 obj arg tries) aDz=Gl d0 s th 18 obj arg tries o c dn g r v:=by
 have hb:=H.hb;simp only [zz,H.hcp,H.jO,H.hR,H.hk,has_is r th hb,dP r th hb,aW,Bg,fU,dK,dJ,cZ,cO,dL,act,Int.reduceEq,Gl]<;>(repeat' split)<;>first |rfl|(exfalso; omega)
abbrev aDy:T Lf:=(sp (.eq (bH 4) (.lit 0)) (mV (bH 2) (mk (bH 3)) (mk (bH 4)) bt (mk (bH 6)) (bH 7) (bH 8) (.lit 0) 2) Eh)
theorem aFZ (H:TH d0 d1 s th 19 obj arg tries o c dn g r v):fD (dM d0 d1 s th 19 obj arg tries) aDy=Gl d0 s th 19 obj arg tries o c dn g r v:=by
 have hb:=H.hb;simp only [zz,H.hcp,H.jO,H.hR,H.hk,has_is r th hb,dP r th hb,aW,Bg,fU,dK,dJ,cZ,cO,dL,act,Int.reduceEq,Gl]<;>(repeat' split)<;>first |rfl|(exfalso; omega)
abbrev aDx:T Lf:=(mV (bH 2) (mk (bH 3)) (mk (bH 4)) bt (mk (bH 6)) (bH 7) (bH 8) (bH 4) 2)
theorem aFY (H:TH d0 d1 s th 22 obj arg tries o c dn g r v):fD (dM d0 d1 s th 22 obj arg tries) aDx=Gl d0 s th 22 obj arg tries o c dn g r v:=by
 have hb:=H.hb;simp only [zz,H.hcp,H.jO,H.hR,H.hk,has_is r th hb,dP r th hb,aW,Bg,fU,dK,dJ,cZ,cO,dL,act,Int.reduceEq,Gl]<;>(repeat' split)<;>first |rfl|(exfalso; omega)
abbrev aDw:T Lf:=(mV (bH 2) (mk (bH 3)) (mk (.aO 6)) bt (mk (bH 6)) (bH 7) (bH 8) (.aO 6) 2)
theorem aFX (H:TH d0 d1 s th 23 obj arg tries o c dn g r v):fD (dM d0 d1 s th 23 obj arg tries) aDw=Gl d0 s th 23 obj arg tries o c dn g r v:=by
 have hb:=H.hb;simp only [zz,H.hcp,H.jO,H.hR,H.hk,has_is r th hb,dP r th hb,aW,Bg,fU,dK,dJ,cZ,cO,dL,act,Int.reduceEq,Gl]<;>(repeat' split)<;>first |rfl|(exfalso; omega)
abbrev aAJ:T Lf:=(sp (.lt (ln (bH 8)) ZK) (mV (bH 2) (mk (bH 3)) (mk (bH 4)) bt (mk (bH 6)) (bH 7) (.op .snoc (bH 8) (mk (.aO 6))) (.aO 6) 2) Eh)
theorem aD5 (H:TH d0 d1 s th 20 obj arg tries o c dn g r v) (hv:0<v.l.length):fD (dM d0 d1 s th 20 obj arg tries) aAJ=Gl d0 s th 20 obj arg tries o c dn g r v:=by
 have hb:=H.hb;simp only [zz,H.hcp,H.jO,H.hR,H.hk,has_is r th hb,dP r th hb,zF,aHx,aW,Bg,fU,dK,dJ,cZ,cO,dL,act,Int.reduceEq,Gl]<;>(repeat' split)<;>first |rfl|(exfalso; omega)
abbrev aAI:T Lf:=(sp (.eq (ln (bH 8)) (.lit 0)) Eh (mV (bH 2) (mk (bH 3)) (mk (bH 4)) bt (mk (bH 6)) (bH 7) (.op .drop (.op .take (bH 8) (.add (.lit 1) (.sub (ln (bH 8)) (.lit 1)))) (.lit 1)) (nm (el (bH 8) (.lit 0))) 2))
theorem aD4 (H:TH d0 d1 s th 21 obj arg tries o c dn g r v) (hv:0<v.l.length):fD (dM d0 d1 s th 21 obj arg tries) aAI=Gl d0 s th 21 obj arg tries o c dn g r v:=by
 have hb:=H.hb;simp only [zz,H.hcp,H.jO,H.hR,H.hk,has_is r th hb,dP r th hb,abV v hv,aW,Bg,fU,dK,dJ,cZ,cO,dL,act,Int.reduceEq,Gl]<;>(repeat' split)<;>first |rfl|(exfalso; omega)
abbrev aAH:T Lf:=(sp (.eq (nm (ce 0 (el (bH 2) ZK))) (.aO 3)) (mV (agL (.dat (.i (-1)))) (mk (bH 3)) (mk (bH 4)) bt (mk (bH 6)) (.op .snoc (bH 7) (mk (.aO 3))) (bH 8) (.lit 0) 3) xQ)
theorem aD3 (H:TH d0 d1 s th 12 obj arg tries o c dn g r v) (hr:0<r.l.length) (hw:wo th r.l=r.l):fD (dM d0 d1 s th 12 obj arg tries) aAH=Gl d0 s th 12 obj arg tries o c dn g r v:=by
 have hb:=H.hb;simp only [zz,H.hcp,H.jO,H.hR,H.hk,has_is r th hb,dP r th hb,hw,aA,zF,aHx,aW,Bg,fU,dK,dJ,cZ,cO,dL,act,Int.reduceEq,Gl]<;>(repeat' split)<;>first |rfl|(exfalso; omega)
abbrev aDv:T Lf:=(sp (.eq (nm (ce 0 (el (bH 2) ZK))) (.aO 3)) (mV (agL (.dat (.i (-1)))) (mk (bH 3)) (mk (bH 4)) bt (mk (bH 6)) (.op .take (.op .cat (.op .cat (.op .take (rr 12000 yC 15) (rr 12000 yC 14)) (.op .snoc (.dat (.i 0)) (mk (.aO 3)))) (.op .drop (rr 12000 yC 15) (.add (rr 12000 yC 14) (.lit 1)))) (.add (rr 12000 yC 14) (.lit 1))) (bH 8) (.lit 0) 3) xQ)
theorem aFW (H:TH d0 d1 s th 12 obj arg tries o c dn g r v) (hr:0<r.l.length) (hv:0<v.l.length) {n:Nat} {r1:D} (hn:n<r.l.length) (hl:r1.l.length=r.l.length) (hw:r1.l.take n=wo th r.l) (hd:L 12000 (dA d0 s r v th 12 obj arg tries o c dn g)=some (1::((dA d0 s r v th 12 obj arg tries o c dn g)++ [(n:Int),enc r1,(r.l.length:Int)]))):fD (dM d0 d1 s th 12 obj arg tries) aDv=Gl d0 s th 12 obj arg tries o c dn g r v:=by
 have hb:=H.hb;have e3:((n:Int)+1).toNat=n+1:=by omega
 have hA: ∀B,(wo th r.l++ [D.i th]++B).take (n+1)=wo th r.l++ [.i th]:=fun B=>by
  have:(wo th r.l++ [D.i th]).length=n+1:=by rw [<- hw]; simp only [aHC,aHr,aHq,aHD]; omega
  rw [aIL (by omega),aIb (by omega)]
 have hB:wo th r.l++ [D.i th]≠[]:=by simp
 simp only [zz,H.hcp,H.jO,H.hR,H.hk,has_is r th hb,dP r th hb,hd,aHM,e3,l_p,aH,aA,zF,aHx,aHH,hw,hA,O4,Ho hB,aW,Bg,fU,dK,dJ,cZ,cO,dL,act,Int.reduceEq,Gl]<;>(repeat' split)<;>first |rfl|(exfalso; omega)
abbrev aAG:T Lf:=(sp (.eq (ln (bH 7)) (.lit 0)) (mV (bH 2) (mk (bH 3)) (mk (bH 4)) bt (mk (bH 6)) (bH 7) (bH 8) (.lit 0) 2) (mV (bH 2) (mk (bH 3)) (mk (bH 4)) bt (mk (bH 6)) (.op .drop (.op .take (bH 7) (.add (.lit 1) (.sub (ln (bH 7)) (.lit 1)))) (.lit 1)) (bH 8) (wr (.add (nm (el (bH 7) (.lit 0))) (.lit 1))) 2))
theorem aD2 (H:TH d0 d1 s th 13 obj arg tries o c dn g r v) (hr:0<r.l.length):fD (dM d0 d1 s th 13 obj arg tries) aAG=Gl d0 s th 13 obj arg tries o c dn g r v:=by
 have hb:=H.hb;simp only [zz,H.hcp,H.jO,H.hR,H.hk,has_is r th hb,dP r th hb,abV r hr,zF,aHx,aW,Bg,fU,dK,dJ,cZ,cO,dL,act,Int.reduceEq,Gl]<;>(repeat' split)<;>first |rfl|(exfalso; omega)
abbrev aAF:T Lf:=(mV (bH 2) (mk (bH 3)) (mk (bH 4)) bt (mk (bH 6)) (.dat (.i 1)) (bH 8) (ln (bH 7)) 2)
theorem aD1 (H:TH d0 d1 s th 14 obj arg tries o c dn g r v) (hr:0<r.l.length):fD (dM d0 d1 s th 14 obj arg tries) aAF=Gl d0 s th 14 obj arg tries o c dn g r v:=by
 have hb:=H.hb;simp only [zz,H.hcp,H.jO,H.hR,H.hk,has_is r th hb,dP r th hb,zF,aHx,aW,Bg,fU,dK,dJ,cZ,cO,dL,act,Int.reduceEq,Gl]<;>(repeat' split)<;>first |rfl|(exfalso; omega)
abbrev aiS:T Lf:=(sp (.eq (rr 900 [bH 7,.aO 3] 0) (.lit 0)) (sp (.lt (nm (ce 0 (el (bH 2) ZK))) (.lit 0)) (mV (agL (mk (.aO 3))) (mk (bH 3)) (mk (bH 4)) bt (mk (bH 6)) (bH 7) (bH 8) (.lit 0) 2) Eh) Eh)
theorem auG (H:TH d0 d1 s th 24 obj arg tries o c dn g r v):fD (dM d0 d1 s th 24 obj arg tries) aiS=Gl d0 s th 24 obj arg tries o c dn g r v:=by
 have hb:=H.hb;simp only [zz,H.hcp,H.jO,H.hR,H.hk,has_is r th hb,dP r th hb,aA,zF,aHx,aW,Bg,fU,dK,dJ,cZ,cO,dL,act,Int.reduceEq,Gl]<;>(repeat' split)<;>first |rfl|(exfalso; omega)
abbrev aDu:T Lf:=(sp (.lt (bH 6) (.lit 4611686018427387904)) (sp (.eq (wr (.add (bH 4) (.lit 1))) ZK) (mV (bH 2) (mk (bH 3)) (.dat (.i 0)) bt (mk (wr (.add (bH 6) (.lit 1)))) (bH 7) (bH 8) (bH 6) 3) (mV (bH 2) (mk (bH 3)) (mk (wr (.add (bH 4) (.lit 1)))) bt (mk (bH 6)) (bH 7) (bH 8) (bH 6) 3)) xQ)
theorem aFV (H:TH d0 d1 s th 15 obj arg tries o c dn g r v):fD (dM d0 d1 s th 15 obj arg tries) aDu=Gl d0 s th 15 obj arg tries o c dn g r v:=by
 have hb:=H.hb;simp only [zz,H.hcp,H.jO,H.hR,H.hk,has_is r th hb,dP r th hb,aW,Bg,fU,dK,dJ,cZ,cO,dL,act,Int.reduceEq,Gl]<;>(repeat' split)<;>first |rfl|(exfalso; omega)
abbrev aDt:T Lf:=(sp (.lt (.aO 6) (bH 6)) (mV (bH 2) (mk (bH 3)) (mk (bH 4)) bt (mk (bH 6)) (bH 7) (bH 8) (.aO 6) 2) Eh)
theorem aFU (H:TH d0 d1 s th 25 obj arg tries o c dn g r v):fD (dM d0 d1 s th 25 obj arg tries) aDt=Gl d0 s th 25 obj arg tries o c dn g r v:=by
 have hb:=H.hb;simp only [zz,H.hcp,H.jO,H.hR,H.hk,has_is r th hb,dP r th hb,aW,Bg,fU,dK,dJ,cZ,cO,dL,act,Int.reduceEq,Gl]<;>(repeat' split)<;>first |rfl|(exfalso; omega)
abbrev aDs:T Lf:=(sp (.eq (bH 5) (.lit 0)) (sp (.eq (bH 3) (.aO 3)) xQ (sp (.lt (bH 3) (.lit 0)) (mV (bH 2) (mk (.aO 3)) (mk (bH 4)) bt (mk (bH 6)) (bH 7) (bH 8) (.lit 1) 2) Eh)) (mV (bH 2) (mk (bH 3)) (mk (bH 4)) bt (mk (bH 6)) (bH 7) (bH 8) (.lit 0) 2))
theorem aFT (H:TH d0 d1 s th 16 obj arg tries o c dn g r v):fD (dM d0 d1 s th 16 obj arg tries) aDs=Gl d0 s th 16 obj arg tries o c dn g r v:=by
 have hb:=H.hb;simp only [zz,H.hcp,H.jO,H.hR,H.hk,has_is r th hb,dP r th hb,aW,Bg,fU,dK,dJ,cZ,cO,dL,act,Int.reduceEq,Gl]<;>(repeat' split)<;>first |rfl|(exfalso; omega)
abbrev aDr:T Lf:=(sp (.eq (bH 3) (.aO 3)) (mV (bH 2) (.dat (.i (-1))) (mk (bH 4)) (.dat (.i 1)) (mk (bH 6)) (bH 7) (bH 8) (.lit 0) 2) xQ)
theorem aFS (H:TH d0 d1 s th 26 obj arg tries o c dn g r v):fD (dM d0 d1 s th 26 obj arg tries) aDr=Gl d0 s th 26 obj arg tries o c dn g r v:=by
 have hb:=H.hb;simp only [zz,H.hcp,H.jO,H.hR,H.hk,has_is r th hb,dP r th hb,aW,Bg,fU,dK,dJ,cZ,cO,dL,act,Int.reduceEq,Gl]<;>(repeat' split)<;>first |rfl|(exfalso; omega)
abbrev aAE:T Lf:=(sp (.lt (.lit 0) ZK) (mV (bH 2) (mk (bH 3)) (mk (bH 4)) bt (mk (bH 6)) (bH 7) (.op .snoc (.dat (.i 0)) (mk (.aO 6))) (.aO 6) 2) Eh)
theorem aD0 (H:TH d0 d1 s th 20 obj arg tries o c dn g r v) (hv:v.l= []):fD (dM d0 d1 s th 20 obj arg tries) aAE=Gl d0 s th 20 obj arg tries o c dn g r v:=by
 have hb:=H.hb;have hz2:((0:Nat):Int)=0:=rfl;simp only [zz,H.hcp,H.jO,H.hR,H.hk,has_is r th hb,dP r th hb,hv,aHD,aHx,hz2,zF,aW,Bg,fU,dK,dJ,cZ,cO,dL,act,Int.reduceEq,Gl]<;>(repeat' split)<;>first |rfl|(exfalso; omega)
abbrev aAD:T Lf:=Eh
theorem aDZ (H:TH d0 d1 s th 21 obj arg tries o c dn g r v) (hv:v.l= []):fD (dM d0 d1 s th 21 obj arg tries) aAD=Gl d0 s th 21 obj arg tries o c dn g r v:=by
 have hb:=H.hb;have hz2:((0:Nat):Int)=0:=rfl;simp only [zz,H.hcp,H.jO,H.hR,H.hk,has_is r th hb,dP r th hb,hv,aHD,aHx,hz2,aW,Bg,fU,dK,dJ,cZ,cO,dL,act,Int.reduceEq,Gl]<;>(repeat' split)<;>first |rfl|(exfalso; omega)
abbrev aDq:T Lf:=(sp (.eq (nm (ce 0 (el (bH 2) ZK))) (.aO 3)) (mV (agL (.dat (.i (-1)))) (mk (bH 3)) (mk (bH 4)) bt (mk (bH 6)) (.op .take (.op .cat (.op .cat (.op .take (rr 12100 yC 15) (rr 12100 yC 14)) (.op .snoc (.dat (.i 0)) (mk (.aO 3)))) (.op .drop (rr 12100 yC 15) (.add (rr 12100 yC 14) (.lit 1)))) (.add (rr 12100 yC 14) (.lit 1))) (bH 8) (.lit 0) 3) xQ)
theorem aFR (H:TH d0 d1 s th 12 obj arg tries o c dn g r v) (hr:0<r.l.length) (hv:v.l= []) {n:Nat} {r1:D} (hn:n<r.l.length) (hl:r1.l.length=r.l.length) (hw:r1.l.take n=wo th r.l) (hd:L 12100 (dA d0 s r v th 12 obj arg tries o c dn g)=some (1::((dA d0 s r v th 12 obj arg tries o c dn g)++ [(n:Int),enc r1,(r.l.length:Int)]))):fD (dM d0 d1 s th 12 obj arg tries) aDq=Gl d0 s th 12 obj arg tries o c dn g r v:=by
 have hb:=H.hb;have hz2:((0:Nat):Int)=0:=rfl;have e3:((n:Int)+1).toNat=n+1:=by omega
 have hA: ∀B,(wo th r.l++ [D.i th]++B).take (n+1)=wo th r.l++ [.i th]:=fun B=>by
  have:(wo th r.l++ [D.i th]).length=n+1:=by rw [<- hw]; simp only [aHC,aHr,aHq,aHD]; omega
  rw [aIL (by omega),aIb (by omega)]
 have hB:wo th r.l++ [D.i th]≠[]:=by simp
 simp only [zz,H.hcp,H.jO,H.hR,H.hk,has_is r th hb,dP r th hb,hv,aHD,aHx,hz2,hd,aHM,e3,l_p,aH,aA,zF,aHH,hw,hA,O4,Ho hB,aW,Bg,fU,dK,dJ,cZ,cO,dL,act,Int.reduceEq,Gl]<;>(repeat' split)<;>first |rfl|(exfalso; omega)
abbrev aAC:T Lf:=(sp (.eq (bH 3) (.aO 3)) xQ (sp (.eq (rr 900 [bH 7,.aO 3] 0) (.lit 0)) (sp (.lt (bH 3) (.lit 0)) (mV (bH 2) (mk (bH 3)) (mk (bH 4)) bt (mk (bH 6)) (.op .snoc (.dat (.i 0)) (mk (.aO 3))) (bH 8) (.lit 0) 2) Eh) xQ))
theorem aDY (H:TH d0 d1 s th 5 obj arg tries o c dn g r v) (hr:r.l= []):fD (dM d0 d1 s th 5 obj arg tries) aAC=Gl d0 s th 5 obj arg tries o c dn g r v:=by
 have hb:=H.hb;have hz:((0:Nat):Int)=0:=rfl;simp only [zz,H.hcp,H.jO,H.hR,H.hk,has_is r th hb,dP r th hb,hr,aHD,aHx,hz,zF,aW,Bg,fU,dK,dJ,cZ,cO,dL,act,Int.reduceEq,Gl]<;>(repeat' split)<;>first |rfl|(exfalso; omega)
theorem aDX (H:TH d0 d1 s th 7 obj arg tries o c dn g r v) (hr:r.l= []):fD (dM d0 d1 s th 7 obj arg tries) zt0=Gl d0 s th 7 obj arg tries o c dn g r v:=by
 have hb:=H.hb;have hz:((0:Nat):Int)=0:=rfl;simp only [zz,H.hcp,H.jO,H.hR,H.hk,has_is r th hb,dP r th hb,hr,aHD,aHx,hz,aW,Bg,fU,dK,dJ,cZ,cO,dL,act,Int.reduceEq,Gl]<;>(repeat' split)<;>first |rfl|(exfalso; omega)
abbrev aAB:T Lf:=(sp (.eq (nm (ce 0 (el (bH 2) ZK))) (.aO 3)) (mV (agL (.dat (.i (-1)))) (mk (bH 3)) (mk (bH 4)) bt (mk (bH 6)) (.op .snoc (.dat (.i 0)) (mk (.aO 3))) (bH 8) (.lit 0) 3) xQ)
theorem aDW (H:TH d0 d1 s th 12 obj arg tries o c dn g r v) (hr:r.l= []):fD (dM d0 d1 s th 12 obj arg tries) aAB=Gl d0 s th 12 obj arg tries o c dn g r v:=by
 have hb:=H.hb;have hz:((0:Nat):Int)=0:=rfl;simp only [zz,H.hcp,H.jO,H.hR,H.hk,has_is r th hb,dP r th hb,hr,aHD,aHx,hz,fJ hr,aA,zF,aW,Bg,fU,dK,dJ,cZ,cO,dL,act,Int.reduceEq,Gl]<;>(repeat' split)<;>first |rfl|(exfalso; omega)
abbrev aAA:T Lf:=(mV (bH 2) (mk (bH 3)) (mk (bH 4)) bt (mk (bH 6)) (bH 7) (bH 8) (.lit 0) 2)
theorem aDV (H:TH d0 d1 s th 13 obj arg tries o c dn g r v) (hr:r.l= []):fD (dM d0 d1 s th 13 obj arg tries) aAA=Gl d0 s th 13 obj arg tries o c dn g r v:=by
 have hb:=H.hb;have hz:((0:Nat):Int)=0:=rfl;simp only [zz,H.hcp,H.jO,H.hR,H.hk,has_is r th hb,dP r th hb,hr,aHD,aHx,hz,zF,aW,Bg,fU,dK,dJ,cZ,cO,dL,act,Int.reduceEq,Gl]<;>(repeat' split)<;>first |rfl|(exfalso; omega)
abbrev aAz:T Lf:=(mV (bH 2) (mk (bH 3)) (mk (bH 4)) bt (mk (bH 6)) (.dat (.i 1)) (bH 8) (.lit 0) 2)
theorem aDU (H:TH d0 d1 s th 14 obj arg tries o c dn g r v) (hr:r.l= []):fD (dM d0 d1 s th 14 obj arg tries) aAz=Gl d0 s th 14 obj arg tries o c dn g r v:=by
 have hb:=H.hb;have hz:((0:Nat):Int)=0:=rfl;simp only [zz,H.hcp,H.jO,H.hR,H.hk,has_is r th hb,dP r th hb,hr,aHD,aHx,hz,zF,aW,Bg,fU,dK,dJ,cZ,cO,dL,act,Int.reduceEq,Gl]<;>(repeat' split)<;>first |rfl|(exfalso; omega)
end
def ops:List Int:=[1,2,8,3,4,5,6,7,9,11,10,17,18,19,22,23,20,21,12,13,14,24,15,25,16,26]
abbrev Yo (k:Int):List SB:=[.eq (.aO 4) (.lit k)]
abbrev No (k:Int):List SB:=(ops.filter fun j=>!(j == k)).map fun j=> .eq (.aO 4) (.lit j)
abbrev p3:T Lf:=prune (YG++YA3) (NG++NA3) lF
abbrev p4:T Lf:=prune (YG++YA4) (NG++NA4) lF
abbrev p5:T Lf:=prune (YG++YA5) (NG++NA5) lF
abbrev p6:T Lf:=prune (YG++YA6) (NG++NA6) lF
section
variable {d0 d1 s r v:D} {th op obj arg tries o c dn g:Int}
theorem aiV {ρ:Nat->Int}: ∀{l:List SB},(∀c∈l,¬c.den ρ=true)->zW ρ l
 |[],_=>trivial
 |c::l,h=> ⟨h c (by simp),aiV fun x hx=>h x (aH8 _ hx)⟩
theorem fO (k:Int):zY (dM d0 d1 s th k obj arg tries) (Yo k)/\zW (dM d0 d1 s th k obj arg tries) (No k):=by refine⟨by simp only [zz],aiV fun c hc=>?_⟩;obtain⟨j,hj,rfl⟩:=aHF.1 hc;have:=(aIo.1 hj).2;simp only [zz];intro h;subst h;simp at this
theorem sp3 (H:TH d0 d1 s th op obj arg tries o c dn g r v) (hr:0<r.l.length) (hv:0<v.l.length):fD (dM d0 d1 s th op obj arg tries) p3=fD (dM d0 d1 s th op obj arg tries) lF:=dO (z2 (fG H) (fA3 H hr hv)) lF
theorem sp4 (H:TH d0 d1 s th op obj arg tries o c dn g r v) (hr:0<r.l.length) (hv:v.l= []):fD (dM d0 d1 s th op obj arg tries) p4=fD (dM d0 d1 s th op obj arg tries) lF:=dO (z2 (fG H) (fA4 H hr hv)) lF
theorem sp5 (H:TH d0 d1 s th op obj arg tries o c dn g r v) (hr:r.l= []) (hv:0<v.l.length):fD (dM d0 d1 s th op obj arg tries) p5=fD (dM d0 d1 s th op obj arg tries) lF:=dO (z2 (fG H) (fA5 H hr hv)) lF
theorem sp6 (H:TH d0 d1 s th op obj arg tries o c dn g r v) (hr:r.l= []) (hv:v.l= []):fD (dM d0 d1 s th op obj arg tries) p6=fD (dM d0 d1 s th op obj arg tries) lF:=dO (z2 (fG H) (fA6 H hr hv)) lF
theorem kX {k:Int} {t u:T Lf} {Q:RS} (e:prune (Yo k) (No k) t=u) (h:fD (dM d0 d1 s th k obj arg tries) u=Q):fD (dM d0 d1 s th k obj arg tries) t=Q:=by rw [<- dO (fO k) t,e,h]
theorem kY (H:TH d0 d1 s th op obj arg tries o c dn g r v) {u:T Lf} {Q:RS} (e3:prune (Yo op) (No op) p3=u) (e4:prune (Yo op) (No op) p4=u) (e5:prune (Yo op) (No op) p5=u) (e6:prune (Yo op) (No op) p6=u) (h:fD (dM d0 d1 s th op obj arg tries) u=Q):fD (dM d0 d1 s th op obj arg tries) lF=Q:=by
 rcases iI r.l with hr|hr<;>rcases iI v.l with hv|hv
 ·exact (sp6 H hr hv).symm.trans (kX e6 h)
 ·exact (sp5 H hr hv).symm.trans (kX e5 h)
 ·exact (sp4 H hr hv).symm.trans (kX e4 h)
 ·exact (sp3 H hr hv).symm.trans (kX e3 h)
theorem o1 (H:TH d0 d1 s th 1 obj arg tries o c dn g r v):fD (dM d0 d1 s th 1 obj arg tries) lF=Gl d0 s th 1 obj arg tries o c dn g r v:=kY H (u:=zt0) (by kernel_rfl) (by kernel_rfl) (by kernel_rfl) (by kernel_rfl) (sm0 H)
theorem o2 (H:TH d0 d1 s th 2 obj arg tries o c dn g r v):fD (dM d0 d1 s th 2 obj arg tries) lF=Gl d0 s th 2 obj arg tries o c dn g r v:=kY H (u:=zt1) (by kernel_rfl) (by kernel_rfl) (by kernel_rfl) (by kernel_rfl) (sm1 H)
theorem o8 (H:TH d0 d1 s th 8 obj arg tries o c dn g r v):fD (dM d0 d1 s th 8 obj arg tries) lF=Gl d0 s th 8 obj arg tries o c dn g r v:=kY H (u:=zt1) (by kernel_rfl) (by kernel_rfl) (by kernel_rfl) (by kernel_rfl) (sm2 H)
theorem o3 (H:TH d0 d1 s th 3 obj arg tries o c dn g r v):fD (dM d0 d1 s th 3 obj arg tries) lF=Gl d0 s th 3 obj arg tries o c dn g r v:=kY H (u:=zt2) (by kernel_rfl) (by kernel_rfl) (by kernel_rfl) (by kernel_rfl) (sm3 H)
theorem o4 (H:TH d0 d1 s th 4 obj arg tries o c dn g r v):fD (dM d0 d1 s th 4 obj arg tries) lF=Gl d0 s th 4 obj arg tries o c dn g r v:=kY H (u:=zt3) (by kernel_rfl) (by kernel_rfl) (by kernel_rfl) (by kernel_rfl) (sm4 H)
theorem o5 (H:TH d0 d1 s th 5 obj arg tries o c dn g r v):fD (dM d0 d1 s th 5 obj arg tries) lF=Gl d0 s th 5 obj arg tries o c dn g r v:=by
 rcases iI r.l with hr|hr<;>rcases iI v.l with hv|hv
 ·exact (sp6 H hr hv).symm.trans (kX (u:=aAC) (by kernel_rfl) (aDY H hr))
 ·exact (sp5 H hr hv).symm.trans (kX (u:=aAC) (by kernel_rfl) (aDY H hr))
 ·exact (sp4 H hr hv).symm.trans (kX (u:=zt4) (by kernel_rfl) (sm5 H hr))
 ·exact (sp3 H hr hv).symm.trans (kX (u:=zt4) (by kernel_rfl) (sm5 H hr))
theorem o6 (H:TH d0 d1 s th 6 obj arg tries o c dn g r v):fD (dM d0 d1 s th 6 obj arg tries) lF=Gl d0 s th 6 obj arg tries o c dn g r v:=by
 rcases iI r.l with hr|hr<;>rcases iI v.l with hv|hv
 ·exact (sp6 H hr hv).symm.trans (kX (u:=zt5) (by kernel_rfl) (sm6 H (by rw [mX hr]; omega)))
 ·exact (sp5 H hr hv).symm.trans (kX (u:=zt5) (by kernel_rfl) (sm6 H (by rw [mX hr]; omega)))
 ·by_cases hk:place r th<0
  ·exact (sp4 H hr hv).symm.trans ((dO (fK0 H hk) _).symm.trans (kX (u:=zt5) (by kernel_rfl) (sm6 H hk)))
  ·exact (sp4 H hr hv).symm.trans ((dO (fK1 H hk) _).symm.trans (kX (u:=zt6) (by kernel_rfl) (sm7 H hr hk)))
 ·by_cases hk:place r th<0
  ·exact (sp3 H hr hv).symm.trans ((dO (fK0 H hk) _).symm.trans (kX (u:=zt5) (by kernel_rfl) (sm6 H hk)))
  ·exact (sp3 H hr hv).symm.trans ((dO (fK1 H hk) _).symm.trans (kX (u:=zt6) (by kernel_rfl) (sm7 H hr hk)))
theorem o7 (H:TH d0 d1 s th 7 obj arg tries o c dn g r v):fD (dM d0 d1 s th 7 obj arg tries) lF=Gl d0 s th 7 obj arg tries o c dn g r v:=by
 rcases iI r.l with hr|hr<;>rcases iI v.l with hv|hv
 ·exact (sp6 H hr hv).symm.trans (kX (u:=zt0) (by kernel_rfl) (aDX H hr))
 ·exact (sp5 H hr hv).symm.trans (kX (u:=zt0) (by kernel_rfl) (aDX H hr))
 ·exact (sp4 H hr hv).symm.trans (kX (u:=zt7) (by kernel_rfl) (sm8 H hr))
 ·exact (sp3 H hr hv).symm.trans (kX (u:=zt7) (by kernel_rfl) (sm8 H hr))
theorem o9 (H:TH d0 d1 s th 9 obj arg tries o c dn g r v):fD (dM d0 d1 s th 9 obj arg tries) lF=Gl d0 s th 9 obj arg tries o c dn g r v:=kY H (u:=zt8) (by kernel_rfl) (by kernel_rfl) (by kernel_rfl) (by kernel_rfl) (sm9 H)
theorem o11 (H:TH d0 d1 s th 11 obj arg tries o c dn g r v):fD (dM d0 d1 s th 11 obj arg tries) lF=Gl d0 s th 11 obj arg tries o c dn g r v:=kY H (u:=zt9) (by kernel_rfl) (by kernel_rfl) (by kernel_rfl) (by kernel_rfl) (aF3 H)
theorem o10 (H:TH d0 d1 s th 10 obj arg tries o c dn g r v):fD (dM d0 d1 s th 10 obj arg tries) lF=Gl d0 s th 10 obj arg tries o c dn g r v:=kY H (u:=aDB) (by kernel_rfl) (by kernel_rfl) (by kernel_rfl) (by kernel_rfl) (aF2 H)
theorem o17 (H:TH d0 d1 s th 17 obj arg tries o c dn g r v):fD (dM d0 d1 s th 17 obj arg tries) lF=Gl d0 s th 17 obj arg tries o c dn g r v:=kY H (u:=aDA) (by kernel_rfl) (by kernel_rfl) (by kernel_rfl) (by kernel_rfl) (aF1 H)
theorem o18 (H:TH d0 d1 s th 18 obj arg tries o c dn g r v):fD (dM d0 d1 s th 18 obj arg tries) lF=Gl d0 s th 18 obj arg tries o c dn g r v:=kY H (u:=aDz) (by kernel_rfl) (by kernel_rfl) (by kernel_rfl) (by kernel_rfl) (aF0 H)
theorem o19 (H:TH d0 d1 s th 19 obj arg tries o c dn g r v):fD (dM d0 d1 s th 19 obj arg tries) lF=Gl d0 s th 19 obj arg tries o c dn g r v:=kY H (u:=aDy) (by kernel_rfl) (by kernel_rfl) (by kernel_rfl) (by kernel_rfl) (aFZ H)
theorem o22 (H:TH d0 d1 s th 22 obj arg tries o c dn g r v):fD (dM d0 d1 s th 22 obj arg tries) lF=Gl d0 s th 22 obj arg tries o c dn g r v:=kY H (u:=aDx) (by kernel_rfl) (by kernel_rfl) (by kernel_rfl) (by kernel_rfl) (aFY H)
theorem o23 (H:TH d0 d1 s th 23 obj arg tries o c dn g r v):fD (dM d0 d1 s th 23 obj arg tries) lF=Gl d0 s th 23 obj arg tries o c dn g r v:=kY H (u:=aDw) (by kernel_rfl) (by kernel_rfl) (by kernel_rfl) (by kernel_rfl) (aFX H)
theorem o20 (H:TH d0 d1 s th 20 obj arg tries o c dn g r v):fD (dM d0 d1 s th 20 obj arg tries) lF=Gl d0 s th 20 obj arg tries o c dn g r v:=by
 rcases iI r.l with hr|hr<;>rcases iI v.l with hv|hv
 ·exact (sp6 H hr hv).symm.trans (kX (u:=aAE) (by kernel_rfl) (aD0 H hv))
 ·exact (sp5 H hr hv).symm.trans (kX (u:=aAJ) (by kernel_rfl) (aD5 H hv))
 ·exact (sp4 H hr hv).symm.trans (kX (u:=aAE) (by kernel_rfl) (aD0 H hv))
 ·exact (sp3 H hr hv).symm.trans (kX (u:=aAJ) (by kernel_rfl) (aD5 H hv))
theorem o21 (H:TH d0 d1 s th 21 obj arg tries o c dn g r v):fD (dM d0 d1 s th 21 obj arg tries) lF=Gl d0 s th 21 obj arg tries o c dn g r v:=by
 rcases iI r.l with hr|hr<;>rcases iI v.l with hv|hv
 ·exact (sp6 H hr hv).symm.trans (kX (u:=aAD) (by kernel_rfl) (aDZ H hv))
 ·exact (sp5 H hr hv).symm.trans (kX (u:=aAI) (by kernel_rfl) (aD4 H hv))
 ·exact (sp4 H hr hv).symm.trans (kX (u:=aAD) (by kernel_rfl) (aDZ H hv))
 ·exact (sp3 H hr hv).symm.trans (kX (u:=aAI) (by kernel_rfl) (aD4 H hv))
theorem o12 (H:TH d0 d1 s th 12 obj arg tries o c dn g r v):fD (dM d0 d1 s th 12 obj arg tries) lF=Gl d0 s th 12 obj arg tries o c dn g r v:=by
 rcases iI r.l with hr|hr<;>rcases iI v.l with hv|hv
 ·have hd:=axH r th obj (Mx d0 obj) (enc (dL (dV s.l (Mx d0 obj) (dL (dV (s.at (Mx d0 obj)).l 0 (.i (-1))))))) 12 arg tries o c dn g (enc v);exact (sp6 H hr hv).symm.trans ((dO (fM H (by omega)) _).symm.trans ((dO (aGJ H hd) _).symm.trans (kX (u:=aAB) (by kernel_rfl) (aDW H hr))))
 ·have hd:=axI r th obj (Mx d0 obj) (enc (dL (dV s.l (Mx d0 obj) (dL (dV (s.at (Mx d0 obj)).l 0 (.i (-1))))))) 12 arg tries o c dn g (enc v);exact (sp5 H hr hv).symm.trans ((dO (fM H (by omega)) _).symm.trans ((dO (aGK H hd) _).symm.trans (kX (u:=aAB) (by kernel_rfl) (aDW H hr))))
 ·rcases axJ r th (by have:=H.hr; omega) H.hn with ⟨hw,hd⟩|hd
  ·have hd:=hd obj (Mx d0 obj) (enc (dL (dV s.l (Mx d0 obj) (dL (dV (s.at (Mx d0 obj)).l 0 (.i (-1))))))) 12 arg tries o c dn g (enc v);exact (sp4 H hr hv).symm.trans ((dO (fM H (by omega)) _).symm.trans ((dO (aGL H hd) _).symm.trans (kX (u:=aAH) (by kernel_rfl) (aD3 H hr hw))))
  ·obtain⟨n,r1,hn,hl,hw,hd⟩:=hd obj (Mx d0 obj) (enc (dL (dV s.l (Mx d0 obj) (dL (dV (s.at (Mx d0 obj)).l 0 (.i (-1))))))) 12 arg tries o c dn g (enc v);exact (sp4 H hr hv).symm.trans ((dO (fM H (by omega)) _).symm.trans ((dO (aGM H hn hl hd) _).symm.trans (kX (u:=aDq) (by kernel_rfl) (aFR H hr hv hn hl hw hd))))
 ·rcases axK r th (by have:=H.hr; omega) H.hn with ⟨hw,hd⟩|hd
  ·have hd:=hd obj (Mx d0 obj) (enc (dL (dV s.l (Mx d0 obj) (dL (dV (s.at (Mx d0 obj)).l 0 (.i (-1))))))) 12 arg tries o c dn g (enc v);exact (sp3 H hr hv).symm.trans ((dO (fM H (by omega)) _).symm.trans ((dO (aGN H hd) _).symm.trans (kX (u:=aAH) (by kernel_rfl) (aD3 H hr hw))))
  ·obtain⟨n,r1,hn,hl,hw,hd⟩:=hd obj (Mx d0 obj) (enc (dL (dV s.l (Mx d0 obj) (dL (dV (s.at (Mx d0 obj)).l 0 (.i (-1))))))) 12 arg tries o c dn g (enc v);exact (sp3 H hr hv).symm.trans ((dO (fM H (by omega)) _).symm.trans ((dO (aGO H hn hl hd) _).symm.trans (kX (u:=aDv) (by kernel_rfl) (aFW H hr hv hn hl hw hd))))
theorem o13 (H:TH d0 d1 s th 13 obj arg tries o c dn g r v):fD (dM d0 d1 s th 13 obj arg tries) lF=Gl d0 s th 13 obj arg tries o c dn g r v:=by
 rcases iI r.l with hr|hr<;>rcases iI v.l with hv|hv
 ·exact (sp6 H hr hv).symm.trans (kX (u:=aAA) (by kernel_rfl) (aDV H hr))
 ·exact (sp5 H hr hv).symm.trans (kX (u:=aAA) (by kernel_rfl) (aDV H hr))
 ·exact (sp4 H hr hv).symm.trans (kX (u:=aAG) (by kernel_rfl) (aD2 H hr))
 ·exact (sp3 H hr hv).symm.trans (kX (u:=aAG) (by kernel_rfl) (aD2 H hr))
theorem o14 (H:TH d0 d1 s th 14 obj arg tries o c dn g r v):fD (dM d0 d1 s th 14 obj arg tries) lF=Gl d0 s th 14 obj arg tries o c dn g r v:=by
 rcases iI r.l with hr|hr<;>rcases iI v.l with hv|hv
 ·exact (sp6 H hr hv).symm.trans (kX (u:=aAz) (by kernel_rfl) (aDU H hr))
 ·exact (sp5 H hr hv).symm.trans (kX (u:=aAz) (by kernel_rfl) (aDU H hr))
 ·exact (sp4 H hr hv).symm.trans (kX (u:=aAF) (by kernel_rfl) (aD1 H hr))
 ·exact (sp3 H hr hv).symm.trans (kX (u:=aAF) (by kernel_rfl) (aD1 H hr))
theorem o24 (H:TH d0 d1 s th 24 obj arg tries o c dn g r v):fD (dM d0 d1 s th 24 obj arg tries) lF=Gl d0 s th 24 obj arg tries o c dn g r v:=by
 rcases iI r.l with hr|hr<;>rcases iI v.l with hv|hv
 ·exact (sp6 H hr hv).symm.trans ((dO (fM H (by omega)) _).symm.trans (kX (u:=aiS) (by kernel_rfl) (auG H)))
 ·exact (sp5 H hr hv).symm.trans ((dO (fM H (by omega)) _).symm.trans (kX (u:=aiS) (by kernel_rfl) (auG H)))
 ·exact (sp4 H hr hv).symm.trans ((dO (fM H (by omega)) _).symm.trans (kX (u:=aiS) (by kernel_rfl) (auG H)))
 ·exact (sp3 H hr hv).symm.trans ((dO (fM H (by omega)) _).symm.trans (kX (u:=aiS) (by kernel_rfl) (auG H)))
theorem o15 (H:TH d0 d1 s th 15 obj arg tries o c dn g r v):fD (dM d0 d1 s th 15 obj arg tries) lF=Gl d0 s th 15 obj arg tries o c dn g r v:=kY H (u:=aDu) (by kernel_rfl) (by kernel_rfl) (by kernel_rfl) (by kernel_rfl) (aFV H)
theorem o25 (H:TH d0 d1 s th 25 obj arg tries o c dn g r v):fD (dM d0 d1 s th 25 obj arg tries) lF=Gl d0 s th 25 obj arg tries o c dn g r v:=kY H (u:=aDt) (by kernel_rfl) (by kernel_rfl) (by kernel_rfl) (by kernel_rfl) (aFU H)
theorem o16 (H:TH d0 d1 s th 16 obj arg tries o c dn g r v):fD (dM d0 d1 s th 16 obj arg tries) lF=Gl d0 s th 16 obj arg tries o c dn g r v:=kY H (u:=aDs) (by kernel_rfl) (by kernel_rfl) (by kernel_rfl) (by kernel_rfl) (aFT H)
theorem o26 (H:TH d0 d1 s th 26 obj arg tries o c dn g r v):fD (dM d0 d1 s th 26 obj arg tries) lF=Gl d0 s th 26 obj arg tries o c dn g r v:=kY H (u:=aDr) (by kernel_rfl) (by kernel_rfl) (by kernel_rfl) (by kernel_rfl) (aFS H)
theorem atH (H:TH d0 d1 s th op obj arg tries o c dn g r v) (hop:op∈ops):L 400 [enc d0,enc d1,enc s,th,op,obj,arg,tries]=some (outA s th op obj (Mx d0 obj) (act (Mx d0 obj) (Mo d0 s obj) th op arg tries o c dn g r v)):=by
 rw [bU,aDf]
 suffices h:fD (dM d0 d1 s th op obj arg tries) lF=Gl d0 s th op obj arg tries o c dn g r v by rw [h]; rfl
 unfold ops at hop;simp only [aHm,aId,or_false] at hop;rcases hop with rfl|rfl|rfl|rfl|rfl|rfl|rfl|rfl|rfl|rfl|rfl|rfl|rfl|rfl|rfl|rfl|rfl|rfl|rfl|rfl|rfl|rfl|rfl|rfl|rfl|rfl
 ·exact o1 H
 ·exact o2 H
 ·exact o8 H
 ·exact o3 H
 ·exact o4 H
 ·exact o5 H
 ·exact o6 H
 ·exact o7 H
 ·exact o9 H
 ·exact o11 H
 ·exact o10 H
 ·exact o17 H
 ·exact o18 H
 ·exact o19 H
 ·exact o22 H
 ·exact o23 H
 ·exact o20 H
 ·exact o21 H
 ·exact o12 H
 ·exact o13 H
 ·exact o14 H
 ·exact o24 H
 ·exact o15 H
 ·exact o25 H
 ·exact o16 H
 ·exact o26 H
end
abbrev amT:T Lf:=ou [.op .set (bH 2) (thg (mk (bH 3)) (mk (bH 4)) bt (mk (bH 6)) (bH 7) (bH 8)),.lit 0,.lit 0,.lit 0,.lit 0,.lit 0,.lit 0]
abbrev Ya (a:Int):List SB:=[.eq (a0 9000 [.aO 5,.aO 2]) (.lit 1),.eq (bH 0) (.lit a),.eq (a0 350 [.aO 0,.aO 1,.aO 2]) (.lit 1)]
abbrev Na (a:Int):List SB:=([0,1,2,3,4,5].filter fun j=>!(j == a)).map fun j=> .eq (bH 0) (.lit j)
abbrev r3:SB:=.eq (rr 350 [.aO 0,.aO 1,.aO 2] 0) (.lit 0)
abbrev t3:SB:=.lt (.aO 3) (.lit 0)
abbrev u3:SB:=.lt (.aO 3) (ln (.aO 1))
section
variable {d0 d1 s r v:D} {th op obj arg tries o c dn g b kop a:Int} (hR:L 350 [enc d0,enc d1,enc s]=some [b])
include hR
theorem fa {l:List Int} (hc:L 9000 [obj,enc s]=some (a::l)):zY (dM d0 d1 s th op obj arg tries) (Ya a)/\zW (dM d0 d1 s th op obj arg tries) (Na a):=by refine⟨by simp only [zz,hc,hR],aiV fun c hc'=>?_⟩;obtain⟨j,hj,rfl⟩:=aHF.1 hc';have:=(aIo.1 hj).2;simp only [zz,hc];intro h;subst h;simp at this
theorem xX (k:fD (dM d0 d1 s th op obj arg tries) lF= .out [enc s,0,0,0,0,0,0]):L 400 [enc d0,enc d1,enc s,th,op,obj,arg,tries]=some [enc s,0,0,0,0,0,0]:=by rw [bU,aDf];exact congrArg (fin L) k
section
variable (ha:a=3\/a=4\/a=5\/a=6) (hcp:L 9000 [obj,enc s]=some [a,obj,enc s,o,c,dn,g,enc r,enc v]) (jY:0<=obj) (lW:obj<(s.l.length:Int)) (hd:dn=0\/dn=1) (hs:s=dL (dV s.l obj (dL [.i o,.i c,.i dn,.i g,r,v])))
include ha hcp jY lW hd hs
omit ha hR jY lW in
theorem KY:fD (dM d0 d1 s th op obj arg tries) amT= .out [enc s,0,0,0,0,0,0]:=by
 have e:(if dn=0 then (0:Int) else 1)=dn:=by rcases hd with rfl|rfl<;>rfl
 simp only [dL] at hs;simp only [zz,hcp,e,<- hs]
theorem aF7 (h:b=0):L 400 [enc d0,enc d1,enc s,th,op,obj,arg,tries]=some [enc s,0,0,0,0,0,0]:=
 xX hR (eG (Ya a++ [r3]) (Na a++ []) amT (z2 (fa hR hcp) (by simp only [zz,hcp,hR]<;>omega)) (by rcases ha with rfl|rfl|rfl|rfl<;>kernel_rfl) (KY hcp hd hs))
theorem aF6 (hb:b≠0) (h:th<0):L 400 [enc d0,enc d1,enc s,th,op,obj,arg,tries]=some [enc s,0,0,0,0,0,0]:=
 xX hR (eG (Ya a++ [t3]) (Na a++ [r3]) amT (z2 (fa hR hcp) (by simp only [zz,hcp,hR]<;>omega)) (by rcases ha with rfl|rfl|rfl|rfl<;>kernel_rfl) (KY hcp hd hs))
theorem aF5 (hb:b≠0) (h0:0<=th) (h: ¬th<(d1.l.length:Int)):L 400 [enc d0,enc d1,enc s,th,op,obj,arg,tries]=some [enc s,0,0,0,0,0,0]:=
 xX hR (eG (Ya a++ []) (Na a++ [r3,t3,u3]) amT (z2 (fa hR hcp) (by simp only [zz,hcp,hR]<;>omega)) (by rcases ha with rfl|rfl|rfl|rfl<;>kernel_rfl) (KY hcp hd hs))
theorem aF8 (hb:b≠0) (h0:0<=th) (h:th<(d1.l.length:Int)) (hk:L 600 [op]=some [kop]) (hlen:s.l.length=d0.l.length) (hne: ¬kop=((d0.at obj).hd 0).n):L 400 [enc d0,enc d1,enc s,th,op,obj,arg,tries]=some [enc s,0,0,0,0,0,0]:=
 xX hR (eG (Ya a++ [u3,.lt (.aO 5) (ln (bH 2)),.eq (a0 600 [.aO 4]) (.lit 1),.lt (.aO 5) (ln (.aO 0))]) (Na a++ [r3,t3,.lt (.aO 5) (.lit 0),.eq (rr 600 [.aO 4] 0) (nm (ce 0 (el (.aO 0) (.aO 5))))]) amT (z2 (fa hR hcp) (by simp only [zz,hcp,hR,hk]<;>omega)) (by rcases ha with rfl|rfl|rfl|rfl<;>kernel_rfl) (KY hcp hd hs))
end
theorem aEf (hcp:L 9000 [obj,enc s]=some [0,obj,enc s]) (h:obj<0):L 400 [enc d0,enc d1,enc s,th,op,obj,arg,tries]=some [enc s,0,0,0,0,0,0]:=
 xX hR (eG (Ya 0++ [.lt (.aO 5) (.lit 0)]) (Na 0++ []) (sp r3 (ou [bH 2,.lit 0,.lit 0,.lit 0,.lit 0,.lit 0,.lit 0]) (sp t3 (ou [bH 2,.lit 0,.lit 0,.lit 0,.lit 0,.lit 0,.lit 0]) (sp u3 (ou [bH 2,.lit 0,.lit 0,.lit 0,.lit 0,.lit 0,.lit 0]) (ou [bH 2,.lit 0,.lit 0,.lit 0,.lit 0,.lit 0,.lit 0])))) (z2 (fa hR hcp) (by simp only [zz,hcp]<;>omega)) (by kernel_rfl) (by simp only [zz,hcp,hR,ite_self]))
theorem aEe (hcp:L 9000 [obj,enc s]=some [0,obj,enc s]) (h0:0<=obj) (h: ¬obj<(s.l.length:Int)):L 400 [enc d0,enc d1,enc s,th,op,obj,arg,tries]=some [enc s,0,0,0,0,0,0]:=
 xX hR (eG (Ya 0++ []) (Na 0++ [.lt (.aO 5) (.lit 0),.lt (.aO 5) (ln (bH 2))]) (sp r3 (ou [bH 2,.lit 0,.lit 0,.lit 0,.lit 0,.lit 0,.lit 0]) (sp t3 (ou [bH 2,.lit 0,.lit 0,.lit 0,.lit 0,.lit 0,.lit 0]) (sp u3 (ou [bH 2,.lit 0,.lit 0,.lit 0,.lit 0,.lit 0,.lit 0]) (ou [bH 2,.lit 0,.lit 0,.lit 0,.lit 0,.lit 0,.lit 0])))) (z2 (fa hR hcp) (by simp only [zz,hcp]<;>omega)) (by kernel_rfl) (by simp only [zz,hcp,hR,ite_self]))
theorem aEd (hcp:L 9000 [obj,enc s]=some [1,obj]) (h:obj<0) (hs:s= .i 1):L 400 [enc d0,enc d1,enc s,th,op,obj,arg,tries]=some [enc s,0,0,0,0,0,0]:=
 xX hR (eG (Ya 1++ [.lt (.aO 5) (.lit 0)]) (Na 1++ []) (sp r3 (ou [.dat (.i 1),.lit 0,.lit 0,.lit 0,.lit 0,.lit 0,.lit 0]) (sp t3 (ou [.dat (.i 1),.lit 0,.lit 0,.lit 0,.lit 0,.lit 0,.lit 0]) (sp u3 (ou [.dat (.i 1),.lit 0,.lit 0,.lit 0,.lit 0,.lit 0,.lit 0]) (ou [.dat (.i 1),.lit 0,.lit 0,.lit 0,.lit 0,.lit 0,.lit 0])))) (z2 (fa hR hcp) (by simp only [zz,hcp]<;>omega)) (by kernel_rfl) (by simp only [zz,hcp,hR,hs,ite_self]))
theorem aEc (hcp:L 9000 [obj,enc s]=some [1,obj]) (h0:0<=obj) (h: ¬obj<(s.l.length:Int)) (hs:s= .i 1):L 400 [enc d0,enc d1,enc s,th,op,obj,arg,tries]=some [enc s,0,0,0,0,0,0]:=
 xX hR (eG (Ya 1++ []) (Na 1++ [.lt (.aO 5) (.lit 0)]) (sp r3 (ou [.dat (.i 1),.lit 0,.lit 0,.lit 0,.lit 0,.lit 0,.lit 0]) (sp t3 (ou [.dat (.i 1),.lit 0,.lit 0,.lit 0,.lit 0,.lit 0,.lit 0]) (sp u3 (ou [.dat (.i 1),.lit 0,.lit 0,.lit 0,.lit 0,.lit 0,.lit 0]) (ou [.dat (.i 1),.lit 0,.lit 0,.lit 0,.lit 0,.lit 0,.lit 0])))) (z2 (fa hR hcp) (by simp only [zz,hcp]<;>omega)) (by kernel_rfl) (by simp only [zz,hcp,hR,hs,ite_self]))
theorem aEb (hcp:L 9000 [obj,enc s]=some [2,obj]) (h:obj<0) (hs:s= .i 2):L 400 [enc d0,enc d1,enc s,th,op,obj,arg,tries]=some [enc s,0,0,0,0,0,0]:=
 xX hR (eG (Ya 2++ [.lt (.aO 5) (.lit 0)]) (Na 2++ []) (sp r3 (ou [.dat (.i 2),.lit 0,.lit 0,.lit 0,.lit 0,.lit 0,.lit 0]) (sp t3 (ou [.dat (.i 2),.lit 0,.lit 0,.lit 0,.lit 0,.lit 0,.lit 0]) (sp u3 (ou [.dat (.i 2),.lit 0,.lit 0,.lit 0,.lit 0,.lit 0,.lit 0]) (ou [.dat (.i 2),.lit 0,.lit 0,.lit 0,.lit 0,.lit 0,.lit 0])))) (z2 (fa hR hcp) (by simp only [zz,hcp]<;>omega)) (by kernel_rfl) (by simp only [zz,hcp,hR,hs,ite_self]))
theorem aEa (hcp:L 9000 [obj,enc s]=some [2,obj]) (h0:0<=obj) (h: ¬obj<(s.l.length:Int)) (hs:s= .i 2):L 400 [enc d0,enc d1,enc s,th,op,obj,arg,tries]=some [enc s,0,0,0,0,0,0]:=
 xX hR (eG (Ya 2++ []) (Na 2++ [.lt (.aO 5) (.lit 0)]) (sp r3 (ou [.dat (.i 2),.lit 0,.lit 0,.lit 0,.lit 0,.lit 0,.lit 0]) (sp t3 (ou [.dat (.i 2),.lit 0,.lit 0,.lit 0,.lit 0,.lit 0,.lit 0]) (sp u3 (ou [.dat (.i 2),.lit 0,.lit 0,.lit 0,.lit 0,.lit 0,.lit 0]) (ou [.dat (.i 2),.lit 0,.lit 0,.lit 0,.lit 0,.lit 0,.lit 0])))) (z2 (fa hR hcp) (by simp only [zz,hcp]<;>omega)) (by kernel_rfl) (by simp only [zz,hcp,hR,hs,ite_self]))
end
def kindOf (o:Int):Int:=if o<27 then (if o=0 then 0 else if o=1 then 1 else if o=2 then 1 else if o=3 then 1 else if o=4 then 1 else if o=5 then 2 else if o=6 then 2 else if o=7 then 2 else if o=8 then 2 else if o=9 then 3 else if o=10 then 3 else if o=11 then 3 else if o=12 then 4 else if o=13 then 4 else if o=14 then 4 else if o=15 then 5 else if o=16 then 6 else if o=17 then 7 else if o=18 then 7 else if o=19 then 7 else if o=20 then 8 else if o=21 then 8 else if o=22 then 9 else if o=23 then 9 else if o=24 then 4 else if o=25 then 5 else 6) else 0
theorem Xu (o:Int) (h:oG .u8 o):L 600 [o]=some [kindOf o]:=by
 have h1:=h.1;have w:=aDH h;have c1: ¬(o<0):=by omega
 rw [bU,aFz];simp only [aBw,zz,w,c1];by_cases h27:o<27
 ·simp only [aHd h27];have:o=0\/o=1\/o=2\/o=3\/o=4\/o=5\/o=6\/o=7\/o=8\/o=9\/o=10\/o=11\/o=12\/o=13\/o=14\/o=15\/o=16\/o=17\/o=18\/o=19\/o=20\/o=21\/o=22\/o=23\/o=24\/o=25\/o=26:=by omega
  rcases this with rfl|rfl|rfl|rfl|rfl|rfl|rfl|rfl|rfl|rfl|rfl|rfl|rfl|rfl|rfl|rfl|rfl|rfl|rfl|rfl|rfl|rfl|rfl|rfl|rfl|rfl|rfl
  all_goals rfl
 ·simp only [aHc h27];unfold kindOf;rw [aHc h27];rfl
theorem anI {o:Int} (h0:0<=o) (h:kindOf o≠0):o∈ops:=by
 have h27:o<27:=by refine Decidable.byContradiction fun hn=>h ?_;unfold kindOf;rw [aHc hn]
 have:o=0\/o=1\/o=2\/o=3\/o=4\/o=5\/o=6\/o=7\/o=8\/o=9\/o=10\/o=11\/o=12\/o=13\/o=14\/o=15\/o=16\/o=17\/o=18\/o=19\/o=20\/o=21\/o=22\/o=23\/o=24\/o=25\/o=26:=by omega
 rcases this with rfl|rfl|rfl|rfl|rfl|rfl|rfl|rfl|rfl|rfl|rfl|rfl|rfl|rfl|rfl|rfl|rfl|rfl|rfl|rfl|rfl|rfl|rfl|rfl|rfl|rfl|rfl
 all_goals first |exact absurd rfl h|decide
structure Acc (d0 d1 s:D) (th op obj:Int):Prop where
 r:L 350 [enc d0,enc d1,enc s]=some [1]
 t0:0<=th
 t1:th<(d1.l.length:Int)
 o0:0<=obj
 o1:obj<(s.l.length:Int)
 k:kindOf op=((d0.at obj).hd 0).n
structure Tg (x:D) (o c dn g:Int) (r v:D):Prop where
 is:x=dL [.i o,.i c,.i dn,.i g,r,v]
 ho:oG .i64 o
 hc:oG .i64 c
 hd:dn=0\/dn=1
 hg:oG .i64 g
 hr:Wd (.sl 0) r
 hv:Wd (.sl 0) v
theorem BD {x:D} (h:oM x): ∃o c dn g r v,Tg x o c dn g r v:=by obtain⟨o,c,d,g,r,v,h1,h2,h3,h4,h5,h6,h7⟩:=h;exact⟨o,c,d,g,r,v,h1,h2,h3,h4,h5,h6,h7⟩
theorem abR {r:D} (h:Wd (.sl 0) r): ∀x∈r.l,x= .i x.n:=by intro x hx;obtain⟨n,rfl,_⟩:=(h.el1 rfl x hx).i;rfl
def few (s:D):Prop:= ∀x∈s.l,(x.hd 4).l.length<17592186044415/\(x.hd 5).l.length<17592186044415
theorem few.rows {s:D} (h:few s):Zr s:=fun x hx=>by have:=(h x hx).1; omega
section
variable {d0 d1 s:D} {th op obj arg tries:Int} (h0:Wd (.sl 3) d0) (h1:Wd (.sl 4) d1) (hs:Wd (.sl 7) s) (hf:few s) (hop:oG .u8 op)
include h0 h1 hf in
theorem MX (h:L 350 [enc d0,enc d1,enc s]=some [1]):ZC d0 d1/\s.l.length=d0.l.length:=by obtain⟨b,hb,_,hi⟩:=rZ h0 h1 hf.rows;rw [h] at hb;simp only [aHe,List.cons.injEq,and_true] at hb;obtain⟨hC,hle,_⟩:=hi.1 hb.symm;obtain⟨ys,hC',c,rfl,_,hok⟩:=TN h0 h1;rw [hC] at hC';simp only [aHe,List.cons.injEq,and_true] at hC';exact⟨(hok hC'.symm).1,hle⟩
include h0 h1 hf in
theorem V9 (A:Acc d0 d1 s th op obj):BU d0 (d0.at obj)/\s.l.length=d0.l.length:=by
 obtain⟨hok,hle⟩:=MX h0 h1 hf A.r;refine⟨?_,hle⟩;have a1:=A.o0; have a2:=A.o1;obtain⟨i,rfl⟩ : ∃i:Nat,obj=(i:Int):=⟨obj.toNat,by omega⟩;have hi:i<d0.l.length:=by omega
 rw [bF hi];exact hok.2.2 _ (aHk hi)
include h0 h1 hs hf hop
theorem PG (A:Acc d0 d1 s th op obj) (h:op=12\/op=24):0<=Mx d0 obj/\Mx d0 obj<(s.l.length:Int)/\Mx d0 obj≠obj:=by
 obtain⟨ho,hle⟩:=V9 h0 h1 hf A
 have h4:((d0.at obj).hd 0).n=4:=by rw [<- A.k];rcases h with rfl|rfl<;>rfl
 obtain⟨m1,m2,m3⟩:=ho.2.2.2.2.2 h4;refine⟨m1,by rw [hle]; exact m2,fun he=>?_⟩;have he:((d0.at obj).hd 2).n=obj:=he;rw [he,h4] at m3;omega
theorem KQ (A:Acc d0 d1 s th op obj):op∈ops/\∃o c dn g r v,Tg (s.at obj) o c dn g r v/\
 L 400 [enc d0,enc d1,enc s,th,op,obj,arg,tries]=some (outA s th op obj (Mx d0 obj) (act (Mx d0 obj) (Mo d0 s obj) th op arg tries o c dn g r v)):=by
 obtain⟨ho,hle⟩:=V9 h0 h1 hf A;have hin:op∈ops:=anI hop.1 (by rw [A.k]; have:=ho.1; omega);have a1:=A.o0; have a2:=A.o1;obtain⟨i,rfl⟩ : ∃i:Nat,obj=(i:Int):=⟨obj.toNat,by omega⟩;have hi:i<s.l.length:=by omega
 have ht:=WI hs (by omega);obtain⟨o,c,dn,g,r,v,T⟩:=BD (hs.thing _ (aHk hi));have hfx:=hf _ (aHk hi);rw [T.is] at hfx;have hkk:L 600 [op]=some [((d0.at (i:Int)).hd 0).n]:=by rw [Xu op hop,A.k]
 refine⟨hin,o,c,dn,g,r,v,by rw [bF hi]; exact T,?_⟩;refine atH ⟨aAr s ht i hi o c dn g r v T.is,asG s hs,A.r,A.t0,A.t1,A.o0,A.o1,hle,hkk,?_,?_,(abR T.hr),fun h=>PG h0 h1 hs hf hop A h⟩ hin
 ·have:(r.l.length:Int)<17592186044415:=aIX.2 hfx.1;exact this
 ·have:(v.l.length:Int)<17592186044415:=aIX.2 hfx.2;exact this
theorem BA (A: ¬Acc d0 d1 s th op obj):L 400 [enc d0,enc d1,enc s,th,op,obj,arg,tries]=some [enc s,0,0,0,0,0,0]:=by
 obtain⟨b,hb,hb2,_⟩:=rZ h0 h1 hf.rows;by_cases ho:0<=obj/\obj<(s.l.length:Int)
 ·obtain⟨i,rfl⟩ : ∃i:Nat,obj=(i:Int):=⟨obj.toNat,by omega⟩;have hi:i<s.l.length:=by omega
  have ht:=WI hs (by omega);obtain⟨o,c,dn,g,r,v,T⟩:=BD (hs.thing _ (aHk hi));have hcp:=aAr s ht i hi o c dn g r v T.is
  have hss:s=dL (dV s.l (i:Int) (dL [.i o,.i c,.i dn,.i g,r,v])):=by have:=set_self ht.sh hi;rw [T.is] at this;exact this.symm
  have hkk:=Xu op hop
  have key: ∀alt:Int,(alt=3\/alt=4\/alt=5\/alt=6)->L 9000 [(i:Int),enc s]=some [alt,(i:Int),enc s,o,c,dn,g,enc r,enc v]->L 400 [enc d0,enc d1,enc s,th,op,(i:Int),arg,tries]=some [enc s,0,0,0,0,0,0]:=by
   intro alt ha hcp;by_cases hb0:b=0
   ·exact aF7 hb ha hcp ho.1 ho.2 T.hd hss hb0
   ·have hb1:b=1:=by omega
    by_cases t0:th<0
    ·exact aF6 hb ha hcp ho.1 ho.2 T.hd hss hb0 t0
    ·by_cases t1:th<(d1.l.length:Int)
     ·have hne: ¬kindOf op=((d0.at (i:Int)).hd 0).n:=fun hk=>A ⟨by rw [hb,hb1],by omega,t1,ho.1,ho.2,hk⟩;obtain⟨_,hle⟩:=MX h0 h1 hf (by rw [hb,hb1]);exact aF8 hb ha hcp ho.1 ho.2 T.hd hss hb0 (by omega) t1 hkk hle hne
     ·exact aF5 hb ha hcp ho.1 ho.2 T.hd hss hb0 (by omega) t1
  refine key _ ?_ hcp;unfold qA;split<;>split<;>simp
 ·obtain⟨ys,hc,hys⟩:=copyN s hs obj (by omega);by_cases hn:obj<0
  ·rcases hys with rfl|⟨rfl,he⟩|⟨rfl,he⟩
   ·exact aEf hb hc hn
   ·exact aEd hb hc hn he
   ·exact aEb hb hc hn he
  ·rcases hys with rfl|⟨rfl,he⟩|⟨rfl,he⟩
   ·exact aEe hb hc (by omega) (by omega)
   ·exact aEc hb hc (by omega) (by omega) he
   ·exact aEa hb hc (by omega) (by omega) he
end
theorem KP {d:D} {l:List D} (h: ∀x∈l,∃n,x= .i n/\oG .i64 n) (hl:l.length<=17592186043904):Wd (.sl 0) (iR d l):=by
 cases l with
 |nil=>
  show Wd (.sl 0) (if d= .i 1 then .i 1 else .i 2);split
  ·exact .nil 0
  ·exact .non 0
 |cons a l=> refine .one 0 (.int .i64) (a::l) rfl (by simp) (by have:CZ 0=8:=rfl; rw [this]; omega) fun x hx=>?_;obtain⟨n,rfl,hn⟩:=h x hx;exact .int _ _ hn
theorem Ua {l:List D} (h: ∀x∈l,∃n,x= .i n/\oG .i64 n) (hn:l≠[]) (hl:l.length<=17592186043904):Wd (.sl 0) (dL l):=by rw [<- Ho (d:=.i 2) hn];exact KP h hl
theorem zJ {r:D} (h:Wd (.sl 0) r): ∀x∈r.l,∃n,x= .i n/\oG .i64 n:=fun x hx=>(h.el1 rfl x hx).i
theorem wrap_in (z:Int):oG .i64 (IntKind.i64.wrap z):=by constructor<;>(rw [IntKind.wrap_i64]; omega)
def PS (n:Nat):Act->Prop
 | .res o c dn g r v m _ oc=>oG .i64 o/\oG .i64 c/\(dn=0\/dn=1)/\oG .i64 g/\Wd (.sl 0) r/\r.l.length<=n/\Wd (.sl 0) v/\v.l.length<=n/\(∀q,m=some q->oG .i64 q)/\(oc=2\/oc=3)
 |_=>True
theorem PS.ite {n:Nat} {p:Prop} [Decidable p] {a b:Act} (ha:PS n a) (hb:PS n b):PS n (if p then a else b):=by
 split
 ·exact ha
 ·exact hb
def NoM:Act->Prop
 | .res _ _ _ _ _ _ m _ _=>m=none
 |_=>True
theorem NoM.ite {p:Prop} [Decidable p] {a b:Act} (ha:NoM a) (hb:NoM b):NoM (if p then a else b):=by
 split
 ·exact ha
 ·exact hb
section
variable {x:D} {M mo th op arg tries o c dn g:Int} {r v:D}
theorem aDo (T:Tg x o c dn g r v) {n:Nat} (hr:r.l.length<=n) (hv:v.l.length<=n) (hn:n<17592186043904) (ht:oG .i64 th) (ha:oG .i64 arg):PS (n+1) (act M mo th op arg tries o c dn g r v):=by
 have hm:oG .i64 (-1):=⟨by omega,by omega⟩;have hz:oG .i64 0:=⟨by omega,by omega⟩;have e1: ∀q:Int,(none:Option Int)=some q->oG .i64 q:=fun q h=>by simp at h
 have e2: ∀{p:Int},oG .i64 p->∀q:Int,some p=some q->oG .i64 q:=fun hp q h=>by simp only [aHe] at h; exact h▸hp
 have hr1:r.l.length<=n+1:=by omega
 have hv1:v.l.length<=n+1:=by omega
 have w:=@wrap_in
 have sn: ∀{l:List D} {t:Int},(∀x∈l,∃n,x= .i n/\oG .i64 n)->oG .i64 t->∀x∈l++ [.i t],∃n,x= .i n/\oG .i64 n:=fun h ht x hx=>by
  rcases aH1.1 hx with hx|hx
  ·exact h x hx
  ·simp only [aHm,aId,or_false] at hx;exact⟨_,hx,ht⟩
 have r5:Wd (.sl 0) (dL (r.l++ [.i th])):=Ua (sn (zJ T.hr) ht) (by simp) (by simp; omega);have l5:(dL (r.l++ [.i th])).l.length<=n+1:=by rw [aA]; simp; omega
 have r20:Wd (.sl 0) (dL (v.l++ [.i arg])):=Ua (sn (zJ T.hv) ha) (by simp) (by simp; omega);have l20:(dL (v.l++ [.i arg])).l.length<=n+1:=by rw [aA]; simp; omega
 have r12:Wd (.sl 0) (dL (wo th r.l++ [.i th])):=Ua (sn (fun x hx=>(zJ T.hr) x (aIo.1 hx).1) ht) (by simp) (by have:=TY th r.l; simp; omega);have l12:(dL (wo th r.l++ [.i th])).l.length<=n+1:=by have:=TY th r.l; rw [aA]; simp; omega
 have r6: ∀k,Wd (.sl 0) (iR (.i 2) (r.l.take k++r.l.drop (k+1))):=fun k=>KP (fun x hx=>by
  rcases aH1.1 hx with hx|hx
  ·exact (zJ T.hr) x (aHS hx)
  ·exact (zJ T.hr) x (aHQ hx)) (by simp only [aHC,aHr,aHI]; omega)
 have l6: ∀k,(iR (.i 2) (r.l.take k++r.l.drop (k+1))).l.length<=n+1:=fun k=>by rw [aH]; simp only [aHC,aHr,aHI]; omega
 have r21:Wd (.sl 0) (iR v (v.l.drop 1)):=KP (fun x hx=>(zJ T.hv) x (aHQ hx)) (by simp; omega);have l21:(iR v (v.l.drop 1)).l.length<=n+1:=by rw [aH]; simp; omega
 have r13:Wd (.sl 0) (iR r (r.l.drop 1)):=KP (fun x hx=>(zJ T.hr) x (aHQ hx)) (by simp; omega);have l13:(iR r (r.l.drop 1)).l.length<=n+1:=by rw [aH]; simp; omega
 have r14:Wd (.sl 0) (.i 1):=.nil 0;have l14:(D.i 1).l.length<=n+1:=by simp [D.l]
 unfold act
 repeat' refine PS.ite ?_ ?_
 all_goals first
  |trivial
  |exact⟨by first |exact T.ho|exact ht|exact hm,by first |exact T.hc|exact w _|exact ha|exact hz,by first |exact T.hd|exact .inr rfl,by first |exact T.hg|exact w _,by first |exact T.hr|exact r5|exact r6 _|exact r12|exact r13|exact r14,by first |exact hr1|exact l5|exact l6 _|exact l12|exact l13|exact l14,by first |exact T.hv|exact r20|exact r21,by first |exact hv1|exact l20|exact l21,by first |exact e1|exact e2 hm|exact e2 ht,by first |exact .inl rfl|exact .inr rfl⟩
theorem aiO (h12:op≠12) (h24:op≠24):NoM (act M mo th op arg tries o c dn g r v):=by
 unfold act;rw [aHc h12,aHc h24]
 repeat' refine NoM.ite ?_ ?_
 all_goals first
  |exact rfl
  |trivial
end
def EqI (a b:D) (i:Nat):Prop:= ∀(k:Nat) (h1:k<a.l.length) (h2:k<b.l.length),i<=k->(a.l[k]).n=(b.l[k]).n
theorem EqI.step {a b:D} {i:Nat} (h1:i<a.l.length) (h2:i<b.l.length) (h:(a.l[i]).n=(b.l[i]).n):EqI a b i↔EqI a b (i+1):=by
 constructor
 ·intro q k x y z;exact q k x y (by omega)
 ·intro q k x y z;by_cases hk:k=i
  ·subst hk;exact h
  ·exact q k x y (by omega)
theorem EqI.end' {a b:D} {i:Nat} (h:a.l.length<=i):EqI a b i:=fun k h1 _ h3=>absurd h1 (by omega)
section
variable {a b:D} (hle:a.l.length=b.l.length) (hlen:a.l.length<=140737488351232)
include hle hlen
theorem SI: ∀(j i:Nat),i+j=a.l.length->∃c:Int,L 251 [enc a,enc b,(i:Int)]=some [c]/\(c=0\/c=1)/\(c=1↔EqI a b i)
 |0,i,hi=>by
  have c1: ¬(i:Int)<(a.l.length:Int):=by omega
  refine⟨1,?_,.inr rfl,fun _=>EqI.end' (by omega),fun _=>rfl⟩;rw [bU,e251];simp only [alE,zz,c1,fin]
 |j+1,i,hi=>by
  have hil:i<a.l.length:=by omega
  have hib:i<b.l.length:=by omega
  have c1:(i:Int)<(a.l.length:Int):=by omega
  have c2: ¬((i:Int)<0):=by omega
  have c3:(i:Int)<(b.l.length:Int):=by omega
  have w:=aX (n:=i) (by omega);obtain⟨c,h1,h2,h3⟩:=SI j (i+1) (by omega);by_cases he:(a.l[i]).n=(b.l[i]).n
  ·refine⟨c,?_,h2,h3.trans (EqI.step hil hib he).symm⟩;rw [bU,e251];simp only [alE,zz,c1,c2,c3,w,bF hil,bF hib,he,fin,h1]
  ·refine⟨0,?_,.inl rfl,fun h=>absurd h (by omega),fun h=>absurd (h i hil hib (aHh i)) he⟩;rw [bU,e251];simp only [alE,zz,c1,c2,c3,w,bF hil,bF hib,he,fin]
end
def agE (a b:D):Prop:=a.l.length=b.l.length/\EqI a b 0
theorem ahP (a b:D) (hlen:a.l.length<=140737488351232): ∃c:Int,L 250 [enc a,enc b]=some [c]/\(c=0\/c=1)/\(c=1↔agE a b):=by
 by_cases hl:a.l.length=b.l.length
 ·obtain⟨c,h1,h2,h3⟩:=SI hl hlen a.l.length 0 (by omega);refine⟨c,?_,h2,h3.trans ⟨fun h=> ⟨hl,h⟩,fun h=>h.2⟩⟩;have hl':(a.l.length:Int)=(b.l.length:Int):=by omega
  rw [bU,e250,auA,fC,aHd,pF]
  ·simp only [List.map,dF,aZ,Nat.reduceLT,aP,aT,fin];exact h1
  ·simp only [jI,jG,aZ,Nat.reduceLT,aP,aT,aC,jJ];exact hl'
 ·refine⟨0,?_,.inl rfl,fun h=>absurd h (by omega),fun h=>absurd h.1 hl⟩;have hl': ¬(a.l.length:Int)=(b.l.length:Int):=by omega
  rw [bU,e250,auA,fC,aHc]
  ·simp only [mZ,List.map,dF,fin]
  ·simp only [jI,jG,aZ,Nat.reduceLT,aP,aT,aC,jJ];exact hl'
theorem QG (x y:D) (hle:x.l.length=y.l.length) (hlen:x.l.length<=140737488351232) (x0 x1 x2:Int) (i:Nat) (hi:i<9223372036854775807) (c:Int) (hc:c=0\/c=1) (h:L 201 [x0,x1,x2,((i+1:Nat):Int)]=some [c]) (x6 x7 x8 x9 x10 x12 x13 x14 x15 x16:Int) :
 ∀(j k:Nat),k+j=x.l.length->∃e:Int,L 202 [x0,x1,x2,(i:Int),(x.l.length:Int),(k:Int),x6,x7,x8,x9,x10,enc x,x12,x13,x14,x15,x16,enc y]=some [e]/\(e=0\/e=1)/\(e=1↔EqI x y k/\c=1)
 |0,k,hk=>by
  have c1: ¬(k:Int)<(x.l.length:Int):=by omega
  have w:=aX (n:=i) (by omega);refine⟨c,?_,hc,fun h=> ⟨EqI.end' (by omega),h⟩,fun h=>h.2⟩;rw [bU,axB];simp only [alF,zz,c1,w,fin,h]
 |j+1,k,hk=>by
  have hil:k<x.l.length:=by omega
  have hib:k<y.l.length:=by omega
  have c1:(k:Int)<(x.l.length:Int):=by omega
  have c2: ¬((k:Int)<0):=by omega
  have c3:(k:Int)<(y.l.length:Int):=by omega
  have w:=aX (n:=k) (by omega);obtain⟨e,h1,h2,h3⟩:=QG x y hle hlen x0 x1 x2 i hi c hc h x6 x7 x8 x9 x10 x12 x13 x14 x15 x16 j (k+1) (by omega);by_cases he:(x.l[k]).n=(y.l[k]).n
  ·refine⟨e,?_,h2,h3.trans ⟨fun q=> ⟨(EqI.step hil hib he).2 q.1,q.2⟩,fun q=> ⟨(EqI.step hil hib he).1 q.1,q.2⟩⟩⟩;rw [bU,axB];simp only [alF,zz,c1,c2,c3,w,bF hil,bF hib,he,fin,h1]
  ·refine⟨0,?_,.inl rfl,fun h=>absurd h (by omega),fun h=>absurd (h.1 k hil hib (aHh k)) he⟩;rw [bU,axB];simp only [alF,zz,c1,c2,c3,w,bF hil,bF hib,he,fin]
theorem ES (ρ) (a b:SB):((SB.and a b).den ρ=true)=(a.den ρ=true/\b.den ρ=true):=by simp [SB.den]
structure aFN (x y:D):Prop where
 o:(x.hd 0).n=(y.hd 0).n
 c:(x.hd 1).n=(y.hd 1).n
 d:(x.hd 2).n=0↔(y.hd 2).n=0
 g:(x.hd 3).n=(y.hd 3).n
 r:agE (x.hd 4) (y.hd 4)
 v:agE (x.hd 5) (y.hd 5)
def Yt (a b:D) (i:Nat):Prop:= ∀(k:Nat) (h1:k<a.l.length) (h2:k<b.l.length),i<=k->aFN a.l[k] b.l[k]
theorem bits {p q:Int}:((¬(¬p=0/\¬q=0))/\¬(¬¬p=0/\¬¬q=0))↔¬(p=0↔q=0):=by omega
def adL (s:D):Prop:= ∀x∈s.l,(x.hd 4).l.length<=140737488351232/\(x.hd 5).l.length<=140737488351232
section
variable {a b:D} (hle:a.l.length=b.l.length) (hlen:a.l.length<=140737488351232) (hr:adL a)
include hle hlen hr
theorem Ri: ∀(j i:Nat),i+j=a.l.length->∃c:Int,L 201 [enc a,enc b,(a.l.length:Int),(i:Int)]=some [c]/\(c=0\/c=1)/\(c=1↔Yt a b i)
 |0,i,hi=>by
  have c1: ¬(i:Int)<(a.l.length:Int):=by omega
  refine⟨1,?_,.inr rfl,fun _ k h1 _ h3=>absurd h1 (by omega),fun _=>rfl⟩;rw [bU,VG];simp only [t201,zz,c1,fin]
 |j+1,i,hi=>by
  have hil:i<a.l.length:=by omega
  have hib:i<b.l.length:=by omega
  have c1:(i:Int)<(a.l.length:Int):=by omega
  have c2: ¬((i:Int)<0):=by omega
  have c3:(i:Int)<(b.l.length:Int):=by omega
  obtain⟨c,h1,h2,h3⟩:=Ri j (i+1) (by omega);have hb:=hr _ (aHk hil);by_cases b0:((a.l[i]).hd 0).n=((b.l[i]).hd 0).n
  case neg=>
   refine⟨0,?_,.inl rfl,fun h=>absurd h (by omega),fun h=>absurd (h i hil hib (aHh i)).o b0⟩;rw [bU,VG];simp only [t201,zz,c1,c2,c3,bF hil,bF hib,b0,fin]
  by_cases b1:((a.l[i]).hd 1).n=((b.l[i]).hd 1).n
  case neg=>
   refine⟨0,?_,.inl rfl,fun h=>absurd h (by omega),fun h=>absurd (h i hil hib (aHh i)).c b1⟩;rw [bU,VG];simp only [t201,zz,c1,c2,c3,bF hil,bF hib,b0,b1,fin]
  by_cases b2:(((a.l[i]).hd 2).n=0↔((b.l[i]).hd 2).n=0)
  case neg=>
   refine⟨0,?_,.inl rfl,fun h=>absurd h (by omega),fun h=>absurd (h i hil hib (aHh i)).d b2⟩;rw [bU,VG];have b2':=bits.2 b2;simp only [t201,zz,ES,IJ,c1,c2,c3,bF hil,bF hib,b0,b1,aHd b2',fin]
  have b2': ¬_:=fun h=>bits.1 h b2;by_cases b3:((a.l[i]).hd 3).n=((b.l[i]).hd 3).n
  case neg=>
   refine⟨0,?_,.inl rfl,fun h=>absurd h (by omega),fun h=>absurd (h i hil hib (aHh i)).g b3⟩;rw [bU,VG];simp only [t201,zz,ES,IJ,c1,c2,c3,bF hil,bF hib,b0,b1,aHc b2',b3,fin]
  obtain⟨e,g1,g2,g3⟩:=ahP ((a.l[i]).hd 4) ((b.l[i]).hd 4) hb.1;by_cases b4:e=0
  ·subst b4;refine⟨0,?_,.inl rfl,fun h=>absurd h (by omega),fun h=>absurd (g3.2 (h i hil hib (aHh i)).r) (by omega)⟩;rw [bU,VG];simp only [t201,zz,ES,IJ,c1,c2,c3,bF hil,bF hib,b0,b1,aHc b2',b3,g1,fin]
  have he:e=1:=by omega
  subst he;by_cases b5:((a.l[i]).hd 5).l.length=((b.l[i]).hd 5).l.length
  case neg=>
   have b5': ¬(((a.l[i]).hd 5).l.length:Int)=(((b.l[i]).hd 5).l.length:Int):=by omega
   refine⟨0,?_,.inl rfl,fun h=>absurd h (by omega),fun h=>absurd (h i hil hib (aHh i)).v.1 b5⟩;rw [bU,VG];simp only [t201,zz,ES,IJ,c1,c2,c3,bF hil,bF hib,b0,b1,aHc b2',b3,g1,aW,b5',fin]
  have b5':(((a.l[i]).hd 5).l.length:Int)=(((b.l[i]).hd 5).l.length:Int):=by omega
  obtain⟨f,f1,f2,f3⟩:=QG ((a.l[i]).hd 5) ((b.l[i]).hd 5) b5 hb.2 (enc a) (enc b) (a.l.length:Int) i (by omega) c h2 h1 ((b.l[i]).hd 0).n ((b.l[i]).hd 1).n ((a.l[i]).hd 2).n ((b.l[i]).hd 3).n (enc ((a.l[i]).hd 4)) ((b.l[i]).hd 0).n ((b.l[i]).hd 1).n ((b.l[i]).hd 2).n ((b.l[i]).hd 3).n (enc ((b.l[i]).hd 4)) ((a.l[i]).hd 5).l.length 0 (by omega);refine⟨f,?_,f2,fun h k k1 k2 k3=>?_,fun h=>f3.2 ⟨(h i hil hib (aHh i)).v.2,h3.2 fun k k1 k2 k3=>h k k1 k2 (by omega)⟩⟩
  ·rw [bU,VG];rw [b5'] at f1;simp only [t201,zz,ES,IJ,c1,c2,c3,bF hil,bF hib,b0,b1,aHc b2',b3,g1,aW,b5',fin];exact f1
  ·by_cases hk:k=i
   ·subst hk;exact⟨b0,b1,b2,b3,g3.1 rfl,b5,(f3.1 h).1⟩
   ·exact h3.1 (f3.1 h).2 k k1 k2 (by omega)
end
theorem agP (a b:D) (hlen:a.l.length<=140737488351232) (hr:adL a): ∃c:Int,L 200 [enc a,enc b]=some [c]/\(c=0\/c=1)/\(c=1↔a.l.length=b.l.length/\Yt a b 0):=by
 by_cases hl:a.l.length=b.l.length
 ·obtain⟨c,h1,h2,h3⟩:=Ri hl hlen hr a.l.length 0 (by omega);refine⟨c,?_,h2,h3.trans ⟨fun h=> ⟨hl,h⟩,fun h=>h.2⟩⟩;have hl':(a.l.length:Int)=(b.l.length:Int):=by omega
  rw [bU,aDg,auB,fC,aHd,pF]
  ·simp only [List.map,dF,jG,jJ,aZ,Nat.reduceLT,aP,aT,aC,fin];exact h1
  ·simp only [jI,jG,aZ,Nat.reduceLT,aP,aT,aC,jJ];exact hl'
 ·refine⟨0,?_,.inl rfl,fun h=>absurd h (by omega),fun h=>absurd h.1 hl⟩;have hl': ¬(a.l.length:Int)=(b.l.length:Int):=by omega
  rw [bU,aDg,auB,fC,aHc]
  ·simp only [mZ,List.map,dF,fin]
  ·simp only [jI,jG,aZ,Nat.reduceLT,aP,aT,aC,jJ];exact hl'
theorem aiM {d0:D} (hl:d0.l.length<=64) (hn:0<d0.l.length):L 301 [enc d0,(d0.l.length:Int)]=some [enc (dL (d0.l.map iC))]:=by
 have e0:=Pz d0 hl (d0.l.length-1) 1 [iC (d0.l[0]'hn)] (by omega) rfl
 have e1:[iC (d0.l[0]'hn)]++(d0.l.drop 1).map iC=d0.l.map iC:=by
  conv=>rhs; rw [<- aH4 (l:=d0.l),aHt hn]
  rfl
 rw [e1] at e0;have a0:d0.at 0=d0.l[0]'hn:=bF (i:=0) hn;have c1:(0:Int)<(d0.l.length:Int):=by omega
 have key: ∀q:Int,q=(if (((d0.l[0]'hn)).hd 0).n=3\/((d0.l[0]'hn).hd 0).n=9 then ((d0.l[0]'hn).hd 2).n else 0)->enc (dL [iC (d0.l[0]'hn)])=enc (.p (.p (.i (-1)) (.p (.i q) (.p (.i 0) (.p (.i 0) (.p (.i 1) (.p (.i 1) (.i 0))))))) (.i 0)):=fun q hq=>by rw [hq]; rfl
 have k:fD (bZ L (low [enc d0,(d0.l.length:Int)])) YZ= .jump 302 [enc (dL [iC (d0.l[0]'hn)]),enc d0,(d0.l.length:Int),1]:=by
  by_cases h3:((d0.l[0]'hn).hd 0).n=3
  ·rw [key _ (by rw [aHd (.inl h3)])];simp only [YZ,zz,c1,a0,zF,aHx,h3,dL]
  ·by_cases h9:((d0.l[0]'hn).hd 0).n=9
   ·rw [key _ (by rw [aHd (.inr h9)])];simp only [YZ,zz,c1,a0,zF,aHx,aHc h3,aHd h9,dL]
   ·rw [key 0 (by rw [aHc (by omega)])];simp only [YZ,zz,c1,a0,zF,aHx,aHc h3,aHc h9,dL]
 rw [bU,e301];exact (congrArg (fin L) k).trans e0
theorem asT {d0 d1:D} (hc:L 450 [enc d0,enc d1]=some [0]) (hl:d0.l.length<=64) (hn:0<d0.l.length):L 300 [enc d0,enc d1]=some [enc (dL (d0.l.map iC))]:=by
 have k:fD (bZ L (low [enc d0,enc d1])) alD= .jump 301 [enc d0,(d0.l.length:Int)]:=by refine eG [.eq (a0 450 [.aO 0,.aO 1]) (.lit 1),.eq (rr 450 [.aO 0,.aO 1] 0) (.lit 0)] [] (ju 301 [.aO 0,ln (.aO 0)]) (by simp only [zz,hc]) (by kernel_rfl) ?_;simp only [pF,List.map,aZ,jG,Nat.reduceLT,aP,aT,aC]
 rw [bU,e300];exact (congrArg (fin L) k).trans (aiM hl hn)
theorem Yl {d0 d1:D} {c:Int} (hc:L 450 [enc d0,enc d1]=some [c]) (h:c≠0\/d0.l.length=0):L 300 [enc d0,enc d1]=some [enc (.i 1)]:=by
 by_cases h0:c=0
 ·subst h0;have hz:d0.l.length=0:=h.resolve_left (fun h=>h rfl)
  have k:fD (bZ L (low [enc d0,enc d1])) alD= .jump 301 [enc d0,0]:=by refine eG [.eq (a0 450 [.aO 0,.aO 1]) (.lit 1),.eq (rr 450 [.aO 0,.aO 1] 0) (.lit 0)] [] (ju 301 [.aO 0,ln (.aO 0)]) (by simp only [zz,hc]) (by kernel_rfl) ?_;simp only [pF,List.map,aZ,jG,Nat.reduceLT,aP,aT,aC,hz];rfl
  have k1:fD (bZ L (low [enc d0,0])) YZ= .out [enc (.i 1)]:=by refine eG [] [.lt (.lit 0) (.aO 1)] (ou [.dat (.i 1)]) (by simp only [zz]<;>omega) (by kernel_rfl) rfl
  rw [bU,e300];refine (congrArg (fin L) k).trans ?_;show L 301 [enc d0,0]=_;rw [bU,e301];exact congrArg (fin L) k1
 ·have k:fD (bZ L (low [enc d0,enc d1])) alD= .out [enc (.i 1)]:=by
   refine eG [.eq (a0 450 [.aO 0,.aO 1]) (.lit 1)] [.eq (rr 450 [.aO 0,.aO 1] 0) (.lit 0)] (ou [.dat (.i 1)]) (by simp only [zz,hc]<;>omega) (by kernel_rfl) rfl
  rw [bU,e300];exact congrArg (fin L) k
structure Gs (s:D) (n:Nat):Prop where
 wd:Wd (.sl 7) s
 rows: ∀x∈s.l,(x.hd 4).l.length<=n/\(x.hd 5).l.length<=n
theorem Gs.few {s:D} {n:Nat} (h:Gs s n) (hn:n<17592186044415):few s:=fun x hx=>by have:=h.rows x hx; omega
theorem Gs.mono {s:D} {n m:Nat} (h:Gs s n) (hm:n<=m):Gs s m:=⟨h.wd,fun x hx=>by have:=h.rows x hx; omega⟩
theorem Ir {l:List D} (h: ∀x∈l,oM x) (hn:l≠[]) (hl:l.length<=1759218604390):Wd (.sl 7) (dL l):=by
 have e:(l.map fun x=>x.l).map dL=l:=by
  rw [aIy]
  conv=>rhs; rw [<- aI7 l]
  apply aI6;intro x hx;obtain⟨o,c,d,g,r,v,rfl,_⟩:=h x hx;rfl
 rw [<- e];refine .many 7 [.int .i64,.int .i64,.bool,.int .i64,.sl 0,.sl 0] _ rfl (by simpa using hn) (by have:CZ 7=80:=rfl; rw [this,aH0]; omega) (fun r hr=>?_) fun r hr j d c h1 h2=>?_
 ·obtain⟨x,hx,rfl⟩:=aHF.1 hr;obtain⟨o,c,d,g,r,v,rfl,_⟩:=h x hx;rfl
 ·obtain⟨x,hx,rfl⟩:=aHF.1 hr;obtain⟨o,c',d',g,r,v,rfl,ho,hc,hd,hg,hr,hv⟩:=h x hx;rw [aA] at h1
  match j with
  |0=>simp at h1 h2; subst h1 h2; exact .int _ _ ho
  |1=>simp at h1 h2; subst h1 h2; exact .int _ _ hc
  |2=>
   simp at h1 h2; subst h1 h2;rcases hd with rfl|rfl
   ·exact .bool false
   ·exact .bool true
  |3=>simp at h1 h2; subst h1 h2; exact .int _ _ hg
  |4=>simp at h1 h2; subst h1 h2; exact hr
  |5=>simp at h1 h2; subst h1 h2; exact hv
  |j+6=>simp at h1
theorem Tg.thing {x:D} {o c dn g:Int} {r v:D} (T:Tg x o c dn g r v):oM x:=⟨o,c,dn,g,r,v,T.is,T.ho,T.hc,T.hd,T.hg,T.hr,T.hv⟩
theorem Xq {l:List D} {z:Int} {y x:D} (h:x∈dV l z y):x∈l\/x=y:=by
 unfold dV at h;split at h
 ·exact .inl h
 ·exact aJV h
theorem qO {l:List D} {z:Int} {y:D} {k:Nat} (h:(k:Int)≠z):(dV l z y)[k]?=l[k]?:=by
 unfold dV;split
 ·rfl
 ·rw [aJf,aHc (by omega)]
theorem yV {l:List D} {k:Nat} {y:D} (h:k<l.length):(dV l (k:Int) y)[k]?=some y:=by rw [vY,aJf,aHd rfl,aHd h]
theorem ZY {s:D} {n:Nat} (G:Gs s n) {z:Int} {y:D} (hy:oM y) (h4:(y.hd 4).l.length<=n) (h5:(y.hd 5).l.length<=n) (hn:0<s.l.length):Gs (dL (dV s.l z y)) n:=by
 have ht:=WI G.wd hn;refine⟨Ir (fun x hx=>?_) (fun he=>?_) (by rw [gK]; exact ht.few),fun x hx=>?_⟩
 ·rcases Xq hx with h|rfl
  ·exact G.wd.thing x h
  ·exact hy
 ·have:=gK s.l z y;rw [he] at this;simp at this;omega
 ·rw [aA] at hx;rcases Xq hx with h|rfl
  ·exact G.rows x h
  ·exact⟨h4,h5⟩
theorem amH (s:D) (obj M:Int) (A:Act):(PX s obj M A).l.length=s.l.length:=by
 cases A with
 |blk=>rfl
 |mis=>rfl
 |res o c dn g r v m a oc=>
  unfold PX;rw [aA,gK]
  cases m with
  |none=>rfl
  |some q=>exact gK _ _ _
theorem auU {s:D} {n:Nat} (G:Gs s n) {obj M:Int} {A:Act} (hA:PS (n+1) A) (ho0:0<=obj) (ho1:obj<(s.l.length:Int)) (hM:NoM A\/0<=M/\M<(s.l.length:Int)):Gs (PX s obj M A) (n+1):=by
 have G1:=G.mono (Nat.le_succ n)
 cases A with
 |blk=>exact G1
 |mis=>exact G1
 |res o c dn g r v m a oc=>
  obtain⟨h1,h2,h3,h4,h5,h6,h7,h8,h9,_⟩:=hA
  have hd:(if dn=0 then (0:Int) else 1)=dn:=by rcases h3 with rfl|rfl<;>rfl
  have hy:oM (dL [.i o,.i c,.i (if dn=0 then 0 else 1),.i g,r,v]):=⟨o,c,_,g,r,v,rfl,h1,h2,by rw [hd]; exact h3,h4,h5,h7⟩
  cases m with
  |none=>exact ZY G1 hy h6 h8 (by omega)
  |some q=>
   have hM:0<=M/\M<(s.l.length:Int):=hM.resolve_left (fun h=>by simp [NoM] at h);obtain⟨k,rfl⟩ : ∃k:Nat,M=(k:Int):=⟨M.toNat,by omega⟩;have hk:k<s.l.length:=by omega
   obtain⟨o',c',d',g',r',v',he,q1,q2,q3,q4,q5,q6⟩:=G.wd.thing _ (aHk hk);have hrw:=G1.rows _ (aHk hk);rw [he] at hrw;have hz:dL (dV (s.at (k:Int)).l 0 (.i q))=dL [.i q,.i c',.i d',.i g',r',v']:=by rw [bF hk,he]; rfl
   have G2:Gs (dL (dV s.l (k:Int) (dL (dV (s.at (k:Int)).l 0 (.i q))))) (n+1):=by rw [hz];exact ZY G1 ⟨q,c',d',g',r',v',rfl,h9 q rfl,q2,q3,q4,q5,q6⟩ hrw.1 hrw.2 (by omega)
   have:=ZY (z:=obj) G2 hy h6 h8 (by rw [aA,gK]; omega);rw [aA] at this;exact this
def evA (th op obj:Int):Act->List Int
 | .blk=>[0,0,0,0,0,0]
 | .mis=>[th,27,obj,IntKind.i64.wrap op,0,2]
 | .res _ _ _ _ _ _ _ a oc=>[th,op,obj,a,0,oc]
theorem Lc (s:D) (th op obj M:Int) (A:Act):outA s th op obj M A=enc (PX s obj M A)::evA th op obj A:=by cases A<;>rfl
def isB (p:Prop) (ys:List Int):Prop:= ∃b:Int,ys= [b]/\(b=0/\¬p\/b=1/\p)
theorem ayP {p:Prop} (h: ¬p):isB p [0]:=⟨0,rfl,.inl ⟨rfl,h⟩⟩
theorem aEF {p:Prop} (h:p):isB p [1]:=⟨1,rfl,.inr ⟨rfl,h⟩⟩
theorem Sr: ∀(l:List D) (k v k':D),rV (Fa l k v) k'=if k=k' then some v else rV l k'
 |[],k,v,k'=>by
  simp only [Fa,rV];by_cases h:k=k'
  ·rw [aHd h]; exact aHd h
  ·rw [aHc h]; exact aHc h
 |d::l,k,v,k'=>by
  simp only [Fa];by_cases h:X9 d=k
  ·rw [aHd h];simp only [rV];by_cases h2:k=k'
   ·rw [aHd h2]; exact aHd h2
   ·rw [aHc h2,aHc (fun h3=>h2 (h.symm.trans h3))]; exact aHc h2
  ·rw [aHc h];simp only [rV,Sr l k v k'];by_cases h2:X9 d=k'
   ·rw [aHd h2,aHc (fun h3=>h (h2.trans h3.symm)),aHd h2]
   ·rw [aHc h2,aHc h2]
def rJ (m:Int) (l:List D):Prop:=(∀x∈l,0<=x.n/\x.n<m)/\(l.map D.n).Nodup
def YF (N o dn:Int) (rl vl:Nat):Prop:=(N<0->(vl:Int)=0)/\(0<=N->(vl:Int)<=N)/\(o<0\/(rl:Int)=0/\dn=0)
def abO (s:D) (l:List D):Prop:= ∀n:Int,(rV s.l (.i n)=none/\n∉l.map D.n)\/(rV s.l (.i n)=some (.i 1)/\n∈l.map D.n)
theorem alW {s x:D} {l:List D} (h:abO s l):abO (dL (Fa s.l (.i x.n) (.i 1))) (l++ [x]):=fun n=>by
 rw [aA,Sr,aIw];by_cases hn:x.n=n
 ·rw [aHd (by rw [hn])];exact .inr ⟨rfl,aI4 _ (by simp [hn])⟩
 ·rw [aHc (fun h=>hn (by simpa using h))];rcases h n with ⟨h1,h2⟩|⟨h1,h2⟩
  ·refine .inl ⟨h1,fun h3=>?_⟩;rcases aH1.1 h3 with h3|h3
   ·exact h2 h3
   ·simp only [List.map,aHm,aId,or_false] at h3;exact hn h3.symm
  ·exact .inr ⟨h1,aJr _ h2⟩
theorem Lj {P Q:Prop} {ys:List Int} (h:P) (hQ:isB Q ys):isB (P/\Q) ys:=by
 obtain⟨b,rfl,h1|h1⟩:=hQ
 ·exact⟨b,rfl,.inl ⟨h1.1,fun q=>h1.2 q.2⟩⟩
 ·exact⟨b,rfl,.inr ⟨h1.1,h,h1.2⟩⟩
theorem Aa {P Q:Prop} (h: ¬P):isB (P/\Q) [0]:=ayP fun q=>h q.1
theorem WY (m:Int) (r:D) (hl:r.l.length<=140737488351232) (k nm' N x7 x8 o c dn g:Int) (v:D): ∀(j i:Nat) (seen:D),i+j=r.l.length->abO seen (r.l.take i)->rJ m (r.l.take i)->
 Tot 501 [m,enc r,(r.l.length:Int),(i:Int),k,nm',N,x7,x8,o,c,dn,g,enc v,enc seen] (isB (rJ m r.l/\YF N o dn r.l.length v.l.length))
 |0,i,seen,hi,_,hR=>by
  have c1: ¬(i:Int)<(r.l.length:Int):=by omega
  rw [aIb (by omega)] at hR;refine Tot.of ?_;unfold YF;rw [apX];simp only [YW,zz,c1]
  repeat' first
   |exact .out (Lj hR (ayP (by omega)))
   |exact .out (Lj hR (aEF (by omega)))
   |refine .ite (fun _=>?_) (fun _=>?_)
 |j+1,i,seen,hi,hS,hR=>by
  have hil:i<r.l.length:=by omega
  have c1:(i:Int)<(r.l.length:Int):=by omega
  have c2: ¬((i:Int)<0):=by omega
  have w:=aX (n:=i) (by omega);have ht:r.l.take (i+1)=r.l.take i++ [r.l[i]]:=by rw [List.take_add_one,aHu hil]; rfl
  have hmem:r.l[i]∈r.l:=aHk hil;have ih:=fun h=>WY m r hl k nm' N x7 x8 o c dn g v j (i+1) (dL (Fa seen.l (.i (r.l[i]).n) (.i 1))) (by omega) (by rw [ht]; exact alW hS) h;refine Tot.of ?_;rw [apX];rcases hS (r.l[i]).n with ⟨h1,h2⟩|⟨h1,h2⟩
  ·simp only [YW,zz,c1,c2,w,bF hil,h1,Option.isSome_none,aHv];refine .ite (fun q=> .out (Aa fun R=>?_)) (fun q=> .ite (fun q2=>?_) (fun q2=> .out (Aa fun R=>?_)))
   ·have:=R.1 _ hmem;omega
   ·refine .jump (ih ?_);rw [ht];refine⟨fun x hx=>?_,?_⟩
    ·rcases aH1.1 hx with hx|hx
     ·exact hR.1 x hx
     ·simp only [aHm,aId,or_false] at hx;subst hx;exact⟨by omega,q2⟩
    ·rw [aIw,aJs];refine⟨hR.2,by simp,fun a ha b hb=>?_⟩;simp only [List.map,aHm,aId,or_false] at hb;subst hb;intro he;subst he;exact h2 ha
   ·have:=R.1 _ hmem;omega
  ·simp only [YW,zz,c1,c2,w,bF hil,h1,aW]
   have nd: ¬rJ m r.l:=fun R=>by
    have hn:=R.2;have e:r.l=r.l.take i++r.l[i]::r.l.drop (i+1):=by rw [<- aHt hil,aIs]
    rw [e,aIw,aJs] at hn;exact hn.2.2 _ h2 _ (by rw [aHo]; exact aHX) rfl
   refine .ite (fun q=> .out (Aa nd)) (fun q=> .ite (fun q2=> .out (Aa nd)) (fun q2=> .out (Aa nd)))
theorem agS (m:Int) (r:D) (hl:r.l.length<=140737488351232) (k nm' N x7 x8 o c dn g:Int) (v:D) :
 Tot 501 [m,enc r,(r.l.length:Int),0,k,nm',N,x7,x8,o,c,dn,g,enc v,enc (.i 0)] (isB (rJ m r.l/\YF N o dn r.l.length v.l.length)):=
 WY m r hl k nm' N x7 x8 o c dn g v r.l.length 0 (.i 0) (by omega) (fun n=> .inl ⟨rfl,by simp⟩) ⟨by simp,by simp⟩
def Dp (k N c:Int):Prop:=k=9\/(k=3/\0<=c/\c<=N)\/(k=5/\0<=c/\c<=IntKind.i64.wrap (N-1))\/(k=7/\0<=c/\c<=1099511627776)\/(k≠3/\k≠5/\k≠7/\k≠9/\c=0)
theorem avG (k x1 N x3 x4 c:Int): ∃a b:Int,L 650 [k,x1,N,x3,x4]=some [a,b]/\(b=0/\Dp k N c\/b=1/\(Dp k N c↔0<=c/\c<=a)):=by
 have:Tot 650 [k,x1,N,x3,x4] (fun ys=> ∃a b:Int,ys= [a,b]/\(b=0/\Dp k N c\/b=1/\(Dp k N c↔0<=c/\c<=a))):=by
  unfold Dp;refine Tot.of ?_;rw [aC6];simp only [atQ,zz]
  repeat' first
   |exact .out ⟨_,_,rfl,by omega⟩
   |refine .ite (fun _=>?_) (fun _=>?_)
 obtain⟨ys,h,a,b,rfl,h2⟩:=this;exact⟨a,b,h,h2⟩
def atA (k N m o c dn g:Int) (rl vl:Nat):Prop:=
 Dp k N c/\-1<=o/\o<m/\0<=g/\g<=4611686018427387904/\(0<=o->k=1\/k=2\/k=6)/\(0<(rl:Int)->k=4\/k=2)/\(0<(vl:Int)->k=8)/\(dn≠0->k=6)/\(0<g->k=5)
def Wj (k N m o c dn g:Int) (r v:D):Prop:=atA k N m o c dn g r.l.length v.l.length/\rJ m r.l/\YF N o dn r.l.length v.l.length
set_option maxHeartbeats 4000000 in
theorem alR (k x1 N x3 x4 m o c dn g:Int) (r v:D) (hl:r.l.length<=140737488351232):Tot 500 [k,x1,N,x3,x4,o,c,dn,g,enc r,enc v,m] (isB (Wj k N m o c dn g r v)):=by
 unfold Wj atA;obtain⟨a,b,hM,hb⟩:=avG k x1 N x3 x4 c;have ih:=agS m r hl k x1 N x3 x4 o c dn g v;refine Tot.of ?_;rw [aC8];generalize Dp k N c=H at *;by_cases b0:b=0
 ·subst b0
  have hH:H:=by
   rcases hb with h|h
   ·exact h.2
   ·omega
  simp only [akK,zz,hM]
  repeat' first
   |exact .out (Aa (by omega))
   |exact .jump (let ⟨ys,hL,hB⟩:=ih; ⟨ys,hL,Lj ⟨hH,by omega,by omega,by omega,by omega,by omega,by omega,by omega,by omega,by omega⟩ hB⟩)
   |refine .ite (fun _=>?_) (fun _=>?_)
 ·have hH:H↔0<=c/\c<=a:=by
   rcases hb with h|h
   ·omega
   ·exact h.2
  simp only [akK,zz,hM,aHc b0]
  repeat' first
   |exact .out (Aa fun h=>by first |omega|(have:=hH.1 h.1; omega))
   |exact .jump (let ⟨ys,hL,hB⟩:=ih; ⟨ys,hL,Lj ⟨hH.2 ⟨by omega,by omega⟩,by omega,by omega,by omega,by omega,by omega,by omega,by omega,by omega,by omega⟩ hB⟩)
   |refine .ite (fun _=>?_) (fun _=>?_)
theorem avK {P:Prop} {j:Nat} {xs:List Int} (h:Tot j xs (isB P)):L j xs=some [1]↔P:=by
 obtain⟨ys,hL,b,rfl,hb⟩:=h;rw [hL];simp only [aHe,List.cons.injEq,and_true];rcases hb with ⟨h1,h2⟩|⟨h1,h2⟩
 ·exact⟨fun h=>by omega,fun h=>absurd h h2⟩
 ·exact⟨fun _=>h2,fun _=>h1⟩
theorem Zl {d x:D} {m:Nat} {o c dn g:Int} {r v:D} (T:Tg x o c dn g r v) (hl:r.l.length<=140737488351232):Snd d x m↔Wj (d.hd 0).n (d.hd 2).n (m:Int) o c dn g r v:=by
 have h:=avK (alR (d.hd 0).n (enc (d.hd 1)) (d.hd 2).n (enc (d.hd 3)) (d.hd 4).n (m:Int) o c dn g r v hl)
 have e:(if dn=0 then (0:Int) else 1)=dn:=by rcases T.hd with rfl|rfl<;>rfl
 unfold Snd auF;rw [T.is];simp only [zg,aHl,ZJ,e];exact h
def aiR:Act->Prop
 | .res _ _ _ _ _ _ _ a _=>oG .i64 a
 |_=>True
theorem aiR.ite {p:Prop} [Decidable p] {a b:Act} (ha:aiR a) (hb:aiR b):aiR (if p then a else b):=by
 split
 ·exact ha
 ·exact hb
theorem aDG {r:D} (h:Wd (.sl 0) r) (i:Nat):oG .i64 (r.at (i:Int)).n:=by
 by_cases hi:i<r.l.length
 ·rw [bF hi];obtain⟨n,hn,hk⟩:=(h.el1 rfl _ (aHk hi)).i;rw [hn];exact hk
 ·rw [gU,aH2 (by omega)];constructor<;>(simp only [Option.getD_none,ZJ]; omega)
theorem aFM {y:D} {M mo th op arg tries o c dn g:Int} {r v:D} (T:Tg y o c dn g r v) (hr:r.l.length<=140737488351232) (ha:oG .i64 arg):aiR (act M mo th op arg tries o c dn g r v):=by
 have hz:oG .i64 0:=⟨by omega,by omega⟩;have h1:oG .i64 1:=⟨by omega,by omega⟩;have w:=@wrap_in;have hv:=aDG T.hv 0;have hl:oG .i64 (r.l.length:Int):=⟨by omega,by omega⟩;unfold act
 repeat' refine aiR.ite ?_ ?_
 all_goals first
  |trivial
  |exact hz
  |exact h1
  |exact w _
  |exact T.hc
  |exact ha
  |exact T.hg
  |exact hv
  |exact hl
structure Tried (d0 d1 s:D) (t op obj arg tries:Int) (n:Nat) (s':D) (e1 e2 e3 e4 e5 oc:Int):Prop where
 eq:L 400 [enc d0,enc d1,enc s,t,op,obj,arg,tries]=some [enc s',e1,e2,e3,e4,e5,oc]
 no:oc=0->s'=s/\e1=0/\e2=0/\e3=0/\e4=0/\e5=0
 oc3:oc=0\/oc=2\/oc=3
 gs:Gs s' (n+1)
 len:s'.l.length=s.l.length
 n2:s≠.i 2->s'≠.i 2
 e3:oG .i64 e3
 e4:oG .i64 e4
theorem try_any {d0 d1 s:D} {t op obj arg tries:Int} {n:Nat} (h0:Wd (.sl 3) d0) (h1:Wd (.sl 4) d1) (G:Gs s n) (hn:n<17592186043904) (ht:oG .i64 t) (hop:oG .u8 op) (hob:oG .i64 obj) (ha:oG .i64 arg) :
 ∃s' e1 e2 e3 e4 e5 oc,Tried d0 d1 s t op obj arg tries n s' e1 e2 e3 e4 e5 oc:=by
 have hf:=G.few (by omega:n<17592186044415);have z:oG .i64 0:=⟨by omega,by omega⟩;by_cases A:Acc d0 d1 s t op obj
 ·obtain⟨_,o,c,dn,g,r,v,T,hL⟩:=KQ (arg:=arg) (tries:=tries) h0 h1 G.wd hf hop A;rw [Lc] at hL;have o0:=A.o0;have o1:=A.o1;obtain⟨i,rfl⟩ : ∃i:Nat,obj=(i:Int):=⟨obj.toNat,by omega⟩;have hi:i<s.l.length:=by omega
  have hrow:=G.rows _ (aHk hi);have e:s.l[i]=dL [.i o,.i c,.i dn,.i g,r,v]:=by rw [<- bF hi]; exact T.is
  rw [e] at hrow;have hA:=aDo (M:=Mx d0 (i:Int)) (mo:=Mo d0 s (i:Int)) (op:=op) (tries:=tries) T (n:=n) hrow.1 hrow.2 (by omega) ht ha;have hE:=aFM (M:=Mx d0 (i:Int)) (mo:=Mo d0 s (i:Int)) (th:=t) (op:=op) (tries:=tries) T (by have:=hrow.1; have:r.l.length<=n:=this; omega) ha
  have hM:NoM (act (Mx d0 (i:Int)) (Mo d0 s (i:Int)) t op arg tries o c dn g r v)\/0<=Mx d0 (i:Int)/\Mx d0 (i:Int)<(s.l.length:Int):=by
   by_cases h:op=12\/op=24
   ·have:=PG h0 h1 G.wd hf hop A h;exact .inr ⟨this.1,this.2.1⟩
   ·exact .inl (aiO (by omega) (by omega))
  have hg:=auU G hA o0 o1 hM;have hl:=amH s (i:Int) (Mx d0 (i:Int)) (act (Mx d0 (i:Int)) (Mo d0 s (i:Int)) t op arg tries o c dn g r v);generalize act (Mx d0 (i:Int)) (Mo d0 s (i:Int)) t op arg tries o c dn g r v=B at *
  have hn2:s≠.i 2->PX s (i:Int) (Mx d0 (i:Int)) B≠.i 2:=fun _ he=>by rw [he] at hl;have:(D.i 2).l.length=0:=rfl;omega
  cases B with
  |blk=>exact⟨s,0,0,0,0,0,0,hL,fun _=> ⟨rfl,rfl,rfl,rfl,rfl,rfl⟩,.inl rfl,hg,rfl,fun h=>h,z,z⟩
  |mis=>exact⟨s,t,27,_,_,0,2,hL,fun h=>absurd h (by omega),.inr (.inl rfl),hg,rfl,fun h=>h,hob,wrap_in _⟩
  |res o' c' Tz g' r' v' m a oc=>exact⟨_,t,op,_,a,0,oc,hL,fun h=>by have:=hA.2.2.2.2.2.2.2.2.2; omega,.inr hA.2.2.2.2.2.2.2.2.2,hg,hl,hn2,hob,hE⟩
 ·exact⟨s,0,0,0,0,0,0,BA h0 h1 G.wd hf hop A,fun _=> ⟨rfl,rfl,rfl,rfl,rfl,rfl⟩,.inl rfl,G.mono (Nat.le_succ n),rfl,fun h=>h,z,z⟩
section
variable {d0 d1 s:D} {n:Nat} (h0:Wd (.sl 3) d0) (h1:Wd (.sl 4) d1) (G:Gs s n) (hn:n<17592186044000)
include h0 h1 G hn
theorem DI (R:L 350 [enc d0,enc d1,enc s]=some [1]):L 450 [enc d0,enc d1]=some [0]/\ZC d0 d1/\s.l.length=d0.l.length:=by obtain⟨b,hb,_,hi⟩:=rZ h0 h1 (G.few (by omega)).rows;rw [R] at hb;simp only [aHe,List.cons.injEq,and_true] at hb;obtain⟨hC,hle,_⟩:=hi.1 hb.symm;exact⟨hC,MX h0 h1 (G.few (by omega)) R⟩
theorem MR (R:L 350 [enc d0,enc d1,enc s]=some [1]) {i:Int} (i0:0<=i) (i1:i<(s.l.length:Int)) {o c dn g:Int} {r v:D} (T:Tg (s.at i) o c dn g r v):Wj ((d0.at i).hd 0).n ((d0.at i).hd 2).n (d1.l.length:Int) o c dn g r v:=by
 obtain⟨b,hb,_,hi⟩:=rZ h0 h1 (G.few (by omega)).rows;rw [R] at hb;simp only [aHe,List.cons.injEq,and_true] at hb;obtain⟨_,hle,hs⟩:=hi.1 hb.symm;obtain⟨k,rfl⟩ : ∃k:Nat,i=(k:Int):=⟨i.toNat,by omega⟩;have hk:k<s.l.length:=by omega
 have h:=hs k hk;rw [bF hk] at T;have hrow:=G.rows _ (aHk hk);rw [T.is] at hrow;have hl:r.l.length<=140737488351232:=by have:=hrow.1; have:r.l.length<=n:=this; omega
 rw [Zl T hl] at h;rw [bF (by omega:k<d0.l.length)];exact h
theorem ayI (hC:L 450 [enc d0,enc d1]=some [0]) (hle:s.l.length=d0.l.length) (h: ∀i:Nat,i<s.l.length->∃o c dn g r v,Tg (s.at (i:Int)) o c dn g r v/\Wj ((d0.at (i:Int)).hd 0).n ((d0.at (i:Int)).hd 2).n (d1.l.length:Int) o c dn g r v):L 350 [enc d0,enc d1,enc s]=some [1]:=by
 obtain⟨b,hb,_,hi⟩:=rZ h0 h1 (G.few (by omega)).rows;rw [hb,hi.2 ⟨hC,hle,fun k hk=>?_⟩];obtain⟨o,c,dn,g,r,v,T,P⟩:=h k hk;rw [bF hk] at T;rw [bF (by omega:k<d0.l.length)] at P;have hrow:=G.rows _ (aHk hk);rw [T.is] at hrow;have hl:r.l.length<=140737488351232:=by have:=hrow.1; have:r.l.length<=n:=this; omega
 exact (Zl T hl).2 P
end
theorem GK {s:D} {n:Nat} (G:Gs s n) {i:Int} (i0:0<=i) (i1:i<(s.l.length:Int)): ∃o c dn g r v,Tg (s.at i) o c dn g r v/\r.l.length<=n/\v.l.length<=n:=by
 obtain⟨k,rfl⟩ : ∃k:Nat,i=(k:Int):=⟨i.toNat,by omega⟩;have hk:k<s.l.length:=by omega
 obtain⟨o,c,dn,g,r,v,T⟩:=BD (G.wd.thing _ (aHk hk));have hrow:=G.rows _ (aHk hk);rw [T.is] at hrow;exact⟨o,c,dn,g,r,v,by rw [bF hk]; exact T,hrow.1,hrow.2⟩
theorem Jt {s:D} {i:Nat} {x:D} (h:s.l[i]?=some x):s.at (i:Int)=x:=by rw [gU,h]; rfl
structure TEq (x y:D):Prop where
 c0:(x.hd 0).n=(y.hd 0).n
 c1:(x.hd 1).n=(y.hd 1).n
 c2:(x.hd 2).n=(y.hd 2).n
 c3:(x.hd 3).n=(y.hd 3).n
 c4:(x.hd 4).l=(y.hd 4).l
 c5:(x.hd 5).l=(y.hd 5).l
theorem TEq.rfl' (x:D):TEq x x:=⟨rfl,rfl,rfl,rfl,rfl,rfl⟩
structure FM (s s':D):Prop where
 len:s'.l.length=s.l.length
 ats: ∀i:Nat,TEq (s.at (i:Int)) (s'.at (i:Int))
theorem FM.rfl' (s:D):FM s s:=⟨rfl,fun _=> .rfl' _⟩
theorem Iy {o c dn g:Int} {r v r' v':D} (hr:r.l=r'.l) (hv:v.l=v'.l):TEq (dL [.i o,.i c,.i dn,.i g,r,v]) (dL [.i o,.i c,.i dn,.i g,r',v']):=⟨rfl,rfl,rfl,rfl,hr,hv⟩
theorem Uf {x y:D} {o c dn g o' c' Tz g':Int} {r v r' v':D} (T:Tg x o c dn g r v) (T':Tg y o' c' Tz g' r' v') (h:TEq x y):o'=o/\c'=c/\Tz=dn/\g'=g/\r.l=r'.l/\v.l=v'.l:=by obtain⟨q0,q1,q2,q3,q4,q5⟩:=h;rw [T.is,T'.is] at q0 q1 q2 q3 q4 q5;exact⟨q0.symm,q1.symm,q2.symm,q3.symm,q4,q5⟩
theorem Ux {s s':D} (h:FM s s') (z:Int) {x y:D} (hx:TEq x y):FM (dL (dV s.l z x)) (dL (dV s'.l z y)):=by
 refine⟨by rw [aA,aA,gK,gK]; exact h.len,fun i=>?_⟩;by_cases hz:(i:Int)=z
 ·subst hz;by_cases hi:i<s.l.length
  ·have e1:(dL (dV s.l (i:Int) x)).at (i:Int)=x:=Jt (by rw [aA]; exact yV hi);have e2:(dL (dV s'.l (i:Int) y)).at (i:Int)=y:=Jt (by rw [aA]; exact yV (by have:=h.len; omega));rw [e1,e2];exact hx
  ·have e1:(dL (dV s.l (i:Int) x)).at (i:Int)= .i 0:=by rw [gU,aA,aH2 (by rw [gK]; omega)]; rfl
   have e2:(dL (dV s'.l (i:Int) y)).at (i:Int)= .i 0:=by rw [gU,aA,aH2 (by rw [gK]; have:=h.len; omega)]; rfl
   rw [e1,e2];exact .rfl' _
 ·have e1:(dL (dV s.l z x)).at (i:Int)=s.at (i:Int):=by rw [gU,gU,aA,qO hz]
  have e2:(dL (dV s'.l z y)).at (i:Int)=s'.at (i:Int):=by rw [gU,gU,aA,qO hz]
  rw [e1,e2];exact h.ats i
inductive QC:Act->Act->Prop
 |blk:QC .blk .blk
 |mis:QC .mis .mis
 |res (o c dn g:Int) (r v r' v':D) (m:Option Int) (a oc:Int) (hr:r.l=r'.l) (hv:v.l=v'.l):QC (.res o c dn g r v m a oc) (.res o c dn g r' v' m a oc)
theorem QC.ite {p:Prop} [Decidable p] {a b a' b':Act} (h1:QC a a') (h2:QC b b'):QC (if p then a else b) (if p then a' else b'):=by
 by_cases h:p
 ·rw [aHd h,aHd h]; exact h1
 ·rw [aHc h,aHc h]; exact h2
theorem at_eq {d d':D} (h:d.l=d'.l) (z:Int):d.at z=d'.at z:=by unfold D.at; rw [h]
theorem amI {d d':D} (h:d.l=d'.l) (t:Int):place d t=place d' t:=by unfold place; rw [h]
theorem aDp {M mo th op arg tries o c dn g:Int} {r v r' v':D} (hr:r.l=r'.l) (hv:v.l=v'.l):QC (act M mo th op arg tries o c dn g r v) (act M mo th op arg tries o c dn g r' v'):=by
 unfold act;rw [amI hr th,at_eq hr 0,at_eq hv 0,hr,hv]
 repeat' first
  |exact .blk
  |exact .mis
  |refine QC.ite ?_ ?_
 all_goals
  refine .res _ _ _ _ _ _ _ _ _ _ _ ?_ ?_<;>simp only [aH,hr,hv]
theorem auV {s s':D} (h:FM s s') (obj M:Int) {A B:Act} (hA:QC A B) (hT: ∀i:Nat,(s.at (i:Int)= .i 0/\s'.at (i:Int)= .i 0)\/∃o c dn g r v o' c' Tz g' r' v',Tg (s.at (i:Int)) o c dn g r v/\Tg (s'.at (i:Int)) o' c' Tz g' r' v'):FM (PX s obj M A) (PX s' obj M B):=by
 cases hA with
 |blk=>exact h
 |mis=>exact h
 |res o c dn g r v r' v' m a oc hr hv=>
  unfold PX
  cases m with
  |none=>exact Ux h obj (Iy hr hv)
  |some q=>
   have key:FM (dL (dV s.l M (dL (dV (s.at M).l 0 (.i q))))) (dL (dV s'.l M (dL (dV (s'.at M).l 0 (.i q))))):=by
    by_cases hM:M<0
    ·have e: ∀(l:List D) (y:D),dV l M y=l:=fun l y=>by unfold dV; rw [aHd hM]
     rw [e,e];refine⟨by rw [aA,aA]; exact h.len,fun i=>?_⟩;have q:=h.ats i;rw [gU,gU] at q;rw [gU,gU,aA,aA];exact q
    ·obtain⟨i,rfl⟩ : ∃i:Nat,M=(i:Int):=⟨M.toNat,by omega⟩;refine Ux h (i:Int) ?_;rcases hT i with ⟨e1,e2⟩|⟨o,c,dn,g,r,v,o',c',Tz,g',r',v',T,T'⟩
     ·rw [e1,e2];exact .rfl' _
     ·obtain⟨rfl,rfl,rfl,rfl,w1,w2⟩:=Uf T T' (h.ats i);rw [T.is,T'.is];exact Iy w1 w2
   have:=Ux key obj (Iy (o:=o) (c:=c) (dn:=if dn=0 then 0 else 1) (g:=g) hr hv);rw [aA,aA] at this;exact this
theorem Zo {s s':D} {n:Nat} (h:FM s s') (G:Gs s n) (G':Gs s' n) (i:Nat):(s.at (i:Int)= .i 0/\s'.at (i:Int)= .i 0)\/∃o c dn g r v o' c' Tz g' r' v',Tg (s.at (i:Int)) o c dn g r v/\Tg (s'.at (i:Int)) o' c' Tz g' r' v':=by
 have hl:=h.len;by_cases hi:i<s.l.length
 ·obtain⟨o,c,dn,g,r,v,T,_⟩:=GK G (i:=(i:Int)) (by omega) (by omega);obtain⟨o',c',Tz,g',r',v',T',_⟩:=GK G' (i:=(i:Int)) (by omega) (by omega);exact .inr ⟨o,c,dn,g,r,v,o',c',Tz,g',r',v',T,T'⟩
 ·exact .inl ⟨by rw [gU,aH2 (by omega)]; rfl,by rw [gU,aH2 (by omega)]; rfl⟩
section
variable {d0 d1 s s':D} {n:Nat} (h0:Wd (.sl 3) d0) (h1:Wd (.sl 4) d1) (h:FM s s') (G:Gs s n) (G':Gs s' n) (hn:n<17592186043904)
include h0 h1 h G G' hn
theorem right_eq (R:L 350 [enc d0,enc d1,enc s]=some [1]):L 350 [enc d0,enc d1,enc s']=some [1]:=by obtain⟨hC,ok,hle⟩:=DI h0 h1 G (by omega) R;have hl:=h.len;refine ayI h0 h1 G' (by omega) hC (by omega) fun i hi=>?_;obtain⟨o,c,dn,g,r,v,T,_⟩:=GK G (i:=(i:Int)) (by omega) (by omega);obtain⟨o',c',Tz,g',r',v',T',_⟩:=GK G' (i:=(i:Int)) (by omega) (by omega);obtain⟨rfl,rfl,rfl,rfl,q4,q5⟩:=Uf T T' (h.ats i);have P:=MR h0 h1 G (by omega) R (i:=(i:Int)) (by omega) (by omega) T;refine⟨_,_,_,_,_,_,T',?_⟩;unfold Wj at P ⊢;rw [<- q4,<- q5];exact P
theorem aBp {t op obj arg tr e1 e2 e3 e4 e5 oc f1 f2 f3 f4 f5 oc':Int} {a a':D} (hop:oG .u8 op) (R:L 350 [enc d0,enc d1,enc s]=some [1])
 (A:Tried d0 d1 s t op obj arg tr n a e1 e2 e3 e4 e5 oc) (A':Tried d0 d1 s' t op obj arg tr n a' f1 f2 f3 f4 f5 oc'):FM a a'/\f1=e1/\f2=e2/\f3=e3/\f4=e4/\f5=e5/\oc'=oc:=by
 have R':=right_eq h0 h1 h G G' hn R;have hl:=h.len;have hA:=A.eq;have hA':=A'.eq;have hf:=G.few (by omega:n<17592186044415);have hf':=G'.few (by omega:n<17592186044415);by_cases C:Acc d0 d1 s t op obj
 ·have C':Acc d0 d1 s' t op obj:=⟨R',C.t0,C.t1,C.o0,by have:=C.o1; omega,C.k⟩;obtain⟨_,o,c,dn,g,r,v,T,hL⟩:=KQ (arg:=arg) (tries:=tr) h0 h1 G.wd hf hop C;obtain⟨_,o',c',Tz,g',r',v',T',hL'⟩:=KQ (arg:=arg) (tries:=tr) h0 h1 G'.wd hf' hop C';have a0:=C.o0;obtain⟨i,rfl⟩ : ∃i:Nat,obj=(i:Int):=⟨obj.toNat,by omega⟩;obtain⟨rfl,rfl,rfl,rfl,q4,q5⟩:=Uf T T' (h.ats i)
  have hMo:Mo d0 s' (i:Int)=Mo d0 s (i:Int):=by
   unfold Mo;by_cases hM:0<=((d0.at (i:Int)).hd 2).n
   ·obtain⟨m,hm⟩ : ∃m:Nat,((d0.at (i:Int)).hd 2).n=(m:Int):=⟨_,(Int.toNat_of_nonneg hM).symm⟩;rw [hm];exact (h.ats m).c0.symm
   ·have e: ∀(z:Int) (s:D),¬0<=z->s.at z=s.at ((0:Nat):Int):=fun z s hz=>by
     unfold D.at
     rw [show z.toNat=(((0:Nat):Int)).toNat by omega]
    rw [e _ _ hM,e _ _ hM];exact (h.ats 0).c0.symm
  rw [hMo] at hL';have hE:=aDp (M:=Mx d0 (i:Int)) (mo:=Mo d0 s (i:Int)) (th:=t) (op:=op) (arg:=arg) (tries:=tr) (o:=o') (c:=c') (dn:=Tz) (g:=g') q4 q5;have hP:=auV h (i:Int) (Mx d0 (i:Int)) hE (Zo h G G');rw [Lc,hA] at hL;rw [Lc,hA'] at hL';obtain⟨X,hX⟩ : ∃X,act (Mx d0 (i:Int)) (Mo d0 s (i:Int)) t op arg tr o' c' Tz g' r v=X:=⟨_,rfl⟩;obtain⟨Y,hY⟩ : ∃Y,act (Mx d0 (i:Int)) (Mo d0 s (i:Int)) t op arg tr o' c' Tz g' r' v'=Y:=⟨_,rfl⟩;rw [hX] at hL hE hP;rw [hY] at hL' hE hP
  cases hE with
  |blk=> simp only [evA,aHe,List.cons.injEq,and_true] at hL hL';obtain⟨p,rfl,rfl,rfl,rfl,rfl,rfl⟩:=hL;obtain⟨p',rfl,rfl,rfl,rfl,rfl,rfl⟩:=hL';rw [gI p,gI p'];exact⟨hP,rfl,rfl,rfl,rfl,rfl,rfl⟩
  |mis=> simp only [evA,aHe,List.cons.injEq,and_true] at hL hL';obtain⟨p,rfl,rfl,rfl,rfl,rfl,rfl⟩:=hL;obtain⟨p',rfl,rfl,rfl,rfl,rfl,rfl⟩:=hL';rw [gI p,gI p'];exact⟨hP,rfl,rfl,rfl,rfl,rfl,rfl⟩
  |res o c dn g r v r' v' m a oc hr hv=> simp only [evA,aHe,List.cons.injEq,and_true] at hL hL';obtain⟨p,rfl,rfl,rfl,rfl,rfl,rfl⟩:=hL;obtain⟨p',rfl,rfl,rfl,rfl,rfl,rfl⟩:=hL';rw [gI p,gI p'];exact⟨hP,rfl,rfl,rfl,rfl,rfl,rfl⟩
 ·have C': ¬Acc d0 d1 s' t op obj:=fun C'=>C ⟨R,C'.t0,C'.t1,C'.o0,by have:=C'.o1; omega,C'.k⟩;have hL:=BA (arg:=arg) (tries:=tr) h0 h1 G.wd hf hop C;have hL':=BA (arg:=arg) (tries:=tr) h0 h1 G'.wd hf' hop C';rw [hA] at hL;rw [hA'] at hL';simp only [aHe,List.cons.injEq,and_true] at hL hL';obtain⟨p,rfl,rfl,rfl,rfl,rfl,rfl⟩:=hL;obtain⟨p',rfl,rfl,rfl,rfl,rfl,rfl⟩:=hL';rw [gI p,gI p'];exact⟨h,rfl,rfl,rfl,rfl,rfl,rfl⟩
end
theorem aeR (r:D) (t:Int) (hl:r.l.length<=140737488351232): ∀(j i:Nat),i+j=r.l.length->L 4401 [t,enc r,(i:Int)]=some [firstAt t (r.l.drop i) i]
 |0,i,h=>by
  have c1: ¬(i:Int)<(r.l.length:Int):=by omega
  rw [bU,aqF,aHE (by omega)];simp only [acS,zz,c1,fin];rfl
 |j+1,i,h=>by
  have hi:i<r.l.length:=by omega
  have c1:(i:Int)<(r.l.length:Int):=by omega
  have c2: ¬((i:Int)<0):=by omega
  have w:=aX (n:=i) (by omega);have ih:=aeR r t hl j (i+1) (by omega);rw [bU,aqF,aHt hi];simp only [acS,zz,c1,c2,bF hi,w,firstAt];split
  ·rfl
  ·exact ih
theorem AX (r:D) (t:Int) (hl:r.l.length<=140737488351232):L 4400 [t,enc r]=some [place r t]:=by rw [bU,azV];simp only [akT,zz,fin];exact aeR r t hl r.l.length 0 (by omega)
def KN (k m o dn g:Int) (rl vl:Nat):Prop:=
 -1<=o/\o<m/\0<=g/\g<=4611686018427387904/\(0<=o->k=1\/k=2\/k=6)/\(0<(rl:Int)->k=4\/k=2)/\(0<(vl:Int)->k=8)/\(dn≠0->k=6)/\(0<g->k=5)
def YE (k N o c dn:Int) (rl vl:Nat):Prop:=
 (o<0\/(rl:Int)=0/\dn=0)/\(k=9\/(k=3/\0<=c/\c<=N)\/(k=5/\0<=c/\c<N)\/(k=7/\0<=c/\c<=1099511627776)\/(k=8/\c=0/\(vl:Int)<=N)\/(k≠3/\k≠5/\k≠7/\k≠8/\k≠9/\c=0))
theorem Uw {k N m o c dn g:Int} {r v:D} (hk:(k=3\/k=8->1<=N/\N<=1048576)/\(k=5->1<=N/\N<=16)/\(k=1\/k=2\/k=6\/k=7->N=0)/\(k=4->0<=N)):Wj k N m o c dn g r v↔KN k m o dn g r.l.length v.l.length/\rJ m r.l/\YE k N o c dn r.l.length v.l.length:=by
 unfold Wj atA KN YE YF Dp;generalize rJ m r.l=R;have w:1<=N->N<=16->IntKind.i64.wrap (N-1)=N-1:=fun h1 h2=>jX (by omega) (by omega);constructor
 ·rintro⟨⟨h1,h2⟩,h3,h4,h6,h5⟩;refine⟨h2,h3,h5,?_⟩;rcases h1 with h|h|h|h|h
  ·exact .inl h
  ·exact .inr (.inl h)
  ·have:=hk.2.1 h.1;rw [w this.1 this.2] at h;exact .inr (.inr (.inl (by omega)))
  ·exact .inr (.inr (.inr (.inl h)))
  ·by_cases h8:k=8
   ·have:=hk.1 (.inr h8);exact .inr (.inr (.inr (.inr (.inl (by omega)))))
   ·exact .inr (.inr (.inr (.inr (.inr (by omega)))))
 ·rintro⟨h2,h3,h5,h4⟩;refine⟨⟨?_,h2⟩,h3,by omega,by omega,h5⟩;rcases h4 with h|h|h|h|h|h
  ·exact .inl h
  ·exact .inr (.inl h)
  ·have:=hk.2.1 h.1;rw [w this.1 this.2];exact .inr (.inr (.inl (by omega)))
  ·exact .inr (.inr (.inr (.inl h)))
  ·exact .inr (.inr (.inr (.inr (by omega))))
  ·exact .inr (.inr (.inr (.inr (by omega))))
theorem WX {m:Int} {l:List D} {x:D}:rJ m (l++ [x])↔rJ m l/\0<=x.n/\x.n<m/\x.n∉l.map D.n:=by
 unfold rJ;constructor
 ·rintro⟨h1,h2⟩;rw [aIw,aJs] at h2;obtain⟨a,b⟩:=h1 x (aI4 _ (aIG.2 rfl));exact⟨⟨fun y hy=>h1 y (aJr _ hy),h2.1⟩,a,b,fun h=>h2.2.2 _ h _ (by simp) rfl⟩
 ·rintro⟨⟨h1,h2⟩,a,b,h3⟩;refine⟨fun y hy=>(aH1.1 hy).elim (h1 y) fun h=>by obtain rfl:=aIG.1 h; exact⟨a,b⟩,?_⟩;rw [aIw,aJs]
  exact⟨h2,by simp,fun y hy z hz e=>by
   simp only [aHo,aIl,aIG] at hz;rw [e,hz] at hy
   exact h3 hy⟩
theorem agZ (r:D) (t:Int):place r t<0↔t∉r.l.map D.n:=by
 rcases nU r t with ⟨h,hn⟩|⟨k,hk,h,h1,_⟩
 ·exact⟨fun _ h'=>by obtain⟨x,hx,q⟩:=aHF.1 h'; exact hn x hx q,fun _=>by omega⟩
 ·exact⟨fun h'=>by omega,fun h'=>absurd (aHF.2 ⟨_,aHk hk,h1⟩) h'⟩
theorem auP {m:Int} {l:List D} (i:Nat) (h:rJ m l):rJ m (l.take i):=
 ⟨fun x hx=>h.1 x (aHS hx),by rw [aIS]; exact h.2.sublist (List.take_sublist i _)⟩
theorem Rn (m:Int) (r:D) (hl:r.l.length<=140737488351232) (k x1 N x3 x4 o c dn g:Int) (v:D): ∀(j i:Nat),i+j=r.l.length->rJ m (r.l.take i)->
 Tot 4101 [m,k,(i:Int),x1,N,x3,x4,o,c,dn,g,enc r,enc v] (isIff (rJ m r.l/\YE k N o c dn r.l.length v.l.length))
 |0,i,hi,hR=>by
  have c1: ¬(i:Int)<(r.l.length:Int):=by omega
  rw [aIb (by omega)] at hR;refine Tot.iff (p:=YE k N o c dn r.l.length v.l.length) ?_ ⟨fun h=> ⟨hR,h⟩,fun h=>h.2⟩;refine Tot.of ?_;unfold YE;rw [aqJ];simp only [acW,zz,c1]
  repeat' first
   |exact .out (aG (by omega))
   |exact .out (aQ (by omega))
   |refine .ite (fun _=>?_) (fun _=>?_)
 |j+1,i,hi,hR=>by
  have hil:i<r.l.length:=by omega
  have c1:(i:Int)<(r.l.length:Int):=by omega
  have c2: ¬((i:Int)<0):=by omega
  have w:=aX (n:=i) (by omega);have ht:r.l.take (i+1)=r.l.take i++ [r.l[i]]:=aJq hil;have hI:=AX (iR r (r.l.take i)) (r.l[i]).n (by rw [aH,aHr]; omega);have hp:=agZ (iR r (r.l.take i)) (r.l[i]).n;rw [aH] at hp
  have no: ¬(0<=(r.l[i]).n/\(r.l[i]).n<m/\(r.l[i]).n∉(r.l.take i).map D.n)->¬(rJ m r.l/\YE k N o c dn r.l.length v.l.length):=fun h q=>by have:=auP (i+1) q.1;rw [ht,WX] at this;exact h this.2
  refine Tot.of ?_;rw [aqJ];simp only [acW,zz,c1,c2,bF hil,aHH,hI,w];refine .ite (fun h=> .out (aG (no fun q=>by omega))) fun h1=> .ite (fun h2=> .ite (fun h3=> .jump (Rn m r hl k x1 N x3 x4 o c dn g v j (i+1) (by omega) ?_)) fun h3=> .out (aG (no fun q=>h3 (hp.2 q.2.2)))) fun h2=> .out (aG (no fun q=>h2 q.2.1));rw [ht,WX];exact⟨hR,by omega,h2,hp.1 h3⟩
theorem aBB (k x1 N x3 x4 m o c dn g:Int) (r v:D) (hl:r.l.length<=140737488351232):Tot 4100 [k,x1,N,x3,x4,o,c,dn,g,enc r,enc v,m] (isIff (KN k m o dn g r.l.length v.l.length/\rJ m r.l/\YE k N o c dn r.l.length v.l.length)):=by
 have ih:=Rn m r hl k x1 N x3 x4 o c dn g v r.l.length 0 (by omega) ⟨by simp,by simp⟩;generalize (rJ m r.l/\YE k N o c dn r.l.length v.l.length)=Q at *;refine Tot.of ?_;rw [azZ];by_cases h4:k=4
 ·subst h4;simp only [QN,zz,Int.reduceEq]
  repeat' first
   |exact .out (aG fun h=>by have:=h.1; unfold KN at this; omega)
   |exact .jump (ih.iff ⟨fun q=> ⟨by unfold KN; omega,q⟩,fun q=>q.2⟩)
   |refine .ite (fun _=>?_) (fun _=>?_)
 by_cases h1:k=1
 ·subst h1;simp only [QN,zz,Int.reduceEq]
  repeat' first
   |exact .out (aG fun h=>by have:=h.1; unfold KN at this; omega)
   |exact .jump (ih.iff ⟨fun q=> ⟨by unfold KN; omega,q⟩,fun q=>q.2⟩)
   |refine .ite (fun _=>?_) (fun _=>?_)
 by_cases h2:k=2
 ·subst h2;simp only [QN,zz,Int.reduceEq]
  repeat' first
   |exact .out (aG fun h=>by have:=h.1; unfold KN at this; omega)
   |exact .jump (ih.iff ⟨fun q=> ⟨by unfold KN; omega,q⟩,fun q=>q.2⟩)
   |refine .ite (fun _=>?_) (fun _=>?_)
 simp only [QN,zz,h4,h1,h2]
 repeat' first
  |exact .out (aG fun h=>by have:=h.1; unfold KN at this; omega)
  |exact .jump (ih.iff ⟨fun q=> ⟨by unfold KN; omega,q⟩,fun q=>q.2⟩)
  |refine .ite (fun _=>?_) (fun _=>?_)
theorem zS {d0 x:D} (h:BU d0 x):((x.hd 0).n=3\/(x.hd 0).n=8->1<=(x.hd 2).n/\(x.hd 2).n<=1048576)/\((x.hd 0).n=5->1<=(x.hd 2).n/\(x.hd 2).n<=16)/\((x.hd 0).n=1\/(x.hd 0).n=2\/(x.hd 0).n=6\/(x.hd 0).n=7->(x.hd 2).n=0)/\((x.hd 0).n=4->0<=(x.hd 2).n):=by unfold BU OkO at h;omega
section
variable {d0 d1 s:D} {n:Nat} (h0:Wd (.sl 3) d0) (h1:Wd (.sl 4) d1) (G:Gs s n) (hn:n<17592186044000)
include h0 h1 G hn
theorem JE (hC:P8 d0 d1) (hle:s.l.length=d0.l.length): ∀(j i:Nat),i+j=s.l.length->Tot 3901 [enc s,(i:Int),enc d0,enc d1] (isIff (∀(k:Nat) (hk:k<s.l.length),i<=k->Snd (d0.l[k]'(hle▸hk)) s.l[k] d1.l.length))
 |0,i,hi=>by
  have c1: ¬(i:Int)<(s.l.length:Int):=by omega
  refine Tot.of ?_;rw [aqP];simp only [WM,zz,c1];exact .out (aQ fun k hk h=>by omega)
 |j+1,i,hi=>by
  have hsl:=G.wd.len;have hil:i<s.l.length:=by omega
  have hid:i<d0.l.length:=by omega
  have c1:(i:Int)<(s.l.length:Int):=by omega
  have c2: ¬((i:Int)<0):=by omega
  have c3:(i:Int)<(d0.l.length:Int):=by omega
  have w:=aX (n:=i) (by omega);obtain⟨o,c,dn,g,r,v,T⟩:=BD (G.wd.thing _ (aHk hil));have hrow:=(G.rows _ (aHk hil)).1;have e4:(s.l[i]).hd 4=r:=by rw [T.is,iV]; rfl
  rw [e4] at hrow;have hS:=Zl (d:=d0.l[i]) (m:=d1.l.length) T (by omega);rw [Uw (zS (hC.2.2.1 _ (aHk hid)))] at hS;have hR:=aBB ((d0.l[i]).hd 0).n (enc ((d0.l[i]).hd 1)) ((d0.l[i]).hd 2).n (enc ((d0.l[i]).hd 3)) ((d0.l[i]).hd 4).n (d1.l.length:Int) o c dn g r v (by omega);rw [<- hS] at hR;obtain⟨ys,hR,b,rfl,hb,hb1⟩:=hR;have ih:=JE hC hle j (i+1) (by omega)
  have fin': ∀R:RS,R=(if b=0 then RS.out [0] else RS.jump 3901 [enc s,((i+1:Nat):Int),enc d0,enc d1])->Ends (isIff (∀(k:Nat) (hk:k<s.l.length),i<=k->Snd (d0.l[k]'(hle▸hk)) s.l[k] d1.l.length)) R:=fun R hRR=>by
   rw [hRR];refine .ite (fun hb0=> .out (aG fun h=>?_)) fun hb0=> .jump (ih.iff ⟨fun h k hk hik=>?_,fun h k hk hik=>h k hk (by omega)⟩)
   ·have:=hb1.2 (h i hil (aHh _));omega
   ·by_cases e:k=i
    ·subst e;exact hb1.1 (by omega)
    ·exact h k hk (by omega)
  refine Tot.of ?_;rw [aqP];rcases T.hd with rfl|rfl
  ·simp only [WM,zz,c1,c2,c3,bF hil,bF hid,T.is,zg,hR,w];exact fin' _ rfl
  ·simp only [WM,zz,c1,c2,c3,bF hil,bF hid,T.is,zg,hR,w,Int.reduceEq];exact fin' _ rfl
theorem EU: ∃b:Int,(b=0\/b=1)/\L 350 [enc d0,enc d1,enc s]=some [b]/\L 3900 [enc d0,enc d1,enc s]=some [b]/\(b=1->P8 d0 d1):=by
 obtain⟨b,hA,hb,hb1⟩:=rZ h0 h1 (G.few (by omega)).rows;obtain⟨c,hc,hc1,hp,hr⟩:=Pj h0 h1;refine⟨b,hb,hA,?_,fun h=>?_⟩
 ·have key:Tot 3900 [enc d0,enc d1,enc s] (·= [b]):=by
   refine Tot.of ?_;rw [aAd];simp only [akZ,zz,hr];refine .ite (fun hc0=> .ite (fun c1=>?_) fun c1=> .out ?_) fun hc0=> .out ?_
   ·have hC:=hc1.1 hc0;have hle:s.l.length=d0.l.length:=by omega
    obtain⟨ys,hL,e,rfl,he,he1⟩:=JE h0 h1 G hn hC hle s.l.length 0 (by omega)
    have hbe:b=1↔e=1:=by rw [hb1,he1];exact⟨fun⟨_,h,q⟩ k hk _=>q k hk,fun q=> ⟨by rw [hp,hc0],hle,fun k hk=>q k hk (aIz _)⟩⟩
    exact .jump ⟨_,hL,by rw [show e=b by omega]⟩
   ·have: ¬b=1:=fun h=>by have:=(hb1.1 h).2.1; omega
    rw [show b=0 by omega]
   ·have: ¬b=1:=fun h=>by
     have:=(hb1.1 h).1;rw [hp] at this;simp only [aHe,List.cons.injEq,and_true] at this;exact hc0 this
    rw [show b=0 by omega]
  obtain⟨ys,h,rfl⟩:=key;exact h
 ·have:=(hb1.1 h).1;rw [hp] at this;simp only [aHe,List.cons.injEq,and_true] at this;exact hc1.1 this
end
theorem aBq (x:D) (h:oG .i64 (x.hd 2).n):oM (iC x):=by
 refine⟨-1,_,0,0,.i 1,.i 1,rfl,⟨by omega,by omega⟩,?_,.inl rfl,⟨by omega,by omega⟩,.nil 0,.nil 0⟩;split
 ·exact h
 ·exact⟨by omega,by omega⟩
section
variable {d0 d1:D} (h0:Wd (.sl 3) d0) (h1:Wd (.sl 4) d1)
theorem JL (d0:D) (x3:Int) (hlen:d0.l.length<=64): ∀(k i:Nat) (acc:List D),i+k=d0.l.length->acc.length=i->
 Tot 3852 [enc (dL acc),(i:Int),enc d0,x3] (·= [enc (dL (acc++(d0.l.drop i).map iC))])
 |0,i,acc,h1,h2=>by
  have c1: ¬(i:Int)<(d0.l.length:Int):=by omega
  refine Tot.of ?_;rw [aqQ,aHE (by omega)];simp only [adC,zz,c1];exact .out (by rw [aIl,aHU])
 |k+1,i,acc,h1,h2=>by
  have hi:i<d0.l.length:=by omega
  have hd:d0.l.drop i=d0.l[i]::d0.l.drop (i+1):=aHt hi;have ih:=JL d0 x3 hlen k (i+1) (acc++ [iC d0.l[i]]) (by omega) (by simp [h2]);have w:=aX (n:=i) (by omega);have c1:(i:Int)<(d0.l.length:Int):=by omega
  have c2: ¬((i:Int)<0):=by omega
  have c3:(acc.length:Int)<1759218604440:=by omega
  rw [aH3,aH9] at ih;refine Tot.of ?_;rw [aqQ,hd,aHo];simp only [adC,zz,c1,c2,c3,w,bF hi,aA];refine .ite (fun h3=> .jump ?_) fun h3=> .ite (fun h9=> .jump ?_) fun h9=> .jump ?_
  ·have e:iC d0.l[i]=dL [.i (-1),.i (d0.l[i].hd 2).n,.i 0,.i 0,.i 1,.i 1]:=by unfold iC; rw [aHd (.inl h3)]
   rw [e] at ih ⊢;exact ih
  ·have e:iC d0.l[i]=dL [.i (-1),.i (d0.l[i].hd 2).n,.i 0,.i 0,.i 1,.i 1]:=by unfold iC; rw [aHd (.inr h9)]
   rw [e] at ih ⊢;exact ih
  ·have e:iC d0.l[i]=dL [.i (-1),.i 0,.i 0,.i 0,.i 1,.i 1]:=by unfold iC; rw [aHc (by omega)]
   rw [e] at ih ⊢;exact ih
include h0 h1
theorem abK: ∃b:D,L 300 [enc d0,enc d1]=some [enc b]/\L 3850 [enc d0,enc d1]=some [enc b]/\Gs b 0:=by
 obtain⟨c,hc,hc1,hp,hr⟩:=Pj h0 h1;have gn:Gs (.i 1) 0:=⟨.nil 7,fun x hx=>by simp [D.l] at hx⟩;by_cases hc0:c=0
 ·subst hc0;have hC:=hc1.1 rfl;by_cases hz:d0.l.length=0
  ·have:Tot 3850 [enc d0,enc d1] (·= [enc (.i 1)]):=by
    have c1: ¬(0:Int)<(d0.l.length:Int):=by omega
    refine Tot.of ?_;rw [afL];simp only [WO,zz,hr];refine .jump (Tot.of ?_);rw [aqR];simp only [adD,zz,c1];exact .out rfl
   obtain⟨ys,h,rfl⟩:=this;exact⟨.i 1,Yl hp (.inr hz),h,gn⟩
  ·have hi:0<d0.l.length:=by omega
   have:Tot 3850 [enc d0,enc d1] (·= [enc (dL (d0.l.map iC))]):=by
    have hd:d0.l=d0.l[0]::d0.l.drop 1:=by have:=aHt hi;simpa using this
    have ih:=JL d0 (enc d1) hC.1 (d0.l.length-1) 1 [iC d0.l[0]] (by omega) rfl;rw [aH9,<- aHo,<- hd] at ih;have c1:(0:Int)<(d0.l.length:Int):=by omega
    have hat:d0.at 0=d0.l[0]:=bF hi;refine Tot.of ?_;rw [afL];simp only [WO,zz,hr];refine .jump (Tot.of ?_);rw [aqR];simp only [adD,zz,c1,hat,zF,aHx];refine .ite (fun h3=> .jump ?_) fun h3=> .ite (fun h9=> .jump ?_) fun h9=> .jump ?_
    ·have e:iC d0.l[0]=dL [.i (-1),.i (d0.l[0].hd 2).n,.i 0,.i 0,.i 1,.i 1]:=by unfold iC; rw [aHd (.inl h3)]
     rw [e] at ih;exact ih
    ·have e:iC d0.l[0]=dL [.i (-1),.i (d0.l[0].hd 2).n,.i 0,.i 0,.i 1,.i 1]:=by unfold iC; rw [aHd (.inr h9)]
     rw [e] at ih;exact ih
    ·have e:iC d0.l[0]=dL [.i (-1),.i 0,.i 0,.i 0,.i 1,.i 1]:=by unfold iC; rw [aHc (by omega)]
     rw [e] at ih;exact ih
   obtain⟨ys,h,rfl⟩:=this;refine⟨_,asT hp hC.1 hi,h,Ir (fun x hx=>?_) (by simp; exact aIi.1 hi) (by rw [aH0]; have:=hC.1; omega),fun x hx=>?_⟩
   ·obtain⟨y,hy,rfl⟩:=aHF.1 hx;obtain⟨kd,nm',ln,s1,s2,he,_,hnn,_⟩:=h0.decl y hy;rw [he];exact aBq _ hnn
   ·rw [aA] at hx;obtain⟨y,hy,rfl⟩:=aHF.1 hx;exact⟨aHh 0,aHh 0⟩
 ·have:Tot 3850 [enc d0,enc d1] (·= [enc (.i 1)]):=by
   refine Tot.of ?_;rw [afL];simp only [WO,zz,hr,hc0];exact .out rfl
  obtain⟨ys,h,rfl⟩:=this;exact⟨.i 1,Yl hp (.inl hc0),h,gn⟩
end
def zD (d:D):D:=if (d.l.length:Int)=0 then .i 2 else d
def nM (x:D):D:=dL [.i (x.hd 0).n,.i (x.hd 1).n,.i (if (x.hd 2).n=0 then 0 else 1),.i (x.hd 3).n,zD (x.hd 4),zD (x.hd 5)]
theorem adR (d:D):(zD d).l=d.l:=by
 unfold zD;split
 ·rename_i h;rw [aIk.1 (by omega:d.l.length=0)];rfl
 ·rfl
theorem asC {x:D} (h:oM x):TEq (nM x) x:=by obtain⟨o,c,d,g,r,v,rfl,_,_,hd,_⟩:=h;unfold nM;simp only [iV];refine⟨rfl,rfl,?_,rfl,adR r,adR v⟩;rcases hd with rfl|rfl<;>rfl
def Ih (x:D):Prop:=(x.hd 4).l.length<17592186044415/\(x.hd 5).l.length<17592186044415
theorem J7 (s:D) (hs:s.l.length<=1759218604390) (hc: ∀x∈s.l,Ih x): ∀(k i:Nat) (acc:List D),i+k=s.l.length->acc.length=i->
 Tot 3952 [enc s,enc (dL acc),(i:Int)] (·= [enc (dL (acc++(s.l.drop i).map nM))])
 |0,i,acc,h1,h2=>by
  have c1: ¬(i:Int)<(s.l.length:Int):=by omega
  refine Tot.of ?_;rw [aqO,aHE (by omega)];simp only [adA,zz,c1];exact .out (by rw [aIl,aHU])
 |k+1,i,acc,h1,h2=>by
  have hi:i<s.l.length:=by omega
  have hd:s.l.drop i=s.l[i]::s.l.drop (i+1):=aHt hi;have ih:=J7 s hs hc k (i+1) (acc++ [nM s.l[i]]) (by omega) (by simp [h2]);have w:=aX (n:=i) (by omega);have c1:(i:Int)<(s.l.length:Int):=by omega
  have c2: ¬((i:Int)<0):=by omega
  have c3:(acc.length:Int)<1759218604440:=by omega
  obtain⟨q4,q5⟩:=hc _ (aHk hi);rw [aH3,aH9] at ih;refine Tot.of ?_;rw [aqO,hd,aHo];have hat:=bF hi;generalize s.l[i]=x at *;have q4:((x.hd 4).l.length:Int)<17592186044416:=by omega
  have q5:((x.hd 5).l.length:Int)<17592186044416:=by omega
  by_cases r4:((x.hd 4).l.length:Int)=0<;>by_cases r5:((x.hd 5).l.length:Int)=0<;>
  ·have e:nM x=dL [.i (x.hd 0).n,.i (x.hd 1).n,.i (if (x.hd 2).n=0 then 0 else 1),.i (x.hd 3).n,zD (x.hd 4),zD (x.hd 5)]:=rfl;unfold zD at e;simp only [r4,r5,if_true,if_false] at e;rw [e] at ih
   try rw [e]
   simp only [adA,zz,c1,c2,c3,w,hat,aA,q4,q5,r4,r5];exact .jump ih
theorem Nj (s:D) (hs:s.l.length<=1759218604390) (hc: ∀x∈s.l,Ih x):L 3950 [enc s]=some [enc (if s.l.length=0 then .i 1 else dL (s.l.map nM))]:=by
 have:Tot 3950 [enc s] (·= [enc (if s.l.length=0 then .i 1 else dL (s.l.map nM))]):=by
  refine Tot.of ?_;rw [aAc];simp only [akY,zz];refine .jump (Tot.of ?_);rw [aAb];by_cases hz:s.l.length=0
  ·have c1: ¬(0:Int)<(s.l.length:Int):=by omega
   simp only [adB,zz,c1];exact .out (by rw [aHd hz])
  ·have hi:0<s.l.length:=by omega
   have c1:(0:Int)<(s.l.length:Int):=by omega
   have hat:s.at 0=s.l[0]:=bF hi
   have hd:s.l=s.l[0]::s.l.drop 1:=by have:=aHt hi;simpa using this
   have ih:=J7 s hs hc (s.l.length-1) 1 [nM s.l[0]] (by omega) rfl;rw [aH9,<- aHo,<- hd] at ih;obtain⟨q4,q5⟩:=hc _ (aHk hi);rw [aHc hz];generalize s.l[0]=x at *;have q4:((x.hd 4).l.length:Int)<17592186044416:=by omega
   have q5:((x.hd 5).l.length:Int)<17592186044416:=by omega
   by_cases r4:((x.hd 4).l.length:Int)=0<;>by_cases r5:((x.hd 5).l.length:Int)=0<;>
   ·have e:nM x=dL [.i (x.hd 0).n,.i (x.hd 1).n,.i (if (x.hd 2).n=0 then 0 else 1),.i (x.hd 3).n,zD (x.hd 4),zD (x.hd 5)]:=rfl;unfold zD at e;simp only [r4,r5,if_true,if_false] at e;rw [e] at ih
    try rw [e]
    simp only [adB,zz,c1,hat,q4,q5,zF,aHx,r4,r5];exact .jump ih
 obtain⟨ys,h,rfl⟩:=this;exact h
theorem FD {s:D} (hs:s.l.length<=1759218604390) (ht: ∀x∈s.l,oM x) (hc: ∀x∈s.l,Ih x): ∃s':D,L 3950 [enc s]=some [enc s']/\FM s' s/\(s.l.length≠0->s'=dL (s.l.map nM)):=by
 refine⟨_,Nj s hs hc,?_,fun h=>by rw [aHc h]⟩;split
 ·rename_i h;have h0:=aIk.1 h;exact⟨by rw [h0]; rfl,fun i=>by rw [gU,gU,h0]; exact .rfl' _⟩
 ·refine⟨by rw [aA,aH0],fun i=>?_⟩;rw [gU,gU,aA,aHG]
  cases h:s.l[i]? with
  |none=>exact .rfl' _
  |some x=>exact asC (ht _ (aHK h))
def ph:D:=dL [.i 0,.i 0,.i 0,.i 0,.i 1,.i 1]
def Ie (x:D):Int:=if ((x.hd 4).l.length:Int)=0 then (if ((x.hd 5).l.length:Int)=0 then 1 else 2) else (if ((x.hd 5).l.length:Int)=0 then 3 else 4)
def JI (x:D):List Int:=[(x.hd 0).n,(x.hd 1).n,(x.hd 2).n,(x.hd 3).n]++(if ((x.hd 4).l.length:Int)=0 then [] else [enc (x.hd 4)])++(if ((x.hd 5).l.length:Int)=0 then [] else [enc (x.hd 5)])
theorem Md (s:D) (ob:Nat) (hs:s.l.length<=1759218604390) (hc: ∀x∈s.l,Ih x) (y4 y5 y6 y7:Int): ∀(k i:Nat) (acc:List D),i+k=s.l.length->acc.length=i->ob<i->
 Tot 9052 [(ob:Int),enc s,enc (dL acc),(i:Int),y4,y5,y6,y7] (·= [1,(ob:Int),enc (dL (acc++(s.l.drop i).map nM)),y4,y5,y6,y7])
 |0,i,acc,h1,h2,h3=>by
  have c1: ¬(i:Int)<(s.l.length:Int):=by omega
  have c0: ¬(i:Int)=(ob:Int):=by omega
  refine Tot.of ?_;rw [apK,aHE (by omega)];simp only [abZ,zz,c1,c0];exact .out (by rw [aIl,aHU])
 |k+1,i,acc,h1,h2,h3=>by
  have hi:i<s.l.length:=by omega
  have hd:s.l.drop i=s.l[i]::s.l.drop (i+1):=aHt hi;have ih:=Md s ob hs hc y4 y5 y6 y7 k (i+1) (acc++ [nM s.l[i]]) (by omega) (by simp [h2]) (by omega);have w:=aX (n:=i) (by omega);have c0: ¬(i:Int)=(ob:Int):=by omega
  have c1:(i:Int)<(s.l.length:Int):=by omega
  have c2: ¬((i:Int)<0):=by omega
  have c3:(acc.length:Int)<1759218604440:=by omega
  have c4:(ob:Int)<(acc.length:Int):=by omega
  obtain⟨q4,q5⟩:=hc _ (aHk hi);rw [aH3,aH9] at ih;refine Tot.of ?_;rw [apK,hd,aHo];have hat:=bF hi;generalize s.l[i]=x at *;have q4:((x.hd 4).l.length:Int)<17592186044416:=by omega
  have q5:((x.hd 5).l.length:Int)<17592186044416:=by omega
  by_cases r4:((x.hd 4).l.length:Int)=0<;>by_cases r5:((x.hd 5).l.length:Int)=0<;>
  ·have e:nM x=dL [.i (x.hd 0).n,.i (x.hd 1).n,.i (if (x.hd 2).n=0 then 0 else 1),.i (x.hd 3).n,zD (x.hd 4),zD (x.hd 5)]:=rfl;unfold zD at e;simp only [r4,r5,if_true,if_false] at e;rw [e] at ih
   try rw [e]
   simp only [abZ,zz,c0,c1,c2,c3,c4,w,hat,aA,q4,q5,r4,r5];exact .jump ih
theorem Mc (s:D) (ob:Nat) (hs:s.l.length<=1759218604390) (hc: ∀x∈s.l,Ih x) (y4 y5 y6 y7 y8:Int): ∀(k i:Nat) (acc:List D),i+k=s.l.length->acc.length=i->ob<i->
 Tot 9053 [(ob:Int),enc s,enc (dL acc),(i:Int),y4,y5,y6,y7,y8] (·= [2,(ob:Int),enc (dL (acc++(s.l.drop i).map nM)),y4,y5,y6,y7,y8])
 |0,i,acc,h1,h2,h3=>by
  have c1: ¬(i:Int)<(s.l.length:Int):=by omega
  have c0: ¬(i:Int)=(ob:Int):=by omega
  refine Tot.of ?_;rw [apJ,aHE (by omega)];simp only [abY,zz,c1,c0];exact .out (by rw [aIl,aHU])
 |k+1,i,acc,h1,h2,h3=>by
  have hi:i<s.l.length:=by omega
  have hd:s.l.drop i=s.l[i]::s.l.drop (i+1):=aHt hi;have ih:=Mc s ob hs hc y4 y5 y6 y7 y8 k (i+1) (acc++ [nM s.l[i]]) (by omega) (by simp [h2]) (by omega);have w:=aX (n:=i) (by omega);have c0: ¬(i:Int)=(ob:Int):=by omega
  have c1:(i:Int)<(s.l.length:Int):=by omega
  have c2: ¬((i:Int)<0):=by omega
  have c3:(acc.length:Int)<1759218604440:=by omega
  have c4:(ob:Int)<(acc.length:Int):=by omega
  obtain⟨q4,q5⟩:=hc _ (aHk hi);rw [aH3,aH9] at ih;refine Tot.of ?_;rw [apJ,hd,aHo];have hat:=bF hi;generalize s.l[i]=x at *;have q4:((x.hd 4).l.length:Int)<17592186044416:=by omega
  have q5:((x.hd 5).l.length:Int)<17592186044416:=by omega
  by_cases r4:((x.hd 4).l.length:Int)=0<;>by_cases r5:((x.hd 5).l.length:Int)=0<;>
  ·have e:nM x=dL [.i (x.hd 0).n,.i (x.hd 1).n,.i (if (x.hd 2).n=0 then 0 else 1),.i (x.hd 3).n,zD (x.hd 4),zD (x.hd 5)]:=rfl;unfold zD at e;simp only [r4,r5,if_true,if_false] at e;rw [e] at ih
   try rw [e]
   simp only [abY,zz,c0,c1,c2,c3,c4,w,hat,aA,q4,q5,r4,r5];exact .jump ih
theorem L9 (s:D) (ob:Nat) (hs:s.l.length<=1759218604390) (hc: ∀x∈s.l,Ih x) (y4 y5 y6 y7 y8:Int): ∀(k i:Nat) (acc:List D),i+k=s.l.length->acc.length=i->ob<i->
 Tot 9054 [(ob:Int),enc s,enc (dL acc),(i:Int),y4,y5,y6,y7,y8] (·= [3,(ob:Int),enc (dL (acc++(s.l.drop i).map nM)),y4,y5,y6,y7,y8])
 |0,i,acc,h1,h2,h3=>by
  have c1: ¬(i:Int)<(s.l.length:Int):=by omega
  have c0: ¬(i:Int)=(ob:Int):=by omega
  refine Tot.of ?_;rw [apI,aHE (by omega)];simp only [abX,zz,c1,c0];exact .out (by rw [aIl,aHU])
 |k+1,i,acc,h1,h2,h3=>by
  have hi:i<s.l.length:=by omega
  have hd:s.l.drop i=s.l[i]::s.l.drop (i+1):=aHt hi;have ih:=L9 s ob hs hc y4 y5 y6 y7 y8 k (i+1) (acc++ [nM s.l[i]]) (by omega) (by simp [h2]) (by omega);have w:=aX (n:=i) (by omega);have c0: ¬(i:Int)=(ob:Int):=by omega
  have c1:(i:Int)<(s.l.length:Int):=by omega
  have c2: ¬((i:Int)<0):=by omega
  have c3:(acc.length:Int)<1759218604440:=by omega
  have c4:(ob:Int)<(acc.length:Int):=by omega
  obtain⟨q4,q5⟩:=hc _ (aHk hi);rw [aH3,aH9] at ih;refine Tot.of ?_;rw [apI,hd,aHo];have hat:=bF hi;generalize s.l[i]=x at *;have q4:((x.hd 4).l.length:Int)<17592186044416:=by omega
  have q5:((x.hd 5).l.length:Int)<17592186044416:=by omega
  by_cases r4:((x.hd 4).l.length:Int)=0<;>by_cases r5:((x.hd 5).l.length:Int)=0<;>
  ·have e:nM x=dL [.i (x.hd 0).n,.i (x.hd 1).n,.i (if (x.hd 2).n=0 then 0 else 1),.i (x.hd 3).n,zD (x.hd 4),zD (x.hd 5)]:=rfl;unfold zD at e;simp only [r4,r5,if_true,if_false] at e;rw [e] at ih
   try rw [e]
   simp only [abX,zz,c0,c1,c2,c3,c4,w,hat,aA,q4,q5,r4,r5];exact .jump ih
theorem L8 (s:D) (ob:Nat) (hs:s.l.length<=1759218604390) (hc: ∀x∈s.l,Ih x) (y4 y5 y6 y7 y8 y9:Int): ∀(k i:Nat) (acc:List D),i+k=s.l.length->acc.length=i->ob<i->
 Tot 9055 [(ob:Int),enc s,enc (dL acc),(i:Int),y4,y5,y6,y7,y8,y9] (·= [4,(ob:Int),enc (dL (acc++(s.l.drop i).map nM)),y4,y5,y6,y7,y8,y9])
 |0,i,acc,h1,h2,h3=>by
  have c1: ¬(i:Int)<(s.l.length:Int):=by omega
  have c0: ¬(i:Int)=(ob:Int):=by omega
  refine Tot.of ?_;rw [apH,aHE (by omega)];simp only [abW,zz,c1,c0];exact .out (by rw [aIl,aHU])
 |k+1,i,acc,h1,h2,h3=>by
  have hi:i<s.l.length:=by omega
  have hd:s.l.drop i=s.l[i]::s.l.drop (i+1):=aHt hi;have ih:=L8 s ob hs hc y4 y5 y6 y7 y8 y9 k (i+1) (acc++ [nM s.l[i]]) (by omega) (by simp [h2]) (by omega);have w:=aX (n:=i) (by omega);have c0: ¬(i:Int)=(ob:Int):=by omega
  have c1:(i:Int)<(s.l.length:Int):=by omega
  have c2: ¬((i:Int)<0):=by omega
  have c3:(acc.length:Int)<1759218604440:=by omega
  have c4:(ob:Int)<(acc.length:Int):=by omega
  obtain⟨q4,q5⟩:=hc _ (aHk hi);rw [aH3,aH9] at ih;refine Tot.of ?_;rw [apH,hd,aHo];have hat:=bF hi;generalize s.l[i]=x at *;have q4:((x.hd 4).l.length:Int)<17592186044416:=by omega
  have q5:((x.hd 5).l.length:Int)<17592186044416:=by omega
  by_cases r4:((x.hd 4).l.length:Int)=0<;>by_cases r5:((x.hd 5).l.length:Int)=0<;>
  ·have e:nM x=dL [.i (x.hd 0).n,.i (x.hd 1).n,.i (if (x.hd 2).n=0 then 0 else 1),.i (x.hd 3).n,zD (x.hd 4),zD (x.hd 5)]:=rfl;unfold zD at e;simp only [r4,r5,if_true,if_false] at e;rw [e] at ih
   try rw [e]
   simp only [abW,zz,c0,c1,c2,c3,c4,w,hat,aA,q4,q5,r4,r5];exact .jump ih
theorem ajN (s:D) (ob:Nat) (hob:ob<s.l.length) (hs:s.l.length<=1759218604390) (hc: ∀x∈s.l,Ih x) (acc:List D) (ha:acc.length=ob) :
 Tot 9056 [(ob:Int),enc s,enc (dL acc),(ob:Int)] (·= Ie s.l[ob]::(ob:Int)::enc (dL (acc++ph::(s.l.drop (ob+1)).map nM))::JI s.l[ob]):=by
 have w:=aX (n:=ob) (by omega);have c1:(ob:Int)<(s.l.length:Int):=by omega
 have c2: ¬((ob:Int)<0):=by omega
 have c3:(acc.length:Int)<1759218604440:=by omega
 have c4:(acc.length:Int)=(ob:Int):=by omega
 have c5:(ob:Int)<1759218604440:=by omega
 obtain⟨q4,q5⟩:=hc _ (aHk hob);have t2:=fun a b c d=>Md s ob hs hc a b c d (s.l.length-(ob+1)) (ob+1) (acc++ [ph]) (by omega) (by simp [ha]) (by omega);have t3:=fun a b c d e=>Mc s ob hs hc a b c d e (s.l.length-(ob+1)) (ob+1) (acc++ [ph]) (by omega) (by simp [ha]) (by omega);have t4:=fun a b c d e=>L9 s ob hs hc a b c d e (s.l.length-(ob+1)) (ob+1) (acc++ [ph]) (by omega) (by simp [ha]) (by omega);have t5:=fun a b c d e f=>L8 s ob hs hc a b c d e f (s.l.length-(ob+1)) (ob+1) (acc++ [ph]) (by omega) (by simp [ha]) (by omega);rw [aH3,aH9] at t2 t3 t4 t5;refine Tot.of ?_;rw [X5];have hat:=bF hob;unfold Ie JI;generalize s.l[ob]=x at *;have q4:((x.hd 4).l.length:Int)<17592186044416:=by omega
 have q5:((x.hd 5).l.length:Int)<17592186044416:=by omega
 by_cases r4:((x.hd 4).l.length:Int)=0<;>by_cases r5:((x.hd 5).l.length:Int)=0<;>
 ·simp only [QJ,zz,c1,c2,c5,c4,w,hat,aA,r4,r5,q4,q5]
  first |exact .jump (t2 _ _ _ _)|exact .jump (t3 _ _ _ _ _)|exact .jump (t4 _ _ _ _ _)|exact .jump (t5 _ _ _ _ _ _)
theorem ahead (s:D) (ob:Nat) (hob:ob<s.l.length) (hs:s.l.length<=1759218604390) (hc: ∀x∈s.l,Ih x): ∀(k i:Nat) (acc:List D),i+k=ob->acc.length=i->
 Tot 9056 [(ob:Int),enc s,enc (dL acc),(i:Int)] (·= Ie s.l[ob]::(ob:Int)::enc (dL (acc++((s.l.drop i).take k).map nM++ph::(s.l.drop (ob+1)).map nM))::JI s.l[ob])
 |0,i,acc,h1,h2=>by
  obtain rfl:i=ob:=by omega
  have:=ajN s i hob hs hc acc h2;simpa using this
 |k+1,i,acc,h1,h2=>by
  have hi:i<s.l.length:=by omega
  have hd:s.l.drop i=s.l[i]::s.l.drop (i+1):=aHt hi;have ih:=ahead s ob hob hs hc k (i+1) (acc++ [nM s.l[i]]) (by omega) (by simp [h2]);have w:=aX (n:=i) (by omega);have c0: ¬(i:Int)=(ob:Int):=by omega
  have c1:(i:Int)<(s.l.length:Int):=by omega
  have c2: ¬((i:Int)<0):=by omega
  have c3:(acc.length:Int)<1759218604440:=by omega
  obtain⟨q4,q5⟩:=hc _ (aHk hi)
  have hap:acc++((s.l.drop i).take (k+1)).map nM=acc++ [nM s.l[i]]++((s.l.drop (i+1)).take k).map nM:=by rw [hd,aIc,aHo,aH3,aH9]
  rw [<- hap] at ih;refine Tot.of ?_;rw [X5];have hat:=bF hi;clear hap hd;generalize s.l[i]=x at *;have q4:((x.hd 4).l.length:Int)<17592186044416:=by omega
  have q5:((x.hd 5).l.length:Int)<17592186044416:=by omega
  by_cases r4:((x.hd 4).l.length:Int)=0<;>by_cases r5:((x.hd 5).l.length:Int)=0<;>
  ·have e:nM x=dL [.i (x.hd 0).n,.i (x.hd 1).n,.i (if (x.hd 2).n=0 then 0 else 1),.i (x.hd 3).n,zD (x.hd 4),zD (x.hd 5)]:=rfl;unfold zD at e;simp only [r4,r5,if_true,if_false] at e;rw [e] at ih
   try rw [e]
   simp only [QJ,zz,c0,c1,c2,c3,w,hat,aA,q4,q5,r4,r5];exact .jump ih
theorem Yd (s:D) (ob:Nat) (hob:ob<s.l.length) (hs:s.l.length<=1759218604390) (hc: ∀x∈s.l,Ih x) :
 L 9050 [(ob:Int),enc s]=some (Ie s.l[ob]::(ob:Int)::enc (dL ((s.l.take ob).map nM++ph::(s.l.drop (ob+1)).map nM))::JI s.l[ob]):=by
 have:Tot 9050 [(ob:Int),enc s] (·= Ie s.l[ob]::(ob:Int)::enc (dL ((s.l.take ob).map nM++ph::(s.l.drop (ob+1)).map nM))::JI s.l[ob]):=by
  refine Tot.of ?_;rw [apM];simp only [acA,zz];refine .jump (Tot.of ?_);have hi:0<s.l.length:=by omega
  have c1:(0:Int)<(s.l.length:Int):=by omega
  have hat:s.at 0=s.l[0]:=bF hi
  have hd:s.l=s.l[0]::s.l.drop 1:=by have:=aHt hi;simpa using this
  obtain⟨q4,q5⟩:=hc _ (aHk hi);rw [apL];by_cases h0:ob=0
  ·subst h0;have t2:=fun a b c d=>Md s 0 hs hc a b c d (s.l.length-1) 1 [ph] (by omega) rfl (by omega);have t3:=fun a b c d e=>Mc s 0 hs hc a b c d e (s.l.length-1) 1 [ph] (by omega) rfl (by omega);have t4:=fun a b c d e=>L9 s 0 hs hc a b c d e (s.l.length-1) 1 [ph] (by omega) rfl (by omega);have t5:=fun a b c d e f=>L8 s 0 hs hc a b c d e f (s.l.length-1) 1 [ph] (by omega) rfl (by omega);rw [aH9] at t2 t3 t4 t5;rw [aJG,aIl,aHx];have c0:(0:Int)=((0:Nat):Int):=rfl;unfold Ie JI;clear hd;generalize s.l[0]=x at *;have q4:((x.hd 4).l.length:Int)<17592186044416:=by omega
   have q5:((x.hd 5).l.length:Int)<17592186044416:=by omega
   by_cases r4:((x.hd 4).l.length:Int)=0<;>by_cases r5:((x.hd 5).l.length:Int)=0<;>
   ·simp only [QK,zz,c1,hat,r4,r5,q4,q5,zF,aHx,<- c0]
    first |exact .jump (t2 _ _ _ _)|exact .jump (t3 _ _ _ _ _)|exact .jump (t4 _ _ _ _ _)|exact .jump (t5 _ _ _ _ _ _)
  ·have c0: ¬(0:Int)=(ob:Int):=by omega
   have ih:=ahead s ob hob hs hc (ob-1) 1 [nM s.l[0]] (by omega) rfl
   have hap:(s.l.take ob).map nM= [nM s.l[0]]++((s.l.drop 1).take (ob-1)).map nM:=by
    obtain⟨m,rfl⟩ : ∃m,ob=m+1:=⟨ob-1,by omega⟩
    conv=>lhs; rw [hd]
    rw [aIc,aHo,aH9];rfl
   rw [<- hap] at ih;clear hap hd;generalize s.l[0]=x at *;have q4:((x.hd 4).l.length:Int)<17592186044416:=by omega
   have ih:Tot 9056 [(ob:Int),enc s,enc (dL [nM x]),1] _:=ih;have q5:((x.hd 5).l.length:Int)<17592186044416:=by omega
   by_cases r4:((x.hd 4).l.length:Int)=0<;>by_cases r5:((x.hd 5).l.length:Int)=0<;>
   ·have e:nM x=dL [.i (x.hd 0).n,.i (x.hd 1).n,.i (if (x.hd 2).n=0 then 0 else 1),.i (x.hd 3).n,zD (x.hd 4),zD (x.hd 5)]:=rfl;unfold zD at e;simp only [r4,r5,if_true,if_false] at e;rw [e] at ih
    try rw [e]
    simp only [QK,zz,c0,c1,hat,q4,q5,zF,aHx,r4,r5];exact .jump ih
 obtain⟨ys,h,rfl⟩:=this;exact h
structure CEq (cs s:D) (obj:Int):Prop where
 len:cs.l.length=s.l.length
 ats: ∀i:Nat,(i:Int)≠obj->TEq (cs.at (i:Int)) (s.at (i:Int))
 six: ∀i:Nat,(i:Int)≠obj->i<s.l.length->∃a b c d e f,cs.at (i:Int)=dL [a,b,c,d,e,f]/\∃a' b' c' d' e' f',s.at (i:Int)=dL [a',b',c',d',e',f']
theorem VY {cs s:D} {obj:Int} (C:CEq cs s obj) (h0:0<=obj) {x y:D} (hx:TEq x y):FM (dL (dV cs.l obj x)) (dL (dV s.l obj y)):=by
 refine⟨by rw [aA,aA,gK,gK]; exact C.len.symm,fun i=>?_⟩;by_cases hz:(i:Int)=obj
 ·subst hz;by_cases hi:i<s.l.length
  ·have e1:(dL (dV cs.l (i:Int) x)).at (i:Int)=x:=Jt (by rw [aA]; exact yV (by have:=C.len; omega));have e2:(dL (dV s.l (i:Int) y)).at (i:Int)=y:=Jt (by rw [aA]; exact yV hi);rw [e1,e2];exact hx
  ·have e1:(dL (dV cs.l (i:Int) x)).at (i:Int)= .i 0:=by rw [gU,aA,aH2 (by rw [gK]; have:=C.len; omega)]; rfl
   have e2:(dL (dV s.l (i:Int) y)).at (i:Int)= .i 0:=by rw [gU,aA,aH2 (by rw [gK]; omega)]; rfl
   rw [e1,e2];exact .rfl' _
 ·have e1:(dL (dV cs.l obj x)).at (i:Int)=cs.at (i:Int):=by rw [gU,gU,aA,qO hz]
  have e2:(dL (dV s.l obj y)).at (i:Int)=s.at (i:Int):=by rw [gU,gU,aA,qO hz]
  rw [e1,e2];exact C.ats i hz
theorem ajP {x y:D} (h:TEq x y) (hx: ∃a b c d e f,x=dL [a,b,c,d,e,f]) (hy: ∃a b c d e f,y=dL [a,b,c,d,e,f]) (q:Int):TEq (dL (dV x.l 0 (.i q))) (dL (dV y.l 0 (.i q))):=by obtain⟨a,b,c,d,e,f,rfl⟩:=hx;obtain⟨a',b',c',d',e',f',rfl⟩:=hy;obtain⟨_,q1,q2,q3,q4,q5⟩:=h;rw [aA,aA];exact⟨rfl,q1,q2,q3,q4,q5⟩
theorem axQ {cs s:D} {obj:Int} (C:CEq cs s obj) {M:Nat} (hM:(M:Int)≠obj) (hMl:M<s.l.length) (q:Int):CEq (dL (dV cs.l (M:Int) (dL (dV (cs.at (M:Int)).l 0 (.i q))))) (dL (dV s.l (M:Int) (dL (dV (s.at (M:Int)).l 0 (.i q))))) obj:=by
 have hMc:M<cs.l.length:=by have:=C.len; omega
 obtain⟨a,b,c,d,e,f,hx,a',b',c',d',e',f',hy⟩:=C.six M hM hMl;have e1:(dL (dV cs.l (M:Int) (dL (dV (cs.at (M:Int)).l 0 (.i q))))).at (M:Int)=dL (dV (cs.at (M:Int)).l 0 (.i q)):=Jt (by rw [aA]; exact yV hMc);have e2:(dL (dV s.l (M:Int) (dL (dV (s.at (M:Int)).l 0 (.i q))))).at (M:Int)=dL (dV (s.at (M:Int)).l 0 (.i q)):=Jt (by rw [aA]; exact yV hMl);have n1: ∀{i:Nat},¬(i:Int)=(M:Int)->(dL (dV cs.l (M:Int) (dL (dV (cs.at (M:Int)).l 0 (.i q))))).at (i:Int)=cs.at (i:Int):=fun hz=>by rw [gU,aA,qO hz]; rfl
 have n2: ∀{i:Nat},¬(i:Int)=(M:Int)->(dL (dV s.l (M:Int) (dL (dV (s.at (M:Int)).l 0 (.i q))))).at (i:Int)=s.at (i:Int):=fun hz=>by rw [gU,aA,qO hz]; rfl
 refine⟨by rw [aA,aA,gK,gK]; exact C.len,fun i hi=>?_,fun i hi hil=>?_⟩
 ·by_cases hz:(i:Int)=(M:Int)
  ·rw [hz,e1,e2];exact ajP (C.ats M hM) ⟨a,b,c,d,e,f,hx⟩ ⟨a',b',c',d',e',f',hy⟩ q
  ·rw [n1 hz,n2 hz];exact C.ats i hi
 ·rw [aA,gK] at hil;by_cases hz:(i:Int)=(M:Int)
  ·rw [hz,e1,e2,hx,hy,aA,aA];exact⟨_,_,_,_,_,_,rfl,_,_,_,_,_,_,rfl⟩
  ·rw [n1 hz,n2 hz];exact C.six i hi hil
def resT (s:D) (th op obj M:Int):Act->List Int->Prop
 | .blk,ys=> ∃s':D,FM s' s/\ys= [enc s',0,0,0,0,0,0]
 | .mis,ys=> ∃s':D,FM s' s/\ys= [enc s',th,27,obj,IntKind.i64.wrap op,0,2]
 | .res o c dn g r v m a oc,ys=> ∃s':D,FM s' (PX s obj M (.res o c dn g r v m a oc))/\ys= [enc s',th,op,obj,a,0,oc]
theorem lN {s cs:D} {th op obj M o c dn g a oc:Int} {r v r' v':D} (C:CEq cs s obj) (h0:0<=obj) (b:Int) (hb:b=(if dn=0 then 0 else 1)) (hr:r'.l=r.l) (hv:v'.l=v.l) :
 resT s th op obj M (.res o c dn g r v none a oc) [enc (dL (dV cs.l obj (dL [.i o,.i c,.i b,.i g,r',v']))),th,op,obj,a,0,oc]:=by
 subst hb;exact⟨_,VY C h0 (Iy hr hv),rfl⟩
theorem BP {s cs:D} {th op obj M o c dn g a oc q:Int} {r v r' v':D} (C:CEq cs s obj) (h0:0<=obj) (m0:0<=M) (m1:M<(s.l.length:Int)) (m2:M≠obj) (hr:r'.l=r.l) (hv:v'.l=v.l) :
 resT s th op obj M (.res o c dn g r v (some q) a oc) [enc (dL (dV (dV cs.l M (dL (dV (cs.at M).l 0 (.i q)))) obj (dL [.i o,.i c,.i (if dn=0 then 0 else 1),.i g,r',v']))),th,op,obj,a,0,oc]:=by
 obtain⟨m,rfl⟩ : ∃m:Nat,M=(m:Int):=⟨M.toNat,by omega⟩;have:=VY (axQ C m2 (by omega) q) h0 (Iy (o:=o) (c:=c) (dn:=if dn=0 then 0 else 1) (g:=g) hr hv);rw [aA,aA] at this;exact⟨_,this,rfl⟩
theorem ajE {t:Int} {a:D} {l:List D} (h:a.n=t):wo t (a::l)=wo t l:=by unfold wo;rw [List.filter_cons,aHc (by simp [h])]
theorem ajD {t:Int} {a:D} {l:List D} (h: ¬a.n=t):wo t (a::l)=a::wo t l:=by unfold wo;rw [List.filter_cons,aHd (by simp [h])]
theorem yE (t:Int):L 20000 [t]=some [0,t]:=by
 have:Tot 20000 [t] (·= [0,t]):=by refine Tot.of ?_;rw [aqY];simp only [Y4,zz];refine .jump (Tot.of ?_);rw [aqX];simp only [Y3,zz];exact .out rfl
 obtain⟨ys,h,rfl⟩:=this;exact h
theorem zG (r:D) (t:Int) (hl:r.l.length<17592186044415) (hn: ∀x∈r.l,x= .i x.n): ∀(k i:Nat) (acc:List D),i+k=r.l.length->acc.length<=i->
 Tot 20052 [enc r,t,enc (dL acc),(i:Int)] (·= [1,enc r,t,enc (dL (acc++wo t (r.l.drop i)))])
 |0,i,acc,h1,h2=>by
  have c1: ¬(i:Int)<(r.l.length:Int):=by omega
  refine Tot.of ?_;rw [aaW,aHE (by omega)];simp only [Uh,zz,c1];exact .out (by simp [wo])
 |k+1,i,acc,h1,h2=>by
  have hi:i<r.l.length:=by omega
  have hd:r.l.drop i=r.l[i]::r.l.drop (i+1):=aHt hi;have w:=aX (n:=i) (by omega);have c1:(i:Int)<(r.l.length:Int):=by omega
  have c2: ¬((i:Int)<0):=by omega
  have c3:(acc.length:Int)<17592186044415:=by omega
  have i1:=zG r t hl hn k (i+1) acc (by omega) (by omega);have i2:=zG r t hl hn k (i+1) (acc++ [r.l[i]]) (by omega) (by simp; omega);have hx:=hn _ (aHk hi);refine Tot.of ?_;rw [aaW,hd];simp only [Uh,zz,c1,c2,c3,w,bF hi,aA];rw [<- hx];refine .ite (fun h=> .jump ?_) fun h=> .jump ?_
  ·have e:wo t (r.l[i]::r.l.drop (i+1))=wo t (r.l.drop (i+1)):=ajE h;rw [e];exact i1
  ·have e:wo t (r.l[i]::r.l.drop (i+1))=r.l[i]::wo t (r.l.drop (i+1)):=ajD h;rw [e];rw [aH3,aH9] at i2;exact i2
def woA (r:D) (t:Int):List Int:=if wo t r.l= [] then [0,enc r,t] else [1,enc r,t,enc (dL (wo t r.l))]
theorem Es (r:D) (t:Int) (hl:r.l.length<17592186044415) (hn: ∀x∈r.l,x= .i x.n): ∀(k i:Nat),i+k=r.l.length->
 Tot 20051 [enc r,t,(i:Int)] (·= (if wo t (r.l.drop i)= [] then [0,enc r,t] else [1,enc r,t,enc (dL (wo t (r.l.drop i)))]))
 |0,i,h1=>by
  have c1: ¬(i:Int)<(r.l.length:Int):=by omega
  refine Tot.of ?_;rw [aaX,aHE (by omega)];simp only [Ui,zz,c1];exact .out (by simp [wo])
 |k+1,i,h1=>by
  have hi:i<r.l.length:=by omega
  have hd:r.l.drop i=r.l[i]::r.l.drop (i+1):=aHt hi;have w:=aX (n:=i) (by omega);have c1:(i:Int)<(r.l.length:Int):=by omega
  have c2: ¬((i:Int)<0):=by omega
  have i1:=Es r t hl hn k (i+1) (by omega);have i2:=zG r t hl hn k (i+1) [r.l[i]] (by omega) (by simp);have hx:=hn _ (aHk hi);refine Tot.of ?_;rw [aaX,hd];simp only [Ui,zz,c1,c2,w,bF hi,zF,aHx];rw [<- hx];refine .ite (fun h=> .jump ?_) fun h=> .jump ?_
  ·have e:wo t (r.l[i]::r.l.drop (i+1))=wo t (r.l.drop (i+1)):=ajE h;rw [e];exact i1
  ·have e:wo t (r.l[i]::r.l.drop (i+1))=r.l[i]::wo t (r.l.drop (i+1)):=ajD h;rw [e,aHc (by simp)];exact i2
theorem zH (r:D) (t:Int) (hl:r.l.length<17592186044415) (hn: ∀x∈r.l,x= .i x.n):L 20050 [enc r,t]=some (woA r t):=by
 have:Tot 20050 [enc r,t] (·= woA r t):=by refine Tot.of ?_;rw [aqW];simp only [Y2,zz];exact .jump (Es r t hl hn r.l.length 0 (by omega))
 obtain⟨ys,h,rfl⟩:=this;exact h
theorem YT: ∀(l:List D) (t:Int) (k:Nat) (hk:k<l.length),(l.map D.n).Nodup->(l[k]).n=t->wo t l=l.take k++l.drop (k+1)
 |[],_,_,hk,_,_=>by simp at hk
 |a::l,t,0,_,hn,h=>by simp only [List.getElem_cons_zero] at h;simp only [aHo,List.nodup_cons] at hn;have: ∀x∈l,x.n≠t:=fun x hx q=>hn.1 (by rw [h,<- q]; exact aJo hx);rw [ajE h,Dv this];rfl
 |a::l,t,k+1,hk,hn,h=>by simp only [List.getElem_cons_succ] at h;simp only [aHo,List.nodup_cons] at hn;have hne:a.n≠t:=fun q=>hn.1 (by rw [q,<- h]; exact aJo (aHk _));have ih:=YT l t k (by simpa using hk) hn.2 h;rw [ajD hne,ih];rfl
structure RH (d0 d1 s cs s2:D) (th op obj arg tries o c dn g:Int) (r v:D):Prop where
 Lm:L 3950 [enc s]=some [enc s2]
 hs2:FM s2 s
 C:CEq cs s obj
 hR:L 3900 [enc d0,enc d1,enc s]=some [1]
 uD:0<=th
 mF:th<(d1.l.length:Int)
 jY:0<=obj
 lW:obj<(s.l.length:Int)
 hlen:s.l.length=d0.l.length
 hk:L 4150 [op]=some [((d0.at obj).hd 0).n]
 hr:(r.l.length:Int)<17592186044415
 hv:(v.l.length:Int)<17592186044415
 hn: ∀x∈r.l,x= .i x.n
 nd:(r.l.map D.n).Nodup
 ho: -1<=o
 hc:oG .i64 c
 hM:op=12\/op=24->0<=Mx d0 obj/\Mx d0 obj<(s.l.length:Int)/\Mx d0 obj≠obj/\((cs.at (Mx d0 obj)).hd 0).n=Mo d0 s obj/\-1<=Mo d0 s obj
 h7:op=17->0<=c/\c<=1099511627776/\oG .i64 arg
theorem fV {r:D} (h:r.l= []):(D.i 1).l=r.l:=by rw [h]; rfl
theorem fH {r:D} (h:r.l= []):(D.i 2).l=r.l:=by rw [h]; rfl
set_option maxHeartbeats 20000000 in
theorem NH {d0 d1 s cs s2:D} {th op obj arg tries o c dn g:Int} {r v:D} (hop:op=1\/op=2\/op=3\/op=4\/op=5\/op=6\/op=7\/op=8\/op=9\/op=10\/op=11\/op=13\/op=14\/op=15\/op=16\/op=18\/op=19\/op=20\/op=21\/op=22\/op=23\/op=25\/op=26) (H:RH d0 d1 s cs s2 th op obj arg tries o c dn g r v) (hr0:r.l= []) (hv0:v.l= []) (hcp:L 9050 [obj,enc s]=some [1,obj,enc cs,o,c,dn,g]) :
 Tot 4000 [enc d0,enc d1,enc s,th,op,obj,arg,tries] (resT s th op obj (Mx d0 obj) (act (Mx d0 obj) (Mo d0 s obj) th op arg tries o c dn g r v)):=by
 obtain⟨Lm,hs2,C,hR,uD,mF,jY,lW,hlen,hk,hr,hv,hn,nd,ho,hc,hM,h7⟩:=H;have a1: ¬th<0:=by omega
 have a2: ¬obj<0:=by omega
 have a3:obj<(d0.l.length:Int):=by omega
 have a4:obj<(cs.l.length:Int):=by rw [C.len]; exact lW
 clear hM h7;have p0:=mX hr0 th;have b0:(r.l.length:Int)=0:=by rw [hr0]; rfl
 have bv0:(v.l.length:Int)=0:=by rw [hv0]; rfl
 have n2:L 4400 [th,enc (.i 2)]=some [-1]:=AX (.i 2) th (by decide);refine Tot.of ?_;rw [oV]
 rcases hop with rfl|rfl|rfl|rfl|rfl|rfl|rfl|rfl|rfl|rfl|rfl|rfl|rfl|rfl|rfl|rfl|rfl|rfl|rfl|rfl|rfl|rfl|rfl<;>
 ·simp only [nP,zz,Int.reduceEq,Int.reduceLT,aHi,a1,mF,a2,a3,a4,hcp,hR,hk,Lm,hr,hv,n2,yE];simp only [act,Int.reduceEq,if_true,if_false,p0,b0,bv0]
  repeat' first |(exfalso; omega)|(refine .out ?_; (repeat first |rw [aHd (by omega)]|rw [aHc (by omega)]); first |exact⟨s2,hs2,rfl⟩|exact lN C jY _ (by first |rfl|simp [*]) (by (first |rfl|exact fH hr0|exact fV hr0|exact fH hv0|exact fV hv0|(rw [hr0]; rfl)|(rw [hv0]; rfl)|(rw [fJ hr0]; rfl)|(rw [hw]; rfl)|(rw [aH,<- hx (by omega),hw]; rfl)|(rw [aH,<- hx (by omega),aA])|(simp only [aA,aH]; first |exact hx1|exact hx2|rfl))) (by (first |rfl|exact fH hr0|exact fV hr0|exact fH hv0|exact fV hv0|(rw [hr0]; rfl)|(rw [hv0]; rfl)|(rw [fJ hr0]; rfl)|(rw [hw]; rfl)|(rw [aH,<- hx (by omega),hw]; rfl)|(rw [aH,<- hx (by omega),aA])|(simp only [aA,aH]; first |exact hx1|exact hx2|rfl))))|refine .ite (fun _=>?_) (fun _=>?_)
set_option maxHeartbeats 20000000 in
theorem oG3 {d0 d1 s cs s2:D} {th op obj arg tries o c dn g:Int} {r v:D} (hop:op=5\/op=7\/op=8\/op=14) (H:RH d0 d1 s cs s2 th op obj arg tries o c dn g r v) (hr0:0<r.l.length) (hv0:v.l= []) (hcp:L 9050 [obj,enc s]=some [3,obj,enc cs,o,c,dn,g,enc r]) :
 Tot 4000 [enc d0,enc d1,enc s,th,op,obj,arg,tries] (resT s th op obj (Mx d0 obj) (act (Mx d0 obj) (Mo d0 s obj) th op arg tries o c dn g r v)):=by
 obtain⟨Lm,hs2,C,hR,uD,mF,jY,lW,hlen,hk,hr,hv,hn,nd,ho,hc,hM,h7⟩:=H;have a1: ¬th<0:=by omega
 have a2: ¬obj<0:=by omega
 have a3:obj<(d0.l.length:Int):=by omega
 have a4:obj<(cs.l.length:Int):=by rw [C.len]; exact lW
 clear hM h7;have p1:=gG r th;have b0:0<(r.l.length:Int):=by omega
 have n2:=AX r th (by omega);refine Tot.of ?_;rw [oV]
 rcases hop with rfl|rfl|rfl|rfl<;>
 ·simp only [nP,zz,Int.reduceEq,Int.reduceLT,aHi,a1,mF,a2,a3,a4,hcp,hR,hk,Lm,hr,hv,n2];simp only [act,Int.reduceEq,if_true,if_false]
  repeat' first |(exfalso; omega)|(refine .out ?_; (repeat first |rw [aHd (by omega)]|rw [aHc (by omega)]); first |exact⟨s2,hs2,rfl⟩|exact lN C jY _ (by first |rfl|simp [*]) (by (first |rfl|exact fH hr0|exact fV hr0|exact fH hv0|exact fV hv0|(rw [hr0]; rfl)|(rw [hv0]; rfl)|(rw [fJ hr0]; rfl)|(rw [hw]; rfl)|(rw [aH,<- hx (by omega),hw]; rfl)|(rw [aH,<- hx (by omega),aA])|(simp only [aA,aH]; first |exact hx1|exact hx2|rfl))) (by (first |rfl|exact fH hr0|exact fV hr0|exact fH hv0|exact fV hv0|(rw [hr0]; rfl)|(rw [hv0]; rfl)|(rw [fJ hr0]; rfl)|(rw [hw]; rfl)|(rw [aH,<- hx (by omega),hw]; rfl)|(rw [aH,<- hx (by omega),aA])|(simp only [aA,aH]; first |exact hx1|exact hx2|rfl))))|refine .ite (fun _=>?_) (fun _=>?_)
set_option maxHeartbeats 1000000 in
theorem aEp {d0 d1 s cs s2:D} {th obj arg tries o c dn g:Int} {r v:D} (H:RH d0 d1 s cs s2 th 12 obj arg tries o c dn g r v) (hr0:r.l= []) (hv0:v.l= []) (hcp:L 9050 [obj,enc s]=some [1,obj,enc cs,o,c,dn,g]) :
 Tot 4000 [enc d0,enc d1,enc s,th,12,obj,arg,tries] (resT s th 12 obj (Mx d0 obj) (act (Mx d0 obj) (Mo d0 s obj) th 12 arg tries o c dn g r v)):=by
 obtain⟨Lm,hs2,C,hR,uD,mF,jY,lW,hlen,hk,hr,hv,hn,nd,ho,hc,hM,h7⟩:=H;have a1: ¬th<0:=by omega
 have a2: ¬obj<0:=by omega
 have a3:obj<(d0.l.length:Int):=by omega
 have a4:obj<(cs.l.length:Int):=by rw [C.len]; exact lW
 have p0:=mX hr0 th;have b0:(r.l.length:Int)=0:=by rw [hr0]; rfl
 have n2:L 4400 [th,enc (.i 2)]=some [-1]:=AX (.i 2) th (by decide);obtain⟨m0,m1,m2,m3,m4⟩:=hM (by omega);have a5: ¬Mx d0 obj<0:=by omega
 have a6:Mx d0 obj<(cs.l.length:Int):=by rw [C.len]; exact m1
 refine Tot.of ?_;rw [oV];simp only [nP,zz,Int.reduceEq,Int.reduceLT,aHi,a1,mF,a2,a3,a4,hcp,hR,hk,Lm,hr,hv,aA,n2,yE,a5,a6,m2,m3];simp only [act,Int.reduceEq,if_true,if_false,p0,b0]
 repeat' first |(exfalso; omega)|(refine .out ?_; (repeat first |rw [aHd (by omega)]|rw [aHc (by omega)]); first |exact⟨s2,hs2,rfl⟩|exact lN C jY _ (by first |rfl|simp [*]) (by (first |rfl|exact fH hr0|exact fV hr0|exact fH hv0|exact fV hv0|(rw [hr0]; rfl)|(rw [hv0]; rfl)|(rw [fJ hr0]; rfl)|(rw [hw]; rfl)|(rw [aH,<- hx (by omega),hw]; rfl)|(rw [aH,<- hx (by omega),aA])|(simp only [aA,aH]; first |exact hx1|exact hx2|rfl))) (by (first |rfl|exact fH hr0|exact fV hr0|exact fH hv0|exact fV hv0|(rw [hr0]; rfl)|(rw [hv0]; rfl)|(rw [fJ hr0]; rfl)|(rw [hw]; rfl)|(rw [aH,<- hx (by omega),hw]; rfl)|(rw [aH,<- hx (by omega),aA])|(simp only [aA,aH]; first |exact hx1|exact hx2|rfl)))|exact BP C jY m0 m1 m2 (by (first |rfl|exact fH hr0|exact fV hr0|exact fH hv0|exact fV hv0|(rw [hr0]; rfl)|(rw [hv0]; rfl)|(rw [fJ hr0]; rfl)|(rw [hw]; rfl)|(rw [aH,<- hx (by omega),hw]; rfl)|(rw [aH,<- hx (by omega),aA])|(simp only [aA,aH]; first |exact hx1|exact hx2|rfl))) (by (first |rfl|exact fH hr0|exact fV hr0|exact fH hv0|exact fV hv0|(rw [hr0]; rfl)|(rw [hv0]; rfl)|(rw [fJ hr0]; rfl)|(rw [hw]; rfl)|(rw [aH,<- hx (by omega),hw]; rfl)|(rw [aH,<- hx (by omega),aA])|(simp only [aA,aH]; first |exact hx1|exact hx2|rfl))))|refine .ite (fun _=>?_) (fun _=>?_)|(exfalso; omega)
set_option maxHeartbeats 1000000 in
theorem aEm {d0 d1 s cs s2:D} {th obj arg tries o c dn g:Int} {r v:D} (H:RH d0 d1 s cs s2 th 17 obj arg tries o c dn g r v) (hr0:r.l= []) (hv0:v.l= []) (hcp:L 9050 [obj,enc s]=some [1,obj,enc cs,o,c,dn,g]) :
 Tot 4000 [enc d0,enc d1,enc s,th,17,obj,arg,tries] (resT s th 17 obj (Mx d0 obj) (act (Mx d0 obj) (Mo d0 s obj) th 17 arg tries o c dn g r v)):=by
 obtain⟨Lm,hs2,C,hR,uD,mF,jY,lW,hlen,hk,hr,hv,hn,nd,ho,hc,hM,h7⟩:=H;have a1: ¬th<0:=by omega
 have a2: ¬obj<0:=by omega
 have a3:obj<(d0.l.length:Int):=by omega
 have a4:obj<(cs.l.length:Int):=by rw [C.len]; exact lW
 have p0:=mX hr0 th;have b0:(r.l.length:Int)=0:=by rw [hr0]; rfl
 have n2:L 4400 [th,enc (.i 2)]=some [-1]:=AX (.i 2) th (by decide);obtain⟨c0,c1,c2⟩:=h7 rfl;have w1:IntKind.i64.wrap (0-c)=0-c:=jX (by omega) (by omega);have w2:IntKind.i64.wrap (1099511627776-c)=1099511627776-c:=jX (by omega) (by omega);have w3: -1099511627776<=arg->arg<=1099511627776->IntKind.i64.wrap (c+arg)=c+arg:=fun _ _=>jX (by omega) (by omega);refine Tot.of ?_;rw [oV];simp only [nP,zz,Int.reduceEq,Int.reduceLT,aHi,a1,mF,a2,a3,a4,hcp,hR,hk,Lm,hr,hv,n2,yE];simp only [act,Int.reduceEq,if_true,if_false,p0,b0,w1,w2]
 repeat' first |(exfalso; omega)|(refine .out ?_; (repeat first |rw [aHd (by omega)]|rw [aHc (by omega)]); first |exact⟨s2,hs2,rfl⟩|exact lN C jY _ (by first |rfl|simp [*]) (by (first |rfl|exact fH hr0|exact fV hr0|exact fH hv0|exact fV hv0|(rw [hr0]; rfl)|(rw [hv0]; rfl)|(rw [fJ hr0]; rfl)|(rw [hw]; rfl)|(rw [aH,<- hx (by omega),hw]; rfl)|(rw [aH,<- hx (by omega),aA])|(simp only [aA,aH]; first |exact hx1|exact hx2|rfl))) (by (first |rfl|exact fH hr0|exact fV hr0|exact fH hv0|exact fV hv0|(rw [hr0]; rfl)|(rw [hv0]; rfl)|(rw [fJ hr0]; rfl)|(rw [hw]; rfl)|(rw [aH,<- hx (by omega),hw]; rfl)|(rw [aH,<- hx (by omega),aA])|(simp only [aA,aH]; first |exact hx1|exact hx2|rfl))))|refine .ite (fun _=>?_) (fun _=>?_)|(exfalso; omega)
set_option maxHeartbeats 1000000 in
theorem aEj {d0 d1 s cs s2:D} {th obj arg tries o c dn g:Int} {r v:D} (H:RH d0 d1 s cs s2 th 24 obj arg tries o c dn g r v) (hr0:r.l= []) (hv0:v.l= []) (hcp:L 9050 [obj,enc s]=some [1,obj,enc cs,o,c,dn,g]) :
 Tot 4000 [enc d0,enc d1,enc s,th,24,obj,arg,tries] (resT s th 24 obj (Mx d0 obj) (act (Mx d0 obj) (Mo d0 s obj) th 24 arg tries o c dn g r v)):=by
 obtain⟨Lm,hs2,C,hR,uD,mF,jY,lW,hlen,hk,hr,hv,hn,nd,ho,hc,hM,h7⟩:=H;have a1: ¬th<0:=by omega
 have a2: ¬obj<0:=by omega
 have a3:obj<(d0.l.length:Int):=by omega
 have a4:obj<(cs.l.length:Int):=by rw [C.len]; exact lW
 have p0:=mX hr0 th;have b0:(r.l.length:Int)=0:=by rw [hr0]; rfl
 have n2:L 4400 [th,enc (.i 2)]=some [-1]:=AX (.i 2) th (by decide);obtain⟨m0,m1,m2,m3,m4⟩:=hM (by omega);have a5: ¬Mx d0 obj<0:=by omega
 have a6:Mx d0 obj<(cs.l.length:Int):=by rw [C.len]; exact m1
 refine Tot.of ?_;rw [oV];simp only [nP,zz,Int.reduceEq,Int.reduceLT,aHi,a1,mF,a2,a3,a4,hcp,hR,hk,Lm,hr,hv,aA,n2,yE,a5,a6,m2,m3];simp only [act,Int.reduceEq,if_true,if_false,p0,b0]
 repeat' first |(exfalso; omega)|(refine .out ?_; (repeat first |rw [aHd (by omega)]|rw [aHc (by omega)]); first |exact⟨s2,hs2,rfl⟩|exact lN C jY _ (by first |rfl|simp [*]) (by (first |rfl|exact fH hr0|exact fV hr0|exact fH hv0|exact fV hv0|(rw [hr0]; rfl)|(rw [hv0]; rfl)|(rw [fJ hr0]; rfl)|(rw [hw]; rfl)|(rw [aH,<- hx (by omega),hw]; rfl)|(rw [aH,<- hx (by omega),aA])|(simp only [aA,aH]; first |exact hx1|exact hx2|rfl))) (by (first |rfl|exact fH hr0|exact fV hr0|exact fH hv0|exact fV hv0|(rw [hr0]; rfl)|(rw [hv0]; rfl)|(rw [fJ hr0]; rfl)|(rw [hw]; rfl)|(rw [aH,<- hx (by omega),hw]; rfl)|(rw [aH,<- hx (by omega),aA])|(simp only [aA,aH]; first |exact hx1|exact hx2|rfl)))|exact BP C jY m0 m1 m2 (by (first |rfl|exact fH hr0|exact fV hr0|exact fH hv0|exact fV hv0|(rw [hr0]; rfl)|(rw [hv0]; rfl)|(rw [fJ hr0]; rfl)|(rw [hw]; rfl)|(rw [aH,<- hx (by omega),hw]; rfl)|(rw [aH,<- hx (by omega),aA])|(simp only [aA,aH]; first |exact hx1|exact hx2|rfl))) (by (first |rfl|exact fH hr0|exact fV hr0|exact fH hv0|exact fV hv0|(rw [hr0]; rfl)|(rw [hv0]; rfl)|(rw [fJ hr0]; rfl)|(rw [hw]; rfl)|(rw [aH,<- hx (by omega),hw]; rfl)|(rw [aH,<- hx (by omega),aA])|(simp only [aA,aH]; first |exact hx1|exact hx2|rfl))))|refine .ite (fun _=>?_) (fun _=>?_)|(exfalso; omega)
set_option maxHeartbeats 1000000 in
theorem aGa {d0 d1 s cs s2:D} {th obj arg tries o c dn g:Int} {r v:D} (H:RH d0 d1 s cs s2 th 6 obj arg tries o c dn g r v) (hr0:0<r.l.length) (hv0:v.l= []) (hcp:L 9050 [obj,enc s]=some [3,obj,enc cs,o,c,dn,g,enc r]) :
 Tot 4000 [enc d0,enc d1,enc s,th,6,obj,arg,tries] (resT s th 6 obj (Mx d0 obj) (act (Mx d0 obj) (Mo d0 s obj) th 6 arg tries o c dn g r v)):=by
 obtain⟨Lm,hs2,C,hR,uD,mF,jY,lW,hlen,hk,hr,hv,hn,nd,ho,hc,hM,h7⟩:=H;have a1: ¬th<0:=by omega
 have a2: ¬obj<0:=by omega
 have a3:obj<(d0.l.length:Int):=by omega
 have a4:obj<(cs.l.length:Int):=by rw [C.len]; exact lW
 have p1:=gG r th;have b0:0<(r.l.length:Int):=by omega
 have n2:=AX r th (by omega);have n3:=zH r th (by omega) hn;unfold woA at n3;have n5:(wo th r.l).length<=r.l.length:=TY th r.l;have n6:((wo th r.l).length:Int)<17592186044415:=by omega
 have hx: ¬place r th<0->wo th r.l=r.l.take (place r th).toNat++r.l.drop ((place r th).toNat+1):=fun h=>by
  rcases nU r th with ⟨h1,_⟩|⟨k,hk,h1,h2,_⟩
  ·omega
  ·rw [h1,aHH];exact YT r.l th k hk nd h2
 by_cases hw:wo th r.l= []
 ·rw [aHd hw] at n3;refine Tot.of ?_;rw [oV];simp only [nP,zz,Int.reduceEq,Int.reduceLT,aHi,a1,mF,a2,a3,a4,hcp,hR,hk,Lm,hr,hv,n2,n3];simp only [act,Int.reduceEq,if_true,if_false]
  repeat' first |(exfalso; omega)|(refine .out ?_; (repeat first |rw [aHd (by omega)]|rw [aHc (by omega)]); first |exact⟨s2,hs2,rfl⟩|exact lN C jY _ (by first |rfl|simp [*]) (by (first |rfl|exact fH hr0|exact fV hr0|exact fH hv0|exact fV hv0|(rw [hr0]; rfl)|(rw [hv0]; rfl)|(rw [fJ hr0]; rfl)|(rw [hw]; rfl)|(rw [aH,<- hx (by omega),hw]; rfl)|(rw [aH,<- hx (by omega),aA])|(simp only [aA,aH]; first |exact (hw▸hx (by omega))|exact hx2|rfl))) (by (first |rfl|exact fH hr0|exact fV hr0|exact fH hv0|exact fV hv0|(rw [hr0]; rfl)|(rw [hv0]; rfl)|(rw [fJ hr0]; rfl)|(rw [hw]; rfl)|(rw [aH,<- hx (by omega),hw]; rfl)|(rw [aH,<- hx (by omega),aA])|(simp only [aA,aH]; first |exact (hw▸hx (by omega))|exact hx2|rfl))))|refine .ite (fun _=>?_) (fun _=>?_)|(exfalso; omega)
 ·rw [aHc hw] at n3;refine Tot.of ?_;rw [oV];simp only [nP,zz,Int.reduceEq,Int.reduceLT,aHi,a1,mF,a2,a3,a4,hcp,hR,hk,Lm,hr,hv,n2,n3,n6];simp only [act,Int.reduceEq,if_true,if_false]
  repeat' first |(exfalso; omega)|(refine .out ?_; (repeat first |rw [aHd (by omega)]|rw [aHc (by omega)]); first |exact⟨s2,hs2,rfl⟩|exact lN C jY _ (by first |rfl|simp [*]) (by (first |rfl|exact fH hr0|exact fV hr0|exact fH hv0|exact fV hv0|(rw [hr0]; rfl)|(rw [hv0]; rfl)|(rw [fJ hr0]; rfl)|(rw [hw]; rfl)|(rw [aH,<- hx (by omega),hw]; rfl)|(rw [aH,<- hx (by omega),aA])|(simp only [aA,aH]; first |exact hx (by omega)|exact hx2|rfl))) (by (first |rfl|exact fH hr0|exact fV hr0|exact fH hv0|exact fV hv0|(rw [hr0]; rfl)|(rw [hv0]; rfl)|(rw [fJ hr0]; rfl)|(rw [hw]; rfl)|(rw [aH,<- hx (by omega),hw]; rfl)|(rw [aH,<- hx (by omega),aA])|(simp only [aA,aH]; first |exact hx (by omega)|exact hx2|rfl))))|refine .ite (fun _=>?_) (fun _=>?_)|(exfalso; omega)
set_option maxHeartbeats 1000000 in
theorem aEo {d0 d1 s cs s2:D} {th obj arg tries o c dn g:Int} {r v:D} (H:RH d0 d1 s cs s2 th 12 obj arg tries o c dn g r v) (hr0:0<r.l.length) (hv0:v.l= []) (hcp:L 9050 [obj,enc s]=some [3,obj,enc cs,o,c,dn,g,enc r]) :
 Tot 4000 [enc d0,enc d1,enc s,th,12,obj,arg,tries] (resT s th 12 obj (Mx d0 obj) (act (Mx d0 obj) (Mo d0 s obj) th 12 arg tries o c dn g r v)):=by
 obtain⟨Lm,hs2,C,hR,uD,mF,jY,lW,hlen,hk,hr,hv,hn,nd,ho,hc,hM,h7⟩:=H;have a1: ¬th<0:=by omega
 have a2: ¬obj<0:=by omega
 have a3:obj<(d0.l.length:Int):=by omega
 have a4:obj<(cs.l.length:Int):=by rw [C.len]; exact lW
 have p1:=gG r th;have b0:0<(r.l.length:Int):=by omega
 have n2:=AX r th (by omega);obtain⟨m0,m1,m2,m3,m4⟩:=hM (by omega);have a5: ¬Mx d0 obj<0:=by omega
 have a6:Mx d0 obj<(cs.l.length:Int):=by rw [C.len]; exact m1
 have n3:=zH r th (by omega) hn;unfold woA at n3;have n5:(wo th r.l).length<=r.l.length:=TY th r.l;have n6:((wo th r.l).length:Int)<17592186044415:=by omega
 by_cases hw:wo th r.l= []
 ·rw [aHd hw] at n3;refine Tot.of ?_;rw [oV];simp only [nP,zz,Int.reduceEq,Int.reduceLT,aHi,a1,mF,a2,a3,a4,hcp,hR,hk,Lm,hr,hv,aA,n2,n3,a5,a6,m2,m3];simp only [act,Int.reduceEq,if_true,if_false]
  repeat' first |(exfalso; omega)|(refine .out ?_; (repeat first |rw [aHd (by omega)]|rw [aHc (by omega)]); first |exact⟨s2,hs2,rfl⟩|exact lN C jY _ (by first |rfl|simp [*]) (by (first |rfl|exact fH hr0|exact fV hr0|exact fH hv0|exact fV hv0|(rw [hr0]; rfl)|(rw [hv0]; rfl)|(rw [fJ hr0]; rfl)|(rw [hw]; rfl)|(rw [aH,<- hx (by omega),hw]; rfl)|(rw [aH,<- hx (by omega),aA])|(simp only [aA,aH]; first |rw [hw]; rfl|exact hx2|rfl))) (by (first |rfl|exact fH hr0|exact fV hr0|exact fH hv0|exact fV hv0|(rw [hr0]; rfl)|(rw [hv0]; rfl)|(rw [fJ hr0]; rfl)|(rw [hw]; rfl)|(rw [aH,<- hx (by omega),hw]; rfl)|(rw [aH,<- hx (by omega),aA])|(simp only [aA,aH]; first |rw [hw]; rfl|exact hx2|rfl)))|exact BP C jY m0 m1 m2 (by (first |rfl|exact fH hr0|exact fV hr0|exact fH hv0|exact fV hv0|(rw [hr0]; rfl)|(rw [hv0]; rfl)|(rw [fJ hr0]; rfl)|(rw [hw]; rfl)|(rw [aH,<- hx (by omega),hw]; rfl)|(rw [aH,<- hx (by omega),aA])|(simp only [aA,aH]; first |rw [hw]; rfl|exact hx2|rfl))) (by (first |rfl|exact fH hr0|exact fV hr0|exact fH hv0|exact fV hv0|(rw [hr0]; rfl)|(rw [hv0]; rfl)|(rw [fJ hr0]; rfl)|(rw [hw]; rfl)|(rw [aH,<- hx (by omega),hw]; rfl)|(rw [aH,<- hx (by omega),aA])|(simp only [aA,aH]; first |rw [hw]; rfl|exact hx2|rfl))))|refine .ite (fun _=>?_) (fun _=>?_)|(exfalso; omega)
 ·rw [aHc hw] at n3;refine Tot.of ?_;rw [oV];simp only [nP,zz,Int.reduceEq,Int.reduceLT,aHi,a1,mF,a2,a3,a4,hcp,hR,hk,Lm,hr,hv,aA,n2,n3,n6,a5,a6,m2,m3];simp only [act,Int.reduceEq,if_true,if_false]
  repeat' first |(exfalso; omega)|(refine .out ?_; (repeat first |rw [aHd (by omega)]|rw [aHc (by omega)]); first |exact⟨s2,hs2,rfl⟩|exact lN C jY _ (by first |rfl|simp [*]) (by (first |rfl|exact fH hr0|exact fV hr0|exact fH hv0|exact fV hv0|(rw [hr0]; rfl)|(rw [hv0]; rfl)|(rw [fJ hr0]; rfl)|(rw [hw]; rfl)|(rw [aH,<- hx (by omega),hw]; rfl)|(rw [aH,<- hx (by omega),aA])|(simp only [aA,aH]; first |exact hx1|exact hx2|rfl))) (by (first |rfl|exact fH hr0|exact fV hr0|exact fH hv0|exact fV hv0|(rw [hr0]; rfl)|(rw [hv0]; rfl)|(rw [fJ hr0]; rfl)|(rw [hw]; rfl)|(rw [aH,<- hx (by omega),hw]; rfl)|(rw [aH,<- hx (by omega),aA])|(simp only [aA,aH]; first |exact hx1|exact hx2|rfl)))|exact BP C jY m0 m1 m2 (by (first |rfl|exact fH hr0|exact fV hr0|exact fH hv0|exact fV hv0|(rw [hr0]; rfl)|(rw [hv0]; rfl)|(rw [fJ hr0]; rfl)|(rw [hw]; rfl)|(rw [aH,<- hx (by omega),hw]; rfl)|(rw [aH,<- hx (by omega),aA])|(simp only [aA,aH]; first |exact hx1|exact hx2|rfl))) (by (first |rfl|exact fH hr0|exact fV hr0|exact fH hv0|exact fV hv0|(rw [hr0]; rfl)|(rw [hv0]; rfl)|(rw [fJ hr0]; rfl)|(rw [hw]; rfl)|(rw [aH,<- hx (by omega),hw]; rfl)|(rw [aH,<- hx (by omega),aA])|(simp only [aA,aH]; first |exact hx1|exact hx2|rfl))))|refine .ite (fun _=>?_) (fun _=>?_)|(exfalso; omega)
set_option maxHeartbeats 1000000 in
theorem aEn {d0 d1 s cs s2:D} {th obj arg tries o c dn g:Int} {r v:D} (H:RH d0 d1 s cs s2 th 13 obj arg tries o c dn g r v) (hr0:0<r.l.length) (hv0:v.l= []) (hcp:L 9050 [obj,enc s]=some [3,obj,enc cs,o,c,dn,g,enc r]) :
 Tot 4000 [enc d0,enc d1,enc s,th,13,obj,arg,tries] (resT s th 13 obj (Mx d0 obj) (act (Mx d0 obj) (Mo d0 s obj) th 13 arg tries o c dn g r v)):=by
 obtain⟨Lm,hs2,C,hR,uD,mF,jY,lW,hlen,hk,hr,hv,hn,nd,ho,hc,hM,h7⟩:=H;have a1: ¬th<0:=by omega
 have a2: ¬obj<0:=by omega
 have a3:obj<(d0.l.length:Int):=by omega
 have a4:obj<(cs.l.length:Int):=by rw [C.len]; exact lW
 have p1:=gG r th;have b0:0<(r.l.length:Int):=by omega
 have n2:=AX r th (by omega);have n3:=zH r th (by omega) hn;have q1:IntKind.i64.wrap ((r.l.length:Int)-1)=(r.l.length:Int)-1:=jX (by omega) (by omega);have q2:IntKind.i64.wrap (1+((r.l.length:Int)-1))=(r.l.length:Int):=by rw [jX (by omega) (by omega)]; omega
 have q3: ¬((r.l.length:Int)-1<0):=by omega
 refine Tot.of ?_;rw [oV];simp only [nP,zz,Int.reduceEq,Int.reduceLT,aHi,a1,mF,a2,a3,a4,hcp,hR,hk,Lm,hr,hv,n2,n3,q1,q2,q3];have hx1:(r.l.take (1+((r.l.length:Int)-1)).toNat).drop 1=r.l.drop 1:=by rw [aIb (by omega)]
 simp only [act,Int.reduceEq,if_true,if_false]
 repeat' first |(exfalso; omega)|(refine .out ?_; (repeat first |rw [aHd (by omega)]|rw [aHc (by omega)]); first |exact⟨s2,hs2,rfl⟩|exact lN C jY _ (by first |rfl|simp [*]) (by (first |rfl|exact fH hr0|exact fV hr0|exact fH hv0|exact fV hv0|(rw [hr0]; rfl)|(rw [hv0]; rfl)|(rw [fJ hr0]; rfl)|(rw [hw]; rfl)|(rw [aH,<- hx (by omega),hw]; rfl)|(rw [aH,<- hx (by omega),aA])|(simp only [aA,aH]; first |exact hx1|exact hx2|rfl))) (by (first |rfl|exact fH hr0|exact fV hr0|exact fH hv0|exact fV hv0|(rw [hr0]; rfl)|(rw [hv0]; rfl)|(rw [fJ hr0]; rfl)|(rw [hw]; rfl)|(rw [aH,<- hx (by omega),hw]; rfl)|(rw [aH,<- hx (by omega),aA])|(simp only [aA,aH]; first |exact hx1|exact hx2|rfl))))|refine .ite (fun _=>?_) (fun _=>?_)|(exfalso; omega)
set_option maxHeartbeats 1000000 in
theorem aEi {d0 d1 s cs s2:D} {th obj arg tries o c dn g:Int} {r v:D} (H:RH d0 d1 s cs s2 th 24 obj arg tries o c dn g r v) (hr0:0<r.l.length) (hv0:v.l= []) (hcp:L 9050 [obj,enc s]=some [3,obj,enc cs,o,c,dn,g,enc r]) :
 Tot 4000 [enc d0,enc d1,enc s,th,24,obj,arg,tries] (resT s th 24 obj (Mx d0 obj) (act (Mx d0 obj) (Mo d0 s obj) th 24 arg tries o c dn g r v)):=by
 obtain⟨Lm,hs2,C,hR,uD,mF,jY,lW,hlen,hk,hr,hv,hn,nd,ho,hc,hM,h7⟩:=H;have a1: ¬th<0:=by omega
 have a2: ¬obj<0:=by omega
 have a3:obj<(d0.l.length:Int):=by omega
 have a4:obj<(cs.l.length:Int):=by rw [C.len]; exact lW
 have p1:=gG r th;have b0:0<(r.l.length:Int):=by omega
 have n2:=AX r th (by omega);have n3:=zH r th (by omega) hn;obtain⟨m0,m1,m2,m3,m4⟩:=hM (by omega);have a5: ¬Mx d0 obj<0:=by omega
 have a6:Mx d0 obj<(cs.l.length:Int):=by rw [C.len]; exact m1
 refine Tot.of ?_;rw [oV];simp only [nP,zz,Int.reduceEq,Int.reduceLT,aHi,a1,mF,a2,a3,a4,hcp,hR,hk,Lm,hr,hv,aA,n2,n3,a5,a6,m2,m3];simp only [act,Int.reduceEq,if_true,if_false]
 repeat' first |(exfalso; omega)|(refine .out ?_; (repeat first |rw [aHd (by omega)]|rw [aHc (by omega)]); first |exact⟨s2,hs2,rfl⟩|exact lN C jY _ (by first |rfl|simp [*]) (by (first |rfl|exact fH hr0|exact fV hr0|exact fH hv0|exact fV hv0|(rw [hr0]; rfl)|(rw [hv0]; rfl)|(rw [fJ hr0]; rfl)|(rw [hw]; rfl)|(rw [aH,<- hx (by omega),hw]; rfl)|(rw [aH,<- hx (by omega),aA])|(simp only [aA,aH]; first |exact hx1|exact hx2|rfl))) (by (first |rfl|exact fH hr0|exact fV hr0|exact fH hv0|exact fV hv0|(rw [hr0]; rfl)|(rw [hv0]; rfl)|(rw [fJ hr0]; rfl)|(rw [hw]; rfl)|(rw [aH,<- hx (by omega),hw]; rfl)|(rw [aH,<- hx (by omega),aA])|(simp only [aA,aH]; first |exact hx1|exact hx2|rfl)))|exact BP C jY m0 m1 m2 (by (first |rfl|exact fH hr0|exact fV hr0|exact fH hv0|exact fV hv0|(rw [hr0]; rfl)|(rw [hv0]; rfl)|(rw [fJ hr0]; rfl)|(rw [hw]; rfl)|(rw [aH,<- hx (by omega),hw]; rfl)|(rw [aH,<- hx (by omega),aA])|(simp only [aA,aH]; first |exact hx1|exact hx2|rfl))) (by (first |rfl|exact fH hr0|exact fV hr0|exact fH hv0|exact fV hv0|(rw [hr0]; rfl)|(rw [hv0]; rfl)|(rw [fJ hr0]; rfl)|(rw [hw]; rfl)|(rw [aH,<- hx (by omega),hw]; rfl)|(rw [aH,<- hx (by omega),aA])|(simp only [aA,aH]; first |exact hx1|exact hx2|rfl))))|refine .ite (fun _=>?_) (fun _=>?_)|(exfalso; omega)
set_option maxHeartbeats 1000000 in
theorem aEl {d0 d1 s cs s2:D} {th obj arg tries o c dn g:Int} {r v:D} (H:RH d0 d1 s cs s2 th 20 obj arg tries o c dn g r v) (hr0:r.l= []) (hv0:0<v.l.length) (hcp:L 9050 [obj,enc s]=some [2,obj,enc cs,o,c,dn,g,enc v]) :
 Tot 4000 [enc d0,enc d1,enc s,th,20,obj,arg,tries] (resT s th 20 obj (Mx d0 obj) (act (Mx d0 obj) (Mo d0 s obj) th 20 arg tries o c dn g r v)):=by
 obtain⟨Lm,hs2,C,hR,uD,mF,jY,lW,hlen,hk,hr,hv,hn,nd,ho,hc,hM,h7⟩:=H;have a1: ¬th<0:=by omega
 have a2: ¬obj<0:=by omega
 have a3:obj<(d0.l.length:Int):=by omega
 have a4:obj<(cs.l.length:Int):=by rw [C.len]; exact lW
 have p0:=mX hr0 th;have b0:(r.l.length:Int)=0:=by rw [hr0]; rfl
 have n2:L 4400 [th,enc (.i 2)]=some [-1]:=AX (.i 2) th (by decide);refine Tot.of ?_;rw [oV];simp only [nP,zz,Int.reduceEq,Int.reduceLT,aHi,a1,mF,a2,a3,a4,hcp,hR,hk,Lm,hr,hv,n2,yE];have bv1:0<(v.l.length:Int):=by omega
 simp only [act,Int.reduceEq,if_true,if_false,p0,b0]
 repeat' first |(exfalso; omega)|(refine .out ?_; (repeat first |rw [aHd (by omega)]|rw [aHc (by omega)]); first |exact⟨s2,hs2,rfl⟩|exact lN C jY _ (by first |rfl|simp [*]) (by (first |rfl|exact fH hr0|exact fV hr0|exact fH hv0|exact fV hv0|(rw [hr0]; rfl)|(rw [hv0]; rfl)|(rw [fJ hr0]; rfl)|(rw [hw]; rfl)|(rw [aH,<- hx (by omega),hw]; rfl)|(rw [aH,<- hx (by omega),aA])|(simp only [aA,aH]; first |exact hx1|exact hx2|rfl))) (by (first |rfl|exact fH hr0|exact fV hr0|exact fH hv0|exact fV hv0|(rw [hr0]; rfl)|(rw [hv0]; rfl)|(rw [fJ hr0]; rfl)|(rw [hw]; rfl)|(rw [aH,<- hx (by omega),hw]; rfl)|(rw [aH,<- hx (by omega),aA])|(simp only [aA,aH]; first |exact hx1|exact hx2|rfl))))|refine .ite (fun _=>?_) (fun _=>?_)|(exfalso; omega)
set_option maxHeartbeats 1000000 in
theorem aEk {d0 d1 s cs s2:D} {th obj arg tries o c dn g:Int} {r v:D} (H:RH d0 d1 s cs s2 th 21 obj arg tries o c dn g r v) (hr0:r.l= []) (hv0:0<v.l.length) (hcp:L 9050 [obj,enc s]=some [2,obj,enc cs,o,c,dn,g,enc v]) :
 Tot 4000 [enc d0,enc d1,enc s,th,21,obj,arg,tries] (resT s th 21 obj (Mx d0 obj) (act (Mx d0 obj) (Mo d0 s obj) th 21 arg tries o c dn g r v)):=by
 obtain⟨Lm,hs2,C,hR,uD,mF,jY,lW,hlen,hk,hr,hv,hn,nd,ho,hc,hM,h7⟩:=H;have a1: ¬th<0:=by omega
 have a2: ¬obj<0:=by omega
 have a3:obj<(d0.l.length:Int):=by omega
 have a4:obj<(cs.l.length:Int):=by rw [C.len]; exact lW
 have p0:=mX hr0 th;have b0:(r.l.length:Int)=0:=by rw [hr0]; rfl
 have n2:L 4400 [th,enc (.i 2)]=some [-1]:=AX (.i 2) th (by decide);have q1:IntKind.i64.wrap ((v.l.length:Int)-1)=(v.l.length:Int)-1:=jX (by omega) (by omega);have q2:IntKind.i64.wrap (1+((v.l.length:Int)-1))=(v.l.length:Int):=by rw [jX (by omega) (by omega)]; omega
 have q3: ¬((v.l.length:Int)-1<0):=by omega
 refine Tot.of ?_;rw [oV];simp only [nP,zz,Int.reduceEq,Int.reduceLT,aHi,a1,mF,a2,a3,a4,hcp,hR,hk,Lm,hr,hv,n2,yE,q1,q2,q3];have bv1:0<(v.l.length:Int):=by omega
 have hx1:(v.l.take (1+((v.l.length:Int)-1)).toNat).drop 1=v.l.drop 1:=by rw [aIb (by omega)]
 simp only [act,Int.reduceEq,if_true,if_false,p0,b0]
 repeat' first |(exfalso; omega)|(refine .out ?_; (repeat first |rw [aHd (by omega)]|rw [aHc (by omega)]); first |exact⟨s2,hs2,rfl⟩|exact lN C jY _ (by first |rfl|simp [*]) (by (first |rfl|exact fH hr0|exact fV hr0|exact fH hv0|exact fV hv0|(rw [hr0]; rfl)|(rw [hv0]; rfl)|(rw [fJ hr0]; rfl)|(rw [hw]; rfl)|(rw [aH,<- hx (by omega),hw]; rfl)|(rw [aH,<- hx (by omega),aA])|(simp only [aA,aH]; first |exact hx1|exact hx2|rfl))) (by (first |rfl|exact fH hr0|exact fV hr0|exact fH hv0|exact fV hv0|(rw [hr0]; rfl)|(rw [hv0]; rfl)|(rw [fJ hr0]; rfl)|(rw [hw]; rfl)|(rw [aH,<- hx (by omega),hw]; rfl)|(rw [aH,<- hx (by omega),aA])|(simp only [aA,aH]; first |exact hx1|exact hx2|rfl))))|refine .ite (fun _=>?_) (fun _=>?_)|(exfalso; omega)
theorem amD (o:Int) (h:oG .u8 o):L 4150 [o]=some [kindOf o]:=by
 have:Tot 4150 [o] (·= [kindOf o]):=by
  have hr:=W9 o;obtain⟨k0,k1⟩:=h;refine Tot.of ?_;rw [azY];simp only [akW,zz,hr];refine .ite (fun h=> .out (by rw [h]; rfl)) fun h1=> .ite (fun h=> .out (by rw [h]; rfl)) fun h2=> .ite (fun h=> .out (by rw [h]; rfl)) fun h3=> .out ?_;refine congrArg (fun x=>[x]) ?_;by_cases hh:1<=o/\o<=23
  ·rw [aHd hh];have:o=1\/o=2\/o=3\/o=4\/o=5\/o=6\/o=7\/o=8\/o=9\/o=10\/o=11\/o=12\/o=13\/o=14\/o=15\/o=16\/o=17\/o=18\/o=19\/o=20\/o=21\/o=22\/o=23:=by omega
   rcases this with rfl|rfl|rfl|rfl|rfl|rfl|rfl|rfl|rfl|rfl|rfl|rfl|rfl|rfl|rfl|rfl|rfl|rfl|rfl|rfl|rfl|rfl|rfl<;>rfl
  ·rw [aHc hh];by_cases hz:o=0
   ·subst hz; rfl
   ·unfold kindOf;rw [aHc (by omega)]
 obtain⟨ys,h,rfl⟩:=this;exact h
theorem asD {s:D} {ob:Nat} (hob:ob<s.l.length) (ht: ∀x∈s.l,oM x):CEq (dL ((s.l.take ob).map nM++ph::(s.l.drop (ob+1)).map nM)) s (ob:Int):=by
 have hlen:((s.l.take ob).map nM++ph::(s.l.drop (ob+1)).map nM).length=s.l.length:=by simp only [aHC,aH0,aHr,aHq,aHI];omega
 have key: ∀i:Nat,i≠ob->((s.l.take ob).map nM++ph::(s.l.drop (ob+1)).map nM)[i]?=(s.l[i]?).map nM:=fun i hi=>by
  rcases aHw i ob with h|h
  ·rw [aJi (by simp only [aH0,aHr]; omega),aHG,List.getElem?_take_of_lt h]
  ·have hl1:((s.l.take ob).map nM).length=ob:=by simp only [aH0,aHr]; omega
   rw [aJh (by omega),hl1];obtain⟨m,rfl⟩ : ∃m,i=ob+1+m:=⟨i-(ob+1),by omega⟩;rw [show ob+1+m-ob=m+1 by omega,aHp,aHG,aIq]
 refine⟨by rw [aA]; exact hlen,fun i hi=>?_,fun i hi hil=>?_⟩
 ·rw [gU,gU,aA,key i (by omega)]
  cases h:s.l[i]? with
  |none=>exact .rfl' _
  |some x=>exact asC (ht _ (aHK h))
 ·obtain⟨a,b,c,d,e,f,hx,_⟩:=ht _ (aHk hil)
  have e1:(dL ((s.l.take ob).map nM++ph::(s.l.drop (ob+1)).map nM)).at (i:Int)=nM s.l[i]:=by rw [gU,aA,key i (by omega),aHu hil];rfl
  have e2:s.at (i:Int)=dL [.i a,.i b,.i c,.i d,e,f]:=by rw [bF hil]; exact hx
  unfold nM at e1;exact⟨_,_,_,_,_,_,e1,_,_,_,_,_,_,e2⟩
theorem anM {cs s:D} {ob:Nat} {o c dn g:Int} {r v r' v':D} (C:CEq cs s (ob:Int)) (hob:ob<s.l.length) (T:Tg (s.at (ob:Int)) o c dn g r v) (hr:r'.l=r.l) (hv:v'.l=v.l) :
 FM (dL (dV cs.l (ob:Int) (dL [.i o,.i c,.i (if dn=0 then 0 else 1),.i g,r',v']))) s:=by
 have e:dV s.l (ob:Int) (s.at (ob:Int))=s.l:=by rw [vY,bF hob,aJ1]
 have hd:(if dn=0 then (0:Int) else 1)=dn:=by rcases T.hd with rfl|rfl<;>rfl
 have:=VY C (by omega) (x:=dL [.i o,.i c,.i (if dn=0 then 0 else 1),.i g,r',v']) (y:=s.at (ob:Int)) (by rw [T.is,hd]; exact Iy hr hv);rw [e] at this;exact⟨by have:=this.len; rwa [aA] at this,fun i=>by have:=this.ats i; rwa [gU (dL s.l),aA] at this⟩
theorem Xj (s:D) (ob:Int) (hob:ob<0\/(s.l.length:Int)<=ob) (hs:s.l.length<=1759218604390) (hc: ∀x∈s.l,Ih x): ∀(k i:Nat) (acc:List D),i+k=s.l.length->acc.length=i->
 Tot 9056 [ob,enc s,enc (dL acc),(i:Int)] (·= [5,ob,enc (dL (acc++(s.l.drop i).map nM))])
 |0,i,acc,h1,h2=>by
  have c1: ¬(i:Int)<(s.l.length:Int):=by omega
  refine Tot.of ?_;rw [X5,aHE (by omega)];simp only [QJ,zz,c1];refine .ite (fun _=> .out (by rw [aIl,aHU])) fun _=> .out (by rw [aIl,aHU])
 |k+1,i,acc,h1,h2=>by
  have hi:i<s.l.length:=by omega
  have hd:s.l.drop i=s.l[i]::s.l.drop (i+1):=aHt hi;have ih:=Xj s ob hob hs hc k (i+1) (acc++ [nM s.l[i]]) (by omega) (by simp [h2]);have w:=aX (n:=i) (by omega);have c0: ¬(i:Int)=ob:=by omega
  have c1:(i:Int)<(s.l.length:Int):=by omega
  have c2: ¬((i:Int)<0):=by omega
  have c3:(acc.length:Int)<1759218604440:=by omega
  obtain⟨q4,q5⟩:=hc _ (aHk hi);rw [aH3,aH9] at ih;refine Tot.of ?_;rw [X5,hd,aHo];have hat:=bF hi;generalize s.l[i]=x at *;have q4:((x.hd 4).l.length:Int)<17592186044416:=by omega
  have q5:((x.hd 5).l.length:Int)<17592186044416:=by omega
  by_cases r4:((x.hd 4).l.length:Int)=0<;>by_cases r5:((x.hd 5).l.length:Int)=0<;>
  ·have e:nM x=dL [.i (x.hd 0).n,.i (x.hd 1).n,.i (if (x.hd 2).n=0 then 0 else 1),.i (x.hd 3).n,zD (x.hd 4),zD (x.hd 5)]:=rfl;unfold zD at e;simp only [r4,r5,if_true,if_false] at e;rw [e] at ih
   try rw [e]
   simp only [QJ,zz,c0,c1,c2,c3,w,hat,aA,q4,q5,r4,r5];exact .jump ih
theorem asF (s:D) (ob:Int) (hob:ob<0\/(s.l.length:Int)<=ob) (hs:s.l.length<=1759218604390) (hc: ∀x∈s.l,Ih x) :
 L 9050 [ob,enc s]=some (if s.l.length=0 then [0,ob] else [5,ob,enc (dL (s.l.map nM))]):=by
 have:Tot 9050 [ob,enc s] (·= (if s.l.length=0 then [0,ob] else [5,ob,enc (dL (s.l.map nM))])):=by
  refine Tot.of ?_;rw [apM];simp only [acA,zz];refine .jump (Tot.of ?_);rw [apL];by_cases hz:s.l.length=0
  ·have c1: ¬(0:Int)<(s.l.length:Int):=by omega
   simp only [QK,zz,c1];refine .ite (fun _=> .out (by rw [aHd hz])) fun _=> .out (by rw [aHd hz])
  ·have hi:0<s.l.length:=by omega
   have c1:(0:Int)<(s.l.length:Int):=by omega
   have c0: ¬(0:Int)=ob:=by omega
   have hat:s.at 0=s.l[0]:=bF hi
   have hd:s.l=s.l[0]::s.l.drop 1:=by have:=aHt hi;simpa using this
   have ih:=Xj s ob hob hs hc (s.l.length-1) 1 [nM s.l[0]] (by omega) rfl;rw [aH9,<- aHo,<- hd] at ih;obtain⟨q4,q5⟩:=hc _ (aHk hi);rw [aHc hz];clear hd;generalize s.l[0]=x at *;have q4:((x.hd 4).l.length:Int)<17592186044416:=by omega
   have q5:((x.hd 5).l.length:Int)<17592186044416:=by omega
   have ih:Tot 9056 [ob,enc s,enc (dL [nM x]),1] _:=ih
   by_cases r4:((x.hd 4).l.length:Int)=0<;>by_cases r5:((x.hd 5).l.length:Int)=0<;>
   ·have e:nM x=dL [.i (x.hd 0).n,.i (x.hd 1).n,.i (if (x.hd 2).n=0 then 0 else 1),.i (x.hd 3).n,zD (x.hd 4),zD (x.hd 5)]:=rfl;unfold zD at e;simp only [r4,r5,if_true,if_false] at e;rw [e] at ih
    try rw [e]
    simp only [QK,zz,c0,c1,hat,q4,q5,zF,aHx,r4,r5];exact .jump ih
 obtain⟨ys,h,rfl⟩:=this;exact h
def BN (s:D) (ys:List Int):Prop:= ∃s':D,FM s' s/\ys= [enc s',0,0,0,0,0,0]
section
variable {d0 d1 s:D} {th op obj arg tries:Int} {n:Nat} (h0:Wd (.sl 3) d0) (h1:Wd (.sl 4) d1) (G:Gs s n) (hn:n<17592186044000) (hop:oG .u8 op)
include h0 h1 G hn hop
theorem aAo:s.l.length<=1759218604390/\(∀x∈s.l,oM x)/\∀x∈s.l,Ih x:=by
 refine⟨?_,G.wd.thing,fun x hx=> ⟨?_,?_⟩⟩
 ·have:=G.wd.room;have e:CZ 7=80:=rfl;rw [e] at this;omega
 ·have:=(G.rows x hx).1; omega
 ·have:=(G.rows x hx).2; omega
set_option maxHeartbeats 8000000 in
theorem amF (A: ¬Acc d0 d1 s th op obj):Tot 4000 [enc d0,enc d1,enc s,th,op,obj,arg,tries] (BN s):=by
 obtain⟨hs,ht,hc⟩:=aAo h0 h1 G hn hop;obtain⟨b,hb,hA,hR,hch⟩:=EU h0 h1 G hn;have hk:=amD op hop;by_cases hob:obj<0\/(s.l.length:Int)<=obj
 ·have hcp:=asF s obj hob hs hc;obtain⟨s3,h3,hs3,e3⟩:=FD hs ht hc;have hle:b=1->s.l.length=d0.l.length:=fun hb1=>(DI h0 h1 G (by omega) (by rw [hA,hb1])).2.2;by_cases hz:s.l.length=0
  ·rw [aHd hz] at hcp
   have hs1:FM (.i 1) s:=by have e0:=aIk.1 hz;exact⟨by rw [e0]; rfl,fun i=>by rw [gU,gU,e0]; exact .rfl' _⟩
   by_cases hb0:b=0
   ·refine Tot.of ?_;rw [oV];simp only [nP,zz,hcp,hR,hb0];exact .out ⟨_,hs1,rfl⟩
   ·have h01:=hle (by omega);have a3:0<=obj->¬obj<(d0.l.length:Int):=fun _=>by omega
    refine Tot.of ?_;rw [oV];simp only [nP,zz,hcp,hR,hb0,hk]
    repeat' first |(exfalso; omega)|exact .out ⟨_,hs1,rfl⟩|refine .ite (fun _=>?_) (fun _=>?_)
  ·rw [aHc hz] at hcp;rw [e3 hz] at hs3;have a4:0<=obj->¬obj<((s.l.map nM).length:Int):=fun _=>by rw [aH0]; omega
   rw [aH0] at a4;have hlm:(((dL (s.l.map nM)).l.length:Nat):Int)=(s.l.length:Int):=by rw [aA,aH0]
   by_cases hb0:b=0
   ·refine Tot.of ?_;rw [oV];simp only [nP,zz,hcp,hR,hb0,hlm]
    repeat' first |(exfalso; omega)|exact .out ⟨_,hs3,rfl⟩|refine .ite (fun _=>?_) (fun _=>?_)
   ·have h01:=hle (by omega);refine Tot.of ?_;rw [oV];simp only [nP,zz,hcp,hR,hb0,hk,hlm]
    repeat' first |(exfalso; omega)|exact .out ⟨_,hs3,rfl⟩|refine .ite (fun _=>?_) (fun _=>?_)
 ·obtain⟨i,rfl⟩ : ∃i:Nat,obj=(i:Int):=⟨obj.toNat,by omega⟩;have hi:i<s.l.length:=by omega
  obtain⟨o,c,dn,g,r,v,T⟩:=BD (G.wd.thing _ (aHk hi));have hcp:=Yd s i hi hs hc;have C:=asD hi ht;have T':Tg (s.at (i:Int)) o c dn g r v:=by rw [bF hi]; exact T
  unfold Ie JI at hcp;rw [T.is] at hcp;simp only [iV,aHA,aHp,aHl,ZJ] at hcp;generalize dL ((s.l.take i).map nM++ph::(s.l.drop (i+1)).map nM)=cs at *;have a2: ¬(i:Int)<0:=by omega
  have row: ∀k:Int,∀l:List Int,∀r' v':D,r'.l=r.l->v'.l=v.l->(L 9050 [(i:Int),enc s]=some (k::(i:Int)::enc cs::o::c::dn::g::l))->(k=1/\r'= .i 2/\v'= .i 2/\l= []\/k=2/\r'= .i 2/\l= [enc v']\/k=3/\v'= .i 2/\l= [enc r']\/k=4/\l= [enc r',enc v'])->Tot 4000 [enc d0,enc d1,enc s,th,op,(i:Int),arg,tries] (BN s):=by
   intro k l r' v' hr hv hcp hk4;have hs3:=anM C hi T' hr hv;by_cases hb0:b=0
   ·refine Tot.of ?_;rw [oV]
    rcases hk4 with ⟨rfl,rfl,rfl,rfl⟩|⟨rfl,rfl,rfl⟩|⟨rfl,rfl,rfl⟩|⟨rfl,rfl⟩ <;>
    ·simp only [nP,zz,Int.reduceEq,hcp,hR,hb0];exact .out ⟨_,hs3,rfl⟩
   ·by_cases ht0:th<0
    ·refine Tot.of ?_;rw [oV]
     rcases hk4 with ⟨rfl,rfl,rfl,rfl⟩|⟨rfl,rfl,rfl⟩|⟨rfl,rfl,rfl⟩|⟨rfl,rfl⟩ <;>
     ·simp only [nP,zz,Int.reduceEq,hcp,hR,hb0,ht0];exact .out ⟨_,hs3,rfl⟩
    ·by_cases ht1:th<(d1.l.length:Int)
     ·have h01:=(DI h0 h1 G (by omega) (by rw [hA,show b=1 by omega])).2.2;have a3:(i:Int)<(d0.l.length:Int):=by omega
      have hkn: ¬kindOf op=((d0.at (i:Int)).hd 0).n:=fun q=>A ⟨by rw [hA,show b=1 by omega],by omega,ht1,by omega,by omega,q⟩;refine Tot.of ?_;rw [oV]
      rcases hk4 with ⟨rfl,rfl,rfl,rfl⟩|⟨rfl,rfl,rfl⟩|⟨rfl,rfl,rfl⟩|⟨rfl,rfl⟩ <;>
      ·simp only [nP,zz,Int.reduceEq,hcp,hR,hb0,ht0,ht1,a2,a3,hk,hkn];exact .out ⟨_,hs3,rfl⟩
     ·refine Tot.of ?_;rw [oV]
      rcases hk4 with ⟨rfl,rfl,rfl,rfl⟩|⟨rfl,rfl,rfl⟩|⟨rfl,rfl,rfl⟩|⟨rfl,rfl⟩ <;>
      ·simp only [nP,zz,Int.reduceEq,hcp,hR,hb0,ht0,ht1];exact .out ⟨_,hs3,rfl⟩
  by_cases r4:((r.l.length:Nat):Int)=0<;>by_cases r5:((v.l.length:Nat):Int)=0
  ·have e4:r.l= []:=aIk.1 (by omega);have e5:v.l= []:=aIk.1 (by omega);simp only [r4,r5,if_true,aHU] at hcp;exact row 1 [] (.i 2) (.i 2) (fH e4) (fH e5) hcp (.inl ⟨rfl,rfl,rfl,rfl⟩)
  ·have e4:r.l= []:=aIk.1 (by omega);simp only [r4,r5,if_true,if_false,aHU] at hcp;exact row 2 _ (.i 2) v (fH e4) rfl hcp (.inr (.inl ⟨rfl,rfl,rfl⟩))
  ·have e5:v.l= []:=aIk.1 (by omega);simp only [r4,r5,if_true,if_false,aHU] at hcp;exact row 3 _ r (.i 2) rfl (fH e5) hcp (.inr (.inr (.inl ⟨rfl,rfl,rfl⟩)))
  ·simp only [r4,r5,if_false] at hcp;exact row 4 _ r v rfl rfl hcp (.inr (.inr (.inr ⟨rfl,rfl⟩)))
end
section
variable {d0 d1 s:D} {th op obj arg tries:Int} {n:Nat} (h0:Wd (.sl 3) d0) (h1:Wd (.sl 4) d1) (G:Gs s n) (hn:n<17592186044000) (hop:oG .u8 op) (harg:oG .i64 arg)
include h0 h1 G hn hop harg
theorem auS (A:Acc d0 d1 s th op obj) {o c dn g:Int} {r v:D} (T:Tg (s.at obj) o c dn g r v) (hr:r.l.length<=n) (hv:v.l.length<=n) (hin:op∈ops) :
 Tot 4000 [enc d0,enc d1,enc s,th,op,obj,arg,tries] (resT s th op obj (Mx d0 obj) (act (Mx d0 obj) (Mo d0 s obj) th op arg tries o c dn g r v)):=by
 obtain⟨hs,ht,hc⟩:=aAo h0 h1 G hn hop;obtain⟨b,hb,hA,hR,hch⟩:=EU h0 h1 G hn;have hf:=G.few (by omega:n<17592186044415);have a1:=A.o0; have a2:=A.o1;have P:=MR h0 h1 G (by omega) A.r (i:=obj) a1 a2 T;have hle:=(DI h0 h1 G (by omega) A.r).2.2;have hob:=V9 h0 h1 hf A;have cnd:=PG h0 h1 G.wd hf hop A
 have hb1:b=1:=by have:=A.r;rw [hA] at this;simpa using this
 rw [hb1] at hR;rw [Uw (zS hob.1)] at P;obtain⟨P1,P2,P3⟩:=P;obtain⟨s3,h3,hs3,_⟩:=FD hs ht hc;obtain⟨i,rfl⟩ : ∃i:Nat,obj=(i:Int):=⟨obj.toNat,by omega⟩;have hi:i<s.l.length:=by omega
 have hcp:=Yd s i hi hs hc;have C:=asD hi ht;have hk:=amD op hop;rw [A.k] at hk;have T0:=T;rw [bF hi] at T0;unfold Ie JI at hcp;rw [T0.is] at hcp;simp only [iV,aHA,aHp,aHl,ZJ] at hcp;generalize dL ((s.l.take i).map nM++ph::(s.l.drop (i+1)).map nM)=cs at *
 have aGG:op=12\/op=24->0<=Mx d0 (i:Int)/\Mx d0 (i:Int)<(s.l.length:Int)/\Mx d0 (i:Int)≠(i:Int)/\((cs.at (Mx d0 (i:Int))).hd 0).n=Mo d0 s (i:Int)/\-1<=Mo d0 s (i:Int):=fun h=>by
  obtain⟨m0,m1,m2⟩:=cnd h;obtain⟨m,hm⟩ : ∃m:Nat,Mx d0 (i:Int)=(m:Int):=⟨_,(Int.toNat_of_nonneg m0).symm⟩;refine⟨m0,m1,m2,?_,?_⟩
  ·have hm':((d0.at (i:Int)).hd 2).n=(m:Int):=hm;have q:=C.ats m (fun q=>m2 (hm.trans q));show ((cs.at ((d0.at (i:Int)).hd 2).n).hd 0).n=((s.at ((d0.at (i:Int)).hd 2).n).hd 0).n;rw [hm'];exact q.c0
  ·obtain⟨o',c',Tz,g',r',v',T',_⟩:=GK G m0 m1;have P':=MR h0 h1 G (by omega) A.r m0 m1 T'
   have:Mo d0 s (i:Int)=o':=by show ((s.at (Mx d0 (i:Int))).hd 0).n=o';rw [T'.is,iV];rfl
   rw [this];exact P'.1.2.1
 unfold KN at P1;have hkd:kindOf op=((d0.at (i:Int)).hd 0).n:=A.k
 have H:RH d0 d1 s cs s3 th op (i:Int) arg tries o c dn g r v:=⟨h3,hs3,C,hR,A.t0,A.t1,a1,a2,hle,hk,by omega,by omega,abR T.hr,P2.2,P1.1,T.hc,aGG,fun h=>by
  have h7:((d0.at (i:Int)).hd 0).n=7:=by rw [<- hkd,h]; rfl
  have:=P3.2
  exact⟨by omega,by omega,harg⟩⟩
 have r0:((d0.at (i:Int)).hd 0).n≠4->((d0.at (i:Int)).hd 0).n≠2->r.l= []:=fun x y=>by have:=P1.2.2.2.2.2.1;exact aIk.1 (by omega)
 have v0:((d0.at (i:Int)).hd 0).n≠8->v.l= []:=fun x=>by have:=P1.2.2.2.2.2.2.1;exact aIk.1 (by omega)
 have e1:r.l= []->v.l= []->L 9050 [(i:Int),enc s]=some [1,(i:Int),enc cs,o,c,dn,g]:=fun x y=>by
  have z4:((r.l.length:Nat):Int)=0:=by rw [x]; rfl
  have z5:((v.l.length:Nat):Int)=0:=by rw [y]; rfl
  simp only [z4,z5,if_true,aHU] at hcp;exact hcp
 have e2:r.l= []->0<v.l.length->L 9050 [(i:Int),enc s]=some [2,(i:Int),enc cs,o,c,dn,g,enc v]:=fun x y=>by
  have z4:((r.l.length:Nat):Int)=0:=by rw [x]; rfl
  have z5: ¬((v.l.length:Nat):Int)=0:=by omega
  simp only [z4,z5,if_true,if_false,aHU] at hcp;exact hcp
 have e3:0<r.l.length->v.l= []->L 9050 [(i:Int),enc s]=some [3,(i:Int),enc cs,o,c,dn,g,enc r]:=fun x y=>by
  have z4: ¬((r.l.length:Nat):Int)=0:=by omega
  have z5:((v.l.length:Nat):Int)=0:=by rw [y]; rfl
  simp only [z4,z5,if_true,if_false,aHU] at hcp;exact hcp
 clear hcp
 have hin':op=1\/op=2\/op=8\/op=3\/op=4\/op=5\/op=6\/op=7\/op=9\/op=11\/op=10\/op=17\/op=18\/op=19\/op=22\/op=23\/op=20\/op=21\/op=12\/op=13\/op=14\/op=24\/op=15\/op=25\/op=16\/op=26:=by unfold ops at hin;simpa only [aHm,aId,or_false] using hin
 rcases hin' with rfl|rfl|rfl|rfl|rfl|rfl|rfl|rfl|rfl|rfl|rfl|rfl|rfl|rfl|rfl|rfl|rfl|rfl|rfl|rfl|rfl|rfl|rfl|rfl|rfl|rfl
 ·have kk:=(show ((d0.at (i:Int)).hd 0).n=1 from hkd.symm.trans rfl);have r1:=r0 (by omega) (by omega);have v1:=v0 (by omega);exact NH (by omega) H r1 v1 (e1 r1 v1)
 ·have kk:=(show ((d0.at (i:Int)).hd 0).n=1 from hkd.symm.trans rfl);have r1:=r0 (by omega) (by omega);have v1:=v0 (by omega);exact NH (by omega) H r1 v1 (e1 r1 v1)
 ·have kk:=(show ((d0.at (i:Int)).hd 0).n=2 from hkd.symm.trans rfl);have v1:=v0 (by omega);rcases iI r.l with h|h
  ·exact NH (by omega) H h v1 (e1 h v1)
  ·exact oG3 (by omega) H h v1 (e3 h v1)
 ·have kk:=(show ((d0.at (i:Int)).hd 0).n=1 from hkd.symm.trans rfl);have r1:=r0 (by omega) (by omega);have v1:=v0 (by omega);exact NH (by omega) H r1 v1 (e1 r1 v1)
 ·have kk:=(show ((d0.at (i:Int)).hd 0).n=1 from hkd.symm.trans rfl);have r1:=r0 (by omega) (by omega);have v1:=v0 (by omega);exact NH (by omega) H r1 v1 (e1 r1 v1)
 ·have kk:=(show ((d0.at (i:Int)).hd 0).n=2 from hkd.symm.trans rfl);have v1:=v0 (by omega);rcases iI r.l with h|h
  ·exact NH (by omega) H h v1 (e1 h v1)
  ·exact oG3 (by omega) H h v1 (e3 h v1)
 ·have kk:=(show ((d0.at (i:Int)).hd 0).n=2 from hkd.symm.trans rfl);have v1:=v0 (by omega);rcases iI r.l with h|h
  ·exact NH (by omega) H h v1 (e1 h v1)
  ·exact aGa H h v1 (e3 h v1)
 ·have kk:=(show ((d0.at (i:Int)).hd 0).n=2 from hkd.symm.trans rfl);have v1:=v0 (by omega);rcases iI r.l with h|h
  ·exact NH (by omega) H h v1 (e1 h v1)
  ·exact oG3 (by omega) H h v1 (e3 h v1)
 ·have kk:=(show ((d0.at (i:Int)).hd 0).n=3 from hkd.symm.trans rfl);have r1:=r0 (by omega) (by omega);have v1:=v0 (by omega);exact NH (by omega) H r1 v1 (e1 r1 v1)
 ·have kk:=(show ((d0.at (i:Int)).hd 0).n=3 from hkd.symm.trans rfl);have r1:=r0 (by omega) (by omega);have v1:=v0 (by omega);exact NH (by omega) H r1 v1 (e1 r1 v1)
 ·have kk:=(show ((d0.at (i:Int)).hd 0).n=3 from hkd.symm.trans rfl);have r1:=r0 (by omega) (by omega);have v1:=v0 (by omega);exact NH (by omega) H r1 v1 (e1 r1 v1)
 ·have kk:=(show ((d0.at (i:Int)).hd 0).n=7 from hkd.symm.trans rfl);have r1:=r0 (by omega) (by omega);have v1:=v0 (by omega);exact aEm H r1 v1 (e1 r1 v1)
 ·have kk:=(show ((d0.at (i:Int)).hd 0).n=7 from hkd.symm.trans rfl);have r1:=r0 (by omega) (by omega);have v1:=v0 (by omega);exact NH (by omega) H r1 v1 (e1 r1 v1)
 ·have kk:=(show ((d0.at (i:Int)).hd 0).n=7 from hkd.symm.trans rfl);have r1:=r0 (by omega) (by omega);have v1:=v0 (by omega);exact NH (by omega) H r1 v1 (e1 r1 v1)
 ·have kk:=(show ((d0.at (i:Int)).hd 0).n=9 from hkd.symm.trans rfl);have r1:=r0 (by omega) (by omega);have v1:=v0 (by omega);exact NH (by omega) H r1 v1 (e1 r1 v1)
 ·have kk:=(show ((d0.at (i:Int)).hd 0).n=9 from hkd.symm.trans rfl);have r1:=r0 (by omega) (by omega);have v1:=v0 (by omega);exact NH (by omega) H r1 v1 (e1 r1 v1)
 ·have kk:=(show ((d0.at (i:Int)).hd 0).n=8 from hkd.symm.trans rfl);have r1:=r0 (by omega) (by omega);rcases iI v.l with h|h
  ·exact NH (by omega) H r1 h (e1 r1 h)
  ·exact aEl H r1 h (e2 r1 h)
 ·have kk:=(show ((d0.at (i:Int)).hd 0).n=8 from hkd.symm.trans rfl);have r1:=r0 (by omega) (by omega);rcases iI v.l with h|h
  ·exact NH (by omega) H r1 h (e1 r1 h)
  ·exact aEk H r1 h (e2 r1 h)
 ·have kk:=(show ((d0.at (i:Int)).hd 0).n=4 from hkd.symm.trans rfl);have v1:=v0 (by omega);rcases iI r.l with h|h
  ·exact aEp H h v1 (e1 h v1)
  ·exact aEo H h v1 (e3 h v1)
 ·have kk:=(show ((d0.at (i:Int)).hd 0).n=4 from hkd.symm.trans rfl);have v1:=v0 (by omega);rcases iI r.l with h|h
  ·exact NH (by omega) H h v1 (e1 h v1)
  ·exact aEn H h v1 (e3 h v1)
 ·have kk:=(show ((d0.at (i:Int)).hd 0).n=4 from hkd.symm.trans rfl);have v1:=v0 (by omega);rcases iI r.l with h|h
  ·exact NH (by omega) H h v1 (e1 h v1)
  ·exact oG3 (by omega) H h v1 (e3 h v1)
 ·have kk:=(show ((d0.at (i:Int)).hd 0).n=4 from hkd.symm.trans rfl);have v1:=v0 (by omega);rcases iI r.l with h|h
  ·exact aEj H h v1 (e1 h v1)
  ·exact aEi H h v1 (e3 h v1)
 ·have kk:=(show ((d0.at (i:Int)).hd 0).n=5 from hkd.symm.trans rfl);have r1:=r0 (by omega) (by omega);have v1:=v0 (by omega);exact NH (by omega) H r1 v1 (e1 r1 v1)
 ·have kk:=(show ((d0.at (i:Int)).hd 0).n=5 from hkd.symm.trans rfl);have r1:=r0 (by omega) (by omega);have v1:=v0 (by omega);exact NH (by omega) H r1 v1 (e1 r1 v1)
 ·have kk:=(show ((d0.at (i:Int)).hd 0).n=6 from hkd.symm.trans rfl);have r1:=r0 (by omega) (by omega);have v1:=v0 (by omega);exact NH (by omega) H r1 v1 (e1 r1 v1)
 ·have kk:=(show ((d0.at (i:Int)).hd 0).n=6 from hkd.symm.trans rfl);have r1:=r0 (by omega) (by omega);have v1:=v0 (by omega);exact NH (by omega) H r1 v1 (e1 r1 v1)
theorem auO (A: ¬Acc d0 d1 s th op obj):L 400 [enc d0,enc d1,enc s,th,op,obj,arg,tries]=some [enc s,0,0,0,0,0,0]/\∃b:D,L 4000 [enc d0,enc d1,enc s,th,op,obj,arg,tries]=some [enc b,0,0,0,0,0,0]/\FM b s:=by obtain⟨ys,hY,s',q,rfl⟩:=amF (tries:=tries) (arg:=arg) h0 h1 G hn hop A;exact⟨BA h0 h1 G.wd (G.few (by omega)) hop A,s',hY,q⟩
theorem agQ (hn2:n<17592186043904) (hth:oG .i64 th) (aoG:oG .i64 obj): ∃(a b:D) (e1 e2 e3 e4 e5 oc:Int),Tried d0 d1 s th op obj arg tries n a e1 e2 e3 e4 e5 oc/\L 4000 [enc d0,enc d1,enc s,th,op,obj,arg,tries]=some [enc b,e1,e2,e3,e4,e5,oc]/\FM b a:=by
 obtain⟨a,e1,e2,e3,e4,e5,oc,TT⟩:=try_any (t:=th) (op:=op) (obj:=obj) (arg:=arg) (tries:=tries) h0 h1 G hn2 hth hop aoG harg;have hf:=G.few (by omega:n<17592186044415);by_cases A:Acc d0 d1 s th op obj
 ·obtain⟨hin,o,c,dn,g,r,v,T,hL⟩:=KQ (arg:=arg) (tries:=tries) h0 h1 G.wd hf hop A;obtain⟨o',c',Tz,g',r',v',T',hr',hv'⟩:=GK G A.o0 A.o1;obtain⟨ys,hY,hres⟩:=auS (tries:=tries) h0 h1 G hn hop harg A T' hr' hv' hin;have hE:=TT.eq
  obtain⟨z1,z2,z3,z4,z5,z6⟩ : o=o'/\c=c'/\dn=Tz/\g=g'/\r=r'/\v=v':=by have:=T.is.symm.trans T'.is;simp only [dL,D.p.injEq,D.i.injEq,and_true] at this;exact this
  subst z1 z2 z3 z4 z5 z6;rw [Lc,hE] at hL;obtain⟨X,hX⟩ : ∃X,act (Mx d0 obj) (Mo d0 s obj) th op arg tries o c dn g r v=X:=⟨_,rfl⟩;rw [hX] at hL hres;refine⟨a,?_⟩
  cases X with
  |blk=> simp only [evA,aHe,List.cons.injEq,and_true] at hL;obtain⟨p,rfl,rfl,rfl,rfl,rfl,rfl⟩:=hL;obtain⟨s',q,rfl⟩:=hres;exact⟨s',_,_,_,_,_,_,TT,hY,by rw [gI p]; exact q⟩
  |mis=> simp only [evA,aHe,List.cons.injEq,and_true] at hL;obtain⟨p,rfl,rfl,rfl,rfl,rfl,rfl⟩:=hL;obtain⟨s',q,rfl⟩:=hres;exact⟨s',_,_,_,_,_,_,TT,hY,by rw [gI p]; exact q⟩
  |res o c dn g r v m a' oc'=> simp only [evA,aHe,List.cons.injEq,and_true] at hL;obtain⟨p,rfl,rfl,rfl,rfl,rfl,rfl⟩:=hL;obtain⟨s',q,rfl⟩:=hres;exact⟨s',_,_,_,_,_,_,TT,hY,by rw [gI p]; exact q⟩
 ·have hL:=BA (arg:=arg) (tries:=tries) h0 h1 G.wd hf hop A;obtain⟨ys,hY,s',q,rfl⟩:=amF (tries:=tries) (arg:=arg) h0 h1 G hn hop A;have hE:=TT.eq;rw [hE] at hL;simp only [aHe,List.cons.injEq,and_true] at hL;obtain⟨p,rfl,rfl,rfl,rfl,rfl,rfl⟩:=hL;exact⟨a,s',_,_,_,_,_,_,TT,hY,by rw [gI p]; exact q⟩
end
theorem Tot.jmp {j k:Nat} {xs ys:List Int} {t:T Lf} {p:List Int->Prop} (e:S.tree j=t) (h:fD (bZ L (low xs)) t= .jump k ys) (q:Tot k ys p):Tot j xs p:=by refine Tot.of ?_;rw [e,h];exact .jump q
theorem Tot.ret {j:Nat} {xs ys:List Int} {t:T Lf} {p:List Int->Prop} (e:S.tree j=t) (h:fD (bZ L (low xs)) t= .out ys) (q:p ys):Tot j xs p:=by refine Tot.of ?_;rw [e,h];exact .out q
theorem QW (m:Nat) (hm:m<=60) (ih: ∀(k n:Int) (s kids:D),Wd .str s->Wd (.sl 6) kids->Tot 150 [k,enc s,n,enc kids,(m:Int)] one) (x3 x4 x5:Int) (kids:D) (hk:Wd (.sl 6) kids) :
 ∀(j i:Nat) (x1:Int),i+j=kids.l.length->Tot 151 [((m+1:Nat):Int),x1,(i:Int),x3,x4,x5,enc kids] one
 |0,i,x1,hi=>Tot.ret axC (ys:=[x1]) (eG [] [.lt Qk (ln fF)] (ou [Qb]) (by simp only [zz]<;>omega) (by kernel_rfl) (by simp only [zz])) ⟨x1,rfl⟩
 |j+1,i,x1,hi=>by
  have hl:=hk.len;have hil:i<kids.l.length:=by omega
  have hw:=aX (n:=i) (by omega);obtain⟨k,s,n,ks,he,_,hs,_,hks⟩:=Va hk hil;have ha:kids.at (i:Int)=dL [.i k,s,.i n,ks]:=by rw [bF hil]; exact he
  obtain⟨ys,ZX,z,rfl⟩:=ih k n s ks hs hks;have hw2:IntKind.i64.wrap (((m+1:Nat):Int)-1)=(m:Int):=by rw [jX (by omega) (by omega)]; omega
  by_cases hx:10000<x1
  ·exact Tot.ret axC (ys:=[x1]) (eG [.lt Qk (ln fF),.lt (.lit 10000) Qb] [] (ou [Qb]) (by simp only [zz]<;>omega) (by kernel_rfl) (by simp only [zz])) ⟨x1,rfl⟩
  ·exact Tot.jmp axC (eG [.lt Qk (ln fF),.eq (a0 150 Qd4) Qw] [.lt (.lit 10000) Qb,FT] (ju 151 [Qd,wr (.add Qb (rr 150 Qd4 0)),Dn,Qi,bJ,bY,fF]) (by simp only [zz,ha,zg,hw2,ZX]<;>omega) (by kernel_rfl) (by simp only [zz,ha,zg,hw2,ZX,hw]<;>rfl)) (QW m hm ih x3 x4 x5 kids hk j (i+1) (IntKind.i64.wrap (x1+z)) (by omega))
theorem WU: ∀(m:Nat),m<=60->∀(k n:Int) (s kids:D),Wd .str s->Wd (.sl 6) kids->Tot 150 [k,enc s,n,enc kids,(m:Int)] one
 |0,_,k,n,s,kids,_,_=>Tot.ret aDh (ys:=[10000]) (eG [Qd1] [] (ou [.lit 10000]) (by simp only [zz]<;>omega) (by kernel_rfl) (by simp only [zz])) ⟨_,rfl⟩
 |m+1,hm,k,n,s,kids,hs,hk=>Tot.jmp aDh (ys:=[((m+1:Nat):Int),_,(0:Nat),k,enc s,n,enc kids]) (eG [] [Qd1] (ju 151 [bJ,wr (.add Qw (wr (.quo Qc (.lit 100)))),Qa,Qd,Qb,Qk,Qi]) (by simp only [zz]<;>omega) (by kernel_rfl) (by simp only [pF,List.map,aZ,Nat.reduceLT,aP,aT]<;>rfl)) (QW m (by omega) (WU m (by omega)) k (enc s) n kids hk kids.l.length 0 _ (by omega))
section
variable {d0 d1:D} (h1:Wd (.sl 4) d1)
include h1
theorem Om (x1 x2 x3:Int) (vI:D) (ha:Wd (.sl 6) vI) (q: ∀x0,Tot 102 [x0,x1,IntKind.i64.wrap (x2+1),x3,enc d0,enc d1] Fp): ∀(j i:Nat) (x0:Int),i+j=vI.l.length->Tot 103 [x0,x1,x2,x3,enc vI,(vI.l.length:Int),(i:Int),enc d0,enc d1] Fp
 |0,i,x0,hi=>Tot.jmp aDi (eG [] [.lt fF bY] (ju 102 [Qd,Qb,Dn,Qi,kJ,nJ]) (by simp only [zz]<;>omega) (by kernel_rfl) (by simp only [zz])) (q x0)
 |j+1,i,x0,hi=>by
  have hl:=ha.len;have hil:i<vI.l.length:=by omega
  have hw:=aX (n:=i) (by omega);obtain⟨k,s,n,ks,he,_,hs,_,hks⟩:=Va ha hil;have hat:vI.at (i:Int)=dL [.i k,s,.i n,ks]:=by rw [bF hil]; exact he
  obtain⟨ys,ZX,z,rfl⟩:=WU 60 (by omega) k n s ks hs hks;have ZX:L 150 [k,enc s,n,enc ks,60]=some [z]:=ZX;exact Tot.jmp aDi (eG [.lt fF bY,.lt fF Qdq,.eq (a0 150 Qdz) Qw] [.lt fF Qa] (ju 103 [wr (.add Qd (rr 150 Qdz 0)),Qb,Qk,Qi,bJ,bY,wr (.add fF Qw),kJ,nJ]) (by simp only [zz,hat,zg,ZX]<;>omega) (by kernel_rfl) (by simp only [zz,hat,zg,ZX,hw]<;>rfl)) (Om x1 x2 x3 vI ha q j (i+1) (IntKind.i64.wrap (x0+z)) (by omega))
theorem ahU (i:Nat) (hi:i<d1.l.length) (q: ∀x0,Tot 101 [x0,(d1.l.length:Int),((i+1:Nat):Int),enc d0,enc d1] Fp): ∀(j k:Nat) (x0:Int),(∀nm' lc cd,d1.l[i]=dL [nm',lc,cd]->k+j=cd.l.length)->Tot 102 [x0,(i:Int),(k:Int),(d1.l.length:Int),enc d0,enc d1] Fp:=by
 have hl:=h1.len;have hw:=aX (n:=i) (by omega);obtain⟨nm',lc,cd,he,_,_,hcd⟩:=KR h1 hi;have hat:d1.at (i:Int)=dL [nm',lc,cd]:=by rw [bF hi]; exact he
 have hcl:=hcd.len;intro j
 induction j with
 |zero=> intro k x0 hk;have hk:=hk _ _ _ he;exact Tot.jmp axD (eG [.lt Qb (ln bY)] [QA,.lt Qk (ln (ce 2 Qdu))] (ju 101 [Qd,Qi,Wx,bJ,bY]) (by simp only [zz,hat,zg]<;>omega) (by kernel_rfl) (by simp only [zz,hw]<;>rfl)) (q x0)
 |succ j ih=>
  intro k x0 hk;have hk':=hk _ _ _ he;by_cases h6:6000<x0
  ·exact Tot.jmp axD (eG [.lt Qb (ln bY),.lt Qk (ln (ce 2 Qdu)),.lt (.lit 6000) Qd] [QA] (ju 101 [Qd,Qi,Wx,bJ,bY]) (by simp only [zz,hat,zg]<;>omega) (by kernel_rfl) (by simp only [zz,hw]<;>rfl)) (q x0)
  ·have hkl:k<cd.l.length:=by omega
   have hw2:=aX (n:=k) (by omega);obtain⟨a,b,c,e,f,g,vI,hin,_,_,_,_,_,_,has⟩:=anS hcd hkl;have aGF:cd.at (k:Int)=dL [.i a,.i b,.i c,.i e,.i f,.i g,vI]:=by rw [bF hkl]; exact hin
   refine Tot.jmp axD (eG [.lt Qb (ln bY),.lt Qk (ln (ce 2 Qdu))] [QA,.lt (.lit 6000) Qd,FT] (ju 103 [Qd,Qb,Qk,Qi,Qdx,ln Qdx,Qa,bJ,bY]) (by simp only [zz,hat,zg]<;>omega) (by kernel_rfl) (by simp only [zz,hat,aGF,zg]<;>rfl)) (Om h1 (i:Int) (k:Int) (d1.l.length:Int) vI has (fun x0=>?_) vI.l.length 0 x0 (by omega));rw [hw2];exact ih (k+1) x0 fun nm' lc cd he=>by have:=hk nm' lc cd he; omega
theorem Ol: ∀(j i:Nat) (x0:Int),i+j=d1.l.length->Tot 101 [x0,(d1.l.length:Int),(i:Int),enc d0,enc d1] Fp
 |0,i,x0,hi=>by
  by_cases h6:6000<x0
  ·exact Tot.ret axE (eG [.lt (.lit 6000) Qd] [YO] (ou [Qw]) (by simp only [zz]<;>omega) (by kernel_rfl) (by simp only [zz])) Fh
  ·exact Tot.ret axE (eG [] [YO,.lt (.lit 6000) Qd] (ou [Qa]) (by simp only [zz]<;>omega) (by kernel_rfl) (by simp only [zz])) Fj
 |j+1,i,x0,hi=>by
  have hil:i<d1.l.length:=by omega
  obtain⟨nm',lc,cd,he,_,_,hcd⟩:=KR h1 hil;refine Tot.jmp axE (ys:=[_,(i:Int),((0:Nat):Int),(d1.l.length:Int),enc d0,enc d1]) (eG [YO,.lt Qk Qdq] [FT] (ju 102 [wr (.add Qd (wr (.add (ln (ce 1 (el bJ Qk))) (ln (ce 2 (el bJ Qk)))))),Qk,Qa,Qb,Qi,bJ]) (by simp only [zz]<;>omega) (by kernel_rfl) (by simp only [zz]<;>rfl)) (ahU h1 i hil (fun x0=>Ol j (i+1) x0 (by omega)) cd.l.length 0 _ fun n' l' c' he'=>?_);rw [he] at he';have:=O6 he';simp only [List.cons.injEq,and_true] at this;rw [this.2.2];omega
theorem ahT:Tot 100 [enc d0,enc d1] Fp:=
 Tot.jmp e100 (ys:=[_,(d1.l.length:Int),((0:Nat):Int),enc d0,enc d1]) (eG [] [] (ju 101 [wr (.add qC Qc),Qc,Qa,Qd,Qb]) (by simp only [zz]<;>omega) (by kernel_rfl) (by simp only [zz]<;>rfl)) (Ol h1 d1.l.length 0 _ (by omega))
end
theorem sy {s s':D} (h:FM s s'):FM s' s:=⟨h.len.symm,fun i=> ⟨(h.ats i).c0.symm,(h.ats i).c1.symm,(h.ats i).c2.symm,(h.ats i).c3.symm,(h.ats i).c4.symm,(h.ats i).c5.symm⟩⟩
theorem tr {a b c:D} (h:FM a b) (h':FM b c):FM a c:=⟨h'.len.trans h.len,fun i=> ⟨(h.ats i).c0.trans (h'.ats i).c0,(h.ats i).c1.trans (h'.ats i).c1,(h.ats i).c2.trans (h'.ats i).c2,(h.ats i).c3.trans (h'.ats i).c3,(h.ats i).c4.trans (h'.ats i).c4,(h.ats i).c5.trans (h'.ats i).c5⟩⟩
theorem F6 {a b:D} {n:Nat} (G:Gs a n) (hn:n<17592186044000) (h:FM a b):L 200 [enc a,enc b]=some [1]:=by obtain⟨c,h1,_,h3⟩:=agP a b G.wd.len (fun x hx=>by have:=G.rows x hx; omega);have hI: ∀{x y:D},x.l=y.l->agE x y:=fun {x y} e=> ⟨by rw [e],fun k h1 h2 _=>by simp only [e]⟩;rw [h1,h3.2 ⟨h.len.symm,fun k h1 h2 _=>?_⟩];have q:=h.ats k;rw [bF h1,bF h2] at q;exact⟨q.c0,q.c1,by rw [q.c2],q.c3,hI q.c4,hI q.c5⟩
theorem amU {d:D} (h:Wd (.sl 0) d):Wd (.sl 0) (zD d):=by
 unfold zD;split
 ·exact .non 0
 ·exact h
theorem aDl {x:D} (h:oM x):oM (nM x):=by obtain⟨o,c,d,g,r,v,rfl,h1,h2,h3,h4,h5,h6⟩:=h;unfold nM;simp only [iV];refine⟨o,c,(if d=0 then 0 else 1),g,zD r,zD v,rfl,h1,h2,?_,h4,amU h5,amU h6⟩;rcases h3 with rfl|rfl<;>simp
theorem aAp {s:D} {n:Nat} (G:Gs s n) (hn:n<17592186044000): ∃s1:D,L 3950 [enc s]=some [enc s1]/\FM s1 s/\Gs s1 n:=by
 have hs:s.l.length<=1759218604390:=by have:=G.wd.room;have e:CZ 7=80:=rfl;rw [e] at this;omega
 have ht:=G.wd.thing;have hc: ∀x∈s.l,Ih x:=fun x hx=> ⟨by have:=(G.rows x hx).1; omega,by have:=(G.rows x hx).2; omega⟩;have hcp:=Nj s hs hc;obtain⟨s1,h1,h2,_⟩:=FD hs ht hc;refine⟨s1,h1,h2,?_⟩;rw [h1] at hcp;simp only [aHe,List.cons.injEq,and_true] at hcp;rw [gI hcp];split
 ·exact⟨.nil 7,fun x hx=>by simp [D.l] at hx⟩
 ·rename_i hz;refine⟨Ir (fun x hx=>?_) (fun h=>hz (by simpa using congrArg List.length h)) (by rw [aH0]; omega),fun x hx=>?_⟩
  ·obtain⟨y,hy,rfl⟩:=aHF.1 hx;exact aDl (ht y hy)
  ·rw [aA] at hx;obtain⟨y,hy,rfl⟩:=aHF.1 hx;have e4:(nM y).hd 4=zD (y.hd 4):=by unfold nM; rw [iV]; rfl
   have e5:(nM y).hd 5=zD (y.hd 5):=by unfold nM; rw [iV]; rfl
   rw [e4,e5,adR,adR];exact G.rows y hy
theorem ayN {d:D} (h:Wd (.sl 9) d) {i:Nat} (hi:i<d.l.length): ∃th op obj arg tries,d.l[i]=dL [.i th,.i op,.i obj,.i arg,.i tries]/\oG .i64 th/\oG .u8 op/\oG .i64 obj/\oG .i64 arg:=by obtain⟨r,h1,hl,hc⟩:=h.elN (cs:=[.int .i64,.int .u8,.int .i64,.int .i64,.int .i64]) rfl _ (aHk hi);obtain⟨a,b,c,e,f,rfl⟩:=five hl;obtain⟨a,rfl,ha⟩:=(hc 0 _ _ rfl rfl).i;obtain⟨b,rfl,hb⟩:=(hc 1 _ _ rfl rfl).i;obtain⟨c,rfl,hc'⟩:=(hc 2 _ _ rfl rfl).i;obtain⟨e,rfl,he⟩:=(hc 3 _ _ rfl rfl).i;obtain⟨f,rfl,hf⟩:=(hc 4 _ _ rfl rfl).i;exact⟨a,b,c,e,f,h1,ha,hb,hc',he⟩
theorem aoT: ∀(m:Nat) (l:List D),rJ (m:Int) l->l.length<=m
 |0,l,h=>by
  cases l with
  |nil=>simp
  |cons a l=>have:=h.1 a (aHX ..); omega
 |m+1,l,h=>by
  have hw:rJ (m:Int) (wo (m:Int) l):=by
   refine⟨fun x hx=>?_,?_⟩
   ·unfold wo at hx;rw [aIo] at hx;have:=h.1 x hx.1;have:x.n≠(m:Int):=by simpa using hx.2
    omega
   ·unfold wo;exact h.2.sublist (List.Sublist.map _ List.filter_sublist)
  have ih:=aoT m _ hw;rcases nU (dL l) (m:Int) with ⟨_,hno⟩|⟨k,hk,_,h2,_⟩
  ·rw [aA] at hno;rw [Dv hno] at ih;omega
  ·simp only [aA] at hk h2;rw [YT l _ k hk h.2 h2] at ih;simp only [aHC,aHr,aHI] at ih;omega
section
variable {d0 d1:D} (h0:Wd (.sl 3) d0) (h1:Wd (.sl 4) d1)
include h0 h1
theorem Nb {s s':D} {n:Nat} (h:FM s s') (G:Gs s n) (G':Gs s' n) (hn:n<17592186044000) (R:L 350 [enc d0,enc d1,enc s]=some [1]):L 350 [enc d0,enc d1,enc s']=some [1]:=by obtain⟨hC,ok,hle⟩:=DI h0 h1 G (by omega) R;have hl:=h.len;refine ayI h0 h1 G' (by omega) hC (by omega) fun i hi=>?_;obtain⟨o,c,dn,g,r,v,T,_⟩:=GK G (i:=(i:Int)) (by omega) (by omega);obtain⟨o',c',Tz,g',r',v',T',_⟩:=GK G' (i:=(i:Int)) (by omega) (by omega);obtain⟨rfl,rfl,rfl,rfl,q4,q5⟩:=Uf T T' (h.ats i);have P:=MR h0 h1 G (by omega) R (i:=(i:Int)) (by omega) (by omega) T;refine⟨_,_,_,_,_,_,T',?_⟩;unfold Wj at P ⊢;rw [<- q4,<- q5];exact P
theorem WZ {s:D} {n:Nat} (G:Gs s n) (hn:n<17592186044000) (R:L 350 [enc d0,enc d1,enc s]=some [1]):Gs s 1048576:=by
 obtain⟨hC,ok,hle⟩:=DI h0 h1 G (by omega) R;refine⟨G.wd,fun x hx=>?_⟩;obtain⟨i,hi,rfl⟩:=aJO hx;obtain⟨o,c,dn,g,r,v,T,_⟩:=GK G (i:=(i:Int)) (by omega) (by omega);have P:=MR h0 h1 G (by omega) R (i:=(i:Int)) (by omega) (by omega) T;have hid:i<d0.l.length:=by omega
 have hO:=ok.2.2 _ (aHk hid);rw [bF hid] at P;rw [Uw (zS hO)] at P;obtain⟨P1,P2,P3⟩:=P;have hr:=aoT d1.l.length r.l P2;have h16:=ok.2.1;have hN:=(zS hO).1;have e4:(s.l[i]).hd 4=r:=by rw [bF hi] at T; rw [T.is,iV]; rfl
 have e5:(s.l[i]).hd 5=v:=by rw [bF hi] at T; rw [T.is,iV]; rfl
 rw [e4,e5];refine⟨by omega,?_⟩;have p1:=P1.2.2.2.2.2.2.1;have p2:=P3.2;by_cases h8:((d0.l[i]).hd 0).n=8
 ·have:=hN (.inr h8);omega
 ·omega
theorem YV {s s':D} {n:Nat} {t op obj arg tries e1 e2 e3 e4 e5 oc f1 f2 f3 f4 f5 oc':Int} {a a':D} (h:FM s s') (G:Gs s n) (G':Gs s' n) (hn:n<17592186043904) (hop:oG .u8 op)
 (A:Tried d0 d1 s t op obj arg tries n a e1 e2 e3 e4 e5 oc) (A':Tried d0 d1 s' t op obj arg tries n a' f1 f2 f3 f4 f5 oc'):FM a a'/\f1=e1/\f2=e2/\f3=e3/\f4=e4/\f5=e5/\oc'=oc:=by
 by_cases R:L 350 [enc d0,enc d1,enc s]=some [1]
 ·exact aBp h0 h1 h G G' hn hop R A A'
 ·have R': ¬L 350 [enc d0,enc d1,enc s']=some [1]:=fun R'=>R (Nb h0 h1 (sy h) G' G (by omega) R');have x:=A.eq;have y:=A'.eq;rw [BA h0 h1 G.wd (G.few (by omega)) hop fun c=>R c.r] at x;rw [BA h0 h1 G'.wd (G'.few (by omega)) hop fun c=>R' c.r] at y;simp only [aHe,List.cons.injEq,and_true] at x y;obtain⟨p,rfl,rfl,rfl,rfl,rfl,rfl⟩:=x;obtain⟨p',rfl,rfl,rfl,rfl,rfl,rfl⟩:=y;rw [<- gI p,<- gI p'];exact⟨h,rfl,rfl,rfl,rfl,rfl,rfl⟩
theorem QH {tr l was b0 j:Int} {q:D} {i:Nat} {th op obj arg tries e1 e2 e3 e4 e5 oc:Int} {s s1 a b:D} (hl:l=enc s) (htr:tr=enc q) (hi:i<q.l.length) (h60:i<60) (he:q.l[i]=dL [.i th,.i op,.i obj,.i arg,.i tries])
 (hc:L 3950 [enc s]=some [enc s1]) (hA:L 400 [enc d0,enc d1,enc s1,th,op,obj,arg,tries]=some [enc a,e1,e2,e3,e4,e5,oc])
 (hB:L 4000 [enc d0,enc d1,enc s,th,op,obj,arg,tries]=some [enc b,e1,e2,e3,e4,e5,oc]) (hS:L 200 [enc a,enc b]=some [1]) (hS1:L 200 [enc s1,enc s]=some [1]) :
 L 3752 [tr,l,(i:Int),was,b0,j,enc d0,enc d1]=L 3752 [tr,enc a,((i+1:Nat):Int),was,b0,j,enc d0,enc d1]:=by
 subst hl htr;have c1:(i:Int)<(q.l.length:Int):=by omega
 have c2:(i:Int)<60:=by omega
 have c3: ¬(i:Int)<0:=by omega
 have w:=aX (n:=i) (by omega);have key: ∀R:Option (List Int),R=L 3752 [enc q,enc a,((i+1:Nat):Int),was,b0,j,enc d0,enc d1]->R=R:=fun _ _=>rfl
 have k:fD (bZ L (low [enc q,enc s,(i:Int),was,b0,j,enc d0,enc d1])) MB= .jump 3752 [enc q,enc a,((i+1:Nat):Int),was,b0,j,enc d0,enc d1]:=by simp only [MB,zz,ES,c1,c2,c3,w,hc,bF hi,he,zg,hA,hB,hS,hS1,aW,and_self]
 rw [bU,aqT];exact congrArg (fin L) k
theorem FW {tr l was b0 j:Int} {q:D} {i:Nat} (htr:tr=enc q) (h:q.l.length<=i\/60<=i):L 3752 [tr,l,(i:Int),was,b0,j,enc d0,enc d1]=L 3751 [tr,was,b0,IntKind.i64.wrap (j+1),enc d0,enc d1]:=by
 subst htr
 have k:fD (bZ L (low [enc q,l,(i:Int),was,b0,j,enc d0,enc d1])) MB= .jump 3751 [enc q,was,b0,IntKind.i64.wrap (j+1),enc d0,enc d1]:=by
  by_cases c1:(i:Int)<(q.l.length:Int)
  ·have c2: ¬(i:Int)<60:=by omega
   simp only [MB,zz,c1,c2]
  ·simp only [MB,zz,c1]
 rw [bU,aqT];exact congrArg (fin L) k
theorem NS {q:D} (hq:Wd (.sl 9) q) (was b0 j:Int): ∀(k i n:Nat) (s:D),i+k=60->Gs s n->n+k<17592186043904->
 L 3752 [enc q,enc s,(i:Int),was,b0,j,enc d0,enc d1]=L 3751 [enc q,was,b0,IntKind.i64.wrap (j+1),enc d0,enc d1]
 |0,i,n,s,hi,G,hn=>FW h0 h1 rfl (.inr (by omega))
 |k+1,i,n,s,hi,G,hn=>by
  by_cases hl:i<q.l.length
  ·obtain⟨th,op,obj,arg,tries,he,a1,a2,a3,a4⟩:=ayN hq hl;obtain⟨s1,hc,hs1,G1⟩:=aAp G (by omega);obtain⟨a,b,e1,e2,e3,e4,e5,oc,TT,hB,hab⟩:=agQ (tries:=tries) (th:=th) (obj:=obj) h0 h1 G (by omega) a2 a4 (by omega) a1 a3;obtain⟨a',f1,f2,f3,f4,f5,oc',TT'⟩:=try_any (t:=th) (op:=op) (obj:=obj) (arg:=arg) (tries:=tries) h0 h1 G1 (by omega) a1 a2 a3 a4;obtain⟨z0,rfl,rfl,rfl,rfl,rfl,rfl⟩:=YV h0 h1 (sy hs1) G G1 (by omega) a2 TT TT';have:=QH h0 h1 (tr:=enc q) (l:=enc s) (was:=was) (b0:=b0) (j:=j) rfl rfl hl (by omega) he hc TT'.eq hB (F6 TT'.gs (by omega) (sy (tr hab z0))) (F6 G1 (by omega) hs1);rw [this];exact NS hq was b0 j k (i+1) (n+1) a' (by omega) TT'.gs (by omega)
  ·exact FW h0 h1 rfl (.inl (by omega))
theorem NR {q:D} (hq:Wd (.sl 9) q) (was b0 j:Int) {n:Nat} (hn:n<17592186044000): ∀(k i:Nat) (s:D),i+k=60->Gs s n->¬L 350 [enc d0,enc d1,enc s]=some [1]->
 L 3752 [enc q,enc s,(i:Int),was,b0,j,enc d0,enc d1]=L 3751 [enc q,was,b0,IntKind.i64.wrap (j+1),enc d0,enc d1]
 |0,i,s,hi,G,hR=>FW h0 h1 rfl (.inr (by omega))
 |k+1,i,s,hi,G,hR=>by
  by_cases hl:i<q.l.length
  ·obtain⟨th,op,obj,arg,tries,he,a1,a2,a3,a4⟩:=ayN hq hl;obtain⟨s1,hc,hs1,G1⟩:=aAp G hn;have hR1: ¬L 350 [enc d0,enc d1,enc s1]=some [1]:=fun R=>hR (Nb h0 h1 hs1 G1 G hn R);obtain⟨_,b,hB,hb⟩:=auO (th:=th) (obj:=obj) (tries:=tries) h0 h1 G hn a2 a4 fun c=>hR c.r;have hA:=BA (th:=th) (obj:=obj) (arg:=arg) (tries:=tries) h0 h1 G1.wd (G1.few (by omega)) a2 fun c=>hR1 c.r;have:=QH h0 h1 (tr:=enc q) (l:=enc s) (was:=was) (b0:=b0) (j:=j) rfl rfl hl (by omega) he hc hA hB (F6 G1 hn (sy (tr hb (sy hs1)))) (F6 G1 hn hs1);rw [this];exact NR hq was b0 j hn k (i+1) s1 (by omega) G1 hR1
  ·exact FW h0 h1 rfl (.inl (by omega))
theorem Xr {q:D} (hq:Wd (.sl 9) q) (was b0 j:Int) {n:Nat} (hn:n<17592186044000) {s:D} (G:Gs s n) :
 L 3752 [enc q,enc s,0,was,b0,j,enc d0,enc d1]=L 3751 [enc q,was,b0,IntKind.i64.wrap (j+1),enc d0,enc d1]:=by
 by_cases R:L 350 [enc d0,enc d1,enc s]=some [1]
 ·exact NS h0 h1 hq was b0 j 60 0 1048576 s (by omega) (WZ h0 h1 G hn R) (by omega)
 ·exact NR h0 h1 hq was b0 j hn 60 0 s (by omega) G R
theorem Px (s:D) (hs:s.l.length<=140737488351232): ∀(k i:Nat) (x:Int),i+k=s.l.length->Tot 3801 [enc s,x,(s.l.length:Int),(i:Int)] Fp
 |0,i,x,h=>by
  have c1: ¬(i:Int)<(s.l.length:Int):=by omega
  refine Tot.of ?_;rw [aqS];simp only [adE,zz,c1];exact .ite (fun _=> .out Fh) fun _=> .out Fj
 |k+1,i,x,h=>by
  have c1:(i:Int)<(s.l.length:Int):=by omega
  have c2: ¬(i:Int)<0:=by omega
  have w:=aX (n:=i) (by omega);refine Tot.of ?_;rw [aqS];simp only [adE,zz,c1,c2,w];exact .jump (Px s hs k (i+1) _ (by omega))
theorem agI {q was b0:D} (hq:Wd (.sl 9) q) {n:Nat} (hn:n<17592186044000) (G:Gs was n) (G0:Gs b0 0):L 3751 [enc q,enc was,enc b0,0,enc d0,enc d1]=some [1]:=by
 have w1:IntKind.i64.wrap (0+1)=1:=jX (by omega) (by omega);have w2:IntKind.i64.wrap (1+1)=2:=jX (by omega) (by omega)
 have k0:fD (bZ L (low [enc q,enc was,enc b0,0,enc d0,enc d1])) JA= .jump 3752 [enc q,enc was,0,enc was,enc b0,0,enc d0,enc d1]:=by simp only [JA,zz,Int.reduceLT,Int.reduceEq,aHi]
 have k1:fD (bZ L (low [enc q,enc was,enc b0,1,enc d0,enc d1])) JA= .jump 3752 [enc q,enc b0,0,enc was,enc b0,1,enc d0,enc d1]:=by simp only [JA,zz,Int.reduceLT,Int.reduceEq,aHi]
 have k2:fD (bZ L (low [enc q,enc was,enc b0,2,enc d0,enc d1])) JA= .out [1]:=by simp only [JA,zz,Int.reduceLT,Int.reduceEq,aHi]
 have s0:=Xr h0 h1 hq (enc was) (enc b0) 0 hn G;have s1:=Xr h0 h1 hq (enc was) (enc b0) 1 (by omega) G0;rw [w1] at s0;rw [w2] at s1
 have x2:L 3751 [enc q,enc was,enc b0,2,enc d0,enc d1]=some [1]:=by rw [bU,afM];exact congrArg (fin L) k2
 have x1:L 3751 [enc q,enc was,enc b0,1,enc d0,enc d1]=some [1]:=by rw [bU,afM];exact (congrArg (fin L) k1).trans (s1.trans x2)
 rw [bU,afM];exact (congrArg (fin L) k0).trans (s0.trans x1)
theorem ajQ {q was:D} (hw:Wd (.sl 7) was) (hq:Wd (.sl 9) q):L 3750 [enc d0,enc d1,enc was,enc q]=some [1]:=by
 obtain⟨ys,hG,g,rfl,hg⟩:=ahT (d0:=d0) h1
 have hB:Tot 3800 [enc was] Fp:=by refine Tot.of ?_;rw [aAe];simp only [alA,zz];exact .jump (Px h0 h1 was hw.len was.l.length 0 _ (by omega))
 obtain⟨ys,hB,g',rfl,hg'⟩:=hB
 have G:Gs was 17592186043904:=by refine⟨hw,fun x hx=>?_⟩;obtain⟨o,c,d,gg,r,v,rfl,_,_,_,_,h5,h6⟩:=hw.thing x hx;have a5:=h5.room;have a6:=h6.room;have e:CZ 0=8:=rfl;rw [e] at a5 a6;simp only [iV];exact⟨show r.l.length<=_ by omega,show v.l.length<=_ by omega⟩
 obtain⟨b0,hb1,hb2,G0⟩:=abK h0 h1;obtain⟨b,hb,hR1,hR2,_⟩:=EU h0 h1 G (by omega);have hS:L 200 [enc b0,enc b0]=some [1]:=F6 G0 (by omega) (.rfl' _);have h3:=agI h0 h1 hq (by omega) G G0
 have key:Tot 3750 [enc d0,enc d1,enc was,enc q] (·= [1]):=by
  refine Tot.of ?_;rw [aAf]
  rcases hb with rfl|rfl<;>
  ·simp only [alB,zz,ES,IJ,hG,hB,hb1,hb2,hS,hR1,hR2,aW,not_true_eq_false,not_false_eq_true,and_self,and_true,true_and,and_false,false_and,if_true,if_false];refine .ite (fun _=> .ite (fun _=>?_) fun _=> .out rfl) fun _=> .out rfl;exact .jump ⟨_,h3,rfl⟩
 obtain⟨ys,h,rfl⟩:=key;exact h
end
end Go.As.Try
end
section
namespace Go.Proofs.YtmnjojaejpcggaaGreatDoor.fnPrimsTell
open Go hiding Stat
open Go.As Go.As.Try Go.Proofs Go.RowKit Go.ChangeShapes Go.WideShapes Go.ChangeAt
set_option maxRecDepth 100000
theorem avW:yX Tryz.prog amK 8 25=some [.sl 3,.sl 4]:=by kernel_rfl
theorem avV:yX Tryz.prog amK 8 26=some [.sl 7]:=by kernel_rfl
theorem avU:yX Tryz.prog amK 8 27=some [.sl 9]:=by kernel_rfl
theorem Pm {H:Type} {enc:TypeId×Value->H} {W:World} {t:TypeId} {v:Value} {d:DataW H} {p:List MemPlace} {P7:List CK} (hf:yX Tryz.prog amK 8 t=some P7) (h:DataW.Trod enc Tryz.prog W 0 (fun _=>true) true t v d p) (hw:(d.weights Tryz.prog t).all (·<=reachBytes)=true) :
 ∃ds,Rs (Zu W) W.heap P7 ds v.cells.toList:=by
 obtain⟨fuel,hx⟩:=h;exact Uz auZ fuel t 8 P7 v.cells.toList (d,p) hf hx hw
theorem aEq:3750∈S.nums 3:=by
 have h:S.nums 3= [3750]:=by kernel_rfl
 rw [h];simp
theorem contract (H:Type) (enc:TypeId×Value->H) (W:World) (base:Nat) (args:Array Value) (ds gs:List (DataW H)) (before:List MemPlace)
 (hval: ∀(j:Nat) t v,Tryz.f3.params[j]?=some t->args[j]?=some v->Value.okWide Tryz.prog W .any base t v)
 (hW:DataW.Whole enc Tryz.prog Tryz.f3.params.toList Rows.primsTellSpec.vars false W args.toList ds gs before)
 (hsz:(DataW.weightsEach Tryz.prog (Tryz.f3.params.toList++ []) (ds++gs)).all (·<=reachBytes)=true) (hsh:W.ShapedOpen Tryz.prog) :
 Calls Tryz.prog 3 args W fun e W'=> ∃v,e= .returned v/\Rows.primsTellSpec.post enc Tryz.prog Tryz.f3 false true false false W args v W':=by
 have hW':=hW;obtain⟨p,q,hA0,hV,rfl,hfz,hnd⟩:=hW;have hA:DataW.TrodAll enc Tryz.prog W 0 (fun _=>true) true Tryz.f3.params.toList args.toList ds p:=hA0;rw [Tryz.params3] at hA hval hsz;obtain⟨v0,vs0,d0,ds0,p0,q0,hargs,rfl,rfl,h0,r0⟩:=trodAll_cons hA;obtain⟨v1,vs1,d1,ds1,p1,q1,rfl,rfl,rfl,h1,r1⟩:=trodAll_cons r0;obtain⟨v2,vs2,d2,ds2,p2,q2,rfl,rfl,rfl,h2,r2⟩:=trodAll_cons r1;obtain⟨rfl,rfl,rfl⟩:=trodAll_nil r2;obtain rfl:args= #[v0,v1,v2]:=by cases args; simp_all
 obtain⟨rfl,rfl⟩:=trodVars_none hV;clear hA0;simp only [aHU] at hW';have hlt: ∀x∈p0++(p1++p2),x.block<W.heap.size:=fun x hx=>by simpa using hW'.lt x (by simpa using hx)
 have hlt0: ∀x∈p0,x.block<W.heap.size:=fun x hx=>hlt x (aJr _ hx);have hlt1: ∀x∈p1,x.block<W.heap.size:=fun x hx=>hlt x (aI4 _ (aJr _ hx));have hlt2: ∀x∈p2,x.block<W.heap.size:=fun x hx=>hlt x (aI4 _ (aI4 _ hx))
 have hsz':(d0.weights Tryz.prog 25).all (·<=reachBytes)=true/\(d1.weights Tryz.prog 26).all (·<=reachBytes)=true/\(d2.weights Tryz.prog 27).all (·<=reachBytes)=true:=by have:(DataW.weightsEach Tryz.prog [25,26,27] [d0,d1,d2]).all (·<=reachBytes)=true:=hsz;simp only [DataW.weightsEach,aJn,aHg] at this;exact⟨this.1,this.2.1,this.2.2.1⟩
 obtain⟨es0,R0⟩:=Pm avW h0 hsz'.1;obtain⟨es1,R1⟩:=Pm avV h1 hsz'.2.1;obtain⟨es2,R2⟩:=Pm avU h2 hsz'.2.2;obtain⟨cs0,rfl,_⟩:=okWide_struct Tryz.underlying25 (hval 0 25 v0 rfl rfl);have e0:(Value.agg cs0).cells.toList=cs0.toList:=rfl;obtain⟨ad1,len1,cap1,rfl⟩:=okWide_slice Tryz.underlying26 (hval 1 26 v1 rfl rfl);have e1:(Value.slice ad1 len1 cap1).cells.toList= [.slice ad1 len1 cap1]:=rfl;obtain⟨ad2,len2,cap2,rfl⟩:=okWide_slice Tryz.underlying27 (hval 2 27 v2 rfl rfl);have e2:(Value.slice ad2 len2 cap2).cells.toList= [.slice ad2 len2 cap2]:=rfl;rw [e0] at R0;rw [e1] at R1;rw [e2] at R2
 match es0,hcs0:cs0.toList,R0 with
 |[x0,x1],[u0,u1],.cons r0_ w0 (.cons r1_ w1 .nil)=>
  obtain rfl:cs0= #[u0,u1]:=by rw [<- Array.toArray_toList (xs:=cs0),hcs0]
  match es1,R1 with
  |[x2],.cons r2_ w2 .nil=>
   match es2,R2 with
   |[x3],.cons r3_ w3 .nil=> have hL:=ajQ w0 w1 w2 w3;refine (asL (g:=3) (j:=3750) (e:=aoV.ent) aEq (by kernel_rfl) rfl rfl hL hsh (vals:=[.agg [u0,u1].toArray,.slice ad1 len1 cap1,.slice ad2 len2 cap2]) (fl:=[u0,u1,.slice ad1 len1 cap1,.slice ad2 len2 cap2]) (.agg _ [u0,u1] rfl (.one _ _ (.one _ _ .nil))) ⟨_,_,_,_,rfl,rfl,HY r0_,_,_,_,_,rfl,rfl,HY r1_,_,_,_,_,rfl,rfl,HY r2_,_,_,_,_,rfl,rfl,HY r3_,rfl,rfl⟩).mono fun e W' ⟨he,hb⟩=>?_;subst he;exact⟨_,rfl,⟨_,_,_,[],_,[],hW',trodAll_mk1 (shut_bool Tryz.underlying4 _),trodAll_mk3 (Below.trod laidOut (by kernel_rfl) (of_decide_eq_true (by kernel_rfl)) h0 hb hlt0) (Below.trod laidOut (by kernel_rfl) (of_decide_eq_true (by kernel_rfl)) h1 hb hlt1) (Below.trod laidOut (by kernel_rfl) (of_decide_eq_true (by kernel_rfl)) h2 hb hlt2),rfl,hb.frame _,fun h=>by cases h⟩⟩
abbrev abS:Array Value:=#[.agg #[.slice none 0 0,.slice none 0 0],.slice none 0 0,.slice none 0 0]
theorem laid_met (os:Os):laidMet Tryz.prog Rows.primsTellRow.laid ((laidWorld os).forCall (fun _ _=>0) ⟨#[],abS,[]⟩).memory:=
 laidMet_of_run' 8 (by kernel_rfl) (by kernel_rfl)
theorem reads (os:Os) {H:Type} (enc:TypeId×Value->H): ∃places,DataW.whole enc Tryz.prog ((laidWorld os).forCall (fun _ _=>0) ⟨#[],abS,[]⟩).memory Tryz.f3.params.toList [] false abS.toList 8=some ([.agg [.nil,.nil],.nil,.nil],[],places):=
 ⟨[],by kernel_rfl⟩
set_option maxHeartbeats 400000 in
theorem lifted (os:Os) (started:os.Started) (H:Type) (enc:TypeId×Value->H) (F:Stop.Interp) :
 ReturnsInHanded {} Tryz.checked os 3 .any ((OpenSpec.ofChange Rows.primsTellSpec).preRow enc Tryz.prog Tryz.f3 Rows.primsTellRow.domain false Rows.primsTellRow.laid) (((OpenSpec.ofChange Rows.primsTellSpec).at F).post enc Tryz.prog Tryz.f3 false true false false):=by
 obtain⟨places,hx⟩:=reads os enc
 refine returnsInHanded_of_row (C:=Tryz.checked) (s:=OpenSpec.ofChange Rows.primsTellSpec) Try.own started (by kernel_rfl) Tryz.func3
  (witness_row_at (enc:=enc) (C:=Tryz.checked) false (laidWorld os) abS rfl (by kernel_rfl) (by kernel_rfl) (by kernel_rfl)
   (OpenSpec.preRow_of_cond 8 hx (by kernel_rfl) (fun k hk=>by cases hk) (by kernel_rfl) (laid_met os))) ?_
 intro W base args ds gs before hval hW _ _ hsz _ hsh _;exact contract H enc W base args ds gs before hval hW hsz hsh
theorem kE {a b:Bool} (h1:a=true) (h2:b=true):(a&&b)=true:=by rw [h1,h2]; rfl
theorem closed:joinedFacts Tryz.pinned.checked.prog 3 Tryz.f3 (OpenSpec.ofChange Rows.primsTellSpec).bare Rows.primsTellRow=true:=(kE (kE (kE (kE (kE (kE (kE (kE (kE (kE (kE (kE (kE (kE (kE (kE (kE (kE (kE (kE (kE (kE (kE (kE (kE (kE (kE (kE (kE (kE (kE (by kernel_rfl) (by kernel_rfl)) (by kernel_rfl)) (by kernel_rfl)) (by kernel_rfl)) (by kernel_rfl)) (by kernel_rfl)) (by kernel_rfl)) (by kernel_rfl)) (by kernel_rfl)) (by kernel_rfl)) (by kernel_rfl)) (by kernel_rfl)) (by kernel_rfl)) (by kernel_rfl)) (by kernel_rfl)) (by kernel_rfl)) (by kernel_rfl)) (by kernel_rfl)) (by kernel_rfl)) (by kernel_rfl)) (by kernel_rfl)) (by kernel_rfl)) (by kernel_rfl)) (by kernel_rfl)) (by kernel_rfl)) (by kernel_rfl)) (by kernel_rfl)) (by kernel_rfl)) (by kernel_rfl)) (by kernel_rfl)) (by kernel_rfl))
theorem said:Rows.PrimsTellSaid:=
 OpenClaim.holds_of_cond 3 Tryz.f3 rfl rfl rfl rfl rfl rfl rfl ⟨rfl,rfl,rfl,rfl,rfl⟩ rfl rfl rfl rfl rfl (by kernel_rfl) Tryz.func3 closed
  (of_decide_eq_true (by kernel_rfl)) (by unfold Func.isWrapper; first |(rw [aHd (by decide +kernel)]; kernel_rfl)|(rw [aHc (by decide +kernel)]; exact⟨rfl,rfl⟩))
  (fun os started H enc _ F=>by rw [OpenClaim.pre_eq_preRow]; exact lifted os started H enc F)
theorem plain (f:FuncId) (fn:Func) (hf:Tryz.pinned.checked.prog.funcNamed "amanuensis/amanuensislaw12.PrimsTell" = some f) (hfn:Tryz.pinned.checked.prog.funcs[f]?=some fn) :
 false=Tryz.pinned.checked.prog.looks []/\∀(j:Nat) t,fn.params[j]?=some t->Tryz.pinned.checked.prog.wantsStandIn t=false:=by
 obtain rfl:f=3:=Option.some.inj ((show Tryz.prog.funcNamed "amanuensis/amanuensislaw12.PrimsTell" = some 3 by kernel_rfl).symm.trans hf) |>.symm;obtain rfl:fn=Tryz.f3:=(Option.some.inj (Tryz.func3.symm.trans hfn)).symm;refine⟨by kernel_rfl,fun j t ht=>?_⟩;rw [Tryz.params3] at ht;have hm:=aJj ht;simp only [List.mem_toArray,aHm,aId,or_false] at hm;rcases hm with rfl|rfl|rfl
 all_goals exact (by kernel_rfl:Tryz.prog.wantsStandIn _=false)
theorem card:Rows.PrimsTellCardSaid:=
 Claim7.holds_tied_plain_at .later [] _ _ _ _ said (fun _ h=>by cases h) (by kernel_rfl) (fun _ h=>by cases h) primsTell_row_tie rfl ⟨rfl,rfl⟩ (by kernel_rfl) rfl plain (by kernel_rfl)
end Go.Proofs.YtmnjojaejpcggaaGreatDoor.fnPrimsTell
end

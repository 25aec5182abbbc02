/-
  Proved: the given card of the law HeldSound: whatever the input, the call returns true and each argument reads afterwards as it did. Conditions: those of the given row alone (its listed package-level variables start as the program's text lays them; each string, slice and map that is handed in lies within a process's addresses).
-/
import Derived.Test.YtniglnbdppnhoabGreatDoorAsZH4
set_option linter.unusedSectionVars false
set_option linter.unusedVariables false
set_option linter.unusedSimpArgs false
section
namespace Go.As.Try
open Go hiding Stat Spec shape
open Go.As
set_option maxRecDepth 100000
theorem z6:((2:Int)=1)=False/\((4:Int)=3)=False/\((5:Int)=3)=False/\((5:Int)=4)=False/\((6:Int)=3)=False/\((6:Int)=4)=False/\((6:Int)=5)=False/\((7:Int)=3)=False/\((7:Int)=4)=False/\((7:Int)=5)=False/\((7:Int)=6)=False:=ad
structure KT where
 a:Int
 lc:D
 w:Int
 o:Int
 g:Int
 tr:Int
abbrev KT.d (x:KT):D:=dL [.i x.a,x.lc,.i x.w,.i x.o,.i x.g,.i x.tr]
structure Cd (d0 d1:D):Prop where
 h0:Wd (.sl 3) d0
 U:Wd (.sl 4) d1
 ok:mK d0 d1
 ins: ∀x∈d1.l,ab3 d0 x
theorem MR.code {d0 d1 s k:D} (h0:Wd (.sl 3) d0) (U:Wd (.sl 4) d1) (hr:Au s) (M:MR d0 d1 s k):Cd d0 d1/\s.l.length=d0.l.length:=by obtain⟨b,hb,_,hi⟩:=kj h0 U hr;rw [M.1] at hb;simp only [ah,List.cons.injEq,and_true] at hb;obtain⟨hC,hle,_⟩:=hi.1 hb.symm;obtain⟨ys,hC',c,rfl,_,oI⟩:=r7 h0 U;rw [hC] at hC';simp only [ah,List.cons.injEq,and_true] at hC';have:=oI hC'.symm;exact⟨⟨h0,U,this.1,this.2⟩,hle⟩
structure Rt (d0 d1:D) (t:Int) (x:KT):Prop where
 t0:0<=t
 t1:t<(d1.l.length:Int)
 ok:OkT d0 ((d1.at t).hd 1).l.length ((d1.at t).hd 2).l.length x.a x.lc.l.length x.w x.o x.g x.tr
 Y:Wd (.sl 0) x.lc
 hg:fH .i64 x.g
abbrev fD (d1:D) (t:Int) (x:KT):D:=((d1.at t).hd 2).at x.a
abbrev Nc (d1:D) (t:Int):Nat:=((d1.at t).hd 2).l.length
structure InF (d0:D) (nl nc:Nat) (I:D):Prop where
 ok:OkI d0 nl nc (I.hd 0).n (I.hd 1).n (I.hd 2).n (I.hd 3).n (I.hd 4).n (I.hd 6).l.length
 op:fH .u8 (I.hd 1).n
 ob:fH .i64 (I.hd 2).n
 to:fH .i64 (I.hd 4).n
 nn:fH .i64 (I.hd 5).n
 ar:Wd (.sl 6) (I.hd 6)
theorem Cd.at {d0 d1:D} (C:Cd d0 d1) {t:Int} (t0:0<=t) (t1:t<(d1.l.length:Int)):d1.at t∈d1.l:=by
 obtain⟨i,rfl⟩ : ∃i:Nat,t=(i:Int):=⟨t.toNat,J⟩
 grind [bX]
theorem XE {d:D} {i:Int} (h0:0<=i) (U:i<(d.l.length:Int)):d.at i∈d.l:=by
 obtain⟨k,rfl⟩ : ∃k:Nat,i=(k:Int):=⟨i.toNat,J⟩
 grind [bX]
theorem Cd.code {d0 d1:D} (C:Cd d0 d1) {t:Int} (t0:0<=t) (t1:t<(d1.l.length:Int)):Wd (.sl 5) ((d1.at t).hd 2):=by
 obtain⟨i,rfl⟩ : ∃i:Nat,t=(i:Int):=⟨t.toNat,J⟩;have hi:i<d1.l.length:=J
 obtain⟨wX,lc,cd,he,_,_,h⟩:=yg C.U hi;rw [bX hi,he];exact h
theorem Cd.inf {d0 d1:D} (C:Cd d0 d1) {t:Int} {x:KT} (R:Rt d0 d1 t x) (h:x.a<(Nc d1 t:Int)):InF d0 ((d1.at t).hd 1).l.length (Nc d1 t) (fD d1 t x):=by
 have ha:=R.ok.1;have U:=C.ins _ (C.at R.t0 R.t1) (fD d1 t x) (XE ha h);obtain⟨i,hi⟩ : ∃i:Nat,x.a=(i:Int):=⟨x.a.toNat,J⟩;have dS:i<((d1.at t).hd 2).l.length:=by unfold Nc at h; omega
 obtain⟨a,b,c,e,f,g,Fp,he,_,hb,hc,_,hf,hg,hw⟩:=N9 (C.code R.t0 R.t1) dS;have hI:fD d1 t x=dL [.i a,.i b,.i c,.i e,.i f,.i g,Fp]:=by unfold fD; rw [hi,bX dS,he]
 refine⟨U,?_,?_,?_,?_,?_⟩
 all_goals
  rw [hI];simp only [zg,ax,qk];assumption
theorem Rt.ints {d0 d1:D} {t:Int} {x:KT} (R:Rt d0 d1 t x):UH x.lc:=fun y hy=>by obtain⟨n,rfl,hn⟩:=(R.Y.el1 rfl y hy).i;exact hn
section
variable {d0 d1 s k:D} {t:Int} {x:KT} (hk:k.at t=x.d) (ht:t<(k.l.length:Int)) (R:Rt d0 d1 t x)
include hk ht R
def gj (d1:D) (t:Int) (x:KT):Int:=if x.w=0 then (if x.a=(Nc d1 t:Int) then 1 else 0) else 0
theorem nv:L 1650 [enc d0,enc d1,enc s,enc k,t]=some [gj d1 t x]:=by
 have c1: ¬t<0:=by have:=R.t0; omega
 have c2:=R.t1;unfold gj Nc;rw [bL,ac5];simp only [abI,zz,hk,c1,ht,c2,zg];by_cases w0:x.w=0
 ·simp only [w0,if_true];by_cases a0:x.a=(((d1.at t).hd 2).l.length:Int)
  ·simp only [a0,if_true];rfl
  ·simp only [a0,if_false];rfl
 ·simp only [w0,if_false];rfl
end
noncomputable def ev (e lc:D):Int:=low ((L 1950 [(e.hd 0).n,enc (e.hd 1),(e.hd 2).n,enc (e.hd 3),enc lc]).getD []) 0
theorem LR {Cc lc:D} (ha:Wd (.sl 6) Cc) (Y:UH lc) {i:Int} (i0:0<=i) (i1:i<(Cc.l.length:Int)):L 1950 [((Cc.at i).hd 0).n,enc ((Cc.at i).hd 1),((Cc.at i).hd 2).n,enc ((Cc.at i).hd 3),enc lc]=some [ev (Cc.at i) lc]/\fH .i64 (ev (Cc.at i) lc):=by
 obtain⟨j,rfl⟩ : ∃j:Nat,i=(j:Int):=⟨i.toNat,J⟩;have hj:j<Cc.l.length:=J
 obtain⟨k',s',n',W_,he,_,_,v_,Z⟩:=wi ha hj;obtain⟨ys,hL,v,rfl,hv⟩:=LQ _ W_ (au _) Z k' n' s' lc v_ Y;have e1:Cc.at (j:Int)=dL [.i k',s',.i n',W_]:=by rw [bX hj,he]
 simp_all [ev,e1,zg,qk,bM]
noncomputable def FD (Cc lc:D):Int:=if Cc.l.length=0 then 0 else ev (Cc.at ((Cc.l.length:Int)-1)) lc
theorem aaX {Cc lc:D} (ha:Wd (.sl 6) Cc) (Y:UH lc):fH .i64 (FD Cc lc):=by
 unfold FD;split
 ·constructor<;>omega
 ·exact (LR ha Y J J).2
theorem Gy {Cc lc:D} (ha:Wd (.sl 6) Cc) (Y:UH lc) (x3 x5 x6 x7 x8 x9 Nb:Int): ∀(j i:Nat) (v:Int),i+j=Cc.l.length->L 1751 [enc Cc,(Cc.l.length:Int),(i:Int),x3,enc lc,x5,x6,x7,x8,x9,Nb,v]=some [x9,Nb,if j=0 then v else FD Cc lc,x8,1]
 |0,i,v,hi=>by simp_all [bL,Zs,Wr,zz,cg]
 |j+1,i,v,hi=>by
  have hr:=ha.len;have c1:(i:Int)<(Cc.l.length:Int):=J
  have c2: ¬((i:Int)<0):=J
  have w:=bP (n:=i) J;obtain⟨he,_⟩:=LR ha Y (i:=(i:Int)) J c1;have ih:=Gy ha Y x3 x5 x6 x7 x8 x9 Nb j (i+1) (ev (Cc.at (i:Int)) lc) J;rw [bL,Zs];simp only [Wr,zz,c1,c2,w,he,bF]
  grind [FD]
noncomputable def fK (d1:D) (t:Int) (x:KT):List Int:=
 if x.w=0 then
  if x.a=(Nc d1 t:Int) then [0,0,0,0,0]
  else if ((fD d1 t x).hd 0).n=1 then [((fD d1 t x).hd 1).n,((fD d1 t x).hd 2).n,FD ((fD d1 t x).hd 6) x.lc,x.tr,1]
  else if ((fD d1 t x).hd 0).n=2 then [26,((fD d1 t x).hd 2).n,0,0,1]
  else [0,0,0,0,0]
 else [x.w,x.o,x.g,0,1]
section
variable {d0 d1 s k:D} {t:Int} {x:KT} (C:Cd d0 d1) (hk:k.at t=x.d) (ht:t<(k.l.length:Int)) (R:Rt d0 d1 t x)
include C hk ht R
theorem vP:L 1750 [enc d0,enc d1,enc s,enc k,t]=some (fK d1 t x):=by
 have c1: ¬t<0:=by have:=R.t0; omega
 have c2:=R.t1;have c3: ¬x.a<0:=by have:=R.ok.1; omega
 have ho:=nv (s:=s) hk ht R;unfold fK;rw [bL,ac4];by_cases w0:x.w=0
 ·by_cases a0:x.a=(Nc d1 t:Int)
  ·have e:gj d1 t x=1:=by unfold gj; rw [ag w0,ag a0]
   rw [e] at ho;rw [ag w0,ag a0];simp only [FR,zz,hk,c1,ht,c2,zg,w0,ho,bG,cg]
  ·have e:gj d1 t x=0:=by unfold gj; rw [ag w0,af a0]
   rw [e] at ho;have fW:x.a<(Nc d1 t:Int):=by have:=R.ok.2.1; unfold Nc at a0 ⊢; omega
   have F:=C.inf R fW;rw [ag w0,af a0];unfold fD at F ⊢;unfold Nc at fW;by_cases U:((((d1.at t).hd 2).at x.a).hd 0).n=1
   ·rw [ag U];have lp:=Gy F.ar R.ints x.a x.w x.o x.g x.tr ((((d1.at t).hd 2).at x.a).hd 1).n ((((d1.at t).hd 2).at x.a).hd 2).n ((((d1.at t).hd 2).at x.a).hd 6).l.length 0 0 J
    have e2:(if ((((d1.at t).hd 2).at x.a).hd 6).l.length=0 then 0 else FD ((((d1.at t).hd 2).at x.a).hd 6) x.lc)=FD ((((d1.at t).hd 2).at x.a).hd 6) x.lc:=by
     grind [FD]
    rw [e2] at lp;simp only [FR,zz,hk,c1,ht,c2,c3,zg,w0,ho,fW,U,bF]
    grind
   ·by_cases Z:((((d1.at t).hd 2).at x.a).hd 0).n=2
    ·rw [af U,ag Z];simp only [FR,zz,hk,c1,ht,c2,c3,zg,w0,ho,fW,Z,cg,if_false,z6]
    ·rw [af U,af Z];simp only [FR,zz,hk,c1,ht,c2,c3,zg,w0,ho,fW,U,Z,cg]
 ·rw [af w0];simp only [FR,zz,hk,c1,ht,zg,w0,cg]
end
noncomputable def fk (I:D) (x:KT):KT:=
 if (I.hd 0).n=3 then { x with a:=x.a+1,lc:=dL (eY x.lc.l (I.hd 3).n (.i (ev ((I.hd 6).at 0) x.lc))) }
 else if (I.hd 0).n=4 then (if ev ((I.hd 6).at 0) x.lc=0 then { x with a:=(I.hd 4).n } else { x with a:=x.a+1 })
 else if (I.hd 0).n=5 then { x with a:=(I.hd 4).n }
 else if (I.hd 0).n=6 then { x with a:=x.a+1,lc:=dL (eY x.lc.l (I.hd 3).n (.i (I.hd 5).n)) }
 else if 0<(x.lc.at (I.hd 3).n).n then { x with a:=x.a+1,lc:=dL (eY x.lc.l (I.hd 3).n (.i (IntKind.i64.wrap ((x.lc.at (I.hd 3).n).n-1)))) }
 else { x with a:=(I.hd 4).n }
structure Loc (d1:D) (t:Int) (x:KT):Prop where
 w:x.w=0
 a:x.a<(Nc d1 t:Int)
 n1:((fD d1 t x).hd 0).n≠1
 n2:((fD d1 t x).hd 0).n≠2
theorem pw {d0 d1:D} {t:Int} {x:KT} (R:Rt d0 d1 t x) (ho:gj d1 t x=0) (hn:low (fK d1 t x) 4=0):Loc d1 t x:=by
 unfold gj at ho;unfold fK at hn;have Z:=R.ok.2.1;by_cases w0:x.w=0
 ·rw [ag w0] at ho hn;by_cases a0:x.a=(Nc d1 t:Int)
  ·grind
  ·rw [af a0] at hn;by_cases U:((fD d1 t x).hd 0).n=1
   ·grind [bN,bM]
   ·by_cases h2':((fD d1 t x).hd 0).n=2
    ·grind [bN,bM]
    ·exact⟨w0,by unfold Nc at a0 ⊢; omega,U,h2'⟩
 grind [bN,bM]
section
variable {d0 d1 s k:D} {t:Int} {x:KT} (C:Cd d0 d1) (ht:t<(k.l.length:Int)) (R:Rt d0 d1 t x) (Lc:Loc d1 t x)
include C ht R Lc
theorem Lg:L 14000 [enc d0,enc d1,t,enc s,enc k,x.a,enc x.lc,x.w,x.o,x.g,x.tr]=some [0,enc d0,enc d1,t,enc s,enc k,x.a,enc x.lc,x.w,x.o,x.g,x.tr,(fk (fD d1 t x) x).a,enc (fk (fD d1 t x) x).lc]:=by
 have c1: ¬t<0:=by have:=R.t0; omega
 have c2:=R.t1;have c3: ¬x.a<0:=by have:=R.ok.1; omega
 have c4:=Lc.a;have F:=C.inf R c4;have On:(x.lc.l.length:Int)=(((d1.at t).hd 1).l.length:Int):=R.ok.2.2.1;have hnc:((d1.at t).hd 2).l.length<=140737488351232:=(C.code R.t0 R.t1).len;have n1:=Lc.n1;have n2:=Lc.n2
 have hw:IntKind.i64.wrap (x.a+1)=x.a+1:=by
  grind [jT]
 have E:=LR F.ar R.ints (i:=0);have ok:=F.ok;unfold fD at n1 n2 ok E ⊢;unfold Nc at c4;rw [bL,ZA];unfold fk;rcases ok with h|h|⟨h,i0,i1,na⟩|⟨h,_,_,na⟩|⟨h,_⟩|⟨h,i0,i1⟩|⟨h,i0,i1,_⟩
 ·grind
 ·grind
 ·have c5: ¬(((((d1.at t).hd 2).at x.a).hd 3).n<0):=J
  have c6:(((((d1.at t).hd 2).at x.a).hd 3).n<(x.lc.l.length:Int)):=J
  have c7:(0:Int)<(((((d1.at t).hd 2).at x.a).hd 6).l.length:Int):=J
  obtain⟨E,_⟩:=E J c7;simp only [uq,zz,c1,ht,c2,c3,c4,c5,c6,c7,h,E,hw,cg]
 ·have c7:(0:Int)<(((((d1.at t).hd 2).at x.a).hd 6).l.length:Int):=J
  obtain⟨E,_⟩:=E J c7;by_cases hz:ev (((((d1.at t).hd 2).at x.a).hd 6).at 0) x.lc=0
  ·simp only [uq,zz,c1,ht,c2,c3,c4,c7,h,E,hw,hz,cg,z6]
  ·simp only [uq,zz,c1,ht,c2,c3,c4,c7,h,E,hw,hz,cg,z6]
 ·simp only [uq,zz,c1,ht,c2,c3,c4,h,hw,cg,z6]
 ·have c5: ¬(((((d1.at t).hd 2).at x.a).hd 3).n<0):=J
  have c6:(((((d1.at t).hd 2).at x.a).hd 3).n<(x.lc.l.length:Int)):=J
  simp only [uq,zz,c1,ht,c2,c3,c4,c5,c6,h,hw,cg,z6]
 ·have c5: ¬(((((d1.at t).hd 2).at x.a).hd 3).n<0):=J
  have c6:(((((d1.at t).hd 2).at x.a).hd 3).n<(x.lc.l.length:Int)):=J
  by_cases hz:0<(x.lc.at ((((d1.at t).hd 2).at x.a).hd 3).n).n
  ·simp only [uq,zz,c1,ht,c2,c3,c4,c5,c6,h,hw,hz,cg,z6]
  ·simp only [uq,zz,c1,ht,c2,c3,c4,c5,c6,h,hw,hz,cg,z6]
theorem Le (hz:x.lc.l.length=0):L 14050 [enc d0,enc d1,t,enc s,enc k,x.a,enc x.lc,x.w,x.o,x.g,x.tr]=some [0,enc d0,enc d1,t,enc s,enc k,x.a,enc x.lc,x.w,x.o,x.g,x.tr,(fk (fD d1 t x) x).a]/\(fk (fD d1 t x) x).lc=x.lc:=by
 have c1: ¬t<0:=by have:=R.t0; omega
 have c2:=R.t1;have c3: ¬x.a<0:=by have:=R.ok.1; omega
 have c4:=Lc.a;have F:=C.inf R c4;have On:(x.lc.l.length:Int)=(((d1.at t).hd 1).l.length:Int):=R.ok.2.2.1;have hnc:((d1.at t).hd 2).l.length<=140737488351232:=(C.code R.t0 R.t1).len;have n1:=Lc.n1;have n2:=Lc.n2
 have hw:IntKind.i64.wrap (x.a+1)=x.a+1:=by
  grind [jT]
 have E:=LR F.ar R.ints (i:=0);have ok:=F.ok;unfold fD at n1 n2 ok E ⊢;unfold Nc at c4;rw [bL,Zz];unfold fk;rcases ok with h|h|⟨h,i0,i1,na⟩|⟨h,_,_,na⟩|⟨h,_⟩|⟨h,i0,i1⟩|⟨h,i0,i1,_⟩
 ·grind
 ·grind
 ·omega
 ·have c7:(0:Int)<(((((d1.at t).hd 2).at x.a).hd 6).l.length:Int):=J
  obtain⟨E,_⟩:=E J c7;by_cases hz:ev (((((d1.at t).hd 2).at x.a).hd 6).at 0) x.lc=0
  ·simp only [H7,zz,c1,ht,c2,c3,c4,c7,h,E,hw,hz,cg,z6]
  ·simp only [H7,zz,c1,ht,c2,c3,c4,c7,h,E,hw,hz,cg,z6]
 ·simp only [H7,zz,c1,ht,c2,c3,c4,h,hw,cg,z6]
 all_goals grind
theorem nL:Rt d0 d1 t (fk (fD d1 t x) x)/\(fk (fD d1 t x) x).lc.l.length=x.lc.l.length:=by
 have c4:=Lc.a;have F:=C.inf R c4;obtain⟨a0,a1,On,tr0,tr1,hw⟩:=R.ok;have n1:=Lc.n1;have n2:=Lc.n2;have ok:=F.ok;have hI:=R.ints
 have hwd: ∀{z v:Int},0<=z->z<(x.lc.l.length:Int)->fH .i64 v->Wd (.sl 0) (dL (eY x.lc.l z (.i v))):=fun {z v} h0 U hv=>by
  have:=R.Y.room;have h3:r9 0=8:=rfl;rw [h3] at this;have hs:=fQ x.lc.l z (.i v);refine vz (fun y hy=>?_) (fun he=>?_) (by rw [hs]; omega)
  ·rcases uJ hy with h|rfl
   ·exact (R.Y.el1 rfl y h).i
   grind
  grind
 have UU: ∀z v,(dL (eY x.lc.l z v)).l.length=x.lc.l.length:=fun z v=>by rw [bJ,fQ]
 have T:=R.t0;have T':=R.t1;unfold Nc at c4 ok F;unfold fk;have go: ∀{a:Int} {lc:D},0<=a->a<=(((d1.at t).hd 2).l.length:Int)->lc.l.length=x.lc.l.length->Wd (.sl 0) lc->Rt d0 d1 t { x with a:=a,lc:=lc }/\({ x with a:=a,lc:=lc }:KT).lc.l.length=x.lc.l.length:=fun h0 U Z h3=> ⟨⟨T,T',⟨h0,U,by rw [Z]; exact On,tr0,tr1,hw⟩,h3,R.hg⟩,Z⟩;rcases ok with h|h|⟨h,i0,i1,na⟩|⟨h,t0,t1,na⟩|⟨h,t0,t1⟩|⟨h,i0,i1⟩|⟨h,i0,i1,t0,t1⟩
 ·grind
 ·grind
 ·rw [ag h];exact go J J (UU _ _) (hwd i0 J (LR F.ar hI J J).2)
 ·rw [af J,ag h];split
  ·exact go t0 t1 rfl R.Y
  ·exact go J J rfl R.Y
 ·rw [af J,af J,ag h];exact go t0 t1 rfl R.Y
 ·rw [af J,af J,af J,ag h];exact go J J (UU _ _) (hwd i0 J F.nn)
 ·rw [af J,af J,af J,af J];split
  ·grind [go,qc]
  ·exact go t0 t1 rfl R.Y
end
theorem z5:(∀p:Prop,(p/\False)=False)/\(∀p:Prop,(False/\p)=False)/\(¬True)=False/\(∀p:Prop,(p/\p)=p)/\(∀(a:Int) (l m:List Int),(a::l)++m=a::(l++m))/\(∀l:List Int,[]++l=l)/\((16:Int)=15)=False/\((3:Int)=0)=False/\((15:Int)=16)=False/\(∀ys:List Int,fin L (.out ys)=some ys):=
 ⟨and_false,false_and,not_true_eq_false,and_self,fun _ _ _=>rfl,fun _=>rfl,ad,ad,ad,fun _=>rfl⟩
def UN:Act->Prop
 | .res _ _ _ _ _ _ _ a _=>fH .i64 a
 |_=>True
theorem UN.ite {p:Prop} [Decidable p] {a b:Act} (ha:UN a) (hb:UN b):UN (if p then a else b):=by
 grind
theorem ag1 {r:D} (h:Wd (.sl 0) r) (i:Nat):fH .i64 (r.at (i:Int)).n:=by
 by_cases hi:i<r.l.length
 ·rw [bX hi];obtain⟨n,hn,hk⟩:=(h.el1 rfl _ (az hi)).i;rw [hn];exact hk
 ·rw [kN,amD J];constructor<;>(simp only [amk,qk]; omega)
theorem ajC {y:D} {M mo th op arg tries o c dn g:Int} {r v:D} (T:Tg y o c dn g r v) (hr:r.l.length<=140737488351232) (ha:fH .i64 arg):UN (act M mo th op arg tries o c dn g r v):=by
 have hz:fH .i64 0:=⟨J,J⟩;have U:fH .i64 1:=⟨J,J⟩;have w:=@qc;have hv:=ag1 T.hv 0;have Y:fH .i64 (r.l.length:Int):=⟨J,J⟩;unfold act
 repeat' refine UN.ite ?_ ?_
 all_goals first
  |trivial
  |exact hz
  |exact U
  |exact w _
  |exact T.hc
  |exact ha
  |exact T.hg
  |exact hv
  |exact Y
def jq (I:D) (x:KT) (op e2 e3 e4 oc:Int):KT:=
 if oc=0 then (if op=4 then { x with tr:=if 4611686018427387904<x.tr+1 then 4611686018427387904 else x.tr+1 } else x)
 else if x.w=0 then
  { a:=if (I.hd 0).n=1/\(I.hd 1).n=16/\¬(e2=16/\e4=1) then (I.hd 4).n else x.a+1,lc:=if (I.hd 0).n=1/\¬(I.hd 3).n<0 then dL (eY x.lc.l (I.hd 3).n (.i e4)) else x.lc,w:=if oc=3 then (if e2=15 then 25 else 24) else 0,o:=if oc=3 then e3 else x.o,g:=if oc=3/\e2=15 then e4 else x.g,tr:=0 }
 else { x with w:=0,o:=0,g:=0,tr:=0 }
def w! (e1 e2 e3 e4 e5 oc:Int):List Int:=if oc=0 then [0,0,0,0,0] else [e1,e2,e3,e4,e5]
section
variable {d0 d1 s s' k:D} {t op obj arg tries e1 e2 e3 e4 e5 oc:Int} {x:KT} (C:Cd d0 d1) (ht:t<(k.l.length:Int)) (R:Rt d0 d1 t x)
 (hA:L 400 [enc d0,enc d1,enc s,t,op,obj,arg,tries]=some [enc s',e1,e2,e3,e4,e5,oc]) (h0:oc=0->s'=s) (hx:x.w=0->x.a<(Nc d1 t:Int))
include C ht R hA h0 hx
set_option maxHeartbeats 4000000 in
theorem Ks:L 14500 [enc d0,enc d1,t,op,obj,arg,tries,enc s,enc k,x.a,enc x.lc,x.w,x.o,x.g,x.tr]=some (0::enc d0::enc d1::t::op::obj::arg::tries::enc s::enc k::x.a::enc x.lc::x.w::x.o::x.g::x.tr::(w! e1 e2 e3 e4 e5 oc++ [oc,enc s',(jq (fD d1 t x) x op e2 e3 e4 oc).a,enc (jq (fD d1 t x) x op e2 e3 e4 oc).lc,(jq (fD d1 t x) x op e2 e3 e4 oc).w,(jq (fD d1 t x) x op e2 e3 e4 oc).o,(jq (fD d1 t x) x op e2 e3 e4 oc).g,(jq (fD d1 t x) x op e2 e3 e4 oc).tr])):=by
 have c1: ¬t<0:=by have:=R.t0; omega
 have c2:=R.t1;have c3: ¬x.a<0:=by have:=R.ok.1; omega
 have q0:=R.ok.2.2.2.1;have q1:=R.ok.2.2.2.2.1;have wt:IntKind.i64.wrap (x.tr+1)=x.tr+1:=jT J J;rw [bL,Zx];unfold jq w!;by_cases o0:oc=0
 ·have hs:=h0 o0;subst hs;subst o0;by_cases p4:op=4
  ·subst p4;by_cases pt:4611686018427387904<x.tr+1
   ·simp only [fc,zz,hA,c1,ht,wt,pt,cg,if_true,eq_self,aO,aC]
   ·simp only [fc,zz,hA,c1,ht,wt,pt,cg,if_true,eq_self,if_false,aO,aC]
  ·simp only [fc,zz,hA,c1,ht,p4,cg,if_true,if_false,aO,aC]
 ·by_cases w0:x.w=0
  ·have c4:=hx w0;have F:=C.inf R c4;have ok:=F.ok;have On:(x.lc.l.length:Int)=(((d1.at t).hd 1).l.length:Int):=R.ok.2.2.1;have hnc:((d1.at t).hd 2).l.length<=140737488351232:=(C.code R.t0 R.t1).len;unfold Nc at c4;have hw:IntKind.i64.wrap (x.a+1)=x.a+1:=jT J J;unfold OkI fD at ok;unfold fD;by_cases n1:((((d1.at t).hd 2).at x.a).hd 0).n=1
   ·have wK:((((d1.at t).hd 2).at x.a).hd 3).n= -1\/0<=((((d1.at t).hd 2).at x.a).hd 3).n/\((((d1.at t).hd 2).at x.a).hd 3).n<(x.lc.l.length:Int):=by
     grind
    by_cases i0:((((d1.at t).hd 2).at x.a).hd 3).n<0
    ·by_cases tG:((((d1.at t).hd 2).at x.a).hd 1).n=16
     ·by_cases Bt:e2=16
      ·by_cases q4:e4=1
       ·by_cases q3:oc=3
        ·simp only [fc,zz,hA,c1,ht,c2,c3,c4,o0,w0,hw,n1,i0,tG,Bt,q4,q3,z5]
        ·simp only [fc,zz,hA,c1,ht,c2,c3,c4,o0,w0,hw,n1,i0,tG,Bt,q4,q3,z5]
       ·by_cases q3:oc=3
        ·simp only [fc,zz,hA,c1,ht,c2,c3,c4,o0,w0,hw,n1,i0,tG,Bt,q4,q3,z5]
        ·simp only [fc,zz,hA,c1,ht,c2,c3,c4,o0,w0,hw,n1,i0,tG,Bt,q4,q3,z5]
      ·by_cases sL:e2=15
       ·by_cases q3:oc=3
        ·simp only [fc,zz,hA,c1,ht,c2,c3,c4,o0,w0,hw,n1,i0,tG,Bt,sL,q3,z5]
        ·simp only [fc,zz,hA,c1,ht,c2,c3,c4,o0,w0,hw,n1,i0,tG,Bt,sL,q3,z5]
       ·by_cases q3:oc=3
        ·simp only [fc,zz,hA,c1,ht,c2,c3,c4,o0,w0,hw,n1,i0,tG,Bt,sL,q3,z5]
        ·simp only [fc,zz,hA,c1,ht,c2,c3,c4,o0,w0,hw,n1,i0,tG,Bt,sL,q3,z5]
     ·by_cases sL:e2=15
      ·by_cases q3:oc=3
       ·simp only [fc,zz,hA,c1,ht,c2,c3,c4,o0,w0,hw,n1,i0,tG,sL,q3,z5]
       ·simp only [fc,zz,hA,c1,ht,c2,c3,c4,o0,w0,hw,n1,i0,tG,sL,q3,z5]
      ·by_cases q3:oc=3
       ·simp only [fc,zz,hA,c1,ht,c2,c3,c4,o0,w0,hw,n1,i0,tG,sL,q3,z5]
       ·simp only [fc,zz,hA,c1,ht,c2,c3,c4,o0,w0,hw,n1,i0,tG,sL,q3,z5]
    ·have i1:((((d1.at t).hd 2).at x.a).hd 3).n<(x.lc.l.length:Int):=J
     by_cases tG:((((d1.at t).hd 2).at x.a).hd 1).n=16
     ·by_cases Bt:e2=16
      ·by_cases q4:e4=1
       ·by_cases q3:oc=3
        ·simp only [fc,zz,hA,c1,ht,c2,c3,c4,o0,w0,hw,n1,i0,i1,tG,Bt,q4,q3,z5]
        ·simp only [fc,zz,hA,c1,ht,c2,c3,c4,o0,w0,hw,n1,i0,i1,tG,Bt,q4,q3,z5]
       ·by_cases q3:oc=3
        ·simp only [fc,zz,hA,c1,ht,c2,c3,c4,o0,w0,hw,n1,i0,i1,tG,Bt,q4,q3,z5]
        ·simp only [fc,zz,hA,c1,ht,c2,c3,c4,o0,w0,hw,n1,i0,i1,tG,Bt,q4,q3,z5]
      ·by_cases sL:e2=15
       ·by_cases q3:oc=3
        ·simp only [fc,zz,hA,c1,ht,c2,c3,c4,o0,w0,hw,n1,i0,i1,tG,Bt,sL,q3,z5]
        ·simp only [fc,zz,hA,c1,ht,c2,c3,c4,o0,w0,hw,n1,i0,i1,tG,Bt,sL,q3,z5]
       ·by_cases q3:oc=3
        ·simp only [fc,zz,hA,c1,ht,c2,c3,c4,o0,w0,hw,n1,i0,i1,tG,Bt,sL,q3,z5]
        ·simp only [fc,zz,hA,c1,ht,c2,c3,c4,o0,w0,hw,n1,i0,i1,tG,Bt,sL,q3,z5]
     ·by_cases sL:e2=15
      ·by_cases q3:oc=3
       ·simp only [fc,zz,hA,c1,ht,c2,c3,c4,o0,w0,hw,n1,i0,i1,tG,sL,q3,z5]
       ·simp only [fc,zz,hA,c1,ht,c2,c3,c4,o0,w0,hw,n1,i0,i1,tG,sL,q3,z5]
      ·by_cases q3:oc=3
       ·simp only [fc,zz,hA,c1,ht,c2,c3,c4,o0,w0,hw,n1,i0,i1,tG,sL,q3,z5]
       ·simp only [fc,zz,hA,c1,ht,c2,c3,c4,o0,w0,hw,n1,i0,i1,tG,sL,q3,z5]
   ·by_cases sL:e2=15
    ·by_cases q3:oc=3
     ·simp only [fc,zz,hA,c1,ht,c2,c3,c4,o0,w0,hw,n1,sL,q3,z5]
     ·simp only [fc,zz,hA,c1,ht,c2,c3,c4,o0,w0,hw,n1,sL,q3,z5]
    ·by_cases q3:oc=3
     ·simp only [fc,zz,hA,c1,ht,c2,c3,c4,o0,w0,hw,n1,sL,q3,z5]
     ·simp only [fc,zz,hA,c1,ht,c2,c3,c4,o0,w0,hw,n1,sL,q3,z5]
  ·simp only [fc,zz,hA,c1,ht,o0,w0,cg,if_true,if_false,aO,aC]
end
section
variable {d0 d1 s s' k:D} {t op obj arg tries e1 e2 e3 e4 e5 oc:Int} {x:KT} (C:Cd d0 d1) (ht:t<(k.l.length:Int)) (R:Rt d0 d1 t x)
 (hA:L 400 [enc d0,enc d1,enc s,t,op,obj,arg,tries]=some [enc s',e1,e2,e3,e4,e5,oc]) (h0:oc=0->s'=s) (hx:x.w=0->x.a<(Nc d1 t:Int)) (hz:x.lc.l.length=0)
include C ht R hA h0 hx hz
set_option maxHeartbeats 4000000 in
theorem Kr:L 14550 [enc d0,enc d1,t,op,obj,arg,tries,enc s,enc k,x.a,enc x.lc,x.w,x.o,x.g,x.tr]=some (0::enc d0::enc d1::t::op::obj::arg::tries::enc s::enc k::x.a::enc x.lc::x.w::x.o::x.g::x.tr::(w! e1 e2 e3 e4 e5 oc++ [oc,enc s',(jq (fD d1 t x) x op e2 e3 e4 oc).a,(jq (fD d1 t x) x op e2 e3 e4 oc).w,(jq (fD d1 t x) x op e2 e3 e4 oc).o,(jq (fD d1 t x) x op e2 e3 e4 oc).g,(jq (fD d1 t x) x op e2 e3 e4 oc).tr]))/\(jq (fD d1 t x) x op e2 e3 e4 oc).lc=x.lc:=by
 have c1: ¬t<0:=by have:=R.t0; omega
 have c2:=R.t1;have c3: ¬x.a<0:=by have:=R.ok.1; omega
 have q0:=R.ok.2.2.2.1;have q1:=R.ok.2.2.2.2.1;have wt:IntKind.i64.wrap (x.tr+1)=x.tr+1:=jT J J;rw [bL,Zu];unfold jq w!;by_cases o0:oc=0
 ·have hs:=h0 o0;subst hs;subst o0;by_cases p4:op=4
  ·subst p4;by_cases pt:4611686018427387904<x.tr+1
   ·simp only [iN,zz,hA,c1,ht,wt,pt,cg,if_true,eq_self,aO,aC]<;>exact⟨rfl,rfl⟩
   ·simp only [iN,zz,hA,c1,ht,wt,pt,cg,if_true,eq_self,if_false,aO,aC]<;>exact⟨rfl,rfl⟩
  ·simp only [iN,zz,hA,c1,ht,p4,cg,if_true,if_false,aO,aC]<;>exact⟨rfl,rfl⟩
 ·by_cases w0:x.w=0
  ·have c4:=hx w0;have F:=C.inf R c4;have ok:=F.ok;have On:(x.lc.l.length:Int)=(((d1.at t).hd 1).l.length:Int):=R.ok.2.2.1;have hnc:((d1.at t).hd 2).l.length<=140737488351232:=(C.code R.t0 R.t1).len;unfold Nc at c4;have hw:IntKind.i64.wrap (x.a+1)=x.a+1:=jT J J;unfold OkI fD at ok;unfold fD;by_cases n1:((((d1.at t).hd 2).at x.a).hd 0).n=1
   ·have wK:((((d1.at t).hd 2).at x.a).hd 3).n= -1\/0<=((((d1.at t).hd 2).at x.a).hd 3).n/\((((d1.at t).hd 2).at x.a).hd 3).n<(x.lc.l.length:Int):=by
     grind
    by_cases i0:((((d1.at t).hd 2).at x.a).hd 3).n<0
    ·by_cases tG:((((d1.at t).hd 2).at x.a).hd 1).n=16
     ·by_cases Bt:e2=16
      ·by_cases q4:e4=1
       ·by_cases q3:oc=3
        ·simp only [iN,zz,hA,c1,ht,c2,c3,c4,o0,w0,hw,n1,i0,tG,Bt,q4,q3,z5]<;>exact⟨rfl,rfl⟩
        ·simp only [iN,zz,hA,c1,ht,c2,c3,c4,o0,w0,hw,n1,i0,tG,Bt,q4,q3,z5]<;>exact⟨rfl,rfl⟩
       ·by_cases q3:oc=3
        ·simp only [iN,zz,hA,c1,ht,c2,c3,c4,o0,w0,hw,n1,i0,tG,Bt,q4,q3,z5]<;>exact⟨rfl,rfl⟩
        ·simp only [iN,zz,hA,c1,ht,c2,c3,c4,o0,w0,hw,n1,i0,tG,Bt,q4,q3,z5]<;>exact⟨rfl,rfl⟩
      ·by_cases sL:e2=15
       ·by_cases q3:oc=3
        ·simp only [iN,zz,hA,c1,ht,c2,c3,c4,o0,w0,hw,n1,i0,tG,Bt,sL,q3,z5]<;>exact⟨rfl,rfl⟩
        ·simp only [iN,zz,hA,c1,ht,c2,c3,c4,o0,w0,hw,n1,i0,tG,Bt,sL,q3,z5]<;>exact⟨rfl,rfl⟩
       ·by_cases q3:oc=3
        ·simp only [iN,zz,hA,c1,ht,c2,c3,c4,o0,w0,hw,n1,i0,tG,Bt,sL,q3,z5]<;>exact⟨rfl,rfl⟩
        ·simp only [iN,zz,hA,c1,ht,c2,c3,c4,o0,w0,hw,n1,i0,tG,Bt,sL,q3,z5]<;>exact⟨rfl,rfl⟩
     ·by_cases sL:e2=15
      ·by_cases q3:oc=3
       ·simp only [iN,zz,hA,c1,ht,c2,c3,c4,o0,w0,hw,n1,i0,tG,sL,q3,z5]<;>exact⟨rfl,rfl⟩
       ·simp only [iN,zz,hA,c1,ht,c2,c3,c4,o0,w0,hw,n1,i0,tG,sL,q3,z5]<;>exact⟨rfl,rfl⟩
      ·by_cases q3:oc=3
       ·simp only [iN,zz,hA,c1,ht,c2,c3,c4,o0,w0,hw,n1,i0,tG,sL,q3,z5]<;>exact⟨rfl,rfl⟩
       ·simp only [iN,zz,hA,c1,ht,c2,c3,c4,o0,w0,hw,n1,i0,tG,sL,q3,z5]<;>exact⟨rfl,rfl⟩
    ·omega
   ·by_cases sL:e2=15
    ·by_cases q3:oc=3
     ·simp only [iN,zz,hA,c1,ht,c2,c3,c4,o0,w0,hw,n1,sL,q3,z5]<;>exact⟨rfl,rfl⟩
     ·simp only [iN,zz,hA,c1,ht,c2,c3,c4,o0,w0,hw,n1,sL,q3,z5]<;>exact⟨rfl,rfl⟩
    ·by_cases q3:oc=3
     ·simp only [iN,zz,hA,c1,ht,c2,c3,c4,o0,w0,hw,n1,sL,q3,z5]<;>exact⟨rfl,rfl⟩
     ·simp only [iN,zz,hA,c1,ht,c2,c3,c4,o0,w0,hw,n1,sL,q3,z5]<;>exact⟨rfl,rfl⟩
  ·simp only [iN,zz,hA,c1,ht,o0,w0,cg,if_true,if_false,aO,aC]<;>exact⟨rfl,rfl⟩
end
structure Sx (s k:D) (n:Nat):Prop where
 g:Gs s n
 wk:Wd (.sl 8) k
 n2s:s≠.i 2
 n2k:k≠.i 2
structure Sw (s k:D) (n:Nat):Prop where
 g:Gs s n
 wk:Wd (.sl 8) k
theorem Sx.sw {s k:D} {n:Nat} (S:Sx s k n):Sw s k n:=⟨S.g,S.wk⟩
theorem Sw.st {s k:D} {n:Nat} (S:Sw s k n):Sk s k:=⟨S.g.wd,S.wk⟩
theorem Sx.st {s k:D} {n:Nat} (S:Sx s k n):Sk s k:=S.sw.st
instance {s k:D} {n:Nat}:CoeOut (Sx s k n) (Sk s k):=⟨Sx.st⟩
instance {s k:D} {n:Nat}:CoeOut (Sw s k n) (Sk s k):=⟨Sw.st⟩
theorem Sx.mono {s k:D} {n m:Nat} (S:Sx s k n) (h:n<=m):Sx s k m:=⟨S.g.mono h,S.wk,S.n2s,S.n2k⟩
abbrev fw (k:D) (t:Int) (x:KT):D:=dL (eY k.l t x.d)
theorem eM (a:D) (l:List D):dL (a::l)= .p a (dL l):=rfl
theorem fJ:dL []= .i 0:=rfl
structure sj (d0 d1 s:D) (t op obj arg tries:Int) (n:Nat) (s':D) (e1 e2 e3 e4 e5 oc:Int):Prop where
 eq:L 400 [enc d0,enc d1,enc s,t,op,obj,arg,tries]=some [enc s',e1,e2,e3,e4,e5,oc]
 no:oc=0->s'=s/\e1=0/\e2=0/\e3=0/\e4=0/\e5=0
 oc3:oc=0\/oc=2\/oc=3
 gs:Gs s' (n+1)
 len:s'.l.length=s.l.length
 n2:s≠.i 2->s'≠.i 2
 e3:fH .i64 e3
 e4:fH .i64 e4
theorem vB {d0 d1 s:D} {t op obj arg tries:Int} {n:Nat} (h0:Wd (.sl 3) d0) (U:Wd (.sl 4) d1) (G:Gs s n) (hn:n<17592186043904) (ht:fH .i64 t) (py:fH .u8 op) (GY:fH .i64 obj) (ha:fH .i64 arg) :
 ∃s' e1 e2 e3 e4 e5 oc,sj d0 d1 s t op obj arg tries n s' e1 e2 e3 e4 e5 oc:=by
 have hf:=G.jW (by omega:n<17592186044415);have z:fH .i64 0:=⟨J,J⟩;by_cases A:Acc d0 d1 s t op obj
 ·obtain⟨_,o,c,dn,g,r,v,T,hL⟩:=vA (arg:=arg) (tries:=tries) h0 U G.wd hf py A;rw [Cq] at hL;have o0:=A.o0;have o1:=A.o1;obtain⟨i,rfl⟩ : ∃i:Nat,obj=(i:Int):=⟨obj.toNat,J⟩;have hi:i<s.l.length:=J
  have im:=G.rows _ (az hi);have e:s.l[i]=dL [.i o,.i c,.i dn,.i g,r,v]:=by rw [<- bX hi]; exact T.is
  rw [e] at im;have hA:=i? (M:=Mx d0 (i:Int)) (mo:=Mo d0 s (i:Int)) (op:=op) (tries:=tries) T (n:=n) im.1 im.2 J ht ha;have hE:=ajC (M:=Mx d0 (i:Int)) (mo:=Mo d0 s (i:Int)) (th:=t) (op:=op) (tries:=tries) T (by have:=im.1; have:r.l.length<=n:=this; omega) ha
  have hM:UG (act (Mx d0 (i:Int)) (Mo d0 s (i:Int)) t op arg tries o c dn g r v)\/0<=Mx d0 (i:Int)/\Mx d0 (i:Int)<(s.l.length:Int):=by
   by_cases h:op=12\/op=24
   ·have:=Ff h0 U G.wd hf py A h;exact .inr ⟨this.1,this.2.1⟩
   ·exact .inl (Bc J J)
  have hg:=P5 G hA o0 o1 hM;have Y:=yz s (i:Int) (Mx d0 (i:Int)) (act (Mx d0 (i:Int)) (Mo d0 s (i:Int)) t op arg tries o c dn g r v);generalize act (Mx d0 (i:Int)) (Mo d0 s (i:Int)) t op arg tries o c dn g r v=B at *
  have hn2:s≠.i 2->lW s (i:Int) (Mx d0 (i:Int)) B≠.i 2:=fun _ he=>by rw [he] at Y;have:(D.i 2).l.length=0:=rfl;omega
  cases B with
  |nF=>exact⟨s,0,0,0,0,0,0,hL,fun _=> ⟨rfl,rfl,rfl,rfl,rfl,rfl⟩,.inl rfl,hg,rfl,fun h=>h,z,z⟩
  |ub=>exact⟨s,t,27,_,_,0,2,hL,fun h=>absurd h J,.inr (.inl rfl),hg,rfl,fun h=>h,GY,qc _⟩
  |res o' c' p9 g' r' v' m a oc=>exact⟨_,t,op,_,a,0,oc,hL,fun h=>by have:=hA.2.2.2.2.2.2.2.2.2; omega,.inr hA.2.2.2.2.2.2.2.2.2,hg,Y,hn2,GY,hE⟩
 ·exact⟨s,0,0,0,0,0,0,C1 h0 U G.wd hf py A,fun _=> ⟨rfl,rfl,rfl,rfl,rfl,rfl⟩,.inl rfl,G.mono (alU n),rfl,fun h=>h,z,z⟩
noncomputable abbrev stE (d0 d1 s k:D) (t:Int):Nat->Int:=cU L (low [enc d0,enc d1,enc s,enc k,t])
theorem NF {k:D} {t:Int} {x:KT} (h:k=dL k.l) (t0:0<=t) (t1:t<(k.l.length:Int)) (hk:k.at t=x.d):fw k t x=k:=by
 obtain⟨i,rfl⟩ : ∃i:Nat,t=(i:Int):=⟨t.toNat,J⟩;have hi:i<k.l.length:=J
 rw [bX hi] at hk;unfold fw;rw [<- hk];exact ec h hi
section
variable {d0 d1 s k:D} {t:Int} (S:Sk s k)
include S
theorem PY (hR:L 1550 [enc d0,enc d1,enc s,enc k,t]=some [0]):L 1850 [enc d0,enc d1,enc s,enc k,t]=some [enc s,enc k,0,0,0,0,0,0]:=by
 by_cases hr:t<0\/(k.l.length:Int)<=t
 ·rcases HI S hr with h|⟨h,he⟩|⟨h,he⟩
  ·have K:dZ (stE d0 d1 s k t) mC= .out [enc s,enc k,0,0,0,0,0,0]:=by
    simp only [mC,zz,h,hR,Int.reduceEq]
   rw [bL,BS];exact congrArg (fin L) K
  ·subst he
   have K:dZ (stE d0 d1 s (.i 1) t) mC= .out [enc s,enc (.i 1),0,0,0,0,0,0]:=by simp only [mC,zz,h,hR,Int.reduceEq]
   rw [bL,BS];exact congrArg (fin L) K
  ·subst he
   have K:dZ (stE d0 d1 s (.i 2) t) mC= .out [enc s,enc (.i 2),0,0,0,0,0,0]:=by simp only [mC,zz,h,hR,Int.reduceEq]
   rw [bL,BS];exact congrArg (fin L) K
 ·obtain⟨i,rfl⟩ : ∃i:Nat,t=(i:Int):=⟨t.toNat,J⟩;have hi:i<k.l.length:=J
  obtain⟨a,lc,w,o,g,tr,T⟩:=gy S.wk _ (az hi);have h:=A8 S hi T;have hs:fw k (i:Int) ⟨a,lc,w,o,g,tr⟩ = k:=NF (wS S.wk J).sh J J (by rw [bX hi,T.is]);simp only [fw,KT.d,eM,fJ] at hs;have ha:pR lc=3\/pR lc=4:=by unfold pR; split<;>simp
  have K:dZ (stE d0 d1 s k (i:Int)) mC= .out [enc s,enc k,0,0,0,0,0,0]:=by
   rcases ha with ha|ha
   ·rw [ha] at h;simp only [mC,zz,h,hR,hs,Int.reduceEq]
   ·rw [ha] at h;simp only [mC,zz,h,hR,hs,Int.reduceEq]
  rw [bL,BS];exact congrArg (fin L) K
end
structure Rs (d0 d1 s k:D) (t:Int) (x:KT):Prop where
 c:Cd d0 d1
 r:Rt d0 d1 t x
 hk:k.at t=x.d
 ht:t<(k.l.length:Int)
 yes:L 1550 [enc d0,enc d1,enc s,enc k,t]=some [1]
theorem aeo {d0 d1 s k:D} {t:Int} {n:Nat} (S:Sw s k n) (hn:n<17592186044000) (h0:Wd (.sl 3) d0) (U:Wd (.sl 4) d1):L 1550 [enc d0,enc d1,enc s,enc k,t]=some [0]\/∃x,Rs d0 d1 s k t x:=by
 obtain⟨ys,hL,b,rfl,hb⟩:=KK (k:=k) h0 U (S.g.jW J).rows U.len t;rcases hb with ⟨rfl,_⟩|⟨rfl,t0,t1,M⟩
 ·exact .inl hL
 ·refine .inr ?_;obtain⟨hle,hO⟩:=M.2;obtain⟨i,rfl⟩ : ∃i:Nat,t=(i:Int):=⟨t.toNat,J⟩;have hi:i<k.l.length:=J
  have hd:i<d1.l.length:=J
  obtain⟨a,lc,w,o,g,tr,T⟩:=gy S.wk _ (az hi);have ok:=hO i hi;unfold OkK at ok;rw [T.is] at ok;simp only [zg,ax,qk] at ok;refine⟨⟨a,lc,w,o,g,tr⟩,(MR.code h0 U (S.g.jW J).rows M).1,⟨J,J,?_,T.Y,T.hg⟩,by rw [bX hi,T.is],J,hL⟩;rw [bX hd];exact ok
theorem KH {d0 d1 s k:D} {t:Int} {n:Nat} (S:Sx s k n) (hn:n<17592186043904) (h0:Wd (.sl 3) d0) (U:Wd (.sl 4) d1):L 1550 [enc d0,enc d1,enc s,enc k,t]=some [0]\/∃x,Rs d0 d1 s k t x:=aeo S.sw J h0 U
section
variable {d0 d1 s k:D} {t:Int} {n:Nat} {x:KT} (S:Sk s k) (R:Rs d0 d1 s k t x)
include S R
theorem Rs.cp:L 9050 [t,enc s,enc k]=some [pR x.lc,t,enc s,enc k,x.a,enc x.lc,x.w,x.o,x.g,x.tr]:=by
 have t0:=R.r.t0;have ht:=R.ht;obtain⟨i,rfl⟩ : ∃i:Nat,t=(i:Int):=⟨t.toNat,J⟩;have hi:i<k.l.length:=J
 obtain⟨a,lc,w,o,g,tr,T⟩:=gy S.wk _ (az hi);have h:=A8 S hi T;have e:=R.hk;rw [bX hi,T.is] at e;simp only [KT.d,eM,fJ,D.p.injEq,D.i.injEq,and_true] at e;obtain⟨rfl,rfl,rfl,rfl,rfl,rfl⟩:=e;exact h
theorem Rs.self:dL (eY k.l t (.p (.i x.a) (.p x.lc (.p (.i x.w) (.p (.i x.o) (.p (.i x.g) (.p (.i x.tr) (.i 0))))))))=k:=by
 have Y:0<k.l.length:=by have:=R.r.t0; have:=R.ht; omega
 exact NF (wS S.wk Y).sh R.r.t0 R.ht R.hk
theorem FV (ho:gj d1 t x=1):L 1850 [enc d0,enc d1,enc s,enc k,t]=some [enc s,enc k,0,0,0,0,0,4]:=by
 have h:=R.cp S;have hs:=R.self S;have hR:=R.yes;have hO:=nv (s:=s) R.hk R.ht R.r;rw [ho] at hO;have ha:pR x.lc=3\/pR x.lc=4:=by unfold pR; split<;>simp
 have K:dZ (stE d0 d1 s k t) mC= .out [enc s,enc k,0,0,0,0,0,4]:=by
  rcases ha with ha|ha
  ·rw [ha] at h;simp only [mC,zz,h,hR,hs,hO,Int.reduceEq]
  ·rw [ha] at h;simp only [mC,zz,h,hR,hs,hO,Int.reduceEq]
 rw [bL,BS];exact congrArg (fin L) K
theorem Df (ho:gj d1 t x=0) (hn:low (fK d1 t x) 4=0):L 1850 [enc d0,enc d1,enc s,enc k,t]=some [enc s,enc (fw k t (fk (fD d1 t x) x)),0,0,0,0,0,1]:=by
 have h:=R.cp S;have hs:=R.self S;have hR:=R.yes;have hO:=nv (s:=s) R.hk R.ht R.r;have hN:=vP (s:=s) R.c R.hk R.ht R.r;have Lc:=pw R.r ho hn;rw [ho] at hO
 have K:dZ (stE d0 d1 s k t) mC= .out [enc s,enc (fw k t (fk (fD d1 t x) x)),0,0,0,0,0,1]:=by
  have hw:(fk (fD d1 t x) x).w=x.w/\(fk (fD d1 t x) x).o=x.o/\(fk (fD d1 t x) x).g=x.g/\(fk (fD d1 t x) x).tr=x.tr:=by
   unfold fk
   repeat' split
   all_goals exact⟨rfl,rfl,rfl,rfl⟩
  by_cases hp:0<x.lc.l.length
  ·have ha:pR x.lc=3:=ag hp;rw [ha] at h;have Y:=Lg (s:=s) R.c R.ht R.r Lc;simp only [mC,zz,h,hR,hs,hO,hN,hn,Y,fw,KT.d,eM,fJ,hw,Int.reduceEq]
  ·have ha:pR x.lc=4:=af hp;rw [ha] at h;obtain⟨Y,hc⟩:=Le (s:=s) R.c R.ht R.r Lc J;simp only [mC,zz,h,hR,hs,hO,hN,hn,Y,fw,KT.d,eM,fJ,hw,hc,Int.reduceEq]
 rw [bL,BS];exact congrArg (fin L) K
theorem De {op obj arg tries e1 e2 e3 e4 e5 oc:Int} {s':D} (ho:gj d1 t x=0) (hn:fK d1 t x= [op,obj,arg,tries,1]) (A:sj d0 d1 s t op obj arg tries n s' e1 e2 e3 e4 e5 oc) :
 L 1850 [enc d0,enc d1,enc s,enc k,t]=some [enc s',enc (fw k t (jq (fD d1 t x) x op e2 e3 e4 oc)),e1,e2,e3,e4,e5,oc]:=by
 have h:=R.cp S;have hs:=R.self S;have hR:=R.yes;have hO:=nv (s:=s) R.hk R.ht R.r;have hN:=vP (s:=s) R.c R.hk R.ht R.r;rw [ho] at hO;rw [hn] at hN
 have hx:x.w=0->x.a<(Nc d1 t:Int):=fun w0=>by unfold gj at ho;rw [ag w0] at ho;have:=R.r.ok.2.1;unfold Nc at ho ⊢;split at ho<;>omega
 have hE:w! e1 e2 e3 e4 e5 oc= [e1,e2,e3,e4,e5]:=by
  unfold w!;split
  ·rename_i h0;obtain⟨_,rfl,rfl,rfl,rfl,rfl⟩:=A.no h0;rfl
  ·rfl
 have K:dZ (stE d0 d1 s k t) mC= .out [enc s',enc (fw k t (jq (fD d1 t x) x op e2 e3 e4 oc)),e1,e2,e3,e4,e5,oc]:=by
  by_cases hp:0<x.lc.l.length
  ·have ha:pR x.lc=3:=ag hp;rw [ha] at h;have Y:=Ks R.c R.ht R.r A.eq (fun h=>(A.no h).1) hx;rw [hE] at Y;simp only [aO,aC] at Y;simp only [mC,zz,h,hR,hs,hO,hN,Y,fw,KT.d,eM,fJ,Int.reduceEq]
  ·have ha:pR x.lc=4:=af hp;rw [ha] at h;obtain⟨Y,hc⟩:=Kr R.c R.ht R.r A.eq (fun h=>(A.no h).1) hx J;rw [hE] at Y;simp only [aO,aC] at Y;simp only [mC,zz,h,hR,hs,hO,hN,Y,fw,KT.d,eM,fJ,hc,Int.reduceEq]
 rw [bL,BS];exact congrArg (fin L) K
end
theorem dQ.jmp {j k:Nat} {xs ys:List Int} {t:T Lf} {p:List Int->Prop} (e:S.tree j=t) (h:dZ (cU L (low xs)) t= .jump k ys) (q:dQ k ys p):dQ j xs p:=by refine dQ.of ?_;rw [e,h];exact .jump q
theorem dQ.ret {j:Nat} {xs ys:List Int} {t:T Lf} {p:List Int->Prop} (e:S.tree j=t) (h:dZ (cU L (low xs)) t= .out ys) (q:p ys):dQ j xs p:=by refine dQ.of ?_;rw [e,h];exact .out q
theorem FY (m:Nat) (hm:m<=60) (ih: ∀(k n:Int) (s kids:D),Wd .str s->Wd (.sl 6) kids->dQ 150 [k,enc s,n,enc kids,(m:Int)] one) (x3 x4 x5:Int) (kids:D) (hk:Wd (.sl 6) kids) :
 ∀(j i:Nat) (x1:Int),i+j=kids.l.length->dQ 151 [((m+1:Nat):Int),x1,(i:Int),x3,x4,x5,enc kids] one
 |0,i,x1,hi=>dQ.ret aaE (ys:=[x1]) (bR [] [.lt Qo o!] (ou [Qb]) (by simp only [zz]<;>omega) aa (by simp only [zz])) ⟨x1,rfl⟩
 |j+1,i,x1,hi=>by
  have Y:=hk.len;have dS:i<kids.l.length:=J
  have hw:=bP (n:=i) J;obtain⟨k,s,n,ks,he,_,hs,_,Lw⟩:=wi hk dS;have ha:kids.at (i:Int)=dL [.i k,s,.i n,ks]:=by rw [bX dS]; exact he
  obtain⟨ys,Ow,z,rfl⟩:=ih k n s ks hs Lw;have hw2:IntKind.i64.wrap (((m+1:Nat):Int)-1)=(m:Int):=by rw [jT J J]; omega
  by_cases hx:10000<x1
  ·exact dQ.ret aaE (ys:=[x1]) (bR [.lt Qo o!,.lt (.lit 10000) Qb] [] (ou [Qb]) (by simp only [zz]<;>omega) aa (by simp only [zz])) ⟨x1,rfl⟩
  ·exact dQ.jmp aaE (bR [.lt Qo o!,.eq (a0 150 Qfa) Q0] [.lt (.lit 10000) Qb,HS] (ju 151 [Qf,wr (.add Qb (rr 150 Qfa 0)),Pz,Qm,cN,dH,eB]) (by simp only [zz,ha,zg,hw2,Ow]<;>omega) aa (by simp only [zz,ha,zg,hw2,Ow,hw]<;>rfl)) (FY m hm ih x3 x4 x5 kids hk j (i+1) (IntKind.i64.wrap (x1+z)) J)
theorem KD: ∀(m:Nat),m<=60->∀(k n:Int) (s kids:D),Wd .str s->Wd (.sl 6) kids->dQ 150 [k,enc s,n,enc kids,(m:Int)] one
 |0,_,k,n,s,kids,_,_=>dQ.ret afR (ys:=[10000]) (bR [Qe7] [] (ou [.lit 10000]) (by simp only [zz]<;>omega) aa (by simp only [zz])) ⟨_,rfl⟩
 |m+1,hm,k,n,s,kids,hs,hk=>dQ.jmp afR (ys:=[((m+1:Nat):Int),_,(0:Nat),k,enc s,n,enc kids]) (bR [] [Qe7] (ju 151 [cN,wr (.add Q0 (wr (.quo Qc (.lit 100)))),Qa,Qf,Qb,Qo,Qm]) (by simp only [zz]<;>omega) aa (by simp only [mD,List.map,bS,Nat.reduceLT,bM,bN]<;>rfl)) (FY m J (KD m J) k (enc s) n kids hk kids.l.length 0 _ J)
section
variable {d0 d1:D} (U:Wd (.sl 4) d1)
include U
theorem D9 (x1 x2 x3:Int) (Fp:D) (ha:Wd (.sl 6) Fp) (q: ∀x0,dQ 102 [x0,x1,IntKind.i64.wrap (x2+1),x3,enc d0,enc d1] xJ): ∀(j i:Nat) (x0:Int),i+j=Fp.l.length->dQ 103 [x0,x1,x2,x3,enc Fp,(Fp.l.length:Int),(i:Int),enc d0,enc d1] xJ
 |0,i,x0,hi=>dQ.jmp afS (bR [] [.lt eB dH] (ju 102 [Qf,Qb,Pz,Qm,gE,iW]) (by simp only [zz]<;>omega) aa (by simp only [zz])) (q x0)
 |j+1,i,x0,hi=>by
  have Y:=ha.len;have dS:i<Fp.l.length:=J
  have hw:=bP (n:=i) J;obtain⟨k,s,n,ks,he,_,hs,_,Lw⟩:=wi ha dS;have jt:Fp.at (i:Int)=dL [.i k,s,.i n,ks]:=by rw [bX dS]; exact he
  obtain⟨ys,Ow,z,rfl⟩:=KD 60 J k n s ks hs Lw;have Ow:L 150 [k,enc s,n,enc ks,60]=some [z]:=Ow;exact dQ.jmp afS (bR [.lt eB dH,.lt eB S2,.eq (a0 150 Qe6) Q0] [.lt eB Qa] (ju 103 [wr (.add Qf (rr 150 Qe6 0)),Qb,Qo,Qm,cN,dH,wr (.add eB Q0),gE,iW]) (by simp only [zz,jt,zg,Ow]<;>omega) aa (by simp only [zz,jt,zg,Ow,hw]<;>rfl)) (D9 x1 x2 x3 Fp ha q j (i+1) (IntKind.i64.wrap (x0+z)) J)
theorem Ua (i:Nat) (hi:i<d1.l.length) (q: ∀x0,dQ 101 [x0,(d1.l.length:Int),((i+1:Nat):Int),enc d0,enc d1] xJ): ∀(j k:Nat) (x0:Int),(∀wX lc cd,d1.l[i]=dL [wX,lc,cd]->k+j=cd.l.length)->dQ 102 [x0,(i:Int),(k:Int),(d1.l.length:Int),enc d0,enc d1] xJ:=by
 have Y:=U.len;have hw:=bP (n:=i) J;obtain⟨wX,lc,cd,he,_,_,Ry⟩:=yg U hi;have jt:d1.at (i:Int)=dL [wX,lc,cd]:=by rw [bX hi]; exact he
 have CF:=Ry.len;intro j
 induction j with
 |zero=> intro k x0 hk;have hk:=hk _ _ _ he;exact dQ.jmp aaF (bR [.lt Qb (ln dH)] [Py,.lt Qo (ln (ce 2 (el dH Qb)))] (ju 101 [Qf,Qm,pX,cN,dH]) (by simp only [zz,jt,zg]<;>omega) aa (by simp only [zz,hw]<;>rfl)) (q x0)
 |succ j ih=>
  intro k x0 hk;have CD:=hk _ _ _ he;by_cases h6:6000<x0
  ·exact dQ.jmp aaF (bR [.lt Qb (ln dH),.lt Qo (ln (ce 2 (el dH Qb))),.lt (.lit 6000) Qf] [Py] (ju 101 [Qf,Qm,pX,cN,dH]) (by simp only [zz,jt,zg]<;>omega) aa (by simp only [zz,hw]<;>rfl)) (q x0)
  ·have Oo:k<cd.l.length:=J
   have hw2:=bP (n:=k) J;obtain⟨a,b,c,e,f,g,Fp,wK,_,_,_,_,_,_,has⟩:=N9 Ry Oo;have akP:cd.at (k:Int)=dL [.i a,.i b,.i c,.i e,.i f,.i g,Fp]:=by rw [bX Oo]; exact wK
   refine dQ.jmp aaF (bR [.lt Qb (ln dH),.lt Qo (ln (ce 2 (el dH Qb)))] [Py,.lt (.lit 6000) Qf,HS] (ju 103 [Qf,Qb,Qo,Qm,Qe4,ln Qe4,Qa,cN,dH]) (by simp only [zz,jt,zg]<;>omega) aa (by simp only [zz,jt,akP,zg]<;>rfl)) (D9 U (i:Int) (k:Int) (d1.l.length:Int) Fp has (fun x0=>?_) Fp.l.length 0 x0 J);rw [hw2];exact ih (k+1) x0 fun wX lc cd he=>by have:=hk wX lc cd he; omega
theorem D8: ∀(j i:Nat) (x0:Int),i+j=d1.l.length->dQ 101 [x0,(d1.l.length:Int),(i:Int),enc d0,enc d1] xJ
 |0,i,x0,hi=>by
  by_cases h6:6000<x0
  ·exact dQ.ret aaG (bR [.lt (.lit 6000) Qf] [wR] (ou [Q0]) (by simp only [zz]<;>omega) aa (by simp only [zz])) sR
  ·exact dQ.ret aaG (bR [] [wR,.lt (.lit 6000) Qf] (ou [Qa]) (by simp only [zz]<;>omega) aa (by simp only [zz])) sS
 |j+1,i,x0,hi=>by
  have dS:i<d1.l.length:=J
  obtain⟨wX,lc,cd,he,_,_,Ry⟩:=yg U dS;refine dQ.jmp aaG (ys:=[_,(i:Int),((0:Nat):Int),(d1.l.length:Int),enc d0,enc d1]) (bR [wR,o?] [HS] (ju 102 [wr (.add Qf (wr (.add (ln Qdl) (ln (ce 2 Qdk))))),Qo,Qa,Qb,Qm,cN]) (by simp only [zz]<;>omega) aa (by simp only [zz]<;>rfl)) (Ua U i dS (fun x0=>D8 j (i+1) x0 J) cd.l.length 0 _ fun n' l' c' v7=>?_);rw [he] at v7;have:=ET v7;simp only [List.cons.injEq,and_true] at this;rw [this.2.2];omega
theorem T9:dQ 100 [enc d0,enc d1] xJ:=
 dQ.jmp ajr (ys:=[_,(d1.l.length:Int),((0:Nat):Int),enc d0,enc d1]) (bR [] [] (ju 101 [wr (.add wQ Qc),Qc,Qa,Qf,Qb]) (by simp only [zz]<;>omega) aa (by simp only [zz]<;>rfl)) (D8 U d1.l.length 0 _ J)
end
def ji (x:D):D:=dL [.i 0,if (x.hd 1).l.length=0 then .i 2 else dL (List.replicate (x.hd 1).l.length (.i 0)),.i 0,.i 0,.i 0,.i 0]
def ej (d0:D):D:=if d0.l.length=0 then .i 1 else dL (d0.l.map hD)
def eV (d1:D):D:=if d1.l.length=0 then .i 1 else dL (d1.l.map ji)
theorem Ko {l:List D} (h: ∀x∈l,∃a lc w o g tr,Kt x a lc w o g tr) (hn:l≠[]) (Y:l.length<=2199023255488):Wd (.sl 8) (dL l):=by
 have e:(l.map fun x=>x.l).map dL=l:=by
  rw [aml]
  conv=>rhs; rw [<- List.map_id l]
  apply amH;intro x hx;obtain⟨a,lc,w,o,g,tr,T⟩:=h x hx;rw [T.is];rfl
 rw [<- e];refine .many 8 [.int .i64,.sl 0,.int .u8,.int .i64,.int .i64,.int .i64] _ rfl (by simpa using hn) (by have:r9 8=64:=rfl; rw [this,bo]; omega) (fun r hr=>?_) fun r hr j d c U Z=>?_
 ·obtain⟨x,hx,rfl⟩:=aQ.1 hr;obtain⟨a,lc,w,o,g,tr,T⟩:=h x hx;rw [T.is];rfl
 ·obtain⟨x,hx,rfl⟩:=aQ.1 hr;obtain⟨a,lc,w,o,g,tr,T⟩:=h x hx;rw [T.is,bJ] at U
  match j with
  |0=>simp at U Z; subst U Z; exact .int _ _ T.ha
  |1=>simp at U Z; subst U Z; exact T.Y
  |2=>simp at U Z; subst U Z; exact .int _ _ T.hw
  |3=>simp at U Z; subst U Z; exact .int _ _ T.ho
  |4=>simp at U Z; subst U Z; exact .int _ _ T.hg
  |5=>simp at U Z; subst U Z; exact .int _ _ T.ht
  |j+6=>simp at U
theorem VU (x:D) (h:(x.hd 1).l.length<=17592186043904): ∃a lc w o g tr,Kt (ji x) a lc w o g tr:=by
 have z:fH .i64 0:=⟨J,J⟩;refine⟨0,_,0,0,0,0,rfl,z,?_,⟨J,J⟩,z,z,z⟩;split
 ·exact .vO 0
 ·rename_i hn;refine vz (fun y hy=> ⟨0,(List.mem_replicate.1 hy).2,z⟩) (fun he=>?_) (by simpa using h);have:=congrArg List.length he;simp only [amj,aR] at this;omega
theorem xE {d1:D} (U:Wd (.sl 4) d1): ∀x∈d1.l,(x.hd 1).l.length<=8796093021952:=by intro x hx;obtain⟨i,hi,rfl⟩:=amu hx;obtain⟨wX,lc,cd,he,_,hlc,_⟩:=yg U hi;rw [he];simp only [zg,ax];have:=hlc.room;have h3:r9 2=16:=rfl;rw [h3] at this;omega
theorem ur {d0 d1:D} (h0:Wd (.sl 3) d0) (U:Wd (.sl 4) d1) (ok:mK d0 d1):Sx (ej d0) (eV d1) 0:=by
 refine⟨?_,?_,?_,?_⟩
 ·unfold ej;split
  ·exact⟨.nil 7,fun x hx=>by simp [D.l] at hx⟩
  ·refine⟨FO (fun x hx=>?_) (fun he=>?_) (by rw [bo]; have:=ok.1; omega),fun x hx=>?_⟩
   ·obtain⟨y,hy,rfl⟩:=aQ.1 hx;obtain⟨kd,wX,ln,s1,s2,he,_,hnn,_⟩:=h0.decl y hy;rw [he];refine⟨-1,_,0,0,.i 1,.i 1,rfl,⟨J,J⟩,?_,.inl rfl,⟨J,J⟩,.nil 0,.nil 0⟩;split
    ·exact hnn
    ·exact⟨J,J⟩
   ·have:=congrArg List.length he;simp only [bo,aR] at this;omega
   ·rw [bJ] at hx;obtain⟨y,hy,rfl⟩:=aQ.1 hx;exact⟨au 0,au 0⟩
 ·unfold eV;split
  ·exact .nil 8
  ·refine Ko (fun x hx=>?_) (fun he=>?_) (by rw [bo]; have:=ok.2.1; omega)
   ·obtain⟨y,hy,rfl⟩:=aQ.1 hx;exact VU y (by have:=xE U y hy; omega)
   ·have:=congrArg List.length he;simp only [bo,aR] at this;omega
 ·unfold ej;split
  ·intro h; cases h
  ·intro h;have:=congrArg (fun d=>d.l.length) h;simp only [bJ,bo,pW,aR] at this;omega
 ·unfold eV;split
  ·intro h; cases h
  ·intro h;have:=congrArg (fun d=>d.l.length) h;simp only [bJ,bo,pW,aR] at this;omega
theorem BA (d1:D) (U:Wd (.sl 4) d1) (hlen:d1.l.length<=16) (s:D): ∀(k i:Nat) (acc:List D),i+k=d1.l.length->acc.length=i->
 L 1452 [enc d1,(d1.l.length:Int),(i:Int),enc s,enc (dL acc)]=some [enc s,enc (dL (acc++(d1.l.drop i).map ji)),0]
 |0,i,acc,hi,ha=>by
  have c1: ¬(i:Int)<(d1.l.length:Int):=J
  rw [bL,Zv,amW J];simp only [PU,zz,c1,cg,amt,alV]
 |k+1,i,acc,hi,ha=>by
  have dS:i<d1.l.length:=J
  have hd:d1.l.drop i=d1.l[i]::d1.l.drop (i+1):=bu dS;have ih:=BA d1 U hlen s k (i+1) (acc++ [ji d1.l[i]]) J (by simp [ha]);have c1:(i:Int)<(d1.l.length:Int):=J
  have c2: ¬((i:Int)<0):=J
  have w:=bP (n:=i) J;have c3:(acc.length:Int)<2199023255551:=J
  have hb:=xE U _ (az dS);have c4:((((d1.l[i]).hd 1).l.length:Nat):Int)<17592186044416:=J
  have e2:acc++(ji d1.l[i]::(d1.l.drop (i+1)).map ji)=acc++ [ji d1.l[i]]++(d1.l.drop (i+1)).map ji:=ad
  rw [hd,aw,e2,<- ih,bL,Zv];by_cases hz:((d1.l[i]).hd 1).l.length=0
  ·have IW:((((d1.l[i]).hd 1).l.length:Nat):Int)=0:=J
   have et:ji d1.l[i]= .p (.i 0) (.p (.i 2) (.p (.i 0) (.p (.i 0) (.p (.i 0) (.p (.i 0) (.i 0)))))):=by unfold ji; rw [ag hz]; rfl
   rw [et];simp only [PU,zz,c1,c2,w,bX dS,IW,c3,bJ,bF]
  ·have IW: ¬((((d1.l[i]).hd 1).l.length:Nat):Int)=0:=J
   have et:ji d1.l[i]= .p (.i 0) (.p (dL (List.replicate ((d1.l[i]).hd 1).l.length (.i 0))) (.p (.i 0) (.p (.i 0) (.p (.i 0) (.p (.i 0) (.i 0)))))):=by unfold ji; rw [af hz]; rfl
   rw [et];simp only [PU,zz,c1,c2,w,bX dS,IW,c3,c4,bJ,bp,bF]
theorem Lb (d1:D) (U:Wd (.sl 4) d1) (hlen:d1.l.length<=16) (s:D):L 1451 [enc d1,(d1.l.length:Int),enc s]=some [enc s,enc (eV d1),0]:=by
 by_cases hn:d1.l.length=0
 ·have c1: ¬(0:Int)<(d1.l.length:Int):=J
  have e:eV d1= .i 1:=by unfold eV; rw [ag hn]
  rw [bL,Zw,e];simp only [PV,zz,c1,cg]
 ·have hp:0<d1.l.length:=J
  have c1:(0:Int)<(d1.l.length:Int):=J
  have e:eV d1=dL (d1.l.map ji):=by unfold eV; rw [af hn]
  have ih:=BA d1 U hlen s (d1.l.length-1) 1 [ji (d1.l[0]'hp)] J rfl
  have e1:[ji (d1.l[0]'hp)]++(d1.l.drop 1).map ji=d1.l.map ji:=by
   conv=>rhs; rw [<- amc (l:=d1.l),bu hp]
   rfl
  rw [e1,<- e] at ih;have a0:d1.at 0=d1.l[0]'hp:=bX (i:=0) hp;have hb:=xE U _ (az hp);have c4:((((d1.l[0]'hp).hd 1).l.length:Nat):Int)<17592186044416:=J
  rw [<- ih,bL,Zw];by_cases hz:((d1.l[0]'hp).hd 1).l.length=0
  ·have IW:((((d1.l[0]'hp).hd 1).l.length:Nat):Int)=0:=J
   have et:dL [ji (d1.l[0]'hp)]= .p (.p (.i 0) (.p (.i 2) (.p (.i 0) (.p (.i 0) (.p (.i 0) (.p (.i 0) (.i 0))))))) (.i 0):=by unfold ji; rw [ag hz]; rfl
   rw [et];simp only [PV,zz,c1,a0,IW,pW,aC,eM,fJ,bF,bj]
  ·have IW: ¬((((d1.l[0]'hp).hd 1).l.length:Nat):Int)=0:=J
   have et:dL [ji (d1.l[0]'hp)]= .p (.p (.i 0) (.p (dL (List.replicate ((d1.l[0]'hp).hd 1).l.length (.i 0))) (.p (.i 0) (.p (.i 0) (.p (.i 0) (.p (.i 0) (.i 0))))))) (.i 0):=by unfold ji; rw [af hz]; rfl
   rw [et];simp only [PV,zz,c1,a0,IW,c4,pW,aC,eM,fJ,bp,bF,bj]
theorem GC {d0 d1:D} (U:Wd (.sl 4) d1) (hc:L 450 [enc d0,enc d1]=some [0]) (ok:mK d0 d1):L 1450 [enc d0,enc d1]=some [enc (ej d0),enc (eV d1),0]:=by
 have h3:L 300 [enc d0,enc d1]=some [enc (ej d0)]:=by
  by_cases hn:d0.l.length=0
  ·have e:ej d0= .i 1:=by unfold ej; rw [ag hn]
   rw [e];exact e? hc (.inr hn)
  ·have e:ej d0=dL (d0.l.map hD):=by unfold ej; rw [af hn]
   rw [e];exact f_ hc ok.1 J
 have K:dZ (cU L (low [enc d0,enc d1])) Wt= .jump 1451 [enc d1,(d1.l.length:Int),enc (ej d0)]:=by refine bR [Qfc,Qfd,.eq (a0 300 Cf) Q0] [] (ju 1451 [Qb,Qc,rr 300 Cf 0]) (by simp only [zz,hc,h3]<;>omega) aa ?_;simp only [zz,h3]
 rw [bL,Zy];exact (congrArg (fin L) K).trans (Lb d1 U ok.2.1 _)
theorem GA {d0 d1:D} {c:Int} (hc:L 450 [enc d0,enc d1]=some [c]) (h:c≠0):L 1450 [enc d0,enc d1]=some [enc (.i 1),enc (.i 1),c]:=by
 have K:dZ (cU L (low [enc d0,enc d1])) Wt= .out [enc (.i 1),enc (.i 1),c]:=by refine bR [Qfc] [Qfd] (ou [Qh,Qh,rr 450 Cf 0]) (by simp only [zz,hc]<;>omega) aa ?_;simp only [zz,hc]
 rw [bL,Zy];exact congrArg (fin L) K
theorem iZ {k:D} {t:Int} (t0:0<=t) (ht:t<(k.l.length:Int)) (x:KT):(fw k t x).at t=x.d:=by obtain⟨i,rfl⟩ : ∃i:Nat,t=(i:Int):=⟨t.toNat,J⟩;rw [kN,bJ,Ea J];rfl
theorem fh (k:D) (t:Int) (x:KT):(fw k t x).l.length=k.l.length:=by rw [bJ,fQ]
theorem oR {d1:D} {t:Int} {x:KT} (ho: ¬gj d1 t x=1) (h: ¬low (fK d1 t x) 4=0): ∃op obj arg tr,fK d1 t x= [op,obj,arg,tr,1]:=by
 unfold gj at ho;unfold fK at h ⊢;by_cases w0:x.w=0
 ·rw [ag w0] at ho h ⊢;by_cases a0:x.a=(Nc d1 t:Int)
  ·rw [ag a0] at ho;omega
  ·rw [af a0] at h ⊢;by_cases U:((fD d1 t x).hd 0).n=1
   ·rw [ag U];exact⟨_,_,_,_,rfl⟩
   ·rw [af U] at h ⊢;by_cases Z:((fD d1 t x).hd 0).n=2
    ·rw [ag Z];exact⟨_,_,_,_,rfl⟩
    ·rw [af Z] at h;exact absurd rfl h
 ·rw [af w0];exact⟨_,_,_,_,rfl⟩
theorem vK (d1:D) (t:Int) (x:KT):gj d1 t x=0\/gj d1 t x=1:=by
 unfold gj;split
 ·split
  ·exact .inr rfl
  ·exact .inl rfl
 ·exact .inl rfl
theorem vQ {d0 d1:D} {t:Int} {x:KT} (C:Cd d0 d1) (R:Rt d0 d1 t x) (hd0:d0.l.length<=64) {op obj arg tr b:Int} (hn:fK d1 t x= [op,obj,arg,tr,b]):fH .u8 op/\fH .i64 obj/\fH .i64 arg:=by
 have z8:fH .u8 0:=⟨J,J⟩;have z:fH .i64 0:=⟨J,J⟩;have ok:=R.ok;unfold fK at hn;by_cases w0:x.w=0
 ·rw [ag w0] at hn;by_cases a0:x.a=(Nc d1 t:Int)
  ·rw [ag a0] at hn;simp only [List.cons.injEq] at hn;obtain⟨rfl,rfl,rfl,_⟩:=hn;exact⟨z8,z,z⟩
  ·have fW:x.a<(Nc d1 t:Int):=by have:=ok.2.1; unfold Nc at a0 ⊢; omega
   have F:=C.inf R fW;rw [af a0] at hn;by_cases U:((fD d1 t x).hd 0).n=1
   ·rw [ag U] at hn;simp only [List.cons.injEq] at hn;obtain⟨rfl,rfl,rfl,_⟩:=hn;exact⟨F.op,F.ob,aaX F.ar R.ints⟩
   ·rw [af U] at hn;by_cases Z:((fD d1 t x).hd 0).n=2
    ·rw [ag Z] at hn;simp only [List.cons.injEq] at hn;obtain⟨rfl,rfl,rfl,_⟩:=hn;exact⟨⟨J,J⟩,F.ob,z⟩
    ·rw [af Z] at hn;simp only [List.cons.injEq] at hn;obtain⟨rfl,rfl,rfl,_⟩:=hn;exact⟨z8,z,z⟩
 ·rw [af w0] at hn;simp only [List.cons.injEq] at hn;obtain⟨rfl,rfl,rfl,_⟩:=hn;obtain⟨_,_,_,_,_,hw⟩:=ok;exact⟨⟨J,J⟩,⟨J,J⟩,R.hg⟩
theorem D_ {lc:D} (h:Wd (.sl 0) lc) {z v:Int} (h0:0<=z) (U:z<(lc.l.length:Int)) (hv:fH .i64 v):Wd (.sl 0) (dL (eY lc.l z (.i v))):=by
 have:=h.room;have h3:r9 0=8:=rfl;rw [h3] at this;have hs:=fQ lc.l z (.i v);refine vz (fun y hy=>?_) (fun he=>?_) (by rw [hs]; omega)
 ·rcases uJ hy with h'|rfl
  ·exact (h.el1 rfl y h').i
  grind
 grind
theorem PF {k:D} (hk:Wd (.sl 8) k) {t:Int} {x:KT} (h: ∃a lc w o g tr,Kt x.d a lc w o g tr) (hp:0<k.l.length):Wd (.sl 8) (fw k t x):=by
 have hf:=hk.room;have h3:r9 8=64:=rfl;rw [h3] at hf;have hs:=fQ k.l t x.d;refine Ko (fun y hy=>?_) (fun he=>?_) (by rw [hs]; omega)
 ·rcases uJ hy with h'|rfl
  ·exact gy hk y h'
  grind
 grind
section
variable {d0 d1 s k:D} {t:Int} {n:Nat} {x:KT}
theorem Lj {x:KT} (ha:fH .i64 x.a) (Y:Wd (.sl 0) x.lc) (hw:fH .u8 x.w) (ho:fH .i64 x.o) (hg:fH .i64 x.g) (ht:fH .i64 x.tr): ∃a lc w o g tr,Kt x.d a lc w o g tr:=⟨_,_,_,_,_,_,rfl,ha,Y,hw,ho,hg,ht⟩
theorem Rt.kt (C:Cd d0 d1) (R:Rt d0 d1 t x): ∃a lc w o g tr,Kt x.d a lc w o g tr:=by obtain⟨a0,a1,_,t0,t1,hw⟩:=R.ok;have hd:=C.ok.1;have hnc:=(C.code R.t0 R.t1).len;exact Lj ⟨J,J⟩ R.Y ⟨J,J⟩ ⟨J,J⟩ R.hg ⟨J,J⟩
theorem VO (C:Cd d0 d1) (R:Rt d0 d1 t x) (hx:x.w=0->x.a<(Nc d1 t:Int)) {op e2 e3 e4 oc:Int} (h3:fH .i64 e3) (h4:fH .i64 e4): ∃a lc w o g tr,Kt (jq (fD d1 t x) x op e2 e3 e4 oc).d a lc w o g tr:=by
 obtain⟨a0,a1,On,t0,t1,hw⟩:=R.ok;have hd:=C.ok.1;have hnc:=(C.code R.t0 R.t1).len;have ka:fH .i64 x.a:=⟨J,J⟩;have kw:fH .u8 x.w:=⟨J,J⟩;have ko:fH .i64 x.o:=⟨J,J⟩;have kt:fH .i64 x.tr:=⟨J,J⟩;have z:fH .i64 0:=⟨J,J⟩;have z8: ∀v:Int,v=0\/v=24\/v=25->fH .u8 v:=fun v h=> ⟨J,J⟩;unfold jq;split
 ·split
  ·exact Lj ka R.Y kw ko R.hg (by
    show fH .i64 (if 4611686018427387904<x.tr+1 then 4611686018427387904 else x.tr+1)
    split<;>exact⟨J,J⟩)
  ·exact Lj ka R.Y kw ko R.hg kt
 ·split
  ·rename_i w0;have F:=C.inf R (hx w0);have ok:=F.ok;have U:=hx w0;unfold Nc at U;unfold OkI at ok;have k1:fH .i64 (x.a+1):=⟨J,J⟩;refine Lj ?_ ?_ ?_ ?_ ?_ z
   ·show fH .i64 (if _ then _ else _);split
    ·exact F.to
    grind
   ·show Wd (.sl 0) (if _ then _ else _);split
    ·rename_i hc;refine D_ R.Y J ?_ h4
     grind
    ·exact R.Y
   all_goals grind
  ·exact Lj ka R.Y (z8 _ (.inl rfl)) z z z
theorem PZ {k:D} (hp:0<k.l.length) (t:Int) (x:KT):fw k t x≠.i 2:=fun he=>by have:=fh k t x;rw [he] at this;have e:(D.i 2).l.length=0:=rfl;omega
theorem Aj (S:Sx s k n) (C:Cd d0 d1) (R:Rt d0 d1 t x) (ht:t<(k.l.length:Int)) (hx:x.w=0->x.a<(Nc d1 t:Int)) {op obj arg tries e1 e2 e3 e4 e5 oc:Int} {s':D} (A:sj d0 d1 s t op obj arg tries n s' e1 e2 e3 e4 e5 oc) :
 Sx s' (fw k t (jq (fD d1 t x) x op e2 e3 e4 oc)) (n+1):=by
 have hp:0<k.l.length:=by have:=R.t0; omega
 exact⟨A.gs,PF S.wk (VO C R hx A.e3 A.e4) hp,A.n2 S.n2s,PZ hp _ _⟩
theorem BX (R:Rt d0 d1 t x) (ho:gj d1 t x=0):x.w=0->x.a<(Nc d1 t:Int):=fun w0=>by unfold gj at ho;rw [ag w0] at ho;have:=R.ok.2.1;unfold Nc at ho ⊢;split at ho<;>omega
end
theorem AE: ∀(l:List D) (k v k':D),eN (jO l k v) k'=if k=k' then some v else eN l k'
 |[],k,v,k'=>by
  simp only [jO,eN];by_cases h:k=k'
  ·rw [ag h]; exact ag h
  ·rw [af h]; exact af h
 |d::l,k,v,k'=>by
  simp only [jO];by_cases h:gw d=k
  ·rw [ag h];simp only [eN];by_cases Z:k=k'
   ·rw [ag Z]; exact ag Z
   ·rw [af Z,af (fun h3=>Z (h.symm.trans h3))]; exact af Z
  ·rw [af h];simp only [eN,AE l k v k']
   grind
def qI (m:Int) (l:List D):Prop:=(∀x∈l,0<=x.n/\x.n<m)/\(l.map D.n).Nodup
def Ab (N o dn:Int) (rl vl:Nat):Prop:=(N<0->(vl:Int)=0)/\(0<=N->(vl:Int)<=N)/\(o<0\/(rl:Int)=0/\dn=0)
def Pt (s:D) (l:List D):Prop:= ∀n:Int,(eN s.l (.i n)=none/\n∉l.map D.n)\/(eN s.l (.i n)=some (.i 1)/\n∈l.map D.n)
theorem W3 {s x:D} {l:List D} (h:Pt s l):Pt (dL (jO s.l (.i x.n) (.i 1))) (l++ [x]):=fun n=>by
 rw [bJ,AE,al7];by_cases hn:x.n=n
 ·rw [ag (by rw [hn])];exact .inr ⟨rfl,anR _ (by simp [hn])⟩
 ·rw [af (fun h=>hn (by simpa using h))];rcases h n with ⟨U,Z⟩|⟨U,Z⟩
  ·refine .inl ⟨U,fun h3=>?_⟩;rcases alO.1 h3 with h3|h3
   ·exact Z h3
   ·simp only [List.map,ay,alT,or_false] at h3;exact hn h3.symm
  ·exact .inr ⟨U,List.mem_append_left _ Z⟩
theorem Cw {P Q:Prop} {ys:List Int} (h:P) (hQ:TX Q ys):TX (P/\Q) ys:=by
 grind
theorem sQ {P Q:Prop} (h: ¬P):TX (P/\Q) [0]:=yN fun q=>h q.1
theorem KJ (m:Int) (r:D) (Y:r.l.length<=140737488351232) (k wX N x7 x8 o c dn g:Int) (v:D): ∀(j i:Nat) (seen:D),i+j=r.l.length->Pt seen (r.l.take i)->qI m (r.l.take i)->
 dQ 501 [m,enc r,(r.l.length:Int),(i:Int),k,wX,N,x7,x8,o,c,dn,g,enc v,enc seen] (TX (qI m r.l/\Ab N o dn r.l.length v.l.length))
 |0,i,seen,hi,_,hR=>by
  have c1: ¬(i:Int)<(r.l.length:Int):=J
  rw [amR J] at hR;refine dQ.of ?_;unfold Ab;rw [Uq];simp only [Nk,zz,c1]
  repeat' first
   |exact .out (Cw hR (yN J))
   |exact .out (Cw hR (Rg J))
   |refine .ite (fun _=>?_) (fun _=>?_)
 |j+1,i,seen,hi,hS,hR=>by
  have dS:i<r.l.length:=J
  have c1:(i:Int)<(r.l.length:Int):=J
  have c2: ¬((i:Int)<0):=J
  have w:=bP (n:=i) J;have ht:r.l.take (i+1)=r.l.take i++ [r.l[i]]:=by rw [List.take_add_one,aL dS]; rfl
  have uR:r.l[i]∈r.l:=az dS;have ih:=fun h=>KJ m r Y k wX N x7 x8 o c dn g v j (i+1) (dL (jO seen.l (.i (r.l[i]).n) (.i 1))) J (by rw [ht]; exact W3 hS) h;refine dQ.of ?_;rw [Uq];rcases hS (r.l[i]).n with ⟨U,Z⟩|⟨U,Z⟩
  ·simp only [Nk,zz,c1,c2,w,bX dS,U,amd,aK];refine .ite (fun q=> .out (sQ fun R=>?_)) (fun q=> .ite (fun q2=>?_) (fun q2=> .out (sQ fun R=>?_)))
   ·have:=R.1 _ uR;omega
   ·refine .jump (ih ?_);rw [ht];refine⟨fun x hx=>?_,?_⟩
    ·rcases alO.1 hx with hx|hx
     ·exact hR.1 x hx
     ·simp only [ay,alT,or_false] at hx;subst hx;exact⟨J,q2⟩
    ·rw [al7,amC];refine⟨hR.2,ad,fun a ha b hb=>?_⟩;simp only [List.map,ay,alT,or_false] at hb;subst hb;intro he;subst he;exact Z ha
   ·have:=R.1 _ uR;omega
  ·simp only [Nk,zz,c1,c2,w,bX dS,U,bG]
   have nd: ¬qI m r.l:=fun R=>by
    have hn:=R.2;have e:r.l=r.l.take i++r.l[i]::r.l.drop (i+1):=by rw [<- bu dS,al6]
    rw [e,al7,amC] at hn;exact hn.2.2 _ Z _ (by rw [aw]; exact anH) rfl
   refine .ite (fun q=> .out (sQ nd)) (fun q=> .ite (fun q2=> .out (sQ nd)) (fun q2=> .out (sQ nd)))
theorem Tu (m:Int) (r:D) (Y:r.l.length<=140737488351232) (k wX N x7 x8 o c dn g:Int) (v:D) :
 dQ 501 [m,enc r,(r.l.length:Int),0,k,wX,N,x7,x8,o,c,dn,g,enc v,enc (.i 0)] (TX (qI m r.l/\Ab N o dn r.l.length v.l.length)):=
 KJ m r Y k wX N x7 x8 o c dn g v r.l.length 0 (.i 0) J (fun n=> .inl ⟨rfl,ad⟩) ⟨ad,ad⟩
def pV (k N c:Int):Prop:=k=9\/(k=3/\0<=c/\c<=N)\/(k=5/\0<=c/\c<=IntKind.i64.wrap (N-1))\/(k=7/\0<=c/\c<=1099511627776)\/(k≠3/\k≠5/\k≠7/\k≠9/\c=0)
theorem V' (k x1 N x3 x4 c:Int): ∃a b:Int,L 650 [k,x1,N,x3,x4]=some [a,b]/\(b=0/\pV k N c\/b=1/\(pV k N c↔0<=c/\c<=a)):=by
 have:dQ 650 [k,x1,N,x3,x4] (fun ys=> ∃a b:Int,ys= [a,b]/\(b=0/\pV k N c\/b=1/\(pV k N c↔0<=c/\c<=a))):=by
  unfold pV;refine dQ.of ?_;rw [aaz];simp only [I?,zz]
  repeat' first
   |exact .out ⟨_,_,rfl,J⟩
   |refine .ite (fun _=>?_) (fun _=>?_)
 obtain⟨ys,h,a,b,rfl,Z⟩:=this
 grind
def Fi (k N m o c dn g:Int) (rl vl:Nat):Prop:=
 pV k N c/\-1<=o/\o<m/\0<=g/\g<=4611686018427387904/\(0<=o->k=1\/k=2\/k=6)/\(0<(rl:Int)->k=4\/k=2)/\(0<(vl:Int)->k=8)/\(dn≠0->k=6)/\(0<g->k=5)
def Ps (k N m o c dn g:Int) (r v:D):Prop:=Fi k N m o c dn g r.l.length v.l.length/\qI m r.l/\Ab N o dn r.l.length v.l.length
set_option maxHeartbeats 4000000 in
theorem WX (k x1 N x3 x4 m o c dn g:Int) (r v:D) (Y:r.l.length<=140737488351232):dQ 500 [k,x1,N,x3,x4,o,c,dn,g,enc r,enc v,m] (TX (Ps k N m o c dn g r v)):=by
 unfold Ps Fi;obtain⟨a,b,hM,hb⟩:=V' k x1 N x3 x4 c;have ih:=Tu m r Y k x1 N x3 x4 o c dn g v;refine dQ.of ?_;rw [aaA];generalize pV k N c=H at *;by_cases b0:b=0
 ·subst b0
  have hH:H:=by
   grind
  simp only [Wf,zz,hM]
  repeat' first
   |exact .out (sQ J)
   |exact .jump (let ⟨ys,hL,hB⟩:=ih; ⟨ys,hL,Cw ⟨hH,J,J,J,J,J,J,J,J,J⟩ hB⟩)
   |refine .ite (fun _=>?_) (fun _=>?_)
 ·have hH:H↔0<=c/\c<=a:=by
   grind
  simp only [Wf,zz,hM,af b0]
  repeat' first
   |exact .out (sQ fun h=>by first |omega|(have:=hH.1 h.1; omega))
   |exact .jump (let ⟨ys,hL,hB⟩:=ih; ⟨ys,hL,Cw ⟨hH.2 ⟨J,J⟩,J,J,J,J,J,J,J,J,J⟩ hB⟩)
   |refine .ite (fun _=>?_) (fun _=>?_)
theorem X? {P:Prop} {j:Nat} {xs:List Int} (h:dQ j xs (TX P)):L j xs=some [1]↔P:=by
 obtain⟨ys,hL,b,rfl,hb⟩:=h
 grind
theorem WY {d x:D} {m:Nat} {o c dn g:Int} {r v:D} (T:Tg x o c dn g r v) (Y:r.l.length<=140737488351232):Snd d x m↔Ps (d.hd 0).n (d.hd 2).n (m:Int) o c dn g r v:=by
 have h:=X? (WX (d.hd 0).n (enc (d.hd 1)) (d.hd 2).n (enc (d.hd 3)) (d.hd 4).n (m:Int) o c dn g r v Y)
 have e:(if dn=0 then (0:Int) else 1)=dn:=by rcases T.hd with rfl|rfl<;>rfl
 unfold Snd K!;rw [T.is];simp only [zg,ax,qk,e];exact h
theorem Il {m:Int} {l l':List D} (h:qI m l) (hs:l'.Sublist l):qI m l':=⟨fun x hx=>h.1 x (hs.subset hx),h.2.sublist (hs.map _)⟩
theorem N? (m:Int):qI m []:=⟨ad,ad⟩
theorem KI {m t:Int} {l:List D} (h:qI m l) (hn: ∀x∈l,x.n≠t) (t0:0<=t) (t1:t<m):qI m (l++ [.i t]):=by
 refine⟨fun x hx=>?_,?_⟩
 ·rcases alO.1 hx with hx|hx
  ·exact h.1 x hx
  ·simp only [ay,alT,or_false] at hx;subst hx;exact⟨t0,t1⟩
 ·rw [al7,amC];refine⟨h.2,ad,fun a ha b hb=>?_⟩;simp only [List.map,ay,alT,or_false,qk] at hb
  grind
theorem aep {m t:Int} {l:List D} (h:qI m l) (t0:0<=t) (t1:t<m):qI m (wo t l++ [.i t]):=
 KI (Il h List.filter_sublist) (fun x hx=>by simpa using (al8.1 hx).2) t0 t1
theorem O_ {m:Int} {l:List D} (h:qI m l) (k:Nat):qI m (l.take k++l.drop (k+1)):=by rw [<- List.eraseIdx_eq_take_drop_succ];exact Il h (List.eraseIdx_sublist _ _)
theorem Dy {r:D} {t:Int} (h:place r t<0): ∀x∈r.l,x.n≠t:=by
 rcases kr r t with ⟨_,Z⟩|⟨k,_,U,_⟩
 all_goals grind
def UL (k N m:Int):Act->Prop
 | .res o c dn g r v _ _ _=>Ps k N m o c dn g r v
 |_=>True
theorem UL.ite {k N m:Int} {p:Prop} [Decidable p] {a b:Act} (ha:p->UL k N m a) (hb: ¬p->UL k N m b):UL k N m (if p then a else b):=by
 grind
theorem DR {op k:Int} (h0:0<=op) (hk:kindOf op=k) (U:1<=k) :
 (op=1\/op=2\/op=3\/op=4)/\k=1\/(op=5\/op=6\/op=7\/op=8)/\k=2\/(op=9\/op=10\/op=11)/\k=3\/(op=12\/op=13\/op=14\/op=24)/\k=4\/(op=15\/op=25)/\k=5\/(op=16\/op=26)/\k=6\/(op=17\/op=18\/op=19)/\k=7\/(op=20\/op=21)/\k=8\/(op=22\/op=23)/\k=9:=by
 unfold kindOf at hk;by_cases h27:op<27
 ·have:op=0\/op=1\/op=2\/op=3\/op=4\/op=5\/op=6\/op=7\/op=8\/op=9\/op=10\/op=11\/op=12\/op=13\/op=14\/op=15\/op=16\/op=17\/op=18\/op=19\/op=20\/op=21\/op=22\/op=23\/op=24\/op=25\/op=26:=J
  rcases this with rfl|rfl|rfl|rfl|rfl|rfl|rfl|rfl|rfl|rfl|rfl|rfl|rfl|rfl|rfl|rfl|rfl|rfl|rfl|rfl|rfl|rfl|rfl|rfl|rfl|rfl|rfl
  all_goals simp at hk
  all_goals subst hk
  all_goals first |omega|simp
 grind
section
variable {d0 x:D} {k N m mo th op arg tries o c dn g:Int} {r v:D}
set_option maxHeartbeats 8000000 in
theorem aa1 (T:Tg x o c dn g r v) (S:Ps k N m o c dn g r v) (py:0<=op) (hk:kindOf op=k) (hO:OkO d0 k N) (t0:0<=th) (t1:th<m) (hm:m<=16):UL k N m (act N mo th op arg tries o c dn g r v):=by
 obtain⟨P,R,E⟩:=S;have hc1:=T.hc.1;have hc2:=T.hc.2;have hg1:=T.hg.1;have hd:=T.hd;have pr:=gn r th;have pn:=fun h=>Dy (r:=r) (t:=th) h;have rs:=fun h=>KI R (Dy (r:=r) (t:=th) h) t0 t1;have rw':=aep R t0 t1
 have rd:=O_ R (place r th).toNat
 have r1:=Il R (List.drop_sublist 1 r.l);obtain⟨k1,k2,_,kn,k5,_⟩:=hO;unfold Fi pV at P;unfold Ab at E;have MU:=DR py hk k1;rcases MU with ⟨h|h|h|h,CD⟩|⟨h|h|h|h,CD⟩|⟨h|h|h,CD⟩|⟨h|h|h|h,CD⟩|⟨h|h,CD⟩|⟨h|h,CD⟩|⟨h|h|h,CD⟩|⟨h|h,CD⟩|⟨h|h,CD⟩
 all_goals
  subst h;subst CD;simp only [act,Int.reduceEq,if_true,if_false,reduceIte]
  repeat' first
   |exact trivial
   |refine UL.ite (fun _=>?_) (fun _=>?_)
 all_goals
  refine⟨?_,?_,?_⟩
  ·clear rs rw' rd r1 pn;unfold Fi pV
   try simp only [bJ,gz,pW,aZ,aM,aR,bq,IntKind.wrap_i64,true_or,or_true,true_and,and_true,implies_true,true_implies] at *
   omega
  ·try simp only [bJ,gz,pW]
   first
    |exact R
    |exact rs J
    |exact rw'
    |exact rd
    |exact r1
    |exact N? _
  ·unfold Ab
   try simp only [bJ,gz,pW,aZ,aM,aR,bq,bh,IntKind.wrap_i64,true_or,or_true,true_and,and_true,implies_true,true_implies] at *
   omega
end
structure af1 (d0 d1 s k:D) (t:Int) (n:Nat) (s' k':D) (e1 e2 e3 e4 e5 oc:Int):Prop where
 eq:L 1850 [enc d0,enc d1,enc s,enc k,t]=some [enc s',enc k',e1,e2,e3,e4,e5,oc]
 sx:Sx s' k' (n+1)
 ls:s'.l.length=s.l.length
 lk:k'.l.length=k.l.length
section
variable {d0 d1 s k:D} {n:Nat} (S:Sx s k n) (hn:n<17592186043904) (h0:Wd (.sl 3) d0) (U:Wd (.sl 4) d1)
include S hn h0 U
theorem XI {t:Int} {x:KT} (R:Rs d0 d1 s k t x) (ho:gj d1 t x=0) (ha:low (fK d1 t x) 4=0):Sx s (fw k t (fk (fD d1 t x) x)) n:=by
 have hp:0<k.l.length:=by have:=R.r.t0; have:=R.ht; omega
 exact⟨S.g,PF S.wk ((nL R.c R.ht R.r (pw R.r ho ha)).1.kt R.c) hp,S.n2s,PZ hp _ _⟩
theorem WQ (t:Int): ∃s' k' e1 e2 e3 e4 e5 oc,af1 d0 d1 s k t n s' k' e1 e2 e3 e4 e5 oc:=by
 rcases KH (t:=t) S hn h0 U with h|⟨x,R⟩
 ·exact⟨s,k,0,0,0,0,0,0,PY S h,S.mono (alU n),rfl,rfl⟩
 ·rcases vK d1 t x with ho|ho
  ·by_cases ha:low (fK d1 t x) 4=0
   ·exact⟨_,_,0,0,0,0,0,1,Df S R ho ha,(XI S hn h0 U R ho ha).mono (alU n),rfl,fh _ _ _⟩
   ·obtain⟨op,obj,arg,tr,hq⟩:=oR J ha;obtain⟨k1,k2,k3⟩:=vQ R.c R.r R.c.ok.1 hq
    have fm:fH .i64 t:=by have:=R.r.t0;have:=R.r.t1;have:=U.len;exact⟨J,J⟩
    obtain⟨s',e1,e2,e3,e4,e5,oc,A⟩:=vB (tries:=tr) h0 U S.g hn fm k1 k2 k3;exact⟨s',_,e1,e2,e3,e4,e5,oc,De S R ho hq A,Aj S R.c R.r R.ht (BX R.r ho) A,A.len,fh _ _ _⟩
  ·exact⟨s,k,0,0,0,0,0,4,FV S R ho,S.mono (alU n),rfl,rfl⟩
end
def tF (x n:Int):Int:=if x.tmod n<0 then x.tmod n+n else x.tmod n
theorem Kv {x n:Int} (h:0<n): -n<x.tmod n/\x.tmod n<n:=by have U:=amK x h;have Z:=amK (-x) h;rw [Int.neg_tmod] at Z;omega
theorem Gf {x n:Int} (h:0<n):0<=tF x n/\tF x n<n:=by
 have:=Kv (x:=x) h;unfold tF
 grind
theorem TB {x n:Int} (h:0<n) (hb:n<=140737488351232):(IntKind.i64.wrap (x.tmod n+n)).tmod n=tF x n:=by
 have U:=Kv (x:=x) h;rw [jT J J];unfold tF;split
 ·exact Int.tmod_eq_of_lt J J
 ·rw [Int.tmod_eq_emod_of_nonneg J,Int.add_emod_right];exact Int.emod_eq_of_lt J J
inductive J5 (d0 d1 s:D) (t op obj arg tries:Int):D->Int->Int->Int->Int->Int->Int->Prop
 |no:J5 d0 d1 s t op obj arg tries s 0 0 0 0 0 0
 |ub (A:Acc d0 d1 s t op obj):J5 d0 d1 s t op obj arg tries s t 27 obj (IntKind.i64.wrap op) 0 2
 |res (A:Acc d0 d1 s t op obj) (o c dn g:Int) (r v:D) (o' c' p9 g':Int) (r' v':D) (m:Option Int) (a oc:Int) (T:Tg (s.at obj) o c dn g r v)
  (h:act (Mx d0 obj) (Mo d0 s obj) t op arg tries o c dn g r v= .res o' c' p9 g' r' v' m a oc):J5 d0 d1 s t op obj arg tries (lW s obj (Mx d0 obj) (.res o' c' p9 g' r' v' m a oc)) t op obj a 0 oc
section
variable {d0 d1 s s':D} {t op obj arg tries e1 e2 e3 e4 e5 oc:Int} {n:Nat}
theorem C2 (h0:Wd (.sl 3) d0) (U:Wd (.sl 4) d1) (G:Gs s n) (hn:n<17592186043904) (py:fH .u8 op) (A:sj d0 d1 s t op obj arg tries n s' e1 e2 e3 e4 e5 oc):J5 d0 d1 s t op obj arg tries s' e1 e2 e3 e4 e5 oc:=by
 have hf:=G.jW (by omega:n<17592186044415);have hA:=A.eq;by_cases h:Acc d0 d1 s t op obj
 ·obtain⟨_,o,c,dn,g,r,v,T,hL⟩:=vA (arg:=arg) (tries:=tries) h0 U G.wd hf py h;rw [Cq] at hL;rw [hA] at hL
  cases hB:act (Mx d0 obj) (Mo d0 s obj) t op arg tries o c dn g r v with
  |nF=> rw [hB] at hL;simp only [evA,ah,List.cons.injEq,and_true] at hL;obtain⟨q,rfl,rfl,rfl,rfl,rfl,rfl⟩:=hL;have q:=iJ q;subst q;exact .no
  |ub=> rw [hB] at hL;simp only [evA,ah,List.cons.injEq,and_true] at hL;obtain⟨q,rfl,rfl,rfl,rfl,rfl,rfl⟩:=hL;have q:=iJ q;subst q;exact .ub h
  |res o' c' p9 g' r' v' m a oc'=> rw [hB] at hL;simp only [evA,ah,List.cons.injEq,and_true] at hL;obtain⟨q,rfl,rfl,rfl,rfl,rfl,rfl⟩:=hL;have q:=iJ q;subst q;exact .res h o c dn g r v o' c' p9 g' r' v' m _ _ T hB
 ·have hL:=C1 (arg:=arg) (tries:=tries) h0 U G.wd hf py h;rw [hA] at hL;simp only [ah,List.cons.injEq,and_true] at hL;obtain⟨q,rfl,rfl,rfl,rfl,rfl,rfl⟩:=hL;have q:=iJ q;subst q;exact .no
end
section
variable {d0 d1 s:D} {n:Nat} (h0:Wd (.sl 3) d0) (U:Wd (.sl 4) d1) (G:Gs s n) (hn:n<17592186044000)
include h0 U G hn
theorem Ik (R:L 350 [enc d0,enc d1,enc s]=some [1]):L 450 [enc d0,enc d1]=some [0]/\mK d0 d1/\s.l.length=d0.l.length:=by obtain⟨b,hb,_,hi⟩:=kj h0 U (G.jW J).rows;rw [R] at hb;simp only [ah,List.cons.injEq,and_true] at hb;obtain⟨hC,hle,_⟩:=hi.1 hb.symm;exact⟨hC,Dp h0 U (G.jW J) R⟩
theorem Dk (R:L 350 [enc d0,enc d1,enc s]=some [1]) {i:Int} (i0:0<=i) (i1:i<(s.l.length:Int)) {o c dn g:Int} {r v:D} (T:Tg (s.at i) o c dn g r v):Ps ((d0.at i).hd 0).n ((d0.at i).hd 2).n (d1.l.length:Int) o c dn g r v:=by
 obtain⟨b,hb,_,hi⟩:=kj h0 U (G.jW J).rows;rw [R] at hb;simp only [ah,List.cons.injEq,and_true] at hb;obtain⟨_,hle,hs⟩:=hi.1 hb.symm;obtain⟨k,rfl⟩ : ∃k:Nat,i=(k:Int):=⟨i.toNat,J⟩;have hk:k<s.l.length:=J
 have h:=hs k hk;rw [bX hk] at T;have im:=G.rows _ (az hk);rw [T.is] at im;have Y:r.l.length<=140737488351232:=by have:=im.1; have:r.l.length<=n:=this; omega
 rw [WY T Y] at h;rw [bX (by omega:k<d0.l.length)];exact h
theorem ahO (hC:L 450 [enc d0,enc d1]=some [0]) (hle:s.l.length=d0.l.length) (h: ∀i:Nat,i<s.l.length->∃o c dn g r v,Tg (s.at (i:Int)) o c dn g r v/\Ps ((d0.at (i:Int)).hd 0).n ((d0.at (i:Int)).hd 2).n (d1.l.length:Int) o c dn g r v):L 350 [enc d0,enc d1,enc s]=some [1]:=by
 obtain⟨b,hb,_,hi⟩:=kj h0 U (G.jW J).rows;rw [hb,hi.2 ⟨hC,hle,fun k hk=>?_⟩];obtain⟨o,c,dn,g,r,v,T,P⟩:=h k hk;rw [bX hk] at T;rw [bX (by omega:k<d0.l.length)] at P;have im:=G.rows _ (az hk);rw [T.is] at im;have Y:r.l.length<=140737488351232:=by have:=im.1; have:r.l.length<=n:=this; omega
 exact (WY T Y).2 P
end
theorem RC {s:D} {n:Nat} (G:Gs s n) {i:Int} (i0:0<=i) (i1:i<(s.l.length:Int)): ∃o c dn g r v,Tg (s.at i) o c dn g r v/\r.l.length<=n/\v.l.length<=n:=by
 obtain⟨k,rfl⟩ : ∃k:Nat,i=(k:Int):=⟨i.toNat,J⟩;have hk:k<s.l.length:=J
 obtain⟨o,c,dn,g,r,v,T⟩:=C3 (G.wd.ma _ (az hk));have im:=G.rows _ (az hk);rw [T.is] at im;exact⟨o,c,dn,g,r,v,by rw [bX hk]; exact T,im.1,im.2⟩
def UM (th:Int):Act->Prop
 | .res _ _ _ _ _ _ m _ _=> ∀q,m=some q->q= -1\/q=th
 |_=>True
theorem UM.ite {th:Int} {p:Prop} [Decidable p] {a b:Act} (ha:UM th a) (hb:UM th b):UM th (if p then a else b):=by
 grind
theorem ajB {M mo th op arg tries o c dn g:Int} {r v:D}:UM th (act M mo th op arg tries o c dn g r v):=by
 have e1: ∀q:Int,(none:Option Int)=some q->q= -1\/q=th:=fun q h=>by simp at h
 have e2: ∀q:Int,some (-1:Int)=some q->q= -1\/q=th:=fun q h=>by simp only [ah] at h; exact .inl h.symm
 have e3: ∀q:Int,some th=some q->q= -1\/q=th:=fun q h=>by simp only [ah] at h; exact .inr h.symm
 unfold act
 repeat' refine UM.ite ?_ ?_
 all_goals first
  |trivial
  |exact e1
  |exact e2
  |exact e3
theorem JX {s:D} {i:Nat} {x:D} (h:s.l[i]?=some x):s.at (i:Int)=x:=by rw [kN,h]; rfl
section
variable {d0 d1 s:D} {t op obj arg tries:Int} {n:Nat} (h0:Wd (.sl 3) d0) (U:Wd (.sl 4) d1) (G:Gs s n) (hn:n<17592186043904) (py:fH .u8 op) (ht:fH .i64 t) (ha:fH .i64 arg)
include h0 U G hn py ht ha
theorem F9 (A:Acc d0 d1 s t op obj) {o c dn g:Int} {r v:D} (T:Tg (s.at obj) o c dn g r v) {o' c' p9 g':Int} {r' v':D} {m:Option Int} {a oc:Int}
 (h:act (Mx d0 obj) (Mo d0 s obj) t op arg tries o c dn g r v= .res o' c' p9 g' r' v' m a oc):L 350 [enc d0,enc d1,enc (lW s obj (Mx d0 obj) (.res o' c' p9 g' r' v' m a oc))]=some [1]:=by
 obtain⟨hC,ok,hle⟩:=Ik h0 U G J A.r;have a0:=A.o0;have a1:=A.o1;obtain⟨i,rfl⟩ : ∃i:Nat,obj=(i:Int):=⟨obj.toNat,J⟩;have hi:i<s.l.length:=J
 have hO:=ok.2.2 _ (XE (d:=d0) a0 J)
 have hrv:r.l.length<=n/\v.l.length<=n:=by
  have im:=G.rows _ (az hi);have e:s.l[i]=dL [.i o,.i c,.i dn,.i g,r,v]:=by rw [<- bX hi]; exact T.is
  rw [e] at im;exact im
 have hS:=Dk h0 U G J A.r a0 a1 T;have hS':=aa1 (d0:=d0) (mo:=Mo d0 s (i:Int)) (tries:=tries) (arg:=arg) (th:=t) T hS py.1 A.k hO A.t0 A.t1 (by have:=ok.2.1; omega);have hK:=i? (M:=Mx d0 (i:Int)) (mo:=Mo d0 s (i:Int)) (op:=op) (tries:=tries) T (n:=n) hrv.1 hrv.2 J ht ha;have hQ:=ajB (M:=Mx d0 (i:Int)) (mo:=Mo d0 s (i:Int)) (th:=t) (op:=op) (arg:=arg) (tries:=tries) (o:=o) (c:=c) (dn:=dn) (g:=g) (r:=r) (v:=v)
 have hN:m=none\/op=12\/op=24:=by
  by_cases Z:op=12\/op=24
  ·grind
  ·have:=Bc (M:=Mx d0 (i:Int)) (mo:=Mo d0 s (i:Int)) (th:=t) (op:=op) (arg:=arg) (tries:=tries) (o:=o) (c:=c) (dn:=dn) (g:=g) (r:=r) (v:=v) J J;rw [h] at this;exact .inl this
 rw [h] at hS' hK hQ
 have hM:UG (.res o' c' p9 g' r' v' m a oc)\/0<=Mx d0 (i:Int)/\Mx d0 (i:Int)<(s.l.length:Int)/\Mx d0 (i:Int)≠(i:Int):=by
  rcases hN with Z|Z
  ·exact .inl Z
  ·exact .inr (Ff h0 U G.wd (G.jW J) py A Z)
 have G':=P5 G hK a0 a1 (hM.imp id fun h=> ⟨h.1,h.2.1⟩);have Y:=yz s (i:Int) (Mx d0 (i:Int)) (.res o' c' p9 g' r' v' m a oc)
 have hd:(if p9=0 then (0:Int) else 1)=p9:=by rcases hK.2.2.1 with rfl|rfl<;>rfl
 refine ahO h0 U G' J hC (by rw [Y]; exact hle) fun j hj=>?_;rw [Y] at hj;by_cases hji:j=i
 ·subst hji
  have e:(lW s (j:Int) (Mx d0 (j:Int)) (.res o' c' p9 g' r' v' m a oc)).at (j:Int)=dL [.i o',.i c',.i p9,.i g',r',v']:=by refine JX ?_;unfold lW;rw [bJ,hd];exact Ea (by cases m with |none=>exact hj|some q=>rw [fQ]; exact hj)
  exact⟨o',c',p9,g',r',v',⟨e,hK.1,hK.2.1,hK.2.2.1,hK.2.2.2.1,hK.2.2.2.2.1,hK.2.2.2.2.2.2.1⟩,hS'⟩
 ·by_cases hjm:UG (.res o' c' p9 g' r' v' m a oc)\/(j:Int)≠Mx d0 (i:Int)
  ·have e:(lW s (i:Int) (Mx d0 (i:Int)) (.res o' c' p9 g' r' v' m a oc)).at (j:Int)=s.at (j:Int):=by
    rw [kN,kN,Xj J hjm]
   obtain⟨o2,c2,dn2,g2,r2,v2,T2,_,_⟩:=RC G (i:=(j:Int)) J J;exact⟨o2,c2,dn2,g2,r2,v2,by rw [e]; exact T2,Dk h0 U G J A.r J J T2⟩
  ·have hj1:(j:Int)=Mx d0 (i:Int):=Decidable.byContradiction fun gp=>hjm (.inr gp)
   cases m with
   |none=>exact absurd (.inl rfl) hjm
   |some q=>
    obtain⟨o2,c2,dn2,g2,r2,v2,T2,_,_⟩:=RC G (i:=(j:Int)) J J;have P2:=Dk h0 U G J A.r J J T2
    have MS:((d0.at (j:Int)).hd 0).n=1:=by
     have h4:((d0.at (i:Int)).hd 0).n=4:=by
      rw [<- A.k];rcases hN with Z|Z|Z
      ·grind
      ·rw [Z]; rfl
      ·rw [Z]; rfl
     obtain⟨_,_,m3⟩:=hO.2.2.2.2.2 h4
     grind
    have e:(lW s (i:Int) (Mx d0 (i:Int)) (.res o' c' p9 g' r' v' (some q) a oc)).at (j:Int)=dL [.i q,.i c2,.i dn2,.i g2,r2,v2]:=by refine JX ?_;unfold lW;rw [bJ,mj J,<- hj1,Ea J,T2.is];rfl
    refine⟨q,c2,dn2,g2,r2,v2,⟨e,hK.2.2.2.2.2.2.2.2.1 q rfl,T2.hc,T2.hd,T2.hg,T2.hr,T2.hv⟩,?_⟩;have t0:=A.t0;have t1:=A.t1;have hq:=hQ q rfl;rw [MS] at P2 ⊢;obtain⟨p,q2,q3⟩:=P2;unfold Fi pV at p;unfold Ab at q3;refine⟨?_,q2,?_⟩
    ·unfold Fi pV;omega
    ·unfold Ab;omega
end
def UK (op:Int):Act->Prop
 | .res _ _ _ _ _ _ _ _ oc=>oc=2\/oc=3/\(op=12\/op=15)
 |_=>True
theorem UK.ite {op:Int} {p:Prop} [Decidable p] {a b:Act} (ha:p->UK op a) (hb: ¬p->UK op b):UK op (if p then a else b):=by
 grind
theorem ajA {M mo th op arg tries o c dn g:Int} {r v:D}:UK op (act M mo th op arg tries o c dn g r v):=by
 unfold act
 repeat' first
  |trivial
  |exact .inl rfl
  |exact .inr ⟨rfl,.inl (by assumption)⟩
  |exact .inr ⟨rfl,.inr (by assumption)⟩
  |refine UK.ite (fun _=>?_) (fun _=>?_)
section
variable {d0 d1 s s' k:D} {t op obj arg tries e1 e2 e3 e4 e5 oc:Int} {n:Nat} {x:KT}
theorem Nh (C:Cd d0 d1) (R:Rt d0 d1 t x) (hx:x.w=0->x.a<(Nc d1 t:Int)) (hle:s.l.length=d0.l.length) (h3:fH .i64 e3) (h4:fH .i64 e4) (T:J5 d0 d1 s t op obj arg tries s' e1 e2 e3 e4 e5 oc):Rt d0 d1 t (jq (fD d1 t x) x op e2 e3 e4 oc):=by
 obtain⟨a',lc',w',o',g',tr',hK⟩:=VO (op:=op) (e2:=e2) (oc:=oc) C R hx h3 h4;have hd:=hK.is;simp only [KT.d,eM,fJ,D.p.injEq,D.i.injEq,and_true] at hd;obtain⟨e_a,e_l,e_w,e_o,e_g,e_t⟩:=hd
 have hw3:oc=3->0<=e3/\e3<(d0.l.length:Int)/\(e2=15/\((d0.at e3).hd 0).n=5\/e2≠15/\((d0.at e3).hd 0).n=4):=by
  intro ho
  cases T with
  |no=>omega
  |ub A=>omega
  |res A o c dn g r v o' c' p9 g' r' v' m a oc T h=>
   have hW:=ajA (M:=Mx d0 obj) (mo:=Mo d0 s obj) (th:=t) (op:=op) (arg:=arg) (tries:=tries) (o:=o) (c:=c) (dn:=dn) (g:=g) (r:=r) (v:=v);rw [h] at hW;have hk:=A.k;have:=A.o0;have:=A.o1;refine⟨A.o0,J,?_⟩;rcases hW with hW|⟨_,hW|hW⟩
   ·omega
   ·subst hW;exact .inr ⟨J,by rw [<- hk]; rfl⟩
   ·subst hW;exact .inl ⟨rfl,by rw [<- hk]; rfl⟩
 refine⟨R.t0,R.t1,?_,by rw [e_l]; exact hK.Y,by rw [e_g]; exact hK.hg⟩;obtain⟨a0,a1,On,tr0,tr1,hw⟩:=R.ok;unfold jq;by_cases o0:oc=0
 ·rw [ag o0];split
  ·refine⟨a0,a1,On,?_,?_,hw⟩
   all_goals grind
  ·exact⟨a0,a1,On,tr0,tr1,hw⟩
 ·rw [af o0];by_cases w0:x.w=0
  ·rw [ag w0];have c4:=hx w0;have F:=C.inf R c4;have ok:=F.ok;unfold OkI at ok;unfold Nc at c4;have hxo:x.o=0/\x.g=0:=J
   refine⟨?_,?_,?_,amX _,by show (0:Int)<=4611686018427387904; omega,?_⟩
   ·grind
   ·grind
   ·show ((if ((fD d1 t x).hd 0).n=1/\¬((fD d1 t x).hd 3).n<0 then dL (eY x.lc.l ((fD d1 t x).hd 3).n (.i e4)) else x.lc).l.length:Int)=_;split
    ·rw [bJ,fQ]; exact On
    grind
   grind
  ·rw [af w0];exact⟨a0,a1,On,amX _,by show (0:Int)<=4611686018427387904; omega,.inl ⟨rfl,rfl,rfl⟩⟩
end
inductive B0 (d0 d1 s k:D) (t:Int) (n:Nat):D->D->Int->Int->Int->Int->Int->Int->Prop
 |no (h:L 1550 [enc d0,enc d1,enc s,enc k,t]=some [0]):B0 d0 d1 s k t n s k 0 0 0 0 0 0
 |over (x:KT) (R:Rs d0 d1 s k t x) (ho:gj d1 t x=1):B0 d0 d1 s k t n s k 0 0 0 0 0 4
 |loc (x:KT) (R:Rs d0 d1 s k t x) (ho:gj d1 t x=0) (ha:low (fK d1 t x) 4=0):B0 d0 d1 s k t n s (fw k t (fk (fD d1 t x) x)) 0 0 0 0 0 1
 |tri (x:KT) (R:Rs d0 d1 s k t x) (ho:gj d1 t x=0) (op obj arg tr:Int) (hq:fK d1 t x= [op,obj,arg,tr,1]) (k1:fH .u8 op) (k2:fH .i64 obj) (k3:fH .i64 arg) (fm:fH .i64 t) (s':D) (e1 e2 e3 e4 e5 oc:Int)
  (A:sj d0 d1 s t op obj arg tr n s' e1 e2 e3 e4 e5 oc) (T:J5 d0 d1 s t op obj arg tr s' e1 e2 e3 e4 e5 oc):B0 d0 d1 s k t n s' (fw k t (jq (fD d1 t x) x op e2 e3 e4 oc)) e1 e2 e3 e4 e5 oc
section
variable {d0 d1 s k:D} {n:Nat} (S:Sx s k n) (hn:n<17592186043904) (h0:Wd (.sl 3) d0) (U:Wd (.sl 4) d1)
include S hn h0 U
theorem NA (t:Int): ∃s' k' e1 e2 e3 e4 e5 oc,L 1850 [enc d0,enc d1,enc s,enc k,t]=some [enc s',enc k',e1,e2,e3,e4,e5,oc]/\B0 d0 d1 s k t n s' k' e1 e2 e3 e4 e5 oc:=by
 rcases KH (t:=t) S hn h0 U with h|⟨x,R⟩
 ·exact⟨s,k,0,0,0,0,0,0,PY S h,.no h⟩
 ·rcases vK d1 t x with ho|ho
  ·by_cases ha:low (fK d1 t x) 4=0
   ·exact⟨_,_,0,0,0,0,0,1,Df S R ho ha,.loc x R ho ha⟩
   ·obtain⟨op,obj,arg,tr,hq⟩:=oR J ha;obtain⟨k1,k2,k3⟩:=vQ R.c R.r R.c.ok.1 hq
    have fm:fH .i64 t:=by have:=R.r.t0;have:=R.r.t1;have:=U.len;exact⟨J,J⟩
    obtain⟨s',e1,e2,e3,e4,e5,oc,A⟩:=vB (tries:=tr) h0 U S.g hn fm k1 k2 k3;exact⟨s',_,e1,e2,e3,e4,e5,oc,De S R ho hq A,.tri x R ho op obj arg tr hq k1 k2 k3 fm s' e1 e2 e3 e4 e5 oc A (C2 h0 U S.g hn k1 A)⟩
  ·exact⟨s,k,0,0,0,0,0,4,FV S R ho,.over x R ho⟩
theorem WR {t:Int} {s' k':D} {e1 e2 e3 e4 e5 oc:Int} (H:B0 d0 d1 s k t n s' k' e1 e2 e3 e4 e5 oc):Sx s' k' (n+1)/\s'.l.length=s.l.length/\k'.l.length=k.l.length:=by
 cases H with
 |no h=>exact⟨S.mono (alU n),rfl,rfl⟩
 |over x R ho=>exact⟨S.mono (alU n),rfl,rfl⟩
 |loc x R ho ha=>exact⟨(XI S hn h0 U R ho ha).mono (alU n),rfl,fh _ _ _⟩
 |tri x R ho op obj arg tr hq k1 k2 k3 fm s' e1 e2 e3 e4 e5 oc A T=>exact⟨Aj S R.c R.r R.ht (BX R.r ho) A,A.len,fh _ _ _⟩
omit h0 U in
theorem IC {t:Int} {x:KT} {s':D} (M:MR d0 d1 s k) (R:Rt d0 d1 t x) (ht:t<(k.l.length:Int)) (hs:L 350 [enc d0,enc d1,enc s']=some [1]):MR d0 d1 s' (fw k t x):=by
 obtain⟨_,hle,hO⟩:=M;refine⟨hs,(fh k t x).trans hle,fun i hi=>?_⟩;have hi':i<k.l.length:=by rw [fh] at hi; exact hi
 have t0:=R.t0;obtain⟨j,rfl⟩ : ∃j:Nat,t=(j:Int):=⟨t.toNat,J⟩;by_cases hij:i=j
 ·subst hij
  have e:(fw k (i:Int) x).l[i]=x.d:=by rw [<- bX hi];exact iZ J ht x
  have ok:=R.ok;rw [bX (by omega:i<d1.l.length)] at ok;unfold OkK;rw [e];simp only [KT.d,zg,ax,qk];exact ok
 ·have e:(fw k (j:Int) x).l[i]=k.l[i]:=by
   have h:=mj (l:=k.l) (z:=(j:Int)) (y:=x.d) (k:=i) J
   have Z:(fw k (j:Int) x).l[i]?=k.l[i]?:=by show (dL (eY k.l (j:Int) x.d)).l[i]?=_;rw [bJ];exact h
   grind
  grind
theorem WS {t:Int} {s' k':D} {e1 e2 e3 e4 e5 oc:Int} (M:MR d0 d1 s k) (H:B0 d0 d1 s k t n s' k' e1 e2 e3 e4 e5 oc):MR d0 d1 s' k':=by
 cases H with
 |no h=>exact M
 |over x R ho=>exact M
 |loc x R ho ha=>exact IC S hn M (nL R.c R.ht R.r (pw R.r ho ha)).1 R.ht M.1
 |tri x R ho op obj arg tr hq k1 k2 k3 fm s' e1 e2 e3 e4 e5 oc A T=>
  have hle:=(Ik h0 U S.g J M.1).2.2;have hR:=Nh R.c R.r (BX R.r ho) hle A.e3 A.e4 T;refine IC S hn M hR R.ht ?_
  cases T with
  |no=>exact M.1
  |ub A'=>exact M.1
  |res A' o c dn g r v o' c' p9 g' r' v' m a oc T' h=>exact F9 h0 U S.g hn k1 fm k3 A' T' h
end
theorem MR.thr {d0 d1 s k:D} {n:Nat} (S:Sx s k n) (hn:n<17592186043904) (h0:Wd (.sl 3) d0) (U:Wd (.sl 4) d1) (M:MR d0 d1 s k) {t:Int} (t0:0<=t) (t1:t<(d1.l.length:Int)): ∃x,Rs d0 d1 s k t x:=by
 obtain⟨ys,hL,b,rfl,hb⟩:=KK (k:=k) h0 U (S.g.jW J).rows U.len t;rcases hb with ⟨_,hb⟩|⟨rfl,_⟩
 ·grind
 ·rcases KH (t:=t) S hn h0 U with h|h
  all_goals grind
end Go.As.Try
end
section
namespace Go.As.Try
open Go hiding Stat Spec shape
open Go.As
set_option maxRecDepth 100000
set_option linter.unusedSimpArgs false
set_option linter.unusedVariables false
abbrev N4 (t j:Int):D:=.p (.i t) (.p (.i j) (.i 0))
def hv (p:D) (t j:Int):Int:=match eN p.l (N4 t j) with
 |some x=>x.n
 |none=>0
def M7 (p:D):Prop:=(p.l.map gw).Nodup
theorem IM {t j u i:Int}:N4 t j=N4 u i↔t=u/\j=i:=ad
theorem GH: ∀{l:List D} {k:D},k∉l.map gw->eN l k=none
 |[],_,_=>rfl
 |d::l,k,h=>by simp only [aw,ay,not_or] at h;rw [eN,af (fun e=>h.1 e.symm),GH h.2]
theorem GI: ∀{l:List D} {k k':D},(l.map gw).Nodup->eN (rM l k) k'=if k=k' then none else eN l k'
 |[],k,k',_=>by simp [rM,eN]
 |d::l,k,k',h=>by
  simp only [aw,al0] at h;by_cases hd:gw d=k
  ·rw [rM,ag hd];by_cases hk:k=k'
   ·rw [ag hk,<- hk,GH (hd▸h.1)]
   ·rw [af hk,eN,af (fun e=>hk (hd.symm.trans e))]
  ·rw [rM,af hd,eN,GI h.2];by_cases hk:k=k'
   ·rw [ag hk,af (fun e=>hd (e.trans hk.symm))];rw [ag hk]
   ·rw [af hk,af hk,eN]
theorem Ll: ∀(l:List D) (k v:D),(jO l k v).map gw=if k∈l.map gw then l.map gw else l.map gw++ [k]
 |[],k,v=>by simp [jO,gw]
 |d::l,k,v=>by
  by_cases hd:gw d=k
  ·rw [jO,ag hd,ag (by simp [hd])];simp [gw,hd];cases d<;>simp_all [gw]
  ·rw [jO,af hd,aw,Ll l k v];by_cases hm:k∈l.map gw
   ·rw [ag hm,aw,ag (amV _ hm)]
   ·rw [af hm,aw,af (by simp only [ay,not_or]; exact⟨fun e=>hd e.symm,hm⟩),aO]
theorem aeD {p:D} (h:M7 p) (k v:D):M7 (dL (jO p.l k v)):=by
 unfold M7;rw [bJ,Ll];split
 ·exact h
 ·rename_i hm;rw [amC];refine⟨h,ad,fun a ha b hb=>?_⟩;simp only [amP] at hb;subst hb;exact fun e=>hm (e▸ha)
theorem R5: ∀(l:List D) (k:D),(rM l k).Sublist l
 |[],_=>by simp [rM]
 |d::l,k=>by
  rw [rM];split
  ·exact List.sublist_cons_self _ _
  ·exact (R5 l k).cons_cons d
theorem aeE {p:D} (h:M7 p) (k:D):M7 (dL (rM p.l k)):=by unfold M7;rw [bJ];exact h.sublist ((R5 p.l k).map gw)
def x_ (p p':D) (th j v:Int):Prop:=M7 p'/\∀t i,hv p' t i=if t=th/\i=j then v else hv p t i
theorem D! {p x:D} (h:M7 p) {th j v:Int} (hx:x.n=v):x_ p (dL (jO p.l (N4 th j) x)) th j v:=by
 refine⟨aeD h _ _,fun t i=>?_⟩;unfold hv;rw [bJ,AE];by_cases e:t=th/\i=j
 ·rw [ag (by rw [e.1,e.2]),ag e];exact hx
 ·rw [af (fun q=>e ⟨(IM.1 q).1.symm,(IM.1 q).2.symm⟩),af e]
theorem D? {p:D} (h:M7 p) {th j:Int}:x_ p (dL (rM p.l (N4 th j))) th j 0:=by
 refine⟨aeE h _,fun t i=>?_⟩;unfold hv;rw [bJ,GI h];by_cases e:t=th/\i=j
 ·rw [ag (by rw [e.1,e.2]),ag e]
 ·rw [af (fun q=>e ⟨(IM.1 q).1.symm,(IM.1 q).2.symm⟩),af e]
theorem CZ {p:D} (h:M7 p) {th j v:Int} (hx:hv p th j=v):x_ p p th j v:=by
 refine⟨h,fun t i=>?_⟩;by_cases e:t=th/\i=j
 ·rw [ag e,e.1,e.2,hx]
 ·rw [af e]
def Kd (p:D) (th:Int) (n:Nat):List D:=((List.range n).filter fun (j:Nat)=>decide (1<=hv p th (j:Int))).map fun (j:Nat)=> .i (j:Int)
def N2 (p:D) (th:Int) (n:Nat):D:=if Kd p th n= [] then .i 1 else dL (Kd p th n)
theorem XL (p:D) (th:Int) (n:Nat):Kd p th (n+1)=Kd p th n++(if 1<=hv p th (n:Int) then [.i (n:Int)] else []):=by
 unfold Kd;rw [List.range_succ,List.filter_append,al7];by_cases h:1<=hv p th (n:Int)
 ·simp [h]
 ·simp [h]
theorem QQ (p:D) (th:Int) (n:Nat):(Kd p th n).length<=n:=by unfold Kd;rw [bo];exact bk (anP _ _) ad
theorem QP (p:D) (th:Int) (n:Nat) (x:D):x∈Kd p th n↔∃j:Nat,j<n/\1<=hv p th (j:Int)/\x= .i (j:Int):=by
 unfold Kd;simp only [aQ,al8,alY,decide_eq_true_eq];constructor
 ·rintro⟨j,⟨U,Z⟩,rfl⟩;exact⟨j,U,Z,rfl⟩
 ·rintro⟨j,U,Z,rfl⟩;exact⟨j,⟨U,Z⟩,rfl⟩
theorem abX (p:D) (th:Int) (n:Nat):(N2 p th n).l=Kd p th n:=by
 unfold N2;split
 ·rename_i h;rw [h];rfl
 ·exact bJ _
theorem DN (d0 d1 p:D) (th:Int) (hn:d0.l.length<=1000): ∀(j i:Nat),i+j=d0.l.length->
 (Kd p th i= []->L 25001 [th,1,(d0.l.length:Int),(i:Int),enc d0,enc d1,enc p]=some [enc d0,enc d1,enc p,enc (N2 p th d0.l.length)])/\
 (Kd p th i≠[]->L 25002 [th,1,enc (dL (Kd p th i)),(d0.l.length:Int),(i:Int),enc d0,enc d1,enc p]=some [enc d0,enc d1,enc p,enc (N2 p th d0.l.length)])
 |0,i,hi=>by
  have c1: ¬(i:Int)<(d0.l.length:Int):=J
  have e:i=d0.l.length:=J
  refine⟨fun h=>?_,fun h=>?_⟩
  ·rw [bL,O6];simp only [C9,zz,c1,cg];rw [N2,<- e,ag h]
  ·rw [bL,O5];simp only [C8,zz,c1,cg];rw [N2,<- e,af h]
 |j+1,i,hi=>by
  have c1:(i:Int)<(d0.l.length:Int):=J
  have w:=bP (n:=i) J;obtain⟨DY,px⟩:=DN d0 d1 p th hn j (i+1) J;have UX:=QQ p th i;have c2:(((Kd p th i).length:Nat):Int)<17592186044415:=J
  rw [XL] at DY px;have h01:(0:Int)<1:=J
  refine⟨fun h=>?_,fun h=>?_⟩
  ·rw [h] at DY px;rw [bL,O6]
   cases hf:eN p.l (N4 th (i:Int)) with
   |none=>
    have hh:hv p th (i:Int)=0:=by unfold hv; rw [hf]
    rw [hh] at DY;simp only [C9,zz,c1,hf,amd,aK,h01,w,bF,if_true,if_false,reduceIte];exact DY ad
   |some x=>
    have hh:hv p th (i:Int)=x.n:=by unfold hv; rw [hf]
    rw [hh] at DY px;by_cases hx:x.n<1
    ·simp only [C9,zz,c1,hf,bd,ax,bG,hx,w,bF,if_true,if_false,reduceIte];exact DY (by simp; omega)
    ·simp only [C9,zz,c1,hf,bd,ax,bG,hx,w,bF,if_true,if_false,reduceIte,pW,aC];rw [ag J] at px;exact px ad
  ·rw [bL,O5]
   cases hf:eN p.l (N4 th (i:Int)) with
   |none=>
    have hh:hv p th (i:Int)=0:=by unfold hv; rw [hf]
    rw [hh,af J,alV] at px;simp only [C8,zz,c1,hf,amd,aK,h01,w,bF,if_true,if_false,reduceIte];exact px h
   |some x=>
    have hh:hv p th (i:Int)=x.n:=by unfold hv; rw [hf]
    rw [hh] at px;by_cases hx:x.n<1
    ·rw [af J,alV] at px;simp only [C8,zz,c1,hf,bd,ax,bG,hx,w,bF,if_true,if_false,reduceIte];exact px h
    ·rw [ag J] at px;simp only [C8,zz,c1,c2,hf,bd,ax,bG,hx,w,bF,if_true,if_false,reduceIte,bJ];exact px ad
theorem Ld (d0 d1 p:D) (th:Int) (hn:d0.l.length<=1000):L 25000 [th,1,enc d0,enc d1,enc p]=some [enc d0,enc d1,enc p,enc (N2 p th d0.l.length)]:=by have h:=(DN d0 d1 p th hn d0.l.length 0 J).1 (by simp [Kd]);rw [bL,Zi];simp only [Wj,zz,bF];exact h
theorem Fa (R:D) (ob:Int) (hR:R.l.length<=140737488351232): ∀(j i:Nat),i+j=R.l.length->L 25103 [enc R,ob,0,(R.l.length:Int),(i:Int)]=some [ob,1]
 |0,i,hi=>by
  have c1: ¬(i:Int)<(R.l.length:Int):=J
  have w:IntKind.i64.wrap (0+1)=1:=jT J J;have c3: ¬(1:Int)<1:=J
  rw [bL,O3];simp only [Nn,zz,c1,w,bF];rw [bL,O4];simp only [Nq,zz,c3,cg]
 |j+1,i,hi=>by
  have c1:(i:Int)<(R.l.length:Int):=J
  have c2: ¬(i:Int)<0:=J
  have w:=bP (n:=i) J;have ih:=Fa R ob hR j (i+1) J;rw [bL,O3];simp only [Nn,zz,c1,c2,w,bF];exact ih
theorem Fb (R:D) (ob:Int) (hR:R.l.length<=140737488351232): ∀(j i:Nat),i+j=R.l.length->(∀n:Nat,n<i->(R.at (n:Int)).n≠ob)->∃b:Int,L 25102 [enc R,ob,0,(R.l.length:Int),(i:Int)]=some [ob,b]/\(b=0/\(∀n:Nat,n<R.l.length->(R.at (n:Int)).n≠ob)\/b=1/\∃n:Nat,n<R.l.length/\(R.at (n:Int)).n=ob)
 |0,i,hi,hp=>by
  have c1: ¬(i:Int)<(R.l.length:Int):=J
  refine⟨0,?_,.inl ⟨rfl,fun n hn=>hp n J⟩⟩;rw [bL,JI];simp only [H5,zz,c1,cg]
 |j+1,i,hi,hp=>by
  have c1:(i:Int)<(R.l.length:Int):=J
  have c2: ¬(i:Int)<0:=J
  have w:=bP (n:=i) J;by_cases he:ob=(R.at (i:Int)).n
  ·refine⟨1,?_,.inr ⟨rfl,i,J,he.symm⟩⟩;have ih:=Fa R ob hR j (i+1) J;rw [bL,JI];simp only [H5,zz,c1,c2,w];rw [ag he];exact ih
  ·obtain⟨b,U,Z⟩:=Fb R ob hR j (i+1) J fun n hn=>by
    by_cases e:n=i
    ·subst e;exact fun q=>he q.symm
    ·exact hp n J
   refine⟨b,?_,Z⟩;rw [bL,JI];simp only [H5,zz,c1,c2,w];rw [af he];exact U
theorem Mw (R:D) (ob:Int) (hR:R.l.length<=140737488351232): ∃b:Int,L 25100 [enc R,ob]=some [ob,b]/\(b=0/\(∀n:Nat,n<R.l.length->(R.at (n:Int)).n≠ob)\/b=1/\∃n:Nat,n<R.l.length/\(R.at (n:Int)).n=ob):=by
 obtain⟨b,U,Z⟩:=Fb R ob hR R.l.length 0 J fun n hn=>by omega
 refine⟨b,?_,Z⟩;have c1:(0:Int)<1:=J
 have c2: ¬(0:Int)<0:=J
 rw [bL,Zh];simp only [Wi,zz,bF];rw [bL,O4];simp only [Nq,zz,c1,c2,bF];exact U
def Fu (k ob N:Int):Int:=if k=4 then N else ob
def kP (k op a w:Int):Int:=
 if k=1 then (if op=1 then 2 else if op=3 then (if a=1 then 2 else w) else if op=4 then (if a=1 then 2 else w) else if op=2 then 0 else w)
 else if k=4 then (if op=24 then 2 else if op=12 then 0 else w)
 else if k=2 then (if op=5 then (if w<1 then 1 else w) else if op=6 then (if w=2 then 2 else 0) else if op=7 then 2 else if op=8 then (if w=1 then 1 else 0) else w)
 else w
theorem jz {p x:D} (h:M7 p) {th j v:Int} (hx:v=x.n):x_ p (dL (jO p.l (N4 th j) x)) th j v:=D! h hx.symm
theorem jA {p:D} (h:M7 p) {th j v:Int} (hx:v=0):x_ p (dL (rM p.l (N4 th j))) th j v:=hx▸D? h
theorem iu {p:D} (h:M7 p) {th j v:Int} (hx:v=hv p th j):x_ p p th j v:=CZ h hx.symm
theorem w0:IntKind.i64.wrap 0=0:=jT J J
theorem w1:IntKind.i64.wrap 1=1:=jT J J
theorem w2:IntKind.i64.wrap 2=2:=jT J J
theorem q02:(0:Int).tdiv 2=0:=rfl
theorem q12:(1:Int).tdiv 2=0:=rfl
theorem q22:(2:Int).tdiv 2=1:=rfl
theorem m02:(0:Int).tmod 2=0:=rfl
theorem m12:(1:Int).tmod 2=1:=rfl
theorem m22:(2:Int).tmod 2=0:=rfl
theorem ajt {ρ:Nat->Int} (a b:V):V.den ρ (.quo a b)=(a.den ρ).tdiv (b.den ρ):=rfl
theorem ajs {ρ:Nat->Int} (a b:V):V.den ρ (.rem a b)=(a.den ρ).tmod (b.den ρ):=rfl
theorem aju {ρ:Nat->Int} (a b:V):V.den ρ (.mul a b)=(a.den ρ)*(b.den ρ):=rfl
structure EvT (d0 es p:D) (i:Nat) (th op ob a:Int):Prop where
 i0:i<es.l.length
 i1:es.l.length<=100000
 he:es.at (i:Int)=dL [.i th,.i op,.i ob,.i a,.i 0]
 o0:0<=ob
 o1:ob<(d0.l.length:Int)
 d:d0.l.length<=64
 nd:M7 p
 hw: ∀j,0<=hv p th j/\hv p th j<=2
abbrev Rf (d0:D) (i:Int):Int:=((d0.at i).hd 0).n
abbrev PA (d0:D) (i:Int):Int:=((d0.at i).hd 2).n
theorem X5 {d0 d1 es p:D} {i:Nat} {th op ob a:Int} {P:List Int->Prop} {l:List D} (Y:l.length<=100000) (H:EvT d0 es p i th op ob a)
 (hs: ∀p':D,x_ p p' th (Fu (Rf d0 ob) ob (PA d0 ob)) (kP (Rf d0 ob) op a (hv p th (Fu (Rf d0 ob) ob (PA d0 ob))))->dQ 23402 [enc (dL (l++ [N2 p th d0.l.length])),enc es,(es.l.length:Int),((i+1:Nat):Int),enc d0,enc d1,enc p'] P) :
 dQ 23402 [enc (dL l),enc es,(es.l.length:Int),(i:Int),enc d0,enc d1,enc p] P:=by
 have c1:(i:Int)<(es.l.length:Int):=by have:=H.i0; omega
 have c2: ¬(i:Int)<0:=J
 have w:=bP (n:=i) (by have:=H.i0; have:=H.i1; omega);have c3:((l.length:Nat):Int)<5864062014804:=J
 have c5: ¬ob<0:=by have:=H.o0; omega
 have c6:=H.o1;have jt:=H.he;have B6:=Ld d0 d1 p th (by have:=H.d; omega);have lG:=H.nd;have hw:=H.hw;clear H;unfold Rf PA at hs;generalize hk:((d0.at ob).hd 0).n=k at *;generalize hN:((d0.at ob).hd 2).n=N at *;refine dQ.of ?_;rw [O8];have lM:k=1\/k=4\/k=2\/(k≠1/\k≠4/\k≠2):=J
 rcases lM with rfl|rfl|rfl|⟨k1,k4,k2⟩
 ·have e:Fu 1 ob N=ob:=rfl;rw [e] at hs;have hw:=hw ob;unfold hv at hs hw
  cases hf:eN p.l (N4 th ob) with
  |none=>
   simp only [hf] at hs hw;simp only [sD,zz,c1,c2,c3,c5,c6,w,jt,zg,B6,hk,hN,hf,ax,amd,qk,bJ,Int.reduceEq,aK,if_true,if_false,reduceIte]
   repeat' first
    |(refine .jump (hs _ ?_); first |exact jz lG (by simp [kP,qk, *])|exact jA lG (by simp [kP, *])|exact iu lG (by simp [kP,hv, *]))
    |refine .ite (fun _=>?_) (fun _=>?_)
  |some x=>
   simp only [hf] at hs hw;simp only [sD,zz,c1,c2,c3,c5,c6,w,jt,zg,B6,hk,hN,hf,ax,bd,bG,qk,bJ,Int.reduceEq,aK,if_true,if_false,reduceIte]
   repeat' first
    |(refine .jump (hs _ ?_); first |exact jz lG (by simp [kP,qk, *])|exact jA lG (by simp [kP, *])|exact iu lG (by simp [kP,hv, *]))
    |refine .ite (fun _=>?_) (fun _=>?_)
 ·have e:Fu 4 ob N=N:=rfl;rw [e] at hs;have hw:=hw N;unfold hv at hs hw
  cases hf:eN p.l (N4 th N) with
  |none=>
   simp only [hf] at hs hw;simp only [sD,zz,c1,c2,c3,c5,c6,w,jt,zg,B6,hk,hN,hf,ax,amd,qk,bJ,Int.reduceEq,aK,if_true,if_false,reduceIte]
   repeat' first
    |(refine .jump (hs _ ?_); first |exact jz lG (by simp [kP,qk, *])|exact jA lG (by simp [kP, *])|exact iu lG (by simp [kP,hv, *]))
    |refine .ite (fun _=>?_) (fun _=>?_)
  |some x=>
   simp only [hf] at hs hw;simp only [sD,zz,c1,c2,c3,c5,c6,w,jt,zg,B6,hk,hN,hf,ax,bd,bG,qk,bJ,Int.reduceEq,aK,if_true,if_false,reduceIte]
   repeat' first
    |(refine .jump (hs _ ?_); first |exact jz lG (by simp [kP,qk, *])|exact jA lG (by simp [kP, *])|exact iu lG (by simp [kP,hv, *]))
    |refine .ite (fun _=>?_) (fun _=>?_)
 ·have e:Fu 2 ob N=ob:=rfl;rw [e] at hs;have hw:=hw ob;unfold hv at hs hw
  cases hf:eN p.l (N4 th ob) with
  |none=>
   simp only [hf] at hs hw;simp only [sD,zz,c1,c2,c3,c5,c6,w,jt,zg,B6,hk,hN,hf,ax,amd,qk,bJ,Int.reduceEq,aK,if_true,if_false,reduceIte]
   repeat' first
    |(refine .jump (hs _ ?_); first |exact jz lG (by simp [kP,qk, *])|exact jA lG (by simp [kP, *])|exact iu lG (by simp [kP,hv, *]))
    |refine .ite (fun _=>?_) (fun _=>?_)
  |some x=>
   simp only [hf] at hs hw;have hx:x.n=0\/x.n=1\/x.n=2:=J
   rcases hx with hx|hx|hx
   all_goals
    rw [hx] at hs;simp only [sD,zz,c1,c2,c3,c5,c6,w,jt,zg,B6,hk,hN,hf,hx,ajt,ajs,aju,q02,q12,q22,m02,m12,m22,w0,w1,w2,Int.zero_mul,Int.one_mul,ax,bd,bG,qk,bJ,Int.reduceEq,Int.reduceLT,aK,if_true,if_false,reduceIte]
    repeat' first
     |(refine .jump (hs _ ?_); first |exact jz lG (by simp [kP,qk, *])|exact jA lG (by simp [kP, *])|exact iu lG (by simp [kP,hv, *]))
     |refine .ite (fun _=>?_) (fun _=>?_)
 ·have e:Fu k ob N=ob:=by unfold Fu; rw [af k4]
  have e2:kP k op a (hv p th ob)=hv p th ob:=by unfold kP; rw [af k1,af k4,af k2]
  rw [e,e2] at hs;simp only [sD,zz,c1,c2,c3,c5,c6,w,jt,zg,B6,hk,hN,k1,k4,k2,qk,bJ,if_true,if_false,reduceIte];exact .jump (hs _ (CZ lG rfl))
def yR (k o:Int) (r:D) (t:Int):Int:=if k=1 then (if o=t then 2 else 0) else if k=2 then (if o=t then 2 else if t∈r.l.map D.n then 1 else 0) else 0
def HR (d0 s p:D):Prop:=M7 p/\∀j:Nat,j<s.l.length->∀t:Int,0<=t->hv p t (j:Int)=yR (Rf d0 (j:Int)) ((s.at (j:Int)).hd 0).n ((s.at (j:Int)).hd 4) t
theorem W8 {r:D} {t:Int}:place r t<0↔t∉r.l.map D.n:=by
 rcases kr r t with ⟨h,hn⟩|⟨k,hk,h,U,_⟩
 ·refine⟨fun _ hm=>?_,fun _=>by omega⟩;obtain⟨x,hx,rfl⟩:=aQ.1 hm;exact Dy J x hx rfl
 ·refine⟨fun q=>by omega,fun q=>absurd (aQ.2 ⟨r.l[k],az hk,by first |exact U|(rw [U])|(rw [U]; rfl)⟩) q⟩
theorem W9 {r:D} {t:Int} (hp: ¬place r t<0) (nd:(r.l.map D.n).Nodup) (u:Int):u∈((r.l.take (place r t).toNat++r.l.drop ((place r t).toNat+1)).map D.n)↔u∈r.l.map D.n/\u≠t:=by
 rcases kr r t with ⟨h,hn⟩|⟨k,hk,h,U,_⟩
 ·omega
 ·have e0:(place r t).toNat=k:=J
  rw [e0]
  have e1:r.l=r.l.take k++r.l[k]::r.l.drop (k+1):=by rw [<- bu hk,al6]
  have hn:(r.l[k]).n=t:=by first |exact U|(rw [U]; rfl)
  generalize r.l.take k=A at *;generalize r.l.drop (k+1)=B at *;generalize r.l[k]=x at *;rw [e1] at nd ⊢;subst hn;simp only [al7,aw,alO,ay] at nd ⊢;rw [amC] at nd;obtain⟨_,n2,n3⟩:=nd;rw [al0] at n2;constructor
  ·rintro (q|q)
   ·exact⟨.inl q,fun e=>n3 u q x.n (anH ..) e⟩
   ·exact⟨.inr (.inr q),fun e=>n2.1 (e▸q)⟩
  ·rintro⟨q|q|q,ne⟩
   ·exact .inl q
   ·exact absurd q ne
   ·exact .inr q
theorem gz3 (l:List D) (z:Int) (x:D) (i:Nat):(eY l z x)[i]?=if (i:Int)=z/\i<l.length then some x else l[i]?:=by
 unfold eY;by_cases h:z<0
 ·rw [ag h,af J]
 ·rw [af h,List.getElem?_set];by_cases Z:z.toNat=i
  ·by_cases h3:i<l.length
   ·rw [ag Z,ag J,ag J]
   ·rw [ag Z,af J,af J,amD J]
  ·rw [af Z,af J]
theorem QC {s:D} {ob M o c dn g:Int} {r v:D} {a oc:Int} (i:Nat):(lW s ob M (.res o c dn g r v none a oc)).at (i:Int)=if (i:Int)=ob/\i<s.l.length then dL [.i o,.i c,.i (if dn=0 then 0 else 1),.i g,r,v] else s.at (i:Int):=by rw [kN,kN];simp only [lW,bJ,gz3];split<;>simp_all
theorem Iu {s:D} {ob M o c dn g:Int} {r v:D} {q a oc:Int} (i:Nat):(lW s ob M (.res o c dn g r v (some q) a oc)).at (i:Int)=if (i:Int)=ob/\i<s.l.length then dL [.i o,.i c,.i (if dn=0 then 0 else 1),.i g,r,v] else if (i:Int)=M/\i<s.l.length then dL (eY (s.at M).l 0 (.i q)) else s.at (i:Int):=by
 rw [kN,kN];simp only [lW,bJ,gz3,fQ];split
 ·simp_all
 ·split<;>simp_all
structure Dem (d0:D) (op ob:Int) (R:List D):Prop where
 un:op=2\/op=6\/op=8->.i ob∈R
 lo:op=1->.i ob∉R
 wa:op=12->.i (PA d0 ob)∈R
section
variable {d0 d1 s z p p':D} {n:Nat} {t op obj arg tr e2 gT a b oc:Int}
theorem Rm (h0:Wd (.sl 3) d0) (U:Wd (.sl 4) d1) (G:Gs s n) (hn:n<17592186043904) (ok:mK d0 d1) (R:L 350 [enc d0,enc d1,enc s]=some [1]) (UU:s.l.length=d0.l.length) (py:fH .u8 op) (K:HR d0 s p)
 (T:J5 d0 d1 s t op obj arg tr z t e2 gT a b oc) (CA:oc≠0) (Z!:x_ p p' t (Fu (Rf d0 gT) gT (PA d0 gT)) (kP (Rf d0 gT) e2 a (hv p t (Fu (Rf d0 gT) gT (PA d0 gT))))) :
 HR d0 z p'/\Dem d0 e2 gT (Kd p t d0.l.length):=by
 obtain⟨U1,U2⟩:=Z!;obtain⟨K1,K2⟩:=K;unfold Rf at K2;unfold Rf PA at U2
 cases T with
 |no=>exact absurd rfl CA
 |ub A=>
  refine⟨⟨U1,fun j hj u hu=>?_⟩,⟨fun h=>by omega,fun h=>by omega,fun h=>by omega⟩⟩;show hv p' u (j:Int)=yR ((d0.at (j:Int)).hd 0).n _ _ u;rw [U2,<- K2 j hj u hu];split
  ·rename_i h;rw [h.1,h.2];unfold kP
   repeat' split
   all_goals first |rfl|omega
  ·rfl
 |res A o c dn g r v o' c' p9 g' r' v' m a oc T h=>
  have t0:=A.t0;obtain⟨ob,rfl⟩ : ∃ob:Nat,obj=(ob:Int):=⟨obj.toNat,by have:=A.o0; omega⟩;have o1:ob<s.l.length:=by have:=A.o1; omega
  obtain⟨P,Rw,E⟩:=Dk h0 U G J R A.o0 A.o1 T;have hO:=ok.2.2 _ (az (l:=d0.l) (n:=ob) J);have xN:(d0.l[ob]'J).hd 0=(d0.at (ob:Int)).hd 0:=by rw [bX J]
  have hNd:(d0.l[ob]'J).hd 2=(d0.at (ob:Int)).hd 2:=by rw [bX J]
  unfold KZ at hO;rw [xN,hNd] at hO;have MU:=DR py.1 A.k hO.1;have Fx:=K2 ob o1;have jt:=T.is;rw [jt] at Fx;have q0:((dL [D.i o,D.i c,D.i dn,D.i g,r,v]).hd 0).n=o:=rfl;have q4:(dL [D.i o,D.i c,D.i dn,D.i g,r,v]).hd 4=r:=rfl;rw [q0,q4] at Fx;have rin:=fun u=>(W8 (r:=r) (t:=u))
  have wK: ∀j:Int,0<=j->j<(d0.l.length:Int)->(D.i j∈Kd p t d0.l.length↔1<=hv p t j):=fun j j0 j1=>by
   rw [QP];constructor
   ·rintro⟨q,q1,q2,q3⟩;simp only [D.i.injEq] at q3;rw [q3];exact q2
   ·intro q;exact⟨j.toNat,J,by rw [show ((j.toNat:Nat):Int)=j by omega]; exact q,by rw [show ((j.toNat:Nat):Int)=j by omega]⟩
  have Yk:=wK (ob:Int) J J;unfold Fi at P;unfold Ab at E;unfold Mx at h ⊢;generalize hk:((d0.at (ob:Int)).hd 0).n=k at *;generalize hN:((d0.at (ob:Int)).hd 2).n=N at *
  have fin:m=none->(∀u:Int,0<=u->∀j:Nat,j<s.l.length->hv p' u (j:Int)=if j=ob then yR k o' r' u else hv p u (j:Int))->HR d0 (lW s (ob:Int) N (.res o' c' p9 g' r' v' m a oc)) p':=by
   rintro rfl hq;refine⟨U1,fun j hj u hu=>?_⟩;show hv p' u (j:Int)=yR ((d0.at (j:Int)).hd 0).n _ _ u;have GZ:j<s.l.length:=by rw [yz] at hj; exact hj
   rw [hq u hu j GZ];by_cases Rv:j=ob
   ·subst Rv;have e1:(lW s (j:Int) N (.res o' c' p9 g' r' v' none a oc)).at (j:Int)=dL [.i o',.i c',.i (if p9=0 then 0 else 1),.i g',r',v']:=by rw [QC,ag ⟨rfl,GZ⟩]
    rw [ag rfl,e1,hk];rfl
   ·have e1:(lW s (ob:Int) N (.res o' c' p9 g' r' v' none a oc)).at (j:Int)=s.at (j:Int):=by rw [QC,af (fun q=>Rv J)]
    rw [af Rv,e1];exact K2 j GZ u hu
  have akY: ∀q:Int,m=some q->k=4->N≠(ob:Int)->((d0.at N).hd 0).n=1->0<=N->N<(d0.l.length:Int)->(∀u:Int,0<=u->∀j:Nat,j<s.l.length->hv p' u (j:Int)=if (j:Int)=N then (if q=u then 2 else 0) else hv p u (j:Int))->HR d0 (lW s (ob:Int) N (.res o' c' p9 g' r' v' m a oc)) p':=by
   rintro q rfl k4 gp hkN N0 N1 hq;refine⟨U1,fun j hj u hu=>?_⟩;show hv p' u (j:Int)=yR ((d0.at (j:Int)).hd 0).n _ _ u;have GZ:j<s.l.length:=by rw [yz] at hj; exact hj
   rw [hq u hu j GZ];by_cases UY:(j:Int)=N
   ·have e1:(lW s (ob:Int) N (.res o' c' p9 g' r' v' (some q) a oc)).at (j:Int)=dL (eY (s.at N).l 0 (.i q)):=by rw [Iu,af (fun e=>gp (UY.symm.trans e.1)),ag ⟨UY,GZ⟩]
    rw [ag UY,e1,UY,hkN];obtain⟨o2,c2,dn2,g2,r2,v2,T2,_⟩:=RC G (i:=N) N0 J;rw [T2.is];rfl
   ·by_cases Rv:j=ob
    ·subst Rv;have e1:(lW s (j:Int) N (.res o' c' p9 g' r' v' (some q) a oc)).at (j:Int)=dL [.i o',.i c',.i (if p9=0 then 0 else 1),.i g',r',v']:=by rw [Iu,ag ⟨rfl,GZ⟩]
     rw [af UY,e1,hk,Fx u hu,k4];rfl
    ·have e1:(lW s (ob:Int) N (.res o' c' p9 g' r' v' (some q) a oc)).at (j:Int)=s.at (j:Int):=by rw [Iu,af (fun q=>Rv J),af (fun e=>UY e.1)]
     rw [af UY,e1];exact K2 j GZ u hu
  have ai6:k≠1->k≠2->k≠4->op≠12->op≠24->HR d0 (lW s (ob:Int) N (.res o' c' p9 g' r' v' m a oc)) p':=by
   intro k1 k2 k4 h12 h24;have hm:=Bc (M:=N) (mo:=Mo d0 s (ob:Int)) (th:=t) (op:=op) (arg:=arg) (tries:=tr) (o:=o) (c:=c) (dn:=dn) (g:=g) (r:=r) (v:=v) h12 h24;rw [h] at hm;refine fin hm fun u hu j hj=>?_;have e2:kP k op a (hv p t (Fu k (ob:Int) N))=hv p t (Fu k (ob:Int) N):=by unfold kP; rw [af k1,af k4,af k2]
   rw [U2,e2]
   have e3:hv p' u (j:Int)=hv p u (j:Int):=by
    rw [U2,e2];split
    ·rename_i q; rw [q.1,q.2]
    ·rfl
   rw [U2,e2] at e3;rw [e3];split
   ·rename_i q;subst q;rw [Fx u hu];unfold yR;rw [af k1,af k2,af k1,af k2]
   ·rfl
  rcases MU with ⟨ho,MS⟩|⟨ho,MS⟩|⟨ho,MS⟩|⟨ho,MS⟩|⟨ho,MS⟩|⟨ho,MS⟩|⟨ho,MS⟩|⟨ho,MS⟩|⟨ho,MS⟩
  ·subst MS;have e:Fu 1 (ob:Int) N=(ob:Int):=rfl;rw [e] at U2;rw [Fx t t0] at U2 Yk
   have akZ:m=none->(∀u:Int,0<=u->(if u=t then kP 1 op a (yR 1 o r t) else yR 1 o r u)=yR 1 o' r' u)->HR d0 (lW s (ob:Int) N (.res o' c' p9 g' r' v' m a oc)) p':=fun hm hq=>fin hm fun u hu j hj=>by
    rw [U2];by_cases Rv:j=ob
    ·subst Rv;rw [ag rfl,<- hq u hu,Fx u hu];simp
    ·rw [af (fun q=>Rv J),af Rv]
   rcases ho with rfl|rfl|rfl|rfl
   all_goals
    simp only [act,Int.reduceEq,if_true,if_false,reduceIte] at h
    repeat' split at h
    all_goals simp only [Act.res.injEq,reduceCtorEq] at h
    all_goals obtain⟨rfl,rfl,rfl,rfl,rfl,rfl,rfl,rfl,rfl⟩:=h
    all_goals
     refine⟨akZ rfl fun u hu=>?_,⟨fun q=>?_,fun q=>?_,fun q=>?_⟩⟩
     ·simp only [kP,yR,Int.reduceEq,if_true,if_false,reduceIte]
      repeat' split
      all_goals omega
     all_goals first
      |omega
      |(rw [Yk]; simp only [yR,if_true,reduceIte]; split<;>omega)
  ·subst MS;have e:Fu 2 (ob:Int) N=(ob:Int):=rfl;rw [e] at U2;rw [Fx t t0] at U2 Yk
   have aas:m=none->(∀u:Int,0<=u->(if u=t then kP 2 op a (yR 2 o r t) else yR 2 o r u)=yR 2 o' r' u)->HR d0 (lW s (ob:Int) N (.res o' c' p9 g' r' v' m a oc)) p':=fun hm hq=>fin hm fun u hu j hj=>by
    rw [U2];by_cases Rv:j=ob
    ·subst Rv;rw [ag rfl,<- hq u hu,Fx u hu];simp
    ·rw [af (fun q=>Rv J),af Rv]
   have nd:=Rw.2;have hrt:=W8 (r:=r) (t:=t);rcases ho with rfl|rfl|rfl|rfl
   ·simp only [act,Int.reduceEq,if_true,if_false,reduceIte] at h
    repeat' split at h
    all_goals simp only [Act.res.injEq,reduceCtorEq] at h
    all_goals obtain⟨rfl,rfl,rfl,rfl,rfl,rfl,rfl,rfl,rfl⟩:=h
    refine⟨aas rfl fun u hu=>?_,⟨fun q=>by omega,fun q=>by omega,fun q=>by omega⟩⟩;have hnt:t∉r.l.map D.n:=hrt.1 (by assumption);have ho:o<0:=by assumption
    simp only [kP,yR,Int.reduceEq,if_true,if_false,reduceIte,bJ,al7,alO,aw,amt,amP,qk];rw [af (by omega: ¬o=t),af hnt,af (by omega: ¬o=u),af (by omega: ¬o=u)];by_cases Cy:u=t
    ·rw [ag Cy,ag J,ag (.inr Cy)]
    ·rw [af Cy];by_cases hur:u∈r.l.map D.n
     ·rw [ag hur,ag (.inl hur)]
     ·rw [af hur,af (by rintro (q|q); exact hur q; exact Cy q)]
   ·simp only [act,Int.reduceEq,if_true,if_false,reduceIte] at h
    repeat' split at h
    all_goals simp only [Act.res.injEq,reduceCtorEq] at h
    all_goals obtain⟨rfl,rfl,rfl,rfl,rfl,rfl,rfl,rfl,rfl⟩:=h
    have hp: ¬place r t<0:=by assumption
    have Oe:t∈r.l.map D.n:=Decidable.byContradiction fun q=>hp (hrt.2 q)
    have ho:o<0:=by
     have:r.l.length≠0:=fun q=>by rw [alR q] at Oe; simp at Oe
     omega
    refine⟨aas rfl fun u hu=>?_,⟨fun q=>?_,fun q=>by omega,fun q=>by omega⟩⟩
    ·have hd:=W9 hp nd u;simp only [kP,yR,Int.reduceEq,if_true,if_false,reduceIte,gz];rw [af (by omega: ¬o=t),ag Oe,af (by omega: ¬o=u),af (by omega: ¬o=u)];by_cases Cy:u=t
     ·rw [ag Cy,af J,af (fun q=>(hd.1 q).2 Cy)]
     ·rw [af Cy];by_cases hur:u∈r.l.map D.n
      ·rw [ag hur,ag (hd.2 ⟨hur,Cy⟩)]
      ·rw [af hur,af (fun q=>hur (hd.1 q).1)]
    ·rw [Yk];simp only [yR,Int.reduceEq,if_false,if_true,reduceIte];rw [af (by omega: ¬o=t),ag Oe];omega
   ·simp only [act,Int.reduceEq,if_true,if_false,reduceIte] at h
    repeat' split at h
    all_goals simp only [Act.res.injEq,reduceCtorEq] at h
    all_goals obtain⟨rfl,rfl,rfl,rfl,rfl,rfl,rfl,rfl,rfl⟩:=h
    have hr:r.l= []:=alR J;refine⟨aas rfl fun u hu=>?_,⟨fun q=>by omega,fun q=>by omega,fun q=>by omega⟩⟩;simp only [kP,yR,hr,amt,alT,Int.reduceEq,if_true,if_false,reduceIte]
    repeat' split
    all_goals omega
   ·simp only [act,Int.reduceEq,if_true,if_false,reduceIte] at h
    repeat' split at h
    all_goals simp only [Act.res.injEq,reduceCtorEq] at h
    all_goals obtain⟨rfl,rfl,rfl,rfl,rfl,rfl,rfl,rfl,rfl⟩:=h
    have hr:r.l= []:=alR J;refine⟨aas rfl fun u hu=>?_,⟨fun q=>?_,fun q=>by omega,fun q=>by omega⟩⟩
    ·simp only [kP,yR,hr,amt,alT,Int.reduceEq,if_true,if_false,reduceIte]
     repeat' split
     all_goals omega
    ·rw [Yk];simp only [yR,Int.reduceEq,if_false,if_true,reduceIte];rw [ag J];omega
  ·exact⟨ai6 J J J J J,⟨fun q=>by omega,fun q=>by omega,fun q=>by omega⟩⟩
  ·subst MS;have e:Fu 4 (ob:Int) N=N:=rfl;rw [e] at U2;obtain⟨N0,N1,hkN⟩:=hO.2.2.2.2.2 rfl;have gp:N≠(ob:Int):=fun e=>by rw [e,hk] at hkN; omega
   have aiE:=wK N N0 N1;obtain⟨o2,c2,dn2,g2,r2,v2,T2,_⟩:=RC G (i:=N) N0 J
   have hMo:Mo d0 s (ob:Int)=o2:=by show ((s.at ((d0.at (ob:Int)).hd 2).n).hd 0).n=o2;rw [hN,T2.is];rfl
   have hvN: ∀u:Int,0<=u->hv p u N=if o2=u then 2 else 0:=fun u hu=>by have:=K2 N.toNat J u hu;rw [show ((N.toNat:Nat):Int)=N by omega,hkN,T2.is] at this;exact this
   rw [hMo] at h;rw [hvN t t0] at U2 aiE
   have ai5: ∀q:Int,m=some q->(∀u:Int,0<=u->(if u=t then kP 4 op a (if o2=t then 2 else 0) else (if o2=u then 2 else 0))=if q=u then 2 else 0)->HR d0 (lW s (ob:Int) N (.res o' c' p9 g' r' v' m a oc)) p':=fun q hm hq=>akY q hm rfl gp hkN N0 N1 fun u hu j hj=>by
    rw [U2];by_cases UY:(j:Int)=N
    ·rw [ag UY,<- hq u hu,UY,hvN u hu];simp
    ·rw [af (fun q=>UY q.2),af UY]
   have ai4:m=none->kP 4 op a (if o2=t then 2 else 0)=(if o2=t then 2 else 0)->HR d0 (lW s (ob:Int) N (.res o' c' p9 g' r' v' m a oc)) p':=fun hm hq=>fin hm fun u hu j hj=>by
    have e3:hv p' u (j:Int)=hv p u (j:Int):=by
     rw [U2,hq];split
     ·rename_i q; rw [q.1,q.2,hvN t t0]
     ·rfl
    rw [e3];split
    ·rename_i q;subst q;rw [Fx u hu];rfl
    ·rfl
   rcases ho with rfl|rfl|rfl|rfl
   ·simp only [act,Int.reduceEq,if_true,if_false,reduceIte] at h
    repeat' split at h
    all_goals simp only [Act.res.injEq,reduceCtorEq] at h
    all_goals obtain⟨rfl,rfl,rfl,rfl,rfl,rfl,rfl,rfl,rfl⟩:=h
    refine⟨ai5 _ rfl fun u hu=>?_,⟨fun q=>by omega,fun q=>by omega,fun q=>?_⟩⟩
    ·simp only [kP,Int.reduceEq,if_true,if_false,reduceIte]
     repeat' split
     all_goals omega
    ·unfold PA;rw [hN,aiE,ag J];omega
   ·simp only [act,Int.reduceEq,if_true,if_false,reduceIte] at h
    repeat' split at h
    all_goals simp only [Act.res.injEq,reduceCtorEq] at h
    all_goals obtain⟨rfl,rfl,rfl,rfl,rfl,rfl,rfl,rfl,rfl⟩:=h
    all_goals exact⟨ai4 rfl (by simp [kP]),⟨fun q=>by omega,fun q=>by omega,fun q=>by omega⟩⟩
   ·simp only [act,Int.reduceEq,if_true,if_false,reduceIte] at h
    repeat' split at h
    all_goals simp only [Act.res.injEq,reduceCtorEq] at h
    all_goals obtain⟨rfl,rfl,rfl,rfl,rfl,rfl,rfl,rfl,rfl⟩:=h
    all_goals exact⟨ai4 rfl (by simp [kP]),⟨fun q=>by omega,fun q=>by omega,fun q=>by omega⟩⟩
   ·simp only [act,Int.reduceEq,if_true,if_false,reduceIte] at h
    repeat' split at h
    all_goals simp only [Act.res.injEq,reduceCtorEq] at h
    all_goals obtain⟨rfl,rfl,rfl,rfl,rfl,rfl,rfl,rfl,rfl⟩:=h
    refine⟨ai5 _ rfl fun u hu=>?_,⟨fun q=>by omega,fun q=>by omega,fun q=>by omega⟩⟩;simp only [kP,Int.reduceEq,if_true,if_false,reduceIte]
    repeat' split
    all_goals omega
  all_goals exact⟨ai6 J J J J J,⟨fun q=>by omega,fun q=>by omega,fun q=>by omega⟩⟩
end
end Go.As.Try
end
section
namespace Go.As.Try
open Go hiding Stat Spec shape
open Go.As
set_option maxRecDepth 100000
def EqN (a b:D):Prop:=a.l.length=b.l.length/\∀(i:Nat),(a.at (i:Int)).n=(b.at (i:Int)).n
structure KEq (x y:D):Prop where
 c0:(x.hd 0).n=(y.hd 0).n
 c1:EqN (x.hd 1) (y.hd 1)
 c2:(x.hd 2).n=(y.hd 2).n
 c3:(x.hd 3).n=(y.hd 3).n
 c4:(x.hd 4).n=(y.hd 4).n
 c5:(x.hd 5).n=(y.hd 5).n
def aeL (k:D):Prop:=k.l.length<=140737488351232/\∀i:Nat,((k.at (i:Int)).hd 1).l.length<=140737488351232
section
variable {s k s' k':D} (Y:k.l.length=k'.l.length) (hq: ∀i:Nat,KEq (k.at (i:Int)) (k'.at (i:Int))) (hb:aeL k)
include Y hq hb
end
abbrev RR (e1 e2 e3 e4 e5:Int):D:=dL [.i e1,.i e2,.i e3,.i e4,.i e5]
structure PS where
 s:D
 k:D
 l:List D
noncomputable def WW (d0 d1 s k:D) (t:Int):List Int:=(L 1850 [enc d0,enc d1,enc s,enc k,t]).getD []
noncomputable def WV (d0 d1:D) (p:PS) (t:Int):PS:=
 ⟨dec (low (WW d0 d1 p.s p.k t) 0),dec (low (WW d0 d1 p.s p.k t) 1),if low (WW d0 d1 p.s p.k t) 7=2\/low (WW d0 d1 p.s p.k t) 7=3 then p.l++ [RR (low (WW d0 d1 p.s p.k t) 2) (low (WW d0 d1 p.s p.k t) 3) (low (WW d0 d1 p.s p.k t) 4) (low (WW d0 d1 p.s p.k t) 5) (low (WW d0 d1 p.s p.k t) 6)] else p.l⟩
noncomputable def yu (d0 d1:D):PS->List Int->PS
 |p,[]=>p
 |p,t::ts=>yu d0 d1 (WV d0 d1 p t) ts
structure POk (d1:D) (p:PS) (n:Nat):Prop where
 sx:Sx p.s p.k n
 lk:p.k.l.length=d1.l.length
 ll:p.l.length<=n
theorem WU {d0 d1:D} {p:PS} {t:Int} {n:Nat} {s' k':D} {e1 e2 e3 e4 e5 oc:Int} (A:af1 d0 d1 p.s p.k t n s' k' e1 e2 e3 e4 e5 oc):WV d0 d1 p t=⟨s',k',if oc=2\/oc=3 then p.l++ [RR e1 e2 e3 e4 e5] else p.l⟩:=by unfold WV WW;rw [A.eq];simp only [ax,bM,bN,bB]<;>rfl
theorem ael {d0 d1:D} {p:PS} {t:Int} {n:Nat} (P:POk d1 p n) {s' k':D} {e1 e2 e3 e4 e5 oc:Int} (A:af1 d0 d1 p.s p.k t n s' k' e1 e2 e3 e4 e5 oc):POk d1 (WV d0 d1 p t) (n+1):=by
 rw [WU A];refine⟨A.sx,A.lk.trans P.lk,?_⟩;have:=P.ll;show (if oc=2\/oc=3 then p.l++ [RR e1 e2 e3 e4 e5] else p.l).length<=n+1;split
 ·rw [aZ]; exact Nat.succ_le_succ this
 ·omega
def Q_ (d1:D) (x:D):Int:=tF x.n (d1.l.length:Int)
theorem dr {ρ:Nat->Int} (a b:V):(V.rem a b).den ρ=(a.den ρ).tmod (b.den ρ):=rfl
theorem ah5:((3:Int)=2)=False:=ad
theorem ah7:((1:Int)=2)=False:=ad
theorem ah6:((1:Int)=3)=False:=ad
section
variable {d0 d1:D} (h0:Wd (.sl 3) d0) (U:Wd (.sl 4) d1)
include h0 U
end
theorem sC (d1:D):(eV d1).l.length=d1.l.length:=by
 unfold eV;split
 ·rename_i h; rw [h]; rfl
 ·rw [bJ,bo]
section
variable {d0 d1:D} (h0:Wd (.sl 3) d0) (U:Wd (.sl 4) d1)
include h0 U
end
def Uz (q:PS):List Int:=[enc (if q.l= [] then .i 1 else dL q.l),enc q.s,enc q.k]
section
variable {d0 d1:D} (h0:Wd (.sl 3) d0) (U:Wd (.sl 4) d1) (hn:0<d1.l.length)
include h0 U hn
theorem Xl (d:D) (hd:d.l.length<=40000000): ∀(j i:Nat) (p:PS),i+j=d.l.length->POk d1 p i->
 (p.l= []->L 2401 [enc d,(d1.l.length:Int),(i:Int),enc d0,enc d1,enc p.s,enc p.k]=some (Uz (yu d0 d1 p ((d.l.drop i).map (Q_ d1)))))/\
 (p.l≠[]->L 2402 [enc d,(d1.l.length:Int),(i:Int),enc (dL p.l),enc d0,enc d1,enc p.s,enc p.k]=some (Uz (yu d0 d1 p ((d.l.drop i).map (Q_ d1)))))
 |0,i,p,hi,P=>by
  have c1: ¬(i:Int)<(d.l.length:Int):=J
  rw [amW J];simp only [amt,yu];refine⟨fun hp=>?_,fun hp=>?_⟩
  ·rw [bL,RX];simp only [Bi,zz,c1,cg,Uz,hp,if_true]
  ·rw [bL,Zj];simp only [FQ,zz,c1,cg,Uz,af hp]
 |j+1,i,p,hi,P=>by
  have dS:i<d.l.length:=J
  have c1:(i:Int)<(d.l.length:Int):=J
  have c2:(0:Int)<(d1.l.length:Int):=J
  have c3: ¬((i:Int)<0):=J
  have w:=bP (n:=i) J;have hb:=U.len;have pk:=TB (x:=(d.at (i:Int)).n) c2 J;obtain⟨r1,r2⟩:=Gf (x:=(d.at (i:Int)).n) c2;have c4: ¬(tF (d.at (i:Int)).n (d1.l.length:Int)<0):=J
  have c5:tF (d.at (i:Int)).n (d1.l.length:Int)<(p.k.l.length:Int):=by have:=P.lk; omega
  obtain⟨s',k',e1,e2,e3,e4,e5,oc,A⟩:=WQ P.sx J h0 U (tF (d.at (i:Int)).n (d1.l.length:Int));have hA:=A.eq;have c6:tF (d.at (i:Int)).n (d1.l.length:Int)<(k'.l.length:Int):=by have:=P.lk; have:=A.lk; omega
  have P':=ael P A;have ih:=Xl d hd j (i+1) _ J P'
  have AO:yu d0 d1 p ((d.l.drop i).map (Q_ d1))=yu d0 d1 (WV d0 d1 p (tF (d.at (i:Int)).n (d1.l.length:Int))) ((d.l.drop (i+1)).map (Q_ d1)):=by rw [bu dS,aw,yu,Q_,bX dS]
  have Y:=P.ll;have c7:(p.l.length:Int)<3518437208882:=J
  rw [AO];generalize yu d0 d1 (WV d0 d1 p (tF (d.at (i:Int)).n (d1.l.length:Int))) ((d.l.drop (i+1)).map (Q_ d1))=Q at *;rw [WU A] at ih;obtain⟨DY,px⟩:=ih;refine⟨fun hp=>?_,fun hp=>?_⟩
  ·rw [bL,RX];by_cases o2:oc=2
   ·simp only [o2,true_or,if_true,hp,aC,RR,eM,fJ] at px;simp only [Bi,zz,dr,c1,c2,c3,c4,c5,pk,hA,o2,w,bF,pW,aC,eM,fJ];exact px ad
   ·by_cases o3:oc=3
    ·simp only [o3,or_true,if_true,hp,aC,RR,eM,fJ] at px;simp only [Bi,zz,dr,c1,c2,c3,c4,c5,pk,hA,o3,w,bF,pW,aC,eM,fJ,ah5];exact px ad
    ·simp only [o2,o3,or_self,if_false] at DY;by_cases o1:oc=1
     ·simp only [Bi,zz,dr,c1,c2,c3,c4,c5,pk,hA,o1,w,bF,ah7,ah6];exact DY hp
     ·simp only [Bi,zz,dr,c1,c2,c3,c4,c5,c6,pk,hA,o1,o2,o3,w,bF];exact DY hp
  ·rw [bL,Zj];by_cases o2:oc=2
   ·simp only [o2,true_or,if_true,RR,eM,fJ] at px;simp only [FQ,zz,dr,c1,c2,c3,c4,c5,c7,pk,hA,o2,w,bF,bJ];exact px ad
   ·by_cases o3:oc=3
    ·simp only [o3,or_true,if_true,RR,eM,fJ] at px;simp only [FQ,zz,dr,c1,c2,c3,c4,c5,c7,pk,hA,o3,w,bF,bJ,ah5];exact px ad
    ·simp only [o2,o3,or_self,if_false] at px;by_cases o1:oc=1
     ·simp only [FQ,zz,dr,c1,c2,c3,c4,c5,pk,hA,o1,w,bF,ah7,ah6];exact px hp
     ·simp only [FQ,zz,dr,c1,c2,c3,c4,c5,c6,pk,hA,o1,o2,o3,w,bF];exact px hp
theorem P! {s k:D} (hB:L 1450 [enc d0,enc d1]=some [enc s,enc k,0]) (P:POk d1 ⟨s,k,[]⟩ 0) (d:D) (hd:d.l.length<=40000000):L 2400 [enc d0,enc d1,enc d]=some (Uz (yu d0 d1 ⟨s,k,[]⟩ (d.l.map (Q_ d1)))):=by have h:=(Xl h0 U hn d hd d.l.length 0 ⟨s,k,[]⟩ J P).1 rfl;rw [amc,al4] at h;rw [bL,RY];simp only [PO,zz,hB,bF];exact h
omit h0 U hn in
theorem aav {c:Int} (hc:c≠0) (hB:L 1450 [enc d0,enc d1]=some [enc (.i 1),enc (.i 1),c]) (d:D):L 2400 [enc d0,enc d1,enc d]=some [enc (.i 1),enc (.i 1),enc (.i 1)]:=by rw [bL,RY];simp only [PO,zz,hB,af hc,cg]
end
noncomputable abbrev foE (d0 d1 s k:D) (t n gK gT ea eb:Int) (x:KT):Nat->Int:=cU L (low [t,n,enc d0,enc d1,enc s,enc k,gK,gT,ea,eb,enc s,enc k,x.a,enc x.lc,x.w,x.o,x.g,x.tr])
section
variable {d0 d1 s k:D} {t:Int} {n:Nat} {gK gT ea eb m:Int} {x:KT} (S:Sk s k) (C:Cd d0 d1) (ht:t<(k.l.length:Int))
include S C ht
theorem Hn (R:Rt d0 d1 t x) (hn:20000<m):L 2004 [t,m,enc d0,enc d1,enc s,enc k,gK,gT,ea,eb,enc s,enc k,x.a,enc x.lc,x.w,x.o,x.g,x.tr]=some [enc s,enc k,0]:=by
 have eJ:=oX S
 have K:dZ (foE d0 d1 s k t m gK gT ea eb x) Kz= .out [enc s,enc k,0]:=by refine bR [.lt (.lit 20000) Qb,.eq (a0 1900 [cN,dH]) Q0] [] (ou [rr 1900 [cN,dH] 0,rr 1900 [cN,dH] 1,Qa]) (by simp only [zz,eJ,hn]<;>omega) aa ?_;simp only [zz,eJ]
 rw [bL,Mc];exact congrArg (fin L) K
theorem Em (R:Rt d0 d1 t x) (hn: ¬20000<m) (ho:gj d1 t x=1):L 2004 [t,m,enc d0,enc d1,enc s,enc k,gK,gT,ea,eb,enc s,enc k,x.a,enc x.lc,x.w,x.o,x.g,x.tr]=some [enc s,enc k,0]:=by
 have eJ:=oX S;have hO:=nv (s:=s) (k:=fw k t x) (iZ R.t0 ht x) (by rw [fh]; exact ht) R;rw [ho] at hO;simp only [fw,KT.d,eM,fJ] at hO
 have K:dZ (foE d0 d1 s k t m gK gT ea eb x) Kz= .out [enc s,enc k,0]:=by refine bR [.eq (a0 1650 ot) Q0,.eq (a0 1900 [cN,dH]) Q0] [.lt (.lit 20000) Qb,CU] (ou [rr 1900 [cN,dH] 0,rr 1900 [cN,dH] 1,Qa]) (by simp only [zz,eJ,hn,hO]<;>omega) aa ?_;simp only [zz,eJ]
 rw [bL,Mc];exact congrArg (fin L) K
theorem AZ (R:Rt d0 d1 t x) (hn: ¬20000<m) (ho:gj d1 t x=0) (ha:low (fK d1 t x) 4=0):L 2004 [t,m,enc d0,enc d1,enc s,enc k,gK,gT,ea,eb,enc s,enc k,x.a,enc x.lc,x.w,x.o,x.g,x.tr]=L 2004 [t,IntKind.i64.wrap (m+1),enc d0,enc d1,enc s,enc k,gK,gT,ea,eb,enc s,enc k,(fk (fD d1 t x) x).a,enc (fk (fD d1 t x) x).lc,(fk (fD d1 t x) x).w,(fk (fD d1 t x) x).o,(fk (fD d1 t x) x).g,(fk (fD d1 t x) x).tr]:=by
 have hO:=nv (s:=s) (k:=fw k t x) (iZ R.t0 ht x) (by rw [fh]; exact ht) R;have hN:=vP (s:=s) (k:=fw k t x) C (iZ R.t0 ht x) (by rw [fh]; exact ht) R;have Lc:=pw R ho ha;rw [ho] at hO;simp only [fw,KT.d,eM,fJ] at hO hN
 have hw:(fk (fD d1 t x) x).w=x.w/\(fk (fD d1 t x) x).o=x.o/\(fk (fD d1 t x) x).g=x.g/\(fk (fD d1 t x) x).tr=x.tr:=by
  unfold fk
  repeat' split
  all_goals exact⟨rfl,rfl,rfl,rfl⟩
 have Y:=Lg (s:=s) (k:=k) C ht R Lc
 have K:dZ (foE d0 d1 s k t m gK gT ea eb x) Kz= .jump 2004 [t,IntKind.i64.wrap (m+1),enc d0,enc d1,enc s,enc k,gK,gT,ea,eb,enc s,enc k,(fk (fD d1 t x) x).a,enc (fk (fD d1 t x) x).lc,(fk (fD d1 t x) x).w,(fk (fD d1 t x) x).o,(fk (fD d1 t x) x).g,(fk (fD d1 t x) x).tr]:=by refine bR [.eq (a0 1650 ot) Q0,CU,.eq (a0 1750 ot) Q0,Fq,.eq (a0 14000 SS) Q0,.eq (rr 14000 SS 0) Qa] [.lt (.lit 20000) Qb] (ju 2004 [Qf,pX,Qo,Qm,cN,dH,eB,gE,iW,j4,qJ,oM,rr 14000 SS 12,rr 14000 SS 13,wP,M0,Qqo,Qqp]) (by simp only [zz,hn,hO,hN,ha,Y]<;>omega) aa ?_;simp only [zz,Y,hw]
 rw [bL,Mc];exact congrArg (fin L) K
theorem AY (R:Rt d0 d1 t x) (hn: ¬20000<m) (ho:gj d1 t x=0) {op obj arg tr PL e1 e2 e3 e4 e5 oc:Int} {s':D} (ha:fK d1 t x= [op,obj,arg,tr,1]) (Oe:PL=if gK=4/\ea=0 then 4611686018427387904 else 0)
 (A:sj d0 d1 s t op obj arg PL n s' e1 e2 e3 e4 e5 oc):L 2004 [t,m,enc d0,enc d1,enc s,enc k,gK,gT,ea,eb,enc s,enc k,x.a,enc x.lc,x.w,x.o,x.g,x.tr]=some (if oc≠0/\e1=t/\e2=gK/\e3=gT/\e4=ea/\e5=eb then [enc s',enc (fw k t (jq (fD d1 t x) x op e2 e3 e4 oc)),1] else [enc s,enc k,0]):=by
 have eJ:=oX S;have hO:=nv (s:=s) (k:=fw k t x) (iZ R.t0 ht x) (by rw [fh]; exact ht) R;have hN:=vP (s:=s) (k:=fw k t x) C (iZ R.t0 ht x) (by rw [fh]; exact ht) R;rw [ho] at hO;rw [ha] at hN;simp only [fw,KT.d,eM,fJ] at hO hN
 have hx:x.w=0->x.a<(Nc d1 t:Int):=fun w0=>by unfold gj at ho;rw [ag w0] at ho;have:=R.ok.2.1;unfold Nc at ho ⊢;split at ho<;>omega
 have hE:w! e1 e2 e3 e4 e5 oc= [e1,e2,e3,e4,e5]:=by
  unfold w!;split
  ·rename_i h0;obtain⟨_,rfl,rfl,rfl,rfl,rfl⟩:=A.no h0;rfl
  ·rfl
 have Y:=Ks (k:=k) C ht R A.eq (fun h=>(A.no h).1) hx;rw [hE] at Y;simp only [aO,aC] at Y
 have K:dZ (foE d0 d1 s k t m gK gT ea eb x) Kz= .out (if oc≠0/\e1=t/\e2=gK/\e3=gT/\e4=ea/\e5=eb then [enc s',enc (fw k t (jq (fD d1 t x) x op e2 e3 e4 oc)),1] else [enc s,enc k,0]):=by
  by_cases q4:gK=4
  ·by_cases qa:ea=0
   ·have et:PL=4611686018427387904:=by rw [Oe,ag ⟨q4,qa⟩]
    rw [et] at Y;by_cases o0:oc=0
    ·rw [af (fun h=>h.1 o0)];refine bR [.eq (a0 1650 ot) Q0,CU,.eq (a0 1750 ot) Q0,.eq eB n5,MD,.eq (a0 14500 jo) Q0,.eq (rr 14500 jo 0) Qa,.eq (rr 14500 jo 21) Qa,.eq (a0 1900 [cN,dH]) Q0] [.lt (.lit 20000) Qb,Fq] (ou [rr 1900 [cN,dH] 0,rr 1900 [cN,dH] 1,Qa]) (by simp only [zz,hn,hO,hN,Y,q4,qa,o0,eJ]<;>omega) aa ?_;simp only [zz,eJ]
    ·by_cases qe:e1=t/\e2=gK/\e3=gT/\e4=ea/\e5=eb
     ·rw [ag ⟨o0,qe⟩];refine bR [.eq (a0 1650 ot) Q0,CU,.eq (a0 1750 ot) Q0,.eq eB n5,MD,.eq (a0 14500 jo) Q0,.eq (rr 14500 jo 0) Qa,.and (.eq (rr 14500 jo 16) Qf) (.and (.eq (rr 14500 jo 17) eB) (.and (.eq (rr 14500 jo 18) gE) (.and (.eq (rr 14500 jo 19) iW) (.eq (rr 14500 jo 20) j4))))] [.lt (.lit 20000) Qb,Fq,.eq (rr 14500 jo 21) Qa] (ou [rr 14500 jo 22,.op .set oM (cn UD (cn (mk (rr 14500 jo 23)) (cn (rr 14500 jo 24) (cn (mk (rr 14500 jo 25)) (cn (mk (rr 14500 jo 26)) (cn (mk (rr 14500 jo 27)) (cn (mk (rr 14500 jo 28)) j3))))))),Q0]) (by simp only [zz,hn,hO,hN,Y,q4,qa,o0,od,qe,and_self,eJ]<;>omega) aa ?_;simp only [zz,hN,Y,fw,KT.d,eM,fJ]
     ·rw [af (fun h=>qe h.2)];refine bR [.eq (a0 1650 ot) Q0,CU,.eq (a0 1750 ot) Q0,.eq eB n5,MD,.eq (a0 14500 jo) Q0,.eq (rr 14500 jo 0) Qa,.eq (a0 1900 [cN,dH]) Q0] [.lt (.lit 20000) Qb,Fq,.eq (rr 14500 jo 21) Qa,.and (.eq (rr 14500 jo 16) Qf) (.and (.eq (rr 14500 jo 17) eB) (.and (.eq (rr 14500 jo 18) gE) (.and (.eq (rr 14500 jo 19) iW) (.eq (rr 14500 jo 20) j4))))] (ou [rr 1900 [cN,dH] 0,rr 1900 [cN,dH] 1,Qa]) (by simp only [zz,hn,hO,hN,Y,q4,qa,o0,od,qe,eJ]<;>omega) aa ?_;simp only [zz,eJ]
   ·have et:PL=0:=by rw [Oe,af (fun h=>qa h.2)]
    rw [et] at Y;by_cases o0:oc=0
    ·rw [af (fun h=>h.1 o0)];refine bR [.eq (a0 1650 ot) Q0,CU,.eq (a0 1750 ot) Q0,.eq eB n5,.eq (a0 14500 fq) Q0,.eq (rr 14500 fq 0) Qa,.eq (rr 14500 fq 21) Qa,.eq (a0 1900 [cN,dH]) Q0] [.lt (.lit 20000) Qb,Fq,MD] (ou [rr 1900 [cN,dH] 0,rr 1900 [cN,dH] 1,Qa]) (by simp only [zz,hn,hO,hN,Y,q4,qa,o0,eJ]<;>omega) aa ?_;simp only [zz,eJ]
    ·by_cases qe:e1=t/\e2=gK/\e3=gT/\e4=ea/\e5=eb
     ·rw [ag ⟨o0,qe⟩];refine bR [.eq (a0 1650 ot) Q0,CU,.eq (a0 1750 ot) Q0,.eq eB n5,.eq (a0 14500 fq) Q0,.eq (rr 14500 fq 0) Qa,.and (.eq (rr 14500 fq 16) Qf) (.and (.eq (rr 14500 fq 17) eB) (.and (.eq (rr 14500 fq 18) gE) (.and (.eq (rr 14500 fq 19) iW) (.eq (rr 14500 fq 20) j4))))] [.lt (.lit 20000) Qb,Fq,MD,.eq (rr 14500 fq 21) Qa] (ou [rr 14500 fq 22,.op .set oM (cn UD (cn (mk (rr 14500 fq 23)) (cn (rr 14500 fq 24) (cn (mk (rr 14500 fq 25)) (cn (mk (rr 14500 fq 26)) (cn (mk (rr 14500 fq 27)) (cn (mk (rr 14500 fq 28)) j3))))))),Q0]) (by simp only [zz,hn,hO,hN,Y,q4,qa,o0,od,qe,and_self,eJ]<;>omega) aa ?_;simp only [zz,hN,Y,fw,KT.d,eM,fJ]
     ·rw [af (fun h=>qe h.2)];refine bR [.eq (a0 1650 ot) Q0,CU,.eq (a0 1750 ot) Q0,.eq eB n5,.eq (a0 14500 fq) Q0,.eq (rr 14500 fq 0) Qa,.eq (a0 1900 [cN,dH]) Q0] [.lt (.lit 20000) Qb,Fq,MD,.eq (rr 14500 fq 21) Qa,.and (.eq (rr 14500 fq 16) Qf) (.and (.eq (rr 14500 fq 17) eB) (.and (.eq (rr 14500 fq 18) gE) (.and (.eq (rr 14500 fq 19) iW) (.eq (rr 14500 fq 20) j4))))] (ou [rr 1900 [cN,dH] 0,rr 1900 [cN,dH] 1,Qa]) (by simp only [zz,hn,hO,hN,Y,q4,qa,o0,od,qe,eJ]<;>omega) aa ?_;simp only [zz,eJ]
  ·have et:PL=0:=by rw [Oe,af (fun h=>q4 h.1)]
   rw [et] at Y;by_cases o0:oc=0
   ·rw [af (fun h=>h.1 o0)];refine bR [.eq (a0 1650 ot) Q0,CU,.eq (a0 1750 ot) Q0,.eq (a0 14500 fq) Q0,.eq (rr 14500 fq 0) Qa,.eq (rr 14500 fq 21) Qa,.eq (a0 1900 [cN,dH]) Q0] [.lt (.lit 20000) Qb,Fq,.eq eB n5] (ou [rr 1900 [cN,dH] 0,rr 1900 [cN,dH] 1,Qa]) (by simp only [zz,hn,hO,hN,Y,q4,o0,eJ]<;>omega) aa ?_;simp only [zz,eJ]
   ·by_cases qe:e1=t/\e2=gK/\e3=gT/\e4=ea/\e5=eb
    ·rw [ag ⟨o0,qe⟩];refine bR [.eq (a0 1650 ot) Q0,CU,.eq (a0 1750 ot) Q0,.eq (a0 14500 fq) Q0,.eq (rr 14500 fq 0) Qa,.and (.eq (rr 14500 fq 16) Qf) (.and (.eq (rr 14500 fq 17) eB) (.and (.eq (rr 14500 fq 18) gE) (.and (.eq (rr 14500 fq 19) iW) (.eq (rr 14500 fq 20) j4))))] [.lt (.lit 20000) Qb,Fq,.eq eB n5,.eq (rr 14500 fq 21) Qa] (ou [rr 14500 fq 22,.op .set oM (cn UD (cn (mk (rr 14500 fq 23)) (cn (rr 14500 fq 24) (cn (mk (rr 14500 fq 25)) (cn (mk (rr 14500 fq 26)) (cn (mk (rr 14500 fq 27)) (cn (mk (rr 14500 fq 28)) j3))))))),Q0]) (by simp only [zz,hn,hO,hN,Y,q4,o0,od,qe,and_self,eJ]<;>omega) aa ?_;simp only [zz,hN,Y,fw,KT.d,eM,fJ]
    ·rw [af (fun h=>qe h.2)];refine bR [.eq (a0 1650 ot) Q0,CU,.eq (a0 1750 ot) Q0,.eq (a0 14500 fq) Q0,.eq (rr 14500 fq 0) Qa,.eq (a0 1900 [cN,dH]) Q0] [.lt (.lit 20000) Qb,Fq,.eq eB n5,.eq (rr 14500 fq 21) Qa,.and (.eq (rr 14500 fq 16) Qf) (.and (.eq (rr 14500 fq 17) eB) (.and (.eq (rr 14500 fq 18) gE) (.and (.eq (rr 14500 fq 19) iW) (.eq (rr 14500 fq 20) j4))))] (ou [rr 1900 [cN,dH] 0,rr 1900 [cN,dH] 1,Qa]) (by simp only [zz,hn,hO,hN,Y,q4,o0,od,qe,eJ]<;>omega) aa ?_;simp only [zz,eJ]
 rw [bL,Mc];exact congrArg (fin L) K
theorem Hm (R:Rt d0 d1 t x) (hz:x.lc.l.length=0) (hn:20000<m):L 2005 [t,m,enc d0,enc d1,enc s,enc k,gK,gT,ea,eb,enc s,enc k,x.a,enc x.lc,x.w,x.o,x.g,x.tr]=some [enc s,enc k,0]:=by
 have eJ:=oX S
 have K:dZ (foE d0 d1 s k t m gK gT ea eb x) Ky= .out [enc s,enc k,0]:=by refine bR [.lt (.lit 20000) Qb,.eq (a0 1900 [cN,dH]) Q0] [] (ou [rr 1900 [cN,dH] 0,rr 1900 [cN,dH] 1,Qa]) (by simp only [zz,eJ,hn]<;>omega) aa ?_;simp only [zz,eJ]
 rw [bL,Mb];exact congrArg (fin L) K
theorem El (R:Rt d0 d1 t x) (hz:x.lc.l.length=0) (hn: ¬20000<m) (ho:gj d1 t x=1):L 2005 [t,m,enc d0,enc d1,enc s,enc k,gK,gT,ea,eb,enc s,enc k,x.a,enc x.lc,x.w,x.o,x.g,x.tr]=some [enc s,enc k,0]:=by
 have eJ:=oX S;have hO:=nv (s:=s) (k:=fw k t x) (iZ R.t0 ht x) (by rw [fh]; exact ht) R;rw [ho] at hO;simp only [fw,KT.d,eM,fJ] at hO
 have K:dZ (foE d0 d1 s k t m gK gT ea eb x) Ky= .out [enc s,enc k,0]:=by refine bR [.eq (a0 1650 ot) Q0,.eq (a0 1900 [cN,dH]) Q0] [.lt (.lit 20000) Qb,CU] (ou [rr 1900 [cN,dH] 0,rr 1900 [cN,dH] 1,Qa]) (by simp only [zz,eJ,hn,hO]<;>omega) aa ?_;simp only [zz,eJ]
 rw [bL,Mb];exact congrArg (fin L) K
theorem AX (R:Rt d0 d1 t x) (hz:x.lc.l.length=0) (hn: ¬20000<m) (ho:gj d1 t x=0) (ha:low (fK d1 t x) 4=0):L 2005 [t,m,enc d0,enc d1,enc s,enc k,gK,gT,ea,eb,enc s,enc k,x.a,enc x.lc,x.w,x.o,x.g,x.tr]=L 2005 [t,IntKind.i64.wrap (m+1),enc d0,enc d1,enc s,enc k,gK,gT,ea,eb,enc s,enc k,(fk (fD d1 t x) x).a,enc (fk (fD d1 t x) x).lc,(fk (fD d1 t x) x).w,(fk (fD d1 t x) x).o,(fk (fD d1 t x) x).g,(fk (fD d1 t x) x).tr]:=by
 have hO:=nv (s:=s) (k:=fw k t x) (iZ R.t0 ht x) (by rw [fh]; exact ht) R;have hN:=vP (s:=s) (k:=fw k t x) C (iZ R.t0 ht x) (by rw [fh]; exact ht) R;have Lc:=pw R ho ha;rw [ho] at hO;simp only [fw,KT.d,eM,fJ] at hO hN
 have hw:(fk (fD d1 t x) x).w=x.w/\(fk (fD d1 t x) x).o=x.o/\(fk (fD d1 t x) x).g=x.g/\(fk (fD d1 t x) x).tr=x.tr:=by
  unfold fk
  repeat' split
  all_goals exact⟨rfl,rfl,rfl,rfl⟩
 obtain⟨Y,hc⟩:=Le (s:=s) (k:=k) C ht R Lc hz
 have K:dZ (foE d0 d1 s k t m gK gT ea eb x) Ky= .jump 2005 [t,IntKind.i64.wrap (m+1),enc d0,enc d1,enc s,enc k,gK,gT,ea,eb,enc s,enc k,(fk (fD d1 t x) x).a,enc (fk (fD d1 t x) x).lc,(fk (fD d1 t x) x).w,(fk (fD d1 t x) x).o,(fk (fD d1 t x) x).g,(fk (fD d1 t x) x).tr]:=by refine bR [.eq (a0 1650 ot) Q0,CU,.eq (a0 1750 ot) Q0,Fq,.eq (a0 14050 SS) Q0,.eq (rr 14050 SS 0) Qa] [.lt (.lit 20000) Qb] (ju 2005 [Qf,pX,Qo,Qm,cN,dH,eB,gE,iW,j4,qJ,oM,rr 14050 SS 12,so,wP,M0,Qqo,Qqp]) (by simp only [zz,hn,hO,hN,ha,Y]<;>omega) aa ?_;simp only [zz,Y,hw,hc]
 rw [bL,Mb];exact congrArg (fin L) K
theorem AW (R:Rt d0 d1 t x) (hz:x.lc.l.length=0) (hn: ¬20000<m) (ho:gj d1 t x=0) {op obj arg tr PL e1 e2 e3 e4 e5 oc:Int} {s':D} (ha:fK d1 t x= [op,obj,arg,tr,1]) (Oe:PL=if gK=4/\ea=0 then 4611686018427387904 else 0)
 (A:sj d0 d1 s t op obj arg PL n s' e1 e2 e3 e4 e5 oc):L 2005 [t,m,enc d0,enc d1,enc s,enc k,gK,gT,ea,eb,enc s,enc k,x.a,enc x.lc,x.w,x.o,x.g,x.tr]=some (if oc≠0/\e1=t/\e2=gK/\e3=gT/\e4=ea/\e5=eb then [enc s',enc (fw k t (jq (fD d1 t x) x op e2 e3 e4 oc)),1] else [enc s,enc k,0]):=by
 have eJ:=oX S;have hO:=nv (s:=s) (k:=fw k t x) (iZ R.t0 ht x) (by rw [fh]; exact ht) R;have hN:=vP (s:=s) (k:=fw k t x) C (iZ R.t0 ht x) (by rw [fh]; exact ht) R;rw [ho] at hO;rw [ha] at hN;simp only [fw,KT.d,eM,fJ] at hO hN
 have hx:x.w=0->x.a<(Nc d1 t:Int):=fun w0=>by unfold gj at ho;rw [ag w0] at ho;have:=R.ok.2.1;unfold Nc at ho ⊢;split at ho<;>omega
 have hE:w! e1 e2 e3 e4 e5 oc= [e1,e2,e3,e4,e5]:=by
  unfold w!;split
  ·rename_i h0;obtain⟨_,rfl,rfl,rfl,rfl,rfl⟩:=A.no h0;rfl
  ·rfl
 obtain⟨Y,hc⟩:=Kr (k:=k) C ht R A.eq (fun h=>(A.no h).1) hx hz;rw [hE] at Y;simp only [aO,aC] at Y
 have K:dZ (foE d0 d1 s k t m gK gT ea eb x) Ky= .out (if oc≠0/\e1=t/\e2=gK/\e3=gT/\e4=ea/\e5=eb then [enc s',enc (fw k t (jq (fD d1 t x) x op e2 e3 e4 oc)),1] else [enc s,enc k,0]):=by
  by_cases q4:gK=4
  ·by_cases qa:ea=0
   ·have et:PL=4611686018427387904:=by rw [Oe,ag ⟨q4,qa⟩]
    rw [et] at Y;by_cases o0:oc=0
    ·rw [af (fun h=>h.1 o0)];refine bR [.eq (a0 1650 ot) Q0,CU,.eq (a0 1750 ot) Q0,.eq eB n5,MD,.eq (a0 14550 jo) Q0,.eq (rr 14550 jo 0) Qa,.eq (rr 14550 jo 21) Qa,.eq (a0 1900 [cN,dH]) Q0] [.lt (.lit 20000) Qb,Fq] (ou [rr 1900 [cN,dH] 0,rr 1900 [cN,dH] 1,Qa]) (by simp only [zz,hn,hO,hN,Y,q4,qa,o0,eJ]<;>omega) aa ?_;simp only [zz,eJ]
    ·by_cases qe:e1=t/\e2=gK/\e3=gT/\e4=ea/\e5=eb
     ·rw [ag ⟨o0,qe⟩];refine bR [.eq (a0 1650 ot) Q0,CU,.eq (a0 1750 ot) Q0,.eq eB n5,MD,.eq (a0 14550 jo) Q0,.eq (rr 14550 jo 0) Qa,.and (.eq (rr 14550 jo 16) Qf) (.and (.eq (rr 14550 jo 17) eB) (.and (.eq (rr 14550 jo 18) gE) (.and (.eq (rr 14550 jo 19) iW) (.eq (rr 14550 jo 20) j4))))] [.lt (.lit 20000) Qb,Fq,.eq (rr 14550 jo 21) Qa] (ou [rr 14550 jo 22,.op .set oM (cn UD (cn (mk (rr 14550 jo 23)) (cn so (cn (mk (rr 14550 jo 24)) (cn (mk (rr 14550 jo 25)) (cn (mk (rr 14550 jo 26)) (cn (mk (rr 14550 jo 27)) j3))))))),Q0]) (by simp only [zz,hn,hO,hN,Y,q4,qa,o0,od,qe,and_self,eJ]<;>omega) aa ?_;simp only [zz,hN,Y,fw,KT.d,eM,fJ,hc]
     ·rw [af (fun h=>qe h.2)];refine bR [.eq (a0 1650 ot) Q0,CU,.eq (a0 1750 ot) Q0,.eq eB n5,MD,.eq (a0 14550 jo) Q0,.eq (rr 14550 jo 0) Qa,.eq (a0 1900 [cN,dH]) Q0] [.lt (.lit 20000) Qb,Fq,.eq (rr 14550 jo 21) Qa,.and (.eq (rr 14550 jo 16) Qf) (.and (.eq (rr 14550 jo 17) eB) (.and (.eq (rr 14550 jo 18) gE) (.and (.eq (rr 14550 jo 19) iW) (.eq (rr 14550 jo 20) j4))))] (ou [rr 1900 [cN,dH] 0,rr 1900 [cN,dH] 1,Qa]) (by simp only [zz,hn,hO,hN,Y,q4,qa,o0,od,qe,eJ]<;>omega) aa ?_;simp only [zz,eJ]
   ·have et:PL=0:=by rw [Oe,af (fun h=>qa h.2)]
    rw [et] at Y;by_cases o0:oc=0
    ·rw [af (fun h=>h.1 o0)];refine bR [.eq (a0 1650 ot) Q0,CU,.eq (a0 1750 ot) Q0,.eq eB n5,.eq (a0 14550 fq) Q0,.eq (rr 14550 fq 0) Qa,.eq (rr 14550 fq 21) Qa,.eq (a0 1900 [cN,dH]) Q0] [.lt (.lit 20000) Qb,Fq,MD] (ou [rr 1900 [cN,dH] 0,rr 1900 [cN,dH] 1,Qa]) (by simp only [zz,hn,hO,hN,Y,q4,qa,o0,eJ]<;>omega) aa ?_;simp only [zz,eJ]
    ·by_cases qe:e1=t/\e2=gK/\e3=gT/\e4=ea/\e5=eb
     ·rw [ag ⟨o0,qe⟩];refine bR [.eq (a0 1650 ot) Q0,CU,.eq (a0 1750 ot) Q0,.eq eB n5,.eq (a0 14550 fq) Q0,.eq (rr 14550 fq 0) Qa,.and (.eq (rr 14550 fq 16) Qf) (.and (.eq (rr 14550 fq 17) eB) (.and (.eq (rr 14550 fq 18) gE) (.and (.eq (rr 14550 fq 19) iW) (.eq (rr 14550 fq 20) j4))))] [.lt (.lit 20000) Qb,Fq,MD,.eq (rr 14550 fq 21) Qa] (ou [rr 14550 fq 22,.op .set oM (cn UD (cn (mk (rr 14550 fq 23)) (cn so (cn (mk (rr 14550 fq 24)) (cn (mk (rr 14550 fq 25)) (cn (mk (rr 14550 fq 26)) (cn (mk (rr 14550 fq 27)) j3))))))),Q0]) (by simp only [zz,hn,hO,hN,Y,q4,qa,o0,od,qe,and_self,eJ]<;>omega) aa ?_;simp only [zz,hN,Y,fw,KT.d,eM,fJ,hc]
     ·rw [af (fun h=>qe h.2)];refine bR [.eq (a0 1650 ot) Q0,CU,.eq (a0 1750 ot) Q0,.eq eB n5,.eq (a0 14550 fq) Q0,.eq (rr 14550 fq 0) Qa,.eq (a0 1900 [cN,dH]) Q0] [.lt (.lit 20000) Qb,Fq,MD,.eq (rr 14550 fq 21) Qa,.and (.eq (rr 14550 fq 16) Qf) (.and (.eq (rr 14550 fq 17) eB) (.and (.eq (rr 14550 fq 18) gE) (.and (.eq (rr 14550 fq 19) iW) (.eq (rr 14550 fq 20) j4))))] (ou [rr 1900 [cN,dH] 0,rr 1900 [cN,dH] 1,Qa]) (by simp only [zz,hn,hO,hN,Y,q4,qa,o0,od,qe,eJ]<;>omega) aa ?_;simp only [zz,eJ]
  ·have et:PL=0:=by rw [Oe,af (fun h=>q4 h.1)]
   rw [et] at Y;by_cases o0:oc=0
   ·rw [af (fun h=>h.1 o0)];refine bR [.eq (a0 1650 ot) Q0,CU,.eq (a0 1750 ot) Q0,.eq (a0 14550 fq) Q0,.eq (rr 14550 fq 0) Qa,.eq (rr 14550 fq 21) Qa,.eq (a0 1900 [cN,dH]) Q0] [.lt (.lit 20000) Qb,Fq,.eq eB n5] (ou [rr 1900 [cN,dH] 0,rr 1900 [cN,dH] 1,Qa]) (by simp only [zz,hn,hO,hN,Y,q4,o0,eJ]<;>omega) aa ?_;simp only [zz,eJ]
   ·by_cases qe:e1=t/\e2=gK/\e3=gT/\e4=ea/\e5=eb
    ·rw [ag ⟨o0,qe⟩];refine bR [.eq (a0 1650 ot) Q0,CU,.eq (a0 1750 ot) Q0,.eq (a0 14550 fq) Q0,.eq (rr 14550 fq 0) Qa,.and (.eq (rr 14550 fq 16) Qf) (.and (.eq (rr 14550 fq 17) eB) (.and (.eq (rr 14550 fq 18) gE) (.and (.eq (rr 14550 fq 19) iW) (.eq (rr 14550 fq 20) j4))))] [.lt (.lit 20000) Qb,Fq,.eq eB n5,.eq (rr 14550 fq 21) Qa] (ou [rr 14550 fq 22,.op .set oM (cn UD (cn (mk (rr 14550 fq 23)) (cn so (cn (mk (rr 14550 fq 24)) (cn (mk (rr 14550 fq 25)) (cn (mk (rr 14550 fq 26)) (cn (mk (rr 14550 fq 27)) j3))))))),Q0]) (by simp only [zz,hn,hO,hN,Y,q4,o0,od,qe,and_self,eJ]<;>omega) aa ?_;simp only [zz,hN,Y,fw,KT.d,eM,fJ,hc]
    ·rw [af (fun h=>qe h.2)];refine bR [.eq (a0 1650 ot) Q0,CU,.eq (a0 1750 ot) Q0,.eq (a0 14550 fq) Q0,.eq (rr 14550 fq 0) Qa,.eq (a0 1900 [cN,dH]) Q0] [.lt (.lit 20000) Qb,Fq,.eq eB n5,.eq (rr 14550 fq 21) Qa,.and (.eq (rr 14550 fq 16) Qf) (.and (.eq (rr 14550 fq 17) eB) (.and (.eq (rr 14550 fq 18) gE) (.and (.eq (rr 14550 fq 19) iW) (.eq (rr 14550 fq 20) j4))))] (ou [rr 1900 [cN,dH] 0,rr 1900 [cN,dH] 1,Qa]) (by simp only [zz,hn,hO,hN,Y,q4,o0,od,qe,eJ]<;>omega) aa ?_;simp only [zz,eJ]
 rw [bL,Mb];exact congrArg (fin L) K
def aeQ (s k:D) (n:Nat) (ys:List Int):Prop:=ys= [enc s,enc k,0]\/∃s' k',ys= [enc s',enc k',1]/\Sx s' k' (n+1)/\s'.l.length=s.l.length/\k'.l.length=k.l.length
end
section
variable {d0 d1 s k:D} {t:Int} {n:Nat} {gK gT ea eb:Int} (S:Sx s k n) (hn:n<17592186043904) (C:Cd d0 d1) (ht:t<(k.l.length:Int))
include S hn C ht
theorem YF: ∀(j m:Nat) (x:KT),m+j=20001->Rt d0 d1 t x->dQ 2004 [t,(m:Int),enc d0,enc d1,enc s,enc k,gK,gT,ea,eb,enc s,enc k,x.a,enc x.lc,x.w,x.o,x.g,x.tr] (aeQ s k n)
 |0,m,x,hm,R=> ⟨_,Hn S C ht R J,.inl rfl⟩
 |j+1,m,x,hm,R=>by
  rcases vK d1 t x with ho|ho
  ·by_cases ha:low (fK d1 t x) 4=0
   ·have Lc:=pw R ho ha;obtain⟨R',CB⟩:=nL C ht R Lc;obtain⟨ys,hL,hy⟩:=YF j (m+1) (fk (fD d1 t x) x) J R';refine⟨ys,?_,hy⟩;rw [AZ S C ht R J ho ha,bP J];exact hL
   ·obtain⟨op,obj,arg,tr,hq⟩:=oR J ha;obtain⟨k1,k2,k3⟩:=vQ C R C.ok.1 hq
    have fm:fH .i64 t:=by have:=R.t0;have:=R.t1;have:=C.U.len;exact⟨J,J⟩
    obtain⟨s',e1,e2,e3,e4,e5,oc,A⟩:=vB (tries:=if gK=4/\ea=0 then 4611686018427387904 else 0) C.h0 C.U S.g hn fm k1 k2 k3;refine⟨_,AY S C ht R J ho hq rfl A,?_⟩;split
    ·exact .inr ⟨_,_,rfl,Aj S C R ht (BX R ho) A,A.len,fh _ _ _⟩
    ·exact .inl rfl
  ·exact⟨_,Em S C ht R J ho,.inl rfl⟩
theorem YE: ∀(j m:Nat) (x:KT),m+j=20001->Rt d0 d1 t x->x.lc.l.length=0->dQ 2005 [t,(m:Int),enc d0,enc d1,enc s,enc k,gK,gT,ea,eb,enc s,enc k,x.a,enc x.lc,x.w,x.o,x.g,x.tr] (aeQ s k n)
 |0,m,x,hm,R,hz=> ⟨_,Hm S C ht R hz J,.inl rfl⟩
 |j+1,m,x,hm,R,hz=>by
  rcases vK d1 t x with ho|ho
  ·by_cases ha:low (fK d1 t x) 4=0
   ·have Lc:=pw R ho ha;obtain⟨R',CB⟩:=nL C ht R Lc;obtain⟨ys,hL,hy⟩:=YE j (m+1) (fk (fD d1 t x) x) J R' (by rw [CB]; exact hz);refine⟨ys,?_,hy⟩;rw [AX S C ht R hz J ho ha,bP J];exact hL
   ·obtain⟨op,obj,arg,tr,hq⟩:=oR J ha;obtain⟨k1,k2,k3⟩:=vQ C R C.ok.1 hq
    have fm:fH .i64 t:=by have:=R.t0;have:=R.t1;have:=C.U.len;exact⟨J,J⟩
    obtain⟨s',e1,e2,e3,e4,e5,oc,A⟩:=vB (tries:=if gK=4/\ea=0 then 4611686018427387904 else 0) C.h0 C.U S.g hn fm k1 k2 k3;refine⟨_,AW S C ht R hz J ho hq rfl A,?_⟩;split
    ·exact .inr ⟨_,_,rfl,Aj S C R ht (BX R ho) A,A.len,fh _ _ _⟩
    ·exact .inl rfl
  ·exact⟨_,El S C ht R hz J ho,.inl rfl⟩
end
section
variable {d0 d1 s k:D} {t:Int} {n:Nat} {gK gT ea eb:Int} (S:Sx s k n) (hn:n<17592186043904) (h0:Wd (.sl 3) d0) (U:Wd (.sl 4) d1)
noncomputable abbrev fcE (d0 d1 s k:D) (t gK gT ea eb:Int):Nat->Int:=cU L (low [enc d0,enc d1,enc s,enc k,t,gK,gT,ea,eb])
theorem LM (S:Sk s k) (hR:L 1550 [enc d0,enc d1,enc s,enc k,t]=some [0]):L 2000 [enc d0,enc d1,enc s,enc k,t,gK,gT,ea,eb]=some [enc s,enc k,0]:=by
 by_cases hr:t<0\/(k.l.length:Int)<=t
 ·rcases HI S hr with h|⟨h,he⟩|⟨h,he⟩
  ·have K:dZ (fcE d0 d1 s k t gK gT ea eb) yh= .out [enc s,enc k,0]:=by
    refine bR [.eq (a0 9050 HP) Q0,.eq re Qa,J7,J6] [] (ou [zX,SU,Qa]) (by simp only [zz,h,hR]<;>omega) aa ?_;simp only [zz,h]
   rw [bL,zH];exact congrArg (fin L) K
  ·subst he
   have K:dZ (fcE d0 d1 s (.i 1) t gK gT ea eb) yh= .out [enc s,enc (.i 1),0]:=by refine bR [.eq (a0 9050 HP) Q0,.eq re Q0,J7,J6] [.eq re Qa] (ou [zX,Qh,Qa]) (by simp only [zz,h,hR]<;>omega) aa ?_;simp only [zz,h]
   rw [bL,zH];exact congrArg (fin L) K
  ·subst he
   have K:dZ (fcE d0 d1 s (.i 2) t gK gT ea eb) yh= .out [enc s,enc (.i 2),0]:=by refine bR [.eq (a0 9050 HP) Q0,.eq re j8,J7,J6] [.eq re Qa,.eq re Q0] (ou [zX,Qk,Qa]) (by simp only [zz,h,hR]<;>omega) aa ?_;simp only [zz,h]
   rw [bL,zH];exact congrArg (fin L) K
 ·obtain⟨i,rfl⟩ : ∃i:Nat,t=(i:Int):=⟨t.toNat,J⟩;have hi:i<k.l.length:=J
  obtain⟨a,lc,w,o,g,tr,T⟩:=gy S.wk _ (az hi);have h:=A8 S hi T;have hs:fw k (i:Int) ⟨a,lc,w,o,g,tr⟩ = k:=NF (wS S.wk J).sh J J (by rw [bX hi,T.is]);simp only [fw,KT.d,eM,fJ] at hs;have ha:pR lc=3\/pR lc=4:=by unfold pR; split<;>simp
  have K:dZ (fcE d0 d1 s k (i:Int) gK gT ea eb) yh= .out [enc s,enc k,0]:=by
   rcases ha with ha|ha
   ·rw [ha] at h;refine bR [.eq (a0 9050 HP) Q0,.eq re qb,J7,J6] [.eq re Qa,.eq re Q0,.eq re j8] (ou [zX,Qo2,Qa]) (by simp only [zz,h,hR]<;>omega) aa ?_;simp only [zz,h,hs]
   ·rw [ha] at h;refine bR [.eq (a0 9050 HP) Q0,.eq re n5,J7,J6] [.eq re Qa,.eq re Q0,.eq re j8,.eq re qb] (ou [zX,Qo2,Qa]) (by simp only [zz,h,hR]<;>omega) aa ?_;simp only [zz,h,hs]
  rw [bL,zH];exact congrArg (fin L) K
include S hn h0 U
theorem Uc:dQ 2000 [enc d0,enc d1,enc s,enc k,t,gK,gT,ea,eb] (aeQ s k n):=by
 rcases KH S hn h0 U (t:=t) with hR|⟨x,R⟩
 ·exact⟨_,LM S hR,.inl rfl⟩
 ·have h:=R.cp S;have hR:=R.yes;by_cases hp:0<x.lc.l.length
  ·have ha:pR x.lc=3:=ag hp;rw [ha] at h;obtain⟨ys,hL,hy⟩:=YF (gK:=gK) (gT:=gT) (ea:=ea) (eb:=eb) S hn R.c R.ht 20001 0 x J R.r;refine⟨ys,?_,hy⟩
   have K:dZ (fcE d0 d1 s k t gK gT ea eb) yh= .jump 2004 [t,0,enc d0,enc d1,enc s,enc k,gK,gT,ea,eb,enc s,enc k,x.a,enc x.lc,x.w,x.o,x.g,x.tr]:=by refine bR [.eq (a0 9050 HP) Q0,.eq re qb,J7] [.eq re Qa,.eq re Q0,.eq re j8,J6] (ju 2004 Qqf) (by simp only [zz,h,hR]<;>omega) aa ?_;simp only [zz,h]
   rw [bL,zH];exact (congrArg (fin L) K).trans hL
  ·have ha:pR x.lc=4:=af hp;rw [ha] at h;obtain⟨ys,hL,hy⟩:=YE (gK:=gK) (gT:=gT) (ea:=ea) (eb:=eb) S hn R.c R.ht 20001 0 x J R.r J;refine⟨ys,?_,hy⟩
   have K:dZ (fcE d0 d1 s k t gK gT ea eb) yh= .jump 2005 [t,0,enc d0,enc d1,enc s,enc k,gK,gT,ea,eb,enc s,enc k,x.a,enc x.lc,x.w,x.o,x.g,x.tr]:=by refine bR [.eq (a0 9050 HP) Q0,.eq re n5,J7] [.eq re Qa,.eq re Q0,.eq re j8,.eq re qb,J6] (ju 2005 Qqf) (by simp only [zz,h,hR]<;>omega) aa ?_;simp only [zz,h]
   rw [bL,zH];exact (congrArg (fin L) K).trans hL
end
noncomputable abbrev U4 (d0 d1 s k e:D):Option (List Int):=L 2000 [enc d0,enc d1,enc s,enc k,(e.hd 0).n,(e.hd 1).n,(e.hd 2).n,(e.hd 3).n,(e.hd 4).n]
noncomputable def j7 (d0 d1:D):D->D->List D->D×D×Nat
 |s,k,[]=>(s,k,0)
 |s,k,e::l=>match U4 d0 d1 s k e with
  |some [a,b,c]=>if c=0 then (s,k,0) else ((j7 d0 d1 (dec a) (dec b) l).1,(j7 d0 d1 (dec a) (dec b) l).2.1,(j7 d0 d1 (dec a) (dec b) l).2.2+1)
  |_=>(s,k,0)
section
variable {d0 d1:D} (h0:Wd (.sl 3) d0) (U:Wd (.sl 4) d1)
noncomputable abbrev afE (d d0 d1 s k:D) (len i:Int):Nat->Int:=cU L (low [enc d,len,i,enc d0,enc d1,enc s,enc k])
include h0 U
theorem MA (d:D) (hd:d.l.length<=17592186000000): ∀(j i:Nat) (s k:D),i+j=d.l.length->Sx s k i->L 2151 [enc d,(d.l.length:Int),(i:Int),enc d0,enc d1,enc s,enc k]=some [enc (j7 d0 d1 s k (d.l.drop i)).1,enc (j7 d0 d1 s k (d.l.drop i)).2.1,((i+(j7 d0 d1 s k (d.l.drop i)).2.2:Nat):Int)]
 |0,i,s,k,hi,S=>by
  have c1: ¬(i:Int)<(d.l.length:Int):=J
  have e:(d.l.length:Int)=((i+0:Nat):Int):=J
  rw [bL,RZ,amW J];simp only [PQ,zz,c1,cg,j7];rw [e]
 |j+1,i,s,k,hi,S=>by
  have dS:i<d.l.length:=J
  have AO:d.l.drop i=d.l[i]::d.l.drop (i+1):=bu dS;have c1:(i:Int)<(d.l.length:Int):=J
  have c2: ¬((i:Int)<0):=J
  have w:=bP (n:=i) J;rw [AO,j7];rcases Uc (t:=(d.l[i].hd 0).n) (gK:=(d.l[i].hd 1).n) (gT:=(d.l[i].hd 2).n) (ea:=(d.l[i].hd 3).n) (eb:=(d.l[i].hd 4).n) S J h0 U with ⟨ys,hL,rfl|⟨s',k',rfl,S',_⟩⟩
  ·have K:dZ (afE d d0 d1 s k (d.l.length:Int) (i:Int)) PQ= .out [enc s,enc k,(i:Int)]:=by
    refine bR [wR,n_,.eq (a0 2000 y!) Q0,.eq (rr 2000 y! 2) Qa] [HS] (ou [dH,eB,Qo]) (by simp only [zz,c1,c2,bX dS,hL]<;>omega) aa ?_;simp only [zz]
   rw [bL,RZ];refine (congrArg (fin L) K).trans ?_;unfold U4;rw [hL];rfl
  ·have ih:=MA d hd j (i+1) s' k' J S'
   have K:dZ (afE d d0 d1 s k (d.l.length:Int) (i:Int)) PQ= .jump 2151 [enc d,(d.l.length:Int),((i+1:Nat):Int),enc d0,enc d1,enc s',enc k']:=by refine bR [wR,n_,.eq (a0 2000 y!) Q0] [HS,.eq (rr 2000 y! 2) Qa] (ju 2151 [Qf,Qb,Pz,Qm,cN,rr 2000 y! 0,rr 2000 y! 1]) (by simp only [zz,c1,c2,bX dS,hL]<;>omega) aa ?_;simp only [zz,bX dS,hL,w]
   rw [bL,RZ];refine (congrArg (fin L) K).trans (ih.trans ?_);unfold U4;rw [hL];simp only [bB,bG,if_false];rw [show i+1+(j7 d0 d1 s' k' (d.l.drop (i+1))).2.2=i+((j7 d0 d1 s' k' (d.l.drop (i+1))).2.2+1) by omega]
end
end Go.As.Try
end
section
namespace Go.As.Try
open Go hiding Stat Spec shape
open Go.As
set_option maxRecDepth 100000
set_option linter.unusedSimpArgs false
set_option linter.unusedVariables false
def GG (k:D):Prop:= ∀j:Nat,j<k.l.length->0<=((k.at (j:Int)).hd 4).n
def NoP (d1:D):Prop:= ∀(t:Int) (x:KT),x.w=0->∀op obj arg tr:Int,fK d1 t x= [op,obj,arg,tr,1]->op≠25
def FoE (d0 d1 s k:D) (n:Nat) (t gK gT ea eb:Int) (ys:List Int):Prop:=ys= [enc s,enc k,0]\/∃(s' k':D) (op obj arg tr oc:Int),ys= [enc s',enc k',1]/\Sx s' k' (n+1)/\s'.l.length=s.l.length/\k'.l.length=k.l.length/\oc≠0/\
 J5 d0 d1 s t op obj arg tr s' t gK gT ea eb oc/\MR d0 d1 s' k'/\GG k'/\fH .i64 t/\fH .u8 op/\fH .i64 obj/\fH .i64 arg/\(op=25->0<=arg)
theorem XJ (I:D) (x:KT):(fk I x).w=x.w/\(fk I x).g=x.g:=by
 unfold fk
 repeat' split
 all_goals exact⟨rfl,rfl⟩
theorem aea (I:D) (x:KT) (op e2 e3 e4 oc:Int) (hx:0<=x.g) (he:oc=3->e2=15->0<=e4):0<=(jq I x op e2 e3 e4 oc).g:=by
 unfold jq
 repeat' split
 all_goals first
  |exact hx
  |exact amX 0
  |(simp only; omega)
  |(simp only; exact he J J)
theorem afu {k:D} {t:Int} {x:KT} (G:GG k) (t0:0<=t) (ht:t<(k.l.length:Int)) (hx:0<=x.g):GG (fw k t x):=fun j hj=>by
 rw [fh] at hj;by_cases h:(j:Int)=t
 ·rw [h,iZ t0 ht x];simp only [KT.d,zg,ax,qk];exact hx
 ·have Z:(fw k t x).at (j:Int)=k.at (j:Int):=by
   rw [kN,kN];show ((dL (eY k.l t x.d)).l[j]?).getD _=_;rw [bJ,mj h]
  rw [Z];exact G j hj
theorem ajy {M mo th arg tries o c dn g:Int} {r v:D} {o' c' p9 g':Int} {r' v':D} {m:Option Int} {a oc:Int} (h:act M mo th 15 arg tries o c dn g r v= .res o' c' p9 g' r' v' m a oc) (hg:0<=g):0<=a:=by
 simp only [act,Int.reduceEq,if_true,if_false,reduceIte] at h
 repeat' split at h
 all_goals simp only [Act.res.injEq,reduceCtorEq] at h
 all_goals omega
section
variable {d0 d1 s k:D} {t:Int} {n:Nat} {gK gT ea eb:Int} (S:Sx s k n) (hn:n<17592186043904) (C:Cd d0 d1) (ht:t<(k.l.length:Int)) (M:MR d0 d1 s k) (Gk:GG k) (Np:NoP d1)
include S hn C ht M Gk Np
theorem RI {x:KT} (R:Rt d0 d1 t x) (hg:0<=x.g) (ho:gj d1 t x=0) {op obj arg tr PL e1 e2 e3 e4 e5 oc:Int} {s':D} (hq:fK d1 t x= [op,obj,arg,tr,1]) (k1:fH .u8 op) (k2:fH .i64 obj) (k3:fH .i64 arg) (fm:fH .i64 t)
 (A:sj d0 d1 s t op obj arg PL n s' e1 e2 e3 e4 e5 oc) (hh:oc≠0/\e1=t/\e2=gK/\e3=gT/\e4=ea/\e5=eb):FoE d0 d1 s k n t gK gT ea eb [enc s',enc (fw k t (jq (fD d1 t x) x op e2 e3 e4 oc)),1]:=by
 obtain⟨CA,U,Z,h3,h4,h5⟩:=hh;subst U Z h3 h4 h5;have T:=C2 C.h0 C.U S.g hn k1 A;obtain⟨hC,ok,hle⟩:=Ik C.h0 C.U S.g J M.1;have hR:=Nh C R (BX R ho) hle A.e3 A.e4 T
 have u?:L 350 [enc d0,enc d1,enc s']=some [1]:=by
  cases T with
  |no=>exact M.1
  |ub A'=>exact M.1
  |res A' o c dn g r v o' c' p9 g' r' v' m _ _ T' h=>exact F9 C.h0 C.U S.g hn k1 fm k3 A' T' h
 have he:oc=3->e2=15->0<=e4:=fun _ h15=>by
  cases T with
  |no=>exact absurd rfl CA
  |ub A'=>omega
  |res A' o c dn g r v o' c' p9 g' r' v' m _ _ T' h=> have P:=Dk C.h0 C.U S.g J M.1 A'.o0 A'.o1 T';subst h15;exact ajy h P.1.2.2.2.1
 refine .inr ⟨s',_,op,obj,arg,PL,oc,rfl,Aj S C R ht (BX R ho) A,A.len,fh _ _ _,CA,T,IC S hn M hR ht u?,afu Gk R.t0 ht (aea _ _ _ _ _ _ _ hg he),fm,k1,k2,k3,fun h25=>?_⟩;by_cases hw:x.w=0
 ·exact absurd h25 (Np _ x hw op obj arg tr hq)
 ·unfold fK at hq;rw [af hw] at hq;simp only [List.cons.injEq,and_true] at hq;omega
theorem RO: ∀(j m:Nat) (x:KT),m+j=20001->Rt d0 d1 t x->0<=x.g->dQ 2004 [t,(m:Int),enc d0,enc d1,enc s,enc k,gK,gT,ea,eb,enc s,enc k,x.a,enc x.lc,x.w,x.o,x.g,x.tr] (FoE d0 d1 s k n t gK gT ea eb)
 |0,m,x,hm,R,hg=> ⟨_,Hn S C ht R J,.inl rfl⟩
 |j+1,m,x,hm,R,hg=>by
  rcases vK d1 t x with ho|ho
  ·by_cases ha:low (fK d1 t x) 4=0
   ·have Lc:=pw R ho ha;obtain⟨R',CB⟩:=nL C ht R Lc;obtain⟨ys,hL,hy⟩:=RO j (m+1) (fk (fD d1 t x) x) J R' (by rw [(XJ _ _).2]; exact hg);refine⟨ys,?_,hy⟩;rw [AZ S C ht R J ho ha,bP J];exact hL
   ·obtain⟨op,obj,arg,tr,hq⟩:=oR J ha;obtain⟨k1,k2,k3⟩:=vQ C R C.ok.1 hq
    have fm:fH .i64 t:=by have:=R.t0;have:=R.t1;have:=C.U.len;exact⟨J,J⟩
    obtain⟨s',e1,e2,e3,e4,e5,oc,A⟩:=vB (tries:=if gK=4/\ea=0 then 4611686018427387904 else 0) C.h0 C.U S.g hn fm k1 k2 k3;refine⟨_,AY S C ht R J ho hq rfl A,?_⟩;split
    ·rename_i hh;exact RI S hn C ht M Gk Np R hg ho hq k1 k2 k3 fm A hh
    ·exact .inl rfl
  ·exact⟨_,Em S C ht R J ho,.inl rfl⟩
theorem RN: ∀(j m:Nat) (x:KT),m+j=20001->Rt d0 d1 t x->0<=x.g->x.lc.l.length=0->dQ 2005 [t,(m:Int),enc d0,enc d1,enc s,enc k,gK,gT,ea,eb,enc s,enc k,x.a,enc x.lc,x.w,x.o,x.g,x.tr] (FoE d0 d1 s k n t gK gT ea eb)
 |0,m,x,hm,R,hg,hz=> ⟨_,Hm S C ht R hz J,.inl rfl⟩
 |j+1,m,x,hm,R,hg,hz=>by
  rcases vK d1 t x with ho|ho
  ·by_cases ha:low (fK d1 t x) 4=0
   ·have Lc:=pw R ho ha;obtain⟨R',CB⟩:=nL C ht R Lc;obtain⟨ys,hL,hy⟩:=RN j (m+1) (fk (fD d1 t x) x) J R' (by rw [(XJ _ _).2]; exact hg) (by rw [CB]; exact hz);refine⟨ys,?_,hy⟩;rw [AX S C ht R hz J ho ha,bP J];exact hL
   ·obtain⟨op,obj,arg,tr,hq⟩:=oR J ha;obtain⟨k1,k2,k3⟩:=vQ C R C.ok.1 hq
    have fm:fH .i64 t:=by have:=R.t0;have:=R.t1;have:=C.U.len;exact⟨J,J⟩
    obtain⟨s',e1,e2,e3,e4,e5,oc,A⟩:=vB (tries:=if gK=4/\ea=0 then 4611686018427387904 else 0) C.h0 C.U S.g hn fm k1 k2 k3;refine⟨_,AW S C ht R hz J ho hq rfl A,?_⟩;split
    ·rename_i hh;exact RI S hn C ht M Gk Np R hg ho hq k1 k2 k3 fm A hh
    ·exact .inl rfl
  ·exact⟨_,El S C ht R hz J ho,.inl rfl⟩
end
end Go.As.Try
end
section
namespace Go.As.Try
open Go hiding Stat Spec shape
open Go.As
set_option maxRecDepth 100000
theorem UA {M mo th op arg tries ad8 o c dn g:Int} {r v:D} (h:op≠4):act M mo th op arg tries o c dn g r v=act M mo th op arg ad8 o c dn g r v:=by unfold act;simp only [af h]
theorem MC {M mo th arg tries o c dn g:Int} {r v:D}:act M mo th 4 arg tries o c dn g r v=if o<0 then .res th c dn g r v none 1 2 else if tries<arg then .nF else .res o c dn g r v none 0 2:=rfl
theorem VT {x:D} {o c dn g o' c' p9 g':Int} {r v r' v':D} (T:Tg x o c dn g r v) (T':Tg x o' c' p9 g' r' v'):o=o'/\c=c'/\dn=p9/\g=g'/\r=r'/\v=v':=by have h:=T.is.symm.trans T'.is;simp only [eM,fJ,D.p.injEq,D.i.injEq,and_true] at h;exact h
abbrev frT (gK ea:Int):Int:=if gK=4/\ea=0 then 4611686018427387904 else 0
section
variable {d0 d1 s s':D} {t op obj arg tr e1 e2 e3 e4 e5 oc:Int} {n:Nat} (h0:Wd (.sl 3) d0) (U:Wd (.sl 4) d1) (G:Gs s n) (hn:n<17592186043904) (py:fH .u8 op) (A:sj d0 d1 s t op obj arg tr n s' e1 e2 e3 e4 e5 oc)
include h0 U G hn py A
theorem S7 (h:op≠4) (tries:Int):sj d0 d1 s t op obj arg tries n s' e1 e2 e3 e4 e5 oc:=by
 refine⟨?_,A.no,A.oc3,A.gs,A.len,A.n2,A.e3,A.e4⟩;have hf:=G.jW (by omega:n<17592186044415)
 have e:L 400 [enc d0,enc d1,enc s,t,op,obj,arg,tries]=L 400 [enc d0,enc d1,enc s,t,op,obj,arg,tr]:=by
  by_cases hA:Acc d0 d1 s t op obj
  ·obtain⟨_,o,c,dn,g,r,v,T,hL⟩:=vA (arg:=arg) (tries:=tries) h0 U G.wd hf py hA;obtain⟨_,o',c',p9,g',r',v',T',hL'⟩:=vA (arg:=arg) (tries:=tr) h0 U G.wd hf py hA;obtain⟨rfl,rfl,rfl,rfl,rfl,rfl⟩:=VT T T';rw [hL,hL',UA h]
  ·rw [C1 h0 U G.wd hf py hA,C1 h0 U G.wd hf py hA]
 rw [e];exact A.eq
theorem Ng (h:op=4) (CA:oc≠0) (hr:tr<=4611686018427387904):e2=4/\sj d0 d1 s t op obj arg (frT e2 e4) n s' e1 e2 e3 e4 e5 oc:=by
 subst h;have hf:=G.jW (by omega:n<17592186044415);have hE:=A.eq;by_cases hA:Acc d0 d1 s t 4 obj
 ·obtain⟨_,o,c,dn,g,r,v,T,hL⟩:=vA (arg:=arg) (tries:=tr) h0 U G.wd hf py hA;obtain⟨_,o',c',p9,g',r',v',T',hL'⟩:=vA (arg:=arg) (tries:=frT e2 e4) h0 U G.wd hf py hA;obtain⟨rfl,rfl,rfl,rfl,rfl,rfl⟩:=VT T T';rw [hE,Cq,MC] at hL;rw [Cq,MC] at hL';by_cases ho:o<0
  ·rw [ag ho] at hL hL';rw [<- hL] at hL';simp only [evA,ah,List.cons.injEq,and_true] at hL;obtain⟨_,_,rfl,_⟩:=hL;exact⟨rfl,hL',A.no,A.oc3,A.gs,A.len,A.n2,A.e3,A.e4⟩
  ·rw [af ho] at hL hL';by_cases hta:tr<arg
   ·rw [ag hta] at hL;simp only [evA,ah,List.cons.injEq,and_true] at hL;exact absurd hL.2.2.2.2.2.2 CA
   ·rw [af hta] at hL;have hL2:=hL;simp only [evA,ah,List.cons.injEq,and_true] at hL;obtain⟨_,_,rfl,_,rfl,_⟩:=hL
    have hq: ¬(frT 4 0)<arg:=by have:frT 4 0=4611686018427387904:=rfl;omega
    rw [af hq,<- hL2] at hL';exact⟨rfl,hL',A.no,A.oc3,A.gs,A.len,A.n2,A.e3,A.e4⟩
 ·rw [C1 h0 U G.wd hf py hA] at hE;simp only [ah,List.cons.injEq,and_true] at hE;exact absurd hE.2.2.2.2.2.2.symm CA
theorem Ku (CA:oc≠0) (hr:tr<=4611686018427387904):sj d0 d1 s t op obj arg (frT e2 e4) n s' e1 e2 e3 e4 e5 oc:=by
 by_cases h:op=4
 ·exact (Ng h0 U G hn py A h CA hr).2
 ·exact S7 h0 U G hn py A h _
end
inductive FJ (d1:D) (t:Int):Nat->KT->KT->Prop
 |zero (x:KT):FJ d1 t 0 x x
 |succ (j:Nat) (x y:KT) (ho:gj d1 t x=0) (ha:low (fK d1 t x) 4=0) (h:FJ d1 t j (fk (fD d1 t x) x) y):FJ d1 t (j+1) x y
theorem FJ.snoc {d1:D} {t:Int} {j:Nat} {x y:KT} (h:FJ d1 t j x y) (ho:gj d1 t y=0) (ha:low (fK d1 t y) 4=0):FJ d1 t (j+1) x (fk (fD d1 t y) y):=by
 induction h with
 |zero x=>exact .succ 0 x _ ho ha (.zero _)
 |succ j x y yU ha' _ ih=>exact .succ _ x _ yU ha' (ih ho ha)
section
variable {d0 d1 s k:D} {t:Int} {n:Nat} {gK gT ea eb:Int} (S:Sk s k) (C:Cd d0 d1) (ht:t<(k.l.length:Int))
include S C ht
theorem aeK {j:Nat} {x y:KT} (h:FJ d1 t j x y): ∀m:Nat,m+j<=20000->Rt d0 d1 t x->L 2004 [t,(m:Int),enc d0,enc d1,enc s,enc k,gK,gT,ea,eb,enc s,enc k,x.a,enc x.lc,x.w,x.o,x.g,x.tr]=L 2004 [t,((m+j:Nat):Int),enc d0,enc d1,enc s,enc k,gK,gT,ea,eb,enc s,enc k,y.a,enc y.lc,y.w,y.o,y.g,y.tr]/\Rt d0 d1 t y:=by
 induction h with
 |zero x=>exact fun m _ R=> ⟨rfl,R⟩
 |succ j x y ho ha _ ih=> intro m hm R;have R':=(nL C ht R (pw R ho ha)).1;obtain⟨q1,q2⟩:=ih (m+1) J R';rw [AZ S C ht R J ho ha,bP (n:=m) J,q1,show m+1+j=m+(j+1) by omega];exact⟨rfl,q2⟩
theorem aeJ {j:Nat} {x y:KT} (h:FJ d1 t j x y): ∀m:Nat,m+j<=20000->Rt d0 d1 t x->x.lc.l.length=0->L 2005 [t,(m:Int),enc d0,enc d1,enc s,enc k,gK,gT,ea,eb,enc s,enc k,x.a,enc x.lc,x.w,x.o,x.g,x.tr]=L 2005 [t,((m+j:Nat):Int),enc d0,enc d1,enc s,enc k,gK,gT,ea,eb,enc s,enc k,y.a,enc y.lc,y.w,y.o,y.g,y.tr]/\Rt d0 d1 t y/\y.lc.l.length=0:=by
 induction h with
 |zero x=>exact fun m _ R hz=> ⟨rfl,R,hz⟩
 |succ j x y ho ha _ ih=> intro m hm R hz;obtain⟨R',Y⟩:=nL C ht R (pw R ho ha);obtain⟨q1,q2,q3⟩:=ih (m+1) J R' J;rw [AX S C ht R hz J ho ha,bP (n:=m) J,q1,show m+1+j=m+(j+1) by omega];exact⟨rfl,q2,q3⟩
end
section
variable {d0 d1 s k:D} {t:Int} {n:Nat} {gK gT ea eb:Int} {x:KT} (S:Sk s k) (R:Rs d0 d1 s k t x)
include S R
theorem RH (hp:0<x.lc.l.length):L 2000 [enc d0,enc d1,enc s,enc k,t,gK,gT,ea,eb]=L 2004 [t,0,enc d0,enc d1,enc s,enc k,gK,gT,ea,eb,enc s,enc k,x.a,enc x.lc,x.w,x.o,x.g,x.tr]:=by
 have h:=R.cp S;have hR:=R.yes;have ha:pR x.lc=3:=ag hp;rw [ha] at h
 have K:dZ (fcE d0 d1 s k t gK gT ea eb) yh= .jump 2004 [t,0,enc d0,enc d1,enc s,enc k,gK,gT,ea,eb,enc s,enc k,x.a,enc x.lc,x.w,x.o,x.g,x.tr]:=by refine bR [.eq (a0 9050 HP) Q0,.eq re qb,J7] [.eq re Qa,.eq re Q0,.eq re j8,J6] (ju 2004 Qqf) (by simp only [zz,h,hR]<;>omega) aa ?_;simp only [zz,h]
 rw [bL,zH];exact congrArg (fin L) K
theorem RG (hp:x.lc.l.length=0):L 2000 [enc d0,enc d1,enc s,enc k,t,gK,gT,ea,eb]=L 2005 [t,0,enc d0,enc d1,enc s,enc k,gK,gT,ea,eb,enc s,enc k,x.a,enc x.lc,x.w,x.o,x.g,x.tr]:=by
 have h:=R.cp S;have hR:=R.yes;have ha:pR x.lc=4:=af J;rw [ha] at h
 have K:dZ (fcE d0 d1 s k t gK gT ea eb) yh= .jump 2005 [t,0,enc d0,enc d1,enc s,enc k,gK,gT,ea,eb,enc s,enc k,x.a,enc x.lc,x.w,x.o,x.g,x.tr]:=by refine bR [.eq (a0 9050 HP) Q0,.eq re n5,J7] [.eq re Qa,.eq re Q0,.eq re j8,.eq re qb,J6] (ju 2005 Qqf) (by simp only [zz,h,hR]<;>omega) aa ?_;simp only [zz,h]
 rw [bL,zH];exact congrArg (fin L) K
theorem YD {j:Nat} {y:KT} (hj:j<=20000) (Y:FJ d1 t j x y) (ho:gj d1 t y=0) {op obj arg tr e1 e2 e3 e4 e5 oc:Int} {s':D} (ha:fK d1 t y= [op,obj,arg,tr,1]) (A:sj d0 d1 s t op obj arg (frT gK ea) n s' e1 e2 e3 e4 e5 oc) :
 L 2000 [enc d0,enc d1,enc s,enc k,t,gK,gT,ea,eb]=some (if oc≠0/\e1=t/\e2=gK/\e3=gT/\e4=ea/\e5=eb then [enc s',enc (fw k t (jq (fD d1 t y) y op e2 e3 e4 oc)),1] else [enc s,enc k,0]):=by
 by_cases hp:0<x.lc.l.length
 ·obtain⟨q1,q2⟩:=aeK (gK:=gK) (gT:=gT) (ea:=ea) (eb:=eb) S R.c R.ht Y 0 J R.r;rw [al4] at q1;rw [RH S R hp,q1];exact AY S R.c R.ht q2 J ho ha rfl A
 ·obtain⟨q1,q2,q3⟩:=aeJ (gK:=gK) (gT:=gT) (ea:=ea) (eb:=eb) S R.c R.ht Y 0 J R.r J;rw [al4] at q1;rw [RG S R J,q1];exact AW S R.c R.ht q2 q3 J ho ha rfl A
end
end Go.As.Try
end
section
namespace Go.As.Try
open Go hiding Stat Spec shape
open Go.As
set_option maxRecDepth 100000
set_option linter.unusedSimpArgs false
set_option linter.unusedVariables false
section
variable {d0 d1 s k:D} {t:Int} {n:Nat} {gK gT ea eb:Int} (S:Sx s k n) (hn:n<17592186043904) (h0:Wd (.sl 3) d0) (U:Wd (.sl 4) d1) (M:MR d0 d1 s k) (Gk:GG k) (Np:NoP d1)
include S hn h0 U M Gk Np
theorem Je:dQ 2000 [enc d0,enc d1,enc s,enc k,t,gK,gT,ea,eb] (FoE d0 d1 s k n t gK gT ea eb):=by
 rcases KH S hn h0 U (t:=t) with hR|⟨x,R⟩
 ·exact⟨_,LM S.st hR,.inl rfl⟩
 ·have hg:0<=x.g:=by
   have t0:=R.r.t0;have ht:=R.ht;obtain⟨j,rfl⟩ : ∃j:Nat,t=(j:Int):=⟨t.toNat,J⟩;have:=Gk j J;rw [R.hk] at this;simpa only [KT.d,zg,ax,qk] using this
  by_cases hp:0<x.lc.l.length
  ·unfold dQ;rw [RH S.st R hp];exact RO S hn R.c R.ht M Gk Np 20001 0 x J R.r hg
  ·unfold dQ;rw [RG S.st R J];exact RN S hn R.c R.ht M Gk Np 20001 0 x J R.r hg J
end
structure RS1 (d0 d1 s k:D) (n:Nat):Prop where
 S:Sx s k n
 M:MR d0 d1 s k
 G:GG k
section
variable {d0 d1:D} (h0:Wd (.sl 3) d0) (U:Wd (.sl 4) d1) (Np:NoP d1)
include h0 U Np
end
end Go.As.Try
end
section
namespace Go.As.Try
open Go hiding Stat Spec shape
open Go.As
set_option maxRecDepth 100000
set_option linter.unusedSimpArgs false
set_option linter.unusedVariables false
set_option linter.unusedSectionVars false
abbrev U5 (e1 e2 e3 e4 e5 oc:Int):List D:=if oc=2\/oc=3 then [RR e1 e2 e3 e4 e5] else []
theorem IN {x y:KT} (h:x.d=y.d):x=y:=by simp only [KT.d,eM,fJ,D.p.injEq,D.i.injEq,and_true] at h;obtain⟨U,Z,h3,h4,h5,h6⟩:=h;cases x; cases y;simp only at U Z h3 h4 h5 h6;subst U Z h3 h4 h5 h6;rfl
theorem sK (k:D) {t u:Int} (u0:0<=u) (h:u≠t) (x:KT):(fw k t x).at u=k.at u:=by obtain⟨i,rfl⟩ : ∃i:Nat,u=(i:Int):=⟨u.toNat,J⟩;show (dL (eY k.l t x.d)).at (i:Int)=k.at (i:Int);rw [kN,kN,bJ,mj h]
theorem ad9 {d0 d1 s s':D} {t op obj arg tr e1 e2 e3 e4 e5 oc:Int} (T:J5 d0 d1 s t op obj arg tr s' e1 e2 e3 e4 e5 oc) (CA:oc≠0):e1=t:=by
 cases T with
 |no=>exact absurd rfl CA
 |ub=>rfl
 |res=>rfl
theorem QF (d1:D) (t:Int) (x:KT) (r:Int):gj d1 t { x with tr:=r }=gj d1 t x:=rfl
theorem U? (d1:D) (t:Int) (x:KT) (r:Int):low (fK d1 t { x with tr:=r }) 4=low (fK d1 t x) 4:=by
 show low (if x.w=0 then if x.a=(Nc d1 t:Int) then [0,0,0,0,0] else if ((fD d1 t x).hd 0).n=1 then [((fD d1 t x).hd 1).n,((fD d1 t x).hd 2).n,FD ((fD d1 t x).hd 6) x.lc,r,1] else if ((fD d1 t x).hd 0).n=2 then [26,((fD d1 t x).hd 2).n,0,0,1] else [0,0,0,0,0] else [x.w,x.o,x.g,0,1]) 4=low (fK d1 t x) 4;unfold fK
 repeat' split
 all_goals rfl
theorem XA {d1:D} {t:Int} {x:KT} {r op obj arg tr:Int} (h:fK d1 t { x with tr:=r }= [op,obj,arg,tr,1]): ∃tr',fK d1 t x= [op,obj,arg,tr',1]:=by
 have e:fK d1 t { x with tr:=r }=(if x.w=0 then if x.a=(Nc d1 t:Int) then [0,0,0,0,0] else if ((fD d1 t x).hd 0).n=1 then [((fD d1 t x).hd 1).n,((fD d1 t x).hd 2).n,FD ((fD d1 t x).hd 6) x.lc,r,1] else if ((fD d1 t x).hd 0).n=2 then [26,((fD d1 t x).hd 2).n,0,0,1] else [0,0,0,0,0] else [x.w,x.o,x.g,0,1]):=rfl;rw [e] at h;unfold fK
 repeat' split at h
 all_goals (simp only [List.cons.injEq] at h; obtain⟨rfl,rfl,rfl,rfl,h⟩:=h)
 all_goals first
  |(exfalso; omega)
  |skip
 ·rename_i U Z h3;exact⟨x.tr,by rw [ag U,af Z,ag h3]⟩
 ·rename_i U Z h3 h4;exact⟨0,by rw [ag U,af Z,af h3,ag h4]⟩
 ·rename_i U;exact⟨0,by rw [af U]⟩
theorem V? (I:D) (x:KT) (r:Int):fk I { x with tr:=r }= { fk I x with tr:=r }:=by
 unfold fk
 repeat' split
 all_goals rfl
theorem F! (I:D) (x:KT) (r op e2 e3 e4 oc:Int) (h:oc≠0):jq I { x with tr:=r } op e2 e3 e4 oc=jq I x op e2 e3 e4 oc:=by unfold jq;rw [af h,af h]
theorem F? (I:D) (x:KT) (op e2 e3 e4:Int): ∃r,jq I x op e2 e3 e4 0= { x with tr:=r }:=by
 unfold jq;rw [ag rfl];split
 ·exact⟨_,rfl⟩
 ·exact⟨x.tr,rfl⟩
inductive Run (d0 d1 s k:D):List D->D->D->Prop
 |nil:Run d0 d1 s k [] s k
 |snoc {l:List D} {s1 k1 s2 k2:D} {e1 e2 e3 e4 e5:Int} (r:Run d0 d1 s k l s1 k1) (h:L 2000 [enc d0,enc d1,enc s1,enc k1,e1,e2,e3,e4,e5]=some [enc s2,enc k2,1]):Run d0 d1 s k (l++ [RR e1 e2 e3 e4 e5]) s2 k2
section
variable {d0 d1 s k:D} {n:Nat} (S:Sx s k n) (hn:n<17592186043904) (h0:Wd (.sl 3) d0) (U:Wd (.sl 4) d1)
include S hn h0 U
theorem ahP (M:MR d0 d1 s k) {t:Int} {x:KT} (t0:0<=t) (t1:t<(d1.l.length:Int)) (h:k.at t=x.d):Rs d0 d1 s k t x:=by obtain⟨y,R⟩:=M.thr S J h0 U t0 t1;rw [IN (h.symm.trans R.hk)];exact R
end
structure Fr (d0 d1 s0 k0:D) (i:Nat) (es:List D) (s k:D):Prop where
 S:Sx s k i
 M:MR d0 d1 s k
 ll:es.length<=i
 fr: ∃F:D,Run d0 d1 s0 k0 es s F/\Sx s F i/\MR d0 d1 s F/\∀u:Nat,u<d1.l.length->∃(z y:KT) (j:Nat) (r:Int),F.at (u:Int)=z.d/\k.at (u:Int)=KT.d { y with tr:=r }/\FJ d1 (u:Int) j z y/\j<=i
section
variable {d0 d1 s0 k0:D} (h0:Wd (.sl 3) d0) (U:Wd (.sl 4) d1)
include h0 U
theorem aak {s k:D} {i:Nat} {es:List D} (hi:i<5000) (h:Fr d0 d1 s0 k0 i es s k) {t:Int} (t0:0<=t) (t1:t<(d1.l.length:Int)) {s' k':D} {e1 e2 e3 e4 e5 oc:Int} (H:B0 d0 d1 s k t i s' k' e1 e2 e3 e4 e5 oc):Fr d0 d1 s0 k0 (i+1) (es++U5 e1 e2 e3 e4 e5 oc) s' k':=by
 obtain⟨S',hls,alF⟩:=WR h.S J h0 U H;have M':=WS h.S J h0 U h.M H;have B6:k.l.length=d1.l.length:=h.M.2.1;obtain⟨u0,hu0⟩ : ∃u:Nat,(u:Int)=t:=⟨t.toNat,J⟩;have UX:=h.ll;have ev0:U5 0 0 0 0 0 0= []:=rfl;have ev4:U5 0 0 0 0 0 4= []:=rfl;have U6:U5 0 0 0 0 0 1= []:=rfl;obtain⟨F,f1,f2,f3,f4⟩:=h.fr;have hFl:F.l.length=d1.l.length:=f3.2.1
 cases H with
 |no Fw=> rw [ev0,alV];exact⟨h.S.mono (alU i),h.M,J,F,f1,f2.mono (alU i),f3,fun u hu=>by obtain⟨z,y,j,r,a1,a2,a3,a4⟩:=f4 u hu; exact⟨z,y,j,r,a1,a2,a3,J⟩⟩
 |over x R ho=> rw [ev4,alV];exact⟨h.S.mono (alU i),h.M,J,F,f1,f2.mono (alU i),f3,fun u hu=>by obtain⟨z,y,j,r,a1,a2,a3,a4⟩:=f4 u hu; exact⟨z,y,j,r,a1,a2,a3,J⟩⟩
 |loc x R ho hay=>
  rw [U6,alV];refine⟨S',M',J,F,f1,f2.mono (alU i),f3,fun u hu=>?_⟩;obtain⟨z,y,j,r,a1,a2,a3,a4⟩:=f4 u hu;by_cases Cy:(u:Int)=t
  ·rw [Cy] at a1 a2 a3;have e:=IN (a2.symm.trans R.hk);subst e;refine⟨z,fk (fD d1 t y) y,j+1,r,by rw [Cy]; exact a1,?_,by rw [Cy]; exact a3.snoc (by rw [<- QF d1 t y r]; exact ho) (by rw [<- U? d1 t y r]; exact hay),J⟩;show (fw k t _).at (u:Int)=_;rw [Cy,iZ t0 R.ht,<- V?]
  ·refine⟨z,y,j,r,a1,?_,a3,J⟩;show (fw k t _).at (u:Int)=_;rw [sK _ J Cy,a2]
 |tri x R ho op obj arg tr Ok k1 k2 k3 fm s' e1 e2 e3 e4 e5 oc A T=>
  refine⟨S',M',?_,?_⟩
  ·rw [aZ];have:(U5 e1 e2 e3 e4 e5 oc).length<=1:=by unfold U5; split<;>simp
   omega
  ·rcases A.oc3 with hz|h23
   ·subst hz;obtain⟨rfl,rfl,rfl,rfl,rfl,rfl⟩:=A.no rfl;rw [ev0,alV];refine⟨F,f1,f2.mono (alU i),f3,fun u hu=>?_⟩;obtain⟨z,y,j,r,a1,a2,a3,a4⟩:=f4 u hu;by_cases Cy:(u:Int)=t
    ·rw [Cy] at a2;have e:=IN (a2.symm.trans R.hk);subst e;obtain⟨r',Oj⟩:=F? (fD d1 t { y with tr:=r }) { y with tr:=r } op 0 0 0;refine⟨z,y,j,r',a1,?_,a3,J⟩;show (fw k t _).at (u:Int)=_;rw [Cy,iZ t0 R.ht,Oj]
    ·refine⟨z,y,j,r,a1,?_,a3,J⟩;show (fw k t _).at (u:Int)=_;rw [sK _ J Cy,a2]
   ·have CA:oc≠0:=J
    have he:=ad9 T CA;have hev:U5 e1 e2 e3 e4 e5 oc= [RR e1 e2 e3 e4 e5]:=by unfold U5; rw [ag h23]
    rw [hev];obtain⟨z,y,j,r,a1,a2,a3,a4⟩:=f4 u0 J;rw [hu0] at a1 a2 a3;have e:=IN (a2.symm.trans R.hk);subst e;obtain⟨tr',v_⟩:=XA Ok;have RF:=ahP f2 J h0 U f3 t0 t1 a1
    have Oe:tr<=4611686018427387904:=by
     have q:=R.r.ok.2.2.2.2.1;have q':r<=4611686018427387904:=q;unfold fK at Ok
     repeat' split at Ok
     all_goals (simp only [List.cons.injEq] at Ok; obtain⟨_,_,_,Ok,_⟩:=Ok; omega)
    have A':=Ku h0 U f2.g J k1 A CA Oe;have hf:=YD (gK:=e2) (gT:=e3) (ea:=e4) (eb:=e5) f2 RF J a3 (by rw [<- QF d1 t y r]; exact ho) v_ A';rw [ag ⟨CA,he,rfl,rfl,rfl,rfl⟩] at hf;have tZ:jq (fD d1 t { y with tr:=r }) { y with tr:=r } op e2 e3 e4 oc=jq (fD d1 t y) y op e2 e3 e4 oc:=F! _ _ _ _ _ _ _ _ CA;rw [<- tZ] at hf;have hle:=(MR.code h0 U (h.S.g.jW J).rows h.M).2;have hx:=BX R.r ho;have SF:=Aj f2 R.c R.r J hx A;have RT:=Nh R.c R.r hx hle A.e3 A.e4 T;have MF:=IC f2 J f3 RT J M'.1;refine⟨_,.snoc f1 (he▸hf),SF,MF,fun u hu=>?_⟩
    ·by_cases Cy:(u:Int)=t
     ·refine⟨_,jq (fD d1 t { y with tr:=r }) { y with tr:=r } op e2 e3 e4 oc,0,(jq (fD d1 t { y with tr:=r }) { y with tr:=r } op e2 e3 e4 oc).tr,?_,?_,.zero _,J⟩
      ·rw [Cy,iZ t0 J]
      ·show (fw k t _).at (u:Int)=_;rw [Cy,iZ t0 R.ht]
     ·obtain⟨z',y',j',r',b1,b2,b3,b4⟩:=f4 u hu;refine⟨z',y',j',r',?_,?_,b3,J⟩
      ·rw [sK _ J Cy,b1]
      ·show (fw k t _).at (u:Int)=_;rw [sK _ J Cy,b2]
end
end Go.As.Try
end
section
namespace Go.As.Try
open Go hiding Stat Spec shape
open Go.As
set_option maxRecDepth 100000
theorem Mz (d0 d1:D): ∀(l:List D) (s k a b e:D) (x y:Int),j7 d0 d1 s k l=(a,b,l.length)->U4 d0 d1 a b e=some [x,y,1]->j7 d0 d1 s k (l++ [e])=(dec x,dec y,l.length+1)
 |[],s,k,a,b,e,x,y,h,hf=>by simp only [j7,ak] at h;obtain⟨rfl,rfl,_⟩:=h;simp [j7,hf]
 |e0::l,s,k,a,b,e,x,y,h,hf=>by
  cases hF:U4 d0 d1 s k e0 with
  |none=>simp [j7,hF] at h
  |some ys=>
   match ys,hF with
   |[p,q,c],hF=>
    by_cases hc:c=0
    ·simp [j7,hF,hc] at h
    ·rw [j7,hF] at h;simp only [hc,if_false,ak,aM,anb] at h;have h':j7 d0 d1 (dec p) (dec q) l=(a,b,l.length):=Prod.ext h.1 (Prod.ext h.2.1 h.2.2);have ih:=Mz d0 d1 l (dec p) (dec q) a b e x y h' hf;rw [aO,j7,hF];simp only [hc,if_false,ih,aM]
   |[],hF=>simp [j7,hF] at h
   |[_],hF=>simp [j7,hF] at h
   |[_,_],hF=>simp [j7,hF] at h
   |_::_::_::_::_,hF=>simp [j7,hF] at h
theorem M? {d0 d1 s k:D} {l:List D} {s' k':D} (R:Run d0 d1 s k l s' k'):j7 d0 d1 s k l=(s',k',l.length):=by
 induction R with
 |nil=>rfl
 |snoc r h ih=>
  rename_i l s1 k1 s2 k2 e1 e2 e3 e4 e5
  have hf:U4 d0 d1 s1 k1 (RR e1 e2 e3 e4 e5)=some [enc s2,enc k2,1]:=by unfold U4;simp only [zg,ax,qk];exact h
  have:=Mz d0 d1 l s k s1 k1 _ _ _ ih hf;rw [this,bB,bB,aZ];rfl
theorem g_ (d:D) (z:Int):d.at z∈d.l\/d.at z= .i 0:=by
 unfold D.at
 cases h:d.l[z.toNat]? with
 |none=>exact .inr rfl
 |some x=>exact .inl (br h)
theorem aeB {d0 d1:D} (h: ∀x∈d1.l,IU d0 x):NoP d1:=fun t x w op obj arg tr hq h25=>by
 unfold fK at hq;rw [ag w] at hq;split at hq
 ·simp only [List.cons.injEq] at hq;omega
 ·split at hq
  ·rename_i U;simp only [List.cons.injEq] at hq;have py:((((d1.at t).hd 2).at x.a).hd 1).n=25:=by have:=hq.1; show ((fD d1 t x).hd 1).n=25; omega
   have RB:((((d1.at t).hd 2).at x.a).hd 0).n=1:=U;rcases g_ d1 t with ht|ht
   ·rcases g_ ((d1.at t).hd 2) x.a with hx|hx
    ·have:=(h _ ht _ hx).2 RB;omega
    ·unfold fD at U;rw [hx] at U;simp [D.hd,D.l,D.n] at U
   ·unfold fD at U;rw [ht] at U
    have e:((D.i 0).hd 2).at x.a= .i 0:=by
     rcases g_ ((D.i 0).hd 2) x.a with q|q
     ·simp [D.hd,D.l] at q
     ·exact q
    rw [e] at U;simp [D.hd,D.l,D.n] at U
  ·split at hq
   ·simp only [List.cons.injEq] at hq;omega
   ·simp only [List.cons.injEq] at hq;omega
theorem Ni (d0 x:D) (m:Nat) (h:KZ d0 x):Snd x (hD x) m:=by obtain⟨ys,U,Z⟩:=Tl (x.hd 0).n (x.hd 2).n (enc (x.hd 1)) (enc (x.hd 3)) (x.hd 4).n m (fun e=>(h.2.2.2.1 (.inl e)).1) h.2.2.2.2.1;rw [Z] at U;exact U
theorem K8 {d0 d1:D} (h0:Wd (.sl 3) d0) (U:Wd (.sl 4) d1) (hC:L 450 [enc d0,enc d1]=some [0]) (ok:mK d0 d1):MR d0 d1 (ej d0) (eV d1):=by
 have S:=ur h0 U ok
 have Y:(ej d0).l=d0.l.map hD:=by
  unfold ej;split
  ·rename_i h;rw [alR h];rfl
  ·rw [bJ]
 have hk:(eV d1).l=d1.l.map ji:=by
  unfold eV;split
  ·rename_i h;rw [alR h];rfl
  ·rw [bJ]
 refine⟨?_,sC d1,fun i hi=>?_⟩
 ·obtain⟨b,hb,_,hi⟩:=kj h0 U (S.g.jW J).rows;rw [hb,hi.2 ⟨hC,by rw [Y,bo],fun q hq=>?_⟩];have Ok:q<d0.l.length:=by rw [Y,bo] at hq; exact hq
  have e:(ej d0).l[q]?=some (hD d0.l[q]):=by rw [Y,bg,aL Ok];rfl
  rw [aL hq] at e;rw [Option.some.inj e];exact Ni d0 _ _ (ok.2.2 _ (az _))
 ·have hi':i<d1.l.length:=by rw [sC] at hi; exact hi
  have e:(eV d1).l[i]?=some (ji d1.l[i]):=by rw [hk,bg,aL hi'];rfl
  rw [aL hi] at e;rw [Option.some.inj e];refine⟨amX _,Int.natCast_nonneg _,?_,amX _,by show (0:Int)<=_; omega,.inl ⟨rfl,rfl,rfl⟩⟩;show ((if ((d1.l[i]).hd 1).l.length=0 then (.i 2:D) else dL (List.replicate ((d1.l[i]).hd 1).l.length (.i 0))).l.length:Int)=_;split
  ·rename_i h; rw [h]; rfl
  ·rw [bJ,amj]
end Go.As.Try
end
section
namespace Go.As.Try
open Go hiding Stat Spec shape
open Go.As
set_option maxRecDepth 100000
set_option linter.unusedSimpArgs false
set_option linter.unusedVariables false
set_option linter.unusedSectionVars false
def C_ (l:List D):Prop:= ∀x∈l,∃a b c e f,x=dL [.i a,.i b,.i c,.i e,.i f]
section
variable {d0 d1:D} (h0:Wd (.sl 3) d0) (U:Wd (.sl 4) d1)
include h0 U
theorem Yx:GG (eV d1):=fun j hj=>by
 unfold eV at hj ⊢;split at hj
 ·simp [D.l] at hj
 ·rename_i hz;rw [af hz];rw [bJ,bo] at hj
  have e:(dL (d1.l.map ji)).at (j:Int)=ji d1.l[j]:=by refine JX ?_;rw [bJ,bg,aL hj];rfl
  rw [e];unfold ji;simp only [zg,ax,qk];omega
end
section
variable {d0 d1:D} (h0:Wd (.sl 3) d0) (U:Wd (.sl 4) d1) (hC:L 450 [enc d0,enc d1]=some [0]) (ok:mK d0 d1)
include h0 U hC ok
theorem i! (d:D) (hd:d.l.length<=17592186000000):L 2150 [enc d0,enc d1,enc d]=some [enc (j7 d0 d1 (ej d0) (eV d1) d.l).1,enc (j7 d0 d1 (ej d0) (eV d1) d.l).2.1,((j7 d0 d1 (ej d0) (eV d1) d.l).2.2:Int)]:=by have hB:=GC U hC ok;have ih:=MA h0 U d hd d.l.length 0 _ _ J (ur h0 U ok);rw [amc,aA] at ih;rw [bL,Zl];simp only [Wk,zz,hB,bF];exact ih
end
theorem OB {a b:List D} (ha:C_ a) (hb:C_ b):C_ (a++b):=fun x hx=>by
 rcases alO.1 hx with h|h
 ·exact ha x h
 ·exact hb x h
theorem ai9 {e1 e2 e3 e4 e5 oc:Int}:C_ (U5 e1 e2 e3 e4 e5 oc):=fun x hx=>by
 unfold U5 at hx;split at hx
 ·simp only [amP] at hx;exact⟨_,_,_,_,_,hx⟩
 ·simp at hx
theorem YB {d0 d1:D} (h0:Wd (.sl 3) d0) (U:Wd (.sl 4) d1) (hC:L 450 [enc d0,enc d1]=some [0]) (ok:mK d0 d1):Fr d0 d1 (ej d0) (eV d1) 0 [] (ej d0) (eV d1):=by have S:=ur h0 U ok;have M:=K8 h0 U hC ok;refine⟨S,M,au _,eV d1,.nil,S,M,fun u hu=>?_⟩;obtain⟨x,R⟩:=M.thr S J h0 U (t:=(u:Int)) J J;exact⟨x,x,0,x.tr,R.hk,R.hk,.zero _,au _⟩
def af3 (d0 e:D) (R:List D):Prop:= ∃th op ob a b,e=RR th op ob a b/\0<=ob/\ob<(d0.l.length:Int)/\Dem d0 op ob R
def Wb (p:D):Prop:= ∀t j,0<=hv p t j/\hv p t j<=2
theorem Rq {k op a w:Int} (h:0<=w/\w<=2):0<=kP k op a w/\kP k op a w<=2:=by
 unfold kP
 repeat' split
 all_goals omega
theorem VJ {p p':D} {th j v:Int} (h:Wb p) (Z!:x_ p p' th j v) (hv:0<=v/\v<=2):Wb p':=fun t i=>by
 rw [Z!.2];split
 ·exact hv
 ·exact h t i
def Pl (R:List D):Prop:=R.length<=64/\∀x∈R,x= .i x.n
theorem XM {p:D} {th:Int} {n:Nat} (h:n<=64):Pl (Kd p th n):=⟨bk (QQ p th n) h,fun x hx=>by
 obtain⟨j,_,_,rfl⟩:=(QP p th n x).1 hx
 rfl⟩
def aij (d0 es:D) (ys:List Int):Prop:= ∃h:D,ys= [enc h]/\h.l.length=es.l.length/\∀n:Nat,(hn:n<es.l.length)->af3 d0 es.l[n] (h.at (n:Int)).l/\Pl (h.at (n:Int)).l
section
variable {d0 d1 es:D} (h0:Wd (.sl 3) d0) (U:Wd (.sl 4) d1) (ok:mK d0 d1) (Np:NoP d1) (hw:C_ es.l) (Y:es.l.length<=50000)
include h0 U ok Np hw Y
theorem G4: ∀(j i:Nat) (s k p:D) (l:List D),i+j=es.l.length->RS1 d0 d1 s k i->HR d0 s p->Wb p->l.length=i->(∀n:Nat,(hn:n<i)->(v_:n<es.l.length)->af3 d0 es.l[n] ((dL l).at (n:Int)).l/\Pl ((dL l).at (n:Int)).l)->(j7 d0 d1 s k (es.l.drop i)).2.2=j->
 dQ 23402 [enc (dL l),enc es,(es.l.length:Int),(i:Int),enc d0,enc d1,enc p] (aij d0 es)
 |0,i,s,k,p,l,hi,R,K,Z_,UX,hd,hA=>by
  have c1: ¬(i:Int)<(es.l.length:Int):=J
  refine dQ.of ?_;rw [O8];simp only [sD,zz,c1];exact .out ⟨dL l,rfl,by rw [bJ]; omega,fun n hn=>hd n J hn⟩
 |j+1,i,s,k,p,l,hi,R,K,Z_,UX,hd,hA=>by
  have dS:i<es.l.length:=J
  have AO:es.l.drop i=es.l[i]::es.l.drop (i+1):=bu dS;obtain⟨th,op,ob,a,b,he⟩:=hw _ (az dS);rw [AO,j7] at hA;obtain⟨ys,hF,hy⟩:=Je (t:=th) (gK:=op) (gT:=ob) (ea:=a) (eb:=b) R.S J h0 U R.M R.G Np
  have hfo:U4 d0 d1 s k es.l[i]=some ys:=by unfold U4;rw [he];simp only [zg,ax,qk];exact hF
  rw [hfo] at hA;rcases hy with rfl|⟨s',k',op',obj,arg,tr,oc,rfl,S',_,_,CA,T,M',G',fm,k1,k2,k3,h25⟩
  ·simp at hA
  ·simp only [bG,if_false,reduceIte,bB,anb] at hA;have UU:s.l.length=d0.l.length:=(MR.code h0 U (R.S.g.jW J).rows R.M).2
   have GY:b=0/\0<=ob/\ob<(d0.l.length:Int):=by
    cases T with
    |no=>exact absurd rfl CA
    |ub A=>exact⟨rfl,A.o0,by have:=A.o1; omega⟩
    |res A=>exact⟨rfl,A.o0,by have:=A.o1; omega⟩
   obtain⟨hb,o0,o1⟩:=GY;subst hb;refine X5 J ⟨dS,J,by rw [bX dS]; exact he,o0,o1,ok.1,K.1,fun j=>Z_ th j⟩ fun p' Z!=>?_;have W':=VJ Z_ Z! (Rq (Z_ th _));obtain⟨K',Dm⟩:=Rm h0 U R.S.g J ok R.M.1 UU k1 K T CA Z!;refine G4 j (i+1) s' k' p' _ J ⟨S',M',G'⟩ K' W' (by rw [aZ,UX]; rfl) (fun n hn v_=>?_) hA;by_cases hni:n<i
   ·have e:(dL (l++ [N2 p th d0.l.length])).at (n:Int)=(dL l).at (n:Int):=by
     rw [kN,kN,bJ,bJ,ano J]
    rw [e];exact hd n hni v_
   ·obtain rfl:n=i:=J
    have e:(dL (l++ [N2 p th d0.l.length])).at (n:Int)=N2 p th d0.l.length:=by rw [kN,bJ,<- UX,am4 (au _),Nat.sub_self];rfl
    rw [e,abX];exact⟨⟨th,op,ob,a,0,he,o0,o1,Dm⟩,XM ok.1⟩
theorem SL: ∀(l:List D) (s k:D) (n:Nat),RS1 d0 d1 s k n->n+l.length<70000->(j7 d0 d1 s k l).2.2=l.length->∀e∈l,0<=(e.hd 0).n/\(e.hd 0).n<(d1.l.length:Int)/\0<=(e.hd 2).n/\(e.hd 2).n<(d0.l.length:Int)
 |[],s,k,n,R,hn,h=>fun e he=>by simp at he
 |e::l,s,k,n,R,hn,h=>by
  simp only [aM] at h hn;obtain⟨ys,hF,hy⟩:=Je (t:=(e.hd 0).n) (gK:=(e.hd 1).n) (gT:=(e.hd 2).n) (ea:=(e.hd 3).n) (eb:=(e.hd 4).n) R.S J h0 U R.M R.G Np;have hfa:U4 d0 d1 s k e=some ys:=hF;rcases hy with rfl|⟨s1,k1,op',obj,arg,tr,oc,rfl,S1,_,_,CA,T,M1,G1,_⟩
  ·rw [j7,hfa] at h;simp at h
  ·rw [j7,hfa] at h;simp only [bG,if_false,bB,anb] at h;have UU:s.l.length=d0.l.length:=(MR.code h0 U (R.S.g.jW J).rows R.M).2
   have key:0<=(e.hd 0).n/\(e.hd 0).n<(d1.l.length:Int)/\0<=(e.hd 2).n/\(e.hd 2).n<(d0.l.length:Int):=by
    generalize (e.hd 0).n=x0 at *;generalize (e.hd 1).n=x1 at *;generalize (e.hd 2).n=x2 at *;generalize (e.hd 3).n=x3 at *;generalize (e.hd 4).n=x4 at *
    cases T with
    |no=>exact absurd rfl CA
    |ub A=>exact⟨A.t0,A.t1,A.o0,by have:=A.o1; omega⟩
    |res A=>exact⟨A.t0,A.t1,A.o0,by have:=A.o1; omega⟩
   intro e' v7;rcases ay.1 v7 with rfl|v7
   ·exact key
   ·exact SL l s1 k1 (n+1) ⟨S1,M1,G1⟩ J h e' v7
end
theorem CW {d0 d1 es:D} (Y:es.l.length<=50000) (ha: ∀e∈es.l,0<=(e.hd 0).n/\(e.hd 0).n<(d1.l.length:Int)/\0<=(e.hd 2).n/\(e.hd 2).n<(d0.l.length:Int)): ∀(j i:Nat),i+j=es.l.length->L 25301 [enc es,(es.l.length:Int),(i:Int),enc d0,enc d1]=some [enc d0,enc d1,-1]
 |0,i,hi=>by
  have c1: ¬(i:Int)<(es.l.length:Int):=J
  rw [bL,O2];simp only [Nl,zz,c1,cg]
 |j+1,i,hi=>by
  have dS:i<es.l.length:=J
  have c1:(i:Int)<(es.l.length:Int):=J
  have c2: ¬(i:Int)<0:=J
  have w:=bP (n:=i) J;obtain⟨q1,q2,q3,q4⟩:=ha _ (az dS);have ih:=CW Y ha j (i+1) J;have c3: ¬((es.l[i]).hd 0).n<0:=J
  have c4: ¬((es.l[i]).hd 2).n<0:=J
  rw [bL,O2];simp only [Nl,zz,c1,c2,bX dS,c3,q2,c4,q4,w,bF];exact ih
theorem VC {d0 d1 es:D} (Y:es.l.length<=50000) (ha: ∀e∈es.l,0<=(e.hd 0).n/\(e.hd 0).n<(d1.l.length:Int)/\0<=(e.hd 2).n/\(e.hd 2).n<(d0.l.length:Int)):L 25200 [enc es,enc d0,enc d1]=some [enc d0,enc d1,0]:=by
 have h:=CW Y ha es.l.length 0 J
 have Z:L 25300 [enc es,enc d0,enc d1]=some [enc d0,enc d1,-1]:=by rw [bL,Zf];simp only [Wg,zz,bF];exact h
 have c:(-1:Int)<0:=J
 rw [bL,Zg];simp only [Wh,zz,Z,c,cg]
theorem X6 {d0 d1:D}:HR d0 (ej d0) (.i 0)/\Wb (.i 0):=by
 have e: ∀t j,hv (.i 0) t j=0:=fun t j=>rfl;refine⟨⟨by simp [M7,D.l],fun j hj t ht=>?_⟩,fun t j=>by rw [e]; omega⟩
 have Y:(ej d0).l.length=d0.l.length:=by
  unfold ej;split
  ·rename_i h;rw [h];rfl
  ·rw [bJ,bo]
 rw [Y] at hj;have hz: ¬d0.l.length=0:=J
 have jt:(ej d0).at (j:Int)=hD d0.l[j]:=by refine JX ?_;unfold ej;rw [af hz,bJ,bg,aL hj];rfl
 rw [e,jt];have e0:((hD d0.l[j]).hd 0).n= -1:=rfl;have e4:((hD d0.l[j]).hd 4).l= []:=rfl;unfold yR;rw [e0,e4]
 repeat' split
 all_goals first |rfl|omega|simp_all
theorem aaa {d0 d1 es p:D} {th op ob a:Int} {P:List Int->Prop} (H:EvT d0 es p 0 th op ob a)
 (hs: ∀p':D,x_ p p' th (Fu (Rf d0 ob) ob (PA d0 ob)) (kP (Rf d0 ob) op a (hv p th (Fu (Rf d0 ob) ob (PA d0 ob))))->dQ 23402 [enc (dL [N2 p th d0.l.length]),enc es,(es.l.length:Int),1,enc d0,enc d1,enc p'] P) :
 dQ 23401 [enc es,(es.l.length:Int),enc d0,enc d1,enc p] P:=by
 have c1:(0:Int)<(es.l.length:Int):=by have:=H.i0; omega
 have c5: ¬ob<0:=by have:=H.o0; omega
 have c6:=H.o1;have jt:es.at 0=_:=H.he;have B6:=Ld d0 d1 p th (by have:=H.d; omega);have lG:=H.nd;have hw:=H.hw;clear H;unfold Rf PA at hs;generalize hk:((d0.at ob).hd 0).n=k at *;generalize hN:((d0.at ob).hd 2).n=N at *;refine dQ.of ?_;rw [O9];have lM:k=1\/k=4\/k=2\/(k≠1/\k≠4/\k≠2):=J
 rcases lM with rfl|rfl|rfl|⟨k1,k4,k2⟩
 ·have e:Fu 1 ob N=ob:=rfl;rw [e] at hs;have hw:=hw ob;unfold hv at hs hw
  cases hf:eN p.l (N4 th ob) with
  |none=>
   simp only [hf] at hs hw;simp only [sE,zz,c1,c5,c6,jt,zg,B6,hk,hN,hf,ax,amd,qk,bJ,pW,aC,Int.reduceEq,aK,if_true,if_false,reduceIte]
   repeat' first
    |(refine .jump (hs _ ?_); first |exact jz lG (by simp [kP,qk, *])|exact jA lG (by simp [kP, *])|exact iu lG (by simp [kP,hv, *]))
    |refine .ite (fun _=>?_) (fun _=>?_)
  |some x=>
   simp only [hf] at hs hw;simp only [sE,zz,c1,c5,c6,jt,zg,B6,hk,hN,hf,ax,bd,bG,qk,bJ,pW,aC,Int.reduceEq,aK,if_true,if_false,reduceIte]
   repeat' first
    |(refine .jump (hs _ ?_); first |exact jz lG (by simp [kP,qk, *])|exact jA lG (by simp [kP, *])|exact iu lG (by simp [kP,hv, *]))
    |refine .ite (fun _=>?_) (fun _=>?_)
 ·have e:Fu 4 ob N=N:=rfl;rw [e] at hs;have hw:=hw N;unfold hv at hs hw
  cases hf:eN p.l (N4 th N) with
  |none=>
   simp only [hf] at hs hw;simp only [sE,zz,c1,c5,c6,jt,zg,B6,hk,hN,hf,ax,amd,qk,bJ,pW,aC,Int.reduceEq,aK,if_true,if_false,reduceIte]
   repeat' first
    |(refine .jump (hs _ ?_); first |exact jz lG (by simp [kP,qk, *])|exact jA lG (by simp [kP, *])|exact iu lG (by simp [kP,hv, *]))
    |refine .ite (fun _=>?_) (fun _=>?_)
  |some x=>
   simp only [hf] at hs hw;simp only [sE,zz,c1,c5,c6,jt,zg,B6,hk,hN,hf,ax,bd,bG,qk,bJ,pW,aC,Int.reduceEq,aK,if_true,if_false,reduceIte]
   repeat' first
    |(refine .jump (hs _ ?_); first |exact jz lG (by simp [kP,qk, *])|exact jA lG (by simp [kP, *])|exact iu lG (by simp [kP,hv, *]))
    |refine .ite (fun _=>?_) (fun _=>?_)
 ·have e:Fu 2 ob N=ob:=rfl;rw [e] at hs;have hw:=hw ob;unfold hv at hs hw
  cases hf:eN p.l (N4 th ob) with
  |none=>
   simp only [hf] at hs hw;simp only [sE,zz,c1,c5,c6,jt,zg,B6,hk,hN,hf,ax,amd,qk,bJ,pW,aC,Int.reduceEq,aK,if_true,if_false,reduceIte]
   repeat' first
    |(refine .jump (hs _ ?_); first |exact jz lG (by simp [kP,qk, *])|exact jA lG (by simp [kP, *])|exact iu lG (by simp [kP,hv, *]))
    |refine .ite (fun _=>?_) (fun _=>?_)
  |some x=>
   simp only [hf] at hs hw;have hx:x.n=0\/x.n=1\/x.n=2:=J
   rcases hx with hx|hx|hx
   all_goals
    rw [hx] at hs;simp only [sE,zz,c1,c5,c6,jt,zg,B6,hk,hN,hf,hx,ajt,ajs,aju,q02,q12,q22,m02,m12,m22,w0,w1,w2,Int.zero_mul,Int.one_mul,ax,bd,bG,qk,bJ,pW,aC,Int.reduceEq,Int.reduceLT,aK,if_true,if_false,reduceIte]
    repeat' first
     |(refine .jump (hs _ ?_); first |exact jz lG (by simp [kP,qk, *])|exact jA lG (by simp [kP, *])|exact iu lG (by simp [kP,hv, *]))
     |refine .ite (fun _=>?_) (fun _=>?_)
 ·have e:Fu k ob N=ob:=by unfold Fu; rw [af k4]
  have e2:kP k op a (hv p th ob)=hv p th ob:=by unfold kP; rw [af k1,af k4,af k2]
  rw [e,e2] at hs;simp only [sE,zz,c1,c5,c6,jt,zg,B6,hk,hN,k1,k4,k2,qk,bJ,pW,aC,if_true,if_false,reduceIte];exact .jump (hs _ (CZ lG rfl))
section
variable {d0 d1 es:D} (h0:Wd (.sl 3) d0) (U:Wd (.sl 4) d1) (hC:L 450 [enc d0,enc d1]=some [0]) (ok:mK d0 d1) (Np:NoP d1) (hw:C_ es.l) (Y:es.l.length<=50000)
include h0 U hC ok Np hw Y
theorem aaf (hA:(j7 d0 d1 (ej d0) (eV d1) es.l).2.2=es.l.length):dQ 23400 [enc d0,enc d1,enc es] (aij d0 es):=by
 have S:=ur h0 U ok;have M:=K8 h0 U hC ok;have R:RS1 d0 d1 (ej d0) (eV d1) 0:=⟨S,M,Yx h0 U⟩;have ha:=SL h0 U ok Np hw Y es.l _ _ 0 R J hA;have hW:=VC Y ha;obtain⟨K,Z_⟩:=X6 (d0:=d0) (d1:=d1);refine dQ.of ?_;rw [Pa];simp only [Nr,zz,hC,hW];refine .jump ?_;by_cases hz:es.l.length=0
 ·have c1: ¬(0:Int)<(es.l.length:Int):=J
  refine dQ.of ?_;rw [O9];simp only [sE,zz,c1];exact .out ⟨.i 1,rfl,by rw [hz]; rfl,fun n hn=>by omega⟩
 ·have dS:0<es.l.length:=J
  have AO:es.l=es.l[0]::es.l.drop 1:=by have:=bu dS;rw [amc] at this;exact this
  obtain⟨th,op,ob,a,b,he⟩:=hw _ (az dS);have hA':=hA;rw [AO,j7] at hA';obtain⟨ys,hF,hy⟩:=Je (t:=th) (gK:=op) (gT:=ob) (ea:=a) (eb:=b) R.S J h0 U R.M R.G Np
  have hfo:U4 d0 d1 (ej d0) (eV d1) es.l[0]=some ys:=by unfold U4;rw [he];simp only [zg,ax,qk];exact hF
  rw [hfo] at hA';rcases hy with rfl|⟨s',k',op',obj,arg,tr,oc,rfl,S',_,_,CA,T,M',G',fm,k1,k2,k3,h25⟩
  ·simp at hA'
  ·simp only [bG,if_false,reduceIte,bB,aM,anb] at hA';have UU:(ej d0).l.length=d0.l.length:=(MR.code h0 U (R.S.g.jW J).rows R.M).2
   have GY:b=0/\0<=ob/\ob<(d0.l.length:Int):=by
    cases T with
    |no=>exact absurd rfl CA
    |ub A=>exact⟨rfl,A.o0,by have:=A.o1; omega⟩
    |res A=>exact⟨rfl,A.o0,by have:=A.o1; omega⟩
   obtain⟨hb,o0,o1⟩:=GY;subst hb;refine aaa ⟨dS,J,by rw [bX dS]; exact he,o0,o1,ok.1,K.1,fun j=>Z_ th j⟩ fun p' Z!=>?_;have W':=VJ Z_ Z! (Rq (Z_ th _));obtain⟨K',Dm⟩:=Rm h0 U R.S.g J ok R.M.1 UU k1 K T CA Z!;refine G4 h0 U ok Np hw Y (es.l.length-1) 1 s' k' p' [N2 (.i 0) th d0.l.length] J ⟨S',M',G'⟩ K' W' rfl (fun n hn v_=>?_) (by rw [hA',bq]);obtain rfl:n=0:=J
   have e:(dL [N2 (.i 0) th d0.l.length]).at ((0:Nat):Int)=N2 (.i 0) th d0.l.length:=rfl;rw [e,abX];exact⟨⟨th,op,ob,a,0,he,o0,o1,Dm⟩,XM ok.1⟩
end
section
variable {d0 d1:D} (h0:Wd (.sl 3) d0) (U:Wd (.sl 4) d1)
include h0 U
theorem P3 {s0 k0:D}: ∀(ts:List Int) (p:PS) (i:Nat),Fr d0 d1 s0 k0 i p.l p.s p.k->C_ p.l->i+ts.length<5000->(∀t∈ts,0<=t/\t<(d1.l.length:Int))->∃m,m<=i+ts.length/\Fr d0 d1 s0 k0 m (yu d0 d1 p ts).l (yu d0 d1 p ts).s (yu d0 d1 p ts).k/\C_ (yu d0 d1 p ts).l
 |[],p,i,F,E,hi,ht=> ⟨i,ad,F,E⟩
 |t::ts,p,i,F,E,hi,ht=>by
  simp only [aM] at hi;obtain⟨t0,t1⟩:=ht t (anH ..);obtain⟨s',k',e1,e2,e3,e4,e5,oc,hL,H⟩:=NA F.S J h0 U t;have F':=aak h0 U J F t0 t1 H
  have hs:WV d0 d1 p t=⟨s',k',if oc=2\/oc=3 then p.l++ [RR e1 e2 e3 e4 e5] else p.l⟩:=by unfold WV WW;rw [hL];simp only [ax,bM,bN,bB]<;>rfl
  have he:(WV d0 d1 p t).l=p.l++U5 e1 e2 e3 e4 e5 oc:=by
   rw [hs];unfold U5;split
   ·rfl
   ·rw [alV]
  have es:(WV d0 d1 p t).s=s':=by rw [hs]
  have ek:(WV d0 d1 p t).k=k':=by rw [hs]
  rw [<- he,<- es,<- ek] at F';obtain⟨m,hm,F2,E2⟩:=P3 ts _ (i+1) F' (by rw [he]; exact OB E ai9) J (fun x hx=>ht x (amV _ hx));exact⟨m,by simp only [aM]; omega,F2,E2⟩
theorem Xk (q:D) (hq:q.l.length<=1000): ∃e s k:D,L 2400 [enc d0,enc d1,enc q]=some [enc e,enc s,enc k]/\(e= .i 1\/L 450 [enc d0,enc d1]=some [0]/\e=dL e.l/\e.l.length<=1000/\C_ e.l/\(j7 d0 d1 (ej d0) (eV d1) e.l).2.2=e.l.length):=by
 obtain⟨ys,hC,c,rfl,hc,oI⟩:=r7 h0 U;by_cases hc0:c=0
 ·subst hc0;have ok:=(oI rfl).1;have hB:=GC U hC ok;by_cases hn:0<d1.l.length
  ·have P:POk d1 ⟨ej d0,eV d1,[]⟩ 0:=⟨ur h0 U ok,sC d1,au _⟩;have hL:=P! h0 U hn hB P q J
   obtain⟨m,hm,F,E⟩:=P3 h0 U (q.l.map (Q_ d1)) ⟨ej d0,eV d1,[]⟩ 0 (YB h0 U hC ok) (fun x hx=>by simp at hx) (by rw [bo]; omega) fun t ht=>by obtain⟨x,_,rfl⟩:=aQ.1 ht;exact Gf J
   rw [bo] at hm;generalize yu d0 d1 ⟨ej d0,eV d1,[]⟩ (q.l.map (Q_ d1))=Q at hL F E;obtain⟨_,R,_⟩:=F.fr;have UX:=F.ll;unfold Uz at hL;refine⟨_,_,_,hL,?_⟩;by_cases hz:Q.l= []
   ·rw [ag hz];exact .inl rfl
   ·rw [af hz];exact .inr ⟨hC,by rw [bJ],by rw [bJ]; omega,by rw [bJ]; exact E,by rw [bJ,M? R]⟩
  ·have c1: ¬(0:Int)<(d1.l.length:Int):=J
   refine⟨.i 1,ej d0,eV d1,?_,.inl rfl⟩;rw [bL,RY];simp only [PO,zz,hB,bF];rw [bL,RX];by_cases hqz:(0:Int)<(q.l.length:Int)
   ·simp only [Bi,zz,hqz,c1,cg]
   ·simp only [Bi,zz,hqz,cg]
 ·exact⟨_,_,_,aav hc0 (GA hC hc0) q,.inl rfl⟩
theorem IY {es hd:D} (hdl:hd.l.length=es.l.length) (Y:es.l.length<=50000) (H: ∀n:Nat,(hn:n<es.l.length)->af3 d0 es.l[n] (hd.at (n:Int)).l/\Pl (hd.at (n:Int)).l): ∀(j i:Nat),i+j=es.l.length->dQ 23451 [enc hd,enc es,(es.l.length:Int),(i:Int),enc d0,enc d1] (·= [1])
 |0,i,hi=>by
  have c1: ¬(i:Int)<(es.l.length:Int):=J
  refine dQ.of ?_;rw [O7];simp only [uo,zz,c1];exact .out rfl
 |j+1,i,hi=>by
  have dS:i<es.l.length:=J
  have c1:(i:Int)<(es.l.length:Int):=J
  have c2: ¬(i:Int)<0:=J
  have c3:(i:Int)<(hd.l.length:Int):=J
  have w:=bP (n:=i) J;have ih:=IY hdl Y H j (i+1) J;obtain⟨⟨th,op,ob,a,b,he,o0,o1,Dm⟩,hlen,wK⟩:=H i dS;have c4: ¬ob<0:=J
  have jt:es.at (i:Int)=RR th op ob a b:=by rw [bX dS]; exact he
  have e1:((es.at (i:Int)).hd 1).n=op:=by rw [jt]; rfl
  have e2:((es.at (i:Int)).hd 2).n=ob:=by rw [jt]; rfl
  obtain⟨x,hx,hxe⟩:=Mw (hd.at (i:Int)) ob J;obtain⟨y,hy,hye⟩:=Mw (hd.at (i:Int)) (PA d0 ob) J
  have uR: ∀z:Int,(∃n:Nat,n<(hd.at (i:Int)).l.length/\((hd.at (i:Int)).at (n:Int)).n=z)↔.i z∈(hd.at (i:Int)).l:=fun z=>by
   constructor
   ·rintro⟨n,hn,hz⟩;rw [bX hn] at hz;have:=wK _ (az hn);rw [hz] at this;rw [<- this];exact az hn
   ·intro hz;obtain⟨n,hn,hz⟩:=amu hz;exact⟨n,hn,by rw [bX hn,hz]; rfl⟩
  have x1: .i ob∈(hd.at (i:Int)).l->x=1:=fun q=>by
   rcases hxe with ⟨_,h⟩|⟨h,_⟩
   ·obtain⟨n,hn,hz⟩:=(uR ob).2 q;exact absurd hz (h n hn)
   ·exact h
  have x0: .i ob∉(hd.at (i:Int)).l->x=0:=fun q=>by
   rcases hxe with ⟨h,_⟩|⟨_,h⟩
   ·exact h
   ·exact absurd ((uR ob).1 h) q
  have y1: .i (PA d0 ob)∈(hd.at (i:Int)).l->y=1:=fun q=>by
   rcases hye with ⟨_,h⟩|⟨h,_⟩
   ·obtain⟨n,hn,hz⟩:=(uR (PA d0 ob)).2 q;exact absurd hz (h n hn)
   ·exact h
  refine dQ.of ?_;rw [O7];by_cases p2:op=2
  ·have:=x1 (Dm.un (.inl p2));subst this;simp only [uo,zz,c1,c2,c3,c4,o1,e1,e2,p2,hx,w,bG];exact .jump ih
  by_cases p6:op=6
  ·have:=x1 (Dm.un (.inr (.inl p6)));subst this;simp only [uo,zz,c1,c2,c3,c4,o1,e1,e2,p6,hx,w,bG,Int.reduceEq];exact .jump ih
  by_cases p8:op=8
  ·have:=x1 (Dm.un (.inr (.inr p8)));subst this;simp only [uo,zz,c1,c2,c3,c4,o1,e1,e2,p8,hx,w,bG,Int.reduceEq];exact .jump ih
  by_cases p1:op=1
  ·have:=x0 (Dm.lo p1);subst this;simp only [uo,zz,c1,c2,c3,c4,o1,e1,e2,p1,hx,w,Int.reduceEq];exact .jump ih
  by_cases p12:op=12
  ·have:=y1 (Dm.wa p12);subst this;unfold PA at hy;simp only [uo,zz,c1,c2,c3,c4,o1,e1,e2,p12,hy,w,bG,Int.reduceEq];exact .jump ih
  simp only [uo,zz,c1,c2,c3,c4,o1,e1,e2,p2,p6,p8,p1,p12,w];exact .jump ih
end
theorem Og {d0 d1 q:D} (h0:Wd (.sl 3) d0) (U:Wd (.sl 4) d1) (hq:Wd (.sl 0) q):L 23450 [enc d0,enc d1,enc q]=some [1]:=by
 have res:dQ 23450 [enc d0,enc d1,enc q] (·= [1]):=by
  obtain⟨ys,hG,b,rfl,hb⟩:=T9 (d0:=d0) U;refine dQ.of ?_;rw [Zk];by_cases ri:b=0
  ·subst ri
   have main: ∀q':D,q'.l.length<=60->∃(e s k h:D) (n:Nat),L 2400 [enc d0,enc d1,enc q']=some [enc e,enc s,enc k]/\(∃a b,L 2150 [enc d0,enc d1,enc e]=some [a,b,((e.l.length:Nat):Int)])/\L 23400 [enc d0,enc d1,enc e]=some [enc h]/\dQ 23451 [enc h,enc e,((e.l.length:Nat):Int),0,enc d0,enc d1] (·= [1]):=by
    intro q' Ok;obtain⟨e,s,k,hP,he⟩:=Xk h0 U q' J;obtain⟨ys,hC2,c,rfl,_,oI⟩:=r7 h0 U;obtain⟨ys',hC',c',rfl,_,hJ⟩:=EY h0 U;by_cases hc:c=0
    ·subst hc;have ok:=(oI rfl).1;have e2:c'=0:=by rw [hC2] at hC'; simpa using hC'.symm
     subst e2;have Np:=aeB (hJ rfl).2
     have key:C_ e.l/\e.l.length<=1000/\(j7 d0 d1 (ej d0) (eV d1) e.l).2.2=e.l.length:=by
      rcases he with rfl|⟨_,_,Z,h3,h4⟩
      ·exact⟨fun x hx=>by simp [D.l] at hx,by simp [D.l],rfl⟩
      ·exact⟨h3,Z,h4⟩
     obtain⟨hE,hel,hA⟩:=key;have hAf:=i! h0 U hC2 ok e J;rw [hA] at hAf;obtain⟨ys,hH,h,rfl,hh1,hh2⟩:=aaf h0 U hC2 ok Np hE J hA;exact⟨e,s,k,h,0,hP,⟨_,_,hAf⟩,hH,IY h0 U hh1 J hh2 e.l.length 0 J⟩
    ·have e0:e= .i 1:=by
      rcases he with h|⟨h,_⟩
      ·exact h
      ·rw [hC2] at h;simp only [ah,List.cons.injEq,and_true] at h;exact absurd h hc
     subst e0;have hB:=GA hC2 hc;refine⟨.i 1,s,k,.i 1,0,hP,⟨enc (.i 1),enc (.i 1),?_⟩,?_,?_⟩
     ·rw [bL,Zl];simp only [Wk,zz,hB,hc,cg];rfl
     ·rw [bL,Pa];simp only [Nr,zz,hC2,hc,cg]
     ·refine IY h0 U rfl (by simp [D.l]) (fun n hn=>by simp [D.l] at hn) 0 0 rfl
   by_cases h60:60<q.l.length
   ·have c60:(60:Int)<(q.l.length:Int):=J
    have akh:(60:Int).toNat=60:=rfl;obtain⟨e,s,k,h,_,g1,⟨a,b,g2⟩,g3,g4⟩:=main (fT q (q.l.take 60)) (by rw [gz,bh]; omega);simp only [H6,zz,hG,c60,akh,g1,g2,g3];exact .jump g4
   ·have c60: ¬(60:Int)<(q.l.length:Int):=J
    have cx: ¬(q.l.length:Int)<(q.l.length:Int):=J
    have cl:q.l.take q.l.length=q.l:=amA;obtain⟨e,s,k,h,_,g1,⟨a,b,g2⟩,g3,g4⟩:=main (fT q q.l) (by rw [gz]; omega);simp only [H6,zz,hG,c60,cx,cl,bp,g1,g2,g3];exact .jump g4
  ·simp only [H6,zz,hG,ri];exact .out rfl
 obtain⟨ys,h,rfl⟩:=res;exact h
end Go.As.Try
end
section
namespace Go.Proofs.YtniglnbdppnhoabGreatDoor.fnHeldSound
open Go hiding Stat
open Go.As Go.As.Try Go.Proofs Go.RowKit Go.ChangeShapes Go.WideShapes Go.ChangeAt
set_option maxRecDepth 100000
theorem aaq:tR Tryz.prog R? 8 25=some [.sl 3,.sl 4]:=aa
theorem aap:tR Tryz.prog R? 8 26=some [.sl 0]:=aa
theorem Mp {H:Type} {enc:TypeId×Value->H} {Z_:World} {t:TypeId} {v:Value} {d:DataW H} {p:List MemPlace} {FB:List CK} (hf:tR Tryz.prog R? 8 t=some FB) (h:DataW.Trod enc Tryz.prog Z_ 0 (fun _=>true) true t v d p) (hw:(d.weights Tryz.prog t).all (·<=reachBytes)=true) :
 ∃ds,Rs (NK Z_) Z_.heap FB ds v.cells.toList:=by
 obtain⟨fuel,hx⟩:=h;exact Im R! fuel t 8 FB v.cells.toList (d,p) hf hx hw
theorem ah2:23450∈S.B4 3:=by
 have h:S.B4 3= [23450]:=aa
 rw [h];simp
theorem a! (H:Type) (enc:TypeId×Value->H) (Z_:World) (base:Nat) (args:Array Value) (ds gs:List (DataW H)) (before:List MemPlace)
 (IX: ∀(j:Nat) t v,Tryz.f3.params[j]?=some t->args[j]?=some v->Value.okWide Tryz.prog Z_ .any base t v)
 (hW:DataW.Whole enc Tryz.prog Tryz.f3.params.toList Rows.heldSoundSpec.vars false Z_ args.toList ds gs before)
 (ik:(DataW.weightsEach Tryz.prog (Tryz.f3.params.toList++ []) (ds++gs)).all (·<=reachBytes)=true) (xK:Z_.ShapedOpen Tryz.prog) :
 Calls Tryz.prog 3 args Z_ fun e W'=> ∃v,e= .returned v/\Rows.heldSoundSpec.post enc Tryz.prog Tryz.f3 false true false false Z_ args v W':=by
 have hW':=hW;obtain⟨p,q,hA0,hV,rfl,hfz,lG⟩:=hW;have hA:DataW.TrodAll enc Tryz.prog Z_ 0 (fun _=>true) true Tryz.f3.params.toList args.toList ds p:=hA0;rw [Tryz.params3] at hA IX ik;obtain⟨v0,vs0,d0,ds0,p0,q0,ace,rfl,rfl,h0,r0⟩:=trodAll_cons hA;obtain⟨v1,VE,d1,ds1,p1,q1,rfl,rfl,rfl,U,r1⟩:=trodAll_cons r0;obtain⟨rfl,rfl,rfl⟩:=trodAll_nil r1;obtain rfl:args= #[v0,v1]:=by cases args; simp_all
 obtain⟨rfl,rfl⟩:=trodVars_none hV;clear hA0;simp only [alV] at hW';have fW: ∀x∈p0++p1,x.block<Z_.heap.size:=fun x hx=>by simpa using hW'.lt x (by simpa using hx)
 have akx: ∀x∈p0,x.block<Z_.heap.size:=fun x hx=>fW x (List.mem_append_left _ hx);have akw: ∀x∈p1,x.block<Z_.heap.size:=fun x hx=>fW x (anR _ hx)
 have aip:(d0.weights Tryz.prog 25).all (·<=reachBytes)=true/\(d1.weights Tryz.prog 26).all (·<=reachBytes)=true:=by have:(DataW.weightsEach Tryz.prog [25,26] [d0,d1]).all (·<=reachBytes)=true:=ik;simp only [DataW.weightsEach,ana,an] at this;exact⟨this.1,this.2.1⟩
 obtain⟨es0,R0⟩:=Mp aaq h0 aip.1;obtain⟨es1,R1⟩:=Mp aap U aip.2;obtain⟨cs0,rfl,_⟩:=okWide_struct Tryz.underlying25 (IX 0 25 v0 rfl rfl);have e0:(Value.agg cs0).cells.toList=cs0.toList:=rfl;obtain⟨ad1,gP,aaS,rfl⟩:=okWide_slice Tryz.underlying26 (IX 1 26 v1 rfl rfl);have e1:(Value.slice ad1 gP aaS).cells.toList= [.slice ad1 gP aaS]:=rfl;rw [e0] at R0;rw [e1] at R1
 match es0,akN:cs0.toList,R0 with
 |[x0,x1],[u0,u1],.cons r0_ w0 (.cons r1_ w1 .nil)=>
  obtain rfl:cs0= #[u0,u1]:=by rw [<- Array.toArray_toList (xs:=cs0),akN]
  match es1,R1 with
  |[x2],.cons r2_ w2 .nil=> have hL:=(Og w0 w1 w2);refine (c_ (g:=3) (j:=23450) (e:=(ajM abb 76).ent) ah2 aa rfl rfl hL xK (vals:=[.agg [u0,u1].toArray,.slice ad1 gP aaS]) (fl:=[u0,u1,.slice ad1 gP aaS]) (.agg _ [u0,u1] rfl (.one _ _ .nil)) ⟨_,_,_,_,rfl,rfl,E5 r0_,_,_,_,_,rfl,rfl,E5 r1_,_,_,_,_,rfl,rfl,E5 r2_,rfl,rfl⟩).mono fun e W' ⟨he,hb⟩=>?_;subst he;exact⟨_,rfl,⟨_,_,_,[],_,[],hW',trodAll_mk1 (shut_bool Tryz.underlying4 _),trodAll_mk2 (Below.trod laidOut aa (of_decide_eq_true aa) h0 hb akx) (Below.trod laidOut aa (of_decide_eq_true aa) U hb akw),rfl,hb.frame _,fun h=>by cases h⟩⟩
abbrev PG:Array Value:=#[.agg #[.slice none 0 0,.slice none 0 0],.slice none 0 0]
theorem XO (os:Os):laidMet Tryz.prog Rows.heldSoundRow.laid ((AH os).forCall (fun _ _=>0) ⟨#[],PG,[]⟩).memory:=
 laidMet_of_run' 8 aa aa
theorem reads (os:Os) {H:Type} (enc:TypeId×Value->H): ∃places,DataW.whole enc Tryz.prog ((AH os).forCall (fun _ _=>0) ⟨#[],PG,[]⟩).memory Tryz.f3.params.toList [] false PG.toList 8=some ([.agg [.nil,.nil],.nil],[],places):=
 ⟨[],aa⟩
set_option maxHeartbeats 400000 in
theorem lifted (os:Os) (started:os.Started) (H:Type) (enc:TypeId×Value->H) (F:Stop.Interp) :
 ReturnsInHanded {} Tryz.checked os 3 .any ((OpenSpec.ofChange Rows.heldSoundSpec).preRow enc Tryz.prog Tryz.f3 Rows.heldSoundRow.domain false Rows.heldSoundRow.laid) (((OpenSpec.ofChange Rows.heldSoundSpec).at F).post enc Tryz.prog Tryz.f3 false true false false):=by
 obtain⟨places,hx⟩:=reads os enc
 refine returnsInHanded_of_row (C:=Tryz.checked) (s:=OpenSpec.ofChange Rows.heldSoundSpec) Try.own started aa Tryz.func3
  (witness_row_at (enc:=enc) (C:=Tryz.checked) false (AH os) PG rfl aa aa aa
   (OpenSpec.preRow_of_cond 8 hx aa (fun k hk=>by cases hk) aa (XO os))) ?_
 intro Z_ base args ds gs before IX hW _ _ ik _ xK _;exact a! H enc Z_ base args ds gs before IX hW ik xK
theorem hY {a b:Bool} (U:a=true) (Z:b=true):(a&&b)=true:=by rw [U,Z]; rfl
theorem closed:joinedFacts Tryz.pinned.checked.prog 3 Tryz.f3 (OpenSpec.ofChange Rows.heldSoundSpec).bare Rows.heldSoundRow=true:=(hY (hY (hY (hY (hY (hY (hY (hY (hY (hY (hY (hY (hY (hY (hY (hY (hY (hY (hY (hY (hY (hY (hY (hY (hY (hY (hY (hY (hY (hY (hY aa aa) aa) aa) aa) aa) aa) aa) aa) aa) aa) aa) aa) aa) aa) aa) aa) aa) aa) aa) aa) aa) aa) aa) aa) aa) aa) aa) aa) aa) aa) aa)
theorem said:Rows.HeldSoundSaid:=
 OpenClaim.holds_of_cond 3 Tryz.f3 rfl rfl rfl rfl rfl rfl rfl ⟨rfl,rfl,rfl,rfl,rfl⟩ rfl rfl rfl rfl rfl aa Tryz.func3 closed
  (of_decide_eq_true aa) (by unfold Func.isWrapper; first |(rw [ag (by decide +kernel)]; kernel_rfl)|(rw [af (by decide +kernel)]; exact⟨rfl,rfl⟩))
  (fun os started H enc _ F=>by rw [OpenClaim.pre_eq_preRow]; exact lifted os started H enc F)
theorem plain (f:FuncId) (fn:Func) (hf:Tryz.pinned.checked.prog.funcNamed "amanuensis/amanuensislaw25.HeldSound" = some f) (ue:Tryz.pinned.checked.prog.funcs[f]?=some fn) :
 false=Tryz.pinned.checked.prog.looks []/\∀(j:Nat) t,fn.params[j]?=some t->Tryz.pinned.checked.prog.wantsStandIn t=false:=by
 obtain rfl:f=3:=Option.some.inj ((show Tryz.prog.funcNamed "amanuensis/amanuensislaw25.HeldSound" = some 3 by kernel_rfl).symm.trans hf) |>.symm;obtain rfl:fn=Tryz.f3:=(Option.some.inj (Tryz.func3.symm.trans ue)).symm;refine⟨aa,fun j t ht=>?_⟩;rw [Tryz.params3] at ht;have hm:=anv ht;simp only [List.mem_toArray,ay,alT,or_false] at hm;rcases hm with rfl|rfl
 all_goals exact (by kernel_rfl:Tryz.prog.wantsStandIn _=false)
theorem card:Rows.HeldSoundCardSaid:=
 Claim7.holds_tied_plain_at .later [] _ _ _ _ said (fun _ h=>by cases h) aa (fun _ h=>by cases h) heldSound_row_tie rfl ⟨rfl,rfl⟩ aa rfl plain aa
end Go.Proofs.YtniglnbdppnhoabGreatDoor.fnHeldSound
end

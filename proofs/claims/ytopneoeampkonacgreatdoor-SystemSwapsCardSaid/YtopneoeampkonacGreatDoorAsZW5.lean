/-
  Proved: the given card of the law SystemSwaps: whatever the input, the call returns true and each argument reads afterwards as it did. Conditions: those of the given row alone (its listed package-level variables start as the program's text lays them; each string, slice and map that is handed in lies within a process's addresses).
-/
import Derived.Test.YtopneoeampkonacGreatDoorAsZW4
set_option linter.unusedSectionVars false
set_option linter.unusedVariables false
set_option linter.unusedSimpArgs false
section
namespace Go.As.Try
open Go hiding Stat Spec shape
open Go.As
set_option maxRecDepth 100000
theorem z6:((2:Int)=1)=False/\((4:Int)=3)=False/\((5:Int)=3)=False/\((5:Int)=4)=False/\((6:Int)=3)=False/\((6:Int)=4)=False/\((6:Int)=5)=False/\((7:Int)=3)=False/\((7:Int)=4)=False/\((7:Int)=5)=False/\((7:Int)=6)=False:=ae
structure KT where
 a:Int
 lc:D
 w:Int
 o:Int
 g:Int
 tr:Int
abbrev KT.d (x:KT):D:=dL [.i x.a,x.lc,.i x.w,.i x.o,.i x.g,.i x.tr]
structure Cd (d0 d1:D):Prop where
 h0:Wd (.sl 3) d0
 U:Wd (.sl 4) d1
 ok:mF d0 d1
 ins: ∀x∈d1.l,acQ d0 x
theorem MR.code {d0 d1 s k:D} (h0:Wd (.sl 3) d0) (U:Wd (.sl 4) d1) (hr:BD s) (M:MR d0 d1 s k):Cd d0 d1/\s.l.length=d0.l.length:=by obtain⟨b,hb,_,hi⟩:=kT h0 U hr;rw [M.1] at hb;simp only [aq,List.cons.injEq,and_true] at hb;obtain⟨hC,hle,_⟩:=hi.1 hb.symm;obtain⟨ys,L?,c,rfl,_,pf⟩:=tp h0 U;rw [hC] at L?;simp only [aq,List.cons.injEq,and_true] at L?;have:=pf L?.symm;exact⟨⟨h0,U,this.1,this.2⟩,hle⟩
structure Rt (d0 d1:D) (t:Int) (x:KT):Prop where
 t0:0<=t
 t1:t<(d1.l.length:Int)
 ok:OkT d0 ((d1.at t).W 1).l.length ((d1.at t).W 2).l.length x.a x.lc.l.length x.w x.o x.g x.tr
 Y:Wd (.sl 0) x.lc
 hg:dV .i64 x.g
abbrev fI (d1:D) (t:Int) (x:KT):D:=((d1.at t).W 2).at x.a
abbrev Nc (d1:D) (t:Int):Nat:=((d1.at t).W 2).l.length
structure InF (d0:D) (nl nc:Nat) (I:D):Prop where
 ok:OkI d0 nl nc (I.W 0).n (I.W 1).n (I.W 2).n (I.W 3).n (I.W 4).n (I.W 6).l.length
 op:dV .u8 (I.W 1).n
 ob:dV .i64 (I.W 2).n
 to:dV .i64 (I.W 4).n
 nn:dV .i64 (I.W 5).n
 ar:Wd (.sl 6) (I.W 6)
theorem Cd.at {d0 d1:D} (C:Cd d0 d1) {t:Int} (t0:0<=t) (t1:t<(d1.l.length:Int)):d1.at t∈d1.l:=by
 obtain⟨i,rfl⟩ : ∃i:Nat,t=(i:Int):=⟨t.toNat,J⟩
 grind [bT]
theorem O2 {d:D} {i:Int} (h0:0<=i) (U:i<(d.l.length:Int)):d.at i∈d.l:=by
 obtain⟨k,rfl⟩ : ∃k:Nat,i=(k:Int):=⟨i.toNat,J⟩
 grind [bT]
theorem Cd.code {d0 d1:D} (C:Cd d0 d1) {t:Int} (t0:0<=t) (t1:t<(d1.l.length:Int)):Wd (.sl 5) ((d1.at t).W 2):=by
 obtain⟨i,rfl⟩ : ∃i:Nat,t=(i:Int):=⟨t.toNat,J⟩;have hi:i<d1.l.length:=J
 obtain⟨xY,lc,cd,he,_,_,h⟩:=zq C.U hi;rw [bT hi,he];exact h
theorem Cd.inf {d0 d1:D} (C:Cd d0 d1) {t:Int} {x:KT} (R:Rt d0 d1 t x) (h:x.a<(Nc d1 t:Int)):InF d0 ((d1.at t).W 1).l.length (Nc d1 t) (fI d1 t x):=by
 have ha:=R.ok.1;have U:=C.ins _ (C.at R.t0 R.t1) (fI d1 t x) (O2 ha h);obtain⟨i,hi⟩ : ∃i:Nat,x.a=(i:Int):=⟨x.a.toNat,J⟩;have dK:i<((d1.at t).W 2).l.length:=by unfold Nc at h; omega
 obtain⟨a,b,c,e,f,g,GF,he,_,hb,hc,_,hf,hg,hw⟩:=Pa (C.code R.t0 R.t1) dK;have hI:fI d1 t x=dL [.i a,.i b,.i c,.i e,.i f,.i g,GF]:=by unfold fI; rw [hi,bT dK,he]
 refine⟨U,?_,?_,?_,?_,?_⟩
 all_goals
  rw [hI];simp only [zg,ay,nI];assumption
theorem Rt.ints {d0 d1:D} {t:Int} {x:KT} (R:Rt d0 d1 t x):VH x.lc:=fun y hy=>by obtain⟨n,rfl,hn⟩:=(R.Y.el1 rfl y hy).i;exact hn
section
variable {d0 d1 s k:D} {t:Int} {x:KT} (hk:k.at t=x.d) (ht:t<(k.l.length:Int)) (R:Rt d0 d1 t x)
include hk ht R
def fT (d1:D) (t:Int) (x:KT):Int:=if x.w=0 then (if x.a=(Nc d1 t:Int) then 1 else 0) else 0
theorem om:L 1650 [enc d0,enc d1,enc s,enc k,t]=some [fT d1 t x]:=by
 have c1: ¬t<0:=by have:=R.t0; omega
 have c2:=R.t1;unfold fT Nc;rw [bP,adT];simp only [acv,zz,hk,c1,ht,c2,zg];by_cases w0:x.w=0
 ·simp only [w0,if_true];by_cases a0:x.a=(((d1.at t).W 2).l.length:Int)
  ·simp only [a0,if_true];rfl
  ·simp only [a0,if_false];rfl
 ·simp only [w0,if_false];rfl
end
noncomputable def ev (e lc:D):Int:=low ((L 1950 [(e.W 0).n,enc (e.W 1),(e.W 2).n,enc (e.W 3),enc lc]).getD []) 0
theorem MP {Dl lc:D} (ha:Wd (.sl 6) Dl) (Y:VH lc) {i:Int} (i0:0<=i) (i1:i<(Dl.l.length:Int)):L 1950 [((Dl.at i).W 0).n,enc ((Dl.at i).W 1),((Dl.at i).W 2).n,enc ((Dl.at i).W 3),enc lc]=some [ev (Dl.at i) lc]/\dV .i64 (ev (Dl.at i) lc):=by
 obtain⟨j,rfl⟩ : ∃j:Nat,i=(j:Int):=⟨i.toNat,J⟩;have hj:j<Dl.l.length:=J
 obtain⟨k',s',n',ks',he,_,_,hn',Z⟩:=xt ha hj;obtain⟨ys,hL,v,rfl,hv⟩:=MO _ ks' (az _) Z k' n' s' lc hn' Y;have e1:Dl.at (j:Int)=dL [.i k',s',.i n',ks']:=by rw [bT hj,he]
 simp_all [ev,e1,zg,nI,bM]
noncomputable def GV (Dl lc:D):Int:=if Dl.l.length=0 then 0 else ev (Dl.at ((Dl.l.length:Int)-1)) lc
theorem abG {Dl lc:D} (ha:Wd (.sl 6) Dl) (Y:VH lc):dV .i64 (GV Dl lc):=by
 unfold GV;split
 ·constructor<;>omega
 ·exact (MP ha Y J J).2
theorem HL {Dl lc:D} (ha:Wd (.sl 6) Dl) (Y:VH lc) (x3 x5 x6 x7 x8 x9 K8:Int): ∀(j i:Nat) (v:Int),i+j=Dl.l.length->L 1751 [enc Dl,(Dl.l.length:Int),(i:Int),x3,enc lc,x5,x6,x7,x8,x9,K8,v]=some [x9,K8,if j=0 then v else GV Dl lc,x8,1]
 |0,i,v,hi=>by simp_all [bP,d!,Xn,zz,cN]
 |j+1,i,v,hi=>by
  have hr:=ha.len;have c1:(i:Int)<(Dl.l.length:Int):=J
  have c2: ¬((i:Int)<0):=J
  have w:=bO (n:=i) J;obtain⟨he,_⟩:=MP ha Y (i:=(i:Int)) J c1;have ih:=HL ha Y x3 x5 x6 x7 x8 x9 K8 j (i+1) (ev (Dl.at (i:Int)) lc) J;rw [bP,d!];simp only [Xn,zz,c1,c2,w,he,bL]
  grind [GV]
noncomputable def fj (d1:D) (t:Int) (x:KT):List Int:=
 if x.w=0 then
  if x.a=(Nc d1 t:Int) then [0,0,0,0,0]
  else if ((fI d1 t x).W 0).n=1 then [((fI d1 t x).W 1).n,((fI d1 t x).W 2).n,GV ((fI d1 t x).W 6) x.lc,x.tr,1]
  else if ((fI d1 t x).W 0).n=2 then [26,((fI d1 t x).W 2).n,0,0,1]
  else [0,0,0,0,0]
 else [x.w,x.o,x.g,0,1]
section
variable {d0 d1 s k:D} {t:Int} {x:KT} (C:Cd d0 d1) (hk:k.at t=x.d) (ht:t<(k.l.length:Int)) (R:Rt d0 d1 t x)
include C hk ht R
theorem xd:L 1750 [enc d0,enc d1,enc s,enc k,t]=some (fj d1 t x):=by
 have c1: ¬t<0:=by have:=R.t0; omega
 have c2:=R.t1;have c3: ¬x.a<0:=by have:=R.ok.1; omega
 have ho:=om (s:=s) hk ht R;unfold fj;rw [bP,adS];by_cases w0:x.w=0
 ·by_cases a0:x.a=(Nc d1 t:Int)
  ·have e:fT d1 t x=1:=by unfold fT; rw [an w0,an a0]
   rw [e] at ho;rw [an w0,an a0];simp only [G6,zz,hk,c1,ht,c2,zg,w0,ho,bI,cN]
  ·have e:fT d1 t x=0:=by unfold fT; rw [an w0,ak a0]
   rw [e] at ho;have gv:x.a<(Nc d1 t:Int):=by have:=R.ok.2.1; unfold Nc at a0 ⊢; omega
   have F:=C.inf R gv;rw [an w0,ak a0];unfold fI at F ⊢;unfold Nc at gv;by_cases U:((((d1.at t).W 2).at x.a).W 0).n=1
   ·rw [an U];have lp:=HL F.ar R.ints x.a x.w x.o x.g x.tr ((((d1.at t).W 2).at x.a).W 1).n ((((d1.at t).W 2).at x.a).W 2).n ((((d1.at t).W 2).at x.a).W 6).l.length 0 0 J
    have e2:(if ((((d1.at t).W 2).at x.a).W 6).l.length=0 then 0 else GV ((((d1.at t).W 2).at x.a).W 6) x.lc)=GV ((((d1.at t).W 2).at x.a).W 6) x.lc:=by
     grind [GV]
    rw [e2] at lp;simp only [G6,zz,hk,c1,ht,c2,c3,zg,w0,ho,gv,U,bL]
    grind
   ·by_cases Z:((((d1.at t).W 2).at x.a).W 0).n=2
    ·rw [ak U,an Z];simp only [G6,zz,hk,c1,ht,c2,c3,zg,w0,ho,gv,Z,cN,if_false,z6]
    ·rw [ak U,ak Z];simp only [G6,zz,hk,c1,ht,c2,c3,zg,w0,ho,gv,U,Z,cN]
 ·rw [ak w0];simp only [G6,zz,hk,c1,ht,zg,w0,cN]
end
noncomputable def fA (I:D) (x:KT):KT:=
 if (I.W 0).n=3 then { x with a:=x.a+1,lc:=dL (eV x.lc.l (I.W 3).n (.i (ev ((I.W 6).at 0) x.lc))) }
 else if (I.W 0).n=4 then (if ev ((I.W 6).at 0) x.lc=0 then { x with a:=(I.W 4).n } else { x with a:=x.a+1 })
 else if (I.W 0).n=5 then { x with a:=(I.W 4).n }
 else if (I.W 0).n=6 then { x with a:=x.a+1,lc:=dL (eV x.lc.l (I.W 3).n (.i (I.W 5).n)) }
 else if 0<(x.lc.at (I.W 3).n).n then { x with a:=x.a+1,lc:=dL (eV x.lc.l (I.W 3).n (.i (IntKind.i64.wrap ((x.lc.at (I.W 3).n).n-1)))) }
 else { x with a:=(I.W 4).n }
structure Loc (d1:D) (t:Int) (x:KT):Prop where
 w:x.w=0
 a:x.a<(Nc d1 t:Int)
 n1:((fI d1 t x).W 0).n≠1
 n2:((fI d1 t x).W 0).n≠2
theorem mG {d0 d1:D} {t:Int} {x:KT} (R:Rt d0 d1 t x) (ho:fT d1 t x=0) (hn:low (fj d1 t x) 4=0):Loc d1 t x:=by
 unfold fT at ho;unfold fj at hn;have Z:=R.ok.2.1;by_cases w0:x.w=0
 ·rw [an w0] at ho hn;by_cases a0:x.a=(Nc d1 t:Int)
  ·grind
  ·rw [ak a0] at hn;by_cases U:((fI d1 t x).W 0).n=1
   ·grind [bN,bM]
   ·by_cases h2':((fI d1 t x).W 0).n=2
    ·grind [bN,bM]
    ·exact⟨w0,by unfold Nc at a0 ⊢; omega,U,h2'⟩
 grind [bN,bM]
section
variable {d0 d1 s k:D} {t:Int} {x:KT} (C:Cd d0 d1) (ht:t<(k.l.length:Int)) (R:Rt d0 d1 t x) (Lc:Loc d1 t x)
include C ht R Lc
theorem L9:L 14000 [enc d0,enc d1,t,enc s,enc k,x.a,enc x.lc,x.w,x.o,x.g,x.tr]=some [0,enc d0,enc d1,t,enc s,enc k,x.a,enc x.lc,x.w,x.o,x.g,x.tr,(fA (fI d1 t x) x).a,enc (fA (fI d1 t x) x).lc]:=by
 have c1: ¬t<0:=by have:=R.t0; omega
 have c2:=R.t1;have c3: ¬x.a<0:=by have:=R.ok.1; omega
 have c4:=Lc.a;have F:=C.inf R c4;have Pk:(x.lc.l.length:Int)=(((d1.at t).W 1).l.length:Int):=R.ok.2.2.1;have hnc:((d1.at t).W 2).l.length<=140737488351232:=(C.code R.t0 R.t1).len;have n1:=Lc.n1;have n2:=Lc.n2
 have hw:IntKind.i64.wrap (x.a+1)=x.a+1:=by
  grind [me]
 have E:=MP F.ar R.ints (i:=0);have ok:=F.ok;unfold fI at n1 n2 ok E ⊢;unfold Nc at c4;rw [bP,g!];unfold fA;rcases ok with h|h|⟨h,i0,i1,na⟩|⟨h,_,_,na⟩|⟨h,_⟩|⟨h,i0,i1⟩|⟨h,i0,i1,_⟩
 ·grind
 ·grind
 ·have c5: ¬(((((d1.at t).W 2).at x.a).W 3).n<0):=J
  have c6:(((((d1.at t).W 2).at x.a).W 3).n<(x.lc.l.length:Int)):=J
  have c7:(0:Int)<(((((d1.at t).W 2).at x.a).W 6).l.length:Int):=J
  obtain⟨E,_⟩:=E J c7;simp only [vG,zz,c1,ht,c2,c3,c4,c5,c6,c7,h,E,hw,cN]
 ·have c7:(0:Int)<(((((d1.at t).W 2).at x.a).W 6).l.length:Int):=J
  obtain⟨E,_⟩:=E J c7;by_cases hz:ev (((((d1.at t).W 2).at x.a).W 6).at 0) x.lc=0
  ·simp only [vG,zz,c1,ht,c2,c3,c4,c7,h,E,hw,hz,cN,z6]
  ·simp only [vG,zz,c1,ht,c2,c3,c4,c7,h,E,hw,hz,cN,z6]
 ·simp only [vG,zz,c1,ht,c2,c3,c4,h,hw,cN,z6]
 ·have c5: ¬(((((d1.at t).W 2).at x.a).W 3).n<0):=J
  have c6:(((((d1.at t).W 2).at x.a).W 3).n<(x.lc.l.length:Int)):=J
  simp only [vG,zz,c1,ht,c2,c3,c4,c5,c6,h,hw,cN,z6]
 ·have c5: ¬(((((d1.at t).W 2).at x.a).W 3).n<0):=J
  have c6:(((((d1.at t).W 2).at x.a).W 3).n<(x.lc.l.length:Int)):=J
  by_cases hz:0<(x.lc.at ((((d1.at t).W 2).at x.a).W 3).n).n
  ·simp only [vG,zz,c1,ht,c2,c3,c4,c5,c6,h,hw,hz,cN,z6]
  ·simp only [vG,zz,c1,ht,c2,c3,c4,c5,c6,h,hw,hz,cN,z6]
theorem L8 (hz:x.lc.l.length=0):L 14050 [enc d0,enc d1,t,enc s,enc k,x.a,enc x.lc,x.w,x.o,x.g,x.tr]=some [0,enc d0,enc d1,t,enc s,enc k,x.a,enc x.lc,x.w,x.o,x.g,x.tr,(fA (fI d1 t x) x).a]/\(fA (fI d1 t x) x).lc=x.lc:=by
 have c1: ¬t<0:=by have:=R.t0; omega
 have c2:=R.t1;have c3: ¬x.a<0:=by have:=R.ok.1; omega
 have c4:=Lc.a;have F:=C.inf R c4;have Pk:(x.lc.l.length:Int)=(((d1.at t).W 1).l.length:Int):=R.ok.2.2.1;have hnc:((d1.at t).W 2).l.length<=140737488351232:=(C.code R.t0 R.t1).len;have n1:=Lc.n1;have n2:=Lc.n2
 have hw:IntKind.i64.wrap (x.a+1)=x.a+1:=by
  grind [me]
 have E:=MP F.ar R.ints (i:=0);have ok:=F.ok;unfold fI at n1 n2 ok E ⊢;unfold Nc at c4;rw [bP,g_];unfold fA;rcases ok with h|h|⟨h,i0,i1,na⟩|⟨h,_,_,na⟩|⟨h,_⟩|⟨h,i0,i1⟩|⟨h,i0,i1,_⟩
 ·grind
 ·grind
 ·omega
 ·have c7:(0:Int)<(((((d1.at t).W 2).at x.a).W 6).l.length:Int):=J
  obtain⟨E,_⟩:=E J c7;by_cases hz:ev (((((d1.at t).W 2).at x.a).W 6).at 0) x.lc=0
  ·simp only [I6,zz,c1,ht,c2,c3,c4,c7,h,E,hw,hz,cN,z6]
  ·simp only [I6,zz,c1,ht,c2,c3,c4,c7,h,E,hw,hz,cN,z6]
 ·simp only [I6,zz,c1,ht,c2,c3,c4,h,hw,cN,z6]
 all_goals grind
theorem ke:Rt d0 d1 t (fA (fI d1 t x) x)/\(fA (fI d1 t x) x).lc.l.length=x.lc.l.length:=by
 have c4:=Lc.a;have F:=C.inf R c4;obtain⟨a0,a1,Pk,tr0,tr1,hw⟩:=R.ok;have n1:=Lc.n1;have n2:=Lc.n2;have ok:=F.ok;have hI:=R.ints
 have hwd: ∀{z v:Int},0<=z->z<(x.lc.l.length:Int)->dV .i64 v->Wd (.sl 0) (dL (eV x.lc.l z (.i v))):=fun {z v} h0 U hv=>by
  have:=R.Y.room;have h3:tu 0=8:=rfl;rw [h3] at this;have hs:=fh x.lc.l z (.i v);refine wT (fun y hy=>?_) (fun he=>?_) (by rw [hs]; omega)
  ·rcases vT hy with h|rfl
   ·exact (R.Y.el1 rfl y h).i
   grind
  grind
 have hsl: ∀z v,(dL (eV x.lc.l z v)).l.length=x.lc.l.length:=fun z v=>by rw [bE,fh]
 have T:=R.t0;have T':=R.t1;unfold Nc at c4 ok F;unfold fA;have go: ∀{a:Int} {lc:D},0<=a->a<=(((d1.at t).W 2).l.length:Int)->lc.l.length=x.lc.l.length->Wd (.sl 0) lc->Rt d0 d1 t { x with a:=a,lc:=lc }/\({ x with a:=a,lc:=lc }:KT).lc.l.length=x.lc.l.length:=fun h0 U Z h3=> ⟨⟨T,T',⟨h0,U,by rw [Z]; exact Pk,tr0,tr1,hw⟩,h3,R.hg⟩,Z⟩;rcases ok with h|h|⟨h,i0,i1,na⟩|⟨h,t0,t1,na⟩|⟨h,t0,t1⟩|⟨h,i0,i1⟩|⟨h,i0,i1,t0,t1⟩
 ·grind
 ·grind
 ·rw [an h];exact go J J (hsl _ _) (hwd i0 J (MP F.ar hI J J).2)
 ·rw [ak J,an h];split
  ·exact go t0 t1 rfl R.Y
  ·exact go J J rfl R.Y
 ·rw [ak J,ak J,an h];exact go t0 t1 rfl R.Y
 ·rw [ak J,ak J,ak J,an h];exact go J J (hsl _ _) (hwd i0 J F.nn)
 ·rw [ak J,ak J,ak J,ak J];split
  ·grind [go,ra]
  ·exact go t0 t1 rfl R.Y
end
theorem z5:(∀p:Prop,(p/\False)=False)/\(∀p:Prop,(False/\p)=False)/\(¬True)=False/\(∀p:Prop,(p/\p)=p)/\(∀(a:Int) (l m:List Int),(a::l)++m=a::(l++m))/\(∀l:List Int,[]++l=l)/\((16:Int)=15)=False/\((3:Int)=0)=False/\((15:Int)=16)=False/\(∀ys:List Int,fin L (.out ys)=some ys):=
 ⟨and_false,false_and,not_true_eq_false,and_self,fun _ _ _=>rfl,fun _=>rfl,ae,ae,ae,fun _=>rfl⟩
def VN:Act->Prop
 | .res _ _ _ _ _ _ _ a _=>dV .i64 a
 |_=>True
theorem VN.ite {p:Prop} [Decidable p] {a b:Act} (ha:VN a) (hb:VN b):VN (if p then a else b):=by
 grind
theorem ahJ {r:D} (h:Wd (.sl 0) r) (i:Nat):dV .i64 (r.at (i:Int)).n:=by
 by_cases hi:i<r.l.length
 ·rw [bT hi];obtain⟨n,hn,hk⟩:=(h.el1 rfl _ (aF hi)).i;rw [hn];exact hk
 ·rw [j5,anD J];constructor<;>(simp only [aT,nI]; omega)
theorem akd {y:D} {M mo th op arg tries o c dn g:Int} {r v:D} (T:Tg y o c dn g r v) (hr:r.l.length<=140737488351232) (ha:dV .i64 arg):VN (act M mo th op arg tries o c dn g r v):=by
 have hz:dV .i64 0:=⟨J,J⟩;have U:dV .i64 1:=⟨J,J⟩;have w:=@ra;have hv:=ahJ T.hv 0;have Y:dV .i64 (r.l.length:Int):=⟨J,J⟩;unfold act
 repeat' refine VN.ite ?_ ?_
 all_goals first
  |trivial
  |exact hz
  |exact U
  |exact w _
  |exact T.hc
  |exact ha
  |exact T.hg
  |exact hv
  |exact Y
def iM (I:D) (x:KT) (op e2 e3 e4 oc:Int):KT:=
 if oc=0 then (if op=4 then { x with tr:=if 4611686018427387904<x.tr+1 then 4611686018427387904 else x.tr+1 } else x)
 else if x.w=0 then
  { a:=if (I.W 0).n=1/\(I.W 1).n=16/\¬(e2=16/\e4=1) then (I.W 4).n else x.a+1,lc:=if (I.W 0).n=1/\¬(I.W 3).n<0 then dL (eV x.lc.l (I.W 3).n (.i e4)) else x.lc,w:=if oc=3 then (if e2=15 then 25 else 24) else 0,o:=if oc=3 then e3 else x.o,g:=if oc=3/\e2=15 then e4 else x.g,tr:=0 }
 else { x with w:=0,o:=0,g:=0,tr:=0 }
def M! (e1 e2 e3 e4 e5 oc:Int):List Int:=if oc=0 then [0,0,0,0,0] else [e1,e2,e3,e4,e5]
section
variable {d0 d1 s s' k:D} {t op obj arg tries e1 e2 e3 e4 e5 oc:Int} {x:KT} (C:Cd d0 d1) (ht:t<(k.l.length:Int)) (R:Rt d0 d1 t x)
 (hA:L 400 [enc d0,enc d1,enc s,t,op,obj,arg,tries]=some [enc s',e1,e2,e3,e4,e5,oc]) (h0:oc=0->s'=s) (hx:x.w=0->x.a<(Nc d1 t:Int))
include C ht R hA h0 hx
set_option maxHeartbeats 4000000 in
theorem Lt:L 14500 [enc d0,enc d1,t,op,obj,arg,tries,enc s,enc k,x.a,enc x.lc,x.w,x.o,x.g,x.tr]=some (0::enc d0::enc d1::t::op::obj::arg::tries::enc s::enc k::x.a::enc x.lc::x.w::x.o::x.g::x.tr::(M! e1 e2 e3 e4 e5 oc++ [oc,enc s',(iM (fI d1 t x) x op e2 e3 e4 oc).a,enc (iM (fI d1 t x) x op e2 e3 e4 oc).lc,(iM (fI d1 t x) x op e2 e3 e4 oc).w,(iM (fI d1 t x) x op e2 e3 e4 oc).o,(iM (fI d1 t x) x op e2 e3 e4 oc).g,(iM (fI d1 t x) x op e2 e3 e4 oc).tr])):=by
 have c1: ¬t<0:=by have:=R.t0; omega
 have c2:=R.t1;have c3: ¬x.a<0:=by have:=R.ok.1; omega
 have q0:=R.ok.2.2.2.1;have q1:=R.ok.2.2.2.2.1;have wt:IntKind.i64.wrap (x.tr+1)=x.tr+1:=me J J;rw [bP,f_];unfold iM M!;by_cases o0:oc=0
 ·have hs:=h0 o0;subst hs;subst o0;by_cases p4:op=4
  ·subst p4;by_cases pt:4611686018427387904<x.tr+1
   ·simp only [fE,zz,hA,c1,ht,wt,pt,cN,if_true,eq_self,aX,ax]
   ·simp only [fE,zz,hA,c1,ht,wt,pt,cN,if_true,eq_self,if_false,aX,ax]
  ·simp only [fE,zz,hA,c1,ht,p4,cN,if_true,if_false,aX,ax]
 ·by_cases w0:x.w=0
  ·have c4:=hx w0;have F:=C.inf R c4;have ok:=F.ok;have Pk:(x.lc.l.length:Int)=(((d1.at t).W 1).l.length:Int):=R.ok.2.2.1;have hnc:((d1.at t).W 2).l.length<=140737488351232:=(C.code R.t0 R.t1).len;unfold Nc at c4;have hw:IntKind.i64.wrap (x.a+1)=x.a+1:=me J J;unfold OkI fI at ok;unfold fI;by_cases n1:((((d1.at t).W 2).at x.a).W 0).n=1
   ·have Ao:((((d1.at t).W 2).at x.a).W 3).n= -1\/0<=((((d1.at t).W 2).at x.a).W 3).n/\((((d1.at t).W 2).at x.a).W 3).n<(x.lc.l.length:Int):=by
     grind
    by_cases i0:((((d1.at t).W 2).at x.a).W 3).n<0
    ·by_cases uY:((((d1.at t).W 2).at x.a).W 1).n=16
     ·by_cases CC:e2=16
      ·by_cases q4:e4=1
       ·by_cases q3:oc=3
        ·simp only [fE,zz,hA,c1,ht,c2,c3,c4,o0,w0,hw,n1,i0,uY,CC,q4,q3,z5]
        ·simp only [fE,zz,hA,c1,ht,c2,c3,c4,o0,w0,hw,n1,i0,uY,CC,q4,q3,z5]
       ·by_cases q3:oc=3
        ·simp only [fE,zz,hA,c1,ht,c2,c3,c4,o0,w0,hw,n1,i0,uY,CC,q4,q3,z5]
        ·simp only [fE,zz,hA,c1,ht,c2,c3,c4,o0,w0,hw,n1,i0,uY,CC,q4,q3,z5]
      ·by_cases tM:e2=15
       ·by_cases q3:oc=3
        ·simp only [fE,zz,hA,c1,ht,c2,c3,c4,o0,w0,hw,n1,i0,uY,CC,tM,q3,z5]
        ·simp only [fE,zz,hA,c1,ht,c2,c3,c4,o0,w0,hw,n1,i0,uY,CC,tM,q3,z5]
       ·by_cases q3:oc=3
        ·simp only [fE,zz,hA,c1,ht,c2,c3,c4,o0,w0,hw,n1,i0,uY,CC,tM,q3,z5]
        ·simp only [fE,zz,hA,c1,ht,c2,c3,c4,o0,w0,hw,n1,i0,uY,CC,tM,q3,z5]
     ·by_cases tM:e2=15
      ·by_cases q3:oc=3
       ·simp only [fE,zz,hA,c1,ht,c2,c3,c4,o0,w0,hw,n1,i0,uY,tM,q3,z5]
       ·simp only [fE,zz,hA,c1,ht,c2,c3,c4,o0,w0,hw,n1,i0,uY,tM,q3,z5]
      ·by_cases q3:oc=3
       ·simp only [fE,zz,hA,c1,ht,c2,c3,c4,o0,w0,hw,n1,i0,uY,tM,q3,z5]
       ·simp only [fE,zz,hA,c1,ht,c2,c3,c4,o0,w0,hw,n1,i0,uY,tM,q3,z5]
    ·have i1:((((d1.at t).W 2).at x.a).W 3).n<(x.lc.l.length:Int):=J
     by_cases uY:((((d1.at t).W 2).at x.a).W 1).n=16
     ·by_cases CC:e2=16
      ·by_cases q4:e4=1
       ·by_cases q3:oc=3
        ·simp only [fE,zz,hA,c1,ht,c2,c3,c4,o0,w0,hw,n1,i0,i1,uY,CC,q4,q3,z5]
        ·simp only [fE,zz,hA,c1,ht,c2,c3,c4,o0,w0,hw,n1,i0,i1,uY,CC,q4,q3,z5]
       ·by_cases q3:oc=3
        ·simp only [fE,zz,hA,c1,ht,c2,c3,c4,o0,w0,hw,n1,i0,i1,uY,CC,q4,q3,z5]
        ·simp only [fE,zz,hA,c1,ht,c2,c3,c4,o0,w0,hw,n1,i0,i1,uY,CC,q4,q3,z5]
      ·by_cases tM:e2=15
       ·by_cases q3:oc=3
        ·simp only [fE,zz,hA,c1,ht,c2,c3,c4,o0,w0,hw,n1,i0,i1,uY,CC,tM,q3,z5]
        ·simp only [fE,zz,hA,c1,ht,c2,c3,c4,o0,w0,hw,n1,i0,i1,uY,CC,tM,q3,z5]
       ·by_cases q3:oc=3
        ·simp only [fE,zz,hA,c1,ht,c2,c3,c4,o0,w0,hw,n1,i0,i1,uY,CC,tM,q3,z5]
        ·simp only [fE,zz,hA,c1,ht,c2,c3,c4,o0,w0,hw,n1,i0,i1,uY,CC,tM,q3,z5]
     ·by_cases tM:e2=15
      ·by_cases q3:oc=3
       ·simp only [fE,zz,hA,c1,ht,c2,c3,c4,o0,w0,hw,n1,i0,i1,uY,tM,q3,z5]
       ·simp only [fE,zz,hA,c1,ht,c2,c3,c4,o0,w0,hw,n1,i0,i1,uY,tM,q3,z5]
      ·by_cases q3:oc=3
       ·simp only [fE,zz,hA,c1,ht,c2,c3,c4,o0,w0,hw,n1,i0,i1,uY,tM,q3,z5]
       ·simp only [fE,zz,hA,c1,ht,c2,c3,c4,o0,w0,hw,n1,i0,i1,uY,tM,q3,z5]
   ·by_cases tM:e2=15
    ·by_cases q3:oc=3
     ·simp only [fE,zz,hA,c1,ht,c2,c3,c4,o0,w0,hw,n1,tM,q3,z5]
     ·simp only [fE,zz,hA,c1,ht,c2,c3,c4,o0,w0,hw,n1,tM,q3,z5]
    ·by_cases q3:oc=3
     ·simp only [fE,zz,hA,c1,ht,c2,c3,c4,o0,w0,hw,n1,tM,q3,z5]
     ·simp only [fE,zz,hA,c1,ht,c2,c3,c4,o0,w0,hw,n1,tM,q3,z5]
  ·simp only [fE,zz,hA,c1,ht,o0,w0,cN,if_true,if_false,aX,ax]
end
section
variable {d0 d1 s s' k:D} {t op obj arg tries e1 e2 e3 e4 e5 oc:Int} {x:KT} (C:Cd d0 d1) (ht:t<(k.l.length:Int)) (R:Rt d0 d1 t x)
 (hA:L 400 [enc d0,enc d1,enc s,t,op,obj,arg,tries]=some [enc s',e1,e2,e3,e4,e5,oc]) (h0:oc=0->s'=s) (hx:x.w=0->x.a<(Nc d1 t:Int)) (hz:x.lc.l.length=0)
include C ht R hA h0 hx hz
set_option maxHeartbeats 4000000 in
theorem Ls:L 14550 [enc d0,enc d1,t,op,obj,arg,tries,enc s,enc k,x.a,enc x.lc,x.w,x.o,x.g,x.tr]=some (0::enc d0::enc d1::t::op::obj::arg::tries::enc s::enc k::x.a::enc x.lc::x.w::x.o::x.g::x.tr::(M! e1 e2 e3 e4 e5 oc++ [oc,enc s',(iM (fI d1 t x) x op e2 e3 e4 oc).a,(iM (fI d1 t x) x op e2 e3 e4 oc).w,(iM (fI d1 t x) x op e2 e3 e4 oc).o,(iM (fI d1 t x) x op e2 e3 e4 oc).g,(iM (fI d1 t x) x op e2 e3 e4 oc).tr]))/\(iM (fI d1 t x) x op e2 e3 e4 oc).lc=x.lc:=by
 have c1: ¬t<0:=by have:=R.t0; omega
 have c2:=R.t1;have c3: ¬x.a<0:=by have:=R.ok.1; omega
 have q0:=R.ok.2.2.2.1;have q1:=R.ok.2.2.2.2.1;have wt:IntKind.i64.wrap (x.tr+1)=x.tr+1:=me J J;rw [bP,e_];unfold iM M!;by_cases o0:oc=0
 ·have hs:=h0 o0;subst hs;subst o0;by_cases p4:op=4
  ·subst p4;by_cases pt:4611686018427387904<x.tr+1
   ·simp only [jo,zz,hA,c1,ht,wt,pt,cN,if_true,eq_self,aX,ax]<;>exact⟨rfl,rfl⟩
   ·simp only [jo,zz,hA,c1,ht,wt,pt,cN,if_true,eq_self,if_false,aX,ax]<;>exact⟨rfl,rfl⟩
  ·simp only [jo,zz,hA,c1,ht,p4,cN,if_true,if_false,aX,ax]<;>exact⟨rfl,rfl⟩
 ·by_cases w0:x.w=0
  ·have c4:=hx w0;have F:=C.inf R c4;have ok:=F.ok;have Pk:(x.lc.l.length:Int)=(((d1.at t).W 1).l.length:Int):=R.ok.2.2.1;have hnc:((d1.at t).W 2).l.length<=140737488351232:=(C.code R.t0 R.t1).len;unfold Nc at c4;have hw:IntKind.i64.wrap (x.a+1)=x.a+1:=me J J;unfold OkI fI at ok;unfold fI;by_cases n1:((((d1.at t).W 2).at x.a).W 0).n=1
   ·have Ao:((((d1.at t).W 2).at x.a).W 3).n= -1\/0<=((((d1.at t).W 2).at x.a).W 3).n/\((((d1.at t).W 2).at x.a).W 3).n<(x.lc.l.length:Int):=by
     grind
    by_cases i0:((((d1.at t).W 2).at x.a).W 3).n<0
    ·by_cases uY:((((d1.at t).W 2).at x.a).W 1).n=16
     ·by_cases CC:e2=16
      ·by_cases q4:e4=1
       ·by_cases q3:oc=3
        ·simp only [jo,zz,hA,c1,ht,c2,c3,c4,o0,w0,hw,n1,i0,uY,CC,q4,q3,z5]<;>exact⟨rfl,rfl⟩
        ·simp only [jo,zz,hA,c1,ht,c2,c3,c4,o0,w0,hw,n1,i0,uY,CC,q4,q3,z5]<;>exact⟨rfl,rfl⟩
       ·by_cases q3:oc=3
        ·simp only [jo,zz,hA,c1,ht,c2,c3,c4,o0,w0,hw,n1,i0,uY,CC,q4,q3,z5]<;>exact⟨rfl,rfl⟩
        ·simp only [jo,zz,hA,c1,ht,c2,c3,c4,o0,w0,hw,n1,i0,uY,CC,q4,q3,z5]<;>exact⟨rfl,rfl⟩
      ·by_cases tM:e2=15
       ·by_cases q3:oc=3
        ·simp only [jo,zz,hA,c1,ht,c2,c3,c4,o0,w0,hw,n1,i0,uY,CC,tM,q3,z5]<;>exact⟨rfl,rfl⟩
        ·simp only [jo,zz,hA,c1,ht,c2,c3,c4,o0,w0,hw,n1,i0,uY,CC,tM,q3,z5]<;>exact⟨rfl,rfl⟩
       ·by_cases q3:oc=3
        ·simp only [jo,zz,hA,c1,ht,c2,c3,c4,o0,w0,hw,n1,i0,uY,CC,tM,q3,z5]<;>exact⟨rfl,rfl⟩
        ·simp only [jo,zz,hA,c1,ht,c2,c3,c4,o0,w0,hw,n1,i0,uY,CC,tM,q3,z5]<;>exact⟨rfl,rfl⟩
     ·by_cases tM:e2=15
      ·by_cases q3:oc=3
       ·simp only [jo,zz,hA,c1,ht,c2,c3,c4,o0,w0,hw,n1,i0,uY,tM,q3,z5]<;>exact⟨rfl,rfl⟩
       ·simp only [jo,zz,hA,c1,ht,c2,c3,c4,o0,w0,hw,n1,i0,uY,tM,q3,z5]<;>exact⟨rfl,rfl⟩
      ·by_cases q3:oc=3
       ·simp only [jo,zz,hA,c1,ht,c2,c3,c4,o0,w0,hw,n1,i0,uY,tM,q3,z5]<;>exact⟨rfl,rfl⟩
       ·simp only [jo,zz,hA,c1,ht,c2,c3,c4,o0,w0,hw,n1,i0,uY,tM,q3,z5]<;>exact⟨rfl,rfl⟩
    ·omega
   ·by_cases tM:e2=15
    ·by_cases q3:oc=3
     ·simp only [jo,zz,hA,c1,ht,c2,c3,c4,o0,w0,hw,n1,tM,q3,z5]<;>exact⟨rfl,rfl⟩
     ·simp only [jo,zz,hA,c1,ht,c2,c3,c4,o0,w0,hw,n1,tM,q3,z5]<;>exact⟨rfl,rfl⟩
    ·by_cases q3:oc=3
     ·simp only [jo,zz,hA,c1,ht,c2,c3,c4,o0,w0,hw,n1,tM,q3,z5]<;>exact⟨rfl,rfl⟩
     ·simp only [jo,zz,hA,c1,ht,c2,c3,c4,o0,w0,hw,n1,tM,q3,z5]<;>exact⟨rfl,rfl⟩
  ·simp only [jo,zz,hA,c1,ht,o0,w0,cN,if_true,if_false,aX,ax]<;>exact⟨rfl,rfl⟩
end
structure Sx (s k:D) (n:Nat):Prop where
 g:Gs s n
 wk:Wd (.sl 8) k
 n2s:s≠.i 2
 n2k:k≠.i 2
structure Sw (s k:D) (n:Nat):Prop where
 g:Gs s n
 wk:Wd (.sl 8) k
theorem Sx.sw {s k:D} {n:Nat} (S:Sx s k n):Sw s k n:=⟨S.g,S.wk⟩
theorem Sw.st {s k:D} {n:Nat} (S:Sw s k n):Sk s k:=⟨S.g.wd,S.wk⟩
theorem Sx.st {s k:D} {n:Nat} (S:Sx s k n):Sk s k:=S.sw.st
instance {s k:D} {n:Nat}:CoeOut (Sx s k n) (Sk s k):=⟨Sx.st⟩
instance {s k:D} {n:Nat}:CoeOut (Sw s k n) (Sk s k):=⟨Sw.st⟩
theorem Sx.mono {s k:D} {n m:Nat} (S:Sx s k n) (h:n<=m):Sx s k m:=⟨S.g.mono h,S.wk,S.n2s,S.n2k⟩
abbrev eZ (k:D) (t:Int) (x:KT):D:=dL (eV k.l t x.d)
theorem bX (a:D) (l:List D):dL (a::l)= .p a (dL l):=rfl
theorem cG:dL []= .i 0:=rfl
structure nF (d0 d1 s:D) (t op obj arg tries:Int) (n:Nat) (s':D) (e1 e2 e3 e4 e5 oc:Int):Prop where
 eq:L 400 [enc d0,enc d1,enc s,t,op,obj,arg,tries]=some [enc s',e1,e2,e3,e4,e5,oc]
 no:oc=0->s'=s/\e1=0/\e2=0/\e3=0/\e4=0/\e5=0
 oc3:oc=0\/oc=2\/oc=3
 gs:Gs s' (n+1)
 len:s'.l.length=s.l.length
 n2:s≠.i 2->s'≠.i 2
 e3:dV .i64 e3
 e4:dV .i64 e4
theorem oe {d0 d1 s:D} {t op obj arg tries:Int} {n:Nat} (h0:Wd (.sl 3) d0) (U:Wd (.sl 4) d1) (G:Gs s n) (hn:n<17592186043904) (ht:dV .i64 t) (mI:dV .u8 op) (GA:dV .i64 obj) (ha:dV .i64 arg) :
 ∃s' e1 e2 e3 e4 e5 oc,nF d0 d1 s t op obj arg tries n s' e1 e2 e3 e4 e5 oc:=by
 have hf:=G.kr (by omega:n<17592186044415);have z:dV .i64 0:=⟨J,J⟩;by_cases A:Acc d0 d1 s t op obj
 ·obtain⟨_,o,c,dn,g,r,v,T,hL⟩:=re (arg:=arg) (tries:=tries) h0 U G.wd hf mI A;rw [zQ] at hL;have o0:=A.o0;have o1:=A.o1;obtain⟨i,rfl⟩ : ∃i:Nat,obj=(i:Int):=⟨obj.toNat,J⟩;have hi:i<s.l.length:=J
  have gS:=G.rows _ (aF hi);have e:s.l[i]=dL [.i o,.i c,.i dn,.i g,r,v]:=by rw [<- bT hi]; exact T.is
  rw [e] at gS;have hA:=QF (M:=Mx d0 (i:Int)) (mo:=Mo d0 s (i:Int)) (op:=op) (tries:=tries) T (n:=n) gS.1 gS.2 J ht ha;have hE:=akd (M:=Mx d0 (i:Int)) (mo:=Mo d0 s (i:Int)) (th:=t) (op:=op) (tries:=tries) T (by have:=gS.1; have:r.l.length<=n:=this; omega) ha
  have hM:Dp (act (Mx d0 (i:Int)) (Mo d0 s (i:Int)) t op arg tries o c dn g r v)\/0<=Mx d0 (i:Int)/\Mx d0 (i:Int)<(s.l.length:Int):=by
   by_cases h:op=12\/op=24
   ·have:=Gn h0 U G.wd hf mI A h;exact .inr ⟨this.1,this.2.1⟩
   ·exact .inl (xF J J)
  have hg:=Rz G hA o0 o1 hM;have Y:=ED s (i:Int) (Mx d0 (i:Int)) (act (Mx d0 (i:Int)) (Mo d0 s (i:Int)) t op arg tries o c dn g r v);generalize act (Mx d0 (i:Int)) (Mo d0 s (i:Int)) t op arg tries o c dn g r v=B at *
  have hn2:s≠.i 2->gk s (i:Int) (Mx d0 (i:Int)) B≠.i 2:=fun _ he=>by rw [he] at Y;have:(D.i 2).l.length=0:=rfl;omega
  cases B with
  |nH=>exact⟨s,0,0,0,0,0,0,hL,fun _=> ⟨rfl,rfl,rfl,rfl,rfl,rfl⟩,.inl rfl,hg,rfl,fun h=>h,z,z⟩
  |vu=>exact⟨s,t,27,_,_,0,2,hL,fun h=>absurd h J,.inr (.inl rfl),hg,rfl,fun h=>h,GA,ra _⟩
  |res o' c' gK g' r' v' m a oc=>exact⟨_,t,op,_,a,0,oc,hL,fun h=>by have:=hA.2.2.2.2.2.2.2.2.2; omega,.inr hA.2.2.2.2.2.2.2.2.2,hg,Y,hn2,GA,hE⟩
 ·exact⟨s,0,0,0,0,0,0,Bq h0 U G.wd hf mI A,fun _=> ⟨rfl,rfl,rfl,rfl,rfl,rfl⟩,.inl rfl,G.mono (am9 n),rfl,fun h=>h,z,z⟩
noncomputable abbrev stE (d0 d1 s k:D) (t:Int):Nat->Int:=cY L (low [enc d0,enc d1,enc s,enc k,t])
theorem OJ {k:D} {t:Int} {x:KT} (h:k=dL k.l) (t0:0<=t) (t1:t<(k.l.length:Int)) (hk:k.at t=x.d):eZ k t x=k:=by
 obtain⟨i,rfl⟩ : ∃i:Nat,t=(i:Int):=⟨t.toNat,J⟩;have hi:i<k.l.length:=J
 rw [bT hi] at hk;unfold eZ;rw [<- hk];exact ec h hi
section
variable {d0 d1 s k:D} {t:Int} (S:Sk s k)
include S
theorem aab (hR:L 1550 [enc d0,enc d1,enc s,enc k,t]=some [0]):L 1850 [enc d0,enc d1,enc s,enc k,t]=some [enc s,enc k,0,0,0,0,0,0]:=by
 by_cases hr:t<0\/(k.l.length:Int)<=t
 ·rcases IJ S hr with h|⟨h,he⟩|⟨h,he⟩
  ·have K:dY (stE d0 d1 s k t) nq= .out [enc s,enc k,0,0,0,0,0,0]:=by
    simp only [nq,zz,h,hR,Int.reduceEq]
   rw [bP,C2];exact congrArg (fin L) K
  ·subst he
   have K:dY (stE d0 d1 s (.i 1) t) nq= .out [enc s,enc (.i 1),0,0,0,0,0,0]:=by simp only [nq,zz,h,hR,Int.reduceEq]
   rw [bP,C2];exact congrArg (fin L) K
  ·subst he
   have K:dY (stE d0 d1 s (.i 2) t) nq= .out [enc s,enc (.i 2),0,0,0,0,0,0]:=by simp only [nq,zz,h,hR,Int.reduceEq]
   rw [bP,C2];exact congrArg (fin L) K
 ·obtain⟨i,rfl⟩ : ∃i:Nat,t=(i:Int):=⟨t.toNat,J⟩;have hi:i<k.l.length:=J
  obtain⟨a,lc,w,o,g,tr,T⟩:=gM S.wk _ (aF hi);have h:=Ci S hi T;have hs:eZ k (i:Int) ⟨a,lc,w,o,g,tr⟩ = k:=OJ (xT S.wk J).sh J J (by rw [bT hi,T.is]);simp only [eZ,KT.d,bX,cG] at hs;have ha:qP lc=3\/qP lc=4:=by unfold qP; split<;>simp
  have K:dY (stE d0 d1 s k (i:Int)) nq= .out [enc s,enc k,0,0,0,0,0,0]:=by
   rcases ha with ha|ha
   ·rw [ha] at h;simp only [nq,zz,h,hR,hs,Int.reduceEq]
   ·rw [ha] at h;simp only [nq,zz,h,hR,hs,Int.reduceEq]
  rw [bP,C2];exact congrArg (fin L) K
end
structure Rs (d0 d1 s k:D) (t:Int) (x:KT):Prop where
 c:Cd d0 d1
 r:Rt d0 d1 t x
 hk:k.at t=x.d
 ht:t<(k.l.length:Int)
 yes:L 1550 [enc d0,enc d1,enc s,enc k,t]=some [1]
theorem ae5 {d0 d1 s k:D} {t:Int} {n:Nat} (S:Sw s k n) (hn:n<17592186044000) (h0:Wd (.sl 3) d0) (U:Wd (.sl 4) d1):L 1550 [enc d0,enc d1,enc s,enc k,t]=some [0]\/∃x,Rs d0 d1 s k t x:=by
 obtain⟨ys,hL,b,rfl,hb⟩:=LM (k:=k) h0 U (S.g.kr J).rows U.len t;rcases hb with ⟨rfl,_⟩|⟨rfl,t0,t1,M⟩
 ·exact .inl hL
 ·refine .inr ?_;obtain⟨hle,hO⟩:=M.2;obtain⟨i,rfl⟩ : ∃i:Nat,t=(i:Int):=⟨t.toNat,J⟩;have hi:i<k.l.length:=J
  have W:i<d1.l.length:=J
  obtain⟨a,lc,w,o,g,tr,T⟩:=gM S.wk _ (aF hi);have ok:=hO i hi;unfold OkK at ok;rw [T.is] at ok;simp only [zg,ay,nI] at ok;refine⟨⟨a,lc,w,o,g,tr⟩,(MR.code h0 U (S.g.kr J).rows M).1,⟨J,J,?_,T.Y,T.hg⟩,by rw [bT hi,T.is],J,hL⟩;rw [bT W];exact ok
theorem LI {d0 d1 s k:D} {t:Int} {n:Nat} (S:Sx s k n) (hn:n<17592186043904) (h0:Wd (.sl 3) d0) (U:Wd (.sl 4) d1):L 1550 [enc d0,enc d1,enc s,enc k,t]=some [0]\/∃x,Rs d0 d1 s k t x:=ae5 S.sw J h0 U
section
variable {d0 d1 s k:D} {t:Int} {n:Nat} {x:KT} (S:Sk s k) (R:Rs d0 d1 s k t x)
include S R
theorem Rs.cp:L 9050 [t,enc s,enc k]=some [qP x.lc,t,enc s,enc k,x.a,enc x.lc,x.w,x.o,x.g,x.tr]:=by
 have t0:=R.r.t0;have ht:=R.ht;obtain⟨i,rfl⟩ : ∃i:Nat,t=(i:Int):=⟨t.toNat,J⟩;have hi:i<k.l.length:=J
 obtain⟨a,lc,w,o,g,tr,T⟩:=gM S.wk _ (aF hi);have h:=Ci S hi T;have e:=R.hk;rw [bT hi,T.is] at e;simp only [KT.d,bX,cG,D.p.injEq,D.i.injEq,and_true] at e;obtain⟨rfl,rfl,rfl,rfl,rfl,rfl⟩:=e;exact h
theorem Rs.self:dL (eV k.l t (.p (.i x.a) (.p x.lc (.p (.i x.w) (.p (.i x.o) (.p (.i x.g) (.p (.i x.tr) (.i 0))))))))=k:=by
 have Y:0<k.l.length:=by have:=R.r.t0; have:=R.ht; omega
 exact OJ (xT S.wk Y).sh R.r.t0 R.ht R.hk
theorem Ue (ho:fT d1 t x=1):L 1850 [enc d0,enc d1,enc s,enc k,t]=some [enc s,enc k,0,0,0,0,0,4]:=by
 have h:=R.cp S;have hs:=R.self S;have hR:=R.yes;have hO:=om (s:=s) R.hk R.ht R.r;rw [ho] at hO;have ha:qP x.lc=3\/qP x.lc=4:=by unfold qP; split<;>simp
 have K:dY (stE d0 d1 s k t) nq= .out [enc s,enc k,0,0,0,0,0,4]:=by
  rcases ha with ha|ha
  ·rw [ha] at h;simp only [nq,zz,h,hR,hs,hO,Int.reduceEq]
  ·rw [ha] at h;simp only [nq,zz,h,hR,hs,hO,Int.reduceEq]
 rw [bP,C2];exact congrArg (fin L) K
theorem OD (ho:fT d1 t x=0) (hn:low (fj d1 t x) 4=0):L 1850 [enc d0,enc d1,enc s,enc k,t]=some [enc s,enc (eZ k t (fA (fI d1 t x) x)),0,0,0,0,0,1]:=by
 have h:=R.cp S;have hs:=R.self S;have hR:=R.yes;have hO:=om (s:=s) R.hk R.ht R.r;have hN:=xd (s:=s) R.c R.hk R.ht R.r;have Lc:=mG R.r ho hn;rw [ho] at hO
 have K:dY (stE d0 d1 s k t) nq= .out [enc s,enc (eZ k t (fA (fI d1 t x) x)),0,0,0,0,0,1]:=by
  have hw:(fA (fI d1 t x) x).w=x.w/\(fA (fI d1 t x) x).o=x.o/\(fA (fI d1 t x) x).g=x.g/\(fA (fI d1 t x) x).tr=x.tr:=by
   unfold fA
   repeat' split
   all_goals exact⟨rfl,rfl,rfl,rfl⟩
  by_cases hp:0<x.lc.l.length
  ·have ha:qP x.lc=3:=an hp;rw [ha] at h;have Y:=L9 (s:=s) R.c R.ht R.r Lc;simp only [nq,zz,h,hR,hs,hO,hN,hn,Y,eZ,KT.d,bX,cG,hw,Int.reduceEq]
  ·have ha:qP x.lc=4:=ak hp;rw [ha] at h;obtain⟨Y,hc⟩:=L8 (s:=s) R.c R.ht R.r Lc J;simp only [nq,zz,h,hR,hs,hO,hN,hn,Y,eZ,KT.d,bX,cG,hw,hc,Int.reduceEq]
 rw [bP,C2];exact congrArg (fin L) K
theorem OC {op obj arg tries e1 e2 e3 e4 e5 oc:Int} {s':D} (ho:fT d1 t x=0) (hn:fj d1 t x= [op,obj,arg,tries,1]) (A:nF d0 d1 s t op obj arg tries n s' e1 e2 e3 e4 e5 oc) :
 L 1850 [enc d0,enc d1,enc s,enc k,t]=some [enc s',enc (eZ k t (iM (fI d1 t x) x op e2 e3 e4 oc)),e1,e2,e3,e4,e5,oc]:=by
 have h:=R.cp S;have hs:=R.self S;have hR:=R.yes;have hO:=om (s:=s) R.hk R.ht R.r;have hN:=xd (s:=s) R.c R.hk R.ht R.r;rw [ho] at hO;rw [hn] at hN
 have hx:x.w=0->x.a<(Nc d1 t:Int):=fun w0=>by unfold fT at ho;rw [an w0] at ho;have:=R.r.ok.2.1;unfold Nc at ho ⊢;split at ho<;>omega
 have hE:M! e1 e2 e3 e4 e5 oc= [e1,e2,e3,e4,e5]:=by
  unfold M!;split
  ·rename_i h0;obtain⟨_,rfl,rfl,rfl,rfl,rfl⟩:=A.no h0;rfl
  ·rfl
 have K:dY (stE d0 d1 s k t) nq= .out [enc s',enc (eZ k t (iM (fI d1 t x) x op e2 e3 e4 oc)),e1,e2,e3,e4,e5,oc]:=by
  by_cases hp:0<x.lc.l.length
  ·have ha:qP x.lc=3:=an hp;rw [ha] at h;have Y:=Lt R.c R.ht R.r A.eq (fun h=>(A.no h).1) hx;rw [hE] at Y;simp only [aX,ax] at Y;simp only [nq,zz,h,hR,hs,hO,hN,Y,eZ,KT.d,bX,cG,Int.reduceEq]
  ·have ha:qP x.lc=4:=ak hp;rw [ha] at h;obtain⟨Y,hc⟩:=Ls R.c R.ht R.r A.eq (fun h=>(A.no h).1) hx J;rw [hE] at Y;simp only [aX,ax] at Y;simp only [nq,zz,h,hR,hs,hO,hN,Y,eZ,KT.d,bX,cG,hc,Int.reduceEq]
 rw [bP,C2];exact congrArg (fin L) K
end
theorem dw.jmp {j k:Nat} {xs ys:List Int} {t:T Lf} {p:List Int->Prop} (e:S.tree j=t) (h:dY (cY L (low xs)) t= .jump k ys) (q:dw k ys p):dw j xs p:=by refine dw.of ?_;rw [e,h];exact .jump q
theorem dw.ret {j:Nat} {xs ys:List Int} {t:T Lf} {p:List Int->Prop} (e:S.tree j=t) (h:dY (cY L (low xs)) t= .out ys) (q:p ys):dw j xs p:=by refine dw.of ?_;rw [e,h];exact .out q
theorem Hd (m:Nat) (hm:m<=60) (ih: ∀(k n:Int) (s kids:D),Wd .str s->Wd (.sl 6) kids->dw 150 [k,enc s,n,enc kids,(m:Int)] one) (x3 x4 x5:Int) (kids:D) (hk:Wd (.sl 6) kids) :
 ∀(j i:Nat) (x1:Int),i+j=kids.l.length->dw 151 [((m+1:Nat):Int),x1,(i:Int),x3,x4,x5,enc kids] one
 |0,i,x1,hi=>dw.ret abm (ys:=[x1]) (bV [] [.lt Qo VF] (ou [Qb]) (by simp only [zz]<;>omega) ad (by simp only [zz])) ⟨x1,rfl⟩
 |j+1,i,x1,hi=>by
  have Y:=hk.len;have dK:i<kids.l.length:=J
  have hw:=bO (n:=i) J;obtain⟨k,s,n,ks,he,_,hs,_,My⟩:=xt hk dK;have ha:kids.at (i:Int)=dL [.i k,s,.i n,ks]:=by rw [bT dK]; exact he
  obtain⟨ys,Pt,z,rfl⟩:=ih k n s ks hs My;have hw2:IntKind.i64.wrap (((m+1:Nat):Int)-1)=(m:Int):=by rw [me J J]; omega
  by_cases hx:10000<x1
  ·exact dw.ret abm (ys:=[x1]) (bV [.lt Qo VF,.lt (.lit 10000) Qb] [] (ou [Qb]) (by simp only [zz]<;>omega) ad (by simp only [zz])) ⟨x1,rfl⟩
  ·exact dw.jmp abm (bV [.lt Qo VF,.eq (a0 150 Qfb) Q0] [.lt (.lit 10000) Qb,K6] (ju 151 [Qf,wr (.add Qb (rr 150 Qfb 0)),QU,Qm,cO,dj,eQ]) (by simp only [zz,ha,zg,hw2,Pt]<;>omega) ad (by simp only [zz,ha,zg,hw2,Pt,hw]<;>rfl)) (Hd m hm ih x3 x4 x5 kids hk j (i+1) (IntKind.i64.wrap (x1+z)) J)
theorem LF: ∀(m:Nat),m<=60->∀(k n:Int) (s kids:D),Wd .str s->Wd (.sl 6) kids->dw 150 [k,enc s,n,enc kids,(m:Int)] one
 |0,_,k,n,s,kids,_,_=>dw.ret agE (ys:=[10000]) (bV [Qe8] [] (ou [.lit 10000]) (by simp only [zz]<;>omega) ad (by simp only [zz])) ⟨_,rfl⟩
 |m+1,hm,k,n,s,kids,hs,hk=>dw.jmp agE (ys:=[((m+1:Nat):Int),_,(0:Nat),k,enc s,n,enc kids]) (bV [] [Qe8] (ju 151 [cO,wr (.add Q0 (wr (.quo Qc (.lit 100)))),Qa,Qf,Qb,Qo,Qm]) (by simp only [zz]<;>omega) ad (by simp only [lY,List.map,bQ,Nat.reduceLT,bM,bN]<;>rfl)) (Hd m J (LF m J) k (enc s) n kids hk kids.l.length 0 _ J)
section
variable {d0 d1:D} (U:Wd (.sl 4) d1)
include U
theorem Fk (x1 x2 x3:Int) (GF:D) (ha:Wd (.sl 6) GF) (q: ∀x0,dw 102 [x0,x1,IntKind.i64.wrap (x2+1),x3,enc d0,enc d1] yP): ∀(j i:Nat) (x0:Int),i+j=GF.l.length->dw 103 [x0,x1,x2,x3,enc GF,(GF.l.length:Int),(i:Int),enc d0,enc d1] yP
 |0,i,x0,hi=>dw.jmp agF (bV [] [.lt eQ dj] (ju 102 [Qf,Qb,QU,Qm,ia,jm]) (by simp only [zz]<;>omega) ad (by simp only [zz])) (q x0)
 |j+1,i,x0,hi=>by
  have Y:=ha.len;have dK:i<GF.l.length:=J
  have hw:=bO (n:=i) J;obtain⟨k,s,n,ks,he,_,hs,_,My⟩:=xt ha dK;have hY:GF.at (i:Int)=dL [.i k,s,.i n,ks]:=by rw [bT dK]; exact he
  obtain⟨ys,Pt,z,rfl⟩:=LF 60 J k n s ks hs My;have Pt:L 150 [k,enc s,n,enc ks,60]=some [z]:=Pt;exact dw.jmp agF (bV [.lt eQ dj,.lt eQ VG,.eq (a0 150 Qe7) Q0] [.lt eQ Qa] (ju 103 [wr (.add Qf (rr 150 Qe7 0)),Qb,Qo,Qm,cO,dj,wr (.add eQ Q0),ia,jm]) (by simp only [zz,hY,zg,Pt]<;>omega) ad (by simp only [zz,hY,zg,Pt,hw]<;>rfl)) (Fk x1 x2 x3 GF ha q j (i+1) (IntKind.i64.wrap (x0+z)) J)
theorem U6 (i:Nat) (hi:i<d1.l.length) (q: ∀x0,dw 101 [x0,(d1.l.length:Int),((i+1:Nat):Int),enc d0,enc d1] yP): ∀(j k:Nat) (x0:Int),(∀xY lc cd,d1.l[i]=dL [xY,lc,cd]->k+j=cd.l.length)->dw 102 [x0,(i:Int),(k:Int),(d1.l.length:Int),enc d0,enc d1] yP:=by
 have Y:=U.len;have hw:=bO (n:=i) J;obtain⟨xY,lc,cd,he,_,_,Su⟩:=zq U hi;have hY:d1.at (i:Int)=dL [xY,lc,cd]:=by rw [bT hi]; exact he
 have DK:=Su.len;intro j
 induction j with
 |zero=> intro k x0 hk;have hk:=hk _ _ _ he;exact dw.jmp abn (bV [.lt Qb (ln dj)] [QP,.lt Qo (ln (ce 2 NU))] (ju 101 [Qf,Qm,qS,cO,dj]) (by simp only [zz,hY,zg]<;>omega) ad (by simp only [zz,hw]<;>rfl)) (q x0)
 |succ j ih=>
  intro k x0 hk;have GC:=hk _ _ _ he;by_cases h6:6000<x0
  ·exact dw.jmp abn (bV [.lt Qb (ln dj),.lt Qo (ln (ce 2 NU)),.lt (.lit 6000) Qf] [QP] (ju 101 [Qf,Qm,qS,cO,dj]) (by simp only [zz,hY,zg]<;>omega) ad (by simp only [zz,hw]<;>rfl)) (q x0)
  ·have Pl:k<cd.l.length:=J
   have hw2:=bO (n:=k) J;obtain⟨a,b,c,e,f,g,GF,Ao,_,_,_,_,_,_,has⟩:=Pa Su Pl;have alH:cd.at (k:Int)=dL [.i a,.i b,.i c,.i e,.i f,.i g,GF]:=by rw [bT Pl]; exact Ao
   refine dw.jmp abn (bV [.lt Qb (ln dj),.lt Qo (ln (ce 2 NU))] [QP,.lt (.lit 6000) Qf,K6] (ju 103 [Qf,Qb,Qo,Qm,Qe5,ln Qe5,Qa,cO,dj]) (by simp only [zz,hY,zg]<;>omega) ad (by simp only [zz,hY,alH,zg]<;>rfl)) (Fk U (i:Int) (k:Int) (d1.l.length:Int) GF has (fun x0=>?_) GF.l.length 0 x0 J);rw [hw2];exact ih (k+1) x0 fun xY lc cd he=>by have:=hk xY lc cd he; omega
theorem Fj: ∀(j i:Nat) (x0:Int),i+j=d1.l.length->dw 101 [x0,(d1.l.length:Int),(i:Int),enc d0,enc d1] yP
 |0,i,x0,hi=>by
  by_cases h6:6000<x0
  ·exact dw.ret abo (bV [.lt (.lit 6000) Qf] [xG] (ou [Q0]) (by simp only [zz]<;>omega) ad (by simp only [zz])) tV
  ·exact dw.ret abo (bV [] [xG,.lt (.lit 6000) Qf] (ou [Qa]) (by simp only [zz]<;>omega) ad (by simp only [zz])) tW
 |j+1,i,x0,hi=>by
  have dK:i<d1.l.length:=J
  obtain⟨xY,lc,cd,he,_,_,Su⟩:=zq U dK;refine dw.jmp abo (ys:=[_,(i:Int),((0:Nat):Int),(d1.l.length:Int),enc d0,enc d1]) (bV [xG,E?] [K6] (ju 102 [wr (.add Qf (wr (.add (ln Qdl) (ln (ce 2 Qdk))))),Qo,Qa,Qb,Qm,cO]) (by simp only [zz]<;>omega) ad (by simp only [zz]<;>rfl)) (U6 U i dK (fun x0=>Fj j (i+1) x0 J) cd.l.length 0 _ fun n' l' c' xm=>?_);rw [he] at xm;have:=yZ xm;simp only [List.cons.injEq,and_true] at this;rw [this.2.2];omega
theorem U5:dw 100 [enc d0,enc d1] yP:=
 dw.jmp aj5 (ys:=[_,(d1.l.length:Int),((0:Nat):Int),enc d0,enc d1]) (bV [] [] (ju 101 [wr (.add uS Qc),Qc,Qa,Qf,Qb]) (by simp only [zz]<;>omega) ad (by simp only [zz]<;>rfl)) (Fj U d1.l.length 0 _ J)
end
def jQ (x:D):D:=dL [.i 0,if (x.W 1).l.length=0 then .i 2 else dL (List.replicate (x.W 1).l.length (.i 0)),.i 0,.i 0,.i 0,.i 0]
def ee (d0:D):D:=if d0.l.length=0 then .i 1 else dL (d0.l.map iN)
def fu (d1:D):D:=if d1.l.length=0 then .i 1 else dL (d1.l.map jQ)
theorem Lp {l:List D} (h: ∀x∈l,∃a lc w o g tr,Kt x a lc w o g tr) (hn:l≠[]) (Y:l.length<=2199023255488):Wd (.sl 8) (dL l):=by
 have e:(l.map fun x=>x.l).map dL=l:=by
  rw [anv]
  conv=>rhs; rw [<- List.map_id l]
  apply anP;intro x hx;obtain⟨a,lc,w,o,g,tr,T⟩:=h x hx;rw [T.is];rfl
 rw [<- e];refine .many 8 [.int .i64,.sl 0,.int .u8,.int .i64,.int .i64,.int .i64] _ rfl (by simpa using hn) (by have:tu 8=64:=rfl; rw [this,bw]; omega) (fun r hr=>?_) fun r hr j d c U Z=>?_
 ·obtain⟨x,hx,rfl⟩:=bd.1 hr;obtain⟨a,lc,w,o,g,tr,T⟩:=h x hx;rw [T.is];rfl
 ·obtain⟨x,hx,rfl⟩:=bd.1 hr;obtain⟨a,lc,w,o,g,tr,T⟩:=h x hx;rw [T.is,bE] at U
  match j with
  |0=>simp at U Z; subst U Z; exact .int _ _ T.ha
  |1=>simp at U Z; subst U Z; exact T.Y
  |2=>simp at U Z; subst U Z; exact .int _ _ T.hw
  |3=>simp at U Z; subst U Z; exact .int _ _ T.ho
  |4=>simp at U Z; subst U Z; exact .int _ _ T.hg
  |5=>simp at U Z; subst U Z; exact .int _ _ T.ht
  |j+6=>simp at U
theorem WT (x:D) (h:(x.W 1).l.length<=17592186043904): ∃a lc w o g tr,Kt (jQ x) a lc w o g tr:=by
 have z:dV .i64 0:=⟨J,J⟩;refine⟨0,_,0,0,0,0,rfl,z,?_,⟨J,J⟩,z,z,z⟩;split
 ·exact .xc 0
 ·rename_i hn;refine wT (fun y hy=> ⟨0,(List.mem_replicate.1 hy).2,z⟩) (fun he=>?_) (by simpa using h);have:=congrArg List.length he;simp only [anu,aC] at this;omega
theorem yK {d1:D} (U:Wd (.sl 4) d1): ∀x∈d1.l,(x.W 1).l.length<=8796093021952:=by intro x hx;obtain⟨i,hi,rfl⟩:=anL hx;obtain⟨xY,lc,cd,he,_,hlc,_⟩:=zq U hi;rw [he];simp only [zg,ay];have:=hlc.room;have h3:tu 2=16:=rfl;rw [h3] at this;omega
theorem sH {d0 d1:D} (h0:Wd (.sl 3) d0) (U:Wd (.sl 4) d1) (ok:mF d0 d1):Sx (ee d0) (fu d1) 0:=by
 refine⟨?_,?_,?_,?_⟩
 ·unfold ee;split
  ·exact⟨.nil 7,fun x hx=>by simp [D.l] at hx⟩
  ·refine⟨G3 (fun x hx=>?_) (fun he=>?_) (by rw [bw]; have:=ok.1; omega),fun x hx=>?_⟩
   ·obtain⟨y,hy,rfl⟩:=bd.1 hx;obtain⟨kd,xY,ln,s1,s2,he,_,hnn,_⟩:=h0.decl y hy;rw [he];refine⟨-1,_,0,0,.i 1,.i 1,rfl,⟨J,J⟩,?_,.inl rfl,⟨J,J⟩,.nil 0,.nil 0⟩;split
    ·exact hnn
    ·exact⟨J,J⟩
   ·have:=congrArg List.length he;simp only [bw,aC] at this;omega
   ·rw [bE] at hx;obtain⟨y,hy,rfl⟩:=bd.1 hx;exact⟨az 0,az 0⟩
 ·unfold fu;split
  ·exact .nil 8
  ·refine Lp (fun x hx=>?_) (fun he=>?_) (by rw [bw]; have:=ok.2.1; omega)
   ·obtain⟨y,hy,rfl⟩:=bd.1 hx;exact WT y (by have:=yK U y hy; omega)
   ·have:=congrArg List.length he;simp only [bw,aC] at this;omega
 ·unfold ee;split
  ·intro h; cases h
  ·intro h;have:=congrArg (fun d=>d.l.length) h;simp only [bE,bw,jn,aC] at this;omega
 ·unfold fu;split
  ·intro h; cases h
  ·intro h;have:=congrArg (fun d=>d.l.length) h;simp only [bE,bw,jn,aC] at this;omega
theorem CJ (d1:D) (U:Wd (.sl 4) d1) (hlen:d1.l.length<=16) (s:D): ∀(k i:Nat) (acc:List D),i+k=d1.l.length->acc.length=i->
 L 1452 [enc d1,(d1.l.length:Int),(i:Int),enc s,enc (dL acc)]=some [enc s,enc (dL (acc++(d1.l.drop i).map jQ)),0]
 |0,i,acc,hi,ha=>by
  have c1: ¬(i:Int)<(d1.l.length:Int):=J
  rw [bP,e!,aoi J];simp only [Rp,zz,c1,cN,aoC,am8]
 |k+1,i,acc,hi,ha=>by
  have dK:i<d1.l.length:=J
  have W:d1.l.drop i=d1.l[i]::d1.l.drop (i+1):=amX dK;have ih:=CJ d1 U hlen s k (i+1) (acc++ [jQ d1.l[i]]) J (by simp [ha]);have c1:(i:Int)<(d1.l.length:Int):=J
  have c2: ¬((i:Int)<0):=J
  have w:=bO (n:=i) J;have c3:(acc.length:Int)<2199023255551:=J
  have hb:=yK U _ (aF dK);have c4:((((d1.l[i]).W 1).l.length:Nat):Int)<17592186044416:=J
  have e2:acc++(jQ d1.l[i]::(d1.l.drop (i+1)).map jQ)=acc++ [jQ d1.l[i]]++(d1.l.drop (i+1)).map jQ:=ae
  rw [W,aK,e2,<- ih,bP,e!];by_cases hz:((d1.l[i]).W 1).l.length=0
  ·have JP:((((d1.l[i]).W 1).l.length:Nat):Int)=0:=J
   have et:jQ d1.l[i]= .p (.i 0) (.p (.i 2) (.p (.i 0) (.p (.i 0) (.p (.i 0) (.p (.i 0) (.i 0)))))):=by unfold jQ; rw [an hz]; rfl
   rw [et];simp only [Rp,zz,c1,c2,w,bT dK,JP,c3,bE,bL]
  ·have JP: ¬((((d1.l[i]).W 1).l.length:Nat):Int)=0:=J
   have et:jQ d1.l[i]= .p (.i 0) (.p (dL (List.replicate ((d1.l[i]).W 1).l.length (.i 0))) (.p (.i 0) (.p (.i 0) (.p (.i 0) (.p (.i 0) (.i 0)))))):=by unfold jQ; rw [ak hz]; rfl
   rw [et];simp only [Rp,zz,c1,c2,w,bT dK,JP,c3,c4,bE,br,bL]
theorem L7 (d1:D) (U:Wd (.sl 4) d1) (hlen:d1.l.length<=16) (s:D):L 1451 [enc d1,(d1.l.length:Int),enc s]=some [enc s,enc (fu d1),0]:=by
 by_cases hn:d1.l.length=0
 ·have c1: ¬(0:Int)<(d1.l.length:Int):=J
  have e:fu d1= .i 1:=by unfold fu; rw [an hn]
  rw [bP,e?,e];simp only [Rq,zz,c1,cN]
 ·have hp:0<d1.l.length:=J
  have c1:(0:Int)<(d1.l.length:Int):=J
  have e:fu d1=dL (d1.l.map jQ):=by unfold fu; rw [ak hn]
  have ih:=CJ d1 U hlen s (d1.l.length-1) 1 [jQ (d1.l[0]'hp)] J rfl
  have e1:[jQ (d1.l[0]'hp)]++(d1.l.drop 1).map jQ=d1.l.map jQ:=by
   conv=>rhs; rw [<- anq (l:=d1.l),amX hp]
   rfl
  rw [e1,<- e] at ih;have a0:d1.at 0=d1.l[0]'hp:=bT (i:=0) hp;have hb:=yK U _ (aF hp);have c4:((((d1.l[0]'hp).W 1).l.length:Nat):Int)<17592186044416:=J
  rw [<- ih,bP,e?];by_cases hz:((d1.l[0]'hp).W 1).l.length=0
  ·have JP:((((d1.l[0]'hp).W 1).l.length:Nat):Int)=0:=J
   have et:dL [jQ (d1.l[0]'hp)]= .p (.p (.i 0) (.p (.i 2) (.p (.i 0) (.p (.i 0) (.p (.i 0) (.p (.i 0) (.i 0))))))) (.i 0):=by unfold jQ; rw [an hz]; rfl
   rw [et];simp only [Rq,zz,c1,a0,JP,jn,ax,bX,cG,bL,bn]
  ·have JP: ¬((((d1.l[0]'hp).W 1).l.length:Nat):Int)=0:=J
   have et:dL [jQ (d1.l[0]'hp)]= .p (.p (.i 0) (.p (dL (List.replicate ((d1.l[0]'hp).W 1).l.length (.i 0))) (.p (.i 0) (.p (.i 0) (.p (.i 0) (.p (.i 0) (.i 0))))))) (.i 0):=by unfold jQ; rw [ak hz]; rfl
   rw [et];simp only [Rq,zz,c1,a0,JP,c4,jn,ax,bX,cG,br,bL,bn]
theorem HO {d0 d1:D} (U:Wd (.sl 4) d1) (hc:L 450 [enc d0,enc d1]=some [0]) (ok:mF d0 d1):L 1450 [enc d0,enc d1]=some [enc (ee d0),enc (fu d1),0]:=by
 have h3:L 300 [enc d0,enc d1]=some [enc (ee d0)]:=by
  by_cases hn:d0.l.length=0
  ·have e:ee d0= .i 1:=by unfold ee; rw [an hn]
   rw [e];exact y_ hc (.inr hn)
  ·have e:ee d0=dL (d0.l.map iN):=by unfold ee; rw [ak hn]
   rw [e];exact y! hc ok.1 J
 have K:dY (cY L (low [enc d0,enc d1])) Xp= .jump 1451 [enc d1,(d1.l.length:Int),enc (ee d0)]:=by refine bV [Qfv,Qfw,.eq (a0 300 Db) Q0] [] (ju 1451 [Qb,Qc,rr 300 Db 0]) (by simp only [zz,hc,h3]<;>omega) ad ?_;simp only [zz,h3]
 rw [bP,f?];exact (congrArg (fin L) K).trans (L7 d1 U ok.2.1 _)
theorem UL {d0 d1:D} {c:Int} (hc:L 450 [enc d0,enc d1]=some [c]) (h:c≠0):L 1450 [enc d0,enc d1]=some [enc (.i 1),enc (.i 1),c]:=by
 have K:dY (cY L (low [enc d0,enc d1])) Xp= .out [enc (.i 1),enc (.i 1),c]:=by refine bV [Qfv] [Qfw] (ou [Qh,Qh,rr 450 Db 0]) (by simp only [zz,hc]<;>omega) ad ?_;simp only [zz,hc]
 rw [bP,f?];exact congrArg (fin L) K
theorem jC {k:D} {t:Int} (t0:0<=t) (ht:t<(k.l.length:Int)) (x:KT):(eZ k t x).at t=x.d:=by obtain⟨i,rfl⟩ : ∃i:Nat,t=(i:Int):=⟨t.toNat,J⟩;rw [j5,bE,wv J];rfl
theorem gg (k:D) (t:Int) (x:KT):(eZ k t x).l.length=k.l.length:=by rw [bE,fh]
theorem lF {d1:D} {t:Int} {x:KT} (ho: ¬fT d1 t x=1) (h: ¬low (fj d1 t x) 4=0): ∃op obj arg tr,fj d1 t x= [op,obj,arg,tr,1]:=by
 unfold fT at ho;unfold fj at h ⊢;by_cases w0:x.w=0
 ·rw [an w0] at ho h ⊢;by_cases a0:x.a=(Nc d1 t:Int)
  ·rw [an a0] at ho;omega
  ·rw [ak a0] at h ⊢;by_cases U:((fI d1 t x).W 0).n=1
   ·rw [an U];exact⟨_,_,_,_,rfl⟩
   ·rw [ak U] at h ⊢;by_cases Z:((fI d1 t x).W 0).n=2
    ·rw [an Z];exact⟨_,_,_,_,rfl⟩
    ·rw [ak Z] at h;exact absurd rfl h
 ·rw [ak w0];exact⟨_,_,_,_,rfl⟩
theorem pG (d1:D) (t:Int) (x:KT):fT d1 t x=0\/fT d1 t x=1:=by
 unfold fT;split
 ·split
  ·exact .inr rfl
  ·exact .inl rfl
 ·exact .inl rfl
theorem pH {d0 d1:D} {t:Int} {x:KT} (C:Cd d0 d1) (R:Rt d0 d1 t x) (hd0:d0.l.length<=64) {op obj arg tr b:Int} (hn:fj d1 t x= [op,obj,arg,tr,b]):dV .u8 op/\dV .i64 obj/\dV .i64 arg:=by
 have z8:dV .u8 0:=⟨J,J⟩;have z:dV .i64 0:=⟨J,J⟩;have ok:=R.ok;unfold fj at hn;by_cases w0:x.w=0
 ·rw [an w0] at hn;by_cases a0:x.a=(Nc d1 t:Int)
  ·rw [an a0] at hn;simp only [List.cons.injEq] at hn;obtain⟨rfl,rfl,rfl,_⟩:=hn;exact⟨z8,z,z⟩
  ·have gv:x.a<(Nc d1 t:Int):=by have:=ok.2.1; unfold Nc at a0 ⊢; omega
   have F:=C.inf R gv;rw [ak a0] at hn;by_cases U:((fI d1 t x).W 0).n=1
   ·rw [an U] at hn;simp only [List.cons.injEq] at hn;obtain⟨rfl,rfl,rfl,_⟩:=hn;exact⟨F.op,F.ob,abG F.ar R.ints⟩
   ·rw [ak U] at hn;by_cases Z:((fI d1 t x).W 0).n=2
    ·rw [an Z] at hn;simp only [List.cons.injEq] at hn;obtain⟨rfl,rfl,rfl,_⟩:=hn;exact⟨⟨J,J⟩,F.ob,z⟩
    ·rw [ak Z] at hn;simp only [List.cons.injEq] at hn;obtain⟨rfl,rfl,rfl,_⟩:=hn;exact⟨z8,z,z⟩
 ·rw [ak w0] at hn;simp only [List.cons.injEq] at hn;obtain⟨rfl,rfl,rfl,_⟩:=hn;obtain⟨_,_,_,_,_,hw⟩:=ok;exact⟨⟨J,J⟩,⟨J,J⟩,R.hg⟩
theorem S_ {lc:D} (h:Wd (.sl 0) lc) {z v:Int} (h0:0<=z) (U:z<(lc.l.length:Int)) (hv:dV .i64 v):Wd (.sl 0) (dL (eV lc.l z (.i v))):=by
 have:=h.room;have h3:tu 0=8:=rfl;rw [h3] at this;have hs:=fh lc.l z (.i v);refine wT (fun y hy=>?_) (fun he=>?_) (by rw [hs]; omega)
 ·rcases vT hy with h'|rfl
  ·exact (h.el1 rfl y h').i
  grind
 grind
theorem Rc {k:D} (hk:Wd (.sl 8) k) {t:Int} {x:KT} (h: ∃a lc w o g tr,Kt x.d a lc w o g tr) (hp:0<k.l.length):Wd (.sl 8) (eZ k t x):=by
 have hf:=hk.room;have h3:tu 8=64:=rfl;rw [h3] at hf;have hs:=fh k.l t x.d;refine Lp (fun y hy=>?_) (fun he=>?_) (by rw [hs]; omega)
 ·rcases vT hy with h'|rfl
  ·exact gM hk y h'
  grind
 grind
section
variable {d0 d1 s k:D} {t:Int} {n:Nat} {x:KT}
theorem Me {x:KT} (ha:dV .i64 x.a) (Y:Wd (.sl 0) x.lc) (hw:dV .u8 x.w) (ho:dV .i64 x.o) (hg:dV .i64 x.g) (ht:dV .i64 x.tr): ∃a lc w o g tr,Kt x.d a lc w o g tr:=⟨_,_,_,_,_,_,rfl,ha,Y,hw,ho,hg,ht⟩
theorem Rt.kt (C:Cd d0 d1) (R:Rt d0 d1 t x): ∃a lc w o g tr,Kt x.d a lc w o g tr:=by obtain⟨a0,a1,_,t0,t1,hw⟩:=R.ok;have W:=C.ok.1;have hnc:=(C.code R.t0 R.t1).len;exact Me ⟨J,J⟩ R.Y ⟨J,J⟩ ⟨J,J⟩ R.hg ⟨J,J⟩
theorem WM (C:Cd d0 d1) (R:Rt d0 d1 t x) (hx:x.w=0->x.a<(Nc d1 t:Int)) {op e2 e3 e4 oc:Int} (h3:dV .i64 e3) (h4:dV .i64 e4): ∃a lc w o g tr,Kt (iM (fI d1 t x) x op e2 e3 e4 oc).d a lc w o g tr:=by
 obtain⟨a0,a1,Pk,t0,t1,hw⟩:=R.ok;have W:=C.ok.1;have hnc:=(C.code R.t0 R.t1).len;have ka:dV .i64 x.a:=⟨J,J⟩;have kw:dV .u8 x.w:=⟨J,J⟩;have ko:dV .i64 x.o:=⟨J,J⟩;have kt:dV .i64 x.tr:=⟨J,J⟩;have z:dV .i64 0:=⟨J,J⟩;have z8: ∀v:Int,v=0\/v=24\/v=25->dV .u8 v:=fun v h=> ⟨J,J⟩;unfold iM;split
 ·split
  ·exact Me ka R.Y kw ko R.hg (by
    show dV .i64 (if 4611686018427387904<x.tr+1 then 4611686018427387904 else x.tr+1)
    split<;>exact⟨J,J⟩)
  ·exact Me ka R.Y kw ko R.hg kt
 ·split
  ·rename_i w0;have F:=C.inf R (hx w0);have ok:=F.ok;have U:=hx w0;unfold Nc at U;unfold OkI at ok;have k1:dV .i64 (x.a+1):=⟨J,J⟩;refine Me ?_ ?_ ?_ ?_ ?_ z
   ·show dV .i64 (if _ then _ else _);split
    ·exact F.to
    grind
   ·show Wd (.sl 0) (if _ then _ else _);split
    ·rename_i hc;refine S_ R.Y J ?_ h4
     grind
    ·exact R.Y
   all_goals grind
  ·exact Me ka R.Y (z8 _ (.inl rfl)) z z z
theorem Rv {k:D} (hp:0<k.l.length) (t:Int) (x:KT):eZ k t x≠.i 2:=fun he=>by have:=gg k t x;rw [he] at this;have e:(D.i 2).l.length=0:=rfl;omega
theorem D7 (S:Sx s k n) (C:Cd d0 d1) (R:Rt d0 d1 t x) (ht:t<(k.l.length:Int)) (hx:x.w=0->x.a<(Nc d1 t:Int)) {op obj arg tries e1 e2 e3 e4 e5 oc:Int} {s':D} (A:nF d0 d1 s t op obj arg tries n s' e1 e2 e3 e4 e5 oc) :
 Sx s' (eZ k t (iM (fI d1 t x) x op e2 e3 e4 oc)) (n+1):=by
 have hp:0<k.l.length:=by have:=R.t0; omega
 exact⟨A.gs,Rc S.wk (WM C R hx A.e3 A.e4) hp,A.n2 S.n2s,Rv hp _ _⟩
theorem Gi (R:Rt d0 d1 t x) (ho:fT d1 t x=0):x.w=0->x.a<(Nc d1 t:Int):=fun w0=>by unfold fT at ho;rw [an w0] at ho;have:=R.ok.2.1;unfold Nc at ho ⊢;split at ho<;>omega
end
theorem bC: ∀(l:List D) (k v k':D),df (jP l k v) k'=if k=k' then some v else df l k'
 |[],k,v,k'=>by
  simp only [jP,df];by_cases h:k=k'
  ·rw [an h]; exact an h
  ·rw [ak h]; exact ak h
 |d::l,k,v,k'=>by
  simp only [jP];by_cases h:ji d=k
  ·rw [an h];simp only [df];by_cases Z:k=k'
   ·rw [an Z]; exact an Z
   ·rw [ak Z,ak (fun h3=>Z (h.symm.trans h3))]; exact ak Z
  ·rw [ak h];simp only [df,bC l k v k']
   grind
def rN (m:Int) (l:List D):Prop:=(∀x∈l,0<=x.n/\x.n<m)/\(l.map D.n).Nodup
def iL (N o dn:Int) (rl vl:Nat):Prop:=(N<0->(vl:Int)=0)/\(0<=N->(vl:Int)<=N)/\(o<0\/(rl:Int)=0/\dn=0)
def QH (s:D) (l:List D):Prop:= ∀n:Int,(df s.l (.i n)=none/\n∉l.map D.n)\/(df s.l (.i n)=some (.i 1)/\n∈l.map D.n)
theorem XU {s x:D} {l:List D} (h:QH s l):QH (dL (jP s.l (.i x.n) (.i 1))) (l++ [x]):=fun n=>by
 rw [bE,bC,ank];by_cases hn:x.n=n
 ·rw [an (by rw [hn])];exact .inr ⟨rfl,aok _ (by simp [hn])⟩
 ·rw [ak (fun h=>hn (by simpa using h))];rcases h n with ⟨U,Z⟩|⟨U,Z⟩
  ·refine .inl ⟨U,fun h3=>?_⟩;rcases am2.1 h3 with h3|h3
   ·exact Z h3
   ·simp only [List.map,aH,am6,or_false] at h3;exact hn h3.symm
  ·exact .inr ⟨U,aoP _ Z⟩
theorem DG {P Q:Prop} {ys:List Int} (h:P) (hQ:UR Q ys):UR (P/\Q) ys:=by
 grind
theorem tU {P Q:Prop} (h: ¬P):UR (P/\Q) [0]:=Ac fun q=>h q.1
theorem LL (m:Int) (r:D) (Y:r.l.length<=140737488351232) (k xY N x7 x8 o c dn g:Int) (v:D): ∀(j i:Nat) (seen:D),i+j=r.l.length->QH seen (r.l.take i)->rN m (r.l.take i)->
 dw 501 [m,enc r,(r.l.length:Int),(i:Int),k,xY,N,x7,x8,o,c,dn,g,enc v,enc seen] (UR (rN m r.l/\iL N o dn r.l.length v.l.length))
 |0,i,seen,hi,_,hR=>by
  have c1: ¬(i:Int)<(r.l.length:Int):=J
  rw [anK J] at hR;refine dw.of ?_;unfold iL;rw [Vo];simp only [Oq,zz,c1]
  repeat' first
   |exact .out (DG hR (Ac J))
   |exact .out (DG hR (Sc J))
   |refine .ite (fun _=>?_) (fun _=>?_)
 |j+1,i,seen,hi,hS,hR=>by
  have dK:i<r.l.length:=J
  have c1:(i:Int)<(r.l.length:Int):=J
  have c2: ¬((i:Int)<0):=J
  have w:=bO (n:=i) J;have ht:r.l.take (i+1)=r.l.take i++ [r.l[i]]:=by rw [List.take_add_one,aW dK]; rfl
  have BU:r.l[i]∈r.l:=aF dK;have ih:=fun h=>LL m r Y k xY N x7 x8 o c dn g v j (i+1) (dL (jP seen.l (.i (r.l[i]).n) (.i 1))) J (by rw [ht]; exact XU hS) h;refine dw.of ?_;rw [Vo];rcases hS (r.l[i]).n with ⟨U,Z⟩|⟨U,Z⟩
  ·simp only [Oq,zz,c1,c2,w,bT dK,U,aY,aG];refine .ite (fun q=> .out (tU fun R=>?_)) (fun q=> .ite (fun q2=>?_) (fun q2=> .out (tU fun R=>?_)))
   ·have:=R.1 _ BU;omega
   ·refine .jump (ih ?_);rw [ht];refine⟨fun x hx=>?_,?_⟩
    ·rcases am2.1 hx with hx|hx
     ·exact hR.1 x hx
     ·simp only [aH,am6,or_false] at hx;subst hx;exact⟨J,q2⟩
    ·rw [ank,anY];refine⟨hR.2,ae,fun a ha b hb=>?_⟩;simp only [List.map,aH,am6,or_false] at hb;subst hb;intro he;subst he;exact Z ha
   ·have:=R.1 _ BU;omega
  ·simp only [Oq,zz,c1,c2,w,bT dK,U,bI]
   have nd: ¬rN m r.l:=fun R=>by
    have hn:=R.2;have e:r.l=r.l.take i++r.l[i]::r.l.drop (i+1):=by rw [<- amX dK,anb]
    rw [e,ank,anY] at hn;exact hn.2.2 _ Z _ (by rw [aK]; exact aoQ) rfl
   refine .ite (fun q=> .out (tU nd)) (fun q=> .ite (fun q2=> .out (tU nd)) (fun q2=> .out (tU nd)))
theorem Us (m:Int) (r:D) (Y:r.l.length<=140737488351232) (k xY N x7 x8 o c dn g:Int) (v:D) :
 dw 501 [m,enc r,(r.l.length:Int),0,k,xY,N,x7,x8,o,c,dn,g,enc v,enc (.i 0)] (UR (rN m r.l/\iL N o dn r.l.length v.l.length)):=
 LL m r Y k xY N x7 x8 o c dn g v r.l.length 0 (.i 0) J (fun n=> .inl ⟨rfl,ae⟩) ⟨ae,ae⟩
def fH (k N c:Int):Prop:=k=9\/(k=3/\0<=c/\c<=N)\/(k=5/\0<=c/\c<=IntKind.i64.wrap (N-1))\/(k=7/\0<=c/\c<=1099511627776)\/(k≠3/\k≠5/\k≠7/\k≠9/\c=0)
theorem aaM (k x1 N x3 x4 c:Int): ∃a b:Int,L 650 [k,x1,N,x3,x4]=some [a,b]/\(b=0/\fH k N c\/b=1/\(fH k N c↔0<=c/\c<=a)):=by
 have:dw 650 [k,x1,N,x3,x4] (fun ys=> ∃a b:Int,ys= [a,b]/\(b=0/\fH k N c\/b=1/\(fH k N c↔0<=c/\c<=a))):=by
  unfold fH;refine dw.of ?_;rw [abf];simp only [X?,zz]
  repeat' first
   |exact .out ⟨_,_,rfl,J⟩
   |refine .ite (fun _=>?_) (fun _=>?_)
 obtain⟨ys,h,a,b,rfl,Z⟩:=this
 grind
def jy (k N m o c dn g:Int) (rl vl:Nat):Prop:=
 fH k N c/\-1<=o/\o<m/\0<=g/\g<=4611686018427387904/\(0<=o->k=1\/k=2\/k=6)/\(0<(rl:Int)->k=4\/k=2)/\(0<(vl:Int)->k=8)/\(dn≠0->k=6)/\(0<g->k=5)
def ng (k N m o c dn g:Int) (r v:D):Prop:=jy k N m o c dn g r.l.length v.l.length/\rN m r.l/\iL N o dn r.l.length v.l.length
set_option maxHeartbeats 4000000 in
theorem XO (k x1 N x3 x4 m o c dn g:Int) (r v:D) (Y:r.l.length<=140737488351232):dw 500 [k,x1,N,x3,x4,o,c,dn,g,enc r,enc v,m] (UR (ng k N m o c dn g r v)):=by
 unfold ng jy;obtain⟨a,b,hM,hb⟩:=aaM k x1 N x3 x4 c;have ih:=Us m r Y k x1 N x3 x4 o c dn g v;refine dw.of ?_;rw [abg];generalize fH k N c=H at *;by_cases b0:b=0
 ·subst b0
  have hH:H:=by
   grind
  simp only [Xc,zz,hM]
  repeat' first
   |exact .out (tU J)
   |exact .jump (let ⟨ys,hL,hB⟩:=ih; ⟨ys,hL,DG ⟨hH,J,J,J,J,J,J,J,J,J⟩ hB⟩)
   |refine .ite (fun _=>?_) (fun _=>?_)
 ·have hH:H↔0<=c/\c<=a:=by
   grind
  simp only [Xc,zz,hM,ak b0]
  repeat' first
   |exact .out (tU fun h=>by first |omega|(have:=hH.1 h.1; omega))
   |exact .jump (let ⟨ys,hL,hB⟩:=ih; ⟨ys,hL,DG ⟨hH.2 ⟨J,J⟩,J,J,J,J,J,J,J,J,J⟩ hB⟩)
   |refine .ite (fun _=>?_) (fun _=>?_)
theorem aaS {P:Prop} {j:Nat} {xs:List Int} (h:dw j xs (UR P)):L j xs=some [1]↔P:=by
 obtain⟨ys,hL,b,rfl,hb⟩:=h
 grind
theorem XP {d x:D} {m:Nat} {o c dn g:Int} {r v:D} (T:Tg x o c dn g r v) (Y:r.l.length<=140737488351232):Snd d x m↔ng (d.W 0).n (d.W 2).n (m:Int) o c dn g r v:=by
 have h:=aaS (XO (d.W 0).n (enc (d.W 1)) (d.W 2).n (enc (d.W 3)) (d.W 4).n (m:Int) o c dn g r v Y)
 have e:(if dn=0 then (0:Int) else 1)=dn:=by rcases T.W with rfl|rfl<;>rfl
 unfold Snd aae;rw [T.is];simp only [zg,ay,nI,e];exact h
theorem Jj {m:Int} {l l':List D} (h:rN m l) (hs:l'.Sublist l):rN m l':=⟨fun x hx=>h.1 x (hs.subset hx),h.2.sublist (hs.map _)⟩
theorem aao (m:Int):rN m []:=⟨ae,ae⟩
theorem LK {m t:Int} {l:List D} (h:rN m l) (hn: ∀x∈l,x.n≠t) (t0:0<=t) (t1:t<m):rN m (l++ [.i t]):=by
 refine⟨fun x hx=>?_,?_⟩
 ·rcases am2.1 hx with hx|hx
  ·exact h.1 x hx
  ·simp only [aH,am6,or_false] at hx;subst hx;exact⟨t0,t1⟩
 ·rw [ank,anY];refine⟨h.2,ae,fun a ha b hb=>?_⟩;simp only [List.map,aH,am6,or_false,nI] at hb
  grind
theorem ae6 {m t:Int} {l:List D} (h:rN m l) (t0:0<=t) (t1:t<m):rN m (wo t l++ [.i t]):=
 LK (Jj h List.filter_sublist) (fun x hx=>by simpa using (anm.1 hx).2) t0 t1
theorem aap {m:Int} {l:List D} (h:rN m l) (k:Nat):rN m (l.take k++l.drop (k+1)):=by rw [<- an3];exact Jj h (List.eraseIdx_sublist _ _)
theorem EE {r:D} {t:Int} (h:place r t<0): ∀x∈r.l,x.n≠t:=by
 rcases kV r t with ⟨_,Z⟩|⟨k,_,U,_⟩
 all_goals grind
def VL (k N m:Int):Act->Prop
 | .res o c dn g r v _ _ _=>ng k N m o c dn g r v
 |_=>True
theorem VL.ite {k N m:Int} {p:Prop} [Decidable p] {a b:Act} (ha:p->VL k N m a) (hb: ¬p->VL k N m b):VL k N m (if p then a else b):=by
 grind
theorem tQ {op k:Int} (h0:0<=op) (hk:kindOf op=k) (U:1<=k) :
 (op=1\/op=2\/op=3\/op=4)/\k=1\/(op=5\/op=6\/op=7\/op=8)/\k=2\/(op=9\/op=10\/op=11)/\k=3\/(op=12\/op=13\/op=14\/op=24)/\k=4\/(op=15\/op=25)/\k=5\/(op=16\/op=26)/\k=6\/(op=17\/op=18\/op=19)/\k=7\/(op=20\/op=21)/\k=8\/(op=22\/op=23)/\k=9:=by
 unfold kindOf at hk;by_cases h27:op<27
 ·have:op=0\/op=1\/op=2\/op=3\/op=4\/op=5\/op=6\/op=7\/op=8\/op=9\/op=10\/op=11\/op=12\/op=13\/op=14\/op=15\/op=16\/op=17\/op=18\/op=19\/op=20\/op=21\/op=22\/op=23\/op=24\/op=25\/op=26:=J
  rcases this with rfl|rfl|rfl|rfl|rfl|rfl|rfl|rfl|rfl|rfl|rfl|rfl|rfl|rfl|rfl|rfl|rfl|rfl|rfl|rfl|rfl|rfl|rfl|rfl|rfl|rfl|rfl
  all_goals simp at hk
  all_goals subst hk
  all_goals first |omega|simp
 grind
section
variable {d0 x:D} {k N m mo th op arg tries o c dn g:Int} {r v:D}
set_option maxHeartbeats 8000000 in
theorem abK (T:Tg x o c dn g r v) (S:ng k N m o c dn g r v) (mI:0<=op) (hk:kindOf op=k) (hO:qb d0 k N) (t0:0<=th) (t1:th<m) (hm:m<=16):VL k N m (act N mo th op arg tries o c dn g r v):=by
 obtain⟨P,R,E⟩:=S;have Ia:=T.hc.1;have Ld:=T.hc.2;have hg1:=T.hg.1;have W:=T.W;have pr:=gH r th;have pn:=fun h=>EE (r:=r) (t:=th) h;have rs:=fun h=>LK R (EE (r:=r) (t:=th) h) t0 t1;have Jg:=ae6 R t0 t1
 have rd:=aap R (place r th).toNat
 have r1:=Jj R (List.drop_sublist 1 r.l);obtain⟨k1,k2,_,kn,k5,_⟩:=hO;unfold jy fH at P;unfold iL at E;have MC:=tQ mI hk k1;rcases MC with ⟨h|h|h|h,GC⟩|⟨h|h|h|h,GC⟩|⟨h|h|h,GC⟩|⟨h|h|h|h,GC⟩|⟨h|h,GC⟩|⟨h|h,GC⟩|⟨h|h|h,GC⟩|⟨h|h,GC⟩|⟨h|h,GC⟩
 all_goals
  subst h;subst GC;simp only [act,Int.reduceEq,if_true,if_false,reduceIte]
  repeat' first
   |exact trivial
   |refine VL.ite (fun _=>?_) (fun _=>?_)
 all_goals
  refine⟨?_,?_,?_⟩
  ·clear rs Jg rd r1 pn;unfold jy fH
   try simp only [bE,gP,jn,a8,aR,aC,bu,IntKind.wrap_i64,true_or,or_true,true_and,and_true,implies_true,true_implies] at *
   omega
  ·try simp only [bE,gP,jn]
   first
    |exact R
    |exact rs J
    |exact Jg
    |exact rd
    |exact r1
    |exact aao _
  ·unfold iL
   try simp only [bE,gP,jn,a8,aR,aC,bu,bk,IntKind.wrap_i64,true_or,or_true,true_and,and_true,implies_true,true_implies] at *
   omega
end
structure amU (d0 d1 s k:D) (t:Int) (n:Nat) (s' k':D) (e1 e2 e3 e4 e5 oc:Int):Prop where
 eq:L 1850 [enc d0,enc d1,enc s,enc k,t]=some [enc s',enc k',e1,e2,e3,e4,e5,oc]
 sx:Sx s' k' (n+1)
 ls:s'.l.length=s.l.length
 lk:k'.l.length=k.l.length
section
variable {d0 d1 s k:D} {n:Nat} (S:Sx s k n) (hn:n<17592186043904) (h0:Wd (.sl 3) d0) (U:Wd (.sl 4) d1)
include S hn h0 U
theorem afq {t:Int} {x:KT} (R:Rs d0 d1 s k t x) (ho:fT d1 t x=0) (ha:low (fj d1 t x) 4=0):Sx s (eZ k t (fA (fI d1 t x) x)) n:=by
 have hp:0<k.l.length:=by have:=R.r.t0; have:=R.ht; omega
 exact⟨S.g,Rc S.wk ((ke R.c R.ht R.r (mG R.r ho ha)).1.kt R.c) hp,S.n2s,Rv hp _ _⟩
end
def zM (x n:Int):Int:=if x.tmod n<0 then x.tmod n+n else x.tmod n
theorem Lv {x n:Int} (h:0<n): -n<x.tmod n/\x.tmod n<n:=by have U:=anS x h;have Z:=anS (-x) h;rw [Int.neg_tmod] at Z;omega
theorem BG {x n:Int} (h:0<n):0<=zM x n/\zM x n<n:=by
 have:=Lv (x:=x) h;unfold zM
 grind
inductive K2 (d0 d1 s:D) (t op obj arg tries:Int):D->Int->Int->Int->Int->Int->Int->Prop
 |no:K2 d0 d1 s t op obj arg tries s 0 0 0 0 0 0
 |vu (A:Acc d0 d1 s t op obj):K2 d0 d1 s t op obj arg tries s t 27 obj (IntKind.i64.wrap op) 0 2
 |res (A:Acc d0 d1 s t op obj) (o c dn g:Int) (r v:D) (o' c' gK g':Int) (r' v':D) (m:Option Int) (a oc:Int) (T:Tg (s.at obj) o c dn g r v)
  (h:act (Mx d0 obj) (Mo d0 s obj) t op arg tries o c dn g r v= .res o' c' gK g' r' v' m a oc):K2 d0 d1 s t op obj arg tries (gk s obj (Mx d0 obj) (.res o' c' gK g' r' v' m a oc)) t op obj a 0 oc
section
variable {d0 d1 s s':D} {t op obj arg tries e1 e2 e3 e4 e5 oc:Int} {n:Nat}
theorem D6 (h0:Wd (.sl 3) d0) (U:Wd (.sl 4) d1) (G:Gs s n) (hn:n<17592186043904) (mI:dV .u8 op) (A:nF d0 d1 s t op obj arg tries n s' e1 e2 e3 e4 e5 oc):K2 d0 d1 s t op obj arg tries s' e1 e2 e3 e4 e5 oc:=by
 have hf:=G.kr (by omega:n<17592186044415);have hA:=A.eq;by_cases h:Acc d0 d1 s t op obj
 ·obtain⟨_,o,c,dn,g,r,v,T,hL⟩:=re (arg:=arg) (tries:=tries) h0 U G.wd hf mI h;rw [zQ] at hL;rw [hA] at hL
  cases hB:act (Mx d0 obj) (Mo d0 s obj) t op arg tries o c dn g r v with
  |nH=> rw [hB] at hL;simp only [Vm,aq,List.cons.injEq,and_true] at hL;obtain⟨q,rfl,rfl,rfl,rfl,rfl,rfl⟩:=hL;have q:=ew q;subst q;exact .no
  |vu=> rw [hB] at hL;simp only [Vm,aq,List.cons.injEq,and_true] at hL;obtain⟨q,rfl,rfl,rfl,rfl,rfl,rfl⟩:=hL;have q:=ew q;subst q;exact .vu h
  |res o' c' gK g' r' v' m a oc'=> rw [hB] at hL;simp only [Vm,aq,List.cons.injEq,and_true] at hL;obtain⟨q,rfl,rfl,rfl,rfl,rfl,rfl⟩:=hL;have q:=ew q;subst q;exact .res h o c dn g r v o' c' gK g' r' v' m _ _ T hB
 ·have hL:=Bq (arg:=arg) (tries:=tries) h0 U G.wd hf mI h;rw [hA] at hL;simp only [aq,List.cons.injEq,and_true] at hL;obtain⟨q,rfl,rfl,rfl,rfl,rfl,rfl⟩:=hL;have q:=ew q;subst q;exact .no
end
section
variable {d0 d1 s:D} {n:Nat} (h0:Wd (.sl 3) d0) (U:Wd (.sl 4) d1) (G:Gs s n) (hn:n<17592186044000)
include h0 U G hn
theorem zH (R:L 350 [enc d0,enc d1,enc s]=some [1]):L 450 [enc d0,enc d1]=some [0]/\mF d0 d1/\s.l.length=d0.l.length:=by obtain⟨b,hb,_,hi⟩:=kT h0 U (G.kr J).rows;rw [R] at hb;simp only [aq,List.cons.injEq,and_true] at hb;obtain⟨hC,hle,_⟩:=hi.1 hb.symm;exact⟨hC,Et h0 U (G.kr J) R⟩
theorem BC (R:L 350 [enc d0,enc d1,enc s]=some [1]) {i:Int} (i0:0<=i) (i1:i<(s.l.length:Int)) {o c dn g:Int} {r v:D} (T:Tg (s.at i) o c dn g r v):ng ((d0.at i).W 0).n ((d0.at i).W 2).n (d1.l.length:Int) o c dn g r v:=by
 obtain⟨b,hb,_,hi⟩:=kT h0 U (G.kr J).rows;rw [R] at hb;simp only [aq,List.cons.injEq,and_true] at hb;obtain⟨_,hle,hs⟩:=hi.1 hb.symm;obtain⟨k,rfl⟩ : ∃k:Nat,i=(k:Int):=⟨i.toNat,J⟩;have hk:k<s.l.length:=J
 have h:=hs k hk;rw [bT hk] at T;have gS:=G.rows _ (aF hk);rw [T.is] at gS;have Y:r.l.length<=140737488351232:=by have:=gS.1; have:r.l.length<=n:=this; omega
 rw [XP T Y] at h;rw [bT (by omega:k<d0.l.length)];exact h
theorem aix (hC:L 450 [enc d0,enc d1]=some [0]) (hle:s.l.length=d0.l.length) (h: ∀i:Nat,i<s.l.length->∃o c dn g r v,Tg (s.at (i:Int)) o c dn g r v/\ng ((d0.at (i:Int)).W 0).n ((d0.at (i:Int)).W 2).n (d1.l.length:Int) o c dn g r v):L 350 [enc d0,enc d1,enc s]=some [1]:=by
 obtain⟨b,hb,_,hi⟩:=kT h0 U (G.kr J).rows;rw [hb,hi.2 ⟨hC,hle,fun k hk=>?_⟩];obtain⟨o,c,dn,g,r,v,T,P⟩:=h k hk;rw [bT hk] at T;rw [bT (by omega:k<d0.l.length)] at P;have gS:=G.rows _ (aF hk);rw [T.is] at gS;have Y:r.l.length<=140737488351232:=by have:=gS.1; have:r.l.length<=n:=this; omega
 exact (XP T Y).2 P
end
theorem Zh {s:D} {n:Nat} (G:Gs s n) {i:Int} (i0:0<=i) (i1:i<(s.l.length:Int)): ∃o c dn g r v,Tg (s.at i) o c dn g r v/\r.l.length<=n/\v.l.length<=n:=by
 obtain⟨k,rfl⟩ : ∃k:Nat,i=(k:Int):=⟨i.toNat,J⟩;have hk:k<s.l.length:=J
 obtain⟨o,c,dn,g,r,v,T⟩:=D8 (G.wd.mO _ (aF hk));have gS:=G.rows _ (aF hk);rw [T.is] at gS;exact⟨o,c,dn,g,r,v,by rw [bT hk]; exact T,gS.1,gS.2⟩
def VM (th:Int):Act->Prop
 | .res _ _ _ _ _ _ m _ _=> ∀q,m=some q->q= -1\/q=th
 |_=>True
theorem VM.ite {th:Int} {p:Prop} [Decidable p] {a b:Act} (ha:VM th a) (hb:VM th b):VM th (if p then a else b):=by
 grind
theorem akc {M mo th op arg tries o c dn g:Int} {r v:D}:VM th (act M mo th op arg tries o c dn g r v):=by
 have e1: ∀q:Int,(none:Option Int)=some q->q= -1\/q=th:=fun q h=>by simp at h
 have e2: ∀q:Int,some (-1:Int)=some q->q= -1\/q=th:=fun q h=>by simp only [aq] at h; exact .inl h.symm
 have e3: ∀q:Int,some th=some q->q= -1\/q=th:=fun q h=>by simp only [aq] at h; exact .inr h.symm
 unfold act
 repeat' refine VM.ite ?_ ?_
 all_goals first
  |trivial
  |exact e1
  |exact e2
  |exact e3
theorem Cl {s:D} {i:Nat} {x:D} (h:s.l[i]?=some x):s.at (i:Int)=x:=by rw [j5,h]; rfl
section
variable {d0 d1 s:D} {t op obj arg tries:Int} {n:Nat} (h0:Wd (.sl 3) d0) (U:Wd (.sl 4) d1) (G:Gs s n) (hn:n<17592186043904) (mI:dV .u8 op) (ht:dV .i64 t) (ha:dV .i64 arg)
include h0 U G hn mI ht ha
theorem Hq (A:Acc d0 d1 s t op obj) {o c dn g:Int} {r v:D} (T:Tg (s.at obj) o c dn g r v) {o' c' gK g':Int} {r' v':D} {m:Option Int} {a oc:Int}
 (h:act (Mx d0 obj) (Mo d0 s obj) t op arg tries o c dn g r v= .res o' c' gK g' r' v' m a oc):L 350 [enc d0,enc d1,enc (gk s obj (Mx d0 obj) (.res o' c' gK g' r' v' m a oc))]=some [1]:=by
 obtain⟨hC,ok,hle⟩:=zH h0 U G J A.r;have a0:=A.o0;have a1:=A.o1;obtain⟨i,rfl⟩ : ∃i:Nat,obj=(i:Int):=⟨obj.toNat,J⟩;have hi:i<s.l.length:=J
 have hO:=ok.2.2 _ (O2 (d:=d0) a0 J)
 have hrv:r.l.length<=n/\v.l.length<=n:=by
  have gS:=G.rows _ (aF hi);have e:s.l[i]=dL [.i o,.i c,.i dn,.i g,r,v]:=by rw [<- bT hi]; exact T.is
  rw [e] at gS;exact gS
 have hS:=BC h0 U G J A.r a0 a1 T;have hS':=abK (d0:=d0) (mo:=Mo d0 s (i:Int)) (tries:=tries) (arg:=arg) (th:=t) T hS mI.1 A.k hO A.t0 A.t1 (by have:=ok.2.1; omega);have hK:=QF (M:=Mx d0 (i:Int)) (mo:=Mo d0 s (i:Int)) (op:=op) (tries:=tries) T (n:=n) hrv.1 hrv.2 J ht ha;have hQ:=akc (M:=Mx d0 (i:Int)) (mo:=Mo d0 s (i:Int)) (th:=t) (op:=op) (arg:=arg) (tries:=tries) (o:=o) (c:=c) (dn:=dn) (g:=g) (r:=r) (v:=v)
 have hN:m=none\/op=12\/op=24:=by
  by_cases Z:op=12\/op=24
  ·grind
  ·have:=xF (M:=Mx d0 (i:Int)) (mo:=Mo d0 s (i:Int)) (th:=t) (op:=op) (arg:=arg) (tries:=tries) (o:=o) (c:=c) (dn:=dn) (g:=g) (r:=r) (v:=v) J J;rw [h] at this;exact .inl this
 rw [h] at hS' hK hQ
 have hM:Dp (.res o' c' gK g' r' v' m a oc)\/0<=Mx d0 (i:Int)/\Mx d0 (i:Int)<(s.l.length:Int)/\Mx d0 (i:Int)≠(i:Int):=by
  rcases hN with Z|Z
  ·exact .inl Z
  ·exact .inr (Gn h0 U G.wd (G.kr J) mI A Z)
 have G':=Rz G hK a0 a1 (hM.imp id fun h=> ⟨h.1,h.2.1⟩);have Y:=ED s (i:Int) (Mx d0 (i:Int)) (.res o' c' gK g' r' v' m a oc)
 have W:(if gK=0 then (0:Int) else 1)=gK:=by rcases hK.2.2.1 with rfl|rfl<;>rfl
 refine aix h0 U G' J hC (by rw [Y]; exact hle) fun j hj=>?_;rw [Y] at hj;by_cases hji:j=i
 ·subst hji
  have e:(gk s (j:Int) (Mx d0 (j:Int)) (.res o' c' gK g' r' v' m a oc)).at (j:Int)=dL [.i o',.i c',.i gK,.i g',r',v']:=by refine Cl ?_;unfold gk;rw [bE,W];exact wv (by cases m with |none=>exact hj|some q=>rw [fh]; exact hj)
  exact⟨o',c',gK,g',r',v',⟨e,hK.1,hK.2.1,hK.2.2.1,hK.2.2.2.1,hK.2.2.2.2.1,hK.2.2.2.2.2.2.1⟩,hS'⟩
 ·by_cases hjm:Dp (.res o' c' gK g' r' v' m a oc)\/(j:Int)≠Mx d0 (i:Int)
  ·have e:(gk s (i:Int) (Mx d0 (i:Int)) (.res o' c' gK g' r' v' m a oc)).at (j:Int)=s.at (j:Int):=by
    rw [j5,j5,zK J hjm]
   obtain⟨o2,c2,Lg,g2,r2,v2,T2,_,_⟩:=Zh G (i:=(j:Int)) J J;exact⟨o2,c2,Lg,g2,r2,v2,by rw [e]; exact T2,BC h0 U G J A.r J J T2⟩
  ·have hj1:(j:Int)=Mx d0 (i:Int):=Decidable.byContradiction fun gb=>hjm (.inr gb)
   cases m with
   |none=>exact absurd (.inl rfl) hjm
   |some q=>
    obtain⟨o2,c2,Lg,g2,r2,v2,T2,_,_⟩:=Zh G (i:=(j:Int)) J J;have P2:=BC h0 U G J A.r J J T2
    have ni:((d0.at (j:Int)).W 0).n=1:=by
     have h4:((d0.at (i:Int)).W 0).n=4:=by
      rw [<- A.k];rcases hN with Z|Z|Z
      ·grind
      ·rw [Z]; rfl
      ·rw [Z]; rfl
     obtain⟨_,_,m3⟩:=hO.2.2.2.2.2 h4
     grind
    have e:(gk s (i:Int) (Mx d0 (i:Int)) (.res o' c' gK g' r' v' (some q) a oc)).at (j:Int)=dL [.i q,.i c2,.i Lg,.i g2,r2,v2]:=by refine Cl ?_;unfold gk;rw [bE,lg J,<- hj1,wv J,T2.is];rfl
    refine⟨q,c2,Lg,g2,r2,v2,⟨e,hK.2.2.2.2.2.2.2.2.1 q rfl,T2.hc,T2.W,T2.hg,T2.hr,T2.hv⟩,?_⟩;have t0:=A.t0;have t1:=A.t1;have hq:=hQ q rfl;rw [ni] at P2 ⊢;obtain⟨p,q2,q3⟩:=P2;unfold jy fH at p;unfold iL at q3;refine⟨?_,q2,?_⟩
    ·unfold jy fH;omega
    ·unfold iL;omega
end
def VK (op:Int):Act->Prop
 | .res _ _ _ _ _ _ _ _ oc=>oc=2\/oc=3/\(op=12\/op=15)
 |_=>True
theorem VK.ite {op:Int} {p:Prop} [Decidable p] {a b:Act} (ha:p->VK op a) (hb: ¬p->VK op b):VK op (if p then a else b):=by
 grind
theorem akb {M mo th op arg tries o c dn g:Int} {r v:D}:VK op (act M mo th op arg tries o c dn g r v):=by
 unfold act
 repeat' first
  |trivial
  |exact .inl rfl
  |exact .inr ⟨rfl,.inl (by assumption)⟩
  |exact .inr ⟨rfl,.inr (by assumption)⟩
  |refine VK.ite (fun _=>?_) (fun _=>?_)
section
variable {d0 d1 s s' k:D} {t op obj arg tries e1 e2 e3 e4 e5 oc:Int} {n:Nat} {x:KT}
theorem Om (C:Cd d0 d1) (R:Rt d0 d1 t x) (hx:x.w=0->x.a<(Nc d1 t:Int)) (hle:s.l.length=d0.l.length) (h3:dV .i64 e3) (h4:dV .i64 e4) (T:K2 d0 d1 s t op obj arg tries s' e1 e2 e3 e4 e5 oc):Rt d0 d1 t (iM (fI d1 t x) x op e2 e3 e4 oc):=by
 obtain⟨a',lc',w',o',g',tr',hK⟩:=WM (op:=op) (e2:=e2) (oc:=oc) C R hx h3 h4;have W:=hK.is;simp only [KT.d,bX,cG,D.p.injEq,D.i.injEq,and_true] at W;obtain⟨e_a,e_l,e_w,e_o,e_g,e_t⟩:=W
 have hw3:oc=3->0<=e3/\e3<(d0.l.length:Int)/\(e2=15/\((d0.at e3).W 0).n=5\/e2≠15/\((d0.at e3).W 0).n=4):=by
  intro ho
  cases T with
  |no=>omega
  |vu A=>omega
  |res A o c dn g r v o' c' gK g' r' v' m a oc T h=>
   have hW:=akb (M:=Mx d0 obj) (mo:=Mo d0 s obj) (th:=t) (op:=op) (arg:=arg) (tries:=tries) (o:=o) (c:=c) (dn:=dn) (g:=g) (r:=r) (v:=v);rw [h] at hW;have hk:=A.k;have:=A.o0;have:=A.o1;refine⟨A.o0,J,?_⟩;rcases hW with hW|⟨_,hW|hW⟩
   ·omega
   ·subst hW;exact .inr ⟨J,by rw [<- hk]; rfl⟩
   ·subst hW;exact .inl ⟨rfl,by rw [<- hk]; rfl⟩
 refine⟨R.t0,R.t1,?_,by rw [e_l]; exact hK.Y,by rw [e_g]; exact hK.hg⟩;obtain⟨a0,a1,Pk,tr0,tr1,hw⟩:=R.ok;unfold iM;by_cases o0:oc=0
 ·rw [an o0];split
  ·refine⟨a0,a1,Pk,?_,?_,hw⟩
   all_goals grind
  ·exact⟨a0,a1,Pk,tr0,tr1,hw⟩
 ·rw [ak o0];by_cases w0:x.w=0
  ·rw [an w0];have c4:=hx w0;have F:=C.inf R c4;have ok:=F.ok;unfold OkI at ok;unfold Nc at c4;have hxo:x.o=0/\x.g=0:=J
   refine⟨?_,?_,?_,anE _,by show (0:Int)<=4611686018427387904; omega,?_⟩
   ·grind
   ·grind
   ·show ((if ((fI d1 t x).W 0).n=1/\¬((fI d1 t x).W 3).n<0 then dL (eV x.lc.l ((fI d1 t x).W 3).n (.i e4)) else x.lc).l.length:Int)=_;split
    ·rw [bE,fh]; exact Pk
    grind
   grind
  ·rw [ak w0];exact⟨a0,a1,Pk,anE _,by show (0:Int)<=4611686018427387904; omega,.inl ⟨rfl,rfl,rfl⟩⟩
end
inductive C9 (d0 d1 s k:D) (t:Int) (n:Nat):D->D->Int->Int->Int->Int->Int->Int->Prop
 |no (h:L 1550 [enc d0,enc d1,enc s,enc k,t]=some [0]):C9 d0 d1 s k t n s k 0 0 0 0 0 0
 |over (x:KT) (R:Rs d0 d1 s k t x) (ho:fT d1 t x=1):C9 d0 d1 s k t n s k 0 0 0 0 0 4
 |loc (x:KT) (R:Rs d0 d1 s k t x) (ho:fT d1 t x=0) (ha:low (fj d1 t x) 4=0):C9 d0 d1 s k t n s (eZ k t (fA (fI d1 t x) x)) 0 0 0 0 0 1
 |tri (x:KT) (R:Rs d0 d1 s k t x) (ho:fT d1 t x=0) (op obj arg tr:Int) (hq:fj d1 t x= [op,obj,arg,tr,1]) (k1:dV .u8 op) (k2:dV .i64 obj) (k3:dV .i64 arg) (fB:dV .i64 t) (s':D) (e1 e2 e3 e4 e5 oc:Int)
  (A:nF d0 d1 s t op obj arg tr n s' e1 e2 e3 e4 e5 oc) (T:K2 d0 d1 s t op obj arg tr s' e1 e2 e3 e4 e5 oc):C9 d0 d1 s k t n s' (eZ k t (iM (fI d1 t x) x op e2 e3 e4 oc)) e1 e2 e3 e4 e5 oc
section
variable {d0 d1 s k:D} {n:Nat} (S:Sx s k n) (hn:n<17592186043904) (h0:Wd (.sl 3) d0) (U:Wd (.sl 4) d1)
include S hn h0 U
theorem Ei (t:Int): ∃s' k' e1 e2 e3 e4 e5 oc,L 1850 [enc d0,enc d1,enc s,enc k,t]=some [enc s',enc k',e1,e2,e3,e4,e5,oc]/\C9 d0 d1 s k t n s' k' e1 e2 e3 e4 e5 oc:=by
 rcases LI (t:=t) S hn h0 U with h|⟨x,R⟩
 ·exact⟨s,k,0,0,0,0,0,0,aab S h,.no h⟩
 ·rcases pG d1 t x with ho|ho
  ·by_cases ha:low (fj d1 t x) 4=0
   ·exact⟨_,_,0,0,0,0,0,1,OD S R ho ha,.loc x R ho ha⟩
   ·obtain⟨op,obj,arg,tr,hq⟩:=lF J ha;obtain⟨k1,k2,k3⟩:=pH R.c R.r R.c.ok.1 hq
    have fB:dV .i64 t:=by have:=R.r.t0;have:=R.r.t1;have:=U.len;exact⟨J,J⟩
    obtain⟨s',e1,e2,e3,e4,e5,oc,A⟩:=oe (tries:=tr) h0 U S.g hn fB k1 k2 k3;exact⟨s',_,e1,e2,e3,e4,e5,oc,OC S R ho hq A,.tri x R ho op obj arg tr hq k1 k2 k3 fB s' e1 e2 e3 e4 e5 oc A (D6 h0 U S.g hn k1 A)⟩
  ·exact⟨s,k,0,0,0,0,0,4,Ue S R ho,.over x R ho⟩
theorem XL {t:Int} {s' k':D} {e1 e2 e3 e4 e5 oc:Int} (H:C9 d0 d1 s k t n s' k' e1 e2 e3 e4 e5 oc):Sx s' k' (n+1)/\s'.l.length=s.l.length/\k'.l.length=k.l.length:=by
 cases H with
 |no h=>exact⟨S.mono (am9 n),rfl,rfl⟩
 |over x R ho=>exact⟨S.mono (am9 n),rfl,rfl⟩
 |loc x R ho ha=>exact⟨(afq S hn h0 U R ho ha).mono (am9 n),rfl,gg _ _ _⟩
 |tri x R ho op obj arg tr hq k1 k2 k3 fB s' e1 e2 e3 e4 e5 oc A T=>exact⟨D7 S R.c R.r R.ht (Gi R.r ho) A,A.len,gg _ _ _⟩
omit h0 U in
theorem Jz {t:Int} {x:KT} {s':D} (M:MR d0 d1 s k) (R:Rt d0 d1 t x) (ht:t<(k.l.length:Int)) (hs:L 350 [enc d0,enc d1,enc s']=some [1]):MR d0 d1 s' (eZ k t x):=by
 obtain⟨_,hle,hO⟩:=M;refine⟨hs,(gg k t x).trans hle,fun i hi=>?_⟩;have hi':i<k.l.length:=by rw [gg] at hi; exact hi
 have t0:=R.t0;obtain⟨j,rfl⟩ : ∃j:Nat,t=(j:Int):=⟨t.toNat,J⟩;by_cases hij:i=j
 ·subst hij
  have e:(eZ k (i:Int) x).l[i]=x.d:=by rw [<- bT hi];exact jC J ht x
  have ok:=R.ok;rw [bT (by omega:i<d1.l.length)] at ok;unfold OkK;rw [e];simp only [KT.d,zg,ay,nI];exact ok
 ·have e:(eZ k (j:Int) x).l[i]=k.l[i]:=by
   have h:=lg (l:=k.l) (z:=(j:Int)) (y:=x.d) (k:=i) J
   have Z:(eZ k (j:Int) x).l[i]?=k.l[i]?:=by show (dL (eV k.l (j:Int) x.d)).l[i]?=_;rw [bE];exact h
   grind
  grind
theorem XM {t:Int} {s' k':D} {e1 e2 e3 e4 e5 oc:Int} (M:MR d0 d1 s k) (H:C9 d0 d1 s k t n s' k' e1 e2 e3 e4 e5 oc):MR d0 d1 s' k':=by
 cases H with
 |no h=>exact M
 |over x R ho=>exact M
 |loc x R ho ha=>exact Jz S hn M (ke R.c R.ht R.r (mG R.r ho ha)).1 R.ht M.1
 |tri x R ho op obj arg tr hq k1 k2 k3 fB s' e1 e2 e3 e4 e5 oc A T=>
  have hle:=(zH h0 U S.g J M.1).2.2;have hR:=Om R.c R.r (Gi R.r ho) hle A.e3 A.e4 T;refine Jz S hn M hR R.ht ?_
  cases T with
  |no=>exact M.1
  |vu A'=>exact M.1
  |res A' o c dn g r v o' c' gK g' r' v' m a oc T' h=>exact Hq h0 U S.g hn k1 fB k3 A' T' h
end
theorem MR.thr {d0 d1 s k:D} {n:Nat} (S:Sx s k n) (hn:n<17592186043904) (h0:Wd (.sl 3) d0) (U:Wd (.sl 4) d1) (M:MR d0 d1 s k) {t:Int} (t0:0<=t) (t1:t<(d1.l.length:Int)): ∃x,Rs d0 d1 s k t x:=by
 obtain⟨ys,hL,b,rfl,hb⟩:=LM (k:=k) h0 U (S.g.kr J).rows U.len t;rcases hb with ⟨_,hb⟩|⟨rfl,_⟩
 ·grind
 ·rcases LI (t:=t) S hn h0 U with h|h
  all_goals grind
noncomputable abbrev foE (d0 d1 s k:D) (t n fF gw ea eb:Int) (x:KT):Nat->Int:=cY L (low [t,n,enc d0,enc d1,enc s,enc k,fF,gw,ea,eb,enc s,enc k,x.a,enc x.lc,x.w,x.o,x.g,x.tr])
section
variable {d0 d1 s k:D} {t:Int} {n:Nat} {fF gw ea eb m:Int} {x:KT} (S:Sk s k) (C:Cd d0 d1) (ht:t<(k.l.length:Int))
include S C ht
theorem B6 (R:Rt d0 d1 t x) (hn:20000<m):L 2004 [t,m,enc d0,enc d1,enc s,enc k,fF,gw,ea,eb,enc s,enc k,x.a,enc x.lc,x.w,x.o,x.g,x.tr]=some [enc s,enc k,0]:=by
 have eP:=pX S
 have K:dY (foE d0 d1 s k t m fF gw ea eb x) Lz= .out [enc s,enc k,0]:=by refine bV [.lt (.lit 20000) Qb,.eq (a0 1900 [cO,dj]) Q0] [] (ou [rr 1900 [cO,dj] 0,rr 1900 [cO,dj] 1,Qa]) (by simp only [zz,eP,hn]<;>omega) ad ?_;simp only [zz,eP]
 rw [bP,Nh];exact congrArg (fin L) K
theorem uE (R:Rt d0 d1 t x) (hn: ¬20000<m) (ho:fT d1 t x=1):L 2004 [t,m,enc d0,enc d1,enc s,enc k,fF,gw,ea,eb,enc s,enc k,x.a,enc x.lc,x.w,x.o,x.g,x.tr]=some [enc s,enc k,0]:=by
 have eP:=pX S;have hO:=om (s:=s) (k:=eZ k t x) (jC R.t0 ht x) (by rw [gg]; exact ht) R;rw [ho] at hO;simp only [eZ,KT.d,bX,cG] at hO
 have K:dY (foE d0 d1 s k t m fF gw ea eb x) Lz= .out [enc s,enc k,0]:=by refine bV [.eq (a0 1650 pz) Q0,.eq (a0 1900 [cO,dj]) Q0] [.lt (.lit 20000) Qb,D0] (ou [rr 1900 [cO,dj] 0,rr 1900 [cO,dj] 1,Qa]) (by simp only [zz,eP,hn,hO]<;>omega) ad ?_;simp only [zz,eP]
 rw [bP,Nh];exact congrArg (fin L) K
theorem tl (R:Rt d0 d1 t x) (hn: ¬20000<m) (ho:fT d1 t x=0) (ha:low (fj d1 t x) 4=0):L 2004 [t,m,enc d0,enc d1,enc s,enc k,fF,gw,ea,eb,enc s,enc k,x.a,enc x.lc,x.w,x.o,x.g,x.tr]=L 2004 [t,IntKind.i64.wrap (m+1),enc d0,enc d1,enc s,enc k,fF,gw,ea,eb,enc s,enc k,(fA (fI d1 t x) x).a,enc (fA (fI d1 t x) x).lc,(fA (fI d1 t x) x).w,(fA (fI d1 t x) x).o,(fA (fI d1 t x) x).g,(fA (fI d1 t x) x).tr]:=by
 have hO:=om (s:=s) (k:=eZ k t x) (jC R.t0 ht x) (by rw [gg]; exact ht) R;have hN:=xd (s:=s) (k:=eZ k t x) C (jC R.t0 ht x) (by rw [gg]; exact ht) R;have Lc:=mG R ho ha;rw [ho] at hO;simp only [eZ,KT.d,bX,cG] at hO hN
 have hw:(fA (fI d1 t x) x).w=x.w/\(fA (fI d1 t x) x).o=x.o/\(fA (fI d1 t x) x).g=x.g/\(fA (fI d1 t x) x).tr=x.tr:=by
  unfold fA
  repeat' split
  all_goals exact⟨rfl,rfl,rfl,rfl⟩
 have Y:=L9 (s:=s) (k:=k) C ht R Lc
 have K:dY (foE d0 d1 s k t m fF gw ea eb x) Lz= .jump 2004 [t,IntKind.i64.wrap (m+1),enc d0,enc d1,enc s,enc k,fF,gw,ea,eb,enc s,enc k,(fA (fI d1 t x) x).a,enc (fA (fI d1 t x) x).lc,(fA (fI d1 t x) x).w,(fA (fI d1 t x) x).o,(fA (fI d1 t x) x).g,(fA (fI d1 t x) x).tr]:=by refine bV [.eq (a0 1650 pz) Q0,D0,.eq (a0 1750 pz) Q0,GI,.eq (a0 14000 TL) Q0,.eq (rr 14000 TL 0) Qa] [.lt (.lit 20000) Qb] (ju 2004 [Qf,qS,Qo,Qm,cO,dj,eQ,ia,jm,j8,qV,oX,rr 14000 TL 12,rr 14000 TL 13,wO,IV,Q!,Wk]) (by simp only [zz,hn,hO,hN,ha,Y]<;>omega) ad ?_;simp only [zz,Y,hw]
 rw [bP,Nh];exact congrArg (fin L) K
theorem tk (R:Rt d0 d1 t x) (hn: ¬20000<m) (ho:fT d1 t x=0) {op obj arg tr Rj e1 e2 e3 e4 e5 oc:Int} {s':D} (ha:fj d1 t x= [op,obj,arg,tr,1]) (J?:Rj=if fF=4/\ea=0 then 4611686018427387904 else 0)
 (A:nF d0 d1 s t op obj arg Rj n s' e1 e2 e3 e4 e5 oc):L 2004 [t,m,enc d0,enc d1,enc s,enc k,fF,gw,ea,eb,enc s,enc k,x.a,enc x.lc,x.w,x.o,x.g,x.tr]=some (if oc≠0/\e1=t/\e2=fF/\e3=gw/\e4=ea/\e5=eb then [enc s',enc (eZ k t (iM (fI d1 t x) x op e2 e3 e4 oc)),1] else [enc s,enc k,0]):=by
 have eP:=pX S;have hO:=om (s:=s) (k:=eZ k t x) (jC R.t0 ht x) (by rw [gg]; exact ht) R;have hN:=xd (s:=s) (k:=eZ k t x) C (jC R.t0 ht x) (by rw [gg]; exact ht) R;rw [ho] at hO;rw [ha] at hN;simp only [eZ,KT.d,bX,cG] at hO hN
 have hx:x.w=0->x.a<(Nc d1 t:Int):=fun w0=>by unfold fT at ho;rw [an w0] at ho;have:=R.ok.2.1;unfold Nc at ho ⊢;split at ho<;>omega
 have hE:M! e1 e2 e3 e4 e5 oc= [e1,e2,e3,e4,e5]:=by
  unfold M!;split
  ·rename_i h0;obtain⟨_,rfl,rfl,rfl,rfl,rfl⟩:=A.no h0;rfl
  ·rfl
 have Y:=Lt (k:=k) C ht R A.eq (fun h=>(A.no h).1) hx;rw [hE] at Y;simp only [aX,ax] at Y
 have K:dY (foE d0 d1 s k t m fF gw ea eb x) Lz= .out (if oc≠0/\e1=t/\e2=fF/\e3=gw/\e4=ea/\e5=eb then [enc s',enc (eZ k t (iM (fI d1 t x) x op e2 e3 e4 oc)),1] else [enc s,enc k,0]):=by
  by_cases q4:fF=4
  ·by_cases qa:ea=0
   ·have et:Rj=4611686018427387904:=by rw [J?,an ⟨q4,qa⟩]
    rw [et] at Y;by_cases o0:oc=0
    ·rw [ak (fun h=>h.1 o0)];refine bV [.eq (a0 1650 pz) Q0,D0,.eq (a0 1750 pz) Q0,.eq eQ nL,NO,.eq (a0 14500 jX) Q0,.eq (rr 14500 jX 0) Qa,.eq (rr 14500 jX 21) Qa,.eq (a0 1900 [cO,dj]) Q0] [.lt (.lit 20000) Qb,GI] (ou [rr 1900 [cO,dj] 0,rr 1900 [cO,dj] 1,Qa]) (by simp only [zz,hn,hO,hN,Y,q4,qa,o0,eP]<;>omega) ad ?_;simp only [zz,eP]
    ·by_cases qe:e1=t/\e2=fF/\e3=gw/\e4=ea/\e5=eb
     ·rw [an ⟨o0,qe⟩];refine bV [.eq (a0 1650 pz) Q0,D0,.eq (a0 1750 pz) Q0,.eq eQ nL,NO,.eq (a0 14500 jX) Q0,.eq (rr 14500 jX 0) Qa,.and (.eq (rr 14500 jX 16) Qf) (.and (.eq (rr 14500 jX 17) eQ) (.and (.eq (rr 14500 jX 18) ia) (.and (.eq (rr 14500 jX 19) jm) (.eq (rr 14500 jX 20) j8))))] [.lt (.lit 20000) Qb,GI,.eq (rr 14500 jX 21) Qa] (ou [rr 14500 jX 22,.op .set oX (cn (mk Qf) (cn (mk (rr 14500 jX 23)) (cn (rr 14500 jX 24) (cn (mk (rr 14500 jX 25)) (cn (mk (rr 14500 jX 26)) (cn (mk (rr 14500 jX 27)) (cn (mk (rr 14500 jX 28)) gR))))))),Q0]) (by simp only [zz,hn,hO,hN,Y,q4,qa,o0,dF,qe,and_self,eP]<;>omega) ad ?_;simp only [zz,hN,Y,eZ,KT.d,bX,cG]
     ·rw [ak (fun h=>qe h.2)];refine bV [.eq (a0 1650 pz) Q0,D0,.eq (a0 1750 pz) Q0,.eq eQ nL,NO,.eq (a0 14500 jX) Q0,.eq (rr 14500 jX 0) Qa,.eq (a0 1900 [cO,dj]) Q0] [.lt (.lit 20000) Qb,GI,.eq (rr 14500 jX 21) Qa,.and (.eq (rr 14500 jX 16) Qf) (.and (.eq (rr 14500 jX 17) eQ) (.and (.eq (rr 14500 jX 18) ia) (.and (.eq (rr 14500 jX 19) jm) (.eq (rr 14500 jX 20) j8))))] (ou [rr 1900 [cO,dj] 0,rr 1900 [cO,dj] 1,Qa]) (by simp only [zz,hn,hO,hN,Y,q4,qa,o0,dF,qe,eP]<;>omega) ad ?_;simp only [zz,eP]
   ·have et:Rj=0:=by rw [J?,ak (fun h=>qa h.2)]
    rw [et] at Y;by_cases o0:oc=0
    ·rw [ak (fun h=>h.1 o0)];refine bV [.eq (a0 1650 pz) Q0,D0,.eq (a0 1750 pz) Q0,.eq eQ nL,.eq (a0 14500 fP) Q0,.eq (rr 14500 fP 0) Qa,.eq (rr 14500 fP 21) Qa,.eq (a0 1900 [cO,dj]) Q0] [.lt (.lit 20000) Qb,GI,NO] (ou [rr 1900 [cO,dj] 0,rr 1900 [cO,dj] 1,Qa]) (by simp only [zz,hn,hO,hN,Y,q4,qa,o0,eP]<;>omega) ad ?_;simp only [zz,eP]
    ·by_cases qe:e1=t/\e2=fF/\e3=gw/\e4=ea/\e5=eb
     ·rw [an ⟨o0,qe⟩];refine bV [.eq (a0 1650 pz) Q0,D0,.eq (a0 1750 pz) Q0,.eq eQ nL,.eq (a0 14500 fP) Q0,.eq (rr 14500 fP 0) Qa,.and (.eq (rr 14500 fP 16) Qf) (.and (.eq (rr 14500 fP 17) eQ) (.and (.eq (rr 14500 fP 18) ia) (.and (.eq (rr 14500 fP 19) jm) (.eq (rr 14500 fP 20) j8))))] [.lt (.lit 20000) Qb,GI,NO,.eq (rr 14500 fP 21) Qa] (ou [rr 14500 fP 22,.op .set oX (cn (mk Qf) (cn (mk (rr 14500 fP 23)) (cn (rr 14500 fP 24) (cn (mk (rr 14500 fP 25)) (cn (mk (rr 14500 fP 26)) (cn (mk (rr 14500 fP 27)) (cn (mk (rr 14500 fP 28)) gR))))))),Q0]) (by simp only [zz,hn,hO,hN,Y,q4,qa,o0,dF,qe,and_self,eP]<;>omega) ad ?_;simp only [zz,hN,Y,eZ,KT.d,bX,cG]
     ·rw [ak (fun h=>qe h.2)];refine bV [.eq (a0 1650 pz) Q0,D0,.eq (a0 1750 pz) Q0,.eq eQ nL,.eq (a0 14500 fP) Q0,.eq (rr 14500 fP 0) Qa,.eq (a0 1900 [cO,dj]) Q0] [.lt (.lit 20000) Qb,GI,NO,.eq (rr 14500 fP 21) Qa,.and (.eq (rr 14500 fP 16) Qf) (.and (.eq (rr 14500 fP 17) eQ) (.and (.eq (rr 14500 fP 18) ia) (.and (.eq (rr 14500 fP 19) jm) (.eq (rr 14500 fP 20) j8))))] (ou [rr 1900 [cO,dj] 0,rr 1900 [cO,dj] 1,Qa]) (by simp only [zz,hn,hO,hN,Y,q4,qa,o0,dF,qe,eP]<;>omega) ad ?_;simp only [zz,eP]
  ·have et:Rj=0:=by rw [J?,ak (fun h=>q4 h.1)]
   rw [et] at Y;by_cases o0:oc=0
   ·rw [ak (fun h=>h.1 o0)];refine bV [.eq (a0 1650 pz) Q0,D0,.eq (a0 1750 pz) Q0,.eq (a0 14500 fP) Q0,.eq (rr 14500 fP 0) Qa,.eq (rr 14500 fP 21) Qa,.eq (a0 1900 [cO,dj]) Q0] [.lt (.lit 20000) Qb,GI,.eq eQ nL] (ou [rr 1900 [cO,dj] 0,rr 1900 [cO,dj] 1,Qa]) (by simp only [zz,hn,hO,hN,Y,q4,o0,eP]<;>omega) ad ?_;simp only [zz,eP]
   ·by_cases qe:e1=t/\e2=fF/\e3=gw/\e4=ea/\e5=eb
    ·rw [an ⟨o0,qe⟩];refine bV [.eq (a0 1650 pz) Q0,D0,.eq (a0 1750 pz) Q0,.eq (a0 14500 fP) Q0,.eq (rr 14500 fP 0) Qa,.and (.eq (rr 14500 fP 16) Qf) (.and (.eq (rr 14500 fP 17) eQ) (.and (.eq (rr 14500 fP 18) ia) (.and (.eq (rr 14500 fP 19) jm) (.eq (rr 14500 fP 20) j8))))] [.lt (.lit 20000) Qb,GI,.eq eQ nL,.eq (rr 14500 fP 21) Qa] (ou [rr 14500 fP 22,.op .set oX (cn (mk Qf) (cn (mk (rr 14500 fP 23)) (cn (rr 14500 fP 24) (cn (mk (rr 14500 fP 25)) (cn (mk (rr 14500 fP 26)) (cn (mk (rr 14500 fP 27)) (cn (mk (rr 14500 fP 28)) gR))))))),Q0]) (by simp only [zz,hn,hO,hN,Y,q4,o0,dF,qe,and_self,eP]<;>omega) ad ?_;simp only [zz,hN,Y,eZ,KT.d,bX,cG]
    ·rw [ak (fun h=>qe h.2)];refine bV [.eq (a0 1650 pz) Q0,D0,.eq (a0 1750 pz) Q0,.eq (a0 14500 fP) Q0,.eq (rr 14500 fP 0) Qa,.eq (a0 1900 [cO,dj]) Q0] [.lt (.lit 20000) Qb,GI,.eq eQ nL,.eq (rr 14500 fP 21) Qa,.and (.eq (rr 14500 fP 16) Qf) (.and (.eq (rr 14500 fP 17) eQ) (.and (.eq (rr 14500 fP 18) ia) (.and (.eq (rr 14500 fP 19) jm) (.eq (rr 14500 fP 20) j8))))] (ou [rr 1900 [cO,dj] 0,rr 1900 [cO,dj] 1,Qa]) (by simp only [zz,hn,hO,hN,Y,q4,o0,dF,qe,eP]<;>omega) ad ?_;simp only [zz,eP]
 rw [bP,Nh];exact congrArg (fin L) K
theorem B5 (R:Rt d0 d1 t x) (hz:x.lc.l.length=0) (hn:20000<m):L 2005 [t,m,enc d0,enc d1,enc s,enc k,fF,gw,ea,eb,enc s,enc k,x.a,enc x.lc,x.w,x.o,x.g,x.tr]=some [enc s,enc k,0]:=by
 have eP:=pX S
 have K:dY (foE d0 d1 s k t m fF gw ea eb x) Ly= .out [enc s,enc k,0]:=by refine bV [.lt (.lit 20000) Qb,.eq (a0 1900 [cO,dj]) Q0] [] (ou [rr 1900 [cO,dj] 0,rr 1900 [cO,dj] 1,Qa]) (by simp only [zz,eP,hn]<;>omega) ad ?_;simp only [zz,eP]
 rw [bP,Ng];exact congrArg (fin L) K
theorem uD (R:Rt d0 d1 t x) (hz:x.lc.l.length=0) (hn: ¬20000<m) (ho:fT d1 t x=1):L 2005 [t,m,enc d0,enc d1,enc s,enc k,fF,gw,ea,eb,enc s,enc k,x.a,enc x.lc,x.w,x.o,x.g,x.tr]=some [enc s,enc k,0]:=by
 have eP:=pX S;have hO:=om (s:=s) (k:=eZ k t x) (jC R.t0 ht x) (by rw [gg]; exact ht) R;rw [ho] at hO;simp only [eZ,KT.d,bX,cG] at hO
 have K:dY (foE d0 d1 s k t m fF gw ea eb x) Ly= .out [enc s,enc k,0]:=by refine bV [.eq (a0 1650 pz) Q0,.eq (a0 1900 [cO,dj]) Q0] [.lt (.lit 20000) Qb,D0] (ou [rr 1900 [cO,dj] 0,rr 1900 [cO,dj] 1,Qa]) (by simp only [zz,eP,hn,hO]<;>omega) ad ?_;simp only [zz,eP]
 rw [bP,Ng];exact congrArg (fin L) K
theorem tj (R:Rt d0 d1 t x) (hz:x.lc.l.length=0) (hn: ¬20000<m) (ho:fT d1 t x=0) (ha:low (fj d1 t x) 4=0):L 2005 [t,m,enc d0,enc d1,enc s,enc k,fF,gw,ea,eb,enc s,enc k,x.a,enc x.lc,x.w,x.o,x.g,x.tr]=L 2005 [t,IntKind.i64.wrap (m+1),enc d0,enc d1,enc s,enc k,fF,gw,ea,eb,enc s,enc k,(fA (fI d1 t x) x).a,enc (fA (fI d1 t x) x).lc,(fA (fI d1 t x) x).w,(fA (fI d1 t x) x).o,(fA (fI d1 t x) x).g,(fA (fI d1 t x) x).tr]:=by
 have hO:=om (s:=s) (k:=eZ k t x) (jC R.t0 ht x) (by rw [gg]; exact ht) R;have hN:=xd (s:=s) (k:=eZ k t x) C (jC R.t0 ht x) (by rw [gg]; exact ht) R;have Lc:=mG R ho ha;rw [ho] at hO;simp only [eZ,KT.d,bX,cG] at hO hN
 have hw:(fA (fI d1 t x) x).w=x.w/\(fA (fI d1 t x) x).o=x.o/\(fA (fI d1 t x) x).g=x.g/\(fA (fI d1 t x) x).tr=x.tr:=by
  unfold fA
  repeat' split
  all_goals exact⟨rfl,rfl,rfl,rfl⟩
 obtain⟨Y,hc⟩:=L8 (s:=s) (k:=k) C ht R Lc hz
 have K:dY (foE d0 d1 s k t m fF gw ea eb x) Ly= .jump 2005 [t,IntKind.i64.wrap (m+1),enc d0,enc d1,enc s,enc k,fF,gw,ea,eb,enc s,enc k,(fA (fI d1 t x) x).a,enc (fA (fI d1 t x) x).lc,(fA (fI d1 t x) x).w,(fA (fI d1 t x) x).o,(fA (fI d1 t x) x).g,(fA (fI d1 t x) x).tr]:=by refine bV [.eq (a0 1650 pz) Q0,D0,.eq (a0 1750 pz) Q0,GI,.eq (a0 14050 TL) Q0,.eq (rr 14050 TL 0) Qa] [.lt (.lit 20000) Qb] (ju 2005 [Qf,qS,Qo,Qm,cO,dj,eQ,ia,jm,j8,qV,oX,rr 14050 TL 12,ss,wO,IV,Q!,Wk]) (by simp only [zz,hn,hO,hN,ha,Y]<;>omega) ad ?_;simp only [zz,Y,hw,hc]
 rw [bP,Ng];exact congrArg (fin L) K
theorem tg (R:Rt d0 d1 t x) (hz:x.lc.l.length=0) (hn: ¬20000<m) (ho:fT d1 t x=0) {op obj arg tr Rj e1 e2 e3 e4 e5 oc:Int} {s':D} (ha:fj d1 t x= [op,obj,arg,tr,1]) (J?:Rj=if fF=4/\ea=0 then 4611686018427387904 else 0)
 (A:nF d0 d1 s t op obj arg Rj n s' e1 e2 e3 e4 e5 oc):L 2005 [t,m,enc d0,enc d1,enc s,enc k,fF,gw,ea,eb,enc s,enc k,x.a,enc x.lc,x.w,x.o,x.g,x.tr]=some (if oc≠0/\e1=t/\e2=fF/\e3=gw/\e4=ea/\e5=eb then [enc s',enc (eZ k t (iM (fI d1 t x) x op e2 e3 e4 oc)),1] else [enc s,enc k,0]):=by
 have eP:=pX S;have hO:=om (s:=s) (k:=eZ k t x) (jC R.t0 ht x) (by rw [gg]; exact ht) R;have hN:=xd (s:=s) (k:=eZ k t x) C (jC R.t0 ht x) (by rw [gg]; exact ht) R;rw [ho] at hO;rw [ha] at hN;simp only [eZ,KT.d,bX,cG] at hO hN
 have hx:x.w=0->x.a<(Nc d1 t:Int):=fun w0=>by unfold fT at ho;rw [an w0] at ho;have:=R.ok.2.1;unfold Nc at ho ⊢;split at ho<;>omega
 have hE:M! e1 e2 e3 e4 e5 oc= [e1,e2,e3,e4,e5]:=by
  unfold M!;split
  ·rename_i h0;obtain⟨_,rfl,rfl,rfl,rfl,rfl⟩:=A.no h0;rfl
  ·rfl
 obtain⟨Y,hc⟩:=Ls (k:=k) C ht R A.eq (fun h=>(A.no h).1) hx hz;rw [hE] at Y;simp only [aX,ax] at Y
 have K:dY (foE d0 d1 s k t m fF gw ea eb x) Ly= .out (if oc≠0/\e1=t/\e2=fF/\e3=gw/\e4=ea/\e5=eb then [enc s',enc (eZ k t (iM (fI d1 t x) x op e2 e3 e4 oc)),1] else [enc s,enc k,0]):=by
  by_cases q4:fF=4
  ·by_cases qa:ea=0
   ·have et:Rj=4611686018427387904:=by rw [J?,an ⟨q4,qa⟩]
    rw [et] at Y;by_cases o0:oc=0
    ·rw [ak (fun h=>h.1 o0)];refine bV [.eq (a0 1650 pz) Q0,D0,.eq (a0 1750 pz) Q0,.eq eQ nL,NO,.eq (a0 14550 jX) Q0,.eq (rr 14550 jX 0) Qa,.eq (rr 14550 jX 21) Qa,.eq (a0 1900 [cO,dj]) Q0] [.lt (.lit 20000) Qb,GI] (ou [rr 1900 [cO,dj] 0,rr 1900 [cO,dj] 1,Qa]) (by simp only [zz,hn,hO,hN,Y,q4,qa,o0,eP]<;>omega) ad ?_;simp only [zz,eP]
    ·by_cases qe:e1=t/\e2=fF/\e3=gw/\e4=ea/\e5=eb
     ·rw [an ⟨o0,qe⟩];refine bV [.eq (a0 1650 pz) Q0,D0,.eq (a0 1750 pz) Q0,.eq eQ nL,NO,.eq (a0 14550 jX) Q0,.eq (rr 14550 jX 0) Qa,.and (.eq (rr 14550 jX 16) Qf) (.and (.eq (rr 14550 jX 17) eQ) (.and (.eq (rr 14550 jX 18) ia) (.and (.eq (rr 14550 jX 19) jm) (.eq (rr 14550 jX 20) j8))))] [.lt (.lit 20000) Qb,GI,.eq (rr 14550 jX 21) Qa] (ou [rr 14550 jX 22,.op .set oX (cn (mk Qf) (cn (mk (rr 14550 jX 23)) (cn ss (cn (mk (rr 14550 jX 24)) (cn (mk (rr 14550 jX 25)) (cn (mk (rr 14550 jX 26)) (cn (mk (rr 14550 jX 27)) gR))))))),Q0]) (by simp only [zz,hn,hO,hN,Y,q4,qa,o0,dF,qe,and_self,eP]<;>omega) ad ?_;simp only [zz,hN,Y,eZ,KT.d,bX,cG,hc]
     ·rw [ak (fun h=>qe h.2)];refine bV [.eq (a0 1650 pz) Q0,D0,.eq (a0 1750 pz) Q0,.eq eQ nL,NO,.eq (a0 14550 jX) Q0,.eq (rr 14550 jX 0) Qa,.eq (a0 1900 [cO,dj]) Q0] [.lt (.lit 20000) Qb,GI,.eq (rr 14550 jX 21) Qa,.and (.eq (rr 14550 jX 16) Qf) (.and (.eq (rr 14550 jX 17) eQ) (.and (.eq (rr 14550 jX 18) ia) (.and (.eq (rr 14550 jX 19) jm) (.eq (rr 14550 jX 20) j8))))] (ou [rr 1900 [cO,dj] 0,rr 1900 [cO,dj] 1,Qa]) (by simp only [zz,hn,hO,hN,Y,q4,qa,o0,dF,qe,eP]<;>omega) ad ?_;simp only [zz,eP]
   ·have et:Rj=0:=by rw [J?,ak (fun h=>qa h.2)]
    rw [et] at Y;by_cases o0:oc=0
    ·rw [ak (fun h=>h.1 o0)];refine bV [.eq (a0 1650 pz) Q0,D0,.eq (a0 1750 pz) Q0,.eq eQ nL,.eq (a0 14550 fP) Q0,.eq (rr 14550 fP 0) Qa,.eq (rr 14550 fP 21) Qa,.eq (a0 1900 [cO,dj]) Q0] [.lt (.lit 20000) Qb,GI,NO] (ou [rr 1900 [cO,dj] 0,rr 1900 [cO,dj] 1,Qa]) (by simp only [zz,hn,hO,hN,Y,q4,qa,o0,eP]<;>omega) ad ?_;simp only [zz,eP]
    ·by_cases qe:e1=t/\e2=fF/\e3=gw/\e4=ea/\e5=eb
     ·rw [an ⟨o0,qe⟩];refine bV [.eq (a0 1650 pz) Q0,D0,.eq (a0 1750 pz) Q0,.eq eQ nL,.eq (a0 14550 fP) Q0,.eq (rr 14550 fP 0) Qa,.and (.eq (rr 14550 fP 16) Qf) (.and (.eq (rr 14550 fP 17) eQ) (.and (.eq (rr 14550 fP 18) ia) (.and (.eq (rr 14550 fP 19) jm) (.eq (rr 14550 fP 20) j8))))] [.lt (.lit 20000) Qb,GI,NO,.eq (rr 14550 fP 21) Qa] (ou [rr 14550 fP 22,.op .set oX (cn (mk Qf) (cn (mk (rr 14550 fP 23)) (cn ss (cn (mk (rr 14550 fP 24)) (cn (mk (rr 14550 fP 25)) (cn (mk (rr 14550 fP 26)) (cn (mk (rr 14550 fP 27)) gR))))))),Q0]) (by simp only [zz,hn,hO,hN,Y,q4,qa,o0,dF,qe,and_self,eP]<;>omega) ad ?_;simp only [zz,hN,Y,eZ,KT.d,bX,cG,hc]
     ·rw [ak (fun h=>qe h.2)];refine bV [.eq (a0 1650 pz) Q0,D0,.eq (a0 1750 pz) Q0,.eq eQ nL,.eq (a0 14550 fP) Q0,.eq (rr 14550 fP 0) Qa,.eq (a0 1900 [cO,dj]) Q0] [.lt (.lit 20000) Qb,GI,NO,.eq (rr 14550 fP 21) Qa,.and (.eq (rr 14550 fP 16) Qf) (.and (.eq (rr 14550 fP 17) eQ) (.and (.eq (rr 14550 fP 18) ia) (.and (.eq (rr 14550 fP 19) jm) (.eq (rr 14550 fP 20) j8))))] (ou [rr 1900 [cO,dj] 0,rr 1900 [cO,dj] 1,Qa]) (by simp only [zz,hn,hO,hN,Y,q4,qa,o0,dF,qe,eP]<;>omega) ad ?_;simp only [zz,eP]
  ·have et:Rj=0:=by rw [J?,ak (fun h=>q4 h.1)]
   rw [et] at Y;by_cases o0:oc=0
   ·rw [ak (fun h=>h.1 o0)];refine bV [.eq (a0 1650 pz) Q0,D0,.eq (a0 1750 pz) Q0,.eq (a0 14550 fP) Q0,.eq (rr 14550 fP 0) Qa,.eq (rr 14550 fP 21) Qa,.eq (a0 1900 [cO,dj]) Q0] [.lt (.lit 20000) Qb,GI,.eq eQ nL] (ou [rr 1900 [cO,dj] 0,rr 1900 [cO,dj] 1,Qa]) (by simp only [zz,hn,hO,hN,Y,q4,o0,eP]<;>omega) ad ?_;simp only [zz,eP]
   ·by_cases qe:e1=t/\e2=fF/\e3=gw/\e4=ea/\e5=eb
    ·rw [an ⟨o0,qe⟩];refine bV [.eq (a0 1650 pz) Q0,D0,.eq (a0 1750 pz) Q0,.eq (a0 14550 fP) Q0,.eq (rr 14550 fP 0) Qa,.and (.eq (rr 14550 fP 16) Qf) (.and (.eq (rr 14550 fP 17) eQ) (.and (.eq (rr 14550 fP 18) ia) (.and (.eq (rr 14550 fP 19) jm) (.eq (rr 14550 fP 20) j8))))] [.lt (.lit 20000) Qb,GI,.eq eQ nL,.eq (rr 14550 fP 21) Qa] (ou [rr 14550 fP 22,.op .set oX (cn (mk Qf) (cn (mk (rr 14550 fP 23)) (cn ss (cn (mk (rr 14550 fP 24)) (cn (mk (rr 14550 fP 25)) (cn (mk (rr 14550 fP 26)) (cn (mk (rr 14550 fP 27)) gR))))))),Q0]) (by simp only [zz,hn,hO,hN,Y,q4,o0,dF,qe,and_self,eP]<;>omega) ad ?_;simp only [zz,hN,Y,eZ,KT.d,bX,cG,hc]
    ·rw [ak (fun h=>qe h.2)];refine bV [.eq (a0 1650 pz) Q0,D0,.eq (a0 1750 pz) Q0,.eq (a0 14550 fP) Q0,.eq (rr 14550 fP 0) Qa,.eq (a0 1900 [cO,dj]) Q0] [.lt (.lit 20000) Qb,GI,.eq eQ nL,.eq (rr 14550 fP 21) Qa,.and (.eq (rr 14550 fP 16) Qf) (.and (.eq (rr 14550 fP 17) eQ) (.and (.eq (rr 14550 fP 18) ia) (.and (.eq (rr 14550 fP 19) jm) (.eq (rr 14550 fP 20) j8))))] (ou [rr 1900 [cO,dj] 0,rr 1900 [cO,dj] 1,Qa]) (by simp only [zz,hn,hO,hN,Y,q4,o0,dF,qe,eP]<;>omega) ad ?_;simp only [zz,eP]
 rw [bP,Ng];exact congrArg (fin L) K
def afv (s k:D) (n:Nat) (ys:List Int):Prop:=ys= [enc s,enc k,0]\/∃s' k',ys= [enc s',enc k',1]/\Sx s' k' (n+1)/\s'.l.length=s.l.length/\k'.l.length=k.l.length
end
section
variable {d0 d1 s k:D} {t:Int} {n:Nat} {fF gw ea eb:Int} (S:Sx s k n) (hn:n<17592186043904) (C:Cd d0 d1) (ht:t<(k.l.length:Int))
include S hn C ht
theorem Zx: ∀(j m:Nat) (x:KT),m+j=20001->Rt d0 d1 t x->dw 2004 [t,(m:Int),enc d0,enc d1,enc s,enc k,fF,gw,ea,eb,enc s,enc k,x.a,enc x.lc,x.w,x.o,x.g,x.tr] (afv s k n)
 |0,m,x,hm,R=> ⟨_,B6 S C ht R J,.inl rfl⟩
 |j+1,m,x,hm,R=>by
  rcases pG d1 t x with ho|ho
  ·by_cases ha:low (fj d1 t x) 4=0
   ·have Lc:=mG R ho ha;obtain⟨R',vy⟩:=ke C ht R Lc;obtain⟨ys,hL,hy⟩:=Zx j (m+1) (fA (fI d1 t x) x) J R';refine⟨ys,?_,hy⟩;rw [tl S C ht R J ho ha,bO J];exact hL
   ·obtain⟨op,obj,arg,tr,hq⟩:=lF J ha;obtain⟨k1,k2,k3⟩:=pH C R C.ok.1 hq
    have fB:dV .i64 t:=by have:=R.t0;have:=R.t1;have:=C.U.len;exact⟨J,J⟩
    obtain⟨s',e1,e2,e3,e4,e5,oc,A⟩:=oe (tries:=if fF=4/\ea=0 then 4611686018427387904 else 0) C.h0 C.U S.g hn fB k1 k2 k3;refine⟨_,tk S C ht R J ho hq rfl A,?_⟩;split
    ·exact .inr ⟨_,_,rfl,D7 S C R ht (Gi R ho) A,A.len,gg _ _ _⟩
    ·exact .inl rfl
  ·exact⟨_,uE S C ht R J ho,.inl rfl⟩
theorem Zw: ∀(j m:Nat) (x:KT),m+j=20001->Rt d0 d1 t x->x.lc.l.length=0->dw 2005 [t,(m:Int),enc d0,enc d1,enc s,enc k,fF,gw,ea,eb,enc s,enc k,x.a,enc x.lc,x.w,x.o,x.g,x.tr] (afv s k n)
 |0,m,x,hm,R,hz=> ⟨_,B5 S C ht R hz J,.inl rfl⟩
 |j+1,m,x,hm,R,hz=>by
  rcases pG d1 t x with ho|ho
  ·by_cases ha:low (fj d1 t x) 4=0
   ·have Lc:=mG R ho ha;obtain⟨R',vy⟩:=ke C ht R Lc;obtain⟨ys,hL,hy⟩:=Zw j (m+1) (fA (fI d1 t x) x) J R' (by rw [vy]; exact hz);refine⟨ys,?_,hy⟩;rw [tj S C ht R hz J ho ha,bO J];exact hL
   ·obtain⟨op,obj,arg,tr,hq⟩:=lF J ha;obtain⟨k1,k2,k3⟩:=pH C R C.ok.1 hq
    have fB:dV .i64 t:=by have:=R.t0;have:=R.t1;have:=C.U.len;exact⟨J,J⟩
    obtain⟨s',e1,e2,e3,e4,e5,oc,A⟩:=oe (tries:=if fF=4/\ea=0 then 4611686018427387904 else 0) C.h0 C.U S.g hn fB k1 k2 k3;refine⟨_,tg S C ht R hz J ho hq rfl A,?_⟩;split
    ·exact .inr ⟨_,_,rfl,D7 S C R ht (Gi R ho) A,A.len,gg _ _ _⟩
    ·exact .inl rfl
  ·exact⟨_,uD S C ht R hz J ho,.inl rfl⟩
end
section
variable {d0 d1 s k:D} {t:Int} {n:Nat} {fF gw ea eb:Int} (S:Sx s k n) (hn:n<17592186043904) (h0:Wd (.sl 3) d0) (U:Wd (.sl 4) d1)
noncomputable abbrev fcE (d0 d1 s k:D) (t fF gw ea eb:Int):Nat->Int:=cY L (low [enc d0,enc d1,enc s,enc k,t,fF,gw,ea,eb])
theorem Fs (S:Sk s k) (hR:L 1550 [enc d0,enc d1,enc s,enc k,t]=some [0]):L 2000 [enc d0,enc d1,enc s,enc k,t,fF,gw,ea,eb]=some [enc s,enc k,0]:=by
 by_cases hr:t<0\/(k.l.length:Int)<=t
 ·rcases IJ S hr with h|⟨h,he⟩|⟨h,he⟩
  ·have K:dY (fcE d0 d1 s k t fF gw ea eb) zr= .out [enc s,enc k,0]:=by
    refine bV [.eq (a0 9050 IQ) Q0,.eq sq Qa,K5,K4] [] (ou [Ba,TN,Qa]) (by simp only [zz,h,hR]<;>omega) ad ?_;simp only [zz,h]
   rw [bP,AS];exact congrArg (fin L) K
  ·subst he
   have K:dY (fcE d0 d1 s (.i 1) t fF gw ea eb) zr= .out [enc s,enc (.i 1),0]:=by refine bV [.eq (a0 9050 IQ) Q0,.eq sq Q0,K5,K4] [.eq sq Qa] (ou [Ba,Qh,Qa]) (by simp only [zz,h,hR]<;>omega) ad ?_;simp only [zz,h]
   rw [bP,AS];exact congrArg (fin L) K
  ·subst he
   have K:dY (fcE d0 d1 s (.i 2) t fF gw ea eb) zr= .out [enc s,enc (.i 2),0]:=by refine bV [.eq (a0 9050 IQ) Q0,.eq sq kA,K5,K4] [.eq sq Qa,.eq sq Q0] (ou [Ba,Qk,Qa]) (by simp only [zz,h,hR]<;>omega) ad ?_;simp only [zz,h]
   rw [bP,AS];exact congrArg (fin L) K
 ·obtain⟨i,rfl⟩ : ∃i:Nat,t=(i:Int):=⟨t.toNat,J⟩;have hi:i<k.l.length:=J
  obtain⟨a,lc,w,o,g,tr,T⟩:=gM S.wk _ (aF hi);have h:=Ci S hi T;have hs:eZ k (i:Int) ⟨a,lc,w,o,g,tr⟩ = k:=OJ (xT S.wk J).sh J J (by rw [bT hi,T.is]);simp only [eZ,KT.d,bX,cG] at hs;have ha:qP lc=3\/qP lc=4:=by unfold qP; split<;>simp
  have K:dY (fcE d0 d1 s k (i:Int) fF gw ea eb) zr= .out [enc s,enc k,0]:=by
   rcases ha with ha|ha
   ·rw [ha] at h;refine bV [.eq (a0 9050 IQ) Q0,.eq sq p8,K5,K4] [.eq sq Qa,.eq sq Q0,.eq sq kA] (ou [Ba,Qpb,Qa]) (by simp only [zz,h,hR]<;>omega) ad ?_;simp only [zz,h,hs]
   ·rw [ha] at h;refine bV [.eq (a0 9050 IQ) Q0,.eq sq nL,K5,K4] [.eq sq Qa,.eq sq Q0,.eq sq kA,.eq sq p8] (ou [Ba,Qpb,Qa]) (by simp only [zz,h,hR]<;>omega) ad ?_;simp only [zz,h,hs]
  rw [bP,AS];exact congrArg (fin L) K
include S hn h0 U
theorem U9:dw 2000 [enc d0,enc d1,enc s,enc k,t,fF,gw,ea,eb] (afv s k n):=by
 rcases LI S hn h0 U (t:=t) with hR|⟨x,R⟩
 ·exact⟨_,Fs S hR,.inl rfl⟩
 ·have h:=R.cp S;have hR:=R.yes;by_cases hp:0<x.lc.l.length
  ·have ha:qP x.lc=3:=an hp;rw [ha] at h;obtain⟨ys,hL,hy⟩:=Zx (fF:=fF) (gw:=gw) (ea:=ea) (eb:=eb) S hn R.c R.ht 20001 0 x J R.r;refine⟨ys,?_,hy⟩
   have K:dY (fcE d0 d1 s k t fF gw ea eb) zr= .jump 2004 [t,0,enc d0,enc d1,enc s,enc k,fF,gw,ea,eb,enc s,enc k,x.a,enc x.lc,x.w,x.o,x.g,x.tr]:=by refine bV [.eq (a0 9050 IQ) Q0,.eq sq p8,K5] [.eq sq Qa,.eq sq Q0,.eq sq kA,K4] (ju 2004 Qqo) (by simp only [zz,h,hR]<;>omega) ad ?_;simp only [zz,h]
   rw [bP,AS];exact (congrArg (fin L) K).trans hL
  ·have ha:qP x.lc=4:=ak hp;rw [ha] at h;obtain⟨ys,hL,hy⟩:=Zw (fF:=fF) (gw:=gw) (ea:=ea) (eb:=eb) S hn R.c R.ht 20001 0 x J R.r J;refine⟨ys,?_,hy⟩
   have K:dY (fcE d0 d1 s k t fF gw ea eb) zr= .jump 2005 [t,0,enc d0,enc d1,enc s,enc k,fF,gw,ea,eb,enc s,enc k,x.a,enc x.lc,x.w,x.o,x.g,x.tr]:=by refine bV [.eq (a0 9050 IQ) Q0,.eq sq nL,K5] [.eq sq Qa,.eq sq Q0,.eq sq kA,.eq sq p8,K4] (ju 2005 Qqo) (by simp only [zz,h,hR]<;>omega) ad ?_;simp only [zz,h]
   rw [bP,AS];exact (congrArg (fin L) K).trans hL
end
noncomputable abbrev MM (d0 d1 s k e:D):Option (List Int):=L 2000 [enc d0,enc d1,enc s,enc k,(e.W 0).n,(e.W 1).n,(e.W 2).n,(e.W 3).n,(e.W 4).n]
noncomputable def ek (d0 d1:D):D->D->List D->D×D×Nat
 |s,k,[]=>(s,k,0)
 |s,k,e::l=>match MM d0 d1 s k e with
  |some [a,b,c]=>if c=0 then (s,k,0) else ((ek d0 d1 (dec a) (dec b) l).1,(ek d0 d1 (dec a) (dec b) l).2.1,(ek d0 d1 (dec a) (dec b) l).2.2+1)
  |_=>(s,k,0)
theorem NB (d0 d1:D): ∀(l:List D) (s k:D) (m:Nat),(ek d0 d1 s k (l.take m)).2.2=min (ek d0 d1 s k l).2.2 m
 |[],s,k,m=>by simp [ek]
 |e::l,s,k,0=>by simp [ek]
 |e::l,s,k,m+1=>by
  rw [anr];unfold ek;split
  ·rename_i a b c _;split
   ·simp
   ·have ih:=NB d0 d1 l (dec a) (dec b) m;show _+1=min (_+1) (m+1);omega
  ·simp
theorem B_ (d0 d1:D): ∀(l:List D) (s k:D),(ek d0 d1 s k l).2.2<=l.length
 |[],s,k=>by simp [ek]
 |e::l,s,k=>by
  unfold ek;split
  ·rename_i a b c _;split
   ·simp
   ·have:=B_ d0 d1 l (dec a) (dec b);simpa using this
  ·simp
section
variable {d0 d1:D} (h0:Wd (.sl 3) d0) (U:Wd (.sl 4) d1)
noncomputable abbrev afE (d d0 d1 s k:D) (len i:Int):Nat->Int:=cY L (low [enc d,len,i,enc d0,enc d1,enc s,enc k])
include h0 U
theorem NH (d:D) (W:d.l.length<=17592186000000): ∀(j i:Nat) (s k:D),i+j=d.l.length->Sx s k i->L 2151 [enc d,(d.l.length:Int),(i:Int),enc d0,enc d1,enc s,enc k]=some [enc (ek d0 d1 s k (d.l.drop i)).1,enc (ek d0 d1 s k (d.l.drop i)).2.1,((i+(ek d0 d1 s k (d.l.drop i)).2.2:Nat):Int)]
 |0,i,s,k,hi,S=>by
  have c1: ¬(i:Int)<(d.l.length:Int):=J
  have e:(d.l.length:Int)=((i+0:Nat):Int):=J
  rw [bP,SW,aoi J];simp only [Rn,zz,c1,cN,ek];rw [e]
 |j+1,i,s,k,hi,S=>by
  have dK:i<d.l.length:=J
  have Ff:d.l.drop i=d.l[i]::d.l.drop (i+1):=amX dK;have c1:(i:Int)<(d.l.length:Int):=J
  have c2: ¬((i:Int)<0):=J
  have w:=bO (n:=i) J;rw [Ff,ek];rcases U9 (t:=(d.l[i].W 0).n) (fF:=(d.l[i].W 1).n) (gw:=(d.l[i].W 2).n) (ea:=(d.l[i].W 3).n) (eb:=(d.l[i].W 4).n) S J h0 U with ⟨ys,hL,rfl|⟨s',k',rfl,S',_⟩⟩
  ·have K:dY (afE d d0 d1 s k (d.l.length:Int) (i:Int)) Rn= .out [enc s,enc k,(i:Int)]:=by
    refine bV [xG,Q',.eq (a0 2000 N?) Q0,.eq (rr 2000 N? 2) Qa] [K6] (ou [dj,eQ,Qo]) (by simp only [zz,c1,c2,bT dK,hL]<;>omega) ad ?_;simp only [zz]
   rw [bP,SW];refine (congrArg (fin L) K).trans ?_;unfold MM;rw [hL];rfl
  ·have ih:=NH d W j (i+1) s' k' J S'
   have K:dY (afE d d0 d1 s k (d.l.length:Int) (i:Int)) Rn= .jump 2151 [enc d,(d.l.length:Int),((i+1:Nat):Int),enc d0,enc d1,enc s',enc k']:=by refine bV [xG,Q',.eq (a0 2000 N?) Q0] [K6,.eq (rr 2000 N? 2) Qa] (ju 2151 [Qf,Qb,QU,Qm,cO,rr 2000 N? 0,rr 2000 N? 1]) (by simp only [zz,c1,c2,bT dK,hL]<;>omega) ad ?_;simp only [zz,bT dK,hL,w]
   rw [bP,SW];refine (congrArg (fin L) K).trans (ih.trans ?_);unfold MM;rw [hL];simp only [bD,bI,if_false];rw [show i+1+(ek d0 d1 s' k' (d.l.drop (i+1))).2.2=i+((ek d0 d1 s' k' (d.l.drop (i+1))).2.2+1) by omega]
end
end Go.As.Try
end
section
namespace Go.As.Try
open Go hiding Stat Spec shape
open Go.As
set_option maxRecDepth 100000
set_option linter.unusedSimpArgs false
set_option linter.unusedVariables false
def GG (k:D):Prop:= ∀j:Nat,j<k.l.length->0<=((k.at (j:Int)).W 4).n
def Q? (d1:D):Prop:= ∀(t:Int) (x:KT),x.w=0->∀op obj arg tr:Int,fj d1 t x= [op,obj,arg,tr,1]->op≠25
def FoE (d0 d1 s k:D) (n:Nat) (t fF gw ea eb:Int) (ys:List Int):Prop:=ys= [enc s,enc k,0]\/∃(s' k':D) (op obj arg tr oc:Int),ys= [enc s',enc k',1]/\Sx s' k' (n+1)/\s'.l.length=s.l.length/\k'.l.length=k.l.length/\oc≠0/\
 K2 d0 d1 s t op obj arg tr s' t fF gw ea eb oc/\MR d0 d1 s' k'/\GG k'/\dV .i64 t/\dV .u8 op/\dV .i64 obj/\dV .i64 arg/\(op=25->0<=arg)
theorem YE (I:D) (x:KT):(fA I x).w=x.w/\(fA I x).g=x.g:=by
 unfold fA
 repeat' split
 all_goals exact⟨rfl,rfl⟩
theorem aeR (I:D) (x:KT) (op e2 e3 e4 oc:Int) (hx:0<=x.g) (he:oc=3->e2=15->0<=e4):0<=(iM I x op e2 e3 e4 oc).g:=by
 unfold iM
 repeat' split
 all_goals first
  |exact hx
  |exact anE 0
  |(simp only; omega)
  |(simp only; exact he J J)
theorem aga {k:D} {t:Int} {x:KT} (G:GG k) (t0:0<=t) (ht:t<(k.l.length:Int)) (hx:0<=x.g):GG (eZ k t x):=fun j hj=>by
 rw [gg] at hj;by_cases h:(j:Int)=t
 ·rw [h,jC t0 ht x];simp only [KT.d,zg,ay,nI];exact hx
 ·have Z:(eZ k t x).at (j:Int)=k.at (j:Int):=by
   rw [j5,j5];show ((dL (eV k.l t x.d)).l[j]?).getD _=_;rw [bE,lg h]
  rw [Z];exact G j hj
theorem aj9 {M mo th arg tries o c dn g:Int} {r v:D} {o' c' gK g':Int} {r' v':D} {m:Option Int} {a oc:Int} (h:act M mo th 15 arg tries o c dn g r v= .res o' c' gK g' r' v' m a oc) (hg:0<=g):0<=a:=by
 simp only [act,Int.reduceEq,if_true,if_false,reduceIte] at h
 repeat' split at h
 all_goals simp only [Act.res.injEq,reduceCtorEq] at h
 all_goals omega
section
variable {d0 d1 s k:D} {t:Int} {n:Nat} {fF gw ea eb:Int} (S:Sx s k n) (hn:n<17592186043904) (C:Cd d0 d1) (ht:t<(k.l.length:Int)) (M:MR d0 d1 s k) (Gk:GG k) (Np:Q? d1)
include S hn C ht M Gk Np
theorem SJ {x:KT} (R:Rt d0 d1 t x) (hg:0<=x.g) (ho:fT d1 t x=0) {op obj arg tr Rj e1 e2 e3 e4 e5 oc:Int} {s':D} (hq:fj d1 t x= [op,obj,arg,tr,1]) (k1:dV .u8 op) (k2:dV .i64 obj) (k3:dV .i64 arg) (fB:dV .i64 t)
 (A:nF d0 d1 s t op obj arg Rj n s' e1 e2 e3 e4 e5 oc) (hh:oc≠0/\e1=t/\e2=fF/\e3=gw/\e4=ea/\e5=eb):FoE d0 d1 s k n t fF gw ea eb [enc s',enc (eZ k t (iM (fI d1 t x) x op e2 e3 e4 oc)),1]:=by
 obtain⟨vx,U,Z,h3,h4,h5⟩:=hh;subst U Z h3 h4 h5;have T:=D6 C.h0 C.U S.g hn k1 A;obtain⟨hC,ok,hle⟩:=zH C.h0 C.U S.g J M.1;have hR:=Om C R (Gi R ho) hle A.e3 A.e4 T
 have K_:L 350 [enc d0,enc d1,enc s']=some [1]:=by
  cases T with
  |no=>exact M.1
  |vu A'=>exact M.1
  |res A' o c dn g r v o' c' gK g' r' v' m _ _ T' h=>exact Hq C.h0 C.U S.g hn k1 fB k3 A' T' h
 have he:oc=3->e2=15->0<=e4:=fun _ h15=>by
  cases T with
  |no=>exact absurd rfl vx
  |vu A'=>omega
  |res A' o c dn g r v o' c' gK g' r' v' m _ _ T' h=> have P:=BC C.h0 C.U S.g J M.1 A'.o0 A'.o1 T';subst h15;exact aj9 h P.1.2.2.2.1
 refine .inr ⟨s',_,op,obj,arg,Rj,oc,rfl,D7 S C R ht (Gi R ho) A,A.len,gg _ _ _,vx,T,Jz S hn M hR ht K_,aga Gk R.t0 ht (aeR _ _ _ _ _ _ _ hg he),fB,k1,k2,k3,fun h25=>?_⟩;by_cases hw:x.w=0
 ·exact absurd h25 (Np _ x hw op obj arg tr hq)
 ·unfold fj at hq;rw [ak hw] at hq;simp only [List.cons.injEq,and_true] at hq;omega
theorem SO: ∀(j m:Nat) (x:KT),m+j=20001->Rt d0 d1 t x->0<=x.g->dw 2004 [t,(m:Int),enc d0,enc d1,enc s,enc k,fF,gw,ea,eb,enc s,enc k,x.a,enc x.lc,x.w,x.o,x.g,x.tr] (FoE d0 d1 s k n t fF gw ea eb)
 |0,m,x,hm,R,hg=> ⟨_,B6 S C ht R J,.inl rfl⟩
 |j+1,m,x,hm,R,hg=>by
  rcases pG d1 t x with ho|ho
  ·by_cases ha:low (fj d1 t x) 4=0
   ·have Lc:=mG R ho ha;obtain⟨R',vy⟩:=ke C ht R Lc;obtain⟨ys,hL,hy⟩:=SO j (m+1) (fA (fI d1 t x) x) J R' (by rw [(YE _ _).2]; exact hg);refine⟨ys,?_,hy⟩;rw [tl S C ht R J ho ha,bO J];exact hL
   ·obtain⟨op,obj,arg,tr,hq⟩:=lF J ha;obtain⟨k1,k2,k3⟩:=pH C R C.ok.1 hq
    have fB:dV .i64 t:=by have:=R.t0;have:=R.t1;have:=C.U.len;exact⟨J,J⟩
    obtain⟨s',e1,e2,e3,e4,e5,oc,A⟩:=oe (tries:=if fF=4/\ea=0 then 4611686018427387904 else 0) C.h0 C.U S.g hn fB k1 k2 k3;refine⟨_,tk S C ht R J ho hq rfl A,?_⟩;split
    ·rename_i hh;exact SJ S hn C ht M Gk Np R hg ho hq k1 k2 k3 fB A hh
    ·exact .inl rfl
  ·exact⟨_,uE S C ht R J ho,.inl rfl⟩
theorem SN: ∀(j m:Nat) (x:KT),m+j=20001->Rt d0 d1 t x->0<=x.g->x.lc.l.length=0->dw 2005 [t,(m:Int),enc d0,enc d1,enc s,enc k,fF,gw,ea,eb,enc s,enc k,x.a,enc x.lc,x.w,x.o,x.g,x.tr] (FoE d0 d1 s k n t fF gw ea eb)
 |0,m,x,hm,R,hg,hz=> ⟨_,B5 S C ht R hz J,.inl rfl⟩
 |j+1,m,x,hm,R,hg,hz=>by
  rcases pG d1 t x with ho|ho
  ·by_cases ha:low (fj d1 t x) 4=0
   ·have Lc:=mG R ho ha;obtain⟨R',vy⟩:=ke C ht R Lc;obtain⟨ys,hL,hy⟩:=SN j (m+1) (fA (fI d1 t x) x) J R' (by rw [(YE _ _).2]; exact hg) (by rw [vy]; exact hz);refine⟨ys,?_,hy⟩;rw [tj S C ht R hz J ho ha,bO J];exact hL
   ·obtain⟨op,obj,arg,tr,hq⟩:=lF J ha;obtain⟨k1,k2,k3⟩:=pH C R C.ok.1 hq
    have fB:dV .i64 t:=by have:=R.t0;have:=R.t1;have:=C.U.len;exact⟨J,J⟩
    obtain⟨s',e1,e2,e3,e4,e5,oc,A⟩:=oe (tries:=if fF=4/\ea=0 then 4611686018427387904 else 0) C.h0 C.U S.g hn fB k1 k2 k3;refine⟨_,tg S C ht R hz J ho hq rfl A,?_⟩;split
    ·rename_i hh;exact SJ S hn C ht M Gk Np R hg ho hq k1 k2 k3 fB A hh
    ·exact .inl rfl
  ·exact⟨_,uD S C ht R hz J ho,.inl rfl⟩
end
end Go.As.Try
end
section
namespace Go.As.Try
open Go hiding Stat Spec shape
open Go.As
set_option maxRecDepth 100000
theorem Vx {M mo th op arg tries aeP o c dn g:Int} {r v:D} (h:op≠4):act M mo th op arg tries o c dn g r v=act M mo th op arg aeP o c dn g r v:=by unfold act;simp only [ak h]
theorem NJ {M mo th arg tries o c dn g:Int} {r v:D}:act M mo th 4 arg tries o c dn g r v=if o<0 then .res th c dn g r v none 1 2 else if tries<arg then .nH else .res o c dn g r v none 0 2:=rfl
theorem WR {x:D} {o c dn g o' c' gK g':Int} {r v r' v':D} (T:Tg x o c dn g r v) (T':Tg x o' c' gK g' r' v'):o=o'/\c=c'/\dn=gK/\g=g'/\r=r'/\v=v':=by have h:=T.is.symm.trans T'.is;simp only [bX,cG,D.p.injEq,D.i.injEq,and_true] at h;exact h
abbrev U8 (fF ea:Int):Int:=if fF=4/\ea=0 then 4611686018427387904 else 0
section
variable {d0 d1 s s':D} {t op obj arg tr e1 e2 e3 e4 e5 oc:Int} {n:Nat} (h0:Wd (.sl 3) d0) (U:Wd (.sl 4) d1) (G:Gs s n) (hn:n<17592186043904) (mI:dV .u8 op) (A:nF d0 d1 s t op obj arg tr n s' e1 e2 e3 e4 e5 oc)
include h0 U G hn mI A
theorem T0 (h:op≠4) (tries:Int):nF d0 d1 s t op obj arg tries n s' e1 e2 e3 e4 e5 oc:=by
 refine⟨?_,A.no,A.oc3,A.gs,A.len,A.n2,A.e3,A.e4⟩;have hf:=G.kr (by omega:n<17592186044415)
 have e:L 400 [enc d0,enc d1,enc s,t,op,obj,arg,tries]=L 400 [enc d0,enc d1,enc s,t,op,obj,arg,tr]:=by
  by_cases hA:Acc d0 d1 s t op obj
  ·obtain⟨_,o,c,dn,g,r,v,T,hL⟩:=re (arg:=arg) (tries:=tries) h0 U G.wd hf mI hA;obtain⟨_,o',c',gK,g',r',v',T',Ps⟩:=re (arg:=arg) (tries:=tr) h0 U G.wd hf mI hA;obtain⟨rfl,rfl,rfl,rfl,rfl,rfl⟩:=WR T T';rw [hL,Ps,Vx h]
  ·rw [Bq h0 U G.wd hf mI hA,Bq h0 U G.wd hf mI hA]
 rw [e];exact A.eq
theorem Ol (h:op=4) (vx:oc≠0) (hr:tr<=4611686018427387904):e2=4/\nF d0 d1 s t op obj arg (U8 e2 e4) n s' e1 e2 e3 e4 e5 oc:=by
 subst h;have hf:=G.kr (by omega:n<17592186044415);have hE:=A.eq;by_cases hA:Acc d0 d1 s t 4 obj
 ·obtain⟨_,o,c,dn,g,r,v,T,hL⟩:=re (arg:=arg) (tries:=tr) h0 U G.wd hf mI hA;obtain⟨_,o',c',gK,g',r',v',T',Ps⟩:=re (arg:=arg) (tries:=U8 e2 e4) h0 U G.wd hf mI hA;obtain⟨rfl,rfl,rfl,rfl,rfl,rfl⟩:=WR T T';rw [hE,zQ,NJ] at hL;rw [zQ,NJ] at Ps;by_cases ho:o<0
  ·rw [an ho] at hL Ps;rw [<- hL] at Ps;simp only [Vm,aq,List.cons.injEq,and_true] at hL;obtain⟨_,_,rfl,_⟩:=hL;exact⟨rfl,Ps,A.no,A.oc3,A.gs,A.len,A.n2,A.e3,A.e4⟩
  ·rw [ak ho] at hL Ps;by_cases hta:tr<arg
   ·rw [an hta] at hL;simp only [Vm,aq,List.cons.injEq,and_true] at hL;exact absurd hL.2.2.2.2.2.2 vx
   ·rw [ak hta] at hL;have hL2:=hL;simp only [Vm,aq,List.cons.injEq,and_true] at hL;obtain⟨_,_,rfl,_,rfl,_⟩:=hL
    have hq: ¬(U8 4 0)<arg:=by have:U8 4 0=4611686018427387904:=rfl;omega
    rw [ak hq,<- hL2] at Ps;exact⟨rfl,Ps,A.no,A.oc3,A.gs,A.len,A.n2,A.e3,A.e4⟩
 ·rw [Bq h0 U G.wd hf mI hA] at hE;simp only [aq,List.cons.injEq,and_true] at hE;exact absurd hE.2.2.2.2.2.2.symm vx
theorem Lu (vx:oc≠0) (hr:tr<=4611686018427387904):nF d0 d1 s t op obj arg (U8 e2 e4) n s' e1 e2 e3 e4 e5 oc:=by
 by_cases h:op=4
 ·exact (Ol h0 U G hn mI A h vx hr).2
 ·exact T0 h0 U G hn mI A h _
end
inductive Dq (d1:D) (t:Int):Nat->KT->KT->Prop
 |zero (x:KT):Dq d1 t 0 x x
 |succ (j:Nat) (x y:KT) (ho:fT d1 t x=0) (ha:low (fj d1 t x) 4=0) (h:Dq d1 t j (fA (fI d1 t x) x) y):Dq d1 t (j+1) x y
theorem Dq.snoc {d1:D} {t:Int} {j:Nat} {x y:KT} (h:Dq d1 t j x y) (ho:fT d1 t y=0) (ha:low (fj d1 t y) 4=0):Dq d1 t (j+1) x (fA (fI d1 t y) y):=by
 induction h with
 |zero x=>exact .succ 0 x _ ho ha (.zero _)
 |succ j x y Ai ha' _ ih=>exact .succ _ x _ Ai ha' (ih ho ha)
section
variable {d0 d1 s k:D} {t:Int} {n:Nat} {fF gw ea eb:Int} (S:Sk s k) (C:Cd d0 d1) (ht:t<(k.l.length:Int))
include S C ht
theorem afp {j:Nat} {x y:KT} (h:Dq d1 t j x y): ∀m:Nat,m+j<=20000->Rt d0 d1 t x->L 2004 [t,(m:Int),enc d0,enc d1,enc s,enc k,fF,gw,ea,eb,enc s,enc k,x.a,enc x.lc,x.w,x.o,x.g,x.tr]=L 2004 [t,((m+j:Nat):Int),enc d0,enc d1,enc s,enc k,fF,gw,ea,eb,enc s,enc k,y.a,enc y.lc,y.w,y.o,y.g,y.tr]/\Rt d0 d1 t y:=by
 induction h with
 |zero x=>exact fun m _ R=> ⟨rfl,R⟩
 |succ j x y ho ha _ ih=> intro m hm R;have R':=(ke C ht R (mG R ho ha)).1;obtain⟨q1,q2⟩:=ih (m+1) J R';rw [tl S C ht R J ho ha,bO (n:=m) J,q1,show m+1+j=m+(j+1) by omega];exact⟨rfl,q2⟩
theorem afo {j:Nat} {x y:KT} (h:Dq d1 t j x y): ∀m:Nat,m+j<=20000->Rt d0 d1 t x->x.lc.l.length=0->L 2005 [t,(m:Int),enc d0,enc d1,enc s,enc k,fF,gw,ea,eb,enc s,enc k,x.a,enc x.lc,x.w,x.o,x.g,x.tr]=L 2005 [t,((m+j:Nat):Int),enc d0,enc d1,enc s,enc k,fF,gw,ea,eb,enc s,enc k,y.a,enc y.lc,y.w,y.o,y.g,y.tr]/\Rt d0 d1 t y/\y.lc.l.length=0:=by
 induction h with
 |zero x=>exact fun m _ R hz=> ⟨rfl,R,hz⟩
 |succ j x y ho ha _ ih=> intro m hm R hz;obtain⟨R',Y⟩:=ke C ht R (mG R ho ha);obtain⟨q1,q2,q3⟩:=ih (m+1) J R' J;rw [tj S C ht R hz J ho ha,bO (n:=m) J,q1,show m+1+j=m+(j+1) by omega];exact⟨rfl,q2,q3⟩
end
section
variable {d0 d1 s k:D} {t:Int} {n:Nat} {fF gw ea eb:Int} {x:KT} (S:Sk s k) (R:Rs d0 d1 s k t x)
include S R
theorem J8 (hp:0<x.lc.l.length):L 2000 [enc d0,enc d1,enc s,enc k,t,fF,gw,ea,eb]=L 2004 [t,0,enc d0,enc d1,enc s,enc k,fF,gw,ea,eb,enc s,enc k,x.a,enc x.lc,x.w,x.o,x.g,x.tr]:=by
 have h:=R.cp S;have hR:=R.yes;have ha:qP x.lc=3:=an hp;rw [ha] at h
 have K:dY (fcE d0 d1 s k t fF gw ea eb) zr= .jump 2004 [t,0,enc d0,enc d1,enc s,enc k,fF,gw,ea,eb,enc s,enc k,x.a,enc x.lc,x.w,x.o,x.g,x.tr]:=by refine bV [.eq (a0 9050 IQ) Q0,.eq sq p8,K5] [.eq sq Qa,.eq sq Q0,.eq sq kA,K4] (ju 2004 Qqo) (by simp only [zz,h,hR]<;>omega) ad ?_;simp only [zz,h]
 rw [bP,AS];exact congrArg (fin L) K
theorem J7 (hp:x.lc.l.length=0):L 2000 [enc d0,enc d1,enc s,enc k,t,fF,gw,ea,eb]=L 2005 [t,0,enc d0,enc d1,enc s,enc k,fF,gw,ea,eb,enc s,enc k,x.a,enc x.lc,x.w,x.o,x.g,x.tr]:=by
 have h:=R.cp S;have hR:=R.yes;have ha:qP x.lc=4:=ak J;rw [ha] at h
 have K:dY (fcE d0 d1 s k t fF gw ea eb) zr= .jump 2005 [t,0,enc d0,enc d1,enc s,enc k,fF,gw,ea,eb,enc s,enc k,x.a,enc x.lc,x.w,x.o,x.g,x.tr]:=by refine bV [.eq (a0 9050 IQ) Q0,.eq sq nL,K5] [.eq sq Qa,.eq sq Q0,.eq sq kA,.eq sq p8,K4] (ju 2005 Qqo) (by simp only [zz,h,hR]<;>omega) ad ?_;simp only [zz,h]
 rw [bP,AS];exact congrArg (fin L) K
theorem Ft {j:Nat} {y:KT} (hj:j<=20000) (Y:Dq d1 t j x y) (ho:fT d1 t y=0) {op obj arg tr e1 e2 e3 e4 e5 oc:Int} {s':D} (ha:fj d1 t y= [op,obj,arg,tr,1]) (A:nF d0 d1 s t op obj arg (U8 fF ea) n s' e1 e2 e3 e4 e5 oc) :
 L 2000 [enc d0,enc d1,enc s,enc k,t,fF,gw,ea,eb]=some (if oc≠0/\e1=t/\e2=fF/\e3=gw/\e4=ea/\e5=eb then [enc s',enc (eZ k t (iM (fI d1 t y) y op e2 e3 e4 oc)),1] else [enc s,enc k,0]):=by
 by_cases hp:0<x.lc.l.length
 ·obtain⟨q1,q2⟩:=afp (fF:=fF) (gw:=gw) (ea:=ea) (eb:=eb) S R.c R.ht Y 0 J R.r;rw [aQ] at q1;rw [J8 S R hp,q1];exact tk S R.c R.ht q2 J ho ha rfl A
 ·obtain⟨q1,q2,q3⟩:=afo (fF:=fF) (gw:=gw) (ea:=ea) (eb:=eb) S R.c R.ht Y 0 J R.r J;rw [aQ] at q1;rw [J7 S R J,q1];exact tg S R.c R.ht q2 q3 J ho ha rfl A
end
end Go.As.Try
end
section
namespace Go.As.Try
open Go hiding Stat Spec shape
open Go.As
set_option maxRecDepth 100000
set_option linter.unusedSimpArgs false
set_option linter.unusedVariables false
section
variable {d0 d1 s k:D} {t:Int} {n:Nat} {fF gw ea eb:Int} (S:Sx s k n) (hn:n<17592186043904) (h0:Wd (.sl 3) d0) (U:Wd (.sl 4) d1) (M:MR d0 d1 s k) (Gk:GG k) (Np:Q? d1)
include S hn h0 U M Gk Np
theorem uu:dw 2000 [enc d0,enc d1,enc s,enc k,t,fF,gw,ea,eb] (FoE d0 d1 s k n t fF gw ea eb):=by
 rcases LI S hn h0 U (t:=t) with hR|⟨x,R⟩
 ·exact⟨_,Fs S.st hR,.inl rfl⟩
 ·have hg:0<=x.g:=by
   have t0:=R.r.t0;have ht:=R.ht;obtain⟨j,rfl⟩ : ∃j:Nat,t=(j:Int):=⟨t.toNat,J⟩;have:=Gk j J;rw [R.hk] at this;simpa only [KT.d,zg,ay,nI] using this
  by_cases hp:0<x.lc.l.length
  ·unfold dw;rw [J8 S.st R hp];exact SO S hn R.c R.ht M Gk Np 20001 0 x J R.r hg
  ·unfold dw;rw [J7 S.st R J];exact SN S hn R.c R.ht M Gk Np 20001 0 x J R.r hg J
end
theorem NF (d0 d1:D): ∀(l:List D) (s k:D),ek d0 d1 s k (l.take (ek d0 d1 s k l).2.2)=ek d0 d1 s k l
 |[],s,k=>by simp [ek]
 |e::l,s,k=>by
  cases hF:MM d0 d1 s k e with
  |none=>simp [ek,hF]
  |some ys=>
   match ys,hF with
   |[a,b,c],hF=>
    by_cases hc:c=0
    ·simp [ek,hF,hc]
    ·have ih:=NF d0 d1 l (dec a) (dec b)
     have e1:ek d0 d1 s k (e::l)=((ek d0 d1 (dec a) (dec b) l).1,(ek d0 d1 (dec a) (dec b) l).2.1,(ek d0 d1 (dec a) (dec b) l).2.2+1):=by rw [ek,hF];simp only [hc,if_false]
     rw [e1];simp only [anr];rw [ek,hF];simp only [hc,if_false,ih]
   |[],hF=>simp [ek,hF]
   |[_],hF=>simp [ek,hF]
   |[_,_],hF=>simp [ek,hF]
   |_::_::_::_::_,hF=>simp [ek,hF]
structure RS1 (d0 d1 s k:D) (n:Nat):Prop where
 S:Sx s k n
 M:MR d0 d1 s k
 G:GG k
section
variable {d0 d1:D} (h0:Wd (.sl 3) d0) (U:Wd (.sl 4) d1) (Np:Q? d1)
include h0 U Np
theorem A?: ∀(l:List D) (s k:D) (i:Nat),RS1 d0 d1 s k i->i+l.length<=90000->∃m,m<=i+l.length/\RS1 d0 d1 (ek d0 d1 s k l).1 (ek d0 d1 s k l).2.1 m
 |[],s,k,i,R,Y=> ⟨i,ae,by simpa [ek] using R⟩
 |e::l,s,k,i,R,Y=>by
  obtain⟨ys,hF,hy⟩:=uu (t:=(e.W 0).n) (fF:=(e.W 1).n) (gw:=(e.W 2).n) (ea:=(e.W 3).n) (eb:=(e.W 4).n) R.S J h0 U R.M R.G Np;have hfo:MM d0 d1 s k e=some ys:=hF;rw [ek,hfo];simp only [aR] at Y;rcases hy with rfl|⟨s',k',op',obj,arg,tr,oc,rfl,S',_,_,vx,T,M',G',_⟩
  ·exact⟨i,J,by simpa using R⟩
  ·simp only [bI,if_false,reduceIte,bD];obtain⟨m,hm,Rm⟩:=A? l s' k' (i+1) ⟨S',M',G'⟩ J;exact⟨m,by simp only [aR]; omega,Rm⟩
end
end Go.As.Try
end
section
namespace Go.As.Try
open Go hiding Stat Spec shape
open Go.As
set_option maxRecDepth 100000
set_option linter.unusedSimpArgs false
set_option linter.unusedVariables false
set_option linter.unusedSectionVars false
abbrev Bi (e1 e2 e3 e4 e5:Int):D:=dL [.i e1,.i e2,.i e3,.i e4,.i e5]
abbrev Le (e1 e2 e3 e4 e5 oc:Int):List D:=if oc=2\/oc=3 then [Bi e1 e2 e3 e4 e5] else []
theorem JJ {x y:KT} (h:x.d=y.d):x=y:=by simp only [KT.d,bX,cG,D.p.injEq,D.i.injEq,and_true] at h;obtain⟨U,Z,h3,h4,h5,h6⟩:=h;cases x; cases y;simp only at U Z h3 h4 h5 h6;subst U Z h3 h4 h5 h6;rfl
theorem nU (k:D) {t u:Int} (u0:0<=u) (h:u≠t) (x:KT):(eZ k t x).at u=k.at u:=by obtain⟨i,rfl⟩ : ∃i:Nat,u=(i:Int):=⟨u.toNat,J⟩;show (dL (eV k.l t x.d)).at (i:Int)=k.at (i:Int);rw [j5,j5,bE,lg h]
theorem aeQ {d0 d1 s s':D} {t op obj arg tr e1 e2 e3 e4 e5 oc:Int} (T:K2 d0 d1 s t op obj arg tr s' e1 e2 e3 e4 e5 oc) (vx:oc≠0):e1=t:=by
 cases T with
 |no=>exact absurd rfl vx
 |vu=>rfl
 |res=>rfl
theorem RI (d1:D) (t:Int) (x:KT) (r:Int):fT d1 t { x with tr:=r }=fT d1 t x:=rfl
theorem aaK (d1:D) (t:Int) (x:KT) (r:Int):low (fj d1 t { x with tr:=r }) 4=low (fj d1 t x) 4:=by
 show low (if x.w=0 then if x.a=(Nc d1 t:Int) then [0,0,0,0,0] else if ((fI d1 t x).W 0).n=1 then [((fI d1 t x).W 1).n,((fI d1 t x).W 2).n,GV ((fI d1 t x).W 6) x.lc,r,1] else if ((fI d1 t x).W 0).n=2 then [26,((fI d1 t x).W 2).n,0,0,1] else [0,0,0,0,0] else [x.w,x.o,x.g,0,1]) 4=low (fj d1 t x) 4;unfold fj
 repeat' split
 all_goals rfl
theorem Yw {d1:D} {t:Int} {x:KT} {r op obj arg tr:Int} (h:fj d1 t { x with tr:=r }= [op,obj,arg,tr,1]): ∃tr',fj d1 t x= [op,obj,arg,tr',1]:=by
 have e:fj d1 t { x with tr:=r }=(if x.w=0 then if x.a=(Nc d1 t:Int) then [0,0,0,0,0] else if ((fI d1 t x).W 0).n=1 then [((fI d1 t x).W 1).n,((fI d1 t x).W 2).n,GV ((fI d1 t x).W 6) x.lc,r,1] else if ((fI d1 t x).W 0).n=2 then [26,((fI d1 t x).W 2).n,0,0,1] else [0,0,0,0,0] else [x.w,x.o,x.g,0,1]):=rfl;rw [e] at h;unfold fj
 repeat' split at h
 all_goals (simp only [List.cons.injEq] at h; obtain⟨rfl,rfl,rfl,rfl,h⟩:=h)
 all_goals first
  |(exfalso; omega)
  |skip
 ·rename_i U Z h3;exact⟨x.tr,by rw [an U,ak Z,an h3]⟩
 ·rename_i U Z h3 h4;exact⟨0,by rw [an U,ak Z,ak h3,an h4]⟩
 ·rename_i U;exact⟨0,by rw [ak U]⟩
theorem aaO (I:D) (x:KT) (r:Int):fA I { x with tr:=r }= { fA I x with tr:=r }:=by
 unfold fA
 repeat' split
 all_goals rfl
theorem U! (I:D) (x:KT) (r op e2 e3 e4 oc:Int) (h:oc≠0):iM I { x with tr:=r } op e2 e3 e4 oc=iM I x op e2 e3 e4 oc:=by unfold iM;rw [ak h,ak h]
theorem U? (I:D) (x:KT) (op e2 e3 e4:Int): ∃r,iM I x op e2 e3 e4 0= { x with tr:=r }:=by
 unfold iM;rw [an rfl];split
 ·exact⟨_,rfl⟩
 ·exact⟨x.tr,rfl⟩
inductive Run (d0 d1 s k:D):List D->D->D->Prop
 |nil:Run d0 d1 s k [] s k
 |snoc {l:List D} {s1 k1 s2 k2:D} {e1 e2 e3 e4 e5:Int} (r:Run d0 d1 s k l s1 k1) (h:L 2000 [enc d0,enc d1,enc s1,enc k1,e1,e2,e3,e4,e5]=some [enc s2,enc k2,1]):Run d0 d1 s k (l++ [Bi e1 e2 e3 e4 e5]) s2 k2
section
variable {d0 d1 s k:D} {n:Nat} (S:Sx s k n) (hn:n<17592186043904) (h0:Wd (.sl 3) d0) (U:Wd (.sl 4) d1)
include S hn h0 U
theorem X0 (M:MR d0 d1 s k) {t:Int} {x:KT} (t0:0<=t) (t1:t<(d1.l.length:Int)) (h:k.at t=x.d):Rs d0 d1 s k t x:=by obtain⟨y,R⟩:=M.thr S J h0 U t0 t1;rw [JJ (h.symm.trans R.hk)];exact R
end
structure Fr (d0 d1 s0 k0:D) (i:Nat) (es:List D) (s k:D):Prop where
 S:Sx s k i
 M:MR d0 d1 s k
 ll:es.length<=i
 fr: ∃F:D,Run d0 d1 s0 k0 es s F/\Sx s F i/\MR d0 d1 s F/\∀u:Nat,u<d1.l.length->∃(z y:KT) (j:Nat) (r:Int),F.at (u:Int)=z.d/\k.at (u:Int)=KT.d { y with tr:=r }/\Dq d1 (u:Int) j z y/\j<=i
section
variable {d0 d1 s0 k0:D} (h0:Wd (.sl 3) d0) (U:Wd (.sl 4) d1)
include h0 U
theorem SI {s k:D} {i:Nat} {es:List D} (hi:i<5000) (h:Fr d0 d1 s0 k0 i es s k) {t:Int} (t0:0<=t) (t1:t<(d1.l.length:Int)) {s' k':D} {e1 e2 e3 e4 e5 oc:Int} (H:C9 d0 d1 s k t i s' k' e1 e2 e3 e4 e5 oc):Fr d0 d1 s0 k0 (i+1) (es++Le e1 e2 e3 e4 e5 oc) s' k':=by
 obtain⟨S',hls,amM⟩:=XL h.S J h0 U H;have M':=XM h.S J h0 U h.M H;have hlk:k.l.length=d1.l.length:=h.M.2.1;obtain⟨u0,hu0⟩ : ∃u:Nat,(u:Int)=t:=⟨t.toNat,J⟩;have hll:=h.ll;have ev0:Le 0 0 0 0 0 0= []:=rfl;have ev4:Le 0 0 0 0 0 4= []:=rfl;have SS:Le 0 0 0 0 0 1= []:=rfl;obtain⟨F,f1,f2,f3,f4⟩:=h.fr;have hFl:F.l.length=d1.l.length:=f3.2.1
 cases H with
 |no uc=> rw [ev0,am8];exact⟨h.S.mono (am9 i),h.M,J,F,f1,f2.mono (am9 i),f3,fun u hu=>by obtain⟨z,y,j,r,a1,a2,a3,a4⟩:=f4 u hu; exact⟨z,y,j,r,a1,a2,a3,J⟩⟩
 |over x R ho=> rw [ev4,am8];exact⟨h.S.mono (am9 i),h.M,J,F,f1,f2.mono (am9 i),f3,fun u hu=>by obtain⟨z,y,j,r,a1,a2,a3,a4⟩:=f4 u hu; exact⟨z,y,j,r,a1,a2,a3,J⟩⟩
 |loc x R ho hay=>
  rw [SS,am8];refine⟨S',M',J,F,f1,f2.mono (am9 i),f3,fun u hu=>?_⟩;obtain⟨z,y,j,r,a1,a2,a3,a4⟩:=f4 u hu;by_cases Sj:(u:Int)=t
  ·rw [Sj] at a1 a2 a3;have e:=JJ (a2.symm.trans R.hk);subst e;refine⟨z,fA (fI d1 t y) y,j+1,r,by rw [Sj]; exact a1,?_,by rw [Sj]; exact a3.snoc (by rw [<- RI d1 t y r]; exact ho) (by rw [<- aaK d1 t y r]; exact hay),J⟩;show (eZ k t _).at (u:Int)=_;rw [Sj,jC t0 R.ht,<- aaO]
  ·refine⟨z,y,j,r,a1,?_,a3,J⟩;show (eZ k t _).at (u:Int)=_;rw [nU _ J Sj,a2]
 |tri x R ho op obj arg tr Sl k1 k2 k3 fB s' e1 e2 e3 e4 e5 oc A T=>
  refine⟨S',M',?_,?_⟩
  ·rw [a8];have:(Le e1 e2 e3 e4 e5 oc).length<=1:=by unfold Le; split<;>simp
   omega
  ·rcases A.oc3 with hz|h23
   ·subst hz;obtain⟨rfl,rfl,rfl,rfl,rfl,rfl⟩:=A.no rfl;rw [ev0,am8];refine⟨F,f1,f2.mono (am9 i),f3,fun u hu=>?_⟩;obtain⟨z,y,j,r,a1,a2,a3,a4⟩:=f4 u hu;by_cases Sj:(u:Int)=t
    ·rw [Sj] at a2;have e:=JJ (a2.symm.trans R.hk);subst e;obtain⟨r',Ms⟩:=U? (fI d1 t { y with tr:=r }) { y with tr:=r } op 0 0 0;refine⟨z,y,j,r',a1,?_,a3,J⟩;show (eZ k t _).at (u:Int)=_;rw [Sj,jC t0 R.ht,Ms]
    ·refine⟨z,y,j,r,a1,?_,a3,J⟩;show (eZ k t _).at (u:Int)=_;rw [nU _ J Sj,a2]
   ·have vx:oc≠0:=J
    have he:=aeQ T vx;have hev:Le e1 e2 e3 e4 e5 oc= [Bi e1 e2 e3 e4 e5]:=by unfold Le; rw [an h23]
    rw [hev];obtain⟨z,y,j,r,a1,a2,a3,a4⟩:=f4 u0 J;rw [hu0] at a1 a2 a3;have e:=JJ (a2.symm.trans R.hk);subst e;obtain⟨tr',hn'⟩:=Yw Sl;have RF:=X0 f2 J h0 U f3 t0 t1 a1
    have J?:tr<=4611686018427387904:=by
     have q:=R.r.ok.2.2.2.2.1;have q':r<=4611686018427387904:=q;unfold fj at Sl
     repeat' split at Sl
     all_goals (simp only [List.cons.injEq] at Sl; obtain⟨_,_,_,Sl,_⟩:=Sl; omega)
    have A':=Lu h0 U f2.g J k1 A vx J?;have hf:=Ft (fF:=e2) (gw:=e3) (ea:=e4) (eb:=e5) f2 RF J a3 (by rw [<- RI d1 t y r]; exact ho) hn' A';rw [an ⟨vx,he,rfl,rfl,rfl,rfl⟩] at hf;have vv:iM (fI d1 t { y with tr:=r }) { y with tr:=r } op e2 e3 e4 oc=iM (fI d1 t y) y op e2 e3 e4 oc:=U! _ _ _ _ _ _ _ _ vx;rw [<- vv] at hf;have hle:=(MR.code h0 U (h.S.g.kr J).rows h.M).2;have hx:=Gi R.r ho;have SF:=D7 f2 R.c R.r J hx A;have RT:=Om R.c R.r hx hle A.e3 A.e4 T;have MF:=Jz f2 J f3 RT J M'.1;refine⟨_,.snoc f1 (he▸hf),SF,MF,fun u hu=>?_⟩
    ·by_cases Sj:(u:Int)=t
     ·refine⟨_,iM (fI d1 t { y with tr:=r }) { y with tr:=r } op e2 e3 e4 oc,0,(iM (fI d1 t { y with tr:=r }) { y with tr:=r } op e2 e3 e4 oc).tr,?_,?_,.zero _,J⟩
      ·rw [Sj,jC t0 J]
      ·show (eZ k t _).at (u:Int)=_;rw [Sj,jC t0 R.ht]
     ·obtain⟨z',y',j',r',b1,b2,b3,b4⟩:=f4 u hu;refine⟨z',y',j',r',?_,?_,b3,J⟩
      ·rw [nU _ J Sj,b1]
      ·show (eZ k t _).at (u:Int)=_;rw [nU _ J Sj,b2]
end
end Go.As.Try
end
section
namespace Go.As.Try
open Go hiding Stat Spec shape
open Go.As
set_option maxRecDepth 100000
theorem ND (d0 d1:D): ∀(l:List D) (s k a b e:D) (x y:Int),ek d0 d1 s k l=(a,b,l.length)->MM d0 d1 a b e=some [x,y,1]->ek d0 d1 s k (l++ [e])=(dec x,dec y,l.length+1)
 |[],s,k,a,b,e,x,y,h,hf=>by simp only [ek,au] at h;obtain⟨rfl,rfl,_⟩:=h;simp [ek,hf]
 |e0::l,s,k,a,b,e,x,y,h,hf=>by
  cases hF:MM d0 d1 s k e0 with
  |none=>simp [ek,hF] at h
  |some ys=>
   match ys,hF with
   |[p,q,c],hF=>
    by_cases hc:c=0
    ·simp [ek,hF,hc] at h
    ·rw [ek,hF] at h;simp only [hc,if_false,au,aR,aol] at h;have h':ek d0 d1 (dec p) (dec q) l=(a,b,l.length):=Prod.ext h.1 (Prod.ext h.2.1 h.2.2);have ih:=ND d0 d1 l (dec p) (dec q) a b e x y h' hf;rw [aX,ek,hF];simp only [hc,if_false,ih,aR]
   |[],hF=>simp [ek,hF] at h
   |[_],hF=>simp [ek,hF] at h
   |[_,_],hF=>simp [ek,hF] at h
   |_::_::_::_::_,hF=>simp [ek,hF] at h
theorem aal {d0 d1 s k:D} {l:List D} {s' k':D} (R:Run d0 d1 s k l s' k'):ek d0 d1 s k l=(s',k',l.length):=by
 induction R with
 |nil=>rfl
 |snoc r h ih=>
  rename_i l s1 k1 s2 k2 e1 e2 e3 e4 e5
  have hf:MM d0 d1 s1 k1 (Bi e1 e2 e3 e4 e5)=some [enc s2,enc k2,1]:=by unfold MM;simp only [zg,ay,nI];exact h
  have:=ND d0 d1 l s k s1 k1 _ _ _ ih hf;rw [this,bD,bD,a8];rfl
end Go.As.Try
end
section
namespace Go.As.Try
open Go hiding Stat Spec shape
open Go.As
set_option maxRecDepth 100000
set_option linter.unusedSimpArgs false
theorem DW (ρ:Nat->Int) (a b:V):V.den ρ (.quo a b)=(a.den ρ).tdiv (b.den ρ):=rfl
structure Kn where
 ow:Int
 rd:D
 ct:Int
 cm:Int
 en:Int
 rw:D
def Kn.d (q:Kn):D:=dL [.i q.ow,q.rd,.i q.ct,.i q.cm,.i q.en,q.rw]
def kn0 (k N:Int):Kn:=⟨-1,.i 0,if k=3\/k=9 then N else 0,0,0,.i 1⟩
def Dg (n:Int):D:=.p (.i n) (.i 1)
def Vz (rd r:D):Prop:= ∃ns:List Int,rd.l=ns.map Dg/\ns.Perm (r.l.map D.n)
structure nh (k N:Int) (n:Nat) (q:Kn) (o c dn g:Int) (r v:D):Prop where
 en:q.en=0\/q.en=1
 rl:q.rw.l.length<=n
 ow:k=1\/k=2\/k=6->q.ow=o
 rd:k=2->Vz q.rd r
 ct:k=3\/k=7\/k=9->q.ct=c
 cm:k=5->q.cm=g*N+c/\0<=c/\c<N
 cb:0<=q.cm/\q.cm<=n
 on:k=6->q.en=dn/\(q.cm=0/\o<0/\dn=0\/q.cm=1/\(0<=o\/dn=1))
 rw:k=8->q.rw.l=v.l
abbrev kd (d0:D) (i:Int):Int:=((d0.at i).W 0).n
abbrev Nd (d0:D) (i:Int):Int:=((d0.at i).W 2).n
def yq (d0 p:D) (i:Int) (q:Kn):Prop:=df p.l (.i i)=some q.d\/df p.l (.i i)=none/\q=kn0 (kd d0 i) (Nd d0 i)
def TW (d0 s p:D) (n:Nat):Prop:= ∀i:Nat,i<s.l.length->∃q:Kn,yq d0 p (i:Int) q/\∃o c dn g r v,Tg (s.at (i:Int)) o c dn g r v/\nh (kd d0 (i:Int)) (Nd d0 (i:Int)) n q o c dn g r v
theorem nh.mono {k N:Int} {n m:Nat} {q:Kn} {o c dn g:Int} {r v:D} (h:nh k N n q o c dn g r v) (hm:n<=m):nh k N m q o c dn g r v:=
 ⟨h.en,bq h.rl hm,h.ow,h.rd,h.ct,h.cm,⟨h.cb.1,by have:=h.cb.2; omega⟩,h.on,h.rw⟩
def K7 (p p':D) (ob:Int) (q:Kn):Prop:= ∀j:Int,df p'.l (.i j)=if j=ob then some q.d else df p.l (.i j)
def F? (p p':D) (ob M:Int) (q m:Kn):Prop:= ∀j:Int,df p'.l (.i j)=if j=ob then some q.d else if j=M then some m.d else df p.l (.i j)
theorem Ye {p:D} {ob:Int} {q:Kn}:K7 p (dL (jP p.l (.i ob) q.d)) ob q:=fun j=>by
 rw [bE,bC];by_cases h:ob=j
 ·subst h; simp
 ·rw [ak (by simpa using h),ak (fun e=>h e.symm)]
theorem Yd {p x:D} {ob:Int} {q:Kn}:K7 p (dL (jP (jP p.l (.i ob) x) (.i ob) q.d)) ob q:=fun j=>by
 rw [bE,bC];by_cases h:ob=j
 ·subst h; simp
 ·rw [ak (by simpa using h),ak (fun e=>h e.symm),bC,ak (by simpa using h)]
theorem fc {p x:D} {ob:Int} {q:Kn} (h:x=q.d):K7 p (dL (jP p.l (.i ob) x)) ob q:=by rw [h]; exact Ye
theorem fb {p x y:D} {ob:Int} {q:Kn} (h:y=q.d):K7 p (dL (jP (jP p.l (.i ob) x) (.i ob) y)) ob q:=by rw [h]; exact Yd
def pq (N th op a:Int) (q:Kn):Option Kn:=
 if op=1 then (if q.ow= -1 then some { q with ow:=th } else none)
 else if op=2 then (if q.ow=th then some { q with ow:=-1 } else none)
 else if op=3 then (if a=1 then (if q.ow= -1 then some { q with ow:=th } else none) else some q)
 else if op=4 then (if a=1 then (if q.ow= -1 then some { q with ow:=th } else none) else some q)
 else if op=5 then (if q.ow= -1/\df q.rd.l (.i th)=none then some { q with rd:=dL (jP q.rd.l (.i th) (.i 1)) } else none)
 else if op=6 then (if df q.rd.l (.i th)=some (.i 1) then some { q with rd:=dL (z7 q.rd.l (.i th)) } else none)
 else if op=7 then (if (q.rd.l.length:Int)=0/\q.ow= -1 then some { q with ow:=th } else none)
 else if op=8 then (if q.ow=th then some { q with ow:=-1 } else none)
 else if op=9 then (if IntKind.i64.wrap (q.ct-1)<0 then none else some { q with ct:=IntKind.i64.wrap (q.ct-1) })
 else if op=10 then (if N<IntKind.i64.wrap (q.ct+1) then none else some { q with ct:=IntKind.i64.wrap (q.ct+1) })
 else if op=11 then (if a=1 then (if IntKind.i64.wrap (q.ct-1)<0 then none else some { q with ct:=IntKind.i64.wrap (q.ct-1) }) else some q)
 else if op=13 then some q
 else if op=14 then some q
 else if op=15 then (if N=0 then none else if a=IntKind.i64.wrap (q.cm.tdiv N) then some { q with cm:=IntKind.i64.wrap (q.cm+1) } else none)
 else if op=16 then (if a=1 then (if IntKind.i64.wrap (q.cm+1)=1/\q.ow= -1 then some { q with ow:=th,cm:=IntKind.i64.wrap (q.cm+1) } else none) else if q.en=0 then none else some q)
 else if op=17 then (if a<0 then none else if 1099511627776<a then none else some { q with ct:=a })
 else if op=18 then (if IntKind.i64.wrap (q.ct-1)<0 then none else if IntKind.i64.wrap (q.ct-1)=a then some { q with ct:=IntKind.i64.wrap (q.ct-1) } else none)
 else if op=19 then (if q.ct=0 then some q else none)
 else if op=20 then (if N<(q.rw.l.length:Int)+1 then none else some { q with rw:=dL (q.rw.l++ [.i a]) })
 else if op=21 then (if (q.rw.l.length:Int)=0 then none else if (q.rw.at 0).n=a then some { q with rw:=if (q.rw.l.length:Int)-1=0 then .i 3 else fk (fk q.rw (q.rw.l.take (1+((q.rw.l.length:Int)-1)).toNat)) ((fk q.rw (q.rw.l.take (1+((q.rw.l.length:Int)-1)).toNat)).l.drop (Int.toNat 1)) } else none)
 else if op=22 then (if q.ct=a then some q else none)
 else if op=23 then some { q with ct:=a }
 else if op=25 then (if a<0 then none else if N=0 then none else if a<IntKind.i64.wrap (q.cm.tdiv N) then some q else none)
 else if op=26 then (if q.en=0/\q.ow=th then some { q with ow:=-1,en:=1 } else none)
 else none
structure EvH (d0 d1 es p:D) (i:Nat) (th op ob a:Int) (q:Kn):Prop where
 i0:i<es.l.length
 i1:es.l.length<=100000
 he:es.at (i:Int)=dL [.i th,.i op,.i ob,.i a,.i 0]
 t0:0<=th
 t1:th<(d1.l.length:Int)
 o0:0<=ob
 o1:ob<(d0.l.length:Int)
 qm:yq d0 p ob q
 en:q.en=0\/q.en=1
 rl:q.rw.l.length<=100000
end Go.As.Try
end
section
namespace Go.As.Try
open Go hiding Stat Spec shape
open Go.As
set_option maxRecDepth 100000
set_option linter.unusedSimpArgs false
set_option linter.unusedVariables false
set_option linter.unusedSectionVars false
theorem abL {M mo mo' th op arg tries o c dn g:Int} {r v:D} (h12:op≠12) (h24:op≠24):act M mo th op arg tries o c dn g r v=act M mo' th op arg tries o c dn g r v:=by unfold act;simp only [h12,h24,if_false]
theorem gz (l:List D) (z:Int) (x:D) (i:Nat):(eV l z x)[i]?=if (i:Int)=z/\i<l.length then some x else l[i]?:=by
 unfold eV;by_cases h:z<0
 ·rw [an h,ak J]
 ·rw [ak h,aoO];by_cases Z:z.toNat=i
  ·by_cases h3:i<l.length
   ·rw [an Z,an J,an J]
   ·rw [an Z,ak J,ak J,anD J]
  ·rw [ak Z,ak J]
theorem BF (s:D) (ob M:Int) (A:Act):(gk s ob M A).l.length=s.l.length:=by
 cases A with
 |nH=>rfl
 |vu=>rfl
 |res o c dn g r v m a oc=>
  unfold gk;rw [bE,fh]
  cases m with
  |none=>rfl
  |some q=>exact fh _ _ _
theorem sU {s:D} {ob M i:Int} {A:Act} (i0:0<=i) (h:i≠ob) (hM:Dp A\/i≠M):(gk s ob M A).at i=s.at i:=by obtain⟨j,rfl⟩ : ∃j:Nat,i=(j:Int):=⟨i.toNat,J⟩;rw [j5,j5,zK h hM]
theorem mT {s:D} {ob M o c dn g:Int} {r v:D} {a oc:Int} (i:Nat):(gk s ob M (.res o c dn g r v none a oc)).l[i]?=if (i:Int)=ob/\i<s.l.length then some (dL [.i o,.i c,.i (if dn=0 then 0 else 1),.i g,r,v]) else s.l[i]?:=by simp only [gk,bE,gz]
theorem mS {s:D} {ob M o c dn g:Int} {r v:D} {q a oc:Int} (i:Nat):(gk s ob M (.res o c dn g r v (some q) a oc)).l[i]?=if (i:Int)=ob/\i<s.l.length then some (dL [.i o,.i c,.i (if dn=0 then 0 else 1),.i g,r,v]) else if (i:Int)=M/\i<s.l.length then some (dL (eV (s.at M).l 0 (.i q))) else s.l[i]?:=by simp only [gk,bE,gz,fh]
theorem Uz {s:D} {oa Ma ob Mb:Int} {A B:Act} (a0:0<=oa) (b0:0<=ob) (U:oa≠ob) (hA:Dp A\/0<=Ma/\Ma≠ob) (hB:Dp B\/0<=Mb/\oa≠Mb) (hAB:Dp A\/Dp B\/Ma≠Mb):gk (gk s oa Ma A) ob Mb B=gk (gk s ob Mb B) oa Ma A:=by
 cases A with
 |nH=>rfl
 |vu=>rfl
 |res o c dn g r v m a oc=>
  cases B with
  |nH=>rfl
  |vu=>rfl
  |res o' c' gK g' r' v' m' a' oc'=>
   have eB: ∀i:Int,0<=i->i≠oa->(Dp (.res o c dn g r v m a oc)\/i≠Ma)->(gk s oa Ma (.res o c dn g r v m a oc)).at i=s.at i:=fun i i0 h hM=>sU i0 h hM;have eA: ∀i:Int,0<=i->i≠ob->(Dp (.res o' c' gK g' r' v' m' a' oc')\/i≠Mb)->(gk s ob Mb (.res o' c' gK g' r' v' m' a' oc')).at i=s.at i:=fun i i0 h hM=>sU i0 h hM;have lA:(gk s oa Ma (.res o c dn g r v m a oc)).l.length=s.l.length:=BF _ _ _ _;have lB:(gk s ob Mb (.res o' c' gK g' r' v' m' a' oc')).l.length=s.l.length:=BF _ _ _ _
   have key:(gk (gk s oa Ma (.res o c dn g r v m a oc)) ob Mb (.res o' c' gK g' r' v' m' a' oc')).l=(gk (gk s ob Mb (.res o' c' gK g' r' v' m' a' oc')) oa Ma (.res o c dn g r v m a oc)).l:=by
    refine anz fun i=>?_
    cases m with
    |none=>
     cases m' with
     |none=>
      rw [mT,mT,mT,mT,lA,lB]
      grind
     |some q'=>
      simp only [Dp,reduceCtorEq,false_or] at hB;have e:=eB Mb hB.1 (fun e=>hB.2 e.symm) (.inl rfl);rw [mS,mT,mT,mS,lA,lB,e]
      grind
    |some q=>
     simp only [Dp,reduceCtorEq,false_or] at hA
     cases m' with
     |none=>
      have e:=eA Ma hA.1 hA.2 (.inl rfl);rw [mT,mS,mS,mT,lA,lB,e]
      grind
     |some q'=>
      simp only [Dp,reduceCtorEq,false_or] at hB hAB;have e:=eA Ma hA.1 hA.2 (.inr hAB);have e2:=eB Mb hB.1 (fun e=>hB.2 e.symm) (.inr (fun e=>hAB e.symm));rw [mS,mS,mS,mS,lA,lB,e,e2]
      grind
   have d1: ∀x:D,gk x ob Mb (.res o' c' gK g' r' v' m' a' oc')=dL (gk x ob Mb (.res o' c' gK g' r' v' m' a' oc')).l:=fun x=>by unfold gk; rw [bE]
   have d2: ∀x:D,gk x oa Ma (.res o c dn g r v m a oc)=dL (gk x oa Ma (.res o c dn g r v m a oc)).l:=fun x=>by unfold gk; rw [bE]
   rw [d1 (gk s oa Ma _),d2 (gk s ob Mb _),key]
theorem Uj (k:D) {t u:Int} (h:t≠u) (x y:KT):eZ (eZ k t x) u y=eZ (eZ k u y) t x:=by
 unfold eZ;rw [bE,bE];congr 1;refine anz fun i=>?_;simp only [gz,fh]
 grind
def vn (d0:D) (ob:Int):Int:=if kd d0 ob=4 then Nd d0 ob else ob
section
variable {d0 d1:D} (h0:Wd (.sl 3) d0) (U:Wd (.sl 4) d1)
include h0 U
theorem T? {s s':D} {n n':Nat} (G:Gs s n) (hn:n<17592186043904) (G':Gs s' n') (hn':n'<17592186043904) {th op obj arg tries:Int} (mI:dV .u8 op) (A:Acc d0 d1 s th op obj) (A':Acc d0 d1 s' th op obj)
 (e1:s'.at obj=s.at obj) (e2:kd d0 obj=4->s'.at (Nd d0 obj)=s.at (Nd d0 obj)) :
 ∃B:Act,L 400 [enc d0,enc d1,enc s,th,op,obj,arg,tries]=some (enc (gk s obj (Mx d0 obj) B)::Vm th op obj B)/\L 400 [enc d0,enc d1,enc s',th,op,obj,arg,tries]=some (enc (gk s' obj (Mx d0 obj) B)::Vm th op obj B)/\(Dp B\/kd d0 obj=4):=by
 obtain⟨Ao,o,c,dn,g,r,v,T,hL⟩:=re (arg:=arg) (tries:=tries) h0 U G.wd (G.kr J) mI A;obtain⟨_,o',c',gK,g',r',v',T',Ps⟩:=re (arg:=arg) (tries:=tries) h0 U G'.wd (G'.kr J) mI A';have hT:=T.is;have hT':=T'.is;rw [e1,hT] at hT';have hT':=yZ hT';simp only [List.cons.injEq,D.i.injEq,and_true] at hT';obtain⟨rfl,rfl,rfl,rfl,rfl,rfl⟩:=hT';rw [zQ] at hL Ps;by_cases h12:op=12\/op=24
 ·have hk:kd d0 obj=4:=by
   have:=A.k;unfold kd;rw [<- this];rcases h12 with rfl|rfl<;>simp [kindOf]
  have hM:Mo d0 s' obj=Mo d0 s obj:=by have:=e2 hk;unfold Mo;unfold Nd at this;rw [this]
  rw [hM] at Ps;exact⟨_,hL,Ps,.inr hk⟩
 ·rw [abL (mo':=Mo d0 s obj) J J] at Ps;exact⟨_,hL,Ps,.inl (xF J J)⟩
end
def FoR (d0 d1 s k:D) (n:Nat) (t fF gw ea eb:Int) (b:Nat) (x:KT) (ys:List Int):Prop:=ys= [enc s,enc k,0]\/∃(s':D) (j:Nat) (y:KT) (op obj arg tr oc:Int),ys= [enc s',enc (eZ k t (iM (fI d1 t y) y op fF gw ea oc)),1]/\
 j<=b/\Dq d1 t j x y/\fT d1 t y=0/\fj d1 t y= [op,obj,arg,tr,1]/\dV .u8 op/\dV .i64 obj/\dV .i64 arg/\dV .i64 t/\oc≠0/\nF d0 d1 s t op obj arg (U8 fF ea) n s' t fF gw ea eb oc
theorem FoR.succ {d0 d1 s k:D} {n:Nat} {t fF gw ea eb:Int} {b:Nat} {x:KT} {ys:List Int} (ho:fT d1 t x=0) (ha:low (fj d1 t x) 4=0) (h:FoR d0 d1 s k n t fF gw ea eb b (fA (fI d1 t x) x) ys):FoR d0 d1 s k n t fF gw ea eb (b+1) x ys:=by
 rcases h with h|⟨s',j,y,op,obj,arg,tr,oc,h,hj,Y,rest⟩
 ·exact .inl h
 ·exact .inr ⟨s',j+1,y,op,obj,arg,tr,oc,h,J,.succ j x y ho ha Y,rest⟩
section
variable {d0 d1 s k:D} {t:Int} {n:Nat} {fF gw ea eb:Int} (S:Sx s k n) (hn:n<17592186043904) (C:Cd d0 d1) (ht:t<(k.l.length:Int))
include S hn C ht
theorem DN {b:Nat} {x:KT} (R:Rt d0 d1 t x) (ho:fT d1 t x=0) {op obj arg tr e1 e2 e3 e4 e5 oc:Int} {s':D} (hq:fj d1 t x= [op,obj,arg,tr,1]) (k1:dV .u8 op) (k2:dV .i64 obj) (k3:dV .i64 arg) (fB:dV .i64 t)
 (A:nF d0 d1 s t op obj arg (U8 fF ea) n s' e1 e2 e3 e4 e5 oc) (hh:oc≠0/\e1=t/\e2=fF/\e3=gw/\e4=ea/\e5=eb):FoR d0 d1 s k n t fF gw ea eb b x [enc s',enc (eZ k t (iM (fI d1 t x) x op e2 e3 e4 oc)),1]:=by
 obtain⟨vx,rfl,rfl,rfl,rfl,rfl⟩:=hh;exact .inr ⟨s',0,x,op,obj,arg,tr,oc,rfl,J,.zero _,ho,hq,k1,k2,k3,fB,vx,A⟩
theorem ajF: ∀(j m:Nat) (x:KT),m+j=20000->Rt d0 d1 t x->dw 2004 [t,(m:Int),enc d0,enc d1,enc s,enc k,fF,gw,ea,eb,enc s,enc k,x.a,enc x.lc,x.w,x.o,x.g,x.tr] (FoR d0 d1 s k n t fF gw ea eb j x):=fun j=>by
 induction j with
 |zero=>
  intro m x hm R;rcases pG d1 t x with ho|ho
  ·by_cases ha:low (fj d1 t x) 4=0
   ·have Lc:=mG R ho ha;obtain⟨R',vy⟩:=ke C ht R Lc;refine⟨_,?_,.inl rfl⟩;rw [tl S.st C ht R J ho ha,bO J];exact B6 S.st C ht R' J
   ·obtain⟨op,obj,arg,tr,hq⟩:=lF J ha;obtain⟨k1,k2,k3⟩:=pH C R C.ok.1 hq
    have fB:dV .i64 t:=by have:=R.t0;have:=R.t1;have:=C.U.len;exact⟨J,J⟩
    obtain⟨s',e1,e2,e3,e4,e5,oc,A⟩:=oe (tries:=U8 fF ea) C.h0 C.U S.g hn fB k1 k2 k3;refine⟨_,tk S.st C ht R J ho hq rfl A,?_⟩;split
    ·rename_i hh;exact DN S hn C ht R ho hq k1 k2 k3 fB A hh
    ·exact .inl rfl
  ·exact⟨_,uE S.st C ht R J ho,.inl rfl⟩
 |succ j ih=>
  intro m x hm R;rcases pG d1 t x with ho|ho
  ·by_cases ha:low (fj d1 t x) 4=0
   ·have Lc:=mG R ho ha;obtain⟨R',vy⟩:=ke C ht R Lc;obtain⟨ys,hL,hy⟩:=ih (m+1) (fA (fI d1 t x) x) J R';refine⟨ys,?_,hy.succ ho ha⟩;rw [tl S.st C ht R J ho ha,bO J];exact hL
   ·obtain⟨op,obj,arg,tr,hq⟩:=lF J ha;obtain⟨k1,k2,k3⟩:=pH C R C.ok.1 hq
    have fB:dV .i64 t:=by have:=R.t0;have:=R.t1;have:=C.U.len;exact⟨J,J⟩
    obtain⟨s',e1,e2,e3,e4,e5,oc,A⟩:=oe (tries:=U8 fF ea) C.h0 C.U S.g hn fB k1 k2 k3;refine⟨_,tk S.st C ht R J ho hq rfl A,?_⟩;split
    ·rename_i hh;exact DN S hn C ht R ho hq k1 k2 k3 fB A hh
    ·exact .inl rfl
  ·exact⟨_,uE S.st C ht R J ho,.inl rfl⟩
theorem ajE: ∀(j m:Nat) (x:KT),m+j=20000->Rt d0 d1 t x->x.lc.l.length=0->dw 2005 [t,(m:Int),enc d0,enc d1,enc s,enc k,fF,gw,ea,eb,enc s,enc k,x.a,enc x.lc,x.w,x.o,x.g,x.tr] (FoR d0 d1 s k n t fF gw ea eb j x):=fun j=>by
 induction j with
 |zero=>
  intro m x hm R hz;rcases pG d1 t x with ho|ho
  ·by_cases ha:low (fj d1 t x) 4=0
   ·have Lc:=mG R ho ha;obtain⟨R',vy⟩:=ke C ht R Lc;refine⟨_,?_,.inl rfl⟩;rw [tj S.st C ht R hz J ho ha,bO J];exact B5 S.st C ht R' (by rw [vy]; exact hz) J
   ·obtain⟨op,obj,arg,tr,hq⟩:=lF J ha;obtain⟨k1,k2,k3⟩:=pH C R C.ok.1 hq
    have fB:dV .i64 t:=by have:=R.t0;have:=R.t1;have:=C.U.len;exact⟨J,J⟩
    obtain⟨s',e1,e2,e3,e4,e5,oc,A⟩:=oe (tries:=U8 fF ea) C.h0 C.U S.g hn fB k1 k2 k3;refine⟨_,tg S.st C ht R hz J ho hq rfl A,?_⟩;split
    ·rename_i hh;exact DN S hn C ht R ho hq k1 k2 k3 fB A hh
    ·exact .inl rfl
  ·exact⟨_,uD S.st C ht R hz J ho,.inl rfl⟩
 |succ j ih=>
  intro m x hm R hz;rcases pG d1 t x with ho|ho
  ·by_cases ha:low (fj d1 t x) 4=0
   ·have Lc:=mG R ho ha;obtain⟨R',vy⟩:=ke C ht R Lc;obtain⟨ys,hL,hy⟩:=ih (m+1) (fA (fI d1 t x) x) J R' (by rw [vy]; exact hz);refine⟨ys,?_,hy.succ ho ha⟩;rw [tj S.st C ht R hz J ho ha,bO J];exact hL
   ·obtain⟨op,obj,arg,tr,hq⟩:=lF J ha;obtain⟨k1,k2,k3⟩:=pH C R C.ok.1 hq
    have fB:dV .i64 t:=by have:=R.t0;have:=R.t1;have:=C.U.len;exact⟨J,J⟩
    obtain⟨s',e1,e2,e3,e4,e5,oc,A⟩:=oe (tries:=U8 fF ea) C.h0 C.U S.g hn fB k1 k2 k3;refine⟨_,tg S.st C ht R hz J ho hq rfl A,?_⟩;split
    ·rename_i hh;exact DN S hn C ht R ho hq k1 k2 k3 fB A hh
    ·exact .inl rfl
  ·exact⟨_,uD S.st C ht R hz J ho,.inl rfl⟩
end
section
variable {d0 d1 s k:D} {t:Int} {n:Nat} {fF gw ea eb:Int} (S:Sx s k n) (hn:n<17592186043904) (h0:Wd (.sl 3) d0) (U:Wd (.sl 4) d1)
include S hn h0 U
theorem J6 {s' k':D} (h:L 2000 [enc d0,enc d1,enc s,enc k,t,fF,gw,ea,eb]=some [enc s',enc k',1]): ∃(x y:KT) (j:Nat) (op obj arg tr oc:Int),Rs d0 d1 s k t x/\k'=eZ k t (iM (fI d1 t y) y op fF gw ea oc)/\
 j<=20000/\Dq d1 t j x y/\fT d1 t y=0/\fj d1 t y= [op,obj,arg,tr,1]/\dV .u8 op/\dV .i64 obj/\dV .i64 arg/\dV .i64 t/\oc≠0/\nF d0 d1 s t op obj arg (U8 fF ea) n s' t fF gw ea eb oc:=by
 rcases LI S hn h0 U (t:=t) with hR|⟨x,R⟩
 ·rw [Fs S.st hR] at h;simp at h
 ·have hF:dw 2000 [enc d0,enc d1,enc s,enc k,t,fF,gw,ea,eb] (FoR d0 d1 s k n t fF gw ea eb 20000 x):=by
   by_cases hp:0<x.lc.l.length
   ·unfold dw;rw [J8 S.st R hp];exact ajF S hn R.c R.ht 20000 0 x J R.r
   ·unfold dw;rw [J7 S.st R J];exact ajE S hn R.c R.ht 20000 0 x J R.r J
  obtain⟨ys,hL,hy⟩:=hF;rw [h] at hL;simp only [aq] at hL;subst hL;rcases hy with hy|⟨s2,j,y,op,obj,arg,tr,oc,hy,rest⟩
  ·simp at hy
  ·simp only [List.cons.injEq,and_true] at hy;obtain⟨e1,e2⟩:=hy;have e1:=ew e1;have e2:=ew e2;subst e1;obtain⟨q1,q2,q3,q4,q5,q6,q7,q8,q9,q10⟩:=rest;exact⟨x,y,j,op,obj,arg,tr,oc,R,e2,q1,q2,q3,q4,q5,q6,q7,q8,q9,q10⟩
end
theorem wV {d0 d1 s s':D} {t op obj arg tries e1 e2 e3 e4 e5 oc:Int} {n:Nat} (h0:Wd (.sl 3) d0) (U:Wd (.sl 4) d1) (G:Gs s n) (hn:n<17592186043904) (mI:dV .u8 op) (A:nF d0 d1 s t op obj arg tries n s' e1 e2 e3 e4 e5 oc) (vx:oc≠0):Acc d0 d1 s t op obj:=by
 by_cases h:Acc d0 d1 s t op obj
 ·exact h
 ·have:=A.eq;rw [Bq h0 U G.wd (G.kr J) mI h] at this;simp only [aq,List.cons.injEq,and_true] at this;exact absurd this.2.2.2.2.2.2.symm vx
theorem abd {th op obj:Int} {B:Act} {e1 e2 e3 e4 e5 oc:Int} (h:Vm th op obj B= [e1,e2,e3,e4,e5,oc]) (vx:oc≠0):e3=obj:=by
 cases B with
 |nH=>simp only [Vm,List.cons.injEq,and_true] at h; omega
 |vu=>simp only [Vm,List.cons.injEq,and_true] at h; omega
 |res=>simp only [Vm,List.cons.injEq,and_true] at h; omega
structure Dis (d0:D) (a b:Int):Prop where
 U:a≠b
 Z:a≠vn d0 b
 h3:vn d0 a≠b
 h4:vn d0 a≠vn d0 b
theorem Dis.symm {d0:D} {a b:Int} (h:Dis d0 a b):Dis d0 b a:=⟨fun e=>h.U e.symm,fun e=>h.h3 e.symm,fun e=>h.Z e.symm,fun e=>h.h4 e.symm⟩
section
variable {d0 d1:D} (h0:Wd (.sl 3) d0) (U:Wd (.sl 4) d1)
include h0 U
theorem acK (ok:mF d0 d1) {ob:Int} (o0:0<=ob) (o1:ob<(d0.l.length:Int)) (hk:kd d0 ob=4):0<=Nd d0 ob/\Nd d0 ob<(d0.l.length:Int):=by
 have hO:=ok.2.2 _ (aF (l:=d0.l) (n:=ob.toNat) J);obtain⟨i,rfl⟩ : ∃i:Nat,ob=(i:Int):=⟨ob.toNat,J⟩;unfold kd at hk;unfold Nd;rw [bT J] at hk ⊢;simp only [br] at hO;obtain⟨q1,q2,q3,q4,q5,q6⟩:=hO
 first
  |exact q4 hk
  |omega
theorem vD {s s1:D} {n n1:Nat} (G:Gs s n) (hn:n<17592186043904) (G1:Gs s1 n1) (hn1:n1<17592186043904) {t op obj arg tr e1 e2 e3 e4 e5 oc:Int} {s':D} (fB:dV .i64 t) (mI:dV .u8 op) (k2:dV .i64 obj) (k3:dV .i64 arg)
 (A:nF d0 d1 s t op obj arg tr n s' e1 e2 e3 e4 e5 oc) (vx:oc≠0) (hr:L 350 [enc d0,enc d1,enc s1]=some [1]) (Y:s1.l.length=s.l.length) (g1:s1.at obj=s.at obj) (g2:kd d0 obj=4->s1.at (Nd d0 obj)=s.at (Nd d0 obj)) :
 ∃B:Act,e3=obj/\s'=gk s obj (Mx d0 obj) B/\nF d0 d1 s1 t op obj arg tr n1 (gk s1 obj (Mx d0 obj) B) e1 e2 e3 e4 e5 oc/\(Dp B\/kd d0 obj=4):=by
 have a:=wV h0 U G hn mI A vx;have a1:Acc d0 d1 s1 t op obj:=⟨hr,a.t0,a.t1,a.o0,by rw [Y]; exact a.o1,a.k⟩;obtain⟨B,q1,q2,q3⟩:=T? h0 U (arg:=arg) (tries:=tr) G hn G1 hn1 mI a a1 g1 g2;have hA:=A.eq;rw [q1] at hA;simp only [aq,List.cons.injEq] at hA;obtain⟨w1,w2⟩:=hA;have w1:=ew w1;obtain⟨s2,f1,f2,f3,f4,f5,oc',A'⟩:=oe (arg:=arg) (tries:=tr) h0 U G1 hn1 fB mI k2 k3;have hA':=A'.eq;rw [q2,w2] at hA';simp only [aq,List.cons.injEq,and_true] at hA';obtain⟨v1,rfl,rfl,rfl,rfl,rfl,rfl⟩:=hA';have v1:=ew v1;rw [<- v1] at A';exact⟨B,abd w2 vx,w1.symm,A',q3⟩
end
section
variable {d0 d1:D} (h0:Wd (.sl 3) d0) (U:Wd (.sl 4) d1) (Np:Q? d1)
include h0 U Np
theorem LJ {s k s' k':D} {n:Nat} (R:RS1 d0 d1 s k n) (hn:n<90000) {t fF gw ea eb:Int} (h:L 2000 [enc d0,enc d1,enc s,enc k,t,fF,gw,ea,eb]=some [enc s',enc k',1]):RS1 d0 d1 s' k' (n+1):=by
 obtain⟨ys,hF,hy⟩:=uu (t:=t) (fF:=fF) (gw:=gw) (ea:=ea) (eb:=eb) R.S J h0 U R.M R.G Np;rw [h] at hF;simp only [aq] at hF;subst hF;rcases hy with hy|⟨s2,k2,op',obj,arg,tr,oc,hy,S',_,_,vx,T,M',G',_⟩
 ·simp at hy
 ·simp only [List.cons.injEq,and_true] at hy;obtain⟨e1,e2⟩:=hy;have e1:=ew e1;have e2:=ew e2;subst e1 e2;exact⟨S',M',G'⟩
theorem XI {s k s1 k1 s2 k2:D} {n:Nat} (R:RS1 d0 d1 s k n) (hn:n<80000) {ta pa ba aa xa tb pb bb ab xb:Int} (ha:L 2000 [enc d0,enc d1,enc s,enc k,ta,pa,ba,aa,xa]=some [enc s1,enc k1,1]) (hb:L 2000 [enc d0,enc d1,enc s1,enc k1,tb,pb,bb,ab,xb]=some [enc s2,enc k2,1])
 (gb:ta≠tb) (Nl:Dis d0 ba bb): ∃s3 k3,L 2000 [enc d0,enc d1,enc s,enc k,tb,pb,bb,ab,xb]=some [enc s3,enc k3,1]/\L 2000 [enc d0,enc d1,enc s3,enc k3,ta,pa,ba,aa,xa]=some [enc s2,enc k2,1]:=by
 have R1:=LJ h0 U Np R J ha;obtain⟨x,y,j,op,obj,arg,tr,oc,Ra,ni,hj,hL,ho,hq,k1',k2',k3',fB,vx,A⟩:=J6 R.S J h0 U ha;obtain⟨x2,y2,j2,op2,akQ,amT,tr2,oc2,Rb,Bg,hj2,hL2,ho2,hq2,l1,l2,l3,Mp,aaX,A2⟩:=J6 R1.S J h0 U hb;have pf:=Ra.c.ok;obtain⟨B0,e0,vZ,_,n0⟩:=vD h0 U R.S.g J R.S.g J fB k1' k2' k3' A vx R.M.1 rfl rfl (fun _=>rfl);subst e0;have ac:=wV h0 U R.S.g J k1' A vx;have ac2:=wV h0 U R1.S.g J l1 A2 aaX;have hsl:s.l.length=d0.l.length:=(MR.code h0 U (R.S.g.kr J).rows R.M).2;have Al:s1.l.length=s.l.length:=A.len
 have eb:bb=akQ:=by obtain⟨_,e,_⟩:=vD h0 U R1.S.g J R1.S.g J Mp l1 l2 l3 A2 aaX R1.M.1 rfl rfl (fun _=>rfl);exact e
 subst eb;have VP: ∀{z:Int},kd d0 z=4->vn d0 z=Nd d0 z:=fun h=>by unfold vn; rw [an h]
 have m1:kd d0 ba=4->0<=Nd d0 ba/\Nd d0 ba<(d0.l.length:Int):=fun h=>acK h0 U pf ac.o0 (by have:=ac.o1; omega) h;have m2:kd d0 bb=4->0<=Nd d0 bb/\Nd d0 bb<(d0.l.length:Int):=fun h=>acK h0 U pf ac2.o0 (by have:=ac2.o1; omega) h
 have g1:s.at bb=s1.at bb:=by
  rw [vZ];refine (sU ac2.o0 (fun e=>Nl.U e.symm) ?_).symm;rcases n0 with h|h
  ·exact .inl h
  ·exact .inr fun e=>Nl.h3 ((VP h).trans e.symm)
 have g2:kd d0 bb=4->s.at (Nd d0 bb)=s1.at (Nd d0 bb):=fun hk=>by
  rw [vZ];refine (sU (m2 hk).1 (fun e=>Nl.Z (e.symm.trans (VP hk).symm)) ?_).symm;rcases n0 with h|h
  ·exact .inl h
  ·exact .inr fun e=>Nl.h4 ((VP h).trans (e.symm.trans (VP hk).symm))
 obtain⟨B2,_,hs2,T2,n2⟩:=vD h0 U R1.S.g J R.S.g J Mp l1 l2 l3 A2 aaX R.M.1 Al.symm g1 g2
 have hkb:k.at tb=x2.d:=by have:=Rb.hk;rw [ni,nU _ Rb.r.t0 (fun e=>gb e.symm)] at this;exact this
 have RB:=X0 R.S J h0 U R.M Rb.r.t0 Rb.r.t1 hkb;have f2:=Ft (fF:=pb) (gw:=bb) (ea:=ab) (eb:=xb) R.S.st RB hj2 hL2 ho2 hq2 T2;rw [an ⟨aaX,rfl,rfl,rfl,rfl,rfl⟩] at f2;have R3:=LJ h0 U Np R J f2;refine⟨_,_,f2,?_⟩
 have g3:(gk s bb (Mx d0 bb) B2).at ba=s.at ba:=by
  refine sU ac.o0 Nl.U ?_;rcases n2 with h|h
  ·exact .inl h
  ·exact .inr fun e=>Nl.Z (e.trans (VP h).symm)
 have g4:kd d0 ba=4->(gk s bb (Mx d0 bb) B2).at (Nd d0 ba)=s.at (Nd d0 ba):=fun hk=>by
  refine sU (m1 hk).1 (fun e=>Nl.h3 ((VP hk).trans e)) ?_;rcases n2 with h|h
  ·exact .inl h
  ·exact .inr fun e=>Nl.h4 ((VP hk).trans (e.trans (VP h).symm))
 obtain⟨B1,_,hs1,T1,n1⟩:=vD h0 U R.S.g J R3.S.g J fB k1' k2' k3' A vx R3.M.1 (BF _ _ _ _) g3 g4
 have hka:(eZ k tb (iM (fI d1 tb y2) y2 op2 pb bb ab oc2)).at ta=x.d:=by rw [nU _ Ra.r.t0 gb];exact Ra.hk
 have RA:=X0 R3.S J h0 U R3.M Ra.r.t0 Ra.r.t1 hka;have f1:=Ft (fF:=pa) (gw:=ba) (ea:=aa) (eb:=xa) R3.S.st RA hj hL ho hq T1;rw [an ⟨vx,rfl,rfl,rfl,rfl,rfl⟩] at f1
 have c1:gk (gk s bb (Mx d0 bb) B2) ba (Mx d0 ba) B1=s2:=by
  rw [hs2,hs1];refine Uz ac2.o0 ac.o0 (fun e=>Nl.U e.symm) ?_ ?_ ?_
  ·rcases n2 with h|h
   ·exact .inl h
   ·exact .inr ⟨(m2 h).1,fun e=>Nl.Z (e.symm.trans (VP h).symm)⟩
  ·rcases n1 with h|h
   ·exact .inl h
   ·exact .inr ⟨(m1 h).1,fun e=>Nl.h3 ((VP h).trans e.symm)⟩
  ·rcases n2 with h|h
   ·exact .inl h
   ·rcases n1 with h'|h'
    ·exact .inr (.inl h')
    ·exact .inr (.inr fun e=>Nl.h4 ((VP h').trans (e.symm.trans (VP h).symm)))
 have c2:eZ (eZ k tb (iM (fI d1 tb y2) y2 op2 pb bb ab oc2)) ta (iM (fI d1 ta y) y op pa ba aa oc)=k2:=by rw [Bg,ni];exact Uj k (fun e=>gb e.symm) _ _
 rw [c1,c2] at f1;exact f1
theorem NC {a b:D} (gb:(a.W 0).n≠(b.W 0).n) (Nl:Dis d0 (a.W 2).n (b.W 2).n): ∀(p q:List D) (s k:D) (n:Nat),RS1 d0 d1 s k n->n+p.length<70000->(ek d0 d1 s k (p++a::b::q)).2.2=(p++a::b::q).length->ek d0 d1 s k (p++b::a::q)=ek d0 d1 s k (p++a::b::q)
 |[],q,s,k,n,R,hn,h=>by
  simp only [ax] at h ⊢;obtain⟨ys,hF,hy⟩:=uu (t:=(a.W 0).n) (fF:=(a.W 1).n) (gw:=(a.W 2).n) (ea:=(a.W 3).n) (eb:=(a.W 4).n) R.S J h0 U R.M R.G Np;have hfa:MM d0 d1 s k a=some ys:=hF;rcases hy with rfl|⟨s1,k1,_,_,_,_,_,rfl,S1,_,_,_,_,M1,G1,_⟩
  ·rw [ek,hfa] at h;simp at h
  ·obtain⟨zs,hG,hz⟩:=uu (t:=(b.W 0).n) (fF:=(b.W 1).n) (gw:=(b.W 2).n) (ea:=(b.W 3).n) (eb:=(b.W 4).n) S1 J h0 U M1 G1 Np;have hfb:MM d0 d1 s1 k1 b=some zs:=hG;rcases hz with rfl|⟨s2,k2,_,_,_,_,_,rfl,S2,_,_,_,_,M2,G2,_⟩
   ·rw [ek,hfa] at h;simp only [bI,if_false,bD] at h;rw [ek,hfb] at h;simp at h
   ·obtain⟨s3,k3,f1,f2⟩:=XI h0 U Np R J hF hG gb Nl;have g1:MM d0 d1 s k b=some [enc s3,enc k3,1]:=f1;have g2:MM d0 d1 s3 k3 a=some [enc s2,enc k2,1]:=f2
    have e1:ek d0 d1 s k (a::b::q)=((ek d0 d1 s2 k2 q).1,(ek d0 d1 s2 k2 q).2.1,(ek d0 d1 s2 k2 q).2.2+1+1):=by rw [ek,hfa];simp only [bI,if_false,bD];rw [ek,hfb];simp only [bI,if_false,bD]
    have e2:ek d0 d1 s k (b::a::q)=((ek d0 d1 s2 k2 q).1,(ek d0 d1 s2 k2 q).2.1,(ek d0 d1 s2 k2 q).2.2+1+1):=by rw [ek,g1];simp only [bI,if_false,bD];rw [ek,g2];simp only [bI,if_false,bD]
    rw [e1,e2]
 |e::p,q,s,k,n,R,hn,h=>by
  simp only [aX,aR] at h hn ⊢;obtain⟨ys,hF,hy⟩:=uu (t:=(e.W 0).n) (fF:=(e.W 1).n) (gw:=(e.W 2).n) (ea:=(e.W 3).n) (eb:=(e.W 4).n) R.S J h0 U R.M R.G Np;have hfa:MM d0 d1 s k e=some ys:=hF;rcases hy with rfl|⟨s1,k1,_,_,_,_,_,rfl,S1,_,_,_,_,M1,G1,_⟩
  ·rw [ek,hfa] at h;simp at h
  ·have e1: ∀l,ek d0 d1 s k (e::l)=((ek d0 d1 s1 k1 l).1,(ek d0 d1 s1 k1 l).2.1,(ek d0 d1 s1 k1 l).2.2+1):=fun l=>by
    rw [ek,hfa];simp only [bI,if_false,bD]
   rw [e1] at h;rw [e1,e1,NC gb Nl p q s1 k1 (n+1) ⟨S1,M1,G1⟩ J (by simp only [aol] at h; exact h)]
end
end Go.As.Try
end
section
namespace Go.As.Try
open Go hiding Stat Spec shape
open Go.As
set_option maxRecDepth 100000
theorem z_ (d:D) (z:Int):d.at z∈d.l\/d.at z= .i 0:=by
 unfold D.at
 cases h:d.l[z.toNat]? with
 |none=>exact .inr rfl
 |some x=>exact .inl (amW h)
theorem Yu {d0 d1:D} (h: ∀x∈d1.l,JN d0 x):Q? d1:=fun t x w op obj arg tr hq h25=>by
 unfold fj at hq;rw [an w] at hq;split at hq
 ·simp only [List.cons.injEq] at hq;omega
 ·split at hq
  ·rename_i U;simp only [List.cons.injEq] at hq;have mI:((((d1.at t).W 2).at x.a).W 1).n=25:=by have:=hq.1; show ((fI d1 t x).W 1).n=25; omega
   have Sz:((((d1.at t).W 2).at x.a).W 0).n=1:=U;rcases z_ d1 t with ht|ht
   ·rcases z_ ((d1.at t).W 2) x.a with hx|hx
    ·have:=(h _ ht _ hx).2 Sz;omega
    ·unfold fI at U;rw [hx] at U;simp [D.W,D.l,D.n] at U
   ·unfold fI at U;rw [ht] at U
    have e:((D.i 0).W 2).at x.a= .i 0:=by
     rcases z_ ((D.i 0).W 2) x.a with q|q
     ·simp [D.W,D.l] at q
     ·exact q
    rw [e] at U;simp [D.W,D.l,D.n] at U
  ·split at hq
   ·simp only [List.cons.injEq] at hq;omega
   ·simp only [List.cons.injEq] at hq;omega
end Go.As.Try
end
section
namespace Go.As.Try
open Go hiding Stat Spec shape
open Go.As
set_option maxRecDepth 100000
set_option linter.unusedSimpArgs false
set_option linter.unusedVariables false
theorem Hs {rd r:D} (h:Vz rd r) (n:Int):(n∈r.l.map D.n->df rd.l (.i n)=some (.i 1))/\(n∉r.l.map D.n->df rd.l (.i n)=none):=by
 obtain⟨ns,e,hp⟩:=h
 have key: ∀l:List Int,(n∈l->df (l.map Dg) (.i n)=some (.i 1))/\(n∉l->df (l.map Dg) (.i n)=none):=by
  intro l
  induction l with
  |nil=>exact⟨fun h=>by simp at h,fun _=>rfl⟩
  |cons a l ih=>
   simp only [aK,df];by_cases ha:a=n
   ·subst ha;exact⟨fun _=>an rfl,fun h=>absurd (aoQ ..) h⟩
   ·have: ¬ji (Dg a)= .i n:=fun e=>ha (by simpa [Dg,ji] using e);rw [ak this];exact⟨fun h=>ih.1 (by rcases aH.1 h with h|h; exact absurd h.symm ha; exact h),fun h=>ih.2 fun Z=>h (an2 _ Z)⟩
 rw [e];exact⟨fun h=>(key ns).1 (hp.mem_iff.2 h),fun h=>(key ns).2 fun Z=>h (hp.mem_iff.1 Z)⟩
theorem X6 {rd r:D} (h:Vz rd r) {n:Int} (hn:n∉r.l.map D.n):Vz (dL (jP rd.l (.i n) (.i 1))) (dL (r.l++ [.i n])):=by
 obtain⟨ns,e,hp⟩:=h
 have key: ∀l:List Int,n∉l->jP (l.map Dg) (.i n) (.i 1)=(l++ [n]).map Dg:=by
  intro l
  induction l with
  |nil=>intro _; rfl
  |cons a l ih=> intro ha;simp only [aK,jP,aX];rw [ak (fun e=>ha (by simp [Dg,ji] at e; simp [e])),ih (fun Z=>ha (an2 _ Z))]
 refine⟨ns++ [n],by rw [bE,e,key ns (fun Z=>hn (hp.mem_iff.1 Z))],?_⟩;rw [bE,ank];exact hp.append_right _
theorem X7 {rd r:D} (h:Vz rd r) {k:Nat} (hk:k<r.l.length) (Aj:(r.l.map D.n).Nodup) {n:Int} (hn:(r.l[k]).n=n) (r':D) (Ms:r'.l=r.l.take k++r.l.drop (k+1)):Vz (dL (z7 rd.l (.i n))) r':=by
 obtain⟨ns,e,hp⟩:=h
 have key: ∀l:List Int,z7 (l.map Dg) (.i n)=(l.erase n).map Dg:=by
  intro l
  induction l with
  |nil=>rfl
  |cons a l ih=>
   simp only [aK,z7];by_cases ha:a=n
   ·subst ha;rw [an (show ji (Dg a)= .i a from rfl),List.erase_cons_head]
   ·rw [ak (fun e=>ha (by simpa [Dg,ji] using e)),ih,List.erase_cons_tail (by simpa using ha)];rfl
 refine⟨ns.erase n,by rw [bE,e,key],?_⟩
 have Z:(r.l.map D.n).erase n=r'.l.map D.n:=by
  rw [Ms,<- an3,an3,ank,an8,an9,<- an3];have GC:k<(r.l.map D.n).length:=by rw [bw]; exact hk
  have:(r.l.map D.n)[k]=n:=by rw [List.getElem_map]; exact hn
  have hsp:r.l.map D.n=(r.l.map D.n).take k++n::(r.l.map D.n).drop (k+1):=by rw [<- this,<- amX GC,anb]
  rw [an3];generalize (r.l.map D.n).take k=x at *;generalize (r.l.map D.n).drop (k+1)=y at *;rw [hsp,anY] at Aj;have hx:n∉x:=fun h=>Aj.2.2 n h n (aoQ ..) rfl;rw [hsp,List.erase_append_right _ hx,List.erase_cons_head]
 rw [<- Z];exact hp.erase n
section
variable {d0:D} {N mo th arg tries o c dn g mm:Int} {r v:D} {n:Nat} {q:Kn} {o' c' gK g':Int} {r' v':D} {m:Option Int} {a oc:Int}
theorem ka1 (hS:ng 1 N mm o c dn g r v) (hO:qb d0 1 N) (K:nh 1 N n q o c dn g r v) (hc:dV .i64 c) (ha:dV .i64 arg) (t0:0<=th) (h:act N mo th 1 arg tries o c dn g r v= .res o' c' gK g' r' v' m a oc): ∃q',pq N th 1 a q=some q'/\nh 1 N (n+1) q' o' c' gK g' r' v':=by
 obtain⟨P,R,E⟩:=hS;unfold jy fH at P;unfold qb at hO;unfold iL at E;have qU:q.rw.l.length<=n+1:=by have:=K.rl; omega
 have qZ:0<=q.cm/\q.cm<=((n+1:Nat):Int):=by have:=K.cb; omega
 have Ia:=hc.1;have Ld:=hc.2;have Pq:=ha.1;have Pp:=ha.2;simp only [act,Int.reduceEq,if_true,if_false,reduceIte] at h
 repeat' split at h
 all_goals simp only [Act.res.injEq,reduceCtorEq] at h
 ·obtain⟨rfl,rfl,rfl,rfl,rfl,rfl,rfl,rfl,rfl⟩:=h;refine⟨{ q with ow:=th },?_,⟨K.en,qU,fun _=>rfl,(by intro h; omega),(by intro h; omega),(by intro h; omega),qZ,(by intro h; omega),(by intro h; omega)⟩⟩;simp only [pq,Int.reduceEq,if_true,if_false,reduceIte]
  all_goals rw [an (by have:=K.ow J; omega)]
theorem ka2 (hS:ng 1 N mm o c dn g r v) (hO:qb d0 1 N) (K:nh 1 N n q o c dn g r v) (hc:dV .i64 c) (ha:dV .i64 arg) (t0:0<=th) (h:act N mo th 2 arg tries o c dn g r v= .res o' c' gK g' r' v' m a oc): ∃q',pq N th 2 a q=some q'/\nh 1 N (n+1) q' o' c' gK g' r' v':=by
 obtain⟨P,R,E⟩:=hS;unfold jy fH at P;unfold qb at hO;unfold iL at E;have qU:q.rw.l.length<=n+1:=by have:=K.rl; omega
 have qZ:0<=q.cm/\q.cm<=((n+1:Nat):Int):=by have:=K.cb; omega
 have Ia:=hc.1;have Ld:=hc.2;have Pq:=ha.1;have Pp:=ha.2;simp only [act,Int.reduceEq,if_true,if_false,reduceIte] at h
 repeat' split at h
 all_goals simp only [Act.res.injEq,reduceCtorEq] at h
 ·obtain⟨rfl,rfl,rfl,rfl,rfl,rfl,rfl,rfl,rfl⟩:=h;refine⟨{ q with ow:=-1 },?_,⟨K.en,qU,fun _=>rfl,(by intro h; omega),(by intro h; omega),(by intro h; omega),qZ,(by intro h; omega),(by intro h; omega)⟩⟩;simp only [pq,Int.reduceEq,if_true,if_false,reduceIte]
  all_goals rw [an (by have:=K.ow J; omega)]
theorem ka3 (hS:ng 1 N mm o c dn g r v) (hO:qb d0 1 N) (K:nh 1 N n q o c dn g r v) (hc:dV .i64 c) (ha:dV .i64 arg) (t0:0<=th) (h:act N mo th 3 arg tries o c dn g r v= .res o' c' gK g' r' v' m a oc): ∃q',pq N th 3 a q=some q'/\nh 1 N (n+1) q' o' c' gK g' r' v':=by
 obtain⟨P,R,E⟩:=hS;unfold jy fH at P;unfold qb at hO;unfold iL at E;have qU:q.rw.l.length<=n+1:=by have:=K.rl; omega
 have qZ:0<=q.cm/\q.cm<=((n+1:Nat):Int):=by have:=K.cb; omega
 have Ia:=hc.1;have Ld:=hc.2;have Pq:=ha.1;have Pp:=ha.2;simp only [act,Int.reduceEq,if_true,if_false,reduceIte] at h
 repeat' split at h
 all_goals simp only [Act.res.injEq,reduceCtorEq] at h
 ·obtain⟨rfl,rfl,rfl,rfl,rfl,rfl,rfl,rfl,rfl⟩:=h;refine⟨{ q with ow:=th },?_,⟨K.en,qU,fun _=>rfl,(by intro h; omega),(by intro h; omega),(by intro h; omega),qZ,(by intro h; omega),(by intro h; omega)⟩⟩;simp only [pq,Int.reduceEq,if_true,if_false,reduceIte]
  all_goals rw [an (by have:=K.ow J; omega)]
 ·obtain⟨rfl,rfl,rfl,rfl,rfl,rfl,rfl,rfl,rfl⟩:=h;refine⟨q,?_,⟨K.en,qU,fun _=>K.ow J,(by intro h; omega),(by intro h; omega),(by intro h; omega),qZ,(by intro h; omega),(by intro h; omega)⟩⟩;simp only [pq,Int.reduceEq,if_true,if_false,reduceIte]
  all_goals rw [ak J]
theorem ka4 (hS:ng 1 N mm o c dn g r v) (hO:qb d0 1 N) (K:nh 1 N n q o c dn g r v) (hc:dV .i64 c) (ha:dV .i64 arg) (t0:0<=th) (h:act N mo th 4 arg tries o c dn g r v= .res o' c' gK g' r' v' m a oc): ∃q',pq N th 4 a q=some q'/\nh 1 N (n+1) q' o' c' gK g' r' v':=by
 obtain⟨P,R,E⟩:=hS;unfold jy fH at P;unfold qb at hO;unfold iL at E;have qU:q.rw.l.length<=n+1:=by have:=K.rl; omega
 have qZ:0<=q.cm/\q.cm<=((n+1:Nat):Int):=by have:=K.cb; omega
 have Ia:=hc.1;have Ld:=hc.2;have Pq:=ha.1;have Pp:=ha.2;simp only [act,Int.reduceEq,if_true,if_false,reduceIte] at h
 repeat' split at h
 all_goals simp only [Act.res.injEq,reduceCtorEq] at h
 ·obtain⟨rfl,rfl,rfl,rfl,rfl,rfl,rfl,rfl,rfl⟩:=h;refine⟨{ q with ow:=th },?_,⟨K.en,qU,fun _=>rfl,(by intro h; omega),(by intro h; omega),(by intro h; omega),qZ,(by intro h; omega),(by intro h; omega)⟩⟩;simp only [pq,Int.reduceEq,if_true,if_false,reduceIte]
  all_goals rw [an (by have:=K.ow J; omega)]
 ·obtain⟨rfl,rfl,rfl,rfl,rfl,rfl,rfl,rfl,rfl⟩:=h;refine⟨q,?_,⟨K.en,qU,fun _=>K.ow J,(by intro h; omega),(by intro h; omega),(by intro h; omega),qZ,(by intro h; omega),(by intro h; omega)⟩⟩;simp only [pq,Int.reduceEq,if_true,if_false,reduceIte]
  all_goals rw [ak J]
theorem ka5 (hS:ng 2 N mm o c dn g r v) (hO:qb d0 2 N) (K:nh 2 N n q o c dn g r v) (hc:dV .i64 c) (ha:dV .i64 arg) (t0:0<=th) (h:act N mo th 5 arg tries o c dn g r v= .res o' c' gK g' r' v' m a oc): ∃q',pq N th 5 a q=some q'/\nh 2 N (n+1) q' o' c' gK g' r' v':=by
 obtain⟨P,R,E⟩:=hS;unfold jy fH at P;unfold qb at hO;unfold iL at E;have qU:q.rw.l.length<=n+1:=by have:=K.rl; omega
 have qZ:0<=q.cm/\q.cm<=((n+1:Nat):Int):=by have:=K.cb; omega
 have Ia:=hc.1;have Ld:=hc.2;have Pq:=ha.1;have Pp:=ha.2;simp only [act,Int.reduceEq,if_true,if_false,reduceIte] at h;have hpl:=kV r th
 repeat' split at h
 all_goals simp only [Act.res.injEq,reduceCtorEq] at h
 ·obtain⟨rfl,rfl,rfl,rfl,rfl,rfl,rfl,rfl,rfl⟩:=h;have hpn:th∉r.l.map D.n:=fun hm=>by obtain⟨y,hy,he⟩:=bd.1 hm; exact EE (by assumption) y hy he
  refine⟨{ q with rd:=dL (jP q.rd.l (.i th) (.i 1)) },?_,⟨K.en,qU,fun _=>K.ow J,fun _=>X6 (K.rd rfl) hpn,(by intro h; omega),(by intro h; omega),qZ,(by intro h; omega),(by intro h; omega)⟩⟩;simp only [pq,Int.reduceEq,if_true,if_false,reduceIte]
  all_goals rw [an ⟨by have:=K.ow J; omega,(Hs (K.rd rfl) th).2 hpn⟩]
theorem ka6 (hS:ng 2 N mm o c dn g r v) (hO:qb d0 2 N) (K:nh 2 N n q o c dn g r v) (hc:dV .i64 c) (ha:dV .i64 arg) (t0:0<=th) (h:act N mo th 6 arg tries o c dn g r v= .res o' c' gK g' r' v' m a oc): ∃q',pq N th 6 a q=some q'/\nh 2 N (n+1) q' o' c' gK g' r' v':=by
 obtain⟨P,R,E⟩:=hS;unfold jy fH at P;unfold qb at hO;unfold iL at E;have qU:q.rw.l.length<=n+1:=by have:=K.rl; omega
 have qZ:0<=q.cm/\q.cm<=((n+1:Nat):Int):=by have:=K.cb; omega
 have Ia:=hc.1;have Ld:=hc.2;have Pq:=ha.1;have Pp:=ha.2;simp only [act,Int.reduceEq,if_true,if_false,reduceIte] at h;have hpl:=kV r th
 repeat' split at h
 all_goals simp only [Act.res.injEq,reduceCtorEq] at h
 ·obtain⟨rfl,rfl,rfl,rfl,rfl,rfl,rfl,rfl,rfl⟩:=h
  have hpp: ∃k:Nat,place r th=(k:Int)/\∃hk:k<r.l.length,(r.l[k]).n=th:=by
   rcases hpl with ⟨U,_⟩|⟨k,hk,U,Z,_⟩
   ·omega
   ·exact⟨k,U,hk,Z⟩
  obtain⟨k,fS,hk,L_⟩:=hpp;have hpy:th∈r.l.map D.n:=bd.2 ⟨_,aF hk,L_⟩;have hpd:=X7 (K.rd rfl) hk R.2 L_ (fk (.i 2) (r.l.take (place r th).toNat++r.l.drop ((place r th).toNat+1))) (by rw [gP,fS]; rfl);refine⟨{ q with rd:=dL (z7 q.rd.l (.i th)) },?_,⟨K.en,qU,fun _=>K.ow J,fun _=>hpd,(by intro h; omega),(by intro h; omega),qZ,(by intro h; omega),(by intro h; omega)⟩⟩;simp only [pq,Int.reduceEq,if_true,if_false,reduceIte]
  all_goals rw [an ((Hs (K.rd rfl) th).1 hpy)]
theorem ka7 (hS:ng 2 N mm o c dn g r v) (hO:qb d0 2 N) (K:nh 2 N n q o c dn g r v) (hc:dV .i64 c) (ha:dV .i64 arg) (t0:0<=th) (h:act N mo th 7 arg tries o c dn g r v= .res o' c' gK g' r' v' m a oc): ∃q',pq N th 7 a q=some q'/\nh 2 N (n+1) q' o' c' gK g' r' v':=by
 obtain⟨P,R,E⟩:=hS;unfold jy fH at P;unfold qb at hO;unfold iL at E;have qU:q.rw.l.length<=n+1:=by have:=K.rl; omega
 have qZ:0<=q.cm/\q.cm<=((n+1:Nat):Int):=by have:=K.cb; omega
 have Ia:=hc.1;have Ld:=hc.2;have Pq:=ha.1;have Pp:=ha.2;simp only [act,Int.reduceEq,if_true,if_false,reduceIte] at h
 repeat' split at h
 all_goals simp only [Act.res.injEq,reduceCtorEq] at h
 ·obtain⟨rfl,rfl,rfl,rfl,rfl,rfl,rfl,rfl,rfl⟩:=h
  have ald:q.rd.l.length=r.l.length:=by obtain⟨ns,e,hp⟩:=K.rd rfl;have:=hp.length_eq;rw [e,bw];simpa using this
  refine⟨{ q with ow:=th },?_,⟨K.en,qU,fun _=>rfl,fun _=>K.rd rfl,(by intro h; omega),(by intro h; omega),qZ,(by intro h; omega),(by intro h; omega)⟩⟩;simp only [pq,Int.reduceEq,if_true,if_false,reduceIte]
  all_goals rw [an ⟨by have:=ald; omega,by have:=K.ow J; omega⟩]
theorem ka8 (hS:ng 2 N mm o c dn g r v) (hO:qb d0 2 N) (K:nh 2 N n q o c dn g r v) (hc:dV .i64 c) (ha:dV .i64 arg) (t0:0<=th) (h:act N mo th 8 arg tries o c dn g r v= .res o' c' gK g' r' v' m a oc): ∃q',pq N th 8 a q=some q'/\nh 2 N (n+1) q' o' c' gK g' r' v':=by
 obtain⟨P,R,E⟩:=hS;unfold jy fH at P;unfold qb at hO;unfold iL at E;have qU:q.rw.l.length<=n+1:=by have:=K.rl; omega
 have qZ:0<=q.cm/\q.cm<=((n+1:Nat):Int):=by have:=K.cb; omega
 have Ia:=hc.1;have Ld:=hc.2;have Pq:=ha.1;have Pp:=ha.2;simp only [act,Int.reduceEq,if_true,if_false,reduceIte] at h
 repeat' split at h
 all_goals simp only [Act.res.injEq,reduceCtorEq] at h
 ·obtain⟨rfl,rfl,rfl,rfl,rfl,rfl,rfl,rfl,rfl⟩:=h;refine⟨{ q with ow:=-1 },?_,⟨K.en,qU,fun _=>rfl,fun _=>K.rd rfl,(by intro h; omega),(by intro h; omega),qZ,(by intro h; omega),(by intro h; omega)⟩⟩;simp only [pq,Int.reduceEq,if_true,if_false,reduceIte]
  all_goals rw [an (by have:=K.ow J; omega)]
theorem ka9 (hS:ng 3 N mm o c dn g r v) (hO:qb d0 3 N) (K:nh 3 N n q o c dn g r v) (hc:dV .i64 c) (ha:dV .i64 arg) (t0:0<=th) (h:act N mo th 9 arg tries o c dn g r v= .res o' c' gK g' r' v' m a oc): ∃q',pq N th 9 a q=some q'/\nh 3 N (n+1) q' o' c' gK g' r' v':=by
 obtain⟨P,R,E⟩:=hS;unfold jy fH at P;unfold qb at hO;unfold iL at E;have qU:q.rw.l.length<=n+1:=by have:=K.rl; omega
 have qZ:0<=q.cm/\q.cm<=((n+1:Nat):Int):=by have:=K.cb; omega
 have Ia:=hc.1;have Ld:=hc.2;have Pq:=ha.1;have Pp:=ha.2;simp only [act,Int.reduceEq,if_true,if_false,reduceIte] at h
 repeat' split at h
 all_goals simp only [Act.res.injEq,reduceCtorEq] at h
 ·obtain⟨rfl,rfl,rfl,rfl,rfl,rfl,rfl,rfl,rfl⟩:=h;refine⟨{ q with ct:=IntKind.i64.wrap (q.ct-1) },?_,⟨K.en,qU,(by intro h; omega),(by intro h; omega),fun _=>by rw [K.ct J],(by intro h; omega),qZ,(by intro h; omega),(by intro h; omega)⟩⟩;simp only [pq,Int.reduceEq,if_true,if_false,reduceIte]
  all_goals rw [ak (by have e:=K.ct J; have:=IntKind.wrap_i64; simp only [IntKind.wrap_i64] at *; omega)]
theorem ak5 (hS:ng 3 N mm o c dn g r v) (hO:qb d0 3 N) (K:nh 3 N n q o c dn g r v) (hc:dV .i64 c) (ha:dV .i64 arg) (t0:0<=th) (h:act N mo th 10 arg tries o c dn g r v= .res o' c' gK g' r' v' m a oc): ∃q',pq N th 10 a q=some q'/\nh 3 N (n+1) q' o' c' gK g' r' v':=by
 obtain⟨P,R,E⟩:=hS;unfold jy fH at P;unfold qb at hO;unfold iL at E;have qU:q.rw.l.length<=n+1:=by have:=K.rl; omega
 have qZ:0<=q.cm/\q.cm<=((n+1:Nat):Int):=by have:=K.cb; omega
 have Ia:=hc.1;have Ld:=hc.2;have Pq:=ha.1;have Pp:=ha.2;simp only [act,Int.reduceEq,if_true,if_false,reduceIte] at h
 repeat' split at h
 all_goals simp only [Act.res.injEq,reduceCtorEq] at h
 ·obtain⟨rfl,rfl,rfl,rfl,rfl,rfl,rfl,rfl,rfl⟩:=h;refine⟨{ q with ct:=IntKind.i64.wrap (q.ct+1) },?_,⟨K.en,qU,(by intro h; omega),(by intro h; omega),fun _=>by rw [K.ct J],(by intro h; omega),qZ,(by intro h; omega),(by intro h; omega)⟩⟩;simp only [pq,Int.reduceEq,if_true,if_false,reduceIte]
  all_goals rw [ak (by have e:=K.ct J; have:=IntKind.wrap_i64; simp only [IntKind.wrap_i64] at *; omega)]
theorem ak4 (hS:ng 3 N mm o c dn g r v) (hO:qb d0 3 N) (K:nh 3 N n q o c dn g r v) (hc:dV .i64 c) (ha:dV .i64 arg) (t0:0<=th) (h:act N mo th 11 arg tries o c dn g r v= .res o' c' gK g' r' v' m a oc): ∃q',pq N th 11 a q=some q'/\nh 3 N (n+1) q' o' c' gK g' r' v':=by
 obtain⟨P,R,E⟩:=hS;unfold jy fH at P;unfold qb at hO;unfold iL at E;have qU:q.rw.l.length<=n+1:=by have:=K.rl; omega
 have qZ:0<=q.cm/\q.cm<=((n+1:Nat):Int):=by have:=K.cb; omega
 have Ia:=hc.1;have Ld:=hc.2;have Pq:=ha.1;have Pp:=ha.2;simp only [act,Int.reduceEq,if_true,if_false,reduceIte] at h
 repeat' split at h
 all_goals simp only [Act.res.injEq,reduceCtorEq] at h
 ·obtain⟨rfl,rfl,rfl,rfl,rfl,rfl,rfl,rfl,rfl⟩:=h;refine⟨{ q with ct:=IntKind.i64.wrap (q.ct-1) },?_,⟨K.en,qU,(by intro h; omega),(by intro h; omega),fun _=>by rw [K.ct J],(by intro h; omega),qZ,(by intro h; omega),(by intro h; omega)⟩⟩;simp only [pq,Int.reduceEq,if_true,if_false,reduceIte]
  all_goals rw [ak (by have e:=K.ct J; have:=IntKind.wrap_i64; simp only [IntKind.wrap_i64] at *; omega)]
 ·obtain⟨rfl,rfl,rfl,rfl,rfl,rfl,rfl,rfl,rfl⟩:=h;refine⟨q,?_,⟨K.en,qU,(by intro h; omega),(by intro h; omega),fun _=>K.ct J,(by intro h; omega),qZ,(by intro h; omega),(by intro h; omega)⟩⟩;simp only [pq,Int.reduceEq,if_true,if_false,reduceIte]
  all_goals rw [ak J]
theorem ak1 (hS:ng 7 N mm o c dn g r v) (hO:qb d0 7 N) (K:nh 7 N n q o c dn g r v) (hc:dV .i64 c) (ha:dV .i64 arg) (t0:0<=th) (h:act N mo th 17 arg tries o c dn g r v= .res o' c' gK g' r' v' m a oc): ∃q',pq N th 17 a q=some q'/\nh 7 N (n+1) q' o' c' gK g' r' v':=by
 obtain⟨P,R,E⟩:=hS;unfold jy fH at P;unfold qb at hO;unfold iL at E;have qU:q.rw.l.length<=n+1:=by have:=K.rl; omega
 have qZ:0<=q.cm/\q.cm<=((n+1:Nat):Int):=by have:=K.cb; omega
 have Ia:=hc.1;have Ld:=hc.2;have Pq:=ha.1;have Pp:=ha.2;simp only [act,Int.reduceEq,if_true,if_false,reduceIte] at h
 repeat' split at h
 all_goals simp only [Act.res.injEq,reduceCtorEq] at h
 ·obtain⟨rfl,rfl,rfl,rfl,rfl,rfl,rfl,rfl,rfl⟩:=h;refine⟨{ q with ct:=IntKind.i64.wrap (c+arg) },?_,⟨K.en,qU,(by intro h; omega),(by intro h; omega),fun _=>rfl,(by intro h; omega),qZ,(by intro h; omega),(by intro h; omega)⟩⟩;simp only [pq,Int.reduceEq,if_true,if_false,reduceIte]
  all_goals rw [ak (by have e:=K.ct J; have:=IntKind.wrap_i64; simp only [IntKind.wrap_i64] at *; omega),ak (by have e:=K.ct J; have:=IntKind.wrap_i64; simp only [IntKind.wrap_i64] at *; omega)]
theorem ak0 (hS:ng 7 N mm o c dn g r v) (hO:qb d0 7 N) (K:nh 7 N n q o c dn g r v) (hc:dV .i64 c) (ha:dV .i64 arg) (t0:0<=th) (h:act N mo th 18 arg tries o c dn g r v= .res o' c' gK g' r' v' m a oc): ∃q',pq N th 18 a q=some q'/\nh 7 N (n+1) q' o' c' gK g' r' v':=by
 obtain⟨P,R,E⟩:=hS;unfold jy fH at P;unfold qb at hO;unfold iL at E;have qU:q.rw.l.length<=n+1:=by have:=K.rl; omega
 have qZ:0<=q.cm/\q.cm<=((n+1:Nat):Int):=by have:=K.cb; omega
 have Ia:=hc.1;have Ld:=hc.2;have Pq:=ha.1;have Pp:=ha.2;simp only [act,Int.reduceEq,if_true,if_false,reduceIte] at h
 repeat' split at h
 all_goals simp only [Act.res.injEq,reduceCtorEq] at h
 ·obtain⟨rfl,rfl,rfl,rfl,rfl,rfl,rfl,rfl,rfl⟩:=h;refine⟨{ q with ct:=IntKind.i64.wrap (q.ct-1) },?_,⟨K.en,qU,(by intro h; omega),(by intro h; omega),fun _=>by rw [K.ct J],(by intro h; omega),qZ,(by intro h; omega),(by intro h; omega)⟩⟩;simp only [pq,Int.reduceEq,if_true,if_false,reduceIte]
  all_goals rw [ak (by have e:=K.ct J; have:=IntKind.wrap_i64; simp only [IntKind.wrap_i64] at *; omega),an (by rw [K.ct J])]
theorem akZ (hS:ng 7 N mm o c dn g r v) (hO:qb d0 7 N) (K:nh 7 N n q o c dn g r v) (hc:dV .i64 c) (ha:dV .i64 arg) (t0:0<=th) (h:act N mo th 19 arg tries o c dn g r v= .res o' c' gK g' r' v' m a oc): ∃q',pq N th 19 a q=some q'/\nh 7 N (n+1) q' o' c' gK g' r' v':=by
 obtain⟨P,R,E⟩:=hS;unfold jy fH at P;unfold qb at hO;unfold iL at E;have qU:q.rw.l.length<=n+1:=by have:=K.rl; omega
 have qZ:0<=q.cm/\q.cm<=((n+1:Nat):Int):=by have:=K.cb; omega
 have Ia:=hc.1;have Ld:=hc.2;have Pq:=ha.1;have Pp:=ha.2;simp only [act,Int.reduceEq,if_true,if_false,reduceIte] at h
 repeat' split at h
 all_goals simp only [Act.res.injEq,reduceCtorEq] at h
 ·obtain⟨rfl,rfl,rfl,rfl,rfl,rfl,rfl,rfl,rfl⟩:=h;refine⟨q,?_,⟨K.en,qU,(by intro h; omega),(by intro h; omega),fun _=>K.ct J,(by intro h; omega),qZ,(by intro h; omega),(by intro h; omega)⟩⟩;simp only [pq,Int.reduceEq,if_true,if_false,reduceIte]
  all_goals rw [an (by rw [K.ct J]; assumption)]
theorem akW (hS:ng 9 N mm o c dn g r v) (hO:qb d0 9 N) (K:nh 9 N n q o c dn g r v) (hc:dV .i64 c) (ha:dV .i64 arg) (t0:0<=th) (h:act N mo th 22 arg tries o c dn g r v= .res o' c' gK g' r' v' m a oc): ∃q',pq N th 22 a q=some q'/\nh 9 N (n+1) q' o' c' gK g' r' v':=by
 obtain⟨P,R,E⟩:=hS;unfold jy fH at P;unfold qb at hO;unfold iL at E;have qU:q.rw.l.length<=n+1:=by have:=K.rl; omega
 have qZ:0<=q.cm/\q.cm<=((n+1:Nat):Int):=by have:=K.cb; omega
 have Ia:=hc.1;have Ld:=hc.2;have Pq:=ha.1;have Pp:=ha.2;simp only [act,Int.reduceEq,if_true,if_false,reduceIte] at h
 repeat' split at h
 all_goals simp only [Act.res.injEq,reduceCtorEq] at h
 ·obtain⟨rfl,rfl,rfl,rfl,rfl,rfl,rfl,rfl,rfl⟩:=h;refine⟨q,?_,⟨K.en,qU,(by intro h; omega),(by intro h; omega),fun _=>K.ct J,(by intro h; omega),qZ,(by intro h; omega),(by intro h; omega)⟩⟩;simp only [pq,Int.reduceEq,if_true,if_false,reduceIte]
  all_goals rw [an (K.ct J)]
theorem akV (hS:ng 9 N mm o c dn g r v) (hO:qb d0 9 N) (K:nh 9 N n q o c dn g r v) (hc:dV .i64 c) (ha:dV .i64 arg) (t0:0<=th) (h:act N mo th 23 arg tries o c dn g r v= .res o' c' gK g' r' v' m a oc): ∃q',pq N th 23 a q=some q'/\nh 9 N (n+1) q' o' c' gK g' r' v':=by
 obtain⟨P,R,E⟩:=hS;unfold jy fH at P;unfold qb at hO;unfold iL at E;have qU:q.rw.l.length<=n+1:=by have:=K.rl; omega
 have qZ:0<=q.cm/\q.cm<=((n+1:Nat):Int):=by have:=K.cb; omega
 have Ia:=hc.1;have Ld:=hc.2;have Pq:=ha.1;have Pp:=ha.2;simp only [act,Int.reduceEq,if_true,if_false,reduceIte] at h
 repeat' split at h
 all_goals simp only [Act.res.injEq,reduceCtorEq] at h
 ·obtain⟨rfl,rfl,rfl,rfl,rfl,rfl,rfl,rfl,rfl⟩:=h;refine⟨{ q with ct:=arg },?_,⟨K.en,qU,(by intro h; omega),(by intro h; omega),fun _=>rfl,(by intro h; omega),qZ,(by intro h; omega),(by intro h; omega)⟩⟩;simp only [pq,Int.reduceEq,if_true,if_false,reduceIte]
theorem WS {g N c:Int} (h0:0<=c) (U:c<N) (Z:0<=g):(g*N+c).tdiv N=g:=by have h:0<=g*N+c:=Int.add_nonneg (Int.mul_nonneg Z J) h0;rw [Int.tdiv_eq_ediv_of_nonneg h,Int.add_comm,Int.add_mul_ediv_right _ _ J,Int.ediv_eq_zero_of_lt h0 U];omega
theorem ak3 (hS:ng 5 N mm o c dn g r v) (hO:qb d0 5 N) (K:nh 5 N n q o c dn g r v) (hc:dV .i64 c) (ha:dV .i64 arg) (t0:0<=th) (hn:n<=100000) (h:act N mo th 15 arg tries o c dn g r v= .res o' c' gK g' r' v' m a oc): ∃q',pq N th 15 a q=some q'/\nh 5 N (n+1) q' o' c' gK g' r' v':=by
 obtain⟨P,R,E⟩:=hS;unfold jy fH at P;unfold qb at hO;unfold iL at E;have qU:q.rw.l.length<=n+1:=by have:=K.rl; omega
 have qZ:0<=q.cm/\q.cm<=((n+1:Nat):Int):=by have:=K.cb; omega
 simp only [act,Int.reduceEq,if_true,if_false,reduceIte] at h
 repeat' split at h
 all_goals simp only [Act.res.injEq,reduceCtorEq] at h
 ·have Ss:=K.cm rfl;have W:=WS Ss.2.1 Ss.2.2 (by omega:0<=g);obtain⟨rfl,rfl,rfl,rfl,rfl,rfl,rfl,rfl,rfl⟩:=h;refine⟨{ q with cm:=IntKind.i64.wrap (q.cm+1) },?_,⟨K.en,qU,(by intro h; omega),(by intro h; omega),(by intro h; omega),fun _=>?_,?_,(by intro h; omega),(by intro h; omega)⟩⟩
  ·simp only [pq,Int.reduceEq,if_true,if_false,reduceIte];rw [ak J,Ss.1,W,an (by simp only [IntKind.wrap_i64]; omega)]
  ·have:=K.cb;simp only [IntKind.wrap_i64] at *;have e:(g+1)*N=g*N+N:=by rw [Int.add_mul,Int.one_mul]
   have e2:(g+1+9223372036854775808) % 18446744073709551616-9223372036854775808=g+1:=J
   refine⟨?_,J,J⟩;rw [e2,e];omega
  ·have:=K.cb;simp only [IntKind.wrap_i64];omega
 ·have Ss:=K.cm rfl;have W:=WS Ss.2.1 Ss.2.2 (by omega:0<=g);obtain⟨rfl,rfl,rfl,rfl,rfl,rfl,rfl,rfl,rfl⟩:=h;refine⟨{ q with cm:=IntKind.i64.wrap (q.cm+1) },?_,⟨K.en,qU,(by intro h; omega),(by intro h; omega),(by intro h; omega),fun _=>?_,?_,(by intro h; omega),(by intro h; omega)⟩⟩
  ·simp only [pq,Int.reduceEq,if_true,if_false,reduceIte];rw [ak J,Ss.1,W,an (by simp only [IntKind.wrap_i64]; omega)]
  ·have hkb:=K.cb;have gb: ¬IntKind.i64.wrap (c+1)=N:=by assumption
   have hc3:c<=IntKind.i64.wrap (N-1):=J
   rw [IntKind.wrap_i64] at hc3 gb;simp only [IntKind.wrap_i64];omega
  ·have:=K.cb;simp only [IntKind.wrap_i64];omega
theorem akU (hS:ng 5 N mm o c dn g r v) (hO:qb d0 5 N) (K:nh 5 N n q o c dn g r v) (hc:dV .i64 c) (ha:dV .i64 arg) (t0:0<=th) (h25:0<=arg) (hg:dV .i64 g) (h:act N mo th 25 arg tries o c dn g r v= .res o' c' gK g' r' v' m a oc): ∃q',pq N th 25 a q=some q'/\nh 5 N (n+1) q' o' c' gK g' r' v':=by
 obtain⟨P,R,E⟩:=hS;unfold jy fH at P;unfold qb at hO;unfold iL at E;have qU:q.rw.l.length<=n+1:=by have:=K.rl; omega
 have qZ:0<=q.cm/\q.cm<=((n+1:Nat):Int):=by have:=K.cb; omega
 simp only [act,Int.reduceEq,if_true,if_false,reduceIte] at h
 repeat' split at h
 all_goals simp only [Act.res.injEq,reduceCtorEq] at h
 ·have Ss:=K.cm rfl;have W:=WS Ss.2.1 Ss.2.2 (by omega:0<=g);have hg1:=hg.1;have hg2:=hg.2;obtain⟨rfl,rfl,rfl,rfl,rfl,rfl,rfl,rfl,rfl⟩:=h;refine⟨q,?_,⟨K.en,qU,(by intro h; omega),(by intro h; omega),(by intro h; omega),fun _=>Ss,qZ,(by intro h; omega),(by intro h; omega)⟩⟩;simp only [pq,Int.reduceEq,if_true,if_false,reduceIte];rw [ak J,ak J,Ss.1,W,an (by simp only [IntKind.wrap_i64]; omega)]
theorem ak2 (hS:ng 6 N mm o c dn g r v) (hO:qb d0 6 N) (K:nh 6 N n q o c dn g r v) (hc:dV .i64 c) (ha:dV .i64 arg) (t0:0<=th) (h:act N mo th 16 arg tries o c dn g r v= .res o' c' gK g' r' v' m a oc): ∃q',pq N th 16 a q=some q'/\nh 6 N (n+1) q' o' c' gK g' r' v':=by
 obtain⟨P,R,E⟩:=hS;unfold jy fH at P;unfold qb at hO;unfold iL at E;have qU:q.rw.l.length<=n+1:=by have:=K.rl; omega
 have qZ:0<=q.cm/\q.cm<=((n+1:Nat):Int):=by have:=K.cb; omega
 simp only [act,Int.reduceEq,if_true,if_false,reduceIte] at h
 repeat' split at h
 all_goals simp only [Act.res.injEq,reduceCtorEq] at h
 ·have ho:=K.on rfl;have hw:=K.ow J;obtain⟨rfl,rfl,rfl,rfl,rfl,rfl,rfl,rfl,rfl⟩:=h;refine⟨{ q with ow:=th,cm:=IntKind.i64.wrap (q.cm+1) },?_,⟨K.en,qU,fun _=>rfl,(by intro h; omega),(by intro h; omega),(by intro h; omega),?_,fun _=> ⟨ho.1,.inr ⟨?_,.inl t0⟩⟩,(by intro h; omega)⟩⟩
  ·simp only [pq,Int.reduceEq,if_true,if_false,reduceIte];rw [an ⟨by simp only [IntKind.wrap_i64]; omega,J⟩]
  ·simp only [IntKind.wrap_i64];omega
  ·simp only [IntKind.wrap_i64];omega
 ·have ho:=K.on rfl;obtain⟨rfl,rfl,rfl,rfl,rfl,rfl,rfl,rfl,rfl⟩:=h;refine⟨q,?_,⟨K.en,qU,fun _=>K.ow J,(by intro h; omega),(by intro h; omega),(by intro h; omega),qZ,fun _=>ho,(by intro h; omega)⟩⟩;simp only [pq,Int.reduceEq,if_true,if_false,reduceIte];rw [ak J]
theorem akT (hS:ng 6 N mm o c dn g r v) (hO:qb d0 6 N) (K:nh 6 N n q o c dn g r v) (hc:dV .i64 c) (ha:dV .i64 arg) (t0:0<=th) (h:act N mo th 26 arg tries o c dn g r v= .res o' c' gK g' r' v' m a oc): ∃q',pq N th 26 a q=some q'/\nh 6 N (n+1) q' o' c' gK g' r' v':=by
 obtain⟨P,R,E⟩:=hS;unfold jy fH at P;unfold qb at hO;unfold iL at E;have qU:q.rw.l.length<=n+1:=by have:=K.rl; omega
 have qZ:0<=q.cm/\q.cm<=((n+1:Nat):Int):=by have:=K.cb; omega
 simp only [act,Int.reduceEq,if_true,if_false,reduceIte] at h
 repeat' split at h
 all_goals simp only [Act.res.injEq,reduceCtorEq] at h
 ·have ho:=K.on rfl;have hw:=K.ow J;obtain⟨rfl,rfl,rfl,rfl,rfl,rfl,rfl,rfl,rfl⟩:=h;refine⟨{ q with ow:=-1,en:=1 },?_,⟨.inr rfl,qU,fun _=>rfl,(by intro h; omega),(by intro h; omega),(by intro h; omega),qZ,fun _=> ⟨rfl,.inr ⟨by show q.cm=1; omega,.inr rfl⟩⟩,(by intro h; omega)⟩⟩;simp only [pq,Int.reduceEq,if_true,if_false,reduceIte];rw [an ⟨J,J⟩]
theorem akY (hS:ng 8 N mm o c dn g r v) (hO:qb d0 8 N) (K:nh 8 N n q o c dn g r v) (hc:dV .i64 c) (ha:dV .i64 arg) (t0:0<=th) (h:act N mo th 20 arg tries o c dn g r v= .res o' c' gK g' r' v' m a oc): ∃q',pq N th 20 a q=some q'/\nh 8 N (n+1) q' o' c' gK g' r' v':=by
 obtain⟨P,R,E⟩:=hS;unfold jy fH at P;unfold qb at hO;unfold iL at E;have qU:q.rw.l.length<=n+1:=by have:=K.rl; omega
 have qZ:0<=q.cm/\q.cm<=((n+1:Nat):Int):=by have:=K.cb; omega
 simp only [act,Int.reduceEq,if_true,if_false,reduceIte] at h
 repeat' split at h
 all_goals simp only [Act.res.injEq,reduceCtorEq] at h
 ·have hr:=K.rw rfl;have Y:=K.rl;obtain⟨rfl,rfl,rfl,rfl,rfl,rfl,rfl,rfl,rfl⟩:=h;refine⟨{ q with rw:=dL (q.rw.l++ [.i arg]) },?_,⟨K.en,?_,(by intro h; omega),(by intro h; omega),(by intro h; omega),(by intro h; omega),qZ,(by intro h; omega),fun _=>?_⟩⟩
  ·simp only [pq,Int.reduceEq,if_true,if_false,reduceIte];rw [ak (by rw [hr]; omega)]
  ·rw [bE,a8];simpa using Y
  ·rw [bE,bE,hr]
theorem akX (hS:ng 8 N mm o c dn g r v) (hO:qb d0 8 N) (K:nh 8 N n q o c dn g r v) (hc:dV .i64 c) (ha:dV .i64 arg) (t0:0<=th) (h:act N mo th 21 arg tries o c dn g r v= .res o' c' gK g' r' v' m a oc): ∃q',pq N th 21 a q=some q'/\nh 8 N (n+1) q' o' c' gK g' r' v':=by
 obtain⟨P,R,E⟩:=hS;unfold jy fH at P;unfold qb at hO;unfold iL at E;have qU:q.rw.l.length<=n+1:=by have:=K.rl; omega
 have qZ:0<=q.cm/\q.cm<=((n+1:Nat):Int):=by have:=K.cb; omega
 simp only [act,Int.reduceEq,if_true,if_false,reduceIte] at h
 repeat' split at h
 all_goals simp only [Act.res.injEq,reduceCtorEq] at h
 ·have hr:=K.rw rfl;have Y:=K.rl;have hY:q.rw.at 0=v.at 0:=by unfold D.at; rw [hr]
  obtain⟨rfl,rfl,rfl,rfl,rfl,rfl,rfl,rfl,rfl⟩:=h;refine⟨{ q with rw:=if (q.rw.l.length:Int)-1=0 then .i 3 else fk (fk q.rw (q.rw.l.take (1+((q.rw.l.length:Int)-1)).toNat)) ((fk q.rw (q.rw.l.take (1+((q.rw.l.length:Int)-1)).toNat)).l.drop (Int.toNat 1)) },?_,?_⟩
  ·simp only [pq,Int.reduceEq,if_true,if_false,reduceIte];rw [ak (by rw [hr]; assumption),an (by rw [hY])]
  ·have e:(if (q.rw.l.length:Int)-1=0 then D.i 3 else fk (fk q.rw (q.rw.l.take (1+((q.rw.l.length:Int)-1)).toNat)) ((fk q.rw (q.rw.l.take (1+((q.rw.l.length:Int)-1)).toNat)).l.drop (Int.toNat 1))).l=v.l.drop 1:=by
    split
    ·rename_i U;rw [aoT (by rw [<- hr]; omega)];rfl
    ·rw [gP,gP,anK J,hr];rfl
   refine⟨K.en,?_,(by intro h; omega),(by intro h; omega),(by intro h; omega),(by intro h; omega),qZ,(by intro h; omega),fun _=>?_⟩
   ·show (if _ then _ else _:D).l.length<=n+1;rw [e,bu,<- hr];omega
   ·exact e.trans (gP _ _).symm
end
end Go.As.Try
end
section
namespace Go.As.Try
open Go hiding Stat Spec shape
open Go.As
set_option maxRecDepth 100000
set_option linter.unusedSimpArgs false
def DZ (op k:Int):Prop:= ∀{d0 d1 es p:D} {i:Nat} {th ob a:Int} {P:List Int->Prop} {q q':Kn},EvH d0 d1 es p i th op ob a q->((d0.at ob).W 0).n=k->pq ((d0.at ob).W 2).n th op a q=some q'->(∀p':D,K7 p p' ob q'->dw 23151 [enc es,(es.l.length:Int),((i+1:Nat):Int),enc d0,enc d1,enc p'] P)->
 dw 23151 [enc es,(es.l.length:Int),(i:Int),enc d0,enc d1,enc p] P
theorem GD {op k:Int} (h:DZ op k:=by
 intro d0 d1 es p i th ob a P q q' H hk h hs;have c1:(i:Int)<(es.l.length:Int):=by have:=H.i0; omega
 have c2: ¬(i:Int)<0:=J
 have w:=bO (n:=i) (by have:=H.i0; have:=H.i1; omega);have c3: ¬th<0:=by have:=H.t0; omega
 have c4:=H.t1;have c5: ¬ob<0:=by have:=H.o0; omega
 have c6:=H.o1;have hY:=H.he;have hq:=H.qm;have hen:=H.en;have VX:=H.rl;clear H;unfold yq kd Nd kn0 at hq;generalize hN:((d0.at ob).W 2).n=N at *;simp only [pq,Int.reduceEq,if_true,if_false,reduceIte] at h;obtain⟨ow,rd,ct,cm,en,Jg⟩:=q
 have hb:(if en=0 then (0:Int) else 1)=en:=by rcases hen with h|h<;>(simp only at h; subst h; rfl)
 refine dw.of ?_;rw [Ce];rcases hq with hf|⟨hf,hq⟩
 ·unfold Kn.d at hf;have VX:Jg.l.length<=100000:=VX;by_cases K!:Jg= .i 3
  ·subst K!;simp only [eN,zz,eF,dF,c1,c2,c3,c4,c5,c6,w,DW,hY,zg,hk,hf,kindOf,hb,ay,aO,aT,aY,nI,bE,jn,df,aC,ax,Int.reduceEq,Int.reduceLT,Int.reduceNeg,aQ,aG,if_true,if_false,reduceIte,true_and,and_true,and_self,hN,Int.reduceLE]
   all_goals (
    try simp only at h
    repeat' split at h
    all_goals simp only [aq,reduceCtorEq] at h
    all_goals subst h
    all_goals (repeat' first
     |(refine .jump (hs _ ?_); first |(refine fc ?_; (first |(simp only [Kn.d,bX,cG,jn,ax]; done)|(simp only [Kn.d,bX,cG,k8,ax]; done)|rfl))|(refine fb ?_; (first |(simp only [Kn.d,bX,cG,jn,ax]; done)|(simp only [Kn.d,bX,cG,k8,ax]; done)|rfl)))
     |refine .ite (fun _=>?_) (fun _=>?_))
    all_goals (exfalso; first |omega|(simp only [jn,bE,aC,aR,a8] at *; omega)|(simp_all [nI,jn]; done)|contradiction))
  ·have s6: ¬enc Jg=enc (.i 3):=fun e=>K! (ew e);by_cases H7:(Jg.l.length:Int)=0
   ·have k8:Jg.l= []:=am5 J;simp only [eN,zz,eF,dF,c1,c2,c3,c4,c5,c6,w,DW,hY,zg,hk,hf,kindOf,hb,ay,aO,aT,aY,nI,bE,jn,df,aC,ax,Int.reduceEq,Int.reduceLT,Int.reduceNeg,aQ,aG,if_true,if_false,reduceIte,true_and,and_true,and_self,hN,Int.reduceLE,H7,s6]
    all_goals (
    try simp only at h
    repeat' split at h
    all_goals simp only [aq,reduceCtorEq] at h
    all_goals subst h
    all_goals (repeat' first
     |(refine .jump (hs _ ?_); first |(refine fc ?_; (first |(simp only [Kn.d,bX,cG,jn,ax]; done)|(simp only [Kn.d,bX,cG,k8,ax]; done)|rfl))|(refine fb ?_; (first |(simp only [Kn.d,bX,cG,jn,ax]; done)|(simp only [Kn.d,bX,cG,k8,ax]; done)|rfl)))
     |refine .ite (fun _=>?_) (fun _=>?_))
    all_goals (exfalso; first |omega|(simp only [jn,bE,aC,aR,a8] at *; omega)|(simp_all [nI,jn]; done)|contradiction))
   ·have iS:(Jg.l.length:Int)<17592186044415:=J
    simp only [eN,zz,eF,dF,c1,c2,c3,c4,c5,c6,w,DW,hY,zg,hk,hf,kindOf,hb,ay,aO,aT,aY,nI,bE,jn,df,aC,ax,Int.reduceEq,Int.reduceLT,Int.reduceNeg,aQ,aG,if_true,if_false,reduceIte,true_and,and_true,and_self,hN,Int.reduceLE,H7,s6,iS]
    all_goals (
    try simp only at h
    repeat' split at h
    all_goals simp only [aq,reduceCtorEq] at h
    all_goals subst h
    all_goals (repeat' first
     |(refine .jump (hs _ ?_); first |(refine fc ?_; (first |(simp only [Kn.d,bX,cG,jn,ax]; done)|(simp only [Kn.d,bX,cG,k8,ax]; done)|rfl))|(refine fb ?_; (first |(simp only [Kn.d,bX,cG,jn,ax]; done)|(simp only [Kn.d,bX,cG,k8,ax]; done)|rfl)))
     |refine .ite (fun _=>?_) (fun _=>?_))
    all_goals (exfalso; first |omega|(simp only [jn,bE,aC,aR,a8] at *; omega)|(simp_all [nI,jn]; done)|contradiction))
 ·simp only [Kn.mk.injEq,hk,Int.reduceEq,or_self,or_true,or_false,false_or,true_or,if_true,if_false,reduceIte] at hq;obtain⟨rfl,rfl,rfl,rfl,rfl,rfl⟩:=hq;simp only [eN,zz,eF,dF,c1,c2,c3,c4,c5,c6,w,DW,hY,zg,hk,hf,kindOf,hb,ay,aO,aT,aY,nI,bE,jn,df,aC,ax,Int.reduceEq,Int.reduceLT,Int.reduceNeg,aQ,aG,if_true,if_false,reduceIte,true_and,and_true,and_self,hN,Int.reduceLE]
  all_goals (
   try simp only at h
   repeat' split at h
   all_goals simp only [aq,reduceCtorEq] at h
   all_goals subst h
   all_goals (repeat' first
    |(refine .jump (hs _ ?_); first |(refine fc ?_; (first |(simp only [Kn.d,bX,cG,jn,ax]; done)|(simp only [Kn.d,bX,cG,k8,ax]; done)|rfl))|(refine fb ?_; (first |(simp only [Kn.d,bX,cG,jn,ax]; done)|(simp only [Kn.d,bX,cG,k8,ax]; done)|rfl)))
    |refine .ite (fun _=>?_) (fun _=>?_))
   all_goals (exfalso; first |omega|(simp only [jn,bE,aC,aR,a8] at *; omega)|(simp_all [nI,jn]; done)|contradiction))):DZ op k:=h
set_option maxHeartbeats 8000000 in
theorem SS:DZ 1 1:=GD
set_option maxHeartbeats 8000000 in
theorem ev2:DZ 2 1:=GD
set_option maxHeartbeats 8000000 in
theorem ev8:DZ 8 2:=GD
set_option maxHeartbeats 8000000 in
theorem ev3:DZ 3 1:=GD
set_option maxHeartbeats 8000000 in
theorem ev4:DZ 4 1:=GD
set_option maxHeartbeats 8000000 in
theorem ev5:DZ 5 2:=GD
set_option maxHeartbeats 8000000 in
theorem ev6:DZ 6 2:=GD
set_option maxHeartbeats 8000000 in
theorem ev7:DZ 7 2:=GD
set_option maxHeartbeats 8000000 in
theorem ev9:DZ 9 3:=GD
set_option maxHeartbeats 8000000 in
theorem amf:DZ 10 3:=GD
set_option maxHeartbeats 8000000 in
theorem ame:DZ 11 3:=GD
set_option maxHeartbeats 8000000 in
theorem al8:DZ 17 7:=GD
set_option maxHeartbeats 8000000 in
theorem al7:DZ 18 7:=GD
set_option maxHeartbeats 8000000 in
theorem al6:DZ 19 7:=GD
set_option maxHeartbeats 8000000 in
theorem al3:DZ 22 9:=GD
set_option maxHeartbeats 8000000 in
theorem al0:DZ 23 9:=GD
set_option maxHeartbeats 8000000 in
theorem al5:DZ 20 8:=GD
set_option maxHeartbeats 8000000 in
theorem ama:DZ 15 5:=GD
end Go.As.Try
end
section
namespace Go.As.Try
open Go hiding Stat Spec shape
open Go.As
set_option maxRecDepth 100000
set_option linter.unusedSimpArgs false
set_option linter.unusedVariables false
def StM (op:Int) (pre:Int->Kn->Prop) (new:Int->Kn->Kn):Prop:= ∀{d0 d1 es p:D} {i:Nat} {th ob a M:Int} {P:List Int->Prop} {q m:Kn},EvH d0 d1 es p i th op ob a q->((d0.at ob).W 0).n=4->((d0.at ob).W 2).n=M->((d0.at M).W 0).n=1->0<=M->M<(d0.l.length:Int)->M≠ob->yq d0 p M m->(m.en=0\/m.en=1)->m.rw.l.length<=100000->pre th m->(∀p':D,F? p p' ob M q (new th m)->dw 23151 [enc es,(es.l.length:Int),((i+1:Nat):Int),enc d0,enc d1,enc p'] P)->
 dw 23151 [enc es,(es.l.length:Int),(i:Int),enc d0,enc d1,enc p] P
def StN (op:Int):Prop:= ∀{d0 d1 es p:D} {i:Nat} {th ob a M:Int} {P:List Int->Prop} {q m:Kn},EvH d0 d1 es p i th op ob a q->((d0.at ob).W 0).n=4->((d0.at ob).W 2).n=M->((d0.at M).W 0).n=1->0<=M->M<(d0.l.length:Int)->M≠ob->yq d0 p M m->(m.en=0\/m.en=1)->m.rw.l.length<=100000->(∀p':D,(K7 p p' ob q\/F? p p' ob M q m)->dw 23151 [enc es,(es.l.length:Int),((i+1:Nat):Int),enc d0,enc d1,enc p'] P)->
 dw 23151 [enc es,(es.l.length:Int),(i:Int),enc d0,enc d1,enc p] P
theorem ajM {op:Int} {pre:Int->Kn->Prop} {new:Int->Kn->Kn} (h:StM op pre new:=by
 intro d0 d1 es p i th ob a M P q m H hk hN ni M0 M1 gV hm hme Mw uc hs;have c1:(i:Int)<(es.l.length:Int):=by have:=H.i0; omega
 have c2: ¬(i:Int)<0:=J
 have w:=bO (n:=i) (by have:=H.i0; have:=H.i1; omega);have c3: ¬th<0:=by have:=H.t0; omega
 have c4:=H.t1;have c5: ¬ob<0:=by have:=H.o0; omega
 have c6:=H.o1;have c7: ¬M<0:=J
 have c8:=M1;have ma: ¬ob=M:=fun e=>gV e.symm;have hY:=H.he;have hq:=H.qm;have hen:=H.en;have VX:=H.rl;clear H;unfold yq kd Nd kn0 at hq hm;obtain⟨ow,rd,ct,cm,en,Jg⟩:=q;obtain⟨ow2,rd2,ct2,cm2,en2,xH⟩:=m
 have hb:(if en=0 then (0:Int) else 1)=en:=by rcases hen with h|h<;>(simp only at h; subst h; rfl)
 have rU:(if en2=0 then (0:Int) else 1)=en2:=by rcases hme with h|h<;>(simp only at h; subst h; rfl)
 try simp only at uc
 refine dw.of ?_;rw [Ce];rcases hq with hf|⟨hf,hq⟩
 ·unfold Kn.d at hf;have VX:Jg.l.length<=100000:=VX;by_cases K!:Jg= .i 3
  ·subst K!;rcases hm with hg|⟨hg,hm⟩
   ·unfold Kn.d at hg;have Mw:xH.l.length<=100000:=Mw;by_cases E9:xH= .i 3
    ·subst E9;simp only [eN,zz,eF,dF,c1,c2,c3,c4,c5,c6,c7,c8,gV,ma,w,hY,zg,hk,ni,hf,hg,hN,kindOf,ay,aO,aT,aY,nI,bE,jn,df,bC,D.i.injEq,aC,ax,Int.reduceEq,Int.reduceLT,Int.reduceLE,Int.reduceNeg,aQ,aG,if_true,if_false,reduceIte,true_and,and_true,and_self,uc,hb,rU]
     all_goals (first
    |(refine .jump (hs _ fun j=>?_)
      by_cases e1:ob=j
      ·subst e1;simp only [bE,bC,D.i.injEq,gV,if_true,if_false,reduceIte];rfl
      ·have kR: ¬j=ob:=fun e=>e1 e.symm;by_cases e2:M=j
       ·subst e2;simp only [bE,bC,D.i.injEq,e1,gV,if_true,if_false,reduceIte];rfl
       ·have mL: ¬j=M:=fun e=>e2 e.symm
        simp only [bE,bC,D.i.injEq,e1,kR,e2,mL,if_false,reduceIte])
    |(exfalso; omega))
    ·have qk: ¬enc xH=enc (.i 3):=fun e=>E9 (ew e);by_cases E8:(xH.l.length:Int)=0
     ·simp only [eN,zz,eF,dF,c1,c2,c3,c4,c5,c6,c7,c8,gV,ma,w,hY,zg,hk,ni,hf,hg,hN,kindOf,ay,aO,aT,aY,nI,bE,jn,df,bC,D.i.injEq,aC,ax,Int.reduceEq,Int.reduceLT,Int.reduceLE,Int.reduceNeg,aQ,aG,if_true,if_false,reduceIte,true_and,and_true,and_self,uc,hb,rU,E8,qk]
      all_goals (first
    |(refine .jump (hs _ fun j=>?_)
      by_cases e1:ob=j
      ·subst e1;simp only [bE,bC,D.i.injEq,gV,if_true,if_false,reduceIte];rfl
      ·have kR: ¬j=ob:=fun e=>e1 e.symm;by_cases e2:M=j
       ·subst e2;simp only [bE,bC,D.i.injEq,e1,gV,if_true,if_false,reduceIte];rfl
       ·have mL: ¬j=M:=fun e=>e2 e.symm
        simp only [bE,bC,D.i.injEq,e1,kR,e2,mL,if_false,reduceIte])
    |(exfalso; omega))
     ·simp only [eN,zz,eF,dF,c1,c2,c3,c4,c5,c6,c7,c8,gV,ma,w,hY,zg,hk,ni,hf,hg,hN,kindOf,ay,aO,aT,aY,nI,bE,jn,df,bC,D.i.injEq,aC,ax,Int.reduceEq,Int.reduceLT,Int.reduceLE,Int.reduceNeg,aQ,aG,if_true,if_false,reduceIte,true_and,and_true,and_self,uc,hb,rU,E8,qk]
      all_goals (first
    |(refine .jump (hs _ fun j=>?_)
      by_cases e1:ob=j
      ·subst e1;simp only [bE,bC,D.i.injEq,gV,if_true,if_false,reduceIte];rfl
      ·have kR: ¬j=ob:=fun e=>e1 e.symm;by_cases e2:M=j
       ·subst e2;simp only [bE,bC,D.i.injEq,e1,gV,if_true,if_false,reduceIte];rfl
       ·have mL: ¬j=M:=fun e=>e2 e.symm
        simp only [bE,bC,D.i.injEq,e1,kR,e2,mL,if_false,reduceIte])
    |(exfalso; omega))
   ·simp only [Kn.mk.injEq,ni,Int.reduceEq,or_self,or_true,or_false,false_or,true_or,if_true,if_false,reduceIte] at hm;obtain⟨rfl,rfl,rfl,rfl,rfl,rfl⟩:=hm;simp only [eN,zz,eF,dF,c1,c2,c3,c4,c5,c6,c7,c8,gV,ma,w,hY,zg,hk,ni,hf,hg,hN,kindOf,ay,aO,aT,aY,nI,bE,jn,df,bC,D.i.injEq,aC,ax,Int.reduceEq,Int.reduceLT,Int.reduceLE,Int.reduceNeg,aQ,aG,if_true,if_false,reduceIte,true_and,and_true,and_self,uc,hb]
    all_goals (first
    |(refine .jump (hs _ fun j=>?_)
      by_cases e1:ob=j
      ·subst e1;simp only [bE,bC,D.i.injEq,gV,if_true,if_false,reduceIte];rfl
      ·have kR: ¬j=ob:=fun e=>e1 e.symm;by_cases e2:M=j
       ·subst e2;simp only [bE,bC,D.i.injEq,e1,gV,if_true,if_false,reduceIte];rfl
       ·have mL: ¬j=M:=fun e=>e2 e.symm
        simp only [bE,bC,D.i.injEq,e1,kR,e2,mL,if_false,reduceIte])
    |(exfalso; omega))
  ·have s6: ¬enc Jg=enc (.i 3):=fun e=>K! (ew e);by_cases H7:(Jg.l.length:Int)=0
   ·rcases hm with hg|⟨hg,hm⟩
    ·unfold Kn.d at hg;have Mw:xH.l.length<=100000:=Mw;by_cases E9:xH= .i 3
     ·subst E9;simp only [eN,zz,eF,dF,c1,c2,c3,c4,c5,c6,c7,c8,gV,ma,w,hY,zg,hk,ni,hf,hg,hN,kindOf,ay,aO,aT,aY,nI,bE,jn,df,bC,D.i.injEq,aC,ax,Int.reduceEq,Int.reduceLT,Int.reduceLE,Int.reduceNeg,aQ,aG,if_true,if_false,reduceIte,true_and,and_true,and_self,uc,hb,H7,s6,rU]
      all_goals (first
    |(refine .jump (hs _ fun j=>?_)
      by_cases e1:ob=j
      ·subst e1;simp only [bE,bC,D.i.injEq,gV,if_true,if_false,reduceIte];rfl
      ·have kR: ¬j=ob:=fun e=>e1 e.symm;by_cases e2:M=j
       ·subst e2;simp only [bE,bC,D.i.injEq,e1,gV,if_true,if_false,reduceIte];rfl
       ·have mL: ¬j=M:=fun e=>e2 e.symm
        simp only [bE,bC,D.i.injEq,e1,kR,e2,mL,if_false,reduceIte])
    |(exfalso; omega))
     ·have qk: ¬enc xH=enc (.i 3):=fun e=>E9 (ew e);by_cases E8:(xH.l.length:Int)=0
      ·simp only [eN,zz,eF,dF,c1,c2,c3,c4,c5,c6,c7,c8,gV,ma,w,hY,zg,hk,ni,hf,hg,hN,kindOf,ay,aO,aT,aY,nI,bE,jn,df,bC,D.i.injEq,aC,ax,Int.reduceEq,Int.reduceLT,Int.reduceLE,Int.reduceNeg,aQ,aG,if_true,if_false,reduceIte,true_and,and_true,and_self,uc,hb,H7,s6,rU,E8,qk]
       all_goals (first
    |(refine .jump (hs _ fun j=>?_)
      by_cases e1:ob=j
      ·subst e1;simp only [bE,bC,D.i.injEq,gV,if_true,if_false,reduceIte];rfl
      ·have kR: ¬j=ob:=fun e=>e1 e.symm;by_cases e2:M=j
       ·subst e2;simp only [bE,bC,D.i.injEq,e1,gV,if_true,if_false,reduceIte];rfl
       ·have mL: ¬j=M:=fun e=>e2 e.symm
        simp only [bE,bC,D.i.injEq,e1,kR,e2,mL,if_false,reduceIte])
    |(exfalso; omega))
      ·simp only [eN,zz,eF,dF,c1,c2,c3,c4,c5,c6,c7,c8,gV,ma,w,hY,zg,hk,ni,hf,hg,hN,kindOf,ay,aO,aT,aY,nI,bE,jn,df,bC,D.i.injEq,aC,ax,Int.reduceEq,Int.reduceLT,Int.reduceLE,Int.reduceNeg,aQ,aG,if_true,if_false,reduceIte,true_and,and_true,and_self,uc,hb,H7,s6,rU,E8,qk]
       all_goals (first
    |(refine .jump (hs _ fun j=>?_)
      by_cases e1:ob=j
      ·subst e1;simp only [bE,bC,D.i.injEq,gV,if_true,if_false,reduceIte];rfl
      ·have kR: ¬j=ob:=fun e=>e1 e.symm;by_cases e2:M=j
       ·subst e2;simp only [bE,bC,D.i.injEq,e1,gV,if_true,if_false,reduceIte];rfl
       ·have mL: ¬j=M:=fun e=>e2 e.symm
        simp only [bE,bC,D.i.injEq,e1,kR,e2,mL,if_false,reduceIte])
    |(exfalso; omega))
    ·simp only [Kn.mk.injEq,ni,Int.reduceEq,or_self,or_true,or_false,false_or,true_or,if_true,if_false,reduceIte] at hm;obtain⟨rfl,rfl,rfl,rfl,rfl,rfl⟩:=hm;simp only [eN,zz,eF,dF,c1,c2,c3,c4,c5,c6,c7,c8,gV,ma,w,hY,zg,hk,ni,hf,hg,hN,kindOf,ay,aO,aT,aY,nI,bE,jn,df,bC,D.i.injEq,aC,ax,Int.reduceEq,Int.reduceLT,Int.reduceLE,Int.reduceNeg,aQ,aG,if_true,if_false,reduceIte,true_and,and_true,and_self,uc,hb,H7,s6]
     all_goals (first
    |(refine .jump (hs _ fun j=>?_)
      by_cases e1:ob=j
      ·subst e1;simp only [bE,bC,D.i.injEq,gV,if_true,if_false,reduceIte];rfl
      ·have kR: ¬j=ob:=fun e=>e1 e.symm;by_cases e2:M=j
       ·subst e2;simp only [bE,bC,D.i.injEq,e1,gV,if_true,if_false,reduceIte];rfl
       ·have mL: ¬j=M:=fun e=>e2 e.symm
        simp only [bE,bC,D.i.injEq,e1,kR,e2,mL,if_false,reduceIte])
    |(exfalso; omega))
   ·rcases hm with hg|⟨hg,hm⟩
    ·unfold Kn.d at hg;have Mw:xH.l.length<=100000:=Mw;by_cases E9:xH= .i 3
     ·subst E9;simp only [eN,zz,eF,dF,c1,c2,c3,c4,c5,c6,c7,c8,gV,ma,w,hY,zg,hk,ni,hf,hg,hN,kindOf,ay,aO,aT,aY,nI,bE,jn,df,bC,D.i.injEq,aC,ax,Int.reduceEq,Int.reduceLT,Int.reduceLE,Int.reduceNeg,aQ,aG,if_true,if_false,reduceIte,true_and,and_true,and_self,uc,hb,H7,s6,rU]
      all_goals (first
    |(refine .jump (hs _ fun j=>?_)
      by_cases e1:ob=j
      ·subst e1;simp only [bE,bC,D.i.injEq,gV,if_true,if_false,reduceIte];rfl
      ·have kR: ¬j=ob:=fun e=>e1 e.symm;by_cases e2:M=j
       ·subst e2;simp only [bE,bC,D.i.injEq,e1,gV,if_true,if_false,reduceIte];rfl
       ·have mL: ¬j=M:=fun e=>e2 e.symm
        simp only [bE,bC,D.i.injEq,e1,kR,e2,mL,if_false,reduceIte])
    |(exfalso; omega))
     ·have qk: ¬enc xH=enc (.i 3):=fun e=>E9 (ew e);by_cases E8:(xH.l.length:Int)=0
      ·simp only [eN,zz,eF,dF,c1,c2,c3,c4,c5,c6,c7,c8,gV,ma,w,hY,zg,hk,ni,hf,hg,hN,kindOf,ay,aO,aT,aY,nI,bE,jn,df,bC,D.i.injEq,aC,ax,Int.reduceEq,Int.reduceLT,Int.reduceLE,Int.reduceNeg,aQ,aG,if_true,if_false,reduceIte,true_and,and_true,and_self,uc,hb,H7,s6,rU,E8,qk]
       all_goals (first
    |(refine .jump (hs _ fun j=>?_)
      by_cases e1:ob=j
      ·subst e1;simp only [bE,bC,D.i.injEq,gV,if_true,if_false,reduceIte];rfl
      ·have kR: ¬j=ob:=fun e=>e1 e.symm;by_cases e2:M=j
       ·subst e2;simp only [bE,bC,D.i.injEq,e1,gV,if_true,if_false,reduceIte];rfl
       ·have mL: ¬j=M:=fun e=>e2 e.symm
        simp only [bE,bC,D.i.injEq,e1,kR,e2,mL,if_false,reduceIte])
    |(exfalso; omega))
      ·simp only [eN,zz,eF,dF,c1,c2,c3,c4,c5,c6,c7,c8,gV,ma,w,hY,zg,hk,ni,hf,hg,hN,kindOf,ay,aO,aT,aY,nI,bE,jn,df,bC,D.i.injEq,aC,ax,Int.reduceEq,Int.reduceLT,Int.reduceLE,Int.reduceNeg,aQ,aG,if_true,if_false,reduceIte,true_and,and_true,and_self,uc,hb,H7,s6,rU,E8,qk]
       all_goals (first
    |(refine .jump (hs _ fun j=>?_)
      by_cases e1:ob=j
      ·subst e1;simp only [bE,bC,D.i.injEq,gV,if_true,if_false,reduceIte];rfl
      ·have kR: ¬j=ob:=fun e=>e1 e.symm;by_cases e2:M=j
       ·subst e2;simp only [bE,bC,D.i.injEq,e1,gV,if_true,if_false,reduceIte];rfl
       ·have mL: ¬j=M:=fun e=>e2 e.symm
        simp only [bE,bC,D.i.injEq,e1,kR,e2,mL,if_false,reduceIte])
    |(exfalso; omega))
    ·simp only [Kn.mk.injEq,ni,Int.reduceEq,or_self,or_true,or_false,false_or,true_or,if_true,if_false,reduceIte] at hm;obtain⟨rfl,rfl,rfl,rfl,rfl,rfl⟩:=hm;simp only [eN,zz,eF,dF,c1,c2,c3,c4,c5,c6,c7,c8,gV,ma,w,hY,zg,hk,ni,hf,hg,hN,kindOf,ay,aO,aT,aY,nI,bE,jn,df,bC,D.i.injEq,aC,ax,Int.reduceEq,Int.reduceLT,Int.reduceLE,Int.reduceNeg,aQ,aG,if_true,if_false,reduceIte,true_and,and_true,and_self,uc,hb,H7,s6]
     all_goals (first
    |(refine .jump (hs _ fun j=>?_)
      by_cases e1:ob=j
      ·subst e1;simp only [bE,bC,D.i.injEq,gV,if_true,if_false,reduceIte];rfl
      ·have kR: ¬j=ob:=fun e=>e1 e.symm;by_cases e2:M=j
       ·subst e2;simp only [bE,bC,D.i.injEq,e1,gV,if_true,if_false,reduceIte];rfl
       ·have mL: ¬j=M:=fun e=>e2 e.symm
        simp only [bE,bC,D.i.injEq,e1,kR,e2,mL,if_false,reduceIte])
    |(exfalso; omega))
 ·simp only [Kn.mk.injEq,hk,Int.reduceEq,or_self,or_true,or_false,false_or,true_or,if_true,if_false,reduceIte] at hq;obtain⟨rfl,rfl,rfl,rfl,rfl,rfl⟩:=hq;rcases hm with hg|⟨hg,hm⟩
  ·unfold Kn.d at hg;have Mw:xH.l.length<=100000:=Mw;by_cases E9:xH= .i 3
   ·subst E9;simp only [eN,zz,eF,dF,c1,c2,c3,c4,c5,c6,c7,c8,gV,ma,w,hY,zg,hk,ni,hf,hg,hN,kindOf,ay,aO,aT,aY,nI,bE,jn,df,bC,D.i.injEq,aC,ax,Int.reduceEq,Int.reduceLT,Int.reduceLE,Int.reduceNeg,aQ,aG,if_true,if_false,reduceIte,true_and,and_true,and_self,uc,rU]
    all_goals (first
    |(refine .jump (hs _ fun j=>?_)
      by_cases e1:ob=j
      ·subst e1;simp only [bE,bC,D.i.injEq,gV,if_true,if_false,reduceIte];rfl
      ·have kR: ¬j=ob:=fun e=>e1 e.symm;by_cases e2:M=j
       ·subst e2;simp only [bE,bC,D.i.injEq,e1,gV,if_true,if_false,reduceIte];rfl
       ·have mL: ¬j=M:=fun e=>e2 e.symm
        simp only [bE,bC,D.i.injEq,e1,kR,e2,mL,if_false,reduceIte])
    |(exfalso; omega))
   ·have qk: ¬enc xH=enc (.i 3):=fun e=>E9 (ew e);by_cases E8:(xH.l.length:Int)=0
    ·simp only [eN,zz,eF,dF,c1,c2,c3,c4,c5,c6,c7,c8,gV,ma,w,hY,zg,hk,ni,hf,hg,hN,kindOf,ay,aO,aT,aY,nI,bE,jn,df,bC,D.i.injEq,aC,ax,Int.reduceEq,Int.reduceLT,Int.reduceLE,Int.reduceNeg,aQ,aG,if_true,if_false,reduceIte,true_and,and_true,and_self,uc,rU,E8,qk]
     all_goals (first
    |(refine .jump (hs _ fun j=>?_)
      by_cases e1:ob=j
      ·subst e1;simp only [bE,bC,D.i.injEq,gV,if_true,if_false,reduceIte];rfl
      ·have kR: ¬j=ob:=fun e=>e1 e.symm;by_cases e2:M=j
       ·subst e2;simp only [bE,bC,D.i.injEq,e1,gV,if_true,if_false,reduceIte];rfl
       ·have mL: ¬j=M:=fun e=>e2 e.symm
        simp only [bE,bC,D.i.injEq,e1,kR,e2,mL,if_false,reduceIte])
    |(exfalso; omega))
    ·simp only [eN,zz,eF,dF,c1,c2,c3,c4,c5,c6,c7,c8,gV,ma,w,hY,zg,hk,ni,hf,hg,hN,kindOf,ay,aO,aT,aY,nI,bE,jn,df,bC,D.i.injEq,aC,ax,Int.reduceEq,Int.reduceLT,Int.reduceLE,Int.reduceNeg,aQ,aG,if_true,if_false,reduceIte,true_and,and_true,and_self,uc,rU,E8,qk]
     all_goals (first
    |(refine .jump (hs _ fun j=>?_)
      by_cases e1:ob=j
      ·subst e1;simp only [bE,bC,D.i.injEq,gV,if_true,if_false,reduceIte];rfl
      ·have kR: ¬j=ob:=fun e=>e1 e.symm;by_cases e2:M=j
       ·subst e2;simp only [bE,bC,D.i.injEq,e1,gV,if_true,if_false,reduceIte];rfl
       ·have mL: ¬j=M:=fun e=>e2 e.symm
        simp only [bE,bC,D.i.injEq,e1,kR,e2,mL,if_false,reduceIte])
    |(exfalso; omega))
  ·simp only [Kn.mk.injEq,ni,Int.reduceEq,or_self,or_true,or_false,false_or,true_or,if_true,if_false,reduceIte] at hm;obtain⟨rfl,rfl,rfl,rfl,rfl,rfl⟩:=hm;simp only [eN,zz,eF,dF,c1,c2,c3,c4,c5,c6,c7,c8,gV,ma,w,hY,zg,hk,ni,hf,hg,hN,kindOf,ay,aO,aT,aY,nI,bE,jn,df,bC,D.i.injEq,aC,ax,Int.reduceEq,Int.reduceLT,Int.reduceLE,Int.reduceNeg,aQ,aG,if_true,if_false,reduceIte,true_and,and_true,and_self,uc]
   all_goals (first
    |(refine .jump (hs _ fun j=>?_)
      by_cases e1:ob=j
      ·subst e1;simp only [bE,bC,D.i.injEq,gV,if_true,if_false,reduceIte];rfl
      ·have kR: ¬j=ob:=fun e=>e1 e.symm;by_cases e2:M=j
       ·subst e2;simp only [bE,bC,D.i.injEq,e1,gV,if_true,if_false,reduceIte];rfl
       ·have mL: ¬j=M:=fun e=>e2 e.symm
        simp only [bE,bC,D.i.injEq,e1,kR,e2,mL,if_false,reduceIte])
    |(exfalso; omega))):StM op pre new:=h
theorem ajL {op:Int} (h:StN op:=by
 intro d0 d1 es p i th ob a M P q m H hk hN ni M0 M1 gV hm hme Mw hs;have c1:(i:Int)<(es.l.length:Int):=by have:=H.i0; omega
 have c2: ¬(i:Int)<0:=J
 have w:=bO (n:=i) (by have:=H.i0; have:=H.i1; omega);have c3: ¬th<0:=by have:=H.t0; omega
 have c4:=H.t1;have c5: ¬ob<0:=by have:=H.o0; omega
 have c6:=H.o1;have c7: ¬M<0:=J
 have c8:=M1;have ma: ¬ob=M:=fun e=>gV e.symm;have hY:=H.he;have hq:=H.qm;have hen:=H.en;have VX:=H.rl;clear H;unfold yq kd Nd kn0 at hq hm;obtain⟨ow,rd,ct,cm,en,Jg⟩:=q;obtain⟨ow2,rd2,ct2,cm2,en2,xH⟩:=m
 have hb:(if en=0 then (0:Int) else 1)=en:=by rcases hen with h|h<;>(simp only at h; subst h; rfl)
 have rU:(if en2=0 then (0:Int) else 1)=en2:=by rcases hme with h|h<;>(simp only at h; subst h; rfl)
 refine dw.of ?_;rw [Ce];rcases hq with hf|⟨hf,hq⟩
 ·unfold Kn.d at hf;have VX:Jg.l.length<=100000:=VX;by_cases K!:Jg= .i 3
  ·subst K!;rcases hm with hg|⟨hg,hm⟩
   ·unfold Kn.d at hg;have Mw:xH.l.length<=100000:=Mw;by_cases E9:xH= .i 3
    ·subst E9;simp only [eN,zz,eF,dF,c1,c2,c3,c4,c5,c6,c7,c8,gV,ma,w,hY,zg,hk,ni,hf,hg,hN,kindOf,ay,aO,aT,aY,nI,bE,jn,df,bC,D.i.injEq,aC,ax,Int.reduceEq,Int.reduceLT,Int.reduceLE,Int.reduceNeg,aQ,aG,if_true,if_false,reduceIte,true_and,and_true,and_self,hb,rU]
     all_goals (first
    |(refine .jump (hs _ (.inr fun j=>?_))
      by_cases e1:ob=j
      ·subst e1;simp only [bE,bC,D.i.injEq,gV,if_true,if_false,reduceIte];rfl
      ·have kR: ¬j=ob:=fun e=>e1 e.symm;by_cases e2:M=j
       ·subst e2;simp only [bE,bC,D.i.injEq,e1,gV,if_true,if_false,reduceIte];rfl
       ·have mL: ¬j=M:=fun e=>e2 e.symm
        simp only [bE,bC,D.i.injEq,e1,kR,e2,mL,if_false,reduceIte])
    |(refine .jump (hs _ (.inl ?_)); first |exact fc (by simp only [Kn.d,bX,cG])|exact fb (by simp only [Kn.d,bX,cG])|exact fc rfl|exact fb rfl))
    ·have qk: ¬enc xH=enc (.i 3):=fun e=>E9 (ew e);by_cases E8:(xH.l.length:Int)=0
     ·simp only [eN,zz,eF,dF,c1,c2,c3,c4,c5,c6,c7,c8,gV,ma,w,hY,zg,hk,ni,hf,hg,hN,kindOf,ay,aO,aT,aY,nI,bE,jn,df,bC,D.i.injEq,aC,ax,Int.reduceEq,Int.reduceLT,Int.reduceLE,Int.reduceNeg,aQ,aG,if_true,if_false,reduceIte,true_and,and_true,and_self,hb,rU,E8,qk]
      all_goals (first
    |(refine .jump (hs _ (.inr fun j=>?_))
      by_cases e1:ob=j
      ·subst e1;simp only [bE,bC,D.i.injEq,gV,if_true,if_false,reduceIte];rfl
      ·have kR: ¬j=ob:=fun e=>e1 e.symm;by_cases e2:M=j
       ·subst e2;simp only [bE,bC,D.i.injEq,e1,gV,if_true,if_false,reduceIte];rfl
       ·have mL: ¬j=M:=fun e=>e2 e.symm
        simp only [bE,bC,D.i.injEq,e1,kR,e2,mL,if_false,reduceIte])
    |(refine .jump (hs _ (.inl ?_)); first |exact fc (by simp only [Kn.d,bX,cG])|exact fb (by simp only [Kn.d,bX,cG])|exact fc rfl|exact fb rfl))
     ·simp only [eN,zz,eF,dF,c1,c2,c3,c4,c5,c6,c7,c8,gV,ma,w,hY,zg,hk,ni,hf,hg,hN,kindOf,ay,aO,aT,aY,nI,bE,jn,df,bC,D.i.injEq,aC,ax,Int.reduceEq,Int.reduceLT,Int.reduceLE,Int.reduceNeg,aQ,aG,if_true,if_false,reduceIte,true_and,and_true,and_self,hb,rU,E8,qk]
      all_goals (first
    |(refine .jump (hs _ (.inr fun j=>?_))
      by_cases e1:ob=j
      ·subst e1;simp only [bE,bC,D.i.injEq,gV,if_true,if_false,reduceIte];rfl
      ·have kR: ¬j=ob:=fun e=>e1 e.symm;by_cases e2:M=j
       ·subst e2;simp only [bE,bC,D.i.injEq,e1,gV,if_true,if_false,reduceIte];rfl
       ·have mL: ¬j=M:=fun e=>e2 e.symm
        simp only [bE,bC,D.i.injEq,e1,kR,e2,mL,if_false,reduceIte])
    |(refine .jump (hs _ (.inl ?_)); first |exact fc (by simp only [Kn.d,bX,cG])|exact fb (by simp only [Kn.d,bX,cG])|exact fc rfl|exact fb rfl))
   ·simp only [Kn.mk.injEq,ni,Int.reduceEq,or_self,or_true,or_false,false_or,true_or,if_true,if_false,reduceIte] at hm;obtain⟨rfl,rfl,rfl,rfl,rfl,rfl⟩:=hm;simp only [eN,zz,eF,dF,c1,c2,c3,c4,c5,c6,c7,c8,gV,ma,w,hY,zg,hk,ni,hf,hg,hN,kindOf,ay,aO,aT,aY,nI,bE,jn,df,bC,D.i.injEq,aC,ax,Int.reduceEq,Int.reduceLT,Int.reduceLE,Int.reduceNeg,aQ,aG,if_true,if_false,reduceIte,true_and,and_true,and_self,hb]
    all_goals (first
    |(refine .jump (hs _ (.inr fun j=>?_))
      by_cases e1:ob=j
      ·subst e1;simp only [bE,bC,D.i.injEq,gV,if_true,if_false,reduceIte];rfl
      ·have kR: ¬j=ob:=fun e=>e1 e.symm;by_cases e2:M=j
       ·subst e2;simp only [bE,bC,D.i.injEq,e1,gV,if_true,if_false,reduceIte];rfl
       ·have mL: ¬j=M:=fun e=>e2 e.symm
        simp only [bE,bC,D.i.injEq,e1,kR,e2,mL,if_false,reduceIte])
    |(refine .jump (hs _ (.inl ?_)); first |exact fc (by simp only [Kn.d,bX,cG])|exact fb (by simp only [Kn.d,bX,cG])|exact fc rfl|exact fb rfl))
  ·have s6: ¬enc Jg=enc (.i 3):=fun e=>K! (ew e);by_cases H7:(Jg.l.length:Int)=0
   ·rcases hm with hg|⟨hg,hm⟩
    ·unfold Kn.d at hg;have Mw:xH.l.length<=100000:=Mw;by_cases E9:xH= .i 3
     ·subst E9;simp only [eN,zz,eF,dF,c1,c2,c3,c4,c5,c6,c7,c8,gV,ma,w,hY,zg,hk,ni,hf,hg,hN,kindOf,ay,aO,aT,aY,nI,bE,jn,df,bC,D.i.injEq,aC,ax,Int.reduceEq,Int.reduceLT,Int.reduceLE,Int.reduceNeg,aQ,aG,if_true,if_false,reduceIte,true_and,and_true,and_self,hb,H7,s6,rU]
      all_goals (first
    |(refine .jump (hs _ (.inr fun j=>?_))
      by_cases e1:ob=j
      ·subst e1;simp only [bE,bC,D.i.injEq,gV,if_true,if_false,reduceIte];rfl
      ·have kR: ¬j=ob:=fun e=>e1 e.symm;by_cases e2:M=j
       ·subst e2;simp only [bE,bC,D.i.injEq,e1,gV,if_true,if_false,reduceIte];rfl
       ·have mL: ¬j=M:=fun e=>e2 e.symm
        simp only [bE,bC,D.i.injEq,e1,kR,e2,mL,if_false,reduceIte])
    |(refine .jump (hs _ (.inl ?_)); first |exact fc (by simp only [Kn.d,bX,cG])|exact fb (by simp only [Kn.d,bX,cG])|exact fc rfl|exact fb rfl))
     ·have qk: ¬enc xH=enc (.i 3):=fun e=>E9 (ew e);by_cases E8:(xH.l.length:Int)=0
      ·simp only [eN,zz,eF,dF,c1,c2,c3,c4,c5,c6,c7,c8,gV,ma,w,hY,zg,hk,ni,hf,hg,hN,kindOf,ay,aO,aT,aY,nI,bE,jn,df,bC,D.i.injEq,aC,ax,Int.reduceEq,Int.reduceLT,Int.reduceLE,Int.reduceNeg,aQ,aG,if_true,if_false,reduceIte,true_and,and_true,and_self,hb,H7,s6,rU,E8,qk]
       all_goals (first
    |(refine .jump (hs _ (.inr fun j=>?_))
      by_cases e1:ob=j
      ·subst e1;simp only [bE,bC,D.i.injEq,gV,if_true,if_false,reduceIte];rfl
      ·have kR: ¬j=ob:=fun e=>e1 e.symm;by_cases e2:M=j
       ·subst e2;simp only [bE,bC,D.i.injEq,e1,gV,if_true,if_false,reduceIte];rfl
       ·have mL: ¬j=M:=fun e=>e2 e.symm
        simp only [bE,bC,D.i.injEq,e1,kR,e2,mL,if_false,reduceIte])
    |(refine .jump (hs _ (.inl ?_)); first |exact fc (by simp only [Kn.d,bX,cG])|exact fb (by simp only [Kn.d,bX,cG])|exact fc rfl|exact fb rfl))
      ·simp only [eN,zz,eF,dF,c1,c2,c3,c4,c5,c6,c7,c8,gV,ma,w,hY,zg,hk,ni,hf,hg,hN,kindOf,ay,aO,aT,aY,nI,bE,jn,df,bC,D.i.injEq,aC,ax,Int.reduceEq,Int.reduceLT,Int.reduceLE,Int.reduceNeg,aQ,aG,if_true,if_false,reduceIte,true_and,and_true,and_self,hb,H7,s6,rU,E8,qk]
       all_goals (first
    |(refine .jump (hs _ (.inr fun j=>?_))
      by_cases e1:ob=j
      ·subst e1;simp only [bE,bC,D.i.injEq,gV,if_true,if_false,reduceIte];rfl
      ·have kR: ¬j=ob:=fun e=>e1 e.symm;by_cases e2:M=j
       ·subst e2;simp only [bE,bC,D.i.injEq,e1,gV,if_true,if_false,reduceIte];rfl
       ·have mL: ¬j=M:=fun e=>e2 e.symm
        simp only [bE,bC,D.i.injEq,e1,kR,e2,mL,if_false,reduceIte])
    |(refine .jump (hs _ (.inl ?_)); first |exact fc (by simp only [Kn.d,bX,cG])|exact fb (by simp only [Kn.d,bX,cG])|exact fc rfl|exact fb rfl))
    ·simp only [Kn.mk.injEq,ni,Int.reduceEq,or_self,or_true,or_false,false_or,true_or,if_true,if_false,reduceIte] at hm;obtain⟨rfl,rfl,rfl,rfl,rfl,rfl⟩:=hm;simp only [eN,zz,eF,dF,c1,c2,c3,c4,c5,c6,c7,c8,gV,ma,w,hY,zg,hk,ni,hf,hg,hN,kindOf,ay,aO,aT,aY,nI,bE,jn,df,bC,D.i.injEq,aC,ax,Int.reduceEq,Int.reduceLT,Int.reduceLE,Int.reduceNeg,aQ,aG,if_true,if_false,reduceIte,true_and,and_true,and_self,hb,H7,s6]
     all_goals (first
    |(refine .jump (hs _ (.inr fun j=>?_))
      by_cases e1:ob=j
      ·subst e1;simp only [bE,bC,D.i.injEq,gV,if_true,if_false,reduceIte];rfl
      ·have kR: ¬j=ob:=fun e=>e1 e.symm;by_cases e2:M=j
       ·subst e2;simp only [bE,bC,D.i.injEq,e1,gV,if_true,if_false,reduceIte];rfl
       ·have mL: ¬j=M:=fun e=>e2 e.symm
        simp only [bE,bC,D.i.injEq,e1,kR,e2,mL,if_false,reduceIte])
    |(refine .jump (hs _ (.inl ?_)); first |exact fc (by simp only [Kn.d,bX,cG])|exact fb (by simp only [Kn.d,bX,cG])|exact fc rfl|exact fb rfl))
   ·rcases hm with hg|⟨hg,hm⟩
    ·unfold Kn.d at hg;have Mw:xH.l.length<=100000:=Mw;by_cases E9:xH= .i 3
     ·subst E9;simp only [eN,zz,eF,dF,c1,c2,c3,c4,c5,c6,c7,c8,gV,ma,w,hY,zg,hk,ni,hf,hg,hN,kindOf,ay,aO,aT,aY,nI,bE,jn,df,bC,D.i.injEq,aC,ax,Int.reduceEq,Int.reduceLT,Int.reduceLE,Int.reduceNeg,aQ,aG,if_true,if_false,reduceIte,true_and,and_true,and_self,hb,H7,s6,rU]
      all_goals (first
    |(refine .jump (hs _ (.inr fun j=>?_))
      by_cases e1:ob=j
      ·subst e1;simp only [bE,bC,D.i.injEq,gV,if_true,if_false,reduceIte];rfl
      ·have kR: ¬j=ob:=fun e=>e1 e.symm;by_cases e2:M=j
       ·subst e2;simp only [bE,bC,D.i.injEq,e1,gV,if_true,if_false,reduceIte];rfl
       ·have mL: ¬j=M:=fun e=>e2 e.symm
        simp only [bE,bC,D.i.injEq,e1,kR,e2,mL,if_false,reduceIte])
    |(refine .jump (hs _ (.inl ?_)); first |exact fc (by simp only [Kn.d,bX,cG])|exact fb (by simp only [Kn.d,bX,cG])|exact fc rfl|exact fb rfl))
     ·have qk: ¬enc xH=enc (.i 3):=fun e=>E9 (ew e);by_cases E8:(xH.l.length:Int)=0
      ·simp only [eN,zz,eF,dF,c1,c2,c3,c4,c5,c6,c7,c8,gV,ma,w,hY,zg,hk,ni,hf,hg,hN,kindOf,ay,aO,aT,aY,nI,bE,jn,df,bC,D.i.injEq,aC,ax,Int.reduceEq,Int.reduceLT,Int.reduceLE,Int.reduceNeg,aQ,aG,if_true,if_false,reduceIte,true_and,and_true,and_self,hb,H7,s6,rU,E8,qk]
       all_goals (first
    |(refine .jump (hs _ (.inr fun j=>?_))
      by_cases e1:ob=j
      ·subst e1;simp only [bE,bC,D.i.injEq,gV,if_true,if_false,reduceIte];rfl
      ·have kR: ¬j=ob:=fun e=>e1 e.symm;by_cases e2:M=j
       ·subst e2;simp only [bE,bC,D.i.injEq,e1,gV,if_true,if_false,reduceIte];rfl
       ·have mL: ¬j=M:=fun e=>e2 e.symm
        simp only [bE,bC,D.i.injEq,e1,kR,e2,mL,if_false,reduceIte])
    |(refine .jump (hs _ (.inl ?_)); first |exact fc (by simp only [Kn.d,bX,cG])|exact fb (by simp only [Kn.d,bX,cG])|exact fc rfl|exact fb rfl))
      ·simp only [eN,zz,eF,dF,c1,c2,c3,c4,c5,c6,c7,c8,gV,ma,w,hY,zg,hk,ni,hf,hg,hN,kindOf,ay,aO,aT,aY,nI,bE,jn,df,bC,D.i.injEq,aC,ax,Int.reduceEq,Int.reduceLT,Int.reduceLE,Int.reduceNeg,aQ,aG,if_true,if_false,reduceIte,true_and,and_true,and_self,hb,H7,s6,rU,E8,qk]
       all_goals (first
    |(refine .jump (hs _ (.inr fun j=>?_))
      by_cases e1:ob=j
      ·subst e1;simp only [bE,bC,D.i.injEq,gV,if_true,if_false,reduceIte];rfl
      ·have kR: ¬j=ob:=fun e=>e1 e.symm;by_cases e2:M=j
       ·subst e2;simp only [bE,bC,D.i.injEq,e1,gV,if_true,if_false,reduceIte];rfl
       ·have mL: ¬j=M:=fun e=>e2 e.symm
        simp only [bE,bC,D.i.injEq,e1,kR,e2,mL,if_false,reduceIte])
    |(refine .jump (hs _ (.inl ?_)); first |exact fc (by simp only [Kn.d,bX,cG])|exact fb (by simp only [Kn.d,bX,cG])|exact fc rfl|exact fb rfl))
    ·simp only [Kn.mk.injEq,ni,Int.reduceEq,or_self,or_true,or_false,false_or,true_or,if_true,if_false,reduceIte] at hm;obtain⟨rfl,rfl,rfl,rfl,rfl,rfl⟩:=hm;simp only [eN,zz,eF,dF,c1,c2,c3,c4,c5,c6,c7,c8,gV,ma,w,hY,zg,hk,ni,hf,hg,hN,kindOf,ay,aO,aT,aY,nI,bE,jn,df,bC,D.i.injEq,aC,ax,Int.reduceEq,Int.reduceLT,Int.reduceLE,Int.reduceNeg,aQ,aG,if_true,if_false,reduceIte,true_and,and_true,and_self,hb,H7,s6]
     all_goals (first
    |(refine .jump (hs _ (.inr fun j=>?_))
      by_cases e1:ob=j
      ·subst e1;simp only [bE,bC,D.i.injEq,gV,if_true,if_false,reduceIte];rfl
      ·have kR: ¬j=ob:=fun e=>e1 e.symm;by_cases e2:M=j
       ·subst e2;simp only [bE,bC,D.i.injEq,e1,gV,if_true,if_false,reduceIte];rfl
       ·have mL: ¬j=M:=fun e=>e2 e.symm
        simp only [bE,bC,D.i.injEq,e1,kR,e2,mL,if_false,reduceIte])
    |(refine .jump (hs _ (.inl ?_)); first |exact fc (by simp only [Kn.d,bX,cG])|exact fb (by simp only [Kn.d,bX,cG])|exact fc rfl|exact fb rfl))
 ·simp only [Kn.mk.injEq,hk,Int.reduceEq,or_self,or_true,or_false,false_or,true_or,if_true,if_false,reduceIte] at hq;obtain⟨rfl,rfl,rfl,rfl,rfl,rfl⟩:=hq;rcases hm with hg|⟨hg,hm⟩
  ·unfold Kn.d at hg;have Mw:xH.l.length<=100000:=Mw;by_cases E9:xH= .i 3
   ·subst E9;simp only [eN,zz,eF,dF,c1,c2,c3,c4,c5,c6,c7,c8,gV,ma,w,hY,zg,hk,ni,hf,hg,hN,kindOf,ay,aO,aT,aY,nI,bE,jn,df,bC,D.i.injEq,aC,ax,Int.reduceEq,Int.reduceLT,Int.reduceLE,Int.reduceNeg,aQ,aG,if_true,if_false,reduceIte,true_and,and_true,and_self,rU]
    all_goals (first
    |(refine .jump (hs _ (.inr fun j=>?_))
      by_cases e1:ob=j
      ·subst e1;simp only [bE,bC,D.i.injEq,gV,if_true,if_false,reduceIte];rfl
      ·have kR: ¬j=ob:=fun e=>e1 e.symm;by_cases e2:M=j
       ·subst e2;simp only [bE,bC,D.i.injEq,e1,gV,if_true,if_false,reduceIte];rfl
       ·have mL: ¬j=M:=fun e=>e2 e.symm
        simp only [bE,bC,D.i.injEq,e1,kR,e2,mL,if_false,reduceIte])
    |(refine .jump (hs _ (.inl ?_)); first |exact fc (by simp only [Kn.d,bX,cG])|exact fb (by simp only [Kn.d,bX,cG])|exact fc rfl|exact fb rfl))
   ·have qk: ¬enc xH=enc (.i 3):=fun e=>E9 (ew e);by_cases E8:(xH.l.length:Int)=0
    ·simp only [eN,zz,eF,dF,c1,c2,c3,c4,c5,c6,c7,c8,gV,ma,w,hY,zg,hk,ni,hf,hg,hN,kindOf,ay,aO,aT,aY,nI,bE,jn,df,bC,D.i.injEq,aC,ax,Int.reduceEq,Int.reduceLT,Int.reduceLE,Int.reduceNeg,aQ,aG,if_true,if_false,reduceIte,true_and,and_true,and_self,rU,E8,qk]
     all_goals (first
    |(refine .jump (hs _ (.inr fun j=>?_))
      by_cases e1:ob=j
      ·subst e1;simp only [bE,bC,D.i.injEq,gV,if_true,if_false,reduceIte];rfl
      ·have kR: ¬j=ob:=fun e=>e1 e.symm;by_cases e2:M=j
       ·subst e2;simp only [bE,bC,D.i.injEq,e1,gV,if_true,if_false,reduceIte];rfl
       ·have mL: ¬j=M:=fun e=>e2 e.symm
        simp only [bE,bC,D.i.injEq,e1,kR,e2,mL,if_false,reduceIte])
    |(refine .jump (hs _ (.inl ?_)); first |exact fc (by simp only [Kn.d,bX,cG])|exact fb (by simp only [Kn.d,bX,cG])|exact fc rfl|exact fb rfl))
    ·simp only [eN,zz,eF,dF,c1,c2,c3,c4,c5,c6,c7,c8,gV,ma,w,hY,zg,hk,ni,hf,hg,hN,kindOf,ay,aO,aT,aY,nI,bE,jn,df,bC,D.i.injEq,aC,ax,Int.reduceEq,Int.reduceLT,Int.reduceLE,Int.reduceNeg,aQ,aG,if_true,if_false,reduceIte,true_and,and_true,and_self,rU,E8,qk]
     all_goals (first
    |(refine .jump (hs _ (.inr fun j=>?_))
      by_cases e1:ob=j
      ·subst e1;simp only [bE,bC,D.i.injEq,gV,if_true,if_false,reduceIte];rfl
      ·have kR: ¬j=ob:=fun e=>e1 e.symm;by_cases e2:M=j
       ·subst e2;simp only [bE,bC,D.i.injEq,e1,gV,if_true,if_false,reduceIte];rfl
       ·have mL: ¬j=M:=fun e=>e2 e.symm
        simp only [bE,bC,D.i.injEq,e1,kR,e2,mL,if_false,reduceIte])
    |(refine .jump (hs _ (.inl ?_)); first |exact fc (by simp only [Kn.d,bX,cG])|exact fb (by simp only [Kn.d,bX,cG])|exact fc rfl|exact fb rfl))
  ·simp only [Kn.mk.injEq,ni,Int.reduceEq,or_self,or_true,or_false,false_or,true_or,if_true,if_false,reduceIte] at hm;obtain⟨rfl,rfl,rfl,rfl,rfl,rfl⟩:=hm;simp only [eN,zz,eF,dF,c1,c2,c3,c4,c5,c6,c7,c8,gV,ma,w,hY,zg,hk,ni,hf,hg,hN,kindOf,ay,aO,aT,aY,nI,bE,jn,df,bC,D.i.injEq,aC,ax,Int.reduceEq,Int.reduceLT,Int.reduceLE,Int.reduceNeg,aQ,aG,if_true,if_false,reduceIte,true_and,and_true,and_self]
   all_goals (first
    |(refine .jump (hs _ (.inr fun j=>?_))
      by_cases e1:ob=j
      ·subst e1;simp only [bE,bC,D.i.injEq,gV,if_true,if_false,reduceIte];rfl
      ·have kR: ¬j=ob:=fun e=>e1 e.symm;by_cases e2:M=j
       ·subst e2;simp only [bE,bC,D.i.injEq,e1,gV,if_true,if_false,reduceIte];rfl
       ·have mL: ¬j=M:=fun e=>e2 e.symm
        simp only [bE,bC,D.i.injEq,e1,kR,e2,mL,if_false,reduceIte])
    |(refine .jump (hs _ (.inl ?_)); first |exact fc (by simp only [Kn.d,bX,cG])|exact fb (by simp only [Kn.d,bX,cG])|exact fc rfl|exact fb rfl))):StN op:=h
set_option maxHeartbeats 16000000 in
theorem amd:StM 12 (fun th m=>m.ow=th) (fun _ m=>{ m with ow:=-1 }):=ajM (op:=12) (pre:=fun th m=>m.ow=th) (new:=fun _ m=>{ m with ow:=-1 })
set_option maxHeartbeats 16000000 in
theorem alZ:StM 24 (fun _ m=>m.ow= -1) (fun th m=>{ m with ow:=th }):=ajM (op:=24) (pre:=fun _ m=>m.ow= -1) (new:=fun th m=>{ m with ow:=th })
end Go.As.Try
end
section
namespace Go.As.Try
open Go hiding Stat Spec shape
open Go.As
set_option maxRecDepth 100000
set_option linter.unusedSimpArgs false
set_option maxHeartbeats 8000000 in
theorem alY:DZ 25 5:=GD
set_option maxHeartbeats 8000000 in
theorem alX:DZ 26 6:=GD
end Go.As.Try
end
section
namespace Go.As.Try
open Go hiding Stat Spec shape
open Go.As
set_option maxRecDepth 100000
set_option linter.unusedSimpArgs false
set_option linter.unusedVariables false
set_option maxHeartbeats 16000000 in
theorem amc:StN 13:=ajL
set_option maxHeartbeats 16000000 in
theorem amb:StN 14:=ajL
end Go.As.Try
end
section
namespace Go.As.Try
open Go hiding Stat Spec shape
open Go.As
set_option maxRecDepth 100000
set_option linter.unusedSimpArgs false
set_option maxHeartbeats 8000000 in
theorem al9:DZ 16 6:=GD
set_option maxHeartbeats 8000000 in
theorem al4:DZ 21 8:=GD
end Go.As.Try
end
section
namespace Go.As.Try
open Go hiding Stat Spec shape
open Go.As
set_option maxRecDepth 100000
set_option linter.unusedSimpArgs false
set_option linter.unusedVariables false
section
variable {d0 d1 s z p p':D} {n:Nat} {ob M:Nat} {q' m':Kn}
theorem Mg (K:TW d0 s p n) (Y:z.l.length=s.l.length) (gb: ∀j:Nat,j≠ob->z.at (j:Int)=s.at (j:Int)) {o c dn g:Int} {r v:D} (T:Tg (z.at (ob:Int)) o c dn g r v) (hp:K7 p p' (ob:Int) q')
 (hk:nh (kd d0 (ob:Int)) (Nd d0 (ob:Int)) (n+1) q' o c dn g r v):TW d0 z p' (n+1):=fun j hj=>by
 by_cases h:j=ob
 ·subst h;exact⟨q',.inl (by rw [hp,an rfl]),_,_,_,_,_,_,T,hk⟩
 ·obtain⟨q,hq,o2,c2,Lg,g2,r2,v2,T2,k2⟩:=K j J;refine⟨q,?_,o2,c2,Lg,g2,r2,v2,by rw [gb j h]; exact T2,k2.mono J⟩;unfold yq at hq ⊢;rw [hp,ak J];exact hq
theorem Mf (K:TW d0 s p n) (Y:z.l.length=s.l.length) (gb: ∀j:Nat,j≠ob->j≠M->z.at (j:Int)=s.at (j:Int)) {o c dn g:Int} {r v:D} (T:Tg (z.at (ob:Int)) o c dn g r v) (hp:F? p p' (ob:Int) (M:Int) q' m')
 (hk:nh (kd d0 (ob:Int)) (Nd d0 (ob:Int)) (n+1) q' o c dn g r v) {o2 c2 Lg g2:Int} {r2 v2:D} (T2:Tg (z.at (M:Int)) o2 c2 Lg g2 r2 v2) (Bg:nh (kd d0 (M:Int)) (Nd d0 (M:Int)) (n+1) m' o2 c2 Lg g2 r2 v2):TW d0 z p' (n+1):=fun j hj=>by
 by_cases h:j=ob
 ·subst h;exact⟨q',.inl (by rw [hp,an rfl]),_,_,_,_,_,_,T,hk⟩
 ·by_cases Z:j=M
  ·subst Z;exact⟨m',.inl (by rw [hp,ak J,an rfl]),_,_,_,_,_,_,T2,Bg⟩
  ·obtain⟨q,hq,o3,c3,dn3,g3,r3,v3,T3,k3⟩:=K j J;refine⟨q,?_,o3,c3,dn3,g3,r3,v3,by rw [gb j h Z]; exact T3,k3.mono J⟩;unfold yq at hq ⊢;rw [hp,ak J,ak J];exact hq
end
section
variable {d0 d1 s z p es:D} {n i:Nat} {t op arg tries a oc:Int} {ob:Nat} {P:List Int->Prop} {o c dn g mo mm:Int} {r v:D} {o' c' gK g':Int} {r' v':D} {m:Option Int} {q:Kn}
theorem agi (hS:ng ((d0.at (ob:Int)).W 0).n ((d0.at (ob:Int)).W 2).n mm o c dn g r v) (hO:qb d0 ((d0.at (ob:Int)).W 0).n ((d0.at (ob:Int)).W 2).n) (mI:0<=op) (hk:kindOf op=((d0.at (ob:Int)).W 0).n) (h4:((d0.at (ob:Int)).W 0).n≠4)
 (T:Tg (s.at (ob:Int)) o c dn g r v) (kq:nh (kd d0 (ob:Int)) (Nd d0 (ob:Int)) n q o c dn g r v) (ha:dV .i64 arg) (t0:0<=t) (hn:n<=90000) (h25:op=25->0<=arg)
 (h:act ((d0.at (ob:Int)).W 2).n mo t op arg tries o c dn g r v= .res o' c' gK g' r' v' m a oc) (H:EvH d0 d1 es p i t op (ob:Int) a q)
 (fin: ∀(q':Kn) (p':D),K7 p p' (ob:Int) q'->nh (kd d0 (ob:Int)) (Nd d0 (ob:Int)) (n+1) q' o' c' gK g' r' v'->TW d0 z p' (n+1))
 (hs: ∀p':D,TW d0 z p' (n+1)->dw 23151 [enc es,(es.l.length:Int),((i+1:Nat):Int),enc d0,enc d1,enc p'] P):dw 23151 [enc es,(es.l.length:Int),(i:Int),enc d0,enc d1,enc p] P:=by
 have MC:=tQ mI hk hO.1;unfold kd Nd at kq fin;have hN: ∃N,((d0.at (ob:Int)).W 2).n=N:=⟨_,rfl⟩;rcases MC with ⟨e|e|e|e,e'⟩|⟨e|e|e|e,e'⟩|⟨e|e|e,e'⟩|⟨_,e'⟩|⟨e|e,e'⟩|⟨e|e,e'⟩|⟨e|e|e,e'⟩|⟨e|e,e'⟩|⟨e|e,e'⟩
 all_goals first |exact absurd e' h4|skip
 all_goals
  subst e;rw [e'] at hS hO kq fin
 ·obtain⟨q',k1,k2⟩:=ka1 (d0:=d0) hS hO kq T.hc ha t0 h;exact SS H e' k1 fun p' hp=>hs p' (fin q' p' hp k2)
 ·obtain⟨q',k1,k2⟩:=ka2 (d0:=d0) hS hO kq T.hc ha t0 h;exact ev2 H e' k1 fun p' hp=>hs p' (fin q' p' hp k2)
 ·obtain⟨q',k1,k2⟩:=ka3 (d0:=d0) hS hO kq T.hc ha t0 h;exact ev3 H e' k1 fun p' hp=>hs p' (fin q' p' hp k2)
 ·obtain⟨q',k1,k2⟩:=ka4 (d0:=d0) hS hO kq T.hc ha t0 h;exact ev4 H e' k1 fun p' hp=>hs p' (fin q' p' hp k2)
 ·obtain⟨q',k1,k2⟩:=ka5 (d0:=d0) hS hO kq T.hc ha t0 h;exact ev5 H e' k1 fun p' hp=>hs p' (fin q' p' hp k2)
 ·obtain⟨q',k1,k2⟩:=ka6 (d0:=d0) hS hO kq T.hc ha t0 h;exact ev6 H e' k1 fun p' hp=>hs p' (fin q' p' hp k2)
 ·obtain⟨q',k1,k2⟩:=ka7 (d0:=d0) hS hO kq T.hc ha t0 h;exact ev7 H e' k1 fun p' hp=>hs p' (fin q' p' hp k2)
 ·obtain⟨q',k1,k2⟩:=ka8 (d0:=d0) hS hO kq T.hc ha t0 h;exact ev8 H e' k1 fun p' hp=>hs p' (fin q' p' hp k2)
 ·obtain⟨q',k1,k2⟩:=ka9 (d0:=d0) hS hO kq T.hc ha t0 h;exact ev9 H e' k1 fun p' hp=>hs p' (fin q' p' hp k2)
 ·obtain⟨q',k1,k2⟩:=ak5 (d0:=d0) hS hO kq T.hc ha t0 h;exact amf H e' k1 fun p' hp=>hs p' (fin q' p' hp k2)
 ·obtain⟨q',k1,k2⟩:=ak4 (d0:=d0) hS hO kq T.hc ha t0 h;exact ame H e' k1 fun p' hp=>hs p' (fin q' p' hp k2)
 ·obtain⟨q',k1,k2⟩:=ak3 (d0:=d0) hS hO kq T.hc ha t0 J h;exact ama H e' k1 fun p' hp=>hs p' (fin q' p' hp k2)
 ·obtain⟨q',k1,k2⟩:=akU (d0:=d0) hS hO kq T.hc ha t0 (h25 rfl) T.hg h;exact alY H e' k1 fun p' hp=>hs p' (fin q' p' hp k2)
 ·obtain⟨q',k1,k2⟩:=ak2 (d0:=d0) hS hO kq T.hc ha t0 h;exact al9 H e' k1 fun p' hp=>hs p' (fin q' p' hp k2)
 ·obtain⟨q',k1,k2⟩:=akT (d0:=d0) hS hO kq T.hc ha t0 h;exact alX H e' k1 fun p' hp=>hs p' (fin q' p' hp k2)
 ·obtain⟨q',k1,k2⟩:=ak1 (d0:=d0) hS hO kq T.hc ha t0 h;exact al8 H e' k1 fun p' hp=>hs p' (fin q' p' hp k2)
 ·obtain⟨q',k1,k2⟩:=ak0 (d0:=d0) hS hO kq T.hc ha t0 h;exact al7 H e' k1 fun p' hp=>hs p' (fin q' p' hp k2)
 ·obtain⟨q',k1,k2⟩:=akZ (d0:=d0) hS hO kq T.hc ha t0 h;exact al6 H e' k1 fun p' hp=>hs p' (fin q' p' hp k2)
 ·obtain⟨q',k1,k2⟩:=akY (d0:=d0) hS hO kq T.hc ha t0 h;exact al5 H e' k1 fun p' hp=>hs p' (fin q' p' hp k2)
 ·obtain⟨q',k1,k2⟩:=akX (d0:=d0) hS hO kq T.hc ha t0 h;exact al4 H e' k1 fun p' hp=>hs p' (fin q' p' hp k2)
 ·obtain⟨q',k1,k2⟩:=akW (d0:=d0) hS hO kq T.hc ha t0 h;exact al3 H e' k1 fun p' hp=>hs p' (fin q' p' hp k2)
 ·obtain⟨q',k1,k2⟩:=akV (d0:=d0) hS hO kq T.hc ha t0 h;exact al0 H e' k1 fun p' hp=>hs p' (fin q' p' hp k2)
end
section
variable {d0 d1 s z p es:D} {n i:Nat} {t op arg tries a oc:Int} {ob M:Nat} {P:List Int->Prop} {o c dn g mo mm:Int} {r v:D} {o' c' gK g':Int} {r' v':D} {mx:Option Int} {q m:Kn} {o2 c2 Lg g2:Int} {r2 v2:D}
theorem agh (hN:((d0.at (ob:Int)).W 2).n=(M:Int)) (h4:((d0.at (ob:Int)).W 0).n=4) (ni:((d0.at (M:Int)).W 0).n=1) (M1:M<d0.l.length) (gV:M≠ob) (mI:op=12\/op=13\/op=14\/op=24)
 (kq:nh 4 (Nd d0 (ob:Int)) n q o c dn g r v) (hm:yq d0 p (M:Int) m) (km:nh 1 (Nd d0 (M:Int)) n m o2 c2 Lg g2 r2 v2) (hmo:op=12\/op=24->mo=o2) (hl2: -1<=o2) (t0:0<=t) (hn:n<=90000)
 (h:act (M:Int) mo t op arg tries o c dn g r v= .res o' c' gK g' r' v' mx a oc) (H:EvH d0 d1 es p i t op (ob:Int) a q)
 (ajH:mx=none->∀p':D,K7 p p' (ob:Int) q->nh 4 (Nd d0 (ob:Int)) (n+1) q o' c' gK g' r' v'->TW d0 z p' (n+1))
 (ajI:mx=none->∀p':D,F? p p' (ob:Int) (M:Int) q m->nh 4 (Nd d0 (ob:Int)) (n+1) q o' c' gK g' r' v'->TW d0 z p' (n+1))
 (ajG: ∀x:Int,mx=some x->∀(m':Kn) (p':D),F? p p' (ob:Int) (M:Int) q m'->nh 4 (Nd d0 (ob:Int)) (n+1) q o' c' gK g' r' v'->nh 1 (Nd d0 (M:Int)) (n+1) m' x c2 Lg g2 r2 v2->TW d0 z p' (n+1))
 (hs: ∀p':D,TW d0 z p' (n+1)->dw 23151 [enc es,(es.l.length:Int),((i+1:Nat):Int),enc d0,enc d1,enc p'] P):dw 23151 [enc es,(es.l.length:Int),(i:Int),enc d0,enc d1,enc p] P:=by
 have kn: ∀(o c dn g:Int) (r v:D),nh 4 (Nd d0 (ob:Int)) (n+1) q o c dn g r v:=fun o c dn g r v=>
  ⟨kq.en,by have:=kq.rl; omega,(by intro h; omega),(by intro h; omega),(by intro h; omega),(by intro h; omega),by have:=kq.cb; omega,(by intro h; omega),(by intro h; omega)⟩
 have rl2:m.rw.l.length<=100000:=by have:=km.rl; omega
 have k1: ∀x:Int,nh 1 (Nd d0 (M:Int)) (n+1) { m with ow:=x } x c2 Lg g2 r2 v2:=fun x=>
  ⟨km.en,by have:=km.rl; show m.rw.l.length<=n+1; omega,fun _=>rfl,(by intro h; omega),(by intro h; omega),(by intro h; omega),by have:=km.cb; show 0<=m.cm/\m.cm<=((n+1:Nat):Int); omega,(by intro h; omega),(by intro h; omega)⟩
 have how:=km.ow (.inl rfl);rcases mI with rfl|rfl|rfl|rfl
 ·simp only [act,Int.reduceEq,if_true,if_false,reduceIte] at h;split at h<;>simp only [Act.res.injEq,reduceCtorEq] at h;obtain⟨rfl,rfl,rfl,rfl,rfl,rfl,rfl,rfl,rfl⟩:=h;have:=hmo (.inl rfl);exact amd H h4 hN ni J J J hm km.en rl2 J fun p' hp=>hs p' (ajG _ rfl _ p' hp (kn ..) (k1 _))
 ·simp only [act,Int.reduceEq,if_true,if_false,reduceIte] at h;have hx:mx=none:=by split at h<;>simp only [Act.res.injEq] at h<;>exact h.2.2.2.2.2.2.1.symm
  exact amc H h4 hN ni J J J hm km.en rl2 fun p' hp=>hs p' (hp.elim (fun hp=>ajH hx p' hp (kn ..)) fun hp=>ajI hx p' hp (kn ..))
 ·simp only [act,Int.reduceEq,if_true,if_false,reduceIte,Act.res.injEq] at h;have hx:mx=none:=h.2.2.2.2.2.2.1.symm;exact amb H h4 hN ni J J J hm km.en rl2 fun p' hp=>hs p' (hp.elim (fun hp=>ajH hx p' hp (kn ..)) fun hp=>ajI hx p' hp (kn ..))
 ·simp only [act,Int.reduceEq,if_true,if_false,reduceIte] at h
  repeat' split at h
  all_goals simp only [Act.res.injEq,reduceCtorEq] at h
  obtain⟨rfl,rfl,rfl,rfl,rfl,rfl,rfl,rfl,rfl⟩:=h;have:=hmo (.inr rfl);exact alZ H h4 hN ni J J J hm km.en rl2 J fun p' hp=>hs p' (ajG _ rfl _ p' hp (kn ..) (k1 _))
end
set_option maxHeartbeats 4000000 in
theorem alW {d0 d1 es p:D} {i:Nat} {th ob a:Int} {P:List Int->Prop} (i0:i<es.l.length) (i1:es.l.length<=100000) (hY:es.at (i:Int)=dL [.i th,.i 27,.i ob,.i a,.i 0]) (t0:0<=th) (t1:th<(d1.l.length:Int)) (o0:0<=ob) (o1:ob<(d0.l.length:Int))
 (hs:dw 23151 [enc es,(es.l.length:Int),((i+1:Nat):Int),enc d0,enc d1,enc p] P):dw 23151 [enc es,(es.l.length:Int),(i:Int),enc d0,enc d1,enc p] P:=by
 have c1:(i:Int)<(es.l.length:Int):=J
 have c2: ¬(i:Int)<0:=J
 have w:=bO (n:=i) J;have c3: ¬th<0:=J
 have c5: ¬ob<0:=J
 refine dw.of ?_;rw [Ce];simp only [eN,zz,c1,c2,c3,t1,c5,o1,w,hY,zg,ay,nI,if_true,if_false,reduceIte];exact .jump hs
theorem W_ {x:D} {o c dn g o' c' gK g':Int} {r v r' v':D} (T:Tg x o c dn g r v) (T':Tg x o' c' gK g' r' v'):o=o'/\c=c'/\dn=gK/\g=g'/\r=r'/\v=v':=by have h:=T.is.symm.trans T'.is;simp only [bX,cG,D.p.injEq,D.i.injEq,and_true] at h;exact h
section
variable {d0 d1 s z p es:D} {N0 N1 n i:Nat} {t op obj arg tr e1 e2 e3 e4 e5 oc:Int} {P:List Int->Prop} (h0:Wd (.sl 3) d0) (U:Wd (.sl 4) d1) (G:Gs s N0) (hN0:N0<17592186043904) (mI:dV .u8 op) (ht:dV .i64 t) (ha:dV .i64 arg)
include h0 U G hN0 mI ht ha
theorem agj (R:K2 d0 d1 s t op obj arg tr z e1 e2 e3 e4 e5 oc) (vx:oc≠0) (Gz:Gs z N1) (K:TW d0 s p n) (hn:n<=90000) (hi:i<es.l.length) (Y:es.l.length<=100000) (he:es.at (i:Int)=dL [.i e1,.i e2,.i e3,.i e4,.i e5]) (h25:op=25->0<=arg)
 (hs: ∀p':D,TW d0 z p' (n+1)->dw 23151 [enc es,(es.l.length:Int),((i+1:Nat):Int),enc d0,enc d1,enc p'] P):dw 23151 [enc es,(es.l.length:Int),(i:Int),enc d0,enc d1,enc p] P:=by
 cases R with
 |no=>exact absurd rfl vx
 |vu A=> have hle:=(zH h0 U G J A.r).2.2;have o1:=A.o1;refine alW hi Y he A.t0 A.t1 A.o0 J (hs p fun j hj=>?_);obtain⟨q,hq,o,c,dn,g,r,v,T,k⟩:=K j hj;exact⟨q,hq,o,c,dn,g,r,v,T,k.mono J⟩
 |res A o c dn g r v o' c' gK g' r' v' m _ _ T h=>
  obtain⟨hC,ok,hle⟩:=zH h0 U G J A.r;have a0:=A.o0;have a1:=A.o1;obtain⟨ob,rfl⟩ : ∃j:Nat,obj=(j:Int):=⟨obj.toNat,J⟩;have GA:ob<s.l.length:=J
  have hO:=ok.2.2 _ (O2 (d:=d0) a0 J);have hS:=BC h0 U G J A.r a0 a1 T;obtain⟨q,hq,oq,cq,dq,gq,rq,vq,Tq,kq⟩:=K ob GA;obtain⟨rfl,rfl,rfl,rfl,rfl,rfl⟩:=W_ T Tq;have H:EvH d0 d1 es p i t op (ob:Int) e4 q:=⟨hi,Y,he,A.t0,A.t1,a0,J,hq,kq.en,by have:=kq.rl; omega⟩;have gS:=G.rows _ (aF GA)
  have hrv:r.l.length<=N0/\v.l.length<=N0:=by
   have e:s.l[ob]=dL [.i o,.i c,.i dn,.i g,r,v]:=by rw [<- bT GA]; exact T.is
   rw [e] at gS;exact gS
  have hK:=QF (M:=Mx d0 (ob:Int)) (mo:=Mo d0 s (ob:Int)) (op:=op) (tries:=tr) T (n:=N0) hrv.1 hrv.2 J ht ha;rw [h] at hK
  have W:(if gK=0 then (0:Int) else 1)=gK:=by rcases hK.2.2.1 with rfl|rfl<;>rfl
  have tB:=ED s (ob:Int) (Mx d0 (ob:Int)) (.res o' c' gK g' r' v' m e4 oc)
  have hzo:(gk s (ob:Int) (Mx d0 (ob:Int)) (.res o' c' gK g' r' v' m e4 oc)).at (ob:Int)=dL [.i o',.i c',.i gK,.i g',r',v']:=by refine Cl ?_;unfold gk;rw [bE,W];exact wv (by cases m with |none=>exact GA|some q=>rw [fh]; exact GA)
  have Tz:Tg ((gk s (ob:Int) (Mx d0 (ob:Int)) (.res o' c' gK g' r' v' m e4 oc)).at (ob:Int)) o' c' gK g' r' v':=⟨hzo,hK.1,hK.2.1,hK.2.2.1,hK.2.2.2.1,hK.2.2.2.2.1,hK.2.2.2.2.2.2.1⟩
  have Y7:m=none->∀j:Nat,j≠ob->(gk s (ob:Int) (Mx d0 (ob:Int)) (.res o' c' gK g' r' v' m e4 oc)).at (j:Int)=s.at (j:Int):=fun hm j hj=>by subst hm;have:=zK (s:=s) (obj:=(ob:Int)) (M:=Mx d0 (ob:Int)) (A:=.res o' c' gK g' r' v' none e4 oc) (k:=j) J (.inl rfl);rw [j5,j5,this]
  by_cases h4:((d0.at (ob:Int)).W 0).n=4
  ·obtain⟨m0,m1,m3⟩:=hO.2.2.2.2.2 h4;obtain⟨M,hM⟩ : ∃M:Nat,((d0.at (ob:Int)).W 2).n=(M:Int):=⟨((d0.at (ob:Int)).W 2).n.toNat,J⟩;have hMl:M<s.l.length:=J
   have gV:M≠ob:=fun e=>by rw [hM,e] at m3;omega
   obtain⟨km,hkm,o2,c2,Lg,g2,r2,v2,T2,k2⟩:=K M hMl;have ni:((d0.at (M:Int)).W 0).n=1:=by rw [<- hM]; exact m3
   have S2:=BC h0 U G J A.r (i:=(M:Int)) J J T2
   have alg:op=12\/op=13\/op=14\/op=24:=by have:=tQ mI.1 A.k hO.1;omega
   have hMx:Mx d0 (ob:Int)=(M:Int):=hM
   have hmo:Mo d0 s (ob:Int)=o2:=by show ((s.at ((d0.at (ob:Int)).W 2).n).W 0).n=o2;rw [hM,T2.is];rfl
   unfold kd at kq k2;rw [h4] at kq;rw [ni] at k2;rw [hMx] at h Tz Y7 tB hs
   have alj: ∀x:Int,m=some x->∀j:Nat,j≠ob->j≠M->(gk s (ob:Int) (M:Int) (.res o' c' gK g' r' v' m e4 oc)).at (j:Int)=s.at (j:Int):=fun x hx j hj hjM=>by have:=zK (s:=s) (obj:=(ob:Int)) (M:=(M:Int)) (A:=.res o' c' gK g' r' v' m e4 oc) (k:=j) J (.inr J);rw [j5,j5,this]
   have ak6:m=none->Tg ((gk s (ob:Int) (M:Int) (.res o' c' gK g' r' v' m e4 oc)).at (M:Int)) o2 c2 Lg g2 r2 v2:=fun hx=>by rw [Y7 hx M gV]; exact T2
   have hzM: ∀x:Int,m=some x->Tg ((gk s (ob:Int) (M:Int) (.res o' c' gK g' r' v' m e4 oc)).at (M:Int)) x c2 Lg g2 r2 v2:=fun x hx=>by
    subst hx
    have e:(gk s (ob:Int) (M:Int) (.res o' c' gK g' r' v' (some x) e4 oc)).at (M:Int)=dL [.i x,.i c2,.i Lg,.i g2,r2,v2]:=by refine Cl ?_;unfold gk;rw [bE,lg J,wv hMl,T2.is];rfl
    exact⟨e,hK.2.2.2.2.2.2.2.2.1 x rfl,T2.hc,T2.W,T2.hg,T2.hr,T2.hv⟩
   refine agh hM h4 ni J gV alg kq hkm k2 (fun _=>hmo) S2.1.2.1 A.t0 hn h H (fun hx p' hp kk=>?_) (fun hx p' hp kk=>?_) (fun x hx m' p' hp kk kk2=>?_) hs
   ·exact Mg K tB (Y7 hx) Tz hp (by unfold kd; rw [h4]; exact kk)
   ·exact Mf K tB (fun j hj _=>Y7 hx j hj) Tz hp (by unfold kd; rw [h4]; exact kk) (ak6 hx) (by unfold kd; rw [ni]; exact k2.mono J)
   ·exact Mf K tB (alj x hx) Tz hp (by unfold kd; rw [h4]; exact kk) (hzM x hx) (by unfold kd; rw [ni]; exact kk2)
  ·have hx:m=none:=by
    have MC:=tQ mI.1 A.k hO.1;have:=xF (M:=Mx d0 (ob:Int)) (mo:=Mo d0 s (ob:Int)) (th:=t) (op:=op) (arg:=arg) (tries:=tr) (o:=o) (c:=c) (dn:=dn) (g:=g) (r:=r) (v:=v) J J;rw [h] at this;exact this
   exact agi hS hO mI.1 A.k h4 T kq ha A.t0 hn h25 h H (fun q' p' hp kk=>Mg K tB (Y7 hx) Tz hp kk) hs
end
def R_ (l:List D):Prop:= ∀x∈l,∃a b c e f,x=dL [.i a,.i b,.i c,.i e,.i f]
section
variable {d0 d1 es:D} (h0:Wd (.sl 3) d0) (U:Wd (.sl 4) d1) (Np:Q? d1) (hw:R_ es.l) (Y:es.l.length<=90000)
include h0 U Np hw Y
theorem Hj: ∀(j i:Nat) (s k p:D),i+j=es.l.length->RS1 d0 d1 s k i->TW d0 s p i->(ek d0 d1 s k (es.l.drop i)).2.2=j->dw 23151 [enc es,(es.l.length:Int),(i:Int),enc d0,enc d1,enc p] (·= [1])
 |0,i,s,k,p,hi,R,K,hA=>by
  have c1: ¬(i:Int)<(es.l.length:Int):=J
  refine dw.of ?_;rw [Ce];simp only [eN,zz,c1];exact .out rfl
 |j+1,i,s,k,p,hi,R,K,hA=>by
  have dK:i<es.l.length:=J
  have Ff:es.l.drop i=es.l[i]::es.l.drop (i+1):=amX dK;obtain⟨th,op,ob,a,b,he⟩:=hw _ (aF dK);rw [Ff,ek] at hA;obtain⟨ys,hF,hy⟩:=uu (t:=th) (fF:=op) (gw:=ob) (ea:=a) (eb:=b) R.S J h0 U R.M R.G Np
  have hfo:MM d0 d1 s k es.l[i]=some ys:=by unfold MM;rw [he];simp only [zg,ay,nI];exact hF
  rw [hfo] at hA;rcases hy with rfl|⟨s',k',op',obj,arg,tr,oc,rfl,S',_,_,vx,T,M',G',fB,k1,k2,k3,h25⟩
  ·simp at hA
  ·simp only [bI,if_false,reduceIte,bD,aol] at hA;have hb:b=0:=by cases T<;>rfl
   subst hb;refine agj h0 U R.S.g J k1 fB k3 T vx S'.g K J dK J (by rw [bT dK]; exact he) h25 fun p' K'=>?_;exact Hj j (i+1) s' k' p' J ⟨S',M',G'⟩ K' hA
end
end Go.As.Try
end
section
namespace Go.As.Try
open Go hiding Stat Spec shape
open Go.As
set_option maxRecDepth 100000
set_option linter.unusedSimpArgs false
set_option linter.unusedVariables false
set_option linter.unusedSectionVars false
section
variable {d0 d1:D} (h0:Wd (.sl 3) d0) (U:Wd (.sl 4) d1)
include h0 U
theorem Fm:GG (fu d1):=fun j hj=>by
 unfold fu at hj ⊢;split at hj
 ·simp [D.l] at hj
 ·rename_i hz;rw [ak hz];rw [bE,bw] at hj
  have e:(dL (d1.l.map jQ)).at (j:Int)=jQ d1.l[j]:=by refine Cl ?_;rw [bE,bp,aW hj];rfl
  rw [e];unfold jQ;simp only [zg,ay,nI];omega
theorem UO (ok:mF d0 d1) (G:Gs (ee d0) 0):TW d0 (ee d0) (.i 0) 0:=fun i hi=>by
 have Y:(ee d0).l.length=d0.l.length:=by
  unfold ee;split
  ·rename_i h;rw [h];rfl
  ·rw [bE,bw]
 rw [Y] at hi;have hz: ¬d0.l.length=0:=J
 have hY:(ee d0).at (i:Int)=iN d0.l[i]:=by refine Cl ?_;unfold ee;rw [ak hz,bE,bp,aW hi];rfl
 obtain⟨o,c,dn,g,r,v,T,_⟩:=Zh G (i:=(i:Int)) J J;have hO:=ok.2.2 _ (aF hi);refine⟨kn0 (kd d0 (i:Int)) (Nd d0 (i:Int)),.inr ⟨rfl,rfl⟩,o,c,dn,g,r,v,T,?_⟩;rw [hY] at T;have e:=T.is;unfold iN at e;have e:=yZ e;simp only [List.cons.injEq,and_true,D.i.injEq] at e;obtain⟨rfl,hc,rfl,rfl,rfl,rfl⟩:=e;unfold kd Nd;rw [bT hi];obtain⟨q1,q2,q3,q4,q5,q6⟩:=hO;generalize (d0.l[i].W 0).n=k at *;generalize (d0.l[i].W 2).n=N at *;unfold kn0;refine⟨.inl rfl,az 0,fun _=>rfl,fun _=> ⟨[],rfl,.nil⟩,fun h=>?_,fun h=>?_,⟨anE 0,anE 0⟩,fun _=> ⟨rfl,.inl ⟨rfl,J,rfl⟩⟩,fun _=>rfl⟩
 ·show (if k=3\/k=9 then N else 0)=c;exact hc
 ·have:=q5 h;rw [ak J] at hc;subst hc;exact⟨by show (0:Int)=0*N+0; omega,J,J⟩
theorem G9 (Np:Q? d1) {es:D} (hw:R_ es.l) (Y:es.l.length<=90000) (hC:L 450 [enc d0,enc d1]=some [0]) (ok:mF d0 d1) (M:MR d0 d1 (ee d0) (fu d1)) (hA:(ek d0 d1 (ee d0) (fu d1) es.l).2.2=es.l.length):L 23150 [enc d0,enc d1,enc es]=some [1]:=by
 have S:=sH h0 U ok
 have res:dw 23150 [enc d0,enc d1,enc es] (·= [1]):=by refine dw.of ?_;rw [Z9];simp only [Xd,zz,hC];exact .jump (Hj h0 U Np hw Y es.l.length 0 _ _ _ J ⟨S,M,Fm h0 U⟩ (UO h0 U ok S.g) (by rw [anq]; exact hA))
 obtain⟨ys,h,rfl⟩:=res;exact h
end
end Go.As.Try
end
section
namespace Go.As.Try
open Go hiding Stat Spec shape
open Go.As
set_option maxRecDepth 100000
def EqN (a b:D):Prop:=a.l.length=b.l.length/\∀(i:Nat),(a.at (i:Int)).n=(b.at (i:Int)).n
structure KEq (x y:D):Prop where
 c0:(x.W 0).n=(y.W 0).n
 c1:EqN (x.W 1) (y.W 1)
 c2:(x.W 2).n=(y.W 2).n
 c3:(x.W 3).n=(y.W 3).n
 c4:(x.W 4).n=(y.W 4).n
 c5:(x.W 5).n=(y.W 5).n
theorem EqN.ae7 (a:D):EqN a a:=⟨rfl,fun _=>rfl⟩
theorem KEq.ae7 (a:D):KEq a a:=⟨rfl,EqN.ae7 _,rfl,rfl,rfl,rfl⟩
def YD (k:D):Prop:=k.l.length<=140737488351232/\∀i:Nat,((k.at (i:Int)).W 1).l.length<=140737488351232
section
variable {s k s' k':D} (Y:k.l.length=k'.l.length) (hq: ∀i:Nat,KEq (k.at (i:Int)) (k'.at (i:Int))) (hb:YD k)
include Y hq hb
theorem zD: ∀(j i:Nat),i+j=k.l.length->L 2051 [(k.l.length:Int),(i:Int),enc s,enc k,enc s',enc k']=some [1]
 |0,i,hi=>by
  have c1: ¬(i:Int)<(k.l.length:Int):=J
  rw [bP,a!];simp only [Xg,zz,c1,cN]
 |j+1,i,hi=>by
  have c1:(i:Int)<(k.l.length:Int):=J
  have c2: ¬((i:Int)<0):=J
  have c3:(i:Int)<(k'.l.length:Int):=J
  have b1:=hb.1;have w:=bO (n:=i) J;have ih:=zD j (i+1) J;have q:=hq i;obtain⟨q1,q2⟩:=q.c1;have b2:=hb.2 i
  have lp: ∀(j' i':Nat),i'+j'=((k.at (i:Int)).W 1).l.length->L 2052 [(k.l.length:Int),(i:Int),(((k.at (i:Int)).W 1).l.length:Int),(i':Int),enc s,enc k,enc s',enc k',((k.at (i:Int)).W 0).n,enc ((k.at (i:Int)).W 1),((k.at (i:Int)).W 2).n,((k.at (i:Int)).W 3).n,((k.at (i:Int)).W 4).n,((k.at (i:Int)).W 5).n,((k'.at (i:Int)).W 0).n,enc ((k'.at (i:Int)).W 1),((k'.at (i:Int)).W 2).n,((k'.at (i:Int)).W 3).n,((k'.at (i:Int)).W 4).n,((k'.at (i:Int)).W 5).n]=some [1]:=by
   intro j'
   induction j' with
   |zero=>
    intro i' hi';have d1: ¬(i':Int)<(((k.at (i:Int)).W 1).l.length:Int):=J
    rw [bP,a_];simp only [Xf,zz,d1,w,bL,ih]
   |succ j' ihj=>
    intro i' hi';have d1:(i':Int)<(((k.at (i:Int)).W 1).l.length:Int):=J
    have d2: ¬((i':Int)<0):=J
    have d3:(i':Int)<(((k'.at (i:Int)).W 1).l.length:Int):=J
    have w':=bO (n:=i') J;have h':=ihj (i'+1) J;have hn:=q2 i';rw [bP,a_];simp only [Xf,zz,d1,d2,d3,w',hn,bL];exact h'
  have l0:=lp ((k.at (i:Int)).W 1).l.length 0 J;have q1':(((k.at (i:Int)).W 1).l.length:Int)=(((k'.at (i:Int)).W 1).l.length:Int):=J
  simp only [q.c0,q.c2,q.c3,q.c4,q.c5,q1',aQ] at l0;rw [bP,a!];simp only [Xg,zz,c1,c2,c3,q.c0,q.c2,q.c3,q.c4,q.c5,q1',bL];exact l0
theorem Uq (hs:L 200 [enc s,enc s']=some [1]):L 2050 [enc s,enc k,enc s',enc k']=some [1]:=by
 have h:=zD (s:=s) (s':=s') Y hq hb k.l.length 0 J;have vy:(k.l.length:Int)=(k'.l.length:Int):=J
 rw [aQ] at h;rw [bP,adE];simp only [acn,zz,hs,bI,vy,bL]
 grind
end
theorem Up {s:D} (hlen:s.l.length<=140737488351232) (hr:Ji s):L 200 [enc s,enc s]=some [1]:=by obtain⟨c,U,_,h3⟩:=Uo s s hlen hr;rw [U,h3.2 ⟨rfl,fun k U Z _=> ⟨rfl,rfl,Iff.rfl,rfl,⟨rfl,fun _ _ _ _=>rfl⟩,⟨rfl,fun _ _ _ _=>rfl⟩⟩⟩]
theorem Sx.akR {s k:D} {n:Nat} (S:Sx s k n):YD k:=by
 refine⟨S.wk.len,fun i=>?_⟩;by_cases hi:i<k.l.length
 ·obtain⟨a,lc,w,o,g,tr,T⟩:=gM S.wk _ (aF hi);rw [bT hi,T.is,eT];exact T.Y.len
 ·rw [j5,anD J];show ((D.i 0).W 1).l.length<=_;simp [D.W,D.l]
theorem Sx.same {s k:D} {n:Nat} (S:Sx s k n) (hn:n<17592186043904):L 2050 [enc s,enc k,enc s,enc k]=some [1]:=
 Uq rfl (fun _=>KEq.ae7 _) S.akR (Up S.g.wd.len (fun x hx=>by have:=S.g.rows x hx; omega))
theorem Jp {x n:Int} (h:0<n) (hb:n<=140737488351232):L 2100 [x,n]=some [zM x n]:=by
 have U:=Lv (x:=x) h;have c1: ¬n<1:=J
 have w:IntKind.i64.wrap (x.tmod n+n)=x.tmod n+n:=me J J;rw [bP,adD];unfold zM;have dr: ∀{ρ:Nat->Int} (a b:V),(V.rem a b).den ρ=(a.den ρ).tmod (b.den ρ):=fun _ _=>rfl;by_cases hz:x.tmod n<0
 ·simp only [Xe,zz,c1,dr,hz,w,cN,if_true]
 ·simp only [Xe,zz,c1,dr,hz,cN,if_false]
theorem Ec (d1:D):(fu d1).l.length=d1.l.length:=by
 unfold fu;split
 ·rename_i h; rw [h]; rfl
 ·rw [bE,bw]
theorem On (d0 x:D) (m:Nat) (h:RM d0 x):Snd x (iN x) m:=by obtain⟨ys,U,Z⟩:=Ug (x.W 0).n (x.W 2).n (enc (x.W 1)) (enc (x.W 3)) (x.W 4).n m (fun e=>(h.2.2.2.1 (.inl e)).1) h.2.2.2.2.1;rw [Z] at U;exact U
theorem EP {d0 d1:D} (h0:Wd (.sl 3) d0) (U:Wd (.sl 4) d1) (hC:L 450 [enc d0,enc d1]=some [0]) (ok:mF d0 d1):MR d0 d1 (ee d0) (fu d1):=by
 have S:=sH h0 U ok
 have Y:(ee d0).l=d0.l.map iN:=by
  unfold ee;split
  ·rename_i h;rw [am5 h];rfl
  ·rw [bE]
 have hk:(fu d1).l=d1.l.map jQ:=by
  unfold fu;split
  ·rename_i h;rw [am5 h];rfl
  ·rw [bE]
 refine⟨?_,Ec d1,fun i hi=>?_⟩
 ·obtain⟨b,hb,_,hi⟩:=kT h0 U (S.g.kr J).rows;rw [hb,hi.2 ⟨hC,by rw [Y,bw],fun q hq=>?_⟩];have Sl:q<d0.l.length:=by rw [Y,bw] at hq; exact hq
  have e:(ee d0).l[q]?=some (iN d0.l[q]):=by rw [Y,bp,aW Sl];rfl
  rw [aW hq] at e;rw [Option.some.inj e];exact On d0 _ _ (ok.2.2 _ (aF _))
 ·have hi':i<d1.l.length:=by rw [Ec] at hi; exact hi
  have e:(fu d1).l[i]?=some (jQ d1.l[i]):=by rw [hk,bp,aW hi'];rfl
  rw [aW hi] at e;rw [Option.some.inj e];refine⟨anE _,Int.natCast_nonneg _,?_,anE _,by show (0:Int)<=_; omega,.inl ⟨rfl,rfl,rfl⟩⟩;show ((if ((d1.l[i]).W 1).l.length=0 then (.i 2:D) else dL (List.replicate ((d1.l[i]).W 1).l.length (.i 0))).l.length:Int)=_;split
  ·rename_i h; rw [h]; rfl
  ·rw [bE,anu]
end Go.As.Try
end
section
namespace Go.As.Try
open Go hiding Stat Spec shape
open Go.As
set_option maxRecDepth 100000
set_option linter.unusedSimpArgs false
set_option linter.unusedVariables false
set_option linter.unusedSectionVars false
structure TF (d0 d1:D) (l:List D) (s k:D) (n:Nat):Prop where
 le:n<=l.length
 af: ∀d:D,d.l=l->L 2150 [enc d0,enc d1,enc d]=some [enc s,enc k,(n:Int)]
 ag: ∀d:D,d.l=l.take n->L 2150 [enc d0,enc d1,enc d]=some [enc s,enc k,(n:Int)]
 sm:L 2050 [enc s,enc k,enc s,enc k]=some [1]
 rt:L 1500 [enc d0,enc d1,enc s,enc k]=some [1]
 so: ∀d:D,d.l=l.take n->L 23150 [enc d0,enc d1,enc d]=some [1]
section
variable {d0 d1:D} (h0:Wd (.sl 3) d0) (U:Wd (.sl 4) d1) (hC:L 450 [enc d0,enc d1]=some [0]) (ok:mF d0 d1)
include h0 U hC ok
theorem A8 (d:D) (W:d.l.length<=17592186000000):L 2150 [enc d0,enc d1,enc d]=some [enc (ek d0 d1 (ee d0) (fu d1) d.l).1,enc (ek d0 d1 (ee d0) (fu d1) d.l).2.1,((ek d0 d1 (ee d0) (fu d1) d.l).2.2:Int)]:=by have hB:=HO U hC ok;have ih:=NH h0 U d W d.l.length 0 _ _ J (sH h0 U ok);rw [anq,aL] at ih;rw [bP,adC];simp only [acm,zz,hB,bL];exact ih
theorem ahO (Np:Q? d1) {l:List D} (hw:R_ l) (Y:l.length<=80000): ∃s k n,TF d0 d1 l s k n/\∀m:Nat,(ek d0 d1 (ee d0) (fu d1) (l.take m)).2.2=min n m:=by
 have M:=EP h0 U hC ok;have S:=sH h0 U ok;obtain⟨m,hm,R⟩:=A? h0 U Np l _ _ 0 ⟨S,M,Fm h0 U⟩ J;have hle:=B_ d0 d1 l (ee d0) (fu d1);have hs:=NF d0 d1 l (ee d0) (fu d1);refine⟨_,_,(ek d0 d1 (ee d0) (fu d1) l).2.2,⟨hle,fun d W=>?_,fun d W=>?_,R.S.same J,?_,fun d W=>?_⟩,fun m=>NB d0 d1 l _ _ m⟩
 ·have:=A8 h0 U hC ok d (by rw [W]; omega);rw [W] at this;exact this
 ·have:=A8 h0 U hC ok d (by rw [W,bk]; omega);rw [W,hs] at this;exact this
 ·obtain⟨ys,hL,b,rfl,hb⟩:=HM h0 U (R.S.g.kr J).rows U.len (k:=_);rcases hb with ⟨_,h⟩|⟨rfl,_⟩
  ·exact absurd R.M h
  ·exact hL
 ·refine G9 h0 U Np (by rw [W]; exact fun x hx=>hw x (am1 hx)) (by rw [W,bk]; omega) hC ok M ?_;rw [W,hs,bk];omega
end
theorem Py {a b:List D} (ha:R_ a) (hb:R_ b):R_ (a++b):=fun x hx=>by
 rcases am2.1 hx with h|h
 ·exact ha x h
 ·exact hb x h
theorem acJ:((3:Int)=2)=False:=ae
theorem ZA {e1 e2 e3 e4 e5 oc:Int}:R_ (Le e1 e2 e3 e4 e5 oc):=fun x hx=>by
 unfold Le at hx;split at hx
 ·simp only [aoz] at hx;exact⟨_,_,_,_,_,hx⟩
 ·simp at hx
theorem Zt {d0 d1:D} (h0:Wd (.sl 3) d0) (U:Wd (.sl 4) d1) (hC:L 450 [enc d0,enc d1]=some [0]) (ok:mF d0 d1):Fr d0 d1 (ee d0) (fu d1) 0 [] (ee d0) (fu d1):=by have S:=sH h0 U ok;have M:=EP h0 U hC ok;refine⟨S,M,az _,fu d1,.nil,S,M,fun u hu=>?_⟩;obtain⟨x,R⟩:=M.thr S J h0 U (t:=(u:Int)) J J;exact⟨x,x,0,x.tr,R.hk,R.hk,.zero _,az _⟩
def Sa (d0 d1:D) (ys:List Int):Prop:= ∃e:D,ys= [enc e]/\(e= .i 1\/L 450 [enc d0,enc d1]=some [0]/\e=dL e.l/\e.l.length<=80/\R_ e.l/\(ek d0 d1 (ee d0) (fu d1) e.l).2.2=e.l.length)
section
variable {d0 d1:D} (h0:Wd (.sl 3) d0) (U:Wd (.sl 4) d1) (hC:L 450 [enc d0,enc d1]=some [0]) (ok:mF d0 d1) (Np:Q? d1) {q:D} (hn:0<d1.l.length)
include h0 U hC ok Np hn
theorem OF {es:List D} {i:Nat} {s k:D} (F:Fr d0 d1 (ee d0) (fu d1) i es s k) (hi:i<=80) (he:R_ es):Sa d0 d1 [enc (dL es)]:=by obtain⟨_,R,_⟩:=F.fr;have hll:=F.ll;refine⟨dL es,rfl,.inr ⟨hC,by rw [bE],by rw [bE]; omega,by rw [bE]; exact he,by rw [bE,aal R]⟩⟩
theorem Ek: ∀(j i:Nat) (s k:D) (es:List D),i+j=80->Fr d0 d1 (ee d0) (fu d1) i es s k->R_ es->dw 23302 [enc q,80,0,enc (dL es),(i:Int),enc d0,enc d1,enc s,enc k] (Sa d0 d1)
 |0,i,s,k,es,hi,F,he=>by
  have c2: ¬(i:Int)<80:=J
  refine dw.of ?_;rw [KD];simp only [Br,zz,c2];exact .ite (fun _=> .out (OF h0 U hC ok Np hn F J he)) fun _=> .out (OF h0 U hC ok Np hn F J he)
 |j+1,i,s,k,es,hi,F,he=>by
  have hll:=F.ll;by_cases dK:i<q.l.length
  ·have c1:(i:Int)<(q.l.length:Int):=J
   have c2:(i:Int)<80:=J
   have c3: ¬(i:Int)<0:=J
   have c5:(0:Int)<(d1.l.length:Int):=J
   have c4:((es.length:Nat):Int)<3518437208882:=J
   have w:=bO (n:=i) J;have hp:=Jp (x:=(q.at (i:Int)).n) (n:=(d1.l.length:Int)) J (by have:=U.len; omega);have pr:=BG (x:=(q.at (i:Int)).n) (n:=(d1.l.length:Int)) J;obtain⟨s',k',e1,e2,e3,e4,e5,oc,hL,H⟩:=Ei F.S J h0 U (zM (q.at (i:Int)).n (d1.l.length:Int));have F':=SI h0 U J F pr.1 pr.2 H;have ih:=Ek j (i+1) s' k' _ J F' (Py he ZA);refine dw.of ?_;rw [KD];by_cases o2:oc=2
   ·subst o2;rw [show Le e1 e2 e3 e4 e5 2= [Bi e1 e2 e3 e4 e5] from rfl] at ih;simp only [Br,zz,c1,c2,c3,c4,c5,w,hp,hL,bE];refine .jump ?_;exact ih
   ·by_cases o3:oc=3
    ·subst o3;rw [show Le e1 e2 e3 e4 e5 3= [Bi e1 e2 e3 e4 e5] from rfl] at ih;simp only [Br,zz,c1,c2,c3,c4,c5,w,hp,hL,acJ,bE];refine .jump ?_;exact ih
    ·rw [show Le e1 e2 e3 e4 e5 oc= [] from by unfold Le; rw [ak J],am8] at ih;simp only [Br,zz,c1,c2,c3,c4,c5,w,hp,hL,o2,o3];refine .jump ?_;exact ih
  ·have c1: ¬(i:Int)<(q.l.length:Int):=J
   refine dw.of ?_;rw [KD];simp only [Br,zz,c1];exact .out (OF h0 U hC ok Np hn F J he)
theorem LD: ∀(j i:Nat) (s k:D),i+j=80->Fr d0 d1 (ee d0) (fu d1) i [] s k->dw 23301 [enc q,80,0,(i:Int),enc d0,enc d1,enc s,enc k] (Sa d0 d1)
 |0,i,s,k,hi,F=>by
  have c2: ¬(i:Int)<80:=J
  refine dw.of ?_;rw [Cc];simp only [vF,zz,c2];exact .ite (fun _=> .out ⟨_,rfl,.inl rfl⟩) fun _=> .out ⟨_,rfl,.inl rfl⟩
 |j+1,i,s,k,hi,F=>by
  by_cases dK:i<q.l.length
  ·have c1:(i:Int)<(q.l.length:Int):=J
   have c2:(i:Int)<80:=J
   have c3: ¬(i:Int)<0:=J
   have c5:(0:Int)<(d1.l.length:Int):=J
   have w:=bO (n:=i) J;have hp:=Jp (x:=(q.at (i:Int)).n) (n:=(d1.l.length:Int)) J (by have:=U.len; omega);have pr:=BG (x:=(q.at (i:Int)).n) (n:=(d1.l.length:Int)) J;obtain⟨s',k',e1,e2,e3,e4,e5,oc,hL,H⟩:=Ei F.S J h0 U (zM (q.at (i:Int)).n (d1.l.length:Int));have F':=SI h0 U J F pr.1 pr.2 H;rw [ax] at F';refine dw.of ?_;rw [Cc];by_cases o2:oc=2
   ·subst o2;have ih:=Ek h0 U hC ok Np (q:=q) hn j (i+1) s' k' _ J F' ZA;rw [show Le e1 e2 e3 e4 e5 2= [Bi e1 e2 e3 e4 e5] from rfl] at ih;simp only [vF,zz,c1,c2,c3,c5,w,hp,hL];refine .jump ?_;exact ih
   ·by_cases o3:oc=3
    ·subst o3;have ih:=Ek h0 U hC ok Np (q:=q) hn j (i+1) s' k' _ J F' ZA;rw [show Le e1 e2 e3 e4 e5 3= [Bi e1 e2 e3 e4 e5] from rfl] at ih;simp only [vF,zz,c1,c2,c3,c5,w,hp,hL,acJ];refine .jump ?_;exact ih
    ·rw [show Le e1 e2 e3 e4 e5 oc= [] from by unfold Le; rw [ak J]] at F';have ih:=LD j (i+1) s' k' J F';simp only [vF,zz,c1,c2,c3,c5,w,hp,hL,o2,o3];refine .jump ?_;exact ih
  ·have c1: ¬(i:Int)<(q.l.length:Int):=J
   refine dw.of ?_;rw [Cc];simp only [vF,zz,c1];exact .out ⟨_,rfl,.inl rfl⟩
end
theorem XZ {d0 d1 q:D} (h0:Wd (.sl 3) d0) (U:Wd (.sl 4) d1):dw 23300 [enc d0,enc d1,enc q,80] (Sa d0 d1):=by
 obtain⟨ys,hC,c,rfl,hc,pf⟩:=tp h0 U;obtain⟨ys',L?,c',rfl,_,hP⟩:=za h0 U;obtain rfl:c=c':=by rw [hC] at L?; simpa using L?
 refine dw.of ?_;rw [Z8];by_cases hc0:c=0
 ·subst hc0;have ok:=(pf rfl).1;have hB:=HO U hC ok;simp only [Ot,zz,hB];refine .jump ?_;by_cases hn:d1.l.length=0
  ·have c5: ¬(0:Int)<(d1.l.length:Int):=J
   refine dw.of ?_;rw [Cc];simp only [vF,zz,c5];exact .ite (fun _=> .out ⟨_,rfl,.inl rfl⟩) fun _=> .out ⟨_,rfl,.inl rfl⟩
  ·exact LD h0 U hC ok (Yu (hP rfl).2) J 80 0 _ _ J (Zt h0 U hC ok)
 ·have hB:=UL hC hc0;simp only [Ot,zz,hB];refine .jump ?_;refine dw.of ?_;rw [Cc];simp only [vF,zz,hc0];refine .ite (fun _=> .ite (fun _=> .out ⟨_,rfl,.inl rfl⟩) fun _=> .out ⟨_,rfl,.inl rfl⟩) fun _=> .out ⟨_,rfl,.inl rfl⟩
section
variable {d0 d1:D} (h0:Wd (.sl 3) d0) (U:Wd (.sl 4) d1) (Np:Q? d1)
include h0 U Np
theorem TC: ∀(l:List D) (s k:D) (n:Nat),RS1 d0 d1 s k n->n+l.length<70000->(ek d0 d1 s k l).2.2=l.length->∀e∈l,0<=(e.W 2).n/\(e.W 2).n<(d0.l.length:Int)
 |[],s,k,n,R,hn,h=>fun e he=>by simp at he
 |e::l,s,k,n,R,hn,h=>by
  simp only [aR] at h hn;obtain⟨ys,hF,hy⟩:=uu (t:=(e.W 0).n) (fF:=(e.W 1).n) (gw:=(e.W 2).n) (ea:=(e.W 3).n) (eb:=(e.W 4).n) R.S J h0 U R.M R.G Np;have hfa:MM d0 d1 s k e=some ys:=hF;rcases hy with rfl|⟨s1,k1,_,_,_,_,_,rfl,S1,_,_,_,_,M1,G1,_⟩
  ·rw [ek,hfa] at h;simp at h
  ·rw [ek,hfa] at h;simp only [bI,if_false,bD,aol] at h;obtain⟨x,y,j,op,obj,arg,tr,oc,Ra,ni,hj,hL,ho,hq,k1',k2',k3',fB,vx,A⟩:=J6 R.S J h0 U hF;obtain⟨B0,e0,_⟩:=vD h0 U R.S.g J R.S.g J fB k1' k2' k3' A vx R.M.1 rfl rfl (fun _=>rfl);have ac:=wV h0 U R.S.g J k1' A vx;have hsl:s.l.length=d0.l.length:=(MR.code h0 U (R.S.g.kr J).rows R.M).2;have o0:=ac.o0;have o1:=ac.o1;intro e' xm;rcases aH.1 xm with rfl|xm
   ·exact⟨J,J⟩
   ·exact TC l s1 k1 (n+1) ⟨S1,M1,G1⟩ J h e' xm
end
theorem AF (a b c e f a' b' c' e' f':Int) :
 dL (eV (dL (eV (dL (eV (dL (eV (dL (eV (Bi a b c e f).l 0 (.i a'))).l 1 (.i b'))).l 2 (.i c'))).l 3 (.i e'))).l 4 (.i f'))=Bi a' b' c' e' f':=rfl
theorem aaa {l:List D} {i:Nat} (hi:i+1<l.length) (a b:D) (ha:l[i]=a) (hb:l[i+1]=b): ∃p q:List D,l=p++a::b::q/\(l.set i b).set (i+1) a=p++b::a::q:=by
 subst ha hb;refine⟨l.take i,l.drop (i+2),?_,?_⟩
 ·have e1:l.drop i=l[i]::l.drop (i+1):=amX J;have e2:l.drop (i+1)=l[i+1]::l.drop (i+1+1):=amX J
  conv=>lhs; rw [<- anb i l,e1,e2]
 ·refine anz fun j=>?_;simp only [aoO,anW];by_cases U:j<i
  ·rw [ak J,ak J,aov (by rw [bk]; omega),List.getElem?_take_of_lt U]
  ·have gv:(l.take i).length=i:=by rw [bk]; omega
   rw [aoc J,gv];by_cases Z:j=i
   ·subst Z;rw [ak J,an rfl,an J,Nat.sub_self];rfl
   ·by_cases h3:j=i+1
    ·subst h3;rw [an rfl,an hi,show i+1-i=1 by omega];rfl
    ·rw [ak J,ak J];obtain⟨m,rfl⟩ : ∃m,j=i+2+m:=⟨j-(i+2),J⟩;rw [show i+2+m-i=m+2 by omega];show _=(l.drop (i+2))[m]?;rw [ann]
theorem OE {d0 d1 q:D} {K:Int} (h0:Wd (.sl 3) d0) (U:Wd (.sl 4) d1) (hq:Wd (.sl 0) q):L 23350 [enc d0,enc d1,enc q,K]=some [1]:=by
 have res:dw 23350 [enc d0,enc d1,enc q,K] (·= [1]):=by
  obtain⟨ys,hG,b,rfl,hb⟩:=U5 (d0:=d0) U;refine dw.of ?_;rw [Z7];by_cases sv:b=0
  ·subst sv;obtain⟨ys,hR,e,rfl,he⟩:=XZ (q:=q) h0 U;rcases he with rfl|⟨hC,hde,hel,hev,kP⟩
   ·have c:((((D.i 1).l.length:Nat):Int)<2):=by simp [D.l]
    simp only [vE,zz,hG,hR,c];exact .out rfl
   by_cases Z:e.l.length<2
   ·have c:((e.l.length:Nat):Int)<2:=J
    simp only [vE,zz,hG,hR,c];exact .out rfl
   have c2: ¬((e.l.length:Nat):Int)<2:=J
   obtain⟨ys,hC2,c,rfl,_,pf⟩:=tp h0 U;obtain⟨ys',L?,c',rfl,_,hP⟩:=za h0 U;have e1:c=0:=by rw [hC] at hC2; simpa using hC2.symm
   have e2:c'=0:=by rw [hC] at L?; simpa using L?.symm
   subst e1 e2;have ok:=(pf rfl).1;have Np:=Yu (hP rfl).2;have S:=sH h0 U ok;have M:=EP h0 U hC ok;have R:RS1 d0 d1 (ee d0) (fu d1) 0:=⟨S,M,Fm h0 U⟩;have w0:IntKind.i64.wrap ((e.l.length:Int)-1)=((e.l.length-1:Nat):Int):=by rw [me J J]; omega
   have pk:=Jp (x:=K) (n:=((e.l.length-1:Nat):Int)) J J;have pr:=BG (x:=K) (n:=((e.l.length-1:Nat):Int)) J;obtain⟨i,hi⟩ : ∃i:Nat,zM K ((e.l.length-1:Nat):Int)=(i:Int):=⟨(zM K ((e.l.length-1:Nat):Int)).toNat,J⟩;rw [hi] at pk pr;have w1:=bO (n:=i) J;have c3: ¬(i:Int)<0:=J
   have c4:(i:Int)<(e.l.length:Int):=J
   have c5: ¬((i+1:Nat):Int)<0:=J
   have c6:((i+1:Nat):Int)<(e.l.length:Int):=J
   have c7:((e.l.length:Nat):Int)<3518437208883:=J
   obtain⟨a0,a1,a2,a3,a4,ha⟩:=hev _ (aF (l:=e.l) (n:=i) J);obtain⟨b0,b1,b2,b3,b4,hb⟩:=hev _ (aF (l:=e.l) (n:=i+1) J);have hA:e.at (i:Int)=Bi a0 a1 a2 a3 a4:=by rw [bT J]; exact ha
   have hB:e.at ((i+1:Nat):Int)=Bi b0 b1 b2 b3 b4:=by rw [bT J]; exact hb
   have hA0:((e.at (i:Int)).W 0).n=a0:=by rw [hA]; rfl
   have hA1:((e.at (i:Int)).W 1).n=a1:=by rw [hA]; rfl
   have hA2:((e.at (i:Int)).W 2).n=a2:=by rw [hA]; rfl
   have hA3:((e.at (i:Int)).W 3).n=a3:=by rw [hA]; rfl
   have hA4:((e.at (i:Int)).W 4).n=a4:=by rw [hA]; rfl
   have hB0:((e.at ((i+1:Nat):Int)).W 0).n=b0:=by rw [hB]; rfl
   have hB1:((e.at ((i+1:Nat):Int)).W 1).n=b1:=by rw [hB]; rfl
   have hB2:((e.at ((i+1:Nat):Int)).W 2).n=b2:=by rw [hB]; rfl
   have hB3:((e.at ((i+1:Nat):Int)).W 3).n=b3:=by rw [hB]; rfl
   have hB4:((e.at ((i+1:Nat):Int)).W 4).n=b4:=by rw [hB]; rfl
   have UZ:=TC h0 U Np e.l _ _ 0 R J kP;have oa:=UZ _ (aF (l:=e.l) (n:=i) J);have ob:=UZ _ (aF (l:=e.l) (n:=i+1) J);rw [ha] at oa;rw [hb] at ob;have oa:0<=a2/\a2<(d0.l.length:Int):=oa;have ob:0<=b2/\b2<(d0.l.length:Int):=ob;have c8: ¬a2<0:=J
   have c9:=oa.2;have c10: ¬b2<0:=J
   have c11:=ob.2;obtain⟨p,r,Y,hsw⟩:=aaa (l:=e.l) (i:=i) J _ _ ha hb
   have UW:dL (eV (dL (eV e.l (i:Int) (Bi b0 b1 b2 b3 b4))).l ((i+1:Nat):Int) (Bi a0 a1 a2 a3 a4))=dL (p++Bi b0 b1 b2 b3 b4::Bi a0 a1 a2 a3 a4::r):=by rw [bE,oD,oD];exact congrArg dL hsw
   have gS:(dL (eV e.l (i:Int) (Bi b0 b1 b2 b3 b4))).at ((i+1:Nat):Int)=Bi b0 b1 b2 b3 b4:=by rw [j5,bE,gz,ak J,<- j5,hB]
   have tf:a0≠b0->Dis d0 a2 b2->∃s k:D,L 2150 [enc d0,enc d1,enc e]=some [enc s,enc k,((e.l.length:Nat):Int)]/\L 2150 [enc d0,enc d1,enc (dL (p++Bi b0 b1 b2 b3 b4::Bi a0 a1 a2 a3 a4::r))]=some [enc s,enc k,((e.l.length:Nat):Int)]/\L 2050 [enc s,enc k,enc s,enc k]=some [1]/\L 23150 [enc d0,enc d1,enc (dL (p++Bi b0 b1 b2 b3 b4::Bi a0 a1 a2 a3 a4::r))]=some [1]:=by
    intro gb Nl;have hlen:(p++Bi b0 b1 b2 b3 b4::Bi a0 a1 a2 a3 a4::r).length=e.l.length:=by rw [Y]; simp
    have Mr:=kP;rw [Y] at Mr;have hs:=NC h0 U Np (a:=Bi a0 a1 a2 a3 a4) (b:=Bi b0 b1 b2 b3 b4) gb Nl p r _ _ 0 R (by have:=congrArg List.length Y; simp only [a8] at this; omega) Mr;rw [<- Y] at hs;obtain⟨s,k,n,F,hF⟩:=ahO h0 U hC ok Np hev J
    have hn:n=e.l.length:=by have:=hF e.l.length;rw [anI,kP] at this;have:=F.le;omega
    subst hn;have a1':=A8 h0 U hC ok e J;have a2':=A8 h0 U hC ok (dL (p++Bi b0 b1 b2 b3 b4::Bi a0 a1 a2 a3 a4::r)) (by rw [bE]; omega);rw [bE,hs] at a2';have a3':=F.af e rfl;refine⟨s,k,a3',?_,F.sm,?_⟩
    ·rw [a2',<- a1',a3']
    ·refine G9 h0 U Np ?_ (by rw [bE]; omega) hC ok M ?_
     ·rw [bE];have ajh:=hev;rw [Y] at ajh;intro x hx;refine ajh x ?_;simp only [am2,aH] at hx ⊢
      grind
     ·rw [bE,hs,kP,hlen]
   by_cases ka:kd d0 a2=4
   ·by_cases kb:kd d0 b2=4
    ·simp only [vE,zz,hG,hR,c2,w0,pk,w1,c3,c4,c5,c6,hA0,hA1,hA2,hA3,hA4,hB0,hB1,hB2,hB3,hB4,c8,c9,c10,c11,ka,kb];refine .ite (fun _=> .out rfl) fun t1=> .ite (fun _=> .out rfl) fun t2=> .ite (fun _=> .out rfl) fun t3=> .ite (fun _=> .out rfl) fun t4=> .ite (fun _=> .out rfl) fun t5=>?_;obtain⟨s,k,q1,q2,q3,q4⟩:=tf t1 ⟨t2,by unfold vn; rw [an kb]; exact t3,by unfold vn; rw [an ka]; exact t4,by unfold vn; rw [an ka,an kb]; exact t5⟩;simp only [hA,hB,gS,AF,UW,c7,q1,q2,q3,q4,zz,bI];exact .out rfl
    ·simp only [vE,zz,hG,hR,c2,w0,pk,w1,c3,c4,c5,c6,hA0,hA1,hA2,hA3,hA4,hB0,hB1,hB2,hB3,hB4,c8,c9,c10,c11,ka,kb];refine .ite (fun _=> .out rfl) fun t1=> .ite (fun _=> .out rfl) fun t2=> .ite (fun _=> .out rfl) fun t4=>?_;obtain⟨s,k,q1,q2,q3,q4⟩:=tf t1 ⟨t2,by unfold vn; rw [ak kb]; exact t2,by unfold vn; rw [an ka]; exact t4,by unfold vn; rw [an ka,ak kb]; exact t4⟩;simp only [hA,hB,gS,AF,UW,c7,q1,q2,q3,q4,zz,bI];exact .out rfl
   ·by_cases kb:kd d0 b2=4
    ·simp only [vE,zz,hG,hR,c2,w0,pk,w1,c3,c4,c5,c6,hA0,hA1,hA2,hA3,hA4,hB0,hB1,hB2,hB3,hB4,c8,c9,c10,c11,ka,kb];refine .ite (fun _=> .out rfl) fun t1=> .ite (fun _=> .out rfl) fun t2=> .ite (fun _=> .out rfl) fun t3=>?_;obtain⟨s,k,q1,q2,q3,q4⟩:=tf t1 ⟨t2,by unfold vn; rw [an kb]; exact t3,by unfold vn; rw [ak ka]; exact t2,by unfold vn; rw [ak ka,an kb]; exact t3⟩;simp only [hA,hB,gS,AF,UW,c7,q1,q2,q3,q4,zz,bI];exact .out rfl
    ·simp only [vE,zz,hG,hR,c2,w0,pk,w1,c3,c4,c5,c6,hA0,hA1,hA2,hA3,hA4,hB0,hB1,hB2,hB3,hB4,c8,c9,c10,c11,ka,kb];refine .ite (fun _=> .out rfl) fun t1=> .ite (fun _=> .out rfl) fun t2=>?_;obtain⟨s,k,q1,q2,q3,q4⟩:=tf t1 ⟨t2,by unfold vn; rw [ak kb]; exact t2,by unfold vn; rw [ak ka]; exact t2,by unfold vn; rw [ak ka,ak kb]; exact t2⟩;simp only [hA,hB,gS,AF,UW,c7,q1,q2,q3,q4,zz,bI];exact .out rfl
  ·simp only [vE,zz,hG,sv];exact .out rfl
 obtain⟨ys,h,rfl⟩:=res;exact h
end Go.As.Try
end
section
namespace Go.Proofs.YtopneoeampkonacGreatDoor.fnSystemSwaps
open Go hiding Stat
open Go.As Go.As.Try Go.Proofs Go.RowKit Go.ChangeShapes Go.WideShapes Go.ChangeAt
set_option maxRecDepth 100000
theorem aa7:te Tryz.prog Yi 8 25=some [.sl 3,.sl 4]:=ad
theorem aa6:te Tryz.prog Yi 8 26=some [.sl 0]:=ad
theorem agf:te Tryz.prog Yi 8 3=some [.int .i64]:=ad
theorem Ga {H:Type} {enc:TypeId×Value->H} {Z':World} {t:TypeId} {v:Value} {d:DataW H} {p:List MemPlace} {GU:List CK} (hf:te Tryz.prog Yi 8 t=some GU) (h:DataW.Trod enc Tryz.prog Z' 0 (fun _=>true) true t v d p) (hw:(d.weights Tryz.prog t).all (·<=reachBytes)=true) :
 ∃ds,Rs (N4 Z') Z'.heap GU ds v.cells.toList:=by
 obtain⟨fuel,hx⟩:=h;exact Jk aaB fuel t 8 GU v.cells.toList (d,p) hf hx hw
theorem aiK:23350∈S.Dd 3:=by
 have h:S.Dd 3= [23350]:=ad
 rw [h];simp
theorem u_ (H:Type) (enc:TypeId×Value->H) (Z':World) (base:Nat) (args:Array Value) (ds gs:List (DataW H)) (before:List MemPlace)
 (GP: ∀(j:Nat) t v,Tryz.f3.params[j]?=some t->args[j]?=some v->Value.okWide Tryz.prog Z' .any base t v)
 (hW:DataW.Whole enc Tryz.prog Tryz.f3.params.toList Rows.systemSwapsSpec.vars false Z' args.toList ds gs before)
 (iR:(DataW.weightsEach Tryz.prog (Tryz.f3.params.toList++ []) (ds++gs)).all (·<=reachBytes)=true) (zk:Z'.ShapedOpen Tryz.prog) :
 Calls Tryz.prog 3 args Z' fun e W'=> ∃v,e= .returned v/\Rows.systemSwapsSpec.post enc Tryz.prog Tryz.f3 false true false false Z' args v W':=by
 have hW':=hW;obtain⟨p,q,hA0,hV,rfl,hfz,Aj⟩:=hW;have hA:DataW.TrodAll enc Tryz.prog Z' 0 (fun _=>true) true Tryz.f3.params.toList args.toList ds p:=hA0;rw [Tryz.params3] at hA GP iR;obtain⟨v0,vs0,d0,ds0,p0,q0,acZ,rfl,rfl,h0,r0⟩:=trodAll_cons hA;obtain⟨v1,WC,d1,ds1,p1,q1,rfl,rfl,rfl,U,r1⟩:=trodAll_cons r0;obtain⟨v2,vs2,d2,ds2,p2,q2,rfl,rfl,rfl,Z,r2⟩:=trodAll_cons r1;obtain⟨rfl,rfl,rfl⟩:=trodAll_nil r2;obtain rfl:args= #[v0,v1,v2]:=by cases args; simp_all
 obtain⟨rfl,rfl⟩:=trodVars_none hV;clear hA0;simp only [am8] at hW';have gv: ∀x∈p0++(p1++p2),x.block<Z'.heap.size:=fun x hx=>by simpa using hW'.lt x (by simpa using hx)
 have alp: ∀x∈p0,x.block<Z'.heap.size:=fun x hx=>gv x (aoP _ hx);have alo: ∀x∈p1,x.block<Z'.heap.size:=fun x hx=>gv x (aok _ (aoP _ hx));have aln: ∀x∈p2,x.block<Z'.heap.size:=fun x hx=>gv x (aok _ (aok _ hx))
 have afD:(d0.weights Tryz.prog 25).all (·<=reachBytes)=true/\(d1.weights Tryz.prog 26).all (·<=reachBytes)=true/\(d2.weights Tryz.prog 3).all (·<=reachBytes)=true:=by have:(DataW.weightsEach Tryz.prog [25,26,3] [d0,d1,d2]).all (·<=reachBytes)=true:=iR;simp only [DataW.weightsEach,aoj,aw] at this;exact⟨this.1,this.2.1,this.2.2.1⟩
 obtain⟨es0,R0⟩:=Ga aa7 h0 afD.1;obtain⟨es1,R1⟩:=Ga aa6 U afD.2.1;obtain⟨es2,R2⟩:=Ga agf Z afD.2.2;obtain⟨cs0,rfl,_⟩:=okWide_struct Tryz.underlying25 (GP 0 25 v0 rfl rfl);have e0:(Value.agg cs0).cells.toList=cs0.toList:=rfl;obtain⟨ad1,ik,abB,rfl⟩:=okWide_slice Tryz.underlying26 (GP 1 26 v1 rfl rfl);have e1:(Value.slice ad1 ik abB).cells.toList= [.slice ad1 ik abB]:=rfl;obtain⟨z2,rfl⟩:=okWide_int Tryz.underlying3 (GP 2 3 v2 rfl rfl);have e2:(Value.int .i64 z2).cells.toList= [.int .i64 z2]:=rfl;rw [e0] at R0;rw [e1] at R1;rw [e2] at R2
 match es0,alF:cs0.toList,R0 with
 |[x0,x1],[u0,u1],.cons r0_ w0 (.cons r1_ w1 .nil)=>
  obtain rfl:cs0= #[u0,u1]:=by rw [<- Array.toArray_toList (xs:=cs0),alF]
  match es1,R1 with
  |[x2],.cons r2_ w2 .nil=>
   match es2,R2 with
   |[x3],.cons r3_ w3 .nil=>
    obtain⟨n3,rfl,h3_⟩:=w3.i;have q3:vk (N4 Z') Z'.heap (.int .i64) n3 (.int .i64 z2):=by cases r3_; rfl
    have hL:=(OE (K:=n3) w0 w1 w2);refine (v? (g:=3) (j:=23350) (e:=(akn abU 80).ent) aiK ad rfl rfl hL zk (vals:=[.agg [u0,u1].toArray,.slice ad1 ik abB,.int .i64 z2]) (fl:=[u0,u1,.slice ad1 ik abB,.int .i64 z2]) (.agg _ [u0,u1] rfl (.one _ _ (.one _ _ .nil))) ⟨_,_,_,_,rfl,rfl,Gd r0_,_,_,_,_,rfl,rfl,Gd r1_,_,_,_,_,rfl,rfl,Gd r2_,_,_,_,_,rfl,rfl,q3,rfl,rfl⟩).mono fun e W' ⟨he,hb⟩=>?_;subst he;exact⟨_,rfl,⟨_,_,_,[],_,[],hW',trodAll_mk1 (shut_bool Tryz.underlying4 _),trodAll_mk3 (Below.trod laidOut ad (of_decide_eq_true ad) h0 hb alp) (Below.trod laidOut ad (of_decide_eq_true ad) U hb alo) (Below.trod laidOut ad (of_decide_eq_true ad) Z hb aln),rfl,hb.frame _,fun h=>by cases h⟩⟩
abbrev Re:Array Value:=#[.agg #[.slice none 0 0,.slice none 0 0],.slice none 0 0,.int .i64 0]
theorem YI (os:Os):laidMet Tryz.prog Rows.systemSwapsRow.laid ((BQ os).forCall (fun _ _=>0) ⟨#[],Re,[]⟩).memory:=
 laidMet_of_run' 8 ad ad
theorem reads (os:Os) {H:Type} (enc:TypeId×Value->H): ∃places,DataW.whole enc Tryz.prog ((BQ os).forCall (fun _ _=>0) ⟨#[],Re,[]⟩).memory Tryz.f3.params.toList [] false Re.toList 8=some ([.agg [.nil,.nil],.nil,.lit (.int .i64 0)],[],places):=
 ⟨[],ad⟩
set_option maxHeartbeats 400000 in
theorem lifted (os:Os) (started:os.Started) (H:Type) (enc:TypeId×Value->H) (F:Stop.Interp) :
 ReturnsInHanded {} Tryz.checked os 3 .any ((OpenSpec.ofChange Rows.systemSwapsSpec).preRow enc Tryz.prog Tryz.f3 Rows.systemSwapsRow.domain false Rows.systemSwapsRow.laid) (((OpenSpec.ofChange Rows.systemSwapsSpec).at F).post enc Tryz.prog Tryz.f3 false true false false):=by
 obtain⟨places,hx⟩:=reads os enc
 refine returnsInHanded_of_row (C:=Tryz.checked) (s:=OpenSpec.ofChange Rows.systemSwapsSpec) Try.own started ad Tryz.func3
  (witness_row_at (enc:=enc) (C:=Tryz.checked) false (BQ os) Re rfl ad ad ad
   (OpenSpec.preRow_of_cond 8 hx ad (fun k hk=>by cases hk) ad (YI os))) ?_
 intro Z' base args ds gs before GP hW _ _ iR _ zk _;exact u_ H enc Z' base args ds gs before GP hW iR zk
theorem iD {a b:Bool} (U:a=true) (Z:b=true):(a&&b)=true:=by rw [U,Z]; rfl
theorem closed:joinedFacts Tryz.pinned.checked.prog 3 Tryz.f3 (OpenSpec.ofChange Rows.systemSwapsSpec).bare Rows.systemSwapsRow=true:=(iD (iD (iD (iD (iD (iD (iD (iD (iD (iD (iD (iD (iD (iD (iD (iD (iD (iD (iD (iD (iD (iD (iD (iD (iD (iD (iD (iD (iD (iD (iD ad ad) ad) ad) ad) ad) ad) ad) ad) ad) ad) ad) ad) ad) ad) ad) ad) ad) ad) ad) ad) ad) ad) ad) ad) ad) ad) ad) ad) ad) ad) ad)
theorem said:Rows.SystemSwapsSaid:=
 OpenClaim.holds_of_cond 3 Tryz.f3 rfl rfl rfl rfl rfl rfl rfl ⟨rfl,rfl,rfl,rfl,rfl⟩ rfl rfl rfl rfl rfl ad Tryz.func3 closed
  (of_decide_eq_true ad) (by unfold Func.isWrapper; first |(rw [an (by decide +kernel)]; kernel_rfl)|(rw [ak (by decide +kernel)]; exact⟨rfl,rfl⟩))
  (fun os started H enc _ F=>by rw [OpenClaim.pre_eq_preRow]; exact lifted os started H enc F)
theorem plain (f:FuncId) (fn:Func) (hf:Tryz.pinned.checked.prog.funcNamed "amanuensis/amanuensislaw14.SystemSwaps" = some f) (vz:Tryz.pinned.checked.prog.funcs[f]?=some fn) :
 false=Tryz.pinned.checked.prog.looks []/\∀(j:Nat) t,fn.params[j]?=some t->Tryz.pinned.checked.prog.wantsStandIn t=false:=by
 obtain rfl:f=3:=Option.some.inj ((show Tryz.prog.funcNamed "amanuensis/amanuensislaw14.SystemSwaps" = some 3 by kernel_rfl).symm.trans hf) |>.symm;obtain rfl:fn=Tryz.f3:=(Option.some.inj (Tryz.func3.symm.trans vz)).symm;refine⟨ad,fun j t ht=>?_⟩;rw [Tryz.params3] at ht;have hm:=aoD ht;simp only [List.mem_toArray,aH,am6,or_false] at hm;rcases hm with rfl|rfl|rfl
 all_goals exact (by kernel_rfl:Tryz.prog.wantsStandIn _=false)
theorem card:Rows.SystemSwapsCardSaid:=
 Claim7.holds_tied_plain_at .later [] _ _ _ _ said (fun _ h=>by cases h) ad (fun _ h=>by cases h) systemSwaps_row_tie rfl ⟨rfl,rfl⟩ ad rfl plain ad
end Go.Proofs.YtopneoeampkonacGreatDoor.fnSystemSwaps
end

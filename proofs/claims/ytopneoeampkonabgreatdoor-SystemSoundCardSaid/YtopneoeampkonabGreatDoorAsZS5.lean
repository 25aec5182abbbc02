/-
  Proved: the given card of the law SystemSound: whatever the input, the call returns true and each argument reads afterwards as it did. Conditions: those of the given row alone (its listed package-level variables start as the program's text lays them; each string, slice and map that is handed in lies within a process's addresses).
-/
import Derived.Test.YtopneoeampkonabGreatDoorAsZS4
set_option linter.unusedSectionVars false
set_option linter.unusedVariables false
set_option linter.unusedSimpArgs false
section
namespace Go.As.Try
open Go hiding Stat Spec shape
open Go.As
set_option maxRecDepth 100000
theorem U1 {d0:D} (W:d0.l.length<=64) (hn:0<d0.l.length):L 301 [enc d0,(d0.l.length:Int)]=some [enc (dL (d0.l.map iS))]:=by
 have e0:=F1 d0 W (d0.l.length-1) 1 [iS (d0.l[0]'hn)] J rfl
 have e1:[iS (d0.l[0]'hn)]++(d0.l.drop 1).map iS=d0.l.map iS:=by
  conv=>rhs; rw [<- amP (l:=d0.l),amr hn]
  rfl
 rw [e1] at e0;have a0:d0.at 0=d0.l[0]'hn:=bV (i:=0) hn;have c1:(0:Int)<(d0.l.length:Int):=J
 have key: ∀q:Int,q=(if (((d0.l[0]'hn)).hd 0).n=3\/((d0.l[0]'hn).hd 0).n=9 then ((d0.l[0]'hn).hd 2).n else 0)->enc (dL [iS (d0.l[0]'hn)])=enc (.p (.p (.i (-1)) (.p (.i q) (.p (.i 0) (.p (.i 0) (.p (.i 1) (.p (.i 1) (.i 0))))))) (.i 0)):=fun q hq=>by rw [hq]; rfl
 have k:ei (df L (low [enc d0,(d0.l.length:Int)])) TJ= .jump 302 [enc (dL [iS (d0.l[0]'hn)]),enc d0,(d0.l.length:Int),1]:=by
  by_cases h3:((d0.l[0]'hn).hd 0).n=3
  ·rw [key _ (by rw [ak (.inl h3)])];simp only [TJ,zz,c1,a0,jr,aw,h3,dL]
  ·by_cases h9:((d0.l[0]'hn).hd 0).n=9
   ·rw [key _ (by rw [ak (.inr h9)])];simp only [TJ,zz,c1,a0,jr,aw,ah h3,ak h9,dL]
   ·rw [key 0 (by rw [ah J])];simp only [TJ,zz,c1,a0,jr,aw,ah h3,ah h9,dL]
 rw [bM,af0];exact (congrArg (fin L) k).trans e0
theorem o_ {d0 d1:D} (hc:L 450 [enc d0,enc d1]=some [0]) (W:d0.l.length<=64) (hn:0<d0.l.length):L 300 [enc d0,enc d1]=some [enc (dL (d0.l.map iS))]:=by
 have k:ei (df L (low [enc d0,enc d1])) P'= .jump 301 [enc d0,(d0.l.length:Int)]:=by refine bW [.eq (a0 450 [.dK 0,.dK 1]) (.lit 1),.eq (rr 450 [.dK 0,.dK 1] 0) (.lit 0)] [] (ju 301 [.dK 0,ln (.dK 0)]) (by simp only [zz,hc]) aa ?_;simp only [lX,List.map,bQ,gj,Nat.reduceLT,bL,bO,bC]
 rw [bM,aaK];exact (congrArg (fin L) k).trans (U1 W hn)
theorem n? {d0 d1:D} {c:Int} (hc:L 450 [enc d0,enc d1]=some [c]) (h:c≠0\/d0.l.length=0):L 300 [enc d0,enc d1]=some [enc (.i 1)]:=by
 by_cases h0:c=0
 ·subst h0;have hz:d0.l.length=0:=h.resolve_left (fun h=>h rfl)
  have k:ei (df L (low [enc d0,enc d1])) P'= .jump 301 [enc d0,0]:=by refine bW [.eq (a0 450 [.dK 0,.dK 1]) (.lit 1),.eq (rr 450 [.dK 0,.dK 1] 0) (.lit 0)] [] (ju 301 [.dK 0,ln (.dK 0)]) (by simp only [zz,hc]) aa ?_;simp only [lX,List.map,bQ,gj,Nat.reduceLT,bL,bO,bC,hz];rfl
  have k1:ei (df L (low [enc d0,0])) TJ= .out [enc (.i 1)]:=by refine bW [] [.lt (.lit 0) (.dK 1)] (ou [.eD (.i 1)]) (by simp only [zz]<;>omega) aa rfl
  rw [bM,aaK];refine (congrArg (fin L) k).trans ?_;show L 301 [enc d0,0]=_;rw [bM,af0];exact congrArg (fin L) k1
 ·have k:ei (df L (low [enc d0,enc d1])) P'= .out [enc (.i 1)]:=by
   refine bW [.eq (a0 450 [.dK 0,.dK 1]) (.lit 1)] [.eq (rr 450 [.dK 0,.dK 1] 0) (.lit 0)] (ou [.eD (.i 1)]) (by simp only [zz,hc]<;>omega) aa rfl
  rw [bM,aaK];exact congrArg (fin L) k
structure Gs (s:D) (n:Nat):Prop where
 wd:Wd (.sl 7) s
 rows: ∀x∈s.l,(x.hd 4).l.length<=n/\(x.hd 5).l.length<=n
theorem Gs.kS {s:D} {n:Nat} (h:Gs s n) (hn:n<17592186044415):kS s:=fun x hx=>by have:=h.rows x hx; omega
theorem Gs.mono {s:D} {n m:Nat} (h:Gs s n) (hm:n<=m):Gs s m:=⟨h.wd,fun x hx=>by have:=h.rows x hx; omega⟩
theorem GK {l:List D} (h: ∀x∈l,wU x) (hn:l≠[]) (W:l.length<=1759218604390):Wd (.sl 7) (dL l):=by
 have e:(l.map fun x=>x.l).map dL=l:=by
  rw [amU]
  conv=>rhs; rw [<- List.map_id l]
  apply anc;intro x hx;obtain⟨o,c,d,g,r,v,rfl,_⟩:=h x hx;rfl
 rw [<- e];refine .many 7 [.int .i64,.int .i64,.bool,.int .i64,.sl 0,.sl 0] _ rfl (by simpa using hn) (by have:te 7=80:=rfl; rw [this,bu]; omega) (fun r hr=>?_) fun r hr j d c U Z=>?_
 ·obtain⟨x,hx,rfl⟩:=bd.1 hr;obtain⟨o,c,d,g,r,v,rfl,_⟩:=h x hx;rfl
 ·obtain⟨x,hx,rfl⟩:=bd.1 hr;obtain⟨o,c',d',g,r,v,rfl,ho,hc,hd,hg,hr,hv⟩:=h x hx;rw [bD] at U
  match j with
  |0=>simp at U Z; subst U Z; exact .int _ _ ho
  |1=>simp at U Z; subst U Z; exact .int _ _ hc
  |2=>
   simp at U Z; subst U Z;rcases hd with rfl|rfl
   ·exact .bool false
   ·exact .bool true
  |3=>simp at U Z; subst U Z; exact .int _ _ hg
  |4=>simp at U Z; subst U Z; exact hr
  |5=>simp at U Z; subst U Z; exact hv
  |j+6=>simp at U
theorem Tg.mM {x:D} {o c dn g:Int} {r v:D} (T:Tg x o c dn g r v):wU x:=⟨o,c,dn,g,r,v,T.is,T.ho,T.hc,T.hd,T.hg,T.hr,T.hv⟩
theorem vA {l:List D} {z:Int} {y x:D} (h:x∈fI l z y):x∈l\/x=y:=by
 unfold fI at h
 grind
theorem lq {l:List D} {z:Int} {y:D} {k:Nat} (h:(k:Int)≠z):(fI l z y)[k]?=l[k]?:=by
 unfold fI
 grind
theorem vR {l:List D} {k:Nat} {y:D} (h:k<l.length):(fI l (k:Int) y)[k]?=some y:=by rw [sH,List.getElem?_set,ak rfl,ak h]
theorem O6 {s:D} {n:Nat} (G:Gs s n) {z:Int} {y:D} (hy:wU y) (h4:(y.hd 4).l.length<=n) (h5:(y.hd 5).l.length<=n) (hn:0<s.l.length):Gs (dL (fI s.l z y)) n:=by
 have ht:=uK G.wd hn;refine⟨GK (fun x hx=>?_) (fun he=>?_) (by rw [fY]; exact ht.kS),fun x hx=>?_⟩
 ·rcases vA hx with h|rfl
  ·exact G.wd.mM x h
  grind
 ·have:=fY s.l z y
  grind
 ·rw [bD] at hx;rcases vA hx with h|rfl
  ·exact G.rows x h
  grind
theorem Eg (s:D) (obj M:Int) (A:Act):(py s obj M A).l.length=s.l.length:=by
 cases A with
 |om=>rfl
 |xq=>rfl
 |res o c dn g r v m a oc=>
  unfold py;rw [bD,fY]
  cases m with
  |none=>rfl
  |some q=>exact fY _ _ _
theorem QY {s:D} {n:Nat} (G:Gs s n) {obj M:Int} {A:Act} (hA:Gc (n+1) A) (ho0:0<=obj) (ho1:obj<(s.l.length:Int)) (hM:Vc A\/0<=M/\M<(s.l.length:Int)):Gs (py s obj M A) (n+1):=by
 have G1:=G.mono (amz n)
 cases A with
 |om=>exact G1
 |xq=>exact G1
 |res o c dn g r v m a oc=>
  obtain⟨U,Z,h3,h4,h5,h6,h7,h8,h9,_⟩:=hA
  have hd:(if dn=0 then (0:Int) else 1)=dn:=by rcases h3 with rfl|rfl<;>rfl
  have hy:wU (dL [.i o,.i c,.i (if dn=0 then 0 else 1),.i g,r,v]):=⟨o,c,_,g,r,v,rfl,U,Z,by rw [hd]; exact h3,h4,h5,h7⟩
  cases m with
  |none=>exact O6 G1 hy h6 h8 J
  |some q=>
   have hM:0<=M/\M<(s.l.length:Int):=hM.resolve_left (fun h=>by simp [Vc] at h);obtain⟨k,rfl⟩ : ∃k:Nat,M=(k:Int):=⟨M.toNat,J⟩;have hk:k<s.l.length:=J
   obtain⟨o',c',d',g',r',v',he,q1,q2,q3,q4,q5,q6⟩:=G.wd.mM _ (aG hk);have hrw:=G1.rows _ (aG hk);rw [he] at hrw;have hz:dL (fI (s.at (k:Int)).l 0 (.i q))=dL [.i q,.i c',.i d',.i g',r',v']:=by rw [bV hk,he]; rfl
   have G2:Gs (dL (fI s.l (k:Int) (dL (fI (s.at (k:Int)).l 0 (.i q))))) (n+1):=by rw [hz];exact O6 G1 ⟨q,c',d',g',r',v',rfl,h9 q rfl,q2,q3,q4,q5,q6⟩ hrw.1 hrw.2 J
   have:=O6 (z:=obj) G2 hy h6 h8 (by rw [bD,fY]; omega);rw [bD] at this;exact this
theorem Eh {s:D} {obj M:Int} {A:Act} {k:Nat} (h:(k:Int)≠obj) (hM:Vc A\/(k:Int)≠M):(py s obj M A).l[k]?=s.l[k]?:=by
 cases A with
 |om=>rfl
 |xq=>rfl
 |res o c dn g r v m a oc=>
  unfold py;rw [bD,lq h]
  cases m with
  |none=>rfl
  |some q=> have hM:(k:Int)≠M:=hM.resolve_left (fun h=>by simp [Vc] at h);exact lq hM
def evA (th op obj:Int):Act->List Int
 | .om=>[0,0,0,0,0,0]
 | .xq=>[th,27,obj,IntKind.i64.wrap op,0,2]
 | .res _ _ _ _ _ _ _ a oc=>[th,op,obj,a,0,oc]
theorem Dg (s:D) (th op obj M:Int) (A:Act):Er s th op obj M A=enc (py s obj M A)::evA th op obj A:=by cases A<;>rfl
theorem z6:((2:Int)=1)=False/\((4:Int)=3)=False/\((5:Int)=3)=False/\((5:Int)=4)=False/\((6:Int)=3)=False/\((6:Int)=4)=False/\((6:Int)=5)=False/\((7:Int)=3)=False/\((7:Int)=4)=False/\((7:Int)=5)=False/\((7:Int)=6)=False:=ad
structure KT where
 a:Int
 lc:D
 w:Int
 o:Int
 g:Int
 tr:Int
abbrev KT.d (x:KT):D:=dL [.i x.a,x.lc,.i x.w,.i x.o,.i x.g,.i x.tr]
structure Cd (d0 d1:D):Prop where
 h0:Wd (.sl 3) d0
 U:Wd (.sl 4) d1
 ok:mB d0 d1
 ins: ∀x∈d1.l,acd d0 x
theorem MR.code {d0 d1 s k:D} (h0:Wd (.sl 3) d0) (U:Wd (.sl 4) d1) (hr:Be s) (M:MR d0 d1 s k):Cd d0 d1/\s.l.length=d0.l.length:=by obtain⟨b,hb,_,hi⟩:=kV h0 U hr;rw [M.1] at hb;simp only [an,List.cons.injEq,and_true] at hb;obtain⟨hC,hle,_⟩:=hi.1 hb.symm;obtain⟨ys,hC',c,rfl,_,pI⟩:=xg h0 U;rw [hC] at hC';simp only [an,List.cons.injEq,and_true] at hC';have:=pI hC'.symm;exact⟨⟨h0,U,this.1,this.2⟩,hle⟩
structure Rt (d0 d1:D) (t:Int) (x:KT):Prop where
 t0:0<=t
 t1:t<(d1.l.length:Int)
 ok:OkT d0 ((d1.at t).hd 1).l.length ((d1.at t).hd 2).l.length x.a x.lc.l.length x.w x.o x.g x.tr
 W:Wd (.sl 0) x.lc
 hg:eE .i64 x.g
abbrev fP (d1:D) (t:Int) (x:KT):D:=((d1.at t).hd 2).at x.a
abbrev Nc (d1:D) (t:Int):Nat:=((d1.at t).hd 2).l.length
structure InF (d0:D) (nl nc:Nat) (I:D):Prop where
 ok:OkI d0 nl nc (I.hd 0).n (I.hd 1).n (I.hd 2).n (I.hd 3).n (I.hd 4).n (I.hd 6).l.length
 op:eE .u8 (I.hd 1).n
 ob:eE .i64 (I.hd 2).n
 to:eE .i64 (I.hd 4).n
 nn:eE .i64 (I.hd 5).n
 ar:Wd (.sl 6) (I.hd 6)
theorem Cd.at {d0 d1:D} (C:Cd d0 d1) {t:Int} (t0:0<=t) (t1:t<(d1.l.length:Int)):d1.at t∈d1.l:=by
 obtain⟨i,rfl⟩ : ∃i:Nat,t=(i:Int):=⟨t.toNat,J⟩
 grind [bV]
theorem OF {d:D} {i:Int} (h0:0<=i) (U:i<(d.l.length:Int)):d.at i∈d.l:=by
 obtain⟨k,rfl⟩ : ∃k:Nat,i=(k:Int):=⟨i.toNat,J⟩
 grind [bV]
theorem Cd.code {d0 d1:D} (C:Cd d0 d1) {t:Int} (t0:0<=t) (t1:t<(d1.l.length:Int)):Wd (.sl 5) ((d1.at t).hd 2):=by
 obtain⟨i,rfl⟩ : ∃i:Nat,t=(i:Int):=⟨t.toNat,J⟩;have hi:i<d1.l.length:=J
 obtain⟨xI,lc,cd,he,_,_,h⟩:=yZ C.U hi;rw [bV hi,he];exact h
theorem Cd.inf {d0 d1:D} (C:Cd d0 d1) {t:Int} {x:KT} (R:Rt d0 d1 t x) (h:x.a<(Nc d1 t:Int)):InF d0 ((d1.at t).hd 1).l.length (Nc d1 t) (fP d1 t x):=by
 have ha:=R.ok.1;have U:=C.ins _ (C.at R.t0 R.t1) (fP d1 t x) (OF ha h);obtain⟨i,hi⟩ : ∃i:Nat,x.a=(i:Int):=⟨x.a.toNat,J⟩;have dU:i<((d1.at t).hd 2).l.length:=by unfold Nc at h; omega
 obtain⟨a,b,c,e,f,g,Gi,he,_,hb,hc,_,hf,hg,hw⟩:=ON (C.code R.t0 R.t1) dU;have hI:fP d1 t x=dL [.i a,.i b,.i c,.i e,.i f,.i g,Gi]:=by unfold fP; rw [hi,bV dU,he]
 refine⟨U,?_,?_,?_,?_,?_⟩
 all_goals
  rw [hI];simp only [zg,ax,nD];assumption
theorem Rt.ints {d0 d1:D} {t:Int} {x:KT} (R:Rt d0 d1 t x):Vd x.lc:=fun y hy=>by obtain⟨n,rfl,hn⟩:=(R.W.el1 rfl y hy).i;exact hn
section
variable {d0 d1 s k:D} {t:Int} {x:KT} (hk:k.at t=x.d) (ht:t<(k.l.length:Int)) (R:Rt d0 d1 t x)
include hk ht R
def gA (d1:D) (t:Int) (x:KT):Int:=if x.w=0 then (if x.a=(Nc d1 t:Int) then 1 else 0) else 0
theorem n7:L 1650 [enc d0,enc d1,enc s,enc k,t]=some [gA d1 t x]:=by
 have c1: ¬t<0:=by have:=R.t0; omega
 have c2:=R.t1;unfold gA Nc;rw [bM,adj];simp only [abS,zz,hk,c1,ht,c2,zg];by_cases w0:x.w=0
 ·simp only [w0,if_true];by_cases a0:x.a=(((d1.at t).hd 2).l.length:Int)
  ·simp only [a0,if_true];rfl
  ·simp only [a0,if_false];rfl
 ·simp only [w0,if_false];rfl
end
noncomputable def ev (e lc:D):Int:=low ((L 1950 [(e.hd 0).n,enc (e.hd 1),(e.hd 2).n,enc (e.hd 3),enc lc]).getD []) 0
theorem Mt {C1 lc:D} (ha:Wd (.sl 6) C1) (W:Vd lc) {i:Int} (i0:0<=i) (i1:i<(C1.l.length:Int)):L 1950 [((C1.at i).hd 0).n,enc ((C1.at i).hd 1),((C1.at i).hd 2).n,enc ((C1.at i).hd 3),enc lc]=some [ev (C1.at i) lc]/\eE .i64 (ev (C1.at i) lc):=by
 obtain⟨j,rfl⟩ : ∃j:Nat,i=(j:Int):=⟨i.toNat,J⟩;have hj:j<C1.l.length:=J
 obtain⟨k',s',n',ks',he,_,_,hn',Z⟩:=w7 ha hj;obtain⟨ys,hL,v,rfl,hv⟩:=Ms _ ks' (ay _) Z k' n' s' lc hn' W;have e1:C1.at (j:Int)=dL [.i k',s',.i n',ks']:=by rw [bV hj,he]
 simp_all [ev,e1,zg,nD,bL]
noncomputable def GA (C1 lc:D):Int:=if C1.l.length=0 then 0 else ev (C1.at ((C1.l.length:Int)-1)) lc
theorem aa6 {C1 lc:D} (ha:Wd (.sl 6) C1) (W:Vd lc):eE .i64 (GA C1 lc):=by
 unfold GA;split
 ·constructor<;>omega
 ·exact (Mt ha W J J).2
theorem Ht {C1 lc:D} (ha:Wd (.sl 6) C1) (W:Vd lc) (x3 x5 x6 x7 x8 x9 KQ:Int): ∀(j i:Nat) (v:Int),i+j=C1.l.length->L 1751 [enc C1,(C1.l.length:Int),(i:Int),x3,enc lc,x5,x6,x7,x8,x9,KQ,v]=some [x9,KQ,if j=0 then v else GA C1 lc,x8,1]
 |0,i,v,hi=>by simp_all [bM,ZO,WV,zz,bY]
 |j+1,i,v,hi=>by
  have hr:=ha.len;have c1:(i:Int)<(C1.l.length:Int):=J
  have c2: ¬((i:Int)<0):=J
  have w:=bP (n:=i) J;obtain⟨he,_⟩:=Mt ha W (i:=(i:Int)) J c1;have ih:=Ht ha W x3 x5 x6 x7 x8 x9 KQ j (i+1) (ev (C1.at (i:Int)) lc) J;rw [bM,ZO];simp only [WV,zz,c1,c2,w,he,bK]
  grind [GA]
noncomputable def gf (d1:D) (t:Int) (x:KT):List Int:=
 if x.w=0 then
  if x.a=(Nc d1 t:Int) then [0,0,0,0,0]
  else if ((fP d1 t x).hd 0).n=1 then [((fP d1 t x).hd 1).n,((fP d1 t x).hd 2).n,GA ((fP d1 t x).hd 6) x.lc,x.tr,1]
  else if ((fP d1 t x).hd 0).n=2 then [26,((fP d1 t x).hd 2).n,0,0,1]
  else [0,0,0,0,0]
 else [x.w,x.o,x.g,0,1]
section
variable {d0 d1 s k:D} {t:Int} {x:KT} (C:Cd d0 d1) (hk:k.at t=x.d) (ht:t<(k.l.length:Int)) (R:Rt d0 d1 t x)
include C hk ht R
theorem wP:L 1750 [enc d0,enc d1,enc s,enc k,t]=some (gf d1 t x):=by
 have c1: ¬t<0:=by have:=R.t0; omega
 have c2:=R.t1;have c3: ¬x.a<0:=by have:=R.ok.1; omega
 have ho:=n7 (s:=s) hk ht R;unfold gf;rw [bM,adi];by_cases w0:x.w=0
 ·by_cases a0:x.a=(Nc d1 t:Int)
  ·have e:gA d1 t x=1:=by unfold gA; rw [ak w0,ak a0]
   rw [e] at ho;rw [ak w0,ak a0];simp only [GN,zz,hk,c1,ht,c2,zg,w0,ho,bF,bY]
  ·have e:gA d1 t x=0:=by unfold gA; rw [ak w0,ah a0]
   rw [e] at ho;have gu:x.a<(Nc d1 t:Int):=by have:=R.ok.2.1; unfold Nc at a0 ⊢; omega
   have F:=C.inf R gu;rw [ak w0,ah a0];unfold fP at F ⊢;unfold Nc at gu;by_cases U:((((d1.at t).hd 2).at x.a).hd 0).n=1
   ·rw [ak U];have lp:=Ht F.ar R.ints x.a x.w x.o x.g x.tr ((((d1.at t).hd 2).at x.a).hd 1).n ((((d1.at t).hd 2).at x.a).hd 2).n ((((d1.at t).hd 2).at x.a).hd 6).l.length 0 0 J
    have e2:(if ((((d1.at t).hd 2).at x.a).hd 6).l.length=0 then 0 else GA ((((d1.at t).hd 2).at x.a).hd 6) x.lc)=GA ((((d1.at t).hd 2).at x.a).hd 6) x.lc:=by
     grind [GA]
    rw [e2] at lp;simp only [GN,zz,hk,c1,ht,c2,c3,zg,w0,ho,gu,U,bK]
    grind
   ·by_cases Z:((((d1.at t).hd 2).at x.a).hd 0).n=2
    ·rw [ah U,ak Z];simp only [GN,zz,hk,c1,ht,c2,c3,zg,w0,ho,gu,Z,bY,if_false,z6]
    ·rw [ah U,ah Z];simp only [GN,zz,hk,c1,ht,c2,c3,zg,w0,ho,gu,U,Z,bY]
 ·rw [ah w0];simp only [GN,zz,hk,c1,ht,zg,w0,bY]
end
noncomputable def fF (I:D) (x:KT):KT:=
 if (I.hd 0).n=3 then { x with a:=x.a+1,lc:=dL (fI x.lc.l (I.hd 3).n (.i (ev ((I.hd 6).at 0) x.lc))) }
 else if (I.hd 0).n=4 then (if ev ((I.hd 6).at 0) x.lc=0 then { x with a:=(I.hd 4).n } else { x with a:=x.a+1 })
 else if (I.hd 0).n=5 then { x with a:=(I.hd 4).n }
 else if (I.hd 0).n=6 then { x with a:=x.a+1,lc:=dL (fI x.lc.l (I.hd 3).n (.i (I.hd 5).n)) }
 else if 0<(x.lc.at (I.hd 3).n).n then { x with a:=x.a+1,lc:=dL (fI x.lc.l (I.hd 3).n (.i (IntKind.i64.wrap ((x.lc.at (I.hd 3).n).n-1)))) }
 else { x with a:=(I.hd 4).n }
structure Loc (d1:D) (t:Int) (x:KT):Prop where
 w:x.w=0
 a:x.a<(Nc d1 t:Int)
 n1:((fP d1 t x).hd 0).n≠1
 n2:((fP d1 t x).hd 0).n≠2
theorem p9 {d0 d1:D} {t:Int} {x:KT} (R:Rt d0 d1 t x) (ho:gA d1 t x=0) (hn:low (gf d1 t x) 4=0):Loc d1 t x:=by
 unfold gA at ho;unfold gf at hn;have Z:=R.ok.2.1;by_cases w0:x.w=0
 ·rw [ak w0] at ho hn;by_cases a0:x.a=(Nc d1 t:Int)
  ·grind
  ·rw [ah a0] at hn;by_cases U:((fP d1 t x).hd 0).n=1
   ·grind [bO,bL]
   ·by_cases h2':((fP d1 t x).hd 0).n=2
    ·grind [bO,bL]
    ·exact⟨w0,by unfold Nc at a0 ⊢; omega,U,h2'⟩
 grind [bO,bL]
section
variable {d0 d1 s k:D} {t:Int} {x:KT} (C:Cd d0 d1) (ht:t<(k.l.length:Int)) (R:Rt d0 d1 t x) (Lc:Loc d1 t x)
include C ht R Lc
theorem LS:L 14000 [enc d0,enc d1,t,enc s,enc k,x.a,enc x.lc,x.w,x.o,x.g,x.tr]=some [0,enc d0,enc d1,t,enc s,enc k,x.a,enc x.lc,x.w,x.o,x.g,x.tr,(fF (fP d1 t x) x).a,enc (fF (fP d1 t x) x).lc]:=by
 have c1: ¬t<0:=by have:=R.t0; omega
 have c2:=R.t1;have c3: ¬x.a<0:=by have:=R.ok.1; omega
 have c4:=Lc.a;have F:=C.inf R c4;have OX:(x.lc.l.length:Int)=(((d1.at t).hd 1).l.length:Int):=R.ok.2.2.1;have hnc:((d1.at t).hd 2).l.length<=140737488351232:=(C.code R.t0 R.t1).len;have n1:=Lc.n1;have n2:=Lc.n2
 have hw:IntKind.i64.wrap (x.a+1)=x.a+1:=by
  grind [mK]
 have E:=Mt F.ar R.ints (i:=0);have ok:=F.ok;unfold fP at n1 n2 ok E ⊢;unfold Nc at c4;rw [bM,ZW];unfold fF;rcases ok with h|h|⟨h,i0,i1,na⟩|⟨h,_,_,na⟩|⟨h,_⟩|⟨h,i0,i1⟩|⟨h,i0,i1,_⟩
 ·grind
 ·grind
 ·have c5: ¬(((((d1.at t).hd 2).at x.a).hd 3).n<0):=J
  have c6:(((((d1.at t).hd 2).at x.a).hd 3).n<(x.lc.l.length:Int)):=J
  have c7:(0:Int)<(((((d1.at t).hd 2).at x.a).hd 6).l.length:Int):=J
  obtain⟨E,_⟩:=E J c7;simp only [vh,zz,c1,ht,c2,c3,c4,c5,c6,c7,h,E,hw,bY]
 ·have c7:(0:Int)<(((((d1.at t).hd 2).at x.a).hd 6).l.length:Int):=J
  obtain⟨E,_⟩:=E J c7;by_cases hz:ev (((((d1.at t).hd 2).at x.a).hd 6).at 0) x.lc=0
  ·simp only [vh,zz,c1,ht,c2,c3,c4,c7,h,E,hw,hz,bY,z6]
  ·simp only [vh,zz,c1,ht,c2,c3,c4,c7,h,E,hw,hz,bY,z6]
 ·simp only [vh,zz,c1,ht,c2,c3,c4,h,hw,bY,z6]
 ·have c5: ¬(((((d1.at t).hd 2).at x.a).hd 3).n<0):=J
  have c6:(((((d1.at t).hd 2).at x.a).hd 3).n<(x.lc.l.length:Int)):=J
  simp only [vh,zz,c1,ht,c2,c3,c4,c5,c6,h,hw,bY,z6]
 ·have c5: ¬(((((d1.at t).hd 2).at x.a).hd 3).n<0):=J
  have c6:(((((d1.at t).hd 2).at x.a).hd 3).n<(x.lc.l.length:Int)):=J
  by_cases hz:0<(x.lc.at ((((d1.at t).hd 2).at x.a).hd 3).n).n
  ·simp only [vh,zz,c1,ht,c2,c3,c4,c5,c6,h,hw,hz,bY,z6]
  ·simp only [vh,zz,c1,ht,c2,c3,c4,c5,c6,h,hw,hz,bY,z6]
theorem LR (hz:x.lc.l.length=0):L 14050 [enc d0,enc d1,t,enc s,enc k,x.a,enc x.lc,x.w,x.o,x.g,x.tr]=some [0,enc d0,enc d1,t,enc s,enc k,x.a,enc x.lc,x.w,x.o,x.g,x.tr,(fF (fP d1 t x) x).a]/\(fF (fP d1 t x) x).lc=x.lc:=by
 have c1: ¬t<0:=by have:=R.t0; omega
 have c2:=R.t1;have c3: ¬x.a<0:=by have:=R.ok.1; omega
 have c4:=Lc.a;have F:=C.inf R c4;have OX:(x.lc.l.length:Int)=(((d1.at t).hd 1).l.length:Int):=R.ok.2.2.1;have hnc:((d1.at t).hd 2).l.length<=140737488351232:=(C.code R.t0 R.t1).len;have n1:=Lc.n1;have n2:=Lc.n2
 have hw:IntKind.i64.wrap (x.a+1)=x.a+1:=by
  grind [mK]
 have E:=Mt F.ar R.ints (i:=0);have ok:=F.ok;unfold fP at n1 n2 ok E ⊢;unfold Nc at c4;rw [bM,ZV];unfold fF;rcases ok with h|h|⟨h,i0,i1,na⟩|⟨h,_,_,na⟩|⟨h,_⟩|⟨h,i0,i1⟩|⟨h,i0,i1,_⟩
 ·grind
 ·grind
 ·omega
 ·have c7:(0:Int)<(((((d1.at t).hd 2).at x.a).hd 6).l.length:Int):=J
  obtain⟨E,_⟩:=E J c7;by_cases hz:ev (((((d1.at t).hd 2).at x.a).hd 6).at 0) x.lc=0
  ·simp only [IT,zz,c1,ht,c2,c3,c4,c7,h,E,hw,hz,bY,z6]
  ·simp only [IT,zz,c1,ht,c2,c3,c4,c7,h,E,hw,hz,bY,z6]
 ·simp only [IT,zz,c1,ht,c2,c3,c4,h,hw,bY,z6]
 all_goals grind
theorem oA:Rt d0 d1 t (fF (fP d1 t x) x)/\(fF (fP d1 t x) x).lc.l.length=x.lc.l.length:=by
 have c4:=Lc.a;have F:=C.inf R c4;obtain⟨a0,a1,OX,tr0,tr1,hw⟩:=R.ok;have n1:=Lc.n1;have n2:=Lc.n2;have ok:=F.ok;have hI:=R.ints
 have hwd: ∀{z v:Int},0<=z->z<(x.lc.l.length:Int)->eE .i64 v->Wd (.sl 0) (dL (fI x.lc.l z (.i v))):=fun {z v} h0 U hv=>by
  have:=R.W.room;have h3:te 0=8:=rfl;rw [h3] at this;have hs:=fY x.lc.l z (.i v);refine wA (fun y hy=>?_) (fun he=>?_) (by rw [hs]; omega)
  ·rcases vA hy with h|rfl
   ·exact (R.W.el1 rfl y h).i
   grind
  grind
 have hsl: ∀z v,(dL (fI x.lc.l z v)).l.length=x.lc.l.length:=fun z v=>by rw [bD,fY]
 have T:=R.t0;have T':=R.t1;unfold Nc at c4 ok F;unfold fF;have go: ∀{a:Int} {lc:D},0<=a->a<=(((d1.at t).hd 2).l.length:Int)->lc.l.length=x.lc.l.length->Wd (.sl 0) lc->Rt d0 d1 t { x with a:=a,lc:=lc }/\({ x with a:=a,lc:=lc }:KT).lc.l.length=x.lc.l.length:=fun h0 U Z h3=> ⟨⟨T,T',⟨h0,U,by rw [Z]; exact OX,tr0,tr1,hw⟩,h3,R.hg⟩,Z⟩;rcases ok with h|h|⟨h,i0,i1,na⟩|⟨h,t0,t1,na⟩|⟨h,t0,t1⟩|⟨h,i0,i1⟩|⟨h,i0,i1,t0,t1⟩
 ·grind
 ·grind
 ·rw [ak h];exact go J J (hsl _ _) (hwd i0 J (Mt F.ar hI J J).2)
 ·rw [ah J,ak h];split
  ·exact go t0 t1 rfl R.W
  ·exact go J J rfl R.W
 ·rw [ah J,ah J,ak h];exact go t0 t1 rfl R.W
 ·rw [ah J,ah J,ah J,ak h];exact go J J (hsl _ _) (hwd i0 J F.nn)
 ·rw [ah J,ah J,ah J,ah J];split
  ·grind [go,qS]
  ·exact go t0 t1 rfl R.W
end
theorem z5:(∀p:Prop,(p/\False)=False)/\(∀p:Prop,(False/\p)=False)/\(¬True)=False/\(∀p:Prop,(p/\p)=p)/\(∀(a:Int) (l m:List Int),(a::l)++m=a::(l++m))/\(∀l:List Int,[]++l=l)/\((16:Int)=15)=False/\((3:Int)=0)=False/\((15:Int)=16)=False/\(∀ys:List Int,fin L (.out ys)=some ys):=
 ⟨and_false,false_and,not_true_eq_false,and_self,fun _ _ _=>rfl,fun _=>rfl,ad,ad,ad,fun _=>rfl⟩
def Vj:Act->Prop
 | .res _ _ _ _ _ _ _ a _=>eE .i64 a
 |_=>True
theorem Vj.ite {p:Prop} [Decidable p] {a b:Act} (ha:Vj a) (hb:Vj b):Vj (if p then a else b):=by
 grind
theorem aha {r:D} (h:Wd (.sl 0) r) (i:Nat):eE .i64 (r.at (i:Int)).n:=by
 by_cases hi:i<r.l.length
 ·rw [bV hi];obtain⟨n,hn,hk⟩:=(h.el1 rfl _ (aG hi)).i;rw [hn];exact hk
 ·rw [mJ,am8 J];constructor<;>(simp only [aR,nD]; omega)
theorem ajD {y:D} {M mo th op arg tries o c dn g:Int} {r v:D} (T:Tg y o c dn g r v) (hr:r.l.length<=140737488351232) (ha:eE .i64 arg):Vj (act M mo th op arg tries o c dn g r v):=by
 have hz:eE .i64 0:=⟨J,J⟩;have U:eE .i64 1:=⟨J,J⟩;have w:=@qS;have hv:=aha T.hv 0;have W:eE .i64 (r.l.length:Int):=⟨J,J⟩;unfold act
 repeat' refine Vj.ite ?_ ?_
 all_goals first
  |trivial
  |exact hz
  |exact U
  |exact w _
  |exact T.hc
  |exact ha
  |exact T.hg
  |exact hv
  |exact W
def j4 (I:D) (x:KT) (op e2 e3 e4 oc:Int):KT:=
 if oc=0 then (if op=4 then { x with tr:=if 4611686018427387904<x.tr+1 then 4611686018427387904 else x.tr+1 } else x)
 else if x.w=0 then
  { a:=if (I.hd 0).n=1/\(I.hd 1).n=16/\¬(e2=16/\e4=1) then (I.hd 4).n else x.a+1,lc:=if (I.hd 0).n=1/\¬(I.hd 3).n<0 then dL (fI x.lc.l (I.hd 3).n (.i e4)) else x.lc,w:=if oc=3 then (if e2=15 then 25 else 24) else 0,o:=if oc=3 then e3 else x.o,g:=if oc=3/\e2=15 then e4 else x.g,tr:=0 }
 else { x with w:=0,o:=0,g:=0,tr:=0 }
def D! (e1 e2 e3 e4 e5 oc:Int):List Int:=if oc=0 then [0,0,0,0,0] else [e1,e2,e3,e4,e5]
section
variable {d0 d1 s s' k:D} {t op obj arg tries e1 e2 e3 e4 e5 oc:Int} {x:KT} (C:Cd d0 d1) (ht:t<(k.l.length:Int)) (R:Rt d0 d1 t x)
 (hA:L 400 [enc d0,enc d1,enc s,t,op,obj,arg,tries]=some [enc s',e1,e2,e3,e4,e5,oc]) (h0:oc=0->s'=s) (hx:x.w=0->x.a<(Nc d1 t:Int))
include C ht R hA h0 hx
set_option maxHeartbeats 4000000 in
theorem Ld:L 14500 [enc d0,enc d1,t,op,obj,arg,tries,enc s,enc k,x.a,enc x.lc,x.w,x.o,x.g,x.tr]=some (0::enc d0::enc d1::t::op::obj::arg::tries::enc s::enc k::x.a::enc x.lc::x.w::x.o::x.g::x.tr::(D! e1 e2 e3 e4 e5 oc++ [oc,enc s',(j4 (fP d1 t x) x op e2 e3 e4 oc).a,enc (j4 (fP d1 t x) x op e2 e3 e4 oc).lc,(j4 (fP d1 t x) x op e2 e3 e4 oc).w,(j4 (fP d1 t x) x op e2 e3 e4 oc).o,(j4 (fP d1 t x) x op e2 e3 e4 oc).g,(j4 (fP d1 t x) x op e2 e3 e4 oc).tr])):=by
 have c1: ¬t<0:=by have:=R.t0; omega
 have c2:=R.t1;have c3: ¬x.a<0:=by have:=R.ok.1; omega
 have q0:=R.ok.2.2.2.1;have q1:=R.ok.2.2.2.2.1;have wt:IntKind.i64.wrap (x.tr+1)=x.tr+1:=mK J J;rw [bM,ZT];unfold j4 D!;by_cases o0:oc=0
 ·have hs:=h0 o0;subst hs;subst o0;by_cases p4:op=4
  ·subst p4;by_cases pt:4611686018427387904<x.tr+1
   ·simp only [fy,zz,hA,c1,ht,wt,pt,bY,if_true,eq_self,aW,aw]
   ·simp only [fy,zz,hA,c1,ht,wt,pt,bY,if_true,eq_self,if_false,aW,aw]
  ·simp only [fy,zz,hA,c1,ht,p4,bY,if_true,if_false,aW,aw]
 ·by_cases w0:x.w=0
  ·have c4:=hx w0;have F:=C.inf R c4;have ok:=F.ok;have OX:(x.lc.l.length:Int)=(((d1.at t).hd 1).l.length:Int):=R.ok.2.2.1;have hnc:((d1.at t).hd 2).l.length<=140737488351232:=(C.code R.t0 R.t1).len;unfold Nc at c4;have hw:IntKind.i64.wrap (x.a+1)=x.a+1:=mK J J;unfold OkI fP at ok;unfold fP;by_cases n1:((((d1.at t).hd 2).at x.a).hd 0).n=1
   ·have AU:((((d1.at t).hd 2).at x.a).hd 3).n= -1\/0<=((((d1.at t).hd 2).at x.a).hd 3).n/\((((d1.at t).hd 2).at x.a).hd 3).n<(x.lc.l.length:Int):=by
     grind
    by_cases i0:((((d1.at t).hd 2).at x.a).hd 3).n<0
    ·by_cases uM:((((d1.at t).hd 2).at x.a).hd 1).n=16
     ·by_cases Cg:e2=16
      ·by_cases q4:e4=1
       ·by_cases q3:oc=3
        ·simp only [fy,zz,hA,c1,ht,c2,c3,c4,o0,w0,hw,n1,i0,uM,Cg,q4,q3,z5]
        ·simp only [fy,zz,hA,c1,ht,c2,c3,c4,o0,w0,hw,n1,i0,uM,Cg,q4,q3,z5]
       ·by_cases q3:oc=3
        ·simp only [fy,zz,hA,c1,ht,c2,c3,c4,o0,w0,hw,n1,i0,uM,Cg,q4,q3,z5]
        ·simp only [fy,zz,hA,c1,ht,c2,c3,c4,o0,w0,hw,n1,i0,uM,Cg,q4,q3,z5]
      ·by_cases tF:e2=15
       ·by_cases q3:oc=3
        ·simp only [fy,zz,hA,c1,ht,c2,c3,c4,o0,w0,hw,n1,i0,uM,Cg,tF,q3,z5]
        ·simp only [fy,zz,hA,c1,ht,c2,c3,c4,o0,w0,hw,n1,i0,uM,Cg,tF,q3,z5]
       ·by_cases q3:oc=3
        ·simp only [fy,zz,hA,c1,ht,c2,c3,c4,o0,w0,hw,n1,i0,uM,Cg,tF,q3,z5]
        ·simp only [fy,zz,hA,c1,ht,c2,c3,c4,o0,w0,hw,n1,i0,uM,Cg,tF,q3,z5]
     ·by_cases tF:e2=15
      ·by_cases q3:oc=3
       ·simp only [fy,zz,hA,c1,ht,c2,c3,c4,o0,w0,hw,n1,i0,uM,tF,q3,z5]
       ·simp only [fy,zz,hA,c1,ht,c2,c3,c4,o0,w0,hw,n1,i0,uM,tF,q3,z5]
      ·by_cases q3:oc=3
       ·simp only [fy,zz,hA,c1,ht,c2,c3,c4,o0,w0,hw,n1,i0,uM,tF,q3,z5]
       ·simp only [fy,zz,hA,c1,ht,c2,c3,c4,o0,w0,hw,n1,i0,uM,tF,q3,z5]
    ·have i1:((((d1.at t).hd 2).at x.a).hd 3).n<(x.lc.l.length:Int):=J
     by_cases uM:((((d1.at t).hd 2).at x.a).hd 1).n=16
     ·by_cases Cg:e2=16
      ·by_cases q4:e4=1
       ·by_cases q3:oc=3
        ·simp only [fy,zz,hA,c1,ht,c2,c3,c4,o0,w0,hw,n1,i0,i1,uM,Cg,q4,q3,z5]
        ·simp only [fy,zz,hA,c1,ht,c2,c3,c4,o0,w0,hw,n1,i0,i1,uM,Cg,q4,q3,z5]
       ·by_cases q3:oc=3
        ·simp only [fy,zz,hA,c1,ht,c2,c3,c4,o0,w0,hw,n1,i0,i1,uM,Cg,q4,q3,z5]
        ·simp only [fy,zz,hA,c1,ht,c2,c3,c4,o0,w0,hw,n1,i0,i1,uM,Cg,q4,q3,z5]
      ·by_cases tF:e2=15
       ·by_cases q3:oc=3
        ·simp only [fy,zz,hA,c1,ht,c2,c3,c4,o0,w0,hw,n1,i0,i1,uM,Cg,tF,q3,z5]
        ·simp only [fy,zz,hA,c1,ht,c2,c3,c4,o0,w0,hw,n1,i0,i1,uM,Cg,tF,q3,z5]
       ·by_cases q3:oc=3
        ·simp only [fy,zz,hA,c1,ht,c2,c3,c4,o0,w0,hw,n1,i0,i1,uM,Cg,tF,q3,z5]
        ·simp only [fy,zz,hA,c1,ht,c2,c3,c4,o0,w0,hw,n1,i0,i1,uM,Cg,tF,q3,z5]
     ·by_cases tF:e2=15
      ·by_cases q3:oc=3
       ·simp only [fy,zz,hA,c1,ht,c2,c3,c4,o0,w0,hw,n1,i0,i1,uM,tF,q3,z5]
       ·simp only [fy,zz,hA,c1,ht,c2,c3,c4,o0,w0,hw,n1,i0,i1,uM,tF,q3,z5]
      ·by_cases q3:oc=3
       ·simp only [fy,zz,hA,c1,ht,c2,c3,c4,o0,w0,hw,n1,i0,i1,uM,tF,q3,z5]
       ·simp only [fy,zz,hA,c1,ht,c2,c3,c4,o0,w0,hw,n1,i0,i1,uM,tF,q3,z5]
   ·by_cases tF:e2=15
    ·by_cases q3:oc=3
     ·simp only [fy,zz,hA,c1,ht,c2,c3,c4,o0,w0,hw,n1,tF,q3,z5]
     ·simp only [fy,zz,hA,c1,ht,c2,c3,c4,o0,w0,hw,n1,tF,q3,z5]
    ·by_cases q3:oc=3
     ·simp only [fy,zz,hA,c1,ht,c2,c3,c4,o0,w0,hw,n1,tF,q3,z5]
     ·simp only [fy,zz,hA,c1,ht,c2,c3,c4,o0,w0,hw,n1,tF,q3,z5]
  ·simp only [fy,zz,hA,c1,ht,o0,w0,bY,if_true,if_false,aW,aw]
end
section
variable {d0 d1 s s' k:D} {t op obj arg tries e1 e2 e3 e4 e5 oc:Int} {x:KT} (C:Cd d0 d1) (ht:t<(k.l.length:Int)) (R:Rt d0 d1 t x)
 (hA:L 400 [enc d0,enc d1,enc s,t,op,obj,arg,tries]=some [enc s',e1,e2,e3,e4,e5,oc]) (h0:oc=0->s'=s) (hx:x.w=0->x.a<(Nc d1 t:Int)) (hz:x.lc.l.length=0)
include C ht R hA h0 hx hz
set_option maxHeartbeats 4000000 in
theorem Lb:L 14550 [enc d0,enc d1,t,op,obj,arg,tries,enc s,enc k,x.a,enc x.lc,x.w,x.o,x.g,x.tr]=some (0::enc d0::enc d1::t::op::obj::arg::tries::enc s::enc k::x.a::enc x.lc::x.w::x.o::x.g::x.tr::(D! e1 e2 e3 e4 e5 oc++ [oc,enc s',(j4 (fP d1 t x) x op e2 e3 e4 oc).a,(j4 (fP d1 t x) x op e2 e3 e4 oc).w,(j4 (fP d1 t x) x op e2 e3 e4 oc).o,(j4 (fP d1 t x) x op e2 e3 e4 oc).g,(j4 (fP d1 t x) x op e2 e3 e4 oc).tr]))/\(j4 (fP d1 t x) x op e2 e3 e4 oc).lc=x.lc:=by
 have c1: ¬t<0:=by have:=R.t0; omega
 have c2:=R.t1;have c3: ¬x.a<0:=by have:=R.ok.1; omega
 have q0:=R.ok.2.2.2.1;have q1:=R.ok.2.2.2.2.1;have wt:IntKind.i64.wrap (x.tr+1)=x.tr+1:=mK J J;rw [bM,ZQ];unfold j4 D!;by_cases o0:oc=0
 ·have hs:=h0 o0;subst hs;subst o0;by_cases p4:op=4
  ·subst p4;by_cases pt:4611686018427387904<x.tr+1
   ·simp only [jv,zz,hA,c1,ht,wt,pt,bY,if_true,eq_self,aW,aw]<;>exact⟨rfl,rfl⟩
   ·simp only [jv,zz,hA,c1,ht,wt,pt,bY,if_true,eq_self,if_false,aW,aw]<;>exact⟨rfl,rfl⟩
  ·simp only [jv,zz,hA,c1,ht,p4,bY,if_true,if_false,aW,aw]<;>exact⟨rfl,rfl⟩
 ·by_cases w0:x.w=0
  ·have c4:=hx w0;have F:=C.inf R c4;have ok:=F.ok;have OX:(x.lc.l.length:Int)=(((d1.at t).hd 1).l.length:Int):=R.ok.2.2.1;have hnc:((d1.at t).hd 2).l.length<=140737488351232:=(C.code R.t0 R.t1).len;unfold Nc at c4;have hw:IntKind.i64.wrap (x.a+1)=x.a+1:=mK J J;unfold OkI fP at ok;unfold fP;by_cases n1:((((d1.at t).hd 2).at x.a).hd 0).n=1
   ·have AU:((((d1.at t).hd 2).at x.a).hd 3).n= -1\/0<=((((d1.at t).hd 2).at x.a).hd 3).n/\((((d1.at t).hd 2).at x.a).hd 3).n<(x.lc.l.length:Int):=by
     grind
    by_cases i0:((((d1.at t).hd 2).at x.a).hd 3).n<0
    ·by_cases uM:((((d1.at t).hd 2).at x.a).hd 1).n=16
     ·by_cases Cg:e2=16
      ·by_cases q4:e4=1
       ·by_cases q3:oc=3
        ·simp only [jv,zz,hA,c1,ht,c2,c3,c4,o0,w0,hw,n1,i0,uM,Cg,q4,q3,z5]<;>exact⟨rfl,rfl⟩
        ·simp only [jv,zz,hA,c1,ht,c2,c3,c4,o0,w0,hw,n1,i0,uM,Cg,q4,q3,z5]<;>exact⟨rfl,rfl⟩
       ·by_cases q3:oc=3
        ·simp only [jv,zz,hA,c1,ht,c2,c3,c4,o0,w0,hw,n1,i0,uM,Cg,q4,q3,z5]<;>exact⟨rfl,rfl⟩
        ·simp only [jv,zz,hA,c1,ht,c2,c3,c4,o0,w0,hw,n1,i0,uM,Cg,q4,q3,z5]<;>exact⟨rfl,rfl⟩
      ·by_cases tF:e2=15
       ·by_cases q3:oc=3
        ·simp only [jv,zz,hA,c1,ht,c2,c3,c4,o0,w0,hw,n1,i0,uM,Cg,tF,q3,z5]<;>exact⟨rfl,rfl⟩
        ·simp only [jv,zz,hA,c1,ht,c2,c3,c4,o0,w0,hw,n1,i0,uM,Cg,tF,q3,z5]<;>exact⟨rfl,rfl⟩
       ·by_cases q3:oc=3
        ·simp only [jv,zz,hA,c1,ht,c2,c3,c4,o0,w0,hw,n1,i0,uM,Cg,tF,q3,z5]<;>exact⟨rfl,rfl⟩
        ·simp only [jv,zz,hA,c1,ht,c2,c3,c4,o0,w0,hw,n1,i0,uM,Cg,tF,q3,z5]<;>exact⟨rfl,rfl⟩
     ·by_cases tF:e2=15
      ·by_cases q3:oc=3
       ·simp only [jv,zz,hA,c1,ht,c2,c3,c4,o0,w0,hw,n1,i0,uM,tF,q3,z5]<;>exact⟨rfl,rfl⟩
       ·simp only [jv,zz,hA,c1,ht,c2,c3,c4,o0,w0,hw,n1,i0,uM,tF,q3,z5]<;>exact⟨rfl,rfl⟩
      ·by_cases q3:oc=3
       ·simp only [jv,zz,hA,c1,ht,c2,c3,c4,o0,w0,hw,n1,i0,uM,tF,q3,z5]<;>exact⟨rfl,rfl⟩
       ·simp only [jv,zz,hA,c1,ht,c2,c3,c4,o0,w0,hw,n1,i0,uM,tF,q3,z5]<;>exact⟨rfl,rfl⟩
    ·omega
   ·by_cases tF:e2=15
    ·by_cases q3:oc=3
     ·simp only [jv,zz,hA,c1,ht,c2,c3,c4,o0,w0,hw,n1,tF,q3,z5]<;>exact⟨rfl,rfl⟩
     ·simp only [jv,zz,hA,c1,ht,c2,c3,c4,o0,w0,hw,n1,tF,q3,z5]<;>exact⟨rfl,rfl⟩
    ·by_cases q3:oc=3
     ·simp only [jv,zz,hA,c1,ht,c2,c3,c4,o0,w0,hw,n1,tF,q3,z5]<;>exact⟨rfl,rfl⟩
     ·simp only [jv,zz,hA,c1,ht,c2,c3,c4,o0,w0,hw,n1,tF,q3,z5]<;>exact⟨rfl,rfl⟩
  ·simp only [jv,zz,hA,c1,ht,o0,w0,bY,if_true,if_false,aW,aw]<;>exact⟨rfl,rfl⟩
end
structure Sx (s k:D) (n:Nat):Prop where
 g:Gs s n
 wk:Wd (.sl 8) k
 n2s:s≠.i 2
 n2k:k≠.i 2
structure Sw (s k:D) (n:Nat):Prop where
 g:Gs s n
 wk:Wd (.sl 8) k
theorem Sx.sw {s k:D} {n:Nat} (S:Sx s k n):Sw s k n:=⟨S.g,S.wk⟩
theorem Sw.st {s k:D} {n:Nat} (S:Sw s k n):Sk s k:=⟨S.g.wd,S.wk⟩
theorem Sx.st {s k:D} {n:Nat} (S:Sx s k n):Sk s k:=S.sw.st
instance {s k:D} {n:Nat}:CoeOut (Sx s k n) (Sk s k):=⟨Sx.st⟩
instance {s k:D} {n:Nat}:CoeOut (Sw s k n) (Sk s k):=⟨Sw.st⟩
theorem Sx.mono {s k:D} {n m:Nat} (S:Sx s k n) (h:n<=m):Sx s k m:=⟨S.g.mono h,S.wk,S.n2s,S.n2k⟩
abbrev fK (k:D) (t:Int) (x:KT):D:=dL (fI k.l t x.d)
theorem bZ (a:D) (l:List D):dL (a::l)= .p a (dL l):=rfl
theorem cO:dL []= .i 0:=rfl
structure tk (d0 d1 s:D) (t op obj arg tries:Int) (n:Nat) (s':D) (e1 e2 e3 e4 e5 oc:Int):Prop where
 eq:L 400 [enc d0,enc d1,enc s,t,op,obj,arg,tries]=some [enc s',e1,e2,e3,e4,e5,oc]
 no:oc=0->s'=s/\e1=0/\e2=0/\e3=0/\e4=0/\e5=0
 oc3:oc=0\/oc=2\/oc=3
 gs:Gs s' (n+1)
 len:s'.l.length=s.l.length
 n2:s≠.i 2->s'≠.i 2
 e3:eE .i64 e3
 e4:eE .i64 e4
theorem yX {d0 d1 s:D} {t op obj arg tries:Int} {n:Nat} (h0:Wd (.sl 3) d0) (U:Wd (.sl 4) d1) (G:Gs s n) (hn:n<17592186043904) (ht:eE .i64 t) (oa:eE .u8 op) (Gf:eE .i64 obj) (ha:eE .i64 arg) :
 ∃s' e1 e2 e3 e4 e5 oc,tk d0 d1 s t op obj arg tries n s' e1 e2 e3 e4 e5 oc:=by
 have hf:=G.kS (by omega:n<17592186044415);have z:eE .i64 0:=⟨J,J⟩;by_cases A:Acc d0 d1 s t op obj
 ·obtain⟨_,o,c,dn,g,r,v,T,hL⟩:=wC (arg:=arg) (tries:=tries) h0 U G.wd hf oa A;rw [Dg] at hL;have o0:=A.o0;have o1:=A.o1;obtain⟨i,rfl⟩ : ∃i:Nat,obj=(i:Int):=⟨obj.toNat,J⟩;have hi:i<s.l.length:=J
  have iD:=G.rows _ (aG hi);have e:s.l[i]=dL [.i o,.i c,.i dn,.i g,r,v]:=by rw [<- bV hi]; exact T.is
  rw [e] at iD;have hA:=PO (M:=Mx d0 (i:Int)) (mo:=Mo d0 s (i:Int)) (op:=op) (tries:=tries) T (n:=n) iD.1 iD.2 J ht ha;have hE:=ajD (M:=Mx d0 (i:Int)) (mo:=Mo d0 s (i:Int)) (th:=t) (op:=op) (tries:=tries) T (by have:=iD.1; have:r.l.length<=n:=this; omega) ha
  have hM:Vc (act (Mx d0 (i:Int)) (Mo d0 s (i:Int)) t op arg tries o c dn g r v)\/0<=Mx d0 (i:Int)/\Mx d0 (i:Int)<(s.l.length:Int):=by
   by_cases h:op=12\/op=24
   ·have:=F5 h0 U G.wd hf oa A h;exact .inr ⟨this.1,this.2.1⟩
   ·exact .inl (BZ J J)
  have hg:=QY G hA o0 o1 hM;have W:=Eg s (i:Int) (Mx d0 (i:Int)) (act (Mx d0 (i:Int)) (Mo d0 s (i:Int)) t op arg tries o c dn g r v);generalize act (Mx d0 (i:Int)) (Mo d0 s (i:Int)) t op arg tries o c dn g r v=B at *
  have hn2:s≠.i 2->py s (i:Int) (Mx d0 (i:Int)) B≠.i 2:=fun _ he=>by rw [he] at W;have:(D.i 2).l.length=0:=rfl;omega
  cases B with
  |om=>exact⟨s,0,0,0,0,0,0,hL,fun _=> ⟨rfl,rfl,rfl,rfl,rfl,rfl⟩,.inl rfl,hg,rfl,fun h=>h,z,z⟩
  |xq=>exact⟨s,t,27,_,_,0,2,hL,fun h=>absurd h J,.inr (.inl rfl),hg,rfl,fun h=>h,Gf,qS _⟩
  |res o' c' ia g' r' v' m a oc=>exact⟨_,t,op,_,a,0,oc,hL,fun h=>by have:=hA.2.2.2.2.2.2.2.2.2; omega,.inr hA.2.2.2.2.2.2.2.2.2,hg,W,hn2,Gf,hE⟩
 ·exact⟨s,0,0,0,0,0,0,DL h0 U G.wd hf oa A,fun _=> ⟨rfl,rfl,rfl,rfl,rfl,rfl⟩,.inl rfl,G.mono (amz n),rfl,fun h=>h,z,z⟩
noncomputable abbrev stE (d0 d1 s k:D) (t:Int):Nat->Int:=df L (low [enc d0,enc d1,enc s,enc k,t])
theorem Ok {k:D} {t:Int} {x:KT} (h:k=dL k.l) (t0:0<=t) (t1:t<(k.l.length:Int)) (hk:k.at t=x.d):fK k t x=k:=by
 obtain⟨i,rfl⟩ : ∃i:Nat,t=(i:Int):=⟨t.toNat,J⟩;have hi:i<k.l.length:=J
 rw [bV hi] at hk;unfold fK;rw [<- hk];exact ek h hi
section
variable {d0 d1 s k:D} {t:Int} (S:Sk s k)
include S
theorem P? (hR:L 1550 [enc d0,enc d1,enc s,enc k,t]=some [0]):L 1850 [enc d0,enc d1,enc s,enc k,t]=some [enc s,enc k,0,0,0,0,0,0]:=by
 by_cases hr:t<0\/(k.l.length:Int)<=t
 ·rcases Iv S hr with h|⟨h,he⟩|⟨h,he⟩
  ·have K:ei (stE d0 d1 s k t) nj= .out [enc s,enc k,0,0,0,0,0,0]:=by
    simp only [nj,zz,h,hR,Int.reduceEq]
   rw [bM,CH];exact congrArg (fin L) K
  ·subst he
   have K:ei (stE d0 d1 s (.i 1) t) nj= .out [enc s,enc (.i 1),0,0,0,0,0,0]:=by simp only [nj,zz,h,hR,Int.reduceEq]
   rw [bM,CH];exact congrArg (fin L) K
  ·subst he
   have K:ei (stE d0 d1 s (.i 2) t) nj= .out [enc s,enc (.i 2),0,0,0,0,0,0]:=by simp only [nj,zz,h,hR,Int.reduceEq]
   rw [bM,CH];exact congrArg (fin L) K
 ·obtain⟨i,rfl⟩ : ∃i:Nat,t=(i:Int):=⟨t.toNat,J⟩;have hi:i<k.l.length:=J
  obtain⟨a,lc,w,o,g,tr,T⟩:=gK S.wk _ (aG hi);have h:=BU S hi T;have hs:fK k (i:Int) ⟨a,lc,w,o,g,tr⟩ = k:=Ok (xB S.wk J).sh J J (by rw [bV hi,T.is]);simp only [fK,KT.d,bZ,cO] at hs;have ha:qI lc=3\/qI lc=4:=by unfold qI; split<;>simp
  have K:ei (stE d0 d1 s k (i:Int)) nj= .out [enc s,enc k,0,0,0,0,0,0]:=by
   rcases ha with ha|ha
   ·rw [ha] at h;simp only [nj,zz,h,hR,hs,Int.reduceEq]
   ·rw [ha] at h;simp only [nj,zz,h,hR,hs,Int.reduceEq]
  rw [bM,CH];exact congrArg (fin L) K
end
structure Rs (d0 d1 s k:D) (t:Int) (x:KT):Prop where
 c:Cd d0 d1
 r:Rt d0 d1 t x
 hk:k.at t=x.d
 ht:t<(k.l.length:Int)
 yes:L 1550 [enc d0,enc d1,enc s,enc k,t]=some [1]
theorem aev {d0 d1 s k:D} {t:Int} {n:Nat} (S:Sw s k n) (hn:n<17592186044000) (h0:Wd (.sl 3) d0) (U:Wd (.sl 4) d1):L 1550 [enc d0,enc d1,enc s,enc k,t]=some [0]\/∃x,Rs d0 d1 s k t x:=by
 obtain⟨ys,hL,b,rfl,hb⟩:=Lu (k:=k) h0 U (S.g.kS J).rows U.len t;rcases hb with ⟨rfl,_⟩|⟨rfl,t0,t1,M⟩
 ·exact .inl hL
 ·refine .inr ?_;obtain⟨hle,hO⟩:=M.2;obtain⟨i,rfl⟩ : ∃i:Nat,t=(i:Int):=⟨t.toNat,J⟩;have hi:i<k.l.length:=J
  have hd:i<d1.l.length:=J
  obtain⟨a,lc,w,o,g,tr,T⟩:=gK S.wk _ (aG hi);have ok:=hO i hi;unfold OkK at ok;rw [T.is] at ok;simp only [zg,ax,nD] at ok;refine⟨⟨a,lc,w,o,g,tr⟩,(MR.code h0 U (S.g.kS J).rows M).1,⟨J,J,?_,T.W,T.hg⟩,by rw [bV hi,T.is],J,hL⟩;rw [bV hd];exact ok
theorem QV {d0 d1 s k:D} {t:Int} {n:Nat} (S:Sx s k n) (hn:n<17592186043904) (h0:Wd (.sl 3) d0) (U:Wd (.sl 4) d1):L 1550 [enc d0,enc d1,enc s,enc k,t]=some [0]\/∃x,Rs d0 d1 s k t x:=aev S.sw J h0 U
section
variable {d0 d1 s k:D} {t:Int} {n:Nat} {x:KT} (S:Sk s k) (R:Rs d0 d1 s k t x)
include S R
theorem Rs.cp:L 9050 [t,enc s,enc k]=some [qI x.lc,t,enc s,enc k,x.a,enc x.lc,x.w,x.o,x.g,x.tr]:=by
 have t0:=R.r.t0;have ht:=R.ht;obtain⟨i,rfl⟩ : ∃i:Nat,t=(i:Int):=⟨t.toNat,J⟩;have hi:i<k.l.length:=J
 obtain⟨a,lc,w,o,g,tr,T⟩:=gK S.wk _ (aG hi);have h:=BU S hi T;have e:=R.hk;rw [bV hi,T.is] at e;simp only [KT.d,bZ,cO,D.p.injEq,D.i.injEq,and_true] at e;obtain⟨rfl,rfl,rfl,rfl,rfl,rfl⟩:=e;exact h
theorem Rs.self:dL (fI k.l t (.p (.i x.a) (.p x.lc (.p (.i x.w) (.p (.i x.o) (.p (.i x.g) (.p (.i x.tr) (.i 0))))))))=k:=by
 have W:0<k.l.length:=by have:=R.r.t0; have:=R.ht; omega
 exact Ok (xB S.wk W).sh R.r.t0 R.ht R.hk
theorem TM (ho:gA d1 t x=1):L 1850 [enc d0,enc d1,enc s,enc k,t]=some [enc s,enc k,0,0,0,0,0,4]:=by
 have h:=R.cp S;have hs:=R.self S;have hR:=R.yes;have hO:=n7 (s:=s) R.hk R.ht R.r;rw [ho] at hO;have ha:qI x.lc=3\/qI x.lc=4:=by unfold qI; split<;>simp
 have K:ei (stE d0 d1 s k t) nj= .out [enc s,enc k,0,0,0,0,0,4]:=by
  rcases ha with ha|ha
  ·rw [ha] at h;simp only [nj,zz,h,hR,hs,hO,Int.reduceEq]
  ·rw [ha] at h;simp only [nj,zz,h,hR,hs,hO,Int.reduceEq]
 rw [bM,CH];exact congrArg (fin L) K
theorem Of (ho:gA d1 t x=0) (hn:low (gf d1 t x) 4=0):L 1850 [enc d0,enc d1,enc s,enc k,t]=some [enc s,enc (fK k t (fF (fP d1 t x) x)),0,0,0,0,0,1]:=by
 have h:=R.cp S;have hs:=R.self S;have hR:=R.yes;have hO:=n7 (s:=s) R.hk R.ht R.r;have hN:=wP (s:=s) R.c R.hk R.ht R.r;have Lc:=p9 R.r ho hn;rw [ho] at hO
 have K:ei (stE d0 d1 s k t) nj= .out [enc s,enc (fK k t (fF (fP d1 t x) x)),0,0,0,0,0,1]:=by
  have hw:(fF (fP d1 t x) x).w=x.w/\(fF (fP d1 t x) x).o=x.o/\(fF (fP d1 t x) x).g=x.g/\(fF (fP d1 t x) x).tr=x.tr:=by
   unfold fF
   repeat' split
   all_goals exact⟨rfl,rfl,rfl,rfl⟩
  by_cases hp:0<x.lc.l.length
  ·have ha:qI x.lc=3:=ak hp;rw [ha] at h;have W:=LS (s:=s) R.c R.ht R.r Lc;simp only [nj,zz,h,hR,hs,hO,hN,hn,W,fK,KT.d,bZ,cO,hw,Int.reduceEq]
  ·have ha:qI x.lc=4:=ah hp;rw [ha] at h;obtain⟨W,hc⟩:=LR (s:=s) R.c R.ht R.r Lc J;simp only [nj,zz,h,hR,hs,hO,hN,hn,W,fK,KT.d,bZ,cO,hw,hc,Int.reduceEq]
 rw [bM,CH];exact congrArg (fin L) K
theorem Oe {op obj arg tries e1 e2 e3 e4 e5 oc:Int} {s':D} (ho:gA d1 t x=0) (hn:gf d1 t x= [op,obj,arg,tries,1]) (A:tk d0 d1 s t op obj arg tries n s' e1 e2 e3 e4 e5 oc) :
 L 1850 [enc d0,enc d1,enc s,enc k,t]=some [enc s',enc (fK k t (j4 (fP d1 t x) x op e2 e3 e4 oc)),e1,e2,e3,e4,e5,oc]:=by
 have h:=R.cp S;have hs:=R.self S;have hR:=R.yes;have hO:=n7 (s:=s) R.hk R.ht R.r;have hN:=wP (s:=s) R.c R.hk R.ht R.r;rw [ho] at hO;rw [hn] at hN
 have hx:x.w=0->x.a<(Nc d1 t:Int):=fun w0=>by unfold gA at ho;rw [ak w0] at ho;have:=R.r.ok.2.1;unfold Nc at ho ⊢;split at ho<;>omega
 have hE:D! e1 e2 e3 e4 e5 oc= [e1,e2,e3,e4,e5]:=by
  unfold D!;split
  ·rename_i h0;obtain⟨_,rfl,rfl,rfl,rfl,rfl⟩:=A.no h0;rfl
  ·rfl
 have K:ei (stE d0 d1 s k t) nj= .out [enc s',enc (fK k t (j4 (fP d1 t x) x op e2 e3 e4 oc)),e1,e2,e3,e4,e5,oc]:=by
  by_cases hp:0<x.lc.l.length
  ·have ha:qI x.lc=3:=ak hp;rw [ha] at h;have W:=Ld R.c R.ht R.r A.eq (fun h=>(A.no h).1) hx;rw [hE] at W;simp only [aW,aw] at W;simp only [nj,zz,h,hR,hs,hO,hN,W,fK,KT.d,bZ,cO,Int.reduceEq]
  ·have ha:qI x.lc=4:=ah hp;rw [ha] at h;obtain⟨W,hc⟩:=Lb R.c R.ht R.r A.eq (fun h=>(A.no h).1) hx J;rw [hE] at W;simp only [aW,aw] at W;simp only [nj,zz,h,hR,hs,hO,hN,W,fK,KT.d,bZ,cO,hc,Int.reduceEq]
 rw [bM,CH];exact congrArg (fin L) K
end
theorem dS.jmp {j k:Nat} {xs ys:List Int} {t:T Lf} {p:List Int->Prop} (e:S.tree j=t) (h:ei (df L (low xs)) t= .jump k ys) (q:dS k ys p):dS j xs p:=by refine dS.of ?_;rw [e,h];exact .jump q
theorem dS.ret {j:Nat} {xs ys:List Int} {t:T Lf} {p:List Int->Prop} (e:S.tree j=t) (h:ei (df L (low xs)) t= .out ys) (q:p ys):dS j xs p:=by refine dS.of ?_;rw [e,h];exact .out q
theorem GS (m:Nat) (hm:m<=60) (ih: ∀(k n:Int) (s kids:D),Wd .str s->Wd (.sl 6) kids->dS 150 [k,enc s,n,enc kids,(m:Int)] one) (x3 x4 x5:Int) (kids:D) (hk:Wd (.sl 6) kids) :
 ∀(j i:Nat) (x1:Int),i+j=kids.l.length->dS 151 [((m+1:Nat):Int),x1,(i:Int),x3,x4,x5,enc kids] one
 |0,i,x1,hi=>dS.ret aaN (ys:=[x1]) (bW [] [.lt Qo (ln eK)] (ou [Qb]) (by simp only [zz]<;>omega) aa (by simp only [zz])) ⟨x1,rfl⟩
 |j+1,i,x1,hi=>by
  have W:=hk.len;have dU:i<kids.l.length:=J
  have hw:=bP (n:=i) J;obtain⟨k,s,n,ks,he,_,hs,_,Mc⟩:=w7 hk dU;have ha:kids.at (i:Int)=dL [.i k,s,.i n,ks]:=by rw [bV dU]; exact he
  obtain⟨ys,O5,z,rfl⟩:=ih k n s ks hs Mc;have hw2:IntKind.i64.wrap (((m+1:Nat):Int)-1)=(m:Int):=by rw [mK J J]; omega
  by_cases hx:10000<x1
  ·exact dS.ret aaN (ys:=[x1]) (bW [.lt Qo (ln eK),.lt (.lit 10000) Qb] [] (ou [Qb]) (by simp only [zz]<;>omega) aa (by simp only [zz])) ⟨x1,rfl⟩
  ·exact dS.jmp aaN (bW [.lt Qo (ln eK),.eq (a0 150 Qfb) Q0] [.lt (.lit 10000) Qb,IG] (ju 151 [Qf,wr (.add Qb (rr 150 Qfb 0)),NS,Qm,cK,dv,eK]) (by simp only [zz,ha,zg,hw2,O5]<;>omega) aa (by simp only [zz,ha,zg,hw2,O5,hw]<;>rfl)) (GS m hm ih x3 x4 x5 kids hk j (i+1) (IntKind.i64.wrap (x1+z)) J)
theorem Lp: ∀(m:Nat),m<=60->∀(k n:Int) (s kids:D),Wd .str s->Wd (.sl 6) kids->dS 150 [k,enc s,n,enc kids,(m:Int)] one
 |0,_,k,n,s,kids,_,_=>dS.ret af3 (ys:=[10000]) (bW [Qe9] [] (ou [.lit 10000]) (by simp only [zz]<;>omega) aa (by simp only [zz])) ⟨_,rfl⟩
 |m+1,hm,k,n,s,kids,hs,hk=>dS.jmp af3 (ys:=[((m+1:Nat):Int),_,(0:Nat),k,enc s,n,enc kids]) (bW [] [Qe9] (ju 151 [cK,wr (.add Q0 (wr (.quo Qc (.lit 100)))),Qa,Qf,Qb,Qo,Qm]) (by simp only [zz]<;>omega) aa (by simp only [lX,List.map,bQ,Nat.reduceLT,bL,bO]<;>rfl)) (GS m J (Lp m J) k (enc s) n kids hk kids.l.length 0 _ J)
section
variable {d0 d1:D} (U:Wd (.sl 4) d1)
include U
theorem EX (x1 x2 x3:Int) (Gi:D) (ha:Wd (.sl 6) Gi) (q: ∀x0,dS 102 [x0,x1,IntKind.i64.wrap (x2+1),x3,enc d0,enc d1] yy): ∀(j i:Nat) (x0:Int),i+j=Gi.l.length->dS 103 [x0,x1,x2,x3,enc Gi,(Gi.l.length:Int),(i:Int),enc d0,enc d1] yy
 |0,i,x0,hi=>dS.jmp af4 (bW [] [.lt eK dv] (ju 102 [Qf,Qb,NS,Qm,ib,jo]) (by simp only [zz]<;>omega) aa (by simp only [zz])) (q x0)
 |j+1,i,x0,hi=>by
  have W:=ha.len;have dU:i<Gi.l.length:=J
  have hw:=bP (n:=i) J;obtain⟨k,s,n,ks,he,_,hs,_,Mc⟩:=w7 ha dU;have hD:Gi.at (i:Int)=dL [.i k,s,.i n,ks]:=by rw [bV dU]; exact he
  obtain⟨ys,O5,z,rfl⟩:=Lp 60 J k n s ks hs Mc;have O5:L 150 [k,enc s,n,enc ks,60]=some [z]:=O5;exact dS.jmp af4 (bW [.lt eK dv,.lt eK KO,.eq (a0 150 Qe8) Q0] [.lt eK Qa] (ju 103 [wr (.add Qf (rr 150 Qe8 0)),Qb,Qo,Qm,cK,dv,wr (.add eK Q0),ib,jo]) (by simp only [zz,hD,zg,O5]<;>omega) aa (by simp only [zz,hD,zg,O5,hw]<;>rfl)) (EX x1 x2 x3 Gi ha q j (i+1) (IntKind.i64.wrap (x0+z)) J)
theorem UD (i:Nat) (hi:i<d1.l.length) (q: ∀x0,dS 101 [x0,(d1.l.length:Int),((i+1:Nat):Int),enc d0,enc d1] yy): ∀(j k:Nat) (x0:Int),(∀xI lc cd,d1.l[i]=dL [xI,lc,cd]->k+j=cd.l.length)->dS 102 [x0,(i:Int),(k:Int),(d1.l.length:Int),enc d0,enc d1] yy:=by
 have W:=U.len;have hw:=bP (n:=i) J;obtain⟨xI,lc,cd,he,_,_,RW⟩:=yZ U hi;have hD:d1.at (i:Int)=dL [xI,lc,cd]:=by rw [bV hi]; exact he
 have Dr:=RW.len;intro j
 induction j with
 |zero=> intro k x0 hk;have hk:=hk _ _ _ he;exact dS.jmp aaO (bW [.lt Qb (ln dv)] [NR,.lt Qo (ln (ce 2 Nw))] (ju 101 [Qf,Qm,pE,cK,dv]) (by simp only [zz,hD,zg]<;>omega) aa (by simp only [zz,hw]<;>rfl)) (q x0)
 |succ j ih=>
  intro k x0 hk;have Gg:=hk _ _ _ he;by_cases h6:6000<x0
  ·exact dS.jmp aaO (bW [.lt Qb (ln dv),.lt Qo (ln (ce 2 Nw)),.lt (.lit 6000) Qf] [NR] (ju 101 [Qf,Qm,pE,cK,dv]) (by simp only [zz,hD,zg]<;>omega) aa (by simp only [zz,hw]<;>rfl)) (q x0)
  ·have OY:k<cd.l.length:=J
   have hw2:=bP (n:=k) J;obtain⟨a,b,c,e,f,g,Gi,AU,_,_,_,_,_,_,has⟩:=ON RW OY;have ak6:cd.at (k:Int)=dL [.i a,.i b,.i c,.i e,.i f,.i g,Gi]:=by rw [bV OY]; exact AU
   refine dS.jmp aaO (bW [.lt Qb (ln dv),.lt Qo (ln (ce 2 Nw))] [NR,.lt (.lit 6000) Qf,IG] (ju 103 [Qf,Qb,Qo,Qm,Qe5,ln Qe5,Qa,cK,dv]) (by simp only [zz,hD,zg]<;>omega) aa (by simp only [zz,hD,ak6,zg]<;>rfl)) (EX U (i:Int) (k:Int) (d1.l.length:Int) Gi has (fun x0=>?_) Gi.l.length 0 x0 J);rw [hw2];exact ih (k+1) x0 fun xI lc cd he=>by have:=hk xI lc cd he; omega
theorem EW: ∀(j i:Nat) (x0:Int),i+j=d1.l.length->dS 101 [x0,(d1.l.length:Int),(i:Int),enc d0,enc d1] yy
 |0,i,x0,hi=>by
  by_cases h6:6000<x0
  ·exact dS.ret aaP (bW [.lt (.lit 6000) Qf] [xl] (ou [Q0]) (by simp only [zz]<;>omega) aa (by simp only [zz])) tO
  ·exact dS.ret aaP (bW [] [xl,.lt (.lit 6000) Qf] (ou [Qa]) (by simp only [zz]<;>omega) aa (by simp only [zz])) tP
 |j+1,i,x0,hi=>by
  have dU:i<d1.l.length:=J
  obtain⟨xI,lc,cd,he,_,_,RW⟩:=yZ U dU;refine dS.jmp aaP (ys:=[_,(i:Int),((0:Nat):Int),(d1.l.length:Int),enc d0,enc d1]) (bW [xl,w_] [IG] (ju 102 [wr (.add Qf (wr (.add (ln Qdl) (ln (ce 2 Qdk))))),Qo,Qa,Qb,Qm,cK]) (by simp only [zz]<;>omega) aa (by simp only [zz]<;>rfl)) (UD U i dU (fun x0=>EW j (i+1) x0 J) cd.l.length 0 _ fun n' l' c' yV=>?_);rw [he] at yV;have:=BT yV;simp only [List.cons.injEq,and_true] at this;rw [this.2.2];omega
theorem UC:dS 100 [enc d0,enc d1] yy:=
 dS.jmp ajv (ys:=[_,(d1.l.length:Int),((0:Nat):Int),enc d0,enc d1]) (bW [] [] (ju 101 [wr (.add tu Qc),Qc,Qa,Qf,Qb]) (by simp only [zz]<;>omega) aa (by simp only [zz]<;>rfl)) (EW U d1.l.length 0 _ J)
end
def jT (x:D):D:=dL [.i 0,if (x.hd 1).l.length=0 then .i 2 else dL (List.replicate (x.hd 1).l.length (.i 0)),.i 0,.i 0,.i 0,.i 0]
def eu (d0:D):D:=if d0.l.length=0 then .i 1 else dL (d0.l.map iS)
def fk (d1:D):D:=if d1.l.length=0 then .i 1 else dL (d1.l.map jT)
theorem K8 {l:List D} (h: ∀x∈l,∃a lc w o g tr,Kt x a lc w o g tr) (hn:l≠[]) (W:l.length<=2199023255488):Wd (.sl 8) (dL l):=by
 have e:(l.map fun x=>x.l).map dL=l:=by
  rw [amU]
  conv=>rhs; rw [<- List.map_id l]
  apply anc;intro x hx;obtain⟨a,lc,w,o,g,tr,T⟩:=h x hx;rw [T.is];rfl
 rw [<- e];refine .many 8 [.int .i64,.sl 0,.int .u8,.int .i64,.int .i64,.int .i64] _ rfl (by simpa using hn) (by have:te 8=64:=rfl; rw [this,bu]; omega) (fun r hr=>?_) fun r hr j d c U Z=>?_
 ·obtain⟨x,hx,rfl⟩:=bd.1 hr;obtain⟨a,lc,w,o,g,tr,T⟩:=h x hx;rw [T.is];rfl
 ·obtain⟨x,hx,rfl⟩:=bd.1 hr;obtain⟨a,lc,w,o,g,tr,T⟩:=h x hx;rw [T.is,bD] at U
  match j with
  |0=>simp at U Z; subst U Z; exact .int _ _ T.ha
  |1=>simp at U Z; subst U Z; exact T.W
  |2=>simp at U Z; subst U Z; exact .int _ _ T.hw
  |3=>simp at U Z; subst U Z; exact .int _ _ T.ho
  |4=>simp at U Z; subst U Z; exact .int _ _ T.hg
  |5=>simp at U Z; subst U Z; exact .int _ _ T.ht
  |j+6=>simp at U
theorem Wp (x:D) (h:(x.hd 1).l.length<=17592186043904): ∃a lc w o g tr,Kt (jT x) a lc w o g tr:=by
 have z:eE .i64 0:=⟨J,J⟩;refine⟨0,_,0,0,0,0,rfl,z,?_,⟨J,J⟩,z,z,z⟩;split
 ·exact .wO 0
 ·rename_i hn;refine wA (fun y hy=> ⟨0,(List.mem_replicate.1 hy).2,z⟩) (fun he=>?_) (by simpa using h);have:=congrArg List.length he;simp only [amT,aA] at this;omega
theorem yq {d1:D} (U:Wd (.sl 4) d1): ∀x∈d1.l,(x.hd 1).l.length<=8796093021952:=by intro x hx;obtain⟨i,hi,rfl⟩:=am7 hx;obtain⟨xI,lc,cd,he,_,hlc,_⟩:=yZ U hi;rw [he];simp only [zg,ax];have:=hlc.room;have h3:te 2=16:=rfl;rw [h3] at this;omega
theorem vi {d0 d1:D} (h0:Wd (.sl 3) d0) (U:Wd (.sl 4) d1) (ok:mB d0 d1):Sx (eu d0) (fk d1) 0:=by
 refine⟨?_,?_,?_,?_⟩
 ·unfold eu;split
  ·exact⟨.nil 7,fun x hx=>by simp [D.l] at hx⟩
  ·refine⟨GK (fun x hx=>?_) (fun he=>?_) (by rw [bu]; have:=ok.1; omega),fun x hx=>?_⟩
   ·obtain⟨y,hy,rfl⟩:=bd.1 hx;obtain⟨kd,xI,ln,s1,s2,he,_,hnn,_⟩:=h0.decl y hy;rw [he];refine⟨-1,_,0,0,.i 1,.i 1,rfl,⟨J,J⟩,?_,.inl rfl,⟨J,J⟩,.nil 0,.nil 0⟩;split
    ·exact hnn
    ·exact⟨J,J⟩
   ·have:=congrArg List.length he;simp only [bu,aA] at this;omega
   ·rw [bD] at hx;obtain⟨y,hy,rfl⟩:=bd.1 hx;exact⟨ay 0,ay 0⟩
 ·unfold fk;split
  ·exact .nil 8
  ·refine K8 (fun x hx=>?_) (fun he=>?_) (by rw [bu]; have:=ok.2.1; omega)
   ·obtain⟨y,hy,rfl⟩:=bd.1 hx;exact Wp y (by have:=yq U y hy; omega)
   ·have:=congrArg List.length he;simp only [bu,aA] at this;omega
 ·unfold eu;split
  ·intro h; cases h
  ·intro h;have:=congrArg (fun d=>d.l.length) h;simp only [bD,bu,jr,aA] at this;omega
 ·unfold fk;split
  ·intro h; cases h
  ·intro h;have:=congrArg (fun d=>d.l.length) h;simp only [bD,bu,jr,aA] at this;omega
theorem Co (d1:D) (U:Wd (.sl 4) d1) (hlen:d1.l.length<=16) (s:D): ∀(k i:Nat) (acc:List D),i+k=d1.l.length->acc.length=i->
 L 1452 [enc d1,(d1.l.length:Int),(i:Int),enc s,enc (dL acc)]=some [enc s,enc (dL (acc++(d1.l.drop i).map jT)),0]
 |0,i,acc,hi,ha=>by
  have c1: ¬(i:Int)<(d1.l.length:Int):=J
  rw [bM,ZR,anI J];simp only [QK,zz,c1,bY,an2,amy]
 |k+1,i,acc,hi,ha=>by
  have dU:i<d1.l.length:=J
  have hd:d1.l.drop i=d1.l[i]::d1.l.drop (i+1):=amr dU;have ih:=Co d1 U hlen s k (i+1) (acc++ [jT d1.l[i]]) J (by simp [ha]);have c1:(i:Int)<(d1.l.length:Int):=J
  have c2: ¬((i:Int)<0):=J
  have w:=bP (n:=i) J;have c3:(acc.length:Int)<2199023255551:=J
  have hb:=yq U _ (aG dU);have c4:((((d1.l[i]).hd 1).l.length:Nat):Int)<17592186044416:=J
  have e2:acc++(jT d1.l[i]::(d1.l.drop (i+1)).map jT)=acc++ [jT d1.l[i]]++(d1.l.drop (i+1)).map jT:=ad
  rw [hd,aH,e2,<- ih,bM,ZR];by_cases hz:((d1.l[i]).hd 1).l.length=0
  ·have JB:((((d1.l[i]).hd 1).l.length:Nat):Int)=0:=J
   have et:jT d1.l[i]= .p (.i 0) (.p (.i 2) (.p (.i 0) (.p (.i 0) (.p (.i 0) (.p (.i 0) (.i 0)))))):=by unfold jT; rw [ak hz]; rfl
   rw [et];simp only [QK,zz,c1,c2,w,bV dU,JB,c3,bD,bK]
  ·have JB: ¬((((d1.l[i]).hd 1).l.length:Nat):Int)=0:=J
   have et:jT d1.l[i]= .p (.i 0) (.p (dL (List.replicate ((d1.l[i]).hd 1).l.length (.i 0))) (.p (.i 0) (.p (.i 0) (.p (.i 0) (.p (.i 0) (.i 0)))))):=by unfold jT; rw [ah hz]; rfl
   rw [et];simp only [QK,zz,c1,c2,w,bV dU,JB,c3,c4,bD,aX,bK]
theorem LQ (d1:D) (U:Wd (.sl 4) d1) (hlen:d1.l.length<=16) (s:D):L 1451 [enc d1,(d1.l.length:Int),enc s]=some [enc s,enc (fk d1),0]:=by
 by_cases hn:d1.l.length=0
 ·have c1: ¬(0:Int)<(d1.l.length:Int):=J
  have e:fk d1= .i 1:=by unfold fk; rw [ak hn]
  rw [bM,ZS,e];simp only [QL,zz,c1,bY]
 ·have hp:0<d1.l.length:=J
  have c1:(0:Int)<(d1.l.length:Int):=J
  have e:fk d1=dL (d1.l.map jT):=by unfold fk; rw [ah hn]
  have ih:=Co d1 U hlen s (d1.l.length-1) 1 [jT (d1.l[0]'hp)] J rfl
  have e1:[jT (d1.l[0]'hp)]++(d1.l.drop 1).map jT=d1.l.map jT:=by
   conv=>rhs; rw [<- amP (l:=d1.l),amr hp]
   rfl
  rw [e1,<- e] at ih;have a0:d1.at 0=d1.l[0]'hp:=bV (i:=0) hp;have hb:=yq U _ (aG hp);have c4:((((d1.l[0]'hp).hd 1).l.length:Nat):Int)<17592186044416:=J
  rw [<- ih,bM,ZS];by_cases hz:((d1.l[0]'hp).hd 1).l.length=0
  ·have JB:((((d1.l[0]'hp).hd 1).l.length:Nat):Int)=0:=J
   have et:dL [jT (d1.l[0]'hp)]= .p (.p (.i 0) (.p (.i 2) (.p (.i 0) (.p (.i 0) (.p (.i 0) (.p (.i 0) (.i 0))))))) (.i 0):=by unfold jT; rw [ak hz]; rfl
   rw [et];simp only [QL,zz,c1,a0,JB,jr,aw,bZ,cO,bK,bn]
  ·have JB: ¬((((d1.l[0]'hp).hd 1).l.length:Nat):Int)=0:=J
   have et:dL [jT (d1.l[0]'hp)]= .p (.p (.i 0) (.p (dL (List.replicate ((d1.l[0]'hp).hd 1).l.length (.i 0))) (.p (.i 0) (.p (.i 0) (.p (.i 0) (.p (.i 0) (.i 0))))))) (.i 0):=by unfold jT; rw [ah hz]; rfl
   rw [et];simp only [QL,zz,c1,a0,JB,c4,jr,aw,bZ,cO,aX,bK,bn]
theorem Bm {d0 d1:D} (U:Wd (.sl 4) d1) (hc:L 450 [enc d0,enc d1]=some [0]) (ok:mB d0 d1):L 1450 [enc d0,enc d1]=some [enc (eu d0),enc (fk d1),0]:=by
 have h3:L 300 [enc d0,enc d1]=some [enc (eu d0)]:=by
  by_cases hn:d0.l.length=0
  ·have e:eu d0= .i 1:=by unfold eu; rw [ak hn]
   rw [e];exact n? hc (.inr hn)
  ·have e:eu d0=dL (d0.l.map iS):=by unfold eu; rw [ah hn]
   rw [e];exact o_ hc ok.1 J
 have K:ei (df L (low [enc d0,enc d1])) WX= .jump 1451 [enc d1,(d1.l.length:Int),enc (eu d0)]:=by refine bW [Qfu,Qfv,.eq (a0 300 C4) Q0] [] (ju 1451 [Qb,Qc,rr 300 C4 0]) (by simp only [zz,hc,h3]<;>omega) aa ?_;simp only [zz,h3]
 rw [bM,ZU];exact (congrArg (fin L) K).trans (LQ d1 U ok.2.1 _)
theorem Hw {d0 d1:D} {c:Int} (hc:L 450 [enc d0,enc d1]=some [c]) (h:c≠0):L 1450 [enc d0,enc d1]=some [enc (.i 1),enc (.i 1),c]:=by
 have K:ei (df L (low [enc d0,enc d1])) WX= .out [enc (.i 1),enc (.i 1),c]:=by refine bW [Qfu] [Qfv] (ou [Qh,Qh,rr 450 C4 0]) (by simp only [zz,hc]<;>omega) aa ?_;simp only [zz,hc]
 rw [bM,ZU];exact congrArg (fin L) K
theorem jG {k:D} {t:Int} (t0:0<=t) (ht:t<(k.l.length:Int)) (x:KT):(fK k t x).at t=x.d:=by obtain⟨i,rfl⟩ : ∃i:Nat,t=(i:Int):=⟨t.toNat,J⟩;rw [mJ,bD,vR J];rfl
theorem fZ (k:D) (t:Int) (x:KT):(fK k t x).l.length=k.l.length:=by rw [bD,fY]
theorem sR {d1:D} {t:Int} {x:KT} (ho: ¬gA d1 t x=1) (h: ¬low (gf d1 t x) 4=0): ∃op obj arg tr,gf d1 t x= [op,obj,arg,tr,1]:=by
 unfold gA at ho;unfold gf at h ⊢;by_cases w0:x.w=0
 ·rw [ak w0] at ho h ⊢;by_cases a0:x.a=(Nc d1 t:Int)
  ·rw [ak a0] at ho;omega
  ·rw [ah a0] at h ⊢;by_cases U:((fP d1 t x).hd 0).n=1
   ·rw [ak U];exact⟨_,_,_,_,rfl⟩
   ·rw [ah U] at h ⊢;by_cases Z:((fP d1 t x).hd 0).n=2
    ·rw [ak Z];exact⟨_,_,_,_,rfl⟩
    ·rw [ah Z] at h;exact absurd rfl h
 ·rw [ah w0];exact⟨_,_,_,_,rfl⟩
theorem zu (d1:D) (t:Int) (x:KT):gA d1 t x=0\/gA d1 t x=1:=by
 unfold gA;split
 ·split
  ·exact .inr rfl
  ·exact .inl rfl
 ·exact .inl rfl
theorem zC {d0 d1:D} {t:Int} {x:KT} (C:Cd d0 d1) (R:Rt d0 d1 t x) (hd0:d0.l.length<=64) {op obj arg tr b:Int} (hn:gf d1 t x= [op,obj,arg,tr,b]):eE .u8 op/\eE .i64 obj/\eE .i64 arg:=by
 have z8:eE .u8 0:=⟨J,J⟩;have z:eE .i64 0:=⟨J,J⟩;have ok:=R.ok;unfold gf at hn;by_cases w0:x.w=0
 ·rw [ak w0] at hn;by_cases a0:x.a=(Nc d1 t:Int)
  ·rw [ak a0] at hn;simp only [List.cons.injEq] at hn;obtain⟨rfl,rfl,rfl,_⟩:=hn;exact⟨z8,z,z⟩
  ·have gu:x.a<(Nc d1 t:Int):=by have:=ok.2.1; unfold Nc at a0 ⊢; omega
   have F:=C.inf R gu;rw [ah a0] at hn;by_cases U:((fP d1 t x).hd 0).n=1
   ·rw [ak U] at hn;simp only [List.cons.injEq] at hn;obtain⟨rfl,rfl,rfl,_⟩:=hn;exact⟨F.op,F.ob,aa6 F.ar R.ints⟩
   ·rw [ah U] at hn;by_cases Z:((fP d1 t x).hd 0).n=2
    ·rw [ak Z] at hn;simp only [List.cons.injEq] at hn;obtain⟨rfl,rfl,rfl,_⟩:=hn;exact⟨⟨J,J⟩,F.ob,z⟩
    ·rw [ah Z] at hn;simp only [List.cons.injEq] at hn;obtain⟨rfl,rfl,rfl,_⟩:=hn;exact⟨z8,z,z⟩
 ·rw [ah w0] at hn;simp only [List.cons.injEq] at hn;obtain⟨rfl,rfl,rfl,_⟩:=hn;obtain⟨_,_,_,_,_,hw⟩:=ok;exact⟨⟨J,J⟩,⟨J,J⟩,R.hg⟩
theorem J_ {lc:D} (h:Wd (.sl 0) lc) {z v:Int} (h0:0<=z) (U:z<(lc.l.length:Int)) (hv:eE .i64 v):Wd (.sl 0) (dL (fI lc.l z (.i v))):=by
 have:=h.room;have h3:te 0=8:=rfl;rw [h3] at this;have hs:=fY lc.l z (.i v);refine wA (fun y hy=>?_) (fun he=>?_) (by rw [hs]; omega)
 ·rcases vA hy with h'|rfl
  ·exact (h.el1 rfl y h').i
  grind
 grind
theorem P8 {k:D} (hk:Wd (.sl 8) k) {t:Int} {x:KT} (h: ∃a lc w o g tr,Kt x.d a lc w o g tr) (hp:0<k.l.length):Wd (.sl 8) (fK k t x):=by
 have hf:=hk.room;have h3:te 8=64:=rfl;rw [h3] at hf;have hs:=fY k.l t x.d;refine K8 (fun y hy=>?_) (fun he=>?_) (by rw [hs]; omega)
 ·rcases vA hy with h'|rfl
  ·exact gK hk y h'
  grind
 grind
section
variable {d0 d1 s k:D} {t:Int} {n:Nat} {x:KT}
theorem LW {x:KT} (ha:eE .i64 x.a) (W:Wd (.sl 0) x.lc) (hw:eE .u8 x.w) (ho:eE .i64 x.o) (hg:eE .i64 x.g) (ht:eE .i64 x.tr): ∃a lc w o g tr,Kt x.d a lc w o g tr:=⟨_,_,_,_,_,_,rfl,ha,W,hw,ho,hg,ht⟩
theorem Rt.kt (C:Cd d0 d1) (R:Rt d0 d1 t x): ∃a lc w o g tr,Kt x.d a lc w o g tr:=by obtain⟨a0,a1,_,t0,t1,hw⟩:=R.ok;have hd:=C.ok.1;have hnc:=(C.code R.t0 R.t1).len;exact LW ⟨J,J⟩ R.W ⟨J,J⟩ ⟨J,J⟩ R.hg ⟨J,J⟩
theorem Wj (C:Cd d0 d1) (R:Rt d0 d1 t x) (hx:x.w=0->x.a<(Nc d1 t:Int)) {op e2 e3 e4 oc:Int} (h3:eE .i64 e3) (h4:eE .i64 e4): ∃a lc w o g tr,Kt (j4 (fP d1 t x) x op e2 e3 e4 oc).d a lc w o g tr:=by
 obtain⟨a0,a1,OX,t0,t1,hw⟩:=R.ok;have hd:=C.ok.1;have hnc:=(C.code R.t0 R.t1).len;have ka:eE .i64 x.a:=⟨J,J⟩;have kw:eE .u8 x.w:=⟨J,J⟩;have ko:eE .i64 x.o:=⟨J,J⟩;have kt:eE .i64 x.tr:=⟨J,J⟩;have z:eE .i64 0:=⟨J,J⟩;have z8: ∀v:Int,v=0\/v=24\/v=25->eE .u8 v:=fun v h=> ⟨J,J⟩;unfold j4;split
 ·split
  ·exact LW ka R.W kw ko R.hg (by
    show eE .i64 (if 4611686018427387904<x.tr+1 then 4611686018427387904 else x.tr+1)
    split<;>exact⟨J,J⟩)
  ·exact LW ka R.W kw ko R.hg kt
 ·split
  ·rename_i w0;have F:=C.inf R (hx w0);have ok:=F.ok;have U:=hx w0;unfold Nc at U;unfold OkI at ok;have k1:eE .i64 (x.a+1):=⟨J,J⟩;refine LW ?_ ?_ ?_ ?_ ?_ z
   ·show eE .i64 (if _ then _ else _);split
    ·exact F.to
    grind
   ·show Wd (.sl 0) (if _ then _ else _);split
    ·rename_i hc;refine J_ R.W J ?_ h4
     grind
    ·exact R.W
   all_goals grind
  ·exact LW ka R.W (z8 _ (.inl rfl)) z z z
theorem QQ {k:D} (hp:0<k.l.length) (t:Int) (x:KT):fK k t x≠.i 2:=fun he=>by have:=fZ k t x;rw [he] at this;have e:(D.i 2).l.length=0:=rfl;omega
theorem DN (S:Sx s k n) (C:Cd d0 d1) (R:Rt d0 d1 t x) (ht:t<(k.l.length:Int)) (hx:x.w=0->x.a<(Nc d1 t:Int)) {op obj arg tries e1 e2 e3 e4 e5 oc:Int} {s':D} (A:tk d0 d1 s t op obj arg tries n s' e1 e2 e3 e4 e5 oc) :
 Sx s' (fK k t (j4 (fP d1 t x) x op e2 e3 e4 oc)) (n+1):=by
 have hp:0<k.l.length:=by have:=R.t0; omega
 exact⟨A.gs,P8 S.wk (Wj C R hx A.e3 A.e4) hp,A.n2 S.n2s,QQ hp _ _⟩
theorem F2 (R:Rt d0 d1 t x) (ho:gA d1 t x=0):x.w=0->x.a<(Nc d1 t:Int):=fun w0=>by unfold gA at ho;rw [ak w0] at ho;have:=R.ok.2.1;unfold Nc at ho ⊢;split at ho<;>omega
end
theorem bB: ∀(l:List D) (k v k':D),dj (jS l k v) k'=if k=k' then some v else dj l k'
 |[],k,v,k'=>by
  simp only [jS,dj];by_cases h:k=k'
  ·rw [ak h]; exact ak h
  ·rw [ah h]; exact ah h
 |d::l,k,v,k'=>by
  simp only [jS];by_cases h:jl d=k
  ·rw [ak h];simp only [dj];by_cases Z:k=k'
   ·rw [ak Z]; exact ak Z
   ·rw [ah Z,ah (fun h3=>Z (h.symm.trans h3))]; exact ah Z
  ·rw [ah h];simp only [dj,bB l k v k']
   grind
def rH (m:Int) (l:List D):Prop:=(∀x∈l,0<=x.n/\x.n<m)/\(l.map D.n).Nodup
def iR (N o dn:Int) (rl vl:Nat):Prop:=(N<0->(vl:Int)=0)/\(0<=N->(vl:Int)<=N)/\(o<0\/(rl:Int)=0/\dn=0)
def PR (s:D) (l:List D):Prop:= ∀n:Int,(dj s.l (.i n)=none/\n∉l.map D.n)\/(dj s.l (.i n)=some (.i 1)/\n∈l.map D.n)
theorem Xr {s x:D} {l:List D} (h:PR s l):PR (dL (jS s.l (.i x.n) (.i 1))) (l++ [x]):=fun n=>by
 rw [bD,bB,amK];by_cases hn:x.n=n
 ·rw [ak (by rw [hn])];exact .inr ⟨rfl,anK _ (by simp [hn])⟩
 ·rw [ah (fun h=>hn (by simpa using h))];rcases h n with ⟨U,Z⟩|⟨U,Z⟩
  ·refine .inl ⟨U,fun h3=>?_⟩;rcases amt.1 h3 with h3|h3
   ·exact Z h3
   ·simp only [List.map,aF,amw,or_false] at h3;exact hn h3.symm
  ·exact .inr ⟨U,aoe _ Z⟩
theorem Dm {P Q:Prop} {ys:List Int} (h:P) (hQ:Uq Q ys):Uq (P/\Q) ys:=by
 grind
theorem tN {P Q:Prop} (h: ¬P):Uq (P/\Q) [0]:=zJ fun q=>h q.1
theorem Lt (m:Int) (r:D) (W:r.l.length<=140737488351232) (k xI N x7 x8 o c dn g:Int) (v:D): ∀(j i:Nat) (seen:D),i+j=r.l.length->PR seen (r.l.take i)->rH m (r.l.take i)->
 dS 501 [m,enc r,(r.l.length:Int),(i:Int),k,xI,N,x7,x8,o,c,dn,g,enc v,enc seen] (Uq (rH m r.l/\iR N o dn r.l.length v.l.length))
 |0,i,seen,hi,_,hR=>by
  have c1: ¬(i:Int)<(r.l.length:Int):=J
  rw [am6 J] at hR;refine dS.of ?_;unfold iR;rw [UT];simp only [N5,zz,c1]
  repeat' first
   |exact .out (Dm hR (zJ J))
   |exact .out (Dm hR (RE J))
   |refine .ite (fun _=>?_) (fun _=>?_)
 |j+1,i,seen,hi,hS,hR=>by
  have dU:i<r.l.length:=J
  have c1:(i:Int)<(r.l.length:Int):=J
  have c2: ¬((i:Int)<0):=J
  have w:=bP (n:=i) J;have ht:r.l.take (i+1)=r.l.take i++ [r.l[i]]:=by rw [List.take_add_one,aT dU]; rfl
  have Bw:r.l[i]∈r.l:=aG dU;have ih:=fun h=>Lt m r W k xI N x7 x8 o c dn g v j (i+1) (dL (jS seen.l (.i (r.l[i]).n) (.i 1))) J (by rw [ht]; exact Xr hS) h;refine dS.of ?_;rw [UT];rcases hS (r.l[i]).n with ⟨U,Z⟩|⟨U,Z⟩
  ·simp only [N5,zz,c1,c2,w,bV dU,U,aY,aC];refine .ite (fun q=> .out (tN fun R=>?_)) (fun q=> .ite (fun q2=>?_) (fun q2=> .out (tN fun R=>?_)))
   ·have:=R.1 _ Bw;omega
   ·refine .jump (ih ?_);rw [ht];refine⟨fun x hx=>?_,?_⟩
    ·rcases amt.1 hx with hx|hx
     ·exact hR.1 x hx
     ·simp only [aF,amw,or_false] at hx;subst hx;exact⟨J,q2⟩
    ·rw [amK,anl];refine⟨hR.2,ad,fun a ha b hb=>?_⟩;simp only [List.map,aF,amw,or_false] at hb;subst hb;intro he;subst he;exact Z ha
   ·have:=R.1 _ Bw;omega
  ·simp only [N5,zz,c1,c2,w,bV dU,U,bF]
   have nd: ¬rH m r.l:=fun R=>by
    have hn:=R.2;have e:r.l=r.l.take i++r.l[i]::r.l.drop (i+1):=by rw [<- amr dU,amE]
    rw [e,amK,anl] at hn;exact hn.2.2 _ Z _ (by rw [aH]; exact aof) rfl
   refine .ite (fun q=> .out (tN nd)) (fun q=> .ite (fun q2=> .out (tN nd)) (fun q2=> .out (tN nd)))
theorem T1 (m:Int) (r:D) (W:r.l.length<=140737488351232) (k xI N x7 x8 o c dn g:Int) (v:D) :
 dS 501 [m,enc r,(r.l.length:Int),0,k,xI,N,x7,x8,o,c,dn,g,enc v,enc (.i 0)] (Uq (rH m r.l/\iR N o dn r.l.length v.l.length)):=
 Lt m r W k xI N x7 x8 o c dn g v r.l.length 0 (.i 0) J (fun n=> .inl ⟨rfl,ad⟩) ⟨ad,ad⟩
def fA (k N c:Int):Prop:=k=9\/(k=3/\0<=c/\c<=N)\/(k=5/\0<=c/\c<=IntKind.i64.wrap (N-1))\/(k=7/\0<=c/\c<=1099511627776)\/(k≠3/\k≠5/\k≠7/\k≠9/\c=0)
theorem aae (k x1 N x3 x4 c:Int): ∃a b:Int,L 650 [k,x1,N,x3,x4]=some [a,b]/\(b=0/\fA k N c\/b=1/\(fA k N c↔0<=c/\c<=a)):=by
 have:dS 650 [k,x1,N,x3,x4] (fun ys=> ∃a b:Int,ys= [a,b]/\(b=0/\fA k N c\/b=1/\(fA k N c↔0<=c/\c<=a))):=by
  unfold fA;refine dS.of ?_;rw [aaG];simp only [O!,zz]
  repeat' first
   |exact .out ⟨_,_,rfl,J⟩
   |refine .ite (fun _=>?_) (fun _=>?_)
 obtain⟨ys,h,a,b,rfl,Z⟩:=this
 grind
def jC (k N m o c dn g:Int) (rl vl:Nat):Prop:=
 fA k N c/\-1<=o/\o<m/\0<=g/\g<=4611686018427387904/\(0<=o->k=1\/k=2\/k=6)/\(0<(rl:Int)->k=4\/k=2)/\(0<(vl:Int)->k=8)/\(dn≠0->k=6)/\(0<g->k=5)
def mY (k N m o c dn g:Int) (r v:D):Prop:=jC k N m o c dn g r.l.length v.l.length/\rH m r.l/\iR N o dn r.l.length v.l.length
set_option maxHeartbeats 4000000 in
theorem Xl (k x1 N x3 x4 m o c dn g:Int) (r v:D) (W:r.l.length<=140737488351232):dS 500 [k,x1,N,x3,x4,o,c,dn,g,enc r,enc v,m] (Uq (mY k N m o c dn g r v)):=by
 unfold mY jC;obtain⟨a,b,hM,hb⟩:=aae k x1 N x3 x4 c;have ih:=T1 m r W k x1 N x3 x4 o c dn g v;refine dS.of ?_;rw [aaH];generalize fA k N c=H at *;by_cases b0:b=0
 ·subst b0
  have hH:H:=by
   grind
  simp only [WJ,zz,hM]
  repeat' first
   |exact .out (tN J)
   |exact .jump (let ⟨ys,hL,hB⟩:=ih; ⟨ys,hL,Dm ⟨hH,J,J,J,J,J,J,J,J,J⟩ hB⟩)
   |refine .ite (fun _=>?_) (fun _=>?_)
 ·have hH:H↔0<=c/\c<=a:=by
   grind
  simp only [WJ,zz,hM,ah b0]
  repeat' first
   |exact .out (tN fun h=>by first |omega|(have:=hH.1 h.1; omega))
   |exact .jump (let ⟨ys,hL,hB⟩:=ih; ⟨ys,hL,Dm ⟨hH.2 ⟨J,J⟩,J,J,J,J,J,J,J,J,J⟩ hB⟩)
   |refine .ite (fun _=>?_) (fun _=>?_)
theorem aak {P:Prop} {j:Nat} {xs:List Int} (h:dS j xs (Uq P)):L j xs=some [1]↔P:=by
 obtain⟨ys,hL,b,rfl,hb⟩:=h
 grind
theorem Xm {d x:D} {m:Nat} {o c dn g:Int} {r v:D} (T:Tg x o c dn g r v) (W:r.l.length<=140737488351232):Snd d x m↔mY (d.hd 0).n (d.hd 2).n (m:Int) o c dn g r v:=by
 have h:=aak (Xl (d.hd 0).n (enc (d.hd 1)) (d.hd 2).n (enc (d.hd 3)) (d.hd 4).n (m:Int) o c dn g r v W)
 have e:(if dn=0 then (0:Int) else 1)=dn:=by rcases T.hd with rfl|rfl<;>rfl
 unfold Snd Q!;rw [T.is];simp only [zg,ax,nD,e];exact h
theorem I6 {m:Int} {l l':List D} (h:rH m l) (hs:l'.Sublist l):rH m l':=⟨fun x hx=>h.1 x (hs.subset hx),h.2.sublist (hs.map _)⟩
theorem T! (m:Int):rH m []:=⟨ad,ad⟩
theorem Ls {m t:Int} {l:List D} (h:rH m l) (hn: ∀x∈l,x.n≠t) (t0:0<=t) (t1:t<m):rH m (l++ [.i t]):=by
 refine⟨fun x hx=>?_,?_⟩
 ·rcases amt.1 hx with hx|hx
  ·exact h.1 x hx
  ·simp only [aF,amw,or_false] at hx;subst hx;exact⟨t0,t1⟩
 ·rw [amK,anl];refine⟨h.2,ad,fun a ha b hb=>?_⟩;simp only [List.map,aF,amw,or_false,nD] at hb
  grind
theorem aew {m t:Int} {l:List D} (h:rH m l) (t0:0<=t) (t1:t<m):rH m (wo t l++ [.i t]):=
 Ls (I6 h List.filter_sublist) (fun x hx=>by simpa using (amM.1 hx).2) t0 t1
theorem T? {m:Int} {l:List D} (h:rH m l) (k:Nat):rH m (l.take k++l.drop (k+1)):=by rw [<- anr];exact I6 h (List.eraseIdx_sublist _ _)
theorem Ei {r:D} {t:Int} (h:place r t<0): ∀x∈r.l,x.n≠t:=by
 rcases kY r t with ⟨_,Z⟩|⟨k,_,U,_⟩
 all_goals grind
def Vh (k N m:Int):Act->Prop
 | .res o c dn g r v _ _ _=>mY k N m o c dn g r v
 |_=>True
theorem Vh.ite {k N m:Int} {p:Prop} [Decidable p] {a b:Act} (ha:p->Vh k N m a) (hb: ¬p->Vh k N m b):Vh k N m (if p then a else b):=by
 grind
theorem tK {op k:Int} (h0:0<=op) (hk:kindOf op=k) (U:1<=k) :
 (op=1\/op=2\/op=3\/op=4)/\k=1\/(op=5\/op=6\/op=7\/op=8)/\k=2\/(op=9\/op=10\/op=11)/\k=3\/(op=12\/op=13\/op=14\/op=24)/\k=4\/(op=15\/op=25)/\k=5\/(op=16\/op=26)/\k=6\/(op=17\/op=18\/op=19)/\k=7\/(op=20\/op=21)/\k=8\/(op=22\/op=23)/\k=9:=by
 unfold kindOf at hk;by_cases h27:op<27
 ·have:op=0\/op=1\/op=2\/op=3\/op=4\/op=5\/op=6\/op=7\/op=8\/op=9\/op=10\/op=11\/op=12\/op=13\/op=14\/op=15\/op=16\/op=17\/op=18\/op=19\/op=20\/op=21\/op=22\/op=23\/op=24\/op=25\/op=26:=J
  rcases this with rfl|rfl|rfl|rfl|rfl|rfl|rfl|rfl|rfl|rfl|rfl|rfl|rfl|rfl|rfl|rfl|rfl|rfl|rfl|rfl|rfl|rfl|rfl|rfl|rfl|rfl|rfl
  all_goals simp at hk
  all_goals subst hk
  all_goals first |omega|simp
 grind
section
variable {d0 x:D} {k N m mo th op arg tries o c dn g:Int} {r v:D}
set_option maxHeartbeats 8000000 in
theorem aba (T:Tg x o c dn g r v) (S:mY k N m o c dn g r v) (oa:0<=op) (hk:kindOf op=k) (hO:pU d0 k N) (t0:0<=th) (t1:th<m) (hm:m<=16):Vh k N m (act N mo th op arg tries o c dn g r v):=by
 obtain⟨P,R,E⟩:=S;have HQ:=T.hc.1;have KV:=T.hc.2;have hg1:=T.hg.1;have hd:=T.hd;have pr:=gE r th;have pn:=fun h=>Ei (r:=r) (t:=th) h;have rs:=fun h=>Ls R (Ei (r:=r) (t:=th) h) t0 t1;have I3:=aew R t0 t1
 have rd:=T? R (place r th).toNat
 have r1:=I6 R (List.drop_sublist 1 r.l);obtain⟨k1,k2,_,kn,k5,_⟩:=hO;unfold jC fA at P;unfold iR at E;have Mg:=tK oa hk k1;rcases Mg with ⟨h|h|h|h,Gg⟩|⟨h|h|h|h,Gg⟩|⟨h|h|h,Gg⟩|⟨h|h|h|h,Gg⟩|⟨h|h,Gg⟩|⟨h|h,Gg⟩|⟨h|h|h,Gg⟩|⟨h|h,Gg⟩|⟨h|h,Gg⟩
 all_goals
  subst h;subst Gg;simp only [act,Int.reduceEq,if_true,if_false,reduceIte]
  repeat' first
   |exact trivial
   |refine Vh.ite (fun _=>?_) (fun _=>?_)
 all_goals
  refine⟨?_,?_,?_⟩
  ·clear rs I3 rd r1 pn;unfold jC fA
   try simp only [bD,bN,jr,a8,aQ,aA,br,IntKind.wrap_i64,true_or,or_true,true_and,and_true,implies_true,true_implies] at *
   omega
  ·try simp only [bD,bN,jr]
   first
    |exact R
    |exact rs J
    |exact I3
    |exact rd
    |exact r1
    |exact T! _
  ·unfold iR
   try simp only [bD,bN,jr,a8,aQ,aA,br,bh,IntKind.wrap_i64,true_or,or_true,true_and,and_true,implies_true,true_implies] at *
   omega
end
structure amk (d0 d1 s k:D) (t:Int) (n:Nat) (s' k':D) (e1 e2 e3 e4 e5 oc:Int):Prop where
 eq:L 1850 [enc d0,enc d1,enc s,enc k,t]=some [enc s',enc k',e1,e2,e3,e4,e5,oc]
 sx:Sx s' k' (n+1)
 ls:s'.l.length=s.l.length
 lk:k'.l.length=k.l.length
section
variable {d0 d1 s k:D} {n:Nat} (S:Sx s k n) (hn:n<17592186043904) (h0:Wd (.sl 3) d0) (U:Wd (.sl 4) d1)
include S hn h0 U
theorem aeR {t:Int} {x:KT} (R:Rs d0 d1 s k t x) (ho:gA d1 t x=0) (ha:low (gf d1 t x) 4=0):Sx s (fK k t (fF (fP d1 t x) x)) n:=by
 have hp:0<k.l.length:=by have:=R.r.t0; have:=R.ht; omega
 exact⟨S.g,P8 S.wk ((oA R.c R.ht R.r (p9 R.r ho ha)).1.kt R.c) hp,S.n2s,QQ hp _ _⟩
end
def xG (x n:Int):Int:=if x.tmod n<0 then x.tmod n+n else x.tmod n
theorem Lg {x n:Int} (h:0<n): -n<x.tmod n/\x.tmod n<n:=by have U:=ang x h;have Z:=ang (-x) h;rw [Int.neg_tmod] at Z;omega
theorem wK {x n:Int} (h:0<n):0<=xG x n/\xG x n<n:=by
 have:=Lg (x:=x) h;unfold xG
 grind
inductive KK (d0 d1 s:D) (t op obj arg tries:Int):D->Int->Int->Int->Int->Int->Int->Prop
 |no:KK d0 d1 s t op obj arg tries s 0 0 0 0 0 0
 |xq (A:Acc d0 d1 s t op obj):KK d0 d1 s t op obj arg tries s t 27 obj (IntKind.i64.wrap op) 0 2
 |res (A:Acc d0 d1 s t op obj) (o c dn g:Int) (r v:D) (o' c' ia g':Int) (r' v':D) (m:Option Int) (a oc:Int) (T:Tg (s.at obj) o c dn g r v)
  (h:act (Mx d0 obj) (Mo d0 s obj) t op arg tries o c dn g r v= .res o' c' ia g' r' v' m a oc):KK d0 d1 s t op obj arg tries (py s obj (Mx d0 obj) (.res o' c' ia g' r' v' m a oc)) t op obj a 0 oc
section
variable {d0 d1 s s':D} {t op obj arg tries e1 e2 e3 e4 e5 oc:Int} {n:Nat}
theorem DM (h0:Wd (.sl 3) d0) (U:Wd (.sl 4) d1) (G:Gs s n) (hn:n<17592186043904) (oa:eE .u8 op) (A:tk d0 d1 s t op obj arg tries n s' e1 e2 e3 e4 e5 oc):KK d0 d1 s t op obj arg tries s' e1 e2 e3 e4 e5 oc:=by
 have hf:=G.kS (by omega:n<17592186044415);have hA:=A.eq;by_cases h:Acc d0 d1 s t op obj
 ·obtain⟨_,o,c,dn,g,r,v,T,hL⟩:=wC (arg:=arg) (tries:=tries) h0 U G.wd hf oa h;rw [Dg] at hL;rw [hA] at hL
  cases hB:act (Mx d0 obj) (Mo d0 s obj) t op arg tries o c dn g r v with
  |om=> rw [hB] at hL;simp only [evA,an,List.cons.injEq,and_true] at hL;obtain⟨q,rfl,rfl,rfl,rfl,rfl,rfl⟩:=hL;have q:=fg q;subst q;exact .no
  |xq=> rw [hB] at hL;simp only [evA,an,List.cons.injEq,and_true] at hL;obtain⟨q,rfl,rfl,rfl,rfl,rfl,rfl⟩:=hL;have q:=fg q;subst q;exact .xq h
  |res o' c' ia g' r' v' m a oc'=> rw [hB] at hL;simp only [evA,an,List.cons.injEq,and_true] at hL;obtain⟨q,rfl,rfl,rfl,rfl,rfl,rfl⟩:=hL;have q:=fg q;subst q;exact .res h o c dn g r v o' c' ia g' r' v' m _ _ T hB
 ·have hL:=DL (arg:=arg) (tries:=tries) h0 U G.wd hf oa h;rw [hA] at hL;simp only [an,List.cons.injEq,and_true] at hL;obtain⟨q,rfl,rfl,rfl,rfl,rfl,rfl⟩:=hL;have q:=fg q;subst q;exact .no
end
section
variable {d0 d1 s:D} {n:Nat} (h0:Wd (.sl 3) d0) (U:Wd (.sl 4) d1) (G:Gs s n) (hn:n<17592186044000)
include h0 U G hn
theorem zp (R:L 350 [enc d0,enc d1,enc s]=some [1]):L 450 [enc d0,enc d1]=some [0]/\mB d0 d1/\s.l.length=d0.l.length:=by obtain⟨b,hb,_,hi⟩:=kV h0 U (G.kS J).rows;rw [R] at hb;simp only [an,List.cons.injEq,and_true] at hb;obtain⟨hC,hle,_⟩:=hi.1 hb.symm;exact⟨hC,D7 h0 U (G.kS J) R⟩
theorem Bd (R:L 350 [enc d0,enc d1,enc s]=some [1]) {i:Int} (i0:0<=i) (i1:i<(s.l.length:Int)) {o c dn g:Int} {r v:D} (T:Tg (s.at i) o c dn g r v):mY ((d0.at i).hd 0).n ((d0.at i).hd 2).n (d1.l.length:Int) o c dn g r v:=by
 obtain⟨b,hb,_,hi⟩:=kV h0 U (G.kS J).rows;rw [R] at hb;simp only [an,List.cons.injEq,and_true] at hb;obtain⟨_,hle,hs⟩:=hi.1 hb.symm;obtain⟨k,rfl⟩ : ∃k:Nat,i=(k:Int):=⟨i.toNat,J⟩;have hk:k<s.l.length:=J
 have h:=hs k hk;rw [bV hk] at T;have iD:=G.rows _ (aG hk);rw [T.is] at iD;have W:r.l.length<=140737488351232:=by have:=iD.1; have:r.l.length<=n:=this; omega
 rw [Xm T W] at h;rw [bV (by omega:k<d0.l.length)];exact h
theorem ahW (hC:L 450 [enc d0,enc d1]=some [0]) (hle:s.l.length=d0.l.length) (h: ∀i:Nat,i<s.l.length->∃o c dn g r v,Tg (s.at (i:Int)) o c dn g r v/\mY ((d0.at (i:Int)).hd 0).n ((d0.at (i:Int)).hd 2).n (d1.l.length:Int) o c dn g r v):L 350 [enc d0,enc d1,enc s]=some [1]:=by
 obtain⟨b,hb,_,hi⟩:=kV h0 U (G.kS J).rows;rw [hb,hi.2 ⟨hC,hle,fun k hk=>?_⟩];obtain⟨o,c,dn,g,r,v,T,P⟩:=h k hk;rw [bV hk] at T;rw [bV (by omega:k<d0.l.length)] at P;have iD:=G.rows _ (aG hk);rw [T.is] at iD;have W:r.l.length<=140737488351232:=by have:=iD.1; have:r.l.length<=n:=this; omega
 exact (Xm T W).2 P
end
theorem YL {s:D} {n:Nat} (G:Gs s n) {i:Int} (i0:0<=i) (i1:i<(s.l.length:Int)): ∃o c dn g r v,Tg (s.at i) o c dn g r v/\r.l.length<=n/\v.l.length<=n:=by
 obtain⟨k,rfl⟩ : ∃k:Nat,i=(k:Int):=⟨i.toNat,J⟩;have hk:k<s.l.length:=J
 obtain⟨o,c,dn,g,r,v,T⟩:=DO (G.wd.mM _ (aG hk));have iD:=G.rows _ (aG hk);rw [T.is] at iD;exact⟨o,c,dn,g,r,v,by rw [bV hk]; exact T,iD.1,iD.2⟩
def Vi (th:Int):Act->Prop
 | .res _ _ _ _ _ _ m _ _=> ∀q,m=some q->q= -1\/q=th
 |_=>True
theorem Vi.ite {th:Int} {p:Prop} [Decidable p] {a b:Act} (ha:Vi th a) (hb:Vi th b):Vi th (if p then a else b):=by
 grind
theorem ajC {M mo th op arg tries o c dn g:Int} {r v:D}:Vi th (act M mo th op arg tries o c dn g r v):=by
 have e1: ∀q:Int,(none:Option Int)=some q->q= -1\/q=th:=fun q h=>by simp at h
 have e2: ∀q:Int,some (-1:Int)=some q->q= -1\/q=th:=fun q h=>by simp only [an] at h; exact .inl h.symm
 have e3: ∀q:Int,some th=some q->q= -1\/q=th:=fun q h=>by simp only [an] at h; exact .inr h.symm
 unfold act
 repeat' refine Vi.ite ?_ ?_
 all_goals first
  |trivial
  |exact e1
  |exact e2
  |exact e3
theorem BX {s:D} {i:Nat} {x:D} (h:s.l[i]?=some x):s.at (i:Int)=x:=by rw [mJ,h]; rfl
section
variable {d0 d1 s:D} {t op obj arg tries:Int} {n:Nat} (h0:Wd (.sl 3) d0) (U:Wd (.sl 4) d1) (G:Gs s n) (hn:n<17592186043904) (oa:eE .u8 op) (ht:eE .i64 t) (ha:eE .i64 arg)
include h0 U G hn oa ht ha
theorem G7 (A:Acc d0 d1 s t op obj) {o c dn g:Int} {r v:D} (T:Tg (s.at obj) o c dn g r v) {o' c' ia g':Int} {r' v':D} {m:Option Int} {a oc:Int}
 (h:act (Mx d0 obj) (Mo d0 s obj) t op arg tries o c dn g r v= .res o' c' ia g' r' v' m a oc):L 350 [enc d0,enc d1,enc (py s obj (Mx d0 obj) (.res o' c' ia g' r' v' m a oc))]=some [1]:=by
 obtain⟨hC,ok,hle⟩:=zp h0 U G J A.r;have a0:=A.o0;have a1:=A.o1;obtain⟨i,rfl⟩ : ∃i:Nat,obj=(i:Int):=⟨obj.toNat,J⟩;have hi:i<s.l.length:=J
 have hO:=ok.2.2 _ (OF (d:=d0) a0 J)
 have hrv:r.l.length<=n/\v.l.length<=n:=by
  have iD:=G.rows _ (aG hi);have e:s.l[i]=dL [.i o,.i c,.i dn,.i g,r,v]:=by rw [<- bV hi]; exact T.is
  rw [e] at iD;exact iD
 have hS:=Bd h0 U G J A.r a0 a1 T;have hS':=aba (d0:=d0) (mo:=Mo d0 s (i:Int)) (tries:=tries) (arg:=arg) (th:=t) T hS oa.1 A.k hO A.t0 A.t1 (by have:=ok.2.1; omega);have hK:=PO (M:=Mx d0 (i:Int)) (mo:=Mo d0 s (i:Int)) (op:=op) (tries:=tries) T (n:=n) hrv.1 hrv.2 J ht ha;have hQ:=ajC (M:=Mx d0 (i:Int)) (mo:=Mo d0 s (i:Int)) (th:=t) (op:=op) (arg:=arg) (tries:=tries) (o:=o) (c:=c) (dn:=dn) (g:=g) (r:=r) (v:=v)
 have hN:m=none\/op=12\/op=24:=by
  by_cases Z:op=12\/op=24
  ·grind
  ·have:=BZ (M:=Mx d0 (i:Int)) (mo:=Mo d0 s (i:Int)) (th:=t) (op:=op) (arg:=arg) (tries:=tries) (o:=o) (c:=c) (dn:=dn) (g:=g) (r:=r) (v:=v) J J;rw [h] at this;exact .inl this
 rw [h] at hS' hK hQ
 have hM:Vc (.res o' c' ia g' r' v' m a oc)\/0<=Mx d0 (i:Int)/\Mx d0 (i:Int)<(s.l.length:Int)/\Mx d0 (i:Int)≠(i:Int):=by
  rcases hN with Z|Z
  ·exact .inl Z
  ·exact .inr (F5 h0 U G.wd (G.kS J) oa A Z)
 have G':=QY G hK a0 a1 (hM.imp id fun h=> ⟨h.1,h.2.1⟩);have W:=Eg s (i:Int) (Mx d0 (i:Int)) (.res o' c' ia g' r' v' m a oc)
 have hd:(if ia=0 then (0:Int) else 1)=ia:=by rcases hK.2.2.1 with rfl|rfl<;>rfl
 refine ahW h0 U G' J hC (by rw [W]; exact hle) fun j hj=>?_;rw [W] at hj;by_cases hji:j=i
 ·subst hji
  have e:(py s (j:Int) (Mx d0 (j:Int)) (.res o' c' ia g' r' v' m a oc)).at (j:Int)=dL [.i o',.i c',.i ia,.i g',r',v']:=by refine BX ?_;unfold py;rw [bD,hd];exact vR (by cases m with |none=>exact hj|some q=>rw [fY]; exact hj)
  exact⟨o',c',ia,g',r',v',⟨e,hK.1,hK.2.1,hK.2.2.1,hK.2.2.2.1,hK.2.2.2.2.1,hK.2.2.2.2.2.2.1⟩,hS'⟩
 ·by_cases hjm:Vc (.res o' c' ia g' r' v' m a oc)\/(j:Int)≠Mx d0 (i:Int)
  ·have e:(py s (i:Int) (Mx d0 (i:Int)) (.res o' c' ia g' r' v' m a oc)).at (j:Int)=s.at (j:Int):=by
    rw [mJ,mJ,Eh J hjm]
   obtain⟨o2,c2,KY,g2,r2,v2,T2,_,_⟩:=YL G (i:=(j:Int)) J J;exact⟨o2,c2,KY,g2,r2,v2,by rw [e]; exact T2,Bd h0 U G J A.r J J T2⟩
  ·have hj1:(j:Int)=Mx d0 (i:Int):=Decidable.byContradiction fun gB=>hjm (.inr gB)
   cases m with
   |none=>exact absurd (.inl rfl) hjm
   |some q=>
    obtain⟨o2,c2,KY,g2,r2,v2,T2,_,_⟩:=YL G (i:=(j:Int)) J J;have P2:=Bd h0 U G J A.r J J T2
    have nI:((d0.at (j:Int)).hd 0).n=1:=by
     have h4:((d0.at (i:Int)).hd 0).n=4:=by
      rw [<- A.k];rcases hN with Z|Z|Z
      ·grind
      ·rw [Z]; rfl
      ·rw [Z]; rfl
     obtain⟨_,_,m3⟩:=hO.2.2.2.2.2 h4
     grind
    have e:(py s (i:Int) (Mx d0 (i:Int)) (.res o' c' ia g' r' v' (some q) a oc)).at (j:Int)=dL [.i q,.i c2,.i KY,.i g2,r2,v2]:=by refine BX ?_;unfold py;rw [bD,lq J,<- hj1,vR J,T2.is];rfl
    refine⟨q,c2,KY,g2,r2,v2,⟨e,hK.2.2.2.2.2.2.2.2.1 q rfl,T2.hc,T2.hd,T2.hg,T2.hr,T2.hv⟩,?_⟩;have t0:=A.t0;have t1:=A.t1;have hq:=hQ q rfl;rw [nI] at P2 ⊢;obtain⟨p,q2,q3⟩:=P2;unfold jC fA at p;unfold iR at q3;refine⟨?_,q2,?_⟩
    ·unfold jC fA;omega
    ·unfold iR;omega
end
def Vg (op:Int):Act->Prop
 | .res _ _ _ _ _ _ _ _ oc=>oc=2\/oc=3/\(op=12\/op=15)
 |_=>True
theorem Vg.ite {op:Int} {p:Prop} [Decidable p] {a b:Act} (ha:p->Vg op a) (hb: ¬p->Vg op b):Vg op (if p then a else b):=by
 grind
theorem ajB {M mo th op arg tries o c dn g:Int} {r v:D}:Vg op (act M mo th op arg tries o c dn g r v):=by
 unfold act
 repeat' first
  |trivial
  |exact .inl rfl
  |exact .inr ⟨rfl,.inl (by assumption)⟩
  |exact .inr ⟨rfl,.inr (by assumption)⟩
  |refine Vg.ite (fun _=>?_) (fun _=>?_)
section
variable {d0 d1 s s' k:D} {t op obj arg tries e1 e2 e3 e4 e5 oc:Int} {n:Nat} {x:KT}
theorem N2 (C:Cd d0 d1) (R:Rt d0 d1 t x) (hx:x.w=0->x.a<(Nc d1 t:Int)) (hle:s.l.length=d0.l.length) (h3:eE .i64 e3) (h4:eE .i64 e4) (T:KK d0 d1 s t op obj arg tries s' e1 e2 e3 e4 e5 oc):Rt d0 d1 t (j4 (fP d1 t x) x op e2 e3 e4 oc):=by
 obtain⟨a',lc',w',o',g',tr',hK⟩:=Wj (op:=op) (e2:=e2) (oc:=oc) C R hx h3 h4;have hd:=hK.is;simp only [KT.d,bZ,cO,D.p.injEq,D.i.injEq,and_true] at hd;obtain⟨e_a,e_l,e_w,e_o,e_g,e_t⟩:=hd
 have hw3:oc=3->0<=e3/\e3<(d0.l.length:Int)/\(e2=15/\((d0.at e3).hd 0).n=5\/e2≠15/\((d0.at e3).hd 0).n=4):=by
  intro ho
  cases T with
  |no=>omega
  |xq A=>omega
  |res A o c dn g r v o' c' ia g' r' v' m a oc T h=>
   have hW:=ajB (M:=Mx d0 obj) (mo:=Mo d0 s obj) (th:=t) (op:=op) (arg:=arg) (tries:=tries) (o:=o) (c:=c) (dn:=dn) (g:=g) (r:=r) (v:=v);rw [h] at hW;have hk:=A.k;have:=A.o0;have:=A.o1;refine⟨A.o0,J,?_⟩;rcases hW with hW|⟨_,hW|hW⟩
   ·omega
   ·subst hW;exact .inr ⟨J,by rw [<- hk]; rfl⟩
   ·subst hW;exact .inl ⟨rfl,by rw [<- hk]; rfl⟩
 refine⟨R.t0,R.t1,?_,by rw [e_l]; exact hK.W,by rw [e_g]; exact hK.hg⟩;obtain⟨a0,a1,OX,tr0,tr1,hw⟩:=R.ok;unfold j4;by_cases o0:oc=0
 ·rw [ak o0];split
  ·refine⟨a0,a1,OX,?_,?_,hw⟩
   all_goals grind
  ·exact⟨a0,a1,OX,tr0,tr1,hw⟩
 ·rw [ah o0];by_cases w0:x.w=0
  ·rw [ak w0];have c4:=hx w0;have F:=C.inf R c4;have ok:=F.ok;unfold OkI at ok;unfold Nc at c4;have hxo:x.o=0/\x.g=0:=J
   refine⟨?_,?_,?_,am1 _,by show (0:Int)<=4611686018427387904; omega,?_⟩
   ·grind
   ·grind
   ·show ((if ((fP d1 t x).hd 0).n=1/\¬((fP d1 t x).hd 3).n<0 then dL (fI x.lc.l ((fP d1 t x).hd 3).n (.i e4)) else x.lc).l.length:Int)=_;split
    ·rw [bD,fY]; exact OX
    grind
   grind
  ·rw [ah w0];exact⟨a0,a1,OX,am1 _,by show (0:Int)<=4611686018427387904; omega,.inl ⟨rfl,rfl,rfl⟩⟩
end
inductive CP (d0 d1 s k:D) (t:Int) (n:Nat):D->D->Int->Int->Int->Int->Int->Int->Prop
 |no (h:L 1550 [enc d0,enc d1,enc s,enc k,t]=some [0]):CP d0 d1 s k t n s k 0 0 0 0 0 0
 |over (x:KT) (R:Rs d0 d1 s k t x) (ho:gA d1 t x=1):CP d0 d1 s k t n s k 0 0 0 0 0 4
 |loc (x:KT) (R:Rs d0 d1 s k t x) (ho:gA d1 t x=0) (ha:low (gf d1 t x) 4=0):CP d0 d1 s k t n s (fK k t (fF (fP d1 t x) x)) 0 0 0 0 0 1
 |tri (x:KT) (R:Rs d0 d1 s k t x) (ho:gA d1 t x=0) (op obj arg tr:Int) (hq:gf d1 t x= [op,obj,arg,tr,1]) (k1:eE .u8 op) (k2:eE .i64 obj) (k3:eE .i64 arg) (gp:eE .i64 t) (s':D) (e1 e2 e3 e4 e5 oc:Int)
  (A:tk d0 d1 s t op obj arg tr n s' e1 e2 e3 e4 e5 oc) (T:KK d0 d1 s t op obj arg tr s' e1 e2 e3 e4 e5 oc):CP d0 d1 s k t n s' (fK k t (j4 (fP d1 t x) x op e2 e3 e4 oc)) e1 e2 e3 e4 e5 oc
section
variable {d0 d1 s k:D} {n:Nat} (S:Sx s k n) (hn:n<17592186043904) (h0:Wd (.sl 3) d0) (U:Wd (.sl 4) d1)
include S hn h0 U
theorem DZ (t:Int): ∃s' k' e1 e2 e3 e4 e5 oc,L 1850 [enc d0,enc d1,enc s,enc k,t]=some [enc s',enc k',e1,e2,e3,e4,e5,oc]/\CP d0 d1 s k t n s' k' e1 e2 e3 e4 e5 oc:=by
 rcases QV (t:=t) S hn h0 U with h|⟨x,R⟩
 ·exact⟨s,k,0,0,0,0,0,0,P? S h,.no h⟩
 ·rcases zu d1 t x with ho|ho
  ·by_cases ha:low (gf d1 t x) 4=0
   ·exact⟨_,_,0,0,0,0,0,1,Of S R ho ha,.loc x R ho ha⟩
   ·obtain⟨op,obj,arg,tr,hq⟩:=sR J ha;obtain⟨k1,k2,k3⟩:=zC R.c R.r R.c.ok.1 hq
    have gp:eE .i64 t:=by have:=R.r.t0;have:=R.r.t1;have:=U.len;exact⟨J,J⟩
    obtain⟨s',e1,e2,e3,e4,e5,oc,A⟩:=yX (tries:=tr) h0 U S.g hn gp k1 k2 k3;exact⟨s',_,e1,e2,e3,e4,e5,oc,Oe S R ho hq A,.tri x R ho op obj arg tr hq k1 k2 k3 gp s' e1 e2 e3 e4 e5 oc A (DM h0 U S.g hn k1 A)⟩
  ·exact⟨s,k,0,0,0,0,0,4,TM S R ho,.over x R ho⟩
theorem Xi {t:Int} {s' k':D} {e1 e2 e3 e4 e5 oc:Int} (H:CP d0 d1 s k t n s' k' e1 e2 e3 e4 e5 oc):Sx s' k' (n+1)/\s'.l.length=s.l.length/\k'.l.length=k.l.length:=by
 cases H with
 |no h=>exact⟨S.mono (amz n),rfl,rfl⟩
 |over x R ho=>exact⟨S.mono (amz n),rfl,rfl⟩
 |loc x R ho ha=>exact⟨(aeR S hn h0 U R ho ha).mono (amz n),rfl,fZ _ _ _⟩
 |tri x R ho op obj arg tr hq k1 k2 k3 gp s' e1 e2 e3 e4 e5 oc A T=>exact⟨DN S R.c R.r R.ht (F2 R.r ho) A,A.len,fZ _ _ _⟩
omit h0 U in
theorem Jl {t:Int} {x:KT} {s':D} (M:MR d0 d1 s k) (R:Rt d0 d1 t x) (ht:t<(k.l.length:Int)) (hs:L 350 [enc d0,enc d1,enc s']=some [1]):MR d0 d1 s' (fK k t x):=by
 obtain⟨_,hle,hO⟩:=M;refine⟨hs,(fZ k t x).trans hle,fun i hi=>?_⟩;have hi':i<k.l.length:=by rw [fZ] at hi; exact hi
 have t0:=R.t0;obtain⟨j,rfl⟩ : ∃j:Nat,t=(j:Int):=⟨t.toNat,J⟩;by_cases hij:i=j
 ·subst hij
  have e:(fK k (i:Int) x).l[i]=x.d:=by rw [<- bV hi];exact jG J ht x
  have ok:=R.ok;rw [bV (by omega:i<d1.l.length)] at ok;unfold OkK;rw [e];simp only [KT.d,zg,ax,nD];exact ok
 ·have e:(fK k (j:Int) x).l[i]=k.l[i]:=by
   have h:=lq (l:=k.l) (z:=(j:Int)) (y:=x.d) (k:=i) J
   have Z:(fK k (j:Int) x).l[i]?=k.l[i]?:=by show (dL (fI k.l (j:Int) x.d)).l[i]?=_;rw [bD];exact h
   grind
  grind
theorem Xj {t:Int} {s' k':D} {e1 e2 e3 e4 e5 oc:Int} (M:MR d0 d1 s k) (H:CP d0 d1 s k t n s' k' e1 e2 e3 e4 e5 oc):MR d0 d1 s' k':=by
 cases H with
 |no h=>exact M
 |over x R ho=>exact M
 |loc x R ho ha=>exact Jl S hn M (oA R.c R.ht R.r (p9 R.r ho ha)).1 R.ht M.1
 |tri x R ho op obj arg tr hq k1 k2 k3 gp s' e1 e2 e3 e4 e5 oc A T=>
  have hle:=(zp h0 U S.g J M.1).2.2;have hR:=N2 R.c R.r (F2 R.r ho) hle A.e3 A.e4 T;refine Jl S hn M hR R.ht ?_
  cases T with
  |no=>exact M.1
  |xq A'=>exact M.1
  |res A' o c dn g r v o' c' ia g' r' v' m a oc T' h=>exact G7 h0 U S.g hn k1 gp k3 A' T' h
end
theorem MR.thr {d0 d1 s k:D} {n:Nat} (S:Sx s k n) (hn:n<17592186043904) (h0:Wd (.sl 3) d0) (U:Wd (.sl 4) d1) (M:MR d0 d1 s k) {t:Int} (t0:0<=t) (t1:t<(d1.l.length:Int)): ∃x,Rs d0 d1 s k t x:=by
 obtain⟨ys,hL,b,rfl,hb⟩:=Lu (k:=k) h0 U (S.g.kS J).rows U.len t;rcases hb with ⟨_,hb⟩|⟨rfl,_⟩
 ·grind
 ·rcases QV (t:=t) S hn h0 U with h|h
  all_goals grind
noncomputable abbrev foE (d0 d1 s k:D) (t n iw jt ea eb:Int) (x:KT):Nat->Int:=df L (low [t,n,enc d0,enc d1,enc s,enc k,iw,jt,ea,eb,enc s,enc k,x.a,enc x.lc,x.w,x.o,x.g,x.tr])
section
variable {d0 d1 s k:D} {t:Int} {n:Nat} {iw jt ea eb m:Int} {x:KT} (S:Sk s k) (C:Cd d0 d1) (ht:t<(k.l.length:Int))
include S C ht
theorem H9 (R:Rt d0 d1 t x) (hn:20000<m):L 2004 [t,m,enc d0,enc d1,enc s,enc k,iw,jt,ea,eb,enc s,enc k,x.a,enc x.lc,x.w,x.o,x.g,x.tr]=some [enc s,enc k,0]:=by
 have eP:=pO S
 have K:ei (foE d0 d1 s k t m iw jt ea eb x) Lk= .out [enc s,enc k,0]:=by refine bW [.lt (.lit 20000) Qb,.eq (a0 1900 [cK,dv]) Q0] [] (ou [rr 1900 [cK,dv] 0,rr 1900 [cK,dv] 1,Qa]) (by simp only [zz,eP,hn]<;>omega) aa ?_;simp only [zz,eP]
 rw [bM,MP];exact congrArg (fin L) K
theorem Fe (R:Rt d0 d1 t x) (hn: ¬20000<m) (ho:gA d1 t x=1):L 2004 [t,m,enc d0,enc d1,enc s,enc k,iw,jt,ea,eb,enc s,enc k,x.a,enc x.lc,x.w,x.o,x.g,x.tr]=some [enc s,enc k,0]:=by
 have eP:=pO S;have hO:=n7 (s:=s) (k:=fK k t x) (jG R.t0 ht x) (by rw [fZ]; exact ht) R;rw [ho] at hO;simp only [fK,KT.d,bZ,cO] at hO
 have K:ei (foE d0 d1 s k t m iw jt ea eb x) Lk= .out [enc s,enc k,0]:=by refine bW [.eq (a0 1650 pg) Q0,.eq (a0 1900 [cK,dv]) Q0] [.lt (.lit 20000) Qb,DG] (ou [rr 1900 [cK,dv] 0,rr 1900 [cK,dv] 1,Qa]) (by simp only [zz,eP,hn,hO]<;>omega) aa ?_;simp only [zz,eP]
 rw [bM,MP];exact congrArg (fin L) K
theorem BJ (R:Rt d0 d1 t x) (hn: ¬20000<m) (ho:gA d1 t x=0) (ha:low (gf d1 t x) 4=0):L 2004 [t,m,enc d0,enc d1,enc s,enc k,iw,jt,ea,eb,enc s,enc k,x.a,enc x.lc,x.w,x.o,x.g,x.tr]=L 2004 [t,IntKind.i64.wrap (m+1),enc d0,enc d1,enc s,enc k,iw,jt,ea,eb,enc s,enc k,(fF (fP d1 t x) x).a,enc (fF (fP d1 t x) x).lc,(fF (fP d1 t x) x).w,(fF (fP d1 t x) x).o,(fF (fP d1 t x) x).g,(fF (fP d1 t x) x).tr]:=by
 have hO:=n7 (s:=s) (k:=fK k t x) (jG R.t0 ht x) (by rw [fZ]; exact ht) R;have hN:=wP (s:=s) (k:=fK k t x) C (jG R.t0 ht x) (by rw [fZ]; exact ht) R;have Lc:=p9 R ho ha;rw [ho] at hO;simp only [fK,KT.d,bZ,cO] at hO hN
 have hw:(fF (fP d1 t x) x).w=x.w/\(fF (fP d1 t x) x).o=x.o/\(fF (fP d1 t x) x).g=x.g/\(fF (fP d1 t x) x).tr=x.tr:=by
  unfold fF
  repeat' split
  all_goals exact⟨rfl,rfl,rfl,rfl⟩
 have W:=LS (s:=s) (k:=k) C ht R Lc
 have K:ei (foE d0 d1 s k t m iw jt ea eb x) Lk= .jump 2004 [t,IntKind.i64.wrap (m+1),enc d0,enc d1,enc s,enc k,iw,jt,ea,eb,enc s,enc k,(fF (fP d1 t x) x).a,enc (fF (fP d1 t x) x).lc,(fF (fP d1 t x) x).w,(fF (fP d1 t x) x).o,(fF (fP d1 t x) x).g,(fF (fP d1 t x) x).tr]:=by refine bW [.eq (a0 1650 pg) Q0,DG,.eq (a0 1750 pg) Q0,Gm,.eq (a0 14000 Te) Q0,.eq (rr 14000 Te 0) Qa] [.lt (.lit 20000) Qb] (ju 2004 [Qf,pE,Qo,Qm,cK,dv,eK,ib,jo,kb,qN,oP,rr 14000 Te 12,rr 14000 Te 13,wu,IF,I',VP]) (by simp only [zz,hn,hO,hN,ha,W]<;>omega) aa ?_;simp only [zz,W,hw]
 rw [bM,MP];exact congrArg (fin L) K
theorem BI (R:Rt d0 d1 t x) (hn: ¬20000<m) (ho:gA d1 t x=0) {op obj arg tr QF e1 e2 e3 e4 e5 oc:Int} {s':D} (ha:gf d1 t x= [op,obj,arg,tr,1]) (B!:QF=if iw=4/\ea=0 then 4611686018427387904 else 0)
 (A:tk d0 d1 s t op obj arg QF n s' e1 e2 e3 e4 e5 oc):L 2004 [t,m,enc d0,enc d1,enc s,enc k,iw,jt,ea,eb,enc s,enc k,x.a,enc x.lc,x.w,x.o,x.g,x.tr]=some (if oc≠0/\e1=t/\e2=iw/\e3=jt/\e4=ea/\e5=eb then [enc s',enc (fK k t (j4 (fP d1 t x) x op e2 e3 e4 oc)),1] else [enc s,enc k,0]):=by
 have eP:=pO S;have hO:=n7 (s:=s) (k:=fK k t x) (jG R.t0 ht x) (by rw [fZ]; exact ht) R;have hN:=wP (s:=s) (k:=fK k t x) C (jG R.t0 ht x) (by rw [fZ]; exact ht) R;rw [ho] at hO;rw [ha] at hN;simp only [fK,KT.d,bZ,cO] at hO hN
 have hx:x.w=0->x.a<(Nc d1 t:Int):=fun w0=>by unfold gA at ho;rw [ak w0] at ho;have:=R.ok.2.1;unfold Nc at ho ⊢;split at ho<;>omega
 have hE:D! e1 e2 e3 e4 e5 oc= [e1,e2,e3,e4,e5]:=by
  unfold D!;split
  ·rename_i h0;obtain⟨_,rfl,rfl,rfl,rfl,rfl⟩:=A.no h0;rfl
  ·rfl
 have W:=Ld (k:=k) C ht R A.eq (fun h=>(A.no h).1) hx;rw [hE] at W;simp only [aW,aw] at W
 have K:ei (foE d0 d1 s k t m iw jt ea eb x) Lk= .out (if oc≠0/\e1=t/\e2=iw/\e3=jt/\e4=ea/\e5=eb then [enc s',enc (fK k t (j4 (fP d1 t x) x op e2 e3 e4 oc)),1] else [enc s,enc k,0]):=by
  by_cases q4:iw=4
  ·by_cases qa:ea=0
   ·have et:QF=4611686018427387904:=by rw [B!,ak ⟨q4,qa⟩]
    rw [et] at W;by_cases o0:oc=0
    ·rw [ah (fun h=>h.1 o0)];refine bW [.eq (a0 1650 pg) Q0,DG,.eq (a0 1750 pg) Q0,.eq eK nZ,Nq,.eq (a0 14500 jZ) Q0,.eq (rr 14500 jZ 0) Qa,.eq (rr 14500 jZ 21) Qa,.eq (a0 1900 [cK,dv]) Q0] [.lt (.lit 20000) Qb,Gm] (ou [rr 1900 [cK,dv] 0,rr 1900 [cK,dv] 1,Qa]) (by simp only [zz,hn,hO,hN,W,q4,qa,o0,eP]<;>omega) aa ?_;simp only [zz,eP]
    ·by_cases qe:e1=t/\e2=iw/\e3=jt/\e4=ea/\e5=eb
     ·rw [ak ⟨o0,qe⟩];refine bW [.eq (a0 1650 pg) Q0,DG,.eq (a0 1750 pg) Q0,.eq eK nZ,Nq,.eq (a0 14500 jZ) Q0,.eq (rr 14500 jZ 0) Qa,.and (.eq (rr 14500 jZ 16) Qf) (.and (.eq (rr 14500 jZ 17) eK) (.and (.eq (rr 14500 jZ 18) ib) (.and (.eq (rr 14500 jZ 19) jo) (.eq (rr 14500 jZ 20) kb))))] [.lt (.lit 20000) Qb,Gm,.eq (rr 14500 jZ 21) Qa] (ou [rr 14500 jZ 22,.op .set oP (cn (mk Qf) (cn (mk (rr 14500 jZ 23)) (cn (rr 14500 jZ 24) (cn (mk (rr 14500 jZ 25)) (cn (mk (rr 14500 jZ 26)) (cn (mk (rr 14500 jZ 27)) (cn (mk (rr 14500 jZ 28)) gS))))))),Q0]) (by simp only [zz,hn,hO,hN,W,q4,qa,o0,dO,qe,and_self,eP]<;>omega) aa ?_;simp only [zz,hN,W,fK,KT.d,bZ,cO]
     ·rw [ah (fun h=>qe h.2)];refine bW [.eq (a0 1650 pg) Q0,DG,.eq (a0 1750 pg) Q0,.eq eK nZ,Nq,.eq (a0 14500 jZ) Q0,.eq (rr 14500 jZ 0) Qa,.eq (a0 1900 [cK,dv]) Q0] [.lt (.lit 20000) Qb,Gm,.eq (rr 14500 jZ 21) Qa,.and (.eq (rr 14500 jZ 16) Qf) (.and (.eq (rr 14500 jZ 17) eK) (.and (.eq (rr 14500 jZ 18) ib) (.and (.eq (rr 14500 jZ 19) jo) (.eq (rr 14500 jZ 20) kb))))] (ou [rr 1900 [cK,dv] 0,rr 1900 [cK,dv] 1,Qa]) (by simp only [zz,hn,hO,hN,W,q4,qa,o0,dO,qe,eP]<;>omega) aa ?_;simp only [zz,eP]
   ·have et:QF=0:=by rw [B!,ah (fun h=>qa h.2)]
    rw [et] at W;by_cases o0:oc=0
    ·rw [ah (fun h=>h.1 o0)];refine bW [.eq (a0 1650 pg) Q0,DG,.eq (a0 1750 pg) Q0,.eq eK nZ,.eq (a0 14500 fH) Q0,.eq (rr 14500 fH 0) Qa,.eq (rr 14500 fH 21) Qa,.eq (a0 1900 [cK,dv]) Q0] [.lt (.lit 20000) Qb,Gm,Nq] (ou [rr 1900 [cK,dv] 0,rr 1900 [cK,dv] 1,Qa]) (by simp only [zz,hn,hO,hN,W,q4,qa,o0,eP]<;>omega) aa ?_;simp only [zz,eP]
    ·by_cases qe:e1=t/\e2=iw/\e3=jt/\e4=ea/\e5=eb
     ·rw [ak ⟨o0,qe⟩];refine bW [.eq (a0 1650 pg) Q0,DG,.eq (a0 1750 pg) Q0,.eq eK nZ,.eq (a0 14500 fH) Q0,.eq (rr 14500 fH 0) Qa,.and (.eq (rr 14500 fH 16) Qf) (.and (.eq (rr 14500 fH 17) eK) (.and (.eq (rr 14500 fH 18) ib) (.and (.eq (rr 14500 fH 19) jo) (.eq (rr 14500 fH 20) kb))))] [.lt (.lit 20000) Qb,Gm,Nq,.eq (rr 14500 fH 21) Qa] (ou [rr 14500 fH 22,.op .set oP (cn (mk Qf) (cn (mk (rr 14500 fH 23)) (cn (rr 14500 fH 24) (cn (mk (rr 14500 fH 25)) (cn (mk (rr 14500 fH 26)) (cn (mk (rr 14500 fH 27)) (cn (mk (rr 14500 fH 28)) gS))))))),Q0]) (by simp only [zz,hn,hO,hN,W,q4,qa,o0,dO,qe,and_self,eP]<;>omega) aa ?_;simp only [zz,hN,W,fK,KT.d,bZ,cO]
     ·rw [ah (fun h=>qe h.2)];refine bW [.eq (a0 1650 pg) Q0,DG,.eq (a0 1750 pg) Q0,.eq eK nZ,.eq (a0 14500 fH) Q0,.eq (rr 14500 fH 0) Qa,.eq (a0 1900 [cK,dv]) Q0] [.lt (.lit 20000) Qb,Gm,Nq,.eq (rr 14500 fH 21) Qa,.and (.eq (rr 14500 fH 16) Qf) (.and (.eq (rr 14500 fH 17) eK) (.and (.eq (rr 14500 fH 18) ib) (.and (.eq (rr 14500 fH 19) jo) (.eq (rr 14500 fH 20) kb))))] (ou [rr 1900 [cK,dv] 0,rr 1900 [cK,dv] 1,Qa]) (by simp only [zz,hn,hO,hN,W,q4,qa,o0,dO,qe,eP]<;>omega) aa ?_;simp only [zz,eP]
  ·have et:QF=0:=by rw [B!,ah (fun h=>q4 h.1)]
   rw [et] at W;by_cases o0:oc=0
   ·rw [ah (fun h=>h.1 o0)];refine bW [.eq (a0 1650 pg) Q0,DG,.eq (a0 1750 pg) Q0,.eq (a0 14500 fH) Q0,.eq (rr 14500 fH 0) Qa,.eq (rr 14500 fH 21) Qa,.eq (a0 1900 [cK,dv]) Q0] [.lt (.lit 20000) Qb,Gm,.eq eK nZ] (ou [rr 1900 [cK,dv] 0,rr 1900 [cK,dv] 1,Qa]) (by simp only [zz,hn,hO,hN,W,q4,o0,eP]<;>omega) aa ?_;simp only [zz,eP]
   ·by_cases qe:e1=t/\e2=iw/\e3=jt/\e4=ea/\e5=eb
    ·rw [ak ⟨o0,qe⟩];refine bW [.eq (a0 1650 pg) Q0,DG,.eq (a0 1750 pg) Q0,.eq (a0 14500 fH) Q0,.eq (rr 14500 fH 0) Qa,.and (.eq (rr 14500 fH 16) Qf) (.and (.eq (rr 14500 fH 17) eK) (.and (.eq (rr 14500 fH 18) ib) (.and (.eq (rr 14500 fH 19) jo) (.eq (rr 14500 fH 20) kb))))] [.lt (.lit 20000) Qb,Gm,.eq eK nZ,.eq (rr 14500 fH 21) Qa] (ou [rr 14500 fH 22,.op .set oP (cn (mk Qf) (cn (mk (rr 14500 fH 23)) (cn (rr 14500 fH 24) (cn (mk (rr 14500 fH 25)) (cn (mk (rr 14500 fH 26)) (cn (mk (rr 14500 fH 27)) (cn (mk (rr 14500 fH 28)) gS))))))),Q0]) (by simp only [zz,hn,hO,hN,W,q4,o0,dO,qe,and_self,eP]<;>omega) aa ?_;simp only [zz,hN,W,fK,KT.d,bZ,cO]
    ·rw [ah (fun h=>qe h.2)];refine bW [.eq (a0 1650 pg) Q0,DG,.eq (a0 1750 pg) Q0,.eq (a0 14500 fH) Q0,.eq (rr 14500 fH 0) Qa,.eq (a0 1900 [cK,dv]) Q0] [.lt (.lit 20000) Qb,Gm,.eq eK nZ,.eq (rr 14500 fH 21) Qa,.and (.eq (rr 14500 fH 16) Qf) (.and (.eq (rr 14500 fH 17) eK) (.and (.eq (rr 14500 fH 18) ib) (.and (.eq (rr 14500 fH 19) jo) (.eq (rr 14500 fH 20) kb))))] (ou [rr 1900 [cK,dv] 0,rr 1900 [cK,dv] 1,Qa]) (by simp only [zz,hn,hO,hN,W,q4,o0,dO,qe,eP]<;>omega) aa ?_;simp only [zz,eP]
 rw [bM,MP];exact congrArg (fin L) K
theorem H8 (R:Rt d0 d1 t x) (hz:x.lc.l.length=0) (hn:20000<m):L 2005 [t,m,enc d0,enc d1,enc s,enc k,iw,jt,ea,eb,enc s,enc k,x.a,enc x.lc,x.w,x.o,x.g,x.tr]=some [enc s,enc k,0]:=by
 have eP:=pO S
 have K:ei (foE d0 d1 s k t m iw jt ea eb x) Lj= .out [enc s,enc k,0]:=by refine bW [.lt (.lit 20000) Qb,.eq (a0 1900 [cK,dv]) Q0] [] (ou [rr 1900 [cK,dv] 0,rr 1900 [cK,dv] 1,Qa]) (by simp only [zz,eP,hn]<;>omega) aa ?_;simp only [zz,eP]
 rw [bM,MO];exact congrArg (fin L) K
theorem Fc (R:Rt d0 d1 t x) (hz:x.lc.l.length=0) (hn: ¬20000<m) (ho:gA d1 t x=1):L 2005 [t,m,enc d0,enc d1,enc s,enc k,iw,jt,ea,eb,enc s,enc k,x.a,enc x.lc,x.w,x.o,x.g,x.tr]=some [enc s,enc k,0]:=by
 have eP:=pO S;have hO:=n7 (s:=s) (k:=fK k t x) (jG R.t0 ht x) (by rw [fZ]; exact ht) R;rw [ho] at hO;simp only [fK,KT.d,bZ,cO] at hO
 have K:ei (foE d0 d1 s k t m iw jt ea eb x) Lj= .out [enc s,enc k,0]:=by refine bW [.eq (a0 1650 pg) Q0,.eq (a0 1900 [cK,dv]) Q0] [.lt (.lit 20000) Qb,DG] (ou [rr 1900 [cK,dv] 0,rr 1900 [cK,dv] 1,Qa]) (by simp only [zz,eP,hn,hO]<;>omega) aa ?_;simp only [zz,eP]
 rw [bM,MO];exact congrArg (fin L) K
theorem BH (R:Rt d0 d1 t x) (hz:x.lc.l.length=0) (hn: ¬20000<m) (ho:gA d1 t x=0) (ha:low (gf d1 t x) 4=0):L 2005 [t,m,enc d0,enc d1,enc s,enc k,iw,jt,ea,eb,enc s,enc k,x.a,enc x.lc,x.w,x.o,x.g,x.tr]=L 2005 [t,IntKind.i64.wrap (m+1),enc d0,enc d1,enc s,enc k,iw,jt,ea,eb,enc s,enc k,(fF (fP d1 t x) x).a,enc (fF (fP d1 t x) x).lc,(fF (fP d1 t x) x).w,(fF (fP d1 t x) x).o,(fF (fP d1 t x) x).g,(fF (fP d1 t x) x).tr]:=by
 have hO:=n7 (s:=s) (k:=fK k t x) (jG R.t0 ht x) (by rw [fZ]; exact ht) R;have hN:=wP (s:=s) (k:=fK k t x) C (jG R.t0 ht x) (by rw [fZ]; exact ht) R;have Lc:=p9 R ho ha;rw [ho] at hO;simp only [fK,KT.d,bZ,cO] at hO hN
 have hw:(fF (fP d1 t x) x).w=x.w/\(fF (fP d1 t x) x).o=x.o/\(fF (fP d1 t x) x).g=x.g/\(fF (fP d1 t x) x).tr=x.tr:=by
  unfold fF
  repeat' split
  all_goals exact⟨rfl,rfl,rfl,rfl⟩
 obtain⟨W,hc⟩:=LR (s:=s) (k:=k) C ht R Lc hz
 have K:ei (foE d0 d1 s k t m iw jt ea eb x) Lj= .jump 2005 [t,IntKind.i64.wrap (m+1),enc d0,enc d1,enc s,enc k,iw,jt,ea,eb,enc s,enc k,(fF (fP d1 t x) x).a,enc (fF (fP d1 t x) x).lc,(fF (fP d1 t x) x).w,(fF (fP d1 t x) x).o,(fF (fP d1 t x) x).g,(fF (fP d1 t x) x).tr]:=by refine bW [.eq (a0 1650 pg) Q0,DG,.eq (a0 1750 pg) Q0,Gm,.eq (a0 14050 Te) Q0,.eq (rr 14050 Te 0) Qa] [.lt (.lit 20000) Qb] (ju 2005 [Qf,pE,Qo,Qm,cK,dv,eK,ib,jo,kb,qN,oP,rr 14050 Te 12,sk,wu,IF,I',VP]) (by simp only [zz,hn,hO,hN,ha,W]<;>omega) aa ?_;simp only [zz,W,hw,hc]
 rw [bM,MO];exact congrArg (fin L) K
theorem BG (R:Rt d0 d1 t x) (hz:x.lc.l.length=0) (hn: ¬20000<m) (ho:gA d1 t x=0) {op obj arg tr QF e1 e2 e3 e4 e5 oc:Int} {s':D} (ha:gf d1 t x= [op,obj,arg,tr,1]) (B!:QF=if iw=4/\ea=0 then 4611686018427387904 else 0)
 (A:tk d0 d1 s t op obj arg QF n s' e1 e2 e3 e4 e5 oc):L 2005 [t,m,enc d0,enc d1,enc s,enc k,iw,jt,ea,eb,enc s,enc k,x.a,enc x.lc,x.w,x.o,x.g,x.tr]=some (if oc≠0/\e1=t/\e2=iw/\e3=jt/\e4=ea/\e5=eb then [enc s',enc (fK k t (j4 (fP d1 t x) x op e2 e3 e4 oc)),1] else [enc s,enc k,0]):=by
 have eP:=pO S;have hO:=n7 (s:=s) (k:=fK k t x) (jG R.t0 ht x) (by rw [fZ]; exact ht) R;have hN:=wP (s:=s) (k:=fK k t x) C (jG R.t0 ht x) (by rw [fZ]; exact ht) R;rw [ho] at hO;rw [ha] at hN;simp only [fK,KT.d,bZ,cO] at hO hN
 have hx:x.w=0->x.a<(Nc d1 t:Int):=fun w0=>by unfold gA at ho;rw [ak w0] at ho;have:=R.ok.2.1;unfold Nc at ho ⊢;split at ho<;>omega
 have hE:D! e1 e2 e3 e4 e5 oc= [e1,e2,e3,e4,e5]:=by
  unfold D!;split
  ·rename_i h0;obtain⟨_,rfl,rfl,rfl,rfl,rfl⟩:=A.no h0;rfl
  ·rfl
 obtain⟨W,hc⟩:=Lb (k:=k) C ht R A.eq (fun h=>(A.no h).1) hx hz;rw [hE] at W;simp only [aW,aw] at W
 have K:ei (foE d0 d1 s k t m iw jt ea eb x) Lj= .out (if oc≠0/\e1=t/\e2=iw/\e3=jt/\e4=ea/\e5=eb then [enc s',enc (fK k t (j4 (fP d1 t x) x op e2 e3 e4 oc)),1] else [enc s,enc k,0]):=by
  by_cases q4:iw=4
  ·by_cases qa:ea=0
   ·have et:QF=4611686018427387904:=by rw [B!,ak ⟨q4,qa⟩]
    rw [et] at W;by_cases o0:oc=0
    ·rw [ah (fun h=>h.1 o0)];refine bW [.eq (a0 1650 pg) Q0,DG,.eq (a0 1750 pg) Q0,.eq eK nZ,Nq,.eq (a0 14550 jZ) Q0,.eq (rr 14550 jZ 0) Qa,.eq (rr 14550 jZ 21) Qa,.eq (a0 1900 [cK,dv]) Q0] [.lt (.lit 20000) Qb,Gm] (ou [rr 1900 [cK,dv] 0,rr 1900 [cK,dv] 1,Qa]) (by simp only [zz,hn,hO,hN,W,q4,qa,o0,eP]<;>omega) aa ?_;simp only [zz,eP]
    ·by_cases qe:e1=t/\e2=iw/\e3=jt/\e4=ea/\e5=eb
     ·rw [ak ⟨o0,qe⟩];refine bW [.eq (a0 1650 pg) Q0,DG,.eq (a0 1750 pg) Q0,.eq eK nZ,Nq,.eq (a0 14550 jZ) Q0,.eq (rr 14550 jZ 0) Qa,.and (.eq (rr 14550 jZ 16) Qf) (.and (.eq (rr 14550 jZ 17) eK) (.and (.eq (rr 14550 jZ 18) ib) (.and (.eq (rr 14550 jZ 19) jo) (.eq (rr 14550 jZ 20) kb))))] [.lt (.lit 20000) Qb,Gm,.eq (rr 14550 jZ 21) Qa] (ou [rr 14550 jZ 22,.op .set oP (cn (mk Qf) (cn (mk (rr 14550 jZ 23)) (cn sk (cn (mk (rr 14550 jZ 24)) (cn (mk (rr 14550 jZ 25)) (cn (mk (rr 14550 jZ 26)) (cn (mk (rr 14550 jZ 27)) gS))))))),Q0]) (by simp only [zz,hn,hO,hN,W,q4,qa,o0,dO,qe,and_self,eP]<;>omega) aa ?_;simp only [zz,hN,W,fK,KT.d,bZ,cO,hc]
     ·rw [ah (fun h=>qe h.2)];refine bW [.eq (a0 1650 pg) Q0,DG,.eq (a0 1750 pg) Q0,.eq eK nZ,Nq,.eq (a0 14550 jZ) Q0,.eq (rr 14550 jZ 0) Qa,.eq (a0 1900 [cK,dv]) Q0] [.lt (.lit 20000) Qb,Gm,.eq (rr 14550 jZ 21) Qa,.and (.eq (rr 14550 jZ 16) Qf) (.and (.eq (rr 14550 jZ 17) eK) (.and (.eq (rr 14550 jZ 18) ib) (.and (.eq (rr 14550 jZ 19) jo) (.eq (rr 14550 jZ 20) kb))))] (ou [rr 1900 [cK,dv] 0,rr 1900 [cK,dv] 1,Qa]) (by simp only [zz,hn,hO,hN,W,q4,qa,o0,dO,qe,eP]<;>omega) aa ?_;simp only [zz,eP]
   ·have et:QF=0:=by rw [B!,ah (fun h=>qa h.2)]
    rw [et] at W;by_cases o0:oc=0
    ·rw [ah (fun h=>h.1 o0)];refine bW [.eq (a0 1650 pg) Q0,DG,.eq (a0 1750 pg) Q0,.eq eK nZ,.eq (a0 14550 fH) Q0,.eq (rr 14550 fH 0) Qa,.eq (rr 14550 fH 21) Qa,.eq (a0 1900 [cK,dv]) Q0] [.lt (.lit 20000) Qb,Gm,Nq] (ou [rr 1900 [cK,dv] 0,rr 1900 [cK,dv] 1,Qa]) (by simp only [zz,hn,hO,hN,W,q4,qa,o0,eP]<;>omega) aa ?_;simp only [zz,eP]
    ·by_cases qe:e1=t/\e2=iw/\e3=jt/\e4=ea/\e5=eb
     ·rw [ak ⟨o0,qe⟩];refine bW [.eq (a0 1650 pg) Q0,DG,.eq (a0 1750 pg) Q0,.eq eK nZ,.eq (a0 14550 fH) Q0,.eq (rr 14550 fH 0) Qa,.and (.eq (rr 14550 fH 16) Qf) (.and (.eq (rr 14550 fH 17) eK) (.and (.eq (rr 14550 fH 18) ib) (.and (.eq (rr 14550 fH 19) jo) (.eq (rr 14550 fH 20) kb))))] [.lt (.lit 20000) Qb,Gm,Nq,.eq (rr 14550 fH 21) Qa] (ou [rr 14550 fH 22,.op .set oP (cn (mk Qf) (cn (mk (rr 14550 fH 23)) (cn sk (cn (mk (rr 14550 fH 24)) (cn (mk (rr 14550 fH 25)) (cn (mk (rr 14550 fH 26)) (cn (mk (rr 14550 fH 27)) gS))))))),Q0]) (by simp only [zz,hn,hO,hN,W,q4,qa,o0,dO,qe,and_self,eP]<;>omega) aa ?_;simp only [zz,hN,W,fK,KT.d,bZ,cO,hc]
     ·rw [ah (fun h=>qe h.2)];refine bW [.eq (a0 1650 pg) Q0,DG,.eq (a0 1750 pg) Q0,.eq eK nZ,.eq (a0 14550 fH) Q0,.eq (rr 14550 fH 0) Qa,.eq (a0 1900 [cK,dv]) Q0] [.lt (.lit 20000) Qb,Gm,Nq,.eq (rr 14550 fH 21) Qa,.and (.eq (rr 14550 fH 16) Qf) (.and (.eq (rr 14550 fH 17) eK) (.and (.eq (rr 14550 fH 18) ib) (.and (.eq (rr 14550 fH 19) jo) (.eq (rr 14550 fH 20) kb))))] (ou [rr 1900 [cK,dv] 0,rr 1900 [cK,dv] 1,Qa]) (by simp only [zz,hn,hO,hN,W,q4,qa,o0,dO,qe,eP]<;>omega) aa ?_;simp only [zz,eP]
  ·have et:QF=0:=by rw [B!,ah (fun h=>q4 h.1)]
   rw [et] at W;by_cases o0:oc=0
   ·rw [ah (fun h=>h.1 o0)];refine bW [.eq (a0 1650 pg) Q0,DG,.eq (a0 1750 pg) Q0,.eq (a0 14550 fH) Q0,.eq (rr 14550 fH 0) Qa,.eq (rr 14550 fH 21) Qa,.eq (a0 1900 [cK,dv]) Q0] [.lt (.lit 20000) Qb,Gm,.eq eK nZ] (ou [rr 1900 [cK,dv] 0,rr 1900 [cK,dv] 1,Qa]) (by simp only [zz,hn,hO,hN,W,q4,o0,eP]<;>omega) aa ?_;simp only [zz,eP]
   ·by_cases qe:e1=t/\e2=iw/\e3=jt/\e4=ea/\e5=eb
    ·rw [ak ⟨o0,qe⟩];refine bW [.eq (a0 1650 pg) Q0,DG,.eq (a0 1750 pg) Q0,.eq (a0 14550 fH) Q0,.eq (rr 14550 fH 0) Qa,.and (.eq (rr 14550 fH 16) Qf) (.and (.eq (rr 14550 fH 17) eK) (.and (.eq (rr 14550 fH 18) ib) (.and (.eq (rr 14550 fH 19) jo) (.eq (rr 14550 fH 20) kb))))] [.lt (.lit 20000) Qb,Gm,.eq eK nZ,.eq (rr 14550 fH 21) Qa] (ou [rr 14550 fH 22,.op .set oP (cn (mk Qf) (cn (mk (rr 14550 fH 23)) (cn sk (cn (mk (rr 14550 fH 24)) (cn (mk (rr 14550 fH 25)) (cn (mk (rr 14550 fH 26)) (cn (mk (rr 14550 fH 27)) gS))))))),Q0]) (by simp only [zz,hn,hO,hN,W,q4,o0,dO,qe,and_self,eP]<;>omega) aa ?_;simp only [zz,hN,W,fK,KT.d,bZ,cO,hc]
    ·rw [ah (fun h=>qe h.2)];refine bW [.eq (a0 1650 pg) Q0,DG,.eq (a0 1750 pg) Q0,.eq (a0 14550 fH) Q0,.eq (rr 14550 fH 0) Qa,.eq (a0 1900 [cK,dv]) Q0] [.lt (.lit 20000) Qb,Gm,.eq eK nZ,.eq (rr 14550 fH 21) Qa,.and (.eq (rr 14550 fH 16) Qf) (.and (.eq (rr 14550 fH 17) eK) (.and (.eq (rr 14550 fH 18) ib) (.and (.eq (rr 14550 fH 19) jo) (.eq (rr 14550 fH 20) kb))))] (ou [rr 1900 [cK,dv] 0,rr 1900 [cK,dv] 1,Qa]) (by simp only [zz,hn,hO,hN,W,q4,o0,dO,qe,eP]<;>omega) aa ?_;simp only [zz,eP]
 rw [bM,MO];exact congrArg (fin L) K
def aeW (s k:D) (n:Nat) (ys:List Int):Prop:=ys= [enc s,enc k,0]\/∃s' k',ys= [enc s',enc k',1]/\Sx s' k' (n+1)/\s'.l.length=s.l.length/\k'.l.length=k.l.length
end
section
variable {d0 d1 s k:D} {t:Int} {n:Nat} {iw jt ea eb:Int} (S:Sx s k n) (hn:n<17592186043904) (C:Cd d0 d1) (ht:t<(k.l.length:Int))
include S hn C ht
theorem Y4: ∀(j m:Nat) (x:KT),m+j=20001->Rt d0 d1 t x->dS 2004 [t,(m:Int),enc d0,enc d1,enc s,enc k,iw,jt,ea,eb,enc s,enc k,x.a,enc x.lc,x.w,x.o,x.g,x.tr] (aeW s k n)
 |0,m,x,hm,R=> ⟨_,H9 S C ht R J,.inl rfl⟩
 |j+1,m,x,hm,R=>by
  rcases zu d1 t x with ho|ho
  ·by_cases ha:low (gf d1 t x) 4=0
   ·have Lc:=p9 R ho ha;obtain⟨R',yS⟩:=oA C ht R Lc;obtain⟨ys,hL,hy⟩:=Y4 j (m+1) (fF (fP d1 t x) x) J R';refine⟨ys,?_,hy⟩;rw [BJ S C ht R J ho ha,bP J];exact hL
   ·obtain⟨op,obj,arg,tr,hq⟩:=sR J ha;obtain⟨k1,k2,k3⟩:=zC C R C.ok.1 hq
    have gp:eE .i64 t:=by have:=R.t0;have:=R.t1;have:=C.U.len;exact⟨J,J⟩
    obtain⟨s',e1,e2,e3,e4,e5,oc,A⟩:=yX (tries:=if iw=4/\ea=0 then 4611686018427387904 else 0) C.h0 C.U S.g hn gp k1 k2 k3;refine⟨_,BI S C ht R J ho hq rfl A,?_⟩;split
    ·exact .inr ⟨_,_,rfl,DN S C R ht (F2 R ho) A,A.len,fZ _ _ _⟩
    ·exact .inl rfl
  ·exact⟨_,Fe S C ht R J ho,.inl rfl⟩
theorem Y3: ∀(j m:Nat) (x:KT),m+j=20001->Rt d0 d1 t x->x.lc.l.length=0->dS 2005 [t,(m:Int),enc d0,enc d1,enc s,enc k,iw,jt,ea,eb,enc s,enc k,x.a,enc x.lc,x.w,x.o,x.g,x.tr] (aeW s k n)
 |0,m,x,hm,R,hz=> ⟨_,H8 S C ht R hz J,.inl rfl⟩
 |j+1,m,x,hm,R,hz=>by
  rcases zu d1 t x with ho|ho
  ·by_cases ha:low (gf d1 t x) 4=0
   ·have Lc:=p9 R ho ha;obtain⟨R',yS⟩:=oA C ht R Lc;obtain⟨ys,hL,hy⟩:=Y3 j (m+1) (fF (fP d1 t x) x) J R' (by rw [yS]; exact hz);refine⟨ys,?_,hy⟩;rw [BH S C ht R hz J ho ha,bP J];exact hL
   ·obtain⟨op,obj,arg,tr,hq⟩:=sR J ha;obtain⟨k1,k2,k3⟩:=zC C R C.ok.1 hq
    have gp:eE .i64 t:=by have:=R.t0;have:=R.t1;have:=C.U.len;exact⟨J,J⟩
    obtain⟨s',e1,e2,e3,e4,e5,oc,A⟩:=yX (tries:=if iw=4/\ea=0 then 4611686018427387904 else 0) C.h0 C.U S.g hn gp k1 k2 k3;refine⟨_,BG S C ht R hz J ho hq rfl A,?_⟩;split
    ·exact .inr ⟨_,_,rfl,DN S C R ht (F2 R ho) A,A.len,fZ _ _ _⟩
    ·exact .inl rfl
  ·exact⟨_,Fc S C ht R hz J ho,.inl rfl⟩
end
section
variable {d0 d1 s k:D} {t:Int} {n:Nat} {iw jt ea eb:Int} (S:Sx s k n) (hn:n<17592186043904) (h0:Wd (.sl 3) d0) (U:Wd (.sl 4) d1)
noncomputable abbrev fcE (d0 d1 s k:D) (t iw jt ea eb:Int):Nat->Int:=df L (low [enc d0,enc d1,enc s,enc k,t,iw,jt,ea,eb])
theorem Mn (S:Sk s k) (hR:L 1550 [enc d0,enc d1,enc s,enc k,t]=some [0]):L 2000 [enc d0,enc d1,enc s,enc k,t,iw,jt,ea,eb]=some [enc s,enc k,0]:=by
 by_cases hr:t<0\/(k.l.length:Int)<=t
 ·rcases Iv S hr with h|⟨h,he⟩|⟨h,he⟩
  ·have K:ei (fcE d0 d1 s k t iw jt ea eb) za= .out [enc s,enc k,0]:=by
    refine bW [.eq (a0 9050 IB) Q0,.eq sj Qa,KN,KM] [] (ou [AP,Ti,Qa]) (by simp only [zz,h,hR]<;>omega) aa ?_;simp only [zz,h]
   rw [bM,Ay];exact congrArg (fin L) K
  ·subst he
   have K:ei (fcE d0 d1 s (.i 1) t iw jt ea eb) za= .out [enc s,enc (.i 1),0]:=by refine bW [.eq (a0 9050 IB) Q0,.eq sj Q0,KN,KM] [.eq sj Qa] (ou [AP,Qh,Qa]) (by simp only [zz,h,hR]<;>omega) aa ?_;simp only [zz,h]
   rw [bM,Ay];exact congrArg (fin L) K
  ·subst he
   have K:ei (fcE d0 d1 s (.i 2) t iw jt ea eb) za= .out [enc s,enc (.i 2),0]:=by refine bW [.eq (a0 9050 IB) Q0,.eq sj mb,KN,KM] [.eq sj Qa,.eq sj Q0] (ou [AP,Qk,Qa]) (by simp only [zz,h,hR]<;>omega) aa ?_;simp only [zz,h]
   rw [bM,Ay];exact congrArg (fin L) K
 ·obtain⟨i,rfl⟩ : ∃i:Nat,t=(i:Int):=⟨t.toNat,J⟩;have hi:i<k.l.length:=J
  obtain⟨a,lc,w,o,g,tr,T⟩:=gK S.wk _ (aG hi);have h:=BU S hi T;have hs:fK k (i:Int) ⟨a,lc,w,o,g,tr⟩ = k:=Ok (xB S.wk J).sh J J (by rw [bV hi,T.is]);simp only [fK,KT.d,bZ,cO] at hs;have ha:qI lc=3\/qI lc=4:=by unfold qI; split<;>simp
  have K:ei (fcE d0 d1 s k (i:Int) iw jt ea eb) za= .out [enc s,enc k,0]:=by
   rcases ha with ha|ha
   ·rw [ha] at h;refine bW [.eq (a0 9050 IB) Q0,.eq sj pR,KN,KM] [.eq sj Qa,.eq sj Q0,.eq sj mb] (ou [AP,Qo8,Qa]) (by simp only [zz,h,hR]<;>omega) aa ?_;simp only [zz,h,hs]
   ·rw [ha] at h;refine bW [.eq (a0 9050 IB) Q0,.eq sj nZ,KN,KM] [.eq sj Qa,.eq sj Q0,.eq sj mb,.eq sj pR] (ou [AP,Qo8,Qa]) (by simp only [zz,h,hR]<;>omega) aa ?_;simp only [zz,h,hs]
  rw [bM,Ay];exact congrArg (fin L) K
include S hn h0 U
theorem UF:dS 2000 [enc d0,enc d1,enc s,enc k,t,iw,jt,ea,eb] (aeW s k n):=by
 rcases QV S hn h0 U (t:=t) with hR|⟨x,R⟩
 ·exact⟨_,Mn S hR,.inl rfl⟩
 ·have h:=R.cp S;have hR:=R.yes;by_cases hp:0<x.lc.l.length
  ·have ha:qI x.lc=3:=ak hp;rw [ha] at h;obtain⟨ys,hL,hy⟩:=Y4 (iw:=iw) (jt:=jt) (ea:=ea) (eb:=eb) S hn R.c R.ht 20001 0 x J R.r;refine⟨ys,?_,hy⟩
   have K:ei (fcE d0 d1 s k t iw jt ea eb) za= .jump 2004 [t,0,enc d0,enc d1,enc s,enc k,iw,jt,ea,eb,enc s,enc k,x.a,enc x.lc,x.w,x.o,x.g,x.tr]:=by refine bW [.eq (a0 9050 IB) Q0,.eq sj pR,KN] [.eq sj Qa,.eq sj Q0,.eq sj mb,KM] (ju 2004 Qql) (by simp only [zz,h,hR]<;>omega) aa ?_;simp only [zz,h]
   rw [bM,Ay];exact (congrArg (fin L) K).trans hL
  ·have ha:qI x.lc=4:=ah hp;rw [ha] at h;obtain⟨ys,hL,hy⟩:=Y3 (iw:=iw) (jt:=jt) (ea:=ea) (eb:=eb) S hn R.c R.ht 20001 0 x J R.r J;refine⟨ys,?_,hy⟩
   have K:ei (fcE d0 d1 s k t iw jt ea eb) za= .jump 2005 [t,0,enc d0,enc d1,enc s,enc k,iw,jt,ea,eb,enc s,enc k,x.a,enc x.lc,x.w,x.o,x.g,x.tr]:=by refine bW [.eq (a0 9050 IB) Q0,.eq sj nZ,KN] [.eq sj Qa,.eq sj Q0,.eq sj mb,.eq sj pR,KM] (ju 2005 Qql) (by simp only [zz,h,hR]<;>omega) aa ?_;simp only [zz,h]
   rw [bM,Ay];exact (congrArg (fin L) K).trans hL
end
noncomputable abbrev Y2 (d0 d1 s k e:D):Option (List Int):=L 2000 [enc d0,enc d1,enc s,enc k,(e.hd 0).n,(e.hd 1).n,(e.hd 2).n,(e.hd 3).n,(e.hd 4).n]
noncomputable def fN (d0 d1:D):D->D->List D->D×D×Nat
 |s,k,[]=>(s,k,0)
 |s,k,e::l=>match Y2 d0 d1 s k e with
  |some [a,b,c]=>if c=0 then (s,k,0) else ((fN d0 d1 (dec a) (dec b) l).1,(fN d0 d1 (dec a) (dec b) l).2.1,(fN d0 d1 (dec a) (dec b) l).2.2+1)
  |_=>(s,k,0)
theorem Nb (d0 d1:D): ∀(l:List D) (s k:D) (m:Nat),(fN d0 d1 s k (l.take m)).2.2=min (fN d0 d1 s k l).2.2 m
 |[],s,k,m=>by simp [fN]
 |e::l,s,k,0=>by simp [fN]
 |e::l,s,k,m+1=>by
  rw [amQ];unfold fN;split
  ·rename_i a b c _;split
   ·simp
   ·have ih:=Nb d0 d1 l (dec a) (dec b) m;show _+1=min (_+1) (m+1);omega
  ·simp
theorem q? (d0 d1:D): ∀(l:List D) (s k:D),(fN d0 d1 s k l).2.2<=l.length
 |[],s,k=>by simp [fN]
 |e::l,s,k=>by
  unfold fN;split
  ·rename_i a b c _;split
   ·simp
   ·have:=q? d0 d1 l (dec a) (dec b);simpa using this
  ·simp
section
variable {d0 d1:D} (h0:Wd (.sl 3) d0) (U:Wd (.sl 4) d1)
noncomputable abbrev afE (d d0 d1 s k:D) (len i:Int):Nat->Int:=df L (low [enc d,len,i,enc d0,enc d1,enc s,enc k])
include h0 U
theorem Nh (d:D) (hd:d.l.length<=17592186000000): ∀(j i:Nat) (s k:D),i+j=d.l.length->Sx s k i->L 2151 [enc d,(d.l.length:Int),(i:Int),enc d0,enc d1,enc s,enc k]=some [enc (fN d0 d1 s k (d.l.drop i)).1,enc (fN d0 d1 s k (d.l.drop i)).2.1,((i+(fN d0 d1 s k (d.l.drop i)).2.2:Nat):Int)]
 |0,i,s,k,hi,S=>by
  have c1: ¬(i:Int)<(d.l.length:Int):=J
  have e:(d.l.length:Int)=((i+0:Nat):Int):=J
  rw [bM,Sr,anI J];simp only [QI,zz,c1,bY,fN];rw [e]
 |j+1,i,s,k,hi,S=>by
  have dU:i<d.l.length:=J
  have ES:d.l.drop i=d.l[i]::d.l.drop (i+1):=amr dU;have c1:(i:Int)<(d.l.length:Int):=J
  have c2: ¬((i:Int)<0):=J
  have w:=bP (n:=i) J;rw [ES,fN];rcases UF (t:=(d.l[i].hd 0).n) (iw:=(d.l[i].hd 1).n) (jt:=(d.l[i].hd 2).n) (ea:=(d.l[i].hd 3).n) (eb:=(d.l[i].hd 4).n) S J h0 U with ⟨ys,hL,rfl|⟨s',k',rfl,S',_⟩⟩
  ·have K:ei (afE d d0 d1 s k (d.l.length:Int) (i:Int)) QI= .out [enc s,enc k,(i:Int)]:=by
    refine bW [xl,v?,.eq (a0 2000 F_) Q0,.eq (rr 2000 F_ 2) Qa] [IG] (ou [dv,eK,Qo]) (by simp only [zz,c1,c2,bV dU,hL]<;>omega) aa ?_;simp only [zz]
   rw [bM,Sr];refine (congrArg (fin L) K).trans ?_;unfold Y2;rw [hL];rfl
  ·have ih:=Nh d hd j (i+1) s' k' J S'
   have K:ei (afE d d0 d1 s k (d.l.length:Int) (i:Int)) QI= .jump 2151 [enc d,(d.l.length:Int),((i+1:Nat):Int),enc d0,enc d1,enc s',enc k']:=by refine bW [xl,v?,.eq (a0 2000 F_) Q0] [IG,.eq (rr 2000 F_ 2) Qa] (ju 2151 [Qf,Qb,NS,Qm,cK,rr 2000 F_ 0,rr 2000 F_ 1]) (by simp only [zz,c1,c2,bV dU,hL]<;>omega) aa ?_;simp only [zz,bV dU,hL,w]
   rw [bM,Sr];refine (congrArg (fin L) K).trans (ih.trans ?_);unfold Y2;rw [hL];simp only [bC,bF,if_false];rw [show i+1+(fN d0 d1 s' k' (d.l.drop (i+1))).2.2=i+((fN d0 d1 s' k' (d.l.drop (i+1))).2.2+1) by omega]
end
end Go.As.Try
end
section
namespace Go.As.Try
open Go hiding Stat Spec shape
open Go.As
set_option maxRecDepth 100000
set_option linter.unusedSimpArgs false
set_option linter.unusedVariables false
def GG (k:D):Prop:= ∀j:Nat,j<k.l.length->0<=((k.at (j:Int)).hd 4).n
def NoP (d1:D):Prop:= ∀(t:Int) (x:KT),x.w=0->∀op obj arg tr:Int,gf d1 t x= [op,obj,arg,tr,1]->op≠25
def FoE (d0 d1 s k:D) (n:Nat) (t iw jt ea eb:Int) (ys:List Int):Prop:=ys= [enc s,enc k,0]\/∃(s' k':D) (op obj arg tr oc:Int),ys= [enc s',enc k',1]/\Sx s' k' (n+1)/\s'.l.length=s.l.length/\k'.l.length=k.l.length/\oc≠0/\
 KK d0 d1 s t op obj arg tr s' t iw jt ea eb oc/\MR d0 d1 s' k'/\GG k'/\eE .i64 t/\eE .u8 op/\eE .i64 obj/\eE .i64 arg/\(op=25->0<=arg)
theorem X6 (I:D) (x:KT):(fF I x).w=x.w/\(fF I x).g=x.g:=by
 unfold fF
 repeat' split
 all_goals exact⟨rfl,rfl⟩
theorem aeh (I:D) (x:KT) (op e2 e3 e4 oc:Int) (hx:0<=x.g) (he:oc=3->e2=15->0<=e4):0<=(j4 I x op e2 e3 e4 oc).g:=by
 unfold j4
 repeat' split
 all_goals first
  |exact hx
  |exact am1 0
  |(simp only; omega)
  |(simp only; exact he J J)
theorem afB {k:D} {t:Int} {x:KT} (G:GG k) (t0:0<=t) (ht:t<(k.l.length:Int)) (hx:0<=x.g):GG (fK k t x):=fun j hj=>by
 rw [fZ] at hj;by_cases h:(j:Int)=t
 ·rw [h,jG t0 ht x];simp only [KT.d,zg,ax,nD];exact hx
 ·have Z:(fK k t x).at (j:Int)=k.at (j:Int):=by
   rw [mJ,mJ];show ((dL (fI k.l t x.d)).l[j]?).getD _=_;rw [bD,lq h]
  rw [Z];exact G j hj
theorem ajz {M mo th arg tries o c dn g:Int} {r v:D} {o' c' ia g':Int} {r' v':D} {m:Option Int} {a oc:Int} (h:act M mo th 15 arg tries o c dn g r v= .res o' c' ia g' r' v' m a oc) (hg:0<=g):0<=a:=by
 simp only [act,Int.reduceEq,if_true,if_false,reduceIte] at h
 repeat' split at h
 all_goals simp only [Act.res.injEq,reduceCtorEq] at h
 all_goals omega
section
variable {d0 d1 s k:D} {t:Int} {n:Nat} {iw jt ea eb:Int} (S:Sx s k n) (hn:n<17592186043904) (C:Cd d0 d1) (ht:t<(k.l.length:Int)) (M:MR d0 d1 s k) (Gk:GG k) (Np:NoP d1)
include S hn C ht M Gk Np
theorem Sc {x:KT} (R:Rt d0 d1 t x) (hg:0<=x.g) (ho:gA d1 t x=0) {op obj arg tr QF e1 e2 e3 e4 e5 oc:Int} {s':D} (hq:gf d1 t x= [op,obj,arg,tr,1]) (k1:eE .u8 op) (k2:eE .i64 obj) (k3:eE .i64 arg) (gp:eE .i64 t)
 (A:tk d0 d1 s t op obj arg QF n s' e1 e2 e3 e4 e5 oc) (hh:oc≠0/\e1=t/\e2=iw/\e3=jt/\e4=ea/\e5=eb):FoE d0 d1 s k n t iw jt ea eb [enc s',enc (fK k t (j4 (fP d1 t x) x op e2 e3 e4 oc)),1]:=by
 obtain⟨JD,U,Z,h3,h4,h5⟩:=hh;subst U Z h3 h4 h5;have T:=DM C.h0 C.U S.g hn k1 A;obtain⟨hC,ok,hle⟩:=zp C.h0 C.U S.g J M.1;have hR:=N2 C R (F2 R ho) hle A.e3 A.e4 T
 have B?:L 350 [enc d0,enc d1,enc s']=some [1]:=by
  cases T with
  |no=>exact M.1
  |xq A'=>exact M.1
  |res A' o c dn g r v o' c' ia g' r' v' m _ _ T' h=>exact G7 C.h0 C.U S.g hn k1 gp k3 A' T' h
 have he:oc=3->e2=15->0<=e4:=fun _ JK=>by
  cases T with
  |no=>exact absurd rfl JD
  |xq A'=>omega
  |res A' o c dn g r v o' c' ia g' r' v' m _ _ T' h=> have P:=Bd C.h0 C.U S.g J M.1 A'.o0 A'.o1 T';subst JK;exact ajz h P.1.2.2.2.1
 refine .inr ⟨s',_,op,obj,arg,QF,oc,rfl,DN S C R ht (F2 R ho) A,A.len,fZ _ _ _,JD,T,Jl S hn M hR ht B?,afB Gk R.t0 ht (aeh _ _ _ _ _ _ _ hg he),gp,k1,k2,k3,fun h25=>?_⟩;by_cases hw:x.w=0
 ·exact absurd h25 (Np _ x hw op obj arg tr hq)
 ·unfold gf at hq;rw [ah hw] at hq;simp only [List.cons.injEq,and_true] at hq;omega
theorem Sl: ∀(j m:Nat) (x:KT),m+j=20001->Rt d0 d1 t x->0<=x.g->dS 2004 [t,(m:Int),enc d0,enc d1,enc s,enc k,iw,jt,ea,eb,enc s,enc k,x.a,enc x.lc,x.w,x.o,x.g,x.tr] (FoE d0 d1 s k n t iw jt ea eb)
 |0,m,x,hm,R,hg=> ⟨_,H9 S C ht R J,.inl rfl⟩
 |j+1,m,x,hm,R,hg=>by
  rcases zu d1 t x with ho|ho
  ·by_cases ha:low (gf d1 t x) 4=0
   ·have Lc:=p9 R ho ha;obtain⟨R',yS⟩:=oA C ht R Lc;obtain⟨ys,hL,hy⟩:=Sl j (m+1) (fF (fP d1 t x) x) J R' (by rw [(X6 _ _).2]; exact hg);refine⟨ys,?_,hy⟩;rw [BJ S C ht R J ho ha,bP J];exact hL
   ·obtain⟨op,obj,arg,tr,hq⟩:=sR J ha;obtain⟨k1,k2,k3⟩:=zC C R C.ok.1 hq
    have gp:eE .i64 t:=by have:=R.t0;have:=R.t1;have:=C.U.len;exact⟨J,J⟩
    obtain⟨s',e1,e2,e3,e4,e5,oc,A⟩:=yX (tries:=if iw=4/\ea=0 then 4611686018427387904 else 0) C.h0 C.U S.g hn gp k1 k2 k3;refine⟨_,BI S C ht R J ho hq rfl A,?_⟩;split
    ·rename_i hh;exact Sc S hn C ht M Gk Np R hg ho hq k1 k2 k3 gp A hh
    ·exact .inl rfl
  ·exact⟨_,Fe S C ht R J ho,.inl rfl⟩
theorem Sj: ∀(j m:Nat) (x:KT),m+j=20001->Rt d0 d1 t x->0<=x.g->x.lc.l.length=0->dS 2005 [t,(m:Int),enc d0,enc d1,enc s,enc k,iw,jt,ea,eb,enc s,enc k,x.a,enc x.lc,x.w,x.o,x.g,x.tr] (FoE d0 d1 s k n t iw jt ea eb)
 |0,m,x,hm,R,hg,hz=> ⟨_,H8 S C ht R hz J,.inl rfl⟩
 |j+1,m,x,hm,R,hg,hz=>by
  rcases zu d1 t x with ho|ho
  ·by_cases ha:low (gf d1 t x) 4=0
   ·have Lc:=p9 R ho ha;obtain⟨R',yS⟩:=oA C ht R Lc;obtain⟨ys,hL,hy⟩:=Sj j (m+1) (fF (fP d1 t x) x) J R' (by rw [(X6 _ _).2]; exact hg) (by rw [yS]; exact hz);refine⟨ys,?_,hy⟩;rw [BH S C ht R hz J ho ha,bP J];exact hL
   ·obtain⟨op,obj,arg,tr,hq⟩:=sR J ha;obtain⟨k1,k2,k3⟩:=zC C R C.ok.1 hq
    have gp:eE .i64 t:=by have:=R.t0;have:=R.t1;have:=C.U.len;exact⟨J,J⟩
    obtain⟨s',e1,e2,e3,e4,e5,oc,A⟩:=yX (tries:=if iw=4/\ea=0 then 4611686018427387904 else 0) C.h0 C.U S.g hn gp k1 k2 k3;refine⟨_,BG S C ht R hz J ho hq rfl A,?_⟩;split
    ·rename_i hh;exact Sc S hn C ht M Gk Np R hg ho hq k1 k2 k3 gp A hh
    ·exact .inl rfl
  ·exact⟨_,Fc S C ht R hz J ho,.inl rfl⟩
end
end Go.As.Try
end
section
namespace Go.As.Try
open Go hiding Stat Spec shape
open Go.As
set_option maxRecDepth 100000
theorem U3 {M mo th op arg tries aef o c dn g:Int} {r v:D} (h:op≠4):act M mo th op arg tries o c dn g r v=act M mo th op arg aef o c dn g r v:=by unfold act;simp only [ah h]
theorem Nj {M mo th arg tries o c dn g:Int} {r v:D}:act M mo th 4 arg tries o c dn g r v=if o<0 then .res th c dn g r v none 1 2 else if tries<arg then .om else .res o c dn g r v none 0 2:=rfl
theorem Wn {x:D} {o c dn g o' c' ia g':Int} {r v r' v':D} (T:Tg x o c dn g r v) (T':Tg x o' c' ia g' r' v'):o=o'/\c=c'/\dn=ia/\g=g'/\r=r'/\v=v':=by have h:=T.is.symm.trans T'.is;simp only [bZ,cO,D.p.injEq,D.i.injEq,and_true] at h;exact h
abbrev frT (iw ea:Int):Int:=if iw=4/\ea=0 then 4611686018427387904 else 0
section
variable {d0 d1 s s':D} {t op obj arg tr e1 e2 e3 e4 e5 oc:Int} {n:Nat} (h0:Wd (.sl 3) d0) (U:Wd (.sl 4) d1) (G:Gs s n) (hn:n<17592186043904) (oa:eE .u8 op) (A:tk d0 d1 s t op obj arg tr n s' e1 e2 e3 e4 e5 oc)
include h0 U G hn oa A
theorem Tw (h:op≠4) (tries:Int):tk d0 d1 s t op obj arg tries n s' e1 e2 e3 e4 e5 oc:=by
 refine⟨?_,A.no,A.oc3,A.gs,A.len,A.n2,A.e3,A.e4⟩;have hf:=G.kS (by omega:n<17592186044415)
 have e:L 400 [enc d0,enc d1,enc s,t,op,obj,arg,tries]=L 400 [enc d0,enc d1,enc s,t,op,obj,arg,tr]:=by
  by_cases hA:Acc d0 d1 s t op obj
  ·obtain⟨_,o,c,dn,g,r,v,T,hL⟩:=wC (arg:=arg) (tries:=tries) h0 U G.wd hf oa hA;obtain⟨_,o',c',ia,g',r',v',T',hL'⟩:=wC (arg:=arg) (tries:=tr) h0 U G.wd hf oa hA;obtain⟨rfl,rfl,rfl,rfl,rfl,rfl⟩:=Wn T T';rw [hL,hL',U3 h]
  ·rw [DL h0 U G.wd hf oa hA,DL h0 U G.wd hf oa hA]
 rw [e];exact A.eq
theorem NZ (h:op=4) (JD:oc≠0) (hr:tr<=4611686018427387904):e2=4/\tk d0 d1 s t op obj arg (frT e2 e4) n s' e1 e2 e3 e4 e5 oc:=by
 subst h;have hf:=G.kS (by omega:n<17592186044415);have hE:=A.eq;by_cases hA:Acc d0 d1 s t 4 obj
 ·obtain⟨_,o,c,dn,g,r,v,T,hL⟩:=wC (arg:=arg) (tries:=tr) h0 U G.wd hf oa hA;obtain⟨_,o',c',ia,g',r',v',T',hL'⟩:=wC (arg:=arg) (tries:=frT e2 e4) h0 U G.wd hf oa hA;obtain⟨rfl,rfl,rfl,rfl,rfl,rfl⟩:=Wn T T';rw [hE,Dg,Nj] at hL;rw [Dg,Nj] at hL';by_cases ho:o<0
  ·rw [ak ho] at hL hL';rw [<- hL] at hL';simp only [evA,an,List.cons.injEq,and_true] at hL;obtain⟨_,_,rfl,_⟩:=hL;exact⟨rfl,hL',A.no,A.oc3,A.gs,A.len,A.n2,A.e3,A.e4⟩
  ·rw [ah ho] at hL hL';by_cases hta:tr<arg
   ·rw [ak hta] at hL;simp only [evA,an,List.cons.injEq,and_true] at hL;exact absurd hL.2.2.2.2.2.2 JD
   ·rw [ah hta] at hL;have hL2:=hL;simp only [evA,an,List.cons.injEq,and_true] at hL;obtain⟨_,_,rfl,_,rfl,_⟩:=hL
    have hq: ¬(frT 4 0)<arg:=by have:frT 4 0=4611686018427387904:=rfl;omega
    rw [ah hq,<- hL2] at hL';exact⟨rfl,hL',A.no,A.oc3,A.gs,A.len,A.n2,A.e3,A.e4⟩
 ·rw [DL h0 U G.wd hf oa hA] at hE;simp only [an,List.cons.injEq,and_true] at hE;exact absurd hE.2.2.2.2.2.2.symm JD
theorem Le (JD:oc≠0) (hr:tr<=4611686018427387904):tk d0 d1 s t op obj arg (frT e2 e4) n s' e1 e2 e3 e4 e5 oc:=by
 by_cases h:op=4
 ·exact (NZ h0 U G hn oa A h JD hr).2
 ·exact Tw h0 U G hn oa A h _
end
inductive GF (d1:D) (t:Int):Nat->KT->KT->Prop
 |zero (x:KT):GF d1 t 0 x x
 |succ (j:Nat) (x y:KT) (ho:gA d1 t x=0) (ha:low (gf d1 t x) 4=0) (h:GF d1 t j (fF (fP d1 t x) x) y):GF d1 t (j+1) x y
theorem GF.snoc {d1:D} {t:Int} {j:Nat} {x y:KT} (h:GF d1 t j x y) (ho:gA d1 t y=0) (ha:low (gf d1 t y) 4=0):GF d1 t (j+1) x (fF (fP d1 t y) y):=by
 induction h with
 |zero x=>exact .succ 0 x _ ho ha (.zero _)
 |succ j x y zQ ha' _ ih=>exact .succ _ x _ zQ ha' (ih ho ha)
section
variable {d0 d1 s k:D} {t:Int} {n:Nat} {iw jt ea eb:Int} (S:Sk s k) (C:Cd d0 d1) (ht:t<(k.l.length:Int))
include S C ht
theorem aeQ {j:Nat} {x y:KT} (h:GF d1 t j x y): ∀m:Nat,m+j<=20000->Rt d0 d1 t x->L 2004 [t,(m:Int),enc d0,enc d1,enc s,enc k,iw,jt,ea,eb,enc s,enc k,x.a,enc x.lc,x.w,x.o,x.g,x.tr]=L 2004 [t,((m+j:Nat):Int),enc d0,enc d1,enc s,enc k,iw,jt,ea,eb,enc s,enc k,y.a,enc y.lc,y.w,y.o,y.g,y.tr]/\Rt d0 d1 t y:=by
 induction h with
 |zero x=>exact fun m _ R=> ⟨rfl,R⟩
 |succ j x y ho ha _ ih=> intro m hm R;have R':=(oA C ht R (p9 R ho ha)).1;obtain⟨q1,q2⟩:=ih (m+1) J R';rw [BJ S C ht R J ho ha,bP (n:=m) J,q1,show m+1+j=m+(j+1) by omega];exact⟨rfl,q2⟩
theorem aeP {j:Nat} {x y:KT} (h:GF d1 t j x y): ∀m:Nat,m+j<=20000->Rt d0 d1 t x->x.lc.l.length=0->L 2005 [t,(m:Int),enc d0,enc d1,enc s,enc k,iw,jt,ea,eb,enc s,enc k,x.a,enc x.lc,x.w,x.o,x.g,x.tr]=L 2005 [t,((m+j:Nat):Int),enc d0,enc d1,enc s,enc k,iw,jt,ea,eb,enc s,enc k,y.a,enc y.lc,y.w,y.o,y.g,y.tr]/\Rt d0 d1 t y/\y.lc.l.length=0:=by
 induction h with
 |zero x=>exact fun m _ R hz=> ⟨rfl,R,hz⟩
 |succ j x y ho ha _ ih=> intro m hm R hz;obtain⟨R',W⟩:=oA C ht R (p9 R ho ha);obtain⟨q1,q2,q3⟩:=ih (m+1) J R' J;rw [BH S C ht R hz J ho ha,bP (n:=m) J,q1,show m+1+j=m+(j+1) by omega];exact⟨rfl,q2,q3⟩
end
section
variable {d0 d1 s k:D} {t:Int} {n:Nat} {iw jt ea eb:Int} {x:KT} (S:Sk s k) (R:Rs d0 d1 s k t x)
include S R
theorem Sb (hp:0<x.lc.l.length):L 2000 [enc d0,enc d1,enc s,enc k,t,iw,jt,ea,eb]=L 2004 [t,0,enc d0,enc d1,enc s,enc k,iw,jt,ea,eb,enc s,enc k,x.a,enc x.lc,x.w,x.o,x.g,x.tr]:=by
 have h:=R.cp S;have hR:=R.yes;have ha:qI x.lc=3:=ak hp;rw [ha] at h
 have K:ei (fcE d0 d1 s k t iw jt ea eb) za= .jump 2004 [t,0,enc d0,enc d1,enc s,enc k,iw,jt,ea,eb,enc s,enc k,x.a,enc x.lc,x.w,x.o,x.g,x.tr]:=by refine bW [.eq (a0 9050 IB) Q0,.eq sj pR,KN] [.eq sj Qa,.eq sj Q0,.eq sj mb,KM] (ju 2004 Qql) (by simp only [zz,h,hR]<;>omega) aa ?_;simp only [zz,h]
 rw [bM,Ay];exact congrArg (fin L) K
theorem Sa (hp:x.lc.l.length=0):L 2000 [enc d0,enc d1,enc s,enc k,t,iw,jt,ea,eb]=L 2005 [t,0,enc d0,enc d1,enc s,enc k,iw,jt,ea,eb,enc s,enc k,x.a,enc x.lc,x.w,x.o,x.g,x.tr]:=by
 have h:=R.cp S;have hR:=R.yes;have ha:qI x.lc=4:=ah J;rw [ha] at h
 have K:ei (fcE d0 d1 s k t iw jt ea eb) za= .jump 2005 [t,0,enc d0,enc d1,enc s,enc k,iw,jt,ea,eb,enc s,enc k,x.a,enc x.lc,x.w,x.o,x.g,x.tr]:=by refine bW [.eq (a0 9050 IB) Q0,.eq sj nZ,KN] [.eq sj Qa,.eq sj Q0,.eq sj mb,.eq sj pR,KM] (ju 2005 Qql) (by simp only [zz,h,hR]<;>omega) aa ?_;simp only [zz,h]
 rw [bM,Ay];exact congrArg (fin L) K
theorem Y0 {j:Nat} {y:KT} (hj:j<=20000) (W:GF d1 t j x y) (ho:gA d1 t y=0) {op obj arg tr e1 e2 e3 e4 e5 oc:Int} {s':D} (ha:gf d1 t y= [op,obj,arg,tr,1]) (A:tk d0 d1 s t op obj arg (frT iw ea) n s' e1 e2 e3 e4 e5 oc) :
 L 2000 [enc d0,enc d1,enc s,enc k,t,iw,jt,ea,eb]=some (if oc≠0/\e1=t/\e2=iw/\e3=jt/\e4=ea/\e5=eb then [enc s',enc (fK k t (j4 (fP d1 t y) y op e2 e3 e4 oc)),1] else [enc s,enc k,0]):=by
 by_cases hp:0<x.lc.l.length
 ·obtain⟨q1,q2⟩:=aeQ (iw:=iw) (jt:=jt) (ea:=ea) (eb:=eb) S R.c R.ht W 0 J R.r;rw [aP] at q1;rw [Sb S R hp,q1];exact BI S R.c R.ht q2 J ho ha rfl A
 ·obtain⟨q1,q2,q3⟩:=aeP (iw:=iw) (jt:=jt) (ea:=ea) (eb:=eb) S R.c R.ht W 0 J R.r J;rw [aP] at q1;rw [Sa S R J,q1];exact BG S R.c R.ht q2 q3 J ho ha rfl A
end
end Go.As.Try
end
section
namespace Go.As.Try
open Go hiding Stat Spec shape
open Go.As
set_option maxRecDepth 100000
set_option linter.unusedSimpArgs false
set_option linter.unusedVariables false
section
variable {d0 d1 s k:D} {t:Int} {n:Nat} {iw jt ea eb:Int} (S:Sx s k n) (hn:n<17592186043904) (h0:Wd (.sl 3) d0) (U:Wd (.sl 4) d1) (M:MR d0 d1 s k) (Gk:GG k) (Np:NoP d1)
include S hn h0 U M Gk Np
theorem R9:dS 2000 [enc d0,enc d1,enc s,enc k,t,iw,jt,ea,eb] (FoE d0 d1 s k n t iw jt ea eb):=by
 rcases QV S hn h0 U (t:=t) with hR|⟨x,R⟩
 ·exact⟨_,Mn S.st hR,.inl rfl⟩
 ·have hg:0<=x.g:=by
   have t0:=R.r.t0;have ht:=R.ht;obtain⟨j,rfl⟩ : ∃j:Nat,t=(j:Int):=⟨t.toNat,J⟩;have:=Gk j J;rw [R.hk] at this;simpa only [KT.d,zg,ax,nD] using this
  by_cases hp:0<x.lc.l.length
  ·unfold dS;rw [Sb S.st R hp];exact Sl S hn R.c R.ht M Gk Np 20001 0 x J R.r hg
  ·unfold dS;rw [Sa S.st R J];exact Sj S hn R.c R.ht M Gk Np 20001 0 x J R.r hg J
end
theorem Ng (d0 d1:D): ∀(l:List D) (s k:D),fN d0 d1 s k (l.take (fN d0 d1 s k l).2.2)=fN d0 d1 s k l
 |[],s,k=>by simp [fN]
 |e::l,s,k=>by
  cases hF:Y2 d0 d1 s k e with
  |none=>simp [fN,hF]
  |some ys=>
   match ys,hF with
   |[a,b,c],hF=>
    by_cases hc:c=0
    ·simp [fN,hF,hc]
    ·have ih:=Ng d0 d1 l (dec a) (dec b)
     have e1:fN d0 d1 s k (e::l)=((fN d0 d1 (dec a) (dec b) l).1,(fN d0 d1 (dec a) (dec b) l).2.1,(fN d0 d1 (dec a) (dec b) l).2.2+1):=by rw [fN,hF];simp only [hc,if_false]
     rw [e1];simp only [amQ];rw [fN,hF];simp only [hc,if_false,ih]
   |[],hF=>simp [fN,hF]
   |[_],hF=>simp [fN,hF]
   |[_,_],hF=>simp [fN,hF]
   |_::_::_::_::_,hF=>simp [fN,hF]
structure RS1 (d0 d1 s k:D) (n:Nat):Prop where
 S:Sx s k n
 M:MR d0 d1 s k
 G:GG k
section
variable {d0 d1:D} (h0:Wd (.sl 3) d0) (U:Wd (.sl 4) d1) (Np:NoP d1)
include h0 U Np
theorem q!: ∀(l:List D) (s k:D) (i:Nat),RS1 d0 d1 s k i->i+l.length<=90000->∃m,m<=i+l.length/\RS1 d0 d1 (fN d0 d1 s k l).1 (fN d0 d1 s k l).2.1 m
 |[],s,k,i,R,W=> ⟨i,ad,by simpa [fN] using R⟩
 |e::l,s,k,i,R,W=>by
  obtain⟨ys,hF,hy⟩:=R9 (t:=(e.hd 0).n) (iw:=(e.hd 1).n) (jt:=(e.hd 2).n) (ea:=(e.hd 3).n) (eb:=(e.hd 4).n) R.S J h0 U R.M R.G Np;have hfo:Y2 d0 d1 s k e=some ys:=hF;rw [fN,hfo];simp only [aQ] at W;rcases hy with rfl|⟨s',k',op',obj,arg,tr,oc,rfl,S',_,_,JD,T,M',G',_⟩
  ·exact⟨i,J,by simpa using R⟩
  ·simp only [bF,if_false,reduceIte,bC];obtain⟨m,hm,Rm⟩:=q! l s' k' (i+1) ⟨S',M',G'⟩ J;exact⟨m,by simp only [aQ]; omega,Rm⟩
end
end Go.As.Try
end
section
namespace Go.As.Try
open Go hiding Stat Spec shape
open Go.As
set_option maxRecDepth 100000
set_option linter.unusedSimpArgs false
set_option linter.unusedVariables false
set_option linter.unusedSectionVars false
abbrev evD (e1 e2 e3 e4 e5:Int):D:=dL [.i e1,.i e2,.i e3,.i e4,.i e5]
abbrev KW (e1 e2 e3 e4 e5 oc:Int):List D:=if oc=2\/oc=3 then [evD e1 e2 e3 e4 e5] else []
theorem Jv {x y:KT} (h:x.d=y.d):x=y:=by simp only [KT.d,bZ,cO,D.p.injEq,D.i.injEq,and_true] at h;obtain⟨U,Z,h3,h4,h5,h6⟩:=h;cases x; cases y;simp only at U Z h3 h4 h5 h6;subst U Z h3 h4 h5 h6;rfl
theorem tE (k:D) {t u:Int} (u0:0<=u) (h:u≠t) (x:KT):(fK k t x).at u=k.at u:=by obtain⟨i,rfl⟩ : ∃i:Nat,u=(i:Int):=⟨u.toNat,J⟩;show (dL (fI k.l t x.d)).at (i:Int)=k.at (i:Int);rw [mJ,mJ,bD,lq h]
theorem aeg {d0 d1 s s':D} {t op obj arg tr e1 e2 e3 e4 e5 oc:Int} (T:KK d0 d1 s t op obj arg tr s' e1 e2 e3 e4 e5 oc) (JD:oc≠0):e1=t:=by
 cases T with
 |no=>exact absurd rfl JD
 |xq=>rfl
 |res=>rfl
theorem Rf (d1:D) (t:Int) (x:KT) (r:Int):gA d1 t { x with tr:=r }=gA d1 t x:=rfl
theorem aac (d1:D) (t:Int) (x:KT) (r:Int):low (gf d1 t { x with tr:=r }) 4=low (gf d1 t x) 4:=by
 show low (if x.w=0 then if x.a=(Nc d1 t:Int) then [0,0,0,0,0] else if ((fP d1 t x).hd 0).n=1 then [((fP d1 t x).hd 1).n,((fP d1 t x).hd 2).n,GA ((fP d1 t x).hd 6) x.lc,r,1] else if ((fP d1 t x).hd 0).n=2 then [26,((fP d1 t x).hd 2).n,0,0,1] else [0,0,0,0,0] else [x.w,x.o,x.g,0,1]) 4=low (gf d1 t x) 4;unfold gf
 repeat' split
 all_goals rfl
theorem XY {d1:D} {t:Int} {x:KT} {r op obj arg tr:Int} (h:gf d1 t { x with tr:=r }= [op,obj,arg,tr,1]): ∃tr',gf d1 t x= [op,obj,arg,tr',1]:=by
 have e:gf d1 t { x with tr:=r }=(if x.w=0 then if x.a=(Nc d1 t:Int) then [0,0,0,0,0] else if ((fP d1 t x).hd 0).n=1 then [((fP d1 t x).hd 1).n,((fP d1 t x).hd 2).n,GA ((fP d1 t x).hd 6) x.lc,r,1] else if ((fP d1 t x).hd 0).n=2 then [26,((fP d1 t x).hd 2).n,0,0,1] else [0,0,0,0,0] else [x.w,x.o,x.g,0,1]):=rfl;rw [e] at h;unfold gf
 repeat' split at h
 all_goals (simp only [List.cons.injEq] at h; obtain⟨rfl,rfl,rfl,rfl,h⟩:=h)
 all_goals first
  |(exfalso; omega)
  |skip
 ·rename_i U Z h3;exact⟨x.tr,by rw [ak U,ah Z,ak h3]⟩
 ·rename_i U Z h3 h4;exact⟨0,by rw [ak U,ah Z,ah h3,ak h4]⟩
 ·rename_i U;exact⟨0,by rw [ah U]⟩
theorem aag (I:D) (x:KT) (r:Int):fF I { x with tr:=r }= { fF I x with tr:=r }:=by
 unfold fF
 repeat' split
 all_goals rfl
theorem L_ (I:D) (x:KT) (r op e2 e3 e4 oc:Int) (h:oc≠0):j4 I { x with tr:=r } op e2 e3 e4 oc=j4 I x op e2 e3 e4 oc:=by unfold j4;rw [ah h,ah h]
theorem L! (I:D) (x:KT) (op e2 e3 e4:Int): ∃r,j4 I x op e2 e3 e4 0= { x with tr:=r }:=by
 unfold j4;rw [ak rfl];split
 ·exact⟨_,rfl⟩
 ·exact⟨x.tr,rfl⟩
inductive Run (d0 d1 s k:D):List D->D->D->Prop
 |nil:Run d0 d1 s k [] s k
 |snoc {l:List D} {s1 k1 s2 k2:D} {e1 e2 e3 e4 e5:Int} (r:Run d0 d1 s k l s1 k1) (h:L 2000 [enc d0,enc d1,enc s1,enc k1,e1,e2,e3,e4,e5]=some [enc s2,enc k2,1]):Run d0 d1 s k (l++ [evD e1 e2 e3 e4 e5]) s2 k2
section
variable {d0 d1 s k:D} {n:Nat} (S:Sx s k n) (hn:n<17592186043904) (h0:Wd (.sl 3) d0) (U:Wd (.sl 4) d1)
include S hn h0 U
theorem ahX (M:MR d0 d1 s k) {t:Int} {x:KT} (t0:0<=t) (t1:t<(d1.l.length:Int)) (h:k.at t=x.d):Rs d0 d1 s k t x:=by obtain⟨y,R⟩:=M.thr S J h0 U t0 t1;rw [Jv (h.symm.trans R.hk)];exact R
end
structure Fr (d0 d1 s0 k0:D) (i:Nat) (es:List D) (s k:D):Prop where
 S:Sx s k i
 M:MR d0 d1 s k
 ll:es.length<=i
 fr: ∃F:D,Run d0 d1 s0 k0 es s F/\Sx s F i/\MR d0 d1 s F/\∀u:Nat,u<d1.l.length->∃(z y:KT) (j:Nat) (r:Int),F.at (u:Int)=z.d/\k.at (u:Int)=KT.d { y with tr:=r }/\GF d1 (u:Int) j z y/\j<=i
section
variable {d0 d1 s0 k0:D} (h0:Wd (.sl 3) d0) (U:Wd (.sl 4) d1)
include h0 U
theorem R8 {s k:D} {i:Nat} {es:List D} (hi:i<5000) (h:Fr d0 d1 s0 k0 i es s k) {t:Int} (t0:0<=t) (t1:t<(d1.l.length:Int)) {s' k':D} {e1 e2 e3 e4 e5 oc:Int} (H:CP d0 d1 s k t i s' k' e1 e2 e3 e4 e5 oc):Fr d0 d1 s0 k0 (i+1) (es++KW e1 e2 e3 e4 e5 oc) s' k':=by
 obtain⟨S',hls,amd⟩:=Xi h.S J h0 U H;have M':=Xj h.S J h0 U h.M H;have hlk:k.l.length=d1.l.length:=h.M.2.1;obtain⟨u0,hu0⟩ : ∃u:Nat,(u:Int)=t:=⟨t.toNat,J⟩;have hll:=h.ll;have ev0:KW 0 0 0 0 0 0= []:=rfl;have ev4:KW 0 0 0 0 0 4= []:=rfl;have So:KW 0 0 0 0 0 1= []:=rfl;obtain⟨F,f1,f2,f3,f4⟩:=h.fr;have hFl:F.l.length=d1.l.length:=f3.2.1
 cases H with
 |no tW=> rw [ev0,amy];exact⟨h.S.mono (amz i),h.M,J,F,f1,f2.mono (amz i),f3,fun u hu=>by obtain⟨z,y,j,r,a1,a2,a3,a4⟩:=f4 u hu; exact⟨z,y,j,r,a1,a2,a3,J⟩⟩
 |over x R ho=> rw [ev4,amy];exact⟨h.S.mono (amz i),h.M,J,F,f1,f2.mono (amz i),f3,fun u hu=>by obtain⟨z,y,j,r,a1,a2,a3,a4⟩:=f4 u hu; exact⟨z,y,j,r,a1,a2,a3,J⟩⟩
 |loc x R ho hay=>
  rw [So,amy];refine⟨S',M',J,F,f1,f2.mono (amz i),f3,fun u hu=>?_⟩;obtain⟨z,y,j,r,a1,a2,a3,a4⟩:=f4 u hu;by_cases RJ:(u:Int)=t
  ·rw [RJ] at a1 a2 a3;have e:=Jv (a2.symm.trans R.hk);subst e;refine⟨z,fF (fP d1 t y) y,j+1,r,by rw [RJ]; exact a1,?_,by rw [RJ]; exact a3.snoc (by rw [<- Rf d1 t y r]; exact ho) (by rw [<- aac d1 t y r]; exact hay),J⟩;show (fK k t _).at (u:Int)=_;rw [RJ,jG t0 R.ht,<- aag]
  ·refine⟨z,y,j,r,a1,?_,a3,J⟩;show (fK k t _).at (u:Int)=_;rw [tE _ J RJ,a2]
 |tri x R ho op obj arg tr RL k1 k2 k3 gp s' e1 e2 e3 e4 e5 oc A T=>
  refine⟨S',M',?_,?_⟩
  ·rw [a8];have:(KW e1 e2 e3 e4 e5 oc).length<=1:=by unfold KW; split<;>simp
   omega
  ·rcases A.oc3 with hz|h23
   ·subst hz;obtain⟨rfl,rfl,rfl,rfl,rfl,rfl⟩:=A.no rfl;rw [ev0,amy];refine⟨F,f1,f2.mono (amz i),f3,fun u hu=>?_⟩;obtain⟨z,y,j,r,a1,a2,a3,a4⟩:=f4 u hu;by_cases RJ:(u:Int)=t
    ·rw [RJ] at a2;have e:=Jv (a2.symm.trans R.hk);subst e;obtain⟨r',L7⟩:=L! (fP d1 t { y with tr:=r }) { y with tr:=r } op 0 0 0;refine⟨z,y,j,r',a1,?_,a3,J⟩;show (fK k t _).at (u:Int)=_;rw [RJ,jG t0 R.ht,L7]
    ·refine⟨z,y,j,r,a1,?_,a3,J⟩;show (fK k t _).at (u:Int)=_;rw [tE _ J RJ,a2]
   ·have JD:oc≠0:=J
    have he:=aeg T JD;have hev:KW e1 e2 e3 e4 e5 oc= [evD e1 e2 e3 e4 e5]:=by unfold KW; rw [ak h23]
    rw [hev];obtain⟨z,y,j,r,a1,a2,a3,a4⟩:=f4 u0 J;rw [hu0] at a1 a2 a3;have e:=Jv (a2.symm.trans R.hk);subst e;obtain⟨tr',hn'⟩:=XY RL;have RF:=ahX f2 J h0 U f3 t0 t1 a1
    have B!:tr<=4611686018427387904:=by
     have q:=R.r.ok.2.2.2.2.1;have q':r<=4611686018427387904:=q;unfold gf at RL
     repeat' split at RL
     all_goals (simp only [List.cons.injEq] at RL; obtain⟨_,_,_,RL,_⟩:=RL; omega)
    have A':=Le h0 U f2.g J k1 A JD B!;have hf:=Y0 (iw:=e2) (jt:=e3) (ea:=e4) (eb:=e5) f2 RF J a3 (by rw [<- Rf d1 t y r]; exact ho) hn' A';rw [ak ⟨JD,he,rfl,rfl,rfl,rfl⟩] at hf;have va:j4 (fP d1 t { y with tr:=r }) { y with tr:=r } op e2 e3 e4 oc=j4 (fP d1 t y) y op e2 e3 e4 oc:=L_ _ _ _ _ _ _ _ _ JD;rw [<- va] at hf;have hle:=(MR.code h0 U (h.S.g.kS J).rows h.M).2;have hx:=F2 R.r ho;have SF:=DN f2 R.c R.r J hx A;have RT:=N2 R.c R.r hx hle A.e3 A.e4 T;have MF:=Jl f2 J f3 RT J M'.1;refine⟨_,.snoc f1 (he▸hf),SF,MF,fun u hu=>?_⟩
    ·by_cases RJ:(u:Int)=t
     ·refine⟨_,j4 (fP d1 t { y with tr:=r }) { y with tr:=r } op e2 e3 e4 oc,0,(j4 (fP d1 t { y with tr:=r }) { y with tr:=r } op e2 e3 e4 oc).tr,?_,?_,.zero _,J⟩
      ·rw [RJ,jG t0 J]
      ·show (fK k t _).at (u:Int)=_;rw [RJ,jG t0 R.ht]
     ·obtain⟨z',y',j',r',b1,b2,b3,b4⟩:=f4 u hu;refine⟨z',y',j',r',?_,?_,b3,J⟩
      ·rw [tE _ J RJ,b1]
      ·show (fK k t _).at (u:Int)=_;rw [tE _ J RJ,b2]
end
end Go.As.Try
end
section
namespace Go.As.Try
open Go hiding Stat Spec shape
open Go.As
set_option maxRecDepth 100000
theorem Nf (d0 d1:D): ∀(l:List D) (s k a b e:D) (x y:Int),fN d0 d1 s k l=(a,b,l.length)->Y2 d0 d1 a b e=some [x,y,1]->fN d0 d1 s k (l++ [e])=(dec x,dec y,l.length+1)
 |[],s,k,a,b,e,x,y,h,hf=>by simp only [fN,aq] at h;obtain⟨rfl,rfl,_⟩:=h;simp [fN,hf]
 |e0::l,s,k,a,b,e,x,y,h,hf=>by
  cases hF:Y2 d0 d1 s k e0 with
  |none=>simp [fN,hF] at h
  |some ys=>
   match ys,hF with
   |[p,q,c],hF=>
    by_cases hc:c=0
    ·simp [fN,hF,hc] at h
    ·rw [fN,hF] at h;simp only [hc,if_false,aq,aQ,aoq] at h;have h':fN d0 d1 (dec p) (dec q) l=(a,b,l.length):=Prod.ext h.1 (Prod.ext h.2.1 h.2.2);have ih:=Nf d0 d1 l (dec p) (dec q) a b e x y h' hf;rw [aW,fN,hF];simp only [hc,if_false,ih,aQ]
   |[],hF=>simp [fN,hF] at h
   |[_],hF=>simp [fN,hF] at h
   |[_,_],hF=>simp [fN,hF] at h
   |_::_::_::_::_,hF=>simp [fN,hF] at h
theorem QU {d0 d1 s k:D} {l:List D} {s' k':D} (R:Run d0 d1 s k l s' k'):fN d0 d1 s k l=(s',k',l.length):=by
 induction R with
 |nil=>rfl
 |snoc r h ih=>
  rename_i l s1 k1 s2 k2 e1 e2 e3 e4 e5
  have hf:Y2 d0 d1 s1 k1 (evD e1 e2 e3 e4 e5)=some [enc s2,enc k2,1]:=by unfold Y2;simp only [zg,ax,nD];exact h
  have:=Nf d0 d1 l s k s1 k1 _ _ _ ih hf;rw [this,bC,bC,a8];rfl
theorem o? (d:D) (z:Int):d.at z∈d.l\/d.at z= .i 0:=by
 unfold D.at
 cases h:d.l[z.toNat]? with
 |none=>exact .inr rfl
 |some x=>exact .inl (amm h)
theorem aeJ {d0 d1:D} (h: ∀x∈d1.l,Jz d0 x):NoP d1:=fun t x w op obj arg tr hq h25=>by
 unfold gf at hq;rw [ak w] at hq;split at hq
 ·simp only [List.cons.injEq] at hq;omega
 ·split at hq
  ·rename_i U;simp only [List.cons.injEq] at hq;have oa:((((d1.at t).hd 2).at x.a).hd 1).n=25:=by have:=hq.1; show ((fP d1 t x).hd 1).n=25; omega
   have RZ:((((d1.at t).hd 2).at x.a).hd 0).n=1:=U;rcases o? d1 t with ht|ht
   ·rcases o? ((d1.at t).hd 2) x.a with hx|hx
    ·have:=(h _ ht _ hx).2 RZ;omega
    ·unfold fP at U;rw [hx] at U;simp [D.hd,D.l,D.n] at U
   ·unfold fP at U;rw [ht] at U
    have e:((D.i 0).hd 2).at x.a= .i 0:=by
     rcases o? ((D.i 0).hd 2) x.a with q|q
     ·simp [D.hd,D.l] at q
     ·exact q
    rw [e] at U;simp [D.hd,D.l,D.n] at U
  ·split at hq
   ·simp only [List.cons.injEq] at hq;omega
   ·simp only [List.cons.injEq] at hq;omega
end Go.As.Try
end
section
namespace Go.As.Try
open Go hiding Stat Spec shape
open Go.As
set_option maxRecDepth 100000
set_option linter.unusedSimpArgs false
theorem DC (ρ:Nat->Int) (a b:V):V.den ρ (.quo a b)=(a.den ρ).tdiv (b.den ρ):=rfl
structure Kn where
 ow:Int
 rd:D
 ct:Int
 cm:Int
 en:Int
 rw:D
def Kn.d (q:Kn):D:=dL [.i q.ow,q.rd,.i q.ct,.i q.cm,.i q.en,q.rw]
def kn0 (k N:Int):Kn:=⟨-1,.i 0,if k=3\/k=9 then N else 0,0,0,.i 1⟩
def CW (n:Int):D:=.p (.i n) (.i 1)
def U5 (rd r:D):Prop:= ∃ns:List Int,rd.l=ns.map CW/\ns.Perm (r.l.map D.n)
structure mZ (k N:Int) (n:Nat) (q:Kn) (o c dn g:Int) (r v:D):Prop where
 en:q.en=0\/q.en=1
 rl:q.rw.l.length<=n
 ow:k=1\/k=2\/k=6->q.ow=o
 rd:k=2->U5 q.rd r
 ct:k=3\/k=7\/k=9->q.ct=c
 cm:k=5->q.cm=g*N+c/\0<=c/\c<N
 cb:0<=q.cm/\q.cm<=n
 on:k=6->q.en=dn/\(q.cm=0/\o<0/\dn=0\/q.cm=1/\(0<=o\/dn=1))
 rw:k=8->q.rw.l=v.l
abbrev kd (d0:D) (i:Int):Int:=((d0.at i).hd 0).n
abbrev Nd (d0:D) (i:Int):Int:=((d0.at i).hd 2).n
def xZ (d0 p:D) (i:Int) (q:Kn):Prop:=dj p.l (.i i)=some q.d\/dj p.l (.i i)=none/\q=kn0 (kd d0 i) (Nd d0 i)
def Ts (d0 s p:D) (n:Nat):Prop:= ∀i:Nat,i<s.l.length->∃q:Kn,xZ d0 p (i:Int) q/\∃o c dn g r v,Tg (s.at (i:Int)) o c dn g r v/\mZ (kd d0 (i:Int)) (Nd d0 (i:Int)) n q o c dn g r v
theorem mZ.mono {k N:Int} {n m:Nat} {q:Kn} {o c dn g:Int} {r v:D} (h:mZ k N n q o c dn g r v) (hm:n<=m):mZ k N m q o c dn g r v:=
 ⟨h.en,bq h.rl hm,h.ow,h.rd,h.ct,h.cm,⟨h.cb.1,by have:=h.cb.2; omega⟩,h.on,h.rw⟩
def KP (p p':D) (ob:Int) (q:Kn):Prop:= ∀j:Int,dj p'.l (.i j)=if j=ob then some q.d else dj p.l (.i j)
def x_ (p p':D) (ob M:Int) (q m:Kn):Prop:= ∀j:Int,dj p'.l (.i j)=if j=ob then some q.d else if j=M then some m.d else dj p.l (.i j)
theorem XI {p:D} {ob:Int} {q:Kn}:KP p (dL (jS p.l (.i ob) q.d)) ob q:=fun j=>by
 rw [bD,bB];by_cases h:ob=j
 ·subst h; simp
 ·rw [ah (by simpa using h),ah (fun e=>h e.symm)]
theorem XH {p x:D} {ob:Int} {q:Kn}:KP p (dL (jS (jS p.l (.i ob) x) (.i ob) q.d)) ob q:=fun j=>by
 rw [bD,bB];by_cases h:ob=j
 ·subst h; simp
 ·rw [ah (by simpa using h),ah (fun e=>h e.symm),bB,ah (by simpa using h)]
theorem fc {p x:D} {ob:Int} {q:Kn} (h:x=q.d):KP p (dL (jS p.l (.i ob) x)) ob q:=by rw [h]; exact XI
theorem fb {p x y:D} {ob:Int} {q:Kn} (h:y=q.d):KP p (dL (jS (jS p.l (.i ob) x) (.i ob) y)) ob q:=by rw [h]; exact XH
def oY (N th op a:Int) (q:Kn):Option Kn:=
 if op=1 then (if q.ow= -1 then some { q with ow:=th } else none)
 else if op=2 then (if q.ow=th then some { q with ow:=-1 } else none)
 else if op=3 then (if a=1 then (if q.ow= -1 then some { q with ow:=th } else none) else some q)
 else if op=4 then (if a=1 then (if q.ow= -1 then some { q with ow:=th } else none) else some q)
 else if op=5 then (if q.ow= -1/\dj q.rd.l (.i th)=none then some { q with rd:=dL (jS q.rd.l (.i th) (.i 1)) } else none)
 else if op=6 then (if dj q.rd.l (.i th)=some (.i 1) then some { q with rd:=dL (zF q.rd.l (.i th)) } else none)
 else if op=7 then (if (q.rd.l.length:Int)=0/\q.ow= -1 then some { q with ow:=th } else none)
 else if op=8 then (if q.ow=th then some { q with ow:=-1 } else none)
 else if op=9 then (if IntKind.i64.wrap (q.ct-1)<0 then none else some { q with ct:=IntKind.i64.wrap (q.ct-1) })
 else if op=10 then (if N<IntKind.i64.wrap (q.ct+1) then none else some { q with ct:=IntKind.i64.wrap (q.ct+1) })
 else if op=11 then (if a=1 then (if IntKind.i64.wrap (q.ct-1)<0 then none else some { q with ct:=IntKind.i64.wrap (q.ct-1) }) else some q)
 else if op=13 then some q
 else if op=14 then some q
 else if op=15 then (if N=0 then none else if a=IntKind.i64.wrap (q.cm.tdiv N) then some { q with cm:=IntKind.i64.wrap (q.cm+1) } else none)
 else if op=16 then (if a=1 then (if IntKind.i64.wrap (q.cm+1)=1/\q.ow= -1 then some { q with ow:=th,cm:=IntKind.i64.wrap (q.cm+1) } else none) else if q.en=0 then none else some q)
 else if op=17 then (if a<0 then none else if 1099511627776<a then none else some { q with ct:=a })
 else if op=18 then (if IntKind.i64.wrap (q.ct-1)<0 then none else if IntKind.i64.wrap (q.ct-1)=a then some { q with ct:=IntKind.i64.wrap (q.ct-1) } else none)
 else if op=19 then (if q.ct=0 then some q else none)
 else if op=20 then (if N<(q.rw.l.length:Int)+1 then none else some { q with rw:=dL (q.rw.l++ [.i a]) })
 else if op=21 then (if (q.rw.l.length:Int)=0 then none else if (q.rw.at 0).n=a then some { q with rw:=if (q.rw.l.length:Int)-1=0 then .i 3 else bR (bR q.rw (q.rw.l.take (1+((q.rw.l.length:Int)-1)).toNat)) ((bR q.rw (q.rw.l.take (1+((q.rw.l.length:Int)-1)).toNat)).l.drop (Int.toNat 1)) } else none)
 else if op=22 then (if q.ct=a then some q else none)
 else if op=23 then some { q with ct:=a }
 else if op=25 then (if a<0 then none else if N=0 then none else if a<IntKind.i64.wrap (q.cm.tdiv N) then some q else none)
 else if op=26 then (if q.en=0/\q.ow=th then some { q with ow:=-1,en:=1 } else none)
 else none
structure EvH (d0 d1 es p:D) (i:Nat) (th op ob a:Int) (q:Kn):Prop where
 i0:i<es.l.length
 i1:es.l.length<=100000
 he:es.at (i:Int)=dL [.i th,.i op,.i ob,.i a,.i 0]
 t0:0<=th
 t1:th<(d1.l.length:Int)
 o0:0<=ob
 o1:ob<(d0.l.length:Int)
 qm:xZ d0 p ob q
 en:q.en=0\/q.en=1
 rl:q.rw.l.length<=100000
end Go.As.Try
end
section
namespace Go.As.Try
open Go hiding Stat Spec shape
open Go.As
set_option maxRecDepth 100000
set_option linter.unusedSimpArgs false
set_option linter.unusedVariables false
theorem G9 {rd r:D} (h:U5 rd r) (n:Int):(n∈r.l.map D.n->dj rd.l (.i n)=some (.i 1))/\(n∉r.l.map D.n->dj rd.l (.i n)=none):=by
 obtain⟨ns,e,hp⟩:=h
 have key: ∀l:List Int,(n∈l->dj (l.map CW) (.i n)=some (.i 1))/\(n∉l->dj (l.map CW) (.i n)=none):=by
  intro l
  induction l with
  |nil=>exact⟨fun h=>by simp at h,fun _=>rfl⟩
  |cons a l ih=>
   simp only [aH,dj];by_cases ha:a=n
   ·subst ha;exact⟨fun _=>ak rfl,fun h=>absurd (aof ..) h⟩
   ·have: ¬jl (CW a)= .i n:=fun e=>ha (by simpa [CW,jl] using e);rw [ah this];exact⟨fun h=>ih.1 (by rcases aF.1 h with h|h; exact absurd h.symm ha; exact h),fun h=>ih.2 fun Z=>h (anq _ Z)⟩
 rw [e];exact⟨fun h=>(key ns).1 (hp.mem_iff.2 h),fun h=>(key ns).2 fun Z=>h (hp.mem_iff.1 Z)⟩
theorem XB {rd r:D} (h:U5 rd r) {n:Int} (hn:n∉r.l.map D.n):U5 (dL (jS rd.l (.i n) (.i 1))) (dL (r.l++ [.i n])):=by
 obtain⟨ns,e,hp⟩:=h
 have key: ∀l:List Int,n∉l->jS (l.map CW) (.i n) (.i 1)=(l++ [n]).map CW:=by
  intro l
  induction l with
  |nil=>intro _; rfl
  |cons a l ih=> intro ha;simp only [aH,jS,aW];rw [ah (fun e=>ha (by simp [CW,jl] at e; simp [e])),ih (fun Z=>ha (anq _ Z))]
 refine⟨ns++ [n],by rw [bD,e,key ns (fun Z=>hn (hp.mem_iff.1 Z))],?_⟩;rw [bD,amK];exact hp.append_right _
theorem XC {rd r:D} (h:U5 rd r) {k:Nat} (hk:k<r.l.length) (zR:(r.l.map D.n).Nodup) {n:Int} (hn:(r.l[k]).n=n) (r':D) (L7:r'.l=r.l.take k++r.l.drop (k+1)):U5 (dL (zF rd.l (.i n))) r':=by
 obtain⟨ns,e,hp⟩:=h
 have key: ∀l:List Int,zF (l.map CW) (.i n)=(l.erase n).map CW:=by
  intro l
  induction l with
  |nil=>rfl
  |cons a l ih=>
   simp only [aH,zF];by_cases ha:a=n
   ·subst ha;rw [ak (show jl (CW a)= .i a from rfl),List.erase_cons_head]
   ·rw [ah (fun e=>ha (by simpa [CW,jl] using e)),ih,List.erase_cons_tail (by simpa using ha)];rfl
 refine⟨ns.erase n,by rw [bD,e,key],?_⟩
 have Z:(r.l.map D.n).erase n=r'.l.map D.n:=by
  rw [L7,<- anr,anr,amK,anx,anz,<- anr];have Gg:k<(r.l.map D.n).length:=by rw [bu]; exact hk
  have:(r.l.map D.n)[k]=n:=by rw [List.getElem_map]; exact hn
  have hsp:r.l.map D.n=(r.l.map D.n).take k++n::(r.l.map D.n).drop (k+1):=by rw [<- this,<- amr Gg,amE]
  rw [anr];generalize (r.l.map D.n).take k=x at *;generalize (r.l.map D.n).drop (k+1)=y at *;rw [hsp,anl] at zR;have hx:n∉x:=fun h=>zR.2.2 n h n (aof ..) rfl;rw [hsp,List.erase_append_right _ hx,List.erase_cons_head]
 rw [<- Z];exact hp.erase n
section
variable {d0:D} {N mo th arg tries o c dn g mm:Int} {r v:D} {n:Nat} {q:Kn} {o' c' ia g':Int} {r' v':D} {m:Option Int} {a oc:Int}
theorem ka1 (hS:mY 1 N mm o c dn g r v) (hO:pU d0 1 N) (K:mZ 1 N n q o c dn g r v) (hc:eE .i64 c) (ha:eE .i64 arg) (t0:0<=th) (h:act N mo th 1 arg tries o c dn g r v= .res o' c' ia g' r' v' m a oc): ∃q',oY N th 1 a q=some q'/\mZ 1 N (n+1) q' o' c' ia g' r' v':=by
 obtain⟨P,R,E⟩:=hS;unfold jC fA at P;unfold pU at hO;unfold iR at E;have qM:q.rw.l.length<=n+1:=by have:=K.rl; omega
 have qR:0<=q.cm/\q.cm<=((n+1:Nat):Int):=by have:=K.cb; omega
 have HQ:=hc.1;have KV:=hc.2;have O3:=ha.1;have O2:=ha.2;simp only [act,Int.reduceEq,if_true,if_false,reduceIte] at h
 repeat' split at h
 all_goals simp only [Act.res.injEq,reduceCtorEq] at h
 ·obtain⟨rfl,rfl,rfl,rfl,rfl,rfl,rfl,rfl,rfl⟩:=h;refine⟨{ q with ow:=th },?_,⟨K.en,qM,fun _=>rfl,(by intro h; omega),(by intro h; omega),(by intro h; omega),qR,(by intro h; omega),(by intro h; omega)⟩⟩;simp only [oY,Int.reduceEq,if_true,if_false,reduceIte]
  all_goals rw [ak (by have:=K.ow J; omega)]
theorem ka2 (hS:mY 1 N mm o c dn g r v) (hO:pU d0 1 N) (K:mZ 1 N n q o c dn g r v) (hc:eE .i64 c) (ha:eE .i64 arg) (t0:0<=th) (h:act N mo th 2 arg tries o c dn g r v= .res o' c' ia g' r' v' m a oc): ∃q',oY N th 2 a q=some q'/\mZ 1 N (n+1) q' o' c' ia g' r' v':=by
 obtain⟨P,R,E⟩:=hS;unfold jC fA at P;unfold pU at hO;unfold iR at E;have qM:q.rw.l.length<=n+1:=by have:=K.rl; omega
 have qR:0<=q.cm/\q.cm<=((n+1:Nat):Int):=by have:=K.cb; omega
 have HQ:=hc.1;have KV:=hc.2;have O3:=ha.1;have O2:=ha.2;simp only [act,Int.reduceEq,if_true,if_false,reduceIte] at h
 repeat' split at h
 all_goals simp only [Act.res.injEq,reduceCtorEq] at h
 ·obtain⟨rfl,rfl,rfl,rfl,rfl,rfl,rfl,rfl,rfl⟩:=h;refine⟨{ q with ow:=-1 },?_,⟨K.en,qM,fun _=>rfl,(by intro h; omega),(by intro h; omega),(by intro h; omega),qR,(by intro h; omega),(by intro h; omega)⟩⟩;simp only [oY,Int.reduceEq,if_true,if_false,reduceIte]
  all_goals rw [ak (by have:=K.ow J; omega)]
theorem ka3 (hS:mY 1 N mm o c dn g r v) (hO:pU d0 1 N) (K:mZ 1 N n q o c dn g r v) (hc:eE .i64 c) (ha:eE .i64 arg) (t0:0<=th) (h:act N mo th 3 arg tries o c dn g r v= .res o' c' ia g' r' v' m a oc): ∃q',oY N th 3 a q=some q'/\mZ 1 N (n+1) q' o' c' ia g' r' v':=by
 obtain⟨P,R,E⟩:=hS;unfold jC fA at P;unfold pU at hO;unfold iR at E;have qM:q.rw.l.length<=n+1:=by have:=K.rl; omega
 have qR:0<=q.cm/\q.cm<=((n+1:Nat):Int):=by have:=K.cb; omega
 have HQ:=hc.1;have KV:=hc.2;have O3:=ha.1;have O2:=ha.2;simp only [act,Int.reduceEq,if_true,if_false,reduceIte] at h
 repeat' split at h
 all_goals simp only [Act.res.injEq,reduceCtorEq] at h
 ·obtain⟨rfl,rfl,rfl,rfl,rfl,rfl,rfl,rfl,rfl⟩:=h;refine⟨{ q with ow:=th },?_,⟨K.en,qM,fun _=>rfl,(by intro h; omega),(by intro h; omega),(by intro h; omega),qR,(by intro h; omega),(by intro h; omega)⟩⟩;simp only [oY,Int.reduceEq,if_true,if_false,reduceIte]
  all_goals rw [ak (by have:=K.ow J; omega)]
 ·obtain⟨rfl,rfl,rfl,rfl,rfl,rfl,rfl,rfl,rfl⟩:=h;refine⟨q,?_,⟨K.en,qM,fun _=>K.ow J,(by intro h; omega),(by intro h; omega),(by intro h; omega),qR,(by intro h; omega),(by intro h; omega)⟩⟩;simp only [oY,Int.reduceEq,if_true,if_false,reduceIte]
  all_goals rw [ah J]
theorem ka4 (hS:mY 1 N mm o c dn g r v) (hO:pU d0 1 N) (K:mZ 1 N n q o c dn g r v) (hc:eE .i64 c) (ha:eE .i64 arg) (t0:0<=th) (h:act N mo th 4 arg tries o c dn g r v= .res o' c' ia g' r' v' m a oc): ∃q',oY N th 4 a q=some q'/\mZ 1 N (n+1) q' o' c' ia g' r' v':=by
 obtain⟨P,R,E⟩:=hS;unfold jC fA at P;unfold pU at hO;unfold iR at E;have qM:q.rw.l.length<=n+1:=by have:=K.rl; omega
 have qR:0<=q.cm/\q.cm<=((n+1:Nat):Int):=by have:=K.cb; omega
 have HQ:=hc.1;have KV:=hc.2;have O3:=ha.1;have O2:=ha.2;simp only [act,Int.reduceEq,if_true,if_false,reduceIte] at h
 repeat' split at h
 all_goals simp only [Act.res.injEq,reduceCtorEq] at h
 ·obtain⟨rfl,rfl,rfl,rfl,rfl,rfl,rfl,rfl,rfl⟩:=h;refine⟨{ q with ow:=th },?_,⟨K.en,qM,fun _=>rfl,(by intro h; omega),(by intro h; omega),(by intro h; omega),qR,(by intro h; omega),(by intro h; omega)⟩⟩;simp only [oY,Int.reduceEq,if_true,if_false,reduceIte]
  all_goals rw [ak (by have:=K.ow J; omega)]
 ·obtain⟨rfl,rfl,rfl,rfl,rfl,rfl,rfl,rfl,rfl⟩:=h;refine⟨q,?_,⟨K.en,qM,fun _=>K.ow J,(by intro h; omega),(by intro h; omega),(by intro h; omega),qR,(by intro h; omega),(by intro h; omega)⟩⟩;simp only [oY,Int.reduceEq,if_true,if_false,reduceIte]
  all_goals rw [ah J]
theorem ka5 (hS:mY 2 N mm o c dn g r v) (hO:pU d0 2 N) (K:mZ 2 N n q o c dn g r v) (hc:eE .i64 c) (ha:eE .i64 arg) (t0:0<=th) (h:act N mo th 5 arg tries o c dn g r v= .res o' c' ia g' r' v' m a oc): ∃q',oY N th 5 a q=some q'/\mZ 2 N (n+1) q' o' c' ia g' r' v':=by
 obtain⟨P,R,E⟩:=hS;unfold jC fA at P;unfold pU at hO;unfold iR at E;have qM:q.rw.l.length<=n+1:=by have:=K.rl; omega
 have qR:0<=q.cm/\q.cm<=((n+1:Nat):Int):=by have:=K.cb; omega
 have HQ:=hc.1;have KV:=hc.2;have O3:=ha.1;have O2:=ha.2;simp only [act,Int.reduceEq,if_true,if_false,reduceIte] at h;have hpl:=kY r th
 repeat' split at h
 all_goals simp only [Act.res.injEq,reduceCtorEq] at h
 ·obtain⟨rfl,rfl,rfl,rfl,rfl,rfl,rfl,rfl,rfl⟩:=h;have hpn:th∉r.l.map D.n:=fun hm=>by obtain⟨y,hy,he⟩:=bd.1 hm; exact Ei (by assumption) y hy he
  refine⟨{ q with rd:=dL (jS q.rd.l (.i th) (.i 1)) },?_,⟨K.en,qM,fun _=>K.ow J,fun _=>XB (K.rd rfl) hpn,(by intro h; omega),(by intro h; omega),qR,(by intro h; omega),(by intro h; omega)⟩⟩;simp only [oY,Int.reduceEq,if_true,if_false,reduceIte]
  all_goals rw [ak ⟨by have:=K.ow J; omega,(G9 (K.rd rfl) th).2 hpn⟩]
theorem ka6 (hS:mY 2 N mm o c dn g r v) (hO:pU d0 2 N) (K:mZ 2 N n q o c dn g r v) (hc:eE .i64 c) (ha:eE .i64 arg) (t0:0<=th) (h:act N mo th 6 arg tries o c dn g r v= .res o' c' ia g' r' v' m a oc): ∃q',oY N th 6 a q=some q'/\mZ 2 N (n+1) q' o' c' ia g' r' v':=by
 obtain⟨P,R,E⟩:=hS;unfold jC fA at P;unfold pU at hO;unfold iR at E;have qM:q.rw.l.length<=n+1:=by have:=K.rl; omega
 have qR:0<=q.cm/\q.cm<=((n+1:Nat):Int):=by have:=K.cb; omega
 have HQ:=hc.1;have KV:=hc.2;have O3:=ha.1;have O2:=ha.2;simp only [act,Int.reduceEq,if_true,if_false,reduceIte] at h;have hpl:=kY r th
 repeat' split at h
 all_goals simp only [Act.res.injEq,reduceCtorEq] at h
 ·obtain⟨rfl,rfl,rfl,rfl,rfl,rfl,rfl,rfl,rfl⟩:=h
  have hpp: ∃k:Nat,place r th=(k:Int)/\∃hk:k<r.l.length,(r.l[k]).n=th:=by
   rcases hpl with ⟨U,_⟩|⟨k,hk,U,Z,_⟩
   ·omega
   ·exact⟨k,U,hk,Z⟩
  obtain⟨k,fL,hk,C!⟩:=hpp;have hpy:th∈r.l.map D.n:=bd.2 ⟨_,aG hk,C!⟩;have hpd:=XC (K.rd rfl) hk R.2 C! (bR (.i 2) (r.l.take (place r th).toNat++r.l.drop ((place r th).toNat+1))) (by rw [bN,fL]; rfl);refine⟨{ q with rd:=dL (zF q.rd.l (.i th)) },?_,⟨K.en,qM,fun _=>K.ow J,fun _=>hpd,(by intro h; omega),(by intro h; omega),qR,(by intro h; omega),(by intro h; omega)⟩⟩;simp only [oY,Int.reduceEq,if_true,if_false,reduceIte]
  all_goals rw [ak ((G9 (K.rd rfl) th).1 hpy)]
theorem ka7 (hS:mY 2 N mm o c dn g r v) (hO:pU d0 2 N) (K:mZ 2 N n q o c dn g r v) (hc:eE .i64 c) (ha:eE .i64 arg) (t0:0<=th) (h:act N mo th 7 arg tries o c dn g r v= .res o' c' ia g' r' v' m a oc): ∃q',oY N th 7 a q=some q'/\mZ 2 N (n+1) q' o' c' ia g' r' v':=by
 obtain⟨P,R,E⟩:=hS;unfold jC fA at P;unfold pU at hO;unfold iR at E;have qM:q.rw.l.length<=n+1:=by have:=K.rl; omega
 have qR:0<=q.cm/\q.cm<=((n+1:Nat):Int):=by have:=K.cb; omega
 have HQ:=hc.1;have KV:=hc.2;have O3:=ha.1;have O2:=ha.2;simp only [act,Int.reduceEq,if_true,if_false,reduceIte] at h
 repeat' split at h
 all_goals simp only [Act.res.injEq,reduceCtorEq] at h
 ·obtain⟨rfl,rfl,rfl,rfl,rfl,rfl,rfl,rfl,rfl⟩:=h
  have akD:q.rd.l.length=r.l.length:=by obtain⟨ns,e,hp⟩:=K.rd rfl;have:=hp.length_eq;rw [e,bu];simpa using this
  refine⟨{ q with ow:=th },?_,⟨K.en,qM,fun _=>rfl,fun _=>K.rd rfl,(by intro h; omega),(by intro h; omega),qR,(by intro h; omega),(by intro h; omega)⟩⟩;simp only [oY,Int.reduceEq,if_true,if_false,reduceIte]
  all_goals rw [ak ⟨by have:=akD; omega,by have:=K.ow J; omega⟩]
theorem ka8 (hS:mY 2 N mm o c dn g r v) (hO:pU d0 2 N) (K:mZ 2 N n q o c dn g r v) (hc:eE .i64 c) (ha:eE .i64 arg) (t0:0<=th) (h:act N mo th 8 arg tries o c dn g r v= .res o' c' ia g' r' v' m a oc): ∃q',oY N th 8 a q=some q'/\mZ 2 N (n+1) q' o' c' ia g' r' v':=by
 obtain⟨P,R,E⟩:=hS;unfold jC fA at P;unfold pU at hO;unfold iR at E;have qM:q.rw.l.length<=n+1:=by have:=K.rl; omega
 have qR:0<=q.cm/\q.cm<=((n+1:Nat):Int):=by have:=K.cb; omega
 have HQ:=hc.1;have KV:=hc.2;have O3:=ha.1;have O2:=ha.2;simp only [act,Int.reduceEq,if_true,if_false,reduceIte] at h
 repeat' split at h
 all_goals simp only [Act.res.injEq,reduceCtorEq] at h
 ·obtain⟨rfl,rfl,rfl,rfl,rfl,rfl,rfl,rfl,rfl⟩:=h;refine⟨{ q with ow:=-1 },?_,⟨K.en,qM,fun _=>rfl,fun _=>K.rd rfl,(by intro h; omega),(by intro h; omega),qR,(by intro h; omega),(by intro h; omega)⟩⟩;simp only [oY,Int.reduceEq,if_true,if_false,reduceIte]
  all_goals rw [ak (by have:=K.ow J; omega)]
theorem ka9 (hS:mY 3 N mm o c dn g r v) (hO:pU d0 3 N) (K:mZ 3 N n q o c dn g r v) (hc:eE .i64 c) (ha:eE .i64 arg) (t0:0<=th) (h:act N mo th 9 arg tries o c dn g r v= .res o' c' ia g' r' v' m a oc): ∃q',oY N th 9 a q=some q'/\mZ 3 N (n+1) q' o' c' ia g' r' v':=by
 obtain⟨P,R,E⟩:=hS;unfold jC fA at P;unfold pU at hO;unfold iR at E;have qM:q.rw.l.length<=n+1:=by have:=K.rl; omega
 have qR:0<=q.cm/\q.cm<=((n+1:Nat):Int):=by have:=K.cb; omega
 have HQ:=hc.1;have KV:=hc.2;have O3:=ha.1;have O2:=ha.2;simp only [act,Int.reduceEq,if_true,if_false,reduceIte] at h
 repeat' split at h
 all_goals simp only [Act.res.injEq,reduceCtorEq] at h
 ·obtain⟨rfl,rfl,rfl,rfl,rfl,rfl,rfl,rfl,rfl⟩:=h;refine⟨{ q with ct:=IntKind.i64.wrap (q.ct-1) },?_,⟨K.en,qM,(by intro h; omega),(by intro h; omega),fun _=>by rw [K.ct J],(by intro h; omega),qR,(by intro h; omega),(by intro h; omega)⟩⟩;simp only [oY,Int.reduceEq,if_true,if_false,reduceIte]
  all_goals rw [ah (by have e:=K.ct J; have:=IntKind.wrap_i64; simp only [IntKind.wrap_i64] at *; omega)]
theorem aku (hS:mY 3 N mm o c dn g r v) (hO:pU d0 3 N) (K:mZ 3 N n q o c dn g r v) (hc:eE .i64 c) (ha:eE .i64 arg) (t0:0<=th) (h:act N mo th 10 arg tries o c dn g r v= .res o' c' ia g' r' v' m a oc): ∃q',oY N th 10 a q=some q'/\mZ 3 N (n+1) q' o' c' ia g' r' v':=by
 obtain⟨P,R,E⟩:=hS;unfold jC fA at P;unfold pU at hO;unfold iR at E;have qM:q.rw.l.length<=n+1:=by have:=K.rl; omega
 have qR:0<=q.cm/\q.cm<=((n+1:Nat):Int):=by have:=K.cb; omega
 have HQ:=hc.1;have KV:=hc.2;have O3:=ha.1;have O2:=ha.2;simp only [act,Int.reduceEq,if_true,if_false,reduceIte] at h
 repeat' split at h
 all_goals simp only [Act.res.injEq,reduceCtorEq] at h
 ·obtain⟨rfl,rfl,rfl,rfl,rfl,rfl,rfl,rfl,rfl⟩:=h;refine⟨{ q with ct:=IntKind.i64.wrap (q.ct+1) },?_,⟨K.en,qM,(by intro h; omega),(by intro h; omega),fun _=>by rw [K.ct J],(by intro h; omega),qR,(by intro h; omega),(by intro h; omega)⟩⟩;simp only [oY,Int.reduceEq,if_true,if_false,reduceIte]
  all_goals rw [ah (by have e:=K.ct J; have:=IntKind.wrap_i64; simp only [IntKind.wrap_i64] at *; omega)]
theorem akt (hS:mY 3 N mm o c dn g r v) (hO:pU d0 3 N) (K:mZ 3 N n q o c dn g r v) (hc:eE .i64 c) (ha:eE .i64 arg) (t0:0<=th) (h:act N mo th 11 arg tries o c dn g r v= .res o' c' ia g' r' v' m a oc): ∃q',oY N th 11 a q=some q'/\mZ 3 N (n+1) q' o' c' ia g' r' v':=by
 obtain⟨P,R,E⟩:=hS;unfold jC fA at P;unfold pU at hO;unfold iR at E;have qM:q.rw.l.length<=n+1:=by have:=K.rl; omega
 have qR:0<=q.cm/\q.cm<=((n+1:Nat):Int):=by have:=K.cb; omega
 have HQ:=hc.1;have KV:=hc.2;have O3:=ha.1;have O2:=ha.2;simp only [act,Int.reduceEq,if_true,if_false,reduceIte] at h
 repeat' split at h
 all_goals simp only [Act.res.injEq,reduceCtorEq] at h
 ·obtain⟨rfl,rfl,rfl,rfl,rfl,rfl,rfl,rfl,rfl⟩:=h;refine⟨{ q with ct:=IntKind.i64.wrap (q.ct-1) },?_,⟨K.en,qM,(by intro h; omega),(by intro h; omega),fun _=>by rw [K.ct J],(by intro h; omega),qR,(by intro h; omega),(by intro h; omega)⟩⟩;simp only [oY,Int.reduceEq,if_true,if_false,reduceIte]
  all_goals rw [ah (by have e:=K.ct J; have:=IntKind.wrap_i64; simp only [IntKind.wrap_i64] at *; omega)]
 ·obtain⟨rfl,rfl,rfl,rfl,rfl,rfl,rfl,rfl,rfl⟩:=h;refine⟨q,?_,⟨K.en,qM,(by intro h; omega),(by intro h; omega),fun _=>K.ct J,(by intro h; omega),qR,(by intro h; omega),(by intro h; omega)⟩⟩;simp only [oY,Int.reduceEq,if_true,if_false,reduceIte]
  all_goals rw [ah J]
theorem akp (hS:mY 7 N mm o c dn g r v) (hO:pU d0 7 N) (K:mZ 7 N n q o c dn g r v) (hc:eE .i64 c) (ha:eE .i64 arg) (t0:0<=th) (h:act N mo th 17 arg tries o c dn g r v= .res o' c' ia g' r' v' m a oc): ∃q',oY N th 17 a q=some q'/\mZ 7 N (n+1) q' o' c' ia g' r' v':=by
 obtain⟨P,R,E⟩:=hS;unfold jC fA at P;unfold pU at hO;unfold iR at E;have qM:q.rw.l.length<=n+1:=by have:=K.rl; omega
 have qR:0<=q.cm/\q.cm<=((n+1:Nat):Int):=by have:=K.cb; omega
 have HQ:=hc.1;have KV:=hc.2;have O3:=ha.1;have O2:=ha.2;simp only [act,Int.reduceEq,if_true,if_false,reduceIte] at h
 repeat' split at h
 all_goals simp only [Act.res.injEq,reduceCtorEq] at h
 ·obtain⟨rfl,rfl,rfl,rfl,rfl,rfl,rfl,rfl,rfl⟩:=h;refine⟨{ q with ct:=IntKind.i64.wrap (c+arg) },?_,⟨K.en,qM,(by intro h; omega),(by intro h; omega),fun _=>rfl,(by intro h; omega),qR,(by intro h; omega),(by intro h; omega)⟩⟩;simp only [oY,Int.reduceEq,if_true,if_false,reduceIte]
  all_goals rw [ah (by have e:=K.ct J; have:=IntKind.wrap_i64; simp only [IntKind.wrap_i64] at *; omega),ah (by have e:=K.ct J; have:=IntKind.wrap_i64; simp only [IntKind.wrap_i64] at *; omega)]
theorem ako (hS:mY 7 N mm o c dn g r v) (hO:pU d0 7 N) (K:mZ 7 N n q o c dn g r v) (hc:eE .i64 c) (ha:eE .i64 arg) (t0:0<=th) (h:act N mo th 18 arg tries o c dn g r v= .res o' c' ia g' r' v' m a oc): ∃q',oY N th 18 a q=some q'/\mZ 7 N (n+1) q' o' c' ia g' r' v':=by
 obtain⟨P,R,E⟩:=hS;unfold jC fA at P;unfold pU at hO;unfold iR at E;have qM:q.rw.l.length<=n+1:=by have:=K.rl; omega
 have qR:0<=q.cm/\q.cm<=((n+1:Nat):Int):=by have:=K.cb; omega
 have HQ:=hc.1;have KV:=hc.2;have O3:=ha.1;have O2:=ha.2;simp only [act,Int.reduceEq,if_true,if_false,reduceIte] at h
 repeat' split at h
 all_goals simp only [Act.res.injEq,reduceCtorEq] at h
 ·obtain⟨rfl,rfl,rfl,rfl,rfl,rfl,rfl,rfl,rfl⟩:=h;refine⟨{ q with ct:=IntKind.i64.wrap (q.ct-1) },?_,⟨K.en,qM,(by intro h; omega),(by intro h; omega),fun _=>by rw [K.ct J],(by intro h; omega),qR,(by intro h; omega),(by intro h; omega)⟩⟩;simp only [oY,Int.reduceEq,if_true,if_false,reduceIte]
  all_goals rw [ah (by have e:=K.ct J; have:=IntKind.wrap_i64; simp only [IntKind.wrap_i64] at *; omega),ak (by rw [K.ct J])]
theorem akn (hS:mY 7 N mm o c dn g r v) (hO:pU d0 7 N) (K:mZ 7 N n q o c dn g r v) (hc:eE .i64 c) (ha:eE .i64 arg) (t0:0<=th) (h:act N mo th 19 arg tries o c dn g r v= .res o' c' ia g' r' v' m a oc): ∃q',oY N th 19 a q=some q'/\mZ 7 N (n+1) q' o' c' ia g' r' v':=by
 obtain⟨P,R,E⟩:=hS;unfold jC fA at P;unfold pU at hO;unfold iR at E;have qM:q.rw.l.length<=n+1:=by have:=K.rl; omega
 have qR:0<=q.cm/\q.cm<=((n+1:Nat):Int):=by have:=K.cb; omega
 have HQ:=hc.1;have KV:=hc.2;have O3:=ha.1;have O2:=ha.2;simp only [act,Int.reduceEq,if_true,if_false,reduceIte] at h
 repeat' split at h
 all_goals simp only [Act.res.injEq,reduceCtorEq] at h
 ·obtain⟨rfl,rfl,rfl,rfl,rfl,rfl,rfl,rfl,rfl⟩:=h;refine⟨q,?_,⟨K.en,qM,(by intro h; omega),(by intro h; omega),fun _=>K.ct J,(by intro h; omega),qR,(by intro h; omega),(by intro h; omega)⟩⟩;simp only [oY,Int.reduceEq,if_true,if_false,reduceIte]
  all_goals rw [ak (by rw [K.ct J]; assumption)]
theorem akk (hS:mY 9 N mm o c dn g r v) (hO:pU d0 9 N) (K:mZ 9 N n q o c dn g r v) (hc:eE .i64 c) (ha:eE .i64 arg) (t0:0<=th) (h:act N mo th 22 arg tries o c dn g r v= .res o' c' ia g' r' v' m a oc): ∃q',oY N th 22 a q=some q'/\mZ 9 N (n+1) q' o' c' ia g' r' v':=by
 obtain⟨P,R,E⟩:=hS;unfold jC fA at P;unfold pU at hO;unfold iR at E;have qM:q.rw.l.length<=n+1:=by have:=K.rl; omega
 have qR:0<=q.cm/\q.cm<=((n+1:Nat):Int):=by have:=K.cb; omega
 have HQ:=hc.1;have KV:=hc.2;have O3:=ha.1;have O2:=ha.2;simp only [act,Int.reduceEq,if_true,if_false,reduceIte] at h
 repeat' split at h
 all_goals simp only [Act.res.injEq,reduceCtorEq] at h
 ·obtain⟨rfl,rfl,rfl,rfl,rfl,rfl,rfl,rfl,rfl⟩:=h;refine⟨q,?_,⟨K.en,qM,(by intro h; omega),(by intro h; omega),fun _=>K.ct J,(by intro h; omega),qR,(by intro h; omega),(by intro h; omega)⟩⟩;simp only [oY,Int.reduceEq,if_true,if_false,reduceIte]
  all_goals rw [ak (K.ct J)]
theorem akj (hS:mY 9 N mm o c dn g r v) (hO:pU d0 9 N) (K:mZ 9 N n q o c dn g r v) (hc:eE .i64 c) (ha:eE .i64 arg) (t0:0<=th) (h:act N mo th 23 arg tries o c dn g r v= .res o' c' ia g' r' v' m a oc): ∃q',oY N th 23 a q=some q'/\mZ 9 N (n+1) q' o' c' ia g' r' v':=by
 obtain⟨P,R,E⟩:=hS;unfold jC fA at P;unfold pU at hO;unfold iR at E;have qM:q.rw.l.length<=n+1:=by have:=K.rl; omega
 have qR:0<=q.cm/\q.cm<=((n+1:Nat):Int):=by have:=K.cb; omega
 have HQ:=hc.1;have KV:=hc.2;have O3:=ha.1;have O2:=ha.2;simp only [act,Int.reduceEq,if_true,if_false,reduceIte] at h
 repeat' split at h
 all_goals simp only [Act.res.injEq,reduceCtorEq] at h
 ·obtain⟨rfl,rfl,rfl,rfl,rfl,rfl,rfl,rfl,rfl⟩:=h;refine⟨{ q with ct:=arg },?_,⟨K.en,qM,(by intro h; omega),(by intro h; omega),fun _=>rfl,(by intro h; omega),qR,(by intro h; omega),(by intro h; omega)⟩⟩;simp only [oY,Int.reduceEq,if_true,if_false,reduceIte]
theorem Wo {g N c:Int} (h0:0<=c) (U:c<N) (Z:0<=g):(g*N+c).tdiv N=g:=by have h:0<=g*N+c:=Int.add_nonneg (Int.mul_nonneg Z J) h0;rw [Int.tdiv_eq_ediv_of_nonneg h,Int.add_comm,Int.add_mul_ediv_right _ _ J,Int.ediv_eq_zero_of_lt h0 U];omega
theorem akr (hS:mY 5 N mm o c dn g r v) (hO:pU d0 5 N) (K:mZ 5 N n q o c dn g r v) (hc:eE .i64 c) (ha:eE .i64 arg) (t0:0<=th) (hn:n<=100000) (h:act N mo th 15 arg tries o c dn g r v= .res o' c' ia g' r' v' m a oc): ∃q',oY N th 15 a q=some q'/\mZ 5 N (n+1) q' o' c' ia g' r' v':=by
 obtain⟨P,R,E⟩:=hS;unfold jC fA at P;unfold pU at hO;unfold iR at E;have qM:q.rw.l.length<=n+1:=by have:=K.rl; omega
 have qR:0<=q.cm/\q.cm<=((n+1:Nat):Int):=by have:=K.cb; omega
 simp only [act,Int.reduceEq,if_true,if_false,reduceIte] at h
 repeat' split at h
 all_goals simp only [Act.res.injEq,reduceCtorEq] at h
 ·have RV:=K.cm rfl;have hd:=Wo RV.2.1 RV.2.2 (by omega:0<=g);obtain⟨rfl,rfl,rfl,rfl,rfl,rfl,rfl,rfl,rfl⟩:=h;refine⟨{ q with cm:=IntKind.i64.wrap (q.cm+1) },?_,⟨K.en,qM,(by intro h; omega),(by intro h; omega),(by intro h; omega),fun _=>?_,?_,(by intro h; omega),(by intro h; omega)⟩⟩
  ·simp only [oY,Int.reduceEq,if_true,if_false,reduceIte];rw [ah J,RV.1,hd,ak (by simp only [IntKind.wrap_i64]; omega)]
  ·have:=K.cb;simp only [IntKind.wrap_i64] at *;have e:(g+1)*N=g*N+N:=by rw [Int.add_mul,Int.one_mul]
   have e2:(g+1+9223372036854775808) % 18446744073709551616-9223372036854775808=g+1:=J
   refine⟨?_,J,J⟩;rw [e2,e];omega
  ·have:=K.cb;simp only [IntKind.wrap_i64];omega
 ·have RV:=K.cm rfl;have hd:=Wo RV.2.1 RV.2.2 (by omega:0<=g);obtain⟨rfl,rfl,rfl,rfl,rfl,rfl,rfl,rfl,rfl⟩:=h;refine⟨{ q with cm:=IntKind.i64.wrap (q.cm+1) },?_,⟨K.en,qM,(by intro h; omega),(by intro h; omega),(by intro h; omega),fun _=>?_,?_,(by intro h; omega),(by intro h; omega)⟩⟩
  ·simp only [oY,Int.reduceEq,if_true,if_false,reduceIte];rw [ah J,RV.1,hd,ak (by simp only [IntKind.wrap_i64]; omega)]
  ·have hkb:=K.cb;have gB: ¬IntKind.i64.wrap (c+1)=N:=by assumption
   have hc3:c<=IntKind.i64.wrap (N-1):=J
   rw [IntKind.wrap_i64] at hc3 gB;simp only [IntKind.wrap_i64];omega
  ·have:=K.cb;simp only [IntKind.wrap_i64];omega
theorem aki (hS:mY 5 N mm o c dn g r v) (hO:pU d0 5 N) (K:mZ 5 N n q o c dn g r v) (hc:eE .i64 c) (ha:eE .i64 arg) (t0:0<=th) (h25:0<=arg) (hg:eE .i64 g) (h:act N mo th 25 arg tries o c dn g r v= .res o' c' ia g' r' v' m a oc): ∃q',oY N th 25 a q=some q'/\mZ 5 N (n+1) q' o' c' ia g' r' v':=by
 obtain⟨P,R,E⟩:=hS;unfold jC fA at P;unfold pU at hO;unfold iR at E;have qM:q.rw.l.length<=n+1:=by have:=K.rl; omega
 have qR:0<=q.cm/\q.cm<=((n+1:Nat):Int):=by have:=K.cb; omega
 simp only [act,Int.reduceEq,if_true,if_false,reduceIte] at h
 repeat' split at h
 all_goals simp only [Act.res.injEq,reduceCtorEq] at h
 ·have RV:=K.cm rfl;have hd:=Wo RV.2.1 RV.2.2 (by omega:0<=g);have hg1:=hg.1;have hg2:=hg.2;obtain⟨rfl,rfl,rfl,rfl,rfl,rfl,rfl,rfl,rfl⟩:=h;refine⟨q,?_,⟨K.en,qM,(by intro h; omega),(by intro h; omega),(by intro h; omega),fun _=>RV,qR,(by intro h; omega),(by intro h; omega)⟩⟩;simp only [oY,Int.reduceEq,if_true,if_false,reduceIte];rw [ah J,ah J,RV.1,hd,ak (by simp only [IntKind.wrap_i64]; omega)]
theorem akq (hS:mY 6 N mm o c dn g r v) (hO:pU d0 6 N) (K:mZ 6 N n q o c dn g r v) (hc:eE .i64 c) (ha:eE .i64 arg) (t0:0<=th) (h:act N mo th 16 arg tries o c dn g r v= .res o' c' ia g' r' v' m a oc): ∃q',oY N th 16 a q=some q'/\mZ 6 N (n+1) q' o' c' ia g' r' v':=by
 obtain⟨P,R,E⟩:=hS;unfold jC fA at P;unfold pU at hO;unfold iR at E;have qM:q.rw.l.length<=n+1:=by have:=K.rl; omega
 have qR:0<=q.cm/\q.cm<=((n+1:Nat):Int):=by have:=K.cb; omega
 simp only [act,Int.reduceEq,if_true,if_false,reduceIte] at h
 repeat' split at h
 all_goals simp only [Act.res.injEq,reduceCtorEq] at h
 ·have ho:=K.on rfl;have hw:=K.ow J;obtain⟨rfl,rfl,rfl,rfl,rfl,rfl,rfl,rfl,rfl⟩:=h;refine⟨{ q with ow:=th,cm:=IntKind.i64.wrap (q.cm+1) },?_,⟨K.en,qM,fun _=>rfl,(by intro h; omega),(by intro h; omega),(by intro h; omega),?_,fun _=> ⟨ho.1,.inr ⟨?_,.inl t0⟩⟩,(by intro h; omega)⟩⟩
  ·simp only [oY,Int.reduceEq,if_true,if_false,reduceIte];rw [ak ⟨by simp only [IntKind.wrap_i64]; omega,J⟩]
  ·simp only [IntKind.wrap_i64];omega
  ·simp only [IntKind.wrap_i64];omega
 ·have ho:=K.on rfl;obtain⟨rfl,rfl,rfl,rfl,rfl,rfl,rfl,rfl,rfl⟩:=h;refine⟨q,?_,⟨K.en,qM,fun _=>K.ow J,(by intro h; omega),(by intro h; omega),(by intro h; omega),qR,fun _=>ho,(by intro h; omega)⟩⟩;simp only [oY,Int.reduceEq,if_true,if_false,reduceIte];rw [ah J]
theorem akh (hS:mY 6 N mm o c dn g r v) (hO:pU d0 6 N) (K:mZ 6 N n q o c dn g r v) (hc:eE .i64 c) (ha:eE .i64 arg) (t0:0<=th) (h:act N mo th 26 arg tries o c dn g r v= .res o' c' ia g' r' v' m a oc): ∃q',oY N th 26 a q=some q'/\mZ 6 N (n+1) q' o' c' ia g' r' v':=by
 obtain⟨P,R,E⟩:=hS;unfold jC fA at P;unfold pU at hO;unfold iR at E;have qM:q.rw.l.length<=n+1:=by have:=K.rl; omega
 have qR:0<=q.cm/\q.cm<=((n+1:Nat):Int):=by have:=K.cb; omega
 simp only [act,Int.reduceEq,if_true,if_false,reduceIte] at h
 repeat' split at h
 all_goals simp only [Act.res.injEq,reduceCtorEq] at h
 ·have ho:=K.on rfl;have hw:=K.ow J;obtain⟨rfl,rfl,rfl,rfl,rfl,rfl,rfl,rfl,rfl⟩:=h;refine⟨{ q with ow:=-1,en:=1 },?_,⟨.inr rfl,qM,fun _=>rfl,(by intro h; omega),(by intro h; omega),(by intro h; omega),qR,fun _=> ⟨rfl,.inr ⟨by show q.cm=1; omega,.inr rfl⟩⟩,(by intro h; omega)⟩⟩;simp only [oY,Int.reduceEq,if_true,if_false,reduceIte];rw [ak ⟨J,J⟩]
theorem akm (hS:mY 8 N mm o c dn g r v) (hO:pU d0 8 N) (K:mZ 8 N n q o c dn g r v) (hc:eE .i64 c) (ha:eE .i64 arg) (t0:0<=th) (h:act N mo th 20 arg tries o c dn g r v= .res o' c' ia g' r' v' m a oc): ∃q',oY N th 20 a q=some q'/\mZ 8 N (n+1) q' o' c' ia g' r' v':=by
 obtain⟨P,R,E⟩:=hS;unfold jC fA at P;unfold pU at hO;unfold iR at E;have qM:q.rw.l.length<=n+1:=by have:=K.rl; omega
 have qR:0<=q.cm/\q.cm<=((n+1:Nat):Int):=by have:=K.cb; omega
 simp only [act,Int.reduceEq,if_true,if_false,reduceIte] at h
 repeat' split at h
 all_goals simp only [Act.res.injEq,reduceCtorEq] at h
 ·have hr:=K.rw rfl;have W:=K.rl;obtain⟨rfl,rfl,rfl,rfl,rfl,rfl,rfl,rfl,rfl⟩:=h;refine⟨{ q with rw:=dL (q.rw.l++ [.i arg]) },?_,⟨K.en,?_,(by intro h; omega),(by intro h; omega),(by intro h; omega),(by intro h; omega),qR,(by intro h; omega),fun _=>?_⟩⟩
  ·simp only [oY,Int.reduceEq,if_true,if_false,reduceIte];rw [ah (by rw [hr]; omega)]
  ·rw [bD,a8];simpa using W
  ·rw [bD,bD,hr]
theorem akl (hS:mY 8 N mm o c dn g r v) (hO:pU d0 8 N) (K:mZ 8 N n q o c dn g r v) (hc:eE .i64 c) (ha:eE .i64 arg) (t0:0<=th) (h:act N mo th 21 arg tries o c dn g r v= .res o' c' ia g' r' v' m a oc): ∃q',oY N th 21 a q=some q'/\mZ 8 N (n+1) q' o' c' ia g' r' v':=by
 obtain⟨P,R,E⟩:=hS;unfold jC fA at P;unfold pU at hO;unfold iR at E;have qM:q.rw.l.length<=n+1:=by have:=K.rl; omega
 have qR:0<=q.cm/\q.cm<=((n+1:Nat):Int):=by have:=K.cb; omega
 simp only [act,Int.reduceEq,if_true,if_false,reduceIte] at h
 repeat' split at h
 all_goals simp only [Act.res.injEq,reduceCtorEq] at h
 ·have hr:=K.rw rfl;have W:=K.rl;have hD:q.rw.at 0=v.at 0:=by unfold D.at; rw [hr]
  obtain⟨rfl,rfl,rfl,rfl,rfl,rfl,rfl,rfl,rfl⟩:=h;refine⟨{ q with rw:=if (q.rw.l.length:Int)-1=0 then .i 3 else bR (bR q.rw (q.rw.l.take (1+((q.rw.l.length:Int)-1)).toNat)) ((bR q.rw (q.rw.l.take (1+((q.rw.l.length:Int)-1)).toNat)).l.drop (Int.toNat 1)) },?_,?_⟩
  ·simp only [oY,Int.reduceEq,if_true,if_false,reduceIte];rw [ah (by rw [hr]; assumption),ak (by rw [hD])]
  ·have e:(if (q.rw.l.length:Int)-1=0 then D.i 3 else bR (bR q.rw (q.rw.l.take (1+((q.rw.l.length:Int)-1)).toNat)) ((bR q.rw (q.rw.l.take (1+((q.rw.l.length:Int)-1)).toNat)).l.drop (Int.toNat 1))).l=v.l.drop 1:=by
    split
    ·rename_i U;rw [aoj (by rw [<- hr]; omega)];rfl
    ·rw [bN,bN,am6 J,hr];rfl
   refine⟨K.en,?_,(by intro h; omega),(by intro h; omega),(by intro h; omega),(by intro h; omega),qR,(by intro h; omega),fun _=>?_⟩
   ·show (if _ then _ else _:D).l.length<=n+1;rw [e,br,<- hr];omega
   ·exact e.trans (bN _ _).symm
end
end Go.As.Try
end
section
namespace Go.As.Try
open Go hiding Stat Spec shape
open Go.As
set_option maxRecDepth 100000
set_option linter.unusedSimpArgs false
def DF (op k:Int):Prop:= ∀{d0 d1 es p:D} {i:Nat} {th ob a:Int} {P:List Int->Prop} {q q':Kn},EvH d0 d1 es p i th op ob a q->((d0.at ob).hd 0).n=k->oY ((d0.at ob).hd 2).n th op a q=some q'->(∀p':D,KP p p' ob q'->dS 23151 [enc es,(es.l.length:Int),((i+1:Nat):Int),enc d0,enc d1,enc p'] P)->
 dS 23151 [enc es,(es.l.length:Int),(i:Int),enc d0,enc d1,enc p] P
theorem Gh {op k:Int} (h:DF op k:=by
 intro d0 d1 es p i th ob a P q q' H hk h hs;have c1:(i:Int)<(es.l.length:Int):=by have:=H.i0; omega
 have c2: ¬(i:Int)<0:=J
 have w:=bP (n:=i) (by have:=H.i0; have:=H.i1; omega);have c3: ¬th<0:=by have:=H.t0; omega
 have c4:=H.t1;have c5: ¬ob<0:=by have:=H.o0; omega
 have c6:=H.o1;have hD:=H.he;have hq:=H.qm;have hen:=H.en;have Vr:=H.rl;clear H;unfold xZ kd Nd kn0 at hq;generalize hN:((d0.at ob).hd 2).n=N at *;simp only [oY,Int.reduceEq,if_true,if_false,reduceIte] at h;obtain⟨ow,rd,ct,cm,en,I3⟩:=q
 have hb:(if en=0 then (0:Int) else 1)=en:=by rcases hen with h|h<;>(simp only at h; subst h; rfl)
 refine dS.of ?_;rw [BP];rcases hq with hf|⟨hf,hq⟩
 ·unfold Kn.d at hf;have Vr:I3.l.length<=100000:=Vr;by_cases C_:I3= .i 3
  ·subst C_;simp only [eM,zz,eG,dO,c1,c2,c3,c4,c5,c6,w,DC,hD,zg,hk,hf,kindOf,hb,ax,aN,aR,aY,nD,bD,jr,dj,aA,aw,Int.reduceEq,Int.reduceLT,Int.reduceNeg,aP,aC,if_true,if_false,reduceIte,true_and,and_true,and_self,hN,Int.reduceLE]
   all_goals (
    try simp only at h
    repeat' split at h
    all_goals simp only [an,reduceCtorEq] at h
    all_goals subst h
    all_goals (repeat' first
     |(refine .jump (hs _ ?_); first |(refine fc ?_; (first |(simp only [Kn.d,bZ,cO,jr,aw]; done)|(simp only [Kn.d,bZ,cO,lg,aw]; done)|rfl))|(refine fb ?_; (first |(simp only [Kn.d,bZ,cO,jr,aw]; done)|(simp only [Kn.d,bZ,cO,lg,aw]; done)|rfl)))
     |refine .ite (fun _=>?_) (fun _=>?_))
    all_goals (exfalso; first |omega|(simp only [jr,bD,aA,aQ,a8] at *; omega)|(simp_all [nD,jr]; done)|contradiction))
  ·have sY: ¬enc I3=enc (.i 3):=fun e=>C_ (fg e);by_cases HN:(I3.l.length:Int)=0
   ·have lg:I3.l= []:=amv J;simp only [eM,zz,eG,dO,c1,c2,c3,c4,c5,c6,w,DC,hD,zg,hk,hf,kindOf,hb,ax,aN,aR,aY,nD,bD,jr,dj,aA,aw,Int.reduceEq,Int.reduceLT,Int.reduceNeg,aP,aC,if_true,if_false,reduceIte,true_and,and_true,and_self,hN,Int.reduceLE,HN,sY]
    all_goals (
    try simp only at h
    repeat' split at h
    all_goals simp only [an,reduceCtorEq] at h
    all_goals subst h
    all_goals (repeat' first
     |(refine .jump (hs _ ?_); first |(refine fc ?_; (first |(simp only [Kn.d,bZ,cO,jr,aw]; done)|(simp only [Kn.d,bZ,cO,lg,aw]; done)|rfl))|(refine fb ?_; (first |(simp only [Kn.d,bZ,cO,jr,aw]; done)|(simp only [Kn.d,bZ,cO,lg,aw]; done)|rfl)))
     |refine .ite (fun _=>?_) (fun _=>?_))
    all_goals (exfalso; first |omega|(simp only [jr,bD,aA,aQ,a8] at *; omega)|(simp_all [nD,jr]; done)|contradiction))
   ·have iX:(I3.l.length:Int)<17592186044415:=J
    simp only [eM,zz,eG,dO,c1,c2,c3,c4,c5,c6,w,DC,hD,zg,hk,hf,kindOf,hb,ax,aN,aR,aY,nD,bD,jr,dj,aA,aw,Int.reduceEq,Int.reduceLT,Int.reduceNeg,aP,aC,if_true,if_false,reduceIte,true_and,and_true,and_self,hN,Int.reduceLE,HN,sY,iX]
    all_goals (
    try simp only at h
    repeat' split at h
    all_goals simp only [an,reduceCtorEq] at h
    all_goals subst h
    all_goals (repeat' first
     |(refine .jump (hs _ ?_); first |(refine fc ?_; (first |(simp only [Kn.d,bZ,cO,jr,aw]; done)|(simp only [Kn.d,bZ,cO,lg,aw]; done)|rfl))|(refine fb ?_; (first |(simp only [Kn.d,bZ,cO,jr,aw]; done)|(simp only [Kn.d,bZ,cO,lg,aw]; done)|rfl)))
     |refine .ite (fun _=>?_) (fun _=>?_))
    all_goals (exfalso; first |omega|(simp only [jr,bD,aA,aQ,a8] at *; omega)|(simp_all [nD,jr]; done)|contradiction))
 ·simp only [Kn.mk.injEq,hk,Int.reduceEq,or_self,or_true,or_false,false_or,true_or,if_true,if_false,reduceIte] at hq;obtain⟨rfl,rfl,rfl,rfl,rfl,rfl⟩:=hq;simp only [eM,zz,eG,dO,c1,c2,c3,c4,c5,c6,w,DC,hD,zg,hk,hf,kindOf,hb,ax,aN,aR,aY,nD,bD,jr,dj,aA,aw,Int.reduceEq,Int.reduceLT,Int.reduceNeg,aP,aC,if_true,if_false,reduceIte,true_and,and_true,and_self,hN,Int.reduceLE]
  all_goals (
   try simp only at h
   repeat' split at h
   all_goals simp only [an,reduceCtorEq] at h
   all_goals subst h
   all_goals (repeat' first
    |(refine .jump (hs _ ?_); first |(refine fc ?_; (first |(simp only [Kn.d,bZ,cO,jr,aw]; done)|(simp only [Kn.d,bZ,cO,lg,aw]; done)|rfl))|(refine fb ?_; (first |(simp only [Kn.d,bZ,cO,jr,aw]; done)|(simp only [Kn.d,bZ,cO,lg,aw]; done)|rfl)))
    |refine .ite (fun _=>?_) (fun _=>?_))
   all_goals (exfalso; first |omega|(simp only [jr,bD,aA,aQ,a8] at *; omega)|(simp_all [nD,jr]; done)|contradiction))):DF op k:=h
set_option maxHeartbeats 8000000 in
theorem So:DF 1 1:=Gh
set_option maxHeartbeats 8000000 in
theorem ev2:DF 2 1:=Gh
set_option maxHeartbeats 8000000 in
theorem ev8:DF 8 2:=Gh
set_option maxHeartbeats 8000000 in
theorem ev3:DF 3 1:=Gh
set_option maxHeartbeats 8000000 in
theorem ev4:DF 4 1:=Gh
set_option maxHeartbeats 8000000 in
theorem ev5:DF 5 2:=Gh
set_option maxHeartbeats 8000000 in
theorem ev6:DF 6 2:=Gh
set_option maxHeartbeats 8000000 in
theorem ev7:DF 7 2:=Gh
set_option maxHeartbeats 8000000 in
theorem ev9:DF 9 3:=Gh
set_option maxHeartbeats 8000000 in
theorem alD:DF 10 3:=Gh
set_option maxHeartbeats 8000000 in
theorem alC:DF 11 3:=Gh
set_option maxHeartbeats 8000000 in
theorem alw:DF 17 7:=Gh
set_option maxHeartbeats 8000000 in
theorem alv:DF 18 7:=Gh
set_option maxHeartbeats 8000000 in
theorem alu:DF 19 7:=Gh
set_option maxHeartbeats 8000000 in
theorem alq:DF 22 9:=Gh
set_option maxHeartbeats 8000000 in
theorem alp:DF 23 9:=Gh
set_option maxHeartbeats 8000000 in
theorem als:DF 20 8:=Gh
set_option maxHeartbeats 8000000 in
theorem aly:DF 15 5:=Gh
end Go.As.Try
end
section
namespace Go.As.Try
open Go hiding Stat Spec shape
open Go.As
set_option maxRecDepth 100000
set_option linter.unusedSimpArgs false
set_option linter.unusedVariables false
def StM (op:Int) (pre:Int->Kn->Prop) (new:Int->Kn->Kn):Prop:= ∀{d0 d1 es p:D} {i:Nat} {th ob a M:Int} {P:List Int->Prop} {q m:Kn},EvH d0 d1 es p i th op ob a q->((d0.at ob).hd 0).n=4->((d0.at ob).hd 2).n=M->((d0.at M).hd 0).n=1->0<=M->M<(d0.l.length:Int)->M≠ob->xZ d0 p M m->(m.en=0\/m.en=1)->m.rw.l.length<=100000->pre th m->(∀p':D,x_ p p' ob M q (new th m)->dS 23151 [enc es,(es.l.length:Int),((i+1:Nat):Int),enc d0,enc d1,enc p'] P)->
 dS 23151 [enc es,(es.l.length:Int),(i:Int),enc d0,enc d1,enc p] P
def StN (op:Int):Prop:= ∀{d0 d1 es p:D} {i:Nat} {th ob a M:Int} {P:List Int->Prop} {q m:Kn},EvH d0 d1 es p i th op ob a q->((d0.at ob).hd 0).n=4->((d0.at ob).hd 2).n=M->((d0.at M).hd 0).n=1->0<=M->M<(d0.l.length:Int)->M≠ob->xZ d0 p M m->(m.en=0\/m.en=1)->m.rw.l.length<=100000->(∀p':D,(KP p p' ob q\/x_ p p' ob M q m)->dS 23151 [enc es,(es.l.length:Int),((i+1:Nat):Int),enc d0,enc d1,enc p'] P)->
 dS 23151 [enc es,(es.l.length:Int),(i:Int),enc d0,enc d1,enc p] P
theorem ajc {op:Int} {pre:Int->Kn->Prop} {new:Int->Kn->Kn} (h:StM op pre new:=by
 intro d0 d1 es p i th ob a M P q m H hk hN nI M0 M1 gT hm hme Mb tW hs;have c1:(i:Int)<(es.l.length:Int):=by have:=H.i0; omega
 have c2: ¬(i:Int)<0:=J
 have w:=bP (n:=i) (by have:=H.i0; have:=H.i1; omega);have c3: ¬th<0:=by have:=H.t0; omega
 have c4:=H.t1;have c5: ¬ob<0:=by have:=H.o0; omega
 have c6:=H.o1;have c7: ¬M<0:=J
 have c8:=M1;have l9: ¬ob=M:=fun e=>gT e.symm;have hD:=H.he;have hq:=H.qm;have hen:=H.en;have Vr:=H.rl;clear H;unfold xZ kd Nd kn0 at hq hm;obtain⟨ow,rd,ct,cm,en,I3⟩:=q;obtain⟨ow2,rd2,E_,cm2,en2,xm⟩:=m
 have hb:(if en=0 then (0:Int) else 1)=en:=by rcases hen with h|h<;>(simp only at h; subst h; rfl)
 have rQ:(if en2=0 then (0:Int) else 1)=en2:=by rcases hme with h|h<;>(simp only at h; subst h; rfl)
 try simp only at tW
 refine dS.of ?_;rw [BP];rcases hq with hf|⟨hf,hq⟩
 ·unfold Kn.d at hf;have Vr:I3.l.length<=100000:=Vr;by_cases C_:I3= .i 3
  ·subst C_;rcases hm with hg|⟨hg,hm⟩
   ·unfold Kn.d at hg;have Mb:xm.l.length<=100000:=Mb;by_cases EM:xm= .i 3
    ·subst EM;simp only [eM,zz,eG,dO,c1,c2,c3,c4,c5,c6,c7,c8,gT,l9,w,hD,zg,hk,nI,hf,hg,hN,kindOf,ax,aN,aR,aY,nD,bD,jr,dj,bB,D.i.injEq,aA,aw,Int.reduceEq,Int.reduceLT,Int.reduceLE,Int.reduceNeg,aP,aC,if_true,if_false,reduceIte,true_and,and_true,and_self,tW,hb,rQ]
     all_goals (first
    |(refine .jump (hs _ fun j=>?_)
      by_cases e1:ob=j
      ·subst e1;simp only [bD,bB,D.i.injEq,gT,if_true,if_false,reduceIte];rfl
      ·have kT: ¬j=ob:=fun e=>e1 e.symm;by_cases e2:M=j
       ·subst e2;simp only [bD,bB,D.i.injEq,e1,gT,if_true,if_false,reduceIte];rfl
       ·have mH: ¬j=M:=fun e=>e2 e.symm
        simp only [bD,bB,D.i.injEq,e1,kT,e2,mH,if_false,reduceIte])
    |(exfalso; omega))
    ·have qb: ¬enc xm=enc (.i 3):=fun e=>EM (fg e);by_cases EL:(xm.l.length:Int)=0
     ·simp only [eM,zz,eG,dO,c1,c2,c3,c4,c5,c6,c7,c8,gT,l9,w,hD,zg,hk,nI,hf,hg,hN,kindOf,ax,aN,aR,aY,nD,bD,jr,dj,bB,D.i.injEq,aA,aw,Int.reduceEq,Int.reduceLT,Int.reduceLE,Int.reduceNeg,aP,aC,if_true,if_false,reduceIte,true_and,and_true,and_self,tW,hb,rQ,EL,qb]
      all_goals (first
    |(refine .jump (hs _ fun j=>?_)
      by_cases e1:ob=j
      ·subst e1;simp only [bD,bB,D.i.injEq,gT,if_true,if_false,reduceIte];rfl
      ·have kT: ¬j=ob:=fun e=>e1 e.symm;by_cases e2:M=j
       ·subst e2;simp only [bD,bB,D.i.injEq,e1,gT,if_true,if_false,reduceIte];rfl
       ·have mH: ¬j=M:=fun e=>e2 e.symm
        simp only [bD,bB,D.i.injEq,e1,kT,e2,mH,if_false,reduceIte])
    |(exfalso; omega))
     ·simp only [eM,zz,eG,dO,c1,c2,c3,c4,c5,c6,c7,c8,gT,l9,w,hD,zg,hk,nI,hf,hg,hN,kindOf,ax,aN,aR,aY,nD,bD,jr,dj,bB,D.i.injEq,aA,aw,Int.reduceEq,Int.reduceLT,Int.reduceLE,Int.reduceNeg,aP,aC,if_true,if_false,reduceIte,true_and,and_true,and_self,tW,hb,rQ,EL,qb]
      all_goals (first
    |(refine .jump (hs _ fun j=>?_)
      by_cases e1:ob=j
      ·subst e1;simp only [bD,bB,D.i.injEq,gT,if_true,if_false,reduceIte];rfl
      ·have kT: ¬j=ob:=fun e=>e1 e.symm;by_cases e2:M=j
       ·subst e2;simp only [bD,bB,D.i.injEq,e1,gT,if_true,if_false,reduceIte];rfl
       ·have mH: ¬j=M:=fun e=>e2 e.symm
        simp only [bD,bB,D.i.injEq,e1,kT,e2,mH,if_false,reduceIte])
    |(exfalso; omega))
   ·simp only [Kn.mk.injEq,nI,Int.reduceEq,or_self,or_true,or_false,false_or,true_or,if_true,if_false,reduceIte] at hm;obtain⟨rfl,rfl,rfl,rfl,rfl,rfl⟩:=hm;simp only [eM,zz,eG,dO,c1,c2,c3,c4,c5,c6,c7,c8,gT,l9,w,hD,zg,hk,nI,hf,hg,hN,kindOf,ax,aN,aR,aY,nD,bD,jr,dj,bB,D.i.injEq,aA,aw,Int.reduceEq,Int.reduceLT,Int.reduceLE,Int.reduceNeg,aP,aC,if_true,if_false,reduceIte,true_and,and_true,and_self,tW,hb]
    all_goals (first
    |(refine .jump (hs _ fun j=>?_)
      by_cases e1:ob=j
      ·subst e1;simp only [bD,bB,D.i.injEq,gT,if_true,if_false,reduceIte];rfl
      ·have kT: ¬j=ob:=fun e=>e1 e.symm;by_cases e2:M=j
       ·subst e2;simp only [bD,bB,D.i.injEq,e1,gT,if_true,if_false,reduceIte];rfl
       ·have mH: ¬j=M:=fun e=>e2 e.symm
        simp only [bD,bB,D.i.injEq,e1,kT,e2,mH,if_false,reduceIte])
    |(exfalso; omega))
  ·have sY: ¬enc I3=enc (.i 3):=fun e=>C_ (fg e);by_cases HN:(I3.l.length:Int)=0
   ·rcases hm with hg|⟨hg,hm⟩
    ·unfold Kn.d at hg;have Mb:xm.l.length<=100000:=Mb;by_cases EM:xm= .i 3
     ·subst EM;simp only [eM,zz,eG,dO,c1,c2,c3,c4,c5,c6,c7,c8,gT,l9,w,hD,zg,hk,nI,hf,hg,hN,kindOf,ax,aN,aR,aY,nD,bD,jr,dj,bB,D.i.injEq,aA,aw,Int.reduceEq,Int.reduceLT,Int.reduceLE,Int.reduceNeg,aP,aC,if_true,if_false,reduceIte,true_and,and_true,and_self,tW,hb,HN,sY,rQ]
      all_goals (first
    |(refine .jump (hs _ fun j=>?_)
      by_cases e1:ob=j
      ·subst e1;simp only [bD,bB,D.i.injEq,gT,if_true,if_false,reduceIte];rfl
      ·have kT: ¬j=ob:=fun e=>e1 e.symm;by_cases e2:M=j
       ·subst e2;simp only [bD,bB,D.i.injEq,e1,gT,if_true,if_false,reduceIte];rfl
       ·have mH: ¬j=M:=fun e=>e2 e.symm
        simp only [bD,bB,D.i.injEq,e1,kT,e2,mH,if_false,reduceIte])
    |(exfalso; omega))
     ·have qb: ¬enc xm=enc (.i 3):=fun e=>EM (fg e);by_cases EL:(xm.l.length:Int)=0
      ·simp only [eM,zz,eG,dO,c1,c2,c3,c4,c5,c6,c7,c8,gT,l9,w,hD,zg,hk,nI,hf,hg,hN,kindOf,ax,aN,aR,aY,nD,bD,jr,dj,bB,D.i.injEq,aA,aw,Int.reduceEq,Int.reduceLT,Int.reduceLE,Int.reduceNeg,aP,aC,if_true,if_false,reduceIte,true_and,and_true,and_self,tW,hb,HN,sY,rQ,EL,qb]
       all_goals (first
    |(refine .jump (hs _ fun j=>?_)
      by_cases e1:ob=j
      ·subst e1;simp only [bD,bB,D.i.injEq,gT,if_true,if_false,reduceIte];rfl
      ·have kT: ¬j=ob:=fun e=>e1 e.symm;by_cases e2:M=j
       ·subst e2;simp only [bD,bB,D.i.injEq,e1,gT,if_true,if_false,reduceIte];rfl
       ·have mH: ¬j=M:=fun e=>e2 e.symm
        simp only [bD,bB,D.i.injEq,e1,kT,e2,mH,if_false,reduceIte])
    |(exfalso; omega))
      ·simp only [eM,zz,eG,dO,c1,c2,c3,c4,c5,c6,c7,c8,gT,l9,w,hD,zg,hk,nI,hf,hg,hN,kindOf,ax,aN,aR,aY,nD,bD,jr,dj,bB,D.i.injEq,aA,aw,Int.reduceEq,Int.reduceLT,Int.reduceLE,Int.reduceNeg,aP,aC,if_true,if_false,reduceIte,true_and,and_true,and_self,tW,hb,HN,sY,rQ,EL,qb]
       all_goals (first
    |(refine .jump (hs _ fun j=>?_)
      by_cases e1:ob=j
      ·subst e1;simp only [bD,bB,D.i.injEq,gT,if_true,if_false,reduceIte];rfl
      ·have kT: ¬j=ob:=fun e=>e1 e.symm;by_cases e2:M=j
       ·subst e2;simp only [bD,bB,D.i.injEq,e1,gT,if_true,if_false,reduceIte];rfl
       ·have mH: ¬j=M:=fun e=>e2 e.symm
        simp only [bD,bB,D.i.injEq,e1,kT,e2,mH,if_false,reduceIte])
    |(exfalso; omega))
    ·simp only [Kn.mk.injEq,nI,Int.reduceEq,or_self,or_true,or_false,false_or,true_or,if_true,if_false,reduceIte] at hm;obtain⟨rfl,rfl,rfl,rfl,rfl,rfl⟩:=hm;simp only [eM,zz,eG,dO,c1,c2,c3,c4,c5,c6,c7,c8,gT,l9,w,hD,zg,hk,nI,hf,hg,hN,kindOf,ax,aN,aR,aY,nD,bD,jr,dj,bB,D.i.injEq,aA,aw,Int.reduceEq,Int.reduceLT,Int.reduceLE,Int.reduceNeg,aP,aC,if_true,if_false,reduceIte,true_and,and_true,and_self,tW,hb,HN,sY]
     all_goals (first
    |(refine .jump (hs _ fun j=>?_)
      by_cases e1:ob=j
      ·subst e1;simp only [bD,bB,D.i.injEq,gT,if_true,if_false,reduceIte];rfl
      ·have kT: ¬j=ob:=fun e=>e1 e.symm;by_cases e2:M=j
       ·subst e2;simp only [bD,bB,D.i.injEq,e1,gT,if_true,if_false,reduceIte];rfl
       ·have mH: ¬j=M:=fun e=>e2 e.symm
        simp only [bD,bB,D.i.injEq,e1,kT,e2,mH,if_false,reduceIte])
    |(exfalso; omega))
   ·rcases hm with hg|⟨hg,hm⟩
    ·unfold Kn.d at hg;have Mb:xm.l.length<=100000:=Mb;by_cases EM:xm= .i 3
     ·subst EM;simp only [eM,zz,eG,dO,c1,c2,c3,c4,c5,c6,c7,c8,gT,l9,w,hD,zg,hk,nI,hf,hg,hN,kindOf,ax,aN,aR,aY,nD,bD,jr,dj,bB,D.i.injEq,aA,aw,Int.reduceEq,Int.reduceLT,Int.reduceLE,Int.reduceNeg,aP,aC,if_true,if_false,reduceIte,true_and,and_true,and_self,tW,hb,HN,sY,rQ]
      all_goals (first
    |(refine .jump (hs _ fun j=>?_)
      by_cases e1:ob=j
      ·subst e1;simp only [bD,bB,D.i.injEq,gT,if_true,if_false,reduceIte];rfl
      ·have kT: ¬j=ob:=fun e=>e1 e.symm;by_cases e2:M=j
       ·subst e2;simp only [bD,bB,D.i.injEq,e1,gT,if_true,if_false,reduceIte];rfl
       ·have mH: ¬j=M:=fun e=>e2 e.symm
        simp only [bD,bB,D.i.injEq,e1,kT,e2,mH,if_false,reduceIte])
    |(exfalso; omega))
     ·have qb: ¬enc xm=enc (.i 3):=fun e=>EM (fg e);by_cases EL:(xm.l.length:Int)=0
      ·simp only [eM,zz,eG,dO,c1,c2,c3,c4,c5,c6,c7,c8,gT,l9,w,hD,zg,hk,nI,hf,hg,hN,kindOf,ax,aN,aR,aY,nD,bD,jr,dj,bB,D.i.injEq,aA,aw,Int.reduceEq,Int.reduceLT,Int.reduceLE,Int.reduceNeg,aP,aC,if_true,if_false,reduceIte,true_and,and_true,and_self,tW,hb,HN,sY,rQ,EL,qb]
       all_goals (first
    |(refine .jump (hs _ fun j=>?_)
      by_cases e1:ob=j
      ·subst e1;simp only [bD,bB,D.i.injEq,gT,if_true,if_false,reduceIte];rfl
      ·have kT: ¬j=ob:=fun e=>e1 e.symm;by_cases e2:M=j
       ·subst e2;simp only [bD,bB,D.i.injEq,e1,gT,if_true,if_false,reduceIte];rfl
       ·have mH: ¬j=M:=fun e=>e2 e.symm
        simp only [bD,bB,D.i.injEq,e1,kT,e2,mH,if_false,reduceIte])
    |(exfalso; omega))
      ·simp only [eM,zz,eG,dO,c1,c2,c3,c4,c5,c6,c7,c8,gT,l9,w,hD,zg,hk,nI,hf,hg,hN,kindOf,ax,aN,aR,aY,nD,bD,jr,dj,bB,D.i.injEq,aA,aw,Int.reduceEq,Int.reduceLT,Int.reduceLE,Int.reduceNeg,aP,aC,if_true,if_false,reduceIte,true_and,and_true,and_self,tW,hb,HN,sY,rQ,EL,qb]
       all_goals (first
    |(refine .jump (hs _ fun j=>?_)
      by_cases e1:ob=j
      ·subst e1;simp only [bD,bB,D.i.injEq,gT,if_true,if_false,reduceIte];rfl
      ·have kT: ¬j=ob:=fun e=>e1 e.symm;by_cases e2:M=j
       ·subst e2;simp only [bD,bB,D.i.injEq,e1,gT,if_true,if_false,reduceIte];rfl
       ·have mH: ¬j=M:=fun e=>e2 e.symm
        simp only [bD,bB,D.i.injEq,e1,kT,e2,mH,if_false,reduceIte])
    |(exfalso; omega))
    ·simp only [Kn.mk.injEq,nI,Int.reduceEq,or_self,or_true,or_false,false_or,true_or,if_true,if_false,reduceIte] at hm;obtain⟨rfl,rfl,rfl,rfl,rfl,rfl⟩:=hm;simp only [eM,zz,eG,dO,c1,c2,c3,c4,c5,c6,c7,c8,gT,l9,w,hD,zg,hk,nI,hf,hg,hN,kindOf,ax,aN,aR,aY,nD,bD,jr,dj,bB,D.i.injEq,aA,aw,Int.reduceEq,Int.reduceLT,Int.reduceLE,Int.reduceNeg,aP,aC,if_true,if_false,reduceIte,true_and,and_true,and_self,tW,hb,HN,sY]
     all_goals (first
    |(refine .jump (hs _ fun j=>?_)
      by_cases e1:ob=j
      ·subst e1;simp only [bD,bB,D.i.injEq,gT,if_true,if_false,reduceIte];rfl
      ·have kT: ¬j=ob:=fun e=>e1 e.symm;by_cases e2:M=j
       ·subst e2;simp only [bD,bB,D.i.injEq,e1,gT,if_true,if_false,reduceIte];rfl
       ·have mH: ¬j=M:=fun e=>e2 e.symm
        simp only [bD,bB,D.i.injEq,e1,kT,e2,mH,if_false,reduceIte])
    |(exfalso; omega))
 ·simp only [Kn.mk.injEq,hk,Int.reduceEq,or_self,or_true,or_false,false_or,true_or,if_true,if_false,reduceIte] at hq;obtain⟨rfl,rfl,rfl,rfl,rfl,rfl⟩:=hq;rcases hm with hg|⟨hg,hm⟩
  ·unfold Kn.d at hg;have Mb:xm.l.length<=100000:=Mb;by_cases EM:xm= .i 3
   ·subst EM;simp only [eM,zz,eG,dO,c1,c2,c3,c4,c5,c6,c7,c8,gT,l9,w,hD,zg,hk,nI,hf,hg,hN,kindOf,ax,aN,aR,aY,nD,bD,jr,dj,bB,D.i.injEq,aA,aw,Int.reduceEq,Int.reduceLT,Int.reduceLE,Int.reduceNeg,aP,aC,if_true,if_false,reduceIte,true_and,and_true,and_self,tW,rQ]
    all_goals (first
    |(refine .jump (hs _ fun j=>?_)
      by_cases e1:ob=j
      ·subst e1;simp only [bD,bB,D.i.injEq,gT,if_true,if_false,reduceIte];rfl
      ·have kT: ¬j=ob:=fun e=>e1 e.symm;by_cases e2:M=j
       ·subst e2;simp only [bD,bB,D.i.injEq,e1,gT,if_true,if_false,reduceIte];rfl
       ·have mH: ¬j=M:=fun e=>e2 e.symm
        simp only [bD,bB,D.i.injEq,e1,kT,e2,mH,if_false,reduceIte])
    |(exfalso; omega))
   ·have qb: ¬enc xm=enc (.i 3):=fun e=>EM (fg e);by_cases EL:(xm.l.length:Int)=0
    ·simp only [eM,zz,eG,dO,c1,c2,c3,c4,c5,c6,c7,c8,gT,l9,w,hD,zg,hk,nI,hf,hg,hN,kindOf,ax,aN,aR,aY,nD,bD,jr,dj,bB,D.i.injEq,aA,aw,Int.reduceEq,Int.reduceLT,Int.reduceLE,Int.reduceNeg,aP,aC,if_true,if_false,reduceIte,true_and,and_true,and_self,tW,rQ,EL,qb]
     all_goals (first
    |(refine .jump (hs _ fun j=>?_)
      by_cases e1:ob=j
      ·subst e1;simp only [bD,bB,D.i.injEq,gT,if_true,if_false,reduceIte];rfl
      ·have kT: ¬j=ob:=fun e=>e1 e.symm;by_cases e2:M=j
       ·subst e2;simp only [bD,bB,D.i.injEq,e1,gT,if_true,if_false,reduceIte];rfl
       ·have mH: ¬j=M:=fun e=>e2 e.symm
        simp only [bD,bB,D.i.injEq,e1,kT,e2,mH,if_false,reduceIte])
    |(exfalso; omega))
    ·simp only [eM,zz,eG,dO,c1,c2,c3,c4,c5,c6,c7,c8,gT,l9,w,hD,zg,hk,nI,hf,hg,hN,kindOf,ax,aN,aR,aY,nD,bD,jr,dj,bB,D.i.injEq,aA,aw,Int.reduceEq,Int.reduceLT,Int.reduceLE,Int.reduceNeg,aP,aC,if_true,if_false,reduceIte,true_and,and_true,and_self,tW,rQ,EL,qb]
     all_goals (first
    |(refine .jump (hs _ fun j=>?_)
      by_cases e1:ob=j
      ·subst e1;simp only [bD,bB,D.i.injEq,gT,if_true,if_false,reduceIte];rfl
      ·have kT: ¬j=ob:=fun e=>e1 e.symm;by_cases e2:M=j
       ·subst e2;simp only [bD,bB,D.i.injEq,e1,gT,if_true,if_false,reduceIte];rfl
       ·have mH: ¬j=M:=fun e=>e2 e.symm
        simp only [bD,bB,D.i.injEq,e1,kT,e2,mH,if_false,reduceIte])
    |(exfalso; omega))
  ·simp only [Kn.mk.injEq,nI,Int.reduceEq,or_self,or_true,or_false,false_or,true_or,if_true,if_false,reduceIte] at hm;obtain⟨rfl,rfl,rfl,rfl,rfl,rfl⟩:=hm;simp only [eM,zz,eG,dO,c1,c2,c3,c4,c5,c6,c7,c8,gT,l9,w,hD,zg,hk,nI,hf,hg,hN,kindOf,ax,aN,aR,aY,nD,bD,jr,dj,bB,D.i.injEq,aA,aw,Int.reduceEq,Int.reduceLT,Int.reduceLE,Int.reduceNeg,aP,aC,if_true,if_false,reduceIte,true_and,and_true,and_self,tW]
   all_goals (first
    |(refine .jump (hs _ fun j=>?_)
      by_cases e1:ob=j
      ·subst e1;simp only [bD,bB,D.i.injEq,gT,if_true,if_false,reduceIte];rfl
      ·have kT: ¬j=ob:=fun e=>e1 e.symm;by_cases e2:M=j
       ·subst e2;simp only [bD,bB,D.i.injEq,e1,gT,if_true,if_false,reduceIte];rfl
       ·have mH: ¬j=M:=fun e=>e2 e.symm
        simp only [bD,bB,D.i.injEq,e1,kT,e2,mH,if_false,reduceIte])
    |(exfalso; omega))):StM op pre new:=h
theorem ajb {op:Int} (h:StN op:=by
 intro d0 d1 es p i th ob a M P q m H hk hN nI M0 M1 gT hm hme Mb hs;have c1:(i:Int)<(es.l.length:Int):=by have:=H.i0; omega
 have c2: ¬(i:Int)<0:=J
 have w:=bP (n:=i) (by have:=H.i0; have:=H.i1; omega);have c3: ¬th<0:=by have:=H.t0; omega
 have c4:=H.t1;have c5: ¬ob<0:=by have:=H.o0; omega
 have c6:=H.o1;have c7: ¬M<0:=J
 have c8:=M1;have l9: ¬ob=M:=fun e=>gT e.symm;have hD:=H.he;have hq:=H.qm;have hen:=H.en;have Vr:=H.rl;clear H;unfold xZ kd Nd kn0 at hq hm;obtain⟨ow,rd,ct,cm,en,I3⟩:=q;obtain⟨ow2,rd2,E_,cm2,en2,xm⟩:=m
 have hb:(if en=0 then (0:Int) else 1)=en:=by rcases hen with h|h<;>(simp only at h; subst h; rfl)
 have rQ:(if en2=0 then (0:Int) else 1)=en2:=by rcases hme with h|h<;>(simp only at h; subst h; rfl)
 refine dS.of ?_;rw [BP];rcases hq with hf|⟨hf,hq⟩
 ·unfold Kn.d at hf;have Vr:I3.l.length<=100000:=Vr;by_cases C_:I3= .i 3
  ·subst C_;rcases hm with hg|⟨hg,hm⟩
   ·unfold Kn.d at hg;have Mb:xm.l.length<=100000:=Mb;by_cases EM:xm= .i 3
    ·subst EM;simp only [eM,zz,eG,dO,c1,c2,c3,c4,c5,c6,c7,c8,gT,l9,w,hD,zg,hk,nI,hf,hg,hN,kindOf,ax,aN,aR,aY,nD,bD,jr,dj,bB,D.i.injEq,aA,aw,Int.reduceEq,Int.reduceLT,Int.reduceLE,Int.reduceNeg,aP,aC,if_true,if_false,reduceIte,true_and,and_true,and_self,hb,rQ]
     all_goals (first
    |(refine .jump (hs _ (.inr fun j=>?_))
      by_cases e1:ob=j
      ·subst e1;simp only [bD,bB,D.i.injEq,gT,if_true,if_false,reduceIte];rfl
      ·have kT: ¬j=ob:=fun e=>e1 e.symm;by_cases e2:M=j
       ·subst e2;simp only [bD,bB,D.i.injEq,e1,gT,if_true,if_false,reduceIte];rfl
       ·have mH: ¬j=M:=fun e=>e2 e.symm
        simp only [bD,bB,D.i.injEq,e1,kT,e2,mH,if_false,reduceIte])
    |(refine .jump (hs _ (.inl ?_)); first |exact fc (by simp only [Kn.d,bZ,cO])|exact fb (by simp only [Kn.d,bZ,cO])|exact fc rfl|exact fb rfl))
    ·have qb: ¬enc xm=enc (.i 3):=fun e=>EM (fg e);by_cases EL:(xm.l.length:Int)=0
     ·simp only [eM,zz,eG,dO,c1,c2,c3,c4,c5,c6,c7,c8,gT,l9,w,hD,zg,hk,nI,hf,hg,hN,kindOf,ax,aN,aR,aY,nD,bD,jr,dj,bB,D.i.injEq,aA,aw,Int.reduceEq,Int.reduceLT,Int.reduceLE,Int.reduceNeg,aP,aC,if_true,if_false,reduceIte,true_and,and_true,and_self,hb,rQ,EL,qb]
      all_goals (first
    |(refine .jump (hs _ (.inr fun j=>?_))
      by_cases e1:ob=j
      ·subst e1;simp only [bD,bB,D.i.injEq,gT,if_true,if_false,reduceIte];rfl
      ·have kT: ¬j=ob:=fun e=>e1 e.symm;by_cases e2:M=j
       ·subst e2;simp only [bD,bB,D.i.injEq,e1,gT,if_true,if_false,reduceIte];rfl
       ·have mH: ¬j=M:=fun e=>e2 e.symm
        simp only [bD,bB,D.i.injEq,e1,kT,e2,mH,if_false,reduceIte])
    |(refine .jump (hs _ (.inl ?_)); first |exact fc (by simp only [Kn.d,bZ,cO])|exact fb (by simp only [Kn.d,bZ,cO])|exact fc rfl|exact fb rfl))
     ·simp only [eM,zz,eG,dO,c1,c2,c3,c4,c5,c6,c7,c8,gT,l9,w,hD,zg,hk,nI,hf,hg,hN,kindOf,ax,aN,aR,aY,nD,bD,jr,dj,bB,D.i.injEq,aA,aw,Int.reduceEq,Int.reduceLT,Int.reduceLE,Int.reduceNeg,aP,aC,if_true,if_false,reduceIte,true_and,and_true,and_self,hb,rQ,EL,qb]
      all_goals (first
    |(refine .jump (hs _ (.inr fun j=>?_))
      by_cases e1:ob=j
      ·subst e1;simp only [bD,bB,D.i.injEq,gT,if_true,if_false,reduceIte];rfl
      ·have kT: ¬j=ob:=fun e=>e1 e.symm;by_cases e2:M=j
       ·subst e2;simp only [bD,bB,D.i.injEq,e1,gT,if_true,if_false,reduceIte];rfl
       ·have mH: ¬j=M:=fun e=>e2 e.symm
        simp only [bD,bB,D.i.injEq,e1,kT,e2,mH,if_false,reduceIte])
    |(refine .jump (hs _ (.inl ?_)); first |exact fc (by simp only [Kn.d,bZ,cO])|exact fb (by simp only [Kn.d,bZ,cO])|exact fc rfl|exact fb rfl))
   ·simp only [Kn.mk.injEq,nI,Int.reduceEq,or_self,or_true,or_false,false_or,true_or,if_true,if_false,reduceIte] at hm;obtain⟨rfl,rfl,rfl,rfl,rfl,rfl⟩:=hm;simp only [eM,zz,eG,dO,c1,c2,c3,c4,c5,c6,c7,c8,gT,l9,w,hD,zg,hk,nI,hf,hg,hN,kindOf,ax,aN,aR,aY,nD,bD,jr,dj,bB,D.i.injEq,aA,aw,Int.reduceEq,Int.reduceLT,Int.reduceLE,Int.reduceNeg,aP,aC,if_true,if_false,reduceIte,true_and,and_true,and_self,hb]
    all_goals (first
    |(refine .jump (hs _ (.inr fun j=>?_))
      by_cases e1:ob=j
      ·subst e1;simp only [bD,bB,D.i.injEq,gT,if_true,if_false,reduceIte];rfl
      ·have kT: ¬j=ob:=fun e=>e1 e.symm;by_cases e2:M=j
       ·subst e2;simp only [bD,bB,D.i.injEq,e1,gT,if_true,if_false,reduceIte];rfl
       ·have mH: ¬j=M:=fun e=>e2 e.symm
        simp only [bD,bB,D.i.injEq,e1,kT,e2,mH,if_false,reduceIte])
    |(refine .jump (hs _ (.inl ?_)); first |exact fc (by simp only [Kn.d,bZ,cO])|exact fb (by simp only [Kn.d,bZ,cO])|exact fc rfl|exact fb rfl))
  ·have sY: ¬enc I3=enc (.i 3):=fun e=>C_ (fg e);by_cases HN:(I3.l.length:Int)=0
   ·rcases hm with hg|⟨hg,hm⟩
    ·unfold Kn.d at hg;have Mb:xm.l.length<=100000:=Mb;by_cases EM:xm= .i 3
     ·subst EM;simp only [eM,zz,eG,dO,c1,c2,c3,c4,c5,c6,c7,c8,gT,l9,w,hD,zg,hk,nI,hf,hg,hN,kindOf,ax,aN,aR,aY,nD,bD,jr,dj,bB,D.i.injEq,aA,aw,Int.reduceEq,Int.reduceLT,Int.reduceLE,Int.reduceNeg,aP,aC,if_true,if_false,reduceIte,true_and,and_true,and_self,hb,HN,sY,rQ]
      all_goals (first
    |(refine .jump (hs _ (.inr fun j=>?_))
      by_cases e1:ob=j
      ·subst e1;simp only [bD,bB,D.i.injEq,gT,if_true,if_false,reduceIte];rfl
      ·have kT: ¬j=ob:=fun e=>e1 e.symm;by_cases e2:M=j
       ·subst e2;simp only [bD,bB,D.i.injEq,e1,gT,if_true,if_false,reduceIte];rfl
       ·have mH: ¬j=M:=fun e=>e2 e.symm
        simp only [bD,bB,D.i.injEq,e1,kT,e2,mH,if_false,reduceIte])
    |(refine .jump (hs _ (.inl ?_)); first |exact fc (by simp only [Kn.d,bZ,cO])|exact fb (by simp only [Kn.d,bZ,cO])|exact fc rfl|exact fb rfl))
     ·have qb: ¬enc xm=enc (.i 3):=fun e=>EM (fg e);by_cases EL:(xm.l.length:Int)=0
      ·simp only [eM,zz,eG,dO,c1,c2,c3,c4,c5,c6,c7,c8,gT,l9,w,hD,zg,hk,nI,hf,hg,hN,kindOf,ax,aN,aR,aY,nD,bD,jr,dj,bB,D.i.injEq,aA,aw,Int.reduceEq,Int.reduceLT,Int.reduceLE,Int.reduceNeg,aP,aC,if_true,if_false,reduceIte,true_and,and_true,and_self,hb,HN,sY,rQ,EL,qb]
       all_goals (first
    |(refine .jump (hs _ (.inr fun j=>?_))
      by_cases e1:ob=j
      ·subst e1;simp only [bD,bB,D.i.injEq,gT,if_true,if_false,reduceIte];rfl
      ·have kT: ¬j=ob:=fun e=>e1 e.symm;by_cases e2:M=j
       ·subst e2;simp only [bD,bB,D.i.injEq,e1,gT,if_true,if_false,reduceIte];rfl
       ·have mH: ¬j=M:=fun e=>e2 e.symm
        simp only [bD,bB,D.i.injEq,e1,kT,e2,mH,if_false,reduceIte])
    |(refine .jump (hs _ (.inl ?_)); first |exact fc (by simp only [Kn.d,bZ,cO])|exact fb (by simp only [Kn.d,bZ,cO])|exact fc rfl|exact fb rfl))
      ·simp only [eM,zz,eG,dO,c1,c2,c3,c4,c5,c6,c7,c8,gT,l9,w,hD,zg,hk,nI,hf,hg,hN,kindOf,ax,aN,aR,aY,nD,bD,jr,dj,bB,D.i.injEq,aA,aw,Int.reduceEq,Int.reduceLT,Int.reduceLE,Int.reduceNeg,aP,aC,if_true,if_false,reduceIte,true_and,and_true,and_self,hb,HN,sY,rQ,EL,qb]
       all_goals (first
    |(refine .jump (hs _ (.inr fun j=>?_))
      by_cases e1:ob=j
      ·subst e1;simp only [bD,bB,D.i.injEq,gT,if_true,if_false,reduceIte];rfl
      ·have kT: ¬j=ob:=fun e=>e1 e.symm;by_cases e2:M=j
       ·subst e2;simp only [bD,bB,D.i.injEq,e1,gT,if_true,if_false,reduceIte];rfl
       ·have mH: ¬j=M:=fun e=>e2 e.symm
        simp only [bD,bB,D.i.injEq,e1,kT,e2,mH,if_false,reduceIte])
    |(refine .jump (hs _ (.inl ?_)); first |exact fc (by simp only [Kn.d,bZ,cO])|exact fb (by simp only [Kn.d,bZ,cO])|exact fc rfl|exact fb rfl))
    ·simp only [Kn.mk.injEq,nI,Int.reduceEq,or_self,or_true,or_false,false_or,true_or,if_true,if_false,reduceIte] at hm;obtain⟨rfl,rfl,rfl,rfl,rfl,rfl⟩:=hm;simp only [eM,zz,eG,dO,c1,c2,c3,c4,c5,c6,c7,c8,gT,l9,w,hD,zg,hk,nI,hf,hg,hN,kindOf,ax,aN,aR,aY,nD,bD,jr,dj,bB,D.i.injEq,aA,aw,Int.reduceEq,Int.reduceLT,Int.reduceLE,Int.reduceNeg,aP,aC,if_true,if_false,reduceIte,true_and,and_true,and_self,hb,HN,sY]
     all_goals (first
    |(refine .jump (hs _ (.inr fun j=>?_))
      by_cases e1:ob=j
      ·subst e1;simp only [bD,bB,D.i.injEq,gT,if_true,if_false,reduceIte];rfl
      ·have kT: ¬j=ob:=fun e=>e1 e.symm;by_cases e2:M=j
       ·subst e2;simp only [bD,bB,D.i.injEq,e1,gT,if_true,if_false,reduceIte];rfl
       ·have mH: ¬j=M:=fun e=>e2 e.symm
        simp only [bD,bB,D.i.injEq,e1,kT,e2,mH,if_false,reduceIte])
    |(refine .jump (hs _ (.inl ?_)); first |exact fc (by simp only [Kn.d,bZ,cO])|exact fb (by simp only [Kn.d,bZ,cO])|exact fc rfl|exact fb rfl))
   ·rcases hm with hg|⟨hg,hm⟩
    ·unfold Kn.d at hg;have Mb:xm.l.length<=100000:=Mb;by_cases EM:xm= .i 3
     ·subst EM;simp only [eM,zz,eG,dO,c1,c2,c3,c4,c5,c6,c7,c8,gT,l9,w,hD,zg,hk,nI,hf,hg,hN,kindOf,ax,aN,aR,aY,nD,bD,jr,dj,bB,D.i.injEq,aA,aw,Int.reduceEq,Int.reduceLT,Int.reduceLE,Int.reduceNeg,aP,aC,if_true,if_false,reduceIte,true_and,and_true,and_self,hb,HN,sY,rQ]
      all_goals (first
    |(refine .jump (hs _ (.inr fun j=>?_))
      by_cases e1:ob=j
      ·subst e1;simp only [bD,bB,D.i.injEq,gT,if_true,if_false,reduceIte];rfl
      ·have kT: ¬j=ob:=fun e=>e1 e.symm;by_cases e2:M=j
       ·subst e2;simp only [bD,bB,D.i.injEq,e1,gT,if_true,if_false,reduceIte];rfl
       ·have mH: ¬j=M:=fun e=>e2 e.symm
        simp only [bD,bB,D.i.injEq,e1,kT,e2,mH,if_false,reduceIte])
    |(refine .jump (hs _ (.inl ?_)); first |exact fc (by simp only [Kn.d,bZ,cO])|exact fb (by simp only [Kn.d,bZ,cO])|exact fc rfl|exact fb rfl))
     ·have qb: ¬enc xm=enc (.i 3):=fun e=>EM (fg e);by_cases EL:(xm.l.length:Int)=0
      ·simp only [eM,zz,eG,dO,c1,c2,c3,c4,c5,c6,c7,c8,gT,l9,w,hD,zg,hk,nI,hf,hg,hN,kindOf,ax,aN,aR,aY,nD,bD,jr,dj,bB,D.i.injEq,aA,aw,Int.reduceEq,Int.reduceLT,Int.reduceLE,Int.reduceNeg,aP,aC,if_true,if_false,reduceIte,true_and,and_true,and_self,hb,HN,sY,rQ,EL,qb]
       all_goals (first
    |(refine .jump (hs _ (.inr fun j=>?_))
      by_cases e1:ob=j
      ·subst e1;simp only [bD,bB,D.i.injEq,gT,if_true,if_false,reduceIte];rfl
      ·have kT: ¬j=ob:=fun e=>e1 e.symm;by_cases e2:M=j
       ·subst e2;simp only [bD,bB,D.i.injEq,e1,gT,if_true,if_false,reduceIte];rfl
       ·have mH: ¬j=M:=fun e=>e2 e.symm
        simp only [bD,bB,D.i.injEq,e1,kT,e2,mH,if_false,reduceIte])
    |(refine .jump (hs _ (.inl ?_)); first |exact fc (by simp only [Kn.d,bZ,cO])|exact fb (by simp only [Kn.d,bZ,cO])|exact fc rfl|exact fb rfl))
      ·simp only [eM,zz,eG,dO,c1,c2,c3,c4,c5,c6,c7,c8,gT,l9,w,hD,zg,hk,nI,hf,hg,hN,kindOf,ax,aN,aR,aY,nD,bD,jr,dj,bB,D.i.injEq,aA,aw,Int.reduceEq,Int.reduceLT,Int.reduceLE,Int.reduceNeg,aP,aC,if_true,if_false,reduceIte,true_and,and_true,and_self,hb,HN,sY,rQ,EL,qb]
       all_goals (first
    |(refine .jump (hs _ (.inr fun j=>?_))
      by_cases e1:ob=j
      ·subst e1;simp only [bD,bB,D.i.injEq,gT,if_true,if_false,reduceIte];rfl
      ·have kT: ¬j=ob:=fun e=>e1 e.symm;by_cases e2:M=j
       ·subst e2;simp only [bD,bB,D.i.injEq,e1,gT,if_true,if_false,reduceIte];rfl
       ·have mH: ¬j=M:=fun e=>e2 e.symm
        simp only [bD,bB,D.i.injEq,e1,kT,e2,mH,if_false,reduceIte])
    |(refine .jump (hs _ (.inl ?_)); first |exact fc (by simp only [Kn.d,bZ,cO])|exact fb (by simp only [Kn.d,bZ,cO])|exact fc rfl|exact fb rfl))
    ·simp only [Kn.mk.injEq,nI,Int.reduceEq,or_self,or_true,or_false,false_or,true_or,if_true,if_false,reduceIte] at hm;obtain⟨rfl,rfl,rfl,rfl,rfl,rfl⟩:=hm;simp only [eM,zz,eG,dO,c1,c2,c3,c4,c5,c6,c7,c8,gT,l9,w,hD,zg,hk,nI,hf,hg,hN,kindOf,ax,aN,aR,aY,nD,bD,jr,dj,bB,D.i.injEq,aA,aw,Int.reduceEq,Int.reduceLT,Int.reduceLE,Int.reduceNeg,aP,aC,if_true,if_false,reduceIte,true_and,and_true,and_self,hb,HN,sY]
     all_goals (first
    |(refine .jump (hs _ (.inr fun j=>?_))
      by_cases e1:ob=j
      ·subst e1;simp only [bD,bB,D.i.injEq,gT,if_true,if_false,reduceIte];rfl
      ·have kT: ¬j=ob:=fun e=>e1 e.symm;by_cases e2:M=j
       ·subst e2;simp only [bD,bB,D.i.injEq,e1,gT,if_true,if_false,reduceIte];rfl
       ·have mH: ¬j=M:=fun e=>e2 e.symm
        simp only [bD,bB,D.i.injEq,e1,kT,e2,mH,if_false,reduceIte])
    |(refine .jump (hs _ (.inl ?_)); first |exact fc (by simp only [Kn.d,bZ,cO])|exact fb (by simp only [Kn.d,bZ,cO])|exact fc rfl|exact fb rfl))
 ·simp only [Kn.mk.injEq,hk,Int.reduceEq,or_self,or_true,or_false,false_or,true_or,if_true,if_false,reduceIte] at hq;obtain⟨rfl,rfl,rfl,rfl,rfl,rfl⟩:=hq;rcases hm with hg|⟨hg,hm⟩
  ·unfold Kn.d at hg;have Mb:xm.l.length<=100000:=Mb;by_cases EM:xm= .i 3
   ·subst EM;simp only [eM,zz,eG,dO,c1,c2,c3,c4,c5,c6,c7,c8,gT,l9,w,hD,zg,hk,nI,hf,hg,hN,kindOf,ax,aN,aR,aY,nD,bD,jr,dj,bB,D.i.injEq,aA,aw,Int.reduceEq,Int.reduceLT,Int.reduceLE,Int.reduceNeg,aP,aC,if_true,if_false,reduceIte,true_and,and_true,and_self,rQ]
    all_goals (first
    |(refine .jump (hs _ (.inr fun j=>?_))
      by_cases e1:ob=j
      ·subst e1;simp only [bD,bB,D.i.injEq,gT,if_true,if_false,reduceIte];rfl
      ·have kT: ¬j=ob:=fun e=>e1 e.symm;by_cases e2:M=j
       ·subst e2;simp only [bD,bB,D.i.injEq,e1,gT,if_true,if_false,reduceIte];rfl
       ·have mH: ¬j=M:=fun e=>e2 e.symm
        simp only [bD,bB,D.i.injEq,e1,kT,e2,mH,if_false,reduceIte])
    |(refine .jump (hs _ (.inl ?_)); first |exact fc (by simp only [Kn.d,bZ,cO])|exact fb (by simp only [Kn.d,bZ,cO])|exact fc rfl|exact fb rfl))
   ·have qb: ¬enc xm=enc (.i 3):=fun e=>EM (fg e);by_cases EL:(xm.l.length:Int)=0
    ·simp only [eM,zz,eG,dO,c1,c2,c3,c4,c5,c6,c7,c8,gT,l9,w,hD,zg,hk,nI,hf,hg,hN,kindOf,ax,aN,aR,aY,nD,bD,jr,dj,bB,D.i.injEq,aA,aw,Int.reduceEq,Int.reduceLT,Int.reduceLE,Int.reduceNeg,aP,aC,if_true,if_false,reduceIte,true_and,and_true,and_self,rQ,EL,qb]
     all_goals (first
    |(refine .jump (hs _ (.inr fun j=>?_))
      by_cases e1:ob=j
      ·subst e1;simp only [bD,bB,D.i.injEq,gT,if_true,if_false,reduceIte];rfl
      ·have kT: ¬j=ob:=fun e=>e1 e.symm;by_cases e2:M=j
       ·subst e2;simp only [bD,bB,D.i.injEq,e1,gT,if_true,if_false,reduceIte];rfl
       ·have mH: ¬j=M:=fun e=>e2 e.symm
        simp only [bD,bB,D.i.injEq,e1,kT,e2,mH,if_false,reduceIte])
    |(refine .jump (hs _ (.inl ?_)); first |exact fc (by simp only [Kn.d,bZ,cO])|exact fb (by simp only [Kn.d,bZ,cO])|exact fc rfl|exact fb rfl))
    ·simp only [eM,zz,eG,dO,c1,c2,c3,c4,c5,c6,c7,c8,gT,l9,w,hD,zg,hk,nI,hf,hg,hN,kindOf,ax,aN,aR,aY,nD,bD,jr,dj,bB,D.i.injEq,aA,aw,Int.reduceEq,Int.reduceLT,Int.reduceLE,Int.reduceNeg,aP,aC,if_true,if_false,reduceIte,true_and,and_true,and_self,rQ,EL,qb]
     all_goals (first
    |(refine .jump (hs _ (.inr fun j=>?_))
      by_cases e1:ob=j
      ·subst e1;simp only [bD,bB,D.i.injEq,gT,if_true,if_false,reduceIte];rfl
      ·have kT: ¬j=ob:=fun e=>e1 e.symm;by_cases e2:M=j
       ·subst e2;simp only [bD,bB,D.i.injEq,e1,gT,if_true,if_false,reduceIte];rfl
       ·have mH: ¬j=M:=fun e=>e2 e.symm
        simp only [bD,bB,D.i.injEq,e1,kT,e2,mH,if_false,reduceIte])
    |(refine .jump (hs _ (.inl ?_)); first |exact fc (by simp only [Kn.d,bZ,cO])|exact fb (by simp only [Kn.d,bZ,cO])|exact fc rfl|exact fb rfl))
  ·simp only [Kn.mk.injEq,nI,Int.reduceEq,or_self,or_true,or_false,false_or,true_or,if_true,if_false,reduceIte] at hm;obtain⟨rfl,rfl,rfl,rfl,rfl,rfl⟩:=hm;simp only [eM,zz,eG,dO,c1,c2,c3,c4,c5,c6,c7,c8,gT,l9,w,hD,zg,hk,nI,hf,hg,hN,kindOf,ax,aN,aR,aY,nD,bD,jr,dj,bB,D.i.injEq,aA,aw,Int.reduceEq,Int.reduceLT,Int.reduceLE,Int.reduceNeg,aP,aC,if_true,if_false,reduceIte,true_and,and_true,and_self]
   all_goals (first
    |(refine .jump (hs _ (.inr fun j=>?_))
      by_cases e1:ob=j
      ·subst e1;simp only [bD,bB,D.i.injEq,gT,if_true,if_false,reduceIte];rfl
      ·have kT: ¬j=ob:=fun e=>e1 e.symm;by_cases e2:M=j
       ·subst e2;simp only [bD,bB,D.i.injEq,e1,gT,if_true,if_false,reduceIte];rfl
       ·have mH: ¬j=M:=fun e=>e2 e.symm
        simp only [bD,bB,D.i.injEq,e1,kT,e2,mH,if_false,reduceIte])
    |(refine .jump (hs _ (.inl ?_)); first |exact fc (by simp only [Kn.d,bZ,cO])|exact fb (by simp only [Kn.d,bZ,cO])|exact fc rfl|exact fb rfl))):StN op:=h
set_option maxHeartbeats 16000000 in
theorem alB:StM 12 (fun th m=>m.ow=th) (fun _ m=>{ m with ow:=-1 }):=ajc (op:=12) (pre:=fun th m=>m.ow=th) (new:=fun _ m=>{ m with ow:=-1 })
set_option maxHeartbeats 16000000 in
theorem alo:StM 24 (fun _ m=>m.ow= -1) (fun th m=>{ m with ow:=th }):=ajc (op:=24) (pre:=fun _ m=>m.ow= -1) (new:=fun th m=>{ m with ow:=th })
end Go.As.Try
end
section
namespace Go.As.Try
open Go hiding Stat Spec shape
open Go.As
set_option maxRecDepth 100000
set_option linter.unusedSimpArgs false
set_option maxHeartbeats 8000000 in
theorem aln:DF 25 5:=Gh
set_option maxHeartbeats 8000000 in
theorem alm:DF 26 6:=Gh
end Go.As.Try
end
section
namespace Go.As.Try
open Go hiding Stat Spec shape
open Go.As
set_option maxRecDepth 100000
set_option linter.unusedSimpArgs false
set_option linter.unusedVariables false
set_option maxHeartbeats 16000000 in
theorem alA:StN 13:=ajb
set_option maxHeartbeats 16000000 in
theorem alz:StN 14:=ajb
end Go.As.Try
end
section
namespace Go.As.Try
open Go hiding Stat Spec shape
open Go.As
set_option maxRecDepth 100000
set_option linter.unusedSimpArgs false
set_option maxHeartbeats 8000000 in
theorem alx:DF 16 6:=Gh
set_option maxHeartbeats 8000000 in
theorem alr:DF 21 8:=Gh
end Go.As.Try
end
section
namespace Go.As.Try
open Go hiding Stat Spec shape
open Go.As
set_option maxRecDepth 100000
set_option linter.unusedSimpArgs false
set_option linter.unusedVariables false
section
variable {d0 d1 s z p p':D} {n:Nat} {ob M:Nat} {q' m':Kn}
theorem LY (K:Ts d0 s p n) (W:z.l.length=s.l.length) (gB: ∀j:Nat,j≠ob->z.at (j:Int)=s.at (j:Int)) {o c dn g:Int} {r v:D} (T:Tg (z.at (ob:Int)) o c dn g r v) (hp:KP p p' (ob:Int) q')
 (hk:mZ (kd d0 (ob:Int)) (Nd d0 (ob:Int)) (n+1) q' o c dn g r v):Ts d0 z p' (n+1):=fun j hj=>by
 by_cases h:j=ob
 ·subst h;exact⟨q',.inl (by rw [hp,ak rfl]),_,_,_,_,_,_,T,hk⟩
 ·obtain⟨q,hq,o2,c2,KY,g2,r2,v2,T2,k2⟩:=K j J;refine⟨q,?_,o2,c2,KY,g2,r2,v2,by rw [gB j h]; exact T2,k2.mono J⟩;unfold xZ at hq ⊢;rw [hp,ah J];exact hq
theorem LX (K:Ts d0 s p n) (W:z.l.length=s.l.length) (gB: ∀j:Nat,j≠ob->j≠M->z.at (j:Int)=s.at (j:Int)) {o c dn g:Int} {r v:D} (T:Tg (z.at (ob:Int)) o c dn g r v) (hp:x_ p p' (ob:Int) (M:Int) q' m')
 (hk:mZ (kd d0 (ob:Int)) (Nd d0 (ob:Int)) (n+1) q' o c dn g r v) {o2 c2 KY g2:Int} {r2 v2:D} (T2:Tg (z.at (M:Int)) o2 c2 KY g2 r2 v2) (Cu:mZ (kd d0 (M:Int)) (Nd d0 (M:Int)) (n+1) m' o2 c2 KY g2 r2 v2):Ts d0 z p' (n+1):=fun j hj=>by
 by_cases h:j=ob
 ·subst h;exact⟨q',.inl (by rw [hp,ak rfl]),_,_,_,_,_,_,T,hk⟩
 ·by_cases Z:j=M
  ·subst Z;exact⟨m',.inl (by rw [hp,ah J,ak rfl]),_,_,_,_,_,_,T2,Cu⟩
  ·obtain⟨q,hq,o3,c3,dn3,g3,r3,v3,T3,k3⟩:=K j J;refine⟨q,?_,o3,c3,dn3,g3,r3,v3,by rw [gB j h Z]; exact T3,k3.mono J⟩;unfold xZ at hq ⊢;rw [hp,ah J,ah J];exact hq
end
section
variable {d0 d1 s z p es:D} {n i:Nat} {t op arg tries a oc:Int} {ob:Nat} {P:List Int->Prop} {o c dn g mo mm:Int} {r v:D} {o' c' ia g':Int} {r' v':D} {m:Option Int} {q:Kn}
theorem afI (hS:mY ((d0.at (ob:Int)).hd 0).n ((d0.at (ob:Int)).hd 2).n mm o c dn g r v) (hO:pU d0 ((d0.at (ob:Int)).hd 0).n ((d0.at (ob:Int)).hd 2).n) (oa:0<=op) (hk:kindOf op=((d0.at (ob:Int)).hd 0).n) (h4:((d0.at (ob:Int)).hd 0).n≠4)
 (T:Tg (s.at (ob:Int)) o c dn g r v) (kq:mZ (kd d0 (ob:Int)) (Nd d0 (ob:Int)) n q o c dn g r v) (ha:eE .i64 arg) (t0:0<=t) (hn:n<=90000) (h25:op=25->0<=arg)
 (h:act ((d0.at (ob:Int)).hd 2).n mo t op arg tries o c dn g r v= .res o' c' ia g' r' v' m a oc) (H:EvH d0 d1 es p i t op (ob:Int) a q)
 (fin: ∀(q':Kn) (p':D),KP p p' (ob:Int) q'->mZ (kd d0 (ob:Int)) (Nd d0 (ob:Int)) (n+1) q' o' c' ia g' r' v'->Ts d0 z p' (n+1))
 (hs: ∀p':D,Ts d0 z p' (n+1)->dS 23151 [enc es,(es.l.length:Int),((i+1:Nat):Int),enc d0,enc d1,enc p'] P):dS 23151 [enc es,(es.l.length:Int),(i:Int),enc d0,enc d1,enc p] P:=by
 have Mg:=tK oa hk hO.1;unfold kd Nd at kq fin;have hN: ∃N,((d0.at (ob:Int)).hd 2).n=N:=⟨_,rfl⟩;rcases Mg with ⟨e|e|e|e,e'⟩|⟨e|e|e|e,e'⟩|⟨e|e|e,e'⟩|⟨_,e'⟩|⟨e|e,e'⟩|⟨e|e,e'⟩|⟨e|e|e,e'⟩|⟨e|e,e'⟩|⟨e|e,e'⟩
 all_goals first |exact absurd e' h4|skip
 all_goals
  subst e;rw [e'] at hS hO kq fin
 ·obtain⟨q',k1,k2⟩:=ka1 (d0:=d0) hS hO kq T.hc ha t0 h;exact So H e' k1 fun p' hp=>hs p' (fin q' p' hp k2)
 ·obtain⟨q',k1,k2⟩:=ka2 (d0:=d0) hS hO kq T.hc ha t0 h;exact ev2 H e' k1 fun p' hp=>hs p' (fin q' p' hp k2)
 ·obtain⟨q',k1,k2⟩:=ka3 (d0:=d0) hS hO kq T.hc ha t0 h;exact ev3 H e' k1 fun p' hp=>hs p' (fin q' p' hp k2)
 ·obtain⟨q',k1,k2⟩:=ka4 (d0:=d0) hS hO kq T.hc ha t0 h;exact ev4 H e' k1 fun p' hp=>hs p' (fin q' p' hp k2)
 ·obtain⟨q',k1,k2⟩:=ka5 (d0:=d0) hS hO kq T.hc ha t0 h;exact ev5 H e' k1 fun p' hp=>hs p' (fin q' p' hp k2)
 ·obtain⟨q',k1,k2⟩:=ka6 (d0:=d0) hS hO kq T.hc ha t0 h;exact ev6 H e' k1 fun p' hp=>hs p' (fin q' p' hp k2)
 ·obtain⟨q',k1,k2⟩:=ka7 (d0:=d0) hS hO kq T.hc ha t0 h;exact ev7 H e' k1 fun p' hp=>hs p' (fin q' p' hp k2)
 ·obtain⟨q',k1,k2⟩:=ka8 (d0:=d0) hS hO kq T.hc ha t0 h;exact ev8 H e' k1 fun p' hp=>hs p' (fin q' p' hp k2)
 ·obtain⟨q',k1,k2⟩:=ka9 (d0:=d0) hS hO kq T.hc ha t0 h;exact ev9 H e' k1 fun p' hp=>hs p' (fin q' p' hp k2)
 ·obtain⟨q',k1,k2⟩:=aku (d0:=d0) hS hO kq T.hc ha t0 h;exact alD H e' k1 fun p' hp=>hs p' (fin q' p' hp k2)
 ·obtain⟨q',k1,k2⟩:=akt (d0:=d0) hS hO kq T.hc ha t0 h;exact alC H e' k1 fun p' hp=>hs p' (fin q' p' hp k2)
 ·obtain⟨q',k1,k2⟩:=akr (d0:=d0) hS hO kq T.hc ha t0 J h;exact aly H e' k1 fun p' hp=>hs p' (fin q' p' hp k2)
 ·obtain⟨q',k1,k2⟩:=aki (d0:=d0) hS hO kq T.hc ha t0 (h25 rfl) T.hg h;exact aln H e' k1 fun p' hp=>hs p' (fin q' p' hp k2)
 ·obtain⟨q',k1,k2⟩:=akq (d0:=d0) hS hO kq T.hc ha t0 h;exact alx H e' k1 fun p' hp=>hs p' (fin q' p' hp k2)
 ·obtain⟨q',k1,k2⟩:=akh (d0:=d0) hS hO kq T.hc ha t0 h;exact alm H e' k1 fun p' hp=>hs p' (fin q' p' hp k2)
 ·obtain⟨q',k1,k2⟩:=akp (d0:=d0) hS hO kq T.hc ha t0 h;exact alw H e' k1 fun p' hp=>hs p' (fin q' p' hp k2)
 ·obtain⟨q',k1,k2⟩:=ako (d0:=d0) hS hO kq T.hc ha t0 h;exact alv H e' k1 fun p' hp=>hs p' (fin q' p' hp k2)
 ·obtain⟨q',k1,k2⟩:=akn (d0:=d0) hS hO kq T.hc ha t0 h;exact alu H e' k1 fun p' hp=>hs p' (fin q' p' hp k2)
 ·obtain⟨q',k1,k2⟩:=akm (d0:=d0) hS hO kq T.hc ha t0 h;exact als H e' k1 fun p' hp=>hs p' (fin q' p' hp k2)
 ·obtain⟨q',k1,k2⟩:=akl (d0:=d0) hS hO kq T.hc ha t0 h;exact alr H e' k1 fun p' hp=>hs p' (fin q' p' hp k2)
 ·obtain⟨q',k1,k2⟩:=akk (d0:=d0) hS hO kq T.hc ha t0 h;exact alq H e' k1 fun p' hp=>hs p' (fin q' p' hp k2)
 ·obtain⟨q',k1,k2⟩:=akj (d0:=d0) hS hO kq T.hc ha t0 h;exact alp H e' k1 fun p' hp=>hs p' (fin q' p' hp k2)
end
section
variable {d0 d1 s z p es:D} {n i:Nat} {t op arg tries a oc:Int} {ob M:Nat} {P:List Int->Prop} {o c dn g mo mm:Int} {r v:D} {o' c' ia g':Int} {r' v':D} {mx:Option Int} {q m:Kn} {o2 c2 KY g2:Int} {r2 v2:D}
theorem afH (hN:((d0.at (ob:Int)).hd 2).n=(M:Int)) (h4:((d0.at (ob:Int)).hd 0).n=4) (nI:((d0.at (M:Int)).hd 0).n=1) (M1:M<d0.l.length) (gT:M≠ob) (oa:op=12\/op=13\/op=14\/op=24)
 (kq:mZ 4 (Nd d0 (ob:Int)) n q o c dn g r v) (hm:xZ d0 p (M:Int) m) (km:mZ 1 (Nd d0 (M:Int)) n m o2 c2 KY g2 r2 v2) (hmo:op=12\/op=24->mo=o2) (hl2: -1<=o2) (t0:0<=t) (hn:n<=90000)
 (h:act (M:Int) mo t op arg tries o c dn g r v= .res o' c' ia g' r' v' mx a oc) (H:EvH d0 d1 es p i t op (ob:Int) a q)
 (ai7:mx=none->∀p':D,KP p p' (ob:Int) q->mZ 4 (Nd d0 (ob:Int)) (n+1) q o' c' ia g' r' v'->Ts d0 z p' (n+1))
 (ai8:mx=none->∀p':D,x_ p p' (ob:Int) (M:Int) q m->mZ 4 (Nd d0 (ob:Int)) (n+1) q o' c' ia g' r' v'->Ts d0 z p' (n+1))
 (ai6: ∀x:Int,mx=some x->∀(m':Kn) (p':D),x_ p p' (ob:Int) (M:Int) q m'->mZ 4 (Nd d0 (ob:Int)) (n+1) q o' c' ia g' r' v'->mZ 1 (Nd d0 (M:Int)) (n+1) m' x c2 KY g2 r2 v2->Ts d0 z p' (n+1))
 (hs: ∀p':D,Ts d0 z p' (n+1)->dS 23151 [enc es,(es.l.length:Int),((i+1:Nat):Int),enc d0,enc d1,enc p'] P):dS 23151 [enc es,(es.l.length:Int),(i:Int),enc d0,enc d1,enc p] P:=by
 have kn: ∀(o c dn g:Int) (r v:D),mZ 4 (Nd d0 (ob:Int)) (n+1) q o c dn g r v:=fun o c dn g r v=>
  ⟨kq.en,by have:=kq.rl; omega,(by intro h; omega),(by intro h; omega),(by intro h; omega),(by intro h; omega),by have:=kq.cb; omega,(by intro h; omega),(by intro h; omega)⟩
 have rl2:m.rw.l.length<=100000:=by have:=km.rl; omega
 have k1: ∀x:Int,mZ 1 (Nd d0 (M:Int)) (n+1) { m with ow:=x } x c2 KY g2 r2 v2:=fun x=>
  ⟨km.en,by have:=km.rl; show m.rw.l.length<=n+1; omega,fun _=>rfl,(by intro h; omega),(by intro h; omega),(by intro h; omega),by have:=km.cb; show 0<=m.cm/\m.cm<=((n+1:Nat):Int); omega,(by intro h; omega),(by intro h; omega)⟩
 have how:=km.ow (.inl rfl);rcases oa with rfl|rfl|rfl|rfl
 ·simp only [act,Int.reduceEq,if_true,if_false,reduceIte] at h;split at h<;>simp only [Act.res.injEq,reduceCtorEq] at h;obtain⟨rfl,rfl,rfl,rfl,rfl,rfl,rfl,rfl,rfl⟩:=h;have:=hmo (.inl rfl);exact alB H h4 hN nI J J J hm km.en rl2 J fun p' hp=>hs p' (ai6 _ rfl _ p' hp (kn ..) (k1 _))
 ·simp only [act,Int.reduceEq,if_true,if_false,reduceIte] at h;have hx:mx=none:=by split at h<;>simp only [Act.res.injEq] at h<;>exact h.2.2.2.2.2.2.1.symm
  exact alA H h4 hN nI J J J hm km.en rl2 fun p' hp=>hs p' (hp.elim (fun hp=>ai7 hx p' hp (kn ..)) fun hp=>ai8 hx p' hp (kn ..))
 ·simp only [act,Int.reduceEq,if_true,if_false,reduceIte,Act.res.injEq] at h;have hx:mx=none:=h.2.2.2.2.2.2.1.symm;exact alz H h4 hN nI J J J hm km.en rl2 fun p' hp=>hs p' (hp.elim (fun hp=>ai7 hx p' hp (kn ..)) fun hp=>ai8 hx p' hp (kn ..))
 ·simp only [act,Int.reduceEq,if_true,if_false,reduceIte] at h
  repeat' split at h
  all_goals simp only [Act.res.injEq,reduceCtorEq] at h
  obtain⟨rfl,rfl,rfl,rfl,rfl,rfl,rfl,rfl,rfl⟩:=h;have:=hmo (.inr rfl);exact alo H h4 hN nI J J J hm km.en rl2 J fun p' hp=>hs p' (ai6 _ rfl _ p' hp (kn ..) (k1 _))
end
set_option maxHeartbeats 4000000 in
theorem alk {d0 d1 es p:D} {i:Nat} {th ob a:Int} {P:List Int->Prop} (i0:i<es.l.length) (i1:es.l.length<=100000) (hD:es.at (i:Int)=dL [.i th,.i 27,.i ob,.i a,.i 0]) (t0:0<=th) (t1:th<(d1.l.length:Int)) (o0:0<=ob) (o1:ob<(d0.l.length:Int))
 (hs:dS 23151 [enc es,(es.l.length:Int),((i+1:Nat):Int),enc d0,enc d1,enc p] P):dS 23151 [enc es,(es.l.length:Int),(i:Int),enc d0,enc d1,enc p] P:=by
 have c1:(i:Int)<(es.l.length:Int):=J
 have c2: ¬(i:Int)<0:=J
 have w:=bP (n:=i) J;have c3: ¬th<0:=J
 have c5: ¬ob<0:=J
 refine dS.of ?_;rw [BP];simp only [eM,zz,c1,c2,c3,t1,c5,o1,w,hD,zg,ax,nD,if_true,if_false,reduceIte];exact .jump hs
theorem N_ {x:D} {o c dn g o' c' ia g':Int} {r v r' v':D} (T:Tg x o c dn g r v) (T':Tg x o' c' ia g' r' v'):o=o'/\c=c'/\dn=ia/\g=g'/\r=r'/\v=v':=by have h:=T.is.symm.trans T'.is;simp only [bZ,cO,D.p.injEq,D.i.injEq,and_true] at h;exact h
section
variable {d0 d1 s z p es:D} {N0 N1 n i:Nat} {t op obj arg tr e1 e2 e3 e4 e5 oc:Int} {P:List Int->Prop} (h0:Wd (.sl 3) d0) (U:Wd (.sl 4) d1) (G:Gs s N0) (hN0:N0<17592186043904) (oa:eE .u8 op) (ht:eE .i64 t) (ha:eE .i64 arg)
include h0 U G hN0 oa ht ha
theorem afJ (R:KK d0 d1 s t op obj arg tr z e1 e2 e3 e4 e5 oc) (JD:oc≠0) (Gz:Gs z N1) (K:Ts d0 s p n) (hn:n<=90000) (hi:i<es.l.length) (W:es.l.length<=100000) (he:es.at (i:Int)=dL [.i e1,.i e2,.i e3,.i e4,.i e5]) (h25:op=25->0<=arg)
 (hs: ∀p':D,Ts d0 z p' (n+1)->dS 23151 [enc es,(es.l.length:Int),((i+1:Nat):Int),enc d0,enc d1,enc p'] P):dS 23151 [enc es,(es.l.length:Int),(i:Int),enc d0,enc d1,enc p] P:=by
 cases R with
 |no=>exact absurd rfl JD
 |xq A=> have hle:=(zp h0 U G J A.r).2.2;have o1:=A.o1;refine alk hi W he A.t0 A.t1 A.o0 J (hs p fun j hj=>?_);obtain⟨q,hq,o,c,dn,g,r,v,T,k⟩:=K j hj;exact⟨q,hq,o,c,dn,g,r,v,T,k.mono J⟩
 |res A o c dn g r v o' c' ia g' r' v' m _ _ T h=>
  obtain⟨hC,ok,hle⟩:=zp h0 U G J A.r;have a0:=A.o0;have a1:=A.o1;obtain⟨ob,rfl⟩ : ∃j:Nat,obj=(j:Int):=⟨obj.toNat,J⟩;have Gf:ob<s.l.length:=J
  have hO:=ok.2.2 _ (OF (d:=d0) a0 J);have hS:=Bd h0 U G J A.r a0 a1 T;obtain⟨q,hq,oq,cq,dq,gq,rq,vq,Tq,kq⟩:=K ob Gf;obtain⟨rfl,rfl,rfl,rfl,rfl,rfl⟩:=N_ T Tq;have H:EvH d0 d1 es p i t op (ob:Int) e4 q:=⟨hi,W,he,A.t0,A.t1,a0,J,hq,kq.en,by have:=kq.rl; omega⟩;have iD:=G.rows _ (aG Gf)
  have hrv:r.l.length<=N0/\v.l.length<=N0:=by
   have e:s.l[ob]=dL [.i o,.i c,.i dn,.i g,r,v]:=by rw [<- bV Gf]; exact T.is
   rw [e] at iD;exact iD
  have hK:=PO (M:=Mx d0 (ob:Int)) (mo:=Mo d0 s (ob:Int)) (op:=op) (tries:=tr) T (n:=N0) hrv.1 hrv.2 J ht ha;rw [h] at hK
  have hd:(if ia=0 then (0:Int) else 1)=ia:=by rcases hK.2.2.1 with rfl|rfl<;>rfl
  have tp:=Eg s (ob:Int) (Mx d0 (ob:Int)) (.res o' c' ia g' r' v' m e4 oc)
  have hzo:(py s (ob:Int) (Mx d0 (ob:Int)) (.res o' c' ia g' r' v' m e4 oc)).at (ob:Int)=dL [.i o',.i c',.i ia,.i g',r',v']:=by refine BX ?_;unfold py;rw [bD,hd];exact vR (by cases m with |none=>exact Gf|some q=>rw [fY]; exact Gf)
  have Tz:Tg ((py s (ob:Int) (Mx d0 (ob:Int)) (.res o' c' ia g' r' v' m e4 oc)).at (ob:Int)) o' c' ia g' r' v':=⟨hzo,hK.1,hK.2.1,hK.2.2.1,hK.2.2.2.1,hK.2.2.2.2.1,hK.2.2.2.2.2.2.1⟩
  have Yz:m=none->∀j:Nat,j≠ob->(py s (ob:Int) (Mx d0 (ob:Int)) (.res o' c' ia g' r' v' m e4 oc)).at (j:Int)=s.at (j:Int):=fun hm j hj=>by subst hm;have:=Eh (s:=s) (obj:=(ob:Int)) (M:=Mx d0 (ob:Int)) (A:=.res o' c' ia g' r' v' none e4 oc) (k:=j) J (.inl rfl);rw [mJ,mJ,this]
  by_cases h4:((d0.at (ob:Int)).hd 0).n=4
  ·obtain⟨m0,m1,m3⟩:=hO.2.2.2.2.2 h4;obtain⟨M,hM⟩ : ∃M:Nat,((d0.at (ob:Int)).hd 2).n=(M:Int):=⟨((d0.at (ob:Int)).hd 2).n.toNat,J⟩;have hMl:M<s.l.length:=J
   have gT:M≠ob:=fun e=>by rw [hM,e] at m3;omega
   obtain⟨km,hkm,o2,c2,KY,g2,r2,v2,T2,k2⟩:=K M hMl;have nI:((d0.at (M:Int)).hd 0).n=1:=by rw [<- hM]; exact m3
   have S2:=Bd h0 U G J A.r (i:=(M:Int)) J J T2
   have akG:op=12\/op=13\/op=14\/op=24:=by have:=tK oa.1 A.k hO.1;omega
   have hMx:Mx d0 (ob:Int)=(M:Int):=hM
   have hmo:Mo d0 s (ob:Int)=o2:=by show ((s.at ((d0.at (ob:Int)).hd 2).n).hd 0).n=o2;rw [hM,T2.is];rfl
   unfold kd at kq k2;rw [h4] at kq;rw [nI] at k2;rw [hMx] at h Tz Yz tp hs
   have akJ: ∀x:Int,m=some x->∀j:Nat,j≠ob->j≠M->(py s (ob:Int) (M:Int) (.res o' c' ia g' r' v' m e4 oc)).at (j:Int)=s.at (j:Int):=fun x hx j hj hjM=>by have:=Eh (s:=s) (obj:=(ob:Int)) (M:=(M:Int)) (A:=.res o' c' ia g' r' v' m e4 oc) (k:=j) J (.inr J);rw [mJ,mJ,this]
   have akv:m=none->Tg ((py s (ob:Int) (M:Int) (.res o' c' ia g' r' v' m e4 oc)).at (M:Int)) o2 c2 KY g2 r2 v2:=fun hx=>by rw [Yz hx M gT]; exact T2
   have hzM: ∀x:Int,m=some x->Tg ((py s (ob:Int) (M:Int) (.res o' c' ia g' r' v' m e4 oc)).at (M:Int)) x c2 KY g2 r2 v2:=fun x hx=>by
    subst hx
    have e:(py s (ob:Int) (M:Int) (.res o' c' ia g' r' v' (some x) e4 oc)).at (M:Int)=dL [.i x,.i c2,.i KY,.i g2,r2,v2]:=by refine BX ?_;unfold py;rw [bD,lq J,vR hMl,T2.is];rfl
    exact⟨e,hK.2.2.2.2.2.2.2.2.1 x rfl,T2.hc,T2.hd,T2.hg,T2.hr,T2.hv⟩
   refine afH hM h4 nI J gT akG kq hkm k2 (fun _=>hmo) S2.1.2.1 A.t0 hn h H (fun hx p' hp kk=>?_) (fun hx p' hp kk=>?_) (fun x hx m' p' hp kk kk2=>?_) hs
   ·exact LY K tp (Yz hx) Tz hp (by unfold kd; rw [h4]; exact kk)
   ·exact LX K tp (fun j hj _=>Yz hx j hj) Tz hp (by unfold kd; rw [h4]; exact kk) (akv hx) (by unfold kd; rw [nI]; exact k2.mono J)
   ·exact LX K tp (akJ x hx) Tz hp (by unfold kd; rw [h4]; exact kk) (hzM x hx) (by unfold kd; rw [nI]; exact kk2)
  ·have hx:m=none:=by
    have Mg:=tK oa.1 A.k hO.1;have:=BZ (M:=Mx d0 (ob:Int)) (mo:=Mo d0 s (ob:Int)) (th:=t) (op:=op) (arg:=arg) (tries:=tr) (o:=o) (c:=c) (dn:=dn) (g:=g) (r:=r) (v:=v) J J;rw [h] at this;exact this
   exact afI hS hO oa.1 A.k h4 T kq ha A.t0 hn h25 h H (fun q' p' hp kk=>LY K tp (Yz hx) Tz hp kk) hs
end
def VU (l:List D):Prop:= ∀x∈l,∃a b c e f,x=dL [.i a,.i b,.i c,.i e,.i f]
theorem Ib {d:D} (h:Wd (.sl 9) d):VU d.l:=fun x hx=>by obtain⟨r,U,W,hc⟩:=h.elN (cs:=[.int .i64,.int .u8,.int .i64,.int .i64,.int .i64]) rfl _ hx;obtain⟨a,b,c,e,f,rfl⟩:=ai5 W;obtain⟨a,rfl,_⟩:=(hc 0 _ _ rfl rfl).i;obtain⟨b,rfl,_⟩:=(hc 1 _ _ rfl rfl).i;obtain⟨c,rfl,_⟩:=(hc 2 _ _ rfl rfl).i;obtain⟨e,rfl,_⟩:=(hc 3 _ _ rfl rfl).i;obtain⟨f,rfl,_⟩:=(hc 4 _ _ rfl rfl).i;exact⟨a,b,c,e,f,U⟩
section
variable {d0 d1 es:D} (h0:Wd (.sl 3) d0) (U:Wd (.sl 4) d1) (Np:NoP d1) (hw:VU es.l) (W:es.l.length<=90000)
include h0 U Np hw W
theorem GZ: ∀(j i:Nat) (s k p:D),i+j=es.l.length->RS1 d0 d1 s k i->Ts d0 s p i->(fN d0 d1 s k (es.l.drop i)).2.2=j->dS 23151 [enc es,(es.l.length:Int),(i:Int),enc d0,enc d1,enc p] (·= [1])
 |0,i,s,k,p,hi,R,K,hA=>by
  have c1: ¬(i:Int)<(es.l.length:Int):=J
  refine dS.of ?_;rw [BP];simp only [eM,zz,c1];exact .out rfl
 |j+1,i,s,k,p,hi,R,K,hA=>by
  have dU:i<es.l.length:=J
  have ES:es.l.drop i=es.l[i]::es.l.drop (i+1):=amr dU;obtain⟨th,op,ob,a,b,he⟩:=hw _ (aG dU);rw [ES,fN] at hA;obtain⟨ys,hF,hy⟩:=R9 (t:=th) (iw:=op) (jt:=ob) (ea:=a) (eb:=b) R.S J h0 U R.M R.G Np
  have hfo:Y2 d0 d1 s k es.l[i]=some ys:=by unfold Y2;rw [he];simp only [zg,ax,nD];exact hF
  rw [hfo] at hA;rcases hy with rfl|⟨s',k',op',obj,arg,tr,oc,rfl,S',_,_,JD,T,M',G',gp,k1,k2,k3,h25⟩
  ·simp at hA
  ·simp only [bF,if_false,reduceIte,bC,aoq] at hA;have hb:b=0:=by cases T<;>rfl
   subst hb;refine afJ h0 U R.S.g J k1 gp k3 T JD S'.g K J dU J (by rw [bV dU]; exact he) h25 fun p' K'=>?_;exact GZ j (i+1) s' k' p' J ⟨S',M',G'⟩ K' hA
end
end Go.As.Try
end
section
namespace Go.As.Try
open Go hiding Stat Spec shape
open Go.As
set_option maxRecDepth 100000
set_option linter.unusedSimpArgs false
set_option linter.unusedVariables false
set_option linter.unusedSectionVars false
section
variable {d0 d1:D} (h0:Wd (.sl 3) d0) (U:Wd (.sl 4) d1)
include h0 U
theorem Mi:GG (fk d1):=fun j hj=>by
 unfold fk at hj ⊢;split at hj
 ·simp [D.l] at hj
 ·rename_i hz;rw [ah hz];rw [bD,bu] at hj
  have e:(dL (d1.l.map jT)).at (j:Int)=jT d1.l[j]:=by refine BX ?_;rw [bD,bp,aT hj];rfl
  rw [e];unfold jT;simp only [zg,ax,nD];omega
theorem Un (ok:mB d0 d1) (G:Gs (eu d0) 0):Ts d0 (eu d0) (.i 0) 0:=fun i hi=>by
 have W:(eu d0).l.length=d0.l.length:=by
  unfold eu;split
  ·rename_i h;rw [h];rfl
  ·rw [bD,bu]
 rw [W] at hi;have hz: ¬d0.l.length=0:=J
 have hD:(eu d0).at (i:Int)=iS d0.l[i]:=by refine BX ?_;unfold eu;rw [ah hz,bD,bp,aT hi];rfl
 obtain⟨o,c,dn,g,r,v,T,_⟩:=YL G (i:=(i:Int)) J J;have hO:=ok.2.2 _ (aG hi);refine⟨kn0 (kd d0 (i:Int)) (Nd d0 (i:Int)),.inr ⟨rfl,rfl⟩,o,c,dn,g,r,v,T,?_⟩;rw [hD] at T;have e:=T.is;unfold iS at e;have e:=BT e;simp only [List.cons.injEq,and_true,D.i.injEq] at e;obtain⟨rfl,hc,rfl,rfl,rfl,rfl⟩:=e;unfold kd Nd;rw [bV hi];obtain⟨q1,q2,q3,q4,q5,q6⟩:=hO;generalize (d0.l[i].hd 0).n=k at *;generalize (d0.l[i].hd 2).n=N at *;unfold kn0;refine⟨.inl rfl,ay 0,fun _=>rfl,fun _=> ⟨[],rfl,.nil⟩,fun h=>?_,fun h=>?_,⟨am1 0,am1 0⟩,fun _=> ⟨rfl,.inl ⟨rfl,J,rfl⟩⟩,fun _=>rfl⟩
 ·show (if k=3\/k=9 then N else 0)=c;exact hc
 ·have:=q5 h;rw [ah J] at hc;subst hc;exact⟨by show (0:Int)=0*N+0; omega,J,J⟩
theorem TO (Np:NoP d1) {es:D} (hw:VU es.l) (W:es.l.length<=90000) (hC:L 450 [enc d0,enc d1]=some [0]) (ok:mB d0 d1) (M:MR d0 d1 (eu d0) (fk d1)) (hA:(fN d0 d1 (eu d0) (fk d1) es.l).2.2=es.l.length):L 23150 [enc d0,enc d1,enc es]=some [1]:=by
 have S:=vi h0 U ok
 have res:dS 23150 [enc d0,enc d1,enc es] (·= [1]):=by refine dS.of ?_;rw [ZF];simp only [WK,zz,hC];exact .jump (GZ h0 U Np hw W es.l.length 0 _ _ _ J ⟨S,M,Mi h0 U⟩ (Un h0 U ok S.g) (by rw [amP]; exact hA))
 obtain⟨ys,h,rfl⟩:=res;exact h
end
end Go.As.Try
end
section
namespace Go.As.Try
open Go hiding Stat Spec shape
open Go.As
set_option maxRecDepth 100000
def EqN (a b:D):Prop:=a.l.length=b.l.length/\∀(i:Nat),(a.at (i:Int)).n=(b.at (i:Int)).n
structure KEq (x y:D):Prop where
 c0:(x.hd 0).n=(y.hd 0).n
 c1:EqN (x.hd 1) (y.hd 1)
 c2:(x.hd 2).n=(y.hd 2).n
 c3:(x.hd 3).n=(y.hd 3).n
 c4:(x.hd 4).n=(y.hd 4).n
 c5:(x.hd 5).n=(y.hd 5).n
theorem EqN.aex (a:D):EqN a a:=⟨rfl,fun _=>rfl⟩
theorem KEq.aex (a:D):KEq a a:=⟨rfl,EqN.aex _,rfl,rfl,rfl,rfl⟩
def X5 (k:D):Prop:=k.l.length<=140737488351232/\∀i:Nat,((k.at (i:Int)).hd 1).l.length<=140737488351232
section
variable {s k s' k':D} (W:k.l.length=k'.l.length) (hq: ∀i:Nat,KEq (k.at (i:Int)) (k'.at (i:Int))) (hb:X5 k)
include W hq hb
theorem zl: ∀(j i:Nat),i+j=k.l.length->L 2051 [(k.l.length:Int),(i:Int),enc s,enc k,enc s',enc k']=some [1]
 |0,i,hi=>by
  have c1: ¬(i:Int)<(k.l.length:Int):=J
  rw [bM,ZH];simp only [WN,zz,c1,bY]
 |j+1,i,hi=>by
  have c1:(i:Int)<(k.l.length:Int):=J
  have c2: ¬((i:Int)<0):=J
  have c3:(i:Int)<(k'.l.length:Int):=J
  have b1:=hb.1;have w:=bP (n:=i) J;have ih:=zl j (i+1) J;have q:=hq i;obtain⟨q1,q2⟩:=q.c1;have b2:=hb.2 i
  have lp: ∀(j' i':Nat),i'+j'=((k.at (i:Int)).hd 1).l.length->L 2052 [(k.l.length:Int),(i:Int),(((k.at (i:Int)).hd 1).l.length:Int),(i':Int),enc s,enc k,enc s',enc k',((k.at (i:Int)).hd 0).n,enc ((k.at (i:Int)).hd 1),((k.at (i:Int)).hd 2).n,((k.at (i:Int)).hd 3).n,((k.at (i:Int)).hd 4).n,((k.at (i:Int)).hd 5).n,((k'.at (i:Int)).hd 0).n,enc ((k'.at (i:Int)).hd 1),((k'.at (i:Int)).hd 2).n,((k'.at (i:Int)).hd 3).n,((k'.at (i:Int)).hd 4).n,((k'.at (i:Int)).hd 5).n]=some [1]:=by
   intro j'
   induction j' with
   |zero=>
    intro i' hi';have d1: ¬(i':Int)<(((k.at (i:Int)).hd 1).l.length:Int):=J
    rw [bM,ZG];simp only [WM,zz,d1,w,bK,ih]
   |succ j' ihj=>
    intro i' hi';have d1:(i':Int)<(((k.at (i:Int)).hd 1).l.length:Int):=J
    have d2: ¬((i':Int)<0):=J
    have d3:(i':Int)<(((k'.at (i:Int)).hd 1).l.length:Int):=J
    have w':=bP (n:=i') J;have h':=ihj (i'+1) J;have hn:=q2 i';rw [bM,ZG];simp only [WM,zz,d1,d2,d3,w',hn,bK];exact h'
  have l0:=lp ((k.at (i:Int)).hd 1).l.length 0 J;have q1':(((k.at (i:Int)).hd 1).l.length:Int)=(((k'.at (i:Int)).hd 1).l.length:Int):=J
  simp only [q.c0,q.c2,q.c3,q.c4,q.c5,q1',aP] at l0;rw [bM,ZH];simp only [WN,zz,c1,c2,c3,q.c0,q.c2,q.c3,q.c4,q.c5,q1',bK];exact l0
theorem TZ (hs:L 200 [enc s,enc s']=some [1]):L 2050 [enc s,enc k,enc s',enc k']=some [1]:=by
 have h:=zl (s:=s) (s':=s') W hq hb k.l.length 0 J;have yS:(k.l.length:Int)=(k'.l.length:Int):=J
 rw [aP] at h;rw [bM,ac2];simp only [abL,zz,hs,bF,yS,bK]
 grind
end
theorem TY {s:D} (hlen:s.l.length<=140737488351232) (hr:I5 s):L 200 [enc s,enc s]=some [1]:=by obtain⟨c,U,_,h3⟩:=TX s s hlen hr;rw [U,h3.2 ⟨rfl,fun k U Z _=> ⟨rfl,rfl,Iff.rfl,rfl,⟨rfl,fun _ _ _ _=>rfl⟩,⟨rfl,fun _ _ _ _=>rfl⟩⟩⟩]
theorem Sx.akf {s k:D} {n:Nat} (S:Sx s k n):X5 k:=by
 refine⟨S.wk.len,fun i=>?_⟩;by_cases hi:i<k.l.length
 ·obtain⟨a,lc,w,o,g,tr,T⟩:=gK S.wk _ (aG hi);rw [bV hi,T.is,eT];exact T.W.len
 ·rw [mJ,am8 J];show ((D.i 0).hd 1).l.length<=_;simp [D.hd,D.l]
theorem Sx.same {s k:D} {n:Nat} (S:Sx s k n) (hn:n<17592186043904):L 2050 [enc s,enc k,enc s,enc k]=some [1]:=
 TZ rfl (fun _=>KEq.aex _) S.akf (TY S.g.wd.len (fun x hx=>by have:=S.g.rows x hx; omega))
theorem De {x n:Int} (h:0<n) (hb:n<=140737488351232):L 2100 [x,n]=some [xG x n]:=by
 have U:=Lg (x:=x) h;have c1: ¬n<1:=J
 have w:IntKind.i64.wrap (x.tmod n+n)=x.tmod n+n:=mK J J;rw [bM,ac1];unfold xG;have dr: ∀{ρ:Nat->Int} (a b:V),(V.rem a b).den ρ=(a.den ρ).tmod (b.den ρ):=fun _ _=>rfl;by_cases hz:x.tmod n<0
 ·simp only [WL,zz,c1,dr,hz,w,bY,if_true]
 ·simp only [WL,zz,c1,dr,hz,bY,if_false]
theorem DS (d1:D):(fk d1).l.length=d1.l.length:=by
 unfold fk;split
 ·rename_i h; rw [h]; rfl
 ·rw [bD,bu]
theorem N3 (d0 x:D) (m:Nat) (h:Ri d0 x):Snd x (iS x) m:=by obtain⟨ys,U,Z⟩:=TP (x.hd 0).n (x.hd 2).n (enc (x.hd 1)) (enc (x.hd 3)) (x.hd 4).n m (fun e=>(h.2.2.2.1 (.inl e)).1) h.2.2.2.2.1;rw [Z] at U;exact U
theorem LO {d0 d1:D} (h0:Wd (.sl 3) d0) (U:Wd (.sl 4) d1) (hC:L 450 [enc d0,enc d1]=some [0]) (ok:mB d0 d1):MR d0 d1 (eu d0) (fk d1):=by
 have S:=vi h0 U ok
 have W:(eu d0).l=d0.l.map iS:=by
  unfold eu;split
  ·rename_i h;rw [amv h];rfl
  ·rw [bD]
 have hk:(fk d1).l=d1.l.map jT:=by
  unfold fk;split
  ·rename_i h;rw [amv h];rfl
  ·rw [bD]
 refine⟨?_,DS d1,fun i hi=>?_⟩
 ·obtain⟨b,hb,_,hi⟩:=kV h0 U (S.g.kS J).rows;rw [hb,hi.2 ⟨hC,by rw [W,bu],fun q hq=>?_⟩];have RL:q<d0.l.length:=by rw [W,bu] at hq; exact hq
  have e:(eu d0).l[q]?=some (iS d0.l[q]):=by rw [W,bp,aT RL];rfl
  rw [aT hq] at e;rw [Option.some.inj e];exact N3 d0 _ _ (ok.2.2 _ (aG _))
 ·have hi':i<d1.l.length:=by rw [DS] at hi; exact hi
  have e:(fk d1).l[i]?=some (jT d1.l[i]):=by rw [hk,bp,aT hi'];rfl
  rw [aT hi] at e;rw [Option.some.inj e];refine⟨am1 _,Int.natCast_nonneg _,?_,am1 _,by show (0:Int)<=_; omega,.inl ⟨rfl,rfl,rfl⟩⟩;show ((if ((d1.l[i]).hd 1).l.length=0 then (.i 2:D) else dL (List.replicate ((d1.l[i]).hd 1).l.length (.i 0))).l.length:Int)=_;split
  ·rename_i h; rw [h]; rfl
  ·rw [bD,amT]
end Go.As.Try
end
section
namespace Go.As.Try
open Go hiding Stat Spec shape
open Go.As
set_option maxRecDepth 100000
set_option linter.unusedSimpArgs false
set_option linter.unusedVariables false
set_option linter.unusedSectionVars false
structure TF (d0 d1:D) (l:List D) (s k:D) (n:Nat):Prop where
 le:n<=l.length
 af: ∀d:D,d.l=l->L 2150 [enc d0,enc d1,enc d]=some [enc s,enc k,(n:Int)]
 ag: ∀d:D,d.l=l.take n->L 2150 [enc d0,enc d1,enc d]=some [enc s,enc k,(n:Int)]
 sm:L 2050 [enc s,enc k,enc s,enc k]=some [1]
 rt:L 1500 [enc d0,enc d1,enc s,enc k]=some [1]
 so: ∀d:D,d.l=l.take n->L 23150 [enc d0,enc d1,enc d]=some [1]
section
variable {d0 d1:D} (h0:Wd (.sl 3) d0) (U:Wd (.sl 4) d1) (hC:L 450 [enc d0,enc d1]=some [0]) (ok:mB d0 d1)
include h0 U hC ok
theorem M9 (d:D) (hd:d.l.length<=17592186000000):L 2150 [enc d0,enc d1,enc d]=some [enc (fN d0 d1 (eu d0) (fk d1) d.l).1,enc (fN d0 d1 (eu d0) (fk d1) d.l).2.1,((fN d0 d1 (eu d0) (fk d1) d.l).2.2:Int)]:=by have hB:=Bm U hC ok;have ih:=Nh h0 U d hd d.l.length 0 _ _ J (vi h0 U ok);rw [amP,aK] at ih;rw [bM,ac0];simp only [abK,zz,hB,bK];exact ih
theorem xC (Np:NoP d1) {l:List D} (hw:VU l) (W:l.length<=80000): ∃s k n,TF d0 d1 l s k n/\∀m:Nat,(fN d0 d1 (eu d0) (fk d1) (l.take m)).2.2=min n m:=by
 have M:=LO h0 U hC ok;have S:=vi h0 U ok;obtain⟨m,hm,R⟩:=q! h0 U Np l _ _ 0 ⟨S,M,Mi h0 U⟩ J;have hle:=q? d0 d1 l (eu d0) (fk d1);have hs:=Ng d0 d1 l (eu d0) (fk d1);refine⟨_,_,(fN d0 d1 (eu d0) (fk d1) l).2.2,⟨hle,fun d hd=>?_,fun d hd=>?_,R.S.same J,?_,fun d hd=>?_⟩,fun m=>Nb d0 d1 l _ _ m⟩
 ·have:=M9 h0 U hC ok d (by rw [hd]; omega);rw [hd] at this;exact this
 ·have:=M9 h0 U hC ok d (by rw [hd,bh]; omega);rw [hd,hs] at this;exact this
 ·obtain⟨ys,hL,b,rfl,hb⟩:=Hu h0 U (R.S.g.kS J).rows U.len (k:=_);rcases hb with ⟨_,h⟩|⟨rfl,_⟩
  ·exact absurd R.M h
  ·exact hL
 ·refine TO h0 U Np (by rw [hd]; exact fun x hx=>hw x (amo hx)) (by rw [hd,bh]; omega) hC ok M ?_;rw [hd,hs,bh];omega
end
theorem yE {a b:List D} (ha:VU a) (hb:VU b):VU (a++b):=fun x hx=>by
 rcases amt.1 hx with h|h
 ·exact ha x h
 ·exact hb x h
theorem ta {a:List D} (ha:VU a) (n:Nat):VU (a.take n):=fun x hx=>ha x (amo hx)
theorem i60:(60:Int).toNat=60:=rfl
section
variable {d0 d1:D} (h0:Wd (.sl 3) d0) (U:Wd (.sl 4) d1) (hC:L 450 [enc d0,enc d1]=some [0]) (ok:mB d0 d1) (Np:NoP d1)
include h0 U hC ok Np
theorem QP {q xs:D} {i K:Int} {s k:D} (hx:Wd (.sl 9) xs) (hz: ¬i<(q.l.length:Int)\/i<(q.l.length:Int)/\¬i<150):L 23251 [enc q,i,enc d0,enc d1,enc xs,K,enc s,enc k]=some [1]:=by
 obtain⟨s0,k0,n0,F0,_⟩:=xC h0 U hC ok Np (l:=[]) (fun x hx=>by simp at hx) ad;have hn0:n0=0:=by have:=F0.le; simpa using this
 subst hn0;have a1:=F0.af (.i 1) rfl;have a2:=F0.af (.i 2) rfl;have o1:=F0.so (.i 1) rfl;have o2:=F0.so (.i 2) rfl;have z0:((0:Nat):Int)=0:=rfl;rw [z0] at a1 a2;have sm:=F0.sm;have rt:=F0.rt;have pk:=De (x:=K) (n:=1) J J;have p0:xG K 1=0:=by have:=wK (x:=K) (n:=1) J; omega
 rw [p0] at pk;have c00: ¬(0:Int)<0:=J
 have hxl:=hx.len;by_cases h60:60<xs.l.length
 ·have FW:(60:Int)<(xs.l.length:Int):=J
  have W:(xs.l.take 60).length=60:=by rw [bh]; omega
  have YK:=ta (Ib hx) 60;have cz: ¬((((bR xs (xs.l.take 60)).l.length:Nat):Int)=0):=by rw [bN]; omega
  have cr:(((bR xs (xs.l.take 60)).l.length:Nat):Int)<3518437208883:=by rw [bN]; omega
  obtain⟨s',k',n,F,_⟩:=xC h0 U hC ok Np (l:=xs.l.take 60) YK J;have hle:=F.le;have b1:=F.af (bR xs (xs.l.take 60)) (by rw [bN]);have b2:=F.ag (bR (bR xs (xs.l.take 60)) ((bR xs (xs.l.take 60)).l.take n)) (by rw [bN,bN]);have b3:=F.so (bR (bR xs (xs.l.take 60)) ((bR xs (xs.l.take 60)).l.take n)) (by rw [bN,bN]);have cn: ¬(n:Int)<0:=J
  have cm: ¬((((bR xs (xs.l.take 60)).l.length:Nat):Int)<(n:Int)):=by rw [bN]; omega
  rw [bM,Fx];rcases hz with hq|⟨hq,JK⟩
  ·simp only [rI,zz,hq,a1,a2,o1,o2,pk,c00,FW,i60,cz,cr,b1,b2,b3,cn,cm,F.sm,F.rt,aX,bF,bY]
  ·simp only [rI,zz,hq,JK,a1,a2,o1,o2,pk,c00,FW,i60,cz,cr,b1,b2,b3,cn,cm,F.sm,F.rt,aX,bF,bY]
 ·have FW: ¬(60:Int)<(xs.l.length:Int):=J
  have cx: ¬(xs.l.length:Int)<(xs.l.length:Int):=J
  have cl:xs.l.take xs.l.length=xs.l:=amF;have YK:=Ib hx;by_cases hxz:xs.l.length=0
  ·have cz:((((bR xs xs.l).l.length:Nat):Int)=0):=by rw [bN]; omega
   rw [bM,Fx];rcases hz with hq|⟨hq,JK⟩
   ·simp only [rI,zz,hq,a1,a2,o1,o2,pk,c00,FW,cx,cl,cz,sm,rt,aX,bF,bY]
   ·simp only [rI,zz,hq,JK,a1,a2,o1,o2,pk,c00,FW,cx,cl,cz,sm,rt,aX,bF,bY]
  ·have cz: ¬((((bR xs (xs.l)).l.length:Nat):Int)=0):=by rw [bN]; omega
   have cr:(((bR xs (xs.l)).l.length:Nat):Int)<3518437208883:=by rw [bN]; omega
   obtain⟨s',k',n,F,_⟩:=xC h0 U hC ok Np (l:=xs.l) YK J;have hle:=F.le;have b1:=F.af (bR xs (xs.l)) (by rw [bN]);have b2:=F.ag (bR (bR xs (xs.l)) ((bR xs (xs.l)).l.take n)) (by rw [bN,bN]);have b3:=F.so (bR (bR xs (xs.l)) ((bR xs (xs.l)).l.take n)) (by rw [bN,bN]);have cn: ¬(n:Int)<0:=J
   have cm: ¬((((bR xs (xs.l)).l.length:Nat):Int)<(n:Int)):=by rw [bN]; omega
   rw [bM,Fx];rcases hz with hq|⟨hq,JK⟩
   ·simp only [rI,zz,hq,a1,a2,o1,o2,pk,c00,FW,cx,cl,cz,cr,b1,b2,b3,cn,cm,F.sm,F.rt,aX,bF,bY]
   ·simp only [rI,zz,hq,JK,a1,a2,o1,o2,pk,c00,FW,cx,cl,cz,cr,b1,b2,b3,cn,cm,F.sm,F.rt,aX,bF,bY]
theorem QO {q xs e:D} {i K:Int} {s k:D} (hx:Wd (.sl 9) xs) (he:VU e.l) (hel:e.l.length<=1000) (hr:(fN d0 d1 (eu d0) (fk d1) e.l).2.2=e.l.length) (hz: ¬i<(q.l.length:Int)\/i<(q.l.length:Int)/\¬i<150):L 23252 [enc q,enc e,i,enc d0,enc d1,enc xs,K,enc s,enc k]=some [1]:=by
 obtain⟨s0,k0,n0,F0,_⟩:=xC h0 U hC ok Np (l:=[]) (fun x hx=>by simp at hx) ad;have hn0:n0=0:=by have:=F0.le; simpa using this
 subst hn0;have a2:=F0.af (.i 2) rfl;have o2:=F0.so (.i 2) rfl;have z0:((0:Nat):Int)=0:=rfl;rw [z0] at a2;have sm:=F0.sm;have rt:=F0.rt;have c00: ¬(0:Int)<0:=J
 obtain⟨se,ke,ne,E,hE⟩:=xC h0 U hC ok Np (l:=e.l) he J
 have gB:ne=e.l.length:=by have:=hE e.l.length;rw [amF,hr] at this;have:=E.le;omega
 subst gB;have ea:=E.af e rfl;have eo:=E.so e (amF).symm;have w1:=bP (n:=e.l.length) J;have pk:=De (x:=K) (n:=((e.l.length+1:Nat):Int)) J J;have pr:=wK (x:=K) (n:=((e.l.length+1:Nat):Int)) J;obtain⟨p,hp⟩ : ∃p:Nat,xG K ((e.l.length+1:Nat):Int)=(p:Int):=⟨(xG K ((e.l.length+1:Nat):Int)).toNat,J⟩;rw [hp] at pk pr;have Vy: ¬(e.l.length:Int)<(p:Int):=J
 have S0: ¬(p:Int)<0:=J
 have htl:(e.l.take p).length=p:=by rw [bh]; omega
 have Vs:=hE p;have hmp:min e.l.length p=p:=J
 rw [hmp] at Vs;obtain⟨sp,kp,np,P,hP⟩:=xC h0 U hC ok Np (l:=e.l.take p) (ta he p) J
 have hnp:np=p:=by have:=hP p;rw [ann,anL,Vs] at this;have:=P.le;omega
 subst hnp;have pa:=P.af (bR e (e.l.take np)) (by rw [bN]);have po:=P.so (bR e (e.l.take np)) (by rw [bN,ann,anL]);have pa2:=P.ag (bR (bR e (e.l.take np)) ((bR e (e.l.take np)).l.take np)) (by rw [bN,bN]);have po2:=P.so (bR (bR e (e.l.take np)) ((bR e (e.l.take np)).l.take np)) (by rw [bN,bN]);have cT: ¬((((bR e (e.l.take np)).l.length:Nat):Int)<(np:Int)):=by rw [bN]; omega
 have psm:=P.sm;have prt:=P.rt;have hxl:=hx.len;by_cases Uv:np=0
 ·have amb:=Uv;have PI:((((bR e (e.l.take np)).l.length:Nat):Int)=0):=by rw [bN]; omega
  by_cases h60:60<xs.l.length
  ·have FW:(60:Int)<(xs.l.length:Int):=J
   have W:(xs.l.take 60).length=60:=by rw [bh]; omega
   have YK:=ta (Ib hx) 60;have cz: ¬((((bR xs (xs.l.take 60)).l.length:Nat):Int)=0):=by rw [bN]; omega
   have cr:(((bR xs (xs.l.take 60)).l.length:Nat):Int)<3518437208883:=by rw [bN]; omega
   obtain⟨s',k',n,F,_⟩:=xC h0 U hC ok Np (l:=xs.l.take 60) YK J;have hle:=F.le;have b1:=F.af (bR xs (xs.l.take 60)) (by rw [bN]);have b2:=F.ag (bR (bR xs (xs.l.take 60)) ((bR xs (xs.l.take 60)).l.take n)) (by rw [bN,bN]);have b3:=F.so (bR (bR xs (xs.l.take 60)) ((bR xs (xs.l.take 60)).l.take n)) (by rw [bN,bN]);have cn: ¬(n:Int)<0:=J
   have S1: ¬(n:Int)<(np:Int):=J
   have cm: ¬((((bR xs (xs.l.take 60)).l.length:Nat):Int)<(n:Int)):=by rw [bN]; omega
   rw [bM,v7];rcases hz with hq|⟨hq,JK⟩
   ·simp only [lW,zz,hq,ea,eo,w1,pk,Vy,S0,pa,po,PI,FW,i60,cz,cr,b1,b2,b3,cn,S1,cm,F.sm,F.rt,aX,bF,bY]
   ·simp only [lW,zz,hq,JK,ea,eo,w1,pk,Vy,S0,pa,po,PI,FW,i60,cz,cr,b1,b2,b3,cn,S1,cm,F.sm,F.rt,aX,bF,bY]
  ·have FW: ¬(60:Int)<(xs.l.length:Int):=J
   have cx: ¬(xs.l.length:Int)<(xs.l.length:Int):=J
   have cl:xs.l.take xs.l.length=xs.l:=amF;have YK:=Ib hx;by_cases hxz:xs.l.length=0
   ·have cz:((((bR xs xs.l).l.length:Nat):Int)=0):=by rw [bN]; omega
    have S1: ¬(0:Int)<(np:Int):=J
    rw [bM,v7];rcases hz with hq|⟨hq,JK⟩
    ·simp only [lW,zz,hq,ea,eo,w1,pk,Vy,S0,pa,po,PI,a2,o2,FW,cx,cl,cz,S1,sm,rt,aX,bF,bY]
    ·simp only [lW,zz,hq,JK,ea,eo,w1,pk,Vy,S0,pa,po,PI,a2,o2,FW,cx,cl,cz,S1,sm,rt,aX,bF,bY]
   ·have cz: ¬((((bR xs (xs.l)).l.length:Nat):Int)=0):=by rw [bN]; omega
    have cr:(((bR xs (xs.l)).l.length:Nat):Int)<3518437208883:=by rw [bN]; omega
    obtain⟨s',k',n,F,_⟩:=xC h0 U hC ok Np (l:=xs.l) YK J;have hle:=F.le;have b1:=F.af (bR xs (xs.l)) (by rw [bN]);have b2:=F.ag (bR (bR xs (xs.l)) ((bR xs (xs.l)).l.take n)) (by rw [bN,bN]);have b3:=F.so (bR (bR xs (xs.l)) ((bR xs (xs.l)).l.take n)) (by rw [bN,bN]);have cn: ¬(n:Int)<0:=J
    have S1: ¬(n:Int)<(np:Int):=J
    have cm: ¬((((bR xs (xs.l)).l.length:Nat):Int)<(n:Int)):=by rw [bN]; omega
    rw [bM,v7];rcases hz with hq|⟨hq,JK⟩
    ·simp only [lW,zz,hq,ea,eo,w1,pk,Vy,S0,pa,po,PI,FW,cx,cl,cz,cr,b1,b2,b3,cn,S1,cm,F.sm,F.rt,aX,bF,bY]
    ·simp only [lW,zz,hq,JK,ea,eo,w1,pk,Vy,S0,pa,po,PI,FW,cx,cl,cz,cr,b1,b2,b3,cn,S1,cm,F.sm,F.rt,aX,bF,bY]
 ·have PI: ¬((((bR e (e.l.take np)).l.length:Nat):Int)=0):=by rw [bN]; omega
  by_cases h60:60<xs.l.length
  ·have FW:(60:Int)<(xs.l.length:Int):=J
   have W:(xs.l.take 60).length=60:=by rw [bh]; omega
   have YK:=ta (Ib hx) 60;have cz: ¬((((bR xs (xs.l.take 60)).l.length:Nat):Int)=0):=by rw [bN]; omega
   have cr:(((bR xs (xs.l.take 60)).l.length:Nat):Int)<3518436208883:=by rw [bN]; omega
   have ct:(((bR e (e.l.take np)).l.length:Nat):Int)<1000000:=by rw [bN]; omega
   have E_:(((bR e (e.l.take np)).l.length:Nat):Int)<3518437208883:=by rw [bN]; omega
   have RQ:((e.l.take np)++(xs.l.take 60)).length=np+(xs.l.take 60).length:=by rw [a8,htl]
   obtain⟨s',k',n,F,hF⟩:=xC h0 U hC ok Np (l:=(e.l.take np)++(xs.l.take 60)) (yE (ta he np) YK) J;have hle:=F.le
   have hnn:np<=n:=by have:=hF np;rw [aor J,ann,anL,Vs] at this;omega
   have b1:=F.af (dL ((bR e (e.l.take np)).l++(bR xs (xs.l.take 60)).l)) (by rw [bD,bN,bN]);have b2:=F.ag (bR (dL ((bR e (e.l.take np)).l++(bR xs (xs.l.take 60)).l)) ((dL ((bR e (e.l.take np)).l++(bR xs (xs.l.take 60)).l)).l.take n)) (by rw [bN,bD,bN,bN]);have b3:=F.so (bR (dL ((bR e (e.l.take np)).l++(bR xs (xs.l.take 60)).l)) ((dL ((bR e (e.l.take np)).l++(bR xs (xs.l.take 60)).l)).l.take n)) (by rw [bN,bD,bN,bN]);have cn: ¬(n:Int)<0:=J
   have S1: ¬(n:Int)<(np:Int):=J
   have cm: ¬((((dL ((bR e (e.l.take np)).l++(bR xs (xs.l.take 60)).l)).l.length:Nat):Int)<(n:Int)):=by rw [bD,bN,bN]; omega
   rw [bM,v7];rcases hz with hq|⟨hq,JK⟩
   ·simp only [lW,zz,hq,ea,eo,w1,pk,Vy,S0,pa,po,PI,ct,E_,FW,i60,cz,cr,b1,b2,b3,cn,S1,cm,F.sm,F.rt,aX,bF,bY]
   ·simp only [lW,zz,hq,JK,ea,eo,w1,pk,Vy,S0,pa,po,PI,ct,E_,FW,i60,cz,cr,b1,b2,b3,cn,S1,cm,F.sm,F.rt,aX,bF,bY]
  ·have FW: ¬(60:Int)<(xs.l.length:Int):=J
   have cx: ¬(xs.l.length:Int)<(xs.l.length:Int):=J
   have cl:xs.l.take xs.l.length=xs.l:=amF;have YK:=Ib hx;by_cases hxz:xs.l.length=0
   ·have cz:((((bR xs xs.l).l.length:Nat):Int)=0):=by rw [bN]; omega
    have E_:(((bR e (e.l.take np)).l.length:Nat):Int)<3518437208883:=by rw [bN]; omega
    rw [bM,v7];rcases hz with hq|⟨hq,JK⟩
    ·simp only [lW,zz,hq,ea,eo,w1,pk,Vy,S0,pa,po,PI,E_,pa2,po2,cT,S0,FW,cx,cl,cz,psm,prt,aX,bF,bY]
    ·simp only [lW,zz,hq,JK,ea,eo,w1,pk,Vy,S0,pa,po,PI,E_,pa2,po2,cT,S0,FW,cx,cl,cz,psm,prt,aX,bF,bY]
   ·have cz: ¬((((bR xs (xs.l)).l.length:Nat):Int)=0):=by rw [bN]; omega
    have cr:(((bR xs (xs.l)).l.length:Nat):Int)<3518436208883:=by rw [bN]; omega
    have ct:(((bR e (e.l.take np)).l.length:Nat):Int)<1000000:=by rw [bN]; omega
    have E_:(((bR e (e.l.take np)).l.length:Nat):Int)<3518437208883:=by rw [bN]; omega
    have RQ:((e.l.take np)++(xs.l)).length=np+(xs.l).length:=by rw [a8,htl]
    obtain⟨s',k',n,F,hF⟩:=xC h0 U hC ok Np (l:=(e.l.take np)++(xs.l)) (yE (ta he np) YK) J;have hle:=F.le
    have hnn:np<=n:=by have:=hF np;rw [aor J,ann,anL,Vs] at this;omega
    have b1:=F.af (dL ((bR e (e.l.take np)).l++(bR xs (xs.l)).l)) (by rw [bD,bN,bN]);have b2:=F.ag (bR (dL ((bR e (e.l.take np)).l++(bR xs (xs.l)).l)) ((dL ((bR e (e.l.take np)).l++(bR xs (xs.l)).l)).l.take n)) (by rw [bN,bD,bN,bN]);have b3:=F.so (bR (dL ((bR e (e.l.take np)).l++(bR xs (xs.l)).l)) ((dL ((bR e (e.l.take np)).l++(bR xs (xs.l)).l)).l.take n)) (by rw [bN,bD,bN,bN]);have cn: ¬(n:Int)<0:=J
    have S1: ¬(n:Int)<(np:Int):=J
    have cm: ¬((((dL ((bR e (e.l.take np)).l++(bR xs (xs.l)).l)).l.length:Nat):Int)<(n:Int)):=by rw [bD,bN,bN]; omega
    rw [bM,v7];rcases hz with hq|⟨hq,JK⟩
    ·simp only [lW,zz,hq,ea,eo,w1,pk,Vy,S0,pa,po,PI,ct,E_,FW,cx,cl,cz,cr,b1,b2,b3,cn,S1,cm,F.sm,F.rt,aX,bF,bY]
    ·simp only [lW,zz,hq,JK,ea,eo,w1,pk,Vy,S0,pa,po,PI,ct,E_,FW,cx,cl,cz,cr,b1,b2,b3,cn,S1,cm,F.sm,F.rt,aX,bF,bY]
end
theorem ab6:((3:Int)=2)=False:=ad
theorem Y7 {e1 e2 e3 e4 e5 oc:Int}:VU (KW e1 e2 e3 e4 e5 oc):=fun x hx=>by
 unfold KW at hx;split at hx
 ·simp only [anZ] at hx;exact⟨_,_,_,_,_,hx⟩
 ·simp at hx
section
variable {d0 d1:D} (h0:Wd (.sl 3) d0) (U:Wd (.sl 4) d1) (hC:L 450 [enc d0,enc d1]=some [0]) (ok:mB d0 d1) (Np:NoP d1) {q xs:D} {K:Int} (hx:Wd (.sl 9) xs) (hn:0<d1.l.length)
include h0 U hC ok Np hx hn
theorem D1: ∀(j i:Nat) (s k:D) (es:List D),i+j=150->Fr d0 d1 (eu d0) (fk d1) i es s k->VU es->dS 23252 [enc q,enc (dL es),(i:Int),enc d0,enc d1,enc xs,K,enc s,enc k] (·= [1])
 |0,i,s,k,es,hi,F,he=>by
  obtain⟨_,R,_⟩:=F.fr;have hll:=F.ll;have hr:(fN d0 d1 (eu d0) (fk d1) (dL es).l).2.2=(dL es).l.length:=by rw [bD,QU R]
  refine⟨_,QO h0 U hC ok Np hx (e:=dL es) (by rw [bD]; exact he) (by rw [bD]; omega) hr ?_,rfl⟩;omega
 |j+1,i,s,k,es,hi,F,he=>by
  have hll:=F.ll;by_cases dU:i<q.l.length
  ·have c1:(i:Int)<(q.l.length:Int):=J
   have c2:(i:Int)<150:=J
   have c3: ¬(i:Int)<0:=J
   have c4:((es.length:Nat):Int)<3518437208882:=J
   have w:=bP (n:=i) J;have hp:=De (x:=(q.at (i:Int)).n) (n:=(d1.l.length:Int)) J (by have:=U.len; omega);have pr:=wK (x:=(q.at (i:Int)).n) (n:=(d1.l.length:Int)) J;obtain⟨s',k',e1,e2,e3,e4,e5,oc,hL,H⟩:=DZ F.S J h0 U (xG (q.at (i:Int)).n (d1.l.length:Int));have F':=R8 h0 U J F pr.1 pr.2 H;have ih:=D1 j (i+1) s' k' _ J F' (yE he Y7);refine dS.of ?_;rw [v7];by_cases o2:oc=2
   ·subst o2;rw [show KW e1 e2 e3 e4 e5 2= [evD e1 e2 e3 e4 e5] from rfl] at ih;simp only [lW,zz,c1,c2,c3,c4,w,hp,hL,bD];refine .jump ?_;exact ih
   ·by_cases o3:oc=3
    ·subst o3;rw [show KW e1 e2 e3 e4 e5 3= [evD e1 e2 e3 e4 e5] from rfl] at ih;simp only [lW,zz,c1,c2,c3,c4,w,hp,hL,ab6,bD];refine .jump ?_;exact ih
    ·rw [show KW e1 e2 e3 e4 e5 oc= [] from by unfold KW; rw [ah J],amy] at ih;simp only [lW,zz,c1,c2,c3,c4,w,hp,hL,o2,o3];refine .jump ?_;exact ih
  ·obtain⟨_,R,_⟩:=F.fr;have hr:(fN d0 d1 (eu d0) (fk d1) (dL es).l).2.2=(dL es).l.length:=by rw [bD,QU R]
   refine⟨_,QO h0 U hC ok Np hx (e:=dL es) (by rw [bD]; exact he) (by rw [bD]; omega) hr ?_,rfl⟩;omega
theorem Lo: ∀(j i:Nat) (s k:D),i+j=150->Fr d0 d1 (eu d0) (fk d1) i [] s k->dS 23251 [enc q,(i:Int),enc d0,enc d1,enc xs,K,enc s,enc k] (·= [1])
 |0,i,s,k,hi,F=> ⟨_,QP h0 U hC ok Np hx J,rfl⟩
 |j+1,i,s,k,hi,F=>by
  by_cases dU:i<q.l.length
  ·have c1:(i:Int)<(q.l.length:Int):=J
   have c2:(i:Int)<150:=J
   have c3: ¬(i:Int)<0:=J
   have w:=bP (n:=i) J;have hp:=De (x:=(q.at (i:Int)).n) (n:=(d1.l.length:Int)) J (by have:=U.len; omega);have pr:=wK (x:=(q.at (i:Int)).n) (n:=(d1.l.length:Int)) J;obtain⟨s',k',e1,e2,e3,e4,e5,oc,hL,H⟩:=DZ F.S J h0 U (xG (q.at (i:Int)).n (d1.l.length:Int));have F':=R8 h0 U J F pr.1 pr.2 H;rw [aw] at F';refine dS.of ?_;rw [Fx];by_cases o2:oc=2
   ·subst o2;have ih:=D1 h0 U hC ok Np (q:=q) (K:=K) hx hn j (i+1) s' k' _ J F' Y7;rw [show KW e1 e2 e3 e4 e5 2= [evD e1 e2 e3 e4 e5] from rfl] at ih;simp only [rI,zz,c1,c2,c3,w,hp,hL];refine .jump ?_;exact ih
   ·by_cases o3:oc=3
    ·subst o3;have ih:=D1 h0 U hC ok Np (q:=q) (K:=K) hx hn j (i+1) s' k' _ J F' Y7;rw [show KW e1 e2 e3 e4 e5 3= [evD e1 e2 e3 e4 e5] from rfl] at ih;simp only [rI,zz,c1,c2,c3,w,hp,hL,ab6];refine .jump ?_;exact ih
    ·rw [show KW e1 e2 e3 e4 e5 oc= [] from by unfold KW; rw [ah J]] at F';have ih:=Lo j (i+1) s' k' J F';simp only [rI,zz,c1,c2,c3,w,hp,hL,o2,o3];refine .jump ?_;exact ih
  ·exact⟨_,QP h0 U hC ok Np hx J,rfl⟩
end
theorem YY {d0 d1:D} (h0:Wd (.sl 3) d0) (U:Wd (.sl 4) d1) (hC:L 450 [enc d0,enc d1]=some [0]) (ok:mB d0 d1):Fr d0 d1 (eu d0) (fk d1) 0 [] (eu d0) (fk d1):=by have S:=vi h0 U ok;have M:=LO h0 U hC ok;refine⟨S,M,ay _,fk d1,.nil,S,M,fun u hu=>?_⟩;obtain⟨x,R⟩:=M.thr S J h0 U (t:=(u:Int)) J J;exact⟨x,x,0,x.tr,R.hk,R.hk,.zero _,ay _⟩
theorem Og {d0 d1 q xs:D} {K:Int} (h0:Wd (.sl 3) d0) (U:Wd (.sl 4) d1) (hq:Wd (.sl 0) q) (hx:Wd (.sl 9) xs):L 23250 [enc d0,enc d1,enc q,enc xs,K]=some [1]:=by
 have res:dS 23250 [enc d0,enc d1,enc q,enc xs,K] (·= [1]):=by
  obtain⟨ys,hG,b,rfl,hb⟩:=UC (d0:=d0) U;obtain⟨ys,hC,c,rfl,hc,pI⟩:=xg h0 U;obtain⟨ys',hC',c',rfl,_,hP⟩:=FR h0 U;obtain rfl:c=c':=by rw [hC] at hC'; simpa using hC'
  refine dS.of ?_;rw [ZE];by_cases ss:b=0
  ·subst ss;by_cases D_:c=0
   ·subst D_;have ok:=(pI rfl).1;have hB:=Bm U hC ok;by_cases hn:d1.l.length=0
    ·have cn:(d1.l.length:Int)=0:=J
     simp only [DU,zz,hG,hB,cn];exact .out rfl
    ·have cn: ¬(d1.l.length:Int)=0:=J
     simp only [DU,zz,hG,hB,cn];refine .jump ?_;exact Lo h0 U hC ok (aeJ (hP rfl).2) hx J 150 0 _ _ J (YY h0 U hC ok)
   ·have hB:=Hw hC D_;simp only [DU,zz,hG,hB,D_];exact .out rfl
  ·obtain⟨s,k,c2,hB⟩ : ∃s k c2,L 1450 [enc d0,enc d1]=some [s,k,c2]:=by
    by_cases D_:c=0
    ·subst D_;exact⟨_,_,_,Bm U hC (pI rfl).1⟩
    ·exact⟨_,_,_,Hw hC D_⟩
   simp only [DU,zz,hG,hB,ss];exact .out rfl
 obtain⟨ys,h,rfl⟩:=res;exact h
end Go.As.Try
end
section
namespace Go.Proofs.YtopneoeampkonabGreatDoor.fnSystemSound
open Go hiding Stat
open Go.As Go.As.Try Go.Proofs Go.RowKit Go.ChangeShapes Go.WideShapes Go.ChangeAt
set_option maxRecDepth 100000
theorem aaz:s8 Tryz.prog XM 8 25=some [.sl 3,.sl 4]:=aa
theorem aay:s8 Tryz.prog XM 8 26=some [.sl 0]:=aa
theorem aax:s8 Tryz.prog XM 8 29=some [.sl 9,.int .i64]:=aa
theorem FT {H:Type} {enc:TypeId×Value->H} {Z':World} {t:TypeId} {v:Value} {d:DataW H} {p:List MemPlace} {Gy:List CK} (hf:s8 Tryz.prog XM 8 t=some Gy) (h:DataW.Trod enc Tryz.prog Z' 0 (fun _=>true) true t v d p) (hw:(d.weights Tryz.prog t).all (·<=reachBytes)=true) :
 ∃ds,Rs (NF Z') Z'.heap Gy ds v.cells.toList:=by
 obtain⟨fuel,hx⟩:=h;exact I7 X_ fuel t 8 Gy v.cells.toList (d,p) hf hx hw
theorem aia:23250∈S.CT 3:=by
 have h:S.CT 3= [23250]:=aa
 rw [h];simp
theorem j! (H:Type) (enc:TypeId×Value->H) (Z':World) (base:Nat) (args:Array Value) (ds gs:List (DataW H)) (before:List MemPlace)
 (Gu: ∀(j:Nat) t v,Tryz.f3.params[j]?=some t->args[j]?=some v->Value.okWide Tryz.prog Z' .any base t v)
 (hW:DataW.Whole enc Tryz.prog Tryz.f3.params.toList Rows.systemSoundSpec.vars false Z' args.toList ds gs before)
 (iW:(DataW.weightsEach Tryz.prog (Tryz.f3.params.toList++ []) (ds++gs)).all (·<=reachBytes)=true) (yR:Z'.ShapedOpen Tryz.prog) :
 Calls Tryz.prog 3 args Z' fun e W'=> ∃v,e= .returned v/\Rows.systemSoundSpec.post enc Tryz.prog Tryz.f3 false true false false Z' args v W':=by
 have hW':=hW;obtain⟨p,q,hA0,hV,rfl,hfz,zR⟩:=hW;have hA:DataW.TrodAll enc Tryz.prog Z' 0 (fun _=>true) true Tryz.f3.params.toList args.toList ds p:=hA0;rw [Tryz.params3] at hA Gu iW;obtain⟨v0,vs0,d0,ds0,p0,q0,aco,rfl,rfl,h0,r0⟩:=trodAll_cons hA;obtain⟨v1,V9,d1,ds1,p1,q1,rfl,rfl,rfl,U,r1⟩:=trodAll_cons r0;obtain⟨v2,vs2,d2,ds2,p2,q2,rfl,rfl,rfl,Z,r2⟩:=trodAll_cons r1;obtain⟨rfl,rfl,rfl⟩:=trodAll_nil r2;obtain rfl:args= #[v0,v1,v2]:=by cases args; simp_all
 obtain⟨rfl,rfl⟩:=trodVars_none hV;clear hA0;simp only [amy] at hW';have gu: ∀x∈p0++(p1++p2),x.block<Z'.heap.size:=fun x hx=>by simpa using hW'.lt x (by simpa using hx)
 have akO: ∀x∈p0,x.block<Z'.heap.size:=fun x hx=>gu x (aoe _ hx);have akN: ∀x∈p1,x.block<Z'.heap.size:=fun x hx=>gu x (anK _ (aoe _ hx));have akM: ∀x∈p2,x.block<Z'.heap.size:=fun x hx=>gu x (anK _ (anK _ hx))
 have ae4:(d0.weights Tryz.prog 25).all (·<=reachBytes)=true/\(d1.weights Tryz.prog 26).all (·<=reachBytes)=true/\(d2.weights Tryz.prog 29).all (·<=reachBytes)=true:=by have:(DataW.weightsEach Tryz.prog [25,26,29] [d0,d1,d2]).all (·<=reachBytes)=true:=iW;simp only [DataW.weightsEach,anJ,au] at this;exact⟨this.1,this.2.1,this.2.2.1⟩
 obtain⟨es0,R0⟩:=FT aaz h0 ae4.1;obtain⟨es1,R1⟩:=FT aay U ae4.2.1;obtain⟨es2,R2⟩:=FT aax Z ae4.2.2;obtain⟨cs0,rfl,_⟩:=okWide_struct Tryz.underlying25 (Gu 0 25 v0 rfl rfl);have e0:(Value.agg cs0).cells.toList=cs0.toList:=rfl;obtain⟨ad1,im,aa1,rfl⟩:=okWide_slice Tryz.underlying26 (Gu 1 26 v1 rfl rfl);have e1:(Value.slice ad1 im aa1).cells.toList= [.slice ad1 im aa1]:=rfl;obtain⟨cs2,rfl,_⟩:=okWide_struct Tryz.underlying29 (Gu 2 29 v2 rfl rfl);have e2:(Value.agg cs2).cells.toList=cs2.toList:=rfl;rw [e0] at R0;rw [e1] at R1;rw [e2] at R2
 match es0,ak4:cs0.toList,R0 with
 |[x0,x1],[u0,u1],.cons r0_ w0 (.cons r1_ w1 .nil)=>
  obtain rfl:cs0= #[u0,u1]:=by rw [<- Array.toArray_toList (xs:=cs0),ak4]
  match es1,R1 with
  |[x2],.cons r2_ w2 .nil=>
   match es2,ak3:cs2.toList,R2 with
   |[x3,x4],[u3,u4],.cons r3_ w3 (.cons r4_ w4 .nil)=>
    obtain rfl:cs2= #[u3,u4]:=by rw [<- Array.toArray_toList (xs:=cs2),ak3]
    obtain⟨n4,rfl,h4_⟩:=w4.i;have q4:uZ (NF Z') Z'.heap (.int .i64) n4 (u4):=by cases r4_; rfl
    have hL:=(Og (K:=n4) w0 w1 w2 w3);refine (l_ (g:=3) (j:=23250) (e:=(ajN abj 79).ent) aia aa rfl rfl hL yR (vals:=[.agg [u0,u1].toArray,.slice ad1 im aa1,.agg [u3,u4].toArray]) (fl:=[u0,u1,.slice ad1 im aa1,u3,u4]) (.agg _ [u0,u1] rfl (.one _ _ (.agg _ [u3,u4] rfl .nil))) ⟨_,_,_,_,rfl,rfl,AG r0_,_,_,_,_,rfl,rfl,AG r1_,_,_,_,_,rfl,rfl,AG r2_,_,_,_,_,rfl,rfl,AG r3_,_,_,_,_,rfl,rfl,q4,rfl,rfl⟩).mono fun e W' ⟨he,hb⟩=>?_;subst he;exact⟨_,rfl,⟨_,_,_,[],_,[],hW',trodAll_mk1 (shut_bool Tryz.underlying4 _),trodAll_mk3 (Below.trod laidOut aa (of_decide_eq_true aa) h0 hb akO) (Below.trod laidOut aa (of_decide_eq_true aa) U hb akN) (Below.trod laidOut aa (of_decide_eq_true aa) Z hb akM),rfl,hb.frame _,fun h=>by cases h⟩⟩
abbrev P9:Array Value:=#[.agg #[.slice none 0 0,.slice none 0 0],.slice none 0 0,.agg #[.slice none 0 0,.int .i64 0]]
theorem X9 (os:Os):laidMet Tryz.prog Rows.systemSoundRow.laid ((Br os).forCall (fun _ _=>0) ⟨#[],P9,[]⟩).memory:=
 laidMet_of_run' 8 aa aa
theorem reads (os:Os) {H:Type} (enc:TypeId×Value->H): ∃places,DataW.whole enc Tryz.prog ((Br os).forCall (fun _ _=>0) ⟨#[],P9,[]⟩).memory Tryz.f3.params.toList [] false P9.toList 8=some ([.agg [.nil,.nil],.nil,.agg [.nil,.lit (.int .i64 0)]],[],places):=
 ⟨[],aa⟩
set_option maxHeartbeats 400000 in
theorem lifted (os:Os) (started:os.Started) (H:Type) (enc:TypeId×Value->H) (F:Stop.Interp) :
 ReturnsInHanded {} Tryz.checked os 3 .any ((OpenSpec.ofChange Rows.systemSoundSpec).preRow enc Tryz.prog Tryz.f3 Rows.systemSoundRow.domain false Rows.systemSoundRow.laid) (((OpenSpec.ofChange Rows.systemSoundSpec).at F).post enc Tryz.prog Tryz.f3 false true false false):=by
 obtain⟨places,hx⟩:=reads os enc
 refine returnsInHanded_of_row (C:=Tryz.checked) (s:=OpenSpec.ofChange Rows.systemSoundSpec) Try.own started aa Tryz.func3
  (witness_row_at (enc:=enc) (C:=Tryz.checked) false (Br os) P9 rfl aa aa aa
   (OpenSpec.preRow_of_cond 8 hx aa (fun k hk=>by cases hk) aa (X9 os))) ?_
 intro Z' base args ds gs before Gu hW _ _ iW _ yR _;exact j! H enc Z' base args ds gs before Gu hW iW yR
theorem iK {a b:Bool} (U:a=true) (Z:b=true):(a&&b)=true:=by rw [U,Z]; rfl
theorem closed:joinedFacts Tryz.pinned.checked.prog 3 Tryz.f3 (OpenSpec.ofChange Rows.systemSoundSpec).bare Rows.systemSoundRow=true:=(iK (iK (iK (iK (iK (iK (iK (iK (iK (iK (iK (iK (iK (iK (iK (iK (iK (iK (iK (iK (iK (iK (iK (iK (iK (iK (iK (iK (iK (iK (iK aa aa) aa) aa) aa) aa) aa) aa) aa) aa) aa) aa) aa) aa) aa) aa) aa) aa) aa) aa) aa) aa) aa) aa) aa) aa) aa) aa) aa) aa) aa) aa)
theorem said:Rows.SystemSoundSaid:=
 OpenClaim.holds_of_cond 3 Tryz.f3 rfl rfl rfl rfl rfl rfl rfl ⟨rfl,rfl,rfl,rfl,rfl⟩ rfl rfl rfl rfl rfl aa Tryz.func3 closed
  (of_decide_eq_true aa) (by unfold Func.isWrapper; first |(rw [ak (by decide +kernel)]; kernel_rfl)|(rw [ah (by decide +kernel)]; exact⟨rfl,rfl⟩))
  (fun os started H enc _ F=>by rw [OpenClaim.pre_eq_preRow]; exact lifted os started H enc F)
theorem plain (f:FuncId) (fn:Func) (hf:Tryz.pinned.checked.prog.funcNamed "amanuensis/amanuensislaw14.SystemSound" = some f) (vc:Tryz.pinned.checked.prog.funcs[f]?=some fn) :
 false=Tryz.pinned.checked.prog.looks []/\∀(j:Nat) t,fn.params[j]?=some t->Tryz.pinned.checked.prog.wantsStandIn t=false:=by
 obtain rfl:f=3:=Option.some.inj ((show Tryz.prog.funcNamed "amanuensis/amanuensislaw14.SystemSound" = some 3 by kernel_rfl).symm.trans hf) |>.symm;obtain rfl:fn=Tryz.f3:=(Option.some.inj (Tryz.func3.symm.trans vc)).symm;refine⟨aa,fun j t ht=>?_⟩;rw [Tryz.params3] at ht;have hm:=an3 ht;simp only [List.mem_toArray,aF,amw,or_false] at hm;rcases hm with rfl|rfl|rfl
 all_goals exact (by kernel_rfl:Tryz.prog.wantsStandIn _=false)
theorem card:Rows.SystemSoundCardSaid:=
 Claim7.holds_tied_plain_at .later [] _ _ _ _ said (fun _ h=>by cases h) aa (fun _ h=>by cases h) systemSound_row_tie rfl ⟨rfl,rfl⟩ aa rfl plain aa
end Go.Proofs.YtopneoeampkonabGreatDoor.fnSystemSound
end

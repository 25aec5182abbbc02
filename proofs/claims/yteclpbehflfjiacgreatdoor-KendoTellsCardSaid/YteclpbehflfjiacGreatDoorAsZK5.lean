/-
  Proved: the given card of the law KendoTells: whatever the input, the call returns true and each argument reads afterwards as it did. Conditions: those of the given row alone (its listed package-level variables start as the program's text lays them; each string, slice and map that is handed in lies within a process's addresses).
-/
import Derived.Test.YteclpbehflfjiacGreatDoorAsZK4
set_option linter.unusedSectionVars false
set_option linter.unusedVariables false
set_option linter.unusedSimpArgs false
section
namespace Go.As.Try
open Go hiding Stat Spec shape
open Go.As
set_option maxRecDepth 100000
section
variable {s' k':D} {e1 e2 e3 e4 e5:Int}
def bump (c:D) (u n:Int):D:=dL (dg c.l u (.i (if (c.at u).n<n then n else (c.at u).n)))
theorem my (c:D) (u n:Int):(bump c u n).l.length=c.l.length:=by unfold bump; rw [bz,dM]
def wkB (n:Int):List D->D->D
 |[],c=>c
 |x::l,c=>wkB n l (bump c x.n n)
def s_ (o g n:Int):List D->Nat->D->D
 |[],_,c=>c
 |x::l,i,c=>s_ o g n l (i+1) (if (x.V 2).n=25/\(x.V 3).n=o/\(x.V 4).n=g then bump c (i:Int) n else c)
def wkM (s s' k':D) (e2 e3 e4:Int) (c:D) (n:Int):D:=
 if e2=13 then (if 0<e4 then bump c (IntKind.i64.wrap (e4-1)) n else c)
 else if e2=14 then wkB n ((s.at e3).V 4).l c
 else if e2=15 then (if e4<((s'.at e3).V 3).n then s_ e3 e4 n k'.l 0 c else c)
 else c
section
variable {x0 x1 x2 x3 x4 x5 x6 x7 x8 x9 n:Int} {m:Nat}
theorem NN (r:D) (hr: ∀x∈r.l,0<=x.n/\x.n<(m:Int)) (hb:r.l.length<=140737488351232): ∀(j i:Nat) (c:D),i+j=r.l.length->c.l.length=m->
 L 15001 [x0,x1,x2,x3,x4,x5,x6,x7,x8,x9,n,enc r,(r.l.length:Int),(i:Int),enc c]=some [0,x0,x1,x2,x3,x4,x5,x6,x7,x8,x9,n,enc (wkB n (r.l.drop i) c)]
 |0,i,c,hi,hc=>by
  have c1: ¬(i:Int)<(r.l.length:Int):=J
  rw [aN J,bB,Up];simp only [RW,zz,c1,bA,wkB]
 |j+1,i,c,hi,hc=>by
  have cY:i<r.l.length:=J
  have c1:(i:Int)<(r.l.length:Int):=J
  have c2: ¬((i:Int)<0):=J
  have w:=bx (n:=i) J;obtain⟨r0,r1⟩:=hr _ (aq cY);have c3: ¬((r.l[i]).n<0):=J
  have c4:(r.l[i]).n<(c.l.length:Int):=J
  have ih:=NN r hr hb j (i+1) (bump c (r.l[i]).n n) J (by rw [my]; exact hc);rw [aG cY,wkB,bB,Up];unfold bump at ih ⊢;by_cases hz:(c.at (r.l[i]).n).n<n
  ·simp only [ag hz] at ih ⊢;exact ahB
  ·simp only [af hz] at ih ⊢;exact ahB
theorem vY (k:D) (hb:k.l.length<=140737488351232) (hk:k.l.length<=m): ∀(j i:Nat) (c:D),i+j=k.l.length->c.l.length=m->
 L 15002 [x0,x1,x2,enc k,x4,x5,x6,x7,x8,x9,n,(k.l.length:Int),(i:Int),enc c]=some [0,x0,x1,x2,enc k,x4,x5,x6,x7,x8,x9,n,enc (s_ x6 x7 n (k.l.drop i) i c)]
 |0,i,c,hi,hc=>by
  have c1: ¬(i:Int)<(k.l.length:Int):=J
  rw [aN J,bB,Uo];simp only [Cm,zz,c1,bA,s_]
 |j+1,i,c,hi,hc=>by
  have cY:i<k.l.length:=J
  have c1:(i:Int)<(k.l.length:Int):=J
  have c2: ¬((i:Int)<0):=J
  have c4:(i:Int)<(c.l.length:Int):=J
  have w:=bx (n:=i) J;rw [aG cY,s_,bB,Uo];by_cases Z:((k.l[i]).V 2).n=25
  ·by_cases h3:((k.l[i]).V 3).n=x6
   ·by_cases h4:((k.l[i]).V 4).n=x7
    ·have ih:=vY k hb hk j (i+1) (bump c (i:Int) n) J (by rw [my]; exact hc);rw [ag ⟨Z,h3,h4⟩];unfold bump at ih ⊢;by_cases hz:(c.at (i:Int)).n<n
     ·simp only [ag hz] at ih ⊢;exact ahN
     ·simp only [af hz] at ih ⊢;exact ahN
    ·have ih:=vY k hb hk j (i+1) c J hc;rw [af (fun h=>h4 h.2.2)];simp only [Cm,zz,c1,c2,bF cY,Z,h3,af h4,w,bI];exact ih
   ·have ih:=vY k hb hk j (i+1) c J hc;rw [af (fun h=>h3 h.2.1)];simp only [Cm,zz,c1,c2,bF cY,Z,af h3,w,bI];exact ih
  ·have ih:=vY k hb hk j (i+1) c J hc;rw [af (fun h=>Z h.1)];simp only [Cm,zz,c1,c2,bF cY,af Z,w,bI];exact ih
end
structure M9 (s s' k':D) (e2 e3 e4:Int) (m:Nat):Prop where
 sig:e2=13->0<e4->0<=IntKind.i64.wrap (e4-1)/\IntKind.i64.wrap (e4-1)<(m:Int)
 brd:e2=14->0<=e3/\e3<(s.l.length:Int)/\(∀x∈((s.at e3).V 4).l,0<=x.n/\x.n<(m:Int))/\((s.at e3).V 4).l.length<=140737488351232
 arr:e2=15->0<=e3/\e3<(s'.l.length:Int)
 lk:k'.l.length<=m
 lD:k'.l.length<=140737488351232
theorem q? {s c:D} {x1 n:Int} (Z!:M9 s s' k' e2 e3 e4 c.l.length):L 15000 [enc s,x1,enc s',enc k',e1,e2,e3,e4,e5,enc c,n]=some [0,enc s,x1,enc s',enc k',e1,e2,e3,e4,e5,enc c,n,enc (wkM s s' k' e2 e3 e4 c n)]:=by
 rw [bB,adv];unfold wkM;by_cases h3:e2=13
 ·by_cases hp:0<e4
  ·obtain⟨w0,w1⟩:=Z!.sig h3 hp;have c2: ¬(IntKind.i64.wrap (e4-1)<0):=J
   unfold bump;by_cases hz:(c.at (IntKind.i64.wrap (e4-1))).n<n
   ·simp only [wi,zz,h3,hp,c2,w1,hz,bA,if_true]
   ·simp only [wi,zz,h3,hp,c2,w1,hz,bA,if_true,if_false]
  ·simp only [wi,zz,h3,hp,bA,if_true,if_false]
 ·by_cases h4:e2=14
  ·obtain⟨b0,b1,b2,b3⟩:=Z!.brd h4;have c2: ¬(e3<0):=J
   have h:=NN (x0:=enc s) (x1:=x1) (x2:=enc s') (x3:=enc k') (x4:=e1) (x5:=e2) (x6:=e3) (x7:=e4) (x8:=e5) (x9:=enc c) (n:=n) ((s.at e3).V 4) b2 b3 ((s.at e3).V 4).l.length 0 c J rfl;rw [awQ,bj,h4] at h;simp only [wi,zz,h4,b1,c2,bI,if_true,if_false,Int.reduceEq];exact h
  ·by_cases h5:e2=15
   ·obtain⟨b0,b1⟩:=Z!.arr h5;have c2: ¬(e3<0):=J
    by_cases hg:e4<((s'.at e3).V 3).n
    ·have h:=vY (x0:=enc s) (x1:=x1) (x2:=enc s') (x4:=e1) (x5:=e2) (x6:=e3) (x7:=e4) (x8:=e5) (x9:=enc c) (n:=n) k' Z!.lD Z!.lk k'.l.length 0 c J rfl;rw [awQ,bj,h5] at h;simp only [wi,zz,h5,b1,c2,hg,bI,if_true,if_false,Int.reduceEq];exact h
    ·simp only [wi,zz,h5,b1,c2,hg,bA,if_true,if_false,Int.reduceEq]
   ·simp only [wi,zz,h3,h4,h5,bA,if_false]
abbrev tick (c:D) (t:Int):D:=dL (dg c.l t (.i ((c.at t).n+1)))
theorem Yx (d1:D) (t:Int) (x:KT): ∃a b c d e,fS d1 t x= [a,b,c,d,e]/\(e=0\/e=1):=by
 unfold fS;split
 ·split
  ·exact⟨_,_,_,_,_,rfl,.inl rfl⟩
  ·split
   ·exact j?
   ·split
    ·exact j?
    ·exact⟨_,_,_,_,_,rfl,.inl rfl⟩
 ·exact j?
section
variable {d0 d1 s k:D} {n:Nat} (S:Sx s k n) (hn:n<17592186043904) (h0:Wd (.sl 3) d0) (U:Wd (.sl 4) d1)
include S hn h0 U
theorem anN (M:MR d0 d1 s k) {i:Int} (i0:0<=i) (i1:i<(s.l.length:Int)):(∀x∈((s.at i).V 4).l,0<=x.n/\x.n<(d1.l.length:Int))/\((s.at i).V 4).l.length<=140737488351232:=by obtain⟨o,c,dn,g,r,v,T,hr,_⟩:=vz S.g i0 i1;have P:=FP h0 U S.g J M.1 i0 i1 T;rw [T.is];simp only [zg,ax];exact⟨P.2.1.1,J⟩
theorem arw (M:MR d0 d1 s k) {t:Int} {s' k':D} {e1 e2 e3 e4 e5 oc:Int} (H:El d0 d1 s k t n s' k' e1 e2 e3 e4 e5 oc):M9 s s' k' e2 e3 e4 d1.l.length:=by
 have hx:=N2 S hn h0 U H;have hlk:k.l.length=d1.l.length:=M.2.1;have GO:=U.len;have hle:=(qz h0 U S.g J M.1).2.2;refine⟨fun h13 hp=>?_,fun h14=>?_,fun h15=>?_,J,J⟩
 all_goals
  cases H with
  |no h=>omega
  |over x R ho=>omega
  |loc x R ho ha=>omega
  |tri x R ho op obj arg tr hq k1 k2 k3 hU s' e1 e2 e3 e4 e5 oc A T=>
   cases T with
   |no=>omega
   |wM A'=>omega
   |res A' o c dn g r v o' c' EE g' r' v' m a oc T' h=>
    have a0:=A'.o0;have a1:=A'.o1;obtain⟨ig,hrl⟩:=anN S hn h0 U M a0 a1
    first
     |(subst h13
       have e:act (Mx d0 e3) (Mo d0 s e3) t 13 arg tr o c dn g r v=if (r.l.length:Int)=0 then .res o c dn g r v none 0 2 else .res o c dn g (fu r (r.l.drop 1)) v none (IntKind.i64.wrap ((r.at 0).n+1)) 2:=by simp [act]
       rw [e] at h;rw [T'.is] at ig;simp only [zg,ax] at ig;have rW:=(qz h0 U S.g J M.1).2.1.2.1;by_cases hz:(r.l.length:Int)=0
       ·rw [ag hz] at h;simp only [Act.res.injEq] at h;omega
       ·rw [af hz] at h;simp only [Act.res.injEq] at h;have Z:=h.2.2.2.2.2.2.2.1;have hm:r.at 0∈r.l:=SP (Int.le_refl 0) J;obtain⟨q0,q1⟩:=ig _ hm;rw [fg J J] at Z;rw [<- Z,fg J J]
        omega)
     |exact⟨a0,a1,ig,hrl⟩
     |(have:=hx.2.1
       exact⟨a0,J⟩)
end
end
section
variable {c s s' k':D} {v n e2 e3 e4:Int}
abbrev mx (a n:Int):Int:=if a<n then n else a
theorem BX (v0:0<=v) (n:Int) (u:Nat) (hu:u<c.l.length):(bump c v n).l[u]?=if v=(u:Int) then some (.i (mx (c.at (u:Int)).n n)) else c.l[u]?:=by
 obtain⟨i,rfl⟩ : ∃i:Nat,v=(i:Int):=⟨v.toNat,J⟩;unfold bump;rw [bz,Ct];by_cases h:i=u
 ·subst h;rw [ayF hu];exact (ag rfl).symm
 ·rw [List.getElem?_set_ne h];exact (af J).symm
theorem UD (v0:0<=v) (n:Int) (u:Nat) (hu:u<c.l.length):((bump c v n).at (u:Int)).n=if v=(u:Int) then mx (c.at (u:Int)).n n else (c.at (u:Int)).n:=by
 rw [eE,BX v0 n u hu];split
 ·rfl
 ·rw [eE]
theorem r? (n:Int): ∀(l:List D) (c:D) (u:Nat),u<c.l.length->(∀x∈l,0<=x.n)->(wkB n l c).l[u]?=if (u:Int)∈l.map D.n then some (.i (mx (c.at (u:Int)).n n)) else c.l[u]?
 |[],c,u,hu,_=>by rw [af ad];rfl
 |x::l,c,u,hu,hx=>by
  have x0:=hx x awO;have ih:=r? n l (bump c x.n n) u (by rw [my]; exact hu) fun y hy=>hx y (aw3 _ hy);rw [BX x0 n u hu,UD x0 n u hu] at ih;rw [wkB,ih,aC]
  have e:mx (mx (c.at (u:Int)).n n) n=mx (c.at (u:Int)).n n:=by unfold mx;by_cases q:(c.at (u:Int)).n<n<;>simp [q]
  have hm:(u:Int)∈x.n::l.map D.n↔(u:Int)=x.n\/(u:Int)∈l.map D.n:=aF;by_cases U:x.n=(u:Int)
  ·have Iw:(u:Int)=x.n:=U.symm;by_cases Z:(u:Int)∈l.map D.n
   ·rw [<- Iw] at hm; simp only [U,Z,if_true,e,awO]
   ·simp only [U,Z,if_true,if_false,awO]
  ·have Iw: ¬(u:Int)=x.n:=fun h=>U h.symm;by_cases Z:(u:Int)∈l.map D.n
   ·simp only [hm,U,Z,if_true,if_false,or_true]
   ·simp only [hm,U,Iw,Z,if_false,or_false]
theorem RB (o g n:Int): ∀(l:List D) (i:Nat) (c:D) (u:Nat),u<c.l.length->(s_ o g n l i c).l[u]?=if i<=u/\∃x,l[u-i]?=some x/\(x.V 2).n=25/\(x.V 3).n=o/\(x.V 4).n=g then some (.i (mx (c.at (u:Int)).n n)) else c.l[u]?
 |[],i,c,u,hu=>by rw [af ad];rfl
 |x::l,i,c,u,hu=>by
  have i0:(0:Int)<=(i:Int):=Int.natCast_nonneg i;rw [s_];by_cases hp:(x.V 2).n=25/\(x.V 3).n=o/\(x.V 4).n=g
  ·rw [ag hp,RB o g n l (i+1) _ u (by rw [my]; exact hu),BX i0 n u hu,UD i0 n u hu];by_cases U:i=u
   ·subst U;rw [af J,ag rfl,ag ⟨au _,x,ad,hp⟩]
   ·rw [af (by omega: ¬(i:Int)=(u:Int)),af (by omega: ¬(i:Int)=(u:Int))];exact aqo
  ·rw [af hp,RB o g n l (i+1) c u hu];by_cases U:i=u
   ·subst U;rw [af J,af];rintro⟨_,y,hy,h⟩;rw [Nat.sub_self,az] at hy;obtain rfl:=Option.some.inj hy;exact hp h
   ·exact aqo
def Rf (s s' k':D) (e2 e3 e4:Int) (u:Nat):Prop:=
 e2=13/\e4=(u:Int)+1\/e2=14/\(u:Int)∈((s.at e3).V 4).l.map D.n\/e2=15/\e4<((s'.at e3).V 3).n/\((k'.at (u:Int)).V 2).n=25/\((k'.at (u:Int)).V 3).n=e3/\((k'.at (u:Int)).V 4).n=e4
open Classical in
theorem anu (Z!:M9 s s' k' e2 e3 e4 c.l.length) (h4:fD .i64 e4) (hk:k'.l.length=c.l.length) (u:Nat) (hu:u<c.l.length):(wkM s s' k' e2 e3 e4 c n).l[u]?=if Rf s s' k' e2 e3 e4 u then some (.i (mx (c.at (u:Int)).n n)) else c.l[u]?:=by
 unfold wkM Rf;by_cases a:e2=13
 ·rw [ag a];by_cases hp:0<e4
  ·obtain⟨w0,w1⟩:=Z!.sig a hp;have hw:IntKind.i64.wrap (e4-1)=e4-1:=fg J (by have:=h4.2; omega);rw [ag hp,hw,BX J n u hu];by_cases h:e4-1=(u:Int)
   ·rw [ag h,ag (.inl ⟨a,J⟩)]
   ·rw [af h,af J]
  ·rw [af hp,af J]
 ·rw [af a];by_cases b:e2=14
  ·rw [ag b,r? n _ c u hu fun x hx=>((Z!.brd b).2.2.1 x hx).1];by_cases h:(u:Int)∈((s.at e3).V 4).l.map D.n
   ·rw [ag h,ag (.inr (.inl ⟨b,h⟩))]
   ·rw [af h,af];rintro (h'|h'|h')
    ·exact a h'.1
    ·exact h h'.2
    ·omega
  ·rw [af b];by_cases d:e2=15
   ·rw [ag d];by_cases hg:e4<((s'.at e3).V 3).n
    ·rw [ag hg,RB _ _ n _ 0 c u hu];have fU:k'.at (u:Int)=k'.l[u]'J:=bF J;have hgt:k'.l[u]?=some (k'.l[u]'J):=aM J;rw [fU,ax9,hgt];by_cases h:((k'.l[u]'J).V 2).n=25/\((k'.l[u]'J).V 3).n=e3/\((k'.l[u]'J).V 4).n=e4
     ·rw [ag ⟨aw1 _,_,rfl,h⟩,ag (.inr (.inr ⟨d,hg,h⟩))]
     ·rw [af,af]
      ·rintro (h'|h'|h')
       ·exact a h'.1
       ·exact b h'.1
       ·exact h h'.2.2
      ·rintro⟨_,x,hx,h'⟩;obtain rfl:=Option.some.inj hx;exact h h'
    ·rw [af hg,af];rintro (h'|h'|h')
     ·exact a h'.1
     ·exact b h'.1
     ·exact hg h'.2.1
   ·rw [af d,af];rintro (h'|h'|h')
    ·exact a h'.1
    ·exact b h'.1
    ·exact d h'.1
theorem U8 (h:Wd (.sl 0) c) (v0:0<=v) (hn:fD .i64 n) (hp:0<c.l.length):Wd (.sl 0) (dL (dg c.l v (.i n))):=by
 obtain⟨i,rfl⟩ : ∃i:Nat,v=(i:Int):=⟨v.toNat,J⟩;rw [Ct];refine ug (fun y hy=>?_) (fun e=>?_) ?_
 ·rcases ayE hy with hy|rfl
  ·obtain⟨k,hk,rfl⟩:=axi hy;have:=U9 h k;rw [bF hk] at this;exact⟨_,KH h _ (aq hk),this⟩
  ·exact⟨_,rfl,hn⟩
 ·have:=congrArg List.length e;rw [axx] at this;simp only [bd] at this;omega
 ·rw [axx];have:=h.room;have e:l4 0=8:=rfl;rw [e] at this;omega
theorem KI (h:Wd (.sl 0) c) (v0:0<=v) (v1:v<(c.l.length:Int)) (hn:fD .i64 n):Wd (.sl 0) (bump c v n):=by
 unfold bump;refine U8 h v0 ?_ J;obtain⟨i,rfl⟩ : ∃i:Nat,v=(i:Int):=⟨v.toNat,J⟩;split
 ·exact hn
 ·exact U9 h i
theorem r! {n:Int} (hn:fD .i64 n): ∀(l:List D) (c:D),Wd (.sl 0) c->(∀x∈l,0<=x.n/\x.n<(c.l.length:Int))->Wd (.sl 0) (wkB n l c)
 |[],_,h,_=>h
 |x::l,c,h,hx=>by have hx0:=hx x awO;exact r! hn l _ (KI h hx0.1 hx0.2 hn) fun y hy=>by rw [my]; exact hx y (aw3 _ hy)
theorem RA {o g n:Int} (hn:fD .i64 n): ∀(l:List D) (i:Nat) (c:D),Wd (.sl 0) c->i+l.length<=c.l.length->Wd (.sl 0) (s_ o g n l i c)
 |[],_,_,h,_=>h
 |x::l,i,c,h,hi=>by
  simp only [aT] at hi;rw [s_];split
  ·exact RA hn l (i+1) _ (KI h J J hn) (by rw [my]; omega)
  ·exact RA hn l (i+1) c h J
theorem ant (Z!:M9 s s' k' e2 e3 e4 c.l.length) (h:Wd (.sl 0) c) (hn:fD .i64 n):Wd (.sl 0) (wkM s s' k' e2 e3 e4 c n):=by
 unfold wkM;split
 ·rename_i a;split
  ·rename_i hp;exact KI h (Z!.sig a hp).1 (Z!.sig a hp).2 hn
  ·exact h
 ·split
  ·rename_i b;exact r! hn _ c h (Z!.brd b).2.2.1
  ·split
   ·split
    ·exact RA hn _ 0 c h (by have:=Z!.lk; omega)
    ·exact h
   ·exact h
theorem U6 (n:Int): ∀(l:List D) (c:D),(wkB n l c).l.length=c.l.length
 |[],_=>rfl
 |x::l,c=>by rw [wkB,U6 n l,my]
theorem U7 (o g n:Int): ∀(l:List D) (i:Nat) (c:D),(s_ o g n l i c).l.length=c.l.length
 |[],_,_=>rfl
 |x::l,i,c=>by
  rw [s_,U7 o g n l];split
  ·rw [my]
  ·rfl
theorem U5 (s s' k' c:D) (e2 e3 e4 n:Int):(wkM s s' k' e2 e3 e4 c n).l.length=c.l.length:=by
 unfold wkM
 repeat' split
 all_goals first |rfl|exact my _ _ _|exact U6 _ _ _|exact U7 _ _ _ _ _ _
end
section
variable {w:Nat->Prop}
def Wks (w:Nat->Prop) (n:Int) (m i:Nat) (c c2:D):Prop:=(c2.l.length=m/\Wd (.sl 0) c2)/\∀u:Nat,u<m->(i<=u/\w u->c2.l[u]?=some (.i (mx (c.at (u:Int)).n n)))/\(¬(i<=u/\w u)->c2.l[u]?=c.l[u]?)
theorem Wks.no {n:Int} {m i:Nat} {c c2:D} (h:Wks w n m (i+1) c c2) (hw: ¬w i):Wks w n m i c c2:=by refine⟨h.1,fun u hu=> ⟨fun q=>(h.2 u hu).1 ⟨?_,q.2⟩,fun q=>(h.2 u hu).2 fun z=>q ⟨J,z.2⟩⟩⟩;have:u≠i:=fun e=>hw (e▸q.2);omega
theorem Wks.yes {n:Int} {m i:Nat} {c c2:D} (hm:c.l.length=m) (hi:i<m) (h:Wks w n m (i+1) (bump c (i:Int) n) c2) (hw:w i):Wks w n m i c c2:=by
 have i0:(0:Int)<=(i:Int):=Int.natCast_nonneg i;refine⟨h.1,fun u hu=>?_⟩;obtain⟨q1,q2⟩:=h.2 u hu;rw [UD i0 n u J] at q1;rw [BX i0 n u J] at q2;by_cases hui:i=u
 ·subst hui;rw [ag rfl] at q2;exact⟨fun _=>q2 fun z=>by omega,fun z=>absurd ⟨au _,hw⟩ z⟩
 ·rw [af J] at q1 q2;exact⟨fun z=>q1 ⟨J,z.2⟩,fun z=>q2 fun y=>z ⟨J,y.2⟩⟩
theorem Wks.of {n:Int} {m i:Nat} {c:D} (hm:c.l.length=m) (hw:Wd (.sl 0) c) (hi:m<=i):Wks w n m i c c:=⟨⟨hm,hw⟩,fun u hu=> ⟨fun q=>by omega,fun _=>rfl⟩⟩
section
variable {d0 d1 s k c b kk:D} {n oc e1 e2 e3 e4 e5:Int} {m:Nat} (V:d1.l.length=m) (hm:m<=16) (Z!:M9 s b kk e2 e3 e4 m) (hk:kk.l.length=m)
include V hm Z! hk
theorem Jf (hb:e2=14) (r:D) (hr:r.l.length<=140737488351232) (cc:D) (hc:cc.l.length=m) (i:Nat) (hi:i<m) {p:List Int->Prop} (h:bK 23051 [oc,enc (bump cc (i:Int) n),n,((i+1:Nat):Int),enc d0,enc d1,enc s,enc k,enc c,enc b,enc kk,e1,e2,e3,e4,e5] p) :
 ∀(z j:Nat),j+z=r.l.length->bK 23053 [oc,enc cc,n,(i:Int),enc r,(j:Int),enc d0,enc d1,enc s,enc k,enc c,enc b,enc kk,e1,e2,e3,e4,e5] p
 |0,j,hj=>by
  have c1: ¬(j:Int)<(r.l.length:Int):=J
  have c2: ¬((i:Int)<0):=J
  have c4:(i:Int)<(cc.l.length:Int):=J
  have w:=bx (n:=i) J;subst hb;refine bK.of ?_;rw [T7];unfold bump at h;by_cases hz:(cc.at (i:Int)).n<n
  ·simp only [ag hz] at h;exact ahj
  ·simp only [af hz] at h;exact ahj
 |z+1,j,hj=>by
  have c1:(j:Int)<(r.l.length:Int):=J
  have w:=bx (n:=j) J;have ih:=Jf hb r hr cc hc i hi h z (j+1) J;refine bK.of ?_;rw [T7];simp only [RF,zz,c1,w];exact .jump ih
theorem FR (hb:e2=14) (r:D) (hr:r.l.length<=140737488351232) (cc:D) (hc:cc.l.length=m) (i:Nat) (hi:i<m) {p:List Int->Prop}: ∀(z j:Nat),j+z=r.l.length->
 ((i:Int)∈(r.l.drop j).map D.n->bK 23051 [oc,enc (bump cc (i:Int) n),n,((i+1:Nat):Int),enc d0,enc d1,enc s,enc k,enc c,enc b,enc kk,e1,e2,e3,e4,e5] p)->
 ((i:Int)∉(r.l.drop j).map D.n->bK 23051 [oc,enc cc,n,((i+1:Nat):Int),enc d0,enc d1,enc s,enc k,enc c,enc b,enc kk,e1,e2,e3,e4,e5] p)->
 bK 23052 [oc,enc cc,n,(i:Int),enc r,(j:Int),enc d0,enc d1,enc s,enc k,enc c,enc b,enc kk,e1,e2,e3,e4,e5] p
 |0,j,hj,hy,sX=>by
  have c1: ¬(j:Int)<(r.l.length:Int):=J
  have c2: ¬((i:Int)<0):=J
  have w:=bx (n:=i) J;rw [aN J] at sX;have h:=sX ad;subst hb;refine bK.of ?_;rw [T8];simp only [RG,zz,c1,w,Int.reduceEq];exact .jump h
 |z+1,j,hj,hy,sX=>by
  have hjl:j<r.l.length:=J
  have c1:(j:Int)<(r.l.length:Int):=J
  have c2: ¬((j:Int)<0):=J
  have w:=bx (n:=j) J;rw [aG hjl,aC] at hy sX;refine bK.of ?_;rw [T8];simp only [RG,zz,c1,c2,w,bF hjl];refine .ite (fun h=> .jump (Jf V hm Z! hk hb r hr cc hc i hi (hy (by rw [h]; exact awO)) z (j+1) J)) fun h=> .jump (FR hb r hr cc hc i hi z (j+1) J (fun q=>hy (aw3 _ q)) fun q=>sX fun y=>?_);rcases aF.1 y with y|y
  ·exact h y.symm
  ·exact q y
theorem Ce (YT:fD .i64 n): ∀(z i:Nat) (cc:D),i+z=m->cc.l.length=m->Wd (.sl 0) cc->bK 23051 [oc,enc cc,n,(i:Int),enc d0,enc d1,enc s,enc k,enc c,enc b,enc kk,e1,e2,e3,e4,e5] (fun ys=> ∃c2,ys= [enc b,enc kk,enc c2,e1,e2,e3,e4,e5,oc,0]/\Wks (Rf s b kk e2 e3 e4) n m i cc c2)
 |0,i,cc,hi,hc,hcw=>by
  have c1: ¬(i:Int)<(d1.l.length:Int):=J
  refine bK.of ?_;rw [T9];simp only [wc,zz,c1];exact .out ⟨cc,rfl,.of hc hcw J⟩
 |z+1,i,cc,hi,hc,hcw=>by
  have him:i<m:=J
  have c1:(i:Int)<(d1.l.length:Int):=J
  have c2: ¬((i:Int)<0):=J
  have c3:(i:Int)<(kk.l.length:Int):=J
  have c4:(i:Int)<(cc.l.length:Int):=J
  have w:=bx (n:=i) J;have ihn:=Ce YT z (i+1) cc J hc hcw;have ihy:=Ce YT z (i+1) (bump cc (i:Int) n) J (by rw [my]; exact hc) (KI hcw J J YT)
  have no: ¬Rf s b kk e2 e3 e4 i->bK 23051 [oc,enc cc,n,((i+1:Nat):Int),enc d0,enc d1,enc s,enc k,enc c,enc b,enc kk,e1,e2,e3,e4,e5] (fun ys=> ∃c2,ys= [enc b,enc kk,enc c2,e1,e2,e3,e4,e5,oc,0]/\Wks (Rf s b kk e2 e3 e4) n m i cc c2):=fun h=>by obtain⟨ys,hL,c2,rfl,q⟩:=ihn;exact⟨_,hL,c2,rfl,q.no h⟩
  have yes:Rf s b kk e2 e3 e4 i->bK 23051 [oc,enc (bump cc (i:Int) n),n,((i+1:Nat):Int),enc d0,enc d1,enc s,enc k,enc c,enc b,enc kk,e1,e2,e3,e4,e5] (fun ys=> ∃c2,ys= [enc b,enc kk,enc c2,e1,e2,e3,e4,e5,oc,0]/\Wks (Rf s b kk e2 e3 e4) n m i cc c2):=fun h=>by obtain⟨ys,hL,c2,rfl,q⟩:=ihy;exact⟨_,hL,c2,rfl,q.yes hc him h⟩
  clear ihn ihy;refine bK.of ?_;rw [T9];by_cases h3:e2=13
  ·subst h3;by_cases h4:e4=(i:Int)+1
   ·have yes:=yes (.inl ⟨rfl,h4⟩);unfold bump at yes;have w':((i+1:Nat):Int)=(i:Int)+1:=J
    by_cases hz:(cc.at (i:Int)).n<n
    ·simp only [ag hz] at yes;simp only [wc,zz,c1,c2,c4,w,h4,hz,w',if_true];rw [w',h4] at yes;exact .jump yes
    ·simp only [af hz] at yes;simp only [wc,zz,c1,c2,c4,w,h4,hz,w',if_true,if_false];rw [w',h4] at yes;exact .jump yes
   ·have no:=no (by unfold Rf; omega);have h4': ¬e4=((i+1:Nat):Int):=J
    simp only [wc,zz,c1,w,h4',if_false];exact .jump no
  ·by_cases h14:e2=14
   ·obtain⟨b0,b1,b2,b3⟩:=Z!.brd h14;have c5: ¬(e3<0):=J
    have Y:=FR V hm Z! hk (oc:=oc) (n:=n) (d0:=d0) (k:=k) (c:=c) (e1:=e1) (e5:=e5) h14 ((s.at e3).V 4) b3 cc hc i him ((s.at e3).V 4).l.length 0 J (fun q=>yes (.inr (.inl ⟨h14,by rwa [awQ] at q⟩))) (fun q=>no (by
     unfold Rf;rw [awQ] at q;rintro (h'|h'|h')
     ·omega
     ·exact q h'.2
     ·omega))
    rw [bj] at Y;subst h14;simp only [wc,zz,c1,b1,c5,w,Int.reduceEq];exact .jump Y
   ·by_cases h15:e2=15
    ·obtain⟨b0,b1⟩:=Z!.arr h15;have c5: ¬(e3<0):=J
     subst h15
     have hw:Rf s b kk 15 e3 e4 i↔e4<((b.at e3).V 3).n/\((kk.at (i:Int)).V 2).n=25/\((kk.at (i:Int)).V 3).n=e3/\((kk.at (i:Int)).V 4).n=e4:=by unfold Rf;omega
     rw [hw] at yes no;unfold bump at yes;simp only [wc,zz,c1,c2,c3,c4,b1,c5,w,Int.reduceEq];by_cases hz:(cc.at (i:Int)).n<n
     ·simp only [ag hz] at yes;simp only [hz,if_true];exact ain
     ·simp only [af hz] at yes;simp only [hz,if_false];exact ain
    ·have no:=no (by unfold Rf; omega);simp only [wc,zz,c1,w,h3,h14,h15,if_false];exact .jump no
end
end
section
variable {j n:Nat}
theorem Inv.one {d0 d1 s k:D} (h:Inv j d0 d1 s k): ∃n,Sw s k n/\n<17592186044000:=by obtain⟨n,S,hn,_⟩:=h;exact⟨n,S,hn⟩
structure Eqv (s k c s' k' c':D):Prop where
 s:cS s=cS s'
 k:iQ k=iQ k'
 c:c.l=c'.l
theorem P8 {c c':D} (h:c.l=c'.l) (z:Int):c.at z=c'.at z:=by
 unfold D.at
 rw [h]
theorem an4 (d:D):(nE d).l=d.l:=by
 unfold nE;split
 ·rename_i h;rw [aw4.1 h];rfl
 ·rfl
theorem alC (s:D):cS (nE s)=cS s:=by unfold cS;rw [an4]
theorem aem (k:D):iQ (nE k)=iQ k:=by unfold iQ;rw [an4]
theorem aiY {t:Nat} {d:D} (h:Wd (.sl t) d):Wd (.sl t) (nE d):=by
 unfold nE;split
 ·exact .nil t
 ·exact h
theorem ajV {s k:D} (S:Sw s k n):Sw (nE s) (nE k) n:=⟨⟨aiY S.g.wd,fun x hx=>S.g.rows x (by rwa [an4] at hx)⟩,aiY S.wk⟩
section
variable {d0 d1 s k c s' k' c':D} (h0:Wd (.sl 3) d0) (U:Wd (.sl 4) d1)
include h0 U
theorem YC {m:Nat} (S:Sw s k n) (S':Sw s' k' m) (hn:n<17592186044000) (hm:m<17592186044000) (hs:cS s=cS s') (hk:iQ k=iQ k'):MR d0 d1 s k↔MR d0 d1 s' k':=by rw [<- SO h0 U S hn,<- SO h0 U S' hm,hs,hk]
theorem aop (Z?:Inv (j+1) d0 d1 s k):Inv j d0 d1 (nE s) (nE k):=by obtain⟨n,S,hn,hm⟩:=Z?;exact⟨n,ajV S,hn,fun M=>by have:=hm ((YC h0 U (ajV S) S hn hn (alC s) (aem k)).1 M); omega⟩
theorem aoq (Z?:Inv (j+1) d0 d1 s k):Inv j d0 d1 (cS s) (iQ k):=by obtain⟨n,S,hn,hm⟩:=Z?;exact⟨n,(rI S hn).2.sw,hn,fun M=>by have:=hm ((SO h0 U S hn).1 M); omega⟩
omit h0 U in
theorem af1 (hMR:MR d0 d1 s k↔MR d0 d1 s' k') (hc:c.l=c'.l):KR d0 d1 s k c↔KR d0 d1 s' k' c':=by unfold KR;rw [hMR,hc];simp only [P8 hc]
end
end
theorem ER {s s':D} (h:xx s s') (z:Int):ZX (s.at z) (s'.at z):=by
 by_cases hz:0<=z
 ·obtain⟨i,rfl⟩ : ∃i:Nat,z=(i:Int):=⟨z.toNat,J⟩;exact h.vP i
 ·have e: ∀(s:D),s.at z=s.at ((0:Nat):Int):=fun s=>by
   unfold D.at
   grind
  rw [e,e s'];exact h.vP 0
theorem aoh {x y:KT} (h:x.d=y.d):x=y:=by cases x;cases y;simp only [KT.d,ee,D.p.injEq,D.i.injEq,and_true] at h;obtain⟨rfl,rfl,rfl,rfl,rfl,rfl⟩:=h;rfl
section
variable {d0 d1 s k c s' k' c':D} {n m:Nat} {t:Int} (h0:Wd (.sl 3) d0) (U:Wd (.sl 4) d1) (S:Sw s k n) (S':Sw s' k' m) (hn:n<17592186044000) (hm:m<17592186044000) (E:Eqv s k c s' k' c')
include h0 U S S' hn hm E
theorem VB (M:MR d0 d1 s k) (t0:0<=t) (t1:t<(d1.l.length:Int)): ∃x x',Rs d0 d1 s k t x/\Rs d0 d1 s' k' t x'/\nX x=nX x'/\zZ s' t x'=zZ s t x/\s.l.length=d0.l.length/\s'.l.length=d0.l.length:=by
 have M':=(YC h0 U S S' hn hm E.s E.k).1 M;have hq:=MW S S' hn hm E.s;rcases Ll (t:=t) S hn h0 U with z|⟨x,R⟩
 ·exact absurd ⟨t0,t1,M⟩ ((zt h0 U S hn t).1 z)
 ·rcases Ll (t:=t) S' hm h0 U with z|⟨x',R'⟩
  ·exact absurd ⟨t0,t1,M'⟩ ((zt h0 U S' hm t).1 z)
  ·have hx:nX x=nX x':=by
    have e1:=HL R.r.t0 R.ht;have e2:=HL R'.r.t0 R'.ht;rw [R.hk,Zl] at e1;rw [R'.hk,Zl,<- E.k] at e2;exact aoh (e1.symm.trans e2)
   have ew:(nX x).w=(nX x').w:=congrArg KT.w hx;have eo:(nX x).o=(nX x').o:=congrArg KT.o hx;have eg:(nX x).g=(nX x').g:=congrArg KT.g hx;simp only [nX] at ew eo eg;have T:=ER hq x.o;refine⟨x,x',R,R',hx,?_,(qz h0 U S.g hn M.1).2.2,(qz h0 U S'.g hm M'.1).2.2⟩;unfold zZ;rw [<- ew,<- eo,<- eg,T.c3,Oj T.c4]
theorem aef (M:MR d0 d1 s k) (hn2:n<17592186043904) (hm2:m<17592186043904) {u:Int} (u0:0<=u) (u1:u<(d1.l.length:Int)):L 2900 [enc d0,enc d1,enc s,enc k,u]=some [BT d0 d1 s k u]/\L 22950 [enc d0,enc d1,enc s',enc k',enc c',u]=some [BT d0 d1 s k u]:=by
 obtain⟨x,x',R,R',hx,ha,Y,Ia⟩:=VB h0 U S S' hn hm E M u0 u1;have e1:=Zh S hn2 R Y;have e2:=aeg h0 U S' hm2 R' Ia (enc c')
 have ho:fh d1 u x'=fh d1 u x:=by show fh d1 u (nX x')=fh d1 u (nX x);rw [hx]
 have e:PU d1 s' u x'=PU d1 s u x:=by unfold PU;rw [ho,ha]
 have el:BT d0 d1 s k u=PU d1 s u x:=by unfold BT;rw [e1];rfl
 rw [el];rw [e] at e2;exact⟨e1,e2⟩
end
section
variable {d0 d1 s k c s' k' c':D} {j:Nat} {t:Int} (h0:Wd (.sl 3) d0) (U:Wd (.sl 4) d1) (Z?:Inv (j+1) d0 d1 s k) (V':Inv (j+1) d0 d1 s' k') (E:Eqv s k c s' k' c') (hc:Wd (.sl 0) c) (LV:Wd (.sl 0) c')
include h0 U Z? V' E hc LV
theorem Vd (K:KR d0 d1 s k c) (t0:0<=t) (t1:t<(d1.l.length:Int)): ∃b:Int,L 2950 [enc d0,enc d1,enc s,enc k,enc c,t]=some [b]/\L 23000 [enc d0,enc d1,enc s',enc k',enc c',t]=some [b]/\(b=0\/b=1):=by
 obtain⟨n,S,hn,hm⟩:=Z?;obtain⟨n',S',E8,ZU⟩:=V';have M:=K.2.2;have hM:=hm M;have hM':=ZU ((YC h0 U S S' hn E8 E.s E.k).1 M);have hC:=fun {u:Int} (u0:0<=u) (u1:u<(d1.l.length:Int))=>aef h0 U S S' hn E8 E M J J u0 u1;have vK:=K.1;have GU:c'.l.length=d1.l.length:=by rw [<- E.c]; exact vK
 obtain⟨b,hL,hb,hi⟩:=ae6 (d0:=d0) (d1:=d1) (s:=s) (k:=k) (c:=c) (t:=t) (fun u u0 u1=> ⟨_,(hC u0 J).1⟩) t0 J hc.len
 obtain⟨ys,hR,b',rfl,tT⟩:=XW (t:=t) (cnt:=BT d0 d1 s k) h0 U S' E8 LV.len (fun _ u u0 u1=>(hC u0 u1).2) (p:=Ek (BT d0 d1 s k) c t) ⟨fun h=> ⟨t0,t1,(af1 (YC h0 U S S' hn E8 E.s E.k) E.c).1 K,by
  unfold Ek at h ⊢;rw [<- E.c]
  simpa only [P8 E.c] using h⟩,fun h=>by
  have h:=h.2.2.2;unfold Ek at h ⊢;rw [<- E.c] at h
  simpa only [P8 E.c] using h⟩
 have:b'=b:=by
  rcases tT with ⟨q,z⟩|⟨q,z⟩
  ·rcases hb with w|w
   ·omega
   ·exact absurd (hi.1 w) z
  ·rw [q,hi.2 z]
 rw [this] at hR;exact⟨b,hL,hR,hb⟩
theorem XV: ∃g:Int,L 3000 [enc d0,enc d1,enc s,enc k,enc c,t]=some [g]/\L 23000 [enc d0,enc d1,enc s',enc k',enc c',t]=some [g]/\(g=0\/g=1):=by
 obtain⟨n,S,hn,hm⟩:=id Z?;obtain⟨n',S',E8,ZU⟩:=id V';have hKR:=af1 (YC h0 U S S' hn E8 E.s E.k) E.c;obtain⟨ys,hK,m,rfl,hmm⟩:=CX (k:=k) h0 U (S.g.lD J).rows hc.len;obtain⟨ys,hR,m',rfl,agf⟩:=Lp h0 U S' E8 LV.len
 have one: ∀{g:Int} {f:Nat} {xs:List Int},bK f xs (·= [g])->L f xs=some [g]:=fun h=>by obtain⟨ys,h,rfl⟩:=h;exact h
 by_cases t0:t<0
 ·refine⟨0,?_,one ?_,.inl rfl⟩
  ·rw [bB,PK];simp only [NY,zz,t0,bA]
  ·refine bK.of ?_;rw [Hq];simp only [we,zz,hR,t0];exact k!
 ·by_cases t1:t<(d1.l.length:Int)
  ·by_cases K:KR d0 d1 s k c
   ·obtain⟨b,hL,hT,hb⟩:=Vd h0 U Z? V' E hc LV K J t1
    have Ra:m=1:=by
     rcases hmm with ⟨_,z⟩|⟨z,_⟩
     ·exact absurd K z
     ·exact z
    subst Ra;refine⟨b,one ?_,hT,hb⟩;refine bK.of ?_;rw [PK];rcases hb with rfl|rfl
    ·exact ahh
    ·exact ahh
   ·have m0:m=0:=by
     rcases hmm with ⟨z,_⟩|⟨_,z⟩
     ·exact z
     ·exact absurd z K
    have m0':m'=0:=by
     rcases agf with ⟨z,_⟩|⟨_,z⟩
     ·exact z
     ·exact absurd (hKR.2 z) K
    subst m0 m0';refine⟨0,?_,one ?_,.inl rfl⟩
    ·rw [bB,PK];simp only [NY,zz,t0,t1,hK,bA]
    ·refine bK.of ?_;rw [Hq];simp only [we,zz,hR];exact .out rfl
  ·refine⟨0,?_,one ?_,.inl rfl⟩
   ·rw [bB,PK];simp only [NY,zz,t0,t1,bA]
   ·refine bK.of ?_;rw [Hq];simp only [we,zz,hR,t0,t1];exact k!
end
section
variable {e2 e3 e4:Int} {a ka s':D}
theorem r_ {s s1 a1 k1:D} {m:Nat} (hs:xx s1 s) (ha:xx a1 a) (Y:ka.l.length=k1.l.length) (Z!:M9 s1 a1 k1 e2 e3 e4 m):M9 s a ka e2 e3 e4 m:=by
 refine⟨Z!.sig,fun h=>?_,fun h=>?_,by have:=Z!.lk; omega,by have:=Z!.lD; omega⟩
 ·obtain⟨b0,b1,b2,b3⟩:=Z!.brd h;have T:=(ER hs e3).c4;have:=hs.len;rw [<- T];exact⟨b0,J,b2,b3⟩
 ·obtain⟨b0,b1⟩:=Z!.arr h;have:=ha.len;exact⟨b0,J⟩
theorem X? {d0 d1 s k:D} {t:Int} {n:Nat} {k':D} {e1 e5 oc:Int} (H:El d0 d1 s k t n s' k' e1 e2 e3 e4 e5 oc):fD .i64 e4:=by
 have z:fD .i64 0:=⟨J,J⟩
 cases H with
 |no h=>exact z
 |over x R ho=>exact z
 |loc x R ho ha=>exact z
 |tri x R ho op obj arg tr hq k1 k2 k3 hU s' e1 e2 e3 e4 e5 oc A T=>exact A.e4
theorem arv {s b kb:D} (hs:xx s s') (ha:xx a b) (hk: ∀i:Nat,g_ (ka.at (i:Int)) (kb.at (i:Int))) (u:Nat):Rf s a ka e2 e3 e4 u↔Rf s' b kb e2 e3 e4 u:=by unfold Rf;rw [(ER hs e3).c4,(ER ha e3).c3,(hk u).c2,(hk u).c3,(hk u).c4]
section
variable {d0 d1 s k c s' k' c':D} {j:Nat} {t:Int} (h0:Wd (.sl 3) d0) (U:Wd (.sl 4) d1) (Z?:Inv (j+1) d0 d1 s k) (V':Inv (j+1) d0 d1 s' k') (E:Eqv s k c s' k' c') (hc:Wd (.sl 0) c) (LV:Wd (.sl 0) c')
include h0 U Z? V' E hc LV
theorem Gv: ∃(a ka ca b kb cb:D) (e1 e2 e3 e4 e5 oc er:Int),L 3100 [enc d0,enc d1,enc s,enc k,enc c,t]=some [enc a,enc ka,enc ca,e1,e2,e3,e4,e5,oc,er]/\L 23050 [enc d0,enc d1,enc s',enc k',enc c',t]=some [enc b,enc kb,enc cb,e1,e2,e3,e4,e5,oc,er]/\
 Eqv a ka ca b kb cb/\Inv j d0 d1 a ka/\Inv j d0 d1 b kb/\Wd (.sl 0) ca/\Wd (.sl 0) cb:=by
 obtain⟨n,S,hn,hm⟩:=id Z?;obtain⟨n',S',E8,ZU⟩:=id V';have eR:=S.asG hc;have Bi:=ad8 S' E8;have hMR:=YC h0 U S S' hn E8 E.s E.k;have hKR:=af1 hMR E.c;obtain⟨ys,hK,m,rfl,hmm⟩:=CX (k:=k) h0 U (S.g.lD J).rows hc.len;obtain⟨ys,hR,m',rfl,agf⟩:=Lp h0 U S' E8 LV.len
 have wW:(c'.l.length:Int)<17592186044416:=by have:=LV.room;have h3:l4 0=8:=rfl;rw [h3] at this;omega
 have ate:(c.l.length:Int)<17592186044416:=by rw [E.c]; exact wW
 have stay: ∀oc er:Int,L 3100 [enc d0,enc d1,enc s,enc k,enc c,t]=some [enc (nE s),enc (nE k),enc c,0,0,0,0,0,oc,er]->L 23050 [enc d0,enc d1,enc s',enc k',enc c',t]=some [enc (cS s'),enc (iQ k'),enc (if (c'.l.length:Int)=0 then .i 2 else c'),0,0,0,0,0,oc,er]->∃(a ka ca b kb cb:D) (e1 e2 e3 e4 e5 oc er:Int),L 3100 [enc d0,enc d1,enc s,enc k,enc c,t]=some [enc a,enc ka,enc ca,e1,e2,e3,e4,e5,oc,er]/\L 23050 [enc d0,enc d1,enc s',enc k',enc c',t]=some [enc b,enc kb,enc cb,e1,e2,e3,e4,e5,oc,er]/\
  Eqv a ka ca b kb cb/\Inv j d0 d1 a ka/\Inv j d0 d1 b kb/\Wd (.sl 0) ca/\Wd (.sl 0) cb:=fun oc er q1 q2=>by
  refine⟨_,_,_,_,_,_,0,0,0,0,0,oc,er,q1,q2,⟨?_,?_,?_⟩,aop h0 U Z?,aoq h0 U V',hc,?_⟩
  ·rw [alC,at5 S'.g.wd.j7,E.s]
  ·rw [aem,aen,E.k]
  ·rw [E.c];split
   ·rename_i h;rw [aw4.1 (by omega:c'.l.length=0)];rfl
   ·rfl
  ·split
   ·exact .wL 0
   ·exact LV
 by_cases t0:t<0
 ·refine stay 0 0 ?_ ?_
  ·rw [bB,yV];simp only [wa,zz,t0,eR,bA]
  ·have m01:m'=0\/m'=1:=J
   rw [bB,tg];by_cases hz:(c'.l.length:Int)=0
   ·rcases m01 with rfl|rfl<;>simp only [nt,zz,hz,Bi,hR,t0,bM,if_true,if_false,bA]
   ·rcases m01 with rfl|rfl<;>simp only [nt,zz,hz,wW,Bi,hR,t0,bM,if_true,if_false,bA]
 by_cases t1: ¬t<(d1.l.length:Int)
 ·refine stay 0 0 ?_ ?_
  ·rw [bB,yV];simp only [wa,zz,t0,t1,eR,bA]
  ·have m01:m'=0\/m'=1:=J
   rw [bB,tg];by_cases hz:(c'.l.length:Int)=0
   ·rcases m01 with rfl|rfl<;>simp only [nt,zz,hz,Bi,hR,t0,t1,bM,if_true,if_false,bA]
   ·rcases m01 with rfl|rfl<;>simp only [nt,zz,hz,wW,Bi,hR,t0,t1,bM,if_true,if_false,bA]
 have t1:t<(d1.l.length:Int):=J
 by_cases K: ¬KR d0 d1 s k c
 ·have m0:m=0:=by
   rcases hmm with ⟨z,_⟩|⟨_,z⟩
   ·exact z
   ·exact absurd z K
  have m0':m'=0:=by
   rcases agf with ⟨z,_⟩|⟨_,z⟩
   ·exact z
   ·exact absurd (hKR.2 z) K
  subst m0 m0';refine stay 0 0 ?_ ?_
  ·rw [bB,yV];simp only [wa,zz,t0,t1,hK,eR,bA]
  ·rw [bB,tg];by_cases hz:(c'.l.length:Int)=0
   ·simp only [nt,zz,hz,Bi,hR,if_true,bA]
   ·simp only [nt,zz,hz,wW,Bi,hR,if_true,if_false,bA]
 have K:=Classical.not_not.1 K;have K':=hKR.1 K;have M:=K.2.2;have hmM:=hm M;have awE:=ZU (hMR.1 M)
 have k1:m=1:=by
  rcases hmm with ⟨_,z⟩|⟨z,_⟩
  ·exact absurd K z
  ·exact z
 have k1':m'=1:=by
  rcases agf with ⟨_,z⟩|⟨z,_⟩
  ·exact absurd K' z
  ·exact z
 subst k1 k1';have vK:=K.1;have GU:=K'.1;obtain⟨x,x',R,R',hx,ha,Y,Ia⟩:=VB h0 U S S' hn E8 E M (by omega:0<=t) t1
 have Nt:fh d1 t x'=fh d1 t x:=by show fh d1 t (nX x')=fh d1 t (nX x);rw [hx]
 have hnx:fS d1 t x'=fS d1 t x:=by rw [<- EY R'.c R'.r,<- EY R.c R.r,hx]
 have hF:=VX R;have hF':=rB h0 U S' E8 R';have hN:=OF h0 U S hn R;have hN':=CN h0 U S' E8 R';have hA:=Ky S J R Y;have ZV:=P9 S' J R' Ia (enc c');rw [Nt] at hF';rw [hnx] at hN';rw [ha] at ZV;obtain⟨q0,q1,q2,q3,q4,hq,h4⟩:=Yx d1 t x;rw [hq] at hN hN';have tc:t<(c.l.length:Int):=J
 have tc':t<(c'.l.length:Int):=J
 have hz: ¬(c'.l.length:Int)=0:=J
 have lU:(0:Int)<(c.l.length:Int):=J
 obtain⟨tb,hT,hT',htb⟩:=Vd h0 U Z? V' E hc LV K (by omega:0<=t) t1;have fU:(c'.at t).n=(c.at t).n:=by rw [P8 E.c]
 rcases AI d1 t x with ho|ho
 ·rw [ho] at hF hF';rcases aez S J R Y with hs|hs
  ·rw [hs] at hA ZV;by_cases vw:(c.at t).n=9223372036854775807
   ·have aby:=fU.trans vw;rcases htb with rfl|rfl
    ·refine stay 0 0 ?_ ?_
     ·rw [bB,yV];rcases h4 with rfl|rfl<;>simp only [wa,zz,t0,t1,hK,hF,hN,tc,hA,vw,hT,eR,bM,bA]
     ·rw [bB,tg];rcases h4 with rfl|rfl<;>simp only [nt,zz,hz,wW,Bi,hR,t0,t1,hF',hN',tc',ZV,aby,hT',bM,if_false,bA]
    ·refine stay 0 131 ?_ ?_
     ·rw [bB,yV];rcases h4 with rfl|rfl<;>simp only [wa,zz,t0,t1,hK,hF,hN,tc,hA,vw,hT,eR,bM,bA]
     ·rw [bB,tg];rcases h4 with rfl|rfl<;>simp only [nt,zz,hz,wW,Bi,hR,t0,t1,hF',hN',tc',ZV,aby,hT',bM,if_false,bA]
   ·have aby: ¬(c'.at t).n=9223372036854775807:=by rw [fU]; exact vw
    by_cases hw:q4=1/\tb=0
    ·obtain⟨rfl,rfl⟩:=hw;refine stay 0 0 ?_ ?_
     ·rw [bB,yV];simp only [wa,zz,t0,t1,hK,hF,hN,tc,hA,hT,eR,bM,bA]
     ·rw [bB,tg];simp only [nt,zz,hz,wW,Bi,hR,t0,t1,hF',hN',tc',ZV,hT',bM,if_false,bA]
    ·
     obtain⟨a,ka,a1,k1,e1,e2,e3,e4,e5,oc,hL1,hL2,ha1,Ra,Sa,Sa1,H⟩:=afX h0 U S J t;obtain⟨a',kk,b,s1,k1',p0,p1,p2,p3,p4,f1,f2,f3,f4,f5,oc',f,r1,r2,r3,r4,r5,r6,r7,r8,r9,hf,hp4,V2,hSE,V3⟩:=X4 h0 U V' t;rw [Bi] at r1;simp only [ah,List.cons.injEq,and_true] at r1;obtain⟨z1,z2⟩:=r1;rw [<- z1,<- z2,<- E.s,<- E.k,hL2] at r4;simp only [ah,List.cons.injEq,and_true] at r4;obtain⟨z3,z4,rfl,rfl,rfl,rfl,rfl,rfl⟩:=r4;have z3:=ff z3;have z4:=ff z4;subst z3 z4;obtain⟨nb,Sb,hnb⟩:=V3.one;have hSS:=MW S S' hn E8 E.s;obtain⟨hq1,S1⟩:=rI S hn;have M1:=(SO h0 U S hn).2 M;have hlk:=(N2 S1 J h0 U H).2.2
     have Bb:k1.l.length=d1.l.length:=by have:=M1.2.1;omega
     have avK:ka.l.length=k1.l.length:=by have:=congrArg (fun d=>d.l.length) Ra;simpa only [rP,a8] using this
     have W1:=arw S1 J h0 U M1 H;have hSa:xx a1 a:=sy (MW Sa Sa1.sw J J ha1);have Wp:M9 s a ka e2 e3 e4 d1.l.length:=r_ hq1 hSa avK W1;have Wr:M9 s' b k1 e2 e3 e4 d1.l.length:=r_ (tr hq1 hSS) (sy hSE) rfl W1;have he4:=X? H
     have sj:fD .i64 (c.at t).n:=by obtain⟨i,rfl⟩ : ∃i:Nat,t=(i:Int):=⟨t.toNat,J⟩;exact U9 hc i
     have YT:fD .i64 ((c.at t).n+1):=⟨by have:=sj.1; omega,by have:=sj.2; omega⟩;have hwr:IntKind.i64.wrap ((c.at t).n+1)=(c.at t).n+1:=fg (by have:=sj.1; omega) (by have:=sj.2; omega);have asS:IntKind.i64.wrap ((c'.at t).n+1)=(c.at t).n+1:=by rw [fU]; exact hwr
     have atp:((tick c t).at t).n=(c.at t).n+1:=by
      obtain⟨i,rfl⟩ : ∃i:Nat,t=(i:Int):=⟨t.toNat,J⟩
      have:(tick c (i:Int)).at (i:Int)= .i ((c.at (i:Int)).n+1):=zX (by
       show (dL (dg c.l (i:Int) _)).l[i]?=_;rw [bz]
       exact pI J)
      rw [this];rfl
     have Ww:(tick c t).l.length=d1.l.length:=by rw [bz,dM,vK]
     have hWd:Wd (.sl 0) (tick c t):=U8 hc J YT J;have hWk:=q? (x1:=enc k) (e1:=e1) (e5:=e5) (n:=(c.at t).n+1) (c:=tick c t) (by rw [Ww]; exact Wp);have d16:d1.l.length<=16:=R.c.ok.2.1;obtain⟨ys,hLk,c2,rfl,hwk⟩:=Ce (d0:=d0) (k:=k') (c:=c') (oc:=oc) (e1:=e1) (e5:=e5) (n:=(c.at t).n+1) rfl d16 Wr Bb YT d1.l.length 0 (tick c t) J Ww hWd;rw [bj] at hLk;refine⟨a,ka,_,b,k1,c2,e1,e2,e3,e4,e5,oc,0,?_,?_,⟨ha1.trans (ael (sy hSE) Sa1.g Sb.g),Ra,?_⟩,⟨n+1,Sa,J,fun _=>by omega⟩,V3,ant (by rw [Ww]; exact Wp) hWd YT,hwk.1.2⟩
     ·have hor:q4=0\/q4=1/\tb=1:=J
      rw [bB,yV];rcases hor with rfl|⟨rfl,rfl⟩
      ·simp only [wa,zz,t0,t1,hK,hF,hN,tc,hA,vw,hL1,lU,ate,hwr,atp,hWk,bM,bA]
      ·simp only [wa,zz,t0,t1,hK,hF,hN,tc,hA,vw,hT,hL1,lU,ate,hwr,atp,hWk,bM,bA]
     ·have hor:q4=0\/q4=1/\tb=1:=J
      have Tl:dL (dg c'.l t (.i ((c.at t).n+1)))=tick c t:=by rw [<- E.c]
      rw [bB,tg];rcases hor with rfl|⟨rfl,rfl⟩
      ·simp only [nt,zz,hz,wW,Bi,hR,t0,t1,hF',hN',tc',ZV,aby,r5,asS,Tl,bM,bI];exact hLk
      ·simp only [nt,zz,hz,wW,Bi,hR,t0,t1,hF',hN',tc',ZV,aby,hT',r5,asS,Tl,bM,bI];exact hLk
     ·have hke: ∀i:Nat,g_ (ka.at (i:Int)) (k1.at (i:Int)):=fun i=>by
       have q1:=OS Sa.wk i;have q2:=OS Sa1.wk i;rw [Ra] at q1;exact⟨q1.c0.trans q2.c0.symm,⟨q1.c1.1.trans q2.c1.1.symm,fun z=>(q1.c1.2 z).trans (q2.c1.2 z).symm⟩,q1.c2.trans q2.c2.symm,q1.c3.trans q2.c3.symm,q1.c4.trans q2.c4.symm,q1.c5.trans q2.c5.symm⟩
      have avy:xx a b:=tr (sy hSa) (sy hSE);have hle:(wkM s a ka e2 e3 e4 (tick c t) ((c.at t).n+1)).l.length=c2.l.length:=by rw [U5,Ww,hwk.1.1]
      refine axv fun u=>?_;by_cases hu:u<d1.l.length
      ·obtain⟨w1,w2⟩:=hwk.2 u hu;have hv:=arv (e2:=e2) (e3:=e3) (e4:=e4) hSS avy hke u;rw [anu (by rw [Ww]; exact Wp) he4 (by rw [Ww]; omega) u (by rw [Ww]; exact hu)];by_cases hw1:Rf s' b k1 e2 e3 e4 u
       ·rw [ag (hv.2 hw1),w1 ⟨aw1 _,hw1⟩]
       ·rw [af (fun z=>hw1 (hv.1 z)),w2 fun z=>hw1 z.2]
      ·rw [awZ (by rw [U5,Ww]; omega),awZ (by rw [hwk.1.1]; omega)]
  ·rw [hs] at hA ZV;refine stay 0 0 ?_ ?_
   ·rw [bB,yV];simp only [wa,zz,t0,t1,hK,hF,hN,tc,hA,eR,bM,bA]
   ·rw [bB,tg];simp only [nt,zz,hz,wW,Bi,hR,t0,t1,hF',hN',tc',ZV,bM,if_false,bA]
 ·rw [ho] at hF hF';refine stay 4 0 ?_ ?_
  ·rw [bB,yV];simp only [wa,zz,t0,t1,hK,hF,eR,bM,bA]
  ·rw [bB,tg];simp only [nt,zz,hz,wW,Bi,hR,t0,t1,hF',bM,if_false,bA]
end
end
section
variable {d0 d1:D} (h0:Wd (.sl 3) d0) (U:Wd (.sl 4) d1)
include h0 U
theorem aeu (hc:L 450 [enc d0,enc d1]=some [0]) (ok:zq d0 d1):L 300 [enc d0,enc d1]=some [enc (ss d0)]:=by exact aqw
theorem OD (hlen:d1.l.length<=16) (b:Int): ∀(k i:Nat) (acc:List D),i+k=d1.l.length->acc.length=i->bK 22152 [(i:Int),enc d0,enc d1,b,enc (dL acc)] (·= [b,enc (dL (acc++(d1.l.drop i).map jN)),0])
 |0,i,acc,hi,ha=>by
  have c1: ¬(i:Int)<(d1.l.length:Int):=J
  refine bK.of ?_;rw [Ui,aN J];simp only [KY,zz,c1];exact Ii
 |k+1,i,acc,hi,ha=>by
  have cY:i<d1.l.length:=J
  have V:d1.l.drop i=d1.l[i]::d1.l.drop (i+1):=aG cY;have ih:=OD hlen b k (i+1) (acc++ [jN d1.l[i]]) J (by simp [ha]);have w:=bx (n:=i) J;have c1:(i:Int)<(d1.l.length:Int):=J
  have c2: ¬((i:Int)<0):=J
  have c3:(acc.length:Int)<2199023255551:=J
  obtain⟨sc,lc,cd,he,_,WE,_⟩:=qy U cY;have jn:=WE.room;have e2:l4 2=16:=rfl;rw [e2] at jn;rw [bk,bn] at ih;refine bK.of ?_;rw [Ui,V,aC];have fU:=bF cY;rw [he] at fU ih ⊢;have q:(lc.l.length:Int)<17592186044416:=J
  unfold jN at ih ⊢;simp only [zg,ax] at ih ⊢;by_cases hz:lc.l.length=0
  ·have A9:(lc.l.length:Int)=0:=J
   simp only [hz,if_true] at ih ⊢;simp only [KY,zz,c1,c2,c3,w,fU,bz,zg,ax,A9,q];exact .jump ih
  ·have A9: ¬(lc.l.length:Int)=0:=J
   simp only [af hz] at ih ⊢;simp only [KY,zz,c1,c2,c3,w,fU,bz,zg,ax,A9,q,aW];exact .jump ih
theorem Yk {b:D} (hc:L 4050 [enc d0,enc d1]=some [0]) (hb:L 3850 [enc d0,enc d1]=some [enc b]) (hlen:d1.l.length<=16):L 22150 [enc d0,enc d1]=some [enc b,enc (sP d1),0]:=by
 have:bK 22150 [enc d0,enc d1] (·= [enc b,enc (sP d1),0]):=by
  refine bK.of ?_;rw [Uj];simp only [RQ,zz,hc,hb];refine .jump (bK.of ?_);rw [adg];unfold sP;by_cases hz:d1.l.length=0
  ·have c1: ¬(0:Int)<(d1.l.length:Int):=J
   simp only [KZ,zz,c1];exact .out (by rw [ag hz])
  ·have hi:0<d1.l.length:=J
   have c1:(0:Int)<(d1.l.length:Int):=J
   have fU:d1.at 0=d1.l[0]:=bF hi
   have V:d1.l=d1.l[0]::d1.l.drop 1:=by exact NC
   have ih:=OD h0 U hlen (enc b) (d1.l.length-1) 1 [jN d1.l[0]] J rfl;rw [bn,<- aC,<- V] at ih;rw [af hz];clear V;obtain⟨sc,lc,cd,he,_,WE,_⟩:=qy U hi;have jn:=WE.room;have e2:l4 2=16:=rfl;rw [e2] at jn;rw [he] at fU ih;have q:(lc.l.length:Int)<17592186044416:=J
   have ih:bK 22152 [1,enc d0,enc d1,enc b,enc (dL [jN (dL [sc,lc,cd])])] _:=ih;have et:jN (dL [sc,lc,cd])=dL [.i 0,if lc.l.length=0 then .i 2 else dL (List.replicate lc.l.length (.i 0)),.i 0,.i 0,.i 0,.i 0]:=rfl;rw [et] at ih;by_cases hz:lc.l.length=0
   ·have A9:(lc.l.length:Int)=0:=J
    simp only [hz,if_true] at ih;simp only [KZ,zz,c1,fU,pQ,aw,zg,ax,A9,q];exact .jump ih
   ·have A9: ¬(lc.l.length:Int)=0:=J
    simp only [af hz] at ih;simp only [KZ,zz,c1,fU,pQ,aw,zg,ax,A9,q,aW];exact .jump ih
 exact rX
theorem P4: ∃(s k:D) (c:Int),L 1450 [enc d0,enc d1]=some [enc s,enc k,c]/\L 22150 [enc d0,enc d1]=some [enc s,enc k,c]/\Sw s k 0:=by
 obtain⟨c,hc,O8,hp,hr⟩:=zS h0 U;by_cases hz:c=0
 ·subst hz;have hC:=O8.1 rfl;have ok:zq d0 d1:=⟨hC.1,hC.2.1,hC.2.2.1⟩;obtain⟨b,hA,hB,G⟩:=UG h0 U;have h3:=aeu h0 U hp ok;rw [hA] at h3;simp only [ah,List.cons.injEq,and_true] at h3;have e:=ff h3;subst e;refine⟨_,_,0,YE U hp ok,Yk h0 U hr hB hC.2.1,G,?_⟩;unfold sP;split
  ·exact .nil 8
  ·rename_i hz;refine Fu (fun x hx=>?_) (fun h=>hz (by simpa using congrArg List.length h)) (by rw [a8]; have:=hC.2.1; omega);obtain⟨y,hy,rfl⟩:=aQ.1 hx;obtain⟨i,hi,rfl⟩:=axi hy;obtain⟨sc,lc,cd,he,_,WE,_⟩:=qy U hi;have jn:=WE.room;have e2:l4 2=16:=rfl;rw [e2] at jn;have z:fD .i64 0:=⟨J,J⟩;refine⟨0,(if lc.l.length=0 then .i 2 else dL (List.replicate lc.l.length (.i 0))),0,0,0,0,by rw [he]; rfl,z,?_,⟨J,J⟩,z,z,z⟩;split
   ·exact .wL 0
   ·rename_i hz2;refine ug (fun y hy=>?_) (fun h=>hz2 (by simpa using congrArg List.length h)) (by rw [axs]; omega)
    grind
 ·refine⟨.i 1,.i 1,c,YD hp hz,?_,⟨.nil 7,fun x hx=>by simp [D.l] at hx⟩,.nil 8⟩
  have:bK 22150 [enc d0,enc d1] (·= [enc (.i 1),enc (.i 1),c]):=by refine bK.of ?_;rw [Uj];simp only [RQ,zz,hr,hz];exact .out rfl
  exact rX
theorem abe {s k:D} {n:Nat} (S:Sw s k n) (hn:n<17592186044000):Inv 100 d0 d1 s k:=by
 by_cases M:MR d0 d1 s k
 ·exact⟨1048576,⟨Oa h0 U S.g hn M.1,S.wk⟩,J,fun _=>by omega⟩
 ·exact⟨n,S,hn,fun M'=>absurd M' M⟩
end
theorem Pl (d:D) (V:d.l.length<=140737488351232): ∀(j i:Nat),i+j=d.l.length->L 2451 [enc d,enc d,(d.l.length:Int),(i:Int)]=some [1]
 |0,i,hi=>by
  have c1: ¬(i:Int)<(d.l.length:Int):=J
  rw [bB,ac6];simp only [N',zz,c1,bA]
 |j+1,i,hi=>by
  have c1:(i:Int)<(d.l.length:Int):=J
  have c2: ¬((i:Int)<0):=J
  have w:=bx (n:=i) J;have ih:=Pl d V j (i+1) J;rw [bB,ac6];simp only [N',zz,c1,c2,w,zj,and_self,bI,ih]
theorem G6 (d:D) (V:d.l.length<=140737488351232):L 2450 [enc d,enc d]=some [1]:=by have h:=Pl d V d.l.length 0 J;rw [bj] at h;rw [bB,alg];simp only [ajI,zz,bI];exact h
abbrev evK (e1 e2 e3 e4 e5:Int):D:=dL [.i e1,.i e2,.i e3,.i e4,.i e5]
theorem drK {ρ:Nat->Int} (a b:W):(W.rem a b).den ρ=(a.den ρ).tmod (b.den ρ):=rfl
theorem aj3:((3:Int)=2)=False:=ad
section
variable {d0 d1 d:D} (h0:Wd (.sl 3) d0) (U:Wd (.sl 4) d1) (hn:0<d1.l.length) (V:d.l.length<=1000)
include h0 U hn V
theorem Gw: ∀(j i:Nat) (s k c s' k' c':D) (l:List D),i+j=d.l.length->Inv j d0 d1 s k->Inv j d0 d1 s' k'->Eqv s k c s' k' c'->Wd (.sl 0) c->Wd (.sl 0) c'->l.length<=i->
 ∃(l2 a ka ca b kb cb:D) (er:Int),Eqv a ka ca b kb cb/\Inv 0 d0 d1 a ka/\Inv 0 d0 d1 b kb/\Wd (.sl 0) ca/\Wd (.sl 0) cb/\l2.l.length<=1000/\
 (l= []->L 3151 [enc d,(d1.l.length:Int),(i:Int),enc d0,enc d1,enc s,enc k,enc c]=some [enc l2,enc a,enc ka,enc ca,er]/\L 23101 [enc d,(d1.l.length:Int),(i:Int),enc d0,enc d1,enc s',enc k',enc c']=some [enc l2,enc b,enc kb,enc cb,er])/\
 (l≠[]->L 3152 [enc d,enc (dL l),(d1.l.length:Int),(i:Int),enc d0,enc d1,enc s,enc k,enc c]=some [enc l2,enc a,enc ka,enc ca,er]/\L 23102 [enc d,enc (dL l),(d1.l.length:Int),(i:Int),enc d0,enc d1,enc s',enc k',enc c']=some [enc l2,enc b,enc kb,enc cb,er])
 |0,i,s,k,c,s',k',c',l,hi,Z?,V',E,hc,LV,Y=>by
  have c1: ¬(i:Int)<(d.l.length:Int):=J
  refine⟨if l= [] then .i 1 else dL l,s,k,c,s',k',c',0,E,Z?,V',hc,LV,?_,fun hz=>?_,fun hz=>?_⟩
  ·split
   ·simp [D.l]
   ·rw [bz];omega
  ·rw [ag hz,bB,bB,PJ,Ho];simp only [Dy,wb,zz,c1,bA,and_self]
  ·rw [af hz,bB,bB,W4,Mz];simp only [IP,Ck,zz,c1,bA,and_self]
 |j+1,i,s,k,c,s',k',c',l,hi,Z?,V',E,hc,LV,Y=>by
  have cY:i<d.l.length:=J
  have c1:(i:Int)<(d.l.length:Int):=J
  have c2:(0:Int)<(d1.l.length:Int):=J
  have c3: ¬((i:Int)<0):=J
  have w:=bx (n:=i) J;have hb:=U.len;have pk:=Yp (x:=(d.at (i:Int)).n) c2 J;have rng:=NS (x:=(d.at (i:Int)).n) c2;have c7:(l.length:Int)<3518437208882:=J
  obtain⟨a,ka,ca,b,kb,cb,e1,e2,e3,e4,e5,oc,er,A1,A2,E2,V2,V2',hc2,avY⟩:=Gv (t:=Jm (d.at (i:Int)).n (d1.l.length:Int)) h0 U Z? V' E hc LV
  have ih:=Gw j (i+1) a ka ca b kb cb (if oc=2\/oc=3 then l++ [evK e1 e2 e3 e4 e5] else l) J V2 V2' E2 hc2 avY
   (by split
       ·rw [aZ]; exact Nat.succ_le_succ Y
       ·omega)
  have m0:Inv 0 d0 d1 s k:=Z?.mono J;have m0':Inv 0 d0 d1 s' k':=V'.mono J
  have hll:(if l= [] then D.i 1 else dL l).l.length<=1000:=by
   split
   ·simp [D.l]
   ·rw [bz];omega
  have age:((d.at (i:Int)).n.tmod (d1.l.length:Int)<0/\Jm (d.at (i:Int)).n (d1.l.length:Int)=IntKind.i64.wrap ((d.at (i:Int)).n.tmod (d1.l.length:Int)+(d1.l.length:Int)))\/(¬(d.at (i:Int)).n.tmod (d1.l.length:Int)<0/\Jm (d.at (i:Int)).n (d1.l.length:Int)=(d.at (i:Int)).n.tmod (d1.l.length:Int)):=by
   unfold Jm;by_cases h:(d.at (i:Int)).n.tmod (d1.l.length:Int)<0
   ·rw [ag h];exact .inl ⟨h,(fg J J).symm⟩
   ·rw [af h];exact .inr ⟨h,rfl⟩
  by_cases hr:er=0
  ·obtain⟨l2,a2,ka2,ca2,b2,kb2,cb2,er2,E3,V3,V3',w1,w2,hl2,Tc,vH⟩:=ih;refine⟨l2,a2,ka2,ca2,b2,kb2,cb2,er2,E3,V3,V3',w1,w2,hl2,fun hz=>?_,fun hz=>?_⟩
   ·subst hz;rw [bB,bB,PJ,Ho];rcases age with ⟨g1,g2⟩|⟨g1,g2⟩ <;>rw [g2] at A2
    all_goals
     by_cases o2:oc=2
     ·simp only [o2,true_or,if_true,aw,ee,eW] at vH;obtain⟨j1,j2⟩:=vH ad;simp only [Dy,wb,zz,drK,c1,c2,c3,pk,A1,A2,g1,hr,o2,w,bI,pQ,aw,ee,eW];exact⟨j1,j2⟩
     ·by_cases o3:oc=3
      ·simp only [o3,or_true,if_true,aw,ee,eW] at vH;obtain⟨j1,j2⟩:=vH ad;simp only [Dy,wb,zz,drK,c1,c2,c3,pk,A1,A2,g1,hr,o3,w,bI,pQ,aw,ee,eW,aj3];exact⟨j1,j2⟩
      ·simp only [o2,o3,or_self,if_false] at Tc;obtain⟨j1,j2⟩:=Tc trivial;simp only [Dy,wb,zz,drK,c1,c2,c3,pk,A1,A2,g1,hr,o2,o3,w,bI];exact⟨j1,j2⟩
   ·rw [bB,bB,W4,Mz];rcases age with ⟨g1,g2⟩|⟨g1,g2⟩ <;>rw [g2] at A2
    all_goals
     by_cases o2:oc=2
     ·simp only [o2,true_or,if_true,ee,eW] at vH;obtain⟨j1,j2⟩:=vH ad;simp only [IP,Ck,zz,drK,c1,c2,c3,c7,pk,A1,A2,g1,hr,o2,w,bI,bz];exact⟨j1,j2⟩
     ·by_cases o3:oc=3
      ·simp only [o3,or_true,if_true,ee,eW] at vH;obtain⟨j1,j2⟩:=vH ad;simp only [IP,Ck,zz,drK,c1,c2,c3,c7,pk,A1,A2,g1,hr,o3,w,bI,bz,aj3];exact⟨j1,j2⟩
      ·simp only [o2,o3,or_self,if_false] at vH;obtain⟨j1,j2⟩:=vH hz;simp only [IP,Ck,zz,drK,c1,c2,c3,pk,A1,A2,g1,hr,o2,o3,w,bI];exact⟨j1,j2⟩
  ·refine⟨if l= [] then .i 1 else dL l,s,k,c,s',k',c',er,E,m0,m0',hc,LV,hll,fun hz=>?_,fun hz=>?_⟩
   ·rw [ag hz,bB,bB,PJ,Ho];rcases age with ⟨g1,g2⟩|⟨g1,g2⟩ <;>rw [g2] at A2
    all_goals
     simp only [Dy,wb,zz,drK,c1,c2,c3,pk,A1,A2,g1,hr,if_false,bA,and_self]
   ·rw [af hz,bB,bB,W4,Mz];rcases age with ⟨g1,g2⟩|⟨g1,g2⟩ <;>rw [g2] at A2
    all_goals
     simp only [IP,Ck,zz,drK,c1,c2,c3,pk,A1,A2,g1,hr,if_false,bA,and_self]
end
section
variable {k c a b s q:D}
theorem Xr {a b:D} (h:a.l=b.l) (hb:a.l.length<=140737488351232): ∀(j i:Nat),i+j=a.l.length->L 3551 [enc a,enc b,(a.l.length:Int),(i:Int)]=some [1]
 |0,i,hi=>by
  have c1: ¬(i:Int)<(a.l.length:Int):=J
  rw [bB,acY];simp only [M_,zz,c1,bA]
 |j+1,i,hi=>by
  have c1:(i:Int)<(a.l.length:Int):=J
  have c2: ¬((i:Int)<0):=J
  have c3:(i:Int)<(b.l.length:Int):=by rw [<- h]; omega
  have w:=bx (n:=i) J;have e:=P8 h (i:Int);have ih:=Xr h hb j (i+1) J;rw [bB,acY];simp only [M_,zz,c1,c2,c3,w,e,bI];exact ih
theorem agQ (h:a.l=b.l) (hb:a.l.length<=140737488351232):L 3550 [enc a,enc b]=some [1]:=by
 have Y:=Xr h hb a.l.length 0 J;rw [bj] at Y;have c1:(a.l.length:Int)=(b.l.length:Int):=by rw [h]
 rw [<- c1] at *;rw [bB,ala];simp only [ajF,zz,<- h,bI];exact Y
theorem asE {k':D} (hk:Wd (.sl 8) k) (WH:Wd (.sl 8) k') (h:iQ k=iQ k') (i:Nat):g_ (k.at (i:Int)) (k'.at (i:Int)):=by have q1:=OS hk i;have q2:=OS WH i;rw [h] at q1;exact⟨q1.c0.trans q2.c0.symm,⟨q1.c1.1.trans q2.c1.1.symm,fun z=>(q1.c1.2 z).trans (q2.c1.2 z).symm⟩,q1.c2.trans q2.c2.symm,q1.c3.trans q2.c3.symm,q1.c4.trans q2.c4.symm,q1.c5.trans q2.c5.symm⟩
theorem AW {d0 d1 ka ca kb cb:D} {i j:Nat} (E:Eqv a ka ca b kb cb) (Z?:Inv i d0 d1 a ka) (V':Inv j d0 d1 b kb) (hc:Wd (.sl 0) ca):L 3300 [enc a,enc ka,enc ca,enc b,enc kb,enc cb]=some [1]:=by
 obtain⟨n,S,hn⟩:=Z?.one;obtain⟨m,S',hm⟩:=V'.one
 have Y:ka.l.length=kb.l.length:=by have:=congrArg (fun d=>d.l.length) E.k;simpa only [rP,a8] using this
 have U:=CB S hn (MW S S' hn hm E.s) Y (asE S.wk S'.wk E.k);have Z:=agQ E.c hc.len;rw [bB,alb];simp only [ajG,zz,U,Z,fP,bA]
theorem Eqv.pX (s k c:D):Eqv s k c s k c:=⟨rfl,rfl,rfl⟩
section
variable {d0 d1:D} (h0:Wd (.sl 3) d0) (U:Wd (.sl 4) d1)
include h0 U
theorem LL {u v:D} {n:Nat} (S:Sw s k n) (hn:n<17592186043904) (hu:Wd (.sl 0) u) (hv:Wd (.sl 0) v) (h:u.l=v.l): ∃m:Int,L 2750 [enc d0,enc d1,enc s,enc k,enc u]=some [m]/\L 22800 [enc d0,enc d1,enc s,enc k,enc v]=some [m]/\(m=0\/m=1):=by
 obtain⟨ys,hK,m,rfl,hm⟩:=CX (k:=k) h0 U (S.g.lD J).rows hu.len;obtain⟨ys,hR,m',rfl,ZU⟩:=Lp h0 U S J hv.len;have e:=af1 (d0:=d0) (d1:=d1) (s:=s) (k:=k) Iff.rfl h
 have:m'=m:=by
  rcases hm with ⟨z,q⟩|⟨z,q⟩ <;>rcases ZU with ⟨z',q'⟩|⟨z',q'⟩
  ·omega
  ·exact absurd (e.2 q') q
  ·exact absurd (e.1 q) q'
  ·omega
 subst this;exact⟨m',hK,hR,J⟩
theorem OU (hc:Wd (.sl 0) c): ∃(s k c1 c2:D) (er:Int),L 2800 [enc d0,enc d1,enc c]=some [enc s,enc k,enc c1,er]/\L 22850 [enc d0,enc d1,enc c]=some [enc s,enc k,enc c2,er]/\c1.l=c2.l/\Wd (.sl 0) c1/\Wd (.sl 0) c2/\Sw s k 0:=by
 obtain⟨s,k,z,hB,hB',G⟩:=P4 h0 U;have N:Sw (.i 1) (.i 1) 0:=⟨⟨.nil 7,fun x hx=>by simp [D.l] at hx⟩,.nil 8⟩;by_cases hz:z=0
 ·subst hz;have Z:=Wd.wL 0;have h3:=Wd.nil 0;rcases bV hc with rfl|rfl|⟨r1,r2⟩
  ·obtain⟨m,hK,hR,hm⟩:=LL h0 U G J h3 Z rfl;rcases hm with rfl|rfl
   ·exact aqq
   ·refine⟨s,k,.i 1,.i 2,0,?_,?_,rfl,h3,Z,G⟩
    ·exact ah1
    ·exact ah5
  ·obtain⟨m,hK,hR,hm⟩:=LL h0 U G J Z Z rfl;rcases hm with rfl|rfl
   ·exact aqq
   ·refine⟨s,k,.i 2,.i 2,0,?_,?_,rfl,Z,Z,G⟩
    ·exact ah1
    ·exact ah5
  ·obtain⟨m,hK,hR,hm⟩:=LL h0 U G J hc hc rfl;have r3: ¬(c.l.length:Int)=0:=J
   rcases hm with rfl|rfl
   ·refine⟨.i 1,.i 1,.i 1,.i 1,2,?_,?_,rfl,h3,h3,N⟩
    ·rw [bB,Kh];simp only [IV,zz,hB,r1,r2,hK,bA]
    ·rw [bB,Df];simp only [Cl,zz,hB',r1,r2,r3,hR,if_false,bA]
   ·refine⟨s,k,c,c,0,?_,?_,rfl,hc,hc,G⟩
    ·rw [bB,Kh];simp only [IV,zz,hB,r1,r2,hK,bM,bA]
    ·rw [bB,Df];simp only [Cl,zz,hB',r1,r2,r3,hR,bM,if_false,bA]
 ·refine⟨.i 1,.i 1,.i 1,.i 1,z,?_,?_,rfl,.nil 0,.nil 0,N⟩
  ·rw [bB,Kh];simp only [IV,zz,hB,af hz,bA]
  ·rw [bB,Df];simp only [Cl,zz,hB',af hz,bA]
theorem OM (hc:Wd (.sl 0) c) (hq:q.l.length<=60): ∃(l a ka ca b kb cb:D) (er:Int),L 3150 [enc d0,enc d1,enc c,enc q]=some [enc l,enc a,enc ka,enc ca,er]/\L 23100 [enc d0,enc d1,enc c,enc q]=some [enc l,enc b,enc kb,enc cb,er]/\L 2450 [enc l,enc l]=some [1]/\L 3300 [enc a,enc ka,enc ca,enc b,enc kb,enc cb]=some [1]:=by
 obtain⟨s,k,c1,c2,er,hA,hB,O7,w1,w2,G⟩:=OU h0 U hc;have Z?:=abe h0 U G J;have E:Eqv s k c1 s k c2:=⟨rfl,rfl,O7⟩;by_cases hr:er=0
 ·subst hr;by_cases hN:0<d1.l.length
  ·obtain⟨l2,a,ka,ca,b,kb,cb,er,E2,V2,V2',x1,x2,Y,g1,_⟩:=Gw h0 U hN (d:=q) J q.l.length 0 s k c1 s k c2 [] J (Z?.mono J) (Z?.mono J) E w1 w2 (aw1 _);obtain⟨j1,j2⟩:=g1 rfl;rw [bj] at j1 j2;refine⟨l2,a,ka,ca,b,kb,cb,er,?_,?_,G6 l2 J,AW E2 V2 V2' x1⟩
   ·rw [bB,W5];simp only [Vo,zz,hA,bI];exact j1
   ·rw [bB,MA];simp only [KS,zz,hB,bI];exact j2
  ·have n0: ¬(0:Int)<(d1.l.length:Int):=J
   refine⟨.i 1,s,k,c1,s,k,c2,0,?_,?_,G6 (.i 1) ae,AW E Z? Z? w1⟩
   ·rw [bB,W5];simp only [Vo,zz,hA,bI];rw [bB,PJ];by_cases z:(0:Int)<(q.l.length:Int)
    ·simp only [Dy,zz,z,n0,bA]
    ·simp only [Dy,zz,z,bA]
   ·rw [bB,MA];simp only [KS,zz,hB,bI];rw [bB,Ho];by_cases z:(0:Int)<(q.l.length:Int)
    ·simp only [wb,zz,z,n0,bA]
    ·simp only [wb,zz,z,bA]
 ·have N:Inv 0 d0 d1 (.i 1) (.i 1):=by
   refine⟨0,⟨⟨.nil 7,fun x hx=>by simp [D.l] at hx⟩,.nil 8⟩,J,fun _=>by omega⟩
  refine⟨.i 1,.i 1,.i 1,.i 1,.i 1,.i 1,.i 1,er,?_,?_,G6 (.i 1) ae,AW (.pX _ _ _) N N (.nil 0)⟩
  ·rw [bB,W5];simp only [Vo,zz,hA,af hr,bA]
  ·rw [bB,MA];simp only [KS,zz,hB,af hr,bA]
theorem Gu {q:D} (hb:q.l.length<=60): ∀(j i:Nat) (s k c:D),i+j=q.l.length->Inv j d0 d1 s k->Wd (.sl 0) c->L 22751 [enc q,(q.l.length:Int),(i:Int),enc d0,enc d1,enc s,enc k,enc c]=some [1]
 |0,i,s,k,c,hi,Z?,hc=>by
  have c1: ¬(i:Int)<(q.l.length:Int):=J
  rw [bB,Ud];simp only [RN,zz,c1,bA]
 |j+1,i,s,k,c,hi,Z?,hc=>by
  have c1:(i:Int)<(q.l.length:Int):=J
  have c3: ¬(i:Int)<0:=J
  have w:=bx (n:=i) J;obtain⟨a,ka,ca,b,kb,cb,e1,e2,e3,e4,e5,oc,er,A1,A2,E2,V2,V2',w1,w2⟩:=Gv (t:=(q.at (i:Int)).n) h0 U Z? Z? (.pX s k c) hc hc;obtain⟨g,T1,T2,hg⟩:=XV (t:=(q.at (i:Int)).n) h0 U Z? Z? (.pX s k c) hc hc;have hS:=AW E2 V2 V2' w1;have ih:=Gu hb j (i+1) a ka ca J V2 w1;rw [bB,Ud];rcases hg with rfl|rfl
  all_goals
   simp only [RN,zz,zj,Cw,c1,c3,w,A1,A2,hS,T1,T2,fP,not_true_eq_false,and_self,and_false,false_and,not_false_eq_true];exact ih
theorem DU (s k:D) (hk:k.l.length<=140737488351232) (hB:bK 3800 [enc s] vG): ∀(j i:Nat) (x:Int),i+j=k.l.length->bK 22101 [x,(k.l.length:Int),(i:Int),enc s,enc k] vG
 |0,i,x,hi=>by
  have c1: ¬(i:Int)<(k.l.length:Int):=J
  obtain⟨ys,hB,g,rfl,hg⟩:=hB;refine bK.of ?_;rw [Uk];rcases hg with rfl|rfl
  ·simp only [K0,zz,c1,hB];exact .ite (fun _=> .out sV) fun _=> .out zD
  ·simp only [K0,zz,c1,hB,fP];exact .ite (fun _=> .out sV) fun _=> .out sV
 |j+1,i,x,hi=>by
  have c1:(i:Int)<(k.l.length:Int):=J
  have c2: ¬(i:Int)<0:=J
  have w:=bx (n:=i) J;refine bK.of ?_;rw [Uk];simp only [K0,zz,c1,c2,w];exact .jump (DU s k hk hB j (i+1) _ J)
theorem YI (hs:Wd (.sl 7) s) (hk:Wd (.sl 8) k) (hc:Wd (.sl 0) c):L 22750 [enc d0,enc d1,enc s,enc k,enc c,enc q]=some [1]:=by
 obtain⟨ys,hG,g,rfl,hg⟩:=YY (d0:=d0) U
 have hB:bK 3800 [enc s] vG:=by refine bK.of ?_;rw [ak9];simp only [ajE,zz];exact .jump (HP h0 U s hs.len s.l.length 0 _ J)
 have hM:bK 22100 [enc s,enc k] vG:=by refine bK.of ?_;rw [adh];simp only [O',zz];exact .jump (DU h0 U s k hk.len hB k.l.length 0 _ J)
 obtain⟨ys,hM,g',rfl,hg'⟩:=hM
 have S:Sw s k 17592186043904:=by
  refine⟨⟨hs,fun x hx=>?_⟩,hk⟩;obtain⟨o,c,d,gg,r,v,rfl,_,_,_,_,h5,h6⟩:=hs.j7 x hx;have a5:=h5.room;have a6:=h6.room;have e:l4 0=8:=rfl;rw [e] at a5 a6;simp only [dN]
  grind
 have Z?:=abe h0 U S J
 have key: ∀qt:D,qt.l.length<=60->∃(l a ka ca b kb cb:D) (er:Int),L 3150 [enc d0,enc d1,enc c,enc qt]=some [enc l,enc a,enc ka,enc ca,er]/\L 23100 [enc d0,enc d1,enc c,enc qt]=some [enc l,enc b,enc kb,enc cb,er]/\L 2450 [enc l,enc l]=some [1]/\L 3300 [enc a,enc ka,enc ca,enc b,enc kb,enc cb]=some [1]/\L 22751 [enc qt,(qt.l.length:Int),0,enc d0,enc d1,enc s,enc k,enc c]=some [1]:=fun qt h=>by obtain⟨l,a,ka,ca,b,kb,cb,er,q1,q2,q3,q4⟩:=OM h0 U hc h;have q5:=Gu h0 U h qt.l.length 0 s k c J (Z?.mono J) hc;rw [bj] at q5;exact⟨l,a,ka,ca,b,kb,cb,er,q1,q2,q3,q4,q5⟩
 have res:bK 22750 [enc d0,enc d1,enc s,enc k,enc c,enc q] (·= [1]):=by
  refine bK.of ?_;rw [ada];by_cases h60:(60:Int)<(q.l.length:Int)
  ·obtain⟨l,a,ka,ca,b,kb,cb,er,q1,q2,q3,q4,q5⟩:=key (fu q (q.l.take (Int.toNat 60))) (by rw [bP,aY]; omega);simp only [RO,zz,hG,hM,h60,q1,q2,q3,q4,fP];exact aiA
  ·obtain⟨l,a,ka,ca,b,kb,cb,er,q1,q2,q3,q4,q5⟩:=key (fu q (q.l.take (Int.toNat (q.l.length:Int)))) (by rw [bP,aY]; omega);have hle: ¬(q.l.length:Int)<(q.l.length:Int):=J
   simp only [RO,zz,hG,hM,h60,hle,q1,q2,q3,q4,fP];exact aiA
 obtain⟨ys,h,rfl⟩:=res;exact h
end
end
end Go.As.Try
end
section
namespace Go.Proofs.YteclpbehflfjiacGreatDoor.fnKendoTells
open Go hiding Stat
open Go.As Go.As.Try Go.Proofs Go.RowKit Go.ChangeShapes Go.WideShapes Go.ChangeAt
set_option maxRecDepth 100000
theorem agq:tW Tryz.prog aax 8 25=some [.sl 3,.sl 4]:=aa
theorem agp:tW Tryz.prog aax 8 32=some [.sl 7,.sl 8,.sl 0]:=aa
theorem ago:tW Tryz.prog aax 8 33=some [.sl 0]:=aa
theorem HI {H:Type} {enc:TypeId×Value->H} {Z!:World} {t:TypeId} {v:Value} {d:DataW H} {p:List MemPlace} {Iy:List CK} (hf:tW Tryz.prog aax 8 t=some Iy) (h:DataW.Trod enc Tryz.prog Z! 0 (fun _=>true) true t v d p) (hw:(d.weights Tryz.prog t).all (·<=reachBytes)=true) :
 ∃ds,Rs (Sr Z!) Z!.heap Iy ds v.cells.toList:=by
 obtain⟨fuel,hx⟩:=h;exact Ln afO fuel t 8 Iy v.cells.toList (d,p) hf hx hw
theorem asu:22750∈S.Eu 3:=by
 have h:S.Eu 3= [22750]:=aa
 rw [h];simp
theorem aed (H:Type) (enc:TypeId×Value->H) (Z!:World) (base:Nat) (args:Array Value) (ds gs:List (DataW H)) (before:List MemPlace)
 (Ir: ∀(j:Nat) t v,Tryz.f3.params[j]?=some t->args[j]?=some v->Value.okWide Tryz.prog Z! .any base t v)
 (hW:DataW.Whole enc Tryz.prog Tryz.f3.params.toList Rows.kendoTellsSpec.vars false Z! args.toList ds gs before)
 (jl:(DataW.weightsEach Tryz.prog (Tryz.f3.params.toList++ []) (ds++gs)).all (·<=reachBytes)=true) (Ag:Z!.ShapedOpen Tryz.prog) :
 Calls Tryz.prog 3 args Z! fun e W'=> ∃v,e= .returned v/\Rows.kendoTellsSpec.post enc Tryz.prog Tryz.f3 false true false false Z! args v W':=by
 have hW':=hW;obtain⟨p,q,hA0,hV,rfl,hfz,hnd⟩:=hW;have hA:DataW.TrodAll enc Tryz.prog Z! 0 (fun _=>true) true Tryz.f3.params.toList args.toList ds p:=hA0;rw [Tryz.params3] at hA Ir jl;obtain⟨v0,vs0,d0,ds0,p0,q0,akg,rfl,rfl,h0,r0⟩:=trodAll_cons hA;obtain⟨v1,vs1,d1,ds1,p1,q1,rfl,rfl,rfl,U,r1⟩:=trodAll_cons r0;obtain⟨v2,vs2,d2,ds2,p2,q2,rfl,rfl,rfl,Z,r2⟩:=trodAll_cons r1;obtain⟨rfl,rfl,rfl⟩:=trodAll_nil r2;obtain rfl:args= #[v0,v1,v2]:=by cases args; simp_all
 obtain⟨rfl,rfl⟩:=trodVars_none hV;clear hA0;simp only [awU] at hW';have gk: ∀x∈p0++(p1++p2),x.block<Z!.heap.size:=fun x hx=>by simpa using hW'.lt x (by simpa using hx)
 have avG: ∀x∈p0,x.block<Z!.heap.size:=fun x hx=>gk x (ayz _ hx);have avF: ∀x∈p1,x.block<Z!.heap.size:=fun x hx=>gk x (ayc _ (ayz _ hx));have avE: ∀x∈p2,x.block<Z!.heap.size:=fun x hx=>gk x (ayc _ (ayc _ hx))
 have aox:(d0.weights Tryz.prog 25).all (·<=reachBytes)=true/\(d1.weights Tryz.prog 32).all (·<=reachBytes)=true/\(d2.weights Tryz.prog 33).all (·<=reachBytes)=true:=by have:(DataW.weightsEach Tryz.prog [25,32,33] [d0,d1,d2]).all (·<=reachBytes)=true:=jl;simp only [DataW.weightsEach,aya,an] at this;exact⟨this.1,this.2.1,this.2.2.1⟩
 obtain⟨es0,R0⟩:=HI agq h0 aox.1;obtain⟨es1,R1⟩:=HI agp U aox.2.1;obtain⟨es2,R2⟩:=HI ago Z aox.2.2;obtain⟨cs0,rfl,_⟩:=okWide_struct Tryz.underlying25 (Ir 0 25 v0 rfl rfl);have e0:(Value.agg cs0).cells.toList=cs0.toList:=rfl;obtain⟨cs1,rfl,_⟩:=okWide_struct Tryz.underlying32 (Ir 1 32 v1 rfl rfl);have e1:(Value.agg cs1).cells.toList=cs1.toList:=rfl;obtain⟨ad2,fY,Zk,rfl⟩:=okWide_slice Tryz.underlying33 (Ir 2 33 v2 rfl rfl);have e2:(Value.slice ad2 fY Zk).cells.toList= [.slice ad2 fY Zk]:=rfl;rw [e0] at R0;rw [e1] at R1;rw [e2] at R2
 match es0,avW:cs0.toList,R0 with
 |[x0,x1],[u0,u1],.cons r0_ w0 (.cons r1_ w1 .nil)=>
  obtain rfl:cs0= #[u0,u1]:=by rw [<- Array.toArray_toList (xs:=cs0),avW]
  match es1,avV:cs1.toList,R1 with
  |[x2,x3,x4],[u2,u3,u4],.cons r2_ w2 (.cons r3_ w3 (.cons r4_ w4 .nil))=>
   obtain rfl:cs1= #[u2,u3,u4]:=by rw [<- Array.toArray_toList (xs:=cs1),avV]
   match es2,R2 with
   |[x5],.cons r5_ w5 .nil=> have hL:=YI (q:=x5) w0 w1 w2 w3 w4;refine (aek (g:=3) (j:=22750) (e:=(auD aiV 128).ent) asu aa rfl rfl hL Ag (vals:=[.agg [u0,u1].toArray,.agg [u2,u3,u4].toArray,.slice ad2 fY Zk]) (fl:=[u0,u1,u2,u3,u4,.slice ad2 fY Zk]) (.agg _ [u0,u1] rfl (.agg _ [u2,u3,u4] rfl (.one _ _ .nil))) ⟨_,_,_,_,rfl,rfl,ua r0_,_,_,_,_,rfl,rfl,ua r1_,_,_,_,_,rfl,rfl,ua r2_,_,_,_,_,rfl,rfl,ua r3_,_,_,_,_,rfl,rfl,ua r4_,_,_,_,_,rfl,rfl,ua r5_,rfl,rfl⟩).mono fun e W' ⟨he,hb⟩=>?_;subst he;exact⟨_,rfl,⟨_,_,_,[],_,[],hW',trodAll_mk1 (shut_bool Tryz.underlying4 _),trodAll_mk3 (Below.trod laidOut aa (of_decide_eq_true aa) h0 hb avG) (Below.trod laidOut aa (of_decide_eq_true aa) U hb avF) (Below.trod laidOut aa (of_decide_eq_true aa) Z hb avE),rfl,hb.frame _,fun h=>by cases h⟩⟩
abbrev Va:Array Value:=#[.agg #[.slice none 0 0,.slice none 0 0],.agg #[.slice none 0 0,.slice none 0 0,.slice none 0 0],.slice none 0 0]
theorem aaZ (os:Os):laidMet Tryz.prog Rows.kendoTellsRow.laid ((CW os).forCall (fun _ _=>0) ⟨#[],Va,[]⟩).memory:=
 laidMet_of_run' 8 aa aa
theorem reads (os:Os) {H:Type} (enc:TypeId×Value->H): ∃places,DataW.whole enc Tryz.prog ((CW os).forCall (fun _ _=>0) ⟨#[],Va,[]⟩).memory Tryz.f3.params.toList [] false Va.toList 8=some ([.agg [.nil,.nil],.agg [.agg [.nil,.nil],.nil],.nil],[],places):=
 ⟨[],aa⟩
set_option maxHeartbeats 400000 in
theorem lifted (os:Os) (started:os.Started) (H:Type) (enc:TypeId×Value->H) (F:Stop.Interp) :
 ReturnsInHanded {} Tryz.checked os 3 .any ((OpenSpec.ofChange Rows.kendoTellsSpec).preRow enc Tryz.prog Tryz.f3 Rows.kendoTellsRow.domain false Rows.kendoTellsRow.laid) (((OpenSpec.ofChange Rows.kendoTellsSpec).at F).post enc Tryz.prog Tryz.f3 false true false false):=by
 obtain⟨places,hx⟩:=reads os enc
 refine returnsInHanded_of_row (C:=Tryz.checked) (s:=OpenSpec.ofChange Rows.kendoTellsSpec) Try.own started aa Tryz.func3
  (witness_row_at (enc:=enc) (C:=Tryz.checked) false (CW os) Va rfl aa aa aa
   (OpenSpec.preRow_of_cond 8 hx aa (fun k hk=>by cases hk) aa (aaZ os))) ?_
 intro Z! base args ds gs before Ir hW _ _ jl _ Ag _;exact aed H enc Z! base args ds gs before Ir hW jl Ag
theorem iI {a b:Bool} (U:a=true) (Z:b=true):(a&&b)=true:=by rw [U,Z]; rfl
theorem closed:joinedFacts Tryz.pinned.checked.prog 3 Tryz.f3 (OpenSpec.ofChange Rows.kendoTellsSpec).bare Rows.kendoTellsRow=true:=(iI (iI (iI (iI (iI (iI (iI (iI (iI (iI (iI (iI (iI (iI (iI (iI (iI (iI (iI (iI (iI (iI (iI (iI (iI (iI (iI (iI (iI (iI (iI aa aa) aa) aa) aa) aa) aa) aa) aa) aa) aa) aa) aa) aa) aa) aa) aa) aa) aa) aa) aa) aa) aa) aa) aa) aa) aa) aa) aa) aa) aa) aa)
theorem said:Rows.KendoTellsSaid:=
 OpenClaim.holds_of_cond 3 Tryz.f3 rfl rfl rfl rfl rfl rfl rfl ⟨rfl,rfl,rfl,rfl,rfl⟩ rfl rfl rfl rfl rfl aa Tryz.func3 closed
  (of_decide_eq_true aa) (by unfold Func.isWrapper; first |(rw [ag (by decide +kernel)]; kernel_rfl)|(rw [af (by decide +kernel)]; exact⟨rfl,rfl⟩))
  (fun os started H enc _ F=>by rw [OpenClaim.pre_eq_preRow]; exact lifted os started H enc F)
theorem plain (f:FuncId) (fn:Func) (hf:Tryz.pinned.checked.prog.funcNamed "amanuensis/amanuensislaw18.KendoTells" = some f) (vO:Tryz.pinned.checked.prog.funcs[f]?=some fn) :
 false=Tryz.pinned.checked.prog.looks []/\∀(j:Nat) t,fn.params[j]?=some t->Tryz.pinned.checked.prog.wantsStandIn t=false:=by
 obtain rfl:f=3:=Option.some.inj ((show Tryz.prog.funcNamed "amanuensis/amanuensislaw18.KendoTells" = some 3 by kernel_rfl).symm.trans hf) |>.symm;obtain rfl:fn=Tryz.f3:=(Option.some.inj (Tryz.func3.symm.trans vO)).symm;refine⟨aa,fun j t ht=>?_⟩;rw [Tryz.params3] at ht;have hm:=ayr ht;simp only [List.mem_toArray,aF,aw7,or_false] at hm;rcases hm with rfl|rfl|rfl
 all_goals exact (by kernel_rfl:Tryz.prog.wantsStandIn _=false)
theorem card:Rows.KendoTellsCardSaid:=
 Claim7.holds_tied_plain_at .later [] _ _ _ _ said (fun _ h=>by cases h) aa (fun _ h=>by cases h) kendoTells_row_tie rfl ⟨rfl,rfl⟩ aa rfl plain aa
end Go.Proofs.YteclpbehflfjiacGreatDoor.fnKendoTells
end

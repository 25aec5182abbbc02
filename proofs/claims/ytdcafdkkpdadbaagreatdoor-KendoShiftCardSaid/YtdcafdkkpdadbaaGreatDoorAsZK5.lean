/-
  Proved: the given card of the law KendoShift: whatever the input, the call returns true and each argument reads afterwards as it did. Conditions: those of the given row alone (its listed package-level variables start as the program's text lays them; each string, slice and map that is handed in lies within a process's addresses).
-/
import Derived.Test.YtdcafdkkpdadbaaGreatDoorAsZK4
set_option linter.unusedSectionVars false
set_option linter.unusedVariables false
set_option linter.unusedSimpArgs false
section
namespace Go.As.Try
open Go hiding Stat Spec shape
open Go.As
set_option maxRecDepth 100000
structure Ck (M:Int) (c:D):Prop where
 wd:Wd (.sl 0) c
 rng: ∀u:Nat,u < c.l.length→0≤(c.at (u:Int)).n∧(c.at (u:Int)).n≤M
structure Sh (B:Int) (c c':D):Prop where
 len:c'.l.length=c.l.length
 at': ∀u:Nat,u < c.l.length→(c'.at (u:Int)).n=(c.at (u:Int)).n+B
theorem Vq (c:D) (u x:Int) {v:Nat} (hv:v < c.l.length):((dL (fD c.l u (.i x))).at (v:Int)).n=if (v:Int)=u then x else (c.at (v:Int)).n:=by
 by_cases h:(v:Int)=u
 ·subst h
  rw [if_pos rfl,arP (s:=dL (fD c.l (v:Int) (.i x))) (i:=v) (x:=.i x) (by rw [aX]; exact WV hv)]
  rfl
 ·rw [if_neg h]
  have e:(dL (fD c.l u (.i x))).at (v:Int)=c.at (v:Int):=by
   rw [wX,wX,aX,WU h]
  rw [e]
theorem asE {c:D} (hc:Wd (.sl 0) c) (hp:0 < c.l.length) (z:Int) {v:Int} (hv:iM .i64 v):Wd (.sl 0) (dL (fD c.l z (.i v))):=by
 have:=hc.room
 have h3:vU 0=8:=rfl
 rw [h3] at this
 have hs:=eX c.l z (.i v)
 refine vW (fun y hy=>?_) (fun he=>?_) (by rw [hs]; omega)
 ·rcases xZ hy with h | rfl
  ·exact (hc.el1 rfl y h).i
  ·exact⟨v,rfl,hv⟩
 ·rw [he] at hs
  simp only [List.length_nil] at hs
  omega
theorem abU {M:Int} {c:D} (C:Ck M c) (hp:0 < c.l.length) (hM:M≤Pj) (z:Int) {v:Int} (v0:0≤v) (v1:v≤M):Ck M (dL (fD c.l z (.i v))):=by
 refine⟨asE C.wd hp z ⟨by omega,by unfold Pj at hM; omega⟩,fun u hu=>?_⟩
 rw [aX,eX] at hu
 rw [Vq c z v hu]
 split
 ·exact⟨v0,v1⟩
 ·exact C.rng u hu
theorem Ck.mono {M M':Int} {c:D} (C:Ck M c) (h:M≤M'):Ck M' c:=⟨C.wd,fun u hu=>by have:=C.rng u hu; omega⟩
theorem Ck.at {M:Int} {c:D} (C:Ck M c) {t:Int} (t0:0≤t) (t1:t < (c.l.length:Int)):0≤(c.at t).n∧(c.at t).n≤M:=by
 obtain⟨i,rfl⟩ : ∃i:Nat,t=(i:Int):=⟨t.toNat,by omega⟩
 exact C.rng i (by omega)
theorem Vo {M:Int} {c:D} (C:Ck M c) (hp:0 < c.l.length) (hM:M≤Pj) {u n:Int} (u0:0≤u) (u1:u < (c.l.length:Int)) (n0:0≤n) (n1:n≤M):Ck M (bump c u n):=by
 unfold bump
 have:=C.at u0 u1
 refine abU C hp hM u ?_ ?_ <;> (split <;> omega)
theorem ahT {M:Int} {n:Int} (hM:M≤Pj) (n0:0≤n) (n1:n≤M): ∀(l:List D) (c:D),Ck M c→0 < c.l.length→(∀x∈l,0≤x.n∧x.n < (c.l.length:Int))→Ck M (wkB n l c)∧(wkB n l c).l.length=c.l.length
 | [],c,C,_,_=> ⟨C,rfl⟩
 | x :: l,c,C,hp,h=>by
   have hx:=h x List.mem_cons_self
   have e:=BX c x.n n
   have:=ahT hM n0 n1 l (bump c x.n n) (Vo C hp hM hx.1 hx.2 n0 n1) (by omega) (fun y hy=>by rw [e]; exact h y (List.mem_cons_of_mem _ hy))
   rw [e] at this
   exact this
theorem Ym {M:Int} {n o g:Int} (hM:M≤Pj) (n0:0≤n) (n1:n≤M): ∀(l:List D) (i:Nat) (c:D),Ck M c→0 < c.l.length→i+l.length≤c.l.length→Ck M (wkA o g n l i c)∧(wkA o g n l i c).l.length=c.l.length
 | [],i,c,C,_,_=> ⟨C,rfl⟩
 | x :: l,i,c,C,hp,h=>by
   simp only [List.length_cons] at h
   unfold wkA
   split
   ·have e:=BX c (i:Int) n
    have:=Ym (o:=o) (g:=g) hM n0 n1 l (i+1) (bump c (i:Int) n) (Vo C hp hM (by omega) (by omega) n0 n1) (by omega) (by omega)
    rw [e] at this
    exact this
   ·exact Ym hM n0 n1 l (i+1) c C hp (by omega)
theorem ahR {M:Int} {s s' k' c:D} {e2 e3 e4 n:Int} (W:axK s s' k' e2 e3 e4 c.l.length) (C:Ck M c) (hp:0 < c.l.length) (hM:M≤Pj) (n0:0≤n) (n1:n≤M):Ck M (wkM s s' k' e2 e3 e4 c n)∧(wkM s s' k' e2 e3 e4 c n).l.length=c.l.length:=by
 unfold wkM
 split
 ·rename_i h
  split
  ·rename_i h'
   obtain⟨w0,w1⟩:=W.sig h h'
   exact⟨Vo C hp hM w0 w1 n0 n1,BX _ _ _⟩
  ·exact⟨C,rfl⟩
 ·split
  ·rename_i h
   exact ahT hM n0 n1 _ c C hp (W.brd h).2.2.1
  ·split
   ·split
    ·exact Ym hM n0 n1 _ 0 c C hp (by have:=W.lk; omega)
    ·exact⟨C,rfl⟩
   ·exact⟨C,rfl⟩
theorem aaM {M:Int} {c:D} (C:Ck M c) {t:Int} (t0:0≤t) (t1:t < (c.l.length:Int)) (hM:M < Pj):Ck (M+1) (tick c t):=by
 have:=C.at t0 t1
 exact abU (C.mono (by omega)) (by omega) (by omega) t (by omega) (by omega)
theorem EX (c:D) (t:Int):(tick c t).l.length=c.l.length:=by rw [aX,eX]
theorem Sh.at {B:Int} {c c':D} (h:Sh B c c') {t:Int} (t0:0≤t) (t1:t < (c.l.length:Int)):(c'.at t).n=(c.at t).n+B:=by
 obtain⟨i,rfl⟩ : ∃i:Nat,t=(i:Int):=⟨t.toNat,by omega⟩
 exact h.at' i (by omega)
theorem abT {B:Int} {c c':D} (h:Sh B c c') (z:Int) {v v':Int} (hv:0≤z→z < (c.l.length:Int)→v'=v+B):Sh B (dL (fD c.l z (.i v))) (dL (fD c'.l z (.i v'))):=by
 refine⟨by rw [aX,aX,eX,eX]; exact h.len,fun u hu=>?_⟩
 rw [aX,eX] at hu
 rw [Vq c z v hu,Vq c' z v' (by rw [h.len]; exact hu)]
 split
 ·exact hv (by omega) (by omega)
 ·exact h.at' u hu
theorem Vm {B:Int} {c c':D} (h:Sh B c c') (u n:Int):Sh B (bump c u n) (bump c' u (n+B)):=by
 unfold bump
 refine abT h u fun u0 u1=>?_
 have:=h.at u0 u1
 split <;> split <;> omega
theorem asN {B:Int} {c c':D} (h:Sh B c c') (t:Int):Sh B (tick c t) (tick c' t):=abT h t fun t0 t1=>by have:=h.at t0 t1; omega
theorem ahS {B n:Int}: ∀(l:List D) {c c':D},Sh B c c'→Sh B (wkB n l c) (wkB (n+B) l c')
 | [],_,_,h=>h
 | x :: l,_,_,h=>ahS l (Vm h x.n n)
theorem Yl {B n o g:Int}: ∀(l:List D) (i:Nat) {c c':D},Sh B c c'→Sh B (wkA o g n l i c) (wkA o g (n+B) l i c')
 | [],_,_,_,h=>h
 | x :: l,i,_,_,h=>by
   unfold wkA
   split
   ·exact Yl l (i+1) (Vm h (i:Int) n)
   ·exact Yl l (i+1) h
theorem aAL {B n:Int} {s s' k' c c':D} {e2 e3 e4:Int} (h:Sh B c c'):Sh B (wkM s s' k' e2 e3 e4 c n) (wkM s s' k' e2 e3 e4 c' (n+B)):=by
 unfold wkM
 split
 ·split
  ·exact Vm h _ n
  ·exact h
 ·split
  ·exact ahS _ h
  ·split
   ·split
    ·exact Yl _ 0 h
    ·exact h
   ·exact h
theorem asC {B n n':Int} {s s' k' c c':D} {e2 e3 e4:Int} (h:Sh B c c') (hn:n'=n+B):Sh B (wkM s s' k' e2 e3 e4 c n) (wkM s s' k' e2 e3 e4 c' n'):=by rw [hn]; exact aAL h
theorem asH {B:Int} {c c':D} (h:Sh B c c') {cnt:Int→Int} {t:Int} (t0:0≤t) (t1:t < (c.l.length:Int)):Cm cnt c t↔Cm cnt c' t:=by
 have ht:=h.at t0 t1
 unfold Cm
 rw [h.len]
 refine⟨fun⟨q,g⟩=> ⟨q,fun u hu ha=>g u hu ?_⟩,fun⟨q,g⟩=> ⟨q,fun u hu ha=>g u hu ?_⟩⟩
 all_goals
  have:=h.at' u hu
  omega
theorem qN {d0 d1 s k:D} {t:Int} {x y:KT} (R:Rs d0 d1 s k t x) (R':Rs d0 d1 s k t y):x=y:=by
 have h:=R.hk.symm.trans R'.hk
 simp only [KT.d,iQ,kT,D.p.injEq,D.i.injEq,and_true] at h
 obtain⟨h1,h2,h3,h4,h5,h6⟩:=h
 cases x; cases y
 simp only at h1 h2 h3 h4 h5 h6
 subst h1 h2 h3 h4 h5 h6
 rfl
structure aEX (d0 d1 s k c c':D) (t:Int) (n:Nat) (B M M':Int) (s' k' cn D8:D) (e1 e2 e3 e4 e5 oc:Int):Prop where
 one:L 3100 [enc d0,enc d1,enc s,enc k,enc c,t]=some [enc s',enc k',enc cn,e1,e2,e3,e4,e5,oc,0]
 two:L 3100 [enc d0,enc d1,enc s,enc k,enc c',t]=some [enc s',enc k',enc D8,e1,e2,e3,e4,e5,oc,0]
 sh:Sh B cn D8
 ck:Ck (M+1) cn
 ck':Ck (M'+1) D8
 sx:Sx s' k' (n+1)
section
variable {d0 d1 s k:D} {n:Nat} (S:Sx s k n) (hn:n < 17592186043904) (h0:Wd (.sl 3) d0) (h1:Wd (.sl 4) d1)
include S hn h0 h1
theorem agB {B M M':Int} {c c':D} (h:Sh B c c') (C:Ck M c) (C':Ck M' c') (hM:M < Pj) (hM':M' < Pj) (t:Int): ∃s' k' cn D8 e1 e2 e3 e4 e5 oc,aEX d0 d1 s k c c' t n B M M' s' k' cn D8 e1 e2 e3 e4 e5 oc:=by
 obtain⟨s1,k1,c1,a1,a2,a3,a4,a5,o1,r1,L1,H1⟩:=Js S hn h0 h1 C.wd t
 obtain⟨s2,k2,c2,b1,b2,b3,b4,b5,o2,r2,L2,H2⟩:=Js S hn h0 h1 C'.wd t
 have hKR:KR d0 d1 s k c↔KR d0 d1 s k c':=by
  unfold KR
  rw [h.len]
  exact⟨fun q=> ⟨q.1,fun u hu=>(C'.rng u (by rw [h.len]; exact hu)).1,q.2.2⟩,fun q=> ⟨q.1,fun u hu=>(C.rng u hu).1,q.2.2⟩⟩
 have m1:KR d0 d1 s k c→0≤t→t < (d1.l.length:Int)→(c.at t).n≠Pj∧(c'.at t).n≠Pj∧(Cm (GN d0 d1 s k) c t↔Cm (GN d0 d1 s k) c' t)∧(c'.at t).n=(c.at t).n+B:=fun K t0 t1=>by
  have hl:=K.1
  have q1:=C.at t0 (by omega)
  have hl':=h.len
  have q2:=C'.at t0 (by omega)
  exact⟨by omega,by omega,asH h t0 (by omega),h.at t0 (by omega)⟩
 have stay: ∀oc:Int,L 3100 [enc d0,enc d1,enc s,enc k,enc c,t]=some [enc s,enc k,enc c,0,0,0,0,0,oc,0]→L 3100 [enc d0,enc d1,enc s,enc k,enc c',t]=some [enc s,enc k,enc c',0,0,0,0,0,oc,0]→∃s' k' cn D8 e1 e2 e3 e4 e5 oc,aEX d0 d1 s k c c' t n B M M' s' k' cn D8 e1 e2 e3 e4 e5 oc:=fun oc q q'=>
  ⟨s,k,c,c',0,0,0,0,0,oc,q,q',h,C.mono (by omega),C'.mono (by omega),S.mono (Nat.le_succ n)⟩
 cases H1 with
 | no hno=>
   cases H2 with
   | no _=>exact stay _ L1 L2
   | over y K R ho=>exact absurd ⟨R.r.t0,R.r.t1,hKR.2 K⟩ hno
   | asl y K R ho ha=>exact absurd ⟨R.r.t0,R.r.t1,hKR.2 K⟩ hno
   | wait y K R ho ha hq ht=>exact absurd ⟨R.r.t0,R.r.t1,hKR.2 K⟩ hno
   | full y K R ho ha ht hm=>exact absurd ⟨R.r.t0,R.r.t1,hKR.2 K⟩ hno
   | go y K R ho ha hq hm=>exact absurd ⟨R.r.t0,R.r.t1,hKR.2 K⟩ hno
 | over x K R ho=>
   cases H2 with
   | no hno=>exact absurd ⟨R.r.t0,R.r.t1,hKR.1 K⟩ hno
   | over y K' R' ho'=>exact stay _ L1 L2
   | asl y K' R' ho' ha'=>rw [qN R R'] at ho; omega
   | wait y K' R' ho' ha' hq' ht'=>rw [qN R R'] at ho; omega
   | full y K' R' ho' ha' ht' hm'=>rw [qN R R'] at ho; omega
   | go y K' R' ho' ha' hq' hm'=>rw [qN R R'] at ho; omega
 | asl x K R ho ha=>
   cases H2 with
   | no hno=>exact absurd ⟨R.r.t0,R.r.t1,hKR.1 K⟩ hno
   | over y K' R' ho'=>rw [qN R R'] at ho; omega
   | asl y K' R' ho' ha'=>exact stay _ L1 L2
   | wait y K' R' ho' ha' hq' ht'=>rw [qN R R'] at ha; exact absurd ha' ha
   | full y K' R' ho' ha' ht' hm'=>rw [qN R R'] at ha; exact absurd ha' ha
   | go y K' R' ho' ha' hq' hm'=>rw [qN R R'] at ha; exact absurd ha' ha
 | wait x K R ho ha hq ht=>
   obtain⟨n1,n2,n3,_⟩:=m1 K R.r.t0 R.r.t1
   cases H2 with
   | no hno=>exact absurd ⟨R.r.t0,R.r.t1,hKR.1 K⟩ hno
   | over y K' R' ho'=>rw [qN R R'] at ho; omega
   | asl y K' R' ho' ha'=>rw [qN R R'] at ha; exact absurd ha ha'
   | wait y K' R' ho' ha' hq' ht'=>exact stay _ L1 L2
   | full y K' R' ho' ha' ht' hm'=>exact absurd hm' n2
   | go y K' R' ho' ha' hq' hm'=>
     rw [qN R R'] at hq
     rcases hq with hq | hq
     ·rcases hq' with hq' | hq'
      ·exact absurd hq' hq
      ·exact absurd (n3.2 hq') ht
     ·exact absurd hq n1
 | full x K R ho ha ht hm=>
   obtain⟨n1,_⟩:=m1 K R.r.t0 R.r.t1
   exact absurd hm n1
 | go x K R ho ha hq hm s' k' e1 e2 e3 e4 e5 oc hL H W=>
   obtain⟨n1,n2,n3,n4⟩:=m1 K R.r.t0 R.r.t1
   cases H2 with
   | no hno=>exact absurd ⟨R.r.t0,R.r.t1,hKR.1 K⟩ hno
   | over y K' R' ho'=>rw [qN R R'] at ho; omega
   | asl y K' R' ho' ha'=>rw [qN R R'] at ha; exact absurd ha ha'
   | wait y K' R' ho' ha' hq' ht'=>
     rw [qN R R'] at hq
     rcases hq' with hq' | hq'
     ·rcases hq with hq | hq
      ·exact absurd hq hq'
      ·exact absurd (n3.1 hq) ht'
     ·exact absurd hq' n2
   | full y K' R' ho' ha' ht' hm'=>exact absurd hm' n2
   | go y K' R' ho' ha' hq' hm' s2' k2' f1 f2 f3 f4 f5 oc' hL' H' W'=>
     rw [hL] at hL'
     simp only [Option.some.injEq,List.cons.injEq,and_true] at hL'
     obtain⟨q1,q2,rfl,rfl,rfl,rfl,rfl,rfl⟩:=hL'
     have q1:=kJ q1
     have q2:=kJ q2
     subst q1 q2
     have t0:=R.r.t0
     have tc:t < (c.l.length:Int):=by have:=K.1; have:=R.r.t1; omega
     have tc':t < (c'.l.length:Int):=by have:=h.len; omega
     have hc:=C.at t0 tc
     have hc':=C'.at t0 tc'
     have k1:=ahR (n:=(c.at t).n+1) (by rw [EX]; exact W) (aaM C t0 tc hM) (by rw [EX]; omega) (by omega) (by omega) (by omega)
     have k2:=ahR (n:=(c'.at t).n+1) (by rw [EX]; exact W') (aaM C' t0 tc' hM') (by rw [EX]; omega) (by omega) (by omega) (by omega)
     exact⟨_,_,_,_,_,_,_,_,_,_,L1,L2,asC (asN h t) (by omega),k1.1,k2.1,(VY S hn h0 h1 H).1⟩
end
end Go.As.Try
end
section
namespace Go.As.Try
open Go hiding Stat Spec shape
open Go.As
set_option maxRecDepth 100000
section
variable {d0 d1:D} (h0:Wd (.sl 3) d0) (h1:Wd (.sl 4) d1)
include h0 h1
theorem Rn {s k c:D} (hc:Wd (.sl 0) c) (hB:L 1450 [enc d0,enc d1]=some [enc s,enc k,0]) (S:Sx s k 0):(KR d0 d1 s k c→L 2800 [enc d0,enc d1,enc c]=some [enc s,enc k,enc c,0])∧(¬KR d0 d1 s k c→L 2800 [enc d0,enc d1,enc c]=some [enc (.i 1),enc (.i 1),enc (.i 1),2]):=by
 obtain⟨ys,hK,b,rfl,hb⟩:=Rj (k:=k) h0 h1 (S.g.few (by omega)).rows hc.len
 have h12: ∀z:Int,z=1∨z=2→True:=fun _ _=>trivial
 rcases hb with ⟨rfl,hN⟩ | ⟨rfl,hY⟩
 ·refine⟨fun h=>absurd h hN,fun _=>?_⟩
  rw [aT,adM]
  rcases bG hc with rfl | rfl | ⟨r1,r2⟩
  ·simp only [Fe,zz,hB,len1,len2,oK,iO,hK,aH]
  ·simp only [Fe,zz,hB,len1,len2,oK,iO,hK,aH]
  ·simp only [Fe,zz,hB,r1,r2,hK,aH]
 ·refine⟨fun _=>?_,fun h=>absurd hY h⟩
  rw [aT,adM]
  rcases bG hc with rfl | rfl | ⟨r1,r2⟩
  ·simp only [Fe,zz,hB,len1,len2,oK,iO,hK,aH,aA]
  ·simp only [Fe,zz,hB,len1,len2,oK,iO,hK,aH,aA]
  ·simp only [Fe,zz,hB,r1,r2,hK,aH,aA]
theorem Rl {c:D} {z:Int} (hz:z≠0) (hB:L 1450 [enc d0,enc d1]=some [enc (.i 1),enc (.i 1),z]):L 2800 [enc d0,enc d1,enc c]=some [enc (.i 1),enc (.i 1),enc (.i 1),z]:=by
 rw [aT,adM]
 simp only [Fe,zz,hB,if_neg hz,aH]
end
structure aCL (B M M':Int) (l s k c c':D) (n:Nat):Prop where
 sh:Sh B c c'
 ck:Ck M c
 ck':Ck M' c'
 sx:Sx s k n
 ll:l.l.length≤n
section
variable {d0 d1 d:D} (h0:Wd (.sl 3) d0) (h1:Wd (.sl 4) d1) (hn:0 < d1.l.length) (hd:d.l.length≤1000) {B:Int}
include h0 h1 hn hd
theorem Rk {M M':Int} (hM:M≤4611686018427387904) (hM':M'≤4611686018427387904): ∀(j i:Nat) (s k c c':D) (l:List D),i+j=d.l.length→Sx s k i→Ck (M+i) c→Ck (M'+i) c'→Sh B c c'→l.length≤i→
 ∃l2 s2 k2 cn D8:D,aCL B (M+1000) (M'+1000) l2 s2 k2 cn D8 1000∧
 (l= []→L 3151 [enc d,(d1.l.length:Int),(i:Int),enc d0,enc d1,enc s,enc k,enc c]=some [enc l2,enc s2,enc k2,enc cn,0]∧L 3151 [enc d,(d1.l.length:Int),(i:Int),enc d0,enc d1,enc s,enc k,enc c']=some [enc l2,enc s2,enc k2,enc D8,0])∧
 (l≠[]→L 3152 [enc d,enc (dL l),(d1.l.length:Int),(i:Int),enc d0,enc d1,enc s,enc k,enc c]=some [enc l2,enc s2,enc k2,enc cn,0]∧L 3152 [enc d,enc (dL l),(d1.l.length:Int),(i:Int),enc d0,enc d1,enc s,enc k,enc c']=some [enc l2,enc s2,enc k2,enc D8,0])
 | 0,i,s,k,c,c',l,hi,S,C,C',h,hl=>by
   have c1: ¬(i:Int) < (d.l.length:Int):=by omega
   refine⟨if l= [] then .i 1 else dL l,s,k,c,c',⟨h,C.mono (by omega),C'.mono (by omega),S.mono (by omega),?_⟩,fun hz=>?_,fun hz=>?_⟩
   ·split
    ·simp [D.l]
    ·rw [aX]; omega
   ·rw [if_pos hz,aT,aT,adL]
    simp only [I5,zz,c1,aH,and_self]
   ·rw [if_neg hz,aT,aT,aoU]
    simp only [PD,zz,c1,aH,and_self]
 | j+1,i,s,k,c,c',l,hi,S,C,C',h,hl=>by
   have hil:i < d.l.length:=by omega
   have c1:(i:Int) < (d.l.length:Int):=by omega
   have c2:(0:Int) < (d1.l.length:Int):=by omega
   have c3: ¬((i:Int) < 0):=by omega
   have w:=bC (n:=i) (by omega)
   have hb:=h1.len
   have pk:=afK (x:=(d.at (i:Int)).n) c2 (by omega)
   have c7:(l.length:Int) < 3518437208882:=by omega
   obtain⟨s',k',cn,D8,e1,e2,e3,e4,e5,oc,K⟩:=agB S (by omega) h0 h1 h C C' (by unfold Pj; omega) (by unfold Pj; omega) (alA (d.at (i:Int)).n (d1.l.length:Int))
   have A1:=K.one
   have A2:=K.two
   obtain⟨l2,s2,k2,cm,cm',P,ih1,ih2⟩:=Rk hM hM' j (i+1) s' k' cn D8 (if oc=2∨oc=3 then l++ [evD e1 e2 e3 e4 e5] else l) (by omega) K.sx
    (by have:=K.ck; rw [show M+((i+1:Nat):Int)=M+i+1 by omega]; exact this) (by have:=K.ck'; rw [show M'+((i+1:Nat):Int)=M'+i+1 by omega]; exact this) K.sh
    (by split
        ·rw [List.length_append]; exact Nat.succ_le_succ hl
        ·omega)
   refine⟨l2,s2,k2,cm,cm',P,fun hz=>?_,fun hz=>?_⟩
   ·subst hz
    rw [aT,aT,adL]
    by_cases o2:oc=2
    ·simp only [o2,true_or,if_true,List.nil_append,evD,iQ,kT] at ih2
     obtain⟨j1,j2⟩:=ih2 (by simp)
     simp only [I5,zz,dr,c1,c2,c3,pk,A1,A2,o2,w,aN,yB,List.nil_append,iQ,kT]
     exact⟨j1,j2⟩
    ·by_cases o3:oc=3
     ·simp only [o3,or_true,if_true,List.nil_append,evD,iQ,kT] at ih2
      obtain⟨j1,j2⟩:=ih2 (by simp)
      simp only [I5,zz,dr,c1,c2,c3,pk,A1,A2,o3,w,aN,yB,List.nil_append,iQ,kT,aDC]
      exact⟨j1,j2⟩
     ·simp only [o2,o3,or_self,if_false] at ih1
      obtain⟨j1,j2⟩:=ih1 trivial
      simp only [I5,zz,dr,c1,c2,c3,pk,A1,A2,o2,o3,w,aN]
      exact⟨j1,j2⟩
   ·rw [aT,aT,aoU]
    by_cases o2:oc=2
    ·simp only [o2,true_or,if_true,evD,iQ,kT] at ih2
     obtain⟨j1,j2⟩:=ih2 (by simp)
     simp only [PD,zz,dr,c1,c2,c3,c7,pk,A1,A2,o2,w,aN,aX]
     exact⟨j1,j2⟩
    ·by_cases o3:oc=3
     ·simp only [o3,or_true,if_true,evD,iQ,kT] at ih2
      obtain⟨j1,j2⟩:=ih2 (by simp)
      simp only [PD,zz,dr,c1,c2,c3,c7,pk,A1,A2,o3,w,aN,aX,aDC]
      exact⟨j1,j2⟩
     ·simp only [o2,o3,or_self,if_false] at ih2
      obtain⟨j1,j2⟩:=ih2 hz
      simp only [PD,zz,dr,c1,c2,c3,pk,A1,A2,o2,o3,w,aN]
      exact⟨j1,j2⟩
end
section
variable {d0 d1 d:D} (h0:Wd (.sl 3) d0) (h1:Wd (.sl 4) d1) (hd:d.l.length≤1000) {B:Int}
include h0 h1 hd
theorem Zd {M M':Int} (hM:M≤4611686018427387904) (hM':M'≤4611686018427387904) {c c':D} (C:Ck M c) (C':Ck M' c') (h:Sh B c c'): ∃(l2 s2 k2 cn D8:D) (er:Int),aCL B (M+1000) (M'+1000) l2 s2 k2 cn D8 1000∧
 L 3150 [enc d0,enc d1,enc c,enc d]=some [enc l2,enc s2,enc k2,enc cn,er]∧L 3150 [enc d0,enc d1,enc c',enc d]=some [enc l2,enc s2,enc k2,enc D8,er]:=by
 have nil: ∀z:Int,z≠0→L 2800 [enc d0,enc d1,enc c]=some [enc (.i 1),enc (.i 1),enc (.i 1),z]→L 2800 [enc d0,enc d1,enc c']=some [enc (.i 1),enc (.i 1),enc (.i 1),z]→∃(l2 s2 k2 cn D8:D) (er:Int),aCL B (M+1000) (M'+1000) l2 s2 k2 cn D8 1000∧
  L 3150 [enc d0,enc d1,enc c,enc d]=some [enc l2,enc s2,enc k2,enc cn,er]∧L 3150 [enc d0,enc d1,enc c',enc d]=some [enc l2,enc s2,enc k2,enc D8,er]:=fun z hz q q'=>by
  refine⟨.i 1,.i 1,.i 1,.i 1,.i 1,z,⟨⟨rfl,fun u hu=>by simp [D.l] at hu⟩,⟨.nil 0,fun u hu=>by simp [D.l] at hu⟩,⟨.nil 0,fun u hu=>by simp [D.l] at hu⟩,aAX.mono (by omega),by simp [D.l]⟩,?_,?_⟩
  ·rw [aT,Oh]
   simp only [I7,zz,q,if_neg hz,aH]
  ·rw [aT,Oh]
   simp only [I7,zz,q',if_neg hz,aH]
 rcases begins h0 h1 with ⟨s,k,hB,P⟩ | ⟨z,hz,hB⟩
 ·have hKR:KR d0 d1 s k c↔KR d0 d1 s k c':=by
   unfold KR
   rw [h.len]
   exact⟨fun q=> ⟨q.1,fun u hu=>(C'.rng u (by rw [h.len]; exact hu)).1,q.2.2⟩,fun q=> ⟨q.1,fun u hu=>(C.rng u hu).1,q.2.2⟩⟩
  obtain⟨y1,n1⟩:=Rn h0 h1 C.wd hB P.sx
  obtain⟨y2,n2⟩:=Rn h0 h1 C'.wd hB P.sx
  by_cases K:KR d0 d1 s k c
  ·have q:=y1 K
   have q':=y2 (hKR.1 K)
   by_cases hn:0 < d1.l.length
   ·obtain⟨l2,s2,k2,cn,D8,P2,g1,_⟩:=Rk h0 h1 hn hd hM hM' d.l.length 0 s k c c' [] (by omega) P.sx (by rw [Int.natCast_zero,Int.add_zero]; exact C) (by rw [Int.natCast_zero,Int.add_zero]; exact C') h (Nat.zero_le _)
    obtain⟨j1,j2⟩:=g1 rfl
    rw [Int.natCast_zero] at j1 j2
    refine⟨l2,s2,k2,cn,D8,0,P2,?_,?_⟩
    ·rw [aT,Oh]
     simp only [I7,zz,q,aN]
     exact j1
    ·rw [aT,Oh]
     simp only [I7,zz,q',aN]
     exact j2
   ·have z1: ¬(0:Int) < (d1.l.length:Int):=by omega
    have go: ∀c:D,L 3151 [enc d,(d1.l.length:Int),0,enc d0,enc d1,enc s,enc k,enc c]=some [enc (.i 1),enc s,enc k,enc c,0]:=fun c=>by
     rw [aT,adL]
     by_cases hz:(0:Int) < (d.l.length:Int)
     ·simp only [I5,zz,hz,z1,aH]
     ·simp only [I5,zz,if_neg hz,aH]
    refine⟨.i 1,s,k,c,c',0,⟨h,C.mono (by omega),C'.mono (by omega),P.sx.mono (by omega),by simp [D.l]⟩,?_,?_⟩
    ·rw [aT,Oh]
     simp only [I7,zz,q,aN]
     exact go c
    ·rw [aT,Oh]
     simp only [I7,zz,q',aN]
     exact go c'
  ·exact nil 2 (by omega) (n1 K) (n2 fun h=>K (hKR.2 h))
 ·exact nil z hz (Rl h0 h1 hz hB) (Rl h0 h1 hz hB)
end
section
variable {d0 d1 s k s' k' c c' x2:D} {B:Int} (h:Sh B c c') (hb:c.l.length≤140737488351232) (hw: ∀u:Nat,u < c.l.length→IntKind.i64.wrap ((c.at (u:Int)).n+B)=(c.at (u:Int)).n+B)
include h hb hw
theorem LY: ∀(j i:Nat),i+j=c.l.length→L 3403 [(c.l.length:Int),(i:Int),enc x2,B,enc s,enc k,enc c,enc s',enc k',enc c']=some [1]
 | 0,i,hi=>by
   have c1: ¬(i:Int) < (c.l.length:Int):=by omega
   rw [aT,aoS]
   simp only [abD,zz,c1,aH]
 | j+1,i,hi=>by
   have c1:(i:Int) < (c.l.length:Int):=by omega
   have c2: ¬((i:Int) < 0):=by omega
   have c3:(i:Int) < (c'.l.length:Int):=by have:=h.len; omega
   have w:=bC (n:=i) (by omega)
   have ih:=LY j (i+1) (by omega)
   have e:=(h.at' i (by omega)).trans (hw i (by omega)).symm
   rw [aT,aoS]
   simp only [abD,zz,c1,c2,c3,e,w,aN]
   exact ih
end
section
variable {d0 d1 d:D} (h0:Wd (.sl 3) d0) (h1:Wd (.sl 4) d1) {B:Int} (b0:0≤B) (b1:B≤1099511627776)
include h0 h1 b0 b1
theorem CU {c c':D} (C:Ck 1099511627776 c) (C':Ck 2199023255552 c') (h:Sh B c c') (p:D) (hp:p.l.length≤150): ∃(l2 s2 k2 cn D8:D) (er:Int),L 3150 [enc d0,enc d1,enc c,enc p]=some [enc l2,enc s2,enc k2,enc cn,er]∧L 3150 [enc d0,enc d1,enc c',enc p]=some [enc l2,enc s2,enc k2,enc D8,er]∧
 L 2450 [enc l2,enc l2]=some [1]∧L 2050 [enc s2,enc k2,enc s2,enc k2]=some [1]∧(cn.l.length:Int)=(D8.l.length:Int)∧∀x2:D,L 3403 [(D8.l.length:Int),0,enc x2,B,enc s2,enc k2,enc cn,enc s2,enc k2,enc D8]=some [1]:=by
 obtain⟨l2,s2,k2,cn,D8,er,P,q,q'⟩:=Zd (B:=B) h0 h1 (d:=p) (by omega) (by omega) (by omega) C C' h
 refine⟨l2,s2,k2,cn,D8,er,q,q',anO l2 (by have:=P.ll; omega),P.sx.same (by omega),by have:=P.sh.len; omega,fun x2=>?_⟩
 have g:=LY (s:=s2) (k:=k2) (s':=s2) (k':=k2) (x2:=x2) P.sh P.ck.wd.len (fun u hu=>by have:=P.ck.rng u hu; exact lT (by omega) (by omega)) cn.l.length 0 (by omega)
 rw [Int.natCast_zero,← P.sh.len] at g
 exact g
theorem LZ (c:D) (hc:Wd (.sl 0) c) (hl:c.l.length≤100) (hp:0 < c.l.length): ∀(j i:Nat) (acc:List D),i+j=c.l.length→acc.length=i→(∀u:Nat,u < i→0≤(c.at (u:Int)).n∧(c.at (u:Int)).n≤1099511627776∧((dL acc).at (u:Int))= .i ((c.at (u:Int)).n+B))→
 L 3402 [enc c,enc (dL acc),(c.l.length:Int),(i:Int),enc d0,enc d1,enc d,B]=some [1]
 | 0,i,acc,hi,ha,hq=>by
   have c1: ¬(i:Int) < (c.l.length:Int):=by omega
   have hne:acc≠[]:=fun he=>by rw [he] at ha; simp at ha; omega
   have C:Ck 1099511627776 c:=⟨hc,fun u hu=>by have:=hq u (by omega); omega⟩
   have mem: ∀x∈acc,∃n,x= .i n∧0≤n∧n≤2199023255552:=fun x hx=>by
    obtain⟨u,hu,rfl⟩:=List.getElem_of_mem hx
    have:=hq u (by omega)
    have e:(dL acc).at (u:Int)=acc[u]:=by rw [wX,aX,List.getElem?_eq_getElem hu]; rfl
    rw [e] at this
    exact⟨_,this.2.2,by omega,by omega⟩
   have C':Ck 2199023255552 (dL acc):=⟨vW (fun x hx=>by obtain⟨n,q1,q2,q3⟩:=mem x hx; exact⟨n,q1,by omega,by omega⟩) hne (by omega),fun u hu=>by
    rw [aX] at hu
    have:=hq u (by omega)
    rw [this.2.2]
    show 0≤(c.at (u:Int)).n+B∧(c.at (u:Int)).n+B≤2199023255552
    omega⟩
   have h:Sh B c (dL acc):=⟨by rw [aX]; omega,fun u hu=>by rw [(hq u (by omega)).2.2]; rfl⟩
   rw [aT,aoT]
   by_cases h15:(150:Int) < (d.l.length:Int)
   ·obtain⟨l2,s2,k2,cn,D8,er,q,q',g1,g2,g3,g4⟩:=CU h0 h1 b0 b1 C C' h (fV d (d.l.take 150)) (by rw [jM,List.length_take]; omega)
    simp only [Ll,zz,c1,h15,show (150:Int).toNat=150 from rfl,q,q',g1,g2,g3,aA,aN]
    exact g4 d
   ·obtain⟨l2,s2,k2,cn,D8,er,q,q',g1,g2,g3,g4⟩:=CU h0 h1 b0 b1 C C' h (fV d (d.l.take d.l.length)) (by rw [jM,List.length_take]; omega)
    simp only [Ll,zz,c1,h15,Int.toNat_natCast,Int.lt_irrefl,q,q',g1,g2,g3,aA,aN]
    exact g4 d
 | j+1,i,acc,hi,ha,hq=>by
   have hil:i < c.l.length:=by omega
   have c1:(i:Int) < (c.l.length:Int):=by omega
   have c2: ¬((i:Int) < 0):=by omega
   have c4:(acc.length:Int) < 17592186044415:=by omega
   have w:=bC (n:=i) (by omega)
   rw [aT,aoT]
   by_cases hz:(c.at (i:Int)).n < 0
   ·simp only [Ll,zz,c1,c2,hz,aH]
   ·by_cases hg:(1099511627776:Int) < (c.at (i:Int)).n
    ·simp only [Ll,zz,c1,c2,if_neg hz,hg,aH]
    ·have w2:IntKind.i64.wrap ((c.at (i:Int)).n+B)=(c.at (i:Int)).n+B:=lT (by omega) (by omega)
     have ih:=LZ c hc hl hp j (i+1) (acc++ [.i ((c.at (i:Int)).n+B)]) (by omega) (by rw [List.length_append,ha]; rfl) (fun u hu=>by
      by_cases hui:u < i
      ·have:=hq u hui
       refine⟨this.1,this.2.1,?_⟩
       rw [wX,aX,List.getElem?_append_left (by omega)]
       have e:=this.2.2
       rw [wX,aX] at e
       exact e
      ·have e:u=i:=by omega
       subst e
       refine⟨by omega,by omega,?_⟩
       rw [wX,aX,← ha,List.getElem?_append_right (Nat.le_refl _),Nat.sub_self]
       rfl)
     simp only [Ll,zz,c1,c2,c4,if_neg hz,if_neg hg,w,w2,aX,aN]
     exact ih
theorem YT (c:D) (hc:Wd (.sl 0) c) (hl:c.l.length≤100):L 3401 [enc c,(c.l.length:Int),enc d0,enc d1,enc d,B]=some [1]:=by
 rw [aT,azS]
 by_cases hp:0 < c.l.length
 ·have c1:(0:Int) < (c.l.length:Int):=by omega
  by_cases hz:(c.at 0).n < 0
  ·simp only [Lm,zz,c1,hz,aH]
  ·by_cases hg:(1099511627776:Int) < (c.at 0).n
   ·simp only [Lm,zz,c1,if_neg hz,hg,aH]
   ·have w2:IntKind.i64.wrap ((c.at 0).n+B)=(c.at 0).n+B:=lT (by omega) (by omega)
    have ih:=LZ (d:=d) h0 h1 b0 b1 c hc hl hp (c.l.length - 1) 1 [.i ((c.at 0).n+B)] (by omega) rfl (fun u hu=>by
     have e:u=0:=by omega
     subst e
     exact⟨by rw [Int.natCast_zero]; omega,by rw [Int.natCast_zero]; omega,rfl⟩)
    simp only [Lm,zz,c1,if_neg hz,if_neg hg,w2,yB,List.nil_append,aN]
    exact ih
 ·have c1: ¬(0:Int) < (c.l.length:Int):=by omega
  have C:Ck 1099511627776 c:=⟨hc,fun u hu=>by omega⟩
  have C':Ck 2199023255552 (.i 1):=⟨.nil 0,fun u hu=>by simp [D.l] at hu⟩
  have h:Sh B c (.i 1):=⟨by simp only [D.l,List.length_nil]; omega,fun u hu=>by omega⟩
  by_cases h15:(150:Int) < (d.l.length:Int)
  ·obtain⟨l2,s2,k2,cn,D8,er,q,q',g1,g2,g3,g4⟩:=CU h0 h1 b0 b1 C C' h (fV d (d.l.take 150)) (by rw [jM,List.length_take]; omega)
   simp only [Lm,zz,c1,h15,show (150:Int).toNat=150 from rfl,q,q',g1,g2,g3,aA,aN]
   exact g4 d
  ·obtain⟨l2,s2,k2,cn,D8,er,q,q',g1,g2,g3,g4⟩:=CU h0 h1 b0 b1 C C' h (fV d (d.l.take d.l.length)) (by rw [jM,List.length_take]; omega)
   simp only [Lm,zz,c1,h15,Int.toNat_natCast,Int.lt_irrefl,q,q',g1,g2,g3,aA,aN]
   exact g4 d
end
theorem aeU {d0 d1 c d:D} (h0:Wd (.sl 3) d0) (h1:Wd (.sl 4) d1) (hc:Wd (.sl 0) c) (B:Int):L 3400 [enc d0,enc d1,enc c,enc d,B]=some [1]:=by
 obtain⟨ys,hG,g,rfl,_⟩:=agH (d0:=d0) h1
 rw [aT,azT]
 by_cases g0:g=0
 ·subst g0
  by_cases auX:(100:Int) < (c.l.length:Int)
  ·simp only [Lp,zz,hG,auX,aH]
  ·by_cases b0:B < 0
   ·simp only [Lp,zz,hG,auX,b0,aH]
   ·by_cases b1:(1099511627776:Int) < B
    ·simp only [Lp,zz,hG,auX,b0,b1,aH]
    ·simp only [Lp,zz,hG,auX,b0,b1,aN]
     exact YT h0 h1 (by omega) (by omega) c hc (by omega)
 ·simp only [Lp,zz,hG,if_neg g0,aH]
end Go.As.Try
end
section
namespace Go.Proofs.YtdcafdkkpdadbaaGreatDoor.fnKendoShift
open Go hiding Stat
open Go.As Go.As.Try Go.Proofs Go.RowKit Go.ChangeShapes Go.WideShapes Go.ChangeAt
set_option maxRecDepth 100000
theorem avE:yG Tryz.prog alC 8 25=some [.sl 3,.sl 4]:=by kernel_rfl
theorem avD:yG Tryz.prog alC 8 47=some [.sl 0]:=by kernel_rfl
theorem avC:yG Tryz.prog alC 8 49=some [.sl 0,.int .i64]:=by kernel_rfl
theorem OG {H:Type} {enc:TypeId×Value→H} {W:World} {t:TypeId} {v:Value} {d:DataW H} {p:List MemPlace} {Pg:List CK} (hf:yG Tryz.prog alC 8 t=some Pg) (h:DataW.Trod enc Tryz.prog W 0 (fun _=>true) true t v d p) (hw:(d.weights Tryz.prog t).all (·≤reachBytes)=true) :
 ∃ds,Rs (X7 W) W.heap Pg ds v.cells.toList:=by
 obtain⟨fuel,hx⟩:=h
 exact TW auD fuel t 8 Pg v.cells.toList (d,p) hf hx hw
theorem aDz:3400∈S.nums 4:=by
 have h:S.nums 4= [3400]:=by kernel_rfl
 rw [h]
 simp
theorem contract (H:Type) (enc:TypeId×Value→H) (W:World) (base:Nat) (args:Array Value) (ds gs:List (DataW H)) (before:List MemPlace)
 (hval: ∀(j:Nat) t v,Tryz.f4.params[j]?=some t→args[j]?=some v→Value.okWide Tryz.prog W .any base t v)
 (hW:DataW.Whole enc Tryz.prog Tryz.f4.params.toList Rows.kendoShiftSpec.vars false W args.toList ds gs before)
 (hsz:(DataW.weightsEach Tryz.prog (Tryz.f4.params.toList++ []) (ds++gs)).all (·≤reachBytes)=true) (hsh:W.ShapedOpen Tryz.prog) :
 Calls Tryz.prog 4 args W fun e W'=> ∃v,e= .returned v∧Rows.kendoShiftSpec.post enc Tryz.prog Tryz.f4 false true false false W args v W':=by
 have hW':=hW
 obtain⟨p,q,hA0,hV,rfl,hfz,hnd⟩:=hW
 have hA:DataW.TrodAll enc Tryz.prog W 0 (fun _=>true) true Tryz.f4.params.toList args.toList ds p:=hA0
 rw [Tryz.params4] at hA hval hsz
 obtain⟨v0,vs0,d0,ds0,p0,q0,hargs,rfl,rfl,h0,r0⟩:=trodAll_cons hA
 obtain⟨v1,vs1,d1,ds1,p1,q1,rfl,rfl,rfl,h1,r1⟩:=trodAll_cons r0
 obtain⟨v2,vs2,d2,ds2,p2,q2,rfl,rfl,rfl,h2,r2⟩:=trodAll_cons r1
 obtain⟨rfl,rfl,rfl⟩:=trodAll_nil r2
 obtain rfl:args= #[v0,v1,v2]:=by cases args; simp_all
 obtain⟨rfl,rfl⟩:=trodVars_none hV
 clear hA0
 simp only [List.append_nil] at hW'
 have hlt: ∀x∈p0++(p1++p2),x.block < W.heap.size:=fun x hx=>by simpa using hW'.lt x (by simpa using hx)
 have hlt0: ∀x∈p0,x.block < W.heap.size:=fun x hx=>hlt x (List.mem_append_left _ hx)
 have hlt1: ∀x∈p1,x.block < W.heap.size:=fun x hx=>hlt x (List.mem_append_right _ (List.mem_append_left _ hx))
 have hlt2: ∀x∈p2,x.block < W.heap.size:=fun x hx=>hlt x (List.mem_append_right _ (List.mem_append_right _ hx))
 have hsz':(d0.weights Tryz.prog 25).all (·≤reachBytes)=true∧(d1.weights Tryz.prog 47).all (·≤reachBytes)=true∧(d2.weights Tryz.prog 49).all (·≤reachBytes)=true:=by
  have:(DataW.weightsEach Tryz.prog [25,47,49] [d0,d1,d2]).all (·≤reachBytes)=true:=hsz
  simp only [DataW.weightsEach,List.all_append,Bool.and_eq_true] at this
  exact⟨this.1,this.2.1,this.2.2.1⟩
 obtain⟨es0,R0⟩:=OG avE h0 hsz'.1
 obtain⟨es1,R1⟩:=OG avD h1 hsz'.2.1
 obtain⟨es2,R2⟩:=OG avC h2 hsz'.2.2
 obtain⟨cs0,rfl,_⟩:=okWide_struct Tryz.underlying25 (hval 0 25 v0 rfl rfl)
 have e0:(Value.agg cs0).cells.toList=cs0.toList:=rfl
 obtain⟨ad1,len1,cap1,rfl⟩:=okWide_slice Tryz.underlying47 (hval 1 47 v1 rfl rfl)
 have e1:(Value.slice ad1 len1 cap1).cells.toList= [.slice ad1 len1 cap1]:=rfl
 obtain⟨cs2,rfl,_⟩:=okWide_struct Tryz.underlying49 (hval 2 49 v2 rfl rfl)
 have e2:(Value.agg cs2).cells.toList=cs2.toList:=rfl
 rw [e0] at R0
 rw [e1] at R1
 rw [e2] at R2
 match es0,hcs0:cs0.toList,R0 with
 | [x0,x1],[u0,u1],.cons r0_ w0 (.cons r1_ w1 .nil)=>
   obtain rfl:cs0= #[u0,u1]:=by rw [← Array.toArray_toList (xs:=cs0),hcs0]
   match es1,R1 with
   | [x2],.cons r2_ w2 .nil=>
     match es2,hcs2:cs2.toList,R2 with
     | [x3,x4],[u3,u4],.cons r3_ w3 (.cons r4_ w4 .nil)=>
       obtain rfl:cs2= #[u3,u4]:=by rw [← Array.toArray_toList (xs:=cs2),hcs2]
       obtain⟨n4,rfl,h4_⟩:=w4.i
       have q4:Az (X7 W) W.heap (.int .i64) n4 (u4):=by cases r4_; rfl
       have hL:=aeU (d:=x3) w0 w1 w2 n4
       refine (arG (g:=4) (j:=3400) (e:=anN.ent) aDz (by kernel_rfl) rfl rfl hL hsh (vals:=[.agg [u0,u1].toArray,.slice ad1 len1 cap1,.agg [u3,u4].toArray]) (fl:=[u0,u1,.slice ad1 len1 cap1,u3,u4]) (.agg _ [u0,u1] rfl (.one _ _ (.agg _ [u3,u4] rfl .nil))) ⟨_,_,_,_,rfl,rfl,GU r0_,_,_,_,_,rfl,rfl,GU r1_,_,_,_,_,rfl,rfl,GU r2_,_,_,_,_,rfl,rfl,GU r3_,_,_,_,_,rfl,rfl,q4,rfl,rfl⟩).mono fun e W' ⟨he,hb⟩=>?_
       subst he
       exact⟨_,rfl,⟨_,_,_,[],_,[],hW',trodAll_mk1 (shut_bool Tryz.underlying4 _),trodAll_mk3 (Below.trod laidOut (by kernel_rfl) (of_decide_eq_true (by kernel_rfl)) h0 hb hlt0) (Below.trod laidOut (by kernel_rfl) (of_decide_eq_true (by kernel_rfl)) h1 hb hlt1) (Below.trod laidOut (by kernel_rfl) (of_decide_eq_true (by kernel_rfl)) h2 hb hlt2),rfl,hb.frame _,fun h=>by cases h⟩⟩
abbrev aaI:Array Value:=#[.agg #[.slice none 0 0,.slice none 0 0],.slice none 0 0,.agg #[.slice none 0 0,.int .i64 0]]
theorem laid_met (os:Os):laidMet Tryz.prog Rows.kendoShiftRow.laid ((laidWorld os).forCall (fun _ _=>0) ⟨#[],aaI,[]⟩).memory:=
 laidMet_of_run' 8 (by kernel_rfl) (by kernel_rfl)
theorem reads (os:Os) {H:Type} (enc:TypeId×Value→H): ∃places,DataW.whole enc Tryz.prog ((laidWorld os).forCall (fun _ _=>0) ⟨#[],aaI,[]⟩).memory Tryz.f4.params.toList [] false aaI.toList 8=some ([.agg [.nil,.nil],.nil,.agg [.nil,.lit (.int .i64 0)]],[],places):=
 ⟨[],by kernel_rfl⟩
set_option maxHeartbeats 400000 in
theorem lifted (os:Os) (started:os.Started) (H:Type) (enc:TypeId×Value→H) (F:Stop.Interp) :
 ReturnsInHanded {} Tryz.checked os 4 .any ((OpenSpec.ofChange Rows.kendoShiftSpec).preRow enc Tryz.prog Tryz.f4 Rows.kendoShiftRow.domain false Rows.kendoShiftRow.laid) (((OpenSpec.ofChange Rows.kendoShiftSpec).at F).post enc Tryz.prog Tryz.f4 false true false false):=by
 obtain⟨places,hx⟩:=reads os enc
 refine returnsInHanded_of_row (C:=Tryz.checked) (s:=OpenSpec.ofChange Rows.kendoShiftSpec) Try.own started (by kernel_rfl) Tryz.func4
  (witness_row_at (enc:=enc) (C:=Tryz.checked) false (laidWorld os) aaI rfl (by kernel_rfl) (by kernel_rfl) (by kernel_rfl)
   (OpenSpec.preRow_of_cond 8 hx (by kernel_rfl) (fun k hk=>by cases hk) (by kernel_rfl) (laid_met os))) ?_
 intro W base args ds gs before hval hW _ _ hsz _ hsh _
 exact contract H enc W base args ds gs before hval hW hsz hsh
theorem jL {a b:Bool} (h1:a=true) (h2:b=true):(a && b)=true:=by rw [h1,h2]; rfl
theorem closed:joinedFacts Tryz.pinned.checked.prog 4 Tryz.f4 (OpenSpec.ofChange Rows.kendoShiftSpec).bare Rows.kendoShiftRow=true:=(jL (jL (jL (jL (jL (jL (jL (jL (jL (jL (jL (jL (jL (jL (jL (jL (jL (jL (jL (jL (jL (jL (jL (jL (jL (jL (jL (jL (jL (jL (jL (by kernel_rfl) (by kernel_rfl)) (by kernel_rfl)) (by kernel_rfl)) (by kernel_rfl)) (by kernel_rfl)) (by kernel_rfl)) (by kernel_rfl)) (by kernel_rfl)) (by kernel_rfl)) (by kernel_rfl)) (by kernel_rfl)) (by kernel_rfl)) (by kernel_rfl)) (by kernel_rfl)) (by kernel_rfl)) (by kernel_rfl)) (by kernel_rfl)) (by kernel_rfl)) (by kernel_rfl)) (by kernel_rfl)) (by kernel_rfl)) (by kernel_rfl)) (by kernel_rfl)) (by kernel_rfl)) (by kernel_rfl)) (by kernel_rfl)) (by kernel_rfl)) (by kernel_rfl)) (by kernel_rfl)) (by kernel_rfl)) (by kernel_rfl))
theorem said:Rows.KendoShiftSaid:=
 OpenClaim.holds_of_cond 4 Tryz.f4 rfl rfl rfl rfl rfl rfl rfl ⟨rfl,rfl,rfl,rfl,rfl⟩ rfl rfl rfl rfl rfl (by kernel_rfl) Tryz.func4 closed
  (of_decide_eq_true (by kernel_rfl)) (by unfold Func.isWrapper; first | (rw [if_pos (by decide +kernel)]; kernel_rfl) | (rw [if_neg (by decide +kernel)]; exact⟨rfl,rfl⟩))
  (fun os started H enc _ F=>by rw [OpenClaim.pre_eq_preRow]; exact lifted os started H enc F)
theorem plain (f:FuncId) (fn:Func) (hf:Tryz.pinned.checked.prog.funcNamed "amanuensis/amanuensislaw18.KendoShift" = some f) (hfn:Tryz.pinned.checked.prog.funcs[f]?=some fn) :
 false=Tryz.pinned.checked.prog.looks []∧∀(j:Nat) t,fn.params[j]?=some t→Tryz.pinned.checked.prog.wantsStandIn t=false:=by
 obtain rfl:f=4:=Option.some.inj ((show Tryz.prog.funcNamed "amanuensis/amanuensislaw18.KendoShift" = some 4 by kernel_rfl).symm.trans hf) |>.symm
 obtain rfl:fn=Tryz.f4:=(Option.some.inj (Tryz.func4.symm.trans hfn)).symm
 refine⟨by kernel_rfl,fun j t ht=>?_⟩
 rw [Tryz.params4] at ht
 have hm:=Array.mem_of_getElem? ht
 simp only [List.mem_toArray,List.mem_cons,List.not_mem_nil,or_false] at hm
 rcases hm with rfl | rfl | rfl
 all_goals exact (by kernel_rfl:Tryz.prog.wantsStandIn _=false)
theorem card:Rows.KendoShiftCardSaid:=
 Claim7.holds_tied_plain_at .later [] _ _ _ _ said (fun _ h=>by cases h) (by kernel_rfl) (fun _ h=>by cases h) kendoShift_row_tie rfl ⟨rfl,rfl⟩ (by kernel_rfl) rfl plain (by kernel_rfl)
end Go.Proofs.YtdcafdkkpdadbaaGreatDoor.fnKendoShift
end

/-
  Proved: the given card of the law PrimsSound: whatever the input, the call returns true and each argument reads afterwards as it did. Conditions: those of the given row alone (its listed package-level variables start as the program's text lays them; each string, slice and map that is handed in lies within a process's addresses).
-/
import Derived.Test.YtaahpkjohjnjmaaGreatDoorAsZP4
set_option linter.unusedSectionVars false
set_option linter.unusedVariables false
set_option linter.unusedSimpArgs false
section
namespace Go.As.Try
open Go hiding Stat Spec shape
open Go.As
set_option maxRecDepth 100000
theorem Ip: ∀(l:List D) (k v k':D),jF (oP l k v) k'=if k=k' then some v else jF l k'
 |[],k,v,k'=>by
  simp only [oP,jF];by_cases h:k=k'
  ·rw [aCL h]; exact aCL h
  ·rw [aCI h]; exact aCI h
 |d::l,k,v,k'=>by
  simp only [oP];by_cases h:lG d=k
  ·rw [aCL h];simp only [jF];by_cases h2:k=k'
   ·rw [aCL h2]; exact aCL h2
   ·rw [aCI h2,aCI (fun h3=>h2 (h.symm.trans h3))]; exact aCI h2
  ·rw [aCI h];simp only [jF,Ip l k v k']
   grind
def wR (m:Int) (l:List D):Prop:=(∀x∈l,0<=x.n/\x.n<m)/\(l.map D.n).Nodup
def Ho (N o dn:Int) (rl vl:Nat):Prop:=(N<0->(vl:Int)=0)/\(0<=N->(vl:Int)<=N)/\(o<0\/(rl:Int)=0/\dn=0)
def YU (s:D) (l:List D):Prop:= ∀n:Int,(jF s.l (.i n)=none/\n∉l.map D.n)\/(jF s.l (.i n)=some (.i 1)/\n∈l.map D.n)
theorem afT {s x:D} {l:List D} (h:YU s l):YU (dL (oP s.l (.i x.n) (.i 1))) (l++ [x]):=fun n=>by
 rw [aY,Ip,aDQ];by_cases hn:x.n=n
 ·rw [aCL (by rw [hn])];exact .inr ⟨rfl,aFc _ (by simp [hn])⟩
 ·rw [aCI (fun h=>hn (by simpa using h))];rcases h n with ⟨h1,h2⟩|⟨h1,h2⟩
  ·refine .inl ⟨h1,fun h3=>?_⟩;rcases aDp.1 h3 with h3|h3
   ·exact h2 h3
   ·simp only [List.map,aCP,aDt,or_false] at h3;exact hn h3.symm
  ·exact .inr ⟨h1,List.mem_append_left _ h2⟩
theorem J9 {P Q:Prop} {ys:List Int} (h:P) (hQ:isB Q ys):isB (P/\Q) ys:=by
 grind
theorem zF {P Q:Prop} (h: ¬P):isB (P/\Q) [0]:=arD fun q=>h q.1
theorem Va (m:Int) (r:D) (hl:r.l.length<=140737488351232) (k nm' N x7 x8 o c dn g:Int) (v:D): ∀(j i:Nat) (seen:D),i+j=r.l.length->YU seen (r.l.take i)->wR m (r.l.take i)->
 Tot 501 [m,enc r,(r.l.length:Int),(i:Int),k,nm',N,x7,x8,o,c,dn,g,enc v,enc seen] (isB (wR m r.l/\Ho N o dn r.l.length v.l.length))
 |0,i,seen,hi,_,hR=>by
  have c1: ¬(i:Int)<(r.l.length:Int):=by omega
  rw [aD0 (by omega)] at hR;refine Tot.of ?_;unfold Ho;rw [ajC];simp only [aaX,zz,c1]
  repeat' first
   |exact .out (J9 hR (arD (by omega)))
   |exact .out (J9 hR (aAb (by omega)))
   |refine .ite (fun _=>?_) (fun _=>?_)
 |j+1,i,seen,hi,hS,hR=>by
  have hil:i<r.l.length:=by omega
  have c1:(i:Int)<(r.l.length:Int):=by omega
  have c2: ¬((i:Int)<0):=by omega
  have w:=bV (n:=i) (by omega);have ht:r.l.take (i+1)=r.l.take i++ [r.l[i]]:=by rw [List.take_add_one,aCV hil]; rfl
  have hmem:r.l[i]∈r.l:=aCY hil;have ih:=fun h=>Va m r hl k nm' N x7 x8 o c dn g v j (i+1) (dL (oP seen.l (.i (r.l[i]).n) (.i 1))) (by omega) (by rw [ht]; exact afT hS) h;refine Tot.of ?_;rw [ajC];rcases hS (r.l[i]).n with ⟨h1,h2⟩|⟨h1,h2⟩
  ·simp only [aaX,zz,c1,c2,w,bP hil,h1,aD3,aCU];refine .ite (fun q=> .out (zF fun R=>?_)) (fun q=> .ite (fun q2=>?_) (fun q2=> .out (zF fun R=>?_)))
   ·have:=R.1 _ hmem;omega
   ·refine .jump (ih ?_);rw [ht];refine⟨fun x hx=>?_,?_⟩
    ·rcases aDp.1 hx with hx|hx
     ·exact hR.1 x hx
     ·simp only [aCP,aDt,or_false] at hx;subst hx;exact⟨by omega,q2⟩
    ·rw [aDQ,aEr];refine⟨hR.2,by simp,fun a ha b hb=>?_⟩;simp only [List.map,aCP,aDt,or_false] at hb;subst hb;intro he;subst he;exact h2 ha
   ·have:=R.1 _ hmem;omega
  ·simp only [aaX,zz,c1,c2,w,bP hil,h1,aN]
   have nd: ¬wR m r.l:=fun R=>by
    have hn:=R.2;have e:r.l=r.l.take i++r.l[i]::r.l.drop (i+1):=by rw [<- aDr hil,aDD]
    rw [e,aDQ,aEr] at hn;exact hn.2.2 _ h2 _ (by rw [aCQ]; exact List.mem_cons_self) rfl
   refine .ite (fun q=> .out (zF nd)) (fun q=> .ite (fun q2=> .out (zF nd)) (fun q2=> .out (zF nd)))
theorem abM (m:Int) (r:D) (hl:r.l.length<=140737488351232) (k nm' N x7 x8 o c dn g:Int) (v:D) :
 Tot 501 [m,enc r,(r.l.length:Int),0,k,nm',N,x7,x8,o,c,dn,g,enc v,enc (.i 0)] (isB (wR m r.l/\Ho N o dn r.l.length v.l.length)):=
 Va m r hl k nm' N x7 x8 o c dn g v r.l.length 0 (.i 0) (by omega) (fun n=> .inl ⟨rfl,by simp⟩) ⟨by simp,by simp⟩
def tX (k N c:Int):Prop:=k=9\/(k=3/\0<=c/\c<=N)\/(k=5/\0<=c/\c<=IntKind.i64.wrap (N-1))\/(k=7/\0<=c/\c<=1099511627776)\/(k≠3/\k≠5/\k≠7/\k≠9/\c=0)
theorem anH (k x1 N x3 x4 c:Int): ∃a b:Int,L 650 [k,x1,N,x3,x4]=some [a,b]/\(b=0/\tX k N c\/b=1/\(tX k N c↔0<=c/\c<=a)):=by
 have:Tot 650 [k,x1,N,x3,x4] (fun ys=> ∃a b:Int,ys= [a,b]/\(b=0/\tX k N c\/b=1/\(tX k N c↔0<=c/\c<=a))):=by
  unfold tX;refine Tot.of ?_;rw [awO];simp only [atJ,zz]
  repeat' first
   |exact .out ⟨_,_,rfl,by omega⟩
   |refine .ite (fun _=>?_) (fun _=>?_)
 obtain⟨ys,h,a,b,rfl,h2⟩:=this
 grind
def Om (k N m o c dn g:Int) (rl vl:Nat):Prop:=
 tX k N c/\-1<=o/\o<m/\0<=g/\g<=4611686018427387904/\(0<=o->k=1\/k=2\/k=6)/\(0<(rl:Int)->k=4\/k=2)/\(0<(vl:Int)->k=8)/\(dn≠0->k=6)/\(0<g->k=5)
def YT (k N m o c dn g:Int) (r v:D):Prop:=Om k N m o c dn g r.l.length v.l.length/\wR m r.l/\Ho N o dn r.l.length v.l.length
set_option maxHeartbeats 4000000 in
theorem afN (k x1 N x3 x4 m o c dn g:Int) (r v:D) (hl:r.l.length<=140737488351232):Tot 500 [k,x1,N,x3,x4,o,c,dn,g,enc r,enc v,m] (isB (YT k N m o c dn g r v)):=by
 unfold YT Om;obtain⟨a,b,hM,hb⟩:=anH k x1 N x3 x4 c;have ih:=abM m r hl k x1 N x3 x4 o c dn g v;refine Tot.of ?_;rw [awQ];generalize tX k N c=H at *;by_cases b0:b=0
 ·subst b0
  have hH:H:=by
   grind
  simp only [alY,zz,hM]
  repeat' first
   |exact .out (zF (by omega))
   |exact .jump (let ⟨ys,hL,hB⟩:=ih; ⟨ys,hL,J9 ⟨hH,by omega,by omega,by omega,by omega,by omega,by omega,by omega,by omega,by omega⟩ hB⟩)
   |refine .ite (fun _=>?_) (fun _=>?_)
 ·have hH:H↔0<=c/\c<=a:=by
   grind
  simp only [alY,zz,hM,aCI b0]
  repeat' first
   |exact .out (zF fun h=>by first |omega|(have:=hH.1 h.1; omega))
   |exact .jump (let ⟨ys,hL,hB⟩:=ih; ⟨ys,hL,J9 ⟨hH.2 ⟨by omega,by omega⟩,by omega,by omega,by omega,by omega,by omega,by omega,by omega,by omega,by omega⟩ hB⟩)
   |refine .ite (fun _=>?_) (fun _=>?_)
theorem anL {P:Prop} {j:Nat} {xs:List Int} (h:Tot j xs (isB P)):L j xs=some [1]↔P:=by
 obtain⟨ys,hL,b,rfl,hb⟩:=h
 grind
theorem afO {d x:D} {m:Nat} {o c dn g:Int} {r v:D} (T:Tg x o c dn g r v) (hl:r.l.length<=140737488351232):Snd d x m↔YT (d.hd 0).n (d.hd 2).n (m:Int) o c dn g r v:=by
 have h:=anL (afN (d.hd 0).n (enc (d.hd 1)) (d.hd 2).n (enc (d.hd 3)) (d.hd 4).n (m:Int) o c dn g r v hl)
 have e:(if dn=0 then (0:Int) else 1)=dn:=by rcases T.hd with rfl|rfl<;>rfl
 unfold Snd amG;rw [T.is];simp only [zg,aCT,XP,e];exact h
theorem Si {m:Int} {l l':List D} (h:wR m l) (hs:l'.Sublist l):wR m l':=⟨fun x hx=>h.1 x (hs.subset hx),h.2.sublist (hs.map _)⟩
theorem Zi (m:Int):wR m []:=⟨by simp,by simp⟩
theorem U9 {m t:Int} {l:List D} (h:wR m l) (hn: ∀x∈l,x.n≠t) (t0:0<=t) (t1:t<m):wR m (l++ [.i t]):=by
 refine⟨fun x hx=>?_,?_⟩
 ·rcases aDp.1 hx with hx|hx
  ·exact h.1 x hx
  ·simp only [aCP,aDt,or_false] at hx;subst hx;exact⟨t0,t1⟩
 ·rw [aDQ,aEr];refine⟨h.2,by simp,fun a ha b hb=>?_⟩;simp only [List.map,aCP,aDt,or_false,XP] at hb
  grind
theorem atY {m t:Int} {l:List D} (h:wR m l) (t0:0<=t) (t1:t<m):wR m (wo t l++ [.i t]):=
 U9 (Si h List.filter_sublist) (fun x hx=>by simpa using (aDF.1 hx).2) t0 t1
theorem amP {m:Int} {l:List D} (h:wR m l) (k:Nat):wR m (l.take k++l.drop (k+1)):=by rw [<- List.eraseIdx_eq_take_drop_succ];exact Si h (List.eraseIdx_sublist _ _)
theorem Vj {r:D} {t:Int} (h:place r t<0): ∀x∈r.l,x.n≠t:=by
 rcases sD r t with ⟨_,h2⟩|⟨k,_,h1,_⟩
 all_goals grind
def adO (k N m:Int):Act->Prop
 | .res o c dn g r v _ _ _=>YT k N m o c dn g r v
 |_=>True
theorem adO.ite {k N m:Int} {p:Prop} [Decidable p] {a b:Act} (ha:p->adO k N m a) (hb: ¬p->adO k N m b):adO k N m (if p then a else b):=by
 grind
theorem L8 {op k:Int} (h0:0<=op) (hk:kindOf op=k) (h1:1<=k) :
 (op=1\/op=2\/op=3\/op=4)/\k=1\/(op=5\/op=6\/op=7\/op=8)/\k=2\/(op=9\/op=10\/op=11)/\k=3\/(op=12\/op=13\/op=14\/op=24)/\k=4\/(op=15\/op=25)/\k=5\/(op=16\/op=26)/\k=6\/(op=17\/op=18\/op=19)/\k=7\/(op=20\/op=21)/\k=8\/(op=22\/op=23)/\k=9:=by
 unfold kindOf at hk;by_cases h27:op<27
 ·have:op=0\/op=1\/op=2\/op=3\/op=4\/op=5\/op=6\/op=7\/op=8\/op=9\/op=10\/op=11\/op=12\/op=13\/op=14\/op=15\/op=16\/op=17\/op=18\/op=19\/op=20\/op=21\/op=22\/op=23\/op=24\/op=25\/op=26:=by omega
  rcases this with rfl|rfl|rfl|rfl|rfl|rfl|rfl|rfl|rfl|rfl|rfl|rfl|rfl|rfl|rfl|rfl|rfl|rfl|rfl|rfl|rfl|rfl|rfl|rfl|rfl|rfl|rfl
  all_goals simp at hk
  all_goals subst hk
  all_goals first |omega|simp
 grind
section
variable {d0 x:D} {k N m mo th op arg tries o c dn g:Int} {r v:D}
set_option maxHeartbeats 8000000 in
theorem apU (T:Tg x o c dn g r v) (S:YT k N m o c dn g r v) (hop:0<=op) (hk:kindOf op=k) (hO:OkO d0 k N) (t0:0<=th) (t1:th<m) (hm:m<=16):adO k N m (act N mo th op arg tries o c dn g r v):=by
 obtain⟨P,R,E⟩:=S;have hc1:=T.hc.1;have hc2:=T.hc.2;have hg1:=T.hg.1;have hd:=T.hd;have pr:=iI r th;have pn:=fun h=>Vj (r:=r) (t:=th) h;have rs:=fun h=>U9 R (Vj (r:=r) (t:=th) h) t0 t1;have rw':=atY R t0 t1
 have rd:=amP R (place r th).toNat
 have r1:=Si R (List.drop_sublist 1 r.l);obtain⟨k1,k2,_,kn,k5,_⟩:=hO;unfold Om tX at P;unfold Ho at E;have hcs:=L8 hop hk k1;rcases hcs with ⟨h|h|h|h,hk'⟩|⟨h|h|h|h,hk'⟩|⟨h|h|h,hk'⟩|⟨h|h|h|h,hk'⟩|⟨h|h,hk'⟩|⟨h|h,hk'⟩|⟨h|h|h,hk'⟩|⟨h|h,hk'⟩|⟨h|h,hk'⟩
 all_goals
  subst h;subst hk';simp only [act,Int.reduceEq,if_true,if_false,reduceIte]
  repeat' first
   |exact trivial
   |refine adO.ite (fun _=>?_) (fun _=>?_)
 all_goals
  refine⟨?_,?_,?_⟩
  ·clear rs rw' rd r1 pn;unfold Om tX
   try simp only [aY,iL,E5,aC5,aCW,aC3,aDg,IntKind.wrap_i64,true_or,or_true,true_and,and_true,implies_true,true_implies] at *
   omega
  ·try simp only [aY,iL,E5]
   first
    |exact R
    |exact rs (by omega)
    |exact rw'
    |exact rd
    |exact r1
    |exact Zi _
  ·unfold Ho
   try simp only [aY,iL,E5,aC5,aCW,aC3,aDg,aDa,IntKind.wrap_i64,true_or,or_true,true_and,and_true,implies_true,true_implies] at *
   omega
end
inductive apW (d0 d1 s:D) (t op obj arg tries:Int):D->Int->Int->Int->Int->Int->Int->Prop
 |no:apW d0 d1 s t op obj arg tries s 0 0 0 0 0 0
 |mis (A:Acc d0 d1 s t op obj):apW d0 d1 s t op obj arg tries s t 27 obj (IntKind.i64.wrap op) 0 2
 |res (A:Acc d0 d1 s t op obj) (o c dn g:Int) (r v:D) (o' c' NI g':Int) (r' v':D) (m:Option Int) (a oc:Int) (T:Tg (s.at obj) o c dn g r v)
  (h:act (Mx d0 obj) (Mo d0 s obj) t op arg tries o c dn g r v= .res o' c' NI g' r' v' m a oc):apW d0 d1 s t op obj arg tries (vZ s obj (Mx d0 obj) (.res o' c' NI g' r' v' m a oc)) t op obj a 0 oc
section
variable {d0 d1 s s':D} {t op obj arg tries e1 e2 e3 e4 e5 oc:Int} {n:Nat}
theorem Xf (h0:Wd (.sl 3) d0) (h1:Wd (.sl 4) d1) (G:Gs s n) (hn:n<17592186043904) (hop:pV .u8 op) (A:Tried d0 d1 s t op obj arg tries n s' e1 e2 e3 e4 e5 oc):apW d0 d1 s t op obj arg tries s' e1 e2 e3 e4 e5 oc:=by
 have hf:=G.few (by omega:n<17592186044415);have hA:=A.eq;by_cases h:Acc d0 d1 s t op obj
 ·obtain⟨_,o,c,dn,g,r,v,T,hL⟩:=Y9 (arg:=arg) (tries:=tries) h0 h1 G.wd hf hop h;rw [Zr] at hL;rw [hA] at hL
  cases hB:act (Mx d0 obj) (Mo d0 s obj) t op arg tries o c dn g r v with
  |blk=> rw [hB] at hL;simp only [evA,aCJ,List.cons.injEq,and_true] at hL;obtain⟨q,rfl,rfl,rfl,rfl,rfl,rfl⟩:=hL;have q:=kP q;subst q;exact .no
  |mis=> rw [hB] at hL;simp only [evA,aCJ,List.cons.injEq,and_true] at hL;obtain⟨q,rfl,rfl,rfl,rfl,rfl,rfl⟩:=hL;have q:=kP q;subst q;exact .mis h
  |res o' c' NI g' r' v' m a oc'=> rw [hB] at hL;simp only [evA,aCJ,List.cons.injEq,and_true] at hL;obtain⟨q,rfl,rfl,rfl,rfl,rfl,rfl⟩:=hL;have q:=kP q;subst q;exact .res h o c dn g r v o' c' NI g' r' v' m _ _ T hB
 ·have hL:=aeF (arg:=arg) (tries:=tries) h0 h1 G.wd hf hop h;rw [hA] at hL;simp only [aCJ,List.cons.injEq,and_true] at hL;obtain⟨q,rfl,rfl,rfl,rfl,rfl,rfl⟩:=hL;have q:=kP q;subst q;exact .no
end
section
variable {d0 d1 s:D} {n:Nat} (h0:Wd (.sl 3) d0) (h1:Wd (.sl 4) d1) (G:Gs s n) (hn:n<17592186044000)
include h0 h1 G hn
theorem Zf (R:L 350 [enc d0,enc d1,enc s]=some [1]):L 450 [enc d0,enc d1]=some [0]/\Ih d0 d1/\s.l.length=d0.l.length:=by obtain⟨b,hb,_,hi⟩:=uX h0 h1 (G.few (by omega)).rows;rw [R] at hb;simp only [aCJ,List.cons.injEq,and_true] at hb;obtain⟨hC,hle,_⟩:=hi.1 hb.symm;exact⟨hC,Lh h0 h1 (G.few (by omega)) R⟩
theorem Xx (R:L 350 [enc d0,enc d1,enc s]=some [1]) {i:Int} (i0:0<=i) (i1:i<(s.l.length:Int)) {o c dn g:Int} {r v:D} (T:Tg (s.at i) o c dn g r v):YT ((d0.at i).hd 0).n ((d0.at i).hd 2).n (d1.l.length:Int) o c dn g r v:=by
 obtain⟨b,hb,_,hi⟩:=uX h0 h1 (G.few (by omega)).rows;rw [R] at hb;simp only [aCJ,List.cons.injEq,and_true] at hb;obtain⟨_,hle,hs⟩:=hi.1 hb.symm;obtain⟨k,rfl⟩ : ∃k:Nat,i=(k:Int):=⟨i.toNat,by omega⟩;have hk:k<s.l.length:=by omega
 have h:=hs k hk;rw [bP hk] at T;have hrow:=G.rows _ (aCY hk);rw [T.is] at hrow;have hl:r.l.length<=140737488351232:=by have:=hrow.1; have:r.l.length<=n:=this; omega
 rw [afO T hl] at h;rw [bP (by omega:k<d0.l.length)];exact h
theorem aqY (hC:L 450 [enc d0,enc d1]=some [0]) (hle:s.l.length=d0.l.length) (h: ∀i:Nat,i<s.l.length->∃o c dn g r v,Tg (s.at (i:Int)) o c dn g r v/\YT ((d0.at (i:Int)).hd 0).n ((d0.at (i:Int)).hd 2).n (d1.l.length:Int) o c dn g r v):L 350 [enc d0,enc d1,enc s]=some [1]:=by
 obtain⟨b,hb,_,hi⟩:=uX h0 h1 (G.few (by omega)).rows;rw [hb,hi.2 ⟨hC,hle,fun k hk=>?_⟩];obtain⟨o,c,dn,g,r,v,T,P⟩:=h k hk;rw [bP hk] at T;rw [bP (by omega:k<d0.l.length)] at P;have hrow:=G.rows _ (aCY hk);rw [T.is] at hrow;have hl:r.l.length<=140737488351232:=by have:=hrow.1; have:r.l.length<=n:=this; omega
 exact (afO T hl).2 P
end
theorem ahW {s:D} {n:Nat} (G:Gs s n) {i:Int} (i0:0<=i) (i1:i<(s.l.length:Int)): ∃o c dn g r v,Tg (s.at i) o c dn g r v/\r.l.length<=n/\v.l.length<=n:=by
 obtain⟨k,rfl⟩ : ∃k:Nat,i=(k:Int):=⟨i.toNat,by omega⟩;have hk:k<s.l.length:=by omega
 obtain⟨o,c,dn,g,r,v,T⟩:=KO (G.wd.thing _ (aCY hk));have hrow:=G.rows _ (aCY hk);rw [T.is] at hrow;exact⟨o,c,dn,g,r,v,by rw [bP hk]; exact T,hrow.1,hrow.2⟩
def adP (th:Int):Act->Prop
 | .res _ _ _ _ _ _ m _ _=> ∀q,m=some q->q= -1\/q=th
 |_=>True
theorem adP.ite {th:Int} {p:Prop} [Decidable p] {a b:Act} (ha:adP th a) (hb:adP th b):adP th (if p then a else b):=by
 grind
theorem aBf {M mo th op arg tries o c dn g:Int} {r v:D}:adP th (act M mo th op arg tries o c dn g r v):=by
 have e1: ∀q:Int,(none:Option Int)=some q->q= -1\/q=th:=fun q h=>by simp at h
 have e2: ∀q:Int,some (-1:Int)=some q->q= -1\/q=th:=fun q h=>by simp only [aCJ] at h; exact .inl h.symm
 have e3: ∀q:Int,some th=some q->q= -1\/q=th:=fun q h=>by simp only [aCJ] at h; exact .inr h.symm
 unfold act
 repeat' refine adP.ite ?_ ?_
 all_goals first
  |trivial
  |exact e1
  |exact e2
  |exact e3
theorem IY {s:D} {i:Nat} {x:D} (h:s.l[i]?=some x):s.at (i:Int)=x:=by rw [Aw,h]; rfl
section
variable {d0 d1 s:D} {t op obj arg tries:Int} {n:Nat} (h0:Wd (.sl 3) d0) (h1:Wd (.sl 4) d1) (G:Gs s n) (hn:n<17592186043904) (hop:pV .u8 op) (ht:pV .i64 t) (ha:pV .i64 arg)
include h0 h1 G hn hop ht ha
theorem abN (A:Acc d0 d1 s t op obj) {o c dn g:Int} {r v:D} (T:Tg (s.at obj) o c dn g r v) {o' c' NI g':Int} {r' v':D} {m:Option Int} {a oc:Int}
 (h:act (Mx d0 obj) (Mo d0 s obj) t op arg tries o c dn g r v= .res o' c' NI g' r' v' m a oc):L 350 [enc d0,enc d1,enc (vZ s obj (Mx d0 obj) (.res o' c' NI g' r' v' m a oc))]=some [1]:=by
 obtain⟨hC,ok,hle⟩:=Zf h0 h1 G (by omega) A.r;have a0:=A.o0;have a1:=A.o1;obtain⟨i,rfl⟩ : ∃i:Nat,obj=(i:Int):=⟨obj.toNat,by omega⟩;have hi:i<s.l.length:=by omega
 have hO:=ok.2.2 _ (agV (d:=d0) a0 (by omega))
 have hrv:r.l.length<=n/\v.l.length<=n:=by
  have hrow:=G.rows _ (aCY hi);have e:s.l[i]=dL [.i o,.i c,.i dn,.i g,r,v]:=by rw [<- bP hi]; exact T.is
  rw [e] at hrow;exact hrow
 have hS:=Xx h0 h1 G (by omega) A.r a0 a1 T;have hS':=apU (d0:=d0) (mo:=Mo d0 s (i:Int)) (tries:=tries) (arg:=arg) (th:=t) T hS hop.1 A.k hO A.t0 A.t1 (by have:=ok.2.1; omega);have hK:=alC (M:=Mx d0 (i:Int)) (mo:=Mo d0 s (i:Int)) (op:=op) (tries:=tries) T (n:=n) hrv.1 hrv.2 (by omega) ht ha;have hQ:=aBf (M:=Mx d0 (i:Int)) (mo:=Mo d0 s (i:Int)) (th:=t) (op:=op) (arg:=arg) (tries:=tries) (o:=o) (c:=c) (dn:=dn) (g:=g) (r:=r) (v:=v)
 have hN:m=none\/op=12\/op=24:=by
  by_cases h2:op=12\/op=24
  ·grind
  ·have:=Rq (M:=Mx d0 (i:Int)) (mo:=Mo d0 s (i:Int)) (th:=t) (op:=op) (arg:=arg) (tries:=tries) (o:=o) (c:=c) (dn:=dn) (g:=g) (r:=r) (v:=v) (by omega) (by omega);rw [h] at this;exact .inl this
 rw [h] at hS' hK hQ
 have hM:NoM (.res o' c' NI g' r' v' m a oc)\/0<=Mx d0 (i:Int)/\Mx d0 (i:Int)<(s.l.length:Int)/\Mx d0 (i:Int)≠(i:Int):=by
  rcases hN with h2|h2
  ·exact .inl h2
  ·exact .inr (Og h0 h1 G.wd (G.few (by omega)) hop A h2)
 have G':=Zj G hK a0 a1 (hM.imp id fun h=> ⟨h.1,h.2.1⟩);have hl:=Ve s (i:Int) (Mx d0 (i:Int)) (.res o' c' NI g' r' v' m a oc)
 have hd:(if NI=0 then (0:Int) else 1)=NI:=by rcases hK.2.2.1 with rfl|rfl<;>rfl
 refine aqY h0 h1 G' (by omega) hC (by rw [hl]; exact hle) fun j hj=>?_;rw [hl] at hj;by_cases hji:j=i
 ·subst hji
  have e:(vZ s (j:Int) (Mx d0 (j:Int)) (.res o' c' NI g' r' v' m a oc)).at (j:Int)=dL [.i o',.i c',.i NI,.i g',r',v']:=by refine IY ?_;unfold vZ;rw [aY,hd];exact BM (by cases m with |none=>exact hj|some q=>rw [kQ]; exact hj)
  exact⟨o',c',NI,g',r',v',⟨e,hK.1,hK.2.1,hK.2.2.1,hK.2.2.2.1,hK.2.2.2.2.1,hK.2.2.2.2.2.2.1⟩,hS'⟩
 ·by_cases hjm:NoM (.res o' c' NI g' r' v' m a oc)\/(j:Int)≠Mx d0 (i:Int)
  ·have e:(vZ s (i:Int) (Mx d0 (i:Int)) (.res o' c' NI g' r' v' m a oc)).at (j:Int)=s.at (j:Int):=by
    rw [Aw,Aw,LG (by omega) hjm]
   obtain⟨o2,c2,dn2,g2,r2,v2,T2,_,_⟩:=ahW G (i:=(j:Int)) (by omega) (by omega);exact⟨o2,c2,dn2,g2,r2,v2,by rw [e]; exact T2,Xx h0 h1 G (by omega) A.r (by omega) (by omega) T2⟩
  ·have hj1:(j:Int)=Mx d0 (i:Int):=Decidable.byContradiction fun hne=>hjm (.inr hne)
   cases m with
   |none=>exact absurd (.inl rfl) hjm
   |some q=>
    obtain⟨o2,c2,dn2,g2,r2,v2,T2,_,_⟩:=ahW G (i:=(j:Int)) (by omega) (by omega);have P2:=Xx h0 h1 G (by omega) A.r (by omega) (by omega) T2
    have hk1:((d0.at (j:Int)).hd 0).n=1:=by
     have h4:((d0.at (i:Int)).hd 0).n=4:=by
      rw [<- A.k];rcases hN with h2|h2|h2
      ·grind
      ·rw [h2]; rfl
      ·rw [h2]; rfl
     obtain⟨_,_,m3⟩:=hO.2.2.2.2.2 h4
     grind
    have e:(vZ s (i:Int) (Mx d0 (i:Int)) (.res o' c' NI g' r' v' (some q) a oc)).at (j:Int)=dL [.i q,.i c2,.i dn2,.i g2,r2,v2]:=by refine IY ?_;unfold vZ;rw [aY,wJ (by omega),<- hj1,BM (by omega),T2.is];rfl
    refine⟨q,c2,dn2,g2,r2,v2,⟨e,hK.2.2.2.2.2.2.2.2.1 q rfl,T2.hc,T2.hd,T2.hg,T2.hr,T2.hv⟩,?_⟩;have t0:=A.t0;have t1:=A.t1;have hq:=hQ q rfl;rw [hk1] at P2 ⊢;obtain⟨p,q2,q3⟩:=P2;unfold Om tX at p;unfold Ho at q3;refine⟨?_,q2,?_⟩
    ·unfold Om tX;omega
    ·unfold Ho;omega
end
def adM (op:Int):Act->Prop
 | .res _ _ _ _ _ _ _ _ oc=>oc=2\/oc=3/\(op=12\/op=15)
 |_=>True
theorem adM.ite {op:Int} {p:Prop} [Decidable p] {a b:Act} (ha:p->adM op a) (hb: ¬p->adM op b):adM op (if p then a else b):=by
 grind
theorem aBd {M mo th op arg tries o c dn g:Int} {r v:D}:adM op (act M mo th op arg tries o c dn g r v):=by
 unfold act
 repeat' first
  |trivial
  |exact .inl rfl
  |exact .inr ⟨rfl,.inl (by assumption)⟩
  |exact .inr ⟨rfl,.inr (by assumption)⟩
  |refine adM.ite (fun _=>?_) (fun _=>?_)
theorem Tot.jmp {j k:Nat} {xs ys:List Int} {t:T Lf} {p:List Int->Prop} (e:S.tree j=t) (h:dX (bQ L (low xs)) t= .jump k ys) (q:Tot k ys p):Tot j xs p:=by refine Tot.of ?_;rw [e,h];exact .jump q
theorem Tot.ret {j:Nat} {xs ys:List Int} {t:T Lf} {p:List Int->Prop} (e:S.tree j=t) (h:dX (bQ L (low xs)) t= .out ys) (q:p ys):Tot j xs p:=by refine Tot.of ?_;rw [e,h];exact .out q
theorem OM (m:Nat) (hm:m<=60) (ih: ∀(k n:Int) (s kids:D),Wd .str s->Wd (.sl 6) kids->Tot 150 [k,enc s,n,enc kids,(m:Int)] one) (x3 x4 x5:Int) (kids:D) (hk:Wd (.sl 6) kids) :
 ∀(j i:Nat) (x1:Int),i+j=kids.l.length->Tot 151 [((m+1:Nat):Int),x1,(i:Int),x3,x4,x5,enc kids] one
 |0,i,x1,hi=>Tot.ret aoZ (ys:=[x1]) (dR [] [.lt Qj (ln iR)] (ou [Qb]) (by simp only [zz]<;>omega) (by kernel_rfl) (by simp only [zz])) ⟨x1,rfl⟩
 |j+1,i,x1,hi=>by
  have hl:=hk.len;have hil:i<kids.l.length:=by omega
  have hw:=bV (n:=i) (by omega);obtain⟨k,s,n,ks,he,_,hs,_,hks⟩:=Kv hk hil;have ha:kids.at (i:Int)=dL [.i k,s,.i n,ks]:=by rw [bP hil]; exact he
  obtain⟨ys,X8,z,rfl⟩:=ih k n s ks hs hks;have hw2:IntKind.i64.wrap (((m+1:Nat):Int)-1)=(m:Int):=by rw [AB (by omega) (by omega)]; omega
  by_cases hx:10000<x1
  ·exact Tot.ret aoZ (ys:=[x1]) (dR [.lt Qj (ln iR),.lt (.lit 10000) Qb] [] (ou [Qb]) (by simp only [zz]<;>omega) (by kernel_rfl) (by simp only [zz])) ⟨x1,rfl⟩
  ·exact Tot.jmp aoZ (dR [.lt Qj (ln iR),.eq (a0 150 Qdn) Qv] [.lt (.lit 10000) Qb,OB] (ju 151 [Qd,wr (.add Qb (rr 150 Qdn 0)),Hu,Qh,dI,dY,iR]) (by simp only [zz,ha,zg,hw2,X8]<;>omega) (by kernel_rfl) (by simp only [zz,ha,zg,hw2,X8,hw]<;>rfl)) (OM m hm ih x3 x4 x5 kids hk j (i+1) (IntKind.i64.wrap (x1+z)) (by omega))
theorem U6: ∀(m:Nat),m<=60->∀(k n:Int) (s kids:D),Wd .str s->Wd (.sl 6) kids->Tot 150 [k,enc s,n,enc kids,(m:Int)] one
 |0,_,k,n,s,kids,_,_=>Tot.ret awZ (ys:=[10000]) (dR [Qdl] [] (ou [.lit 10000]) (by simp only [zz]<;>omega) (by kernel_rfl) (by simp only [zz])) ⟨_,rfl⟩
 |m+1,hm,k,n,s,kids,hs,hk=>Tot.jmp awZ (ys:=[((m+1:Nat):Int),_,(0:Nat),k,enc s,n,enc kids]) (dR [] [Qdl] (ju 151 [dI,wr (.add Qv (wr (.quo Qc (.lit 100)))),Qa,Qd,Qb,Qj,Qh]) (by simp only [zz]<;>omega) (by kernel_rfl) (by simp only [nT,List.map,aP,Nat.reduceLT,aG,aH]<;>rfl)) (OM m (by omega) (U6 m (by omega)) k (enc s) n kids hk kids.l.length 0 _ (by omega))
section
variable {d0 d1:D} (h1:Wd (.sl 4) d1)
include h1
theorem MK (x1 x2 x3:Int) (Ro:D) (ha:Wd (.sl 6) Ro) (q: ∀x0,Tot 102 [x0,x1,IntKind.i64.wrap (x2+1),x3,enc d0,enc d1] EN): ∀(j i:Nat) (x0:Int),i+j=Ro.l.length->Tot 103 [x0,x1,x2,x3,enc Ro,(Ro.l.length:Int),(i:Int),enc d0,enc d1] EN
 |0,i,x0,hi=>Tot.jmp axA (dR [] [.lt iR dY] (ju 102 [Qd,Qb,Hu,Qh,oW,rV]) (by simp only [zz]<;>omega) (by kernel_rfl) (by simp only [zz])) (q x0)
 |j+1,i,x0,hi=>by
  have hl:=ha.len;have hil:i<Ro.l.length:=by omega
  have hw:=bV (n:=i) (by omega);obtain⟨k,s,n,ks,he,_,hs,_,hks⟩:=Kv ha hil;have hat:Ro.at (i:Int)=dL [.i k,s,.i n,ks]:=by rw [bP hil]; exact he
  obtain⟨ys,X8,z,rfl⟩:=U6 60 (by omega) k n s ks hs hks;have X8:L 150 [k,enc s,n,enc ks,60]=some [z]:=X8;exact Tot.jmp axA (dR [.lt iR dY,.lt iR Qde,.eq (a0 150 Qdk) Qv] [.lt iR Qa] (ju 103 [wr (.add Qd (rr 150 Qdk 0)),Qb,Qj,Qh,dI,dY,wr (.add iR Qv),oW,rV]) (by simp only [zz,hat,zg,X8]<;>omega) (by kernel_rfl) (by simp only [zz,hat,zg,X8,hw]<;>rfl)) (MK x1 x2 x3 Ro ha q j (i+1) (IntKind.i64.wrap (x0+z)) (by omega))
theorem acO (i:Nat) (hi:i<d1.l.length) (q: ∀x0,Tot 101 [x0,(d1.l.length:Int),((i+1:Nat):Int),enc d0,enc d1] EN): ∀(j k:Nat) (x0:Int),(∀nm' lc cd,d1.l[i]=dL [nm',lc,cd]->k+j=cd.l.length)->Tot 102 [x0,(i:Int),(k:Int),(d1.l.length:Int),enc d0,enc d1] EN:=by
 have hl:=h1.len;have hw:=bV (n:=i) (by omega);obtain⟨nm',lc,cd,he,_,_,hcd⟩:=RI h1 hi;have hat:d1.at (i:Int)=dL [nm',lc,cd]:=by rw [bP hi]; exact he
 have hcl:=hcd.len;intro j
 induction j with
 |zero=> intro k x0 hk;have hk:=hk _ _ _ he;exact Tot.jmp apA (dR [.lt Qb (ln dY)] [Qdf,.lt Qj (ln (ce 2 (el dY Qb)))] (ju 101 [Qd,Qh,Qdg,dI,dY]) (by simp only [zz,hat,zg]<;>omega) (by kernel_rfl) (by simp only [zz,hw]<;>rfl)) (q x0)
 |succ j ih=>
  intro k x0 hk;have hk':=hk _ _ _ he;by_cases h6:6000<x0
  ·exact Tot.jmp apA (dR [.lt Qb (ln dY),.lt Qj (ln (ce 2 (el dY Qb))),.lt (.lit 6000) Qd] [Qdf] (ju 101 [Qd,Qh,Qdg,dI,dY]) (by simp only [zz,hat,zg]<;>omega) (by kernel_rfl) (by simp only [zz,hw]<;>rfl)) (q x0)
  ·have hkl:k<cd.l.length:=by omega
   have hw2:=bV (n:=k) (by omega);obtain⟨a,b,c,e,f,g,Ro,hin,_,_,_,_,_,_,has⟩:=ahI hcd hkl;have aB3:cd.at (k:Int)=dL [.i a,.i b,.i c,.i e,.i f,.i g,Ro]:=by rw [bP hkl]; exact hin
   refine Tot.jmp apA (dR [.lt Qb (ln dY),.lt Qj (ln (ce 2 (el dY Qb)))] [Qdf,.lt (.lit 6000) Qd,OB] (ju 103 [Qd,Qb,Qj,Qh,Qdi,ln Qdi,Qa,dI,dY]) (by simp only [zz,hat,zg]<;>omega) (by kernel_rfl) (by simp only [zz,hat,aB3,zg]<;>rfl)) (MK h1 (i:Int) (k:Int) (d1.l.length:Int) Ro has (fun x0=>?_) Ro.l.length 0 x0 (by omega));rw [hw2];exact ih (k+1) x0 fun nm' lc cd he=>by have:=hk nm' lc cd he; omega
theorem MJ: ∀(j i:Nat) (x0:Int),i+j=d1.l.length->Tot 101 [x0,(d1.l.length:Int),(i:Int),enc d0,enc d1] EN
 |0,i,x0,hi=>by
  by_cases h6:6000<x0
  ·exact Tot.ret apB (dR [.lt (.lit 6000) Qd] [W9] (ou [Qv]) (by simp only [zz]<;>omega) (by kernel_rfl) (by simp only [zz])) zG
  ·exact Tot.ret apB (dR [] [W9,.lt (.lit 6000) Qd] (ou [Qa]) (by simp only [zz]<;>omega) (by kernel_rfl) (by simp only [zz])) zH
 |j+1,i,x0,hi=>by
  have hil:i<d1.l.length:=by omega
  obtain⟨nm',lc,cd,he,_,_,hcd⟩:=RI h1 hil;refine Tot.jmp apB (ys:=[_,(i:Int),((0:Nat):Int),(d1.l.length:Int),enc d0,enc d1]) (dR [W9,.lt Qj Qde] [OB] (ju 102 [wr (.add Qd (wr (.add (ln (ce 1 (el dI Qj))) (ln (ce 2 (el dI Qj)))))),Qj,Qa,Qb,Qh,dI]) (by simp only [zz]<;>omega) (by kernel_rfl) (by simp only [zz]<;>rfl)) (acO h1 i hil (fun x0=>MJ j (i+1) x0 (by omega)) cd.l.length 0 _ fun n' l' c' he'=>?_);rw [he] at he';have:=IV he';simp only [List.cons.injEq,and_true] at this;rw [this.2.2];omega
theorem acN:Tot 100 [enc d0,enc d1] EN:=
 Tot.jmp e100 (ys:=[_,(d1.l.length:Int),((0:Nat):Int),enc d0,enc d1]) (dR [] [] (ju 101 [wr (.add uK Qc),Qc,Qa,Qd,Qb]) (by simp only [zz]<;>omega) (by kernel_rfl) (by simp only [zz]<;>rfl)) (MJ h1 d1.l.length 0 _ (by omega))
end
end Go.As.Try
end
section
namespace Go.As.Try
open Go hiding Stat Spec shape
open Go.As
set_option maxRecDepth 100000
set_option linter.unusedSimpArgs false
def adN (op th arg:Int) (v:D):Act->Prop
 | .res o _ _ _ r v' m a _=>(op=20->v'=dL (v.l++ [.i arg])/\a=arg)/\(op=21->0<v.l.length/\v'=gW v (v.l.drop 1)/\a=(v.at 0).n)/\(op≠20->op≠21->v'=v)/\(op=7->o=th/\r.l.length=0/\m=none)
 |_=>True
theorem adN.ite {op th arg:Int} {v:D} {p:Prop} [Decidable p] {a b:Act} (ha:p->adN op th arg v a) (hb: ¬p->adN op th arg v b):adN op th arg v (if p then a else b):=by
 grind
theorem aBe {M mo th op arg tries o c dn g:Int} {r v:D}:adN op th arg v (act M mo th op arg tries o c dn g r v):=by
 unfold act
 repeat' refine adN.ite (fun _=>?_) (fun _=>?_)
 all_goals first
  |trivial
  |exact⟨fun _=>by first |omega|exact⟨rfl,rfl⟩,fun _=>by first |omega|exact⟨by omega,rfl,rfl⟩,fun _ _=>by first |omega|rfl,fun _=>by first |omega|exact⟨rfl,by omega,rfl⟩⟩
def QV (s p:D):Prop:= ∀i:Nat,i<s.l.length->((jF p.l (.i (i:Int))).getD (.i 0)).l=((s.at (i:Int)).hd 5).l
theorem hd5 {o c dn g:D} {r v:D}:(dL [o,c,dn,g,r,v]).hd 5=v:=by rw [pK]; rfl
theorem agG {s:D} {ob:Nat} (hob:ob<s.l.length) {M o c dn g:Int} {r v:D} {m:Option Int} {a oc:Int} (hth: ∀x∈s.l,zD x) (i:Nat) (hi:i<s.l.length) :
 (((vZ s (ob:Int) M (.res o c dn g r v m a oc)).at (i:Int)).hd 5)=if i=ob then v else (s.at (i:Int)).hd 5:=by
 by_cases h:i=ob
 ·subst h;rw [aCL rfl]
  have:(vZ s (i:Int) M (.res o c dn g r v m a oc)).l[i]?=some (dL [.i o,.i c,.i (if dn=0 then 0 else 1),.i g,r,v]):=by
   unfold vZ;rw [aY];refine BM ?_
   cases m with
   |none=>exact hi
   |some q=>rw [kQ]; exact hi
  rw [IY this,hd5]
 ·rw [aCI h]
  cases m with
  |none=> have:=LG (s:=s) (obj:=(ob:Int)) (M:=M) (A:=.res o c dn g r v none a oc) (k:=i) (by omega) (.inl rfl);rw [Aw,Aw,this]
  |some q=>
   by_cases hM:(i:Int)=M
   ·have e:(vZ s (ob:Int) M (.res o c dn g r v (some q) a oc)).l[i]?=some (dL (iM (s.at M).l 0 (.i q))):=by
     unfold vZ;rw [aY,wJ (by omega),<- hM,BM hi]
    rw [IY e,<- hM,bP hi];obtain⟨o2,c2,d2,g2,r2,v2,e2,_⟩:=hth _ (aCY hi);rw [e2];rfl
   ·have:=LG (s:=s) (obj:=(ob:Int)) (M:=M) (A:=.res o c dn g r v (some q) a oc) (k:=i) (by omega) (.inr hM);rw [Aw,Aw,this]
theorem amT {s s' p:D} (h:QV s p) (hl:s'.l.length=s.l.length) (he: ∀i:Nat,i<s.l.length->((s'.at (i:Int)).hd 5).l=((s.at (i:Int)).hd 5).l):QV s' p:=fun i hi=>by rw [h i (by omega),he i (by omega)]
theorem Lr {s s' p x v:D} {ob:Nat} (h:QV s p) (hl:s'.l.length=s.l.length) (he: ∀i:Nat,i<s.l.length->(s'.at (i:Int)).hd 5=if i=ob then v else (s.at (i:Int)).hd 5) (hx:x.l=v.l):QV s' (dL (oP p.l (.i (ob:Int)) x)):=fun i hi=>by
 rw [aY,Ip,he i (by omega)];by_cases hi2:i=ob
 ·subst hi2;rw [aCL rfl,aCL rfl];exact hx
 ·rw [aCI (by simp only [D.i.injEq]; omega),aCI hi2];exact h i (by omega)
theorem azR {d:D} (h:Wd (.sl 9) d) {i:Nat} (hi:i<d.l.length): ∃th op obj arg tries,d.l[i]=dL [.i th,.i op,.i obj,.i arg,.i tries]/\pV .i64 th/\pV .u8 op/\pV .i64 obj/\pV .i64 arg:=by
 obtain⟨r,h1,hl,hc⟩:=h.elN (cs:=[.int .i64,.int .u8,.int .i64,.int .i64,.int .i64]) rfl _ (aCY hi);obtain⟨a,b,c,e,f,rfl⟩:=five hl;obtain⟨a,rfl,ha⟩:=(hc 0 _ _ rfl rfl).i;obtain⟨b,rfl,hb⟩:=(hc 1 _ _ rfl rfl).i;obtain⟨c,rfl,hc'⟩:=(hc 2 _ _ rfl rfl).i;obtain⟨e,rfl,he⟩:=(hc 3 _ _ rfl rfl).i;obtain⟨f,rfl,hf⟩:=(hc 4 _ _ rfl rfl).i
 grind
section
variable {d0 d1:D} (h0:Wd (.sl 3) d0) (h1:Wd (.sl 4) d1)
theorem abJ {s:D} {n:Nat} (G:Gs s n) (hn:n<17592186044000):L 200 [enc s,enc s]=some [1]:=by obtain⟨c,e1,_,e3⟩:=abK s s G.wd.len (fun x hx=>by have:=G.rows x hx; omega);have hI: ∀{x:D},aaQ x x:=fun {x}=> ⟨rfl,fun k h1 h2 _=>rfl⟩;rw [e1,e3.2 ⟨rfl,fun k h1 h2 _=> ⟨rfl,rfl,Iff.rfl,rfl,hI,hI⟩⟩]
include h0 h1
theorem akW (hC:L 450 [enc d0,enc d1]=some [0]) (ok:Ih d0 d1):Gs (jQ d0) 0/\((jQ d0).l.length=0\/L 350 [enc d0,enc d1,enc (jQ d0)]=some [1])/\QV (jQ d0) (.i 0):=by
 have G:=ahX h0 ok;by_cases hn:d0.l.length=0
 ·have e:jQ d0= .i 1:=by unfold jQ; rw [aCL hn]
  rw [e] at G ⊢;exact⟨G,.inl rfl,fun i hi=>by simp [D.l] at hi⟩
 have e:jQ d0=dL (d0.l.map jZ):=by unfold jQ; rw [aCI hn]
 have hl:(jQ d0).l.length=d0.l.length:=by rw [e,aY,aDz]
 have hat: ∀i:Nat,(hi:i<d0.l.length)->(jQ d0).at (i:Int)=jZ d0.l[i]:=fun i hi=>by refine IY ?_;rw [e,aY,aDd,aCV hi];rfl
 refine⟨G,.inr (aqY h0 h1 G (by omega) hC hl fun i hi=>?_),fun i hi=>?_⟩
 ·rw [hl] at hi;obtain⟨o,c,dn,g,r,v,T,_⟩:=ahW G (i:=(i:Int)) (by omega) (by omega);have hO:=ok.2.2 _ (aCY hi);rw [hat i hi] at T;have e:=T.is;unfold jZ at e;have e:=IV e;simp only [List.cons.injEq,and_true,D.i.injEq] at e;obtain⟨rfl,hc,rfl,rfl,rfl,rfl⟩:=e;rw [hat i hi,bP hi];refine⟨_,_,_,_,_,_,T,?_⟩;have h1l:(D.i 1).l= []:=rfl;obtain⟨k1,k2,_,kn,k5,_⟩:=hO;refine⟨?_,?_,?_⟩
  ·unfold Om tX;rw [h1l];simp only [aC3,IntKind.wrap_i64];split at hc<;>omega
  ·rw [h1l];exact Zi _
  ·unfold Ho;rw [h1l];simp only [aC3];omega
 ·rw [hl] at hi;rw [hat i hi];unfold jZ;rw [hd5];rfl
theorem FN {ms:D} (hm:Wd (.sl 9) ms): ∀(k i:Nat) (s p:D),i+k=80->Gs s i->(s.l.length=0\/L 350 [enc d0,enc d1,enc s]=some [1])->QV s p->Tot 51 [enc ms,enc s,(i:Int),enc d0,enc d1,enc p] (·= [1])
 |0,i,s,p,hi,_,_,_=>by
  have c1: ¬(i:Int)<80:=by omega
  refine Tot.of ?_;rw [e51];simp only [t51,zz,c1];exact .ite (fun _=> .out rfl) fun _=> .out rfl
 |k+1,i,s,p,hi,G,R,V=>by
  have c1:(i:Int)<80:=by omega
  have c2: ¬(i:Int)<0:=by omega
  have w:=bV (n:=i) (by omega);refine Tot.of ?_;rw [e51];by_cases hil:i<ms.l.length
  ·have c3:(i:Int)<(ms.l.length:Int):=by omega
   obtain⟨th,op,ob,arg,tries,he,hth,hop,hob,harg⟩:=azR hm hil;have hat:ms.at (i:Int)=dL [.i th,.i op,.i ob,.i arg,.i tries]:=by rw [bP hil]; exact he
   obtain⟨s',e1,e2,e3,e4,e5,oc,A⟩:=try_any (arg:=arg) (tries:=tries) h0 h1 G (by omega) hth hop hob harg;have hL:=A.eq;have G':=A.gs;have hlen:=A.len;have T:=Xf h0 h1 G (by omega) hop A;have hS:=abJ G (by omega);clear A
   cases T with
   |no=>
    have ih:=FN hm k (i+1) s p (by omega) G' R V;rcases R with R|R
    ·have c4: ¬(0:Int)<(s.l.length:Int):=by omega
     simp only [t51,zz,qV,qU,c1,c2,c3,c4,w,hat,zg,hL,hS,aCT,XP,not_true_eq_false,and_self,and_true,and_false,false_and,not_false_eq_true,true_and,Int.reduceEq];exact .jump ih
    ·simp only [t51,zz,qV,qU,c1,c2,c3,R,w,hat,zg,hL,hS,aCT,XP,not_true_eq_false,and_self,and_true,and_false,false_and,not_false_eq_true,true_and,Int.reduceEq];exact .ite (fun _=> .jump ih) fun _=> .jump ih
   |mis A=>
    have R:=A.r;have ih:=FN hm k (i+1) s p (by omega) G' (.inr R) V;have c4:(0:Int)<(s.l.length:Int):=by have:=A.o0; have:=A.o1; omega
    simp only [t51,zz,qV,qU,c1,c2,c3,c4,R,w,hat,zg,hL,hS,aCT,XP,not_true_eq_false,and_self,and_true,and_false,false_and,not_false_eq_true,true_and,Int.reduceEq];exact .ite (fun _=> .jump ih) fun _=> .jump ih
   |res A o c dn g r v o' c' NI g' r' v' m _ _ T h=>
    have hv:=aBe (M:=Mx d0 ob) (mo:=Mo d0 s ob) (th:=th) (op:=op) (arg:=arg) (tries:=tries) (o:=o) (c:=c) (dn:=dn) (g:=g) (r:=r) (v:=v);have hw:=aBd (M:=Mx d0 ob) (mo:=Mo d0 s ob) (th:=th) (op:=op) (arg:=arg) (tries:=tries) (o:=o) (c:=c) (dn:=dn) (g:=g) (r:=r) (v:=v);have hR:=abN h0 h1 G (by omega) hop hth harg A T h;rw [h] at hv hw;generalize hz:vZ s ob (Mx d0 ob) (.res o' c' NI g' r' v' m e4 oc)=z at *
    have hoc:oc≠0:=by have:oc=2\/oc=3/\(op=12\/op=15):=hw;omega
    obtain⟨hC,ok,hle⟩:=Zf h0 h1 G (by omega) A.r;have a0:=A.o0;have a1:=A.o1;have hO:=ok.2.2 _ (agV (d:=d0) a0 (by omega))
    have h27:op≠27:=by have:=L8 hop.1 A.k hO.1;omega
    obtain⟨ob,rfl⟩ : ∃j:Nat,ob=(j:Int):=⟨ob.toNat,by omega⟩;have hbl:ob<s.l.length:=by omega
    have h5:=agG (s:=s) (ob:=ob) hbl (M:=Mx d0 (ob:Int)) (o:=o') (c:=c') (dn:=NI) (g:=g') (r:=r') (v:=v') (m:=m) (a:=e4) (oc:=oc) G.wd.thing;rw [hz] at h5;have hv5:(s.at (ob:Int)).hd 5=v:=by rw [T.is,hd5]
    have hq:=V ob hbl;rw [hv5] at hq;obtain⟨v20,v21,vno,v7⟩:=hv;have c4:(0:Int)<(s.l.length:Int):=by omega
    have step: ∀p':D,QV z p'->Tot 51 [enc ms,enc z,((i+1:Nat):Int),enc d0,enc d1,enc p'] (·= [1]):=fun p' V'=>FN hm k (i+1) z p' (by omega) G' (.inr hR) V'
    have hlz:v.l.length<=i:=by have:=(G.rows _ (aCY hbl)).2;rw [<- bP hbl,hv5] at this;exact this
    have c5: ¬(ob:Int)<0:=by omega
    have c6:((s.l.length:Nat):Int)=(z.l.length:Int):=by omega
    by_cases h20:op=20
    ·subst h20;obtain⟨hv',rfl⟩:=v20 rfl;have c7:(((jF p.l (.i (ob:Int))).getD (.i 0)).l.length:Int)<17592186044415:=by rw [hq]; omega
     have V': ∀x:D,x.l=v.l++ [.i e4]->QV z (dL (oP p.l (.i (ob:Int)) x)):=fun x hx=>Lr (v:=v') V hlen h5 (by rw [hv',aY]; exact hx)
     cases hf:jF p.l (.i (ob:Int)) with
     |none=> rw [hf] at hq;have V1:QV s (dL (oP p.l (.i (ob:Int)) (.i 0))):=Lr (v:=v) V rfl (fun j hj=>by split<;>simp_all) hq;have V2:=V1;have V':=Lr (v:=v') (x:=dL ((D.i 0).l++ [.i e4])) V1 hlen h5 (by rw [hv',aY,aY,<- hq]; rfl);simp only [t51,zz,qV,qU,c1,c2,c3,c4,c5,w,hat,zg,hL,hR,hoc,hf,aCT,aDR,aD3,aDe,XP,not_true_eq_false,and_self,and_true,and_false,false_and,not_false_eq_true,true_and,Int.reduceEq,aCU,if_true,if_false,reduceIte,aY];rw [aY] at V';exact .jump (step _ V')
     |some x=>
      rw [hf] at hq;have hq:x.l=v.l:=hq;have hxl:(x.l.length:Int)<17592186044415:=by rw [hq]; omega
      have V': ∀y:D,y.l=v.l++ [.i e4]->QV z (dL (oP p.l (.i (ob:Int)) y)):=fun y hy=>Lr (v:=v') V hlen h5 (by rw [hv',aY]; exact hy);simp only [t51,zz,qV,qU,c1,c2,c3,c4,c5,w,hat,zg,hL,hR,hoc,hf,aCT,aDR,aD3,aDe,XP,not_true_eq_false,and_self,and_true,and_false,false_and,not_false_eq_true,true_and,Int.reduceEq,aCU,if_true,if_false,reduceIte,hxl];refine .ite (fun hz0=>?_) fun _=> .jump (step _ (V' _ (by rw [aY,hq])));have hn:v.l= []:=aDq (by rw [<- hq]; omega);have W:=V' (dL ((D.i 0).l++ [.i e4])) (by rw [aY,hn]; rfl);exact .ite (fun _=> .jump (step _ W)) fun _=> .jump (step _ W)
    by_cases h21:op=21
    ·subst h21;obtain⟨hp,hv',rfl⟩:=v21 rfl
     cases hf:jF p.l (.i (ob:Int)) with
     |none=> rw [hf] at hq;have hq:[]=v.l:=hq;rw [<- hq] at hp;simp at hp
     |some x=>
      rw [hf] at hq;have hq:x.l=v.l:=hq;have hx0: ¬(x.l.length:Int)=0:=by rw [hq]; omega
      have ha:(x.at 0).n=(v.at 0).n:=by unfold D.at; rw [hq]
      have hx1: ¬(x.l.length:Int)-1<0:=by omega
      have hx2: ¬(x.l.length:Int)<1+((x.l.length:Int)-1):=by omega
      have V': ∀y:D,y.l=v.l.drop 1->QV z (dL (oP p.l (.i (ob:Int)) y)):=fun y hy=>Lr (v:=v') V hlen h5 (by rw [hv',iL]; exact hy);simp only [t51,zz,qV,qU,c1,c2,c3,c4,c5,w,hat,zg,hL,hR,hoc,hf,aCT,aDR,aD3,aDe,XP,not_true_eq_false,and_self,and_true,and_false,false_and,not_false_eq_true,true_and,Int.reduceEq,aCU,if_true,if_false,reduceIte,hx0,ha,hx1,hx2];refine .ite (fun hz0=>?_) fun _=> .jump (step _ (V' _ ?_))
      ·have hn:v.l.drop 1= []:=aE4 (by rw [<- hq]; omega);exact .jump (step _ (V' (.i 3) (by rw [hn]; rfl)))
      ·rw [iL,iL,aD0 (by omega),hq];rfl
    have hvv:=vno h20 h21;have V':QV z p:=amT V hlen fun j hj=>by rw [h5 j hj]; split<;>simp_all
    by_cases h7:op=7
    ·subst h7;obtain⟨rfl,hr0,rfl⟩:=v7 rfl
     have hzo:z.at (ob:Int)=dL [.i o',.i c',.i (if NI=0 then 0 else 1),.i g',r',v']:=by refine IY ?_;rw [<- hz];unfold vZ;rw [aY];exact BM hbl
     have c7:(ob:Int)<(z.l.length:Int):=by omega
     simp only [t51,zz,qV,qU,c1,c2,c3,c4,c5,w,hat,zg,hL,hR,hoc,aCT,aDR,aD3,aDe,XP,not_true_eq_false,and_self,and_true,and_false,false_and,not_false_eq_true,true_and,Int.reduceEq,aCU,if_true,if_false,reduceIte,hzo,c7];refine .ite (fun h=>absurd h (by omega)) fun _=> .jump (step _ V')
    ·simp only [t51,zz,qV,qU,c1,c2,c3,c4,c5,w,hat,zg,hL,hR,hoc,aCT,aDR,aD3,aDe,XP,not_true_eq_false,and_self,and_true,and_false,false_and,not_false_eq_true,true_and,Int.reduceEq,aCU,if_true,if_false,reduceIte,h20,h21,h7,h27];exact .jump (step _ V')
  ·have c3: ¬(i:Int)<(ms.l.length:Int):=by omega
   simp only [t51,zz,c3];exact .out rfl
theorem XF {ms:D} (hm:Wd (.sl 9) ms):L 50 [enc d0,enc d1,enc ms]=some [1]:=by
 obtain⟨ys,hG,g,rfl,hg⟩:=acN (d0:=d0) h1
 have res:Tot 50 [enc d0,enc d1,enc ms] (·= [1]):=by
  refine Tot.of ?_;rw [e50];rcases hg with rfl|rfl
  ·obtain⟨ys,hc,b,rfl,hb,hok⟩:=IW h0 h1;rcases hb with rfl|rfl
   ·have ok:=(hok rfl).1;obtain⟨G,R,V⟩:=akW h0 h1 hc ok
    have hB:L 300 [enc d0,enc d1]=some [enc (jQ d0)]:=by
     by_cases hn:d0.l.length=0
     ·have e:jQ d0= .i 1:=by unfold jQ; rw [aCL hn]
      rw [e];exact WI hc (.inr hn)
     ·have e:jQ d0=dL (d0.l.map jZ):=by unfold jQ; rw [aCI hn]
      rw [e];exact akX hc ok.1 (by omega)
    simp only [t50,zz,hG,hB,Int.reduceEq];exact .jump (FN h0 h1 hm 80 0 _ _ rfl G R V)
   ·have hB:=WI (d0:=d0) (d1:=d1) hc (.inl (by omega));simp only [t50,zz,hG,hB,Int.reduceEq];exact .jump (FN h0 h1 hm 80 0 (.i 1) (.i 0) rfl ⟨.nil 7,fun x hx=>by simp [D.l] at hx⟩ (.inl rfl) fun i hi=>by simp [D.l] at hi)
  ·simp only [t50,zz,hG,Int.reduceEq];exact .out rfl
 obtain⟨ys,h,rfl⟩:=res;exact h
end
end Go.As.Try
end
section
namespace Go.Proofs.YtaahpkjohjnjmaaGreatDoor.fnPrimsSound
open Go hiding Stat
open Go.As Go.As.Try Go.Proofs Go.RowKit Go.ChangeShapes Go.WideShapes Go.ChangeAt
set_option maxRecDepth 100000
theorem anW:AQ Tryz.prog anC 8 25=some [.sl 3,.sl 4]:=by kernel_rfl
theorem anV:AQ Tryz.prog anC 8 26=some [.sl 9]:=by kernel_rfl
theorem WE {H:Type} {enc:TypeId×Value->H} {W:World} {t:TypeId} {v:Value} {d:DataW H} {p:List MemPlace} {Oz:List CK} (hf:AQ Tryz.prog anC 8 t=some Oz) (h:DataW.Trod enc Tryz.prog W 0 (fun _=>true) true t v d p) (hw:(d.weights Tryz.prog t).all (·<=reachBytes)=true) :
 ∃ds,Rs (XA W) W.heap Oz ds v.cells.toList:=by
 obtain⟨fuel,hx⟩:=h;exact Sj anB fuel t 8 Oz v.cells.toList (d,p) hf hx hw
theorem azO:50∈S.nums 3:=by
 have h:S.nums 3= [50]:=by kernel_rfl
 rw [h];simp
theorem contract (H:Type) (enc:TypeId×Value->H) (W:World) (base:Nat) (args:Array Value) (ds gs:List (DataW H)) (before:List MemPlace)
 (hval: ∀(j:Nat) t v,Tryz.f3.params[j]?=some t->args[j]?=some v->Value.okWide Tryz.prog W .any base t v)
 (hW:DataW.Whole enc Tryz.prog Tryz.f3.params.toList Rows.primsSoundSpec.vars false W args.toList ds gs before)
 (hsz:(DataW.weightsEach Tryz.prog (Tryz.f3.params.toList++ []) (ds++gs)).all (·<=reachBytes)=true) (hsh:W.ShapedOpen Tryz.prog) :
 Calls Tryz.prog 3 args W fun e W'=> ∃v,e= .returned v/\Rows.primsSoundSpec.post enc Tryz.prog Tryz.f3 false true false false W args v W':=by
 have hW':=hW;obtain⟨p,q,hA0,hV,rfl,hfz,hnd⟩:=hW;have hA:DataW.TrodAll enc Tryz.prog W 0 (fun _=>true) true Tryz.f3.params.toList args.toList ds p:=hA0;rw [Tryz.params3] at hA hval hsz;obtain⟨v0,vs0,d0,ds0,p0,q0,hargs,rfl,rfl,h0,r0⟩:=trodAll_cons hA;obtain⟨v1,vs1,d1,ds1,p1,q1,rfl,rfl,rfl,h1,r1⟩:=trodAll_cons r0;obtain⟨rfl,rfl,rfl⟩:=trodAll_nil r1;obtain rfl:args= #[v0,v1]:=by cases args; simp_all
 obtain⟨rfl,rfl⟩:=trodVars_none hV;clear hA0;simp only [aDX] at hW';have hlt: ∀x∈p0++p1,x.block<W.heap.size:=fun x hx=>by simpa using hW'.lt x (by simpa using hx)
 have hlt0: ∀x∈p0,x.block<W.heap.size:=fun x hx=>hlt x (List.mem_append_left _ hx);have hlt1: ∀x∈p1,x.block<W.heap.size:=fun x hx=>hlt x (aFc _ hx)
 have hsz':(d0.weights Tryz.prog 25).all (·<=reachBytes)=true/\(d1.weights Tryz.prog 26).all (·<=reachBytes)=true:=by have:(DataW.weightsEach Tryz.prog [25,26] [d0,d1]).all (·<=reachBytes)=true:=hsz;simp only [DataW.weightsEach,aEw,aCM] at this;exact⟨this.1,this.2.1⟩
 obtain⟨es0,R0⟩:=WE anW h0 hsz'.1;obtain⟨es1,R1⟩:=WE anV h1 hsz'.2;obtain⟨cs0,rfl,_⟩:=okWide_struct Tryz.underlying25 (hval 0 25 v0 rfl rfl);have e0:(Value.agg cs0).cells.toList=cs0.toList:=rfl;obtain⟨ad1,len1,cap1,rfl⟩:=okWide_slice Tryz.underlying26 (hval 1 26 v1 rfl rfl);have e1:(Value.slice ad1 len1 cap1).cells.toList= [.slice ad1 len1 cap1]:=rfl;rw [e0] at R0;rw [e1] at R1
 match es0,hcs0:cs0.toList,R0 with
 |[x0,x1],[u0,u1],.cons r0_ w0 (.cons r1_ w1 .nil)=>
  obtain rfl:cs0= #[u0,u1]:=by rw [<- Array.toArray_toList (xs:=cs0),hcs0]
  match es1,R1 with
  |[x2],.cons r2_ w2 .nil=> have hL:=XF w0 w1 w2;refine (akQ (g:=3) (j:=50) (e:=aAM.ent) azO (by kernel_rfl) rfl rfl hL hsh (vals:=[.agg [u0,u1].toArray,.slice ad1 len1 cap1]) (fl:=[u0,u1,.slice ad1 len1 cap1]) (.agg _ [u0,u1] rfl (.one _ _ .nil)) ⟨_,_,_,_,rfl,rfl,N8 r0_,_,_,_,_,rfl,rfl,N8 r1_,_,_,_,_,rfl,rfl,N8 r2_,rfl,rfl⟩).mono fun e W' ⟨he,hb⟩=>?_;subst he;exact⟨_,rfl,⟨_,_,_,[],_,[],hW',trodAll_mk1 (shut_bool Tryz.underlying4 _),trodAll_mk2 (Below.trod laidOut (by kernel_rfl) (of_decide_eq_true (by kernel_rfl)) h0 hb hlt0) (Below.trod laidOut (by kernel_rfl) (of_decide_eq_true (by kernel_rfl)) h1 hb hlt1),rfl,hb.frame _,fun h=>by cases h⟩⟩
abbrev Y5:Array Value:=#[.agg #[.slice none 0 0,.slice none 0 0],.slice none 0 0]
theorem laid_met (os:Os):laidMet Tryz.prog Rows.primsSoundRow.laid ((laidWorld os).forCall (fun _ _=>0) ⟨#[],Y5,[]⟩).memory:=
 laidMet_of_run' 8 (by kernel_rfl) (by kernel_rfl)
theorem reads (os:Os) {H:Type} (enc:TypeId×Value->H): ∃places,DataW.whole enc Tryz.prog ((laidWorld os).forCall (fun _ _=>0) ⟨#[],Y5,[]⟩).memory Tryz.f3.params.toList [] false Y5.toList 8=some ([.agg [.nil,.nil],.nil],[],places):=
 ⟨[],by kernel_rfl⟩
set_option maxHeartbeats 400000 in
theorem lifted (os:Os) (started:os.Started) (H:Type) (enc:TypeId×Value->H) (F:Stop.Interp) :
 ReturnsInHanded {} Tryz.checked os 3 .any ((OpenSpec.ofChange Rows.primsSoundSpec).preRow enc Tryz.prog Tryz.f3 Rows.primsSoundRow.domain false Rows.primsSoundRow.laid) (((OpenSpec.ofChange Rows.primsSoundSpec).at F).post enc Tryz.prog Tryz.f3 false true false false):=by
 obtain⟨places,hx⟩:=reads os enc
 refine returnsInHanded_of_row (C:=Tryz.checked) (s:=OpenSpec.ofChange Rows.primsSoundSpec) Try.own started (by kernel_rfl) Tryz.func3
  (witness_row_at (enc:=enc) (C:=Tryz.checked) false (laidWorld os) Y5 rfl (by kernel_rfl) (by kernel_rfl) (by kernel_rfl)
   (OpenSpec.preRow_of_cond 8 hx (by kernel_rfl) (fun k hk=>by cases hk) (by kernel_rfl) (laid_met os))) ?_
 intro W base args ds gs before hval hW _ _ hsz _ hsh _;exact contract H enc W base args ds gs before hval hW hsz hsh
theorem jG {a b:Bool} (h1:a=true) (h2:b=true):(a&&b)=true:=by rw [h1,h2]; rfl
theorem closed:joinedFacts Tryz.pinned.checked.prog 3 Tryz.f3 (OpenSpec.ofChange Rows.primsSoundSpec).bare Rows.primsSoundRow=true:=(jG (jG (jG (jG (jG (jG (jG (jG (jG (jG (jG (jG (jG (jG (jG (jG (jG (jG (jG (jG (jG (jG (jG (jG (jG (jG (jG (jG (jG (jG (jG (by kernel_rfl) (by kernel_rfl)) (by kernel_rfl)) (by kernel_rfl)) (by kernel_rfl)) (by kernel_rfl)) (by kernel_rfl)) (by kernel_rfl)) (by kernel_rfl)) (by kernel_rfl)) (by kernel_rfl)) (by kernel_rfl)) (by kernel_rfl)) (by kernel_rfl)) (by kernel_rfl)) (by kernel_rfl)) (by kernel_rfl)) (by kernel_rfl)) (by kernel_rfl)) (by kernel_rfl)) (by kernel_rfl)) (by kernel_rfl)) (by kernel_rfl)) (by kernel_rfl)) (by kernel_rfl)) (by kernel_rfl)) (by kernel_rfl)) (by kernel_rfl)) (by kernel_rfl)) (by kernel_rfl)) (by kernel_rfl)) (by kernel_rfl))
theorem said:Rows.PrimsSoundSaid:=
 OpenClaim.holds_of_cond 3 Tryz.f3 rfl rfl rfl rfl rfl rfl rfl ⟨rfl,rfl,rfl,rfl,rfl⟩ rfl rfl rfl rfl rfl (by kernel_rfl) Tryz.func3 closed
  (of_decide_eq_true (by kernel_rfl)) (by unfold Func.isWrapper; first |(rw [aCL (by decide +kernel)]; kernel_rfl)|(rw [aCI (by decide +kernel)]; exact⟨rfl,rfl⟩))
  (fun os started H enc _ F=>by rw [OpenClaim.pre_eq_preRow]; exact lifted os started H enc F)
theorem plain (f:FuncId) (fn:Func) (hf:Tryz.pinned.checked.prog.funcNamed "amanuensis/amanuensislaw12.PrimsSound" = some f) (hfn:Tryz.pinned.checked.prog.funcs[f]?=some fn) :
 false=Tryz.pinned.checked.prog.looks []/\∀(j:Nat) t,fn.params[j]?=some t->Tryz.pinned.checked.prog.wantsStandIn t=false:=by
 obtain rfl:f=3:=Option.some.inj ((show Tryz.prog.funcNamed "amanuensis/amanuensislaw12.PrimsSound" = some 3 by kernel_rfl).symm.trans hf) |>.symm;obtain rfl:fn=Tryz.f3:=(Option.some.inj (Tryz.func3.symm.trans hfn)).symm;refine⟨by kernel_rfl,fun j t ht=>?_⟩;rw [Tryz.params3] at ht;have hm:=aEP ht;simp only [List.mem_toArray,aCP,aDt,or_false] at hm;rcases hm with rfl|rfl
 all_goals exact (by kernel_rfl:Tryz.prog.wantsStandIn _=false)
theorem card:Rows.PrimsSoundCardSaid:=
 Claim7.holds_tied_plain_at .later [] _ _ _ _ said (fun _ h=>by cases h) (by kernel_rfl) (fun _ h=>by cases h) primsSound_row_tie rfl ⟨rfl,rfl⟩ (by kernel_rfl) rfl plain (by kernel_rfl)
end Go.Proofs.YtaahpkjohjnjmaaGreatDoor.fnPrimsSound
end

/-
  Proved: the given card of the law KendoSame: whatever the input, the call returns true and each argument reads afterwards as it did. Conditions: those of the given row alone (its listed package-level variables start as the program's text lays them; each string, slice and map that is handed in lies within a process's addresses).
-/
import Derived.Test.YtakeldbjhhiinaaGreatDoorAsZS4
set_option linter.unusedSectionVars false
set_option linter.unusedVariables false
set_option linter.unusedSimpArgs false
section
namespace Go.As.Try
open Go hiding Stat Spec shape
open Go.As
set_option maxRecDepth 100000
section
variable {d0 d1:D} (h0:Wd (.sl 3) d0) (h1:Wd (.sl 4) d1)
include h0 h1
theorem avM {n n':Nat} {B P P':KS} {t op obj arg tr e1 e2 e3 e4 e5 oc:Int} {x:KT} {s':D} (S:Sx P.s P.k n) (hn:n<10000) (M:MR d0 d1 P.s P.k) (r:Rep d1 B P) (a:Y9 d0 d1 n' B P' t x op obj arg tr s' e1 e2 e3 e4 e5 oc):Bg d0 d1 P.s P.k t≠0/\(P.c.at t).n<=(P'.c.at t).n:=by
 have t0:=a.R.r.t0;have t1:=a.R.r.t1;obtain⟨u,rfl⟩ : ∃u:Nat,t=(u:Int):=⟨t.toNat,by omega⟩;have hu:u<d1.l.length:=by omega
 obtain⟨X,y,j,b1,b2,b3,b4⟩:=r.th u hu;obtain⟨X',y',m,b1',b2',b3',b4'⟩:=a.rep.th u hu;obtain rfl:=qK (b1.symm.trans b1');obtain rfl:=qK (b2'.symm.trans a.R.hk);have hjm:=b3.le b3' (Eu a.hq);have R:=aeY S (by omega) h0 h1 M t0 t1 b2;refine⟨?_,by omega⟩;rw [WJ h0 h1 S hn M R]
 have q:fB d1 (u:Int) y=0/\EJ P.s (u:Int) y=0:=by
  rcases aJb j m with hlt|hge
  ·have d:=b3.det b3' hjm;obtain⟨i,hi⟩ : ∃i,m-j=i+1:=⟨m-j-1,by omega⟩;rw [hi] at d
   cases d with
   |succ _ _ _ ho ha _=> refine⟨ho,?_⟩;have w:=ahV ha;unfold EJ;rw [aIQ (by omega),aIQ (by omega)]
  ·have e:m=j:=by omega
   subst e;have d:=b3.det b3' (aIV _);rw [aKY] at d;cases d;rw [r.s,<- a.rep.s];exact⟨a.ho,a.ha⟩
 unfold akW;rw [aIQ (by omega),aIR q.2];omega
def Ew (d1:D) (P:KS):Prop:= ∀u:Nat,u<d1.l.length->∃y:KT,P.k.at (u:Int)=y.d/\fB d1 (u:Int) y=1
theorem aDE {P Q:KS} {i i':Nat} (hp:0<d1.l.length) (S:Sx P.s P.k i) (S':Sx Q.s Q.k i') (C:Ck KL P.c) (C':Ck KL Q.c) (lk:P.k.l.length=d1.l.length) (lk':Q.k.l.length=d1.l.length) (lc:P.c.l.length=d1.l.length) (lc':Q.c.l.length=d1.l.length)
 (hs:P.s=Q.s) (hk: ∀u:Nat,u<d1.l.length->P.k.at (u:Int)=Q.k.at (u:Int)) (hc: ∀u:Nat,u<d1.l.length->(P.c.at (u:Int)).n=(Q.c.at (u:Int)).n):P=Q:=by
 have e1:P.k=Q.k:=by have a:=(BM S.wk (by omega)).sh;have b:=(BM S'.wk (by omega)).sh;rw [a,b];congr 1;refine List.ext_getElem (by omega) fun u hu hu'=>?_;have:=hk u (by omega);rw [aX hu,aX hu'] at this;exact this
 have sh: ∀c:D,Wd (.sl 0) c->c.l.length=d1.l.length->c=dL c.l:=fun c hc hl=>by
  rcases hc.sh with rfl|rfl|⟨q,_⟩
  ·simp [D.l] at hl; omega
  ·simp [D.l] at hl; omega
  ·exact q
 have e2:P.c=Q.c:=by rw [sh P.c C.wd lc,sh Q.c C'.wd lc'];congr 1;refine List.ext_getElem (by omega) fun u hu hu'=>?_;have:=hc u (by omega);rw [aX hu,aX hu'] at this;obtain⟨a,ha,_⟩:=(C.wd.el1 rfl _ (aIZ hu)).i;obtain⟨b,hb,_⟩:=(C'.wd.el1 rfl _ (aIZ hu')).i;rw [ha,hb] at this ⊢;exact congrArg D.i this
 cases P; cases Q;simp only at hs e1 e2;subst hs e1 e2;rfl
theorem Rj {B0 B P B' P':KS} {i i':Nat} {es es':List (List D)} (hp:0<d1.l.length) (hi:i<10000) (hi':i'<10000) (h:Pl d0 d1 B0 i es B P) (h':Pl d0 d1 B0 i' es' B' P') (hle:es.length<=es'.length) :
 ∃gs:List D,es'.flatten=es.flatten++gs/\(QG d0 d1 P->gs= [])/\(Ew d1 P->Ew d1 P'->P=P'):=by
 obtain⟨rest,rfl,q⟩:=h.path.det h0 h1 h'.path hle;refine⟨rest.flatten,by simp,fun hF=>?_,fun o o'=>?_⟩
 ·cases q with
  |nil=>rfl
  |cons b _=>
   cases b with
   |mk b=> obtain⟨t,x,R,hT,hm⟩:=hF;obtain⟨c1,c2⟩:=avM h0 h1 h.S hi h.K.2.2 h.rep b;have b0:=b.R.r.t0;have b1:=b.R.r.t1;obtain⟨u,hu⟩:=(⟨_,Int.toNat_of_nonneg b0⟩ : ∃u:Nat,(u:Int)=_);have hc:=b.hc u (by rw [b.rep.lc]; omega);rw [hu] at hc;have hmm:=b.hm;have:=hT.2 u (by rw [h.rep.lc]; omega) (.inl (by rw [hu,hm]; omega));rw [hu] at this;exact absurd this c1
 ·cases q with
  |nil=>
   have both: ∀u:Nat,u<d1.l.length->P.k.at (u:Int)=P'.k.at (u:Int)/\(P.c.at (u:Int)).n=(P'.c.at (u:Int)).n:=fun u hu=>by obtain⟨X,y,j,b1,b2,b3,b4⟩:=h.rep.th u hu;obtain⟨X',y',j',b1',b2',b3',b4'⟩:=h'.rep.th u hu;obtain rfl:=qK (b1.symm.trans b1');obtain⟨z,z1,z2⟩:=o u hu;obtain⟨z',z1',z2'⟩:=o' u hu;obtain rfl:=qK (b2.symm.trans z1);obtain rfl:=qK (b2'.symm.trans z1');obtain⟨rfl,rfl⟩:=b3.stop b3' (SH z2) (SH z2');exact⟨b2.trans b2'.symm,by omega⟩
   exact aDE h0 h1 hp h.S h'.S h.C h'.C h.rep.lk h'.rep.lk h.rep.lc h'.rep.lc (h.rep.s.trans h'.rep.s.symm) (fun u hu=>(both u hu).1) fun u hu=>(both u hu).2
  |cons b _=>
   cases b with
   |mk b=> obtain⟨c1,_⟩:=avM h0 h1 h.S hi h.K.2.2 h.rep b;have b0:=b.R.r.t0;have b1:=b.R.r.t1;obtain⟨u,hu⟩:=(⟨_,Int.toNat_of_nonneg b0⟩ : ∃u:Nat,(u:Int)=_);obtain⟨y,y1,y2⟩:=o u (by omega);rw [hu] at y1 y2;have R:=aeY h.S (by omega) h0 h1 h.K.2.2 b0 b1 y1;rw [WJ h0 h1 h.S hi h.K.2.2 R] at c1;unfold akW at c1;rw [aIR y2] at c1;exact absurd rfl c1
end
structure PlO (d0 d1:D) (B0:KS) (i:Nat) (es:List (List D)) (B P:KS) (lf:D) (er:Int):Prop where
 pl:Pl d0 d1 B0 i es B P
 l:lf.l=es.flatten
 er:er=0\/er=131/\QG d0 d1 P
section
variable {d0 d1 d:D} (h0:Wd (.sl 3) d0) (h1:Wd (.sl 4) d1) (hn:0<d1.l.length) (hd:d.l.length<=4000)
include h0 h1 hn hd
theorem Ou {B0:KS}: ∀(j i:Nat) (es:List (List D)) (B P:KS),i+j=d.l.length->Pl d0 d1 B0 i es B P->∃(es':List (List D)) (B' P':KS) (lf:D) (er:Int),PlO d0 d1 B0 d.l.length es' B' P' lf er/\
 (es.flatten= []->L 3151 [enc d,(d1.l.length:Int),(i:Int),enc d0,enc d1,enc P.s,enc P.k,enc P.c]=some [enc lf,enc P'.s,enc P'.k,enc P'.c,er])/\
 (es.flatten≠[]->L 3152 [enc d,enc (dL es.flatten),(d1.l.length:Int),(i:Int),enc d0,enc d1,enc P.s,enc P.k,enc P.c]=some [enc lf,enc P'.s,enc P'.k,enc P'.c,er])
 |0,i,es,B,P,hi,h=>by
  have c1: ¬(i:Int)<(d.l.length:Int):=by omega
  refine⟨es,B,P,if es.flatten= [] then .i 1 else dL es.flatten,0,⟨h.mono (by omega),?_,.inl rfl⟩,fun hz=>?_,fun hz=>?_⟩
  ·split
   ·rename_i hz; rw [hz]; rfl
   ·rw [aW]
  ·rw [aIR hz,aP,YL];simp only [Gj,zz,c1,aK]
  ·rw [aIQ hz,aP,agS];simp only [MP,zz,c1,aK]
 |j+1,i,es,B,P,hi,h=>by
  have hil:i<d.l.length:=by omega
  have c1:(i:Int)<(d.l.length:Int):=by omega
  have c2:(0:Int)<(d1.l.length:Int):=by omega
  have c3: ¬((i:Int)<0):=by omega
  have w:=aZ (n:=i) (by omega);have hb:=h1.len;have pk:=aiZ (x:=(d.at (i:Int)).n) c2 (by omega);obtain⟨r0,r1⟩:=ajA (x:=(d.at (i:Int)).n) c2;have hll:=h.ll;have c7:(es.flatten.length:Int)<3518437208882:=by omega
  obtain⟨s',k',c',e1,e2,e3,e4,e5,oc,er,hL,hS⟩:=ayQ h0 h1 (by omega) h r0 r1;rcases hS with ⟨rfl,es',B',hP,hfl⟩|⟨rfl,hF⟩
  ·obtain⟨es2,B2,P2,lf,er,hO,ih1,ih2⟩:=Ou j (i+1) es' B' ⟨s',k',c'⟩ (by omega) hP;refine⟨es2,B2,P2,lf,er,hO,fun hz=>?_,fun hz=>?_⟩
   ·rw [hfl,hz,aI1] at ih1 ih2;rw [aP,YL];by_cases o2:oc=2
    ·simp only [o2,Ub,true_or,if_true,evD,dU,fZ] at ih2;simp only [Gj,zz,dr,c1,c2,c3,pk,hL,o2,w,aH,wY,aI1,dU,fZ];exact ih2 (by simp)
    ·by_cases o3:oc=3
     ·simp only [o3,Ub,or_true,if_true,evD,dU,fZ] at ih2;simp only [Gj,zz,dr,c1,c2,c3,pk,hL,o3,w,aH,wY,aI1,dU,fZ,aF4];exact ih2 (by simp)
     ·simp only [o2,o3,Ub,or_self,if_false] at ih1;simp only [Gj,zz,dr,c1,c2,c3,pk,hL,o2,o3,w,aH];exact ih1 trivial
   ·rw [hfl] at ih1 ih2;rw [aP,agS];by_cases o2:oc=2
    ·simp only [o2,Ub,true_or,if_true,evD,dU,fZ] at ih2;simp only [MP,zz,dr,c1,c2,c3,c7,pk,hL,o2,w,aH,aW];exact ih2 (by simp)
    ·by_cases o3:oc=3
     ·simp only [o3,Ub,or_true,if_true,evD,dU,fZ] at ih2;simp only [MP,zz,dr,c1,c2,c3,c7,pk,hL,o3,w,aH,aW,aF4];exact ih2 (by simp)
     ·simp only [o2,o3,Ub,or_self,if_false,aJC] at ih2;simp only [MP,zz,dr,c1,c2,c3,pk,hL,o2,o3,w,aH];exact ih2 hz
  ·refine⟨es,B,P,if es.flatten= [] then .i 1 else dL es.flatten,131,⟨h.mono (by omega),?_,.inr ⟨rfl,hF⟩⟩,fun hz=>?_,fun hz=>?_⟩
   ·split
    ·rename_i hz; rw [hz]; rfl
    ·rw [aW]
   ·rw [aIR hz,aP,YL];simp only [Gj,zz,dr,c1,c2,c3,pk,hL,Int.reduceEq,aK]
   ·rw [aIQ hz,aP,agS];simp only [MP,zz,dr,c1,c2,c3,pk,hL,Int.reduceEq,aK]
end
section
variable {d0 d1:D} (h0:Wd (.sl 3) d0) (h1:Wd (.sl 4) d1)
include h0 h1
omit h0 h1 in
theorem aoR {s k s1 k1:D} {l:List D} (r:Run d0 d1 s k l s1 k1) (d:D) (hd:d.l.length<=100000): ∀rest:List D,d.l=l++rest->L 2151 [enc d,(d.l.length:Int),0,enc d0,enc d1,enc s,enc k]=L 2151 [enc d,(d.l.length:Int),(l.length:Int),enc d0,enc d1,enc s1,enc k1]:=by
 induction r with
 |nil=>exact fun _ _=>rfl
 |snoc r h ih=>
  rename_i l s1 k1 s2 k2 e1 e2 e3 e4 e5;intro rest hl;have e:=ih ([evD e1 e2 e3 e4 e5]++rest) (by rw [hl,aJO]);have hlen:=congrArg List.length hl;simp only [aJa,aI5,aI7] at hlen;have c1:(l.length:Int)<(d.l.length:Int):=by omega
  have c2: ¬(l.length:Int)<0:=by omega
  have w:=aZ (n:=l.length) (by omega)
  have hat:d.at (l.length:Int)=evD e1 e2 e3 e4 e5:=by rw [lJ,hl,aJO,aKP (aIV _),aKY];rfl
  have n1:((evD e1 e2 e3 e4 e5).hd 0).n=e1/\((evD e1 e2 e3 e4 e5).hd 1).n=e2/\((evD e1 e2 e3 e4 e5).hd 2).n=e3/\((evD e1 e2 e3 e4 e5).hd 3).n=e4/\((evD e1 e2 e3 e4 e5).hd 4).n=e5:=⟨rfl,rfl,rfl,rfl,rfl⟩;obtain⟨a1,a2,a3,a4,a5⟩:=n1
  have K:dY (bT L (low [enc d,(d.l.length:Int),(l.length:Int),enc d0,enc d1,enc s1,enc k1])) aeC= .jump 2151 [enc d,(d.l.length:Int),((l.length+1:Nat):Int),enc d0,enc d1,enc s2,enc k2]:=by refine bC [wV,QO,.eq (a0 2000 Qrr) Q0] [uS,.eq (rr 2000 Qrr 2) Qa] (ju 2151 [Qf,Qb,kH,Qm,bD,rr 2000 Qrr 0,rr 2000 Qrr 1]) (by simp only [zz,c1,c2,hat,a1,a2,a3,a4,a5,h]<;>omega) (by kernel_rfl) ?_;simp only [zz,hat,a1,a2,a3,a4,a5,h,w]
  rw [e,aJa]
  conv=>lhs; rw [aP,atB]
  exact congrArg (fin L) K
theorem after_at (hC:L 450 [enc d0,enc d1]=some [0]) (ok:xR d0 d1) (d:D) (hd:d.l.length<=100000) {s1 k1:D} (r:Run d0 d1 (eY d0) (iT d1) d.l s1 k1):L 2150 [enc d0,enc d1,enc d]=some [enc s1,enc k1,(d.l.length:Int)]:=by
 have hB:=Tf h1 hC ok;have e:=aoR r d hd [] (aJC _).symm
 have K:dY (bT L (low [enc d0,enc d1,enc d])) aeD= .jump 2151 [enc d,(d.l.length:Int),0,enc d0,enc d1,enc (eY d0),enc (iT d1)]:=by refine bC [.eq (a0 1450 KJ) Q0,Qro] [] (ju 2151 [Qo,Qcl,Qa,Qf,Qb,Qrp,Qrq]) (by simp only [zz,hB]<;>omega) (by kernel_rfl) ?_;simp only [zz,hB]
 have c1: ¬(d.l.length:Int)<(d.l.length:Int):=by omega
 rw [aP,atC];refine (congrArg (fin L) K).trans (e.trans ?_);rw [aP,atB];simp only [aeC,zz,c1,aK]
omit h0 h1 in
theorem awF {c:Int} (hC:L 450 [enc d0,enc d1]=some [c]) (hc:c≠0) (d:D):L 2150 [enc d0,enc d1,enc d]=some [enc (.i 1),enc (.i 1),0]:=by
 have hB:=Td hC hc
 have K:dY (bT L (low [enc d0,enc d1,enc d])) aeD= .out [enc (.i 1),enc (.i 1),0]:=by refine bC [.eq (a0 1450 KJ) Q0] [Qro] (ou [Qh,Qh,Qa]) (by simp only [zz,hB,hc]<;>omega) (by kernel_rfl) ?_;simp only [zz]
 rw [aP,atC];exact congrArg (fin L) K
theorem apC (hC:L 450 [enc d0,enc d1]=some [0]) (ok:xR d0 d1) {c:D} (hc:Wd (.sl 0) c) (K:KR d0 d1 (eY d0) (iT d1) c):Pl d0 d1 ⟨eY d0,iT d1,c⟩ 0 [] ⟨eY d0,iT d1,c⟩ ⟨eY d0,iT d1,c⟩:=by
 have S:=Np h0 h1 ok;have M:=apS h0 h1 hC ok;have hl:=Fh d1;have C:Ck KL c:=⟨hc,fun u hu=> ⟨K.2.1 u hu,(alR hc u).2⟩⟩
 have hth: ∀u:Nat,u<d1.l.length->∃X:KT,(iT d1).at (u:Int)=X.d:=fun u hu=>by obtain⟨X,hX,_⟩:=aF7 S (by omega:(0:Int)<=(u:Int)) (by omega);exact⟨X,hX⟩
 refine⟨.nil _,⟨rfl,hl,hl,K.1,K.1,fun u hu=>?_⟩,S,K,?_,C,aIV _,aIV _,iT d1,.nil,S,M,fun u hu=>?_⟩
 ·obtain⟨X,hX⟩:=hth u hu;exact⟨X,X,0,hX,hX,.zero X,(aLt _).symm⟩
 ·intro o ho _ x hx;exfalso
  have hlen:(eY d0).l=d0.l.map jY:=by
   unfold eY;split
   ·rename_i h; rw [aJx h]; rfl
   ·rw [aW]
  rw [aX ho] at hx;have hm:(eY d0).l[o]∈(eY d0).l:=aIZ ho;obtain⟨y,_,hy⟩:=aJh.1 (show (eY d0).l[o]∈d0.l.map jY by rw [<- hlen]; exact hm);rw [<- hy] at hx;have:((jY y).hd 4)= .i 1:=rfl;rw [this] at hx;simp [D.l] at hx
 ·obtain⟨X,hX⟩:=hth u hu;exact⟨X,X,0,X.tr,hX,hX,.zero X,by omega⟩
theorem aDF {c:D} (hc:Wd (.sl 0) c) :
 (∃z:Int,z≠0/\(∀d:D,L 3150 [enc d0,enc d1,enc c,enc d]=some [enc (.i 1),enc (.i 1),enc (.i 1),enc (.i 1),z])/\(∃a b:Int,L 2150 [enc d0,enc d1,enc (.i 1)]=some [a,b,0]))\/
 (d1.l.length=0/\(∀d:D,L 3150 [enc d0,enc d1,enc c,enc d]=some [enc (.i 1),enc (eY d0),enc (iT d1),enc c,0])/\(∃a b:Int,L 2150 [enc d0,enc d1,enc (.i 1)]=some [a,b,0]))\/
 (0<d1.l.length/\∃B0:KS,∀d:D,d.l.length<=4000->∃(es:List (List D)) (B P:KS) (lf:D) (er:Int),PlO d0 d1 B0 d.l.length es B P lf er/\L 3150 [enc d0,enc d1,enc c,enc d]=some [enc lf,enc P.s,enc P.k,enc P.c,er]/\(∃a b:Int,L 2150 [enc d0,enc d1,enc lf]=some [a,b,(lf.l.length:Int)])):=by
 obtain⟨ys,hC,z,rfl,_,hok⟩:=Em h0 h1;by_cases hz:z=0
 ·subst hz;have ok:=(hok rfl).1;have hB:=Tf h1 hC ok;have S:=Np h0 h1 ok;obtain⟨y1,n1⟩:=ajR h0 h1 hc hB S;have aft: ∃a b:Int,L 2150 [enc d0,enc d1,enc (.i 1)]=some [a,b,0]:=⟨_,_,after_at h0 h1 hC ok (.i 1) (by simp [D.l]) .nil⟩;by_cases K:KR d0 d1 (eY d0) (iT d1) c
  ·have q:=y1 K;by_cases hn:0<d1.l.length
   ·have P0:=apC h0 h1 hC ok hc K;refine .inr (.inr ⟨hn,⟨eY d0,iT d1,c⟩,fun d hd=>?_⟩);obtain⟨es,B,P,lf,er,hO,g,_⟩:=Ou h0 h1 hn hd d.l.length 0 [] _ _ (by omega) P0;have g1:=g rfl;rw [aJy] at g1;refine⟨es,B,P,lf,er,hO,?_,?_⟩
    ·rw [aP,YN];simp only [Rq,zz,q,aH];exact g1
    ·obtain⟨F,f1,_⟩:=hO.pl.fr;have hll:=hO.pl.ll;exact⟨_,_,after_at h0 h1 hC ok lf (by rw [hO.l]; omega) (by rw [hO.l]; exact f1)⟩
   ·have z1: ¬(0:Int)<(d1.l.length:Int):=by omega
    refine .inr (.inl ⟨by omega,fun d=>?_,aft⟩)
    have go:L 3151 [enc d,(d1.l.length:Int),0,enc d0,enc d1,enc (eY d0),enc (iT d1),enc c]=some [enc (.i 1),enc (eY d0),enc (iT d1),enc c,0]:=by
     rw [aP,YL];by_cases hz:(0:Int)<(d.l.length:Int)
     ·simp only [Gj,zz,hz,z1,aK]
     ·simp only [Gj,zz,aIQ hz,aK]
    rw [aP,YN];simp only [Rq,zz,q,aH];exact go
  ·have q:=n1 K;refine .inl ⟨2,by omega,fun d=>?_,aft⟩;rw [aP,YN];simp only [Rq,zz,q,Int.reduceEq,if_false,aK]
 ·have q:=ajQ (c:=c) h0 h1 hz (Td hC hz);refine .inl ⟨z,hz,fun d=>?_,_,_,awF hC hz _⟩;rw [aP,YN];simp only [Rq,zz,q,aIQ hz,aK]
end
section
variable {n:Nat} {x2 x3 x4 x5 x6 x7 x8 x9:Int}
theorem D8 (hn:n<=140737488351232): ∀(j i:Nat),i+j=n->L 3452 [(n:Int),(i:Int),x2,x3,x4,x5,x6,x7,x8,x9]=some [1]
 |0,i,hi=>by
  have c1: ¬(i:Int)<(n:Int):=by omega
  rw [aP,asR];simp only [adX,zz,c1,aK]
 |j+1,i,hi=>by
  have c1:(i:Int)<(n:Int):=by omega
  have w:=aZ (n:=i) (by omega);have ih:=D8 hn j (i+1) (by omega);rw [aP,asR];simp only [adX,zz,c1,w,aH];exact ih
end
section
variable {d0 d1:D} (h0:Wd (.sl 3) d0) (h1:Wd (.sl 4) d1)
include h0 h1
theorem Uh {P P':KS} {i0 i1:Nat} (hi0:i0<10000) (hi1:i1<10000) (S:Sx P.s P.k i0) (S':Sx P'.s P'.k i1) (M:MR d0 d1 P.s P.k) (M':MR d0 d1 P'.s P'.k) (C:Ck KL P.c) (hend:Ew d1 P->Ew d1 P'->P=P'): ∀(j i:Nat),i+j=d1.l.length->(∀u:Nat,u<i->(∃y:KT,P.k.at (u:Int)=y.d/\fB d1 (u:Int) y=1)/\∃y:KT,P'.k.at (u:Int)=y.d/\fB d1 (u:Int) y=1)->
 L 3451 [(d1.l.length:Int),(i:Int),enc d0,enc d1,enc P.s,enc P.k,enc P.c,enc P'.s,enc P'.k,enc P'.c]=some [1]
 |0,i,hi,hq=>by
  have c1: ¬(i:Int)<(d1.l.length:Int):=by omega
  have e:=hend (fun u hu=>(hq u (by omega)).1) fun u hu=>(hq u (by omega)).2;subst e;have h:=aDi S (by omega) C.wd.len;rw [aP,agR];simp only [MO,zz,c1,h,aC,aK]
 |j+1,i,hi,hq=>by
  have c1:(i:Int)<(d1.l.length:Int):=by omega
  have hb:=h1.len;have w:=aZ (n:=i) (by omega);have idle:=D8 (x2:=enc d0) (x3:=enc d1) (x4:=enc P.s) (x5:=enc P.k) (x6:=enc P.c) (x7:=enc P'.s) (x8:=enc P'.k) (x9:=enc P'.c) hb j (i+1) (by omega);obtain⟨x,R⟩:=M.thr S (by omega) h0 h1 (by omega:(0:Int)<=(i:Int)) c1;obtain⟨x',R'⟩:=M'.thr S' (by omega) h0 h1 (by omega:(0:Int)<=(i:Int)) c1;have hf:=arJ (n:=i0) (by omega) R;have hf':=arJ (n:=i1) (by omega) R';rw [aP,agR];rcases GI d1 (i:Int) x with ho|ho
  ·rw [ho] at hf;simp only [MO,zz,c1,hf,w,aH];exact idle
  ·rcases GI d1 (i:Int) x' with ho'|ho'
   ·rw [ho] at hf;rw [ho'] at hf';simp only [MO,zz,c1,hf,hf',w,aC,aH];exact idle
   ·have ih:=Uh hi0 hi1 S S' M M' C hend j (i+1) (by omega) fun u hu=>by
     by_cases hui:u<i
     ·exact hq u hui
     ·obtain rfl:u=i:=by omega
      exact⟨⟨x,R.hk,ho⟩,⟨x',R'.hk,ho'⟩⟩
    rw [ho] at hf;rw [ho'] at hf';simp only [MO,zz,c1,hf,hf',w,aC,aH];exact ih
theorem auX {x6 x9:Int} (hp:0<d1.l.length) (hM: ¬MR d0 d1 (.i 1) (.i 1)):L 3451 [(d1.l.length:Int),0,enc d0,enc d1,enc (.i 1),enc (.i 1),x6,enc (.i 1),enc (.i 1),x9]=some [1]:=by
 have c1:(0:Int)<(d1.l.length:Int):=by omega
 have hb:=h1.len;have w:IntKind.i64.wrap ((0:Int)+1)=((1:Nat):Int):=by decide
 have idle:=D8 (x2:=enc d0) (x3:=enc d1) (x4:=enc (.i 1)) (x5:=enc (.i 1)) (x6:=x6) (x7:=enc (.i 1)) (x8:=enc (.i 1)) (x9:=x9) hb (d1.l.length-1) 1 (by omega)
 have hR:L 1550 [enc d0,enc d1,enc (.i 1),enc (.i 1),0]=some [0]:=by
  obtain⟨ys,hL,b,rfl,hb⟩:=NP (k:=.i 1) h0 h1 (aDg.g.few (by omega)).rows h1.len 0;rcases hb with ⟨rfl,_⟩|⟨rfl,q⟩
  ·exact hL
  ·exact absurd q.2.2 hM
 have hf:=aD2 (n:=0) (by omega) hR;rw [aP,agR];simp only [MO,zz,c1,hf,w,aH];exact idle
theorem I8 {c d3 d4 p q a b s k cc s' k' cc':D} {e f:Int} (g0:L 100 [enc d0,enc d1]=some [0]) (abD: ¬(100:Int)<(c.l.length:Int)) (h3:(200:Int)<(d3.l.length:Int)/\p=fC d3 (d3.l.take 200)\/¬(200:Int)<(d3.l.length:Int)/\p=fC d3 (d3.l.take d3.l.length))
 (h4:(200:Int)<(d4.l.length:Int)/\q=fC d4 (d4.l.take 200)\/¬(200:Int)<(d4.l.length:Int)/\q=fC d4 (d4.l.take d4.l.length)) (hp:L 3150 [enc d0,enc d1,enc c,enc p]=some [enc a,enc s,enc k,enc cc,e]) (hq:L 3150 [enc d0,enc d1,enc c,enc q]=some [enc b,enc s',enc k',enc cc',f])
 (hab:(∃g,b.l=a.l++g)\/∃g,a.l=b.l++g) (la:a.l.length<=1000) (lb:b.l.length<=1000) (hcode:e=120\/e=2->f=e/\a.l.length=0/\b.l.length=0) (haft: ∃u v:Int,L 2150 [enc d0,enc d1,enc a]=some [u,v,(a.l.length:Int)]) (ho1:e=131->b.l.length<=a.l.length) (ho2:f=131->a.l.length<=b.l.length)
 (hj1:0<d1.l.length->L 3451 [(d1.l.length:Int),0,enc d0,enc d1,enc s,enc k,enc cc,enc s',enc k',enc cc']=some [1]):L 3450 [enc d0,enc d1,enc c,enc d3,enc d4]=some [1]:=by
 have hb:=h1.len;have hj2:=D8 (x2:=enc d0) (x3:=enc d1) (x4:=enc s) (x5:=enc k) (x6:=enc cc) (x7:=enc s') (x8:=enc k') (x9:=enc cc') hb d1.l.length 0 (by omega);rw [aJy] at hj2
 have hj:fin L (if (0:Int)<(d1.l.length:Int) then RS.jump 3451 [(d1.l.length:Int),0,enc d0,enc d1,enc s,enc k,enc cc,enc s',enc k',enc cc'] else RS.jump 3452 [(d1.l.length:Int),0,enc d0,enc d1,enc s,enc k,enc cc,enc s',enc k',enc cc'])=some [1]:=by
  split
  ·rename_i h;exact hj1 (by omega)
  ·exact hj2
 have o1:fin L (.out [1])=some [1]:=rfl;obtain⟨u,v,haft⟩:=haft;have hw:IntKind.i64.wrap ((a.l.length:Int)+(b.l.length:Int))=(a.l.length:Int)+(b.l.length:Int):=lW (by omega) (by omega);by_cases hlt:(b.l.length:Int)<(a.l.length:Int)
 ·have ev:L 2450 [enc (fC a (a.l.take b.l.length)),enc (fC b (b.l.take b.l.length))]=some [1]:=arM (by
   rw [gI,gI,aJI (aIV b.l.length)];rcases hab with ⟨g,hg⟩|⟨g,hg⟩
   ·have:=congrArg List.length hg;rw [aJa] at this;omega
   ·rw [hg,List.take_left' rfl]) (by rw [gI,aJc]; omega)
  have f1: ¬f=131:=fun h=>by have:=ho2 h; omega
  have e1: ¬e=120:=fun h=>by have:=hcode (.inl h); omega
  have e2: ¬e=2:=fun h=>by have:=hcode (.inr h); omega
  rw [aP,YK];rcases h3 with ⟨c3,rfl⟩|⟨c3,rfl⟩
  all_goals rcases h4 with ⟨c4,rfl⟩|⟨c4,rfl⟩
  all_goals simp only [Ro,zz,g0,abD,c3,c4,show (200:Int).toNat=200 from rfl,aJm,aI4,hp,hq,hlt,ev,haft,aIQ f1,aIQ e1,aIQ e2,aC]
  all_goals repeat' split
  all_goals first
   |exact hj
   |exact hj2
   |(rename_i h; exact hj1 (by omega))
   |(exfalso; omega)
 ·have ev:L 2450 [enc (fC a (a.l.take a.l.length)),enc (fC b (b.l.take a.l.length))]=some [1]:=arM (by
   rw [gI,gI,aJI (aIV a.l.length)];rcases hab with ⟨g,hg⟩|⟨g,hg⟩
   ·rw [hg,List.take_left' rfl]
   ·have:=congrArg List.length hg;rw [aJa] at this;have gz:g= []:=aJx (by omega)
    rw [hg,gz,aJC,aJI (aIV _)]) (by rw [gI,aJc]; omega)
  rw [aP,YK];rcases h3 with ⟨c3,rfl⟩|⟨c3,rfl⟩
  all_goals rcases h4 with ⟨c4,rfl⟩|⟨c4,rfl⟩
  all_goals simp only [Ro,zz,g0,abD,c3,c4,show (200:Int).toNat=200 from rfl,aJm,aI4,hp,hq,aIQ hlt,ev,haft,hw,aC]
  all_goals repeat' split
  all_goals first
   |exact hj
   |exact o1
   |exact hj2
   |(rename_i h; exact hj1 (by omega))
   |(exfalso; omega)
end
theorem aoQ {d0 d1 c d3 d4:D} (h0:Wd (.sl 3) d0) (h1:Wd (.sl 4) d1) (hc:Wd (.sl 0) c):L 3450 [enc d0,enc d1,enc c,enc d3,enc d4]=some [1]:=by
 obtain⟨ys,hG,g,rfl,_⟩:=ajW (d0:=d0) h1;by_cases g0:g=0
 ·subst g0;by_cases abD:(100:Int)<(c.l.length:Int)
  ·rw [aP,YK];simp only [Ro,zz,hG,abD,aK]
  ·have cut: ∀d:D,∃p:D,((200:Int)<(d.l.length:Int)/\p=fC d (d.l.take 200)\/¬(200:Int)<(d.l.length:Int)/\p=fC d (d.l.take d.l.length))/\p.l.length<=200:=fun d=>by
    by_cases h:(200:Int)<(d.l.length:Int)
    ·exact⟨_,.inl ⟨h,rfl⟩,by rw [gI,aJc]; omega⟩
    ·exact⟨_,.inr ⟨h,rfl⟩,by rw [gI,aJc]; omega⟩
   obtain⟨p,h3,lp⟩:=cut d3;obtain⟨q,h4,lq⟩:=cut d4;rcases aDF h0 h1 hc with ⟨z,hz,hP,a,b,hA⟩|⟨hn,hP,a,b,hA⟩|⟨hn,B0,hP⟩
   ·refine I8 h0 h1 hG abD h3 h4 (hP p) (hP q) (.inl ⟨[],rfl⟩) (by simp [D.l]) (by simp [D.l]) (fun _=> ⟨rfl,rfl,rfl⟩) ⟨a,b,hA⟩ (fun _=>aIV _) (fun _=>aIV _) fun hp=>auX h0 h1 hp fun m=>?_;obtain⟨_,q,_⟩:=m;simp [D.l] at q;omega
   ·exact I8 h0 h1 hG abD h3 h4 (hP p) (hP q) (.inl ⟨[],rfl⟩) (by simp [D.l]) (by simp [D.l]) (fun h=>by omega) ⟨a,b,hA⟩ (fun h=>by omega) (fun h=>by omega) fun hp=>by omega
   ·obtain⟨es,B,P,lf,er,hO,hL,hA⟩:=hP p (by omega);obtain⟨es',B',P',lf',er',hO',hL',_⟩:=hP q (by omega)
    have key:((∃g,lf'.l=lf.l++g)\/∃g,lf.l=lf'.l++g)/\(er=131->lf'.l.length<=lf.l.length)/\(er'=131->lf.l.length<=lf'.l.length)/\(Ew d1 P->Ew d1 P'->P=P'):=by
     have full: ∀{er:Int} {P:KS},(er=0\/er=131/\QG d0 d1 P)->er=131->QG d0 d1 P:=fun h he=>by
      rcases h with h|h
      ·omega
      ·exact h.2
     rcases Nat.le_total es.length es'.length with hle|hle
     ·obtain⟨gs,q1,q2,q3⟩:=Rj h0 h1 hn (by omega) (by omega) hO.pl hO'.pl hle;rw [hO.l,hO'.l,q1];refine⟨.inl ⟨gs,rfl⟩,fun h=>?_,fun _=>by rw [aJa]; omega,q3⟩;rw [q2 (full hO.er h),aJC];exact aIV _
     ·obtain⟨gs,q1,q2,q3⟩:=Rj h0 h1 hn (by omega) (by omega) hO'.pl hO.pl hle;rw [hO.l,hO'.l,q1];refine⟨.inr ⟨gs,rfl⟩,fun _=>by rw [aJa]; omega,fun h=>?_,fun o o'=>(q3 o' o).symm⟩;rw [q2 (full hO'.er h),aJC];exact aIV _
    obtain⟨k1,k2,k3,k4⟩:=key;have ll:=hO.pl.ll;have ll':=hO'.pl.ll
    have ner: ¬(er=120\/er=2):=fun h=>by
     rcases hO.er with q|q
     ·omega
     ·omega
    refine I8 h0 h1 hG abD h3 h4 hL hL' k1 (by rw [hO.l]; omega) (by rw [hO'.l]; omega) (fun h=>absurd h ner) hA k2 k3 fun _=>?_;have h:=Uh h0 h1 (by omega) (by omega) hO.pl.S hO'.pl.S hO.pl.K.2.2 hO'.pl.K.2.2 hO.pl.C k4 d1.l.length 0 (by omega) fun u hu=>absurd hu (Nat.not_lt_zero u);rw [aJy] at h;exact h
 ·rw [aP,YK];simp only [Ro,zz,hG,aIQ g0,aK]
end Go.As.Try
end
section
namespace Go.Proofs.YtakeldbjhhiinaaGreatDoor.fnKendoSame
open Go hiding Stat
open Go.As Go.As.Try Go.Proofs Go.RowKit Go.ChangeShapes Go.WideShapes Go.ChangeAt
set_option maxRecDepth 100000
theorem azZ:zC Tryz.prog apE 8 25=some [.sl 3,.sl 4]:=by kernel_rfl
theorem azY:zC Tryz.prog apE 8 26=some [.sl 0]:=by kernel_rfl
theorem azX:zC Tryz.prog apE 8 28=some [.sl 0,.sl 0]:=by kernel_rfl
theorem PV {H:Type} {enc:TypeId×Value->H} {W:World} {t:TypeId} {v:Value} {d:DataW H} {p:List MemPlace} {QV:List CK} (hf:zC Tryz.prog apE 8 t=some QV) (h:DataW.Trod enc Tryz.prog W 0 (fun _=>true) true t v d p) (hw:(d.weights Tryz.prog t).all (·<=reachBytes)=true) :
 ∃ds,Rs (roW W) W.heap QV ds v.cells.toList:=by
 obtain⟨fuel,hx⟩:=h;exact Vf ayT fuel t 8 QV v.cells.toList (d,p) hf hx hw
theorem aF1:3450∈S.nums 4:=by
 have h:S.nums 4= [3450]:=by kernel_rfl
 rw [h];simp
theorem contract (H:Type) (enc:TypeId×Value->H) (W:World) (base:Nat) (args:Array Value) (ds gs:List (DataW H)) (before:List MemPlace)
 (hval: ∀(j:Nat) t v,Tryz.f4.params[j]?=some t->args[j]?=some v->Value.okWide Tryz.prog W .any base t v)
 (hW:DataW.Whole enc Tryz.prog Tryz.f4.params.toList Rows.kendoSameSpec.vars false W args.toList ds gs before)
 (hsz:(DataW.weightsEach Tryz.prog (Tryz.f4.params.toList++ []) (ds++gs)).all (·<=reachBytes)=true) (hsh:W.ShapedOpen Tryz.prog) :
 Calls Tryz.prog 4 args W fun e W'=> ∃v,e= .returned v/\Rows.kendoSameSpec.post enc Tryz.prog Tryz.f4 false true false false W args v W':=by
 have hW':=hW;obtain⟨p,q,hA0,hV,rfl,hfz,hnd⟩:=hW;have hA:DataW.TrodAll enc Tryz.prog W 0 (fun _=>true) true Tryz.f4.params.toList args.toList ds p:=hA0;rw [Tryz.params4] at hA hval hsz;obtain⟨v0,vs0,d0,ds0,p0,q0,hargs,rfl,rfl,h0,r0⟩:=trodAll_cons hA;obtain⟨v1,vs1,d1,ds1,p1,q1,rfl,rfl,rfl,h1,r1⟩:=trodAll_cons r0;obtain⟨v2,vs2,d2,ds2,p2,q2,rfl,rfl,rfl,h2,r2⟩:=trodAll_cons r1;obtain⟨rfl,rfl,rfl⟩:=trodAll_nil r2;obtain rfl:args= #[v0,v1,v2]:=by cases args; simp_all
 obtain⟨rfl,rfl⟩:=trodVars_none hV;clear hA0;simp only [aJC] at hW';have hlt: ∀x∈p0++(p1++p2),x.block<W.heap.size:=fun x hx=>by simpa using hW'.lt x (by simpa using hx)
 have hlt0: ∀x∈p0,x.block<W.heap.size:=fun x hx=>hlt x (aLr _ hx);have hlt1: ∀x∈p1,x.block<W.heap.size:=fun x hx=>hlt x (aKX _ (aLr _ hx));have hlt2: ∀x∈p2,x.block<W.heap.size:=fun x hx=>hlt x (aKX _ (aKX _ hx))
 have hsz':(d0.weights Tryz.prog 25).all (·<=reachBytes)=true/\(d1.weights Tryz.prog 26).all (·<=reachBytes)=true/\(d2.weights Tryz.prog 28).all (·<=reachBytes)=true:=by have:(DataW.weightsEach Tryz.prog [25,26,28] [d0,d1,d2]).all (·<=reachBytes)=true:=hsz;simp only [DataW.weightsEach,aKV,aIU] at this;exact⟨this.1,this.2.1,this.2.2.1⟩
 obtain⟨es0,R0⟩:=PV azZ h0 hsz'.1;obtain⟨es1,R1⟩:=PV azY h1 hsz'.2.1;obtain⟨es2,R2⟩:=PV azX h2 hsz'.2.2;obtain⟨cs0,rfl,_⟩:=okWide_struct Tryz.underlying25 (hval 0 25 v0 rfl rfl);have e0:(Value.agg cs0).cells.toList=cs0.toList:=rfl;obtain⟨ad1,len1,cap1,rfl⟩:=okWide_slice Tryz.underlying26 (hval 1 26 v1 rfl rfl);have e1:(Value.slice ad1 len1 cap1).cells.toList= [.slice ad1 len1 cap1]:=rfl;obtain⟨cs2,rfl,_⟩:=Vq Tryz.underlying28 (hval 2 28 v2 rfl rfl);have e2:(Value.agg cs2).cells.toList=cs2.toList:=rfl;rw [e0] at R0;rw [e1] at R1;rw [e2] at R2
 match es0,hcs0:cs0.toList,R0 with
 |[x0,x1],[u0,u1],.cons r0_ w0 (.cons r1_ w1 .nil)=>
  obtain rfl:cs0= #[u0,u1]:=by rw [<- Array.toArray_toList (xs:=cs0),hcs0]
  match es1,R1 with
  |[x2],.cons r2_ w2 .nil=>
   match es2,hcs2:cs2.toList,R2 with
   |[x3,x4],[u3,u4],.cons r3_ w3 (.cons r4_ w4 .nil)=>
    obtain rfl:cs2= #[u3,u4]:=by rw [<- Array.toArray_toList (xs:=cs2),hcs2]
    have hL:=aoQ (d3:=x3) (d4:=x4) w0 w1 w2;refine (avQ (g:=4) (j:=3450) (e:=arL.ent) aF1 (by kernel_rfl) rfl rfl hL hsh (vals:=[.agg [u0,u1].toArray,.slice ad1 len1 cap1,.agg [u3,u4].toArray]) (fl:=[u0,u1,.slice ad1 len1 cap1,u3,u4]) (.agg _ [u0,u1] rfl (.one _ _ (.agg _ [u3,u4] rfl .nil))) ⟨_,_,_,_,rfl,rfl,Dk r0_,_,_,_,_,rfl,rfl,Dk r1_,_,_,_,_,rfl,rfl,Dk r2_,_,_,_,_,rfl,rfl,Dk r3_,_,_,_,_,rfl,rfl,Dk r4_,rfl,rfl⟩).mono fun e W' ⟨he,hb⟩=>?_;subst he;exact⟨_,rfl,⟨_,_,_,[],_,[],hW',trodAll_mk1 (shut_bool Tryz.underlying4 _),trodAll_mk3 (Below.trod laidOut (by kernel_rfl) (of_decide_eq_true (by kernel_rfl)) h0 hb hlt0) (Below.trod laidOut (by kernel_rfl) (of_decide_eq_true (by kernel_rfl)) h1 hb hlt1) (Below.trod laidOut (by kernel_rfl) (of_decide_eq_true (by kernel_rfl)) h2 hb hlt2),rfl,hb.frame _,fun h=>by cases h⟩⟩
abbrev adC:Array Value:=#[.agg #[.slice none 0 0,.slice none 0 0],.slice none 0 0,.agg #[.slice none 0 0,.slice none 0 0]]
theorem laid_met (os:Os):laidMet Tryz.prog Rows.kendoSameRow.laid ((laidWorld os).forCall (fun _ _=>0) ⟨#[],adC,[]⟩).memory:=
 laidMet_of_run' 8 (by kernel_rfl) (by kernel_rfl)
theorem reads (os:Os) {H:Type} (enc:TypeId×Value->H): ∃places,DataW.whole enc Tryz.prog ((laidWorld os).forCall (fun _ _=>0) ⟨#[],adC,[]⟩).memory Tryz.f4.params.toList [] false adC.toList 8=some ([.agg [.nil,.nil],.nil,.agg [.nil,.nil]],[],places):=
 ⟨[],by kernel_rfl⟩
set_option maxHeartbeats 400000 in
theorem lifted (os:Os) (started:os.Started) (H:Type) (enc:TypeId×Value->H) (F:Stop.Interp) :
 ReturnsInHanded {} Tryz.checked os 4 .any ((OpenSpec.ofChange Rows.kendoSameSpec).preRow enc Tryz.prog Tryz.f4 Rows.kendoSameRow.domain false Rows.kendoSameRow.laid) (((OpenSpec.ofChange Rows.kendoSameSpec).at F).post enc Tryz.prog Tryz.f4 false true false false):=by
 obtain⟨places,hx⟩:=reads os enc
 refine returnsInHanded_of_row (C:=Tryz.checked) (s:=OpenSpec.ofChange Rows.kendoSameSpec) Try.own started (by kernel_rfl) Tryz.func4
  (witness_row_at (enc:=enc) (C:=Tryz.checked) false (laidWorld os) adC rfl (by kernel_rfl) (by kernel_rfl) (by kernel_rfl)
   (OpenSpec.preRow_of_cond 8 hx (by kernel_rfl) (fun k hk=>by cases hk) (by kernel_rfl) (laid_met os))) ?_
 intro W base args ds gs before hval hW _ _ hsz _ hsh _;exact contract H enc W base args ds gs before hval hW hsz hsh
theorem kE {a b:Bool} (h1:a=true) (h2:b=true):(a&&b)=true:=by rw [h1,h2]; rfl
theorem closed:joinedFacts Tryz.pinned.checked.prog 4 Tryz.f4 (OpenSpec.ofChange Rows.kendoSameSpec).bare Rows.kendoSameRow=true:=(kE (kE (kE (kE (kE (kE (kE (kE (kE (kE (kE (kE (kE (kE (kE (kE (kE (kE (kE (kE (kE (kE (kE (kE (kE (kE (kE (kE (kE (kE (kE (by kernel_rfl) (by kernel_rfl)) (by kernel_rfl)) (by kernel_rfl)) (by kernel_rfl)) (by kernel_rfl)) (by kernel_rfl)) (by kernel_rfl)) (by kernel_rfl)) (by kernel_rfl)) (by kernel_rfl)) (by kernel_rfl)) (by kernel_rfl)) (by kernel_rfl)) (by kernel_rfl)) (by kernel_rfl)) (by kernel_rfl)) (by kernel_rfl)) (by kernel_rfl)) (by kernel_rfl)) (by kernel_rfl)) (by kernel_rfl)) (by kernel_rfl)) (by kernel_rfl)) (by kernel_rfl)) (by kernel_rfl)) (by kernel_rfl)) (by kernel_rfl)) (by kernel_rfl)) (by kernel_rfl)) (by kernel_rfl)) (by kernel_rfl))
theorem said:Rows.KendoSameSaid:=
 OpenClaim.holds_of_cond 4 Tryz.f4 rfl rfl rfl rfl rfl rfl rfl ⟨rfl,rfl,rfl,rfl,rfl⟩ rfl rfl rfl rfl rfl (by kernel_rfl) Tryz.func4 closed
  (of_decide_eq_true (by kernel_rfl)) (by unfold Func.isWrapper; first |(rw [aIR (by decide +kernel)]; kernel_rfl)|(rw [aIQ (by decide +kernel)]; exact⟨rfl,rfl⟩))
  (fun os started H enc _ F=>by rw [OpenClaim.pre_eq_preRow]; exact lifted os started H enc F)
theorem plain (f:FuncId) (fn:Func) (hf:Tryz.pinned.checked.prog.funcNamed "amanuensis/amanuensislaw18.KendoSame" = some f) (hfn:Tryz.pinned.checked.prog.funcs[f]?=some fn) :
 false=Tryz.pinned.checked.prog.looks []/\∀(j:Nat) t,fn.params[j]?=some t->Tryz.pinned.checked.prog.wantsStandIn t=false:=by
 obtain rfl:f=4:=Option.some.inj ((show Tryz.prog.funcNamed "amanuensis/amanuensislaw18.KendoSame" = some 4 by kernel_rfl).symm.trans hf) |>.symm;obtain rfl:fn=Tryz.f4:=(Option.some.inj (Tryz.func4.symm.trans hfn)).symm;refine⟨by kernel_rfl,fun j t ht=>?_⟩;rw [Tryz.params4] at ht;have hm:=aKR ht;simp only [List.mem_toArray,aI3,aJG,or_false] at hm;rcases hm with rfl|rfl|rfl
 all_goals exact (by kernel_rfl:Tryz.prog.wantsStandIn _=false)
theorem card:Rows.KendoSameCardSaid:=
 Claim7.holds_tied_plain_at .later [] _ _ _ _ said (fun _ h=>by cases h) (by kernel_rfl) (fun _ h=>by cases h) kendoSame_row_tie rfl ⟨rfl,rfl⟩ (by kernel_rfl) rfl plain (by kernel_rfl)
end Go.Proofs.YtakeldbjhhiinaaGreatDoor.fnKendoSame
end

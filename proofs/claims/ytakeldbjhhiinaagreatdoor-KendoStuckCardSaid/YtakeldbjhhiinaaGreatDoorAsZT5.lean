/-
  Proved: the given card of the law KendoStuck: whatever the input, the call returns true and each argument reads afterwards as it did. Conditions: those of the given row alone (its listed package-level variables start as the program's text lays them; each string, slice and map that is handed in lies within a process's addresses).
-/
import Derived.Test.YtakeldbjhhiinaaGreatDoorAsZT4
set_option linter.unusedSectionVars false
set_option linter.unusedVariables false
set_option linter.unusedSimpArgs false
section
namespace Go.As.Try
open Go hiding Stat Spec shape
open Go.As
set_option maxRecDepth 100000
section
variable {d0 d1:D} (h0:Wd (.sl 3) d0) (h1:Wd (.sl 4) d1)
include h0 h1
theorem awN {n n':Nat} {B P P':KS} {t op obj arg tr e1 e2 e3 e4 e5 oc:Int} {x:KT} {s':D} (S:Sx P.s P.k n) (hn:n<10000) (M:MR d0 d1 P.s P.k) (r:Rep d1 B P) (a:Zy d0 d1 n' B P' t x op obj arg tr s' e1 e2 e3 e4 e5 oc):Bz d0 d1 P.s P.k t≠0/\(P.c.at t).n<=(P'.c.at t).n:=by
 have t0:=a.R.r.t0;have t1:=a.R.r.t1;obtain⟨u,rfl⟩ : ∃u:Nat,t=(u:Int):=⟨t.toNat,by omega⟩;have hu:u<d1.l.length:=by omega
 obtain⟨X,y,j,b1,b2,b3,b4⟩:=r.th u hu;obtain⟨X',y',m,b1',b2',b3',b4'⟩:=a.rep.th u hu;obtain rfl:=kH (b1.symm.trans b1');obtain rfl:=kH (b2'.symm.trans a.R.hk);have hjm:=b3.le b3' (zT a.hq);have R:=SN S (by omega) h0 h1 M t0 t1 b2;refine⟨?_,by omega⟩;rw [Xh h0 h1 S hn M R]
 have q:fE d1 (u:Int) y=0/\EM P.s (u:Int) y=0:=by
  rcases aJx j m with hlt|hge
  ·have d:=b3.det b3' hjm;obtain⟨i,hi⟩ : ∃i,m-j=i+1:=⟨m-j-1,by omega⟩;rw [hi] at d
   cases d with
   |succ _ _ _ ho ha _=> refine⟨ho,?_⟩;have w:=aiV ha;unfold EM;rw [aJd (by omega),aJd (by omega)]
  ·have e:m=j:=by omega
   subst e;have d:=b3.det b3' (aJi _);rw [aLn] at d;cases d;rw [r.s,<- a.rep.s];exact⟨a.ho,a.ha⟩
 unfold alU;rw [aJd (by omega),aJe q.2];omega
def aiZ (d1:D) (P:KS):Prop:= ∀u:Nat,u<d1.l.length->∃y:KT,P.k.at (u:Int)=y.d/\fE d1 (u:Int) y=1
theorem aD0 {P Q:KS} {i i':Nat} (hp:0<d1.l.length) (S:Sx P.s P.k i) (S':Sx Q.s Q.k i') (C:Ck LC P.c) (C':Ck LC Q.c) (lk:P.k.l.length=d1.l.length) (lk':Q.k.l.length=d1.l.length) (lc:P.c.l.length=d1.l.length) (lc':Q.c.l.length=d1.l.length)
 (hs:P.s=Q.s) (hk: ∀u:Nat,u<d1.l.length->P.k.at (u:Int)=Q.k.at (u:Int)) (hc: ∀u:Nat,u<d1.l.length->(P.c.at (u:Int)).n=(Q.c.at (u:Int)).n):P=Q:=by
 have e1:P.k=Q.k:=by have a:=(BU S.wk (by omega)).sh;have b:=(BU S'.wk (by omega)).sh;rw [a,b];congr 1;refine List.ext_getElem (by omega) fun u hu hu'=>?_;have:=hk u (by omega);rw [aX hu,aX hu'] at this;exact this
 have sh: ∀c:D,Wd (.sl 0) c->c.l.length=d1.l.length->c=dL c.l:=fun c hc hl=>by
  rcases hc.sh with rfl|rfl|⟨q,_⟩
  ·simp [D.l] at hl; omega
  ·simp [D.l] at hl; omega
  ·exact q
 have e2:P.c=Q.c:=by rw [sh P.c C.wd lc,sh Q.c C'.wd lc'];congr 1;refine List.ext_getElem (by omega) fun u hu hu'=>?_;have:=hc u (by omega);rw [aX hu,aX hu'] at this;obtain⟨a,ha,_⟩:=(C.wd.el1 rfl _ (aJm hu)).i;obtain⟨b,hb,_⟩:=(C'.wd.el1 rfl _ (aJm hu')).i;rw [ha,hb] at this ⊢;exact congrArg D.i this
 cases P; cases Q;simp only at hs e1 e2;subst hs e1 e2;rfl
theorem RP {B0 B P B' P':KS} {i i':Nat} {es es':List (List D)} (hp:0<d1.l.length) (hi:i<10000) (hi':i'<10000) (h:Pl d0 d1 B0 i es B P) (h':Pl d0 d1 B0 i' es' B' P') (hle:es.length<=es'.length) :
 ∃gs:List D,es'.flatten=es.flatten++gs/\(QW d0 d1 P->gs= [])/\(aiZ d1 P->aiZ d1 P'->P=P'):=by
 obtain⟨rest,rfl,q⟩:=h.path.det h0 h1 h'.path hle;refine⟨rest.flatten,by simp,fun hF=>?_,fun o o'=>?_⟩
 ·cases q with
  |nil=>rfl
  |cons b _=>
   cases b with
   |mk b=> obtain⟨t,x,R,hT,hm⟩:=hF;obtain⟨c1,c2⟩:=awN h0 h1 h.S hi h.K.2.2 h.rep b;have b0:=b.R.r.t0;have b1:=b.R.r.t1;obtain⟨u,hu⟩:=(⟨_,Int.toNat_of_nonneg b0⟩ : ∃u:Nat,(u:Int)=_);have hc:=b.hc u (by rw [b.rep.lc]; omega);rw [hu] at hc;have hmm:=b.hm;have:=hT.2 u (by rw [h.rep.lc]; omega) (.inl (by rw [hu,hm]; omega));rw [hu] at this;exact absurd this c1
 ·cases q with
  |nil=>
   have both: ∀u:Nat,u<d1.l.length->P.k.at (u:Int)=P'.k.at (u:Int)/\(P.c.at (u:Int)).n=(P'.c.at (u:Int)).n:=fun u hu=>by obtain⟨X,y,j,b1,b2,b3,b4⟩:=h.rep.th u hu;obtain⟨X',y',j',b1',b2',b3',b4'⟩:=h'.rep.th u hu;obtain rfl:=kH (b1.symm.trans b1');obtain⟨z,z1,z2⟩:=o u hu;obtain⟨z',z1',z2'⟩:=o' u hu;obtain rfl:=kH (b2.symm.trans z1);obtain rfl:=kH (b2'.symm.trans z1');obtain⟨rfl,rfl⟩:=b3.stop b3' (Ji z2) (Ji z2');exact⟨b2.trans b2'.symm,by omega⟩
   exact aD0 h0 h1 hp h.S h'.S h.C h'.C h.rep.lk h'.rep.lk h.rep.lc h'.rep.lc (h.rep.s.trans h'.rep.s.symm) (fun u hu=>(both u hu).1) fun u hu=>(both u hu).2
  |cons b _=>
   cases b with
   |mk b=> obtain⟨c1,_⟩:=awN h0 h1 h.S hi h.K.2.2 h.rep b;have b0:=b.R.r.t0;have b1:=b.R.r.t1;obtain⟨u,hu⟩:=(⟨_,Int.toNat_of_nonneg b0⟩ : ∃u:Nat,(u:Int)=_);obtain⟨y,y1,y2⟩:=o u (by omega);rw [hu] at y1 y2;have R:=SN h.S (by omega) h0 h1 h.K.2.2 b0 b1 y1;rw [Xh h0 h1 h.S hi h.K.2.2 R] at c1;unfold alU at c1;rw [aJe y2] at c1;exact absurd rfl c1
end
structure PlO (d0 d1:D) (B0:KS) (i:Nat) (es:List (List D)) (B P:KS) (lf:D) (er:Int):Prop where
 pl:Pl d0 d1 B0 i es B P
 l:lf.l=es.flatten
 er:er=0\/er=131/\QW d0 d1 P
section
variable {d0 d1 d:D} (h0:Wd (.sl 3) d0) (h1:Wd (.sl 4) d1) (hn:0<d1.l.length) (hd:d.l.length<=4000)
include h0 h1 hn hd
theorem OI {B0:KS}: ∀(j i:Nat) (es:List (List D)) (B P:KS),i+j=d.l.length->Pl d0 d1 B0 i es B P->∃(es':List (List D)) (B' P':KS) (lf:D) (er:Int),PlO d0 d1 B0 d.l.length es' B' P' lf er/\
 (es.flatten= []->L 3151 [enc d,(d1.l.length:Int),(i:Int),enc d0,enc d1,enc P.s,enc P.k,enc P.c]=some [enc lf,enc P'.s,enc P'.k,enc P'.c,er])/\
 (es.flatten≠[]->L 3152 [enc d,enc (dL es.flatten),(d1.l.length:Int),(i:Int),enc d0,enc d1,enc P.s,enc P.k,enc P.c]=some [enc lf,enc P'.s,enc P'.k,enc P'.c,er])
 |0,i,es,B,P,hi,h=>by
  have c1: ¬(i:Int)<(d.l.length:Int):=by omega
  refine⟨es,B,P,if es.flatten= [] then .i 1 else dL es.flatten,0,⟨h.mono (by omega),?_,.inl rfl⟩,fun hz=>?_,fun hz=>?_⟩
  ·split
   ·rename_i hz; rw [hz]; rfl
   ·rw [aW]
  ·rw [aJe hz,aN,Zc];simp only [Gu,zz,c1,aG]
  ·rw [aJd hz,aN,ahS];simp only [Nj,zz,c1,aG]
 |j+1,i,es,B,P,hi,h=>by
  have hil:i<d.l.length:=by omega
  have c1:(i:Int)<(d.l.length:Int):=by omega
  have c2:(0:Int)<(d1.l.length:Int):=by omega
  have c3: ¬((i:Int)<0):=by omega
  have w:=aZ (n:=i) (by omega);have hb:=h1.len;have pk:=ajZ (x:=(d.at (i:Int)).n) c2 (by omega);obtain⟨r0,r1⟩:=akA (x:=(d.at (i:Int)).n) c2;have hll:=h.ll;have c7:(es.flatten.length:Int)<3518437208882:=by omega
  obtain⟨s',k',c',e1,e2,e3,e4,e5,oc,er,hL,hS⟩:=azN h0 h1 (by omega) h r0 r1;rcases hS with ⟨rfl,es',B',hP,hfl⟩|⟨rfl,hF⟩
  ·obtain⟨es2,B2,P2,lf,er,hO,ih1,ih2⟩:=OI j (i+1) es' B' ⟨s',k',c'⟩ (by omega) hP;refine⟨es2,B2,P2,lf,er,hO,fun hz=>?_,fun hz=>?_⟩
   ·rw [hfl,hz,aJo] at ih1 ih2;rw [aN,Zc];by_cases o2:oc=2
    ·simp only [o2,Uu,true_or,if_true,evD,dU,gB] at ih2;simp only [Gu,zz,dr,c1,c2,c3,pk,hL,o2,w,aK,wX,aJo,dU,gB];exact ih2 (by simp)
    ·by_cases o3:oc=3
     ·simp only [o3,Uu,or_true,if_true,evD,dU,gB] at ih2;simp only [Gu,zz,dr,c1,c2,c3,pk,hL,o3,w,aK,wX,aJo,dU,gB,aGq];exact ih2 (by simp)
     ·simp only [o2,o3,Uu,or_self,if_false] at ih1;simp only [Gu,zz,dr,c1,c2,c3,pk,hL,o2,o3,w,aK];exact ih1 trivial
   ·rw [hfl] at ih1 ih2;rw [aN,ahS];by_cases o2:oc=2
    ·simp only [o2,Uu,true_or,if_true,evD,dU,gB] at ih2;simp only [Nj,zz,dr,c1,c2,c3,c7,pk,hL,o2,w,aK,aW];exact ih2 (by simp)
    ·by_cases o3:oc=3
     ·simp only [o3,Uu,or_true,if_true,evD,dU,gB] at ih2;simp only [Nj,zz,dr,c1,c2,c3,c7,pk,hL,o3,w,aK,aW,aGq];exact ih2 (by simp)
     ·simp only [o2,o3,Uu,or_self,if_false,aJ1] at ih2;simp only [Nj,zz,dr,c1,c2,c3,pk,hL,o2,o3,w,aK];exact ih2 hz
  ·refine⟨es,B,P,if es.flatten= [] then .i 1 else dL es.flatten,131,⟨h.mono (by omega),?_,.inr ⟨rfl,hF⟩⟩,fun hz=>?_,fun hz=>?_⟩
   ·split
    ·rename_i hz; rw [hz]; rfl
    ·rw [aW]
   ·rw [aJe hz,aN,Zc];simp only [Gu,zz,dr,c1,c2,c3,pk,hL,Int.reduceEq,aG]
   ·rw [aJd hz,aN,ahS];simp only [Nj,zz,dr,c1,c2,c3,pk,hL,Int.reduceEq,aG]
end
section
variable {d0 d1:D} (h0:Wd (.sl 3) d0) (h1:Wd (.sl 4) d1)
include h0 h1
omit h0 h1 in
theorem apN {s k s1 k1:D} {l:List D} (r:Run d0 d1 s k l s1 k1) (d:D) (hd:d.l.length<=100000): ∀rest:List D,d.l=l++rest->L 2151 [enc d,(d.l.length:Int),0,enc d0,enc d1,enc s,enc k]=L 2151 [enc d,(d.l.length:Int),(l.length:Int),enc d0,enc d1,enc s1,enc k1]:=by
 induction r with
 |nil=>exact fun _ _=>rfl
 |snoc r h ih=>
  rename_i l s1 k1 s2 k2 e1 e2 e3 e4 e5;intro rest hl;have e:=ih ([evD e1 e2 e3 e4 e5]++rest) (by rw [hl,aKa]);have hlen:=congrArg List.length hl;simp only [aJy,aJr,aJt] at hlen;have c1:(l.length:Int)<(d.l.length:Int):=by omega
  have c2: ¬(l.length:Int)<0:=by omega
  have w:=aZ (n:=l.length) (by omega)
  have hat:d.at (l.length:Int)=evD e1 e2 e3 e4 e5:=by rw [lN,hl,aKa,aLe (aJi _),aLn];rfl
  have n1:((evD e1 e2 e3 e4 e5).hd 0).n=e1/\((evD e1 e2 e3 e4 e5).hd 1).n=e2/\((evD e1 e2 e3 e4 e5).hd 2).n=e3/\((evD e1 e2 e3 e4 e5).hd 3).n=e4/\((evD e1 e2 e3 e4 e5).hd 4).n=e5:=⟨rfl,rfl,rfl,rfl,rfl⟩;obtain⟨a1,a2,a3,a4,a5⟩:=n1
  have K:dX (bQ L (low [enc d,(d.l.length:Int),(l.length:Int),enc d0,enc d1,enc s1,enc k1])) afD= .jump 2151 [enc d,(d.l.length:Int),((l.length+1:Nat):Int),enc d0,enc d1,enc s2,enc k2]:=by refine bD [wY,Rl,.eq (a0 2000 Qrr) Q0] [uS,.eq (rr 2000 Qrr 2) Qa] (ju 2151 [Qf,Qb,kP,Qm,bC,rr 2000 Qrr 0,rr 2000 Qrr 1]) (by simp only [zz,c1,c2,hat,a1,a2,a3,a4,a5,h]<;>omega) (by kernel_rfl) ?_;simp only [zz,hat,a1,a2,a3,a4,a5,h,w]
  rw [e,aJy]
  conv=>lhs; rw [aN,atZ]
  exact congrArg (fin L) K
theorem after_at (hC:L 450 [enc d0,enc d1]=some [0]) (ok:yA d0 d1) (d:D) (hd:d.l.length<=100000) {s1 k1:D} (r:Run d0 d1 (fA d0) (iT d1) d.l s1 k1):L 2150 [enc d0,enc d1,enc d]=some [enc s1,enc k1,(d.l.length:Int)]:=by
 have hB:=TL h1 hC ok;have e:=apN r d hd [] (aJ1 _).symm
 have K:dX (bQ L (low [enc d0,enc d1,enc d])) afE= .jump 2151 [enc d,(d.l.length:Int),0,enc d0,enc d1,enc (fA d0),enc (iT d1)]:=by refine bD [.eq (a0 1450 KZ) Q0,Qro] [] (ju 2151 [Qo,Qcl,Qa,Qf,Qb,Qrp,Qrq]) (by simp only [zz,hB]<;>omega) (by kernel_rfl) ?_;simp only [zz,hB]
 have c1: ¬(d.l.length:Int)<(d.l.length:Int):=by omega
 rw [aN,auA];refine (congrArg (fin L) K).trans (e.trans ?_);rw [aN,atZ];simp only [afD,zz,c1,aG]
omit h0 h1 in
theorem axD {c:Int} (hC:L 450 [enc d0,enc d1]=some [c]) (hc:c≠0) (d:D):L 2150 [enc d0,enc d1,enc d]=some [enc (.i 1),enc (.i 1),0]:=by
 have hB:=Jq hC hc
 have K:dX (bQ L (low [enc d0,enc d1,enc d])) afE= .out [enc (.i 1),enc (.i 1),0]:=by refine bD [.eq (a0 1450 KZ) Q0] [Qro] (ou [Qh,Qh,Qa]) (by simp only [zz,hB,hc]<;>omega) (by kernel_rfl) ?_;simp only [zz]
 rw [aN,auA];exact congrArg (fin L) K
theorem apZ (hC:L 450 [enc d0,enc d1]=some [0]) (ok:yA d0 d1) {c:D} (hc:Wd (.sl 0) c) (K:KR d0 d1 (fA d0) (iT d1) c):Pl d0 d1 ⟨fA d0,iT d1,c⟩ 0 [] ⟨fA d0,iT d1,c⟩ ⟨fA d0,iT d1,c⟩:=by
 have S:=Gx h0 h1 ok;have M:=aqP h0 h1 hC ok;have hl:=Fp d1;have C:Ck LC c:=⟨hc,fun u hu=> ⟨K.2.1 u hu,(amQ hc u).2⟩⟩
 have hth: ∀u:Nat,u<d1.l.length->∃X:KT,(iT d1).at (u:Int)=X.d:=fun u hu=>by obtain⟨X,hX,_⟩:=aCc S (by omega:(0:Int)<=(u:Int)) (by omega);exact⟨X,hX⟩
 refine⟨.nil _,⟨rfl,hl,hl,K.1,K.1,fun u hu=>?_⟩,S,K,?_,C,aJi _,aJi _,iT d1,.nil,S,M,fun u hu=>?_⟩
 ·obtain⟨X,hX⟩:=hth u hu;exact⟨X,X,0,hX,hX,.zero X,(aLQ _).symm⟩
 ·intro o ho _ x hx;exfalso
  have hlen:(fA d0).l=d0.l.map kG:=by
   unfold fA;split
   ·rename_i h; rw [aJV h]; rfl
   ·rw [aW]
  rw [aX ho] at hx;have hm:(fA d0).l[o]∈(fA d0).l:=aJm ho;obtain⟨y,_,hy⟩:=aJE.1 (show (fA d0).l[o]∈d0.l.map kG by rw [<- hlen]; exact hm);rw [<- hy] at hx;have:((kG y).hd 4)= .i 1:=rfl;rw [this] at hx;simp [D.l] at hx
 ·obtain⟨X,hX⟩:=hth u hu;exact⟨X,X,0,X.tr,hX,hX,.zero X,by omega⟩
theorem aD1 {c:D} (hc:Wd (.sl 0) c) :
 (∃z:Int,z≠0/\(∀d:D,L 3150 [enc d0,enc d1,enc c,enc d]=some [enc (.i 1),enc (.i 1),enc (.i 1),enc (.i 1),z])/\(∃a b:Int,L 2150 [enc d0,enc d1,enc (.i 1)]=some [a,b,0]))\/
 (d1.l.length=0/\(∀d:D,L 3150 [enc d0,enc d1,enc c,enc d]=some [enc (.i 1),enc (fA d0),enc (iT d1),enc c,0])/\(∃a b:Int,L 2150 [enc d0,enc d1,enc (.i 1)]=some [a,b,0]))\/
 (0<d1.l.length/\∃B0:KS,∀d:D,d.l.length<=4000->∃(es:List (List D)) (B P:KS) (lf:D) (er:Int),PlO d0 d1 B0 d.l.length es B P lf er/\L 3150 [enc d0,enc d1,enc c,enc d]=some [enc lf,enc P.s,enc P.k,enc P.c,er]/\(∃a b:Int,L 2150 [enc d0,enc d1,enc lf]=some [a,b,(lf.l.length:Int)])):=by
 obtain⟨ys,hC,z,rfl,_,hok⟩:=zQ h0 h1;by_cases hz:z=0
 ·subst hz;have ok:=(hok rfl).1;have hB:=TL h1 hC ok;have S:=Gx h0 h1 ok;obtain⟨y1,n1⟩:=akP h0 h1 hc hB S;have aft: ∃a b:Int,L 2150 [enc d0,enc d1,enc (.i 1)]=some [a,b,0]:=⟨_,_,after_at h0 h1 hC ok (.i 1) (by simp [D.l]) .nil⟩;by_cases K:KR d0 d1 (fA d0) (iT d1) c
  ·have q:=y1 K;by_cases hn:0<d1.l.length
   ·have P0:=apZ h0 h1 hC ok hc K;refine .inr (.inr ⟨hn,⟨fA d0,iT d1,c⟩,fun d hd=>?_⟩);obtain⟨es,B,P,lf,er,hO,g,_⟩:=OI h0 h1 hn hd d.l.length 0 [] _ _ (by omega) P0;have g1:=g rfl;rw [aJR] at g1;refine⟨es,B,P,lf,er,hO,?_,?_⟩
    ·rw [aN,Uz];simp only [Nk,zz,q,aK];exact g1
    ·obtain⟨F,f1,_⟩:=hO.pl.fr;have hll:=hO.pl.ll;exact⟨_,_,after_at h0 h1 hC ok lf (by rw [hO.l]; omega) (by rw [hO.l]; exact f1)⟩
   ·have z1: ¬(0:Int)<(d1.l.length:Int):=by omega
    refine .inr (.inl ⟨by omega,fun d=>?_,aft⟩)
    have go:L 3151 [enc d,(d1.l.length:Int),0,enc d0,enc d1,enc (fA d0),enc (iT d1),enc c]=some [enc (.i 1),enc (fA d0),enc (iT d1),enc c,0]:=by
     rw [aN,Zc];by_cases hz:(0:Int)<(d.l.length:Int)
     ·simp only [Gu,zz,hz,z1,aG]
     ·simp only [Gu,zz,aJd hz,aG]
    rw [aN,Uz];simp only [Nk,zz,q,aK];exact go
  ·have q:=n1 K;refine .inl ⟨2,by omega,fun d=>?_,aft⟩;rw [aN,Uz];simp only [Nk,zz,q,Int.reduceEq,if_false,aG]
 ·have q:=TV (c:=c) h0 h1 hz (Jq hC hz);refine .inl ⟨z,hz,fun d=>?_,_,_,axD hC hz _⟩;rw [aN,Uz];simp only [Nk,zz,q,aJd hz,aG]
end
section
variable {n:Nat} {x2 x3 x4 x5 x6 x7 x8 x9:Int}
end
section
variable {d0 d1:D} (h0:Wd (.sl 3) d0) (h1:Wd (.sl 4) d1)
include h0 h1
end
theorem aCb (d1:D) (t:Int) (x:KT): ∃a b c d e,eX d1 t x= [a,b,c,d,e]/\(e=0\/e=1):=by
 unfold eX;split
 ·split
  ·exact⟨_,_,_,_,_,rfl,.inl rfl⟩
  ·split
   ·exact⟨_,_,_,_,_,rfl,.inr rfl⟩
   ·split
    ·exact⟨_,_,_,_,_,rfl,.inr rfl⟩
    ·exact⟨_,_,_,_,_,rfl,.inl rfl⟩
 ·exact⟨_,_,_,_,_,rfl,.inr rfl⟩
theorem aDR {d0 d1 s k:D} {t:Int} {x:KT} (R:Rs d0 d1 s k t x):L 1800 [enc d0,enc d1,enc s,enc k,t]=some (eX d1 t x):=by
 obtain⟨a,b,c,d,e,hq,he⟩:=aCb d1 t x;have hN:=xJ (s:=s) R.c R.hk R.ht R.r;have h:=R.yes;rw [hq] at hN ⊢;rw [aN,auK];rcases he with rfl|rfl
 ·simp only [RZ,zz,h,hN,aC,aG]
 ·simp only [RZ,zz,h,hN,aC,aG]
def KW (d0 d1 s k:D) (t:Int) (x:KT):Prop:= ∃s' k' e1 e2 e3 e4 e5 oc,L 1850 [enc d0,enc d1,enc s,enc k,t]=some [enc s',enc k',e1,e2,e3,e4,e5,oc]/\(oc=0\/oc=4)/\¬(low (eX d1 t x) 0=4/\low (eX d1 t x) 3<low (eX d1 t x) 2)
def Gf (d0 d1 s k:D):Prop:=MR d0 d1 s k/\∀(t:Int) (x:KT),Rs d0 d1 s k t x->KW d0 d1 s k t x
section
variable {d0 d1 s k:D} {n:Nat} (S:Sx s k n) (hn:n<17592186043800) (h0:Wd (.sl 3) d0) (h1:Wd (.sl 4) d1)
include S hn h0 h1
theorem NH (M:MR d0 d1 s k): ∀(j i:Nat),i+j=d1.l.length->Tot 2551 [(d1.l.length:Int),(i:Int),enc d0,enc d1,enc s,enc k] (Xw (∀(t:Int) (x:KT),(i:Int)<=t->Rs d0 d1 s k t x->KW d0 d1 s k t x))
 |0,i,hi=>by
  have c1: ¬(i:Int)<(d1.l.length:Int):=by omega
  refine Tot.of ?_;rw [atX];simp only [afB,zz,c1];exact .out (Ub fun t x ht R=>by have:=R.r.t1; omega)
 |j+1,i,hi=>by
  have c1:(i:Int)<(d1.l.length:Int):=by omega
  have hb:=h1.len;have w:=aZ (n:=i) (by omega);obtain⟨x,R⟩:=M.thr S (by omega) h0 h1 (by omega:(0:Int)<=(i:Int)) c1;obtain⟨s',k',e1,e2,e3,e4,e5,oc,A⟩:=apA S (by omega) h0 h1 (i:Int);have hA:=A.eq;obtain⟨a,b,c,d,e,hq,_⟩:=aCb d1 (i:Int) x;have h18:=aDR R;rw [hq] at h18;have ih:=NH M j (i+1) (by omega)
  have stay:KW d0 d1 s k (i:Int) x↔(oc=0\/oc=4)/\¬(a=4/\d<c):=by unfold KW;rw [hq];refine⟨fun⟨s2,k2,f1,f2,f3,f4,f5,oc2,q1,q2,q3⟩=>?_,fun⟨q1,q2⟩=> ⟨s',k',e1,e2,e3,e4,e5,oc,hA,q1,q2⟩⟩;rw [hA] at q1;simp only [aJf,List.cons.injEq,and_true] at q1;exact⟨by omega,q3⟩
  have no: ¬KW d0 d1 s k (i:Int) x->Xw (∀(t:Int) (x:KT),(i:Int)<=t->Rs d0 d1 s k t x->KW d0 d1 s k t x) [0]:=fun h=>xP fun q=>h (q _ _ (aKC _) R)
  have yes:KW d0 d1 s k (i:Int) x->Tot 2551 [(d1.l.length:Int),((i+1:Nat):Int),enc d0,enc d1,enc s,enc k] (Xw (∀(t:Int) (x:KT),(i:Int)<=t->Rs d0 d1 s k t x->KW d0 d1 s k t x)):=fun h=>by
   obtain⟨ys,hL,b,rfl,hb⟩:=ih;refine⟨_,hL,b,rfl,hb.imp (fun q=> ⟨q.1,fun g=>q.2 fun t y ht Ry=>g t y (by omega) Ry⟩) (fun q=> ⟨q.1,fun t y ht Ry=>?_⟩)⟩;by_cases hti:t=(i:Int)
   ·subst hti;have:=kH (Ry.hk.symm.trans R.hk);rw [this];exact h
   ·exact q.2 t y (by omega) Ry
  refine Tot.of ?_;rw [atX];simp only [afB,zz,c1,hA,h18,w];refine .ite (fun o0=> .ite (fun a4=> .ite (fun hlt=> .out (no fun h=>(stay.1 h).2 ⟨a4,hlt⟩)) (fun hlt=> .jump (yes (stay.2 ⟨.inl o0,fun h=>hlt h.2⟩)))) (fun a4=> .jump (yes (stay.2 ⟨.inl o0,fun h=>a4 h.1⟩)))) (fun o0=> .ite (fun o4=> .ite (fun a4=> .ite (fun hlt=> .out (no fun h=>(stay.1 h).2 ⟨a4,hlt⟩)) (fun hlt=> .jump (yes (stay.2 ⟨.inr o4,fun h=>hlt h.2⟩)))) (fun a4=> .jump (yes (stay.2 ⟨.inr o4,fun h=>a4 h.1⟩)))) (fun o4=> .out (no fun h=>by rcases (stay.1 h).1 with h|h; exact o0 h; exact o4 h)))
theorem NI:Tot 2550 [enc d0,enc d1,enc s,enc k] (Xw (Gf d0 d1 s k)):=by
 obtain⟨ys,hM,b,rfl,hb⟩:=Jp h0 h1 (S.g.few (by omega)).rows h1.len (k:=k);refine Tot.of ?_;rw [aCM];simp only [aoG,zz,hM];refine .ite (fun h=> .out (xP fun q=>?_)) (fun h=>?_)
 ·rcases hb with ⟨_,hb⟩|⟨h',_⟩
  ·exact hb q.1
  ·omega
 ·have M:MR d0 d1 s k:=by
   rcases hb with ⟨h',_⟩|⟨_,hb⟩
   ·exact absurd h' h
   ·exact hb
  obtain⟨ys,hL,b',rfl,hb'⟩:=NH S hn h0 h1 M d1.l.length 0 (by omega);rw [aJR] at hL;refine .jump ⟨_,hL,b',rfl,hb'.imp (fun q=> ⟨q.1,fun g=>q.2 fun t x _ R=>g.2 t x R⟩) (fun q=> ⟨q.1,M,fun t x R=>q.2 t x (by have:=R.r.t0; omega) R⟩)⟩
theorem aqX {t obj arg tr:Int} {s':D} {e1 e2 e3 e4 e5 oc:Int} (A:Tried d0 d1 s t 4 obj arg tr n s' e1 e2 e3 e4 e5 oc) (ho:oc=0) (ht: ¬tr<arg): ¬Acc d0 d1 s t 4 obj:=fun h=>by
 obtain⟨_,o,c,dn,g,r,v,T,hL⟩:=xG (arg:=arg) (tries:=tr) h0 h1 S.g.wd (S.g.few (by omega)) (⟨by omega,by omega⟩ : iM .u8 4) h;rw [A.eq,D6] at hL
 have e:act (Mx d0 obj) (Mo d0 s obj) t 4 arg tr o c dn g r v=if o<0 then .res t c dn g r v none 1 2 else .res o c dn g r v none 0 2:=by simp only [act,Int.reduceEq,if_false,if_true,reduceIte,aJd ht]
 rw [e] at hL;by_cases h2:o<0
 ·rw [aJe h2] at hL;simp only [evA,aJf,List.cons.injEq,and_true] at hL;omega
 ·rw [aJd h2] at hL;simp only [evA,aJf,List.cons.injEq,and_true] at hL;omega
theorem aaR (P:Gf d0 d1 s k) {t:Int} (t0:0<=t) (t1:t<(d1.l.length:Int)): ∃k' oc,L 1850 [enc d0,enc d1,enc s,enc k,t]=some [enc s,enc k',0,0,0,0,0,oc]/\oc≠1/\Gf d0 d1 s k'/\Sx s k' (n+1):=by
 obtain⟨M,hP⟩:=P;obtain⟨x,R⟩:=M.thr S (by omega) h0 h1 t0 t1;obtain⟨s2,k2,f1,f2,f3,f4,f5,oc2,q1,q2,q3⟩:=hP t x R;obtain⟨s',k',e1,e2,e3,e4,e5,oc,hL,H⟩:=Fv S (by omega) h0 h1 t
 have hoc:oc=0\/oc=4:=by rw [hL] at q1;simp only [aJf,List.cons.injEq,and_true] at q1;omega
 have M':=XZ S (by omega) h0 h1 M H;have S':=(NQ S (by omega) h0 h1 H).1
 cases H with
 |no h=>exact⟨k,0,hL,by omega,⟨M,hP⟩,S'⟩
 |over y Ry ho=>exact⟨k,4,hL,by omega,⟨M,hP⟩,S'⟩
 |loc y Ry ho ha=>omega
 |tri y Ry ho op obj arg tr hq k1 k2' k3 hti s' e1 e2 e3 e4 e5 oc A T=>
  have e:=kH (Ry.hk.symm.trans R.hk);subst e;have o0:oc=0:=by have:=A.oc3; omega
  obtain⟨z1,z2,z3,z4,z5,z6⟩:=A.no o0;subst z1 z2 z3 z4 z5 z6 o0;refine⟨_,0,hL,by omega,?_,S'⟩;by_cases h4:op=4
  ·subst h4;have hlt: ¬tr<arg:=fun h=>q3 (by rw [hq]; exact⟨rfl,h⟩);have hna:=aqX S hn h0 h1 A rfl hlt
   have hw:y.w=0/\y.tr=tr/\∀q,eX d1 t { y with tr:=q }= [4,obj,arg,q,1]:=by
    have hw:=R.r.ok.2.2.2.2.2;unfold eX at hq ⊢;by_cases w0:y.w=0
    ·rw [aJe w0] at hq;simp only [w0,if_true];by_cases a0:y.a=(Nc d1 t:Int)
     ·rw [aJe a0] at hq; simp at hq
     ·rw [aJd a0] at hq;simp only [a0,if_false];by_cases d1':((Ins d1 t y).hd 0).n=1
      ·rw [aJe d1'] at hq;simp only [List.cons.injEq,and_true] at hq;obtain⟨r1,r2,r3,r4⟩:=hq;refine⟨trivial,r4,fun q=>?_⟩;have aIJ:((Ins d1 t { y with tr:=q }).hd 0).n=1:=d1';rw [aJe aIJ];show [((Ins d1 t y).hd 1).n,((Ins d1 t y).hd 2).n,QL ((Ins d1 t y).hd 6) y.lc,q,1]=_;rw [r1,r2,r3]
      ·rw [aJd d1'] at hq;split at hq<;>simp at hq
    ·rw [aJd w0] at hq;simp only [List.cons.injEq,and_true] at hq;omega
   obtain⟨w0,htr,hnx⟩:=hw
   have hz:jI (Ins d1 t y) y 4 0 0 0 0= { y with tr:=if 4611686018427387904<y.tr+1 then 4611686018427387904 else y.tr+1 }:=by unfold jI;rw [aJe rfl,aJe rfl]
   rw [hz] at M' S' ⊢
   have hge:y.tr<=(if 4611686018427387904<y.tr+1 then (4611686018427387904:Int) else y.tr+1):=by have:=R.r.ok.2.2.2.2.1;split<;>omega
   generalize (if 4611686018427387904<y.tr+1 then (4611686018427387904:Int) else y.tr+1)=q at *;refine⟨M',fun u z Rz=>?_⟩;by_cases hut:u=t
   ·subst hut;have hzq:z= { y with tr:=q }:=kH (Rz.hk.symm.trans (iZ t0 R.ht _));subst hzq;have hov:fE d1 u { y with tr:=q }=0:=ho;obtain⟨s3,g1,g2,g3,g4,g5,oc3,A3⟩:=try_any (tries:=q) h0 h1 S'.g (by omega) hti k1 k2' k3;have hno:=I8 (arg:=arg) (tries:=q) h0 h1 S.g.wd (S.g.few (by omega)) k1 hna;have hst:=wF S' Rz hov (hnx q) A3
    have o3:oc3=0:=by have h:=A3.eq;rw [hno] at h;simp only [aJf,List.cons.injEq,and_true] at h;omega
    exact⟨_,_,_,_,_,_,_,_,hst,.inl o3,by rw [hnx q]; show ¬((4:Int)=4/\q<arg); omega⟩
   ·have hk':k.at u=z.d:=(jE k Rz.r.t0 hut _).symm.trans Rz.hk;have Ru:=SN S (by omega) h0 h1 M Rz.r.t0 Rz.r.t1 hk';obtain⟨s4,k4,g1,g2,g3,g4,g5,oc4,p1,p2,p3⟩:=hP u z Ru;obtain⟨s5,k5,b1,b2,b3,b4,b5,oc5,hL5,H5⟩:=Fv S (by omega) h0 h1 u
    have ho5:oc5=0\/oc5=4:=by rw [hL5] at p1;simp only [aJf,List.cons.injEq,and_true] at p1;omega
    cases H5 with
    |no h5=> have:=Ru.yes;rw [h5] at this;simp at this
    |over v Rv hv=> have e:=kH (Rv.hk.symm.trans Ru.hk);subst e;exact⟨_,_,_,_,_,_,_,_,Ja S' Rz hv,.inr rfl,p3⟩
    |loc v Rv hv ha=>omega
    |tri v Rv hv op' azW arg' tr' hq' l1 l2 l3 aIo s5 b1 b2 b3 b4 b5 oc5 A5 T5=>
     have e:=kH (Rv.hk.symm.trans Ru.hk);subst e;have z0:oc5=0:=by have:=A5.oc3; omega
     obtain⟨s6,i1,i2,i3,i4,i5,oc6,A6⟩:=try_any (tries:=tr') h0 h1 S'.g (by omega) aIo l1 l2 l3
     have o6:oc6=0:=by have h:=A6.eq;rw [A5.eq] at h;simp only [aJf,List.cons.injEq,and_true] at h;omega
     exact⟨_,_,_,_,_,_,_,_,wF S' Rz hv hq' A6,.inl o6,p3⟩
  ·have hz:jI (Ins d1 t y) y op 0 0 0 0=y:=by
    unfold jI;rw [aJe rfl,aJd h4]
   rw [hz]
   have hkk:fK k t y=k:=by obtain⟨x',hx',hs'⟩:=aCc S t0 R.ht;rw [kH (R.hk.symm.trans hx')];exact hs'
   rw [hkk];exact⟨M,hP⟩
end
def SB (d0 d1:D) (n:Nat) (B:KS):Prop:= ∃k:D,Sx B.s k n/\Gf d0 d1 B.s k/\B.k.l.length=d1.l.length/\∀u:Nat,u<d1.l.length->∃(X y:KT) (j:Nat),B.k.at (u:Int)=X.d/\k.at (u:Int)=y.d/\sQ d1 (u:Int) j X y
section
variable {d0 d1:D} (h0:Wd (.sl 3) d0) (h1:Wd (.sl 4) d1)
include h0 h1
theorem aDF {n:Nat} {B B':KS} {e:List D} (hn:n<1000000) (hB:SB d0 d1 n B) (a:BF d0 d1 B e B'):e= []/\B'.s=B.s/\SB d0 d1 (n+1) B':=by
 obtain⟨k,S,P,lb,th⟩:=hB
 cases a with
 |mk a=>
  rename_i n2 P2 t x op obj arg tr s' e1 e2 e3 e4 e5 oc;have t0:=a.R.r.t0;have t1:=a.R.r.t1;have lk:k.l.length=d1.l.length:=P.1.2.1;obtain⟨u,rfl⟩ : ∃u:Nat,t=(u:Int):=⟨t.toNat,by omega⟩;have hu:u<d1.l.length:=by omega
  obtain⟨X,y,j,b1,b2,b3⟩:=th u hu;obtain⟨X',x',m,c1,c2,c3,_⟩:=a.rep.th u hu;obtain rfl:=kH (b1.symm.trans c1);obtain rfl:=kH (c2.symm.trans a.R.hk);have R:=SN S (by omega) h0 h1 P.1 t0 t1 b2;obtain⟨k',oc',hL,hoc,P',S'⟩:=aaR S (by omega) h0 h1 P t0 t1;have hst:=zT a.hq
  have ov:fE d1 (u:Int) y=0:=by
   rcases LW d1 (u:Int) y with h|h
   ·exact h
   ·obtain⟨_,rfl⟩:=b3.stop c3 (Ji h) hst;have:=a.ho;omega
  have nl: ¬low (eX d1 (u:Int) y) 4=0:=fun h=>by have:=Fq S R ov h;rw [hL] at this;simp only [aJf,List.cons.injEq,and_true] at this;omega
  have hy:alZ d1 (u:Int) y:=fun q=>nl q.2;obtain⟨_,rfl⟩:=b3.stop c3 hy hst;obtain⟨k1,k2,k3⟩:=VQ R.c R.r R.c.ok.1 a.hq;have hti:iM .i64 (u:Int):=by have:=h1.len; exact⟨by omega,by omega⟩
  obtain⟨s3,g1,g2,g3,g4,g5,oc3,A3⟩:=try_any (tries:=tr) h0 h1 S.g (by omega) hti k1 k2 k3;have hs2:P2.s=B.s:=a.rep.s;have hA:=a.A.eq;rw [hs2,A3.eq] at hA;simp only [aJf,List.cons.injEq,and_true] at hA;obtain⟨q,rfl,rfl,rfl,rfl,rfl,rfl⟩:=hA;obtain rfl:=jB q;have hT:=wF S R ov a.hq A3
  have hz:oc3=0:=by obtain⟨_,_,_,_,_,_,_,_,p1,p2,_⟩:=P.2 _ _ R;rw [hT] at p1;simp only [aJf,List.cons.injEq,and_true] at p1;have:=A3.oc3;omega
  subst hz;obtain⟨rfl,rfl,rfl,rfl,rfl,rfl⟩:=A3.no rfl;rw [hL] at hT;simp only [aJf,List.cons.injEq,and_true] at hT;have hk':=jB hT.2.1;subst hk';refine⟨rfl,rfl,_,S',P',(gG _ _ _).trans lb,fun v hv=>?_⟩;by_cases hvu:(v:Int)=(u:Int)
  ·refine⟨jI (Ins d1 (u:Int) y) y op 0 0 0 0,jI (Ins d1 (u:Int) y) y op 0 0 0 0,0,?_,?_,.zero _⟩
   ·show (fK B.k (u:Int) _).at (v:Int)=_;rw [hvu,iZ t0 (by omega)]
   ·rw [hvu,iZ t0 (by omega)]
  ·obtain⟨X2,y2,j2,q1,q2,q3⟩:=th v hv;refine⟨X2,y2,j2,?_,?_,q3⟩
   ·show (fK B.k (u:Int) _).at (v:Int)=_;rw [jE _ (by omega) hvu,q1]
   ·rw [jE _ (by omega) hvu,q2]
theorem azA {B B':KS} {es:List (List D)} (p:Path d0 d1 B es B'): ∀n:Nat,n+es.length<1000000->SB d0 d1 n B->es.flatten= []/\B'.s=B.s:=by
 induction p with
 |nil B=>exact fun _ _ _=> ⟨rfl,rfl⟩
 |cons a _ ih=> intro n hn hB;simp only [aJr] at hn;obtain⟨rfl,q2,q3⟩:=aDF h0 h1 (by omega) hB a;obtain⟨r1,r2⟩:=ih (n+1) (by omega) q3;exact⟨by simpa using r1,r2.trans q2⟩
theorem Si {B0 B P B' P':KS} {i i':Nat} {es es':List (List D)} (hi:i<10000) (hi':i'<10000) (h:Pl d0 d1 B0 i es B P) (h':Pl d0 d1 B0 i' es' B' P') (hle:es.length<=es'.length) (hP:Gf d0 d1 P.s P.k):es'.flatten=es.flatten/\P'.s=P.s:=by
 obtain⟨rest,rfl,q⟩:=h.path.det h0 h1 h'.path hle
 have hSB:SB d0 d1 i B:=⟨P.k,by rw [<- h.rep.s]; exact h.S,by rw [<- h.rep.s]; exact hP,h.rep.bk,fun u hu=>by
  obtain⟨X,y,j,b1,b2,b3,_⟩:=h.rep.th u hu
  exact⟨X,y,j,b1,b2,b3⟩⟩
 obtain⟨q1,q2⟩:=azA h0 h1 q i (by have:=h'.el; rw [aJy] at this; omega) hSB;exact⟨by simp [q1],h'.rep.s.trans (q2.trans h.rep.s.symm)⟩
end
section
variable {d d0 d1:D}
theorem abP (j n:Nat) (hj:j<400) (hn:n<=4): ∀(q t:Nat) (acc:List D),t+q=n->acc.length+q<=100000->∃acc':List D,acc'.length=acc.length+q/\L 17004 [enc d,enc d0,enc d1,enc (dL acc),(j:Int),(n:Int),(t:Int)]=L 17002 [enc d,enc d0,enc d1,enc (dL acc'),((j+1:Nat):Int)]
 |0,t,acc,ht,hq=>by
  have c1: ¬(t:Int)<(n:Int):=by omega
  have w:=aZ (n:=j) (by omega);refine⟨acc,rfl,?_⟩;rw [aN,adE];simp only [Vf,zz,c1,w,aK]
 |q+1,t,acc,ht,hq=>by
  have c1:(t:Int)<(n:Int):=by omega
  have c2:(acc.length:Int)<17592186044415:=by omega
  have w:=aZ (n:=t) (by omega);obtain⟨acc',h1,h2⟩:=abP j n hj hn q (t+1) (acc++ [.i (t:Int)]) (by omega) (by rw [aJy]; simp only [aJr,aJt]; omega);refine⟨acc',by rw [h1,aJy]; simp only [aJr,aJt]; omega,?_⟩;rw [aN,adE];simp only [Vf,zz,c1,c2,w,aW,aK];exact h2
theorem abQ (hn:d1.l.length<=4): ∀(q j:Nat) (acc:List D),j+q=400->acc.length+q*d1.l.length<=50000->∃p:List D,p.length<=acc.length+q*d1.l.length/\L 17002 [enc d,enc d0,enc d1,enc (dL acc),(j:Int)]=some [1,enc d,enc d0,enc d1,enc (dL p)]
 |0,j,acc,hj,_=>by
  have c1: ¬(j:Int)<400:=by omega
  refine⟨acc,by omega,?_⟩;rw [aN,adG];simp only [Vh,zz,c1,aG]
 |q+1,j,acc,hj,hb=>by
  have c1:(j:Int)<400:=by omega
  have hm:(q+1)*d1.l.length=q*d1.l.length+d1.l.length:=by rw [aJ5,aKt]
  rw [hm] at hb;obtain⟨acc',h1,h2⟩:=abP (d:=d) (d0:=d0) (d1:=d1) j d1.l.length (by omega) hn d1.l.length 0 acc (by omega) (by omega);obtain⟨p,h3,h4⟩:=abQ hn q (j+1) acc' (by omega) (by omega);refine⟨p,by omega,?_⟩;rw [aJR] at h2;rw [aN,adG];simp only [Vh,zz,c1,aK];rw [h2];exact h4
theorem aqV (hn:d1.l.length<=4): ∀(q j:Nat),j+q=400->(∃p:List D,p.length<=1600/\L 17001 [enc d,enc d0,enc d1,(j:Int)]=some [1,enc d,enc d0,enc d1,enc (dL p)])\/L 17001 [enc d,enc d0,enc d1,(j:Int)]=some [0,enc d,enc d0,enc d1]
 |0,j,hj=>by
  have c1: ¬(j:Int)<400:=by omega
  refine .inr ?_;rw [aN,WX];simp only [Nr,zz,c1,aG]
 |q+1,j,hj=>by
  have c1:(j:Int)<400:=by omega
  have w:=aZ (n:=j) (by omega);by_cases hp:0<d1.l.length
  ·have c2:(0:Int)<(d1.l.length:Int):=by omega
   obtain⟨m,hm⟩ : ∃m,d1.l.length=m+1:=⟨d1.l.length-1,by omega⟩;obtain⟨acc',h1,h2⟩:=abP (d:=d) (d0:=d0) (d1:=d1) j d1.l.length (by omega) hn m 1 [.i 0] (by omega) (by simp only [aJr,aJt]; omega);have hb:q*d1.l.length<=399*4:=aKR (by omega) hn;obtain⟨p,h3,h4⟩:=abQ (d:=d) (d0:=d0) hn q (j+1) acc' (by omega) (by simp only [aJr,aJt] at h1; omega);refine .inl ⟨p,by simp only [aJr,aJt] at h1; omega,?_⟩;have e1:((1:Nat):Int)=1:=rfl;rw [e1] at h2;rw [aN,WX];simp only [Nr,zz,c1,aK];rw [aN,adF];simp only [Vg,zz,c2,wX,aJo,aK];rw [h2];exact h4
  ·have c2: ¬(0:Int)<(d1.l.length:Int):=by omega
   have ih:=aqV hn q (j+1) (by omega)
   have e:L 17001 [enc d,enc d0,enc d1,(j:Int)]=L 17001 [enc d,enc d0,enc d1,((j+1:Nat):Int)]:=by
    conv=>lhs; rw [aN,WX]
    simp only [Nr,zz,c1,aK];rw [aN,adF];simp only [Vg,zz,c2,w,aK]
   rw [e];exact ih
theorem aAc (hn:d1.l.length<=4):(∃p:D,p.l.length<=2000/\L 17000 [enc d,enc d0,enc d1]=some [1,enc d,enc d0,enc d1,enc p])\/L 17000 [enc d,enc d0,enc d1]=some [0,enc d,enc d0,enc d1]:=by
 have one: ∀e:D,e.l.length<=100->e.l≠[]->e=dL e.l->∃p:D,p.l.length<=2000/\L 17002 [enc d,enc d0,enc d1,enc e,0]=some [1,enc d,enc d0,enc d1,enc p]:=fun e he _ h=>by have hb:400*d1.l.length<=400*4:=aKR (aJi _) hn;obtain⟨p,h3,h4⟩:=abQ (d:=d) (d0:=d0) hn 400 0 e.l (by omega) (by omega);rw [aJR,<- h] at h4;exact⟨dL p,by rw [aW]; omega,h4⟩
 have two:=aqV (d:=d) (d0:=d0) hn 400 0 (by omega);rw [aJR] at two
 have two':(∃p:D,p.l.length<=2000/\L 17001 [enc d,enc d0,enc d1,0]=some [1,enc d,enc d0,enc d1,enc p])\/L 17001 [enc d,enc d0,enc d1,0]=some [0,enc d,enc d0,enc d1]:=by
  rcases two with ⟨p,q1,q2⟩|h
  ·exact .inl ⟨dL p,by rw [aW]; omega,q2⟩
  ·exact .inr h
 rw [aN,auM];by_cases xB:(100:Int)<(d.l.length:Int)
 ·have hl:(fJ d (d.l.take 100)).l.length<=100:=by rw [jC,aJB]; omega
  by_cases hz:((fJ d (d.l.take 100)).l.length:Int)=0
  ·simp only [I9,zz,xB,show (100:Int).toNat=100 from rfl,hz,aK];exact two'
  ·have c9:((fJ d (d.l.take 100)).l.length:Int)<17592186044416:=by omega
   have hne:(fJ d (d.l.take 100)).l≠[]:=fun h=>hz (by rw [h]; rfl);simp only [I9,zz,xB,show (100:Int).toNat=100 from rfl,aJd hz,c9,aK];exact .inl (one _ hl hne (by rw [jC] at hne ⊢; rw [zM hne]))
 ·have hl:(fJ d (d.l.take d.l.length)).l.length<=100:=by rw [jC,aJB]; omega
  by_cases hz:((fJ d (d.l.take d.l.length)).l.length:Int)=0
  ·simp only [I9,zz,xB,aJs,aJJ,hz,aK];exact two'
  ·have c9:((fJ d (d.l.take d.l.length)).l.length:Int)<17592186044416:=by omega
   have hne:(fJ d (d.l.take d.l.length)).l≠[]:=fun h=>hz (by rw [h]; rfl);simp only [I9,zz,xB,aJs,aJJ,aJd hz,c9,aK];exact .inl (one _ hl hne (by rw [jC] at hne ⊢; rw [zM hne]))
end
section
variable {d0 d1:D} (h0:Wd (.sl 3) d0) (h1:Wd (.sl 4) d1)
include h0 h1
theorem OH {c d3 d4 p q a b s k cc s' k' cc':D} {e f:Int} (g0:L 100 [enc d0,enc d1]=some [0]) (xB: ¬(100:Int)<(c.l.length:Int)) (h4: ¬(4:Int)<(d1.l.length:Int)) (hd3:L 17000 [enc d3,enc d0,enc d1]=some [1,enc d3,enc d0,enc d1,enc p]\/L 17000 [enc d3,enc d0,enc d1]=some [0,enc d3,enc d0,enc d1]/\p= .i 2)
 (hd4:L 17000 [enc d4,enc d0,enc d1]=some [1,enc d4,enc d0,enc d1,enc q]\/L 17000 [enc d4,enc d0,enc d1]=some [0,enc d4,enc d0,enc d1]/\q= .i 2) (hp:L 3150 [enc d0,enc d1,enc c,enc p]=some [enc a,enc s,enc k,enc cc,e]) (hq:L 3150 [enc d0,enc d1,enc c,enc q]=some [enc b,enc s',enc k',enc cc',f])
 (hF:e=131->f=131->L 2450 [enc a,enc b]=some [1]) (hS:e=0->f=0->∃u v:Int,L 2550 [enc d0,enc d1,enc s,enc k]=some [u]/\L 2550 [enc d0,enc d1,enc s',enc k']=some [v]/\(u≠0->v≠0->L 2450 [enc a,enc b]=some [1]/\L 2050 [enc s,enc (.i 1),enc s',enc (.i 1)]=some [1])) :
 L 3700 [enc d0,enc d1,enc c,enc d3,enc d4]=some [1]:=by
 have o1:fin L (.out [1])=some [1]:=rfl
 have aB9:L 2050 [enc s,enc (.i 1),enc s',enc (.i 1)]=some [1]->L 3650 [enc s,enc k,enc cc,enc s',enc k',enc cc']=some [1]:=fun h=>by rw [aN,aCH];simp only [aoC,zz,h,aC,aG]
 rw [aN,Zb];rcases hd3 with hd3|⟨hd3,rfl⟩
 all_goals rcases hd4 with hd4|⟨hd4,rfl⟩
 case inr.inr=>
  have hh:=hp.symm.trans hq;simp only [aJf,List.cons.injEq,and_true] at hh;obtain⟨q1,q2,q3,q4,rfl⟩:=hh;obtain rfl:=jB q1;obtain rfl:=jB q2;obtain rfl:=jB q3;obtain rfl:=jB q4;by_cases e1:e=131
  ·have:=hF e1 e1;simp only [uY,zz,g0,xB,h4,hd3,hd4,hp,e1,this,aC,aG]
  ·by_cases e0:e=0
   ·obtain⟨u,v,hu,hv,hw⟩:=hS e0 e0;by_cases u0:u=0
    ·simp only [uY,zz,g0,xB,h4,hd3,hd4,hp,aJd e1,e0,hu,u0,Int.reduceEq,aG]
    ·have v0:v≠0:=fun h=>by rw [hu] at hv; simp only [aJf,List.cons.injEq,and_true] at hv; omega
     obtain⟨w1,w2⟩:=hw u0 v0;have w3:=aB9 w2;simp only [uY,zz,g0,xB,h4,hd3,hd4,hp,e0,hu,aJd u0,w1,w3,aC,Int.reduceEq,if_false,aG]
   ·simp only [uY,zz,g0,xB,h4,hd3,hd4,hp,aJd e1,aJd e0,aG]
 all_goals
  by_cases e1:e=131
  ·by_cases f1:f=131
   ·have:=hF e1 f1;simp only [uY,zz,g0,xB,h4,hd3,hd4,hp,hq,e1,f1,this,aC,aG]
   ·simp only [uY,zz,g0,xB,h4,hd3,hd4,hp,hq,e1,aJd f1,aC,Int.reduceEq,if_false,if_true,aG]
  ·by_cases e0:e=0
   ·by_cases f0:f=0
    ·obtain⟨u,v,hu,hv,hw⟩:=hS e0 f0;by_cases u0:u=0
     ·simp only [uY,zz,g0,xB,h4,hd3,hd4,hp,hq,e0,f0,hu,u0,aC,Int.reduceEq,if_false,if_true,aG]
     ·by_cases v0:v=0
      ·simp only [uY,zz,g0,xB,h4,hd3,hd4,hp,hq,e0,f0,hu,hv,aJd u0,v0,aC,Int.reduceEq,if_false,if_true,aG]
      ·obtain⟨w1,w2⟩:=hw u0 v0;have w3:=aB9 w2;simp only [uY,zz,g0,xB,h4,hd3,hd4,hp,hq,e0,f0,hu,hv,aJd u0,aJd v0,w1,w3,aC,Int.reduceEq,if_false,if_true,aG]
    ·simp only [uY,zz,g0,xB,h4,hd3,hd4,hp,hq,e0,aJd f0,aC,Int.reduceEq,if_false,if_true,aG]
   ·simp only [uY,zz,g0,xB,h4,hd3,hd4,hp,hq,aJd e1,aJd e0,aC,Int.reduceEq,if_false,if_true,aG]
end
theorem J5 {s k:D} {n:Nat} (S:Sx s k n) (hn:n<10000):L 2050 [enc s,enc (.i 1),enc s,enc (.i 1)]=some [1]:=
 (⟨S.g,.nil 8,S.n2s,by simp⟩ : Sx s (.i 1) n).same (by omega)
theorem abT {d0 d1 c d3 d4:D} (h0:Wd (.sl 3) d0) (h1:Wd (.sl 4) d1) (hc:Wd (.sl 0) c):L 3700 [enc d0,enc d1,enc c,enc d3,enc d4]=some [1]:=by
 obtain⟨ys,hG,g,rfl,_⟩:=akU (d0:=d0) h1;by_cases g0:g=0
 ·subst g0;by_cases xB:(100:Int)<(c.l.length:Int)
  ·rw [aN,Zb];simp only [uY,zz,hG,xB,aG]
  ·by_cases h4:(4:Int)<(d1.l.length:Int)
   ·rw [aN,Zb];simp only [uY,zz,hG,xB,h4,aG]
   ·have cut: ∀d:D,∃p:D,p.l.length<=2000/\(L 17000 [enc d,enc d0,enc d1]=some [1,enc d,enc d0,enc d1,enc p]\/L 17000 [enc d,enc d0,enc d1]=some [0,enc d,enc d0,enc d1]/\p= .i 2):=fun d=>by
     rcases aAc (d:=d) (d0:=d0) (d1:=d1) (by omega) with ⟨p,q1,q2⟩|h
     ·exact⟨p,q1,.inl q2⟩
     ·exact⟨.i 2,by simp [D.l],.inr ⟨h,rfl⟩⟩
    obtain⟨p,lp,hp⟩:=cut d3;obtain⟨q,lq,hq⟩:=cut d4;rcases aD1 h0 h1 hc with ⟨z,hz,hP,_⟩|⟨hn,hP,_⟩|⟨hn,B0,hP⟩
    ·exact OH h0 h1 hG xB h4 hp hq (hP p) (hP q) (fun _ _=>YP (.i 1) (by simp [D.l])) fun h=>absurd h hz
    ·refine OH h0 h1 hG xB h4 hp hq (hP p) (hP q) (fun h=>by omega) fun _ _=>?_;obtain⟨ys,hC,z,rfl,_,hok⟩:=zQ h0 h1;by_cases hz:z=0
     ·subst hz;have S:=Gx h0 h1 (hok rfl).1;obtain⟨ys,hL,u,rfl,_⟩:=NI S (by omega) h0 h1;exact⟨u,u,hL,hL,fun _ _=> ⟨YP (.i 1) (by simp [D.l]),J5 S (by omega)⟩⟩
     ·have hB:=Jq hC hz;have hk:=TV (c:=c) h0 h1 hz hB;have e:=hP (.i 1);rw [aN,Uz] at e;simp only [Nk,zz,hk,aJd hz,aG,aJf,List.cons.injEq,and_true] at e;omega
    ·obtain⟨es,B,P,lf,er,hO,hL,_⟩:=hP p (by omega);obtain⟨es',B',P',lf',er',hO',hL',_⟩:=hP q (by omega);have ll:=hO.pl.ll;have ll':=hO'.pl.ll
     have full: ∀{er:Int} {P:KS},(er=0\/er=131/\QW d0 d1 P)->er=131->QW d0 d1 P:=fun h he=>by
      rcases h with h|h
      ·omega
      ·exact h.2
     have ev:es.flatten=es'.flatten->L 2450 [enc lf,enc lf']=some [1]:=fun h=>aFb (by rw [hO.l,hO'.l,h]) (by rw [hO.l]; omega);refine OH h0 h1 hG xB h4 hp hq hL hL' (fun e1 f1=>ev ?_) fun _ _=>?_
     ·rcases Nat.le_total es.length es'.length with hle|hle
      ·obtain⟨gs,q1,q2,_⟩:=RP h0 h1 hn (by omega) (by omega) hO.pl hO'.pl hle;rw [q1,q2 (full hO.er e1),aJ1]
      ·obtain⟨gs,q1,q2,_⟩:=RP h0 h1 hn (by omega) (by omega) hO'.pl hO.pl hle;rw [q1,q2 (full hO'.er f1),aJ1]
     ·obtain⟨ys,hu,u,rfl,hbu⟩:=NI hO.pl.S (by omega) h0 h1;obtain⟨ys',hv,v,rfl,hbv⟩:=NI hO'.pl.S (by omega) h0 h1;refine⟨u,v,hu,hv,fun u0 v0=>?_⟩
      have P1:Gf d0 d1 P.s P.k:=by
       rcases hbu with ⟨h,_⟩|⟨_,h⟩
       ·exact absurd h u0
       ·exact h
      have P2:Gf d0 d1 P'.s P'.k:=by
       rcases hbv with ⟨h,_⟩|⟨_,h⟩
       ·exact absurd h v0
       ·exact h
      have key:es.flatten=es'.flatten/\P'.s=P.s:=by
       rcases Nat.le_total es.length es'.length with hle|hle
       ·obtain⟨q1,q2⟩:=Si h0 h1 (by omega) (by omega) hO.pl hO'.pl hle P1;exact⟨q1.symm,q2⟩
       ·obtain⟨q1,q2⟩:=Si h0 h1 (by omega) (by omega) hO'.pl hO.pl hle P2;exact⟨q1,q2.symm⟩
      refine⟨ev key.1,?_⟩;rw [key.2];exact J5 hO.pl.S (by omega)
 ·rw [aN,Zb];simp only [uY,zz,hG,aJd g0,aG]
end Go.As.Try
end
section
namespace Go.Proofs.YtakeldbjhhiinaaGreatDoor.fnKendoStuck
open Go hiding Stat
open Go.As Go.As.Try Go.Proofs Go.RowKit Go.ChangeShapes Go.WideShapes Go.ChangeAt
set_option maxRecDepth 100000
theorem aAx:zK Tryz.prog aqB 8 25=some [.sl 3,.sl 4]:=by kernel_rfl
theorem aAw:zK Tryz.prog aqB 8 26=some [.sl 0]:=by kernel_rfl
theorem aAv:zK Tryz.prog aqB 8 28=some [.sl 0,.sl 0]:=by kernel_rfl
theorem QC {H:Type} {enc:TypeId×Value->H} {W:World} {t:TypeId} {v:Value} {d:DataW H} {p:List MemPlace} {Rx:List CK} (hf:zK Tryz.prog aqB 8 t=some Rx) (h:DataW.Trod enc Tryz.prog W 0 (fun _=>true) true t v d p) (hw:(d.weights Tryz.prog t).all (·<=reachBytes)=true) :
 ∃ds,Rs (roW W) W.heap Rx ds v.cells.toList:=by
 obtain⟨fuel,hx⟩:=h;exact VD azQ fuel t 8 Rx v.cells.toList (d,p) hf hx hw
theorem aGn:3700∈S.nums 3:=by
 have h:S.nums 3= [3700]:=by kernel_rfl
 rw [h];simp
theorem contract (H:Type) (enc:TypeId×Value->H) (W:World) (base:Nat) (args:Array Value) (ds gs:List (DataW H)) (before:List MemPlace)
 (hval: ∀(j:Nat) t v,Tryz.f3.params[j]?=some t->args[j]?=some v->Value.okWide Tryz.prog W .any base t v)
 (hW:DataW.Whole enc Tryz.prog Tryz.f3.params.toList Rows.kendoStuckSpec.vars false W args.toList ds gs before)
 (hsz:(DataW.weightsEach Tryz.prog (Tryz.f3.params.toList++ []) (ds++gs)).all (·<=reachBytes)=true) (hsh:W.ShapedOpen Tryz.prog) :
 Calls Tryz.prog 3 args W fun e W'=> ∃v,e= .returned v/\Rows.kendoStuckSpec.post enc Tryz.prog Tryz.f3 false true false false W args v W':=by
 have hW':=hW;obtain⟨p,q,hA0,hV,rfl,hfz,hnd⟩:=hW;have hA:DataW.TrodAll enc Tryz.prog W 0 (fun _=>true) true Tryz.f3.params.toList args.toList ds p:=hA0;rw [Tryz.params3] at hA hval hsz;obtain⟨v0,vs0,d0,ds0,p0,q0,hargs,rfl,rfl,h0,r0⟩:=trodAll_cons hA;obtain⟨v1,vs1,d1,ds1,p1,q1,rfl,rfl,rfl,h1,r1⟩:=trodAll_cons r0;obtain⟨v2,vs2,d2,ds2,p2,q2,rfl,rfl,rfl,h2,r2⟩:=trodAll_cons r1;obtain⟨rfl,rfl,rfl⟩:=trodAll_nil r2;obtain rfl:args= #[v0,v1,v2]:=by cases args; simp_all
 obtain⟨rfl,rfl⟩:=trodVars_none hV;clear hA0;simp only [aJ1] at hW';have hlt: ∀x∈p0++(p1++p2),x.block<W.heap.size:=fun x hx=>by simpa using hW'.lt x (by simpa using hx)
 have hlt0: ∀x∈p0,x.block<W.heap.size:=fun x hx=>hlt x (aLO _ hx);have hlt1: ∀x∈p1,x.block<W.heap.size:=fun x hx=>hlt x (aLm _ (aLO _ hx));have hlt2: ∀x∈p2,x.block<W.heap.size:=fun x hx=>hlt x (aLm _ (aLm _ hx))
 have hsz':(d0.weights Tryz.prog 25).all (·<=reachBytes)=true/\(d1.weights Tryz.prog 26).all (·<=reachBytes)=true/\(d2.weights Tryz.prog 28).all (·<=reachBytes)=true:=by have:(DataW.weightsEach Tryz.prog [25,26,28] [d0,d1,d2]).all (·<=reachBytes)=true:=hsz;simp only [DataW.weightsEach,aLk,aJh] at this;exact⟨this.1,this.2.1,this.2.2.1⟩
 obtain⟨es0,R0⟩:=QC aAx h0 hsz'.1;obtain⟨es1,R1⟩:=QC aAw h1 hsz'.2.1;obtain⟨es2,R2⟩:=QC aAv h2 hsz'.2.2;obtain⟨cs0,rfl,_⟩:=okWide_struct Tryz.underlying25 (hval 0 25 v0 rfl rfl);have e0:(Value.agg cs0).cells.toList=cs0.toList:=rfl;obtain⟨ad1,len1,cap1,rfl⟩:=okWide_slice Tryz.underlying26 (hval 1 26 v1 rfl rfl);have e1:(Value.slice ad1 len1 cap1).cells.toList= [.slice ad1 len1 cap1]:=rfl;obtain⟨cs2,rfl,_⟩:=VN Tryz.underlying28 (hval 2 28 v2 rfl rfl);have e2:(Value.agg cs2).cells.toList=cs2.toList:=rfl;rw [e0] at R0;rw [e1] at R1;rw [e2] at R2
 match es0,hcs0:cs0.toList,R0 with
 |[x0,x1],[u0,u1],.cons r0_ w0 (.cons r1_ w1 .nil)=>
  obtain rfl:cs0= #[u0,u1]:=by rw [<- Array.toArray_toList (xs:=cs0),hcs0]
  match es1,R1 with
  |[x2],.cons r2_ w2 .nil=>
   match es2,hcs2:cs2.toList,R2 with
   |[x3,x4],[u3,u4],.cons r3_ w3 (.cons r4_ w4 .nil)=>
    obtain rfl:cs2= #[u3,u4]:=by rw [<- Array.toArray_toList (xs:=cs2),hcs2]
    have hL:=abT (d3:=x3) (d4:=x4) w0 w1 w2;refine (awR (g:=3) (j:=3700) (e:=asK.ent) aGn (by kernel_rfl) rfl rfl hL hsh (vals:=[.agg [u0,u1].toArray,.slice ad1 len1 cap1,.agg [u3,u4].toArray]) (fl:=[u0,u1,.slice ad1 len1 cap1,u3,u4]) (.agg _ [u0,u1] rfl (.one _ _ (.agg _ [u3,u4] rfl .nil))) ⟨_,_,_,_,rfl,rfl,Du r0_,_,_,_,_,rfl,rfl,Du r1_,_,_,_,_,rfl,rfl,Du r2_,_,_,_,_,rfl,rfl,Du r3_,_,_,_,_,rfl,rfl,Du r4_,rfl,rfl⟩).mono fun e W' ⟨he,hb⟩=>?_;subst he;exact⟨_,rfl,⟨_,_,_,[],_,[],hW',trodAll_mk1 (shut_bool Tryz.underlying4 _),trodAll_mk3 (Below.trod laidOut (by kernel_rfl) (of_decide_eq_true (by kernel_rfl)) h0 hb hlt0) (Below.trod laidOut (by kernel_rfl) (of_decide_eq_true (by kernel_rfl)) h1 hb hlt1) (Below.trod laidOut (by kernel_rfl) (of_decide_eq_true (by kernel_rfl)) h2 hb hlt2),rfl,hb.frame _,fun h=>by cases h⟩⟩
abbrev aeE:Array Value:=#[.agg #[.slice none 0 0,.slice none 0 0],.slice none 0 0,.agg #[.slice none 0 0,.slice none 0 0]]
theorem laid_met (os:Os):laidMet Tryz.prog Rows.kendoStuckRow.laid ((laidWorld os).forCall (fun _ _=>0) ⟨#[],aeE,[]⟩).memory:=
 laidMet_of_run' 8 (by kernel_rfl) (by kernel_rfl)
theorem reads (os:Os) {H:Type} (enc:TypeId×Value->H): ∃places,DataW.whole enc Tryz.prog ((laidWorld os).forCall (fun _ _=>0) ⟨#[],aeE,[]⟩).memory Tryz.f3.params.toList [] false aeE.toList 8=some ([.agg [.nil,.nil],.nil,.agg [.nil,.nil]],[],places):=
 ⟨[],by kernel_rfl⟩
set_option maxHeartbeats 400000 in
theorem lifted (os:Os) (started:os.Started) (H:Type) (enc:TypeId×Value->H) (F:Stop.Interp) :
 ReturnsInHanded {} Tryz.checked os 3 .any ((OpenSpec.ofChange Rows.kendoStuckSpec).preRow enc Tryz.prog Tryz.f3 Rows.kendoStuckRow.domain false Rows.kendoStuckRow.laid) (((OpenSpec.ofChange Rows.kendoStuckSpec).at F).post enc Tryz.prog Tryz.f3 false true false false):=by
 obtain⟨places,hx⟩:=reads os enc
 refine returnsInHanded_of_row (C:=Tryz.checked) (s:=OpenSpec.ofChange Rows.kendoStuckSpec) Try.own started (by kernel_rfl) Tryz.func3
  (witness_row_at (enc:=enc) (C:=Tryz.checked) false (laidWorld os) aeE rfl (by kernel_rfl) (by kernel_rfl) (by kernel_rfl)
   (OpenSpec.preRow_of_cond 8 hx (by kernel_rfl) (fun k hk=>by cases hk) (by kernel_rfl) (laid_met os))) ?_
 intro W base args ds gs before hval hW _ _ hsz _ hsh _;exact contract H enc W base args ds gs before hval hW hsz hsh
theorem kM {a b:Bool} (h1:a=true) (h2:b=true):(a&&b)=true:=by rw [h1,h2]; rfl
theorem closed:joinedFacts Tryz.pinned.checked.prog 3 Tryz.f3 (OpenSpec.ofChange Rows.kendoStuckSpec).bare Rows.kendoStuckRow=true:=(kM (kM (kM (kM (kM (kM (kM (kM (kM (kM (kM (kM (kM (kM (kM (kM (kM (kM (kM (kM (kM (kM (kM (kM (kM (kM (kM (kM (kM (kM (kM (by kernel_rfl) (by kernel_rfl)) (by kernel_rfl)) (by kernel_rfl)) (by kernel_rfl)) (by kernel_rfl)) (by kernel_rfl)) (by kernel_rfl)) (by kernel_rfl)) (by kernel_rfl)) (by kernel_rfl)) (by kernel_rfl)) (by kernel_rfl)) (by kernel_rfl)) (by kernel_rfl)) (by kernel_rfl)) (by kernel_rfl)) (by kernel_rfl)) (by kernel_rfl)) (by kernel_rfl)) (by kernel_rfl)) (by kernel_rfl)) (by kernel_rfl)) (by kernel_rfl)) (by kernel_rfl)) (by kernel_rfl)) (by kernel_rfl)) (by kernel_rfl)) (by kernel_rfl)) (by kernel_rfl)) (by kernel_rfl)) (by kernel_rfl))
theorem said:Rows.KendoStuckSaid:=
 OpenClaim.holds_of_cond 3 Tryz.f3 rfl rfl rfl rfl rfl rfl rfl ⟨rfl,rfl,rfl,rfl,rfl⟩ rfl rfl rfl rfl rfl (by kernel_rfl) Tryz.func3 closed
  (of_decide_eq_true (by kernel_rfl)) (by unfold Func.isWrapper; first |(rw [aJe (by decide +kernel)]; kernel_rfl)|(rw [aJd (by decide +kernel)]; exact⟨rfl,rfl⟩))
  (fun os started H enc _ F=>by rw [OpenClaim.pre_eq_preRow]; exact lifted os started H enc F)
theorem plain (f:FuncId) (fn:Func) (hf:Tryz.pinned.checked.prog.funcNamed "amanuensis/amanuensislaw18.KendoStuck" = some f) (hfn:Tryz.pinned.checked.prog.funcs[f]?=some fn) :
 false=Tryz.pinned.checked.prog.looks []/\∀(j:Nat) t,fn.params[j]?=some t->Tryz.pinned.checked.prog.wantsStandIn t=false:=by
 obtain rfl:f=3:=Option.some.inj ((show Tryz.prog.funcNamed "amanuensis/amanuensislaw18.KendoStuck" = some 3 by kernel_rfl).symm.trans hf) |>.symm;obtain rfl:fn=Tryz.f3:=(Option.some.inj (Tryz.func3.symm.trans hfn)).symm;refine⟨by kernel_rfl,fun j t ht=>?_⟩;rw [Tryz.params3] at ht;have hm:=aLg ht;simp only [List.mem_toArray,aJq,aJ4,or_false] at hm;rcases hm with rfl|rfl|rfl
 all_goals exact (by kernel_rfl:Tryz.prog.wantsStandIn _=false)
theorem card:Rows.KendoStuckCardSaid:=
 Claim7.holds_tied_plain_at .later [] _ _ _ _ said (fun _ h=>by cases h) (by kernel_rfl) (fun _ h=>by cases h) kendoStuck_row_tie rfl ⟨rfl,rfl⟩ (by kernel_rfl) rfl plain (by kernel_rfl)
end Go.Proofs.YtakeldbjhhiinaaGreatDoor.fnKendoStuck
end

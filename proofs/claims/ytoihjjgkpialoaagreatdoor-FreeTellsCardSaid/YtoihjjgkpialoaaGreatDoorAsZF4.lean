import Derived.Test.YtoihjjgkpialoaaGreatDoorAsZF3
set_option linter.unusedSectionVars false
set_option linter.unusedVariables false
set_option linter.unusedSimpArgs false
section
namespace Go.As.Try
open Go hiding Stat Spec shape
open Go.As
set_option maxRecDepth 100000
def kq (t:Int):List D->Nat->Int
 |[],_=> -1
 |x::l,i=>if x.n=t then (i:Int) else kq t l (i+1)
def place (r:D) (t:Int):Int:=kq t r.l 0
def wo (t:Int) (l:List D):List D:=l.filter fun x=>decide (x.n≠t)
theorem zf (t:Int): ∀(l:List D) (i:Nat),(kq t l i= -1/\∀x∈l,x.n≠t)\/∃(k:Nat) (h:k<l.length),kq t l i=((i+k:Nat):Int)/\(l[k]).n=t/\∀x∈l.take k,x.n≠t
 |[],_=> .inl ⟨rfl,fun x h=>absurd h ad⟩
 |x::l,i=>by
  unfold kq;by_cases Y:x.n=t
  ·grind
  ·rw [af Y];rcases zf t l (i+1) with ⟨U,Z⟩|⟨k,hk,U,Z,h3⟩
   ·grind
   ·refine .inr ⟨k+1,by simp; omega,by rw [U]; congr 1; omega,by simpa using Z,fun y hy=>?_⟩
    grind
theorem lB (r:D) (t:Int):(place r t= -1/\∀x∈r.l,x.n≠t)\/∃(k:Nat) (h:k<r.l.length),place r t=(k:Int)/\(r.l[k]).n=t/\∀x∈r.l.take k,x.n≠t:=by have:=zf t r.l 0;simp only [aK] at this;exact this
theorem fI (r:D) (t:Int): -1<=place r t/\place r t<(r.l.length:Int):=by
 grind [lB]
theorem xN {t:Int} {l:List D} (h: ∀x∈l,x.n≠t):wo t l=l:=List.filter_eq_self.2 fun x Y=>by simpa using h x Y
theorem u7 {r:D} {t:Int} {i:Nat} (h:i<r.l.length):kq t (r.l.drop i) i=if (r.at (i:Int)).n=t then (i:Int) else kq t (r.l.drop (i+1)) (i+1):=by rw [aC h,bG h];rfl
theorem R? (r:D) (t:Int) (hl:r.l.length<=140737488351232): ∀(j i:Nat),i+j=r.l.length->L 851 [enc r,t,(r.l.length:Int),(i:Int)]=some [kq t (r.l.drop i) i]
 |0,i,hi=>by simp_all [bI,akN,adp,zz,fin,kq]
 |j+1,i,hi=>by
  have c1:(i:Int)<(r.l.length:Int):=J
  have c2: ¬((i:Int)<0):=J
  have w:=bF (n:=i) J;have ih:=R? r t hl j (i+1) J;rw [u7 J,bI,akN];by_cases he:(r.at (i:Int)).n=t
  ·simp only [adp,zz,c1,c2,he,fin]
  ·have Ar: ¬t=(r.at (i:Int)).n:=fun h=>he h.symm;simp only [adp,zz,c1,c2,af he,af Ar,w,fin,ih]
theorem ef (r:D) (t:Int) (hl:r.l.length<=140737488351232):L 850 [enc r,t]=some [place r t]:=by have h:=R? r t hl r.l.length 0 J;rw [bI,aoD];simp only [amw,zz,fin];exact h
theorem ek (r:D) (t:Int) (hl:r.l.length<=140737488351232):L 900 [enc r,t]=some [if place r t<0 then 0 else 1]:=by rw [bI,aoC];simp only [amv,zz,ef r t hl];split<;>rfl
theorem A8 (r:D) (t:Int) (hl:r.l.length<=140737488351232) (y2 y3 y4 y5 y6 y7 y8 y9 mb mO nB:Int): ∀(j i:Nat),i+j=r.l.length->
 L 12051 [enc r,t,y2,y3,y4,y5,y6,y7,y8,y9,mb,mO,nB,(r.l.length:Int),(i:Int)]=some [0,enc r,t,y2,y3,y4,y5,y6,y7,y8,y9,mb,mO,nB,kq t (r.l.drop i) i]
 |0,i,hi=>by simp_all [bI,Tz,K3,zz,fin,kq]
 |j+1,i,hi=>by
  have c1:(i:Int)<(r.l.length:Int):=J
  have c2: ¬((i:Int)<0):=J
  have w:=bF (n:=i) J;have ih:=A8 r t hl y2 y3 y4 y5 y6 y7 y8 y9 mb mO nB j (i+1) J;rw [u7 J,bI,Tz];by_cases he:(r.at (i:Int)).n=t
  ·simp only [K3,zz,c1,c2,he,fin]
  ·simp only [K3,zz,c1,c2,af he,w,fin,ih]
theorem ad9 (r:D) (t:Int) (hl:r.l.length<=140737488351232) (y2 y3 y4 y5 y6 y7 y8 y9 mb mO nB:Int):L 12050 [enc r,t,y2,y3,y4,y5,y6,y7,y8,y9,mb,mO,nB]=some [0,enc r,t,y2,y3,y4,y5,y6,y7,y8,y9,mb,mO,nB,place r t]:=by have h:=A8 r t hl y2 y3 y4 y5 y6 y7 y8 y9 mb mO nB r.l.length 0 J;rw [bI,ab9];simp only [t_,zz,fin];exact h
theorem A7 (r:D) (t:Int) (hl:r.l.length<=140737488351232) (y2 y3 y4 y5 y6 y7 y8 y9 mb mO nB:Int): ∀(j i:Nat),i+j=r.l.length->
 L 12151 [enc r,t,y2,y3,y4,y5,y6,y7,y8,y9,mb,mO,nB,(r.l.length:Int),(i:Int)]=some [0,enc r,t,y2,y3,y4,y5,y6,y7,y8,y9,mb,mO,nB,kq t (r.l.drop i) i]
 |0,i,hi=>by simp_all [bI,Tx,K1,zz,fin,kq]
 |j+1,i,hi=>by
  have c1:(i:Int)<(r.l.length:Int):=J
  have c2: ¬((i:Int)<0):=J
  have w:=bF (n:=i) J;have ih:=A7 r t hl y2 y3 y4 y5 y6 y7 y8 y9 mb mO nB j (i+1) J;rw [u7 J,bI,Tx];by_cases he:(r.at (i:Int)).n=t
  ·simp only [K1,zz,c1,c2,he,fin]
  ·simp only [K1,zz,c1,c2,af he,w,fin,ih]
theorem ad8 (r:D) (t:Int) (hl:r.l.length<=140737488351232) (y2 y3 y4 y5 y6 y7 y8 y9 mb mO nB:Int):L 12150 [enc r,t,y2,y3,y4,y5,y6,y7,y8,y9,mb,mO,nB]=some [0,enc r,t,y2,y3,y4,y5,y6,y7,y8,y9,mb,mO,nB,place r t]:=by have h:=A7 r t hl y2 y3 y4 y5 y6 y7 y8 y9 mb mO nB r.l.length 0 J;rw [bI,ab8];simp only [s?,zz,fin];exact h
theorem xM {t:Int} {l:List D} {j:Nat} (h:j<l.length):wo t (l.take (j+1))=if (l[j]).n=t then wo t (l.take j) else wo t (l.take j)++ [l[j]]:=by
 unfold wo;rw [asR h,List.filter_append]
 grind
theorem KJ (t:Int) (l:List D):(wo t l).length<=l.length:=List.length_filter_le _ _
theorem vg (r0:D) (t:Int) (l0:List D) (hl:l0.length<=140737488351232) (hn: ∀x∈l0,x= .i x.n) (y2 y3 y4 y5 y6 y7 y8 y9 mb mO nB:Int): ∀(m i j:Nat) (r:D),r.l.length=l0.length->i<j->j+m=l0.length->r.l.drop j=l0.drop j->r.l.take i=wo t (l0.take j)->
 ∃(n:Nat) (r':D),n<l0.length/\r'.l.length=l0.length/\r'.l.take n=wo t l0/\L 12001 [enc r0,t,y2,y3,y4,y5,y6,y7,y8,y9,mb,mO,nB,enc r,(i:Int),(j:Int)]=some [1,enc r0,t,y2,y3,y4,y5,y6,y7,y8,y9,mb,mO,nB,(n:Int),enc r',(l0.length:Int)]
 |0,i,j,r,hr,U,Z,h3,h4=>by
  have c1: ¬(j:Int)<(l0.length:Int):=J
  have c2: ¬((i:Int)<0):=J
  have c3: ¬((l0.length:Int)<(i:Int)):=J
  have c4: ¬((l0.length:Int)-(i:Int)<0):=J
  have c5:(i:Int)+((l0.length:Int)-(i:Int))=(l0.length:Int):=J
  refine⟨i,dL (r.l.take i++List.replicate (r.l.length-i) (.i 0)),J,by rw [bz]; simp only [bc,a8,asa]; omega,?_,?_⟩
  ·grind [bz]
  ·rw [bI,ME];simp only [K4,zz,c1,c2,c3,c4,c5,aW,fin,hr]
 |m+1,i,j,r,hr,U,Z,h3,h4=>by
  have c1:(j:Int)<(l0.length:Int):=J
  have c2: ¬((j:Int)<0):=J
  have w:=bF (n:=j) J;have hj:j<r.l.length:=J
  have X_:j<l0.length:=J
  have Y:r.at (j:Int)=l0[j]:=by
   rw [bG hj];rw [aC hj,aC X_] at h3
   grind
  have h3':r.l.drop (j+1)=l0.drop (j+1):=by
   rw [aC hj,aC X_] at h3
   grind
  by_cases he:(r.at (j:Int)).n=t
  ·obtain⟨n,r',q1,q2,q3,ih⟩:=vg r0 t l0 hl hn y2 y3 y4 y5 y6 y7 y8 y9 mb mO nB m i (j+1) r hr J J h3' (by rw [xM X_,<- Y,ag he,h4]);refine⟨n,r',q1,q2,q3,?_⟩;rw [bI,ME];simp only [K4,zz,c1,c2,he,w,hr,fin,ih]
  ·have c3: ¬((i:Int)<0):=J
   have c4:(i:Int)<(l0.length:Int):=J
   have w2:=bF (n:=i) J;have hs:dE r.l (i:Int) (.i (r.at (j:Int)).n)=r.l.set i l0[j]:=by rw [pA,Y,<- hn _ (aq X_)]
   obtain⟨n,r',q1,q2,q3,ih⟩:=vg r0 t l0 hl hn y2 y3 y4 y5 y6 y7 y8 y9 mb mO nB m (i+1) (j+1) (dL (dE r.l (i:Int) (.i (r.at (j:Int)).n))) (by rw [bz,ej,hr]) J J
    (by rw [bz,hs,as3 J,h3'])
    (by rw [bz,hs,asR (by rw [asK]; omega),as2 (ax _),atu,h4,xM X_,<- Y,af he])
   refine⟨n,r',q1,q2,q3,?_⟩;rw [bI,ME];simp only [K4,zz,c1,c2,c3,c4,af he,w,w2,hr,fin,ih]
theorem aeL (r:D) (t:Int) (hl:r.l.length<=140737488351232) (hn: ∀x∈r.l,x= .i x.n):(wo t r.l=r.l/\∀y2 y3 y4 y5 y6 y7 y8 y9 mb mO nB:Int,L 12000 [enc r,t,y2,y3,y4,y5,y6,y7,y8,y9,mb,mO,nB]=some [0,enc r,t,y2,y3,y4,y5,y6,y7,y8,y9,mb,mO,nB])\/
 ∀y2 y3 y4 y5 y6 y7 y8 y9 mb mO nB:Int,∃(n:Nat) (r':D),n<r.l.length/\r'.l.length=r.l.length/\r'.l.take n=wo t r.l/\L 12000 [enc r,t,y2,y3,y4,y5,y6,y7,y8,y9,mb,mO,nB]=some [1,enc r,t,y2,y3,y4,y5,y6,y7,y8,y9,mb,mO,nB,(n:Int),enc r',(r.l.length:Int)]:=by
 have h:=ad9 r t hl;rcases lB r t with ⟨hp,vR⟩|⟨i,hi,hp,gz,vR⟩
 ·refine .inl ⟨xN vR,fun y2 y3 y4 y5 y6 y7 y8 y9 mb mO nB=>?_⟩;have h':=h y2 y3 y4 y5 y6 y7 y8 y9 mb mO nB;clear h;rw [hp] at h';rw [bI,TA,Rk,fh,ag,fh,ag,fh,ag]
  ·simp only [kP,List.map,dz,bT,bP,bQ,Nat.reduceLT,fin]
  ·simp only [Qm3,im,dz,gX,iy,List.map,bT,Nat.reduceLT,bP,bQ];rw [h'];simp only [bP,bQ,arJ,ay,if_true]
  ·simp only [im,dz,gX,iy,List.map,bT,Nat.reduceLT,bP,bQ];rw [h'];simp only [bP,bQ,arJ,ay,if_true]
  ·simp only [im,dz,gX,iy,List.map,bT,Nat.reduceLT,bP,bQ]
   grind
 ·refine .inr fun y2 y3 y4 y5 y6 y7 y8 y9 mb mO nB=>?_;have h':=h y2 y3 y4 y5 y6 y7 y8 y9 mb mO nB;clear h;rw [hp] at h';have w:=bF (n:=i) J;have h0:r.l.take i=wo t (r.l.take (i+1)):=by rw [xM hi,ag gz,xN vR]
  obtain⟨n,r',q1,q2,q3,ih⟩:=vg r t r.l hl hn y2 y3 y4 y5 y6 y7 y8 y9 mb mO nB (r.l.length-(i+1)) i (i+1) r rfl J J rfl h0;refine⟨n,r',q1,q2,q3,?_⟩;rw [bI,TA,Rk,fh,ag,fh,ag,fh,af]
  ·simp only [mc,List.map,Qm3,dz,gX,xt,den_add,bT,bP,bQ,Nat.reduceLT];rw [h'];simp only [bP,bQ,ay,w,fin];rw [ih]
  ·simp only [Qm3,im,dz,gX,iy,List.map,bT,Nat.reduceLT,bP,bQ];rw [h'];simp only [bP,bQ,arJ,ay,if_true];omega
  ·simp only [im,dz,gX,iy,List.map,bT,Nat.reduceLT,bP,bQ];rw [h'];simp only [bP,bQ,arJ,ay,if_true]
  ·simp only [im,dz,gX,iy,List.map,bT,Nat.reduceLT,bP,bQ];rw [h'];simp only [bP,bQ,arJ,ay,if_true]
theorem vf (r0:D) (t:Int) (l0:List D) (hl:l0.length<=140737488351232) (hn: ∀x∈l0,x= .i x.n) (y2 y3 y4 y5 y6 y7 y8 y9 mb mO nB:Int): ∀(m i j:Nat) (r:D),r.l.length=l0.length->i<j->j+m=l0.length->r.l.drop j=l0.drop j->r.l.take i=wo t (l0.take j)->
 ∃(n:Nat) (r':D),n<l0.length/\r'.l.length=l0.length/\r'.l.take n=wo t l0/\L 12101 [enc r0,t,y2,y3,y4,y5,y6,y7,y8,y9,mb,mO,nB,enc r,(i:Int),(j:Int)]=some [1,enc r0,t,y2,y3,y4,y5,y6,y7,y8,y9,mb,mO,nB,(n:Int),enc r',(l0.length:Int)]
 |0,i,j,r,hr,U,Z,h3,h4=>by
  have c1: ¬(j:Int)<(l0.length:Int):=J
  have c2: ¬((i:Int)<0):=J
  have c3: ¬((l0.length:Int)<(i:Int)):=J
  have c4: ¬((l0.length:Int)-(i:Int)<0):=J
  have c5:(i:Int)+((l0.length:Int)-(i:Int))=(l0.length:Int):=J
  refine⟨i,dL (r.l.take i++List.replicate (r.l.length-i) (.i 0)),J,by rw [bz]; simp only [bc,a8,asa]; omega,?_,?_⟩
  ·grind [bz]
  ·rw [bI,MD];simp only [K2,zz,c1,c2,c3,c4,c5,aW,fin,hr]
 |m+1,i,j,r,hr,U,Z,h3,h4=>by
  have c1:(j:Int)<(l0.length:Int):=J
  have c2: ¬((j:Int)<0):=J
  have w:=bF (n:=j) J;have hj:j<r.l.length:=J
  have X_:j<l0.length:=J
  have Y:r.at (j:Int)=l0[j]:=by
   rw [bG hj];rw [aC hj,aC X_] at h3
   grind
  have h3':r.l.drop (j+1)=l0.drop (j+1):=by
   rw [aC hj,aC X_] at h3
   grind
  by_cases he:(r.at (j:Int)).n=t
  ·obtain⟨n,r',q1,q2,q3,ih⟩:=vf r0 t l0 hl hn y2 y3 y4 y5 y6 y7 y8 y9 mb mO nB m i (j+1) r hr J J h3' (by rw [xM X_,<- Y,ag he,h4]);refine⟨n,r',q1,q2,q3,?_⟩;rw [bI,MD];simp only [K2,zz,c1,c2,he,w,hr,fin,ih]
  ·have c3: ¬((i:Int)<0):=J
   have c4:(i:Int)<(l0.length:Int):=J
   have w2:=bF (n:=i) J;have hs:dE r.l (i:Int) (.i (r.at (j:Int)).n)=r.l.set i l0[j]:=by rw [pA,Y,<- hn _ (aq X_)]
   obtain⟨n,r',q1,q2,q3,ih⟩:=vf r0 t l0 hl hn y2 y3 y4 y5 y6 y7 y8 y9 mb mO nB m (i+1) (j+1) (dL (dE r.l (i:Int) (.i (r.at (j:Int)).n))) (by rw [bz,ej,hr]) J J
    (by rw [bz,hs,as3 J,h3'])
    (by rw [bz,hs,asR (by rw [asK]; omega),as2 (ax _),atu,h4,xM X_,<- Y,af he])
   refine⟨n,r',q1,q2,q3,?_⟩;rw [bI,MD];simp only [K2,zz,c1,c2,c3,c4,af he,w,w2,hr,fin,ih]
theorem aeK (r:D) (t:Int) (hl:r.l.length<=140737488351232) (hn: ∀x∈r.l,x= .i x.n):(wo t r.l=r.l/\∀y2 y3 y4 y5 y6 y7 y8 y9 mb mO nB:Int,L 12100 [enc r,t,y2,y3,y4,y5,y6,y7,y8,y9,mb,mO,nB]=some [0,enc r,t,y2,y3,y4,y5,y6,y7,y8,y9,mb,mO,nB])\/
 ∀y2 y3 y4 y5 y6 y7 y8 y9 mb mO nB:Int,∃(n:Nat) (r':D),n<r.l.length/\r'.l.length=r.l.length/\r'.l.take n=wo t r.l/\L 12100 [enc r,t,y2,y3,y4,y5,y6,y7,y8,y9,mb,mO,nB]=some [1,enc r,t,y2,y3,y4,y5,y6,y7,y8,y9,mb,mO,nB,(n:Int),enc r',(r.l.length:Int)]:=by
 have h:=ad8 r t hl;rcases lB r t with ⟨hp,vR⟩|⟨i,hi,hp,gz,vR⟩
 ·refine .inl ⟨xN vR,fun y2 y3 y4 y5 y6 y7 y8 y9 mb mO nB=>?_⟩;have h':=h y2 y3 y4 y5 y6 y7 y8 y9 mb mO nB;clear h;rw [hp] at h';rw [bI,Ty,Rj,fh,ag,fh,ag,fh,ag]
  ·simp only [kP,List.map,dz,bT,bP,bQ,Nat.reduceLT,fin]
  ·simp only [Qnf,im,dz,gX,iy,List.map,bT,Nat.reduceLT,bP,bQ];rw [h'];simp only [bP,bQ,arJ,ay,if_true]
  ·simp only [im,dz,gX,iy,List.map,bT,Nat.reduceLT,bP,bQ];rw [h'];simp only [bP,bQ,arJ,ay,if_true]
  ·simp only [im,dz,gX,iy,List.map,bT,Nat.reduceLT,bP,bQ]
   grind
 ·refine .inr fun y2 y3 y4 y5 y6 y7 y8 y9 mb mO nB=>?_;have h':=h y2 y3 y4 y5 y6 y7 y8 y9 mb mO nB;clear h;rw [hp] at h';have w:=bF (n:=i) J;have h0:r.l.take i=wo t (r.l.take (i+1)):=by rw [xM hi,ag gz,xN vR]
  obtain⟨n,r',q1,q2,q3,ih⟩:=vf r t r.l hl hn y2 y3 y4 y5 y6 y7 y8 y9 mb mO nB (r.l.length-(i+1)) i (i+1) r rfl J J rfl h0;refine⟨n,r',q1,q2,q3,?_⟩;rw [bI,Ty,Rj,fh,ag,fh,ag,fh,af]
  ·simp only [mc,List.map,Qnf,dz,gX,xt,den_add,bT,bP,bQ,Nat.reduceLT];rw [h'];simp only [bP,bQ,ay,w,fin];rw [ih]
  ·simp only [Qnf,im,dz,gX,iy,List.map,bT,Nat.reduceLT,bP,bQ];rw [h'];simp only [bP,bQ,arJ,ay,if_true];omega
  ·simp only [im,dz,gX,iy,List.map,bT,Nat.reduceLT,bP,bQ];rw [h'];simp only [bP,bQ,arJ,ay,if_true]
  ·simp only [im,dz,gX,iy,List.map,bT,Nat.reduceLT,bP,bQ];rw [h'];simp only [bP,bQ,arJ,ay,if_true]
theorem aeJ (r:D) (t:Int): ∀y2 y3 y4 y5 y6 y7 y8 y9 mb mO nB:Int,L 12200 [enc r,t,y2,y3,y4,y5,y6,y7,y8,y9,mb,mO,nB]=some [0,enc r,t,y2,y3,y4,y5,y6,y7,y8,y9,mb,mO,nB]:=by
 intro y2 y3 y4 y5 y6 y7 y8 y9 mb mO nB
 have h:L 12250 [enc r,t,y2,y3,y4,y5,y6,y7,y8,y9,mb,mO,nB]=some [0,enc r,t,y2,y3,y4,y5,y6,y7,y8,y9,mb,mO,nB]:=by rw [bI,ab6];simp_all [r?,zz,fin,bI,ab5,r!]
 have h':=h;clear h;rw [bI,ab7,s_,fh,ag,fh,ag]
 ·simp_all [kP,dz,bT,bP,bQ,fin]
 ·simp only [im,dz,gX,iy,List.map,bT,Nat.reduceLT,bP,bQ]
  grind [bP,bQ]
 ·simp only [im,dz,gX,iy,List.map,bT,Nat.reduceLT,bP,bQ]
  grind
theorem aeI (r:D) (t:Int): ∀y2 y3 y4 y5 y6 y7 y8 y9 mb mO nB:Int,L 12300 [enc r,t,y2,y3,y4,y5,y6,y7,y8,y9,mb,mO,nB]=some [0,enc r,t,y2,y3,y4,y5,y6,y7,y8,y9,mb,mO,nB]:=by
 intro y2 y3 y4 y5 y6 y7 y8 y9 mb mO nB
 have h:L 12350 [enc r,t,y2,y3,y4,y5,y6,y7,y8,y9,mb,mO,nB]=some [0,enc r,t,y2,y3,y4,y5,y6,y7,y8,y9,mb,mO,nB]:=by rw [bI,ab3];simp_all [q?,zz,fin,bI,ab2,q!]
 have h':=h;clear h;rw [bI,ab4,r_,fh,ag,fh,ag]
 ·simp_all [kP,dz,bT,bP,bQ,fin]
 ·simp only [im,dz,gX,iy,List.map,bT,Nat.reduceLT,bP,bQ]
  grind [bP,bQ]
 ·simp only [im,dz,gX,iy,List.map,bT,Nat.reduceLT,bP,bQ]
  grind
abbrev Mx (d0:D) (obj:Int):Int:=((d0.at obj).V 2).n
abbrev Mo (d0 s:D) (obj:Int):Int:=((s.at ((d0.at obj).V 2).n).V 0).n
inductive Act where
 |oe
 |yb
 |res (o c dn g:Int) (r v:D) (m:Option Int) (a oc:Int)
def act (M mo th op arg tries o c dn g:Int) (r v:D):Act:=
 if op=1 then (if o=th then .yb else if place r th<0 then (if o<0 then .res th c dn g r v none 0 2 else .oe) else .yb)
 else if op=2 then (if o=th then .res (-1) c dn g r v none 0 2 else .yb)
 else if op=8 then (if o=th then .res (-1) c dn g r v none 0 2 else .yb)
 else if op=3 then (if o<0 then .res th c dn g r v none 1 2 else .res o c dn g r v none 0 2)
 else if op=4 then (if o<0 then .res th c dn g r v none 1 2 else if tries<arg then .oe else .res o c dn g r v none 0 2)
 else if op=5 then (if o=th then .yb else if place r th<0 then (if o<0 then .res o c dn g (dL (r.l++ [.i th])) v none 0 2 else .oe) else .yb)
 else if op=6 then (if place r th<0 then .yb else .res o c dn g (fZ (.i 2) (r.l.take (place r th).toNat++r.l.drop ((place r th).toNat+1))) v none 0 2)
 else if op=7 then (if o=th then .yb else if place r th<0 then (if (r.l.length:Int)=0 then (if o<0 then .res th c dn g r v none 0 2 else .oe) else .oe) else .yb)
 else if op=9 then (if 0<c then .res o (IntKind.i64.wrap (c-1)) dn g r v none 0 2 else .oe)
 else if op=11 then (if 0<c then .res o (IntKind.i64.wrap (c-1)) dn g r v none 1 2 else .res o c dn g r v none 0 2)
 else if op=10 then (if c<M then .res o (IntKind.i64.wrap (c+1)) dn g r v none 0 2 else .yb)
 else if op=17 then (if arg<IntKind.i64.wrap (0-c) then .yb else if IntKind.i64.wrap (1099511627776-c)<arg then .yb else .res o (IntKind.i64.wrap (c+arg)) dn g r v none (IntKind.i64.wrap (c+arg)) 2)
 else if op=18 then (if 0<c then .res o (IntKind.i64.wrap (c-1)) dn g r v none (IntKind.i64.wrap (c-1)) 2 else .yb)
 else if op=19 then (if c=0 then .res o c dn g r v none 0 2 else .oe)
 else if op=22 then .res o c dn g r v none c 2
 else if op=23 then .res o arg dn g r v none arg 2
 else if op=20 then (if (v.l.length:Int)<M then .res o c dn g r (dL (v.l++ [.i arg])) none arg 2 else .oe)
 else if op=21 then (if (v.l.length:Int)=0 then .oe else .res o c dn g r (fZ v (v.l.drop 1)) none (v.at 0).n 2)
 else if op=12 then (if mo=th then .res o c dn g (dL (wo th r.l++ [.i th])) v (some (-1)) 0 3 else .yb)
 else if op=13 then (if (r.l.length:Int)=0 then .res o c dn g r v none 0 2 else .res o c dn g (fZ r (r.l.drop 1)) v none (IntKind.i64.wrap ((r.at 0).n+1)) 2)
 else if op=14 then .res o c dn g (.i 1) v none (r.l.length:Int) 2
 else if op=24 then (if place r th<0 then (if mo<0 then .res o c dn g r v (some th) 0 2 else .oe) else .oe)
 else if op=15 then (if g<4611686018427387904 then (if IntKind.i64.wrap (c+1)=M then .res o 0 dn (IntKind.i64.wrap (g+1)) r v none g 3 else .res o (IntKind.i64.wrap (c+1)) dn g r v none g 3) else .yb)
 else if op=25 then (if arg<g then .res o c dn g r v none arg 2 else .oe)
 else if op=16 then (if dn=0 then (if o=th then .yb else if o<0 then .res th c dn g r v none 1 2 else .oe) else .res o c dn g r v none 0 2)
 else (if o=th then .res (-1) c 1 g r v none 0 2 else .yb)
def Gf (s:D) (obj M:Int):Act->D
 | .res o c dn g r v m _ _=>dL (dE (match m with |none=>s.l|some q=>dE s.l M (dL (dE (s.at M).l 0 (.i q)))) obj (dL [.i o,.i c,.i (if dn=0 then 0 else 1),.i g,r,v]))
 |_=>s
def Gr (s:D) (th op obj M:Int):Act->List Int
 | .oe=>[enc s,0,0,0,0,0,0]
 | .yb=>[enc s,th,27,obj,IntKind.i64.wrap op,0,2]
 | .res o c dn g r v m a oc=>[enc (Gf s obj M (.res o c dn g r v m a oc)),th,op,obj,a,0,oc]
structure TH (d0 d1 s:D) (th op obj arg tries o c dn g:Int) (r v:D):Prop where
 eM:L 9000 [obj,enc s]=some [mI r v,obj,enc s,o,c,dn,g,enc r,enc v]
 iC:L 550 [enc s]=some [enc s]
 hR:L 350 [enc d0,enc d1,enc s]=some [1]
 pF:0<=th
 kf:th<(d1.l.length:Int)
 iQ:0<=obj
 gL:obj<(s.l.length:Int)
 hlen:s.l.length=d0.l.length
 hk:L 600 [op]=some [((d0.at obj).V 0).n]
 hr:(r.l.length:Int)<17592186044415
 hv:(v.l.length:Int)<17592186044415
 hn: ∀x∈r.l,x= .i x.n
 hM:op=12\/op=24->0<=((d0.at obj).V 2).n/\((d0.at obj).V 2).n<(s.l.length:Int)/\((d0.at obj).V 2).n≠obj
theorem TH.hb {d0 d1 s:D} {th op obj arg tries o c dn g:Int} {r v:D} (H:TH d0 d1 s th op obj arg tries o c dn g r v):r.l.length<=140737488351232:=by have:=H.hr; omega
noncomputable abbrev dU (d0 d1 s:D) (th op obj arg tries:Int):Nat->Int:=dq L (low [enc d0,enc d1,enc s,th,op,obj,arg,tries])
abbrev cc (k:Nat):W:=rr 9000 [.dP 5,.dP 2] k
abbrev RR:W:=nm (ce 2 (el (.dP 0) (.dP 5)))
abbrev kK:W:=rr 850 [cc 7,.dP 3] 0
abbrev WX (q:W):W:=.op .set (cc 2) (cn (mk RR) (.op .set (el (cc 2) RR) (cn (.fk (.i 0)) q)))
abbrev tj:List W:=[cc 7,.dP 3,.dP 5,RR,WX (.fk (.i (-1))),.dP 4,.dP 6,.dP 7,cc 3,cc 4,cc 5,cc 6,cc 8]
abbrev thg (o c d g r v:W):W:=cn (mk (.dP 5)) (cn o (cn c (cn d (cn g (cn r (cn v (.fk (.i 0))))))))
abbrev sP:T Lf:=ou [rr 550 [.dP 2] 0,.dP 3,.lit 27,.dP 5,wr (.dP 4),.lit 0,.lit 2]
abbrev yC:T Lf:=ou [rr 550 [.dP 2] 0,.lit 0,.lit 0,.lit 0,.lit 0,.lit 0,.lit 0]
abbrev kE (z o c d g r v a:W) (oc:Int):T Lf:=ou [.op .set z (thg o c d g r v),.dP 3,.dP 4,.dP 5,a,.lit 0,.lit oc]
theorem kN {r:D} (h:r.l= []) (t:Int):place r t= -1:=by unfold place; rw [h]; rfl
theorem fo {r:D} (h:r.l= []) (t:Int):wo t r.l= []:=by rw [h]; rfl
theorem aqS {r v:D} (h:0<r.l.length) (h':0<v.l.length):mI r v=3:=by simp [mI,h,h']
theorem aqR {r v:D} (h:0<r.l.length) (h':v.l= []):mI r v=4:=by simp [mI,h,h']
theorem aqQ {r v:D} (h:r.l= []) (h':0<v.l.length):mI r v=5:=by simp [mI,h,h']
theorem aqP {r v:D} (h:r.l= []) (h':v.l= []):mI r v=6:=by simp [mI,h,h']
abbrev Gl (d0 s:D) (th op obj arg tries o c dn g:Int) (r v:D):RS:=.out (Gr s th op obj (Mx d0 obj) (act (Mx d0 obj) (Mo d0 s obj) th op arg tries o c dn g r v))
theorem dS (s:D) (th op obj M:Int):Gr s th op obj M .oe= [enc s,0,0,0,0,0,0]:=rfl
theorem dR (s:D) (th op obj M:Int):Gr s th op obj M .yb= [enc s,th,27,obj,IntKind.i64.wrap op,0,2]:=rfl
theorem dh (s:D) (th op obj M o c dn g:Int) (r v:D) (a oc:Int):Gr s th op obj M (.res o c dn g r v none a oc)= [enc (dL (dE s.l obj (dL [.i o,.i c,.i (if dn=0 then 0 else 1),.i g,r,v]))),th,op,obj,a,0,oc]:=rfl
theorem dg (s:D) (th op obj M o c dn g:Int) (r v:D) (q a oc:Int):Gr s th op obj M (.res o c dn g r v (some q) a oc)= [enc (dL (dE (dE s.l M (dL (dE (s.at M).l 0 (.i q)))) obj (dL [.i o,.i c,.i (if dn=0 then 0 else 1),.i g,r,v]))),th,op,obj,a,0,oc]:=rfl
section
variable {s:D} {th op obj M:Int}
theorem fy {c:Prop} [Decidable c] {a b:Act}:RS.out (Gr s th op obj M (if c then a else b))=if c then RS.out (Gr s th op obj M a) else RS.out (Gr s th op obj M b):=by split<;>rfl
end
theorem vU {p:Prop} [Decidable p]:((if p then (0:Int) else 1)=0)=p:=by by_cases h:p<;>simp [h]
theorem gu (l:List D):l= []\/0<l.length:=by cases l<;>simp
theorem z2 {ρ:Nat->Int} {a b c d:List SB} (h:zY ρ a/\zW ρ b) (h':zY ρ c/\zW ρ d):zY ρ (a++c)/\zW ρ (b++d):=⟨Zi h.1 h'.1,Zl h.2 h'.2⟩
abbrev bt:W:=.op .bit (mk (cc 5)) (.lit 0)
abbrev kW:W:=wr (.add kK (.lit 1))
abbrev kL:W:=.sub (ln (cc 7)) kW
abbrev kD:W:=.add kK kL
abbrev kC:W:=.op .cat (.op .cat (.op .take (cc 7) kK) (.op .drop (.op .take (cc 7) (.add kW kL)) kW)) (.op .drop (cc 7) kD)
abbrev kF:W:=.op .fill kC (cn (mk kD) (.fk (.i 0)))
section
variable {d0 d1 s r v:D} {th op obj arg tries o c dn g:Int}
abbrev YG:List SB:=[.eq (a0 9000 [.dP 5,.dP 2]) (.lit 1),.eq (a0 350 [.dP 0,.dP 1,.dP 2]) (.lit 1),.eq (a0 600 [.dP 4]) (.lit 1),.eq (a0 550 [.dP 2]) (.lit 1),.eq (a0 900 [cc 7,.dP 3]) (.lit 1),.eq (a0 850 [cc 7,.dP 3]) (.lit 1),.lt (.dP 3) (ln (.dP 1)),.lt (.dP 5) (ln (.dP 0)),.lt (.dP 5) (ln (cc 2)),.eq (rr 600 [.dP 4] 0) (nm (ce 0 (el (.dP 0) (.dP 5)))),.lt (ln (cc 7)) (.lit 17592186044415),.lt (ln (cc 8)) (.lit 17592186044415)]
abbrev NG:List SB:=[.lt (.dP 5) (.lit 0),.eq (rr 350 [.dP 0,.dP 1,.dP 2] 0) (.lit 0),.lt (.dP 3) (.lit 0),.lt (ln (cc 7)) (ln (cc 7)),.lt (ln (cc 8)) (.add (.lit 1) (.sub (ln (cc 8)) (.lit 1))),.lt (ln (cc 7)) (.add (.lit 1) (.sub (ln (cc 7)) (.lit 1)))]
theorem fG (H:TH d0 d1 s th op obj arg tries o c dn g r v):zY (dU d0 d1 s th op obj arg tries) YG/\zW (dU d0 d1 s th op obj arg tries) NG:=by have hb:=H.hb;have U:=H.pF; have Z:=H.kf; have h3:=H.iQ; have h4:=H.gL; have h5:=H.hlen; have h6:=H.hr; have h7:=H.hv; have hp:=fI r th;simp only [zz,H.eM,H.iC,H.hR,H.hk,ek r th hb,ef r th hb]<;>omega
abbrev YA3:List SB:=[.eq (cc 0) (.lit 3)]
abbrev NA3:List SB:=[.eq (cc 0) (.lit 0),.eq (cc 0) (.lit 1),.eq (cc 0) (.lit 2),.eq (cc 0) (.lit 4),.eq (cc 0) (.lit 5),.eq (cc 0) (.lit 6),.lt (.sub (ln (cc 7)) (.lit 1)) (.lit 0),.lt (.sub (ln (cc 8)) (.lit 1)) (.lit 0)]
theorem fA3 (H:TH d0 d1 s th op obj arg tries o c dn g r v) (hr:0<r.l.length) (hv:0<v.l.length):zY (dU d0 d1 s th op obj arg tries) YA3/\zW (dU d0 d1 s th op obj arg tries) NA3:=by have hb:=H.hb;have U:=H.pF; have Z:=H.kf; have h3:=H.iQ; have h4:=H.gL; have h5:=H.hlen; have h6:=H.hr; have h7:=H.hv; have hp:=fI r th;simp only [zz,H.eM,H.iC,H.hR,H.hk,ek r th hb,ef r th hb,aqS hr hv]<;>omega
abbrev YA4:List SB:=[.eq (cc 0) (.lit 4)]
abbrev NA4:List SB:=[.eq (cc 0) (.lit 0),.eq (cc 0) (.lit 1),.eq (cc 0) (.lit 2),.eq (cc 0) (.lit 3),.eq (cc 0) (.lit 5),.eq (cc 0) (.lit 6),.lt (.sub (ln (cc 7)) (.lit 1)) (.lit 0)]
theorem fA4 (H:TH d0 d1 s th op obj arg tries o c dn g r v) (hr:0<r.l.length) (hv:v.l= []):zY (dU d0 d1 s th op obj arg tries) YA4/\zW (dU d0 d1 s th op obj arg tries) NA4:=by have hb:=H.hb;have U:=H.pF; have Z:=H.kf; have h3:=H.iQ; have h4:=H.gL; have h5:=H.hlen; have h6:=H.hr; have h7:=H.hv; have hp:=fI r th;simp only [zz,H.eM,H.iC,H.hR,H.hk,ek r th hb,ef r th hb,aqR hr hv]<;>omega
abbrev YA5:List SB:=[.eq (cc 0) (.lit 5),.lt kK (.lit 0)]
abbrev NA5:List SB:=[.eq (cc 0) (.lit 0),.eq (cc 0) (.lit 1),.eq (cc 0) (.lit 2),.eq (cc 0) (.lit 3),.eq (cc 0) (.lit 4),.eq (cc 0) (.lit 6),.lt (.sub (ln (cc 8)) (.lit 1)) (.lit 0)]
theorem fA5 (H:TH d0 d1 s th op obj arg tries o c dn g r v) (hr:r.l= []) (hv:0<v.l.length):zY (dU d0 d1 s th op obj arg tries) YA5/\zW (dU d0 d1 s th op obj arg tries) NA5:=by have hb:=H.hb;have U:=H.pF; have Z:=H.kf; have h3:=H.iQ; have h4:=H.gL; have h5:=H.hlen; have h6:=H.hr; have h7:=H.hv; have hp:=fI r th;simp only [zz,H.eM,H.iC,H.hR,H.hk,ek r th hb,ef r th hb,aqQ hr hv,kN hr]<;>omega
abbrev YA6:List SB:=[.eq (cc 0) (.lit 6),.lt kK (.lit 0)]
abbrev NA6:List SB:=[.eq (cc 0) (.lit 0),.eq (cc 0) (.lit 1),.eq (cc 0) (.lit 2),.eq (cc 0) (.lit 3),.eq (cc 0) (.lit 4),.eq (cc 0) (.lit 5)]
theorem fA6 (H:TH d0 d1 s th op obj arg tries o c dn g r v) (hr:r.l= []) (hv:v.l= []):zY (dU d0 d1 s th op obj arg tries) YA6/\zW (dU d0 d1 s th op obj arg tries) NA6:=by have hb:=H.hb;have U:=H.pF; have Z:=H.kf; have h3:=H.iQ; have h4:=H.gL; have h5:=H.hlen; have h6:=H.hr; have h7:=H.hv; have hp:=fI r th;simp only [zz,H.eM,H.iC,H.hR,H.hk,ek r th hb,ef r th hb,aqP hr hv,kN hr]<;>omega
abbrev YM:List SB:=[.lt RR (ln (cc 2))]
abbrev NM:List SB:=[.lt RR (.lit 0),.eq RR (.dP 5)]
theorem fM (H:TH d0 d1 s th op obj arg tries o c dn g r v) (ho:op=12\/op=24):zY (dU d0 d1 s th op obj arg tries) YM/\zW (dU d0 d1 s th op obj arg tries) NM:=by have hb:=H.hb;have U:=H.pF; have Z:=H.kf; have h3:=H.iQ; have h4:=H.gL; have h5:=H.hlen; have h6:=H.hr; have h7:=H.hv; have hp:=fI r th; have hm:=H.hM ho;simp only [zz,H.eM,H.iC,H.hR,H.hk,ek r th hb,ef r th hb]<;>omega
abbrev YK0:List SB:=[.lt kK (.lit 0)]
abbrev NK0:List SB:=[]
theorem fK0 (H:TH d0 d1 s th op obj arg tries o c dn g r v) (hk:place r th<0):zY (dU d0 d1 s th op obj arg tries) YK0/\zW (dU d0 d1 s th op obj arg tries) NK0:=by have hb:=H.hb;have U:=H.pF; have Z:=H.kf; have h3:=H.iQ; have h4:=H.gL; have h5:=H.hlen; have h6:=H.hr; have h7:=H.hv; have hp:=fI r th;simp only [zz,H.eM,H.iC,H.hR,H.hk,ek r th hb,ef r th hb]<;>omega
abbrev YK1:List SB:=[.lt kD (ln (cc 7)),.eq (.add kD (.sub (ln (cc 7)) kD)) (ln kC)]
abbrev NK1:List SB:=[.lt kK (.lit 0),.lt kW kK,.lt (ln (cc 7)) kW,.eq kK kW,.lt (ln (cc 7)) kK,.lt kW (.lit 0),.lt kL (.lit 0),.lt (ln (cc 7)) (.add kW kL),.lt (ln (cc 7)) kD,.lt kD (.lit 0),.lt (ln kC) (ln (cc 7)),.lt (.sub (ln (cc 7)) kD) (.lit 0),.lt (ln kF) kD]
theorem fK1 (H:TH d0 d1 s th op obj arg tries o c dn g r v) (hk: ¬place r th<0):zY (dU d0 d1 s th op obj arg tries) YK1/\zW (dU d0 d1 s th op obj arg tries) NK1:=by have hb:=H.hb;have U:=H.pF; have Z:=H.kf; have h3:=H.iQ; have h4:=H.gL; have h5:=H.hlen; have h6:=H.hr; have h7:=H.hv; have hp:=fI r th; have hw:IntKind.i64.wrap (place r th+1)=place r th+1:=fW J J;simp only [zz,H.eM,H.iC,H.hR,H.hk,ek r th hb,ef r th hb,bB,bz,bc,a8,bo,asa,hw]<;>omega
abbrev dA (d0 s r v:D) (th op obj arg tries o c dn g:Int):List Int:=[enc r,th,obj,Mx d0 obj,enc (dL (dE s.l (Mx d0 obj) (dL (dE (s.at (Mx d0 obj)).l 0 (.i (-1)))))),op,arg,tries,o,c,dn,g,enc v]
abbrev aqX:List SB:=[.eq (a0 12000 tj) (.lit 1),.eq (rr 12000 tj 0) (.lit 0)]
abbrev aq3:List SB:=[]
theorem aqL (H:TH d0 d1 s th op obj arg tries o c dn g r v) (V:L 12000 (dA d0 s r v th op obj arg tries o c dn g)=some (0::(dA d0 s r v th op obj arg tries o c dn g))):zY (dU d0 d1 s th op obj arg tries) aqX/\zW (dU d0 d1 s th op obj arg tries) aq3:=by have hb:=H.hb;have U:=H.pF; have Z:=H.kf; have h3:=H.iQ; have h4:=H.gL; have h5:=H.hlen; have h6:=H.hr; have h7:=H.hv; have hp:=fI r th;simp only [zz,H.eM,H.iC,H.hR,H.hk,ek r th hb,ef r th hb,V]<;>omega
abbrev aqY:List SB:=[.eq (a0 12000 tj) (.lit 1),.eq (rr 12000 tj 0) (.lit 1)]
abbrev aq4:List SB:=[.eq (rr 12000 tj 0) (.lit 0),.lt (rr 12000 tj 14) (.lit 0),.lt (ln (rr 12000 tj 15)) (.add (rr 12000 tj 14) (.lit 1)),.lt (.add (rr 12000 tj 14) (.lit 1)) (.lit 0),.lt (ln (.op .cat (.op .cat (.op .take (rr 12000 tj 15) (rr 12000 tj 14)) (.op .snoc (.fk (.i 0)) (mk (.dP 3)))) (.op .drop (rr 12000 tj 15) (.add (rr 12000 tj 14) (.lit 1))))) (.add (rr 12000 tj 14) (.lit 1))]
theorem aqM (H:TH d0 d1 s th op obj arg tries o c dn g r v) {n:Nat} {r1:D} (hn:n<r.l.length) (hl:r1.l.length=r.l.length) (V:L 12000 (dA d0 s r v th op obj arg tries o c dn g)=some (1::((dA d0 s r v th op obj arg tries o c dn g)++ [(n:Int),enc r1,(r.l.length:Int)]))):zY (dU d0 d1 s th op obj arg tries) aqY/\zW (dU d0 d1 s th op obj arg tries) aq4:=by have hb:=H.hb;have U:=H.pF; have Z:=H.kf; have h3:=H.iQ; have h4:=H.gL; have h5:=H.hlen; have h6:=H.hr; have h7:=H.hv; have hp:=fI r th;simp only [zz,H.eM,H.iC,H.hR,H.hk,ek r th hb,ef r th hb,V,bB,bz,lG,aM,au,bc,a8,bo,aT,bj]<;>omega
abbrev aqV:List SB:=[.eq (a0 12100 tj) (.lit 1),.eq (rr 12100 tj 0) (.lit 0)]
abbrev aq1:List SB:=[]
theorem aqJ (H:TH d0 d1 s th op obj arg tries o c dn g r v) (V:L 12100 (dA d0 s r v th op obj arg tries o c dn g)=some (0::(dA d0 s r v th op obj arg tries o c dn g))):zY (dU d0 d1 s th op obj arg tries) aqV/\zW (dU d0 d1 s th op obj arg tries) aq1:=by have hb:=H.hb;have U:=H.pF; have Z:=H.kf; have h3:=H.iQ; have h4:=H.gL; have h5:=H.hlen; have h6:=H.hr; have h7:=H.hv; have hp:=fI r th;simp only [zz,H.eM,H.iC,H.hR,H.hk,ek r th hb,ef r th hb,V]<;>omega
abbrev aqW:List SB:=[.eq (a0 12100 tj) (.lit 1),.eq (rr 12100 tj 0) (.lit 1)]
abbrev aq2:List SB:=[.eq (rr 12100 tj 0) (.lit 0),.lt (rr 12100 tj 14) (.lit 0),.lt (ln (rr 12100 tj 15)) (.add (rr 12100 tj 14) (.lit 1)),.lt (.add (rr 12100 tj 14) (.lit 1)) (.lit 0),.lt (ln (.op .cat (.op .cat (.op .take (rr 12100 tj 15) (rr 12100 tj 14)) (.op .snoc (.fk (.i 0)) (mk (.dP 3)))) (.op .drop (rr 12100 tj 15) (.add (rr 12100 tj 14) (.lit 1))))) (.add (rr 12100 tj 14) (.lit 1))]
theorem aqK (H:TH d0 d1 s th op obj arg tries o c dn g r v) {n:Nat} {r1:D} (hn:n<r.l.length) (hl:r1.l.length=r.l.length) (V:L 12100 (dA d0 s r v th op obj arg tries o c dn g)=some (1::((dA d0 s r v th op obj arg tries o c dn g)++ [(n:Int),enc r1,(r.l.length:Int)]))):zY (dU d0 d1 s th op obj arg tries) aqW/\zW (dU d0 d1 s th op obj arg tries) aq2:=by have hb:=H.hb;have U:=H.pF; have Z:=H.kf; have h3:=H.iQ; have h4:=H.gL; have h5:=H.hlen; have h6:=H.hr; have h7:=H.hv; have hp:=fI r th;simp only [zz,H.eM,H.iC,H.hR,H.hk,ek r th hb,ef r th hb,V,bB,bz,lG,aM,au,bc,a8,bo,aT,bj]<;>omega
abbrev aqU:List SB:=[.eq (a0 12200 tj) (.lit 1),.eq (rr 12200 tj 0) (.lit 0)]
abbrev aq0:List SB:=[]
theorem aqI (H:TH d0 d1 s th op obj arg tries o c dn g r v) (V:L 12200 (dA d0 s r v th op obj arg tries o c dn g)=some (0::(dA d0 s r v th op obj arg tries o c dn g))):zY (dU d0 d1 s th op obj arg tries) aqU/\zW (dU d0 d1 s th op obj arg tries) aq0:=by have hb:=H.hb;have U:=H.pF; have Z:=H.kf; have h3:=H.iQ; have h4:=H.gL; have h5:=H.hlen; have h6:=H.hr; have h7:=H.hv; have hp:=fI r th;simp only [zz,H.eM,H.iC,H.hR,H.hk,ek r th hb,ef r th hb,V]<;>omega
abbrev aqT:List SB:=[.eq (a0 12300 tj) (.lit 1),.eq (rr 12300 tj 0) (.lit 0)]
abbrev aqZ:List SB:=[]
theorem aqH (H:TH d0 d1 s th op obj arg tries o c dn g r v) (V:L 12300 (dA d0 s r v th op obj arg tries o c dn g)=some (0::(dA d0 s r v th op obj arg tries o c dn g))):zY (dU d0 d1 s th op obj arg tries) aqT/\zW (dU d0 d1 s th op obj arg tries) aqZ:=by have hb:=H.hb;have U:=H.pF; have Z:=H.kf; have h3:=H.iQ; have h4:=H.gL; have h5:=H.hlen; have h6:=H.hr; have h7:=H.hv; have hp:=fI r th;simp only [zz,H.eM,H.iC,H.hR,H.hk,ek r th hb,ef r th hb,V]<;>omega
end
theorem HI (l m:List D):fZ (dL l) m=fZ (.i 2) m:=by
 cases m with
 |cons a m=>rfl
 |nil=>cases l<;>rfl
theorem Uj (d:D) (h:0<d.l.length):fZ (fZ d (d.l.take (1+((d.l.length:Int)-1)).toNat)) ((fZ d (d.l.take (1+((d.l.length:Int)-1)).toNat)).l.drop (1:Int).toNat)=fZ d (d.l.drop 1):=by rw [Ae (fun e=>by rw [e]; rfl),bB,ar1 J];rfl
theorem ak5 (l:List D) (k:Nat) (hk:k<l.length) (R B:List D):((l.take k++(l.take l.length).drop (k+1)++B).take (l.length-1)++R).take (l.length-1)=l.take k++l.drop (k+1)\/B.length=0:=by
 grind
section
variable {d0 d1 s r v:D} {th op obj arg tries o c dn g:Int}
abbrev zt0:T Lf:=(sp (.eq (cc 3) (.dP 3)) sP (sp (.eq (rr 900 [cc 7,.dP 3] 0) (.lit 0)) (sp (.lt (cc 3) (.lit 0)) (kE (cc 2) (mk (.dP 3)) (mk (cc 4)) bt (mk (cc 6)) (cc 7) (cc 8) (.lit 0) 2) yC) sP))
theorem sm0 (H:TH d0 d1 s th 1 obj arg tries o c dn g r v):eI (dU d0 d1 s th 1 obj arg tries) zt0=Gl d0 s th 1 obj arg tries o c dn g r v:=by
 have hb:=H.hb;simp only [zz,H.eM,H.iC,H.hR,H.hk,ek r th hb,ef r th hb,bR,vU,fy,dS,dR,dh,dg,dL,act,Int.reduceEq,Gl]<;>(repeat' split)<;>first |rfl|(exfalso; omega)
abbrev zt1:T Lf:=(sp (.eq (cc 3) (.dP 3)) (kE (cc 2) (.fk (.i (-1))) (mk (cc 4)) bt (mk (cc 6)) (cc 7) (cc 8) (.lit 0) 2) sP)
theorem sm1 (H:TH d0 d1 s th 2 obj arg tries o c dn g r v):eI (dU d0 d1 s th 2 obj arg tries) zt1=Gl d0 s th 2 obj arg tries o c dn g r v:=by
 have hb:=H.hb;simp only [zz,H.eM,H.iC,H.hR,H.hk,ek r th hb,ef r th hb,bR,vU,fy,dS,dR,dh,dg,dL,act,Int.reduceEq,Gl]<;>(repeat' split)<;>first |rfl|(exfalso; omega)
theorem sm2 (H:TH d0 d1 s th 8 obj arg tries o c dn g r v):eI (dU d0 d1 s th 8 obj arg tries) zt1=Gl d0 s th 8 obj arg tries o c dn g r v:=by
 have hb:=H.hb;simp only [zz,H.eM,H.iC,H.hR,H.hk,ek r th hb,ef r th hb,bR,vU,fy,dS,dR,dh,dg,dL,act,Int.reduceEq,Gl]<;>(repeat' split)<;>first |rfl|(exfalso; omega)
abbrev zt2:T Lf:=(sp (.lt (cc 3) (.lit 0)) (kE (cc 2) (mk (.dP 3)) (mk (cc 4)) bt (mk (cc 6)) (cc 7) (cc 8) (.lit 1) 2) (kE (cc 2) (mk (cc 3)) (mk (cc 4)) bt (mk (cc 6)) (cc 7) (cc 8) (.lit 0) 2))
theorem sm3 (H:TH d0 d1 s th 3 obj arg tries o c dn g r v):eI (dU d0 d1 s th 3 obj arg tries) zt2=Gl d0 s th 3 obj arg tries o c dn g r v:=by
 have hb:=H.hb;simp only [zz,H.eM,H.iC,H.hR,H.hk,ek r th hb,ef r th hb,bR,vU,fy,dS,dR,dh,dg,dL,act,Int.reduceEq,Gl]<;>(repeat' split)<;>first |rfl|(exfalso; omega)
abbrev zt3:T Lf:=(sp (.lt (cc 3) (.lit 0)) (kE (cc 2) (mk (.dP 3)) (mk (cc 4)) bt (mk (cc 6)) (cc 7) (cc 8) (.lit 1) 2) (sp (.lt (.dP 7) (.dP 6)) yC (kE (cc 2) (mk (cc 3)) (mk (cc 4)) bt (mk (cc 6)) (cc 7) (cc 8) (.lit 0) 2)))
theorem sm4 (H:TH d0 d1 s th 4 obj arg tries o c dn g r v):eI (dU d0 d1 s th 4 obj arg tries) zt3=Gl d0 s th 4 obj arg tries o c dn g r v:=by
 have hb:=H.hb;simp only [zz,H.eM,H.iC,H.hR,H.hk,ek r th hb,ef r th hb,bR,vU,fy,dS,dR,dh,dg,dL,act,Int.reduceEq,Gl]<;>(repeat' split)<;>first |rfl|(exfalso; omega)
abbrev zt4:T Lf:=(sp (.eq (cc 3) (.dP 3)) sP (sp (.eq (rr 900 [cc 7,.dP 3] 0) (.lit 0)) (sp (.lt (cc 3) (.lit 0)) (kE (cc 2) (mk (cc 3)) (mk (cc 4)) bt (mk (cc 6)) (.op .snoc (cc 7) (mk (.dP 3))) (cc 8) (.lit 0) 2) yC) sP))
theorem sm5 (H:TH d0 d1 s th 5 obj arg tries o c dn g r v) (hr:0<r.l.length):eI (dU d0 d1 s th 5 obj arg tries) zt4=Gl d0 s th 5 obj arg tries o c dn g r v:=by
 have hb:=H.hb;simp only [zz,H.eM,H.iC,H.hR,H.hk,ek r th hb,ef r th hb,lG,au,bR,vU,fy,dS,dR,dh,dg,dL,act,Int.reduceEq,Gl]<;>(repeat' split)<;>first |rfl|(exfalso; omega)
abbrev zt5:T Lf:=sP
theorem sm6 (H:TH d0 d1 s th 6 obj arg tries o c dn g r v) (hk:place r th<0):eI (dU d0 d1 s th 6 obj arg tries) zt5=Gl d0 s th 6 obj arg tries o c dn g r v:=by
 have hb:=H.hb;simp only [zz,H.eM,H.iC,H.hR,H.hk,ek r th hb,ef r th hb,hk,bR,vU,fy,dS,dR,dh,dg,dL,act,Int.reduceEq,Gl]<;>(repeat' split)<;>first |rfl|(exfalso; omega)
abbrev zt6:T Lf:=(kE (cc 2) (mk (cc 3)) (mk (cc 4)) bt (mk (cc 6)) (.op .take kF kD) (cc 8) (.lit 0) 2)
theorem sm7 (H:TH d0 d1 s th 6 obj arg tries o c dn g r v) (hr:0<r.l.length) (hk: ¬place r th<0):eI (dU d0 d1 s th 6 obj arg tries) zt6=Gl d0 s th 6 obj arg tries o c dn g r v:=by
 have hb:=H.hb;rcases lB r th with ⟨hp,_⟩|⟨k,yG,hp,_⟩
 ·grind
 have hw:IntKind.i64.wrap ((k:Int)+1)=(k:Int)+1:=fW J J;have e1:((k:Int)+1+((r.l.length:Int)-((k:Int)+1))).toNat=r.l.length:=J
 have e2:((k:Int)+((r.l.length:Int)-((k:Int)+1))).toNat=r.l.length-1:=J
 have e3:((k:Int)+1).toNat=k+1:=J
 have h0: ¬((k:Int)<0):=J
 have V:=fun R=>(ak5 r.l k yG R (r.l.drop (r.l.length-1))).resolve_right (by rw [bo]; omega);simp only [zz,H.eM,H.iC,H.hR,H.hk,ek r th hb,ef r th hb,hp,hw,e1,e2,e3,h0,bB,bz,aW,V,HI,bR,vU,fy,dS,dR,dh,dg,dL,act,Int.reduceEq,Gl]<;>(repeat' split)<;>first |rfl|(exfalso; omega)
abbrev zt7:T Lf:=(sp (.eq (cc 3) (.dP 3)) sP (sp (.eq (rr 900 [cc 7,.dP 3] 0) (.lit 0)) (sp (.eq (ln (cc 7)) (.lit 0)) (sp (.lt (cc 3) (.lit 0)) (kE (cc 2) (mk (.dP 3)) (mk (cc 4)) bt (mk (cc 6)) (cc 7) (cc 8) (.lit 0) 2) yC) yC) sP))
theorem sm8 (H:TH d0 d1 s th 7 obj arg tries o c dn g r v) (hr:0<r.l.length):eI (dU d0 d1 s th 7 obj arg tries) zt7=Gl d0 s th 7 obj arg tries o c dn g r v:=by
 have hb:=H.hb;simp only [zz,H.eM,H.iC,H.hR,H.hk,ek r th hb,ef r th hb,bR,vU,fy,dS,dR,dh,dg,dL,act,Int.reduceEq,Gl]<;>(repeat' split)<;>first |rfl|(exfalso; omega)
abbrev zt8:T Lf:=(sp (.lt (.lit 0) (cc 4)) (kE (cc 2) (mk (cc 3)) (mk (wr (.sub (cc 4) (.lit 1)))) bt (mk (cc 6)) (cc 7) (cc 8) (.lit 0) 2) yC)
theorem sm9 (H:TH d0 d1 s th 9 obj arg tries o c dn g r v):eI (dU d0 d1 s th 9 obj arg tries) zt8=Gl d0 s th 9 obj arg tries o c dn g r v:=by
 have hb:=H.hb;simp only [zz,H.eM,H.iC,H.hR,H.hk,ek r th hb,ef r th hb,bR,vU,fy,dS,dR,dh,dg,dL,act,Int.reduceEq,Gl]<;>(repeat' split)<;>first |rfl|(exfalso; omega)
abbrev zt9:T Lf:=(sp (.lt (.lit 0) (cc 4)) (kE (cc 2) (mk (cc 3)) (mk (wr (.sub (cc 4) (.lit 1)))) bt (mk (cc 6)) (cc 7) (cc 8) (.lit 1) 2) (kE (cc 2) (mk (cc 3)) (mk (cc 4)) bt (mk (cc 6)) (cc 7) (cc 8) (.lit 0) 2))
theorem apx (H:TH d0 d1 s th 11 obj arg tries o c dn g r v):eI (dU d0 d1 s th 11 obj arg tries) zt9=Gl d0 s th 11 obj arg tries o c dn g r v:=by
 have hb:=H.hb;simp only [zz,H.eM,H.iC,H.hR,H.hk,ek r th hb,ef r th hb,bR,vU,fy,dS,dR,dh,dg,dL,act,Int.reduceEq,Gl]<;>(repeat' split)<;>first |rfl|(exfalso; omega)
abbrev alA:T Lf:=(sp (.lt (cc 4) RR) (kE (cc 2) (mk (cc 3)) (mk (wr (.add (cc 4) (.lit 1)))) bt (mk (cc 6)) (cc 7) (cc 8) (.lit 0) 2) sP)
theorem apw (H:TH d0 d1 s th 10 obj arg tries o c dn g r v):eI (dU d0 d1 s th 10 obj arg tries) alA=Gl d0 s th 10 obj arg tries o c dn g r v:=by
 have hb:=H.hb;simp only [zz,H.eM,H.iC,H.hR,H.hk,ek r th hb,ef r th hb,bR,vU,fy,dS,dR,dh,dg,dL,act,Int.reduceEq,Gl]<;>(repeat' split)<;>first |rfl|(exfalso; omega)
abbrev alz:T Lf:=(sp (.lt (.dP 6) (wr (.sub (.lit 0) (cc 4)))) sP (sp (.lt (wr (.sub (.lit 1099511627776) (cc 4))) (.dP 6)) sP (kE (cc 2) (mk (cc 3)) (mk (wr (.add (cc 4) (.dP 6)))) bt (mk (cc 6)) (cc 7) (cc 8) (wr (.add (cc 4) (.dP 6))) 2)))
theorem apv (H:TH d0 d1 s th 17 obj arg tries o c dn g r v):eI (dU d0 d1 s th 17 obj arg tries) alz=Gl d0 s th 17 obj arg tries o c dn g r v:=by
 have hb:=H.hb;simp only [zz,H.eM,H.iC,H.hR,H.hk,ek r th hb,ef r th hb,bR,vU,fy,dS,dR,dh,dg,dL,act,Int.reduceEq,Gl]<;>(repeat' split)<;>first |rfl|(exfalso; omega)
abbrev aly:T Lf:=(sp (.lt (.lit 0) (cc 4)) (kE (cc 2) (mk (cc 3)) (mk (wr (.sub (cc 4) (.lit 1)))) bt (mk (cc 6)) (cc 7) (cc 8) (wr (.sub (cc 4) (.lit 1))) 2) sP)
theorem apu (H:TH d0 d1 s th 18 obj arg tries o c dn g r v):eI (dU d0 d1 s th 18 obj arg tries) aly=Gl d0 s th 18 obj arg tries o c dn g r v:=by
 have hb:=H.hb;simp only [zz,H.eM,H.iC,H.hR,H.hk,ek r th hb,ef r th hb,bR,vU,fy,dS,dR,dh,dg,dL,act,Int.reduceEq,Gl]<;>(repeat' split)<;>first |rfl|(exfalso; omega)
abbrev alx:T Lf:=(sp (.eq (cc 4) (.lit 0)) (kE (cc 2) (mk (cc 3)) (mk (cc 4)) bt (mk (cc 6)) (cc 7) (cc 8) (.lit 0) 2) yC)
theorem apt (H:TH d0 d1 s th 19 obj arg tries o c dn g r v):eI (dU d0 d1 s th 19 obj arg tries) alx=Gl d0 s th 19 obj arg tries o c dn g r v:=by
 have hb:=H.hb;simp only [zz,H.eM,H.iC,H.hR,H.hk,ek r th hb,ef r th hb,bR,vU,fy,dS,dR,dh,dg,dL,act,Int.reduceEq,Gl]<;>(repeat' split)<;>first |rfl|(exfalso; omega)
abbrev alw:T Lf:=(kE (cc 2) (mk (cc 3)) (mk (cc 4)) bt (mk (cc 6)) (cc 7) (cc 8) (cc 4) 2)
theorem aps (H:TH d0 d1 s th 22 obj arg tries o c dn g r v):eI (dU d0 d1 s th 22 obj arg tries) alw=Gl d0 s th 22 obj arg tries o c dn g r v:=by
 have hb:=H.hb;simp only [zz,H.eM,H.iC,H.hR,H.hk,ek r th hb,ef r th hb,bR,vU,fy,dS,dR,dh,dg,dL,act,Int.reduceEq,Gl]<;>(repeat' split)<;>first |rfl|(exfalso; omega)
abbrev alv:T Lf:=(kE (cc 2) (mk (cc 3)) (mk (.dP 6)) bt (mk (cc 6)) (cc 7) (cc 8) (.dP 6) 2)
theorem apr (H:TH d0 d1 s th 23 obj arg tries o c dn g r v):eI (dU d0 d1 s th 23 obj arg tries) alv=Gl d0 s th 23 obj arg tries o c dn g r v:=by
 have hb:=H.hb;simp only [zz,H.eM,H.iC,H.hR,H.hk,ek r th hb,ef r th hb,bR,vU,fy,dS,dR,dh,dg,dL,act,Int.reduceEq,Gl]<;>(repeat' split)<;>first |rfl|(exfalso; omega)
abbrev aia:T Lf:=(sp (.lt (ln (cc 8)) RR) (kE (cc 2) (mk (cc 3)) (mk (cc 4)) bt (mk (cc 6)) (cc 7) (.op .snoc (cc 8) (mk (.dP 6))) (.dP 6) 2) yC)
theorem amT (H:TH d0 d1 s th 20 obj arg tries o c dn g r v) (hv:0<v.l.length):eI (dU d0 d1 s th 20 obj arg tries) aia=Gl d0 s th 20 obj arg tries o c dn g r v:=by
 have hb:=H.hb;simp only [zz,H.eM,H.iC,H.hR,H.hk,ek r th hb,ef r th hb,lG,au,bR,vU,fy,dS,dR,dh,dg,dL,act,Int.reduceEq,Gl]<;>(repeat' split)<;>first |rfl|(exfalso; omega)
abbrev ah9:T Lf:=(sp (.eq (ln (cc 8)) (.lit 0)) yC (kE (cc 2) (mk (cc 3)) (mk (cc 4)) bt (mk (cc 6)) (cc 7) (.op .drop (.op .take (cc 8) (.add (.lit 1) (.sub (ln (cc 8)) (.lit 1)))) (.lit 1)) (nm (el (cc 8) (.lit 0))) 2))
theorem amS (H:TH d0 d1 s th 21 obj arg tries o c dn g r v) (hv:0<v.l.length):eI (dU d0 d1 s th 21 obj arg tries) ah9=Gl d0 s th 21 obj arg tries o c dn g r v:=by
 have hb:=H.hb;simp only [zz,H.eM,H.iC,H.hR,H.hk,ek r th hb,ef r th hb,Uj v hv,bR,vU,fy,dS,dR,dh,dg,dL,act,Int.reduceEq,Gl]<;>(repeat' split)<;>first |rfl|(exfalso; omega)
abbrev ah8:T Lf:=(sp (.eq (nm (ce 0 (el (cc 2) RR))) (.dP 3)) (kE (WX (.fk (.i (-1)))) (mk (cc 3)) (mk (cc 4)) bt (mk (cc 6)) (.op .snoc (cc 7) (mk (.dP 3))) (cc 8) (.lit 0) 3) sP)
theorem amR (H:TH d0 d1 s th 12 obj arg tries o c dn g r v) (hr:0<r.l.length) (hw:wo th r.l=r.l):eI (dU d0 d1 s th 12 obj arg tries) ah8=Gl d0 s th 12 obj arg tries o c dn g r v:=by
 have hb:=H.hb;simp only [zz,H.eM,H.iC,H.hR,H.hk,ek r th hb,ef r th hb,hw,bz,lG,au,bR,vU,fy,dS,dR,dh,dg,dL,act,Int.reduceEq,Gl]<;>(repeat' split)<;>first |rfl|(exfalso; omega)
abbrev alu:T Lf:=(sp (.eq (nm (ce 0 (el (cc 2) RR))) (.dP 3)) (kE (WX (.fk (.i (-1)))) (mk (cc 3)) (mk (cc 4)) bt (mk (cc 6)) (.op .take (.op .cat (.op .cat (.op .take (rr 12000 tj 15) (rr 12000 tj 14)) (.op .snoc (.fk (.i 0)) (mk (.dP 3)))) (.op .drop (rr 12000 tj 15) (.add (rr 12000 tj 14) (.lit 1)))) (.add (rr 12000 tj 14) (.lit 1))) (cc 8) (.lit 0) 3) sP)
theorem apq (H:TH d0 d1 s th 12 obj arg tries o c dn g r v) (hr:0<r.l.length) (hv:0<v.l.length) {n:Nat} {r1:D} (hn:n<r.l.length) (hl:r1.l.length=r.l.length) (hw:r1.l.take n=wo th r.l) (V:L 12000 (dA d0 s r v th 12 obj arg tries o c dn g)=some (1::((dA d0 s r v th 12 obj arg tries o c dn g)++ [(n:Int),enc r1,(r.l.length:Int)]))):eI (dU d0 d1 s th 12 obj arg tries) alu=Gl d0 s th 12 obj arg tries o c dn g r v:=by
 have hb:=H.hb;have e3:((n:Int)+1).toNat=n+1:=J
 have hA: ∀B,(wo th r.l++ [D.i th]++B).take (n+1)=wo th r.l++ [.i th]:=fun B=>by
  grind
 have hB:wo th r.l++ [D.i th]≠[]:=ad
 simp only [zz,H.eM,H.iC,H.hR,H.hk,ek r th hb,ef r th hb,V,aM,e3,YH,bB,bz,lG,au,aW,hw,hA,HI,BI hB,bR,vU,fy,dS,dR,dh,dg,dL,act,Int.reduceEq,Gl]<;>(repeat' split)<;>first |rfl|(exfalso; omega)
abbrev ah7:T Lf:=(sp (.eq (ln (cc 7)) (.lit 0)) (kE (cc 2) (mk (cc 3)) (mk (cc 4)) bt (mk (cc 6)) (cc 7) (cc 8) (.lit 0) 2) (kE (cc 2) (mk (cc 3)) (mk (cc 4)) bt (mk (cc 6)) (.op .drop (.op .take (cc 7) (.add (.lit 1) (.sub (ln (cc 7)) (.lit 1)))) (.lit 1)) (cc 8) (wr (.add (nm (el (cc 7) (.lit 0))) (.lit 1))) 2))
theorem amQ (H:TH d0 d1 s th 13 obj arg tries o c dn g r v) (hr:0<r.l.length):eI (dU d0 d1 s th 13 obj arg tries) ah7=Gl d0 s th 13 obj arg tries o c dn g r v:=by
 have hb:=H.hb;simp only [zz,H.eM,H.iC,H.hR,H.hk,ek r th hb,ef r th hb,Uj r hr,lG,au,bR,vU,fy,dS,dR,dh,dg,dL,act,Int.reduceEq,Gl]<;>(repeat' split)<;>first |rfl|(exfalso; omega)
abbrev ah6:T Lf:=(kE (cc 2) (mk (cc 3)) (mk (cc 4)) bt (mk (cc 6)) (.fk (.i 1)) (cc 8) (ln (cc 7)) 2)
theorem amP (H:TH d0 d1 s th 14 obj arg tries o c dn g r v) (hr:0<r.l.length):eI (dU d0 d1 s th 14 obj arg tries) ah6=Gl d0 s th 14 obj arg tries o c dn g r v:=by
 have hb:=H.hb;simp only [zz,H.eM,H.iC,H.hR,H.hk,ek r th hb,ef r th hb,lG,au,bR,vU,fy,dS,dR,dh,dg,dL,act,Int.reduceEq,Gl]<;>(repeat' split)<;>first |rfl|(exfalso; omega)
abbrev Zc:T Lf:=(sp (.eq (rr 900 [cc 7,.dP 3] 0) (.lit 0)) (sp (.lt (nm (ce 0 (el (cc 2) RR))) (.lit 0)) (kE (WX (mk (.dP 3))) (mk (cc 3)) (mk (cc 4)) bt (mk (cc 6)) (cc 7) (cc 8) (.lit 0) 2) yC) yC)
theorem adz (H:TH d0 d1 s th 24 obj arg tries o c dn g r v):eI (dU d0 d1 s th 24 obj arg tries) Zc=Gl d0 s th 24 obj arg tries o c dn g r v:=by
 have hb:=H.hb;simp only [zz,H.eM,H.iC,H.hR,H.hk,ek r th hb,ef r th hb,bz,lG,au,bR,vU,fy,dS,dR,dh,dg,dL,act,Int.reduceEq,Gl]<;>(repeat' split)<;>first |rfl|(exfalso; omega)
abbrev als:T Lf:=(sp (.lt (cc 6) (.lit 4611686018427387904)) (sp (.eq (wr (.add (cc 4) (.lit 1))) RR) (kE (cc 2) (mk (cc 3)) (.fk (.i 0)) bt (mk (wr (.add (cc 6) (.lit 1)))) (cc 7) (cc 8) (cc 6) 3) (kE (cc 2) (mk (cc 3)) (mk (wr (.add (cc 4) (.lit 1)))) bt (mk (cc 6)) (cc 7) (cc 8) (cc 6) 3)) sP)
theorem apo (H:TH d0 d1 s th 15 obj arg tries o c dn g r v):eI (dU d0 d1 s th 15 obj arg tries) als=Gl d0 s th 15 obj arg tries o c dn g r v:=by
 have hb:=H.hb;simp only [zz,H.eM,H.iC,H.hR,H.hk,ek r th hb,ef r th hb,bR,vU,fy,dS,dR,dh,dg,dL,act,Int.reduceEq,Gl]<;>(repeat' split)<;>first |rfl|(exfalso; omega)
abbrev alr:T Lf:=(sp (.lt (.dP 6) (cc 6)) (kE (cc 2) (mk (cc 3)) (mk (cc 4)) bt (mk (cc 6)) (cc 7) (cc 8) (.dP 6) 2) yC)
theorem apn (H:TH d0 d1 s th 25 obj arg tries o c dn g r v):eI (dU d0 d1 s th 25 obj arg tries) alr=Gl d0 s th 25 obj arg tries o c dn g r v:=by
 have hb:=H.hb;simp only [zz,H.eM,H.iC,H.hR,H.hk,ek r th hb,ef r th hb,bR,vU,fy,dS,dR,dh,dg,dL,act,Int.reduceEq,Gl]<;>(repeat' split)<;>first |rfl|(exfalso; omega)
abbrev alq:T Lf:=(sp (.eq (cc 5) (.lit 0)) (sp (.eq (cc 3) (.dP 3)) sP (sp (.lt (cc 3) (.lit 0)) (kE (cc 2) (mk (.dP 3)) (mk (cc 4)) bt (mk (cc 6)) (cc 7) (cc 8) (.lit 1) 2) yC)) (kE (cc 2) (mk (cc 3)) (mk (cc 4)) bt (mk (cc 6)) (cc 7) (cc 8) (.lit 0) 2))
theorem apm (H:TH d0 d1 s th 16 obj arg tries o c dn g r v):eI (dU d0 d1 s th 16 obj arg tries) alq=Gl d0 s th 16 obj arg tries o c dn g r v:=by
 have hb:=H.hb;simp only [zz,H.eM,H.iC,H.hR,H.hk,ek r th hb,ef r th hb,bR,vU,fy,dS,dR,dh,dg,dL,act,Int.reduceEq,Gl]<;>(repeat' split)<;>first |rfl|(exfalso; omega)
abbrev alp:T Lf:=(sp (.eq (cc 3) (.dP 3)) (kE (cc 2) (.fk (.i (-1))) (mk (cc 4)) (.fk (.i 1)) (mk (cc 6)) (cc 7) (cc 8) (.lit 0) 2) sP)
theorem apl (H:TH d0 d1 s th 26 obj arg tries o c dn g r v):eI (dU d0 d1 s th 26 obj arg tries) alp=Gl d0 s th 26 obj arg tries o c dn g r v:=by
 have hb:=H.hb;simp only [zz,H.eM,H.iC,H.hR,H.hk,ek r th hb,ef r th hb,bR,vU,fy,dS,dR,dh,dg,dL,act,Int.reduceEq,Gl]<;>(repeat' split)<;>first |rfl|(exfalso; omega)
abbrev ah5:T Lf:=(sp (.lt (.lit 0) RR) (kE (cc 2) (mk (cc 3)) (mk (cc 4)) bt (mk (cc 6)) (cc 7) (.op .snoc (.fk (.i 0)) (mk (.dP 6))) (.dP 6) 2) yC)
theorem amO (H:TH d0 d1 s th 20 obj arg tries o c dn g r v) (hv:v.l= []):eI (dU d0 d1 s th 20 obj arg tries) ah5=Gl d0 s th 20 obj arg tries o c dn g r v:=by
 have hb:=H.hb;have hz2:((0:Nat):Int)=0:=rfl;simp only [zz,H.eM,H.iC,H.hR,H.hk,ek r th hb,ef r th hb,hv,bj,au,hz2,lG,bR,vU,fy,dS,dR,dh,dg,dL,act,Int.reduceEq,Gl]<;>(repeat' split)<;>first |rfl|(exfalso; omega)
abbrev ah4:T Lf:=yC
theorem amN (H:TH d0 d1 s th 21 obj arg tries o c dn g r v) (hv:v.l= []):eI (dU d0 d1 s th 21 obj arg tries) ah4=Gl d0 s th 21 obj arg tries o c dn g r v:=by
 have hb:=H.hb;have hz2:((0:Nat):Int)=0:=rfl;simp only [zz,H.eM,H.iC,H.hR,H.hk,ek r th hb,ef r th hb,hv,bj,au,hz2,bR,vU,fy,dS,dR,dh,dg,dL,act,Int.reduceEq,Gl]<;>(repeat' split)<;>first |rfl|(exfalso; omega)
abbrev alo:T Lf:=(sp (.eq (nm (ce 0 (el (cc 2) RR))) (.dP 3)) (kE (WX (.fk (.i (-1)))) (mk (cc 3)) (mk (cc 4)) bt (mk (cc 6)) (.op .take (.op .cat (.op .cat (.op .take (rr 12100 tj 15) (rr 12100 tj 14)) (.op .snoc (.fk (.i 0)) (mk (.dP 3)))) (.op .drop (rr 12100 tj 15) (.add (rr 12100 tj 14) (.lit 1)))) (.add (rr 12100 tj 14) (.lit 1))) (cc 8) (.lit 0) 3) sP)
theorem apk (H:TH d0 d1 s th 12 obj arg tries o c dn g r v) (hr:0<r.l.length) (hv:v.l= []) {n:Nat} {r1:D} (hn:n<r.l.length) (hl:r1.l.length=r.l.length) (hw:r1.l.take n=wo th r.l) (V:L 12100 (dA d0 s r v th 12 obj arg tries o c dn g)=some (1::((dA d0 s r v th 12 obj arg tries o c dn g)++ [(n:Int),enc r1,(r.l.length:Int)]))):eI (dU d0 d1 s th 12 obj arg tries) alo=Gl d0 s th 12 obj arg tries o c dn g r v:=by
 have hb:=H.hb;have hz2:((0:Nat):Int)=0:=rfl;have e3:((n:Int)+1).toNat=n+1:=J
 have hA: ∀B,(wo th r.l++ [D.i th]++B).take (n+1)=wo th r.l++ [.i th]:=fun B=>by
  grind
 have hB:wo th r.l++ [D.i th]≠[]:=ad
 simp only [zz,H.eM,H.iC,H.hR,H.hk,ek r th hb,ef r th hb,hv,bj,au,hz2,V,aM,e3,YH,bB,bz,lG,aW,hw,hA,HI,BI hB,bR,vU,fy,dS,dR,dh,dg,dL,act,Int.reduceEq,Gl]<;>(repeat' split)<;>first |rfl|(exfalso; omega)
abbrev ah3:T Lf:=(sp (.eq (cc 3) (.dP 3)) sP (sp (.eq (rr 900 [cc 7,.dP 3] 0) (.lit 0)) (sp (.lt (cc 3) (.lit 0)) (kE (cc 2) (mk (cc 3)) (mk (cc 4)) bt (mk (cc 6)) (.op .snoc (.fk (.i 0)) (mk (.dP 3))) (cc 8) (.lit 0) 2) yC) sP))
theorem amM (H:TH d0 d1 s th 5 obj arg tries o c dn g r v) (hr:r.l= []):eI (dU d0 d1 s th 5 obj arg tries) ah3=Gl d0 s th 5 obj arg tries o c dn g r v:=by
 have hb:=H.hb;have hz:((0:Nat):Int)=0:=rfl;simp only [zz,H.eM,H.iC,H.hR,H.hk,ek r th hb,ef r th hb,hr,bj,au,hz,lG,bR,vU,fy,dS,dR,dh,dg,dL,act,Int.reduceEq,Gl]<;>(repeat' split)<;>first |rfl|(exfalso; omega)
theorem amL (H:TH d0 d1 s th 7 obj arg tries o c dn g r v) (hr:r.l= []):eI (dU d0 d1 s th 7 obj arg tries) zt0=Gl d0 s th 7 obj arg tries o c dn g r v:=by
 have hb:=H.hb;have hz:((0:Nat):Int)=0:=rfl;simp only [zz,H.eM,H.iC,H.hR,H.hk,ek r th hb,ef r th hb,hr,bj,au,hz,bR,vU,fy,dS,dR,dh,dg,dL,act,Int.reduceEq,Gl]<;>(repeat' split)<;>first |rfl|(exfalso; omega)
abbrev ah2:T Lf:=(sp (.eq (nm (ce 0 (el (cc 2) RR))) (.dP 3)) (kE (WX (.fk (.i (-1)))) (mk (cc 3)) (mk (cc 4)) bt (mk (cc 6)) (.op .snoc (.fk (.i 0)) (mk (.dP 3))) (cc 8) (.lit 0) 3) sP)
theorem amK (H:TH d0 d1 s th 12 obj arg tries o c dn g r v) (hr:r.l= []):eI (dU d0 d1 s th 12 obj arg tries) ah2=Gl d0 s th 12 obj arg tries o c dn g r v:=by
 have hb:=H.hb;have hz:((0:Nat):Int)=0:=rfl;simp only [zz,H.eM,H.iC,H.hR,H.hk,ek r th hb,ef r th hb,hr,bj,au,hz,fo hr,bz,lG,bR,vU,fy,dS,dR,dh,dg,dL,act,Int.reduceEq,Gl]<;>(repeat' split)<;>first |rfl|(exfalso; omega)
abbrev ah1:T Lf:=(kE (cc 2) (mk (cc 3)) (mk (cc 4)) bt (mk (cc 6)) (cc 7) (cc 8) (.lit 0) 2)
theorem amJ (H:TH d0 d1 s th 13 obj arg tries o c dn g r v) (hr:r.l= []):eI (dU d0 d1 s th 13 obj arg tries) ah1=Gl d0 s th 13 obj arg tries o c dn g r v:=by
 have hb:=H.hb;have hz:((0:Nat):Int)=0:=rfl;simp only [zz,H.eM,H.iC,H.hR,H.hk,ek r th hb,ef r th hb,hr,bj,au,hz,lG,bR,vU,fy,dS,dR,dh,dg,dL,act,Int.reduceEq,Gl]<;>(repeat' split)<;>first |rfl|(exfalso; omega)
abbrev ah0:T Lf:=(kE (cc 2) (mk (cc 3)) (mk (cc 4)) bt (mk (cc 6)) (.fk (.i 1)) (cc 8) (.lit 0) 2)
theorem amI (H:TH d0 d1 s th 14 obj arg tries o c dn g r v) (hr:r.l= []):eI (dU d0 d1 s th 14 obj arg tries) ah0=Gl d0 s th 14 obj arg tries o c dn g r v:=by
 have hb:=H.hb;have hz:((0:Nat):Int)=0:=rfl;simp only [zz,H.eM,H.iC,H.hR,H.hk,ek r th hb,ef r th hb,hr,bj,au,hz,lG,bR,vU,fy,dS,dR,dh,dg,dL,act,Int.reduceEq,Gl]<;>(repeat' split)<;>first |rfl|(exfalso; omega)
end
def ops:List Int:=[1,2,8,3,4,5,6,7,9,11,10,17,18,19,22,23,20,21,12,13,14,24,15,25,16,26]
abbrev Yo (k:Int):List SB:=[.eq (.dP 4) (.lit k)]
abbrev No (k:Int):List SB:=(ops.filter fun j=>!(j == k)).map fun j=> .eq (.dP 4) (.lit j)
abbrev p3:T Lf:=prune (YG++YA3) (NG++NA3) jJ
abbrev p4:T Lf:=prune (YG++YA4) (NG++NA4) jJ
abbrev p5:T Lf:=prune (YG++YA5) (NG++NA5) jJ
abbrev p6:T Lf:=prune (YG++YA6) (NG++NA6) jJ
section
variable {d0 d1 s r v:D} {th op obj arg tries o c dn g:Int}
theorem Zj {ρ:Nat->Int}: ∀{l:List SB},(∀c∈l,¬c.den ρ=true)->zW ρ l
 |[],_=>trivial
 |c::l,h=> ⟨h c ad,Zj fun x Y=>h x (arS _ Y)⟩
theorem fO (k:Int):zY (dU d0 d1 s th k obj arg tries) (Yo k)/\zW (dU d0 d1 s th k obj arg tries) (No k):=by
 refine⟨by simp only [zz],Zj fun c hc=>?_⟩;obtain⟨j,hj,rfl⟩:=aR.1 hc;have:=(arW.1 hj).2;simp only [zz];intro h
 grind
theorem YD (H:TH d0 d1 s th op obj arg tries o c dn g r v) (hr:0<r.l.length) (hv:0<v.l.length):eI (dU d0 d1 s th op obj arg tries) p3=eI (dU d0 d1 s th op obj arg tries) jJ:=dW (z2 (fG H) (fA3 H hr hv)) jJ
theorem YC (H:TH d0 d1 s th op obj arg tries o c dn g r v) (hr:0<r.l.length) (hv:v.l= []):eI (dU d0 d1 s th op obj arg tries) p4=eI (dU d0 d1 s th op obj arg tries) jJ:=dW (z2 (fG H) (fA4 H hr hv)) jJ
theorem sp5 (H:TH d0 d1 s th op obj arg tries o c dn g r v) (hr:r.l= []) (hv:0<v.l.length):eI (dU d0 d1 s th op obj arg tries) p5=eI (dU d0 d1 s th op obj arg tries) jJ:=dW (z2 (fG H) (fA5 H hr hv)) jJ
theorem sp6 (H:TH d0 d1 s th op obj arg tries o c dn g r v) (hr:r.l= []) (hv:v.l= []):eI (dU d0 d1 s th op obj arg tries) p6=eI (dU d0 d1 s th op obj arg tries) jJ:=dW (z2 (fG H) (fA6 H hr hv)) jJ
theorem jx {k:Int} {t u:T Lf} {Q:RS} (e:prune (Yo k) (No k) t=u) (h:eI (dU d0 d1 s th k obj arg tries) u=Q):eI (dU d0 d1 s th k obj arg tries) t=Q:=by rw [<- dW (fO k) t,e,h]
theorem jy (H:TH d0 d1 s th op obj arg tries o c dn g r v) {u:T Lf} {Q:RS} (e3:prune (Yo op) (No op) p3=u) (e4:prune (Yo op) (No op) p4=u) (e5:prune (Yo op) (No op) p5=u) (e6:prune (Yo op) (No op) p6=u) (h:eI (dU d0 d1 s th op obj arg tries) u=Q):eI (dU d0 d1 s th op obj arg tries) jJ=Q:=by
 rcases gu r.l with hr|hr<;>rcases gu v.l with hv|hv
 ·exact (sp6 H hr hv).symm.trans (jx e6 h)
 ·exact (sp5 H hr hv).symm.trans (jx e5 h)
 ·exact (YC H hr hv).symm.trans (jx e4 h)
 ·exact (YD H hr hv).symm.trans (jx e3 h)
theorem o1 (H:TH d0 d1 s th 1 obj arg tries o c dn g r v):eI (dU d0 d1 s th 1 obj arg tries) jJ=Gl d0 s th 1 obj arg tries o c dn g r v:=jy H (u:=zt0) aa aa aa aa (sm0 H)
theorem o2 (H:TH d0 d1 s th 2 obj arg tries o c dn g r v):eI (dU d0 d1 s th 2 obj arg tries) jJ=Gl d0 s th 2 obj arg tries o c dn g r v:=jy H (u:=zt1) aa aa aa aa (sm1 H)
theorem o8 (H:TH d0 d1 s th 8 obj arg tries o c dn g r v):eI (dU d0 d1 s th 8 obj arg tries) jJ=Gl d0 s th 8 obj arg tries o c dn g r v:=jy H (u:=zt1) aa aa aa aa (sm2 H)
theorem o3 (H:TH d0 d1 s th 3 obj arg tries o c dn g r v):eI (dU d0 d1 s th 3 obj arg tries) jJ=Gl d0 s th 3 obj arg tries o c dn g r v:=jy H (u:=zt2) aa aa aa aa (sm3 H)
theorem o4 (H:TH d0 d1 s th 4 obj arg tries o c dn g r v):eI (dU d0 d1 s th 4 obj arg tries) jJ=Gl d0 s th 4 obj arg tries o c dn g r v:=jy H (u:=zt3) aa aa aa aa (sm4 H)
theorem o5 (H:TH d0 d1 s th 5 obj arg tries o c dn g r v):eI (dU d0 d1 s th 5 obj arg tries) jJ=Gl d0 s th 5 obj arg tries o c dn g r v:=by
 rcases gu r.l with hr|hr<;>rcases gu v.l with hv|hv
 ·exact (sp6 H hr hv).symm.trans (jx (u:=ah3) aa (amM H hr))
 ·exact (sp5 H hr hv).symm.trans (jx (u:=ah3) aa (amM H hr))
 ·exact (YC H hr hv).symm.trans (jx (u:=zt4) aa (sm5 H hr))
 ·exact (YD H hr hv).symm.trans (jx (u:=zt4) aa (sm5 H hr))
theorem o6 (H:TH d0 d1 s th 6 obj arg tries o c dn g r v):eI (dU d0 d1 s th 6 obj arg tries) jJ=Gl d0 s th 6 obj arg tries o c dn g r v:=by
 rcases gu r.l with hr|hr<;>rcases gu v.l with hv|hv
 ·exact (sp6 H hr hv).symm.trans (jx (u:=zt5) aa (sm6 H (by rw [kN hr]; omega)))
 ·exact (sp5 H hr hv).symm.trans (jx (u:=zt5) aa (sm6 H (by rw [kN hr]; omega)))
 ·by_cases hk:place r th<0
  ·exact (YC H hr hv).symm.trans ((dW (fK0 H hk) _).symm.trans (jx (u:=zt5) aa (sm6 H hk)))
  ·exact (YC H hr hv).symm.trans ((dW (fK1 H hk) _).symm.trans (jx (u:=zt6) aa (sm7 H hr hk)))
 ·by_cases hk:place r th<0
  ·exact (YD H hr hv).symm.trans ((dW (fK0 H hk) _).symm.trans (jx (u:=zt5) aa (sm6 H hk)))
  ·exact (YD H hr hv).symm.trans ((dW (fK1 H hk) _).symm.trans (jx (u:=zt6) aa (sm7 H hr hk)))
theorem o7 (H:TH d0 d1 s th 7 obj arg tries o c dn g r v):eI (dU d0 d1 s th 7 obj arg tries) jJ=Gl d0 s th 7 obj arg tries o c dn g r v:=by
 rcases gu r.l with hr|hr<;>rcases gu v.l with hv|hv
 ·exact (sp6 H hr hv).symm.trans (jx (u:=zt0) aa (amL H hr))
 ·exact (sp5 H hr hv).symm.trans (jx (u:=zt0) aa (amL H hr))
 ·exact (YC H hr hv).symm.trans (jx (u:=zt7) aa (sm8 H hr))
 ·exact (YD H hr hv).symm.trans (jx (u:=zt7) aa (sm8 H hr))
theorem o9 (H:TH d0 d1 s th 9 obj arg tries o c dn g r v):eI (dU d0 d1 s th 9 obj arg tries) jJ=Gl d0 s th 9 obj arg tries o c dn g r v:=jy H (u:=zt8) aa aa aa aa (sm9 H)
theorem o11 (H:TH d0 d1 s th 11 obj arg tries o c dn g r v):eI (dU d0 d1 s th 11 obj arg tries) jJ=Gl d0 s th 11 obj arg tries o c dn g r v:=jy H (u:=zt9) aa aa aa aa (apx H)
theorem o10 (H:TH d0 d1 s th 10 obj arg tries o c dn g r v):eI (dU d0 d1 s th 10 obj arg tries) jJ=Gl d0 s th 10 obj arg tries o c dn g r v:=jy H (u:=alA) aa aa aa aa (apw H)
theorem o17 (H:TH d0 d1 s th 17 obj arg tries o c dn g r v):eI (dU d0 d1 s th 17 obj arg tries) jJ=Gl d0 s th 17 obj arg tries o c dn g r v:=jy H (u:=alz) aa aa aa aa (apv H)
theorem o18 (H:TH d0 d1 s th 18 obj arg tries o c dn g r v):eI (dU d0 d1 s th 18 obj arg tries) jJ=Gl d0 s th 18 obj arg tries o c dn g r v:=jy H (u:=aly) aa aa aa aa (apu H)
theorem o19 (H:TH d0 d1 s th 19 obj arg tries o c dn g r v):eI (dU d0 d1 s th 19 obj arg tries) jJ=Gl d0 s th 19 obj arg tries o c dn g r v:=jy H (u:=alx) aa aa aa aa (apt H)
theorem o22 (H:TH d0 d1 s th 22 obj arg tries o c dn g r v):eI (dU d0 d1 s th 22 obj arg tries) jJ=Gl d0 s th 22 obj arg tries o c dn g r v:=jy H (u:=alw) aa aa aa aa (aps H)
theorem o23 (H:TH d0 d1 s th 23 obj arg tries o c dn g r v):eI (dU d0 d1 s th 23 obj arg tries) jJ=Gl d0 s th 23 obj arg tries o c dn g r v:=jy H (u:=alv) aa aa aa aa (apr H)
theorem o20 (H:TH d0 d1 s th 20 obj arg tries o c dn g r v):eI (dU d0 d1 s th 20 obj arg tries) jJ=Gl d0 s th 20 obj arg tries o c dn g r v:=by
 rcases gu r.l with hr|hr<;>rcases gu v.l with hv|hv
 ·exact (sp6 H hr hv).symm.trans (jx (u:=ah5) aa (amO H hv))
 ·exact (sp5 H hr hv).symm.trans (jx (u:=aia) aa (amT H hv))
 ·exact (YC H hr hv).symm.trans (jx (u:=ah5) aa (amO H hv))
 ·exact (YD H hr hv).symm.trans (jx (u:=aia) aa (amT H hv))
theorem o21 (H:TH d0 d1 s th 21 obj arg tries o c dn g r v):eI (dU d0 d1 s th 21 obj arg tries) jJ=Gl d0 s th 21 obj arg tries o c dn g r v:=by
 rcases gu r.l with hr|hr<;>rcases gu v.l with hv|hv
 ·exact (sp6 H hr hv).symm.trans (jx (u:=ah4) aa (amN H hv))
 ·exact (sp5 H hr hv).symm.trans (jx (u:=ah9) aa (amS H hv))
 ·exact (YC H hr hv).symm.trans (jx (u:=ah4) aa (amN H hv))
 ·exact (YD H hr hv).symm.trans (jx (u:=ah9) aa (amS H hv))
theorem o12 (H:TH d0 d1 s th 12 obj arg tries o c dn g r v):eI (dU d0 d1 s th 12 obj arg tries) jJ=Gl d0 s th 12 obj arg tries o c dn g r v:=by
 rcases gu r.l with hr|hr<;>rcases gu v.l with hv|hv
 ·have V:=aeI r th obj (Mx d0 obj) (enc (dL (dE s.l (Mx d0 obj) (dL (dE (s.at (Mx d0 obj)).l 0 (.i (-1))))))) 12 arg tries o c dn g (enc v);exact (sp6 H hr hv).symm.trans ((dW (fM H J) _).symm.trans ((dW (aqH H V) _).symm.trans (jx (u:=ah2) aa (amK H hr))))
 ·have V:=aeJ r th obj (Mx d0 obj) (enc (dL (dE s.l (Mx d0 obj) (dL (dE (s.at (Mx d0 obj)).l 0 (.i (-1))))))) 12 arg tries o c dn g (enc v);exact (sp5 H hr hv).symm.trans ((dW (fM H J) _).symm.trans ((dW (aqI H V) _).symm.trans (jx (u:=ah2) aa (amK H hr))))
 ·rcases aeK r th (by have:=H.hr; omega) H.hn with ⟨hw,V⟩|V
  ·have V:=V obj (Mx d0 obj) (enc (dL (dE s.l (Mx d0 obj) (dL (dE (s.at (Mx d0 obj)).l 0 (.i (-1))))))) 12 arg tries o c dn g (enc v);exact (YC H hr hv).symm.trans ((dW (fM H J) _).symm.trans ((dW (aqJ H V) _).symm.trans (jx (u:=ah8) aa (amR H hr hw))))
  ·obtain⟨n,r1,hn,hl,hw,V⟩:=V obj (Mx d0 obj) (enc (dL (dE s.l (Mx d0 obj) (dL (dE (s.at (Mx d0 obj)).l 0 (.i (-1))))))) 12 arg tries o c dn g (enc v);exact (YC H hr hv).symm.trans ((dW (fM H J) _).symm.trans ((dW (aqK H hn hl V) _).symm.trans (jx (u:=alo) aa (apk H hr hv hn hl hw V))))
 ·rcases aeL r th (by have:=H.hr; omega) H.hn with ⟨hw,V⟩|V
  ·have V:=V obj (Mx d0 obj) (enc (dL (dE s.l (Mx d0 obj) (dL (dE (s.at (Mx d0 obj)).l 0 (.i (-1))))))) 12 arg tries o c dn g (enc v);exact (YD H hr hv).symm.trans ((dW (fM H J) _).symm.trans ((dW (aqL H V) _).symm.trans (jx (u:=ah8) aa (amR H hr hw))))
  ·obtain⟨n,r1,hn,hl,hw,V⟩:=V obj (Mx d0 obj) (enc (dL (dE s.l (Mx d0 obj) (dL (dE (s.at (Mx d0 obj)).l 0 (.i (-1))))))) 12 arg tries o c dn g (enc v);exact (YD H hr hv).symm.trans ((dW (fM H J) _).symm.trans ((dW (aqM H hn hl V) _).symm.trans (jx (u:=alu) aa (apq H hr hv hn hl hw V))))
theorem o13 (H:TH d0 d1 s th 13 obj arg tries o c dn g r v):eI (dU d0 d1 s th 13 obj arg tries) jJ=Gl d0 s th 13 obj arg tries o c dn g r v:=by
 rcases gu r.l with hr|hr<;>rcases gu v.l with hv|hv
 ·exact (sp6 H hr hv).symm.trans (jx (u:=ah1) aa (amJ H hr))
 ·exact (sp5 H hr hv).symm.trans (jx (u:=ah1) aa (amJ H hr))
 ·exact (YC H hr hv).symm.trans (jx (u:=ah7) aa (amQ H hr))
 ·exact (YD H hr hv).symm.trans (jx (u:=ah7) aa (amQ H hr))
theorem o14 (H:TH d0 d1 s th 14 obj arg tries o c dn g r v):eI (dU d0 d1 s th 14 obj arg tries) jJ=Gl d0 s th 14 obj arg tries o c dn g r v:=by
 rcases gu r.l with hr|hr<;>rcases gu v.l with hv|hv
 ·exact (sp6 H hr hv).symm.trans (jx (u:=ah0) aa (amI H hr))
 ·exact (sp5 H hr hv).symm.trans (jx (u:=ah0) aa (amI H hr))
 ·exact (YC H hr hv).symm.trans (jx (u:=ah6) aa (amP H hr))
 ·exact (YD H hr hv).symm.trans (jx (u:=ah6) aa (amP H hr))
theorem o24 (H:TH d0 d1 s th 24 obj arg tries o c dn g r v):eI (dU d0 d1 s th 24 obj arg tries) jJ=Gl d0 s th 24 obj arg tries o c dn g r v:=by
 rcases gu r.l with hr|hr<;>rcases gu v.l with hv|hv
 ·exact (sp6 H hr hv).symm.trans ((dW (fM H J) _).symm.trans (jx (u:=Zc) aa (adz H)))
 ·exact (sp5 H hr hv).symm.trans ((dW (fM H J) _).symm.trans (jx (u:=Zc) aa (adz H)))
 ·exact (YC H hr hv).symm.trans ((dW (fM H J) _).symm.trans (jx (u:=Zc) aa (adz H)))
 ·exact (YD H hr hv).symm.trans ((dW (fM H J) _).symm.trans (jx (u:=Zc) aa (adz H)))
theorem o15 (H:TH d0 d1 s th 15 obj arg tries o c dn g r v):eI (dU d0 d1 s th 15 obj arg tries) jJ=Gl d0 s th 15 obj arg tries o c dn g r v:=jy H (u:=als) aa aa aa aa (apo H)
theorem o25 (H:TH d0 d1 s th 25 obj arg tries o c dn g r v):eI (dU d0 d1 s th 25 obj arg tries) jJ=Gl d0 s th 25 obj arg tries o c dn g r v:=jy H (u:=alr) aa aa aa aa (apn H)
theorem o16 (H:TH d0 d1 s th 16 obj arg tries o c dn g r v):eI (dU d0 d1 s th 16 obj arg tries) jJ=Gl d0 s th 16 obj arg tries o c dn g r v:=jy H (u:=alq) aa aa aa aa (apm H)
theorem o26 (H:TH d0 d1 s th 26 obj arg tries o c dn g r v):eI (dU d0 d1 s th 26 obj arg tries) jJ=Gl d0 s th 26 obj arg tries o c dn g r v:=jy H (u:=alp) aa aa aa aa (apl H)
theorem adf (H:TH d0 d1 s th op obj arg tries o c dn g r v) (pe:op∈ops):L 400 [enc d0,enc d1,enc s,th,op,obj,arg,tries]=some (Gr s th op obj (Mx d0 obj) (act (Mx d0 obj) (Mo d0 s obj) th op arg tries o c dn g r v)):=by
 rw [bI,akX]
 suffices h:eI (dU d0 d1 s th op obj arg tries) jJ=Gl d0 s th op obj arg tries o c dn g r v by rw [h]; rfl
 unfold ops at pe;simp only [aH,arN,or_false] at pe;rcases pe with rfl|rfl|rfl|rfl|rfl|rfl|rfl|rfl|rfl|rfl|rfl|rfl|rfl|rfl|rfl|rfl|rfl|rfl|rfl|rfl|rfl|rfl|rfl|rfl|rfl|rfl
 ·exact o1 H
 ·exact o2 H
 ·exact o8 H
 ·exact o3 H
 ·exact o4 H
 ·exact o5 H
 ·exact o6 H
 ·exact o7 H
 ·exact o9 H
 ·exact o11 H
 ·exact o10 H
 ·exact o17 H
 ·exact o18 H
 ·exact o19 H
 ·exact o22 H
 ·exact o23 H
 ·exact o20 H
 ·exact o21 H
 ·exact o12 H
 all_goals grind [o13,o14,o24,o15,o25,o16,o26]
end
abbrev G_:T Lf:=ou [.op .set (cc 2) (thg (mk (cc 3)) (mk (cc 4)) bt (mk (cc 6)) (cc 7) (cc 8)),.lit 0,.lit 0,.lit 0,.lit 0,.lit 0,.lit 0]
abbrev Ya (a:Int):List SB:=[.eq (a0 9000 [.dP 5,.dP 2]) (.lit 1),.eq (cc 0) (.lit a),.eq (a0 350 [.dP 0,.dP 1,.dP 2]) (.lit 1)]
abbrev Na (a:Int):List SB:=([0,1,2,3,4,5].filter fun j=>!(j == a)).map fun j=> .eq (cc 0) (.lit j)
abbrev r3:SB:=.eq (rr 350 [.dP 0,.dP 1,.dP 2] 0) (.lit 0)
abbrev t3:SB:=.lt (.dP 3) (.lit 0)
abbrev u3:SB:=.lt (.dP 3) (ln (.dP 1))
section
variable {d0 d1 s r v:D} {th op obj arg tries o c dn g b kop a:Int} (hR:L 350 [enc d0,enc d1,enc s]=some [b])
include hR
theorem fa {l:List Int} (hc:L 9000 [obj,enc s]=some (a::l)):zY (dU d0 d1 s th op obj arg tries) (Ya a)/\zW (dU d0 d1 s th op obj arg tries) (Na a):=by
 refine⟨by simp only [zz,hc,hR],Zj fun c hc'=>?_⟩;obtain⟨j,hj,rfl⟩:=aR.1 hc';have:=(arW.1 hj).2;simp only [zz,hc];intro h
 grind
theorem tb (k:eI (dU d0 d1 s th op obj arg tries) jJ= .out [enc s,0,0,0,0,0,0]):L 400 [enc d0,enc d1,enc s,th,op,obj,arg,tries]=some [enc s,0,0,0,0,0,0]:=by rw [bI,akX];exact congrArg (fin L) k
section
variable (ha:a=3\/a=4\/a=5\/a=6) (eM:L 9000 [obj,enc s]=some [a,obj,enc s,o,c,dn,g,enc r,enc v]) (iQ:0<=obj) (gL:obj<(s.l.length:Int)) (V:dn=0\/dn=1) (hs:s=dL (dE s.l obj (dL [.i o,.i c,.i dn,.i g,r,v])))
include ha eM iQ gL V hs
omit ha hR iQ gL in
theorem E7:eI (dU d0 d1 s th op obj arg tries) G_= .out [enc s,0,0,0,0,0,0]:=by
 have e:(if dn=0 then (0:Int) else 1)=dn:=by rcases V with rfl|rfl<;>rfl
 simp only [dL] at hs;simp only [zz,eM,e,<- hs]
theorem apB (h:b=0):L 400 [enc d0,enc d1,enc s,th,op,obj,arg,tries]=some [enc s,0,0,0,0,0,0]:=
 tb hR (cm (Ya a++ [r3]) (Na a++ []) G_ (z2 (fa hR eM) (by simp only [zz,eM,hR]<;>omega)) (by rcases ha with rfl|rfl|rfl|rfl<;>kernel_rfl) (E7 eM V hs))
theorem apA (hb:b≠0) (h:th<0):L 400 [enc d0,enc d1,enc s,th,op,obj,arg,tries]=some [enc s,0,0,0,0,0,0]:=
 tb hR (cm (Ya a++ [t3]) (Na a++ [r3]) G_ (z2 (fa hR eM) (by simp only [zz,eM,hR]<;>omega)) (by rcases ha with rfl|rfl|rfl|rfl<;>kernel_rfl) (E7 eM V hs))
theorem apz (hb:b≠0) (h0:0<=th) (h: ¬th<(d1.l.length:Int)):L 400 [enc d0,enc d1,enc s,th,op,obj,arg,tries]=some [enc s,0,0,0,0,0,0]:=
 tb hR (cm (Ya a++ []) (Na a++ [r3,t3,u3]) G_ (z2 (fa hR eM) (by simp only [zz,eM,hR]<;>omega)) (by rcases ha with rfl|rfl|rfl|rfl<;>kernel_rfl) (E7 eM V hs))
theorem apC (hb:b≠0) (h0:0<=th) (h:th<(d1.l.length:Int)) (hk:L 600 [op]=some [kop]) (hlen:s.l.length=d0.l.length) (jK: ¬kop=((d0.at obj).V 0).n):L 400 [enc d0,enc d1,enc s,th,op,obj,arg,tries]=some [enc s,0,0,0,0,0,0]:=
 tb hR (cm (Ya a++ [u3,.lt (.dP 5) (ln (cc 2)),.eq (a0 600 [.dP 4]) (.lit 1),.lt (.dP 5) (ln (.dP 0))]) (Na a++ [r3,t3,.lt (.dP 5) (.lit 0),.eq (rr 600 [.dP 4] 0) (nm (ce 0 (el (.dP 0) (.dP 5))))]) G_ (z2 (fa hR eM) (by simp only [zz,eM,hR,hk]<;>omega)) (by rcases ha with rfl|rfl|rfl|rfl<;>kernel_rfl) (E7 eM V hs))
end
theorem am4 (eM:L 9000 [obj,enc s]=some [0,obj,enc s]) (h:obj<0):L 400 [enc d0,enc d1,enc s,th,op,obj,arg,tries]=some [enc s,0,0,0,0,0,0]:=
 tb hR (cm (Ya 0++ [.lt (.dP 5) (.lit 0)]) (Na 0++ []) (sp r3 (ou [cc 2,.lit 0,.lit 0,.lit 0,.lit 0,.lit 0,.lit 0]) (sp t3 (ou [cc 2,.lit 0,.lit 0,.lit 0,.lit 0,.lit 0,.lit 0]) (sp u3 (ou [cc 2,.lit 0,.lit 0,.lit 0,.lit 0,.lit 0,.lit 0]) (ou [cc 2,.lit 0,.lit 0,.lit 0,.lit 0,.lit 0,.lit 0])))) (z2 (fa hR eM) (by simp only [zz,eM]<;>omega)) aa (by simp only [zz,eM,hR,ite_self]))
theorem am3 (eM:L 9000 [obj,enc s]=some [0,obj,enc s]) (h0:0<=obj) (h: ¬obj<(s.l.length:Int)):L 400 [enc d0,enc d1,enc s,th,op,obj,arg,tries]=some [enc s,0,0,0,0,0,0]:=
 tb hR (cm (Ya 0++ []) (Na 0++ [.lt (.dP 5) (.lit 0),.lt (.dP 5) (ln (cc 2))]) (sp r3 (ou [cc 2,.lit 0,.lit 0,.lit 0,.lit 0,.lit 0,.lit 0]) (sp t3 (ou [cc 2,.lit 0,.lit 0,.lit 0,.lit 0,.lit 0,.lit 0]) (sp u3 (ou [cc 2,.lit 0,.lit 0,.lit 0,.lit 0,.lit 0,.lit 0]) (ou [cc 2,.lit 0,.lit 0,.lit 0,.lit 0,.lit 0,.lit 0])))) (z2 (fa hR eM) (by simp only [zz,eM]<;>omega)) aa (by simp only [zz,eM,hR,ite_self]))
theorem am2 (eM:L 9000 [obj,enc s]=some [1,obj]) (h:obj<0) (hs:s= .i 1):L 400 [enc d0,enc d1,enc s,th,op,obj,arg,tries]=some [enc s,0,0,0,0,0,0]:=
 tb hR (cm (Ya 1++ [.lt (.dP 5) (.lit 0)]) (Na 1++ []) (sp r3 (ou [.fk (.i 1),.lit 0,.lit 0,.lit 0,.lit 0,.lit 0,.lit 0]) (sp t3 (ou [.fk (.i 1),.lit 0,.lit 0,.lit 0,.lit 0,.lit 0,.lit 0]) (sp u3 (ou [.fk (.i 1),.lit 0,.lit 0,.lit 0,.lit 0,.lit 0,.lit 0]) (ou [.fk (.i 1),.lit 0,.lit 0,.lit 0,.lit 0,.lit 0,.lit 0])))) (z2 (fa hR eM) (by simp only [zz,eM]<;>omega)) aa (by simp only [zz,eM,hR,hs,ite_self]))
theorem am1 (eM:L 9000 [obj,enc s]=some [1,obj]) (h0:0<=obj) (h: ¬obj<(s.l.length:Int)) (hs:s= .i 1):L 400 [enc d0,enc d1,enc s,th,op,obj,arg,tries]=some [enc s,0,0,0,0,0,0]:=
 tb hR (cm (Ya 1++ []) (Na 1++ [.lt (.dP 5) (.lit 0)]) (sp r3 (ou [.fk (.i 1),.lit 0,.lit 0,.lit 0,.lit 0,.lit 0,.lit 0]) (sp t3 (ou [.fk (.i 1),.lit 0,.lit 0,.lit 0,.lit 0,.lit 0,.lit 0]) (sp u3 (ou [.fk (.i 1),.lit 0,.lit 0,.lit 0,.lit 0,.lit 0,.lit 0]) (ou [.fk (.i 1),.lit 0,.lit 0,.lit 0,.lit 0,.lit 0,.lit 0])))) (z2 (fa hR eM) (by simp only [zz,eM]<;>omega)) aa (by simp only [zz,eM,hR,hs,ite_self]))
theorem am0 (eM:L 9000 [obj,enc s]=some [2,obj]) (h:obj<0) (hs:s= .i 2):L 400 [enc d0,enc d1,enc s,th,op,obj,arg,tries]=some [enc s,0,0,0,0,0,0]:=
 tb hR (cm (Ya 2++ [.lt (.dP 5) (.lit 0)]) (Na 2++ []) (sp r3 (ou [.fk (.i 2),.lit 0,.lit 0,.lit 0,.lit 0,.lit 0,.lit 0]) (sp t3 (ou [.fk (.i 2),.lit 0,.lit 0,.lit 0,.lit 0,.lit 0,.lit 0]) (sp u3 (ou [.fk (.i 2),.lit 0,.lit 0,.lit 0,.lit 0,.lit 0,.lit 0]) (ou [.fk (.i 2),.lit 0,.lit 0,.lit 0,.lit 0,.lit 0,.lit 0])))) (z2 (fa hR eM) (by simp only [zz,eM]<;>omega)) aa (by simp only [zz,eM,hR,hs,ite_self]))
theorem amZ (eM:L 9000 [obj,enc s]=some [2,obj]) (h0:0<=obj) (h: ¬obj<(s.l.length:Int)) (hs:s= .i 2):L 400 [enc d0,enc d1,enc s,th,op,obj,arg,tries]=some [enc s,0,0,0,0,0,0]:=
 tb hR (cm (Ya 2++ []) (Na 2++ [.lt (.dP 5) (.lit 0)]) (sp r3 (ou [.fk (.i 2),.lit 0,.lit 0,.lit 0,.lit 0,.lit 0,.lit 0]) (sp t3 (ou [.fk (.i 2),.lit 0,.lit 0,.lit 0,.lit 0,.lit 0,.lit 0]) (sp u3 (ou [.fk (.i 2),.lit 0,.lit 0,.lit 0,.lit 0,.lit 0,.lit 0]) (ou [.fk (.i 2),.lit 0,.lit 0,.lit 0,.lit 0,.lit 0,.lit 0])))) (z2 (fa hR eM) (by simp only [zz,eM]<;>omega)) aa (by simp only [zz,eM,hR,hs,ite_self]))
end
def kindOf (o:Int):Int:=if o<27 then (if o=0 then 0 else if o=1 then 1 else if o=2 then 1 else if o=3 then 1 else if o=4 then 1 else if o=5 then 2 else if o=6 then 2 else if o=7 then 2 else if o=8 then 2 else if o=9 then 3 else if o=10 then 3 else if o=11 then 3 else if o=12 then 4 else if o=13 then 4 else if o=14 then 4 else if o=15 then 5 else if o=16 then 6 else if o=17 then 7 else if o=18 then 7 else if o=19 then 7 else if o=20 then 8 else if o=21 then 8 else if o=22 then 9 else if o=23 then 9 else if o=24 then 4 else if o=25 then 5 else 6) else 0
theorem On (o:Int) (h:gx .u8 o):L 600 [o]=some [kindOf o]:=by
 have U:=h.1;have w:=amm h;have c1: ¬(o<0):=J
 rw [bI,aoG];simp only [amz,zz,w,c1];by_cases h27:o<27
 ·simp only [ag h27];have:o=0\/o=1\/o=2\/o=3\/o=4\/o=5\/o=6\/o=7\/o=8\/o=9\/o=10\/o=11\/o=12\/o=13\/o=14\/o=15\/o=16\/o=17\/o=18\/o=19\/o=20\/o=21\/o=22\/o=23\/o=24\/o=25\/o=26:=J
  rcases this with rfl|rfl|rfl|rfl|rfl|rfl|rfl|rfl|rfl|rfl|rfl|rfl|rfl|rfl|rfl|rfl|rfl|rfl|rfl|rfl|rfl|rfl|rfl|rfl|rfl|rfl|rfl
  all_goals rfl
 ·simp only [af h27];unfold kindOf;rw [af h27];rfl
theorem M! {o:Int} (h0:0<=o) (h:kindOf o≠0):o∈ops:=by
 have h27:o<27:=by
  refine Decidable.byContradiction fun hn=>h ?_;unfold kindOf
  grind
 have:o=0\/o=1\/o=2\/o=3\/o=4\/o=5\/o=6\/o=7\/o=8\/o=9\/o=10\/o=11\/o=12\/o=13\/o=14\/o=15\/o=16\/o=17\/o=18\/o=19\/o=20\/o=21\/o=22\/o=23\/o=24\/o=25\/o=26:=J
 rcases this with rfl|rfl|rfl|rfl|rfl|rfl|rfl|rfl|rfl|rfl|rfl|rfl|rfl|rfl|rfl|rfl|rfl|rfl|rfl|rfl|rfl|rfl|rfl|rfl|rfl|rfl|rfl
 all_goals first |exact absurd rfl h|decide
structure Acc (d0 d1 s:D) (th op obj:Int):Prop where
 r:L 350 [enc d0,enc d1,enc s]=some [1]
 t0:0<=th
 t1:th<(d1.l.length:Int)
 o0:0<=obj
 o1:obj<(s.l.length:Int)
 k:kindOf op=((d0.at obj).V 0).n
structure Tg (x:D) (o c dn g:Int) (r v:D):Prop where
 is:x=dL [.i o,.i c,.i dn,.i g,r,v]
 ho:gx .i64 o
 hc:gx .i64 c
 V:dn=0\/dn=1
 hg:gx .i64 g
 hr:Wd (.sl 0) r
 hv:Wd (.sl 0) v
theorem tn {x:D} (h:jr x): ∃o c dn g r v,Tg x o c dn g r v:=by obtain⟨o,c,d,g,r,v,U,Z,h3,h4,h5,h6,h7⟩:=h;exact⟨o,c,d,g,r,v,U,Z,h3,h4,h5,h6,h7⟩
theorem Ud {r:D} (h:Wd (.sl 0) r): ∀x∈r.l,x= .i x.n:=by intro x Y;obtain⟨n,rfl,_⟩:=(h.el1 rfl x Y).i;rfl
def nt (s:D):Prop:= ∀x∈s.l,(x.V 4).l.length<17592186044415/\(x.V 5).l.length<17592186044415
theorem nt.rows {s:D} (h:nt s):CC s:=fun x Y=>by have:=(h x Y).1; omega
section
variable {d0 d1 s:D} {th op obj arg tries:Int} (h0:Wd (.sl 3) d0) (U:Wd (.sl 4) d1) (hs:Wd (.sl 7) s) (hf:nt s) (pe:gx .u8 op)
include h0 U hf in
theorem F5 (h:L 350 [enc d0,enc d1,enc s]=some [1]):zJ d0 d1/\s.l.length=d0.l.length:=by
 obtain⟨b,hb,_,hi⟩:=lz h0 U hf.rows;rw [h] at hb;simp only [ah,List.cons.injEq,and_true] at hb;obtain⟨hC,hle,_⟩:=hi.1 hb.symm;obtain⟨ys,hC',c,rfl,_,si⟩:=Dm h0 U
 grind
include h0 U hf in
theorem M3 (A:Acc d0 d1 s th op obj):wJ d0 (d0.at obj)/\s.l.length=d0.l.length:=by
 obtain⟨si,hle⟩:=F5 h0 U hf A.r;refine⟨?_,hle⟩;have a1:=A.o0; have a2:=A.o1;obtain⟨i,rfl⟩ : ∃i:Nat,obj=(i:Int):=⟨obj.toNat,J⟩;have hi:i<d0.l.length:=J
 rw [bG hi];exact si.2.2 _ (aq hi)
include h0 U hs hf pe
theorem H6 (A:Acc d0 d1 s th op obj) (h:op=12\/op=24):0<=Mx d0 obj/\Mx d0 obj<(s.l.length:Int)/\Mx d0 obj≠obj:=by
 obtain⟨ho,hle⟩:=M3 h0 U hf A
 have h4:((d0.at obj).V 0).n=4:=by rw [<- A.k];rcases h with rfl|rfl<;>rfl
 obtain⟨m1,m2,m3⟩:=ho.2.2.2.2.2 h4
 grind
theorem Ay (A:Acc d0 d1 s th op obj):op∈ops/\∃o c dn g r v,Tg (s.at obj) o c dn g r v/\
 L 400 [enc d0,enc d1,enc s,th,op,obj,arg,tries]=some (Gr s th op obj (Mx d0 obj) (act (Mx d0 obj) (Mo d0 s obj) th op arg tries o c dn g r v)):=by
 obtain⟨ho,hle⟩:=M3 h0 U hf A;have uc:op∈ops:=M! pe.1 (by rw [A.k]; have:=ho.1; omega);have a1:=A.o0; have a2:=A.o1;obtain⟨i,rfl⟩ : ∃i:Nat,obj=(i:Int):=⟨obj.toNat,J⟩;have hi:i<s.l.length:=J
 have ht:=Az hs J;obtain⟨o,c,dn,g,r,v,T⟩:=tn (hs.lx _ (aq hi));have hfx:=hf _ (aq hi);rw [T.is] at hfx;have zT:L 600 [op]=some [((d0.at (i:Int)).V 0).n]:=by rw [On op pe,A.k]
 refine⟨uc,o,c,dn,g,r,v,by rw [bG hi]; exact T,?_⟩;refine adf ⟨ahO s ht i hi o c dn g r v T.is,acy s hs,A.r,A.t0,A.t1,A.o0,A.o1,hle,zT,?_,?_,(Ud T.hr),fun h=>H6 h0 U hs hf pe A h⟩ uc
 ·have:(r.l.length:Int)<17592186044415:=asL.2 hfx.1
  grind
 ·have:(v.l.length:Int)<17592186044415:=asL.2 hfx.2
  grind
theorem FF (A: ¬Acc d0 d1 s th op obj):L 400 [enc d0,enc d1,enc s,th,op,obj,arg,tries]=some [enc s,0,0,0,0,0,0]:=by
 obtain⟨b,hb,EF,_⟩:=lz h0 U hf.rows;by_cases ho:0<=obj/\obj<(s.l.length:Int)
 ·obtain⟨i,rfl⟩ : ∃i:Nat,obj=(i:Int):=⟨obj.toNat,J⟩;have hi:i<s.l.length:=J
  have ht:=Az hs J;obtain⟨o,c,dn,g,r,v,T⟩:=tn (hs.lx _ (aq hi));have eM:=ahO s ht i hi o c dn g r v T.is
  have hss:s=dL (dE s.l (i:Int) (dL [.i o,.i c,.i dn,.i g,r,v])):=by
   have:=fv ht.sh hi;rw [T.is] at this
   grind
  have zT:=On op pe
  have key: ∀alt:Int,(alt=3\/alt=4\/alt=5\/alt=6)->L 9000 [(i:Int),enc s]=some [alt,(i:Int),enc s,o,c,dn,g,enc r,enc v]->L 400 [enc d0,enc d1,enc s,th,op,(i:Int),arg,tries]=some [enc s,0,0,0,0,0,0]:=by
   intro alt ha eM;by_cases pj:b=0
   ·exact apB hb ha eM ho.1 ho.2 T.V hss pj
   ·have G5:b=1:=J
    by_cases t0:th<0
    ·exact apA hb ha eM ho.1 ho.2 T.V hss pj t0
    ·by_cases t1:th<(d1.l.length:Int)
     ·have jK: ¬kindOf op=((d0.at (i:Int)).V 0).n:=fun hk=>A ⟨by rw [hb,G5],J,t1,ho.1,ho.2,hk⟩;obtain⟨_,hle⟩:=F5 h0 U hf (by rw [hb,G5]);exact apC hb ha eM ho.1 ho.2 T.V hss pj J t1 zT hle jK
     ·exact apz hb ha eM ho.1 ho.2 T.V hss pj J t1
  refine key _ ?_ eM;unfold mI
  grind
 ·obtain⟨ys,hc,JV⟩:=aoP s hs obj J;by_cases hn:obj<0
  ·rcases JV with rfl|⟨rfl,he⟩|⟨rfl,he⟩
   ·exact am4 hb hc hn
   ·exact am2 hb hc hn he
   ·exact am0 hb hc hn he
  ·rcases JV with rfl|⟨rfl,he⟩|⟨rfl,he⟩
   ·exact am3 hb hc J J
   ·exact am1 hb hc J J he
   ·exact amZ hb hc J J he
end
theorem EV {d:D} {l:List D} (h: ∀x∈l,∃n,x= .i n/\gx .i64 n) (hl:l.length<=17592186043904):Wd (.sl 0) (fZ d l):=by
 cases l with
 |nil=>
  show Wd (.sl 0) (if d= .i 1 then .i 1 else .i 2);split
  ·exact .nil 0
  ·exact .xZ 0
 |cons a l=> refine .one 0 (.int .i64) (a::l) rfl ad (by have:mU 0=8:=rfl; rw [this]; omega) fun x Y=>?_;obtain⟨n,rfl,hn⟩:=h x Y;exact .int _ _ hn
theorem xQ {l:List D} (h: ∀x∈l,∃n,x= .i n/\gx .i64 n) (hn:l≠[]) (hl:l.length<=17592186043904):Wd (.sl 0) (dL l):=by rw [<- BI (d:=.i 2) hn];exact EV h hl
theorem uh {r:D} (h:Wd (.sl 0) r): ∀x∈r.l,∃n,x= .i n/\gx .i64 n:=fun x Y=>(h.el1 rfl x Y).i
theorem sj (z:Int):gx .i64 (IntKind.i64.wrap z):=by constructor<;>(rw [IntKind.wrap_i64]; omega)
def Ih (n:Nat):Act->Prop
 | .res o c dn g r v m _ oc=>gx .i64 o/\gx .i64 c/\(dn=0\/dn=1)/\gx .i64 g/\Wd (.sl 0) r/\r.l.length<=n/\Wd (.sl 0) v/\v.l.length<=n/\(∀q,m=some q->gx .i64 q)/\(oc=2\/oc=3)
 |_=>True
theorem Ih.ite {n:Nat} {p:Prop} [Decidable p] {a b:Act} (ha:Ih n a) (hb:Ih n b):Ih n (if p then a else b):=by
 grind
def NoM:Act->Prop
 | .res _ _ _ _ _ _ m _ _=>m=none
 |_=>True
theorem NoM.ite {p:Prop} [Decidable p] {a b:Act} (ha:NoM a) (hb:NoM b):NoM (if p then a else b):=by
 grind
section
variable {x:D} {M mo th op arg tries o c dn g:Int} {r v:D}
theorem alg (T:Tg x o c dn g r v) {n:Nat} (hr:r.l.length<=n) (hv:v.l.length<=n) (hn:n<17592186043904) (ht:gx .i64 th) (ha:gx .i64 arg):Ih (n+1) (act M mo th op arg tries o c dn g r v):=by
 have hm:gx .i64 (-1):=⟨J,J⟩;have hz:gx .i64 0:=⟨J,J⟩;have e1: ∀q:Int,(none:Option Int)=some q->gx .i64 q:=fun q h=>by simp at h
 have e2: ∀{p:Int},gx .i64 p->∀q:Int,some p=some q->gx .i64 q:=fun hp q h=>by simp only [ah] at h; exact h▸hp
 have hr1:r.l.length<=n+1:=J
 have hv1:v.l.length<=n+1:=J
 have w:=@sj
 have sn: ∀{l:List D} {t:Int},(∀x∈l,∃n,x= .i n/\gx .i64 n)->gx .i64 t->∀x∈l++ [.i t],∃n,x= .i n/\gx .i64 n:=fun h ht x Y=>by
  grind
 have r5:Wd (.sl 0) (dL (r.l++ [.i th])):=xQ (sn (uh T.hr) ht) ad (by simp; omega);have l5:(dL (r.l++ [.i th])).l.length<=n+1:=by rw [bz]; simp; omega
 have r20:Wd (.sl 0) (dL (v.l++ [.i arg])):=xQ (sn (uh T.hv) ha) ad (by simp; omega);have l20:(dL (v.l++ [.i arg])).l.length<=n+1:=by rw [bz]; simp; omega
 have r12:Wd (.sl 0) (dL (wo th r.l++ [.i th])):=xQ (sn (fun x Y=>(uh T.hr) x (arW.1 Y).1) ht) ad (by have:=KJ th r.l; simp; omega);have l12:(dL (wo th r.l++ [.i th])).l.length<=n+1:=by have:=KJ th r.l; rw [bz]; simp; omega
 have r6: ∀k,Wd (.sl 0) (fZ (.i 2) (r.l.take k++r.l.drop (k+1))):=fun k=>EV (fun x Y=>by
  rcases arG.1 Y with Y|Y
  ·exact (uh T.hr) x (arx Y)
  ·exact (uh T.hr) x (arv Y)) (by simp only [bc,a8,bo]; omega)
 have l6: ∀k,(fZ (.i 2) (r.l.take k++r.l.drop (k+1))).l.length<=n+1:=fun k=>by rw [bB]; simp only [bc,a8,bo]; omega
 have r21:Wd (.sl 0) (fZ v (v.l.drop 1)):=EV (fun x Y=>(uh T.hv) x (arv Y)) (by simp; omega);have l21:(fZ v (v.l.drop 1)).l.length<=n+1:=by rw [bB]; simp; omega
 have r13:Wd (.sl 0) (fZ r (r.l.drop 1)):=EV (fun x Y=>(uh T.hr) x (arv Y)) (by simp; omega);have l13:(fZ r (r.l.drop 1)).l.length<=n+1:=by rw [bB]; simp; omega
 have r14:Wd (.sl 0) (.i 1):=.nil 0;have l14:(D.i 1).l.length<=n+1:=by simp [D.l]
 unfold act
 repeat' refine Ih.ite ?_ ?_
 all_goals first
  |trivial
  |exact⟨by first |exact T.ho|exact ht|exact hm,by first |exact T.hc|exact w _|exact ha|exact hz,by first |exact T.V|exact .inr rfl,by first |exact T.hg|exact w _,by first |exact T.hr|exact r5|exact r6 _|exact r12|exact r13|exact r14,by first |exact hr1|exact l5|exact l6 _|exact l12|exact l13|exact l14,by first |exact T.hv|exact r20|exact r21,by first |exact hv1|exact l20|exact l21,by first |exact e1|exact e2 hm|exact e2 ht,by first |exact .inl rfl|exact .inr rfl⟩
theorem Ye (h12:op≠12) (h24:op≠24):NoM (act M mo th op arg tries o c dn g r v):=by
 unfold act;rw [af h12,af h24]
 repeat' refine NoM.ite ?_ ?_
 all_goals first
  |exact rfl
  |trivial
end
def isN (ys:List Int):Prop:= ∃v:Int,ys= [v]/\gx .i64 v
theorem P!:isN [0]:=⟨0,rfl,by constructor<;>omega⟩
theorem P_:isN [1]:=⟨1,rfl,by constructor<;>omega⟩
theorem agl (z:Int):isN [IntKind.i64.wrap z]:=⟨_,rfl,sj z⟩
theorem FY: ∀{d x:D},x∈d.l->SizeOf.sizeOf x<SizeOf.sizeOf d
 | .i _,x,h=>by simp [D.l] at h
 | .p a b,x,h=>by
   simp only [D.l,aH] at h;rcases h with rfl|h
   ·grind
   ·have:=FY (d:=b) h
    grind
def ac3 (l:List D):Prop:= ∀y∈l,gx .i64 (aci y).n
theorem G?:ac3 []:=fun y h=>by simp at h
theorem AX: ∀{l:List D} {k v:D},ac3 l->gx .i64 v.n->ac3 (vM l k v)
 |[],k,v,_,hv=>by intro y hy;simp only [vM,aH,arN,or_false] at hy;subst hy;exact hv
 |d::l,k,v,hl,hv=>by
  intro y hy;simp only [vM] at hy;split at hy
  ·simp only [aH] at hy;rcases hy with rfl|hy
   ·exact hv
   ·exact hl y (by simp [hy])
  ·simp only [aH] at hy;rcases hy with rfl|hy
   ·exact hl _ ad
   ·exact AX (fun z hz=>hl z (by simp [hz])) hv y hy
theorem N8: ∀{l:List D} {k:D},ac3 l->gx .i64 ((lE l k).getD (.i 0)).n
 |[],k,_=>by constructor<;>simp [lE,D.n]
 |d::l,k,hl=>by
  simp only [lE];split
  ·exact hl d ad
  ·exact N8 fun y hy=>hl y (by simp [hy])
theorem aeb {l:List D} {k:D} (h:ac3 l):isN [((lE l k).getD (.i 0)).n]:=⟨_,rfl,N8 h⟩
def Yw (d:D):Prop:= ∀x∈d.l,gx .i64 x.n
theorem ints_at {d:D} (h:Yw d) {i:Int} (h0: ¬i<0) (U:i<(d.l.length:Int)):gx .i64 (d.at i).n:=by obtain⟨k,rfl⟩ : ∃k:Nat,i=(k:Int):=⟨i.toNat,J⟩;rw [bG (by omega:k<d.l.length)];exact h _ (aq _)
set_option maxHeartbeats 4000000 in
theorem OZ: ∀(N:Nat) (kids:D),SizeOf.sizeOf kids<=N->Wd (.sl 6) kids->∀(k n:Int) (s loc:D),gx .i64 n->Yw loc->bL 1950 [k,enc s,n,enc kids,enc loc] isN
 |0,kids,hN,_,_,_,_,_,_,_=>by exfalso;cases kids<;>simp at hN
 |N+1,kids,hN,hk,k,n,s,loc,hn,hi=>by
  have sub: ∀i:Nat,∃v:Int,gx .i64 v/\(i<kids.l.length->L 1950 [((kids.at (i:Int)).V 0).n,enc ((kids.at (i:Int)).V 1),((kids.at (i:Int)).V 2).n,enc ((kids.at (i:Int)).V 3),enc loc]=some [v]):=by
   intro i;by_cases di:i<kids.l.length
   ·obtain⟨k',s',n',A3,he,_,_,XH,Z⟩:=qM hk di
    have iY:SizeOf.sizeOf A3<SizeOf.sizeOf kids.l[i]:=by rw [he];exact FY (by rw [bz]; simp)
    have anM:=FY (aq di);obtain⟨ys,hL,v,rfl,hv⟩:=OZ N A3 J Z k' n' s' loc XH hi;refine⟨v,hv,fun _=>?_⟩;rw [bG di,he];simp only [zg,ay];exact hL
   grind
  obtain⟨v0,gp,h0⟩:=sub 0;obtain⟨v1,hv1,U⟩:=sub 1;by_cases l1:(kids.l.length:Int)=1
  ·have h0:=h0 J;simp only [art] at h0;refine bL.of ?_;rw [Eh];simp only [yQ,zz,l1,h0]
   repeat' first |exact .out ⟨_,rfl,hn⟩|exact .out P!|exact .out P_|exact .out (agl _)|exact .out ⟨_,rfl,ints_at hi ‹_› ‹_›⟩|refine .ite (fun _=>?_) (fun _=>?_)
  ·by_cases l2:(kids.l.length:Int)=2
   ·have h0:=h0 J;have U:=U J;simp only [art,aL] at h0 U;refine bL.of ?_;rw [Eh];simp only [yQ,zz,l1,l2,h0,U]
    repeat' first |exact .out ⟨_,rfl,hn⟩|exact .out P!|exact .out P_|exact .out (agl _)|exact .out ⟨_,rfl,ints_at hi ‹_› ‹_›⟩|(simp only [bz]; exact .out (aeb (AX (AX (AX G? (sj _)) (sj _)) (sj _))))|refine .ite (fun _=>?_) (fun _=>?_)
   ·refine bL.of ?_;rw [Eh];simp only [yQ,zz,l1,l2]
    repeat' first |exact .out ⟨_,rfl,hn⟩|exact .out P!|exact .out P_|exact .out ⟨_,rfl,ints_at hi ‹_› ‹_›⟩|refine .ite (fun _=>?_) (fun _=>?_)
structure Kt (x:D) (a:Int) (lc:D) (w o g tr:Int):Prop where
 is:x=dL [.i a,lc,.i w,.i o,.i g,.i tr]
 ha:gx .i64 a
 hl:Wd (.sl 0) lc
 hw:gx .u8 w
 ho:gx .i64 o
 hg:gx .i64 g
 ht:gx .i64 tr
theorem gA {d:D} (h:Wd (.sl 8) d): ∀x∈d.l,∃a lc w o g tr,Kt x a lc w o g tr:=by intro x Y;obtain⟨r,rfl,hl,hc⟩:=h.elN (cs:=[.int .i64,.sl 0,.int .u8,.int .i64,.int .i64,.int .i64]) rfl x Y;obtain⟨a,b,c,d,e,f,rfl⟩:=six hl;obtain⟨a,rfl,ha⟩:=(hc 0 _ _ rfl rfl).i;obtain⟨w,rfl,hw⟩:=(hc 2 _ _ rfl rfl).i;obtain⟨o,rfl,ho⟩:=(hc 3 _ _ rfl rfl).i;obtain⟨g,rfl,hg⟩:=(hc 4 _ _ rfl rfl).i;obtain⟨t,rfl,ht⟩:=(hc 5 _ _ rfl rfl).i;exact⟨a,b,w,o,g,t,rfl,ha,hc 1 _ _ rfl rfl,hw,ho,hg,ht⟩
structure Tk (d:D):Prop where
 wd:Wd (.sl 8) d
 sh:d=dL d.l
 nt:d.l.length<=2199023255500
theorem FH {d:D} (h:Wd (.sl 8) d) (hn:0<d.l.length):Tk d:=by
 refine⟨h,?_,?_⟩
 ·rcases h.sh with rfl|rfl|⟨U,_⟩
  ·simp [D.l] at hn
  ·simp [D.l] at hn
  grind
 ·have hr:=h.room;have h3:mU 8=64:=rfl
  grind
theorem vv (a b c d e f x:D):dE [a,b,c,d,e,f] 1 x= [a,x,c,d,e,f]:=rfl
theorem bx (j:Nat) (xs:List Int):fin L (.jump j xs)=L j xs:=rfl
theorem bU (ys:List Int):fin L (.out ys)=some ys:=rfl
def yK (lc:D):Int:=if 0<lc.l.length then 3 else 4
theorem H4 {lc:D} (h:(0:Int)<(lc.l.length:Int)):yK lc=3:=ag J
theorem MK (d:D) (h:Th d) (x0:Int) (k:D): ∀(j i:Nat),i+j=d.l.length->L 9051 [x0,(d.l.length:Int),(i:Int),enc d,enc k]=L 9060 [x0,(k.l.length:Int),0,enc d,enc k]
 |0,i,hi=>by
  have c1: ¬(i:Int)<(d.l.length:Int):=J
  rw [bI,aaO];simp only [ZY,zz,c1,bx,art]
 |j+1,i,hi=>by
  have hl:=h.nt;have di:i<d.l.length:=J
  have c1:(i:Int)<(d.l.length:Int):=J
  have c2: ¬((i:Int)<0):=J
  have w:=bF (n:=i) J;have ih:=MK d h x0 k j (i+1) J;obtain⟨o,c,dn,g,r,v,he,_,_,_,_,hr,hv⟩:=h.wd.lx _ (aq di);have hs:=fv h.sh di;rw [he] at hs;rw [bI,aaO];rcases cR hr with rfl|rfl|⟨r1,r2⟩ <;>rcases cR hv with rfl|rfl|⟨v1,v2⟩
  all_goals
   simp only [ZY,zz,c1,c2,w,bG di,he,ep,bz,aF,aG,It,Is,hs,jE,kH,sc,kG]
   try simp only [r1,r2,zz]
   try simp only [v1,v2,zz]
   try simp only [bx]
   exact ih
theorem Wa (d:D) (h:Th d) (x0:Int): ∀(j i:Nat),i+j=d.l.length->L 9052 [x0,(d.l.length:Int),(i:Int),enc d]=L 9061 [x0,enc d]
 |0,i,hi=>by
  have c1: ¬(i:Int)<(d.l.length:Int):=J
  rw [bI,aaN];simp only [ZX,zz,c1,bx,art]
 |j+1,i,hi=>by
  have hl:=h.nt;have di:i<d.l.length:=J
  have c1:(i:Int)<(d.l.length:Int):=J
  have c2: ¬((i:Int)<0):=J
  have w:=bF (n:=i) J;have ih:=Wa d h x0 j (i+1) J;obtain⟨o,c,dn,g,r,v,he,_,_,_,_,hr,hv⟩:=h.wd.lx _ (aq di);have hs:=fv h.sh di;rw [he] at hs;rw [bI,aaN];rcases cR hr with rfl|rfl|⟨r1,r2⟩ <;>rcases cR hv with rfl|rfl|⟨v1,v2⟩
  all_goals
   simp only [ZX,zz,c1,c2,w,bG di,he,ep,bz,aF,aG,It,Is,hs,jE,kH,sc,kG]
   try simp only [r1,r2,zz]
   try simp only [v1,v2,zz]
   try simp only [bx]
   exact ih
theorem V9 (d:D) (h:Th d) (x0:Int): ∀(j i:Nat),i+j=d.l.length->L 9053 [x0,(d.l.length:Int),(i:Int),enc d]=L 9062 [x0,enc d]
 |0,i,hi=>by
  have c1: ¬(i:Int)<(d.l.length:Int):=J
  rw [bI,aaM];simp only [ZW,zz,c1,bx,art]
 |j+1,i,hi=>by
  have hl:=h.nt;have di:i<d.l.length:=J
  have c1:(i:Int)<(d.l.length:Int):=J
  have c2: ¬((i:Int)<0):=J
  have w:=bF (n:=i) J;have ih:=V9 d h x0 j (i+1) J;obtain⟨o,c,dn,g,r,v,he,_,_,_,_,hr,hv⟩:=h.wd.lx _ (aq di);have hs:=fv h.sh di;rw [he] at hs;rw [bI,aaM];rcases cR hr with rfl|rfl|⟨r1,r2⟩ <;>rcases cR hv with rfl|rfl|⟨v1,v2⟩
  all_goals
   simp only [ZW,zz,c1,c2,w,bG di,he,ep,bz,aF,aG,It,Is,hs,jE,kH,sc,kG]
   try simp only [r1,r2,zz]
   try simp only [v1,v2,zz]
   try simp only [bx]
   exact ih
theorem Wi (k:D) (h:Tk k) (x0:Int): ∀(j i:Nat),(Y:x0<0\/(k.l.length:Int)<=x0)->i+j=k.l.length->L 9066 [x0,(k.l.length:Int),(i:Int),enc k]=some [0,x0,enc (.i 2),enc k]
 |0,i,Y,hi=>by
  have c1: ¬(i:Int)<(k.l.length:Int):=J
  rw [bI,Pj];by_cases c0:(i:Int)=x0
  ·subst c0;simp only [DA,zz,c1,bU]
  ·simp only [DA,zz,c0,c1,bU]
 |j+1,i,Y,hi=>by
  have hl:=h.nt;have di:i<k.l.length:=J
  have c1:(i:Int)<(k.l.length:Int):=J
  have c2: ¬((i:Int)<0):=J
  have c0: ¬((i:Int)=x0):=J
  have w:=bF (n:=i) J;have ih:=Wi k h x0 j (i+1) Y J;obtain⟨a,lc,w',o,g,tr,T⟩:=gA h.wd _ (aq di);have hs:=fv h.sh di;rw [T.is] at hs;rw [bI,Pj];rcases cR T.hl with rfl|rfl|⟨r1,r2⟩
  all_goals
   simp only [DA,zz,c0,c1,c2,w,bG di,T.is,ep,bz,aF,aG,vv,hs,jE,kH,sc,kG]
   try simp only [r1,r2,zz]
   try simp only [bx]
   exact ih
theorem Wk (k:D) (h:Tk k) (x0:Int) (s:D): ∀(j i:Nat),(Y:x0<0\/(k.l.length:Int)<=x0)->i+j=k.l.length->L 9060 [x0,(k.l.length:Int),(i:Int),enc s,enc k]=some [0,x0,enc s,enc k]
 |0,i,Y,hi=>by
  have c1: ¬(i:Int)<(k.l.length:Int):=J
  rw [bI,Pl];by_cases c0:(i:Int)=x0
  ·subst c0;simp only [DC,zz,c1,bU]
  ·simp only [DC,zz,c0,c1,bU]
 |j+1,i,Y,hi=>by
  have hl:=h.nt;have di:i<k.l.length:=J
  have c1:(i:Int)<(k.l.length:Int):=J
  have c2: ¬((i:Int)<0):=J
  have c0: ¬((i:Int)=x0):=J
  have w:=bF (n:=i) J;have ih:=Wk k h x0 s j (i+1) Y J;obtain⟨a,lc,w',o,g,tr,T⟩:=gA h.wd _ (aq di);have hs:=fv h.sh di;rw [T.is] at hs;rw [bI,Pl];rcases cR T.hl with rfl|rfl|⟨r1,r2⟩
  all_goals
   simp only [DC,zz,c0,c1,c2,w,bG di,T.is,ep,bz,aF,aG,vv,hs,jE,kH,sc,kG]
   try simp only [r1,r2,zz]
   try simp only [bx]
   exact ih
theorem Wj (k:D) (h:Tk k) (x0:Int): ∀(j i:Nat),(Y:x0<0\/(k.l.length:Int)<=x0)->i+j=k.l.length->L 9063 [x0,(k.l.length:Int),(i:Int),enc k]=some [0,x0,enc (.i 1),enc k]
 |0,i,Y,hi=>by
  have c1: ¬(i:Int)<(k.l.length:Int):=J
  rw [bI,Pk];by_cases c0:(i:Int)=x0
  ·subst c0;simp only [DB,zz,c1,bU]
  ·simp only [DB,zz,c0,c1,bU]
 |j+1,i,Y,hi=>by
  have hl:=h.nt;have di:i<k.l.length:=J
  have c1:(i:Int)<(k.l.length:Int):=J
  have c2: ¬((i:Int)<0):=J
  have c0: ¬((i:Int)=x0):=J
  have w:=bF (n:=i) J;have ih:=Wj k h x0 j (i+1) Y J;obtain⟨a,lc,w',o,g,tr,T⟩:=gA h.wd _ (aq di);have hs:=fv h.sh di;rw [T.is] at hs;rw [bI,Pk];rcases cR T.hl with rfl|rfl|⟨r1,r2⟩
  all_goals
   simp only [DB,zz,c0,c1,c2,w,bG di,T.is,ep,bz,aF,aG,vv,hs,jE,kH,sc,kG]
   try simp only [r1,r2,zz]
   try simp only [bx]
   exact ih
theorem Wh (k:D) (h:Tk k) (gi:Nat) (x4 x5 x6 x7 x8 x9:Int) (s:D): ∀(j i:Nat),gi<i->i+j=k.l.length->L 9069 [(gi:Int),(k.l.length:Int),(i:Int),enc s,enc k,x4,x5,x6,x7,x8,x9]=some [3,(gi:Int),enc s,enc k,x4,x5,x6,x7,x8,x9]
 |0,i,hg,hi=>by
  have c1: ¬(i:Int)<(k.l.length:Int):=J
  have c0: ¬((i:Int)=(gi:Int)):=J
  rw [bI,aaL];simp only [ZV,zz,c0,c1,bU]
 |j+1,i,hg,hi=>by
  have hl:=h.nt;have di:i<k.l.length:=J
  have c1:(i:Int)<(k.l.length:Int):=J
  have c2: ¬((i:Int)<0):=J
  have c0: ¬((i:Int)=(gi:Int)):=J
  have w:=bF (n:=i) J;have ih:=Wh k h gi x4 x5 x6 x7 x8 x9 s j (i+1) J J;obtain⟨a,lc,w',o,g,tr,T⟩:=gA h.wd _ (aq di);have hs:=fv h.sh di;rw [T.is] at hs;rw [bI,aaL];rcases cR T.hl with rfl|rfl|⟨r1,r2⟩
  all_goals
   simp only [ZV,zz,c0,c1,c2,w,bG di,T.is,ep,bz,aF,aG,vv,hs,jE,kH,sc,kG]
   try simp only [r1,r2,zz]
   try simp only [bx]
   exact ih
theorem MN (k:D) (h:Tk k) (gi:Nat) (x4 x5 x6 x7 x8 x9:Int) (s:D): ∀(j i:Nat),gi<i->i+j=k.l.length->L 9070 [(gi:Int),(k.l.length:Int),(i:Int),enc s,enc k,x4,x5,x6,x7,x8,x9]=some [4,(gi:Int),enc s,enc k,x4,x5,x6,x7,x8,x9]
 |0,i,hg,hi=>by
  have c1: ¬(i:Int)<(k.l.length:Int):=J
  have c0: ¬((i:Int)=(gi:Int)):=J
  rw [bI,aaK];simp only [ZU,zz,c0,c1,bU]
 |j+1,i,hg,hi=>by
  have hl:=h.nt;have di:i<k.l.length:=J
  have c1:(i:Int)<(k.l.length:Int):=J
  have c2: ¬((i:Int)<0):=J
  have c0: ¬((i:Int)=(gi:Int)):=J
  have w:=bF (n:=i) J;have ih:=MN k h gi x4 x5 x6 x7 x8 x9 s j (i+1) J J;obtain⟨a,lc,w',o,g,tr,T⟩:=gA h.wd _ (aq di);have hs:=fv h.sh di;rw [T.is] at hs;rw [bI,aaK];rcases cR T.hl with rfl|rfl|⟨r1,r2⟩
  all_goals
   simp only [ZU,zz,c0,c1,c2,w,bG di,T.is,ep,bz,aF,aG,vv,hs,jE,kH,sc,kG]
   try simp only [r1,r2,zz]
   try simp only [bx]
   exact ih
theorem Wg (k:D) (h:Tk k) (gi:Nat) (x4 x5 x6 x7 x8 x9:Int): ∀(j i:Nat),gi<i->i+j=k.l.length->L 9071 [(gi:Int),(k.l.length:Int),(i:Int),enc k,x4,x5,x6,x7,x8,x9]=some [3,(gi:Int),enc (.i 1),enc k,x4,x5,x6,x7,x8,x9]
 |0,i,hg,hi=>by
  have c1: ¬(i:Int)<(k.l.length:Int):=J
  have c0: ¬((i:Int)=(gi:Int)):=J
  rw [bI,aaJ];simp only [ZT,zz,c0,c1,bU]
 |j+1,i,hg,hi=>by
  have hl:=h.nt;have di:i<k.l.length:=J
  have c1:(i:Int)<(k.l.length:Int):=J
  have c2: ¬((i:Int)<0):=J
  have c0: ¬((i:Int)=(gi:Int)):=J
  have w:=bF (n:=i) J;have ih:=Wg k h gi x4 x5 x6 x7 x8 x9 j (i+1) J J;obtain⟨a,lc,w',o,g,tr,T⟩:=gA h.wd _ (aq di);have hs:=fv h.sh di;rw [T.is] at hs;rw [bI,aaJ];rcases cR T.hl with rfl|rfl|⟨r1,r2⟩
  all_goals
   simp only [ZT,zz,c0,c1,c2,w,bG di,T.is,ep,bz,aF,aG,vv,hs,jE,kH,sc,kG]
   try simp only [r1,r2,zz]
   try simp only [bx]
   exact ih
theorem MM (k:D) (h:Tk k) (gi:Nat) (x4 x5 x6 x7 x8 x9:Int): ∀(j i:Nat),gi<i->i+j=k.l.length->L 9072 [(gi:Int),(k.l.length:Int),(i:Int),enc k,x4,x5,x6,x7,x8,x9]=some [4,(gi:Int),enc (.i 1),enc k,x4,x5,x6,x7,x8,x9]
 |0,i,hg,hi=>by
  have c1: ¬(i:Int)<(k.l.length:Int):=J
  have c0: ¬((i:Int)=(gi:Int)):=J
  rw [bI,aaI];simp only [ZS,zz,c0,c1,bU]
 |j+1,i,hg,hi=>by
  have hl:=h.nt;have di:i<k.l.length:=J
  have c1:(i:Int)<(k.l.length:Int):=J
  have c2: ¬((i:Int)<0):=J
  have c0: ¬((i:Int)=(gi:Int)):=J
  have w:=bF (n:=i) J;have ih:=MM k h gi x4 x5 x6 x7 x8 x9 j (i+1) J J;obtain⟨a,lc,w',o,g,tr,T⟩:=gA h.wd _ (aq di);have hs:=fv h.sh di;rw [T.is] at hs;rw [bI,aaI];rcases cR T.hl with rfl|rfl|⟨r1,r2⟩
  all_goals
   simp only [ZS,zz,c0,c1,c2,w,bG di,T.is,ep,bz,aF,aG,vv,hs,jE,kH,sc,kG]
   try simp only [r1,r2,zz]
   try simp only [bx]
   exact ih
theorem Wf (k:D) (h:Tk k) (gi:Nat) (x4 x5 x6 x7 x8 x9:Int): ∀(j i:Nat),gi<i->i+j=k.l.length->L 9073 [(gi:Int),(k.l.length:Int),(i:Int),enc k,x4,x5,x6,x7,x8,x9]=some [3,(gi:Int),enc (.i 2),enc k,x4,x5,x6,x7,x8,x9]
 |0,i,hg,hi=>by
  have c1: ¬(i:Int)<(k.l.length:Int):=J
  have c0: ¬((i:Int)=(gi:Int)):=J
  rw [bI,aaH];simp only [ZR,zz,c0,c1,bU]
 |j+1,i,hg,hi=>by
  have hl:=h.nt;have di:i<k.l.length:=J
  have c1:(i:Int)<(k.l.length:Int):=J
  have c2: ¬((i:Int)<0):=J
  have c0: ¬((i:Int)=(gi:Int)):=J
  have w:=bF (n:=i) J;have ih:=Wf k h gi x4 x5 x6 x7 x8 x9 j (i+1) J J;obtain⟨a,lc,w',o,g,tr,T⟩:=gA h.wd _ (aq di);have hs:=fv h.sh di;rw [T.is] at hs;rw [bI,aaH];rcases cR T.hl with rfl|rfl|⟨r1,r2⟩
  all_goals
   simp only [ZR,zz,c0,c1,c2,w,bG di,T.is,ep,bz,aF,aG,vv,hs,jE,kH,sc,kG]
   try simp only [r1,r2,zz]
   try simp only [bx]
   exact ih
theorem ML (k:D) (h:Tk k) (gi:Nat) (x4 x5 x6 x7 x8 x9:Int): ∀(j i:Nat),gi<i->i+j=k.l.length->L 9074 [(gi:Int),(k.l.length:Int),(i:Int),enc k,x4,x5,x6,x7,x8,x9]=some [4,(gi:Int),enc (.i 2),enc k,x4,x5,x6,x7,x8,x9]
 |0,i,hg,hi=>by
  have c1: ¬(i:Int)<(k.l.length:Int):=J
  have c0: ¬((i:Int)=(gi:Int)):=J
  rw [bI,aaG];simp only [ZQ,zz,c0,c1,bU]
 |j+1,i,hg,hi=>by
  have hl:=h.nt;have di:i<k.l.length:=J
  have c1:(i:Int)<(k.l.length:Int):=J
  have c2: ¬((i:Int)<0):=J
  have c0: ¬((i:Int)=(gi:Int)):=J
  have w:=bF (n:=i) J;have ih:=ML k h gi x4 x5 x6 x7 x8 x9 j (i+1) J J;obtain⟨a,lc,w',o,g,tr,T⟩:=gA h.wd _ (aq di);have hs:=fv h.sh di;rw [T.is] at hs;rw [bI,aaG];rcases cR T.hl with rfl|rfl|⟨r1,r2⟩
  all_goals
   simp only [ZQ,zz,c0,c1,c2,w,bG di,T.is,ep,bz,aF,aG,vv,hs,jE,kH,sc,kG]
   try simp only [r1,r2,zz]
   try simp only [bx]
   exact ih
theorem We (k:D) (h:Tk k) (s:D) (gi:Nat) (yZ:gi<k.l.length) (a:Int) (lc:D) (w o g tr:Int) (T:Kt k.l[gi] a lc w o g tr): ∀(j i:Nat),i+j=gi->L 9060 [(gi:Int),(k.l.length:Int),(i:Int),enc s,enc k]=some [yK lc,(gi:Int),enc s,enc k,a,enc lc,w,o,g,tr]
 |0,i,hi=>by
  have hl:=h.nt;have he:i=gi:=J
  subst he;have c1:(i:Int)<(k.l.length:Int):=J
  have c2: ¬((i:Int)<0):=J
  have w':=bF (n:=i) J;rw [bI,Pl];rcases cR T.hl with rfl|rfl|⟨r1,r2⟩
  ·have ih:=MN k h i a (enc (.i 1)) w o g tr s (k.l.length-(i+1)) (i+1) J J;simp only [DC,zz,c1,c2,w',bG yZ,T.is,ep,bz,aF,aG,asi,ar2,jE,kH,sc,kG,bx];exact ih
  ·have ih:=MN k h i a (enc (.i 2)) w o g tr s (k.l.length-(i+1)) (i+1) J J;simp only [DC,zz,c1,c2,w',bG yZ,T.is,ep,bz,aF,aG,asi,ar2,jE,kH,sc,kG,bx];exact ih
  ·have ih:=Wh k h i a (enc lc) w o g tr s (k.l.length-(i+1)) (i+1) J J;simp only [DC,zz,c1,c2,w',bG yZ,T.is,ep,bz,aF,aG,jE,kH,sc,kG];simp only [r1,r2,zz,bx];rw [H4 r1];exact ih
 |j+1,i,hi=>by
  have hl:=h.nt;have di:i<k.l.length:=J
  have c1:(i:Int)<(k.l.length:Int):=J
  have c2: ¬((i:Int)<0):=J
  have c0: ¬((i:Int)=(gi:Int)):=J
  have w1:=bF (n:=i) J;have ih:=We k h s gi yZ a lc w o g tr T j (i+1) J;obtain⟨a',lc',w',o',g',tr',T'⟩:=gA h.wd _ (aq di);have hs:=fv h.sh di;rw [T'.is] at hs;rw [bI,Pl];rcases cR T'.hl with rfl|rfl|⟨r1,r2⟩
  all_goals
   simp only [DC,zz,c0,c1,c2,w1,bG di,T'.is,ep,bz,aF,aG,vv,hs,jE,kH,sc,kG]
   try simp only [r1,r2,zz]
   try simp only [bx]
   exact ih
theorem Wc (k:D) (h:Tk k) (gi:Nat) (yZ:gi<k.l.length) (a:Int) (lc:D) (w o g tr:Int) (T:Kt k.l[gi] a lc w o g tr): ∀(j i:Nat),i+j=gi->L 9063 [(gi:Int),(k.l.length:Int),(i:Int),enc k]=some [yK lc,(gi:Int),enc (.i 1),enc k,a,enc lc,w,o,g,tr]
 |0,i,hi=>by
  have hl:=h.nt;have he:i=gi:=J
  subst he;have c1:(i:Int)<(k.l.length:Int):=J
  have c2: ¬((i:Int)<0):=J
  have w':=bF (n:=i) J;rw [bI,Pk];rcases cR T.hl with rfl|rfl|⟨r1,r2⟩
  ·have ih:=MM k h i a (enc (.i 1)) w o g tr (k.l.length-(i+1)) (i+1) J J;simp only [DB,zz,c1,c2,w',bG yZ,T.is,ep,bz,aF,aG,asi,ar2,jE,kH,sc,kG,bx];exact ih
  ·have ih:=MM k h i a (enc (.i 2)) w o g tr (k.l.length-(i+1)) (i+1) J J;simp only [DB,zz,c1,c2,w',bG yZ,T.is,ep,bz,aF,aG,asi,ar2,jE,kH,sc,kG,bx];exact ih
  ·have ih:=Wg k h i a (enc lc) w o g tr (k.l.length-(i+1)) (i+1) J J;simp only [DB,zz,c1,c2,w',bG yZ,T.is,ep,bz,aF,aG,jE,kH,sc,kG];simp only [r1,r2,zz,bx];rw [H4 r1];exact ih
 |j+1,i,hi=>by
  have hl:=h.nt;have di:i<k.l.length:=J
  have c1:(i:Int)<(k.l.length:Int):=J
  have c2: ¬((i:Int)<0):=J
  have c0: ¬((i:Int)=(gi:Int)):=J
  have w1:=bF (n:=i) J;have ih:=Wc k h gi yZ a lc w o g tr T j (i+1) J;obtain⟨a',lc',w',o',g',tr',T'⟩:=gA h.wd _ (aq di);have hs:=fv h.sh di;rw [T'.is] at hs;rw [bI,Pk];rcases cR T'.hl with rfl|rfl|⟨r1,r2⟩
  all_goals
   simp only [DB,zz,c0,c1,c2,w1,bG di,T'.is,ep,bz,aF,aG,vv,hs,jE,kH,sc,kG]
   try simp only [r1,r2,zz]
   try simp only [bx]
   exact ih
theorem Wb (k:D) (h:Tk k) (gi:Nat) (yZ:gi<k.l.length) (a:Int) (lc:D) (w o g tr:Int) (T:Kt k.l[gi] a lc w o g tr): ∀(j i:Nat),i+j=gi->L 9066 [(gi:Int),(k.l.length:Int),(i:Int),enc k]=some [yK lc,(gi:Int),enc (.i 2),enc k,a,enc lc,w,o,g,tr]
 |0,i,hi=>by
  have hl:=h.nt;have he:i=gi:=J
  subst he;have c1:(i:Int)<(k.l.length:Int):=J
  have c2: ¬((i:Int)<0):=J
  have w':=bF (n:=i) J;rw [bI,Pj];rcases cR T.hl with rfl|rfl|⟨r1,r2⟩
  ·have ih:=ML k h i a (enc (.i 1)) w o g tr (k.l.length-(i+1)) (i+1) J J;simp only [DA,zz,c1,c2,w',bG yZ,T.is,ep,bz,aF,aG,asi,ar2,jE,kH,sc,kG,bx];exact ih
  ·have ih:=ML k h i a (enc (.i 2)) w o g tr (k.l.length-(i+1)) (i+1) J J;simp only [DA,zz,c1,c2,w',bG yZ,T.is,ep,bz,aF,aG,asi,ar2,jE,kH,sc,kG,bx];exact ih
  ·have ih:=Wf k h i a (enc lc) w o g tr (k.l.length-(i+1)) (i+1) J J;simp only [DA,zz,c1,c2,w',bG yZ,T.is,ep,bz,aF,aG,jE,kH,sc,kG];simp only [r1,r2,zz,bx];rw [H4 r1];exact ih
 |j+1,i,hi=>by
  have hl:=h.nt;have di:i<k.l.length:=J
  have c1:(i:Int)<(k.l.length:Int):=J
  have c2: ¬((i:Int)<0):=J
  have c0: ¬((i:Int)=(gi:Int)):=J
  have w1:=bF (n:=i) J;have ih:=Wb k h gi yZ a lc w o g tr T j (i+1) J;obtain⟨a',lc',w',o',g',tr',T'⟩:=gA h.wd _ (aq di);have hs:=fv h.sh di;rw [T'.is] at hs;rw [bI,Pj];rcases cR T'.hl with rfl|rfl|⟨r1,r2⟩
  all_goals
   simp only [DA,zz,c0,c1,c2,w1,bG di,T'.is,ep,bz,aF,aG,vv,hs,jE,kH,sc,kG]
   try simp only [r1,r2,zz]
   try simp only [bx]
   exact ih
structure Sk (s k:D):Prop where
 ws:Wd (.sl 7) s
 wk:Wd (.sl 8) k
theorem RJ {t:Nat} {d:D} (h:Wd (.sl t) d):d= .i 1\/d= .i 2\/0<d.l.length:=by
 rcases h.sh with U|U|⟨_,U⟩
 all_goals grind
theorem adX (x0:Int) (s:D):L 9061 [x0,enc s]=some [1,x0,enc s]:=by rw [bI,agH];simp only [afj,zz];split<;>rfl
theorem adW (x0:Int) (s:D):L 9062 [x0,enc s]=some [2,x0,enc s]:=by rw [bI,agG];simp only [afi,zz];split<;>rfl
theorem n12:((0:Int)<((D.i 2).l.length:Int))=False/\((0:Int)<((D.i 1).l.length:Int))=False/\(enc (.i 2)=enc (.i 1))=False:=by
 refine⟨by simp [D.l],by simp [D.l],?_⟩;simp only [eq_iff_iff,iff_false];intro h;have:=eQ h
 grind
theorem aad (x0:Int) (k:D):L 9054 [x0,enc k]=L 9063 [x0,(k.l.length:Int),0,enc k]:=by rw [bI,agN];simp only [afl,zz,bx,bU]
theorem aac (x0:Int) (k:D):L 9057 [x0,enc k]=L 9066 [x0,(k.l.length:Int),0,enc k]:=by rw [bI,agK];simp only [afk,zz,bx,bU]
theorem aky (x0:Int):L 9064 [x0]=some [1,x0,enc (.i 1)]:=by rw [bI,agF];simp only [afh,zz,bx,bU];split<;>rfl
theorem akC (x0:Int):L 9055 [x0]=some [1,x0,enc (.i 1)]:=by rw [bI,agM];exact aky x0
theorem akx (x0:Int):L 9065 [x0]=some [2,x0,enc (.i 1)]:=by rw [bI,agE];simp only [afg,zz,bx,bU];split<;>rfl
theorem akB (x0:Int):L 9056 [x0]=some [2,x0,enc (.i 1)]:=by rw [bI,agL];exact akx x0
theorem akw (x0:Int):L 9067 [x0]=some [1,x0,enc (.i 2)]:=by rw [bI,agD];simp only [aff,zz,bx,bU];split<;>rfl
theorem akA (x0:Int):L 9058 [x0]=some [1,x0,enc (.i 2)]:=by rw [bI,agJ];exact akw x0
theorem akv (x0:Int):L 9068 [x0]=some [2,x0,enc (.i 2)]:=by rw [bI,agC];simp only [afe,zz,bx,bU];split<;>rfl
theorem akz (x0:Int):L 9059 [x0]=some [2,x0,enc (.i 2)]:=by rw [bI,agI];exact akv x0
section
variable {s k:D} (h:Sk s k)
include h
theorem Ky {gi:Nat} (yZ:gi<k.l.length) {a:Int} {lc:D} {w o g tr:Int} (T:Kt k.l[gi] a lc w o g tr):L 9050 [(gi:Int),enc s,enc k]=some [yK lc,(gi:Int),enc s,enc k,a,enc lc,w,o,g,tr]:=by
 have hk:0<k.l.length:=J
 have hK:=FH h.wk hk;have Nd:=hK.nt;have c1':(0:Int)<(k.l.length:Int):=J
 have c2':(k.l.length:Int)<2199023255552:=J
 rw [bI,aaP];rcases RJ h.ws with rfl|rfl|hs
 ·simp only [tp,zz,n12,c1',c2',bx];exact (aad _ k).trans (Wc k hK gi yZ a lc w o g tr T gi 0 J)
 ·simp only [tp,zz,n12,c1',c2',bx];exact (aac _ k).trans (Wb k hK gi yZ a lc w o g tr T gi 0 J)
 ·have hT:=Az h.ws hs;have hl:=hT.nt;have c1:(0:Int)<(s.l.length:Int):=J
  have c2:(s.l.length:Int)<1759218604441:=J
  simp only [tp,zz,sc,c1,c2,c1',c2',bx];exact (MK s hT _ k s.l.length 0 J).trans (We k hK s gi yZ a lc w o g tr T gi 0 J)
theorem X9 {x:Int} (Y:x<0\/(k.l.length:Int)<=x):L 9050 [x,enc s,enc k]=some [0,x,enc s,enc k]\/L 9050 [x,enc s,enc k]=some [1,x,enc s]/\k= .i 1\/L 9050 [x,enc s,enc k]=some [2,x,enc s]/\k= .i 2:=by
 rw [bI,aaP];rcases RJ h.ws with rfl|rfl|hs<;>rcases RJ h.wk with rfl|rfl|hk
 ·refine .inr (.inl ⟨?_,rfl⟩);simp only [tp,zz,n12,bx];exact akC _
 ·refine .inr (.inr ⟨?_,rfl⟩);simp only [tp,zz,n12,bx];exact akB _
 ·have hK:=FH h.wk hk;have Nd:=hK.nt;have c1':(0:Int)<(k.l.length:Int):=J
  have c2':(k.l.length:Int)<2199023255552:=J
  refine .inl ?_;simp only [tp,zz,n12,c1',c2',bx];exact (aad _ k).trans (Wj k hK _ k.l.length 0 Y J)
 ·refine .inr (.inl ⟨?_,rfl⟩);simp only [tp,zz,n12,bx];exact akA _
 ·refine .inr (.inr ⟨?_,rfl⟩);simp only [tp,zz,n12,bx];exact akz _
 ·have hK:=FH h.wk hk;have Nd:=hK.nt;have c1':(0:Int)<(k.l.length:Int):=J
  have c2':(k.l.length:Int)<2199023255552:=J
  refine .inl ?_;simp only [tp,zz,n12,c1',c2',bx];exact (aac _ k).trans (Wi k hK _ k.l.length 0 Y J)
 ·have hT:=Az h.ws hs;have hl:=hT.nt;have c1:(0:Int)<(s.l.length:Int):=J
  have c2:(s.l.length:Int)<1759218604441:=J
  refine .inr (.inl ⟨?_,rfl⟩);simp only [tp,zz,n12,c1,c2,bx];exact (Wa s hT _ s.l.length 0 J).trans (adX _ s)
 ·have hT:=Az h.ws hs;have hl:=hT.nt;have c1:(0:Int)<(s.l.length:Int):=J
  have c2:(s.l.length:Int)<1759218604441:=J
  refine .inr (.inr ⟨?_,rfl⟩);simp only [tp,zz,n12,c1,c2,bx];exact (V9 s hT _ s.l.length 0 J).trans (adW _ s)
 ·have hT:=Az h.ws hs;have hl:=hT.nt;have c1:(0:Int)<(s.l.length:Int):=J
  have c2:(s.l.length:Int)<1759218604441:=J
  have hK:=FH h.wk hk;have Nd:=hK.nt;have c1':(0:Int)<(k.l.length:Int):=J
  have c2':(k.l.length:Int)<2199023255552:=J
  refine .inl ?_;simp only [tp,zz,sc,c1,c2,c1',c2',bx];exact (MK s hT _ k s.l.length 0 J).trans (Wk k hK _ s k.l.length 0 Y J)
end
def Yz (a b:D) (i:Nat):Prop:= ∀(k:Nat) (U:k<a.l.length) (Z:k<b.l.length),i<=k->(a.l[k]).n=(b.l[k]).n
theorem Yz.step {a b:D} {i:Nat} (U:i<a.l.length) (Z:i<b.l.length) (h:(a.l[i]).n=(b.l[i]).n):Yz a b i↔Yz a b (i+1):=by
 constructor
 ·intro q k x y z;exact q k x y J
 ·intro q k x y z;by_cases hk:k=i
  ·grind
  ·exact q k x y J
theorem Yz.aoA {a b:D} {i:Nat} (h:a.l.length<=i):Yz a b i:=fun k U _ h3=>absurd U J
section
variable {a b:D} (hle:a.l.length=b.l.length) (hlen:a.l.length<=140737488351232)
include hle hlen
theorem JT: ∀(j i:Nat),i+j=a.l.length->∃c:Int,L 251 [enc a,enc b,(i:Int)]=some [c]/\(c=0\/c=1)/\(c=1↔Yz a b i)
 |0,i,hi=>by
  have c1: ¬(i:Int)<(a.l.length:Int):=J
  refine⟨1,?_,.inr rfl,fun _=>Yz.aoA J,fun _=>rfl⟩;rw [bI,aeB];simp only [t251,zz,c1,fin]
 |j+1,i,hi=>by
  have di:i<a.l.length:=J
  have EE:i<b.l.length:=J
  have c1:(i:Int)<(a.l.length:Int):=J
  have c2: ¬((i:Int)<0):=J
  have c3:(i:Int)<(b.l.length:Int):=J
  have w:=bF (n:=i) J;obtain⟨c,U,Z,h3⟩:=JT j (i+1) J;by_cases he:(a.l[i]).n=(b.l[i]).n
  ·refine⟨c,?_,Z,h3.trans (Yz.step di EE he).symm⟩;rw [bI,aeB];simp only [t251,zz,c1,c2,c3,w,bG di,bG EE,he,fin,U]
  ·refine⟨0,?_,.inl rfl,fun h=>absurd h J,fun h=>absurd (h i di EE (ax i)) he⟩;rw [bI,aeB];simp only [t251,zz,c1,c2,c3,w,bG di,bG EE,he,fin]
end
def Ww (a b:D):Prop:=a.l.length=b.l.length/\Yz a b 0
theorem XB (a b:D) (hlen:a.l.length<=140737488351232): ∃c:Int,L 250 [enc a,enc b]=some [c]/\(c=0\/c=1)/\(c=1↔Ww a b):=by
 by_cases hl:a.l.length=b.l.length
 ·obtain⟨c,U,Z,h3⟩:=JT hl hlen a.l.length 0 J;refine⟨c,?_,Z,h3.trans ⟨fun h=> ⟨hl,h⟩,fun h=>h.2⟩⟩;have Nd:(a.l.length:Int)=(b.l.length:Int):=J
  rw [bI,ak0,t250,fh,ag,mc]
  ·simp only [List.map,dz,bT,Nat.reduceLT,bP,bQ,fin];exact U
  ·simp only [im,ig,bT,Nat.reduceLT,bP,bQ,bA,iw]
   grind
 ·refine⟨0,?_,.inl rfl,fun h=>absurd h J,fun h=>absurd h.1 hl⟩;have Nd: ¬(a.l.length:Int)=(b.l.length:Int):=J
  rw [bI,ak0,t250,fh,af]
  ·simp only [kP,List.map,dz,fin]
  ·simp only [im,ig,bT,Nat.reduceLT,bP,bQ,bA,iw]
   grind
theorem IN (x y:D) (hle:x.l.length=y.l.length) (hlen:x.l.length<=140737488351232) (x0 x1 x2:Int) (i:Nat) (hi:i<9223372036854775807) (c:Int) (hc:c=0\/c=1) (h:L 201 [x0,x1,x2,((i+1:Nat):Int)]=some [c]) (x6 x7 x8 x9 qy x12 x13 x14 x15 x16:Int) :
 ∀(j k:Nat),k+j=x.l.length->∃e:Int,L 202 [x0,x1,x2,(i:Int),(x.l.length:Int),(k:Int),x6,x7,x8,x9,qy,enc x,x12,x13,x14,x15,x16,enc y]=some [e]/\(e=0\/e=1)/\(e=1↔Yz x y k/\c=1)
 |0,k,hk=>by
  have c1: ¬(k:Int)<(x.l.length:Int):=J
  have w:=bF (n:=i) J;refine⟨c,?_,hc,fun h=> ⟨Yz.aoA J,h⟩,fun h=>h.2⟩;rw [bI,aeC];simp only [t202,zz,c1,w,fin,h]
 |j+1,k,hk=>by
  have di:k<x.l.length:=J
  have EE:k<y.l.length:=J
  have c1:(k:Int)<(x.l.length:Int):=J
  have c2: ¬((k:Int)<0):=J
  have c3:(k:Int)<(y.l.length:Int):=J
  have w:=bF (n:=k) J;obtain⟨e,U,Z,h3⟩:=IN x y hle hlen x0 x1 x2 i hi c hc h x6 x7 x8 x9 qy x12 x13 x14 x15 x16 j (k+1) J;by_cases he:(x.l[k]).n=(y.l[k]).n
  ·refine⟨e,?_,Z,h3.trans ⟨fun q=> ⟨(Yz.step di EE he).2 q.1,q.2⟩,fun q=> ⟨(Yz.step di EE he).1 q.1,q.2⟩⟩⟩;rw [bI,aeC];simp only [t202,zz,c1,c2,c3,w,bG di,bG EE,he,fin,U]
  ·refine⟨0,?_,.inl rfl,fun h=>absurd h J,fun h=>absurd (h.1 k di EE (ax k)) he⟩;rw [bI,aeC];simp only [t202,zz,c1,c2,c3,w,bG di,bG EE,he,fin]
theorem qb (ρ) (a b:SB):((SB.and a b).den ρ=true)=(a.den ρ=true/\b.den ρ=true):=by simp [SB.den]
structure ao4 (x y:D):Prop where
 o:(x.V 0).n=(y.V 0).n
 c:(x.V 1).n=(y.V 1).n
 d:(x.V 2).n=0↔(y.V 2).n=0
 g:(x.V 3).n=(y.V 3).n
 r:Ww (x.V 4) (y.V 4)
 v:Ww (x.V 5) (y.V 5)
def PI (a b:D) (i:Nat):Prop:= ∀(k:Nat) (U:k<a.l.length) (Z:k<b.l.length),i<=k->ao4 a.l[k] b.l[k]
theorem bits {p q:Int}:((¬(¬p=0/\¬q=0))/\¬(¬¬p=0/\¬¬q=0))↔¬(p=0↔q=0):=J
def Li (s:D):Prop:= ∀x∈s.l,(x.V 4).l.length<=140737488351232/\(x.V 5).l.length<=140737488351232
section
variable {a b:D} (hle:a.l.length=b.l.length) (hlen:a.l.length<=140737488351232) (hr:Li a)
include hle hlen hr
theorem Jb: ∀(j i:Nat),i+j=a.l.length->∃c:Int,L 201 [enc a,enc b,(a.l.length:Int),(i:Int)]=some [c]/\(c=0\/c=1)/\(c=1↔PI a b i)
 |0,i,hi=>by
  have c1: ¬(i:Int)<(a.l.length:Int):=J
  refine⟨1,?_,.inr rfl,fun _ k U _ h3=>absurd U J,fun _=>rfl⟩;rw [bI,MA];simp only [t201,zz,c1,fin]
 |j+1,i,hi=>by
  have di:i<a.l.length:=J
  have EE:i<b.l.length:=J
  have c1:(i:Int)<(a.l.length:Int):=J
  have c2: ¬((i:Int)<0):=J
  have c3:(i:Int)<(b.l.length:Int):=J
  obtain⟨c,U,Z,h3⟩:=Jb j (i+1) J;have hb:=hr _ (aq di);by_cases b0:((a.l[i]).V 0).n=((b.l[i]).V 0).n
  case neg=>
   refine⟨0,?_,.inl rfl,fun h=>absurd h J,fun h=>absurd (h i di EE (ax i)).o b0⟩;rw [bI,MA];simp only [t201,zz,c1,c2,c3,bG di,bG EE,b0,fin]
  by_cases b1:((a.l[i]).V 1).n=((b.l[i]).V 1).n
  case neg=>
   refine⟨0,?_,.inl rfl,fun h=>absurd h J,fun h=>absurd (h i di EE (ax i)).c b1⟩;rw [bI,MA];simp only [t201,zz,c1,c2,c3,bG di,bG EE,b0,b1,fin]
  by_cases b2:(((a.l[i]).V 2).n=0↔((b.l[i]).V 2).n=0)
  case neg=>
   refine⟨0,?_,.inl rfl,fun h=>absurd h J,fun h=>absurd (h i di EE (ax i)).d b2⟩;rw [bI,MA];have b2':=bits.2 b2;simp only [t201,zz,qb,re,c1,c2,c3,bG di,bG EE,b0,b1,ag b2',fin]
  have b2': ¬_:=fun h=>bits.1 h b2;by_cases b3:((a.l[i]).V 3).n=((b.l[i]).V 3).n
  case neg=>
   refine⟨0,?_,.inl rfl,fun h=>absurd h J,fun h=>absurd (h i di EE (ax i)).g b3⟩;rw [bI,MA];simp only [t201,zz,qb,re,c1,c2,c3,bG di,bG EE,b0,b1,af b2',b3,fin]
  obtain⟨e,g1,g2,g3⟩:=XB ((a.l[i]).V 4) ((b.l[i]).V 4) hb.1;by_cases b4:e=0
  ·subst b4;refine⟨0,?_,.inl rfl,fun h=>absurd h J,fun h=>absurd (g3.2 (h i di EE (ax i)).r) J⟩;rw [bI,MA];simp only [t201,zz,qb,re,c1,c2,c3,bG di,bG EE,b0,b1,af b2',b3,g1,fin]
  have he:e=1:=J
  subst he;by_cases b5:((a.l[i]).V 5).l.length=((b.l[i]).V 5).l.length
  case neg=>
   have b5': ¬(((a.l[i]).V 5).l.length:Int)=(((b.l[i]).V 5).l.length:Int):=J
   refine⟨0,?_,.inl rfl,fun h=>absurd h J,fun h=>absurd (h i di EE (ax i)).v.1 b5⟩;rw [bI,MA];simp only [t201,zz,qb,re,c1,c2,c3,bG di,bG EE,b0,b1,af b2',b3,g1,bR,b5',fin]
  have b5':(((a.l[i]).V 5).l.length:Int)=(((b.l[i]).V 5).l.length:Int):=J
  obtain⟨f,f1,f2,f3⟩:=IN ((a.l[i]).V 5) ((b.l[i]).V 5) b5 hb.2 (enc a) (enc b) (a.l.length:Int) i J c Z U ((b.l[i]).V 0).n ((b.l[i]).V 1).n ((a.l[i]).V 2).n ((b.l[i]).V 3).n (enc ((a.l[i]).V 4)) ((b.l[i]).V 0).n ((b.l[i]).V 1).n ((b.l[i]).V 2).n ((b.l[i]).V 3).n (enc ((b.l[i]).V 4)) ((a.l[i]).V 5).l.length 0 J;refine⟨f,?_,f2,fun h k k1 k2 k3=>?_,fun h=>f3.2 ⟨(h i di EE (ax i)).v.2,h3.2 fun k k1 k2 k3=>h k k1 k2 J⟩⟩
  ·rw [bI,MA];rw [b5'] at f1;simp only [t201,zz,qb,re,c1,c2,c3,bG di,bG EE,b0,b1,af b2',b3,g1,bR,b5',fin];exact f1
  ·by_cases hk:k=i
   ·subst hk;exact⟨b0,b1,b2,b3,g3.1 rfl,b5,(f3.1 h).1⟩
   ·exact h3.1 (f3.1 h).2 k k1 k2 J
end
theorem Ja (a b:D) (hlen:a.l.length<=140737488351232) (hr:Li a): ∃c:Int,L 200 [enc a,enc b]=some [c]/\(c=0\/c=1)/\(c=1↔a.l.length=b.l.length/\PI a b 0):=by
 by_cases hl:a.l.length=b.l.length
 ·obtain⟨c,U,Z,h3⟩:=Jb hl hlen hr a.l.length 0 J;refine⟨c,?_,Z,h3.trans ⟨fun h=> ⟨hl,h⟩,fun h=>h.2⟩⟩;have Nd:(a.l.length:Int)=(b.l.length:Int):=J
  rw [bI,ak1,t200,fh,ag,mc]
  ·simp only [List.map,dz,ig,iw,bT,Nat.reduceLT,bP,bQ,bA,fin];exact U
  ·simp only [im,ig,bT,Nat.reduceLT,bP,bQ,bA,iw]
   grind
 ·refine⟨0,?_,.inl rfl,fun h=>absurd h J,fun h=>absurd h.1 hl⟩;have Nd: ¬(a.l.length:Int)=(b.l.length:Int):=J
  rw [bI,ak1,t200,fh,af]
  ·simp only [kP,List.map,dz,fin]
  ·simp only [im,ig,bT,Nat.reduceLT,bP,bQ,bA,iw]
   grind
theorem Yc {d0:D} (hl:d0.l.length<=64) (hn:0<d0.l.length):L 301 [enc d0,(d0.l.length:Int)]=some [enc (dL (d0.l.map fC))]:=by
 have e0:=HY d0 hl (d0.l.length-1) 1 [fC (d0.l[0]'hn)] J rfl
 have e1:[fC (d0.l[0]'hn)]++(d0.l.drop 1).map fC=d0.l.map fC:=by
  conv=>rhs; rw [<- arC (l:=d0.l),aC hn]
  rfl
 rw [e1] at e0;have a0:d0.at 0=d0.l[0]'hn:=bG (i:=0) hn;have c1:(0:Int)<(d0.l.length:Int):=J
 have key: ∀q:Int,q=(if (((d0.l[0]'hn)).V 0).n=3\/((d0.l[0]'hn).V 0).n=9 then ((d0.l[0]'hn).V 2).n else 0)->enc (dL [fC (d0.l[0]'hn)])=enc (.p (.p (.i (-1)) (.p (.i q) (.p (.i 0) (.p (.i 0) (.p (.i 1) (.p (.i 1) (.i 0))))))) (.i 0)):=fun q hq=>by rw [hq]; rfl
 have k:eI (dq L (low [enc d0,(d0.l.length:Int)])) WT= .jump 302 [enc (dL [fC (d0.l[0]'hn)]),enc d0,(d0.l.length:Int),1]:=by
  by_cases h3:((d0.l[0]'hn).V 0).n=3
  ·rw [key _ (by rw [ag (.inl h3)])];simp only [WT,zz,c1,a0,lG,au,h3,dL]
  ·by_cases h9:((d0.l[0]'hn).V 0).n=9
   ·rw [key _ (by rw [ag (.inr h9)])];simp only [WT,zz,c1,a0,lG,au,af h3,ag h9,dL]
   ·rw [key 0 (by rw [af J])];simp only [WT,zz,c1,a0,lG,au,af h3,af h9,dL]
 rw [bI,akZ];exact (congrArg (fin L) k).trans e0
theorem HZ {d0 d1:D} (hc:L 450 [enc d0,enc d1]=some [0]) (hl:d0.l.length<=64) (hn:0<d0.l.length):L 300 [enc d0,enc d1]=some [enc (dL (d0.l.map fC))]:=by
 have k:eI (dq L (low [enc d0,enc d1])) adt= .jump 301 [enc d0,(d0.l.length:Int)]:=by refine cm [.eq (a0 450 [.dP 0,.dP 1]) (.lit 1),.eq (rr 450 [.dP 0,.dP 1] 0) (.lit 0)] [] (ju 301 [.dP 0,ln (.dP 0)]) (by simp only [zz,hc]) aa ?_;simp only [mc,List.map,bT,ig,Nat.reduceLT,bP,bQ,bA]
 rw [bI,aeA];exact (congrArg (fin L) k).trans (Yc hl hn)
theorem BW {d0 d1:D} {c:Int} (hc:L 450 [enc d0,enc d1]=some [c]) (h:c≠0\/d0.l.length=0):L 300 [enc d0,enc d1]=some [enc (.i 1)]:=by
 by_cases h0:c=0
 ·subst h0;have hz:d0.l.length=0:=h.resolve_left (fun h=>h rfl)
  have k:eI (dq L (low [enc d0,enc d1])) adt= .jump 301 [enc d0,0]:=by refine cm [.eq (a0 450 [.dP 0,.dP 1]) (.lit 1),.eq (rr 450 [.dP 0,.dP 1] 0) (.lit 0)] [] (ju 301 [.dP 0,ln (.dP 0)]) (by simp only [zz,hc]) aa ?_;simp only [mc,List.map,bT,ig,Nat.reduceLT,bP,bQ,bA,hz];rfl
  have k1:eI (dq L (low [enc d0,0])) WT= .out [enc (.i 1)]:=by refine cm [] [.lt (.lit 0) (.dP 1)] (ou [.fk (.i 1)]) (by simp only [zz]<;>omega) aa rfl
  rw [bI,aeA];refine (congrArg (fin L) k).trans ?_;show L 301 [enc d0,0]=_;rw [bI,akZ];exact congrArg (fin L) k1
 ·have k:eI (dq L (low [enc d0,enc d1])) adt= .out [enc (.i 1)]:=by
   refine cm [.eq (a0 450 [.dP 0,.dP 1]) (.lit 1)] [.eq (rr 450 [.dP 0,.dP 1] 0) (.lit 0)] (ou [.fk (.i 1)]) (by simp only [zz,hc]<;>omega) aa rfl
  rw [bI,aeA];exact congrArg (fin L) k
structure Gs (s:D) (n:Nat):Prop where
 wd:Wd (.sl 7) s
 rows: ∀x∈s.l,(x.V 4).l.length<=n/\(x.V 5).l.length<=n
theorem Gs.nt {s:D} {n:Nat} (h:Gs s n) (hn:n<17592186044415):nt s:=fun x Y=>by have:=h.rows x Y; omega
theorem Gs.mono {s:D} {n m:Nat} (h:Gs s n) (hm:n<=m):Gs s m:=⟨h.wd,fun x Y=>by have:=h.rows x Y; omega⟩
theorem xP {l:List D} (h: ∀x∈l,jr x) (hn:l≠[]) (hl:l.length<=1759218604390):Wd (.sl 7) (dL l):=by
 have e:(l.map fun x=>x.l).map dL=l:=by
  rw [arT]
  conv=>rhs; rw [<- asB l]
  apply ar4;intro x Y;obtain⟨o,c,d,g,r,v,rfl,_⟩:=h x Y;rfl
 rw [<- e];refine .many 7 [.int .i64,.int .i64,.bool,.int .i64,.sl 0,.sl 0] _ rfl (by simpa using hn) (by have:mU 7=80:=rfl; rw [this,aY]; omega) (fun r hr=>?_) fun r hr j d c U Z=>?_
 ·obtain⟨x,Y,rfl⟩:=aR.1 hr;obtain⟨o,c,d,g,r,v,rfl,_⟩:=h x Y;rfl
 ·obtain⟨x,Y,rfl⟩:=aR.1 hr;obtain⟨o,c',d',g,r,v,rfl,ho,hc,V,hg,hr,hv⟩:=h x Y;rw [bz] at U
  match j with
  |0=>simp at U Z; subst U Z; exact .int _ _ ho
  |1=>simp at U Z; subst U Z; exact .int _ _ hc
  |2=>
   simp at U Z; subst U Z;rcases V with rfl|rfl
   ·exact .bool false
   ·exact .bool true
  |3=>simp at U Z; subst U Z; exact .int _ _ hg
  |4=>simp at U Z; subst U Z; exact hr
  |5=>simp at U Z; subst U Z; exact hv
  |j+6=>simp at U
theorem Tg.lx {x:D} {o c dn g:Int} {r v:D} (T:Tg x o c dn g r v):jr x:=⟨o,c,dn,g,r,v,T.is,T.ho,T.hc,T.V,T.hg,T.hr,T.hv⟩
theorem wP {l:List D} {z:Int} {y x:D} (h:x∈dE l z y):x∈l\/x=y:=by
 unfold dE at h
 grind
theorem lJ {l:List D} {z:Int} {y:D} {k:Nat} (h:(k:Int)≠z):(dE l z y)[k]?=l[k]?:=by
 unfold dE
 grind
theorem rB {l:List D} {k:Nat} {y:D} (h:k<l.length):(dE l (k:Int) y)[k]?=some y:=by rw [pA,List.getElem?_set,ag rfl,ag h]
theorem SC {s:D} {n:Nat} (G:Gs s n) {z:Int} {y:D} (hy:jr y) (h4:(y.V 4).l.length<=n) (h5:(y.V 5).l.length<=n) (hn:0<s.l.length):Gs (dL (dE s.l z y)) n:=by
 have ht:=Az G.wd hn;refine⟨xP (fun x Y=>?_) (fun he=>?_) (by rw [ej]; exact ht.nt),fun x Y=>?_⟩
 ·rcases wP Y with h|rfl
  ·exact G.wd.lx x h
  grind
 ·have:=ej s.l z y
  grind
 ·rw [bz] at Y;rcases wP Y with h|rfl
  ·exact G.rows x h
  grind
theorem B' (s:D) (obj M:Int) (A:Act):(Gf s obj M A).l.length=s.l.length:=by
 cases A with
 |oe=>rfl
 |yb=>rfl
 |res o c dn g r v m a oc=>
  unfold Gf;rw [bz,ej]
  cases m with
  |none=>rfl
  |some q=>exact ej _ _ _
theorem adN {s:D} {n:Nat} (G:Gs s n) {obj M:Int} {A:Act} (hA:Ih (n+1) A) (ho0:0<=obj) (XG:obj<(s.l.length:Int)) (hM:NoM A\/0<=M/\M<(s.l.length:Int)):Gs (Gf s obj M A) (n+1):=by
 have G1:=G.mono (arO n)
 cases A with
 |oe=>exact G1
 |yb=>exact G1
 |res o c dn g r v m a oc=>
  obtain⟨U,Z,h3,h4,h5,h6,h7,h8,h9,_⟩:=hA
  have V:(if dn=0 then (0:Int) else 1)=dn:=by rcases h3 with rfl|rfl<;>rfl
  have hy:jr (dL [.i o,.i c,.i (if dn=0 then 0 else 1),.i g,r,v]):=⟨o,c,_,g,r,v,rfl,U,Z,by rw [V]; exact h3,h4,h5,h7⟩
  cases m with
  |none=>exact SC G1 hy h6 h8 J
  |some q=>
   have hM:0<=M/\M<(s.l.length:Int):=hM.resolve_left (fun h=>by simp [NoM] at h);obtain⟨k,rfl⟩ : ∃k:Nat,M=(k:Int):=⟨M.toNat,J⟩;have hk:k<s.l.length:=J
   obtain⟨o',c',d',g',r',v',he,q1,q2,q3,q4,q5,q6⟩:=G.wd.lx _ (aq hk);have hrw:=G1.rows _ (aq hk);rw [he] at hrw;have hz:dL (dE (s.at (k:Int)).l 0 (.i q))=dL [.i q,.i c',.i d',.i g',r',v']:=by rw [bG hk,he]; rfl
   have G2:Gs (dL (dE s.l (k:Int) (dL (dE (s.at (k:Int)).l 0 (.i q))))) (n+1):=by rw [hz];exact SC G1 ⟨q,c',d',g',r',v',rfl,h9 q rfl,q2,q3,q4,q5,q6⟩ hrw.1 hrw.2 J
   have:=SC (z:=obj) G2 hy h6 h8 (by rw [bz,ej]; omega);rw [bz] at this;exact this
def evA (th op obj:Int):Act->List Int
 | .oe=>[0,0,0,0,0,0]
 | .yb=>[th,27,obj,IntKind.i64.wrap op,0,2]
 | .res _ _ _ _ _ _ _ a oc=>[th,op,obj,a,0,oc]
theorem AR (s:D) (th op obj M:Int) (A:Act):Gr s th op obj M A=enc (Gf s obj M A)::evA th op obj A:=by cases A<;>rfl
theorem z6:((2:Int)=1)=False/\((4:Int)=3)=False/\((5:Int)=3)=False/\((5:Int)=4)=False/\((6:Int)=3)=False/\((6:Int)=4)=False/\((6:Int)=5)=False/\((7:Int)=3)=False/\((7:Int)=4)=False/\((7:Int)=5)=False/\((7:Int)=6)=False:=ad
structure KT where
 a:Int
 lc:D
 w:Int
 o:Int
 g:Int
 tr:Int
abbrev KT.d (x:KT):D:=dL [.i x.a,x.lc,.i x.w,.i x.o,.i x.g,.i x.tr]
structure Cd (d0 d1:D):Prop where
 h0:Wd (.sl 3) d0
 U:Wd (.sl 4) d1
 ok:zJ d0 d1
 ins: ∀x∈d1.l,agn d0 x
theorem MR.code {d0 d1 s k:D} (h0:Wd (.sl 3) d0) (U:Wd (.sl 4) d1) (hr:CC s) (M:MR d0 d1 s k):Cd d0 d1/\s.l.length=d0.l.length:=by obtain⟨b,hb,_,hi⟩:=lz h0 U hr;rw [M.1] at hb;simp only [ah,List.cons.injEq,and_true] at hb;obtain⟨hC,hle,_⟩:=hi.1 hb.symm;obtain⟨ys,hC',c,rfl,_,si⟩:=Dm h0 U;rw [hC] at hC';simp only [ah,List.cons.injEq,and_true] at hC';have:=si hC'.symm;exact⟨⟨h0,U,this.1,this.2⟩,hle⟩
structure Rt (d0 d1:D) (t:Int) (x:KT):Prop where
 t0:0<=t
 t1:t<(d1.l.length:Int)
 ok:OkT d0 ((d1.at t).V 1).l.length ((d1.at t).V 2).l.length x.a x.lc.l.length x.w x.o x.g x.tr
 hl:Wd (.sl 0) x.lc
 hg:gx .i64 x.g
abbrev fN (d1:D) (t:Int) (x:KT):D:=((d1.at t).V 2).at x.a
abbrev Nc (d1:D) (t:Int):Nat:=((d1.at t).V 2).l.length
structure InF (d0:D) (nl nc:Nat) (I:D):Prop where
 ok:OkI d0 nl nc (I.V 0).n (I.V 1).n (I.V 2).n (I.V 3).n (I.V 4).n (I.V 6).l.length
 op:gx .u8 (I.V 1).n
 ob:gx .i64 (I.V 2).n
 to:gx .i64 (I.V 4).n
 nn:gx .i64 (I.V 5).n
 ar:Wd (.sl 6) (I.V 6)
theorem Cd.at {d0 d1:D} (C:Cd d0 d1) {t:Int} (t0:0<=t) (t1:t<(d1.l.length:Int)):d1.at t∈d1.l:=by
 obtain⟨i,rfl⟩ : ∃i:Nat,t=(i:Int):=⟨t.toNat,J⟩
 grind [bG]
theorem J! {d:D} {i:Int} (h0:0<=i) (U:i<(d.l.length:Int)):d.at i∈d.l:=by
 obtain⟨k,rfl⟩ : ∃k:Nat,i=(k:Int):=⟨i.toNat,J⟩
 grind [bG]
theorem Cd.code {d0 d1:D} (C:Cd d0 d1) {t:Int} (t0:0<=t) (t1:t<(d1.l.length:Int)):Wd (.sl 5) ((d1.at t).V 2):=by
 obtain⟨i,rfl⟩ : ∃i:Nat,t=(i:Int):=⟨t.toNat,J⟩;have hi:i<d1.l.length:=J
 obtain⟨sa,lc,cd,he,_,_,h⟩:=qJ C.U hi;rw [bG hi,he];exact h
theorem Cd.inf {d0 d1:D} (C:Cd d0 d1) {t:Int} {x:KT} (R:Rt d0 d1 t x) (h:x.a<(Nc d1 t:Int)):InF d0 ((d1.at t).V 1).l.length (Nc d1 t) (fN d1 t x):=by
 have ha:=R.ok.1;have U:=C.ins _ (C.at R.t0 R.t1) (fN d1 t x) (J! ha h);obtain⟨i,hi⟩ : ∃i:Nat,x.a=(i:Int):=⟨x.a.toNat,J⟩;have di:i<((d1.at t).V 2).l.length:=by unfold Nc at h; omega
 obtain⟨a,b,c,e,f,g,qH,he,_,hb,hc,_,hf,hg,hw⟩:=Sc (C.code R.t0 R.t1) di;have hI:fN d1 t x=dL [.i a,.i b,.i c,.i e,.i f,.i g,qH]:=by unfold fN; rw [hi,bG di,he]
 refine⟨U,?_,?_,?_,?_,?_⟩
 all_goals
  rw [hI];simp only [zg,ay,zM];assumption
theorem Rt.ints {d0 d1:D} {t:Int} {x:KT} (R:Rt d0 d1 t x):Yw x.lc:=fun y hy=>by obtain⟨n,rfl,hn⟩:=(R.hl.el1 rfl y hy).i;exact hn
section
variable {d0 d1 s k:D} {t:Int} {x:KT} (hk:k.at t=x.d) (ht:t<(k.l.length:Int)) (R:Rt d0 d1 t x)
include hk ht R
def ib (d1:D) (t:Int) (x:KT):Int:=if x.w=0 then (if x.a=(Nc d1 t:Int) then 1 else 0) else 0
theorem AP:L 1650 [enc d0,enc d1,enc s,enc k,t]=some [ib d1 t x]:=by
 have c1: ¬t<0:=by have:=R.t0; omega
 have c2:=R.t1;unfold ib Nc;rw [bI,ahA];simp only [afY,zz,hk,c1,ht,c2,zg];by_cases w0:x.w=0
 ·simp only [w0,if_true];by_cases a0:x.a=(((d1.at t).V 2).l.length:Int)
  ·simp only [a0,if_true];rfl
  ·simp only [a0,if_false];rfl
 ·simp only [w0,if_false];rfl
end
noncomputable def ev (e lc:D):Int:=low ((L 1950 [(e.V 0).n,enc (e.V 1),(e.V 2).n,enc (e.V 3),enc lc]).getD []) 0
theorem O1 {tk lc:D} (ha:Wd (.sl 6) tk) (hl:Yw lc) {i:Int} (i0:0<=i) (i1:i<(tk.l.length:Int)):L 1950 [((tk.at i).V 0).n,enc ((tk.at i).V 1),((tk.at i).V 2).n,enc ((tk.at i).V 3),enc lc]=some [ev (tk.at i) lc]/\gx .i64 (ev (tk.at i) lc):=by
 obtain⟨j,rfl⟩ : ∃j:Nat,i=(j:Int):=⟨i.toNat,J⟩;have hj:j<tk.l.length:=J
 obtain⟨k',s',n',A3,he,_,_,XH,Z⟩:=qM ha hj;obtain⟨ys,hL,v,rfl,hv⟩:=OZ _ A3 (ax _) Z k' n' s' lc XH hl;have e1:tk.at (j:Int)=dL [.i k',s',.i n',A3]:=by rw [bG hj,he]
 simp_all [ev,e1,zg,zM,bP]
noncomputable def EN (tk lc:D):Int:=if tk.l.length=0 then 0 else ev (tk.at ((tk.l.length:Int)-1)) lc
theorem aeY {tk lc:D} (ha:Wd (.sl 6) tk) (hl:Yw lc):gx .i64 (EN tk lc):=by
 unfold EN;split
 ·constructor<;>omega
 ·exact (O1 ha hl J J).2
theorem JF {tk lc:D} (ha:Wd (.sl 6) tk) (hl:Yw lc) (x3 x5 x6 x7 x8 x9 qy:Int): ∀(j i:Nat) (v:Int),i+j=tk.l.length->L 1751 [enc tk,(tk.l.length:Int),(i:Int),x3,enc lc,x5,x6,x7,x8,x9,qy,v]=some [x9,qy,if j=0 then v else EN tk lc,x8,1]
 |0,i,v,hi=>by simp_all [bI,abK,n?,zz,bU]
 |j+1,i,v,hi=>by
  have hr:=ha.len;have c1:(i:Int)<(tk.l.length:Int):=J
  have c2: ¬((i:Int)<0):=J
  have w:=bF (n:=i) J;obtain⟨he,_⟩:=O1 ha hl (i:=(i:Int)) J c1;have ih:=JF ha hl x3 x5 x6 x7 x8 x9 qy j (i+1) (ev (tk.at (i:Int)) lc) J;rw [bI,abK];simp only [n?,zz,c1,c2,w,he,bx]
  grind [EN]
noncomputable def gw (d1:D) (t:Int) (x:KT):List Int:=
 if x.w=0 then
  if x.a=(Nc d1 t:Int) then [0,0,0,0,0]
  else if ((fN d1 t x).V 0).n=1 then [((fN d1 t x).V 1).n,((fN d1 t x).V 2).n,EN ((fN d1 t x).V 6) x.lc,x.tr,1]
  else if ((fN d1 t x).V 0).n=2 then [26,((fN d1 t x).V 2).n,0,0,1]
  else [0,0,0,0,0]
 else [x.w,x.o,x.g,0,1]
section
variable {d0 d1 s k:D} {t:Int} {x:KT} (C:Cd d0 d1) (hk:k.at t=x.d) (ht:t<(k.l.length:Int)) (R:Rt d0 d1 t x)
include C hk ht R
theorem Lu:L 1750 [enc d0,enc d1,enc s,enc k,t]=some (gw d1 t x):=by
 have c1: ¬t<0:=by have:=R.t0; omega
 have c2:=R.t1;have c3: ¬x.a<0:=by have:=R.ok.1; omega
 have ho:=AP (s:=s) hk ht R;unfold gw;rw [bI,ahz];by_cases w0:x.w=0
 ·by_cases a0:x.a=(Nc d1 t:Int)
  ·have e:ib d1 t x=1:=by unfold ib; rw [ag w0,ag a0]
   rw [e] at ho;rw [ag w0,ag a0];simp only [IZ,zz,hk,c1,ht,c2,zg,w0,ho,bR,bU]
  ·have e:ib d1 t x=0:=by unfold ib; rw [ag w0,af a0]
   rw [e] at ho;have gy:x.a<(Nc d1 t:Int):=by have:=R.ok.2.1; unfold Nc at a0 ⊢; omega
   have F:=C.inf R gy;rw [ag w0,af a0];unfold fN at F ⊢;unfold Nc at gy;by_cases U:((((d1.at t).V 2).at x.a).V 0).n=1
   ·rw [ag U];have lp:=JF F.ar R.ints x.a x.w x.o x.g x.tr ((((d1.at t).V 2).at x.a).V 1).n ((((d1.at t).V 2).at x.a).V 2).n ((((d1.at t).V 2).at x.a).V 6).l.length 0 0 J
    have e2:(if ((((d1.at t).V 2).at x.a).V 6).l.length=0 then 0 else EN ((((d1.at t).V 2).at x.a).V 6) x.lc)=EN ((((d1.at t).V 2).at x.a).V 6) x.lc:=by
     grind [EN]
    rw [e2] at lp;simp only [IZ,zz,hk,c1,ht,c2,c3,zg,w0,ho,gy,U,bx]
    grind
   ·by_cases Z:((((d1.at t).V 2).at x.a).V 0).n=2
    ·rw [af U,ag Z];simp only [IZ,zz,hk,c1,ht,c2,c3,zg,w0,ho,gy,Z,bU,if_false,z6]
    ·rw [af U,af Z];simp only [IZ,zz,hk,c1,ht,c2,c3,zg,w0,ho,gy,U,Z,bU]
 ·rw [af w0];simp only [IZ,zz,hk,c1,ht,zg,w0,bU]
end
noncomputable def iP (I:D) (x:KT):KT:=
 if (I.V 0).n=3 then { x with a:=x.a+1,lc:=dL (dE x.lc.l (I.V 3).n (.i (ev ((I.V 6).at 0) x.lc))) }
 else if (I.V 0).n=4 then (if ev ((I.V 6).at 0) x.lc=0 then { x with a:=(I.V 4).n } else { x with a:=x.a+1 })
 else if (I.V 0).n=5 then { x with a:=(I.V 4).n }
 else if (I.V 0).n=6 then { x with a:=x.a+1,lc:=dL (dE x.lc.l (I.V 3).n (.i (I.V 5).n)) }
 else if 0<(x.lc.at (I.V 3).n).n then { x with a:=x.a+1,lc:=dL (dE x.lc.l (I.V 3).n (.i (IntKind.i64.wrap ((x.lc.at (I.V 3).n).n-1)))) }
 else { x with a:=(I.V 4).n }
structure Loc (d1:D) (t:Int) (x:KT):Prop where
 w:x.w=0
 a:x.a<(Nc d1 t:Int)
 n1:((fN d1 t x).V 0).n≠1
 n2:((fN d1 t x).V 0).n≠2
theorem CV {d0 d1:D} {t:Int} {x:KT} (R:Rt d0 d1 t x) (ho:ib d1 t x=0) (hn:low (gw d1 t x) 4=0):Loc d1 t x:=by
 unfold ib at ho;unfold gw at hn;have Z:=R.ok.2.1;by_cases w0:x.w=0
 ·rw [ag w0] at ho hn;by_cases a0:x.a=(Nc d1 t:Int)
  ·grind
  ·rw [af a0] at hn;by_cases U:((fN d1 t x).V 0).n=1
   ·grind [bQ,bP]
   ·by_cases h2':((fN d1 t x).V 0).n=2
    ·grind [bQ,bP]
    ·exact⟨w0,by unfold Nc at a0 ⊢; omega,U,h2'⟩
 grind [bQ,bP]
section
variable {d0 d1 s k:D} {t:Int} {x:KT} (C:Cd d0 d1) (ht:t<(k.l.length:Int)) (R:Rt d0 d1 t x) (Lc:Loc d1 t x)
include C ht R Lc
theorem L_:L 14000 [enc d0,enc d1,t,enc s,enc k,x.a,enc x.lc,x.w,x.o,x.g,x.tr]=some [0,enc d0,enc d1,t,enc s,enc k,x.a,enc x.lc,x.w,x.o,x.g,x.tr,(iP (fN d1 t x) x).a,enc (iP (fN d1 t x) x).lc]:=by
 have c1: ¬t<0:=by have:=R.t0; omega
 have c2:=R.t1;have c3: ¬x.a<0:=by have:=R.ok.1; omega
 have c4:=Lc.a;have F:=C.inf R c4;have Iy:(x.lc.l.length:Int)=(((d1.at t).V 1).l.length:Int):=R.ok.2.2.1;have hnc:((d1.at t).V 2).l.length<=140737488351232:=(C.code R.t0 R.t1).len;have n1:=Lc.n1;have n2:=Lc.n2
 have hw:IntKind.i64.wrap (x.a+1)=x.a+1:=by
  grind [fW]
 have E:=O1 F.ar R.ints (i:=0);have ok:=F.ok;unfold fN at n1 n2 ok E ⊢;unfold Nc at c4;rw [bI,abS];unfold iP;rcases ok with h|h|⟨h,i0,i1,na⟩|⟨h,_,_,na⟩|⟨h,_⟩|⟨h,i0,i1⟩|⟨h,i0,i1,_⟩
 ·grind
 ·grind
 ·have c5: ¬(((((d1.at t).V 2).at x.a).V 3).n<0):=J
  have c6:(((((d1.at t).V 2).at x.a).V 3).n<(x.lc.l.length:Int)):=J
  have c7:(0:Int)<(((((d1.at t).V 2).at x.a).V 6).l.length:Int):=J
  obtain⟨E,_⟩:=E J c7;simp only [wi,zz,c1,ht,c2,c3,c4,c5,c6,c7,h,E,hw,bU]
 ·have c7:(0:Int)<(((((d1.at t).V 2).at x.a).V 6).l.length:Int):=J
  obtain⟨E,_⟩:=E J c7;by_cases hz:ev (((((d1.at t).V 2).at x.a).V 6).at 0) x.lc=0
  ·simp only [wi,zz,c1,ht,c2,c3,c4,c7,h,E,hw,hz,bU,z6]
  ·simp only [wi,zz,c1,ht,c2,c3,c4,c7,h,E,hw,hz,bU,z6]
 ·simp only [wi,zz,c1,ht,c2,c3,c4,h,hw,bU,z6]
 ·have c5: ¬(((((d1.at t).V 2).at x.a).V 3).n<0):=J
  have c6:(((((d1.at t).V 2).at x.a).V 3).n<(x.lc.l.length:Int)):=J
  simp only [wi,zz,c1,ht,c2,c3,c4,c5,c6,h,hw,bU,z6]
 ·have c5: ¬(((((d1.at t).V 2).at x.a).V 3).n<0):=J
  have c6:(((((d1.at t).V 2).at x.a).V 3).n<(x.lc.l.length:Int)):=J
  by_cases hz:0<(x.lc.at ((((d1.at t).V 2).at x.a).V 3).n).n
  ·simp only [wi,zz,c1,ht,c2,c3,c4,c5,c6,h,hw,hz,bU,z6]
  ·simp only [wi,zz,c1,ht,c2,c3,c4,c5,c6,h,hw,hz,bU,z6]
theorem K? (hz:x.lc.l.length=0):L 14050 [enc d0,enc d1,t,enc s,enc k,x.a,enc x.lc,x.w,x.o,x.g,x.tr]=some [0,enc d0,enc d1,t,enc s,enc k,x.a,enc x.lc,x.w,x.o,x.g,x.tr,(iP (fN d1 t x) x).a]/\(iP (fN d1 t x) x).lc=x.lc:=by
 have c1: ¬t<0:=by have:=R.t0; omega
 have c2:=R.t1;have c3: ¬x.a<0:=by have:=R.ok.1; omega
 have c4:=Lc.a;have F:=C.inf R c4;have Iy:(x.lc.l.length:Int)=(((d1.at t).V 1).l.length:Int):=R.ok.2.2.1;have hnc:((d1.at t).V 2).l.length<=140737488351232:=(C.code R.t0 R.t1).len;have n1:=Lc.n1;have n2:=Lc.n2
 have hw:IntKind.i64.wrap (x.a+1)=x.a+1:=by
  grind [fW]
 have E:=O1 F.ar R.ints (i:=0);have ok:=F.ok;unfold fN at n1 n2 ok E ⊢;unfold Nc at c4;rw [bI,abR];unfold iP;rcases ok with h|h|⟨h,i0,i1,na⟩|⟨h,_,_,na⟩|⟨h,_⟩|⟨h,i0,i1⟩|⟨h,i0,i1,_⟩
 ·grind
 ·grind
 ·omega
 ·have c7:(0:Int)<(((((d1.at t).V 2).at x.a).V 6).l.length:Int):=J
  obtain⟨E,_⟩:=E J c7;by_cases hz:ev (((((d1.at t).V 2).at x.a).V 6).at 0) x.lc=0
  ·simp only [KY,zz,c1,ht,c2,c3,c4,c7,h,E,hw,hz,bU,z6]
  ·simp only [KY,zz,c1,ht,c2,c3,c4,c7,h,E,hw,hz,bU,z6]
 ·simp only [KY,zz,c1,ht,c2,c3,c4,h,hw,bU,z6]
 all_goals grind
theorem Oj:Rt d0 d1 t (iP (fN d1 t x) x)/\(iP (fN d1 t x) x).lc.l.length=x.lc.l.length:=by
 have c4:=Lc.a;have F:=C.inf R c4;obtain⟨a0,a1,Iy,tr0,tr1,hw⟩:=R.ok;have n1:=Lc.n1;have n2:=Lc.n2;have ok:=F.ok;have hI:=R.ints
 have hwd: ∀{z v:Int},0<=z->z<(x.lc.l.length:Int)->gx .i64 v->Wd (.sl 0) (dL (dE x.lc.l z (.i v))):=fun {z v} h0 U hv=>by
  have:=R.hl.room;have h3:mU 0=8:=rfl;rw [h3] at this;have hs:=ej x.lc.l z (.i v);refine xQ (fun y hy=>?_) (fun he=>?_) (by rw [hs]; omega)
  ·rcases wP hy with h|rfl
   ·exact (R.hl.el1 rfl y h).i
   grind
  grind
 have hsl: ∀z v,(dL (dE x.lc.l z v)).l.length=x.lc.l.length:=fun z v=>by rw [bz,ej]
 have T:=R.t0;have T':=R.t1;unfold Nc at c4 ok F;unfold iP;have go: ∀{a:Int} {lc:D},0<=a->a<=(((d1.at t).V 2).l.length:Int)->lc.l.length=x.lc.l.length->Wd (.sl 0) lc->Rt d0 d1 t { x with a:=a,lc:=lc }/\({ x with a:=a,lc:=lc }:KT).lc.l.length=x.lc.l.length:=fun h0 U Z h3=> ⟨⟨T,T',⟨h0,U,by rw [Z]; exact Iy,tr0,tr1,hw⟩,h3,R.hg⟩,Z⟩;rcases ok with h|h|⟨h,i0,i1,na⟩|⟨h,t0,t1,na⟩|⟨h,t0,t1⟩|⟨h,i0,i1⟩|⟨h,i0,i1,t0,t1⟩
 ·grind
 ·grind
 ·rw [ag h];exact go J J (hsl _ _) (hwd i0 J (O1 F.ar hI J J).2)
 ·rw [af J,ag h];split
  ·exact go t0 t1 rfl R.hl
  ·exact go J J rfl R.hl
 ·rw [af J,af J,ag h];exact go t0 t1 rfl R.hl
 ·rw [af J,af J,af J,ag h];exact go J J (hsl _ _) (hwd i0 J F.nn)
 ·rw [af J,af J,af J,af J];split
  ·grind [go,sj]
  ·exact go t0 t1 rfl R.hl
end
theorem z5:(∀p:Prop,(p/\False)=False)/\(∀p:Prop,(False/\p)=False)/\(¬True)=False/\(∀p:Prop,(p/\p)=p)/\(∀(a:Int) (l m:List Int),(a::l)++m=a::(l++m))/\(∀l:List Int,[]++l=l)/\((16:Int)=15)=False/\((3:Int)=0)=False/\((15:Int)=16)=False/\(∀ys:List Int,fin L (.out ys)=some ys):=
 ⟨and_false,false_and,not_true_eq_false,and_self,fun _ _ _=>rfl,fun _=>rfl,ad,ad,ad,fun _=>rfl⟩
def YA:Act->Prop
 | .res _ _ _ _ _ _ _ a _=>gx .i64 a
 |_=>True
theorem YA.ite {p:Prop} [Decidable p] {a b:Act} (ha:YA a) (hb:YA b):YA (if p then a else b):=by
 grind
theorem aml {r:D} (h:Wd (.sl 0) r) (i:Nat):gx .i64 (r.at (i:Int)).n:=by
 by_cases hi:i<r.l.length
 ·rw [bG hi];obtain⟨n,hn,hk⟩:=(h.el1 rfl _ (aq hi)).i;rw [hn];exact hk
 ·rw [fb,arH J];constructor<;>(simp only [ar2,zM]; omega)
theorem ao2 {y:D} {M mo th op arg tries o c dn g:Int} {r v:D} (T:Tg y o c dn g r v) (hr:r.l.length<=140737488351232) (ha:gx .i64 arg):YA (act M mo th op arg tries o c dn g r v):=by
 have hz:gx .i64 0:=⟨J,J⟩;have U:gx .i64 1:=⟨J,J⟩;have w:=@sj;have hv:=aml T.hv 0;have hl:gx .i64 (r.l.length:Int):=⟨J,J⟩;unfold act
 repeat' refine YA.ite ?_ ?_
 all_goals first
  |trivial
  |exact hz
  |exact U
  |exact w _
  |exact T.hc
  |exact ha
  |exact T.hg
  |exact hv
  |exact hl
def eU (I:D) (x:KT) (op e2 e3 e4 oc:Int):KT:=
 if oc=0 then (if op=4 then { x with tr:=if 4611686018427387904<x.tr+1 then 4611686018427387904 else x.tr+1 } else x)
 else if x.w=0 then
  { a:=if (I.V 0).n=1/\(I.V 1).n=16/\¬(e2=16/\e4=1) then (I.V 4).n else x.a+1,lc:=if (I.V 0).n=1/\¬(I.V 3).n<0 then dL (dE x.lc.l (I.V 3).n (.i e4)) else x.lc,w:=if oc=3 then (if e2=15 then 25 else 24) else 0,o:=if oc=3 then e3 else x.o,g:=if oc=3/\e2=15 then e4 else x.g,tr:=0 }
 else { x with w:=0,o:=0,g:=0,tr:=0 }
def IA (e1 e2 e3 e4 e5 oc:Int):List Int:=if oc=0 then [0,0,0,0,0] else [e1,e2,e3,e4,e5]
section
variable {d0 d1 s s' k:D} {t op obj arg tries e1 e2 e3 e4 e5 oc:Int} {x:KT} (C:Cd d0 d1) (ht:t<(k.l.length:Int)) (R:Rt d0 d1 t x)
 (hA:L 400 [enc d0,enc d1,enc s,t,op,obj,arg,tries]=some [enc s',e1,e2,e3,e4,e5,oc]) (h0:oc=0->s'=s) (Y:x.w=0->x.a<(Nc d1 t:Int))
include C ht R hA h0 Y
set_option maxHeartbeats 4000000 in
theorem ZE:L 14500 [enc d0,enc d1,t,op,obj,arg,tries,enc s,enc k,x.a,enc x.lc,x.w,x.o,x.g,x.tr]=some (0::enc d0::enc d1::t::op::obj::arg::tries::enc s::enc k::x.a::enc x.lc::x.w::x.o::x.g::x.tr::(IA e1 e2 e3 e4 e5 oc++ [oc,enc s',(eU (fN d1 t x) x op e2 e3 e4 oc).a,enc (eU (fN d1 t x) x op e2 e3 e4 oc).lc,(eU (fN d1 t x) x op e2 e3 e4 oc).w,(eU (fN d1 t x) x op e2 e3 e4 oc).o,(eU (fN d1 t x) x op e2 e3 e4 oc).g,(eU (fN d1 t x) x op e2 e3 e4 oc).tr])):=by
 have c1: ¬t<0:=by have:=R.t0; omega
 have c2:=R.t1;have c3: ¬x.a<0:=by have:=R.ok.1; omega
 have q0:=R.ok.2.2.2.1;have q1:=R.ok.2.2.2.2.1;have wt:IntKind.i64.wrap (x.tr+1)=x.tr+1:=fW J J;rw [bI,abP];unfold eU IA;by_cases o0:oc=0
 ·have hs:=h0 o0;subst hs;subst o0;by_cases p4:op=4
  ·subst p4;by_cases pt:4611686018427387904<x.tr+1
   ·simp only [fQ,zz,hA,c1,ht,wt,pt,bU,if_true,eq_self,aM,au]
   ·simp only [fQ,zz,hA,c1,ht,wt,pt,bU,if_true,eq_self,if_false,aM,au]
  ·simp only [fQ,zz,hA,c1,ht,p4,bU,if_true,if_false,aM,au]
 ·by_cases w0:x.w=0
  ·have c4:=Y w0;have F:=C.inf R c4;have ok:=F.ok;have Iy:(x.lc.l.length:Int)=(((d1.at t).V 1).l.length:Int):=R.ok.2.2.1;have hnc:((d1.at t).V 2).l.length<=140737488351232:=(C.code R.t0 R.t1).len;unfold Nc at c4;have hw:IntKind.i64.wrap (x.a+1)=x.a+1:=fW J J;unfold OkI fN at ok;unfold fN;by_cases n1:((((d1.at t).V 2).at x.a).V 0).n=1
   ·have uc:((((d1.at t).V 2).at x.a).V 3).n= -1\/0<=((((d1.at t).V 2).at x.a).V 3).n/\((((d1.at t).V 2).at x.a).V 3).n<(x.lc.l.length:Int):=by
     grind
    by_cases i0:((((d1.at t).V 2).at x.a).V 3).n<0
    ·by_cases vx:((((d1.at t).V 2).at x.a).V 1).n=16
     ·by_cases DQ:e2=16
      ·by_cases q4:e4=1
       ·by_cases q3:oc=3
        ·simp only [fQ,zz,hA,c1,ht,c2,c3,c4,o0,w0,hw,n1,i0,vx,DQ,q4,q3,z5]
        ·simp only [fQ,zz,hA,c1,ht,c2,c3,c4,o0,w0,hw,n1,i0,vx,DQ,q4,q3,z5]
       ·by_cases q3:oc=3
        ·simp only [fQ,zz,hA,c1,ht,c2,c3,c4,o0,w0,hw,n1,i0,vx,DQ,q4,q3,z5]
        ·simp only [fQ,zz,hA,c1,ht,c2,c3,c4,o0,w0,hw,n1,i0,vx,DQ,q4,q3,z5]
      ·by_cases uC:e2=15
       ·by_cases q3:oc=3
        ·simp only [fQ,zz,hA,c1,ht,c2,c3,c4,o0,w0,hw,n1,i0,vx,DQ,uC,q3,z5]
        ·simp only [fQ,zz,hA,c1,ht,c2,c3,c4,o0,w0,hw,n1,i0,vx,DQ,uC,q3,z5]
       ·by_cases q3:oc=3
        ·simp only [fQ,zz,hA,c1,ht,c2,c3,c4,o0,w0,hw,n1,i0,vx,DQ,uC,q3,z5]
        ·simp only [fQ,zz,hA,c1,ht,c2,c3,c4,o0,w0,hw,n1,i0,vx,DQ,uC,q3,z5]
     ·by_cases uC:e2=15
      ·by_cases q3:oc=3
       ·simp only [fQ,zz,hA,c1,ht,c2,c3,c4,o0,w0,hw,n1,i0,vx,uC,q3,z5]
       ·simp only [fQ,zz,hA,c1,ht,c2,c3,c4,o0,w0,hw,n1,i0,vx,uC,q3,z5]
      ·by_cases q3:oc=3
       ·simp only [fQ,zz,hA,c1,ht,c2,c3,c4,o0,w0,hw,n1,i0,vx,uC,q3,z5]
       ·simp only [fQ,zz,hA,c1,ht,c2,c3,c4,o0,w0,hw,n1,i0,vx,uC,q3,z5]
    ·have i1:((((d1.at t).V 2).at x.a).V 3).n<(x.lc.l.length:Int):=J
     by_cases vx:((((d1.at t).V 2).at x.a).V 1).n=16
     ·by_cases DQ:e2=16
      ·by_cases q4:e4=1
       ·by_cases q3:oc=3
        ·simp only [fQ,zz,hA,c1,ht,c2,c3,c4,o0,w0,hw,n1,i0,i1,vx,DQ,q4,q3,z5]
        ·simp only [fQ,zz,hA,c1,ht,c2,c3,c4,o0,w0,hw,n1,i0,i1,vx,DQ,q4,q3,z5]
       ·by_cases q3:oc=3
        ·simp only [fQ,zz,hA,c1,ht,c2,c3,c4,o0,w0,hw,n1,i0,i1,vx,DQ,q4,q3,z5]
        ·simp only [fQ,zz,hA,c1,ht,c2,c3,c4,o0,w0,hw,n1,i0,i1,vx,DQ,q4,q3,z5]
      ·by_cases uC:e2=15
       ·by_cases q3:oc=3
        ·simp only [fQ,zz,hA,c1,ht,c2,c3,c4,o0,w0,hw,n1,i0,i1,vx,DQ,uC,q3,z5]
        ·simp only [fQ,zz,hA,c1,ht,c2,c3,c4,o0,w0,hw,n1,i0,i1,vx,DQ,uC,q3,z5]
       ·by_cases q3:oc=3
        ·simp only [fQ,zz,hA,c1,ht,c2,c3,c4,o0,w0,hw,n1,i0,i1,vx,DQ,uC,q3,z5]
        ·simp only [fQ,zz,hA,c1,ht,c2,c3,c4,o0,w0,hw,n1,i0,i1,vx,DQ,uC,q3,z5]
     ·by_cases uC:e2=15
      ·by_cases q3:oc=3
       ·simp only [fQ,zz,hA,c1,ht,c2,c3,c4,o0,w0,hw,n1,i0,i1,vx,uC,q3,z5]
       ·simp only [fQ,zz,hA,c1,ht,c2,c3,c4,o0,w0,hw,n1,i0,i1,vx,uC,q3,z5]
      ·by_cases q3:oc=3
       ·simp only [fQ,zz,hA,c1,ht,c2,c3,c4,o0,w0,hw,n1,i0,i1,vx,uC,q3,z5]
       ·simp only [fQ,zz,hA,c1,ht,c2,c3,c4,o0,w0,hw,n1,i0,i1,vx,uC,q3,z5]
   ·by_cases uC:e2=15
    ·by_cases q3:oc=3
     ·simp only [fQ,zz,hA,c1,ht,c2,c3,c4,o0,w0,hw,n1,uC,q3,z5]
     ·simp only [fQ,zz,hA,c1,ht,c2,c3,c4,o0,w0,hw,n1,uC,q3,z5]
    ·by_cases q3:oc=3
     ·simp only [fQ,zz,hA,c1,ht,c2,c3,c4,o0,w0,hw,n1,uC,q3,z5]
     ·simp only [fQ,zz,hA,c1,ht,c2,c3,c4,o0,w0,hw,n1,uC,q3,z5]
  ·simp only [fQ,zz,hA,c1,ht,o0,w0,bU,if_true,if_false,aM,au]
end
section
variable {d0 d1 s s' k:D} {t op obj arg tries e1 e2 e3 e4 e5 oc:Int} {x:KT} (C:Cd d0 d1) (ht:t<(k.l.length:Int)) (R:Rt d0 d1 t x)
 (hA:L 400 [enc d0,enc d1,enc s,t,op,obj,arg,tries]=some [enc s',e1,e2,e3,e4,e5,oc]) (h0:oc=0->s'=s) (Y:x.w=0->x.a<(Nc d1 t:Int)) (hz:x.lc.l.length=0)
include C ht R hA h0 Y hz
set_option maxHeartbeats 4000000 in
theorem ZD:L 14550 [enc d0,enc d1,t,op,obj,arg,tries,enc s,enc k,x.a,enc x.lc,x.w,x.o,x.g,x.tr]=some (0::enc d0::enc d1::t::op::obj::arg::tries::enc s::enc k::x.a::enc x.lc::x.w::x.o::x.g::x.tr::(IA e1 e2 e3 e4 e5 oc++ [oc,enc s',(eU (fN d1 t x) x op e2 e3 e4 oc).a,(eU (fN d1 t x) x op e2 e3 e4 oc).w,(eU (fN d1 t x) x op e2 e3 e4 oc).o,(eU (fN d1 t x) x op e2 e3 e4 oc).g,(eU (fN d1 t x) x op e2 e3 e4 oc).tr]))/\(eU (fN d1 t x) x op e2 e3 e4 oc).lc=x.lc:=by
 have c1: ¬t<0:=by have:=R.t0; omega
 have c2:=R.t1;have c3: ¬x.a<0:=by have:=R.ok.1; omega
 have q0:=R.ok.2.2.2.1;have q1:=R.ok.2.2.2.2.1;have wt:IntKind.i64.wrap (x.tr+1)=x.tr+1:=fW J J;rw [bI,abM];unfold eU IA;by_cases o0:oc=0
 ·have hs:=h0 o0;subst hs;subst o0;by_cases p4:op=4
  ·subst p4;by_cases pt:4611686018427387904<x.tr+1
   ·simp only [jC,zz,hA,c1,ht,wt,pt,bU,if_true,eq_self,aM,au]<;>exact⟨rfl,rfl⟩
   ·simp only [jC,zz,hA,c1,ht,wt,pt,bU,if_true,eq_self,if_false,aM,au]<;>exact⟨rfl,rfl⟩
  ·simp only [jC,zz,hA,c1,ht,p4,bU,if_true,if_false,aM,au]<;>exact⟨rfl,rfl⟩
 ·by_cases w0:x.w=0
  ·have c4:=Y w0;have F:=C.inf R c4;have ok:=F.ok;have Iy:(x.lc.l.length:Int)=(((d1.at t).V 1).l.length:Int):=R.ok.2.2.1;have hnc:((d1.at t).V 2).l.length<=140737488351232:=(C.code R.t0 R.t1).len;unfold Nc at c4;have hw:IntKind.i64.wrap (x.a+1)=x.a+1:=fW J J;unfold OkI fN at ok;unfold fN;by_cases n1:((((d1.at t).V 2).at x.a).V 0).n=1
   ·have uc:((((d1.at t).V 2).at x.a).V 3).n= -1\/0<=((((d1.at t).V 2).at x.a).V 3).n/\((((d1.at t).V 2).at x.a).V 3).n<(x.lc.l.length:Int):=by
     grind
    by_cases i0:((((d1.at t).V 2).at x.a).V 3).n<0
    ·by_cases vx:((((d1.at t).V 2).at x.a).V 1).n=16
     ·by_cases DQ:e2=16
      ·by_cases q4:e4=1
       ·by_cases q3:oc=3
        ·simp only [jC,zz,hA,c1,ht,c2,c3,c4,o0,w0,hw,n1,i0,vx,DQ,q4,q3,z5]<;>exact⟨rfl,rfl⟩
        ·simp only [jC,zz,hA,c1,ht,c2,c3,c4,o0,w0,hw,n1,i0,vx,DQ,q4,q3,z5]<;>exact⟨rfl,rfl⟩
       ·by_cases q3:oc=3
        ·simp only [jC,zz,hA,c1,ht,c2,c3,c4,o0,w0,hw,n1,i0,vx,DQ,q4,q3,z5]<;>exact⟨rfl,rfl⟩
        ·simp only [jC,zz,hA,c1,ht,c2,c3,c4,o0,w0,hw,n1,i0,vx,DQ,q4,q3,z5]<;>exact⟨rfl,rfl⟩
      ·by_cases uC:e2=15
       ·by_cases q3:oc=3
        ·simp only [jC,zz,hA,c1,ht,c2,c3,c4,o0,w0,hw,n1,i0,vx,DQ,uC,q3,z5]<;>exact⟨rfl,rfl⟩
        ·simp only [jC,zz,hA,c1,ht,c2,c3,c4,o0,w0,hw,n1,i0,vx,DQ,uC,q3,z5]<;>exact⟨rfl,rfl⟩
       ·by_cases q3:oc=3
        ·simp only [jC,zz,hA,c1,ht,c2,c3,c4,o0,w0,hw,n1,i0,vx,DQ,uC,q3,z5]<;>exact⟨rfl,rfl⟩
        ·simp only [jC,zz,hA,c1,ht,c2,c3,c4,o0,w0,hw,n1,i0,vx,DQ,uC,q3,z5]<;>exact⟨rfl,rfl⟩
     ·by_cases uC:e2=15
      ·by_cases q3:oc=3
       ·simp only [jC,zz,hA,c1,ht,c2,c3,c4,o0,w0,hw,n1,i0,vx,uC,q3,z5]<;>exact⟨rfl,rfl⟩
       ·simp only [jC,zz,hA,c1,ht,c2,c3,c4,o0,w0,hw,n1,i0,vx,uC,q3,z5]<;>exact⟨rfl,rfl⟩
      ·by_cases q3:oc=3
       ·simp only [jC,zz,hA,c1,ht,c2,c3,c4,o0,w0,hw,n1,i0,vx,uC,q3,z5]<;>exact⟨rfl,rfl⟩
       ·simp only [jC,zz,hA,c1,ht,c2,c3,c4,o0,w0,hw,n1,i0,vx,uC,q3,z5]<;>exact⟨rfl,rfl⟩
    ·omega
   ·by_cases uC:e2=15
    ·by_cases q3:oc=3
     ·simp only [jC,zz,hA,c1,ht,c2,c3,c4,o0,w0,hw,n1,uC,q3,z5]<;>exact⟨rfl,rfl⟩
     ·simp only [jC,zz,hA,c1,ht,c2,c3,c4,o0,w0,hw,n1,uC,q3,z5]<;>exact⟨rfl,rfl⟩
    ·by_cases q3:oc=3
     ·simp only [jC,zz,hA,c1,ht,c2,c3,c4,o0,w0,hw,n1,uC,q3,z5]<;>exact⟨rfl,rfl⟩
     ·simp only [jC,zz,hA,c1,ht,c2,c3,c4,o0,w0,hw,n1,uC,q3,z5]<;>exact⟨rfl,rfl⟩
  ·simp only [jC,zz,hA,c1,ht,o0,w0,bU,if_true,if_false,aM,au]<;>exact⟨rfl,rfl⟩
end
structure Sx (s k:D) (n:Nat):Prop where
 g:Gs s n
 wk:Wd (.sl 8) k
 n2s:s≠.i 2
 n2k:k≠.i 2
structure Sw (s k:D) (n:Nat):Prop where
 g:Gs s n
 wk:Wd (.sl 8) k
theorem Sx.sw {s k:D} {n:Nat} (S:Sx s k n):Sw s k n:=⟨S.g,S.wk⟩
theorem Sw.st {s k:D} {n:Nat} (S:Sw s k n):Sk s k:=⟨S.g.wd,S.wk⟩
theorem Sx.st {s k:D} {n:Nat} (S:Sx s k n):Sk s k:=S.sw.st
instance {s k:D} {n:Nat}:CoeOut (Sx s k n) (Sk s k):=⟨Sx.st⟩
instance {s k:D} {n:Nat}:CoeOut (Sw s k n) (Sk s k):=⟨Sw.st⟩
theorem Sx.mono {s k:D} {n m:Nat} (S:Sx s k n) (h:n<=m):Sx s k m:=⟨S.g.mono h,S.wk,S.n2s,S.n2k⟩
abbrev gV (k:D) (t:Int) (x:KT):D:=dL (dE k.l t x.d)
theorem cN (a:D) (l:List D):dL (a::l)= .p a (dL l):=rfl
theorem dM:dL []= .i 0:=rfl
structure BZ (d0 d1 s:D) (t op obj arg tries:Int) (n:Nat) (s':D) (e1 e2 e3 e4 e5 oc:Int):Prop where
 eq:L 400 [enc d0,enc d1,enc s,t,op,obj,arg,tries]=some [enc s',e1,e2,e3,e4,e5,oc]
 no:oc=0->s'=s/\e1=0/\e2=0/\e3=0/\e4=0/\e5=0
 oc3:oc=0\/oc=2\/oc=3
 gs:Gs s' (n+1)
 len:s'.l.length=s.l.length
 n2:s≠.i 2->s'≠.i 2
 e3:gx .i64 e3
 e4:gx .i64 e4
theorem KN {d0 d1 s:D} {t op obj arg tries:Int} {n:Nat} (h0:Wd (.sl 3) d0) (U:Wd (.sl 4) d1) (G:Gs s n) (hn:n<17592186043904) (ht:gx .i64 t) (pe:gx .u8 op) (uP:gx .i64 obj) (ha:gx .i64 arg) :
 ∃s' e1 e2 e3 e4 e5 oc,BZ d0 d1 s t op obj arg tries n s' e1 e2 e3 e4 e5 oc:=by
 have hf:=G.nt (by omega:n<17592186044415);have z:gx .i64 0:=⟨J,J⟩;by_cases A:Acc d0 d1 s t op obj
 ·obtain⟨_,o,c,dn,g,r,v,T,hL⟩:=Ay (arg:=arg) (tries:=tries) h0 U G.wd hf pe A;rw [AR] at hL;have o0:=A.o0;have o1:=A.o1;obtain⟨i,rfl⟩ : ∃i:Nat,obj=(i:Int):=⟨obj.toNat,J⟩;have hi:i<s.l.length:=J
  have jt:=G.rows _ (aq hi);have e:s.l[i]=dL [.i o,.i c,.i dn,.i g,r,v]:=by rw [<- bG hi]; exact T.is
  rw [e] at jt;have hA:=alg (M:=Mx d0 (i:Int)) (mo:=Mo d0 s (i:Int)) (op:=op) (tries:=tries) T (n:=n) jt.1 jt.2 J ht ha;have hE:=ao2 (M:=Mx d0 (i:Int)) (mo:=Mo d0 s (i:Int)) (th:=t) (op:=op) (tries:=tries) T (by have:=jt.1; have:r.l.length<=n:=this; omega) ha
  have hM:NoM (act (Mx d0 (i:Int)) (Mo d0 s (i:Int)) t op arg tries o c dn g r v)\/0<=Mx d0 (i:Int)/\Mx d0 (i:Int)<(s.l.length:Int):=by
   by_cases h:op=12\/op=24
   ·have:=H6 h0 U G.wd hf pe A h;exact .inr ⟨this.1,this.2.1⟩
   ·exact .inl (Ye J J)
  have hg:=adN G hA o0 o1 hM;have hl:=B' s (i:Int) (Mx d0 (i:Int)) (act (Mx d0 (i:Int)) (Mo d0 s (i:Int)) t op arg tries o c dn g r v);generalize act (Mx d0 (i:Int)) (Mo d0 s (i:Int)) t op arg tries o c dn g r v=B at *
  have hn2:s≠.i 2->Gf s (i:Int) (Mx d0 (i:Int)) B≠.i 2:=fun _ he=>by rw [he] at hl;have:(D.i 2).l.length=0:=rfl;omega
  cases B with
  |oe=>exact⟨s,0,0,0,0,0,0,hL,fun _=> ⟨rfl,rfl,rfl,rfl,rfl,rfl⟩,.inl rfl,hg,rfl,fun h=>h,z,z⟩
  |yb=>exact⟨s,t,27,_,_,0,2,hL,fun h=>absurd h J,.inr (.inl rfl),hg,rfl,fun h=>h,uP,sj _⟩
  |res o' c' EL g' r' v' m a oc=>exact⟨_,t,op,_,a,0,oc,hL,fun h=>by have:=hA.2.2.2.2.2.2.2.2.2; omega,.inr hA.2.2.2.2.2.2.2.2.2,hg,hl,hn2,uP,hE⟩
 ·exact⟨s,0,0,0,0,0,0,FF h0 U G.wd hf pe A,fun _=> ⟨rfl,rfl,rfl,rfl,rfl,rfl⟩,.inl rfl,G.mono (arO n),rfl,fun h=>h,z,z⟩
noncomputable abbrev stE (d0 d1 s k:D) (t:Int):Nat->Int:=dq L (low [enc d0,enc d1,enc s,enc k,t])
theorem La {k:D} {t:Int} {x:KT} (h:k=dL k.l) (t0:0<=t) (t1:t<(k.l.length:Int)) (hk:k.at t=x.d):gV k t x=k:=by
 obtain⟨i,rfl⟩ : ∃i:Nat,t=(i:Int):=⟨t.toNat,J⟩;have hi:i<k.l.length:=J
 rw [bG hi] at hk;unfold gV;rw [<- hk];exact fv h hi
section
variable {d0 d1 s k:D} {t:Int} (S:Sk s k)
include S
theorem EY (hR:L 1550 [enc d0,enc d1,enc s,enc k,t]=some [0]):L 1850 [enc d0,enc d1,enc s,enc k,t]=some [enc s,enc k,0,0,0,0,0,0]:=by
 by_cases hr:t<0\/(k.l.length:Int)<=t
 ·rcases X9 S hr with h|⟨h,he⟩|⟨h,he⟩
  ·have K:eI (stE d0 d1 s k t) nC= .out [enc s,enc k,0,0,0,0,0,0]:=by
    simp only [nC,zz,h,hR,Int.reduceEq]
   rw [bI,Ei];exact congrArg (fin L) K
  ·subst he
   have K:eI (stE d0 d1 s (.i 1) t) nC= .out [enc s,enc (.i 1),0,0,0,0,0,0]:=by simp only [nC,zz,h,hR,Int.reduceEq]
   rw [bI,Ei];exact congrArg (fin L) K
  ·subst he
   have K:eI (stE d0 d1 s (.i 2) t) nC= .out [enc s,enc (.i 2),0,0,0,0,0,0]:=by simp only [nC,zz,h,hR,Int.reduceEq]
   rw [bI,Ei];exact congrArg (fin L) K
 ·obtain⟨i,rfl⟩ : ∃i:Nat,t=(i:Int):=⟨t.toNat,J⟩;have hi:i<k.l.length:=J
  obtain⟨a,lc,w,o,g,tr,T⟩:=gA S.wk _ (aq hi);have h:=Ky S hi T;have hs:gV k (i:Int) ⟨a,lc,w,o,g,tr⟩ = k:=La (FH S.wk J).sh J J (by rw [bG hi,T.is]);simp only [gV,KT.d,cN,dM] at hs;have ha:yK lc=3\/yK lc=4:=by unfold yK; split<;>simp
  have K:eI (stE d0 d1 s k (i:Int)) nC= .out [enc s,enc k,0,0,0,0,0,0]:=by
   rcases ha with ha|ha
   ·rw [ha] at h;simp only [nC,zz,h,hR,hs,Int.reduceEq]
   ·rw [ha] at h;simp only [nC,zz,h,hR,hs,Int.reduceEq]
  rw [bI,Ei];exact congrArg (fin L) K
end
structure Rs (d0 d1 s k:D) (t:Int) (x:KT):Prop where
 c:Cd d0 d1
 r:Rt d0 d1 t x
 hk:k.at t=x.d
 ht:t<(k.l.length:Int)
 yes:L 1550 [enc d0,enc d1,enc s,enc k,t]=some [1]
theorem Lh {d0 d1 s k:D} {t:Int} {n:Nat} (S:Sw s k n) (hn:n<17592186044000) (h0:Wd (.sl 3) d0) (U:Wd (.sl 4) d1):L 1550 [enc d0,enc d1,enc s,enc k,t]=some [0]\/∃x,Rs d0 d1 s k t x:=by
 obtain⟨ys,hL,b,rfl,hb⟩:=F7 (k:=k) h0 U (S.g.nt J).rows U.len t;rcases hb with ⟨rfl,_⟩|⟨rfl,t0,t1,M⟩
 ·exact .inl hL
 ·refine .inr ?_;obtain⟨hle,hO⟩:=M.2;obtain⟨i,rfl⟩ : ∃i:Nat,t=(i:Int):=⟨t.toNat,J⟩;have hi:i<k.l.length:=J
  have V:i<d1.l.length:=J
  obtain⟨a,lc,w,o,g,tr,T⟩:=gA S.wk _ (aq hi);have ok:=hO i hi;unfold Zb at ok;rw [T.is] at ok;simp only [zg,ay,zM] at ok;refine⟨⟨a,lc,w,o,g,tr⟩,(MR.code h0 U (S.g.nt J).rows M).1,⟨J,J,?_,T.hl,T.hg⟩,by rw [bG hi,T.is],J,hL⟩;rw [bG V];exact ok
section
variable {d0 d1 s k:D} {t:Int} {n:Nat} {x:KT} (S:Sk s k) (R:Rs d0 d1 s k t x)
include S R
theorem Rs.cp:L 9050 [t,enc s,enc k]=some [yK x.lc,t,enc s,enc k,x.a,enc x.lc,x.w,x.o,x.g,x.tr]:=by
 have t0:=R.r.t0;have ht:=R.ht;obtain⟨i,rfl⟩ : ∃i:Nat,t=(i:Int):=⟨t.toNat,J⟩;have hi:i<k.l.length:=J
 obtain⟨a,lc,w,o,g,tr,T⟩:=gA S.wk _ (aq hi);have h:=Ky S hi T;have e:=R.hk;rw [bG hi,T.is] at e;simp only [KT.d,cN,dM,D.p.injEq,D.i.injEq,and_true] at e;obtain⟨rfl,rfl,rfl,rfl,rfl,rfl⟩:=e;exact h
theorem Rs.self:dL (dE k.l t (.p (.i x.a) (.p x.lc (.p (.i x.w) (.p (.i x.o) (.p (.i x.g) (.p (.i x.tr) (.i 0))))))))=k:=by
 have hl:0<k.l.length:=by have:=R.r.t0; have:=R.ht; omega
 exact La (FH S.wk hl).sh R.r.t0 R.ht R.hk
theorem Cs (ho:ib d1 t x=1):L 1850 [enc d0,enc d1,enc s,enc k,t]=some [enc s,enc k,0,0,0,0,0,4]:=by
 have h:=R.cp S;have hs:=R.self S;have hR:=R.yes;have hO:=AP (s:=s) R.hk R.ht R.r;rw [ho] at hO;have ha:yK x.lc=3\/yK x.lc=4:=by unfold yK; split<;>simp
 have K:eI (stE d0 d1 s k t) nC= .out [enc s,enc k,0,0,0,0,0,4]:=by
  rcases ha with ha|ha
  ·rw [ha] at h;simp only [nC,zz,h,hR,hs,hO,Int.reduceEq]
  ·rw [ha] at h;simp only [nC,zz,h,hR,hs,hO,Int.reduceEq]
 rw [bI,Ei];exact congrArg (fin L) K
theorem zB (ho:ib d1 t x=0) (hn:low (gw d1 t x) 4=0):L 1850 [enc d0,enc d1,enc s,enc k,t]=some [enc s,enc (gV k t (iP (fN d1 t x) x)),0,0,0,0,0,1]:=by
 have h:=R.cp S;have hs:=R.self S;have hR:=R.yes;have hO:=AP (s:=s) R.hk R.ht R.r;have hN:=Lu (s:=s) R.c R.hk R.ht R.r;have Lc:=CV R.r ho hn;rw [ho] at hO
 have K:eI (stE d0 d1 s k t) nC= .out [enc s,enc (gV k t (iP (fN d1 t x) x)),0,0,0,0,0,1]:=by
  have hw:(iP (fN d1 t x) x).w=x.w/\(iP (fN d1 t x) x).o=x.o/\(iP (fN d1 t x) x).g=x.g/\(iP (fN d1 t x) x).tr=x.tr:=by
   unfold iP
   repeat' split
   all_goals exact⟨rfl,rfl,rfl,rfl⟩
  by_cases hp:0<x.lc.l.length
  ·have ha:yK x.lc=3:=ag hp;rw [ha] at h;have hl:=L_ (s:=s) R.c R.ht R.r Lc;simp only [nC,zz,h,hR,hs,hO,hN,hn,hl,gV,KT.d,cN,dM,hw,Int.reduceEq]
  ·have ha:yK x.lc=4:=af hp;rw [ha] at h;obtain⟨hl,hc⟩:=K? (s:=s) R.c R.ht R.r Lc J;simp only [nC,zz,h,hR,hs,hO,hN,hn,hl,gV,KT.d,cN,dM,hw,hc,Int.reduceEq]
 rw [bI,Ei];exact congrArg (fin L) K
theorem zA {op obj arg tries e1 e2 e3 e4 e5 oc:Int} {s':D} (ho:ib d1 t x=0) (hn:gw d1 t x= [op,obj,arg,tries,1]) (A:BZ d0 d1 s t op obj arg tries n s' e1 e2 e3 e4 e5 oc) :
 L 1850 [enc d0,enc d1,enc s,enc k,t]=some [enc s',enc (gV k t (eU (fN d1 t x) x op e2 e3 e4 oc)),e1,e2,e3,e4,e5,oc]:=by
 have h:=R.cp S;have hs:=R.self S;have hR:=R.yes;have hO:=AP (s:=s) R.hk R.ht R.r;have hN:=Lu (s:=s) R.c R.hk R.ht R.r;rw [ho] at hO;rw [hn] at hN
 have Y:x.w=0->x.a<(Nc d1 t:Int):=fun w0=>by unfold ib at ho;rw [ag w0] at ho;have:=R.r.ok.2.1;unfold Nc at ho ⊢;split at ho<;>omega
 have hE:IA e1 e2 e3 e4 e5 oc= [e1,e2,e3,e4,e5]:=by
  unfold IA;split
  ·rename_i h0;obtain⟨_,rfl,rfl,rfl,rfl,rfl⟩:=A.no h0;rfl
  ·rfl
 have K:eI (stE d0 d1 s k t) nC= .out [enc s',enc (gV k t (eU (fN d1 t x) x op e2 e3 e4 oc)),e1,e2,e3,e4,e5,oc]:=by
  by_cases hp:0<x.lc.l.length
  ·have ha:yK x.lc=3:=ag hp;rw [ha] at h;have hl:=ZE R.c R.ht R.r A.eq (fun h=>(A.no h).1) Y;rw [hE] at hl;simp only [aM,au] at hl;simp only [nC,zz,h,hR,hs,hO,hN,hl,gV,KT.d,cN,dM,Int.reduceEq]
  ·have ha:yK x.lc=4:=af hp;rw [ha] at h;obtain⟨hl,hc⟩:=ZD R.c R.ht R.r A.eq (fun h=>(A.no h).1) Y J;rw [hE] at hl;simp only [aM,au] at hl;simp only [nC,zz,h,hR,hs,hO,hN,hl,gV,KT.d,cN,dM,hc,Int.reduceEq]
 rw [bI,Ei];exact congrArg (fin L) K
end
theorem bL.jmp {j k:Nat} {xs ys:List Int} {t:T Lf} {p:List Int->Prop} (e:S.tree j=t) (h:eI (dq L (low xs)) t= .jump k ys) (q:bL k ys p):bL j xs p:=by refine bL.of ?_;rw [e,h];exact .jump q
theorem bL.ret {j:Nat} {xs ys:List Int} {t:T Lf} {p:List Int->Prop} (e:S.tree j=t) (h:eI (dq L (low xs)) t= .out ys) (q:p ys):bL j xs p:=by refine bL.of ?_;rw [e,h];exact .out q
theorem I5 (m:Nat) (hm:m<=60) (ih: ∀(k n:Int) (s kids:D),Wd .str s->Wd (.sl 6) kids->bL 150 [k,enc s,n,enc kids,(m:Int)] one) (x3 x4 x5:Int) (kids:D) (hk:Wd (.sl 6) kids) :
 ∀(j i:Nat) (x1:Int),i+j=kids.l.length->bL 151 [((m+1:Nat):Int),x1,(i:Int),x3,x4,x5,enc kids] one
 |0,i,x1,hi=>bL.ret aeD (ys:=[x1]) (cm [] [.lt Qo QG] (ou [Qb]) (by simp only [zz]<;>omega) aa (by simp only [zz])) ⟨x1,rfl⟩
 |j+1,i,x1,hi=>by
  have hl:=hk.len;have di:i<kids.l.length:=J
  have hw:=bF (n:=i) J;obtain⟨k,s,n,ks,he,_,hs,_,VA⟩:=qM hk di;have ha:kids.at (i:Int)=dL [.i k,s,.i n,ks]:=by rw [bG di]; exact he
  obtain⟨ys,SA,z,rfl⟩:=ih k n s ks hs VA;have hw2:IntKind.i64.wrap (((m+1:Nat):Int)-1)=(m:Int):=by rw [fW J J]; omega
  by_cases Y:10000<x1
  ·exact bL.ret aeD (ys:=[x1]) (cm [.lt Qo QG,.lt (.lit 10000) Qb] [] (ou [Qb]) (by simp only [zz]<;>omega) aa (by simp only [zz])) ⟨x1,rfl⟩
  ·exact bL.jmp aeD (cm [.lt Qo QG,.eq (a0 150 Qhk) Q0] [.lt (.lit 10000) Qb,QJ] (ju 151 [Qf,wr (.add Qb (rr 150 Qhk 0)),Du,Qm,bW,cM,eJ]) (by simp only [zz,ha,zg,hw2,SA]<;>omega) aa (by simp only [zz,ha,zg,hw2,SA,hw]<;>rfl)) (I5 m hm ih x3 x4 x5 kids hk j (i+1) (IntKind.i64.wrap (x1+z)) J)
theorem NL: ∀(m:Nat),m<=60->∀(k n:Int) (s kids:D),Wd .str s->Wd (.sl 6) kids->bL 150 [k,enc s,n,enc kids,(m:Int)] one
 |0,_,k,n,s,kids,_,_=>bL.ret ak2 (ys:=[10000]) (cm [Qhg] [] (ou [.lit 10000]) (by simp only [zz]<;>omega) aa (by simp only [zz])) ⟨_,rfl⟩
 |m+1,hm,k,n,s,kids,hs,hk=>bL.jmp ak2 (ys:=[((m+1:Nat):Int),_,(0:Nat),k,enc s,n,enc kids]) (cm [] [Qhg] (ju 151 [bW,wr (.add Q0 (wr (.quo Qc (.lit 100)))),Qa,Qf,Qb,Qo,Qm]) (by simp only [zz]<;>omega) aa (by simp only [mc,List.map,bT,Nat.reduceLT,bP,bQ]<;>rfl)) (I5 m J (NL m J) k (enc s) n kids hk kids.l.length 0 _ J)
section
variable {d0 d1:D} (U:Wd (.sl 4) d1)
include U
theorem G8 (x1 x2 x3:Int) (qH:D) (ha:Wd (.sl 6) qH) (q: ∀x0,bL 102 [x0,x1,IntKind.i64.wrap (x2+1),x3,enc d0,enc d1] vN): ∀(j i:Nat) (x0:Int),i+j=qH.l.length->bL 103 [x0,x1,x2,x3,enc qH,(qH.l.length:Int),(i:Int),enc d0,enc d1] vN
 |0,i,x0,hi=>bL.jmp ak3 (cm [] [.lt eJ cM] (ju 102 [Qf,Qb,Du,Qm,hZ,iT]) (by simp only [zz]<;>omega) aa (by simp only [zz])) (q x0)
 |j+1,i,x0,hi=>by
  have hl:=ha.len;have di:i<qH.l.length:=J
  have hw:=bF (n:=i) J;obtain⟨k,s,n,ks,he,_,hs,_,VA⟩:=qM ha di;have gz:qH.at (i:Int)=dL [.i k,s,.i n,ks]:=by rw [bG di]; exact he
  obtain⟨ys,SA,z,rfl⟩:=NL 60 J k n s ks hs VA;have SA:L 150 [k,enc s,n,enc ks,60]=some [z]:=SA;exact bL.jmp ak3 (cm [.lt eJ cM,.lt eJ QI,.eq (a0 150 Qhf) Q0] [.lt eJ Qa] (ju 103 [wr (.add Qf (rr 150 Qhf 0)),Qb,Qo,Qm,bW,cM,wr (.add eJ Q0),hZ,iT]) (by simp only [zz,gz,zg,SA]<;>omega) aa (by simp only [zz,gz,zg,SA,hw]<;>rfl)) (G8 x1 x2 x3 qH ha q j (i+1) (IntKind.i64.wrap (x0+z)) J)
theorem XN (i:Nat) (hi:i<d1.l.length) (q: ∀x0,bL 101 [x0,(d1.l.length:Int),((i+1:Nat):Int),enc d0,enc d1] vN): ∀(j k:Nat) (x0:Int),(∀sa lc cd,d1.l[i]=dL [sa,lc,cd]->k+j=cd.l.length)->bL 102 [x0,(i:Int),(k:Int),(d1.l.length:Int),enc d0,enc d1] vN:=by
 have hl:=U.len;have hw:=bF (n:=i) J;obtain⟨sa,lc,cd,he,_,_,P8⟩:=qJ U hi;have gz:d1.at (i:Int)=dL [sa,lc,cd]:=by rw [bG hi]; exact he
 have B5:=P8.len;intro j
 induction j with
 |zero=> intro k x0 hk;have hk:=hk _ _ _ he;exact bL.jmp aeE (cm [.lt Qb QH] [T5,.lt Qo (ln (ce 2 IG))] (ju 101 [Qf,Qm,IH,bW,cM]) (by simp only [zz,gz,zg]<;>omega) aa (by simp only [zz,hw]<;>rfl)) (q x0)
 |succ j ih=>
  intro k x0 hk;have OG:=hk _ _ _ he;by_cases h6:6000<x0
  ·exact bL.jmp aeE (cm [.lt Qb QH,.lt Qo (ln (ce 2 IG)),.lt (.lit 6000) Qf] [T5] (ju 101 [Qf,Qm,IH,bW,cM]) (by simp only [zz,gz,zg]<;>omega) aa (by simp only [zz,hw]<;>rfl)) (q x0)
  ·have yG:k<cd.l.length:=J
   have hw2:=bF (n:=k) J;obtain⟨a,b,c,e,f,g,qH,uc,_,_,_,_,_,_,has⟩:=Sc P8 yG;have aqz:cd.at (k:Int)=dL [.i a,.i b,.i c,.i e,.i f,.i g,qH]:=by rw [bG yG]; exact uc
   refine bL.jmp aeE (cm [.lt Qb QH,.lt Qo (ln (ce 2 IG))] [T5,.lt (.lit 6000) Qf,QJ] (ju 103 [Qf,Qb,Qo,Qm,Qhd,ln Qhd,Qa,bW,cM]) (by simp only [zz,gz,zg]<;>omega) aa (by simp only [zz,gz,aqz,zg]<;>rfl)) (G8 U (i:Int) (k:Int) (d1.l.length:Int) qH has (fun x0=>?_) qH.l.length 0 x0 J);rw [hw2];exact ih (k+1) x0 fun sa lc cd he=>by have:=hk sa lc cd he; omega
theorem G7: ∀(j i:Nat) (x0:Int),i+j=d1.l.length->bL 101 [x0,(d1.l.length:Int),(i:Int),enc d0,enc d1] vN
 |0,i,x0,hi=>by
  by_cases h6:6000<x0
  ·exact bL.ret aeF (cm [.lt (.lit 6000) Qf] [sN] (ou [Q0]) (by simp only [zz]<;>omega) aa (by simp only [zz])) sR
  ·exact bL.ret aeF (cm [] [sN,.lt (.lit 6000) Qf] (ou [Qa]) (by simp only [zz]<;>omega) aa (by simp only [zz])) wR
 |j+1,i,x0,hi=>by
  have di:i<d1.l.length:=J
  obtain⟨sa,lc,cd,he,_,_,P8⟩:=qJ U di;refine bL.jmp aeF (ys:=[_,(i:Int),((0:Nat):Int),(d1.l.length:Int),enc d0,enc d1]) (cm [sN,WE] [QJ] (ju 102 [wr (.add Qf (wr (.add (ln Qdm) (ln (ce 2 Qdl))))),Qo,Qa,Qb,Qm,bW]) (by simp only [zz]<;>omega) aa (by simp only [zz]<;>rfl)) (XN U i di (fun x0=>G7 j (i+1) x0 J) cd.l.length 0 _ fun n' l' c' Ar=>?_);rw [he] at Ar;have:=HK Ar;simp only [List.cons.injEq,and_true] at this;rw [this.2.2];omega
theorem XM:bL 100 [enc d0,enc d1] vN:=
 bL.jmp aoN (ys:=[_,(d1.l.length:Int),((0:Nat):Int),enc d0,enc d1]) (cm [] [] (ju 101 [wr (.add qa Qc),Qc,Qa,Qf,Qb]) (by simp only [zz]<;>omega) aa (by simp only [zz]<;>rfl)) (G7 U d1.l.length 0 _ J)
end
def j5 (x:D):D:=dL [.i 0,if (x.V 1).l.length=0 then .i 2 else dL (List.replicate (x.V 1).l.length (.i 0)),.i 0,.i 0,.i 0,.i 0]
def mK (d0:D):D:=if d0.l.length=0 then .i 1 else dL (d0.l.map fC)
def qZ (d1:D):D:=if d1.l.length=0 then .i 1 else dL (d1.l.map j5)
theorem FC {l:List D} (h: ∀x∈l,∃a lc w o g tr,Kt x a lc w o g tr) (hn:l≠[]) (hl:l.length<=2199023255488):Wd (.sl 8) (dL l):=by
 have e:(l.map fun x=>x.l).map dL=l:=by
  rw [arT]
  conv=>rhs; rw [<- asB l]
  apply ar4;intro x Y;obtain⟨a,lc,w,o,g,tr,T⟩:=h x Y;rw [T.is];rfl
 rw [<- e];refine .many 8 [.int .i64,.sl 0,.int .u8,.int .i64,.int .i64,.int .i64] _ rfl (by simpa using hn) (by have:mU 8=64:=rfl; rw [this,aY]; omega) (fun r hr=>?_) fun r hr j d c U Z=>?_
 ·obtain⟨x,Y,rfl⟩:=aR.1 hr;obtain⟨a,lc,w,o,g,tr,T⟩:=h x Y;rw [T.is];rfl
 ·obtain⟨x,Y,rfl⟩:=aR.1 hr;obtain⟨a,lc,w,o,g,tr,T⟩:=h x Y;rw [T.is,bz] at U
  match j with
  |0=>simp at U Z; subst U Z; exact .int _ _ T.ha
  |1=>simp at U Z; subst U Z; exact T.hl
  |2=>simp at U Z; subst U Z; exact .int _ _ T.hw
  |3=>simp at U Z; subst U Z; exact .int _ _ T.ho
  |4=>simp at U Z; subst U Z; exact .int _ _ T.hg
  |5=>simp at U Z; subst U Z; exact .int _ _ T.ht
  |j+6=>simp at U
theorem GF {d1:D} (U:Wd (.sl 4) d1): ∀x∈d1.l,(x.V 1).l.length<=8796093021952:=by intro x Y;obtain⟨i,hi,rfl⟩:=ar3 Y;obtain⟨sa,lc,cd,he,_,Vz,_⟩:=qJ U hi;rw [he];simp only [zg,ay];have:=Vz.room;have h3:mU 2=16:=rfl;rw [h3] at this;omega
theorem D1 (d1:D) (U:Wd (.sl 4) d1) (hlen:d1.l.length<=16) (s:D): ∀(k i:Nat) (acc:List D),i+k=d1.l.length->acc.length=i->
 L 1452 [enc d1,(d1.l.length:Int),(i:Int),enc s,enc (dL acc)]=some [enc s,enc (dL (acc++(d1.l.drop i).map j5)),0]
 |0,i,acc,hi,ha=>by
  have c1: ¬(i:Int)<(d1.l.length:Int):=J
  rw [bI,abN,aX J];simp only [Ux,zz,c1,bU,aru,bh]
 |k+1,i,acc,hi,ha=>by
  have di:i<d1.l.length:=J
  have V:d1.l.drop i=d1.l[i]::d1.l.drop (i+1):=aC di;have ih:=D1 d1 U hlen s k (i+1) (acc++ [j5 d1.l[i]]) J (by simp [ha]);have c1:(i:Int)<(d1.l.length:Int):=J
  have c2: ¬((i:Int)<0):=J
  have w:=bF (n:=i) J;have c3:(acc.length:Int)<2199023255551:=J
  have hb:=GF U _ (aq di);have c4:((((d1.l[i]).V 1).l.length:Nat):Int)<17592186044416:=J
  have e2:acc++(j5 d1.l[i]::(d1.l.drop (i+1)).map j5)=acc++ [j5 d1.l[i]]++(d1.l.drop (i+1)).map j5:=ad
  rw [V,aA,e2,<- ih,bI,abN];by_cases hz:((d1.l[i]).V 1).l.length=0
  ·have Bc:((((d1.l[i]).V 1).l.length:Nat):Int)=0:=J
   have et:j5 d1.l[i]= .p (.i 0) (.p (.i 2) (.p (.i 0) (.p (.i 0) (.p (.i 0) (.p (.i 0) (.i 0)))))):=by unfold j5; rw [ag hz]; rfl
   rw [et];simp only [Ux,zz,c1,c2,w,bG di,Bc,c3,bz,bx]
  ·have Bc: ¬((((d1.l[i]).V 1).l.length:Nat):Int)=0:=J
   have et:j5 d1.l[i]= .p (.i 0) (.p (dL (List.replicate ((d1.l[i]).V 1).l.length (.i 0))) (.p (.i 0) (.p (.i 0) (.p (.i 0) (.p (.i 0) (.i 0)))))):=by unfold j5; rw [af hz]; rfl
   rw [et];simp only [Ux,zz,c1,c2,w,bG di,Bc,c3,c4,bz,aW,bx]
theorem Oi (d1:D) (U:Wd (.sl 4) d1) (hlen:d1.l.length<=16) (s:D):L 1451 [enc d1,(d1.l.length:Int),enc s]=some [enc s,enc (qZ d1),0]:=by
 by_cases hn:d1.l.length=0
 ·have c1: ¬(0:Int)<(d1.l.length:Int):=J
  have e:qZ d1= .i 1:=by unfold qZ; rw [ag hn]
  rw [bI,abO,e];simp only [Uy,zz,c1,bU]
 ·have hp:0<d1.l.length:=J
  have c1:(0:Int)<(d1.l.length:Int):=J
  have e:qZ d1=dL (d1.l.map j5):=by unfold qZ; rw [af hn]
  have ih:=D1 d1 U hlen s (d1.l.length-1) 1 [j5 (d1.l[0]'hp)] J rfl
  have e1:[j5 (d1.l[0]'hp)]++(d1.l.drop 1).map j5=d1.l.map j5:=by
   conv=>rhs; rw [<- arC (l:=d1.l),aC hp]
   rfl
  rw [e1,<- e] at ih;have a0:d1.at 0=d1.l[0]'hp:=bG (i:=0) hp;have hb:=GF U _ (aq hp);have c4:((((d1.l[0]'hp).V 1).l.length:Nat):Int)<17592186044416:=J
  rw [<- ih,bI,abO];by_cases hz:((d1.l[0]'hp).V 1).l.length=0
  ·have Bc:((((d1.l[0]'hp).V 1).l.length:Nat):Int)=0:=J
   have et:dL [j5 (d1.l[0]'hp)]= .p (.p (.i 0) (.p (.i 2) (.p (.i 0) (.p (.i 0) (.p (.i 0) (.p (.i 0) (.i 0))))))) (.i 0):=by unfold j5; rw [ag hz]; rfl
   rw [et];simp only [Uy,zz,c1,a0,Bc,lG,au,cN,dM,bx,aL]
  ·have Bc: ¬((((d1.l[0]'hp).V 1).l.length:Nat):Int)=0:=J
   have et:dL [j5 (d1.l[0]'hp)]= .p (.p (.i 0) (.p (dL (List.replicate ((d1.l[0]'hp).V 1).l.length (.i 0))) (.p (.i 0) (.p (.i 0) (.p (.i 0) (.p (.i 0) (.i 0))))))) (.i 0):=by unfold j5; rw [af hz]; rfl
   rw [et];simp only [Uy,zz,c1,a0,Bc,c4,lG,au,cN,dM,aW,bx,aL]
theorem Xv {d0 d1:D} (U:Wd (.sl 4) d1) (hc:L 450 [enc d0,enc d1]=some [0]) (ok:zJ d0 d1):L 1450 [enc d0,enc d1]=some [enc (mK d0),enc (qZ d1),0]:=by
 have h3:L 300 [enc d0,enc d1]=some [enc (mK d0)]:=by
  by_cases hn:d0.l.length=0
  ·have e:mK d0= .i 1:=by unfold mK; rw [ag hn]
   rw [e];exact BW hc (.inr hn)
  ·have e:mK d0=dL (d0.l.map fC):=by unfold mK; rw [af hn]
   rw [e];exact HZ hc ok.1 J
 have K:eI (dq L (low [enc d0,enc d1])) o!= .jump 1451 [enc d1,(d1.l.length:Int),enc (mK d0)]:=by refine cm [Qh7,Qh8,.eq (a0 300 yM) Q0] [] (ju 1451 [Qb,Qc,rr 300 yM 0]) (by simp only [zz,hc,h3]<;>omega) aa ?_;simp only [zz,h3]
 rw [bI,abQ];exact (congrArg (fin L) K).trans (Oi d1 U ok.2.1 _)
theorem Xu {d0 d1:D} {c:Int} (hc:L 450 [enc d0,enc d1]=some [c]) (h:c≠0):L 1450 [enc d0,enc d1]=some [enc (.i 1),enc (.i 1),c]:=by
 have K:eI (dq L (low [enc d0,enc d1])) o!= .out [enc (.i 1),enc (.i 1),c]:=by refine cm [Qh7] [Qh8] (ou [Qh,Qh,rr 450 yM 0]) (by simp only [zz,hc]<;>omega) aa ?_;simp only [zz,hc]
 rw [bI,abQ];exact congrArg (fin L) K
theorem wz (k:D) (t:Int) (x:KT):(gV k t x).l.length=k.l.length:=by rw [bz,ej]
theorem JG {d1:D} {t:Int} {x:KT} (ho: ¬ib d1 t x=1) (h: ¬low (gw d1 t x) 4=0): ∃op obj arg tr,gw d1 t x= [op,obj,arg,tr,1]:=by
 unfold ib at ho;unfold gw at h ⊢;by_cases w0:x.w=0
 ·rw [ag w0] at ho h ⊢;by_cases a0:x.a=(Nc d1 t:Int)
  ·rw [ag a0] at ho;omega
  ·rw [af a0] at h ⊢;by_cases U:((fN d1 t x).V 0).n=1
   ·rw [ag U];exact⟨_,_,_,_,rfl⟩
   ·rw [af U] at h ⊢;by_cases Z:((fN d1 t x).V 0).n=2
    ·rw [ag Z];exact⟨_,_,_,_,rfl⟩
    ·rw [af Z] at h;exact absurd rfl h
 ·rw [af w0];exact⟨_,_,_,_,rfl⟩
theorem Lp (d1:D) (t:Int) (x:KT):ib d1 t x=0\/ib d1 t x=1:=by
 unfold ib;split
 ·split
  ·exact .inr rfl
  ·exact .inl rfl
 ·exact .inl rfl
theorem UW {d0 d1:D} {t:Int} {x:KT} (C:Cd d0 d1) (R:Rt d0 d1 t x) (hd0:d0.l.length<=64) {op obj arg tr b:Int} (hn:gw d1 t x= [op,obj,arg,tr,b]):gx .u8 op/\gx .i64 obj/\gx .i64 arg:=by
 have z8:gx .u8 0:=⟨J,J⟩;have z:gx .i64 0:=⟨J,J⟩;have ok:=R.ok;unfold gw at hn;by_cases w0:x.w=0
 ·rw [ag w0] at hn;by_cases a0:x.a=(Nc d1 t:Int)
  ·rw [ag a0] at hn;simp only [List.cons.injEq] at hn;obtain⟨rfl,rfl,rfl,_⟩:=hn;exact⟨z8,z,z⟩
  ·have gy:x.a<(Nc d1 t:Int):=by have:=ok.2.1; unfold Nc at a0 ⊢; omega
   have F:=C.inf R gy;rw [af a0] at hn;by_cases U:((fN d1 t x).V 0).n=1
   ·rw [ag U] at hn;simp only [List.cons.injEq] at hn;obtain⟨rfl,rfl,rfl,_⟩:=hn;exact⟨F.op,F.ob,aeY F.ar R.ints⟩
   ·rw [af U] at hn;by_cases Z:((fN d1 t x).V 0).n=2
    ·rw [ag Z] at hn;simp only [List.cons.injEq] at hn;obtain⟨rfl,rfl,rfl,_⟩:=hn;exact⟨⟨J,J⟩,F.ob,z⟩
    ·rw [af Z] at hn;simp only [List.cons.injEq] at hn;obtain⟨rfl,rfl,rfl,_⟩:=hn;exact⟨z8,z,z⟩
 ·rw [af w0] at hn;simp only [List.cons.injEq] at hn;obtain⟨rfl,rfl,rfl,_⟩:=hn;obtain⟨_,_,_,_,_,hw⟩:=ok;exact⟨⟨J,J⟩,⟨J,J⟩,R.hg⟩
theorem ac9 {lc:D} (h:Wd (.sl 0) lc) {z v:Int} (h0:0<=z) (U:z<(lc.l.length:Int)) (hv:gx .i64 v):Wd (.sl 0) (dL (dE lc.l z (.i v))):=by
 have:=h.room;have h3:mU 0=8:=rfl;rw [h3] at this;have hs:=ej lc.l z (.i v);refine xQ (fun y hy=>?_) (fun he=>?_) (by rw [hs]; omega)
 ·rcases wP hy with h'|rfl
  ·exact (h.el1 rfl y h').i
  grind
 grind
theorem EU {k:D} (hk:Wd (.sl 8) k) {t:Int} {x:KT} (h: ∃a lc w o g tr,Kt x.d a lc w o g tr) (hp:0<k.l.length):Wd (.sl 8) (gV k t x):=by
 have hf:=hk.room;have h3:mU 8=64:=rfl;rw [h3] at hf;have hs:=ej k.l t x.d;refine FC (fun y hy=>?_) (fun he=>?_) (by rw [hs]; omega)
 ·rcases wP hy with h'|rfl
  ·exact gA hk y h'
  grind
 grind
section
variable {d0 d1 s k:D} {t:Int} {n:Nat} {x:KT}
theorem Om {x:KT} (ha:gx .i64 x.a) (hl:Wd (.sl 0) x.lc) (hw:gx .u8 x.w) (ho:gx .i64 x.o) (hg:gx .i64 x.g) (ht:gx .i64 x.tr): ∃a lc w o g tr,Kt x.d a lc w o g tr:=⟨_,_,_,_,_,_,rfl,ha,hl,hw,ho,hg,ht⟩
theorem Rt.kt (C:Cd d0 d1) (R:Rt d0 d1 t x): ∃a lc w o g tr,Kt x.d a lc w o g tr:=by obtain⟨a0,a1,_,t0,t1,hw⟩:=R.ok;have V:=C.ok.1;have hnc:=(C.code R.t0 R.t1).len;exact Om ⟨J,J⟩ R.hl ⟨J,J⟩ ⟨J,J⟩ R.hg ⟨J,J⟩
theorem ZH (C:Cd d0 d1) (R:Rt d0 d1 t x) (Y:x.w=0->x.a<(Nc d1 t:Int)) {op e2 e3 e4 oc:Int} (h3:gx .i64 e3) (h4:gx .i64 e4): ∃a lc w o g tr,Kt (eU (fN d1 t x) x op e2 e3 e4 oc).d a lc w o g tr:=by
 obtain⟨a0,a1,Iy,t0,t1,hw⟩:=R.ok;have V:=C.ok.1;have hnc:=(C.code R.t0 R.t1).len;have ka:gx .i64 x.a:=⟨J,J⟩;have kw:gx .u8 x.w:=⟨J,J⟩;have ko:gx .i64 x.o:=⟨J,J⟩;have kt:gx .i64 x.tr:=⟨J,J⟩;have z:gx .i64 0:=⟨J,J⟩;have z8: ∀v:Int,v=0\/v=24\/v=25->gx .u8 v:=fun v h=> ⟨J,J⟩;unfold eU;split
 ·split
  ·exact Om ka R.hl kw ko R.hg (by
    show gx .i64 (if 4611686018427387904<x.tr+1 then 4611686018427387904 else x.tr+1)
    split<;>exact⟨J,J⟩)
  ·exact Om ka R.hl kw ko R.hg kt
 ·split
  ·rename_i w0;have F:=C.inf R (Y w0);have ok:=F.ok;have U:=Y w0;unfold Nc at U;unfold OkI at ok;have k1:gx .i64 (x.a+1):=⟨J,J⟩;refine Om ?_ ?_ ?_ ?_ ?_ z
   ·show gx .i64 (if _ then _ else _);split
    ·exact F.to
    grind
   ·show Wd (.sl 0) (if _ then _ else _);split
    ·rename_i hc;refine ac9 R.hl J ?_ h4
     grind
    ·exact R.hl
   all_goals grind
  ·exact Om ka R.hl (z8 _ (.inl rfl)) z z z
theorem UD {k:D} (hp:0<k.l.length) (t:Int) (x:KT):gV k t x≠.i 2:=fun he=>by have:=wz k t x;rw [he] at this;have e:(D.i 2).l.length=0:=rfl;omega
theorem QS (S:Sx s k n) (C:Cd d0 d1) (R:Rt d0 d1 t x) (ht:t<(k.l.length:Int)) (Y:x.w=0->x.a<(Nc d1 t:Int)) {op obj arg tries e1 e2 e3 e4 e5 oc:Int} {s':D} (A:BZ d0 d1 s t op obj arg tries n s' e1 e2 e3 e4 e5 oc) :
 Sx s' (gV k t (eU (fN d1 t x) x op e2 e3 e4 oc)) (n+1):=by
 have hp:0<k.l.length:=by have:=R.t0; omega
 exact⟨A.gs,EU S.wk (ZH C R Y A.e3 A.e4) hp,A.n2 S.n2s,UD hp _ _⟩
theorem PD (R:Rt d0 d1 t x) (ho:ib d1 t x=0):x.w=0->x.a<(Nc d1 t:Int):=fun w0=>by unfold ib at ho;rw [ag w0] at ho;have:=R.ok.2.1;unfold Nc at ho ⊢;split at ho<;>omega
end
theorem CU: ∀(l:List D) (k v k':D),lE (vM l k v) k'=if k=k' then some v else lE l k'
 |[],k,v,k'=>by
  simp only [vM,lE];by_cases h:k=k'
  ·rw [ag h]; exact ag h
  ·rw [af h]; exact af h
 |d::l,k,v,k'=>by
  simp only [vM];by_cases h:TD d=k
  ·rw [ag h];simp only [lE];by_cases Z:k=k'
   ·rw [ag Z]; exact ag Z
   ·rw [af Z,af (fun h3=>Z (h.symm.trans h3))]; exact af Z
  ·rw [af h];simp only [lE,CU l k v k']
   grind
def n9 (m:Int) (l:List D):Prop:=(∀x∈l,0<=x.n/\x.n<m)/\(l.map D.n).Nodup
def PR (N o dn:Int) (rl vl:Nat):Prop:=(N<0->(vl:Int)=0)/\(0<=N->(vl:Int)<=N)/\(o<0\/(rl:Int)=0/\dn=0)
def TV (s:D) (l:List D):Prop:= ∀n:Int,(lE s.l (.i n)=none/\n∉l.map D.n)\/(lE s.l (.i n)=some (.i 1)/\n∈l.map D.n)
theorem x! {s x:D} {l:List D} (h:TV s l):TV (dL (vM s.l (.i x.n) (.i 1))) (l++ [x]):=fun n=>by
 rw [bz,CU,asM];by_cases hn:x.n=n
 ·rw [ag (by rw [hn])];exact .inr ⟨rfl,asS _ (by simp [hn])⟩
 ·rw [af (fun h=>hn (by simpa using h))];rcases h n with ⟨U,Z⟩|⟨U,Z⟩
  ·refine .inl ⟨U,fun h3=>?_⟩;rcases arG.1 h3 with h3|h3
   ·exact Z h3
   ·simp only [List.map,aH,arN,or_false] at h3;exact hn h3.symm
  ·exact .inr ⟨U,ath _ Z⟩
theorem Fe {P Q:Prop} {ys:List Int} (h:P) (hQ:Oy Q ys):Oy (P/\Q) ys:=by
 grind
theorem uJ {P Q:Prop} (h: ¬P):Oy (P/\Q) [0]:=sC fun q=>h q.1
theorem NQ (m:Int) (r:D) (hl:r.l.length<=140737488351232) (k sa N x7 x8 o c dn g:Int) (v:D): ∀(j i:Nat) (seen:D),i+j=r.l.length->TV seen (r.l.take i)->n9 m (r.l.take i)->
 bL 501 [m,enc r,(r.l.length:Int),(i:Int),k,sa,N,x7,x8,o,c,dn,g,enc v,enc seen] (Oy (n9 m r.l/\PR N o dn r.l.length v.l.length))
 |0,i,seen,hi,_,hR=>by
  have c1: ¬(i:Int)<(r.l.length:Int):=J
  rw [ar1 J] at hR;refine bL.of ?_;unfold PR;rw [aa0];simp only [WR,zz,c1]
  repeat' first
   |exact .out (Fe hR (sC J))
   |exact .out (Fe hR (Ox J))
   |refine .ite (fun _=>?_) (fun _=>?_)
 |j+1,i,seen,hi,hS,hR=>by
  have di:i<r.l.length:=J
  have c1:(i:Int)<(r.l.length:Int):=J
  have c2: ¬((i:Int)<0):=J
  have w:=bF (n:=i) J;have ht:r.l.take (i+1)=r.l.take i++ [r.l[i]]:=by rw [List.take_add_one,aN di]; rfl
  have XI:r.l[i]∈r.l:=aq di;have ih:=fun h=>NQ m r hl k sa N x7 x8 o c dn g v j (i+1) (dL (vM seen.l (.i (r.l[i]).n) (.i 1))) J (by rw [ht]; exact x! hS) h;refine bL.of ?_;rw [aa0];rcases hS (r.l[i]).n with ⟨U,Z⟩|⟨U,Z⟩
  ·simp only [WR,zz,c1,c2,w,bG di,U,Option.isSome_none,aQ];refine .ite (fun q=> .out (uJ fun R=>?_)) (fun q=> .ite (fun q2=>?_) (fun q2=> .out (uJ fun R=>?_)))
   ·have:=R.1 _ XI;omega
   ·refine .jump (ih ?_);rw [ht];refine⟨fun x Y=>?_,?_⟩
    ·rcases arG.1 Y with Y|Y
     ·exact hR.1 x Y
     ·simp only [aH,arN,or_false] at Y;subst Y;exact⟨J,q2⟩
    ·rw [asM,List.nodup_append];refine⟨hR.2,ad,fun a ha b hb=>?_⟩;simp only [List.map,aH,arN,or_false] at hb;subst hb;intro he;subst he;exact Z ha
   ·have:=R.1 _ XI;omega
  ·simp only [WR,zz,c1,c2,w,bG di,U,bR]
   have nd: ¬n9 m r.l:=fun R=>by
    have hn:=R.2;have e:r.l=r.l.take i++r.l[i]::r.l.drop (i+1):=by rw [<- aC di,ar8]
    rw [e,asM,List.nodup_append] at hn;exact hn.2.2 _ Z _ (by rw [aA]; exact arF) rfl
   refine .ite (fun q=> .out (uJ nd)) (fun q=> .ite (fun q2=> .out (uJ nd)) (fun q2=> .out (uJ nd)))
theorem W4 (m:Int) (r:D) (hl:r.l.length<=140737488351232) (k sa N x7 x8 o c dn g:Int) (v:D) :
 bL 501 [m,enc r,(r.l.length:Int),0,k,sa,N,x7,x8,o,c,dn,g,enc v,enc (.i 0)] (Oy (n9 m r.l/\PR N o dn r.l.length v.l.length)):=
 NQ m r hl k sa N x7 x8 o c dn g v r.l.length 0 (.i 0) J (fun n=> .inl ⟨rfl,ad⟩) ⟨ad,ad⟩
def xJ (k N c:Int):Prop:=k=9\/(k=3/\0<=c/\c<=N)\/(k=5/\0<=c/\c<=IntKind.i64.wrap (N-1))\/(k=7/\0<=c/\c<=1099511627776)\/(k≠3/\k≠5/\k≠7/\k≠9/\c=0)
theorem ad4 (k x1 N x3 x4 c:Int): ∃a b:Int,L 650 [k,x1,N,x3,x4]=some [a,b]/\(b=0/\xJ k N c\/b=1/\(xJ k N c↔0<=c/\c<=a)):=by
 have:bL 650 [k,x1,N,x3,x4] (fun ys=> ∃a b:Int,ys= [a,b]/\(b=0/\xJ k N c\/b=1/\(xJ k N c↔0<=c/\c<=a))):=by
  unfold xJ;refine bL.of ?_;rw [akO];simp only [ajr,zz]
  repeat' first
   |exact .out ⟨_,_,rfl,J⟩
   |refine .ite (fun _=>?_) (fun _=>?_)
 obtain⟨ys,h,a,b,rfl,Z⟩:=this
 grind
def ac0 (k N m o c dn g:Int) (rl vl:Nat):Prop:=
 xJ k N c/\-1<=o/\o<m/\0<=g/\g<=4611686018427387904/\(0<=o->k=1\/k=2\/k=6)/\(0<(rl:Int)->k=4\/k=2)/\(0<(vl:Int)->k=8)/\(dn≠0->k=6)/\(0<g->k=5)
def IE (k N m o c dn g:Int) (r v:D):Prop:=ac0 k N m o c dn g r.l.length v.l.length/\n9 m r.l/\PR N o dn r.l.length v.l.length
set_option maxHeartbeats 4000000 in
theorem v? (k x1 N x3 x4 m o c dn g:Int) (r v:D) (hl:r.l.length<=140737488351232):bL 500 [k,x1,N,x3,x4,o,c,dn,g,enc r,enc v,m] (Oy (IE k N m o c dn g r v)):=by
 unfold IE ac0;obtain⟨a,b,hM,hb⟩:=ad4 k x1 N x3 x4 c;have ih:=W4 m r hl k x1 N x3 x4 o c dn g v;refine bL.of ?_;rw [akQ];generalize xJ k N c=H at *;by_cases b0:b=0
 ·subst b0
  have hH:H:=by
   grind
  simp only [adr,zz,hM]
  repeat' first
   |exact .out (uJ J)
   |exact .jump (let ⟨ys,hL,hB⟩:=ih; ⟨ys,hL,Fe ⟨hH,J,J,J,J,J,J,J,J,J⟩ hB⟩)
   |refine .ite (fun _=>?_) (fun _=>?_)
 ·have hH:H↔0<=c/\c<=a:=by
   grind
  simp only [adr,zz,hM,af b0]
  repeat' first
   |exact .out (uJ fun h=>by first |omega|(have:=hH.1 h.1; omega))
   |exact .jump (let ⟨ys,hL,hB⟩:=ih; ⟨ys,hL,Fe ⟨hH.2 ⟨J,J⟩,J,J,J,J,J,J,J,J,J⟩ hB⟩)
   |refine .ite (fun _=>?_) (fun _=>?_)
theorem LL {P:Prop} {j:Nat} {xs:List Int} (h:bL j xs (Oy P)):L j xs=some [1]↔P:=by
 obtain⟨ys,hL,b,rfl,hb⟩:=h
 grind
theorem aec {P:Prop} {j:Nat} {xs:List Int} (h:bL j xs (Oy P)):L j xs=some [0]↔¬P:=by
 obtain⟨ys,hL,b,rfl,hb⟩:=h
 grind
theorem Rp {d x:D} {m:Nat} {o c dn g:Int} {r v:D} (T:Tg x o c dn g r v) (hl:r.l.length<=140737488351232):Snd d x m↔IE (d.V 0).n (d.V 2).n (m:Int) o c dn g r v:=by
 have h:=LL (v? (d.V 0).n (enc (d.V 1)) (d.V 2).n (enc (d.V 3)) (d.V 4).n (m:Int) o c dn g r v hl)
 have e:(if dn=0 then (0:Int) else 1)=dn:=by rcases T.V with rfl|rfl<;>rfl
 unfold Snd ady;rw [T.is];simp only [zg,ay,zM,e];exact h
def ae6 (k N m:Int):Act->Prop
 | .res o c dn g r v _ _ _=>IE k N m o c dn g r v
 |_=>True
theorem ae6.ite {k N m:Int} {p:Prop} [Decidable p] {a b:Act} (ha:p->ae6 k N m a) (hb: ¬p->ae6 k N m b):ae6 k N m (if p then a else b):=by
 grind
section
variable {d0 x:D} {k N m mo th op arg tries o c dn g:Int} {r v:D}
end
structure aro (d0 d1 s k:D) (t:Int) (n:Nat) (s' k':D) (e1 e2 e3 e4 e5 oc:Int):Prop where
 eq:L 1850 [enc d0,enc d1,enc s,enc k,t]=some [enc s',enc k',e1,e2,e3,e4,e5,oc]
 sx:Sx s' k' (n+1)
 ls:s'.l.length=s.l.length
 lk:k'.l.length=k.l.length
section
variable {d0 d1 s k:D} {n:Nat} (S:Sx s k n) (hn:n<17592186043904) (h0:Wd (.sl 3) d0) (U:Wd (.sl 4) d1)
include S hn h0 U
theorem RX {t:Int} {x:KT} (R:Rs d0 d1 s k t x) (ho:ib d1 t x=0) (ha:low (gw d1 t x) 4=0):Sx s (gV k t (iP (fN d1 t x) x)) n:=by
 have hp:0<k.l.length:=by have:=R.r.t0; have:=R.ht; omega
 exact⟨S.g,EU S.wk ((Oj R.c R.ht R.r (CV R.r ho ha)).1.kt R.c) hp,S.n2s,UD hp _ _⟩
end
def vw (x n:Int):Int:=if x.tmod n<0 then x.tmod n+n else x.tmod n
theorem FG {x n:Int} (h:0<n): -n<x.tmod n/\x.tmod n<n:=by have U:=aso x h;have Z:=aso (-x) h;rw [Int.neg_tmod] at Z;omega
theorem Xg {x n:Int} (h:0<n):0<=vw x n/\vw x n<n:=by
 have:=FG (x:=x) h;unfold vw
 grind
theorem Xf {x n:Int} (h:0<n) (hb:n<=140737488351232):(IntKind.i64.wrap (x.tmod n+n)).tmod n=vw x n:=by
 have U:=FG (x:=x) h;rw [fW J J];unfold vw;split
 ·exact Int.tmod_eq_of_lt J J
 ·rw [Int.tmod_eq_emod_of_nonneg J,Int.add_emod_right];exact Int.emod_eq_of_lt J J
inductive acX (d0 d1 s:D) (t op obj arg tries:Int):D->Int->Int->Int->Int->Int->Int->Prop
 |no:acX d0 d1 s t op obj arg tries s 0 0 0 0 0 0
 |yb (A:Acc d0 d1 s t op obj):acX d0 d1 s t op obj arg tries s t 27 obj (IntKind.i64.wrap op) 0 2
 |res (A:Acc d0 d1 s t op obj) (o c dn g:Int) (r v:D) (o' c' EL g':Int) (r' v':D) (m:Option Int) (a oc:Int) (T:Tg (s.at obj) o c dn g r v)
  (h:act (Mx d0 obj) (Mo d0 s obj) t op arg tries o c dn g r v= .res o' c' EL g' r' v' m a oc):acX d0 d1 s t op obj arg tries (Gf s obj (Mx d0 obj) (.res o' c' EL g' r' v' m a oc)) t op obj a 0 oc
section
variable {d0 d1 s s':D} {t op obj arg tries e1 e2 e3 e4 e5 oc:Int} {n:Nat}
theorem QQ (h0:Wd (.sl 3) d0) (U:Wd (.sl 4) d1) (G:Gs s n) (hn:n<17592186043904) (pe:gx .u8 op) (A:BZ d0 d1 s t op obj arg tries n s' e1 e2 e3 e4 e5 oc):acX d0 d1 s t op obj arg tries s' e1 e2 e3 e4 e5 oc:=by
 have hf:=G.nt (by omega:n<17592186044415);have hA:=A.eq;by_cases h:Acc d0 d1 s t op obj
 ·obtain⟨_,o,c,dn,g,r,v,T,hL⟩:=Ay (arg:=arg) (tries:=tries) h0 U G.wd hf pe h;rw [AR] at hL;rw [hA] at hL
  cases hB:act (Mx d0 obj) (Mo d0 s obj) t op arg tries o c dn g r v with
  |oe=> rw [hB] at hL;simp only [evA,ah,List.cons.injEq,and_true] at hL;obtain⟨q,rfl,rfl,rfl,rfl,rfl,rfl⟩:=hL;have q:=eQ q;subst q;exact .no
  |yb=> rw [hB] at hL;simp only [evA,ah,List.cons.injEq,and_true] at hL;obtain⟨q,rfl,rfl,rfl,rfl,rfl,rfl⟩:=hL;have q:=eQ q;subst q;exact .yb h
  |res o' c' EL g' r' v' m a oc'=> rw [hB] at hL;simp only [evA,ah,List.cons.injEq,and_true] at hL;obtain⟨q,rfl,rfl,rfl,rfl,rfl,rfl⟩:=hL;have q:=eQ q;subst q;exact .res h o c dn g r v o' c' EL g' r' v' m _ _ T hB
 ·have hL:=FF (arg:=arg) (tries:=tries) h0 U G.wd hf pe h;rw [hA] at hL;simp only [ah,List.cons.injEq,and_true] at hL;obtain⟨q,rfl,rfl,rfl,rfl,rfl,rfl⟩:=hL;have q:=eQ q;subst q;exact .no
end
section
variable {d0 d1 s:D} {n:Nat} (h0:Wd (.sl 3) d0) (U:Wd (.sl 4) d1) (G:Gs s n) (hn:n<17592186044000)
include h0 U G hn
theorem uA (R:L 350 [enc d0,enc d1,enc s]=some [1]):L 450 [enc d0,enc d1]=some [0]/\zJ d0 d1/\s.l.length=d0.l.length:=by obtain⟨b,hb,_,hi⟩:=lz h0 U (G.nt J).rows;rw [R] at hb;simp only [ah,List.cons.injEq,and_true] at hb;obtain⟨hC,hle,_⟩:=hi.1 hb.symm;exact⟨hC,F5 h0 U (G.nt J) R⟩
theorem F1 (R:L 350 [enc d0,enc d1,enc s]=some [1]) {i:Int} (i0:0<=i) (i1:i<(s.l.length:Int)) {o c dn g:Int} {r v:D} (T:Tg (s.at i) o c dn g r v):IE ((d0.at i).V 0).n ((d0.at i).V 2).n (d1.l.length:Int) o c dn g r v:=by
 obtain⟨b,hb,_,hi⟩:=lz h0 U (G.nt J).rows;rw [R] at hb;simp only [ah,List.cons.injEq,and_true] at hb;obtain⟨_,hle,hs⟩:=hi.1 hb.symm;obtain⟨k,rfl⟩ : ∃k:Nat,i=(k:Int):=⟨i.toNat,J⟩;have hk:k<s.l.length:=J
 have h:=hs k hk;rw [bG hk] at T;have jt:=G.rows _ (aq hk);rw [T.is] at jt;have hl:r.l.length<=140737488351232:=by have:=jt.1; have:r.l.length<=n:=this; omega
 rw [Rp T hl] at h;rw [bG (by omega:k<d0.l.length)];exact h
theorem af9 (hC:L 450 [enc d0,enc d1]=some [0]) (hle:s.l.length=d0.l.length) (h: ∀i:Nat,i<s.l.length->∃o c dn g r v,Tg (s.at (i:Int)) o c dn g r v/\IE ((d0.at (i:Int)).V 0).n ((d0.at (i:Int)).V 2).n (d1.l.length:Int) o c dn g r v):L 350 [enc d0,enc d1,enc s]=some [1]:=by
 obtain⟨b,hb,_,hi⟩:=lz h0 U (G.nt J).rows;rw [hb,hi.2 ⟨hC,hle,fun k hk=>?_⟩];obtain⟨o,c,dn,g,r,v,T,P⟩:=h k hk;rw [bG hk] at T;rw [bG (by omega:k<d0.l.length)] at P;have jt:=G.rows _ (aq hk);rw [T.is] at jt;have hl:r.l.length<=140737488351232:=by have:=jt.1; have:r.l.length<=n:=this; omega
 exact (Rp T hl).2 P
end
theorem vC {s:D} {n:Nat} (G:Gs s n) {i:Int} (i0:0<=i) (i1:i<(s.l.length:Int)): ∃o c dn g r v,Tg (s.at i) o c dn g r v/\r.l.length<=n/\v.l.length<=n:=by
 obtain⟨k,rfl⟩ : ∃k:Nat,i=(k:Int):=⟨i.toNat,J⟩;have hk:k<s.l.length:=J
 obtain⟨o,c,dn,g,r,v,T⟩:=tn (G.wd.lx _ (aq hk));have jt:=G.rows _ (aq hk);rw [T.is] at jt;exact⟨o,c,dn,g,r,v,by rw [bG hk]; exact T,jt.1,jt.2⟩
def ae7 (th:Int):Act->Prop
 | .res _ _ _ _ _ _ m _ _=> ∀q,m=some q->q= -1\/q=th
 |_=>True
theorem ae7.ite {th:Int} {p:Prop} [Decidable p] {a b:Act} (ha:ae7 th a) (hb:ae7 th b):ae7 th (if p then a else b):=by
 grind
theorem Dq {s:D} {i:Nat} {x:D} (h:s.l[i]?=some x):s.at (i:Int)=x:=by rw [fb,h]; rfl
section
variable {d0 d1 s:D} {t op obj arg tries:Int} {n:Nat} (h0:Wd (.sl 3) d0) (U:Wd (.sl 4) d1) (G:Gs s n) (hn:n<17592186043904) (pe:gx .u8 op) (ht:gx .i64 t) (ha:gx .i64 arg)
include h0 U G hn pe ht ha
end
def ae5 (op:Int):Act->Prop
 | .res _ _ _ _ _ _ _ _ oc=>oc=2\/oc=3/\(op=12\/op=15)
 |_=>True
theorem ae5.ite {op:Int} {p:Prop} [Decidable p] {a b:Act} (ha:p->ae5 op a) (hb: ¬p->ae5 op b):ae5 op (if p then a else b):=by
 grind
section
variable {d0 d1 s s' k:D} {t op obj arg tries e1 e2 e3 e4 e5 oc:Int} {n:Nat} {x:KT}
end
inductive KD (d0 d1 s k:D) (t:Int) (n:Nat):D->D->Int->Int->Int->Int->Int->Int->Prop
 |no (h:L 1550 [enc d0,enc d1,enc s,enc k,t]=some [0]):KD d0 d1 s k t n s k 0 0 0 0 0 0
 |over (x:KT) (R:Rs d0 d1 s k t x) (ho:ib d1 t x=1):KD d0 d1 s k t n s k 0 0 0 0 0 4
 |loc (x:KT) (R:Rs d0 d1 s k t x) (ho:ib d1 t x=0) (ha:low (gw d1 t x) 4=0):KD d0 d1 s k t n s (gV k t (iP (fN d1 t x) x)) 0 0 0 0 0 1
 |tri (x:KT) (R:Rs d0 d1 s k t x) (ho:ib d1 t x=0) (op obj arg tr:Int) (hq:gw d1 t x= [op,obj,arg,tr,1]) (k1:gx .u8 op) (k2:gx .i64 obj) (k3:gx .i64 arg) (iI:gx .i64 t) (s':D) (e1 e2 e3 e4 e5 oc:Int)
  (A:BZ d0 d1 s t op obj arg tr n s' e1 e2 e3 e4 e5 oc) (T:acX d0 d1 s t op obj arg tr s' e1 e2 e3 e4 e5 oc):KD d0 d1 s k t n s' (gV k t (eU (fN d1 t x) x op e2 e3 e4 oc)) e1 e2 e3 e4 e5 oc
section
variable {d0 d1 s k:D} {n:Nat} (S:Sx s k n) (hn:n<17592186043904) (h0:Wd (.sl 3) d0) (U:Wd (.sl 4) d1)
include S hn h0 U
theorem v_ {t:Int} {s' k':D} {e1 e2 e3 e4 e5 oc:Int} (H:KD d0 d1 s k t n s' k' e1 e2 e3 e4 e5 oc):Sx s' k' (n+1)/\s'.l.length=s.l.length/\k'.l.length=k.l.length:=by
 cases H with
 |no h=>exact⟨S.mono (arO n),rfl,rfl⟩
 |over x R ho=>exact⟨S.mono (arO n),rfl,rfl⟩
 |loc x R ho ha=>exact⟨(RX S hn h0 U R ho ha).mono (arO n),rfl,wz _ _ _⟩
 |tri x R ho op obj arg tr hq k1 k2 k3 iI s' e1 e2 e3 e4 e5 oc A T=>exact⟨QS S R.c R.r R.ht (PD R.r ho) A,A.len,wz _ _ _⟩
end
structure TEq (x y:D):Prop where
 c0:(x.V 0).n=(y.V 0).n
 c1:(x.V 1).n=(y.V 1).n
 c2:(x.V 2).n=(y.V 2).n
 c3:(x.V 3).n=(y.V 3).n
 c4:(x.V 4).l=(y.V 4).l
 c5:(x.V 5).l=(y.V 5).l
theorem TEq.nG (x:D):TEq x x:=⟨rfl,rfl,rfl,rfl,rfl,rfl⟩
structure B7 (s s':D):Prop where
 len:s'.l.length=s.l.length
 xC: ∀i:Nat,TEq (s.at (i:Int)) (s'.at (i:Int))
theorem B7.nG (s:D):B7 s s:=⟨rfl,fun _=> .nG _⟩
theorem Ci {o c dn g:Int} {r v r' v':D} (hr:r.l=r'.l) (hv:v.l=v'.l):TEq (dL [.i o,.i c,.i dn,.i g,r,v]) (dL [.i o,.i c,.i dn,.i g,r',v']):=⟨rfl,rfl,rfl,rfl,hr,hv⟩
theorem FI {x y:D} {o c dn g o' c' EL g':Int} {r v r' v':D} (T:Tg x o c dn g r v) (T':Tg y o' c' EL g' r' v') (h:TEq x y):o'=o/\c'=c/\EL=dn/\g'=g/\r.l=r'.l/\v.l=v'.l:=by obtain⟨q0,q1,q2,q3,q4,q5⟩:=h;rw [T.is,T'.is] at q0 q1 q2 q3 q4 q5;exact⟨q0.symm,q1.symm,q2.symm,q3.symm,q4,q5⟩
theorem Ld {s s':D} (h:B7 s s') (z:Int) {x y:D} (Y:TEq x y):B7 (dL (dE s.l z x)) (dL (dE s'.l z y)):=by
 refine⟨by rw [bz,bz,ej,ej]; exact h.len,fun i=>?_⟩;by_cases hz:(i:Int)=z
 ·subst hz;by_cases hi:i<s.l.length
  ·have e1:(dL (dE s.l (i:Int) x)).at (i:Int)=x:=Dq (by rw [bz]; exact rB hi);have e2:(dL (dE s'.l (i:Int) y)).at (i:Int)=y:=Dq (by rw [bz]; exact rB (by have:=h.len; omega))
   grind
  ·have e1:(dL (dE s.l (i:Int) x)).at (i:Int)= .i 0:=by rw [fb,bz,arH (by rw [ej]; omega)]; rfl
   have e2:(dL (dE s'.l (i:Int) y)).at (i:Int)= .i 0:=by rw [fb,bz,arH (by rw [ej]; have:=h.len; omega)]; rfl
   rw [e1,e2];exact .nG _
 ·have e1:(dL (dE s.l z x)).at (i:Int)=s.at (i:Int):=by rw [fb,fb,bz,lJ hz]
  have e2:(dL (dE s'.l z y)).at (i:Int)=s'.at (i:Int):=by rw [fb,fb,bz,lJ hz]
  rw [e1,e2];exact h.xC i
inductive IJ:Act->Act->Prop
 |oe:IJ .oe .oe
 |yb:IJ .yb .yb
 |res (o c dn g:Int) (r v r' v':D) (m:Option Int) (a oc:Int) (hr:r.l=r'.l) (hv:v.l=v'.l):IJ (.res o c dn g r v m a oc) (.res o c dn g r' v' m a oc)
theorem IJ.ite {p:Prop} [Decidable p] {a b a' b':Act} (U:IJ a a') (Z:IJ b b'):IJ (if p then a else b) (if p then a' else b'):=by
 grind
theorem ahS {d d':D} (h:d.l=d'.l) (z:Int):d.at z=d'.at z:=by unfold D.at; rw [h]
theorem B! {d d':D} (h:d.l=d'.l) (t:Int):place d t=place d' t:=by unfold place; rw [h]
theorem alh {M mo th op arg tries o c dn g:Int} {r v r' v':D} (hr:r.l=r'.l) (hv:v.l=v'.l):IJ (act M mo th op arg tries o c dn g r v) (act M mo th op arg tries o c dn g r' v'):=by
 unfold act;rw [B! hr th,ahS hr 0,ahS hv 0,hr,hv]
 repeat' first
  |exact .oe
  |exact .yb
  |refine IJ.ite ?_ ?_
 all_goals
  refine .res _ _ _ _ _ _ _ _ _ _ _ ?_ ?_<;>simp only [bB,hr,hv]
theorem adO {s s':D} (h:B7 s s') (obj M:Int) {A B:Act} (hA:IJ A B) (hT: ∀i:Nat,(s.at (i:Int)= .i 0/\s'.at (i:Int)= .i 0)\/∃o c dn g r v o' c' EL g' r' v',Tg (s.at (i:Int)) o c dn g r v/\Tg (s'.at (i:Int)) o' c' EL g' r' v'):B7 (Gf s obj M A) (Gf s' obj M B):=by
 cases hA with
 |oe=>exact h
 |yb=>exact h
 |res o c dn g r v r' v' m a oc hr hv=>
  unfold Gf
  cases m with
  |none=>exact Ld h obj (Ci hr hv)
  |some q=>
   have key:B7 (dL (dE s.l M (dL (dE (s.at M).l 0 (.i q))))) (dL (dE s'.l M (dL (dE (s'.at M).l 0 (.i q))))):=by
    by_cases hM:M<0
    ·have e: ∀(l:List D) (y:D),dE l M y=l:=fun l y=>by unfold dE; rw [ag hM]
     rw [e,e];refine⟨by rw [bz,bz]; exact h.len,fun i=>?_⟩;have q:=h.xC i;rw [fb,fb] at q;rw [fb,fb,bz,bz];exact q
    ·obtain⟨i,rfl⟩ : ∃i:Nat,M=(i:Int):=⟨M.toNat,J⟩;refine Ld h (i:Int) ?_;rcases hT i with ⟨e1,e2⟩|⟨o,c,dn,g,r,v,o',c',EL,g',r',v',T,T'⟩
     ·rw [e1,e2];exact .nG _
     ·obtain⟨rfl,rfl,rfl,rfl,w1,w2⟩:=FI T T' (h.xC i);rw [T.is,T'.is];exact Ci w1 w2
   have:=Ld key obj (Ci (o:=o) (c:=c) (dn:=if dn=0 then 0 else 1) (g:=g) hr hv);rw [bz,bz] at this
   grind
theorem Rr {s s':D} {n:Nat} (h:B7 s s') (G:Gs s n) (G':Gs s' n) (i:Nat):(s.at (i:Int)= .i 0/\s'.at (i:Int)= .i 0)\/∃o c dn g r v o' c' EL g' r' v',Tg (s.at (i:Int)) o c dn g r v/\Tg (s'.at (i:Int)) o' c' EL g' r' v':=by
 have hl:=h.len;by_cases hi:i<s.l.length
 ·obtain⟨o,c,dn,g,r,v,T,_⟩:=vC G (i:=(i:Int)) J J;obtain⟨o',c',EL,g',r',v',T',_⟩:=vC G' (i:=(i:Int)) J J
  grind
 ·exact .inl ⟨by rw [fb,arH J]; rfl,by rw [fb,arH J]; rfl⟩
section
variable {d0 d1 s s':D} {n:Nat} (h0:Wd (.sl 3) d0) (U:Wd (.sl 4) d1) (h:B7 s s') (G:Gs s n) (G':Gs s' n) (hn:n<17592186043904)
include h0 U h G G' hn
theorem A_ (R:L 350 [enc d0,enc d1,enc s]=some [1]):L 350 [enc d0,enc d1,enc s']=some [1]:=by
 obtain⟨hC,ok,hle⟩:=uA h0 U G J R;have hl:=h.len;refine af9 h0 U G' J hC J fun i hi=>?_;obtain⟨o,c,dn,g,r,v,T,_⟩:=vC G (i:=(i:Int)) J J;obtain⟨o',c',EL,g',r',v',T',_⟩:=vC G' (i:=(i:Int)) J J;obtain⟨rfl,rfl,rfl,rfl,q4,q5⟩:=FI T T' (h.xC i);have P:=F1 h0 U G J R (i:=(i:Int)) J J T;refine⟨_,_,_,_,_,_,T',?_⟩;unfold IE at P ⊢
 grind
theorem ajn {t op obj arg tr e1 e2 e3 e4 e5 oc f1 f2 f3 f4 f5 oc':Int} {a a':D} (pe:gx .u8 op) (R:L 350 [enc d0,enc d1,enc s]=some [1])
 (A:BZ d0 d1 s t op obj arg tr n a e1 e2 e3 e4 e5 oc) (A':BZ d0 d1 s' t op obj arg tr n a' f1 f2 f3 f4 f5 oc'):B7 a a'/\f1=e1/\f2=e2/\f3=e3/\f4=e4/\f5=e5/\oc'=oc:=by
 have R':=A_ h0 U h G G' hn R;have hl:=h.len;have hA:=A.eq;have hA':=A'.eq;have hf:=G.nt (by omega:n<17592186044415);have Nf:=G'.nt (by omega:n<17592186044415);by_cases C:Acc d0 d1 s t op obj
 ·have C':Acc d0 d1 s' t op obj:=⟨R',C.t0,C.t1,C.o0,by have:=C.o1; omega,C.k⟩;obtain⟨_,o,c,dn,g,r,v,T,hL⟩:=Ay (arg:=arg) (tries:=tr) h0 U G.wd hf pe C;obtain⟨_,o',c',EL,g',r',v',T',XL⟩:=Ay (arg:=arg) (tries:=tr) h0 U G'.wd Nf pe C';have a0:=C.o0;obtain⟨i,rfl⟩ : ∃i:Nat,obj=(i:Int):=⟨obj.toNat,J⟩;obtain⟨rfl,rfl,rfl,rfl,q4,q5⟩:=FI T T' (h.xC i)
  have hMo:Mo d0 s' (i:Int)=Mo d0 s (i:Int):=by
   unfold Mo;by_cases hM:0<=((d0.at (i:Int)).V 2).n
   ·obtain⟨m,hm⟩ : ∃m:Nat,((d0.at (i:Int)).V 2).n=(m:Int):=⟨_,(Int.toNat_of_nonneg hM).symm⟩;rw [hm];exact (h.xC m).c0.symm
   ·have e: ∀(z:Int) (s:D),¬0<=z->s.at z=s.at ((0:Nat):Int):=fun z s hz=>by
     unfold D.at
     grind
    rw [e _ _ hM,e _ _ hM];exact (h.xC 0).c0.symm
  rw [hMo] at XL;have hE:=alh (M:=Mx d0 (i:Int)) (mo:=Mo d0 s (i:Int)) (th:=t) (op:=op) (arg:=arg) (tries:=tr) (o:=o') (c:=c') (dn:=EL) (g:=g') q4 q5;have hP:=adO h (i:Int) (Mx d0 (i:Int)) hE (Rr h G G');rw [AR,hA] at hL;rw [AR,hA'] at XL;obtain⟨X,hX⟩ : ∃X,act (Mx d0 (i:Int)) (Mo d0 s (i:Int)) t op arg tr o' c' EL g' r v=X:=⟨_,rfl⟩;obtain⟨Z',hY⟩ : ∃Z',act (Mx d0 (i:Int)) (Mo d0 s (i:Int)) t op arg tr o' c' EL g' r' v'=Z':=⟨_,rfl⟩;rw [hX] at hL hE hP;rw [hY] at XL hE hP
  cases hE with
  |oe=>
   simp only [evA,ah,List.cons.injEq,and_true] at hL XL;obtain⟨p,rfl,rfl,rfl,rfl,rfl,rfl⟩:=hL;obtain⟨p',rfl,rfl,rfl,rfl,rfl,rfl⟩:=XL;rw [eQ p,eQ p']
   grind
  |yb=>
   simp only [evA,ah,List.cons.injEq,and_true] at hL XL;obtain⟨p,rfl,rfl,rfl,rfl,rfl,rfl⟩:=hL;obtain⟨p',rfl,rfl,rfl,rfl,rfl,rfl⟩:=XL;rw [eQ p,eQ p']
   grind
  |res o c dn g r v r' v' m a oc hr hv=>
   simp only [evA,ah,List.cons.injEq,and_true] at hL XL;obtain⟨p,rfl,rfl,rfl,rfl,rfl,rfl⟩:=hL;obtain⟨p',rfl,rfl,rfl,rfl,rfl,rfl⟩:=XL;rw [eQ p,eQ p']
   grind
 ·have C': ¬Acc d0 d1 s' t op obj:=fun C'=>C ⟨R,C'.t0,C'.t1,C'.o0,by have:=C'.o1; omega,C'.k⟩;have hL:=FF (arg:=arg) (tries:=tr) h0 U G.wd hf pe C;have XL:=FF (arg:=arg) (tries:=tr) h0 U G'.wd Nf pe C';rw [hA] at hL;rw [hA'] at XL;simp only [ah,List.cons.injEq,and_true] at hL XL;obtain⟨p,rfl,rfl,rfl,rfl,rfl,rfl⟩:=hL;obtain⟨p',rfl,rfl,rfl,rfl,rfl,rfl⟩:=XL;rw [eQ p,eQ p']
  grind
end
end Go.As.Try
end
section

end
section
namespace Go.As.Try
open Go hiding Stat Spec shape
open Go.As
set_option maxRecDepth 100000
theorem AF: ∀{d x:D},x∈d.l->SizeOf.sizeOf x<SizeOf.sizeOf d
 | .i _,x,h=>by simp [D.l] at h
 | .p a b,x,h=>by
   simp only [D.l,aH] at h;rcases h with rfl|h
   ·grind
   ·have:=AF (d:=b) h
    grind
def sPl:D:=.p (.i 43) (.i 0)
def sMi:D:=.p (.i 45) (.i 0)
def sTi:D:=.p (.i 42) (.i 0)
def sEq:D:=.p (.i 61) (.p (.i 61) (.i 0))
def sLs:D:=.p (.i 60) (.i 0)
def adb (s:D) (a b:Int):Int:=
 if s=sPl then IntKind.i64.wrap (a+b) else if s=sMi then IntKind.i64.wrap (a-b) else if s=sTi then IntKind.i64.wrap (a*b) else if s=sEq then (if a=b then 1 else 0) else if s=sLs then (if a<b then 1 else 0) else 0
def KK (k n:Int) (s kids loc:D) (a b:Int):Int:=
 if k=1 then n else if k=2 then (if n<0 then 0 else if n<(loc.l.length:Int) then (loc.at n).n else 0) else if k=3 then (if (kids.l.length:Int)=1 then (if s=sMi then IntKind.i64.wrap (0-a) else 0) else if (kids.l.length:Int)=2 then adb s a b else 0) else 0
theorem HE {ρ:Nat->Int} (a b:W):(W.mul a b).den ρ=a.den ρ*b.den ρ:=rfl
set_option maxHeartbeats 4000000 in
theorem C9: ∀(N:Nat) (kids:D),SizeOf.sizeOf kids<=N->Wd (.sl 6) kids->∀(k n:Int) (s loc:D),∃z:Int,L 1950 [k,enc s,n,enc kids,enc loc]=some [z]/\L 22500 [k,enc s,n,enc kids,enc loc]=some [z]
 |0,kids,hN,_,_,_,_,_=>by exfalso;cases kids<;>simp at hN
 |N+1,kids,hN,hk,k,n,s,loc=>by
  have sub: ∀i:Nat,∃v:Int,(i<kids.l.length->L 1950 [((kids.at (i:Int)).V 0).n,enc ((kids.at (i:Int)).V 1),((kids.at (i:Int)).V 2).n,enc ((kids.at (i:Int)).V 3),enc loc]=some [v]/\L 22500 [((kids.at (i:Int)).V 0).n,enc ((kids.at (i:Int)).V 1),((kids.at (i:Int)).V 2).n,enc ((kids.at (i:Int)).V 3),enc loc]=some [v]):=by
   intro i;by_cases di:i<kids.l.length
   ·obtain⟨k',s',n',A3,he,_,_,XH,Z⟩:=qM hk di
    have iY:SizeOf.sizeOf A3<SizeOf.sizeOf kids.l[i]:=by rw [he];exact AF (by rw [bz]; simp)
    have anM:=AF (aq di);obtain⟨v,hL,hR⟩:=C9 N A3 J Z k' n' s' loc;refine⟨v,fun _=>?_⟩;rw [bG di,he];simp only [zg,ay];exact⟨hL,hR⟩
   ·exact⟨0,fun h=>absurd h di⟩
  obtain⟨a,h0⟩:=sub 0;obtain⟨b,U⟩:=sub 1;have nn: ∀{x y:D},¬x=y->¬y=x:=fun h h'=>h h'.symm
  have key:bL 1950 [k,enc s,n,enc kids,enc loc] (·= [KK k n s kids loc a b])/\bL 22500 [k,enc s,n,enc kids,enc loc] (·= [KK k n s kids loc a b]):=by
   by_cases l1:(kids.l.length:Int)=1
   ·obtain⟨h0,h0'⟩:=h0 J;simp only [art] at h0 h0';constructor
    ·refine bL.of ?_;rw [Eh];simp only [yQ,zz,l1,h0,nZ]
     repeat' first |(refine .out (congrArg (fun x=>[x]) ?_); unfold KK sMi; grind)|refine .ite (fun _=>?_) (fun _=>?_)
    ·refine bL.of ?_;rw [Mz];simp only [KR,zz,l1,h0',nZ,Int.reduceLT]
     repeat' first |(refine .out (congrArg (fun x=>[x]) ?_); unfold KK sMi; grind)|refine .ite (fun _=>?_) (fun _=>?_)
   ·by_cases l2:(kids.l.length:Int)=2
    ·obtain⟨h0,h0'⟩:=h0 J;obtain⟨U,OM⟩:=U J;simp only [art,aL] at h0 h0' U OM;constructor
     ·refine bL.of ?_;rw [Eh];simp only [yQ,zz,l1,l2,h0,U,HE,nZ,bz,CU,lG,lE]
      repeat' first |(refine .out (congrArg (fun x=>[x]) ?_); unfold KK adb sPl sMi sTi sEq sLs; grind)|refine .ite (fun _=>?_) (fun _=>?_)
      refine .out (congrArg (fun x=>[x]) ?_);unfold KK adb sPl sMi sTi sEq sLs;by_cases q1:D.p (.i 42) (.i 0)=s
      ·subst q1;simp [D.n]
       grind
      ·by_cases q2:D.p (.i 45) (.i 0)=s
       ·subst q2;simp [D.n]
        grind
       ·by_cases q3:D.p (.i 43) (.i 0)=s
        ·subst q3;simp [D.n]
         grind
        grind
     ·refine bL.of ?_;rw [Mz];simp only [KR,zz,l1,l2,h0',OM,HE,nZ,Int.reduceLT]
      repeat' first |(refine .out (congrArg (fun x=>[x]) ?_); unfold KK adb sPl sMi sTi sEq sLs; grind)|refine .ite (fun _=>?_) (fun _=>?_)
    ·constructor
     ·refine bL.of ?_;rw [Eh];simp only [yQ,zz,l1,l2]
      repeat' first |(refine .out (congrArg (fun x=>[x]) ?_); unfold KK; grind)|refine .ite (fun _=>?_) (fun _=>?_)
     ·refine bL.of ?_;rw [Mz];simp only [KR,zz,l1,l2]
      repeat' first |(refine .out (congrArg (fun x=>[x]) ?_); unfold KK; grind)|refine .ite (fun _=>?_) (fun _=>?_)|(exfalso; omega)
  obtain⟨⟨ys,hA,rfl⟩,ys',hB,rfl⟩:=key
  grind
theorem Vq (r:D) (t:Int) (hl:r.l.length<=140737488351232): ∀(j i:Nat),i+j=r.l.length->L 4401 [t,enc r,(i:Int)]=some [kq t (r.l.drop i) i]
 |0,i,h=>by
  have c1: ¬(i:Int)<(r.l.length:Int):=J
  rw [bI,aa8,aX J];simp only [c!,zz,c1,fin];rfl
 |j+1,i,h=>by
  have hi:i<r.l.length:=J
  have c1:(i:Int)<(r.l.length:Int):=J
  have c2: ¬((i:Int)<0):=J
  have w:=bF (n:=i) J;have ih:=Vq r t hl j (i+1) J;rw [bI,aa8,aC hi];simp only [c!,zz,c1,c2,bG hi,w,kq];split
  ·rfl
  ·exact ih
theorem vA (r:D) (t:Int) (hl:r.l.length<=140737488351232):L 4400 [t,enc r]=some [place r t]:=by rw [bI,ahh];simp only [afL,zz,fin];exact Vq r t hl r.l.length 0 J
def ES (k m o dn g:Int) (rl vl:Nat):Prop:=
 -1<=o/\o<m/\0<=g/\g<=4611686018427387904/\(0<=o->k=1\/k=2\/k=6)/\(0<(rl:Int)->k=4\/k=2)/\(0<(vl:Int)->k=8)/\(dn≠0->k=6)/\(0<g->k=5)
def PQ (k N o c dn:Int) (rl vl:Nat):Prop:=
 (o<0\/(rl:Int)=0/\dn=0)/\(k=9\/(k=3/\0<=c/\c<=N)\/(k=5/\0<=c/\c<N)\/(k=7/\0<=c/\c<=1099511627776)\/(k=8/\c=0/\(vl:Int)<=N)\/(k≠3/\k≠5/\k≠7/\k≠8/\k≠9/\c=0))
theorem K8 {k N m o c dn g:Int} {r v:D} (hk:(k=3\/k=8->1<=N/\N<=1048576)/\(k=5->1<=N/\N<=16)/\(k=1\/k=2\/k=6\/k=7->N=0)/\(k=4->0<=N)):IE k N m o c dn g r v↔ES k m o dn g r.l.length v.l.length/\n9 m r.l/\PQ k N o c dn r.l.length v.l.length:=by
 unfold IE ac0 ES PQ PR xJ;generalize n9 m r.l=R;have w:1<=N->N<=16->IntKind.i64.wrap (N-1)=N-1:=fun U Z=>fW J J;constructor
 all_goals grind
theorem NP {m:Int} {l:List D} {x:D}:n9 m (l++ [x])↔n9 m l/\0<=x.n/\x.n<m/\x.n∉l.map D.n:=by
 unfold n9
 grind
theorem Xe (r:D) (t:Int):place r t<0↔t∉r.l.map D.n:=by
 rcases lB r t with ⟨h,hn⟩|⟨k,hk,h,U,_⟩
 all_goals grind
theorem adI {m:Int} {l:List D} (i:Nat) (h:n9 m l):n9 m (l.take i):=
 ⟨fun x Y=>h.1 x (arx Y),by rw [asr]; exact h.2.sublist (List.take_sublist i _)⟩
theorem Jg (m:Int) (r:D) (hl:r.l.length<=140737488351232) (k x1 N x3 x4 o c dn g:Int) (v:D): ∀(j i:Nat),i+j=r.l.length->n9 m (r.l.take i)->
 bL 4101 [m,k,(i:Int),x1,N,x3,x4,o,c,dn,g,enc r,enc v] (cA (n9 m r.l/\PQ k N o c dn r.l.length v.l.length))
 |0,i,hi,hR=>by
  have c1: ¬(i:Int)<(r.l.length:Int):=J
  rw [ar1 J] at hR;refine bL.iff (p:=PQ k N o c dn r.l.length v.l.length) ?_ ⟨fun h=> ⟨hR,h⟩,fun h=>h.2⟩;refine bL.of ?_;unfold PQ;rw [abc];simp only [e_,zz,c1]
  repeat' first
   |exact .out (bE J)
   |exact .out (bN J)
   |refine .ite (fun _=>?_) (fun _=>?_)
 |j+1,i,hi,hR=>by
  have di:i<r.l.length:=J
  have c1:(i:Int)<(r.l.length:Int):=J
  have c2: ¬((i:Int)<0):=J
  have w:=bF (n:=i) J;have ht:r.l.take (i+1)=r.l.take i++ [r.l[i]]:=asR di;have hI:=vA (fZ r (r.l.take i)) (r.l[i]).n (by rw [bB,a8]; omega);have hp:=Xe (fZ r (r.l.take i)) (r.l[i]).n;rw [bB] at hp
  have no: ¬(0<=(r.l[i]).n/\(r.l[i]).n<m/\(r.l[i]).n∉(r.l.take i).map D.n)->¬(n9 m r.l/\PQ k N o c dn r.l.length v.l.length):=fun h q=>by
   have:=adI (i+1) q.1;rw [ht,NP] at this
   grind
  refine bL.of ?_;rw [abc];simp only [e_,zz,c1,c2,bG di,aW,hI,w];refine .ite (fun h=> .out (bE (no fun q=>by omega))) fun U=> .ite (fun Z=> .ite (fun h3=> .jump (Jg m r hl k x1 N x3 x4 o c dn g v j (i+1) J ?_)) fun h3=> .out (bE (no fun q=>h3 (hp.2 q.2.2)))) fun Z=> .out (bE (no fun q=>Z q.2.1));rw [ht,NP]
  grind
theorem ajE (k x1 N x3 x4 m o c dn g:Int) (r v:D) (hl:r.l.length<=140737488351232):bL 4100 [k,x1,N,x3,x4,o,c,dn,g,enc r,enc v,m] (cA (ES k m o dn g r.l.length v.l.length/\n9 m r.l/\PQ k N o c dn r.l.length v.l.length)):=by
 have ih:=Jg m r hl k x1 N x3 x4 o c dn g v r.l.length 0 J ⟨ad,ad⟩;generalize (n9 m r.l/\PQ k N o c dn r.l.length v.l.length)=Q at *;refine bL.of ?_;rw [ahl];by_cases h4:k=4
 ·subst h4;simp only [NF,zz,Int.reduceEq]
  repeat' first
   |exact .out (bE fun h=>by have:=h.1; unfold ES at this; omega)
   |exact .jump (ih.iff ⟨fun q=> ⟨by unfold ES; omega,q⟩,fun q=>q.2⟩)
   |refine .ite (fun _=>?_) (fun _=>?_)
 by_cases U:k=1
 ·subst U;simp only [NF,zz,Int.reduceEq]
  repeat' first
   |exact .out (bE fun h=>by have:=h.1; unfold ES at this; omega)
   |exact .jump (ih.iff ⟨fun q=> ⟨by unfold ES; omega,q⟩,fun q=>q.2⟩)
   |refine .ite (fun _=>?_) (fun _=>?_)
 by_cases Z:k=2
 ·subst Z;simp only [NF,zz,Int.reduceEq]
  repeat' first
   |exact .out (bE fun h=>by have:=h.1; unfold ES at this; omega)
   |exact .jump (ih.iff ⟨fun q=> ⟨by unfold ES; omega,q⟩,fun q=>q.2⟩)
   |refine .ite (fun _=>?_) (fun _=>?_)
 simp only [NF,zz,h4,U,Z]
 repeat' first
  |exact .out (bE fun h=>by have:=h.1; unfold ES at this; omega)
  |exact .jump (ih.iff ⟨fun q=> ⟨by unfold ES; omega,q⟩,fun q=>q.2⟩)
  |refine .ite (fun _=>?_) (fun _=>?_)
theorem uD {d0 x:D} (h:wJ d0 x):((x.V 0).n=3\/(x.V 0).n=8->1<=(x.V 2).n/\(x.V 2).n<=1048576)/\((x.V 0).n=5->1<=(x.V 2).n/\(x.V 2).n<=16)/\((x.V 0).n=1\/(x.V 0).n=2\/(x.V 0).n=6\/(x.V 0).n=7->(x.V 2).n=0)/\((x.V 0).n=4->0<=(x.V 2).n):=by unfold wJ OkO at h;omega
section
variable {d0 d1 s:D} {n:Nat} (h0:Wd (.sl 3) d0) (U:Wd (.sl 4) d1) (G:Gs s n) (hn:n<17592186044000)
include h0 U G hn
theorem DI (hC:ID d0 d1) (hle:s.l.length=d0.l.length): ∀(j i:Nat),i+j=s.l.length->bL 3901 [enc s,(i:Int),enc d0,enc d1] (cA (∀(k:Nat) (hk:k<s.l.length),i<=k->Snd (d0.l[k]'(hle▸hk)) s.l[k] d1.l.length))
 |0,i,hi=>by
  have c1: ¬(i:Int)<(s.l.length:Int):=J
  refine bL.of ?_;rw [abi];simp only [Up,zz,c1];exact .out (bN fun k hk h=>by omega)
 |j+1,i,hi=>by
  have hsl:=G.wd.len;have di:i<s.l.length:=J
  have hid:i<d0.l.length:=J
  have c1:(i:Int)<(s.l.length:Int):=J
  have c2: ¬((i:Int)<0):=J
  have c3:(i:Int)<(d0.l.length:Int):=J
  have w:=bF (n:=i) J;obtain⟨o,c,dn,g,r,v,T⟩:=tn (G.wd.lx _ (aq di));have jt:=(G.rows _ (aq di)).1;have e4:(s.l[i]).V 4=r:=by rw [T.is,ep]; rfl
  rw [e4] at jt;have hS:=Rp (d:=d0.l[i]) (m:=d1.l.length) T J;rw [K8 (uD (hC.2.2.1 _ (aq hid)))] at hS;have hR:=ajE ((d0.l[i]).V 0).n (enc ((d0.l[i]).V 1)) ((d0.l[i]).V 2).n (enc ((d0.l[i]).V 3)) ((d0.l[i]).V 4).n (d1.l.length:Int) o c dn g r v J;rw [<- hS] at hR;obtain⟨ys,hR,b,rfl,hb,G5⟩:=hR;have ih:=DI hC hle j (i+1) J
  have arl: ∀R:RS,R=(if b=0 then RS.out [0] else RS.jump 3901 [enc s,((i+1:Nat):Int),enc d0,enc d1])->Ends (cA (∀(k:Nat) (hk:k<s.l.length),i<=k->Snd (d0.l[k]'(hle▸hk)) s.l[k] d1.l.length)) R:=fun R hRR=>by
   rw [hRR];refine .ite (fun pj=> .out (bE fun h=>?_)) fun pj=> .jump (ih.iff ⟨fun h k hk hik=>?_,fun h k hk hik=>h k hk J⟩)
   all_goals grind
  refine bL.of ?_;rw [abi];rcases T.V with rfl|rfl
  ·simp only [Up,zz,c1,c2,c3,bG di,bG hid,T.is,zg,hR,w]
   grind
  ·simp only [Up,zz,c1,c2,c3,bG di,bG hid,T.is,zg,hR,w,Int.reduceEq]
   grind
theorem uB: ∃b:Int,(b=0\/b=1)/\L 350 [enc d0,enc d1,enc s]=some [b]/\L 3900 [enc d0,enc d1,enc s]=some [b]/\(b=1->ID d0 d1):=by
 obtain⟨b,hA,hb,G5⟩:=lz h0 U (G.nt J).rows;obtain⟨c,hc,OK,hp,hr⟩:=Ag h0 U;refine⟨b,hb,hA,?_,fun h=>?_⟩
 ·have key:bL 3900 [enc d0,enc d1,enc s] (·= [b]):=by
   refine bL.of ?_;rw [ahp];simp only [afR,zz,hr];refine .ite (fun LS=> .ite (fun c1=>?_) fun c1=> .out ?_) fun LS=> .out ?_
   ·have hC:=OK.1 LS;have hle:s.l.length=d0.l.length:=J
    obtain⟨ys,hL,e,rfl,he,Ss⟩:=DI h0 U G hn hC hle s.l.length 0 J
    have hbe:b=1↔e=1:=by
     grind
    exact .jump ⟨_,hL,by rw [show e=b by omega]⟩
   all_goals grind
  obtain⟨ys,h,rfl⟩:=key;exact h
 grind
end
theorem ajq (x:D) (h:gx .i64 (x.V 2).n):jr (fC x):=by
 refine⟨-1,_,0,0,.i 1,.i 1,rfl,⟨J,J⟩,?_,.inl rfl,⟨J,J⟩,.nil 0,.nil 0⟩;split
 ·exact h
 ·exact⟨J,J⟩
section
variable {d0 d1:D} (h0:Wd (.sl 3) d0) (U:Wd (.sl 4) d1)
theorem DP (d0:D) (x3:Int) (hlen:d0.l.length<=64): ∀(k i:Nat) (acc:List D),i+k=d0.l.length->acc.length=i->
 bL 3852 [enc (dL acc),(i:Int),enc d0,x3] (·= [enc (dL (acc++(d0.l.drop i).map fC))])
 |0,i,acc,U,Z=>by
  have c1: ¬(i:Int)<(d0.l.length:Int):=J
  refine bL.of ?_;rw [abj,aX J];simp only [g!,zz,c1];exact .out (by rw [aru,bh])
 |k+1,i,acc,U,Z=>by
  have hi:i<d0.l.length:=J
  have V:d0.l.drop i=d0.l[i]::d0.l.drop (i+1):=aC hi;have ih:=DP d0 x3 hlen k (i+1) (acc++ [fC d0.l[i]]) J (by simp [Z]);have w:=bF (n:=i) J;have c1:(i:Int)<(d0.l.length:Int):=J
  have c2: ¬((i:Int)<0):=J
  have c3:(acc.length:Int)<1759218604440:=J
  rw [bp,bd] at ih;refine bL.of ?_;rw [abj,V,aA];simp only [g!,zz,c1,c2,c3,w,bG hi,bz];refine .ite (fun h3=> .jump ?_) fun h3=> .ite (fun h9=> .jump ?_) fun h9=> .jump ?_
  ·have e:fC d0.l[i]=dL [.i (-1),.i (d0.l[i].V 2).n,.i 0,.i 0,.i 1,.i 1]:=by unfold fC; rw [ag (.inl h3)]
   rw [e] at ih ⊢;exact ih
  ·have e:fC d0.l[i]=dL [.i (-1),.i (d0.l[i].V 2).n,.i 0,.i 0,.i 1,.i 1]:=by unfold fC; rw [ag (.inr h9)]
   rw [e] at ih ⊢;exact ih
  ·have e:fC d0.l[i]=dL [.i (-1),.i 0,.i 0,.i 0,.i 1,.i 1]:=by unfold fC; rw [af J]
   rw [e] at ih ⊢;exact ih
include h0 U
theorem TP: ∃b:D,L 300 [enc d0,enc d1]=some [enc b]/\L 3850 [enc d0,enc d1]=some [enc b]/\Gs b 0:=by
 obtain⟨c,hc,OK,hp,hr⟩:=Ag h0 U;have gn:Gs (.i 1) 0:=⟨.nil 7,fun x Y=>by simp [D.l] at Y⟩;by_cases LS:c=0
 ·subst LS;have hC:=OK.1 rfl;by_cases hz:d0.l.length=0
  ·have:bL 3850 [enc d0,enc d1] (·= [enc (.i 1)]):=by
    have c1: ¬(0:Int)<(d0.l.length:Int):=J
    refine bL.of ?_;rw [VU];simp only [Uq,zz,hr];refine .jump (bL.of ?_);rw [abk];simp only [h_,zz,c1];exact .out rfl
   obtain⟨ys,h,rfl⟩:=this;exact⟨.i 1,BW hp (.inr hz),h,gn⟩
  ·have hi:0<d0.l.length:=J
   have:bL 3850 [enc d0,enc d1] (·= [enc (dL (d0.l.map fC))]):=by
    have V:d0.l=d0.l[0]::d0.l.drop 1:=by
     have:=aC hi
     grind
    have ih:=DP d0 (enc d1) hC.1 (d0.l.length-1) 1 [fC d0.l[0]] J rfl;rw [bd,<- aA,<- V] at ih;have c1:(0:Int)<(d0.l.length:Int):=J
    have gz:d0.at 0=d0.l[0]:=bG hi;refine bL.of ?_;rw [VU];simp only [Uq,zz,hr];refine .jump (bL.of ?_);rw [abk];simp only [h_,zz,c1,gz,lG,au];refine .ite (fun h3=> .jump ?_) fun h3=> .ite (fun h9=> .jump ?_) fun h9=> .jump ?_
    ·have e:fC d0.l[0]=dL [.i (-1),.i (d0.l[0].V 2).n,.i 0,.i 0,.i 1,.i 1]:=by unfold fC; rw [ag (.inl h3)]
     rw [e] at ih;exact ih
    ·have e:fC d0.l[0]=dL [.i (-1),.i (d0.l[0].V 2).n,.i 0,.i 0,.i 1,.i 1]:=by unfold fC; rw [ag (.inr h9)]
     rw [e] at ih;exact ih
    ·have e:fC d0.l[0]=dL [.i (-1),.i 0,.i 0,.i 0,.i 1,.i 1]:=by unfold fC; rw [af J]
     rw [e] at ih;exact ih
   obtain⟨ys,h,rfl⟩:=this;refine⟨_,HZ hp hC.1 hi,h,xP (fun x Y=>?_) (by simp; exact arY.1 hi) (by rw [aY]; have:=hC.1; omega),fun x Y=>?_⟩
   ·obtain⟨y,hy,rfl⟩:=aR.1 Y;obtain⟨kd,sa,ln,s1,s2,he,_,hnn,_⟩:=h0.decl y hy;rw [he];exact ajq _ hnn
   ·rw [bz] at Y;obtain⟨y,hy,rfl⟩:=aR.1 Y;exact⟨ax 0,ax 0⟩
 ·have:bL 3850 [enc d0,enc d1] (·= [enc (.i 1)]):=by
   refine bL.of ?_;rw [VU];simp only [Uq,zz,hr,LS];exact .out rfl
  obtain⟨ys,h,rfl⟩:=this;exact⟨.i 1,BW hp (.inl LS),h,gn⟩
end
def kQ (d:D):D:=if (d.l.length:Int)=0 then .i 2 else d
def ji (x:D):D:=dL [.i (x.V 0).n,.i (x.V 1).n,.i (if (x.V 2).n=0 then 0 else 1),.i (x.V 3).n,kQ (x.V 4),kQ (x.V 5)]
theorem vz (d:D):(kQ d).l=d.l:=by
 unfold kQ;split
 ·rename_i h;rw [arI.1 (by omega:d.l.length=0)];rfl
 ·rfl
theorem acq {x:D} (h:jr x):TEq (ji x) x:=by obtain⟨o,c,d,g,r,v,rfl,_,_,V,_⟩:=h;unfold ji;simp only [ep];refine⟨rfl,rfl,?_,rfl,vz r,vz v⟩;rcases V with rfl|rfl<;>rfl
def Al (x:D):Prop:=(x.V 4).l.length<17592186044415/\(x.V 5).l.length<17592186044415
theorem Ek (s:D) (hs:s.l.length<=1759218604390) (hc: ∀x∈s.l,Al x): ∀(k i:Nat) (acc:List D),i+k=s.l.length->acc.length=i->
 bL 3952 [enc s,enc (dL acc),(i:Int)] (·= [enc (dL (acc++(s.l.drop i).map ji))])
 |0,i,acc,U,Z=>by
  have c1: ¬(i:Int)<(s.l.length:Int):=J
  refine bL.of ?_;rw [abh,aX J];simp only [f?,zz,c1];exact .out (by rw [aru,bh])
 |k+1,i,acc,U,Z=>by
  have hi:i<s.l.length:=J
  have V:s.l.drop i=s.l[i]::s.l.drop (i+1):=aC hi;have ih:=Ek s hs hc k (i+1) (acc++ [ji s.l[i]]) J (by simp [Z]);have w:=bF (n:=i) J;have c1:(i:Int)<(s.l.length:Int):=J
  have c2: ¬((i:Int)<0):=J
  have c3:(acc.length:Int)<1759218604440:=J
  obtain⟨q4,q5⟩:=hc _ (aq hi);rw [bp,bd] at ih;refine bL.of ?_;rw [abh,V,aA];have gz:=bG hi;generalize s.l[i]=x at *;have q4:((x.V 4).l.length:Int)<17592186044416:=J
  have q5:((x.V 5).l.length:Int)<17592186044416:=J
  by_cases r4:((x.V 4).l.length:Int)=0<;>by_cases r5:((x.V 5).l.length:Int)=0<;>
  ·have e:ji x=dL [.i (x.V 0).n,.i (x.V 1).n,.i (if (x.V 2).n=0 then 0 else 1),.i (x.V 3).n,kQ (x.V 4),kQ (x.V 5)]:=rfl;unfold kQ at e;simp only [r4,r5,if_true,if_false] at e;rw [e] at ih
   try rw [e]
   simp only [f?,zz,c1,c2,c3,w,gz,bz,q4,q5,r4,r5];exact .jump ih
theorem zF (s:D) (hs:s.l.length<=1759218604390) (hc: ∀x∈s.l,Al x):L 3950 [enc s]=some [enc (if s.l.length=0 then .i 1 else dL (s.l.map ji))]:=by
 have:bL 3950 [enc s] (·= [enc (if s.l.length=0 then .i 1 else dL (s.l.map ji))]):=by
  refine bL.of ?_;rw [aho];simp only [afQ,zz];refine .jump (bL.of ?_);rw [ahn];by_cases hz:s.l.length=0
  ·have c1: ¬(0:Int)<(s.l.length:Int):=J
   simp only [g_,zz,c1];exact .out (by rw [ag hz])
  ·have hi:0<s.l.length:=J
   have c1:(0:Int)<(s.l.length:Int):=J
   have gz:s.at 0=s.l[0]:=bG hi
   have V:s.l=s.l[0]::s.l.drop 1:=by
    have:=aC hi
    grind
   have ih:=Ek s hs hc (s.l.length-1) 1 [ji s.l[0]] J rfl;rw [bd,<- aA,<- V] at ih;obtain⟨q4,q5⟩:=hc _ (aq hi);rw [af hz];generalize s.l[0]=x at *;have q4:((x.V 4).l.length:Int)<17592186044416:=J
   have q5:((x.V 5).l.length:Int)<17592186044416:=J
   by_cases r4:((x.V 4).l.length:Int)=0<;>by_cases r5:((x.V 5).l.length:Int)=0<;>
   ·have e:ji x=dL [.i (x.V 0).n,.i (x.V 1).n,.i (if (x.V 2).n=0 then 0 else 1),.i (x.V 3).n,kQ (x.V 4),kQ (x.V 5)]:=rfl;unfold kQ at e;simp only [r4,r5,if_true,if_false] at e;rw [e] at ih
    try rw [e]
    simp only [g_,zz,c1,gz,q4,q5,lG,au,r4,r5];exact .jump ih
 obtain⟨ys,h,rfl⟩:=this;exact h
theorem Af {s:D} (hs:s.l.length<=1759218604390) (ht: ∀x∈s.l,jr x) (hc: ∀x∈s.l,Al x): ∃s':D,L 3950 [enc s]=some [enc s']/\B7 s' s/\(s.l.length≠0->s'=dL (s.l.map ji)):=by
 refine⟨_,zF s hs hc,?_,fun h=>by rw [af h]⟩;split
 ·rename_i h;have h0:=arI.1 h;exact⟨by rw [h0]; rfl,fun i=>by rw [fb,fb,h0]; exact .nG _⟩
 ·refine⟨by rw [bz,aY],fun i=>?_⟩;rw [fb,fb,bz,bk]
  cases h:s.l[i]? with
  |none=>exact .nG _
  |some x=>exact acq (ht _ (arq h))
def ph:D:=dL [.i 0,.i 0,.i 0,.i 0,.i 1,.i 1]
def BY (x:D):Int:=if ((x.V 4).l.length:Int)=0 then (if ((x.V 5).l.length:Int)=0 then 1 else 2) else (if ((x.V 5).l.length:Int)=0 then 3 else 4)
def DM (x:D):List Int:=[(x.V 0).n,(x.V 1).n,(x.V 2).n,(x.V 3).n]++(if ((x.V 4).l.length:Int)=0 then [] else [enc (x.V 4)])++(if ((x.V 5).l.length:Int)=0 then [] else [enc (x.V 5)])
theorem FN (s:D) (ob:Nat) (hs:s.l.length<=1759218604390) (hc: ∀x∈s.l,Al x) (y4 y5 y6 y7:Int): ∀(k i:Nat) (acc:List D),i+k=s.l.length->acc.length=i->ob<i->
 bL 9102 [(ob:Int),enc s,enc (dL acc),(i:Int),y4,y5,y6,y7] (·= [1,(ob:Int),enc (dL (acc++(s.l.drop i).map ji)),y4,y5,y6,y7])
 |0,i,acc,U,Z,h3=>by
  have c1: ¬(i:Int)<(s.l.length:Int):=J
  have c0: ¬(i:Int)=(ob:Int):=J
  refine bL.of ?_;rw [aaD,aX J];simp only [ZO,zz,c1,c0];exact .out (by rw [aru,bh])
 |k+1,i,acc,U,Z,h3=>by
  have hi:i<s.l.length:=J
  have V:s.l.drop i=s.l[i]::s.l.drop (i+1):=aC hi;have ih:=FN s ob hs hc y4 y5 y6 y7 k (i+1) (acc++ [ji s.l[i]]) J (by simp [Z]) J;have w:=bF (n:=i) J;have c0: ¬(i:Int)=(ob:Int):=J
  have c1:(i:Int)<(s.l.length:Int):=J
  have c2: ¬((i:Int)<0):=J
  have c3:(acc.length:Int)<1759218604440:=J
  have c4:(ob:Int)<(acc.length:Int):=J
  obtain⟨q4,q5⟩:=hc _ (aq hi);rw [bp,bd] at ih;refine bL.of ?_;rw [aaD,V,aA];have gz:=bG hi;generalize s.l[i]=x at *;have q4:((x.V 4).l.length:Int)<17592186044416:=J
  have q5:((x.V 5).l.length:Int)<17592186044416:=J
  by_cases r4:((x.V 4).l.length:Int)=0<;>by_cases r5:((x.V 5).l.length:Int)=0<;>
  ·have e:ji x=dL [.i (x.V 0).n,.i (x.V 1).n,.i (if (x.V 2).n=0 then 0 else 1),.i (x.V 3).n,kQ (x.V 4),kQ (x.V 5)]:=rfl;unfold kQ at e;simp only [r4,r5,if_true,if_false] at e;rw [e] at ih
   try rw [e]
   simp only [ZO,zz,c0,c1,c2,c3,c4,w,gz,bz,q4,q5,r4,r5];exact .jump ih
theorem FM (s:D) (ob:Nat) (hs:s.l.length<=1759218604390) (hc: ∀x∈s.l,Al x) (y4 y5 y6 y7 y8:Int): ∀(k i:Nat) (acc:List D),i+k=s.l.length->acc.length=i->ob<i->
 bL 9103 [(ob:Int),enc s,enc (dL acc),(i:Int),y4,y5,y6,y7,y8] (·= [2,(ob:Int),enc (dL (acc++(s.l.drop i).map ji)),y4,y5,y6,y7,y8])
 |0,i,acc,U,Z,h3=>by
  have c1: ¬(i:Int)<(s.l.length:Int):=J
  have c0: ¬(i:Int)=(ob:Int):=J
  refine bL.of ?_;rw [aaC,aX J];simp only [ZN,zz,c1,c0];exact .out (by rw [aru,bh])
 |k+1,i,acc,U,Z,h3=>by
  have hi:i<s.l.length:=J
  have V:s.l.drop i=s.l[i]::s.l.drop (i+1):=aC hi;have ih:=FM s ob hs hc y4 y5 y6 y7 y8 k (i+1) (acc++ [ji s.l[i]]) J (by simp [Z]) J;have w:=bF (n:=i) J;have c0: ¬(i:Int)=(ob:Int):=J
  have c1:(i:Int)<(s.l.length:Int):=J
  have c2: ¬((i:Int)<0):=J
  have c3:(acc.length:Int)<1759218604440:=J
  have c4:(ob:Int)<(acc.length:Int):=J
  obtain⟨q4,q5⟩:=hc _ (aq hi);rw [bp,bd] at ih;refine bL.of ?_;rw [aaC,V,aA];have gz:=bG hi;generalize s.l[i]=x at *;have q4:((x.V 4).l.length:Int)<17592186044416:=J
  have q5:((x.V 5).l.length:Int)<17592186044416:=J
  by_cases r4:((x.V 4).l.length:Int)=0<;>by_cases r5:((x.V 5).l.length:Int)=0<;>
  ·have e:ji x=dL [.i (x.V 0).n,.i (x.V 1).n,.i (if (x.V 2).n=0 then 0 else 1),.i (x.V 3).n,kQ (x.V 4),kQ (x.V 5)]:=rfl;unfold kQ at e;simp only [r4,r5,if_true,if_false] at e;rw [e] at ih
   try rw [e]
   simp only [ZN,zz,c0,c1,c2,c3,c4,w,gz,bz,q4,q5,r4,r5];exact .jump ih
theorem FL (s:D) (ob:Nat) (hs:s.l.length<=1759218604390) (hc: ∀x∈s.l,Al x) (y4 y5 y6 y7 y8:Int): ∀(k i:Nat) (acc:List D),i+k=s.l.length->acc.length=i->ob<i->
 bL 9104 [(ob:Int),enc s,enc (dL acc),(i:Int),y4,y5,y6,y7,y8] (·= [3,(ob:Int),enc (dL (acc++(s.l.drop i).map ji)),y4,y5,y6,y7,y8])
 |0,i,acc,U,Z,h3=>by
  have c1: ¬(i:Int)<(s.l.length:Int):=J
  have c0: ¬(i:Int)=(ob:Int):=J
  refine bL.of ?_;rw [aaB,aX J];simp only [ZM,zz,c1,c0];exact .out (by rw [aru,bh])
 |k+1,i,acc,U,Z,h3=>by
  have hi:i<s.l.length:=J
  have V:s.l.drop i=s.l[i]::s.l.drop (i+1):=aC hi;have ih:=FL s ob hs hc y4 y5 y6 y7 y8 k (i+1) (acc++ [ji s.l[i]]) J (by simp [Z]) J;have w:=bF (n:=i) J;have c0: ¬(i:Int)=(ob:Int):=J
  have c1:(i:Int)<(s.l.length:Int):=J
  have c2: ¬((i:Int)<0):=J
  have c3:(acc.length:Int)<1759218604440:=J
  have c4:(ob:Int)<(acc.length:Int):=J
  obtain⟨q4,q5⟩:=hc _ (aq hi);rw [bp,bd] at ih;refine bL.of ?_;rw [aaB,V,aA];have gz:=bG hi;generalize s.l[i]=x at *;have q4:((x.V 4).l.length:Int)<17592186044416:=J
  have q5:((x.V 5).l.length:Int)<17592186044416:=J
  by_cases r4:((x.V 4).l.length:Int)=0<;>by_cases r5:((x.V 5).l.length:Int)=0<;>
  ·have e:ji x=dL [.i (x.V 0).n,.i (x.V 1).n,.i (if (x.V 2).n=0 then 0 else 1),.i (x.V 3).n,kQ (x.V 4),kQ (x.V 5)]:=rfl;unfold kQ at e;simp only [r4,r5,if_true,if_false] at e;rw [e] at ih
   try rw [e]
   simp only [ZM,zz,c0,c1,c2,c3,c4,w,gz,bz,q4,q5,r4,r5];exact .jump ih
theorem FK (s:D) (ob:Nat) (hs:s.l.length<=1759218604390) (hc: ∀x∈s.l,Al x) (y4 y5 y6 y7 y8 y9:Int): ∀(k i:Nat) (acc:List D),i+k=s.l.length->acc.length=i->ob<i->
 bL 9105 [(ob:Int),enc s,enc (dL acc),(i:Int),y4,y5,y6,y7,y8,y9] (·= [4,(ob:Int),enc (dL (acc++(s.l.drop i).map ji)),y4,y5,y6,y7,y8,y9])
 |0,i,acc,U,Z,h3=>by
  have c1: ¬(i:Int)<(s.l.length:Int):=J
  have c0: ¬(i:Int)=(ob:Int):=J
  refine bL.of ?_;rw [aaA,aX J];simp only [ZL,zz,c1,c0];exact .out (by rw [aru,bh])
 |k+1,i,acc,U,Z,h3=>by
  have hi:i<s.l.length:=J
  have V:s.l.drop i=s.l[i]::s.l.drop (i+1):=aC hi;have ih:=FK s ob hs hc y4 y5 y6 y7 y8 y9 k (i+1) (acc++ [ji s.l[i]]) J (by simp [Z]) J;have w:=bF (n:=i) J;have c0: ¬(i:Int)=(ob:Int):=J
  have c1:(i:Int)<(s.l.length:Int):=J
  have c2: ¬((i:Int)<0):=J
  have c3:(acc.length:Int)<1759218604440:=J
  have c4:(ob:Int)<(acc.length:Int):=J
  obtain⟨q4,q5⟩:=hc _ (aq hi);rw [bp,bd] at ih;refine bL.of ?_;rw [aaA,V,aA];have gz:=bG hi;generalize s.l[i]=x at *;have q4:((x.V 4).l.length:Int)<17592186044416:=J
  have q5:((x.V 5).l.length:Int)<17592186044416:=J
  by_cases r4:((x.V 4).l.length:Int)=0<;>by_cases r5:((x.V 5).l.length:Int)=0<;>
  ·have e:ji x=dL [.i (x.V 0).n,.i (x.V 1).n,.i (if (x.V 2).n=0 then 0 else 1),.i (x.V 3).n,kQ (x.V 4),kQ (x.V 5)]:=rfl;unfold kQ at e;simp only [r4,r5,if_true,if_false] at e;rw [e] at ih
   try rw [e]
   simp only [ZL,zz,c0,c1,c2,c3,c4,w,gz,bz,q4,q5,r4,r5];exact .jump ih
theorem ZI (s:D) (ob:Nat) (uP:ob<s.l.length) (hs:s.l.length<=1759218604390) (hc: ∀x∈s.l,Al x) (acc:List D) (ha:acc.length=ob) :
 bL 9106 [(ob:Int),enc s,enc (dL acc),(ob:Int)] (·= BY s.l[ob]::(ob:Int)::enc (dL (acc++ph::(s.l.drop (ob+1)).map ji))::DM s.l[ob]):=by
 have w:=bF (n:=ob) J;have c1:(ob:Int)<(s.l.length:Int):=J
 have c2: ¬((ob:Int)<0):=J
 have c3:(acc.length:Int)<1759218604440:=J
 have c4:(acc.length:Int)=(ob:Int):=J
 have c5:(ob:Int)<1759218604440:=J
 obtain⟨q4,q5⟩:=hc _ (aq uP);have t2:=fun a b c d=>FN s ob hs hc a b c d (s.l.length-(ob+1)) (ob+1) (acc++ [ph]) J (by simp [ha]) J;have t3:=fun a b c d e=>FM s ob hs hc a b c d e (s.l.length-(ob+1)) (ob+1) (acc++ [ph]) J (by simp [ha]) J;have t4:=fun a b c d e=>FL s ob hs hc a b c d e (s.l.length-(ob+1)) (ob+1) (acc++ [ph]) J (by simp [ha]) J;have t5:=fun a b c d e f=>FK s ob hs hc a b c d e f (s.l.length-(ob+1)) (ob+1) (acc++ [ph]) J (by simp [ha]) J;rw [bp,bd] at t2 t3 t4 t5;refine bL.of ?_;rw [Ph];have gz:=bG uP;unfold BY DM;generalize s.l[ob]=x at *;have q4:((x.V 4).l.length:Int)<17592186044416:=J
 have q5:((x.V 5).l.length:Int)<17592186044416:=J
 by_cases r4:((x.V 4).l.length:Int)=0<;>by_cases r5:((x.V 5).l.length:Int)=0<;>
 ·simp only [NA,zz,c1,c2,c5,c4,w,gz,bz,r4,r5,q4,q5]
  first |exact .jump (t2 _ _ _ _)|exact .jump (t3 _ _ _ _ _)|exact .jump (t4 _ _ _ _ _)|exact .jump (t5 _ _ _ _ _ _)
theorem ahead (s:D) (ob:Nat) (uP:ob<s.l.length) (hs:s.l.length<=1759218604390) (hc: ∀x∈s.l,Al x): ∀(k i:Nat) (acc:List D),i+k=ob->acc.length=i->
 bL 9106 [(ob:Int),enc s,enc (dL acc),(i:Int)] (·= BY s.l[ob]::(ob:Int)::enc (dL (acc++((s.l.drop i).take k).map ji++ph::(s.l.drop (ob+1)).map ji))::DM s.l[ob])
 |0,i,acc,U,Z=>by
  obtain rfl:i=ob:=J
  have:=ZI s i uP hs hc acc Z
  grind
 |k+1,i,acc,U,Z=>by
  have hi:i<s.l.length:=J
  have V:s.l.drop i=s.l[i]::s.l.drop (i+1):=aC hi;have ih:=ahead s ob uP hs hc k (i+1) (acc++ [ji s.l[i]]) J (by simp [Z]);have w:=bF (n:=i) J;have c0: ¬(i:Int)=(ob:Int):=J
  have c1:(i:Int)<(s.l.length:Int):=J
  have c2: ¬((i:Int)<0):=J
  have c3:(acc.length:Int)<1759218604440:=J
  obtain⟨q4,q5⟩:=hc _ (aq hi)
  have Y?:acc++((s.l.drop i).take (k+1)).map ji=acc++ [ji s.l[i]]++((s.l.drop (i+1)).take k).map ji:=by
   grind
  rw [<- Y?] at ih;refine bL.of ?_;rw [Ph];have gz:=bG hi;clear Y? V;generalize s.l[i]=x at *;have q4:((x.V 4).l.length:Int)<17592186044416:=J
  have q5:((x.V 5).l.length:Int)<17592186044416:=J
  by_cases r4:((x.V 4).l.length:Int)=0<;>by_cases r5:((x.V 5).l.length:Int)=0<;>
  ·have e:ji x=dL [.i (x.V 0).n,.i (x.V 1).n,.i (if (x.V 2).n=0 then 0 else 1),.i (x.V 3).n,kQ (x.V 4),kQ (x.V 5)]:=rfl;unfold kQ at e;simp only [r4,r5,if_true,if_false] at e;rw [e] at ih
   try rw [e]
   simp only [NA,zz,c0,c1,c2,c3,w,gz,bz,q4,q5,r4,r5];exact .jump ih
theorem Ps (s:D) (ob:Nat) (uP:ob<s.l.length) (hs:s.l.length<=1759218604390) (hc: ∀x∈s.l,Al x) :
 L 9100 [(ob:Int),enc s]=some (BY s.l[ob]::(ob:Int)::enc (dL ((s.l.take ob).map ji++ph::(s.l.drop (ob+1)).map ji))::DM s.l[ob]):=by
 have:bL 9100 [(ob:Int),enc s] (·= BY s.l[ob]::(ob:Int)::enc (dL ((s.l.take ob).map ji++ph::(s.l.drop (ob+1)).map ji))::DM s.l[ob]):=by
  refine bL.of ?_;rw [aaF];simp only [ZP,zz];refine .jump (bL.of ?_);have hi:0<s.l.length:=J
  have c1:(0:Int)<(s.l.length:Int):=J
  have gz:s.at 0=s.l[0]:=bG hi
  have V:s.l=s.l[0]::s.l.drop 1:=by
   have:=aC hi
   grind
  obtain⟨q4,q5⟩:=hc _ (aq hi);rw [aaE];by_cases h0:ob=0
  ·subst h0;have t2:=fun a b c d=>FN s 0 hs hc a b c d (s.l.length-1) 1 [ph] J rfl J;have t3:=fun a b c d e=>FM s 0 hs hc a b c d e (s.l.length-1) 1 [ph] J rfl J;have t4:=fun a b c d e=>FL s 0 hs hc a b c d e (s.l.length-1) 1 [ph] J rfl J;have t5:=fun a b c d e f=>FK s 0 hs hc a b c d e f (s.l.length-1) 1 [ph] J rfl J;rw [bd] at t2 t3 t4 t5;rw [asI,aru,au];have c0:(0:Int)=((0:Nat):Int):=rfl;unfold BY DM;clear V;generalize s.l[0]=x at *;have q4:((x.V 4).l.length:Int)<17592186044416:=J
   have q5:((x.V 5).l.length:Int)<17592186044416:=J
   by_cases r4:((x.V 4).l.length:Int)=0<;>by_cases r5:((x.V 5).l.length:Int)=0<;>
   ·simp only [NB,zz,c1,gz,r4,r5,q4,q5,lG,au,<- c0]
    first |exact .jump (t2 _ _ _ _)|exact .jump (t3 _ _ _ _ _)|exact .jump (t4 _ _ _ _ _)|exact .jump (t5 _ _ _ _ _ _)
  ·have c0: ¬(0:Int)=(ob:Int):=J
   have ih:=ahead s ob uP hs hc (ob-1) 1 [ji s.l[0]] J rfl
   have Y?:(s.l.take ob).map ji= [ji s.l[0]]++((s.l.drop 1).take (ob-1)).map ji:=by
    obtain⟨m,rfl⟩ : ∃m,ob=m+1:=⟨ob-1,J⟩
    grind
   rw [<- Y?] at ih;clear Y? V;generalize s.l[0]=x at *;have q4:((x.V 4).l.length:Int)<17592186044416:=J
   have ih:bL 9106 [(ob:Int),enc s,enc (dL [ji x]),1] _:=ih;have q5:((x.V 5).l.length:Int)<17592186044416:=J
   by_cases r4:((x.V 4).l.length:Int)=0<;>by_cases r5:((x.V 5).l.length:Int)=0<;>
   ·have e:ji x=dL [.i (x.V 0).n,.i (x.V 1).n,.i (if (x.V 2).n=0 then 0 else 1),.i (x.V 3).n,kQ (x.V 4),kQ (x.V 5)]:=rfl;unfold kQ at e;simp only [r4,r5,if_true,if_false] at e;rw [e] at ih
    try rw [e]
    simp only [NB,zz,c0,c1,gz,q4,q5,lG,au,r4,r5];exact .jump ih
 obtain⟨ys,h,rfl⟩:=this;exact h
def K9 (d:D):Prop:=d= .i 1\/d= .i 2\/d=dL d.l/\d.l≠[]
theorem wy {t:Nat} {a:D} (h:Wd (.sl t) a):K9 a:=by
 rcases h.sh with U|U|⟨U,Z⟩
 ·exact .inl U
 ·exact .inr (.inl U)
 ·exact .inr (.inr ⟨U,Z⟩)
theorem cB {l:List D} (h:l≠[]):K9 (dL l):=.inr (.inr ⟨by rw [bz],by rwa [bz]⟩)
theorem dQ (d:D) (l:List D):K9 (fZ d l):=by
 cases l with
 |nil=>
  simp only [fZ];split
  ·exact .inl rfl
  ·exact .inr (.inl rfl)
 |cons a l=>exact cB ad
theorem UC {d:D} (h:K9 d):K9 (kQ d):=by
 unfold kQ;split
 ·exact .inr (.inl rfl)
 ·exact h
def shR (x:D):Prop:= ∃o c b g r v,x=dL [.i o,.i c,.i b,.i g,r,v]/\K9 r/\K9 v
theorem Rq {x:D} (h:jr x):shR (ji x):=by obtain⟨o,c,d,g,r,v,T⟩:=tn h;rw [T.is];unfold ji;simp only [zg,ay,zM];exact⟨_,_,_,_,_,_,rfl,UC (wy T.hr),UC (wy T.hv)⟩
def shS (s:D):Prop:=K9 s/\∀x∈s.l,shR x
structure SQ (s' s:D):Prop where
 e:B7 s' s
 h:shS s'
structure CEq (cs s:D) (obj:Int):Prop where
 len:cs.l.length=s.l.length
 xC: ∀i:Nat,(i:Int)≠obj->TEq (cs.at (i:Int)) (s.at (i:Int))
 six: ∀i:Nat,(i:Int)≠obj->i<s.l.length->∃a b c d e f,cs.at (i:Int)=dL [a,b,c,d,e,f]/\∃a' b' c' d' e' f',s.at (i:Int)=dL [a',b',c',d',e',f']
 sh: ∀i:Nat,(i:Int)≠obj->i<s.l.length->shR (cs.at (i:Int))
theorem TL {cs s:D} {obj:Int} (C:CEq cs s obj) (h0:0<=obj) (U:obj<(s.l.length:Int)) {x:D} (Y:shR x):shS (dL (dE cs.l obj x)):=by
 obtain⟨j,rfl⟩ : ∃j:Nat,obj=(j:Int):=⟨obj.toNat,J⟩;have hl:=C.len;refine⟨cB fun h=>?_,fun y hy=>?_⟩
 ·have:=congrArg List.length h;rw [ej] at this;simp only [bj] at this;omega
 ·rw [bz] at hy;obtain⟨i,hi0,rfl⟩:=ar3 hy
  have hi:i<cs.l.length:=by have:=hi0;rwa [ej] at this
  by_cases hij:i=j
  ·subst hij;have:(dE cs.l (i:Int) x)[i]?=some x:=rB hi;rw [aN hi0] at this;rw [Option.some.inj this];exact Y
  ·have:=C.sh i J J;have e:(dE cs.l (j:Int) x)[i]?=cs.l[i]?:=lJ J;rw [aN hi0,aN hi] at e;rw [Option.some.inj e,<- bG hi];exact this
theorem MT {cs s:D} {obj:Int} (C:CEq cs s obj) (h0:0<=obj) {x y:D} (Y:TEq x y):B7 (dL (dE cs.l obj x)) (dL (dE s.l obj y)):=by
 refine⟨by rw [bz,bz,ej,ej]; exact C.len.symm,fun i=>?_⟩;by_cases hz:(i:Int)=obj
 ·subst hz;by_cases hi:i<s.l.length
  ·have e1:(dL (dE cs.l (i:Int) x)).at (i:Int)=x:=Dq (by rw [bz]; exact rB (by have:=C.len; omega));have e2:(dL (dE s.l (i:Int) y)).at (i:Int)=y:=Dq (by rw [bz]; exact rB hi)
   grind
  ·have e1:(dL (dE cs.l (i:Int) x)).at (i:Int)= .i 0:=by rw [fb,bz,arH (by rw [ej]; have:=C.len; omega)]; rfl
   have e2:(dL (dE s.l (i:Int) y)).at (i:Int)= .i 0:=by rw [fb,bz,arH (by rw [ej]; omega)]; rfl
   rw [e1,e2];exact .nG _
 ·have e1:(dL (dE cs.l obj x)).at (i:Int)=cs.at (i:Int):=by rw [fb,fb,bz,lJ hz]
  have e2:(dL (dE s.l obj y)).at (i:Int)=s.at (i:Int):=by rw [fb,fb,bz,lJ hz]
  rw [e1,e2];exact C.xC i hz
theorem ZK {x y:D} (h:TEq x y) (Y: ∃a b c d e f,x=dL [a,b,c,d,e,f]) (hy: ∃a b c d e f,y=dL [a,b,c,d,e,f]) (q:Int):TEq (dL (dE x.l 0 (.i q))) (dL (dE y.l 0 (.i q))):=by obtain⟨a,b,c,d,e,f,rfl⟩:=Y;obtain⟨a',b',c',d',e',f',rfl⟩:=hy;obtain⟨_,q1,q2,q3,q4,q5⟩:=h;rw [bz,bz];exact⟨rfl,q1,q2,q3,q4,q5⟩
theorem Wm {cs s:D} {obj:Int} (C:CEq cs s obj) {M:Nat} (hM:(M:Int)≠obj) (hMl:M<s.l.length) (q:Int):CEq (dL (dE cs.l (M:Int) (dL (dE (cs.at (M:Int)).l 0 (.i q))))) (dL (dE s.l (M:Int) (dL (dE (s.at (M:Int)).l 0 (.i q))))) obj:=by
 have hMc:M<cs.l.length:=by have:=C.len; omega
 obtain⟨a,b,c,d,e,f,Y,a',b',c',d',e',f',hy⟩:=C.six M hM hMl;have e1:(dL (dE cs.l (M:Int) (dL (dE (cs.at (M:Int)).l 0 (.i q))))).at (M:Int)=dL (dE (cs.at (M:Int)).l 0 (.i q)):=Dq (by rw [bz]; exact rB hMc);have e2:(dL (dE s.l (M:Int) (dL (dE (s.at (M:Int)).l 0 (.i q))))).at (M:Int)=dL (dE (s.at (M:Int)).l 0 (.i q)):=Dq (by rw [bz]; exact rB hMl);have n1: ∀{i:Nat},¬(i:Int)=(M:Int)->(dL (dE cs.l (M:Int) (dL (dE (cs.at (M:Int)).l 0 (.i q))))).at (i:Int)=cs.at (i:Int):=fun hz=>by rw [fb,bz,lJ hz]; rfl
 have n2: ∀{i:Nat},¬(i:Int)=(M:Int)->(dL (dE s.l (M:Int) (dL (dE (s.at (M:Int)).l 0 (.i q))))).at (i:Int)=s.at (i:Int):=fun hz=>by rw [fb,bz,lJ hz]; rfl
 refine⟨by rw [bz,bz,ej,ej]; exact C.len,fun i hi=>?_,fun i hi di=>?_,fun i hi di=>?_⟩
 ·by_cases hz:(i:Int)=(M:Int)
  ·rw [hz,e1,e2];exact ZK (C.xC M hM) ⟨a,b,c,d,e,f,Y⟩ ⟨a',b',c',d',e',f',hy⟩ q
  ·rw [n1 hz,n2 hz];exact C.xC i hi
 ·rw [bz,ej] at di;by_cases hz:(i:Int)=(M:Int)
  ·rw [hz,e1,e2,Y,hy,bz,bz];exact⟨_,_,_,_,_,_,rfl,_,_,_,_,_,_,rfl⟩
  ·rw [n1 hz,n2 hz];exact C.six i hi di
 ·rw [bz,ej] at di;by_cases hz:(i:Int)=(M:Int)
  ·rw [hz,e1];obtain⟨o',c',b',g',r',v',hy',sr,sv⟩:=C.sh M hM hMl;rw [hy',bz];exact⟨_,_,_,_,_,_,rfl,sr,sv⟩
  ·rw [n1 hz];exact C.sh i hi di
def AM (s:D) (th op obj M:Int):Act->List Int->Prop
 | .oe,ys=> ∃s':D,SQ s' s/\ys= [enc s',0,0,0,0,0,0]
 | .yb,ys=> ∃s':D,SQ s' s/\ys= [enc s',th,27,obj,IntKind.i64.wrap op,0,2]
 | .res o c dn g r v m a oc,ys=> ∃s':D,SQ s' (Gf s obj M (.res o c dn g r v m a oc))/\ys= [enc s',th,op,obj,a,0,oc]
theorem jR {s cs:D} {th op obj M o c dn g a oc:Int} {r v r' v':D} (C:CEq cs s obj) (h0:0<=obj) (U:obj<(s.l.length:Int)) (b:Int) (hb:b=(if dn=0 then 0 else 1)) (hr:r'.l=r.l) (hv:v'.l=v.l) (sr:K9 r') (sv:K9 v') :
 AM s th op obj M (.res o c dn g r v none a oc) [enc (dL (dE cs.l obj (dL [.i o,.i c,.i b,.i g,r',v']))),th,op,obj,a,0,oc]:=by
 subst hb;exact⟨_,⟨MT C h0 (Ci hr hv),TL C h0 U ⟨_,_,_,_,_,_,rfl,sr,sv⟩⟩,rfl⟩
theorem wF {s cs:D} {th op obj M o c dn g a oc q:Int} {r v r' v':D} (C:CEq cs s obj) (h0:0<=obj) (U:obj<(s.l.length:Int)) (m0:0<=M) (m1:M<(s.l.length:Int)) (m2:M≠obj) (hr:r'.l=r.l) (hv:v'.l=v.l) (sr:K9 r') (sv:K9 v') :
 AM s th op obj M (.res o c dn g r v (some q) a oc) [enc (dL (dE (dE cs.l M (dL (dE (cs.at M).l 0 (.i q)))) obj (dL [.i o,.i c,.i (if dn=0 then 0 else 1),.i g,r',v']))),th,op,obj,a,0,oc]:=by
 obtain⟨m,rfl⟩ : ∃m:Nat,M=(m:Int):=⟨M.toNat,J⟩;have:=MT (Wm C m2 J q) h0 (Ci (o:=o) (c:=c) (dn:=if dn=0 then 0 else 1) (g:=g) hr hv);have Z:=TL (Wm C m2 J q) h0 (by rw [bz,ej]; exact U) (x:=dL [.i o,.i c,.i (if dn=0 then 0 else 1),.i g,r',v']) ⟨_,_,_,_,_,_,rfl,sr,sv⟩;rw [bz,bz] at this;rw [bz] at Z;exact⟨_,⟨this,Z⟩,rfl⟩
theorem Zu {t:Int} {a:D} {l:List D} (h:a.n=t):wo t (a::l)=wo t l:=by
 unfold wo
 grind
theorem Zt {t:Int} {a:D} {l:List D} (h: ¬a.n=t):wo t (a::l)=a::wo t l:=by
 unfold wo
 grind
theorem tl (t:Int):L 20000 [t]=some [0,t]:=by
 have:bL 20000 [t] (·= [0,t]):=by refine bL.of ?_;rw [abI];simp only [n_,zz];refine .jump (bL.of ?_);rw [abH];simp only [m?,zz];exact .out rfl
 obtain⟨ys,h,rfl⟩:=this;exact h
theorem ue (r:D) (t:Int) (hl:r.l.length<17592186044415) (hn: ∀x∈r.l,x= .i x.n): ∀(k i:Nat) (acc:List D),i+k=r.l.length->acc.length<=i->
 bL 20052 [enc r,t,enc (dL acc),(i:Int)] (·= [1,enc r,t,enc (dL (acc++wo t (r.l.drop i)))])
 |0,i,acc,U,Z=>by
  have c1: ¬(i:Int)<(r.l.length:Int):=J
  refine bL.of ?_;rw [Tt,aX J];simp only [Rb,zz,c1];exact .out (by simp [wo])
 |k+1,i,acc,U,Z=>by
  have hi:i<r.l.length:=J
  have V:r.l.drop i=r.l[i]::r.l.drop (i+1):=aC hi;have w:=bF (n:=i) J;have c1:(i:Int)<(r.l.length:Int):=J
  have c2: ¬((i:Int)<0):=J
  have c3:(acc.length:Int)<17592186044415:=J
  have i1:=ue r t hl hn k (i+1) acc J J;have i2:=ue r t hl hn k (i+1) (acc++ [r.l[i]]) J (by simp; omega);have Y:=hn _ (aq hi);refine bL.of ?_;rw [Tt,V];simp only [Rb,zz,c1,c2,c3,w,bG hi,bz];rw [<- Y];refine .ite (fun h=> .jump ?_) fun h=> .jump ?_
  ·have e:wo t (r.l[i]::r.l.drop (i+1))=wo t (r.l.drop (i+1)):=Zu h
   grind
  ·have e:wo t (r.l[i]::r.l.drop (i+1))=r.l[i]::wo t (r.l.drop (i+1)):=Zt h
   grind
def woA (r:D) (t:Int):List Int:=if wo t r.l= [] then [0,enc r,t] else [1,enc r,t,enc (dL (wo t r.l))]
theorem yN (r:D) (t:Int) (hl:r.l.length<17592186044415) (hn: ∀x∈r.l,x= .i x.n): ∀(k i:Nat),i+k=r.l.length->
 bL 20051 [enc r,t,(i:Int)] (·= (if wo t (r.l.drop i)= [] then [0,enc r,t] else [1,enc r,t,enc (dL (wo t (r.l.drop i)))]))
 |0,i,U=>by
  have c1: ¬(i:Int)<(r.l.length:Int):=J
  refine bL.of ?_;rw [Tu,aX J];simp only [Rc,zz,c1];exact .out (by simp [wo])
 |k+1,i,U=>by
  have hi:i<r.l.length:=J
  have V:r.l.drop i=r.l[i]::r.l.drop (i+1):=aC hi;have w:=bF (n:=i) J;have c1:(i:Int)<(r.l.length:Int):=J
  have c2: ¬((i:Int)<0):=J
  have i1:=yN r t hl hn k (i+1) J;have i2:=ue r t hl hn k (i+1) [r.l[i]] J ad;have Y:=hn _ (aq hi);refine bL.of ?_;rw [Tu,V];simp only [Rc,zz,c1,c2,w,bG hi,lG,au];rw [<- Y];refine .ite (fun h=> .jump ?_) fun h=> .jump ?_
  ·have e:wo t (r.l[i]::r.l.drop (i+1))=wo t (r.l.drop (i+1)):=Zu h
   grind
  ·have e:wo t (r.l[i]::r.l.drop (i+1))=r.l[i]::wo t (r.l.drop (i+1)):=Zt h
   grind
theorem uf (r:D) (t:Int) (hl:r.l.length<17592186044415) (hn: ∀x∈r.l,x= .i x.n):L 20050 [enc r,t]=some (woA r t):=by
 have:bL 20050 [enc r,t] (·= woA r t):=by refine bL.of ?_;rw [abG];simp only [m_,zz];exact .jump (yN r t hl hn r.l.length 0 J)
 obtain⟨ys,h,rfl⟩:=this;exact h
theorem QO: ∀(l:List D) (t:Int) (k:Nat) (hk:k<l.length),(l.map D.n).Nodup->(l[k]).n=t->wo t l=l.take k++l.drop (k+1)
 |[],_,_,hk,_,_=>by simp at hk
 |a::l,t,0,_,hn,h=>by simp only [List.getElem_cons_zero] at h;simp only [aA,List.nodup_cons] at hn;have: ∀x∈l,x.n≠t:=fun x Y q=>hn.1 (by rw [h,<- q]; exact ate Y);rw [Zu h,xN this];rfl
 |a::l,t,k+1,hk,hn,h=>by simp only [List.getElem_cons_succ] at h;simp only [aA,List.nodup_cons] at hn;have jK:a.n≠t:=fun q=>hn.1 (by rw [q,<- h]; exact ate (aq _));have ih:=QO l t k (by simpa using hk) hn.2 h;rw [Zt jK,ih];rfl
structure RH (d0 d1 s cs s2:D) (th op obj arg tries o c dn g:Int) (r v:D):Prop where
 Fh:L 3950 [enc s]=some [enc s2]
 Ap:SQ s2 s
 C:CEq cs s obj
 hR:L 3900 [enc d0,enc d1,enc s]=some [1]
 pF:0<=th
 kf:th<(d1.l.length:Int)
 iQ:0<=obj
 gL:obj<(s.l.length:Int)
 hlen:s.l.length=d0.l.length
 hk:L 4150 [op]=some [((d0.at obj).V 0).n]
 hr:(r.l.length:Int)<17592186044415
 hv:(v.l.length:Int)<17592186044415
 hn: ∀x∈r.l,x= .i x.n
 nd:(r.l.map D.n).Nodup
 ho: -1<=o
 hc:gx .i64 c
 hM:op=12\/op=24->0<=Mx d0 obj/\Mx d0 obj<(s.l.length:Int)/\Mx d0 obj≠obj/\((cs.at (Mx d0 obj)).V 0).n=Mo d0 s obj/\-1<=Mo d0 s obj
 h7:op=17->0<=c/\c<=1099511627776/\gx .i64 arg
 sr:K9 r
 sv:K9 v
theorem fB {r:D} (h:r.l= []):(D.i 1).l=r.l:=by rw [h]; rfl
theorem fm {r:D} (h:r.l= []):(D.i 2).l=r.l:=by rw [h]; rfl
set_option maxHeartbeats 20000000 in
theorem Gw {d0 d1 s cs s2:D} {th op obj arg tries o c dn g:Int} {r v:D} (pe:op=1\/op=2\/op=3\/op=4\/op=5\/op=6\/op=7\/op=8\/op=9\/op=10\/op=11\/op=13\/op=14\/op=15\/op=16\/op=18\/op=19\/op=20\/op=21\/op=22\/op=23\/op=25\/op=26) (H:RH d0 d1 s cs s2 th op obj arg tries o c dn g r v) (eS:r.l= []) (gp:v.l= []) (eM:L 9100 [obj,enc s]=some [1,obj,enc cs,o,c,dn,g]) :
 bL 4000 [enc d0,enc d1,enc s,th,op,obj,arg,tries] (AM s th op obj (Mx d0 obj) (act (Mx d0 obj) (Mo d0 s obj) th op arg tries o c dn g r v)):=by
 obtain⟨Fh,Ap,C,hR,pF,kf,iQ,gL,hlen,hk,hr,hv,hn,nd,ho,hc,hM,h7,sr,sv⟩:=H;have a1: ¬th<0:=J
 have a2: ¬obj<0:=J
 have a3:obj<(d0.l.length:Int):=J
 have a4:obj<(cs.l.length:Int):=by rw [C.len]; exact gL
 clear hM h7;have p0:=kN eS th;have b0:(r.l.length:Int)=0:=by rw [eS]; rfl
 have bv0:(v.l.length:Int)=0:=by rw [gp]; rfl
 have n2:L 4400 [th,enc (.i 2)]=some [-1]:=vA (.i 2) th ae;refine bL.of ?_;rw [l8]
 rcases pe with rfl|rfl|rfl|rfl|rfl|rfl|rfl|rfl|rfl|rfl|rfl|rfl|rfl|rfl|rfl|rfl|rfl|rfl|rfl|rfl|rfl|rfl|rfl<;>
 ·simp only [lV,zz,Int.reduceEq,Int.reduceLT,aw,a1,kf,a2,a3,a4,eM,hR,hk,Fh,hr,hv,n2,tl];simp only [act,Int.reduceEq,if_true,if_false,p0,b0,bv0]
  repeat' first |(exfalso; omega)|(refine .out ?_; (repeat first |rw [ag J]|rw [af J]); first |exact⟨s2,Ap,rfl⟩|exact jR C iQ gL _ (by first |rfl|simp [*]) (by (first |rfl|exact fm eS|exact fB eS|exact fm gp|exact fB gp|(rw [eS]; rfl)|(rw [gp]; rfl)|(rw [fo eS]; rfl)|(rw [hw]; rfl)|(rw [bB,<- Y J,hw]; rfl)|(rw [bB,<- Y J,bz])|(simp only [bz,bB]; first |exact vP|exact tP|rfl))) (by (first |rfl|exact fm eS|exact fB eS|exact fm gp|exact fB gp|(rw [eS]; rfl)|(rw [gp]; rfl)|(rw [fo eS]; rfl)|(rw [hw]; rfl)|(rw [bB,<- Y J,hw]; rfl)|(rw [bB,<- Y J,bz])|(simp only [bz,bB]; first |exact vP|exact tP|rfl))) (by first |exact sr|exact sv|exact .inl rfl|exact .inr (.inl rfl)|exact dQ _ _|exact cB hw|exact cB ad) (by first |exact sr|exact sv|exact .inl rfl|exact .inr (.inl rfl)|exact dQ _ _|exact cB hw|exact cB ad))|refine .ite (fun _=>?_) (fun _=>?_)
set_option maxHeartbeats 20000000 in
theorem oG3 {d0 d1 s cs s2:D} {th op obj arg tries o c dn g:Int} {r v:D} (pe:op=5\/op=7\/op=8\/op=14) (H:RH d0 d1 s cs s2 th op obj arg tries o c dn g r v) (eS:0<r.l.length) (gp:v.l= []) (eM:L 9100 [obj,enc s]=some [3,obj,enc cs,o,c,dn,g,enc r]) :
 bL 4000 [enc d0,enc d1,enc s,th,op,obj,arg,tries] (AM s th op obj (Mx d0 obj) (act (Mx d0 obj) (Mo d0 s obj) th op arg tries o c dn g r v)):=by
 obtain⟨Fh,Ap,C,hR,pF,kf,iQ,gL,hlen,hk,hr,hv,hn,nd,ho,hc,hM,h7,sr,sv⟩:=H;have a1: ¬th<0:=J
 have a2: ¬obj<0:=J
 have a3:obj<(d0.l.length:Int):=J
 have a4:obj<(cs.l.length:Int):=by rw [C.len]; exact gL
 clear hM h7;have p1:=fI r th;have b0:0<(r.l.length:Int):=J
 have n2:=vA r th J;refine bL.of ?_;rw [l8]
 rcases pe with rfl|rfl|rfl|rfl<;>
 ·simp only [lV,zz,Int.reduceEq,Int.reduceLT,aw,a1,kf,a2,a3,a4,eM,hR,hk,Fh,hr,hv,n2];simp only [act,Int.reduceEq,if_true,if_false]
  repeat' first |(exfalso; omega)|(refine .out ?_; (repeat first |rw [ag J]|rw [af J]); first |exact⟨s2,Ap,rfl⟩|exact jR C iQ gL _ (by first |rfl|simp [*]) (by (first |rfl|exact fm eS|exact fB eS|exact fm gp|exact fB gp|(rw [eS]; rfl)|(rw [gp]; rfl)|(rw [fo eS]; rfl)|(rw [hw]; rfl)|(rw [bB,<- Y J,hw]; rfl)|(rw [bB,<- Y J,bz])|(simp only [bz,bB]; first |exact vP|exact tP|rfl))) (by (first |rfl|exact fm eS|exact fB eS|exact fm gp|exact fB gp|(rw [eS]; rfl)|(rw [gp]; rfl)|(rw [fo eS]; rfl)|(rw [hw]; rfl)|(rw [bB,<- Y J,hw]; rfl)|(rw [bB,<- Y J,bz])|(simp only [bz,bB]; first |exact vP|exact tP|rfl))) (by first |exact sr|exact sv|exact .inl rfl|exact .inr (.inl rfl)|exact dQ _ _|exact cB hw|exact cB ad) (by first |exact sr|exact sv|exact .inl rfl|exact .inr (.inl rfl)|exact dQ _ _|exact cB hw|exact cB ad))|refine .ite (fun _=>?_) (fun _=>?_)
set_option maxHeartbeats 1000000 in
theorem anh {d0 d1 s cs s2:D} {th obj arg tries o c dn g:Int} {r v:D} (H:RH d0 d1 s cs s2 th 12 obj arg tries o c dn g r v) (eS:r.l= []) (gp:v.l= []) (eM:L 9100 [obj,enc s]=some [1,obj,enc cs,o,c,dn,g]) :
 bL 4000 [enc d0,enc d1,enc s,th,12,obj,arg,tries] (AM s th 12 obj (Mx d0 obj) (act (Mx d0 obj) (Mo d0 s obj) th 12 arg tries o c dn g r v)):=by
 obtain⟨Fh,Ap,C,hR,pF,kf,iQ,gL,hlen,hk,hr,hv,hn,nd,ho,hc,hM,h7,sr,sv⟩:=H;have a1: ¬th<0:=J
 have a2: ¬obj<0:=J
 have a3:obj<(d0.l.length:Int):=J
 have a4:obj<(cs.l.length:Int):=by rw [C.len]; exact gL
 have p0:=kN eS th;have b0:(r.l.length:Int)=0:=by rw [eS]; rfl
 have n2:L 4400 [th,enc (.i 2)]=some [-1]:=vA (.i 2) th ae;obtain⟨m0,m1,m2,m3,m4⟩:=hM J;have a5: ¬Mx d0 obj<0:=J
 have a6:Mx d0 obj<(cs.l.length:Int):=by rw [C.len]; exact m1
 refine bL.of ?_;rw [l8];simp only [lV,zz,Int.reduceEq,Int.reduceLT,aw,a1,kf,a2,a3,a4,eM,hR,hk,Fh,hr,hv,bz,n2,tl,a5,a6,m2,m3];simp only [act,Int.reduceEq,if_true,if_false,p0,b0]
 repeat' first |(exfalso; omega)|(refine .out ?_; (repeat first |rw [ag J]|rw [af J]); first |exact⟨s2,Ap,rfl⟩|exact jR C iQ gL _ (by first |rfl|simp [*]) (by (first |rfl|exact fm eS|exact fB eS|exact fm gp|exact fB gp|(rw [eS]; rfl)|(rw [gp]; rfl)|(rw [fo eS]; rfl)|(rw [hw]; rfl)|(rw [bB,<- Y J,hw]; rfl)|(rw [bB,<- Y J,bz])|(simp only [bz,bB]; first |exact vP|exact tP|rfl))) (by (first |rfl|exact fm eS|exact fB eS|exact fm gp|exact fB gp|(rw [eS]; rfl)|(rw [gp]; rfl)|(rw [fo eS]; rfl)|(rw [hw]; rfl)|(rw [bB,<- Y J,hw]; rfl)|(rw [bB,<- Y J,bz])|(simp only [bz,bB]; first |exact vP|exact tP|rfl))) (by first |exact sr|exact sv|exact .inl rfl|exact .inr (.inl rfl)|exact dQ _ _|exact cB hw|exact cB ad) (by first |exact sr|exact sv|exact .inl rfl|exact .inr (.inl rfl)|exact dQ _ _|exact cB hw|exact cB ad)|exact wF C iQ gL m0 m1 m2 (by (first |rfl|exact fm eS|exact fB eS|exact fm gp|exact fB gp|(rw [eS]; rfl)|(rw [gp]; rfl)|(rw [fo eS]; rfl)|(rw [hw]; rfl)|(rw [bB,<- Y J,hw]; rfl)|(rw [bB,<- Y J,bz])|(simp only [bz,bB]; first |exact vP|exact tP|rfl))) (by (first |rfl|exact fm eS|exact fB eS|exact fm gp|exact fB gp|(rw [eS]; rfl)|(rw [gp]; rfl)|(rw [fo eS]; rfl)|(rw [hw]; rfl)|(rw [bB,<- Y J,hw]; rfl)|(rw [bB,<- Y J,bz])|(simp only [bz,bB]; first |exact vP|exact tP|rfl))) (by first |exact sr|exact sv|exact .inl rfl|exact .inr (.inl rfl)|exact dQ _ _|exact cB hw|exact cB ad) (by first |exact sr|exact sv|exact .inl rfl|exact .inr (.inl rfl)|exact dQ _ _|exact cB hw|exact cB ad))|refine .ite (fun _=>?_) (fun _=>?_)|(exfalso; omega)
set_option maxHeartbeats 1000000 in
theorem ane {d0 d1 s cs s2:D} {th obj arg tries o c dn g:Int} {r v:D} (H:RH d0 d1 s cs s2 th 17 obj arg tries o c dn g r v) (eS:r.l= []) (gp:v.l= []) (eM:L 9100 [obj,enc s]=some [1,obj,enc cs,o,c,dn,g]) :
 bL 4000 [enc d0,enc d1,enc s,th,17,obj,arg,tries] (AM s th 17 obj (Mx d0 obj) (act (Mx d0 obj) (Mo d0 s obj) th 17 arg tries o c dn g r v)):=by
 obtain⟨Fh,Ap,C,hR,pF,kf,iQ,gL,hlen,hk,hr,hv,hn,nd,ho,hc,hM,h7,sr,sv⟩:=H;have a1: ¬th<0:=J
 have a2: ¬obj<0:=J
 have a3:obj<(d0.l.length:Int):=J
 have a4:obj<(cs.l.length:Int):=by rw [C.len]; exact gL
 have p0:=kN eS th;have b0:(r.l.length:Int)=0:=by rw [eS]; rfl
 have n2:L 4400 [th,enc (.i 2)]=some [-1]:=vA (.i 2) th ae;obtain⟨c0,c1,c2⟩:=h7 rfl;have w1:IntKind.i64.wrap (0-c)=0-c:=fW J J;have w2:IntKind.i64.wrap (1099511627776-c)=1099511627776-c:=fW J J;have w3: -1099511627776<=arg->arg<=1099511627776->IntKind.i64.wrap (c+arg)=c+arg:=fun _ _=>fW J J;refine bL.of ?_;rw [l8];simp only [lV,zz,Int.reduceEq,Int.reduceLT,aw,a1,kf,a2,a3,a4,eM,hR,hk,Fh,hr,hv,n2,tl];simp only [act,Int.reduceEq,if_true,if_false,p0,b0,w1,w2]
 repeat' first |(exfalso; omega)|(refine .out ?_; (repeat first |rw [ag J]|rw [af J]); first |exact⟨s2,Ap,rfl⟩|exact jR C iQ gL _ (by first |rfl|simp [*]) (by (first |rfl|exact fm eS|exact fB eS|exact fm gp|exact fB gp|(rw [eS]; rfl)|(rw [gp]; rfl)|(rw [fo eS]; rfl)|(rw [hw]; rfl)|(rw [bB,<- Y J,hw]; rfl)|(rw [bB,<- Y J,bz])|(simp only [bz,bB]; first |exact vP|exact tP|rfl))) (by (first |rfl|exact fm eS|exact fB eS|exact fm gp|exact fB gp|(rw [eS]; rfl)|(rw [gp]; rfl)|(rw [fo eS]; rfl)|(rw [hw]; rfl)|(rw [bB,<- Y J,hw]; rfl)|(rw [bB,<- Y J,bz])|(simp only [bz,bB]; first |exact vP|exact tP|rfl))) (by first |exact sr|exact sv|exact .inl rfl|exact .inr (.inl rfl)|exact dQ _ _|exact cB hw|exact cB ad) (by first |exact sr|exact sv|exact .inl rfl|exact .inr (.inl rfl)|exact dQ _ _|exact cB hw|exact cB ad))|refine .ite (fun _=>?_) (fun _=>?_)|(exfalso; omega)
set_option maxHeartbeats 1000000 in
theorem ana {d0 d1 s cs s2:D} {th obj arg tries o c dn g:Int} {r v:D} (H:RH d0 d1 s cs s2 th 24 obj arg tries o c dn g r v) (eS:r.l= []) (gp:v.l= []) (eM:L 9100 [obj,enc s]=some [1,obj,enc cs,o,c,dn,g]) :
 bL 4000 [enc d0,enc d1,enc s,th,24,obj,arg,tries] (AM s th 24 obj (Mx d0 obj) (act (Mx d0 obj) (Mo d0 s obj) th 24 arg tries o c dn g r v)):=by
 obtain⟨Fh,Ap,C,hR,pF,kf,iQ,gL,hlen,hk,hr,hv,hn,nd,ho,hc,hM,h7,sr,sv⟩:=H;have a1: ¬th<0:=J
 have a2: ¬obj<0:=J
 have a3:obj<(d0.l.length:Int):=J
 have a4:obj<(cs.l.length:Int):=by rw [C.len]; exact gL
 have p0:=kN eS th;have b0:(r.l.length:Int)=0:=by rw [eS]; rfl
 have n2:L 4400 [th,enc (.i 2)]=some [-1]:=vA (.i 2) th ae;obtain⟨m0,m1,m2,m3,m4⟩:=hM J;have a5: ¬Mx d0 obj<0:=J
 have a6:Mx d0 obj<(cs.l.length:Int):=by rw [C.len]; exact m1
 refine bL.of ?_;rw [l8];simp only [lV,zz,Int.reduceEq,Int.reduceLT,aw,a1,kf,a2,a3,a4,eM,hR,hk,Fh,hr,hv,bz,n2,tl,a5,a6,m2,m3];simp only [act,Int.reduceEq,if_true,if_false,p0,b0]
 repeat' first |(exfalso; omega)|(refine .out ?_; (repeat first |rw [ag J]|rw [af J]); first |exact⟨s2,Ap,rfl⟩|exact jR C iQ gL _ (by first |rfl|simp [*]) (by (first |rfl|exact fm eS|exact fB eS|exact fm gp|exact fB gp|(rw [eS]; rfl)|(rw [gp]; rfl)|(rw [fo eS]; rfl)|(rw [hw]; rfl)|(rw [bB,<- Y J,hw]; rfl)|(rw [bB,<- Y J,bz])|(simp only [bz,bB]; first |exact vP|exact tP|rfl))) (by (first |rfl|exact fm eS|exact fB eS|exact fm gp|exact fB gp|(rw [eS]; rfl)|(rw [gp]; rfl)|(rw [fo eS]; rfl)|(rw [hw]; rfl)|(rw [bB,<- Y J,hw]; rfl)|(rw [bB,<- Y J,bz])|(simp only [bz,bB]; first |exact vP|exact tP|rfl))) (by first |exact sr|exact sv|exact .inl rfl|exact .inr (.inl rfl)|exact dQ _ _|exact cB hw|exact cB ad) (by first |exact sr|exact sv|exact .inl rfl|exact .inr (.inl rfl)|exact dQ _ _|exact cB hw|exact cB ad)|exact wF C iQ gL m0 m1 m2 (by (first |rfl|exact fm eS|exact fB eS|exact fm gp|exact fB gp|(rw [eS]; rfl)|(rw [gp]; rfl)|(rw [fo eS]; rfl)|(rw [hw]; rfl)|(rw [bB,<- Y J,hw]; rfl)|(rw [bB,<- Y J,bz])|(simp only [bz,bB]; first |exact vP|exact tP|rfl))) (by (first |rfl|exact fm eS|exact fB eS|exact fm gp|exact fB gp|(rw [eS]; rfl)|(rw [gp]; rfl)|(rw [fo eS]; rfl)|(rw [hw]; rfl)|(rw [bB,<- Y J,hw]; rfl)|(rw [bB,<- Y J,bz])|(simp only [bz,bB]; first |exact vP|exact tP|rfl))) (by first |exact sr|exact sv|exact .inl rfl|exact .inr (.inl rfl)|exact dQ _ _|exact cB hw|exact cB ad) (by first |exact sr|exact sv|exact .inl rfl|exact .inr (.inl rfl)|exact dQ _ _|exact cB hw|exact cB ad))|refine .ite (fun _=>?_) (fun _=>?_)|(exfalso; omega)
set_option maxHeartbeats 1000000 in
theorem apI {d0 d1 s cs s2:D} {th obj arg tries o c dn g:Int} {r v:D} (H:RH d0 d1 s cs s2 th 6 obj arg tries o c dn g r v) (eS:0<r.l.length) (gp:v.l= []) (eM:L 9100 [obj,enc s]=some [3,obj,enc cs,o,c,dn,g,enc r]) :
 bL 4000 [enc d0,enc d1,enc s,th,6,obj,arg,tries] (AM s th 6 obj (Mx d0 obj) (act (Mx d0 obj) (Mo d0 s obj) th 6 arg tries o c dn g r v)):=by
 obtain⟨Fh,Ap,C,hR,pF,kf,iQ,gL,hlen,hk,hr,hv,hn,nd,ho,hc,hM,h7,sr,sv⟩:=H;have a1: ¬th<0:=J
 have a2: ¬obj<0:=J
 have a3:obj<(d0.l.length:Int):=J
 have a4:obj<(cs.l.length:Int):=by rw [C.len]; exact gL
 have p1:=fI r th;have b0:0<(r.l.length:Int):=J
 have n2:=vA r th J;have n3:=uf r th J hn;unfold woA at n3;have n5:(wo th r.l).length<=r.l.length:=KJ th r.l;have n6:((wo th r.l).length:Int)<17592186044415:=J
 have Y: ¬place r th<0->wo th r.l=r.l.take (place r th).toNat++r.l.drop ((place r th).toNat+1):=fun h=>by
  grind [lB,QO]
 by_cases hw:wo th r.l= []
 ·rw [ag hw] at n3;refine bL.of ?_;rw [l8];simp only [lV,zz,Int.reduceEq,Int.reduceLT,aw,a1,kf,a2,a3,a4,eM,hR,hk,Fh,hr,hv,n2,n3];simp only [act,Int.reduceEq,if_true,if_false]
  repeat' first |(exfalso; omega)|(refine .out ?_; (repeat first |rw [ag J]|rw [af J]); first |exact⟨s2,Ap,rfl⟩|exact jR C iQ gL _ (by first |rfl|simp [*]) (by (first |rfl|exact fm eS|exact fB eS|exact fm gp|exact fB gp|(rw [eS]; rfl)|(rw [gp]; rfl)|(rw [fo eS]; rfl)|(rw [hw]; rfl)|(rw [bB,<- Y J,hw]; rfl)|(rw [bB,<- Y J,bz])|(simp only [bz,bB]; first |exact (hw▸Y J)|exact tP|rfl))) (by (first |rfl|exact fm eS|exact fB eS|exact fm gp|exact fB gp|(rw [eS]; rfl)|(rw [gp]; rfl)|(rw [fo eS]; rfl)|(rw [hw]; rfl)|(rw [bB,<- Y J,hw]; rfl)|(rw [bB,<- Y J,bz])|(simp only [bz,bB]; first |exact (hw▸Y J)|exact tP|rfl))) (by first |exact sr|exact sv|exact .inl rfl|exact .inr (.inl rfl)|exact dQ _ _|exact cB hw|exact cB ad) (by first |exact sr|exact sv|exact .inl rfl|exact .inr (.inl rfl)|exact dQ _ _|exact cB hw|exact cB ad))|refine .ite (fun _=>?_) (fun _=>?_)|(exfalso; omega)
 ·rw [af hw] at n3;refine bL.of ?_;rw [l8];simp only [lV,zz,Int.reduceEq,Int.reduceLT,aw,a1,kf,a2,a3,a4,eM,hR,hk,Fh,hr,hv,n2,n3,n6];simp only [act,Int.reduceEq,if_true,if_false]
  repeat' first |(exfalso; omega)|(refine .out ?_; (repeat first |rw [ag J]|rw [af J]); first |exact⟨s2,Ap,rfl⟩|exact jR C iQ gL _ (by first |rfl|simp [*]) (by (first |rfl|exact fm eS|exact fB eS|exact fm gp|exact fB gp|(rw [eS]; rfl)|(rw [gp]; rfl)|(rw [fo eS]; rfl)|(rw [hw]; rfl)|(rw [bB,<- Y J,hw]; rfl)|(rw [bB,<- Y J,bz])|(simp only [bz,bB]; first |exact Y J|exact tP|rfl))) (by (first |rfl|exact fm eS|exact fB eS|exact fm gp|exact fB gp|(rw [eS]; rfl)|(rw [gp]; rfl)|(rw [fo eS]; rfl)|(rw [hw]; rfl)|(rw [bB,<- Y J,hw]; rfl)|(rw [bB,<- Y J,bz])|(simp only [bz,bB]; first |exact Y J|exact tP|rfl))) (by first |exact sr|exact sv|exact .inl rfl|exact .inr (.inl rfl)|exact dQ _ _|exact cB hw|exact cB ad) (by first |exact sr|exact sv|exact .inl rfl|exact .inr (.inl rfl)|exact dQ _ _|exact cB hw|exact cB ad))|refine .ite (fun _=>?_) (fun _=>?_)|(exfalso; omega)
set_option maxHeartbeats 1000000 in
theorem ang {d0 d1 s cs s2:D} {th obj arg tries o c dn g:Int} {r v:D} (H:RH d0 d1 s cs s2 th 12 obj arg tries o c dn g r v) (eS:0<r.l.length) (gp:v.l= []) (eM:L 9100 [obj,enc s]=some [3,obj,enc cs,o,c,dn,g,enc r]) :
 bL 4000 [enc d0,enc d1,enc s,th,12,obj,arg,tries] (AM s th 12 obj (Mx d0 obj) (act (Mx d0 obj) (Mo d0 s obj) th 12 arg tries o c dn g r v)):=by
 obtain⟨Fh,Ap,C,hR,pF,kf,iQ,gL,hlen,hk,hr,hv,hn,nd,ho,hc,hM,h7,sr,sv⟩:=H;have a1: ¬th<0:=J
 have a2: ¬obj<0:=J
 have a3:obj<(d0.l.length:Int):=J
 have a4:obj<(cs.l.length:Int):=by rw [C.len]; exact gL
 have p1:=fI r th;have b0:0<(r.l.length:Int):=J
 have n2:=vA r th J;obtain⟨m0,m1,m2,m3,m4⟩:=hM J;have a5: ¬Mx d0 obj<0:=J
 have a6:Mx d0 obj<(cs.l.length:Int):=by rw [C.len]; exact m1
 have n3:=uf r th J hn;unfold woA at n3;have n5:(wo th r.l).length<=r.l.length:=KJ th r.l;have n6:((wo th r.l).length:Int)<17592186044415:=J
 by_cases hw:wo th r.l= []
 ·rw [ag hw] at n3;refine bL.of ?_;rw [l8];simp only [lV,zz,Int.reduceEq,Int.reduceLT,aw,a1,kf,a2,a3,a4,eM,hR,hk,Fh,hr,hv,bz,n2,n3,a5,a6,m2,m3];simp only [act,Int.reduceEq,if_true,if_false]
  repeat' first |(exfalso; omega)|(refine .out ?_; (repeat first |rw [ag J]|rw [af J]); first |exact⟨s2,Ap,rfl⟩|exact jR C iQ gL _ (by first |rfl|simp [*]) (by (first |rfl|exact fm eS|exact fB eS|exact fm gp|exact fB gp|(rw [eS]; rfl)|(rw [gp]; rfl)|(rw [fo eS]; rfl)|(rw [hw]; rfl)|(rw [bB,<- Y J,hw]; rfl)|(rw [bB,<- Y J,bz])|(simp only [bz,bB]; first |rw [hw]; rfl|exact tP|rfl))) (by (first |rfl|exact fm eS|exact fB eS|exact fm gp|exact fB gp|(rw [eS]; rfl)|(rw [gp]; rfl)|(rw [fo eS]; rfl)|(rw [hw]; rfl)|(rw [bB,<- Y J,hw]; rfl)|(rw [bB,<- Y J,bz])|(simp only [bz,bB]; first |rw [hw]; rfl|exact tP|rfl))) (by first |exact sr|exact sv|exact .inl rfl|exact .inr (.inl rfl)|exact dQ _ _|exact cB hw|exact cB ad) (by first |exact sr|exact sv|exact .inl rfl|exact .inr (.inl rfl)|exact dQ _ _|exact cB hw|exact cB ad)|exact wF C iQ gL m0 m1 m2 (by (first |rfl|exact fm eS|exact fB eS|exact fm gp|exact fB gp|(rw [eS]; rfl)|(rw [gp]; rfl)|(rw [fo eS]; rfl)|(rw [hw]; rfl)|(rw [bB,<- Y J,hw]; rfl)|(rw [bB,<- Y J,bz])|(simp only [bz,bB]; first |rw [hw]; rfl|exact tP|rfl))) (by (first |rfl|exact fm eS|exact fB eS|exact fm gp|exact fB gp|(rw [eS]; rfl)|(rw [gp]; rfl)|(rw [fo eS]; rfl)|(rw [hw]; rfl)|(rw [bB,<- Y J,hw]; rfl)|(rw [bB,<- Y J,bz])|(simp only [bz,bB]; first |rw [hw]; rfl|exact tP|rfl))) (by first |exact sr|exact sv|exact .inl rfl|exact .inr (.inl rfl)|exact dQ _ _|exact cB hw|exact cB ad) (by first |exact sr|exact sv|exact .inl rfl|exact .inr (.inl rfl)|exact dQ _ _|exact cB hw|exact cB ad))|refine .ite (fun _=>?_) (fun _=>?_)|(exfalso; omega)
 ·rw [af hw] at n3;refine bL.of ?_;rw [l8];simp only [lV,zz,Int.reduceEq,Int.reduceLT,aw,a1,kf,a2,a3,a4,eM,hR,hk,Fh,hr,hv,bz,n2,n3,n6,a5,a6,m2,m3];simp only [act,Int.reduceEq,if_true,if_false]
  repeat' first |(exfalso; omega)|(refine .out ?_; (repeat first |rw [ag J]|rw [af J]); first |exact⟨s2,Ap,rfl⟩|exact jR C iQ gL _ (by first |rfl|simp [*]) (by (first |rfl|exact fm eS|exact fB eS|exact fm gp|exact fB gp|(rw [eS]; rfl)|(rw [gp]; rfl)|(rw [fo eS]; rfl)|(rw [hw]; rfl)|(rw [bB,<- Y J,hw]; rfl)|(rw [bB,<- Y J,bz])|(simp only [bz,bB]; first |exact vP|exact tP|rfl))) (by (first |rfl|exact fm eS|exact fB eS|exact fm gp|exact fB gp|(rw [eS]; rfl)|(rw [gp]; rfl)|(rw [fo eS]; rfl)|(rw [hw]; rfl)|(rw [bB,<- Y J,hw]; rfl)|(rw [bB,<- Y J,bz])|(simp only [bz,bB]; first |exact vP|exact tP|rfl))) (by first |exact sr|exact sv|exact .inl rfl|exact .inr (.inl rfl)|exact dQ _ _|exact cB hw|exact cB ad) (by first |exact sr|exact sv|exact .inl rfl|exact .inr (.inl rfl)|exact dQ _ _|exact cB hw|exact cB ad)|exact wF C iQ gL m0 m1 m2 (by (first |rfl|exact fm eS|exact fB eS|exact fm gp|exact fB gp|(rw [eS]; rfl)|(rw [gp]; rfl)|(rw [fo eS]; rfl)|(rw [hw]; rfl)|(rw [bB,<- Y J,hw]; rfl)|(rw [bB,<- Y J,bz])|(simp only [bz,bB]; first |exact vP|exact tP|rfl))) (by (first |rfl|exact fm eS|exact fB eS|exact fm gp|exact fB gp|(rw [eS]; rfl)|(rw [gp]; rfl)|(rw [fo eS]; rfl)|(rw [hw]; rfl)|(rw [bB,<- Y J,hw]; rfl)|(rw [bB,<- Y J,bz])|(simp only [bz,bB]; first |exact vP|exact tP|rfl))) (by first |exact sr|exact sv|exact .inl rfl|exact .inr (.inl rfl)|exact dQ _ _|exact cB hw|exact cB ad) (by first |exact sr|exact sv|exact .inl rfl|exact .inr (.inl rfl)|exact dQ _ _|exact cB hw|exact cB ad))|refine .ite (fun _=>?_) (fun _=>?_)|(exfalso; omega)
set_option maxHeartbeats 1000000 in
theorem anf {d0 d1 s cs s2:D} {th obj arg tries o c dn g:Int} {r v:D} (H:RH d0 d1 s cs s2 th 13 obj arg tries o c dn g r v) (eS:0<r.l.length) (gp:v.l= []) (eM:L 9100 [obj,enc s]=some [3,obj,enc cs,o,c,dn,g,enc r]) :
 bL 4000 [enc d0,enc d1,enc s,th,13,obj,arg,tries] (AM s th 13 obj (Mx d0 obj) (act (Mx d0 obj) (Mo d0 s obj) th 13 arg tries o c dn g r v)):=by
 obtain⟨Fh,Ap,C,hR,pF,kf,iQ,gL,hlen,hk,hr,hv,hn,nd,ho,hc,hM,h7,sr,sv⟩:=H;have a1: ¬th<0:=J
 have a2: ¬obj<0:=J
 have a3:obj<(d0.l.length:Int):=J
 have a4:obj<(cs.l.length:Int):=by rw [C.len]; exact gL
 have p1:=fI r th;have b0:0<(r.l.length:Int):=J
 have n2:=vA r th J;have n3:=uf r th J hn;have q1:IntKind.i64.wrap ((r.l.length:Int)-1)=(r.l.length:Int)-1:=fW J J;have q2:IntKind.i64.wrap (1+((r.l.length:Int)-1))=(r.l.length:Int):=by rw [fW J J]; omega
 have q3: ¬((r.l.length:Int)-1<0):=J
 refine bL.of ?_;rw [l8];simp only [lV,zz,Int.reduceEq,Int.reduceLT,aw,a1,kf,a2,a3,a4,eM,hR,hk,Fh,hr,hv,n2,n3,q1,q2,q3];have vP:(r.l.take (1+((r.l.length:Int)-1)).toNat).drop 1=r.l.drop 1:=by rw [ar1 J]
 simp only [act,Int.reduceEq,if_true,if_false]
 repeat' first |(exfalso; omega)|(refine .out ?_; (repeat first |rw [ag J]|rw [af J]); first |exact⟨s2,Ap,rfl⟩|exact jR C iQ gL _ (by first |rfl|simp [*]) (by (first |rfl|exact fm eS|exact fB eS|exact fm gp|exact fB gp|(rw [eS]; rfl)|(rw [gp]; rfl)|(rw [fo eS]; rfl)|(rw [hw]; rfl)|(rw [bB,<- Y J,hw]; rfl)|(rw [bB,<- Y J,bz])|(simp only [bz,bB]; first |exact vP|exact tP|rfl))) (by (first |rfl|exact fm eS|exact fB eS|exact fm gp|exact fB gp|(rw [eS]; rfl)|(rw [gp]; rfl)|(rw [fo eS]; rfl)|(rw [hw]; rfl)|(rw [bB,<- Y J,hw]; rfl)|(rw [bB,<- Y J,bz])|(simp only [bz,bB]; first |exact vP|exact tP|rfl))) (by first |exact sr|exact sv|exact .inl rfl|exact .inr (.inl rfl)|exact dQ _ _|exact cB hw|exact cB ad) (by first |exact sr|exact sv|exact .inl rfl|exact .inr (.inl rfl)|exact dQ _ _|exact cB hw|exact cB ad))|refine .ite (fun _=>?_) (fun _=>?_)|(exfalso; omega)
set_option maxHeartbeats 1000000 in
theorem am9 {d0 d1 s cs s2:D} {th obj arg tries o c dn g:Int} {r v:D} (H:RH d0 d1 s cs s2 th 24 obj arg tries o c dn g r v) (eS:0<r.l.length) (gp:v.l= []) (eM:L 9100 [obj,enc s]=some [3,obj,enc cs,o,c,dn,g,enc r]) :
 bL 4000 [enc d0,enc d1,enc s,th,24,obj,arg,tries] (AM s th 24 obj (Mx d0 obj) (act (Mx d0 obj) (Mo d0 s obj) th 24 arg tries o c dn g r v)):=by
 obtain⟨Fh,Ap,C,hR,pF,kf,iQ,gL,hlen,hk,hr,hv,hn,nd,ho,hc,hM,h7,sr,sv⟩:=H;have a1: ¬th<0:=J
 have a2: ¬obj<0:=J
 have a3:obj<(d0.l.length:Int):=J
 have a4:obj<(cs.l.length:Int):=by rw [C.len]; exact gL
 have p1:=fI r th;have b0:0<(r.l.length:Int):=J
 have n2:=vA r th J;have n3:=uf r th J hn;obtain⟨m0,m1,m2,m3,m4⟩:=hM J;have a5: ¬Mx d0 obj<0:=J
 have a6:Mx d0 obj<(cs.l.length:Int):=by rw [C.len]; exact m1
 refine bL.of ?_;rw [l8];simp only [lV,zz,Int.reduceEq,Int.reduceLT,aw,a1,kf,a2,a3,a4,eM,hR,hk,Fh,hr,hv,bz,n2,n3,a5,a6,m2,m3];simp only [act,Int.reduceEq,if_true,if_false]
 repeat' first |(exfalso; omega)|(refine .out ?_; (repeat first |rw [ag J]|rw [af J]); first |exact⟨s2,Ap,rfl⟩|exact jR C iQ gL _ (by first |rfl|simp [*]) (by (first |rfl|exact fm eS|exact fB eS|exact fm gp|exact fB gp|(rw [eS]; rfl)|(rw [gp]; rfl)|(rw [fo eS]; rfl)|(rw [hw]; rfl)|(rw [bB,<- Y J,hw]; rfl)|(rw [bB,<- Y J,bz])|(simp only [bz,bB]; first |exact vP|exact tP|rfl))) (by (first |rfl|exact fm eS|exact fB eS|exact fm gp|exact fB gp|(rw [eS]; rfl)|(rw [gp]; rfl)|(rw [fo eS]; rfl)|(rw [hw]; rfl)|(rw [bB,<- Y J,hw]; rfl)|(rw [bB,<- Y J,bz])|(simp only [bz,bB]; first |exact vP|exact tP|rfl))) (by first |exact sr|exact sv|exact .inl rfl|exact .inr (.inl rfl)|exact dQ _ _|exact cB hw|exact cB ad) (by first |exact sr|exact sv|exact .inl rfl|exact .inr (.inl rfl)|exact dQ _ _|exact cB hw|exact cB ad)|exact wF C iQ gL m0 m1 m2 (by (first |rfl|exact fm eS|exact fB eS|exact fm gp|exact fB gp|(rw [eS]; rfl)|(rw [gp]; rfl)|(rw [fo eS]; rfl)|(rw [hw]; rfl)|(rw [bB,<- Y J,hw]; rfl)|(rw [bB,<- Y J,bz])|(simp only [bz,bB]; first |exact vP|exact tP|rfl))) (by (first |rfl|exact fm eS|exact fB eS|exact fm gp|exact fB gp|(rw [eS]; rfl)|(rw [gp]; rfl)|(rw [fo eS]; rfl)|(rw [hw]; rfl)|(rw [bB,<- Y J,hw]; rfl)|(rw [bB,<- Y J,bz])|(simp only [bz,bB]; first |exact vP|exact tP|rfl))) (by first |exact sr|exact sv|exact .inl rfl|exact .inr (.inl rfl)|exact dQ _ _|exact cB hw|exact cB ad) (by first |exact sr|exact sv|exact .inl rfl|exact .inr (.inl rfl)|exact dQ _ _|exact cB hw|exact cB ad))|refine .ite (fun _=>?_) (fun _=>?_)|(exfalso; omega)
set_option maxHeartbeats 1000000 in
theorem anc {d0 d1 s cs s2:D} {th obj arg tries o c dn g:Int} {r v:D} (H:RH d0 d1 s cs s2 th 20 obj arg tries o c dn g r v) (eS:r.l= []) (gp:0<v.l.length) (eM:L 9100 [obj,enc s]=some [2,obj,enc cs,o,c,dn,g,enc v]) :
 bL 4000 [enc d0,enc d1,enc s,th,20,obj,arg,tries] (AM s th 20 obj (Mx d0 obj) (act (Mx d0 obj) (Mo d0 s obj) th 20 arg tries o c dn g r v)):=by
 obtain⟨Fh,Ap,C,hR,pF,kf,iQ,gL,hlen,hk,hr,hv,hn,nd,ho,hc,hM,h7,sr,sv⟩:=H;have a1: ¬th<0:=J
 have a2: ¬obj<0:=J
 have a3:obj<(d0.l.length:Int):=J
 have a4:obj<(cs.l.length:Int):=by rw [C.len]; exact gL
 have p0:=kN eS th;have b0:(r.l.length:Int)=0:=by rw [eS]; rfl
 have n2:L 4400 [th,enc (.i 2)]=some [-1]:=vA (.i 2) th ae;refine bL.of ?_;rw [l8];simp only [lV,zz,Int.reduceEq,Int.reduceLT,aw,a1,kf,a2,a3,a4,eM,hR,hk,Fh,hr,hv,n2,tl];have bv1:0<(v.l.length:Int):=J
 simp only [act,Int.reduceEq,if_true,if_false,p0,b0]
 repeat' first |(exfalso; omega)|(refine .out ?_; (repeat first |rw [ag J]|rw [af J]); first |exact⟨s2,Ap,rfl⟩|exact jR C iQ gL _ (by first |rfl|simp [*]) (by (first |rfl|exact fm eS|exact fB eS|exact fm gp|exact fB gp|(rw [eS]; rfl)|(rw [gp]; rfl)|(rw [fo eS]; rfl)|(rw [hw]; rfl)|(rw [bB,<- Y J,hw]; rfl)|(rw [bB,<- Y J,bz])|(simp only [bz,bB]; first |exact vP|exact tP|rfl))) (by (first |rfl|exact fm eS|exact fB eS|exact fm gp|exact fB gp|(rw [eS]; rfl)|(rw [gp]; rfl)|(rw [fo eS]; rfl)|(rw [hw]; rfl)|(rw [bB,<- Y J,hw]; rfl)|(rw [bB,<- Y J,bz])|(simp only [bz,bB]; first |exact vP|exact tP|rfl))) (by first |exact sr|exact sv|exact .inl rfl|exact .inr (.inl rfl)|exact dQ _ _|exact cB hw|exact cB ad) (by first |exact sr|exact sv|exact .inl rfl|exact .inr (.inl rfl)|exact dQ _ _|exact cB hw|exact cB ad))|refine .ite (fun _=>?_) (fun _=>?_)|(exfalso; omega)
set_option maxHeartbeats 1000000 in
theorem anb {d0 d1 s cs s2:D} {th obj arg tries o c dn g:Int} {r v:D} (H:RH d0 d1 s cs s2 th 21 obj arg tries o c dn g r v) (eS:r.l= []) (gp:0<v.l.length) (eM:L 9100 [obj,enc s]=some [2,obj,enc cs,o,c,dn,g,enc v]) :
 bL 4000 [enc d0,enc d1,enc s,th,21,obj,arg,tries] (AM s th 21 obj (Mx d0 obj) (act (Mx d0 obj) (Mo d0 s obj) th 21 arg tries o c dn g r v)):=by
 obtain⟨Fh,Ap,C,hR,pF,kf,iQ,gL,hlen,hk,hr,hv,hn,nd,ho,hc,hM,h7,sr,sv⟩:=H;have a1: ¬th<0:=J
 have a2: ¬obj<0:=J
 have a3:obj<(d0.l.length:Int):=J
 have a4:obj<(cs.l.length:Int):=by rw [C.len]; exact gL
 have p0:=kN eS th;have b0:(r.l.length:Int)=0:=by rw [eS]; rfl
 have n2:L 4400 [th,enc (.i 2)]=some [-1]:=vA (.i 2) th ae;have q1:IntKind.i64.wrap ((v.l.length:Int)-1)=(v.l.length:Int)-1:=fW J J;have q2:IntKind.i64.wrap (1+((v.l.length:Int)-1))=(v.l.length:Int):=by rw [fW J J]; omega
 have q3: ¬((v.l.length:Int)-1<0):=J
 refine bL.of ?_;rw [l8];simp only [lV,zz,Int.reduceEq,Int.reduceLT,aw,a1,kf,a2,a3,a4,eM,hR,hk,Fh,hr,hv,n2,tl,q1,q2,q3];have bv1:0<(v.l.length:Int):=J
 have vP:(v.l.take (1+((v.l.length:Int)-1)).toNat).drop 1=v.l.drop 1:=by rw [ar1 J]
 simp only [act,Int.reduceEq,if_true,if_false,p0,b0]
 repeat' first |(exfalso; omega)|(refine .out ?_; (repeat first |rw [ag J]|rw [af J]); first |exact⟨s2,Ap,rfl⟩|exact jR C iQ gL _ (by first |rfl|simp [*]) (by (first |rfl|exact fm eS|exact fB eS|exact fm gp|exact fB gp|(rw [eS]; rfl)|(rw [gp]; rfl)|(rw [fo eS]; rfl)|(rw [hw]; rfl)|(rw [bB,<- Y J,hw]; rfl)|(rw [bB,<- Y J,bz])|(simp only [bz,bB]; first |exact vP|exact tP|rfl))) (by (first |rfl|exact fm eS|exact fB eS|exact fm gp|exact fB gp|(rw [eS]; rfl)|(rw [gp]; rfl)|(rw [fo eS]; rfl)|(rw [hw]; rfl)|(rw [bB,<- Y J,hw]; rfl)|(rw [bB,<- Y J,bz])|(simp only [bz,bB]; first |exact vP|exact tP|rfl))) (by first |exact sr|exact sv|exact .inl rfl|exact .inr (.inl rfl)|exact dQ _ _|exact cB hw|exact cB ad) (by first |exact sr|exact sv|exact .inl rfl|exact .inr (.inl rfl)|exact dQ _ _|exact cB hw|exact cB ad))|refine .ite (fun _=>?_) (fun _=>?_)|(exfalso; omega)
theorem Rx (o:Int) (h:gx .u8 o):L 4150 [o]=some [kindOf o]:=by
 have:bL 4150 [o] (·= [kindOf o]):=by
  have hr:=NS o;obtain⟨k0,k1⟩:=h;refine bL.of ?_;rw [ahk];simp only [afO,zz,hr];refine .ite (fun h=> .out (by rw [h]; rfl)) fun U=> .ite (fun h=> .out (by rw [h]; rfl)) fun Z=> .ite (fun h=> .out (by rw [h]; rfl)) fun h3=> .out ?_;refine congrArg (fun x=>[x]) ?_;by_cases hh:1<=o/\o<=23
  ·rw [ag hh];have:o=1\/o=2\/o=3\/o=4\/o=5\/o=6\/o=7\/o=8\/o=9\/o=10\/o=11\/o=12\/o=13\/o=14\/o=15\/o=16\/o=17\/o=18\/o=19\/o=20\/o=21\/o=22\/o=23:=J
   rcases this with rfl|rfl|rfl|rfl|rfl|rfl|rfl|rfl|rfl|rfl|rfl|rfl|rfl|rfl|rfl|rfl|rfl|rfl|rfl|rfl|rfl|rfl|rfl<;>rfl
  ·rw [af hh];by_cases hz:o=0
   ·subst hz; rfl
   ·unfold kindOf;rw [af J]
 obtain⟨ys,h,rfl⟩:=this;exact h
theorem acr {s:D} {ob:Nat} (uP:ob<s.l.length) (ht: ∀x∈s.l,jr x):CEq (dL ((s.l.take ob).map ji++ph::(s.l.drop (ob+1)).map ji)) s (ob:Int):=by
 have hlen:((s.l.take ob).map ji++ph::(s.l.drop (ob+1)).map ji).length=s.l.length:=by
  grind
 have key: ∀i:Nat,i≠ob->((s.l.take ob).map ji++ph::(s.l.drop (ob+1)).map ji)[i]?=(s.l[i]?).map ji:=fun i hi=>by
  grind
 refine⟨by rw [bz]; exact hlen,fun i hi=>?_,fun i hi di=>?_,fun i hi di=>?_⟩
 ·rw [fb,fb,bz,key i J]
  cases h:s.l[i]? with
  |none=>exact .nG _
  |some x=>exact acq (ht _ (arq h))
 ·obtain⟨a,b,c,d,e,f,Y,_⟩:=ht _ (aq di)
  have e1:(dL ((s.l.take ob).map ji++ph::(s.l.drop (ob+1)).map ji)).at (i:Int)=ji s.l[i]:=by rw [fb,bz,key i J,aN di];rfl
  have e2:s.at (i:Int)=dL [.i a,.i b,.i c,.i d,e,f]:=by rw [bG di]; exact Y
  unfold ji at e1;exact⟨_,_,_,_,_,_,e1,_,_,_,_,_,_,e2⟩
 ·rw [fb,bz,key i J,aN di];exact Rq (ht _ (aq di))
theorem N! {cs s:D} {ob:Nat} {o c dn g:Int} {r v r' v':D} (C:CEq cs s (ob:Int)) (uP:ob<s.l.length) (T:Tg (s.at (ob:Int)) o c dn g r v) (hr:r'.l=r.l) (hv:v'.l=v.l) (sr:K9 r') (sv:K9 v') :
 SQ (dL (dE cs.l (ob:Int) (dL [.i o,.i c,.i (if dn=0 then 0 else 1),.i g,r',v']))) s:=by
 have e:dE s.l (ob:Int) (s.at (ob:Int))=s.l:=by rw [pA,bG uP,att]
 have V:(if dn=0 then (0:Int) else 1)=dn:=by rcases T.V with rfl|rfl<;>rfl
 have:=MT C J (x:=dL [.i o,.i c,.i (if dn=0 then 0 else 1),.i g,r',v']) (y:=s.at (ob:Int)) (by rw [T.is,V]; exact Ci hr hv);rw [e] at this;exact⟨⟨by have:=this.len; rwa [bz] at this,fun i=>by have:=this.xC i; rwa [fb (dL s.l),bz] at this⟩,TL C J J ⟨_,_,_,_,_,_,rfl,sr,sv⟩⟩
theorem N5 (s:D) (ob:Int) (uP:ob<0\/(s.l.length:Int)<=ob) (hs:s.l.length<=1759218604390) (hc: ∀x∈s.l,Al x): ∀(k i:Nat) (acc:List D),i+k=s.l.length->acc.length=i->
 bL 9106 [ob,enc s,enc (dL acc),(i:Int)] (·= [5,ob,enc (dL (acc++(s.l.drop i).map ji))])
 |0,i,acc,U,Z=>by
  have c1: ¬(i:Int)<(s.l.length:Int):=J
  refine bL.of ?_;rw [Ph,aX J];simp only [NA,zz,c1];refine .ite (fun _=> .out (by rw [aru,bh])) fun _=> .out (by rw [aru,bh])
 |k+1,i,acc,U,Z=>by
  have hi:i<s.l.length:=J
  have V:s.l.drop i=s.l[i]::s.l.drop (i+1):=aC hi;have ih:=N5 s ob uP hs hc k (i+1) (acc++ [ji s.l[i]]) J (by simp [Z]);have w:=bF (n:=i) J;have c0: ¬(i:Int)=ob:=J
  have c1:(i:Int)<(s.l.length:Int):=J
  have c2: ¬((i:Int)<0):=J
  have c3:(acc.length:Int)<1759218604440:=J
  obtain⟨q4,q5⟩:=hc _ (aq hi);rw [bp,bd] at ih;refine bL.of ?_;rw [Ph,V,aA];have gz:=bG hi;generalize s.l[i]=x at *;have q4:((x.V 4).l.length:Int)<17592186044416:=J
  have q5:((x.V 5).l.length:Int)<17592186044416:=J
  by_cases r4:((x.V 4).l.length:Int)=0<;>by_cases r5:((x.V 5).l.length:Int)=0<;>
  ·have e:ji x=dL [.i (x.V 0).n,.i (x.V 1).n,.i (if (x.V 2).n=0 then 0 else 1),.i (x.V 3).n,kQ (x.V 4),kQ (x.V 5)]:=rfl;unfold kQ at e;simp only [r4,r5,if_true,if_false] at e;rw [e] at ih
   try rw [e]
   simp only [NA,zz,c0,c1,c2,c3,w,gz,bz,q4,q5,r4,r5];exact .jump ih
theorem acx (s:D) (ob:Int) (uP:ob<0\/(s.l.length:Int)<=ob) (hs:s.l.length<=1759218604390) (hc: ∀x∈s.l,Al x) :
 L 9100 [ob,enc s]=some (if s.l.length=0 then [0,ob] else [5,ob,enc (dL (s.l.map ji))]):=by
 have:bL 9100 [ob,enc s] (·= (if s.l.length=0 then [0,ob] else [5,ob,enc (dL (s.l.map ji))])):=by
  refine bL.of ?_;rw [aaF];simp only [ZP,zz];refine .jump (bL.of ?_);rw [aaE];by_cases hz:s.l.length=0
  ·have c1: ¬(0:Int)<(s.l.length:Int):=J
   simp only [NB,zz,c1];refine .ite (fun _=> .out (by rw [ag hz])) fun _=> .out (by rw [ag hz])
  ·have hi:0<s.l.length:=J
   have c1:(0:Int)<(s.l.length:Int):=J
   have c0: ¬(0:Int)=ob:=J
   have gz:s.at 0=s.l[0]:=bG hi
   have V:s.l=s.l[0]::s.l.drop 1:=by
    have:=aC hi
    grind
   have ih:=N5 s ob uP hs hc (s.l.length-1) 1 [ji s.l[0]] J rfl;rw [bd,<- aA,<- V] at ih;obtain⟨q4,q5⟩:=hc _ (aq hi);rw [af hz];clear V;generalize s.l[0]=x at *;have q4:((x.V 4).l.length:Int)<17592186044416:=J
   have q5:((x.V 5).l.length:Int)<17592186044416:=J
   have ih:bL 9106 [ob,enc s,enc (dL [ji x]),1] _:=ih
   by_cases r4:((x.V 4).l.length:Int)=0<;>by_cases r5:((x.V 5).l.length:Int)=0<;>
   ·have e:ji x=dL [.i (x.V 0).n,.i (x.V 1).n,.i (if (x.V 2).n=0 then 0 else 1),.i (x.V 3).n,kQ (x.V 4),kQ (x.V 5)]:=rfl;unfold kQ at e;simp only [r4,r5,if_true,if_false] at e;rw [e] at ih
    try rw [e]
    simp only [NB,zz,c0,c1,gz,q4,q5,lG,au,r4,r5];exact .jump ih
 obtain⟨ys,h,rfl⟩:=this;exact h
def wD (s:D) (ys:List Int):Prop:= ∃s':D,SQ s' s/\ys= [enc s',0,0,0,0,0,0]
section
variable {d0 d1 s:D} {th op obj arg tries:Int} {n:Nat} (h0:Wd (.sl 3) d0) (U:Wd (.sl 4) d1) (G:Gs s n) (hn:n<17592186044000) (pe:gx .u8 op)
include h0 U G hn pe
theorem ahM:s.l.length<=1759218604390/\(∀x∈s.l,jr x)/\∀x∈s.l,Al x:=by
 refine⟨?_,G.wd.lx,fun x Y=> ⟨?_,?_⟩⟩
 ·have:=G.wd.room;have e:mU 7=80:=rfl
  grind
 ·have:=(G.rows x Y).1; omega
 ·have:=(G.rows x Y).2; omega
set_option maxHeartbeats 8000000 in
theorem ajH (A: ¬Acc d0 d1 s th op obj):bL 4000 [enc d0,enc d1,enc s,th,op,obj,arg,tries] (wD s):=by
 obtain⟨hs,ht,hc⟩:=ahM h0 U G hn pe;obtain⟨b,hb,hA,hR,hch⟩:=uB h0 U G hn;have hk:=Rx op pe;by_cases uP:obj<0\/(s.l.length:Int)<=obj
 ·have eM:=acx s obj uP hs hc;obtain⟨s3,h3,Sm,e3⟩:=Af hs ht hc;have hle:b=1->s.l.length=d0.l.length:=fun G5=>(uA h0 U G J (by rw [hA,G5])).2.2;by_cases hz:s.l.length=0
  ·rw [ag hz] at eM
   have T!:SQ (.i 1) s:=by have e0:=arI.1 hz;exact⟨⟨by rw [e0]; rfl,fun i=>by rw [fb,fb,e0]; exact .nG _⟩,.inl rfl,fun x Y=>by simp [D.l] at Y⟩
   by_cases pj:b=0
   ·refine bL.of ?_;rw [l8];simp only [lV,zz,eM,hR,pj];exact .out ⟨_,T!,rfl⟩
   ·have h01:=hle J;have a3:0<=obj->¬obj<(d0.l.length:Int):=fun _=>by omega
    refine bL.of ?_;rw [l8];simp only [lV,zz,eM,hR,pj,hk]
    repeat' first |(exfalso; omega)|exact .out ⟨_,T!,rfl⟩|refine .ite (fun _=>?_) (fun _=>?_)
  ·rw [af hz] at eM;rw [e3 hz] at Sm
   have Sm:SQ (dL (s.l.map ji)) s:=⟨Sm,cB (by simpa using fun h=>hz (congrArg List.length h)),fun x Y=>by
    rw [bz] at Y;obtain⟨y,hy,rfl⟩:=aR.1 Y
    exact Rq (ht y hy)⟩
   have a4:0<=obj->¬obj<((s.l.map ji).length:Int):=fun _=>by rw [aY]; omega
   rw [aY] at a4;have hlm:(((dL (s.l.map ji)).l.length:Nat):Int)=(s.l.length:Int):=by rw [bz,aY]
   by_cases pj:b=0
   ·refine bL.of ?_;rw [l8];simp only [lV,zz,eM,hR,pj,hlm]
    repeat' first |(exfalso; omega)|exact .out ⟨_,Sm,rfl⟩|refine .ite (fun _=>?_) (fun _=>?_)
   ·have h01:=hle J;refine bL.of ?_;rw [l8];simp only [lV,zz,eM,hR,pj,hk,hlm]
    repeat' first |(exfalso; omega)|exact .out ⟨_,Sm,rfl⟩|refine .ite (fun _=>?_) (fun _=>?_)
 ·obtain⟨i,rfl⟩ : ∃i:Nat,obj=(i:Int):=⟨obj.toNat,J⟩;have hi:i<s.l.length:=J
  obtain⟨o,c,dn,g,r,v,T⟩:=tn (G.wd.lx _ (aq hi));have eM:=Ps s i hi hs hc;have C:=acr hi ht;have T':Tg (s.at (i:Int)) o c dn g r v:=by rw [bG hi]; exact T
  unfold BY DM at eM;rw [T.is] at eM;simp only [ep,aF,aG,ay,zM] at eM;generalize dL ((s.l.take i).map ji++ph::(s.l.drop (i+1)).map ji)=cs at *;have a2: ¬(i:Int)<0:=J
  have row: ∀k:Int,∀l:List Int,∀r' v':D,K9 r'->K9 v'->r'.l=r.l->v'.l=v.l->(L 9100 [(i:Int),enc s]=some (k::(i:Int)::enc cs::o::c::dn::g::l))->(k=1/\r'= .i 2/\v'= .i 2/\l= []\/k=2/\r'= .i 2/\l= [enc v']\/k=3/\v'= .i 2/\l= [enc r']\/k=4/\l= [enc r',enc v'])->bL 4000 [enc d0,enc d1,enc s,th,op,(i:Int),arg,tries] (wD s):=by
   intro k l r' v' sr sv hr hv eM hk4;have Sm:=N! C hi T' hr hv sr sv;by_cases pj:b=0
   ·refine bL.of ?_;rw [l8]
    rcases hk4 with ⟨rfl,rfl,rfl,rfl⟩|⟨rfl,rfl,rfl⟩|⟨rfl,rfl,rfl⟩|⟨rfl,rfl⟩ <;>
    ·simp only [lV,zz,Int.reduceEq,eM,hR,pj];exact .out ⟨_,Sm,rfl⟩
   ·by_cases S?:th<0
    ·refine bL.of ?_;rw [l8]
     rcases hk4 with ⟨rfl,rfl,rfl,rfl⟩|⟨rfl,rfl,rfl⟩|⟨rfl,rfl,rfl⟩|⟨rfl,rfl⟩ <;>
     ·simp only [lV,zz,Int.reduceEq,eM,hR,pj,S?];exact .out ⟨_,Sm,rfl⟩
    ·by_cases ht1:th<(d1.l.length:Int)
     ·have h01:=(uA h0 U G J (by rw [hA,show b=1 by omega])).2.2;have a3:(i:Int)<(d0.l.length:Int):=J
      have hkn: ¬kindOf op=((d0.at (i:Int)).V 0).n:=fun q=>A ⟨by rw [hA,show b=1 by omega],J,ht1,J,J,q⟩;refine bL.of ?_;rw [l8]
      rcases hk4 with ⟨rfl,rfl,rfl,rfl⟩|⟨rfl,rfl,rfl⟩|⟨rfl,rfl,rfl⟩|⟨rfl,rfl⟩ <;>
      ·simp only [lV,zz,Int.reduceEq,eM,hR,pj,S?,ht1,a2,a3,hk,hkn];exact .out ⟨_,Sm,rfl⟩
     ·refine bL.of ?_;rw [l8]
      rcases hk4 with ⟨rfl,rfl,rfl,rfl⟩|⟨rfl,rfl,rfl⟩|⟨rfl,rfl,rfl⟩|⟨rfl,rfl⟩ <;>
      ·simp only [lV,zz,Int.reduceEq,eM,hR,pj,S?,ht1];exact .out ⟨_,Sm,rfl⟩
  by_cases r4:((r.l.length:Nat):Int)=0<;>by_cases r5:((v.l.length:Nat):Int)=0
  ·have e4:r.l= []:=arI.1 J;have e5:v.l= []:=arI.1 J;simp only [r4,r5,if_true,bh] at eM;exact row 1 [] (.i 2) (.i 2) (.inr (.inl rfl)) (.inr (.inl rfl)) (fm e4) (fm e5) eM (.inl ⟨rfl,rfl,rfl,rfl⟩)
  ·have e4:r.l= []:=arI.1 J;simp only [r4,r5,if_true,if_false,bh] at eM;exact row 2 _ (.i 2) v (.inr (.inl rfl)) (wy T.hv) (fm e4) rfl eM (.inr (.inl ⟨rfl,rfl,rfl⟩))
  ·have e5:v.l= []:=arI.1 J;simp only [r4,r5,if_true,if_false,bh] at eM;exact row 3 _ r (.i 2) (wy T.hr) (.inr (.inl rfl)) rfl (fm e5) eM (.inr (.inr (.inl ⟨rfl,rfl,rfl⟩)))
  ·simp only [r4,r5,if_false] at eM;exact row 4 _ r v (wy T.hr) (wy T.hv) rfl rfl eM (.inr (.inr (.inr ⟨rfl,rfl⟩)))
end
section
variable {d0 d1 s:D} {th op obj arg tries:Int} {n:Nat} (h0:Wd (.sl 3) d0) (U:Wd (.sl 4) d1) (G:Gs s n) (hn:n<17592186044000) (pe:gx .u8 op) (aej:gx .i64 arg)
include h0 U G hn pe aej
theorem adL (A:Acc d0 d1 s th op obj) {o c dn g:Int} {r v:D} (T:Tg (s.at obj) o c dn g r v) (hr:r.l.length<=n) (hv:v.l.length<=n) (uc:op∈ops) :
 bL 4000 [enc d0,enc d1,enc s,th,op,obj,arg,tries] (AM s th op obj (Mx d0 obj) (act (Mx d0 obj) (Mo d0 s obj) th op arg tries o c dn g r v)):=by
 obtain⟨hs,ht,hc⟩:=ahM h0 U G hn pe;obtain⟨b,hb,hA,hR,hch⟩:=uB h0 U G hn;have hf:=G.nt (by omega:n<17592186044415);have a1:=A.o0; have a2:=A.o1;have P:=F1 h0 U G J A.r (i:=obj) a1 a2 T;have hle:=(uA h0 U G J A.r).2.2;have uP:=M3 h0 U hf A;have cnd:=H6 h0 U G.wd hf pe A
 have G5:b=1:=by
  have:=A.r
  grind
 rw [G5] at hR;rw [K8 (uD uP.1)] at P;obtain⟨P1,P2,P3⟩:=P;obtain⟨s3,h3,Sm,e3⟩:=Af hs ht hc
 have Sm:SQ s3 s:=by
  have hz:s.l.length≠0:=J
  rw [e3 hz] at Sm ⊢
  exact⟨Sm,cB (by simpa using fun h=>hz (congrArg List.length h)),fun x Y=>by
   rw [bz] at Y;obtain⟨y,hy,rfl⟩:=aR.1 Y
   exact Rq (ht y hy)⟩
 clear e3;obtain⟨i,rfl⟩ : ∃i:Nat,obj=(i:Int):=⟨obj.toNat,J⟩;have hi:i<s.l.length:=J
 have eM:=Ps s i hi hs hc;have C:=acr hi ht;have hk:=Rx op pe;rw [A.k] at hk;have T0:=T;rw [bG hi] at T0;unfold BY DM at eM;rw [T0.is] at eM;simp only [ep,aF,aG,ay,zM] at eM;generalize dL ((s.l.take i).map ji++ph::(s.l.drop (i+1)).map ji)=cs at *
 have aqB:op=12\/op=24->0<=Mx d0 (i:Int)/\Mx d0 (i:Int)<(s.l.length:Int)/\Mx d0 (i:Int)≠(i:Int)/\((cs.at (Mx d0 (i:Int))).V 0).n=Mo d0 s (i:Int)/\-1<=Mo d0 s (i:Int):=fun h=>by
  obtain⟨m0,m1,m2⟩:=cnd h;obtain⟨m,hm⟩ : ∃m:Nat,Mx d0 (i:Int)=(m:Int):=⟨_,(Int.toNat_of_nonneg m0).symm⟩;refine⟨m0,m1,m2,?_,?_⟩
  ·have YL:((d0.at (i:Int)).V 2).n=(m:Int):=hm;have q:=C.xC m (fun q=>m2 (hm.trans q));show ((cs.at ((d0.at (i:Int)).V 2).n).V 0).n=((s.at ((d0.at (i:Int)).V 2).n).V 0).n;rw [YL];exact q.c0
  ·obtain⟨o',c',EL,g',r',v',T',_⟩:=vC G m0 m1;have P':=F1 h0 U G J A.r m0 m1 T'
   have:Mo d0 s (i:Int)=o':=by show ((s.at (Mx d0 (i:Int))).V 0).n=o';rw [T'.is,ep];rfl
   rw [this];exact P'.1.2.1
 unfold ES at P1;have pg:kindOf op=((d0.at (i:Int)).V 0).n:=A.k
 have H:RH d0 d1 s cs s3 th op (i:Int) arg tries o c dn g r v:=⟨h3,Sm,C,hR,A.t0,A.t1,a1,a2,hle,hk,J,J,Ud T.hr,P2.2,P1.1,T.hc,aqB,fun h=>by
  have h7:((d0.at (i:Int)).V 0).n=7:=by rw [<- pg,h]; rfl
  have:=P3.2
  exact⟨J,J,aej⟩,wy T.hr,wy T.hv⟩
 have r0:((d0.at (i:Int)).V 0).n≠4->((d0.at (i:Int)).V 0).n≠2->r.l= []:=fun x y=>by have:=P1.2.2.2.2.2.1;exact arI.1 J
 have v0:((d0.at (i:Int)).V 0).n≠8->v.l= []:=fun x=>by have:=P1.2.2.2.2.2.2.1;exact arI.1 J
 have e1:r.l= []->v.l= []->L 9100 [(i:Int),enc s]=some [1,(i:Int),enc cs,o,c,dn,g]:=fun x y=>by
  grind
 have e2:r.l= []->0<v.l.length->L 9100 [(i:Int),enc s]=some [2,(i:Int),enc cs,o,c,dn,g,enc v]:=fun x y=>by
  grind
 have e3:0<r.l.length->v.l= []->L 9100 [(i:Int),enc s]=some [3,(i:Int),enc cs,o,c,dn,g,enc r]:=fun x y=>by
  grind
 clear eM
 have aqn:op=1\/op=2\/op=8\/op=3\/op=4\/op=5\/op=6\/op=7\/op=9\/op=11\/op=10\/op=17\/op=18\/op=19\/op=22\/op=23\/op=20\/op=21\/op=12\/op=13\/op=14\/op=24\/op=15\/op=25\/op=16\/op=26:=by unfold ops at uc;simpa only [aH,arN,or_false] using uc
 rcases aqn with rfl|rfl|rfl|rfl|rfl|rfl|rfl|rfl|rfl|rfl|rfl|rfl|rfl|rfl|rfl|rfl|rfl|rfl|rfl|rfl|rfl|rfl|rfl|rfl|rfl|rfl
 ·have kk:=(show ((d0.at (i:Int)).V 0).n=1 from pg.symm.trans rfl);have r1:=r0 J J;have v1:=v0 J;exact Gw J H r1 v1 (e1 r1 v1)
 ·have kk:=(show ((d0.at (i:Int)).V 0).n=1 from pg.symm.trans rfl);have r1:=r0 J J;have v1:=v0 J;exact Gw J H r1 v1 (e1 r1 v1)
 ·have kk:=(show ((d0.at (i:Int)).V 0).n=2 from pg.symm.trans rfl);have v1:=v0 J;rcases gu r.l with h|h
  ·exact Gw J H h v1 (e1 h v1)
  ·exact oG3 J H h v1 (e3 h v1)
 ·have kk:=(show ((d0.at (i:Int)).V 0).n=1 from pg.symm.trans rfl);have r1:=r0 J J;have v1:=v0 J;exact Gw J H r1 v1 (e1 r1 v1)
 ·have kk:=(show ((d0.at (i:Int)).V 0).n=1 from pg.symm.trans rfl);have r1:=r0 J J;have v1:=v0 J;exact Gw J H r1 v1 (e1 r1 v1)
 ·have kk:=(show ((d0.at (i:Int)).V 0).n=2 from pg.symm.trans rfl);have v1:=v0 J;rcases gu r.l with h|h
  ·exact Gw J H h v1 (e1 h v1)
  ·exact oG3 J H h v1 (e3 h v1)
 ·have kk:=(show ((d0.at (i:Int)).V 0).n=2 from pg.symm.trans rfl);have v1:=v0 J;rcases gu r.l with h|h
  ·exact Gw J H h v1 (e1 h v1)
  ·exact apI H h v1 (e3 h v1)
 ·have kk:=(show ((d0.at (i:Int)).V 0).n=2 from pg.symm.trans rfl);have v1:=v0 J;rcases gu r.l with h|h
  ·exact Gw J H h v1 (e1 h v1)
  ·exact oG3 J H h v1 (e3 h v1)
 ·have kk:=(show ((d0.at (i:Int)).V 0).n=3 from pg.symm.trans rfl);have r1:=r0 J J;have v1:=v0 J;exact Gw J H r1 v1 (e1 r1 v1)
 ·have kk:=(show ((d0.at (i:Int)).V 0).n=3 from pg.symm.trans rfl);have r1:=r0 J J;have v1:=v0 J;exact Gw J H r1 v1 (e1 r1 v1)
 ·have kk:=(show ((d0.at (i:Int)).V 0).n=3 from pg.symm.trans rfl);have r1:=r0 J J;have v1:=v0 J;exact Gw J H r1 v1 (e1 r1 v1)
 ·have kk:=(show ((d0.at (i:Int)).V 0).n=7 from pg.symm.trans rfl);have r1:=r0 J J;have v1:=v0 J;exact ane H r1 v1 (e1 r1 v1)
 ·have kk:=(show ((d0.at (i:Int)).V 0).n=7 from pg.symm.trans rfl);have r1:=r0 J J;have v1:=v0 J;exact Gw J H r1 v1 (e1 r1 v1)
 ·have kk:=(show ((d0.at (i:Int)).V 0).n=7 from pg.symm.trans rfl);have r1:=r0 J J;have v1:=v0 J;exact Gw J H r1 v1 (e1 r1 v1)
 ·have kk:=(show ((d0.at (i:Int)).V 0).n=9 from pg.symm.trans rfl);have r1:=r0 J J;have v1:=v0 J;exact Gw J H r1 v1 (e1 r1 v1)
 ·have kk:=(show ((d0.at (i:Int)).V 0).n=9 from pg.symm.trans rfl);have r1:=r0 J J;have v1:=v0 J;exact Gw J H r1 v1 (e1 r1 v1)
 ·have kk:=(show ((d0.at (i:Int)).V 0).n=8 from pg.symm.trans rfl);have r1:=r0 J J;rcases gu v.l with h|h
  ·exact Gw J H r1 h (e1 r1 h)
  ·exact anc H r1 h (e2 r1 h)
 ·have kk:=(show ((d0.at (i:Int)).V 0).n=8 from pg.symm.trans rfl);have r1:=r0 J J;rcases gu v.l with h|h
  ·exact Gw J H r1 h (e1 r1 h)
  ·exact anb H r1 h (e2 r1 h)
 ·have kk:=(show ((d0.at (i:Int)).V 0).n=4 from pg.symm.trans rfl);have v1:=v0 J;rcases gu r.l with h|h
  ·exact anh H h v1 (e1 h v1)
  ·exact ang H h v1 (e3 h v1)
 ·have kk:=(show ((d0.at (i:Int)).V 0).n=4 from pg.symm.trans rfl);have v1:=v0 J;rcases gu r.l with h|h
  ·exact Gw J H h v1 (e1 h v1)
  ·exact anf H h v1 (e3 h v1)
 ·have kk:=(show ((d0.at (i:Int)).V 0).n=4 from pg.symm.trans rfl);have v1:=v0 J;rcases gu r.l with h|h
  ·exact Gw J H h v1 (e1 h v1)
  ·exact oG3 J H h v1 (e3 h v1)
 ·have kk:=(show ((d0.at (i:Int)).V 0).n=4 from pg.symm.trans rfl);have v1:=v0 J;rcases gu r.l with h|h
  ·exact ana H h v1 (e1 h v1)
  ·exact am9 H h v1 (e3 h v1)
 ·have kk:=(show ((d0.at (i:Int)).V 0).n=5 from pg.symm.trans rfl);have r1:=r0 J J;have v1:=v0 J;exact Gw J H r1 v1 (e1 r1 v1)
 ·have kk:=(show ((d0.at (i:Int)).V 0).n=5 from pg.symm.trans rfl);have r1:=r0 J J;have v1:=v0 J;exact Gw J H r1 v1 (e1 r1 v1)
 ·have kk:=(show ((d0.at (i:Int)).V 0).n=6 from pg.symm.trans rfl);have r1:=r0 J J;have v1:=v0 J;exact Gw J H r1 v1 (e1 r1 v1)
 ·have kk:=(show ((d0.at (i:Int)).V 0).n=6 from pg.symm.trans rfl);have r1:=r0 J J;have v1:=v0 J;exact Gw J H r1 v1 (e1 r1 v1)
theorem W2 (hn2:n<17592186043904) (hth:gx .i64 th) (V?:gx .i64 obj): ∃(a b:D) (e1 e2 e3 e4 e5 oc:Int),BZ d0 d1 s th op obj arg tries n a e1 e2 e3 e4 e5 oc/\L 4000 [enc d0,enc d1,enc s,th,op,obj,arg,tries]=some [enc b,e1,e2,e3,e4,e5,oc]/\SQ b a:=by
 obtain⟨a,e1,e2,e3,e4,e5,oc,TT⟩:=KN (t:=th) (op:=op) (obj:=obj) (arg:=arg) (tries:=tries) h0 U G hn2 hth pe V? aej;have hf:=G.nt (by omega:n<17592186044415);by_cases A:Acc d0 d1 s th op obj
 ·obtain⟨uc,o,c,dn,g,r,v,T,hL⟩:=Ay (arg:=arg) (tries:=tries) h0 U G.wd hf pe A;obtain⟨o',c',EL,g',r',v',T',So,hv'⟩:=vC G A.o0 A.o1;obtain⟨ys,hY,tQ⟩:=adL (tries:=tries) h0 U G hn pe aej A T' So hv' uc;have hE:=TT.eq
  obtain⟨z1,z2,z3,z4,z5,z6⟩ : o=o'/\c=c'/\dn=EL/\g=g'/\r=r'/\v=v':=by
   have:=T.is.symm.trans T'.is;simp only [dL,D.p.injEq,D.i.injEq,and_true] at this
   grind
  subst z1 z2 z3 z4 z5 z6;rw [AR,hE] at hL;obtain⟨X,hX⟩ : ∃X,act (Mx d0 obj) (Mo d0 s obj) th op arg tries o c dn g r v=X:=⟨_,rfl⟩;rw [hX] at hL tQ;refine⟨a,?_⟩
  cases X with
  |oe=> simp only [evA,ah,List.cons.injEq,and_true] at hL;obtain⟨p,rfl,rfl,rfl,rfl,rfl,rfl⟩:=hL;obtain⟨s',q,rfl⟩:=tQ;exact⟨s',_,_,_,_,_,_,TT,hY,by rw [eQ p]; exact q⟩
  |yb=> simp only [evA,ah,List.cons.injEq,and_true] at hL;obtain⟨p,rfl,rfl,rfl,rfl,rfl,rfl⟩:=hL;obtain⟨s',q,rfl⟩:=tQ;exact⟨s',_,_,_,_,_,_,TT,hY,by rw [eQ p]; exact q⟩
  |res o c dn g r v m a' oc'=> simp only [evA,ah,List.cons.injEq,and_true] at hL;obtain⟨p,rfl,rfl,rfl,rfl,rfl,rfl⟩:=hL;obtain⟨s',q,rfl⟩:=tQ;exact⟨s',_,_,_,_,_,_,TT,hY,by rw [eQ p]; exact q⟩
 ·have hL:=FF (arg:=arg) (tries:=tries) h0 U G.wd hf pe A;obtain⟨ys,hY,s',q,rfl⟩:=ajH (tries:=tries) (arg:=arg) h0 U G hn pe A;have hE:=TT.eq;rw [hE] at hL;simp only [ah,List.cons.injEq,and_true] at hL;obtain⟨p,rfl,rfl,rfl,rfl,rfl,rfl⟩:=hL;exact⟨a,s',_,_,_,_,_,_,TT,hY,by rw [eQ p]; exact q⟩
end
theorem sy {s s':D} (h:B7 s s'):B7 s' s:=⟨h.len.symm,fun i=> ⟨(h.xC i).c0.symm,(h.xC i).c1.symm,(h.xC i).c2.symm,(h.xC i).c3.symm,(h.xC i).c4.symm,(h.xC i).c5.symm⟩⟩
theorem tr {a b c:D} (h:B7 a b) (h':B7 b c):B7 a c:=⟨h'.len.trans h.len,fun i=> ⟨(h.xC i).c0.trans (h'.xC i).c0,(h.xC i).c1.trans (h'.xC i).c1,(h.xC i).c2.trans (h'.xC i).c2,(h.xC i).c3.trans (h'.xC i).c3,(h.xC i).c4.trans (h'.xC i).c4,(h.xC i).c5.trans (h'.xC i).c5⟩⟩
theorem adF {a b:D} {n:Nat} (G:Gs a n) (hn:n<17592186044000) (h:B7 a b):L 200 [enc a,enc b]=some [1]:=by obtain⟨c,U,_,h3⟩:=Ja a b G.wd.len (fun x Y=>by have:=G.rows x Y; omega);have hI: ∀{x y:D},x.l=y.l->Ww x y:=fun {x y} e=> ⟨by rw [e],fun k U Z _=>by simp only [e]⟩;rw [U,h3.2 ⟨h.len.symm,fun k U Z _=>?_⟩];have q:=h.xC k;rw [bG U,bG Z] at q;exact⟨q.c0,q.c1,by rw [q.c2],q.c3,hI q.c4,hI q.c5⟩
theorem Ls {d:D} (h:Wd (.sl 0) d):Wd (.sl 0) (kQ d):=by
 unfold kQ;split
 ·exact .xZ 0
 grind
theorem ak6 {x:D} (h:jr x):jr (ji x):=by
 obtain⟨o,c,d,g,r,v,rfl,U,Z,h3,h4,h5,h6⟩:=h;unfold ji;simp only [ep];refine⟨o,c,(if d=0 then 0 else 1),g,kQ r,kQ v,rfl,U,Z,?_,h4,Ls h5,Ls h6⟩
 grind
theorem aoO {s:D} {n:Nat} (G:Gs s n) (hn:n<17592186044000): ∃s1:D,L 3950 [enc s]=some [enc s1]/\B7 s1 s/\Gs s1 n:=by
 have hs:s.l.length<=1759218604390:=by
  have:=G.wd.room;have e:mU 7=80:=rfl
  grind
 have ht:=G.wd.lx;have hc: ∀x∈s.l,Al x:=fun x Y=> ⟨by have:=(G.rows x Y).1; omega,by have:=(G.rows x Y).2; omega⟩;have eM:=zF s hs hc;obtain⟨s1,U,Z,_⟩:=Af hs ht hc;refine⟨s1,U,Z,?_⟩;rw [U] at eM;simp only [ah,List.cons.injEq,and_true] at eM;rw [eQ eM];split
 ·exact⟨.nil 7,fun x Y=>by simp [D.l] at Y⟩
 ·rename_i hz;refine⟨xP (fun x Y=>?_) (fun h=>hz (by simpa using congrArg List.length h)) (by rw [aY]; omega),fun x Y=>?_⟩
  ·obtain⟨y,hy,rfl⟩:=aR.1 Y;exact ak6 (ht y hy)
  ·rw [bz] at Y;obtain⟨y,hy,rfl⟩:=aR.1 Y;have e4:(ji y).V 4=kQ (y.V 4):=by unfold ji; rw [ep]; rfl
   have e5:(ji y).V 5=kQ (y.V 5):=by unfold ji; rw [ep]; rfl
   rw [e4,e5,vz,vz];exact G.rows y hy
theorem aal: ∀(m:Nat) (l:List D),n9 (m:Int) l->l.length<=m
 |0,l,h=>by
  cases l with
  |nil=>simp
  |cons a l=>have:=h.1 a (arF ..); omega
 |m+1,l,h=>by
  have hw:n9 (m:Int) (wo (m:Int) l):=by
   refine⟨fun x Y=>?_,?_⟩
   ·unfold wo at Y;rw [arW] at Y;have:=h.1 x Y.1
    grind
   ·unfold wo;exact h.2.sublist (List.Sublist.map _ List.filter_sublist)
  have ih:=aal m _ hw;rcases lB (dL l) (m:Int) with ⟨_,vR⟩|⟨k,hk,_,Z,_⟩
  ·rw [bz] at vR;rw [xN vR] at ih;omega
  ·simp only [bz] at hk Z;rw [QO l _ k hk h.2 Z] at ih
   grind
section
variable {d0 d1:D} (h0:Wd (.sl 3) d0) (U:Wd (.sl 4) d1)
include h0 U
theorem F8 {s s':D} {n:Nat} (h:B7 s s') (G:Gs s n) (G':Gs s' n) (hn:n<17592186044000) (R:L 350 [enc d0,enc d1,enc s]=some [1]):L 350 [enc d0,enc d1,enc s']=some [1]:=by
 obtain⟨hC,ok,hle⟩:=uA h0 U G J R;have hl:=h.len;refine af9 h0 U G' J hC J fun i hi=>?_;obtain⟨o,c,dn,g,r,v,T,_⟩:=vC G (i:=(i:Int)) J J;obtain⟨o',c',EL,g',r',v',T',_⟩:=vC G' (i:=(i:Int)) J J;obtain⟨rfl,rfl,rfl,rfl,q4,q5⟩:=FI T T' (h.xC i);have P:=F1 h0 U G J R (i:=(i:Int)) J J T;refine⟨_,_,_,_,_,_,T',?_⟩;unfold IE at P ⊢
 grind
theorem NR {s:D} {n:Nat} (G:Gs s n) (hn:n<17592186044000) (R:L 350 [enc d0,enc d1,enc s]=some [1]):Gs s 1048576:=by
 obtain⟨hC,ok,hle⟩:=uA h0 U G J R;refine⟨G.wd,fun x Y=>?_⟩;obtain⟨i,hi,rfl⟩:=ar3 Y;obtain⟨o,c,dn,g,r,v,T,_⟩:=vC G (i:=(i:Int)) J J;have P:=F1 h0 U G J R (i:=(i:Int)) J J T;have hid:i<d0.l.length:=J
 have hO:=ok.2.2 _ (aq hid);rw [bG hid] at P;rw [K8 (uD hO)] at P;obtain⟨P1,P2,P3⟩:=P;have hr:=aal d1.l.length r.l P2;have h16:=ok.2.1;have hN:=(uD hO).1;have e4:(s.l[i]).V 4=r:=by rw [bG hi] at T; rw [T.is,ep]; rfl
 have e5:(s.l[i]).V 5=v:=by rw [bG hi] at T; rw [T.is,ep]; rfl
 rw [e4,e5];refine⟨J,?_⟩;have p1:=P1.2.2.2.2.2.2.1;have p2:=P3.2
 grind
theorem HW (s:D) (hs:s.l.length<=140737488351232): ∀(k i:Nat) (x:Int),i+k=s.l.length->bL 3801 [enc s,x,(s.l.length:Int),(i:Int)] vN
 |0,i,x,h=>by
  have c1: ¬(i:Int)<(s.l.length:Int):=J
  refine bL.of ?_;rw [abl];simp only [h!,zz,c1];exact .ite (fun _=> .out sR) fun _=> .out wR
 |k+1,i,x,h=>by
  have c1:(i:Int)<(s.l.length:Int):=J
  have c2: ¬(i:Int)<0:=J
  have w:=bF (n:=i) J;refine bL.of ?_;rw [abl];simp only [h!,zz,c1,c2,w];exact .jump (HW s hs k (i+1) _ J)
end
theorem U6:kindOf 24=4/\kindOf 25=5:=⟨rfl,rfl⟩
section
variable {d0 d1 k:D} (hk:Wd (.sl 8) k) (hle:k.l.length=d1.l.length)
include hk hle
theorem UI (s:D): ∀(j i:Nat),i+j=k.l.length->bL 22201 [(i:Int),enc d0,enc d1,enc s,enc k] (Oy (∀(n:Nat) (hn:n<k.l.length),i<=n->Zb d0 (d1.l[n]'(hle▸hn)) k.l[n]))
 |0,i,hi=>by
  have c1: ¬(i:Int)<(k.l.length:Int):=J
  refine bL.of ?_;rw [Tn];simp only [FP,zz,c1];exact .out (Ox fun n hn h=>by omega)
 |j+1,i,hi=>by
  have hl:=hk.len;have di:i<k.l.length:=J
  have hid:i<d1.l.length:=J
  have c1:(i:Int)<(k.l.length:Int):=J
  have c2: ¬((i:Int)<0):=J
  have c3:(i:Int)<(d1.l.length:Int):=J
  have w:=bF (n:=i) J;obtain⟨a,lc,w',o,g,tr,T⟩:=gA hk _ (aq di);have hw:gx .u8 ((k.l[i]).V 2).n:=by rw [T.is,ep]; exact T.hw
  have hO:=Rx _ hw;obtain⟨ys,hL,b,rfl,ih⟩:=UI s j (i+1) J;have no: ¬Zb d0 d1.l[i] k.l[i]->¬(∀(n:Nat) (hn:n<k.l.length),i<=n->Zb d0 (d1.l[n]'(hle▸hn)) k.l[n]):=fun h q=>h (q i di (ax _))
  have go:Zb d0 d1.l[i] k.l[i]->Oy (∀(n:Nat) (hn:n<k.l.length),i<=n->Zb d0 (d1.l[n]'(hle▸hn)) k.l[n]) [b]:=fun h=> ⟨b,rfl,ih.imp (fun q=> ⟨q.1,fun z=>q.2 fun n hn hni=>z n hn J⟩) fun q=> ⟨q.1,fun n hn hni=>by
   by_cases he:n=i
   ·subst he; exact h
   ·exact q.2 n hn J⟩⟩
  clear ih;unfold Zb OkT at no go;have k1:=U6.1;have k2:=U6.2;refine bL.of ?_;rw [Tn];by_cases h24:((k.l[i]).V 2).n=24
  ·rw [h24,k1] at hO;simp only [FP,zz,c1,c2,c3,bG di,bG hid,w,h24,hO,Int.reduceEq]
   repeat' first
    |exact .out (sC (no J))
    |exact .jump ⟨_,hL,go J⟩
    |refine .ite (fun _=>?_) (fun _=>?_)
  ·by_cases h25:((k.l[i]).V 2).n=25
   ·rw [h25,k2] at hO;simp only [FP,zz,c1,c2,c3,bG di,bG hid,w,h25,hO,Int.reduceEq]
    repeat' first
     |exact .out (sC (no J))
     |exact .jump ⟨_,hL,go J⟩
     |refine .ite (fun _=>?_) (fun _=>?_)
   ·simp only [FP,zz,c1,c2,c3,bG di,bG hid,w,h24,h25]
    repeat' first
     |exact .out (sC (no J))
     |exact .jump ⟨_,hL,go J⟩
     |refine .ite (fun _=>?_) (fun _=>?_)
end
theorem Jj {d0 d1 s k:D} {n:Nat} (h0:Wd (.sl 3) d0) (U:Wd (.sl 4) d1) (S:Sw s k n) (hn:n<17592186044000):bL 22200 [enc d0,enc d1,enc s,enc k] (Oy (MR d0 d1 s k)):=by
 obtain⟨b,hb,hA,hR,_⟩:=uB h0 U S.g hn;refine bL.of ?_;rw [abz];simp only [k_,zz,hR];refine .ite (fun h=> .out (sC fun q=>?_)) (fun h=> .ite (fun hl=>?_) (fun hl=> .out (sC fun q=>?_)))
 ·have:=q.1
  grind
 ·have hle:k.l.length=d1.l.length:=J
  obtain⟨ys,hL,b',rfl,Bi⟩:=UI (d0:=d0) S.wk hle s k.l.length 0 J;refine .jump ⟨_,hL,b',rfl,?_⟩;have vQ:b=1:=J
  subst vQ;rcases Bi with ⟨q,Bi⟩|⟨q,Bi⟩
  ·exact .inl ⟨q,fun h=>Bi fun n hn _=>h.2.2 n hn⟩
  ·exact .inr ⟨q,hA,hle,fun n hn=>Bi n hn (arZ _)⟩
 ·have:=q.2.1;omega
theorem wM {d0 d1 s k:D} {n:Nat} (h0:Wd (.sl 3) d0) (U:Wd (.sl 4) d1) (S:Sw s k n) (hn:n<17592186044000) (t:Int):L 1550 [enc d0,enc d1,enc s,enc k,t]=some [0]↔¬(0<=t/\t<(d1.l.length:Int)/\MR d0 d1 s k):=aec (F7 (k:=k) h0 U (S.g.nt J).rows U.len t)
theorem ud {d0 d1 s k:D} {n:Nat} (h0:Wd (.sl 3) d0) (U:Wd (.sl 4) d1) (S:Sw s k n) (hn:n<17592186044000) (t:Int):L 1550 [enc d0,enc d1,enc s,enc k,t]=some [1]↔(0<=t/\t<(d1.l.length:Int)/\MR d0 d1 s k):=LL (F7 (k:=k) h0 U (S.g.nt J).rows U.len t)
theorem eB:((1:Int)=0)=False:=ad
section
variable {d0 d1 s k:D} {n:Nat} {t:Int} (h0:Wd (.sl 3) d0) (U:Wd (.sl 4) d1) (S:Sw s k n) (hn:n<17592186044000)
include h0 U S hn
theorem aak (h:L 1550 [enc d0,enc d1,enc s,enc k,t]=some [0]):L 22300 [enc d0,enc d1,enc s,enc k,t]=some [0]:=by
 rw [wM h0 U S J] at h;obtain⟨ys,hL,b,rfl,hb⟩:=Jj h0 U S J
 have:bL 22300 [enc d0,enc d1,enc s,enc k,t] (·= [0]):=by
  refine bL.of ?_;rw [Tl];simp only [QY,zz,hL];refine .ite (fun _=> .out rfl) fun G5=> .ite (fun _=> .out rfl) fun Z=> .ite (fun h3=>?_) fun _=> .out rfl
  grind
 obtain⟨ys,h,rfl⟩:=this;exact h
theorem Xp (h:L 1550 [enc d0,enc d1,enc s,enc k,t]=some [0]):L 22350 [enc d0,enc d1,enc s,enc k,t]=some [0,0,0,0,0]:=by
 rw [wM h0 U S J] at h;obtain⟨ys,hL,b,rfl,hb⟩:=Jj h0 U S J
 have:bL 22350 [enc d0,enc d1,enc s,enc k,t] (·= [0,0,0,0,0]):=by
  refine bL.of ?_;rw [Tj];simp only [wg,zz,hL];refine .ite (fun _=> .out rfl) fun G5=> .ite (fun _=> .out rfl) fun Z=> .ite (fun h3=>?_) fun _=> .out rfl
  grind
 obtain⟨ys,h,rfl⟩:=this;exact h
theorem J_ (h:L 1550 [enc d0,enc d1,enc s,enc k,t]=some [0]):L 1800 [enc d0,enc d1,enc s,enc k,t]=some [0,0,0,0,0]:=by rw [bI,abJ];simp only [n!,zz,h];rfl
variable {x:KT} (R:Rs d0 d1 s k t x)
include R
theorem tD:L 22200 [enc d0,enc d1,enc s,enc k]=some [1]:=by have h:=(ud h0 U S J t).1 R.yes;exact (LL (Jj h0 U S J)).2 h.2.2
theorem ajD:ID d0 d1:=by
 have h:=(ud h0 U S J t).1 R.yes;obtain⟨b,_,hA,_,hc⟩:=uB h0 U S.g J;have:=h.2.2.1
 grind
theorem xm:L 22300 [enc d0,enc d1,enc s,enc k,t]=some [ib d1 t x]:=by
 have hr:=tD h0 U S hn R;have c1: ¬t<0:=by have:=R.r.t0; omega
 have c2:=R.r.t1;have ht:=R.ht;have hk:=R.hk;unfold ib Nc;rw [bI,Tl];simp only [QY,zz,hr,eB,c1,c2,ht,hk,zg,ay];by_cases w0:x.w=0
 ·simp only [w0,if_true];by_cases a0:x.a=(((d1.at t).V 2).l.length:Int)
  ·simp only [a0,if_true];rfl
  ·simp only [a0,if_false];rfl
 ·simp only [w0,if_false];rfl
theorem Og:L 1800 [enc d0,enc d1,enc s,enc k,t]=some (gw d1 t x):=by
 have hN:=Lu (s:=s) R.c R.hk R.ht R.r;have hy:=R.yes
 have key: ∀ys:List Int,gw d1 t x=ys->ys.length=5->L 1800 [enc d0,enc d1,enc s,enc k,t]=some ys:=fun ys h hl=>by
  match ys,hl with
  |[a,b,c,d,e],_=>
   rw [h] at hN;obtain⟨q,hq⟩ : ∃q:Int,q=0\/q≠0:=⟨0,.inl rfl⟩
   have he:e=0\/e=1:=by
    unfold gw at h
    grind
   have:bL 1800 [enc d0,enc d1,enc s,enc k,t] (·= [a,b,c,d,e]):=by
    refine bL.of ?_;rw [abJ];simp only [n!,zz,hy,hN,eB]
    repeat' first |exact .out (by rcases he with rfl|rfl<;>first |rfl|omega)|refine .ite (fun _=>?_) (fun _=>?_)
   obtain⟨ys,h',rfl⟩:=this;exact h'
 refine key _ rfl ?_;unfold gw
 grind
theorem akL {tk lc:D} (ha:Wd (.sl 6) tk) {i:Int} (i0:0<=i) (i1:i<(tk.l.length:Int)):L 22500 [((tk.at i).V 0).n,enc ((tk.at i).V 1),((tk.at i).V 2).n,enc ((tk.at i).V 3),enc lc]=some [ev (tk.at i) lc]:=by
 obtain⟨j,rfl⟩ : ∃j:Nat,i=(j:Int):=⟨i.toNat,J⟩;have hj:j<tk.l.length:=J
 obtain⟨k',s',n',A3,he,_,_,XH,Z⟩:=qM ha hj;obtain⟨z,hA,hB⟩:=C9 _ A3 (ax _) Z k' n' s' lc;have e1:tk.at (j:Int)=dL [.i k',s',.i n',A3]:=by rw [bG hj,he]
 unfold ev;rw [e1];simp only [zg,ay,zM,hA,hB,bP]
theorem ao0 (h:x.a<(Nc d1 t:Int)) (n1:((fN d1 t x).V 0).n=1):((fN d1 t x).V 6).l.length<=1:=by have hC:=ajD h0 U S hn R;have ht:=hC.2.2.2 _ (R.c.at R.r.t0 R.r.t1);have hy:=ht.2.2 (fN d1 t x) (J! R.r.ok.1 h);have hi:=hy.1;rw [n1] at hi;unfold sg at hi;have:=ew ((fN d1 t x).V 1).n;omega
theorem CO:L 22350 [enc d0,enc d1,enc s,enc k,t]=some (gw d1 t x):=by
 have hr:=tD h0 U S hn R;have c1: ¬t<0:=by have:=R.r.t0; omega
 have c2:=R.r.t1;have c3: ¬x.a<0:=by have:=R.r.ok.1; omega
 have ht:=R.ht;have hk:=R.hk;unfold gw;rw [bI,Tj];by_cases w0:x.w=0
 ·by_cases a0:x.a=(Nc d1 t:Int)
  ·rw [ag w0,ag a0];unfold Nc at a0;simp only [wg,zz,hr,eB,c1,c2,ht,hk,zg,ay,w0,a0];rfl
  ·have gy:x.a<(Nc d1 t:Int):=by have:=R.r.ok.2.1; unfold Nc at a0 ⊢; omega
   have F:=R.c.inf R.r gy;have hA:=ao0 h0 U S hn R gy;have hE:=fun (lc:D)=>akL h0 U S hn R (lc:=lc) F.ar (i:=0);rw [ag w0,af a0];unfold EN;unfold fN at F hA hE ⊢;unfold Nc at gy a0;by_cases n1:((((d1.at t).V 2).at x.a).V 0).n=1
   ·have hA:=hA n1;rw [ag n1];by_cases z0:(0:Int)<(((((d1.at t).V 2).at x.a).V 6).l.length:Int)
    ·have hE:=hE x.lc J z0;have z1:(((((d1.at t).V 2).at x.a).V 6).l.length:Int)-1=0:=J
     rw [af J,z1];simp only [wg,zz,hr,eB,c1,c2,c3,ht,hk,zg,ay,w0,a0,gy,n1,z0,hE];rfl
    ·rw [ag J];simp only [wg,zz,hr,eB,c1,c2,c3,ht,hk,zg,ay,w0,a0,gy,n1,z0];rfl
   ·rw [af n1];by_cases n2:((((d1.at t).V 2).at x.a).V 0).n=2
    ·rw [ag n2];simp only [wg,zz,hr,eB,c1,c2,c3,ht,hk,zg,ay,w0,a0,gy,n2,Int.reduceEq];rfl
    ·rw [af n2];simp only [wg,zz,hr,eB,c1,c2,c3,ht,hk,zg,ay,w0,a0,gy,n1,n2];rfl
 ·rw [af w0];simp only [wg,zz,hr,eB,c1,c2,ht,hk,zg,ay,w0];rfl
end
end Go.As.Try
end

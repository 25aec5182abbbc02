import Derived.Test.YtdcafdkkpdadbaaGreatDoorAsZJ9
set_option linter.unusedSectionVars false
set_option linter.unusedVariables false
set_option linter.unusedSimpArgs false
section
namespace Go.As.Try
open Go hiding Stat Spec shape
open Go.As
set_option maxRecDepth 100000
structure Kt (x:D) (a:Int) (lc:D) (w o g tr:Int):Prop where
 is:x=dL [.i a,lc,.i w,.i o,.i g,.i tr]
 ha:iT .i64 a
 hl:Wd (.sl 0) lc
 hw:iT .u8 w
 ho:iT .i64 o
 hg:iT .i64 g
 ht:iT .i64 tr
theorem nG {d:D} (h:Wd (.sl 8) d): ∀x∈d.l,∃a lc w o g tr,Kt x a lc w o g tr:=by
 intro x hx
 obtain⟨r,rfl,hl,hc⟩:=h.elN (cs:=[.int .i64,.sl 0,.int .u8,.int .i64,.int .i64,.int .i64]) rfl x hx
 obtain⟨a,b,c,d,e,f,rfl⟩:=six hl
 obtain⟨a,rfl,ha⟩:=(hc 0 _ _ rfl rfl).i
 obtain⟨w,rfl,hw⟩:=(hc 2 _ _ rfl rfl).i
 obtain⟨o,rfl,ho⟩:=(hc 3 _ _ rfl rfl).i
 obtain⟨g,rfl,hg⟩:=(hc 4 _ _ rfl rfl).i
 obtain⟨t,rfl,ht⟩:=(hc 5 _ _ rfl rfl).i
 exact⟨a,b,w,o,g,t,rfl,ha,hc 1 _ _ rfl rfl,hw,ho,hg,ht⟩
structure Tk (d:D):Prop where
 wd:Wd (.sl 8) d
 sh:d=dL d.l
 few:d.l.length≤2199023255500
theorem Vg {d:D} (h:Wd (.sl 8) d) (hn:0 < d.l.length):Tk d:=by
 refine⟨h,?_,?_⟩
 ·rcases h.sh with rfl | rfl | ⟨h1,_⟩
  ·simp [D.l] at hn
  ·simp [D.l] at hn
  ·exact h1
 ·have hr:=h.room
  have h3:yD 8=64:=rfl
  rw [h3] at hr
  omega
theorem I5 (a b c d e f x:D):iK [a,b,c,d,e,f] 1 x= [a,x,c,d,e,f]:=rfl
theorem aP (j:Nat) (xs:List Int):fin L (.jump j xs)=L j xs:=rfl
theorem bK (ys:List Int):fin L (.out ys)=some ys:=rfl
def EN (lc:D):Int:=if 0 < lc.l.length then 3 else 4
theorem Xj {lc:D} (h:(0:Int) < (lc.l.length:Int)):EN lc=3:=if_pos (by omega)
theorem UL (d:D) (h:Th d) (x0:Int) (k:D): ∀(j i:Nat),i+j=d.l.length→L 9051 [x0,(d.l.length:Int),(i:Int),enc d,enc k]=L 9060 [x0,(k.l.length:Int),0,enc d,enc k]
 | 0,i,hi=>by
   have c1: ¬(i:Int) < (d.l.length:Int):=by omega
   rw [aT,anC]
   simp only [Z7,zz,aG.den,Nat.reduceLT,c1,aP,Int.natCast_zero]
 | j+1,i,hi=>by
   have hl:=h.few
   have hil:i < d.l.length:=by omega
   have c1:(i:Int) < (d.l.length:Int):=by omega
   have c2: ¬((i:Int) < 0):=by omega
   have w:=aY (n:=i) (by omega)
   have ih:=UL d h x0 k j (i+1) (by omega)
   obtain⟨o,c,dn,g,r,v,he,_,_,_,_,hr,hv⟩:=h.wd.thing _ (List.getElem_mem hil)
   have hs:=set_self h.sh hil
   rw [he] at hs
   rw [aT,anC]
   rcases cZ hr with rfl | rfl | ⟨r1,r2⟩ <;> rcases cZ hv with rfl | rfl | ⟨v1,v2⟩
   all_goals
    simp only [Z7,zz,aG.den,Nat.reduceLT,c1,c2,w,bC hil,he,dR,aX,List.getElem?_cons_zero,List.getElem?_cons_succ,Tc,S9,hs,len1,len2,xM,pW]
    try simp only [r1,r2,zz]
    try simp only [v1,v2,zz]
    try simp only [aP]
    exact ih
theorem acY (d:D) (h:Th d) (x0:Int): ∀(j i:Nat),i+j=d.l.length→L 9052 [x0,(d.l.length:Int),(i:Int),enc d]=L 9061 [x0,enc d]
 | 0,i,hi=>by
   have c1: ¬(i:Int) < (d.l.length:Int):=by omega
   rw [aT,anB]
   simp only [Z5,zz,aG.den,Nat.reduceLT,c1,aP,Int.natCast_zero]
 | j+1,i,hi=>by
   have hl:=h.few
   have hil:i < d.l.length:=by omega
   have c1:(i:Int) < (d.l.length:Int):=by omega
   have c2: ¬((i:Int) < 0):=by omega
   have w:=aY (n:=i) (by omega)
   have ih:=acY d h x0 j (i+1) (by omega)
   obtain⟨o,c,dn,g,r,v,he,_,_,_,_,hr,hv⟩:=h.wd.thing _ (List.getElem_mem hil)
   have hs:=set_self h.sh hil
   rw [he] at hs
   rw [aT,anB]
   rcases cZ hr with rfl | rfl | ⟨r1,r2⟩ <;> rcases cZ hv with rfl | rfl | ⟨v1,v2⟩
   all_goals
    simp only [Z5,zz,aG.den,Nat.reduceLT,c1,c2,w,bC hil,he,dR,aX,List.getElem?_cons_zero,List.getElem?_cons_succ,Tc,S9,hs,len1,len2,xM,pW]
    try simp only [r1,r2,zz]
    try simp only [v1,v2,zz]
    try simp only [aP]
    exact ih
theorem adE (k:D) (h:Tk k) (x0:Int) (s:D): ∀(j i:Nat),(hx:x0 < 0∨(k.l.length:Int)≤x0)→i+j=k.l.length→L 9060 [x0,(k.l.length:Int),(i:Int),enc s,enc k]=some [0,x0,enc s,enc k]
 | 0,i,hx,hi=>by
   have c1: ¬(i:Int) < (k.l.length:Int):=by omega
   rw [aT,WU]
   by_cases c0:(i:Int)=x0
   ·subst c0
    simp only [EY,zz,aG.den,Nat.reduceLT,c1,bK]
   ·simp only [EY,zz,aG.den,Nat.reduceLT,c0,c1,bK]
 | j+1,i,hx,hi=>by
   have hl:=h.few
   have hil:i < k.l.length:=by omega
   have c1:(i:Int) < (k.l.length:Int):=by omega
   have c2: ¬((i:Int) < 0):=by omega
   have c0: ¬((i:Int)=x0):=by omega
   have w:=aY (n:=i) (by omega)
   have ih:=adE k h x0 s j (i+1) hx (by omega)
   obtain⟨a,lc,w',o,g,tr,T⟩:=nG h.wd _ (List.getElem_mem hil)
   have hs:=set_self h.sh hil
   rw [T.is] at hs
   rw [aT,WU]
   rcases cZ T.hl with rfl | rfl | ⟨r1,r2⟩
   all_goals
    simp only [EY,zz,aG.den,Nat.reduceLT,c0,c1,c2,w,bC hil,T.is,dR,aX,List.getElem?_cons_zero,List.getElem?_cons_succ,I5,hs,len1,len2,xM,pW]
    try simp only [r1,r2,zz]
    try simp only [aP]
    exact ih
theorem adD (k:D) (h:Tk k) (x0:Int): ∀(j i:Nat),(hx:x0 < 0∨(k.l.length:Int)≤x0)→i+j=k.l.length→L 9063 [x0,(k.l.length:Int),(i:Int),enc k]=some [0,x0,enc (.i 1),enc k]
 | 0,i,hx,hi=>by
   have c1: ¬(i:Int) < (k.l.length:Int):=by omega
   rw [aT,WT]
   by_cases c0:(i:Int)=x0
   ·subst c0
    simp only [EX,zz,aG.den,Nat.reduceLT,c1,bK]
   ·simp only [EX,zz,aG.den,Nat.reduceLT,c0,c1,bK]
 | j+1,i,hx,hi=>by
   have hl:=h.few
   have hil:i < k.l.length:=by omega
   have c1:(i:Int) < (k.l.length:Int):=by omega
   have c2: ¬((i:Int) < 0):=by omega
   have c0: ¬((i:Int)=x0):=by omega
   have w:=aY (n:=i) (by omega)
   have ih:=adD k h x0 j (i+1) hx (by omega)
   obtain⟨a,lc,w',o,g,tr,T⟩:=nG h.wd _ (List.getElem_mem hil)
   have hs:=set_self h.sh hil
   rw [T.is] at hs
   rw [aT,WT]
   rcases cZ T.hl with rfl | rfl | ⟨r1,r2⟩
   all_goals
    simp only [EX,zz,aG.den,Nat.reduceLT,c0,c1,c2,w,bC hil,T.is,dR,aX,List.getElem?_cons_zero,List.getElem?_cons_succ,I5,hs,len1,len2,xM,pW]
    try simp only [r1,r2,zz]
    try simp only [aP]
    exact ih
theorem adC (k:D) (h:Tk k) (gi:Nat) (x4 x5 x6 x7 x8 x9:Int) (s:D): ∀(j i:Nat),gi < i→i+j=k.l.length→L 9069 [(gi:Int),(k.l.length:Int),(i:Int),enc s,enc k,x4,x5,x6,x7,x8,x9]=some [3,(gi:Int),enc s,enc k,x4,x5,x6,x7,x8,x9]
 | 0,i,hg,hi=>by
   have c1: ¬(i:Int) < (k.l.length:Int):=by omega
   have c0: ¬((i:Int)=(gi:Int)):=by omega
   rw [aT,anA]
   simp only [Z4,zz,aG.den,Nat.reduceLT,c0,c1,bK]
 | j+1,i,hg,hi=>by
   have hl:=h.few
   have hil:i < k.l.length:=by omega
   have c1:(i:Int) < (k.l.length:Int):=by omega
   have c2: ¬((i:Int) < 0):=by omega
   have c0: ¬((i:Int)=(gi:Int)):=by omega
   have w:=aY (n:=i) (by omega)
   have ih:=adC k h gi x4 x5 x6 x7 x8 x9 s j (i+1) (by omega) (by omega)
   obtain⟨a,lc,w',o,g,tr,T⟩:=nG h.wd _ (List.getElem_mem hil)
   have hs:=set_self h.sh hil
   rw [T.is] at hs
   rw [aT,anA]
   rcases cZ T.hl with rfl | rfl | ⟨r1,r2⟩
   all_goals
    simp only [Z4,zz,aG.den,Nat.reduceLT,c0,c1,c2,w,bC hil,T.is,dR,aX,List.getElem?_cons_zero,List.getElem?_cons_succ,I5,hs,len1,len2,xM,pW]
    try simp only [r1,r2,zz]
    try simp only [aP]
    exact ih
theorem UN (k:D) (h:Tk k) (gi:Nat) (x4 x5 x6 x7 x8 x9:Int) (s:D): ∀(j i:Nat),gi < i→i+j=k.l.length→L 9070 [(gi:Int),(k.l.length:Int),(i:Int),enc s,enc k,x4,x5,x6,x7,x8,x9]=some [4,(gi:Int),enc s,enc k,x4,x5,x6,x7,x8,x9]
 | 0,i,hg,hi=>by
   have c1: ¬(i:Int) < (k.l.length:Int):=by omega
   have c0: ¬((i:Int)=(gi:Int)):=by omega
   rw [aT,amZ]
   simp only [ZY,zz,aG.den,Nat.reduceLT,c0,c1,bK]
 | j+1,i,hg,hi=>by
   have hl:=h.few
   have hil:i < k.l.length:=by omega
   have c1:(i:Int) < (k.l.length:Int):=by omega
   have c2: ¬((i:Int) < 0):=by omega
   have c0: ¬((i:Int)=(gi:Int)):=by omega
   have w:=aY (n:=i) (by omega)
   have ih:=UN k h gi x4 x5 x6 x7 x8 x9 s j (i+1) (by omega) (by omega)
   obtain⟨a,lc,w',o,g,tr,T⟩:=nG h.wd _ (List.getElem_mem hil)
   have hs:=set_self h.sh hil
   rw [T.is] at hs
   rw [aT,amZ]
   rcases cZ T.hl with rfl | rfl | ⟨r1,r2⟩
   all_goals
    simp only [ZY,zz,aG.den,Nat.reduceLT,c0,c1,c2,w,bC hil,T.is,dR,aX,List.getElem?_cons_zero,List.getElem?_cons_succ,I5,hs,len1,len2,xM,pW]
    try simp only [r1,r2,zz]
    try simp only [aP]
    exact ih
theorem adB (k:D) (h:Tk k) (gi:Nat) (x4 x5 x6 x7 x8 x9:Int): ∀(j i:Nat),gi < i→i+j=k.l.length→L 9071 [(gi:Int),(k.l.length:Int),(i:Int),enc k,x4,x5,x6,x7,x8,x9]=some [3,(gi:Int),enc (.i 1),enc k,x4,x5,x6,x7,x8,x9]
 | 0,i,hg,hi=>by
   have c1: ¬(i:Int) < (k.l.length:Int):=by omega
   have c0: ¬((i:Int)=(gi:Int)):=by omega
   rw [aT,amY]
   simp only [ZX,zz,aG.den,Nat.reduceLT,c0,c1,bK]
 | j+1,i,hg,hi=>by
   have hl:=h.few
   have hil:i < k.l.length:=by omega
   have c1:(i:Int) < (k.l.length:Int):=by omega
   have c2: ¬((i:Int) < 0):=by omega
   have c0: ¬((i:Int)=(gi:Int)):=by omega
   have w:=aY (n:=i) (by omega)
   have ih:=adB k h gi x4 x5 x6 x7 x8 x9 j (i+1) (by omega) (by omega)
   obtain⟨a,lc,w',o,g,tr,T⟩:=nG h.wd _ (List.getElem_mem hil)
   have hs:=set_self h.sh hil
   rw [T.is] at hs
   rw [aT,amY]
   rcases cZ T.hl with rfl | rfl | ⟨r1,r2⟩
   all_goals
    simp only [ZX,zz,aG.den,Nat.reduceLT,c0,c1,c2,w,bC hil,T.is,dR,aX,List.getElem?_cons_zero,List.getElem?_cons_succ,I5,hs,len1,len2,xM,pW]
    try simp only [r1,r2,zz]
    try simp only [aP]
    exact ih
theorem UM (k:D) (h:Tk k) (gi:Nat) (x4 x5 x6 x7 x8 x9:Int): ∀(j i:Nat),gi < i→i+j=k.l.length→L 9072 [(gi:Int),(k.l.length:Int),(i:Int),enc k,x4,x5,x6,x7,x8,x9]=some [4,(gi:Int),enc (.i 1),enc k,x4,x5,x6,x7,x8,x9]
 | 0,i,hg,hi=>by
   have c1: ¬(i:Int) < (k.l.length:Int):=by omega
   have c0: ¬((i:Int)=(gi:Int)):=by omega
   rw [aT,amX]
   simp only [ZW,zz,aG.den,Nat.reduceLT,c0,c1,bK]
 | j+1,i,hg,hi=>by
   have hl:=h.few
   have hil:i < k.l.length:=by omega
   have c1:(i:Int) < (k.l.length:Int):=by omega
   have c2: ¬((i:Int) < 0):=by omega
   have c0: ¬((i:Int)=(gi:Int)):=by omega
   have w:=aY (n:=i) (by omega)
   have ih:=UM k h gi x4 x5 x6 x7 x8 x9 j (i+1) (by omega) (by omega)
   obtain⟨a,lc,w',o,g,tr,T⟩:=nG h.wd _ (List.getElem_mem hil)
   have hs:=set_self h.sh hil
   rw [T.is] at hs
   rw [aT,amX]
   rcases cZ T.hl with rfl | rfl | ⟨r1,r2⟩
   all_goals
    simp only [ZW,zz,aG.den,Nat.reduceLT,c0,c1,c2,w,bC hil,T.is,dR,aX,List.getElem?_cons_zero,List.getElem?_cons_succ,I5,hs,len1,len2,xM,pW]
    try simp only [r1,r2,zz]
    try simp only [aP]
    exact ih
theorem adA (k:D) (h:Tk k) (s:D) (gi:Nat) (hgi:gi < k.l.length) (a:Int) (lc:D) (w o g tr:Int) (T:Kt k.l[gi] a lc w o g tr): ∀(j i:Nat),i+j=gi→L 9060 [(gi:Int),(k.l.length:Int),(i:Int),enc s,enc k]=some [EN lc,(gi:Int),enc s,enc k,a,enc lc,w,o,g,tr]
 | 0,i,hi=>by
   have hl:=h.few
   have he:i=gi:=by omega
   subst he
   have c1:(i:Int) < (k.l.length:Int):=by omega
   have c2: ¬((i:Int) < 0):=by omega
   have w':=aY (n:=i) (by omega)
   rw [aT,WU]
   rcases cZ T.hl with rfl | rfl | ⟨r1,r2⟩
   ·have ih:=UN k h i a (enc (.i 1)) w o g tr s (k.l.length - (i+1)) (i+1) (by omega) (by omega)
    simp only [EY,zz,aG.den,Nat.reduceLT,c1,c2,w',bC hgi,T.is,dR,aX,List.getElem?_cons_zero,List.getElem?_cons_succ,List.getElem?_nil,Option.getD_none,len1,len2,xM,pW,aP]
    exact ih
   ·have ih:=UN k h i a (enc (.i 2)) w o g tr s (k.l.length - (i+1)) (i+1) (by omega) (by omega)
    simp only [EY,zz,aG.den,Nat.reduceLT,c1,c2,w',bC hgi,T.is,dR,aX,List.getElem?_cons_zero,List.getElem?_cons_succ,List.getElem?_nil,Option.getD_none,len1,len2,xM,pW,aP]
    exact ih
   ·have ih:=adC k h i a (enc lc) w o g tr s (k.l.length - (i+1)) (i+1) (by omega) (by omega)
    simp only [EY,zz,aG.den,Nat.reduceLT,c1,c2,w',bC hgi,T.is,dR,aX,List.getElem?_cons_zero,List.getElem?_cons_succ,len1,len2,xM,pW]
    simp only [r1,r2,zz,aP]
    rw [Xj r1]
    exact ih
 | j+1,i,hi=>by
   have hl:=h.few
   have hil:i < k.l.length:=by omega
   have c1:(i:Int) < (k.l.length:Int):=by omega
   have c2: ¬((i:Int) < 0):=by omega
   have c0: ¬((i:Int)=(gi:Int)):=by omega
   have w1:=aY (n:=i) (by omega)
   have ih:=adA k h s gi hgi a lc w o g tr T j (i+1) (by omega)
   obtain⟨a',lc',w',o',g',tr',T'⟩:=nG h.wd _ (List.getElem_mem hil)
   have hs:=set_self h.sh hil
   rw [T'.is] at hs
   rw [aT,WU]
   rcases cZ T'.hl with rfl | rfl | ⟨r1,r2⟩
   all_goals
    simp only [EY,zz,aG.den,Nat.reduceLT,c0,c1,c2,w1,bC hil,T'.is,dR,aX,List.getElem?_cons_zero,List.getElem?_cons_succ,I5,hs,len1,len2,xM,pW]
    try simp only [r1,r2,zz]
    try simp only [aP]
    exact ih
theorem acZ (k:D) (h:Tk k) (gi:Nat) (hgi:gi < k.l.length) (a:Int) (lc:D) (w o g tr:Int) (T:Kt k.l[gi] a lc w o g tr): ∀(j i:Nat),i+j=gi→L 9063 [(gi:Int),(k.l.length:Int),(i:Int),enc k]=some [EN lc,(gi:Int),enc (.i 1),enc k,a,enc lc,w,o,g,tr]
 | 0,i,hi=>by
   have hl:=h.few
   have he:i=gi:=by omega
   subst he
   have c1:(i:Int) < (k.l.length:Int):=by omega
   have c2: ¬((i:Int) < 0):=by omega
   have w':=aY (n:=i) (by omega)
   rw [aT,WT]
   rcases cZ T.hl with rfl | rfl | ⟨r1,r2⟩
   ·have ih:=UM k h i a (enc (.i 1)) w o g tr (k.l.length - (i+1)) (i+1) (by omega) (by omega)
    simp only [EX,zz,aG.den,Nat.reduceLT,c1,c2,w',bC hgi,T.is,dR,aX,List.getElem?_cons_zero,List.getElem?_cons_succ,List.getElem?_nil,Option.getD_none,len1,len2,xM,pW,aP]
    exact ih
   ·have ih:=UM k h i a (enc (.i 2)) w o g tr (k.l.length - (i+1)) (i+1) (by omega) (by omega)
    simp only [EX,zz,aG.den,Nat.reduceLT,c1,c2,w',bC hgi,T.is,dR,aX,List.getElem?_cons_zero,List.getElem?_cons_succ,List.getElem?_nil,Option.getD_none,len1,len2,xM,pW,aP]
    exact ih
   ·have ih:=adB k h i a (enc lc) w o g tr (k.l.length - (i+1)) (i+1) (by omega) (by omega)
    simp only [EX,zz,aG.den,Nat.reduceLT,c1,c2,w',bC hgi,T.is,dR,aX,List.getElem?_cons_zero,List.getElem?_cons_succ,len1,len2,xM,pW]
    simp only [r1,r2,zz,aP]
    rw [Xj r1]
    exact ih
 | j+1,i,hi=>by
   have hl:=h.few
   have hil:i < k.l.length:=by omega
   have c1:(i:Int) < (k.l.length:Int):=by omega
   have c2: ¬((i:Int) < 0):=by omega
   have c0: ¬((i:Int)=(gi:Int)):=by omega
   have w1:=aY (n:=i) (by omega)
   have ih:=acZ k h gi hgi a lc w o g tr T j (i+1) (by omega)
   obtain⟨a',lc',w',o',g',tr',T'⟩:=nG h.wd _ (List.getElem_mem hil)
   have hs:=set_self h.sh hil
   rw [T'.is] at hs
   rw [aT,WT]
   rcases cZ T'.hl with rfl | rfl | ⟨r1,r2⟩
   all_goals
    simp only [EX,zz,aG.den,Nat.reduceLT,c0,c1,c2,w1,bC hil,T'.is,dR,aX,List.getElem?_cons_zero,List.getElem?_cons_succ,I5,hs,len1,len2,xM,pW]
    try simp only [r1,r2,zz]
    try simp only [aP]
    exact ih
structure Sk (s k:D):Prop where
 ws:Wd (.sl 7) s
 wk:Wd (.sl 8) k
 n2s:s≠.i 2
 n2k:k≠.i 2
theorem Yu {t:Nat} {d:D} (h:Wd (.sl t) d) (h2:d≠.i 2):d= .i 1∨0 < d.l.length:=by
 rcases h.sh with h1 | h1 | ⟨_,h1⟩
 ·exact .inl h1
 ·exact absurd h1 h2
 ·exact .inr (List.length_pos_iff.2 h1)
theorem asM (x0:Int) (s:D):L 9061 [x0,enc s]=some [1,x0,enc s]:=by
 rw [aT,awV]
 simp only [ahH,zz,aG.den,Nat.reduceLT]
 split <;> rfl
theorem asL (x0:Int):L 9064 [x0]=some [1,x0,enc (.i 1)]:=by
 rw [aT,awU]
 simp only [ahG,zz,aG.den,Nat.reduceLT]
 split <;> rfl
theorem amA (x0:Int) (k:D):L 9054 [x0,enc k]=L 9063 [x0,(k.l.length:Int),0,enc k]:=by
 rw [aT,awX]
 simp only [ahI,zz,aG.den,Nat.reduceLT,aP]
theorem aAJ (x0:Int):L 9055 [x0]=L 9064 [x0]:=by
 rw [aT,awW]
 rfl
section
variable {s k:D} (h:Sk s k)
include h
theorem RH {gi:Nat} (hgi:gi < k.l.length) {a:Int} {lc:D} {w o g tr:Int} (T:Kt k.l[gi] a lc w o g tr):L 9050 [(gi:Int),enc s,enc k]=some [EN lc,(gi:Int),enc s,enc k,a,enc lc,w,o,g,tr]:=by
 have hk:0 < k.l.length:=by omega
 have hK:=Vg h.wk hk
 have hl':=hK.few
 have c1':(0:Int) < (k.l.length:Int):=by omega
 have c2':(k.l.length:Int) < 2199023255552:=by omega
 rw [aT,anD]
 rcases Yu h.ws h.n2s with rfl | hs
 ·simp only [IW,zz,aG.den,Nat.reduceLT,len1,xM,c1',c2',aP]
  exact (amA _ k).trans (acZ k hK gi hgi a lc w o g tr T gi 0 (by omega))
 ·have hT:=IV h.ws hs
  have hl:=hT.few
  have c1:(0:Int) < (s.l.length:Int):=by omega
  have c2:(s.l.length:Int) < 1759218604441:=by omega
  simp only [IW,zz,aG.den,Nat.reduceLT,xM,c1,c2,c1',c2',aP]
  exact (UL s hT _ k s.l.length 0 (by omega)).trans (adA k hK s gi hgi a lc w o g tr T gi 0 (by omega))
theorem agD {x:Int} (hx:x < 0∨(k.l.length:Int)≤x):L 9050 [x,enc s,enc k]=some [0,x,enc s,enc k]∨L 9050 [x,enc s,enc k]=some [1,x,enc s]∧k= .i 1:=by
 rw [aT,anD]
 rcases Yu h.ws h.n2s with rfl | hs <;> rcases Yu h.wk h.n2k with rfl | hk
 ·refine .inr ⟨?_,rfl⟩
  simp only [IW,zz,aG.den,Nat.reduceLT,len1,xM,aP]
  exact (aAJ _).trans (asL _)
 ·have hK:=Vg h.wk hk
  have hl:=hK.few
  have c1:(0:Int) < (k.l.length:Int):=by omega
  have c2:(k.l.length:Int) < 2199023255552:=by omega
  refine .inl ?_
  simp only [IW,zz,aG.den,Nat.reduceLT,len1,xM,c1,c2,aP]
  exact (amA _ k).trans (adD k hK _ k.l.length 0 hx (by omega))
 ·have hT:=IV h.ws hs
  have hl:=hT.few
  have c1:(0:Int) < (s.l.length:Int):=by omega
  have c2:(s.l.length:Int) < 1759218604441:=by omega
  refine .inr ⟨?_,rfl⟩
  simp only [IW,zz,aG.den,Nat.reduceLT,len1,xM,c1,c2,aP]
  exact (acY s hT _ s.l.length 0 (by omega)).trans (asM _ s)
 ·have hT:=IV h.ws hs
  have hl:=hT.few
  have c1:(0:Int) < (s.l.length:Int):=by omega
  have c2:(s.l.length:Int) < 1759218604441:=by omega
  have hK:=Vg h.wk hk
  have hl':=hK.few
  have c1':(0:Int) < (k.l.length:Int):=by omega
  have c2':(k.l.length:Int) < 2199023255552:=by omega
  refine .inl ?_
  simp only [IW,zz,aG.den,Nat.reduceLT,xM,c1,c2,c1',c2',aP]
  exact (UL s hT _ k s.l.length 0 (by omega)).trans (adE k hK _ s k.l.length 0 hx (by omega))
end
end Go.As.Try
end
section
namespace Go.As.Try
open Go hiding Stat Spec shape
open Go.As
set_option maxRecDepth 100000
def EqI (a b:D) (i:Nat):Prop:= ∀(k:Nat) (h1:k < a.l.length) (h2:k < b.l.length),i≤k→(a.l[k]).n=(b.l[k]).n
theorem EqI.step {a b:D} {i:Nat} (h1:i < a.l.length) (h2:i < b.l.length) (h:(a.l[i]).n=(b.l[i]).n):EqI a b i↔EqI a b (i+1):=by
 constructor
 ·intro q k x y z
  exact q k x y (by omega)
 ·intro q k x y z
  by_cases hk:k=i
  ·subst hk
   exact h
  ·exact q k x y (by omega)
theorem EqI.end' {a b:D} {i:Nat} (h:a.l.length≤i):EqI a b i:=fun k h1 _ h3=>absurd h1 (by omega)
section
variable {a b:D} (hle:a.l.length=b.l.length) (hlen:a.l.length≤140737488351232)
include hle hlen
theorem QM: ∀(j i:Nat),i+j=a.l.length→∃c:Int,L 251 [enc a,enc b,(i:Int)]=some [c]∧(c=0∨c=1)∧(c=1↔EqI a b i)
 | 0,i,hi=>by
   have c1: ¬(i:Int) < (a.l.length:Int):=by omega
   refine⟨1,?_,.inr rfl,fun _=>EqI.end' (by omega),fun _=>rfl⟩
   rw [aT,e251]
   simp only [aiE,zz,aG.den,Nat.reduceLT,c1,fin]
 | j+1,i,hi=>by
   have hil:i < a.l.length:=by omega
   have hib:i < b.l.length:=by omega
   have c1:(i:Int) < (a.l.length:Int):=by omega
   have c2: ¬((i:Int) < 0):=by omega
   have c3:(i:Int) < (b.l.length:Int):=by omega
   have w:=aY (n:=i) (by omega)
   obtain⟨c,h1,h2,h3⟩:=QM j (i+1) (by omega)
   by_cases he:(a.l[i]).n=(b.l[i]).n
   ·refine⟨c,?_,h2,h3.trans (EqI.step hil hib he).symm⟩
    rw [aT,e251]
    simp only [aiE,zz,aG.den,Nat.reduceLT,c1,c2,c3,w,bC hil,bC hib,he,fin,h1]
   ·refine⟨0,?_,.inl rfl,fun h=>absurd h (by omega),fun h=>absurd (h i hil hib (Nat.le_refl i)) he⟩
    rw [aT,e251]
    simp only [aiE,zz,aG.den,Nat.reduceLT,c1,c2,c3,w,bC hil,bC hib,he,fin]
end
def aqI (a b:D):Prop:=a.l.length=b.l.length∧EqI a b 0
theorem afF (a b:D) (hlen:a.l.length≤140737488351232): ∃c:Int,L 250 [enc a,enc b]=some [c]∧(c=0∨c=1)∧(c=1↔aqI a b):=by
 by_cases hl:a.l.length=b.l.length
 ·obtain⟨c,h1,h2,h3⟩:=QM hl hlen a.l.length 0 (by omega)
  refine⟨c,?_,h2,h3.trans ⟨fun h=> ⟨hl,h⟩,fun h=>h.2⟩⟩
  have hl':(a.l.length:Int)=(b.l.length:Int):=by omega
  rw [aT,e250,arN,dS,if_pos,nZ]
  ·simp only [List.map,bP,bH,Nat.reduceLT,aN,aO,fin]
   exact h1
  ·simp only [iL,gY,bH,Nat.reduceLT,aN,aO,aC,iP]
   exact hl'
 ·refine⟨0,?_,.inl rfl,fun h=>absurd h (by omega),fun h=>absurd h.1 hl⟩
  have hl': ¬(a.l.length:Int)=(b.l.length:Int):=by omega
  rw [aT,e250,arN,dS,if_neg]
  ·simp only [jP,List.map,bP,fin]
  ·simp only [iL,gY,bH,Nat.reduceLT,aN,aO,aC,iP]
   exact hl'
theorem OX (x y:D) (hle:x.l.length=y.l.length) (hlen:x.l.length≤140737488351232) (x0 x1 x2:Int) (i:Nat) (hi:i < 9223372036854775807) (c:Int) (hc:c=0∨c=1) (h:L 201 [x0,x1,x2,((i+1:Nat):Int)]=some [c]) (x6 x7 x8 x9 x10 x12 x13 x14 x15 x16:Int) :
 ∀(j k:Nat),k+j=x.l.length→∃e:Int,L 202 [x0,x1,x2,(i:Int),(x.l.length:Int),(k:Int),x6,x7,x8,x9,x10,enc x,x12,x13,x14,x15,x16,enc y]=some [e]∧(e=0∨e=1)∧(e=1↔EqI x y k∧c=1)
 | 0,k,hk=>by
   have c1: ¬(k:Int) < (x.l.length:Int):=by omega
   have w:=aY (n:=i) (by omega)
   refine⟨c,?_,hc,fun h=> ⟨EqI.end' (by omega),h⟩,fun h=>h.2⟩
   rw [aT,auO]
   simp only [aiL,zz,aG.den,Nat.reduceLT,c1,w,fin,h]
 | j+1,k,hk=>by
   have hil:k < x.l.length:=by omega
   have hib:k < y.l.length:=by omega
   have c1:(k:Int) < (x.l.length:Int):=by omega
   have c2: ¬((k:Int) < 0):=by omega
   have c3:(k:Int) < (y.l.length:Int):=by omega
   have w:=aY (n:=k) (by omega)
   obtain⟨e,h1,h2,h3⟩:=OX x y hle hlen x0 x1 x2 i hi c hc h x6 x7 x8 x9 x10 x12 x13 x14 x15 x16 j (k+1) (by omega)
   by_cases he:(x.l[k]).n=(y.l[k]).n
   ·refine⟨e,?_,h2,h3.trans ⟨fun q=> ⟨(EqI.step hil hib he).2 q.1,q.2⟩,fun q=> ⟨(EqI.step hil hib he).1 q.1,q.2⟩⟩⟩
    rw [aT,auO]
    simp only [aiL,zz,aG.den,Nat.reduceLT,c1,c2,c3,w,bC hil,bC hib,he,fin,h1]
   ·refine⟨0,?_,.inl rfl,fun h=>absurd h (by omega),fun h=>absurd (h.1 k hil hib (Nat.le_refl k)) he⟩
    rw [aT,auO]
    simp only [aiL,zz,aG.den,Nat.reduceLT,c1,c2,c3,w,bC hil,bC hib,he,fin]
end Go.As.Try
end
section
namespace Go.As.Try
open Go hiding Stat Spec shape
open Go.As
set_option maxRecDepth 100000
theorem Hz (ρ) (a b:SB):((SB.and a b).den ρ=true)=(a.den ρ=true∧b.den ρ=true):=by simp [SB.den]
structure aEx (x y:D):Prop where
 o:(x.hd 0).n=(y.hd 0).n
 c:(x.hd 1).n=(y.hd 1).n
 d:(x.hd 2).n=0↔(y.hd 2).n=0
 g:(x.hd 3).n=(y.hd 3).n
 r:aqI (x.hd 4) (y.hd 4)
 v:aqI (x.hd 5) (y.hd 5)
def Xm (a b:D) (i:Nat):Prop:= ∀(k:Nat) (h1:k < a.l.length) (h2:k < b.l.length),i≤k→aEx a.l[k] b.l[k]
theorem bits {p q:Int}:((¬(¬p=0∧¬q=0))∧¬(¬¬p=0∧¬¬q=0))↔¬(p=0↔q=0):=by omega
def Ti (s:D):Prop:= ∀x∈s.l,(x.hd 4).l.length≤140737488351232∧(x.hd 5).l.length≤140737488351232
section
variable {a b:D} (hle:a.l.length=b.l.length) (hlen:a.l.length≤140737488351232) (hr:Ti a)
include hle hlen hr
theorem Pm: ∀(j i:Nat),i+j=a.l.length→∃c:Int,L 201 [enc a,enc b,(a.l.length:Int),(i:Int)]=some [c]∧(c=0∨c=1)∧(c=1↔Xm a b i)
 | 0,i,hi=>by
   have c1: ¬(i:Int) < (a.l.length:Int):=by omega
   refine⟨1,?_,.inr rfl,fun _ k h1 _ h3=>absurd h1 (by omega),fun _=>rfl⟩
   rw [aT,UF]
   simp only [t201,zz,aG.den,Nat.reduceLT,c1,fin]
 | j+1,i,hi=>by
   have hil:i < a.l.length:=by omega
   have hib:i < b.l.length:=by omega
   have c1:(i:Int) < (a.l.length:Int):=by omega
   have c2: ¬((i:Int) < 0):=by omega
   have c3:(i:Int) < (b.l.length:Int):=by omega
   obtain⟨c,h1,h2,h3⟩:=Pm j (i+1) (by omega)
   have hb:=hr _ (List.getElem_mem hil)
   by_cases b0:((a.l[i]).hd 0).n=((b.l[i]).hd 0).n
   case neg=>
    refine⟨0,?_,.inl rfl,fun h=>absurd h (by omega),fun h=>absurd (h i hil hib (Nat.le_refl i)).o b0⟩
    rw [aT,UF]
    simp only [t201,zz,aG.den,Nat.reduceLT,c1,c2,c3,bC hil,bC hib,b0,fin]
   by_cases b1:((a.l[i]).hd 1).n=((b.l[i]).hd 1).n
   case neg=>
    refine⟨0,?_,.inl rfl,fun h=>absurd h (by omega),fun h=>absurd (h i hil hib (Nat.le_refl i)).c b1⟩
    rw [aT,UF]
    simp only [t201,zz,aG.den,Nat.reduceLT,c1,c2,c3,bC hil,bC hib,b0,b1,fin]
   by_cases b2:(((a.l[i]).hd 2).n=0↔((b.l[i]).hd 2).n=0)
   case neg=>
    refine⟨0,?_,.inl rfl,fun h=>absurd h (by omega),fun h=>absurd (h i hil hib (Nat.le_refl i)).d b2⟩
    rw [aT,UF]
    have b2':=bits.2 b2
    simp only [t201,zz,aG.den,Nat.reduceLT,Hz,Lm,c1,c2,c3,bC hil,bC hib,b0,b1,if_pos b2',fin]
   have b2': ¬_:=fun h=>bits.1 h b2
   by_cases b3:((a.l[i]).hd 3).n=((b.l[i]).hd 3).n
   case neg=>
    refine⟨0,?_,.inl rfl,fun h=>absurd h (by omega),fun h=>absurd (h i hil hib (Nat.le_refl i)).g b3⟩
    rw [aT,UF]
    simp only [t201,zz,aG.den,Nat.reduceLT,Hz,Lm,c1,c2,c3,bC hil,bC hib,b0,b1,if_neg b2',b3,fin]
   obtain⟨e,g1,g2,g3⟩:=afF ((a.l[i]).hd 4) ((b.l[i]).hd 4) hb.1
   by_cases b4:e=0
   ·subst b4
    refine⟨0,?_,.inl rfl,fun h=>absurd h (by omega),fun h=>absurd (g3.2 (h i hil hib (Nat.le_refl i)).r) (by omega)⟩
    rw [aT,UF]
    simp only [t201,zz,aG.den,Nat.reduceLT,Hz,Lm,c1,c2,c3,bC hil,bC hib,b0,b1,if_neg b2',b3,g1,fin]
   have he:e=1:=by omega
   subst he
   by_cases b5:((a.l[i]).hd 5).l.length=((b.l[i]).hd 5).l.length
   case neg=>
    have b5': ¬(((a.l[i]).hd 5).l.length:Int)=(((b.l[i]).hd 5).l.length:Int):=by omega
    refine⟨0,?_,.inl rfl,fun h=>absurd h (by omega),fun h=>absurd (h i hil hib (Nat.le_refl i)).v.1 b5⟩
    rw [aT,UF]
    simp only [t201,zz,aG.den,Nat.reduceLT,Hz,Lm,c1,c2,c3,bC hil,bC hib,b0,b1,if_neg b2',b3,g1,aH,b5',fin]
   have b5':(((a.l[i]).hd 5).l.length:Int)=(((b.l[i]).hd 5).l.length:Int):=by omega
   obtain⟨f,f1,f2,f3⟩:=OX ((a.l[i]).hd 5) ((b.l[i]).hd 5) b5 hb.2 (enc a) (enc b) (a.l.length:Int) i (by omega) c h2 h1 ((b.l[i]).hd 0).n ((b.l[i]).hd 1).n ((a.l[i]).hd 2).n ((b.l[i]).hd 3).n (enc ((a.l[i]).hd 4)) ((b.l[i]).hd 0).n ((b.l[i]).hd 1).n ((b.l[i]).hd 2).n ((b.l[i]).hd 3).n (enc ((b.l[i]).hd 4)) ((a.l[i]).hd 5).l.length 0 (by omega)
   refine⟨f,?_,f2,fun h k k1 k2 k3=>?_,fun h=>f3.2 ⟨(h i hil hib (Nat.le_refl i)).v.2,h3.2 fun k k1 k2 k3=>h k k1 k2 (by omega)⟩⟩
   ·rw [aT,UF]
    rw [b5'] at f1
    simp only [t201,zz,aG.den,Nat.reduceLT,Hz,Lm,c1,c2,c3,bC hil,bC hib,b0,b1,if_neg b2',b3,g1,aH,b5',fin]
    exact f1
   ·by_cases hk:k=i
    ·subst hk
     exact⟨b0,b1,b2,b3,g3.1 rfl,b5,(f3.1 h).1⟩
    ·exact h3.1 (f3.1 h).2 k k1 k2 (by omega)
end
theorem aeA (a b:D) (hlen:a.l.length≤140737488351232) (hr:Ti a): ∃c:Int,L 200 [enc a,enc b]=some [c]∧(c=0∨c=1)∧(c=1↔a.l.length=b.l.length∧Xm a b 0):=by
 by_cases hl:a.l.length=b.l.length
 ·obtain⟨c,h1,h2,h3⟩:=Pm hl hlen hr a.l.length 0 (by omega)
  refine⟨c,?_,h2,h3.trans ⟨fun h=> ⟨hl,h⟩,fun h=>h.2⟩⟩
  have hl':(a.l.length:Int)=(b.l.length:Int):=by omega
  rw [aT,aB0,arO,dS,if_pos,nZ]
  ·simp only [List.map,bP,gY,iP,bH,Nat.reduceLT,aN,aO,aC,fin]
   exact h1
  ·simp only [iL,gY,bH,Nat.reduceLT,aN,aO,aC,iP]
   exact hl'
 ·refine⟨0,?_,.inl rfl,fun h=>absurd h (by omega),fun h=>absurd h.1 hl⟩
  have hl': ¬(a.l.length:Int)=(b.l.length:Int):=by omega
  rw [aT,aB0,arO,dS,if_neg]
  ·simp only [jP,List.map,bP,fin]
  ·simp only [iL,gY,bH,Nat.reduceLT,aN,aO,aC,iP]
   exact hl'
end Go.As.Try
end
section
namespace Go.As.Try
open Go hiding Stat Spec shape
open Go.As
set_option maxRecDepth 100000
end Go.As.Try
end
section
namespace Go.As.Try
open Go hiding Stat Spec shape
open Go.As
set_option maxRecDepth 100000
theorem agE {d0:D} (hl:d0.l.length≤64) (hn:0 < d0.l.length):L 301 [enc d0,(d0.l.length:Int)]=some [enc (dL (d0.l.map mO))]:=by
 have e0:=Ox d0 hl (d0.l.length - 1) 1 [mO (d0.l[0]'hn)] (by omega) rfl
 have e1:[mO (d0.l[0]'hn)]++(d0.l.drop 1).map mO=d0.l.map mO:=by
  conv=>rhs; rw [← List.drop_zero (l:=d0.l),List.drop_eq_getElem_cons hn]
  rfl
 rw [e1] at e0
 have a0:d0.at 0=d0.l[0]'hn:=bC (i:=0) hn
 have c1:(0:Int) < (d0.l.length:Int):=by omega
 have key: ∀q:Int,q=(if (((d0.l[0]'hn)).hd 0).n=3∨((d0.l[0]'hn).hd 0).n=9 then ((d0.l[0]'hn).hd 2).n else 0)→enc (dL [mO (d0.l[0]'hn)])=enc (.p (.p (.i (-1)) (.p (.i q) (.p (.i 0) (.p (.i 0) (.p (.i 1) (.p (.i 1) (.i 0))))))) (.i 0)):=fun q hq=>by rw [hq]; rfl
 have k:eF (dK L (low [enc d0,(d0.l.length:Int)])) XP= .jump 302 [enc (dL [mO (d0.l[0]'hn)]),enc d0,(d0.l.length:Int),1]:=by
  by_cases h3:((d0.l[0]'hn).hd 0).n=3
  ·rw [key _ (by rw [if_pos (.inl h3)])]
   simp only [XP,zz,aG.den,Nat.reduceLT,c1,a0,yG,List.nil_append,h3,dL]
  ·by_cases h9:((d0.l[0]'hn).hd 0).n=9
   ·rw [key _ (by rw [if_pos (.inr h9)])]
    simp only [XP,zz,aG.den,Nat.reduceLT,c1,a0,yG,List.nil_append,if_neg h3,if_pos h9,dL]
   ·rw [key 0 (by rw [if_neg (by omega)])]
    simp only [XP,zz,aG.den,Nat.reduceLT,c1,a0,yG,List.nil_append,if_neg h3,if_neg h9,dL]
 rw [aT,e301]
 exact (congrArg (fin L) k).trans e0
theorem aqC {d0 d1:D} (hc:L 450 [enc d0,enc d1]=some [0]) (hl:d0.l.length≤64) (hn:0 < d0.l.length):L 300 [enc d0,enc d1]=some [enc (dL (d0.l.map mO))]:=by
 have k:eF (dK L (low [enc d0,enc d1])) aiD= .jump 301 [enc d0,(d0.l.length:Int)]:=by
  refine bV [.eq (a0 450 [.aQ 0,.aQ 1]) (.lit 1),.eq (rr 450 [.aQ 0,.aQ 1] 0) (.lit 0)] [] (ju 301 [.aQ 0,ln (.aQ 0)]) (by simp only [zz,aG.den,Nat.reduceLT,hc]) (by kernel_rfl) ?_
  simp only [nZ,List.map,bH,gY,Nat.reduceLT,aN,aO,aC]
 rw [aT,e300]
 exact (congrArg (fin L) k).trans (agE hl hn)
theorem aqB {d0 d1:D} {c:Int} (hc:L 450 [enc d0,enc d1]=some [c]) (h:c≠0∨d0.l.length=0):L 300 [enc d0,enc d1]=some [enc (.i 1)]:=by
 by_cases h0:c=0
 ·subst h0
  have hz:d0.l.length=0:=h.resolve_left (fun h=>h rfl)
  have k:eF (dK L (low [enc d0,enc d1])) aiD= .jump 301 [enc d0,0]:=by
   refine bV [.eq (a0 450 [.aQ 0,.aQ 1]) (.lit 1),.eq (rr 450 [.aQ 0,.aQ 1] 0) (.lit 0)] [] (ju 301 [.aQ 0,ln (.aQ 0)]) (by simp only [zz,aG.den,Nat.reduceLT,hc]) (by kernel_rfl) ?_
   simp only [nZ,List.map,bH,gY,Nat.reduceLT,aN,aO,aC,hz]
   rfl
  have k1:eF (dK L (low [enc d0,0])) XP= .out [enc (.i 1)]:=by
   refine bV [] [.lt (.lit 0) (.aQ 1)] (ou [.dat (.i 1)]) (by simp only [zz,aG.den,Nat.reduceLT] <;> omega) (by kernel_rfl) rfl
  rw [aT,e300]
  refine (congrArg (fin L) k).trans ?_
  show L 301 [enc d0,0]=_
  rw [aT,e301]
  exact congrArg (fin L) k1
 ·have k:eF (dK L (low [enc d0,enc d1])) aiD= .out [enc (.i 1)]:=by
   refine bV [.eq (a0 450 [.aQ 0,.aQ 1]) (.lit 1)] [.eq (rr 450 [.aQ 0,.aQ 1] 0) (.lit 0)] (ou [.dat (.i 1)]) (by simp only [zz,aG.den,Nat.reduceLT,hc] <;> omega) (by kernel_rfl) rfl
  rw [aT,e300]
  exact congrArg (fin L) k
structure Gs (s:D) (n:Nat):Prop where
 wd:Wd (.sl 7) s
 rows: ∀x∈s.l,(x.hd 4).l.length≤n∧(x.hd 5).l.length≤n
theorem Gs.few {s:D} {n:Nat} (h:Gs s n) (hn:n < 17592186044415):few s:=fun x hx=>by have:=h.rows x hx; omega
theorem Gs.mono {s:D} {n m:Nat} (h:Gs s n) (hm:n≤m):Gs s m:=⟨h.wd,fun x hx=>by have:=h.rows x hx; omega⟩
theorem OV {l:List D} (h: ∀x∈l,CX x) (hn:l≠[]) (hl:l.length≤1759218604390):Wd (.sl 7) (dL l):=by
 have e:(l.map fun x=>x.l).map dL=l:=by
  rw [List.map_map]
  conv=>rhs; rw [← List.map_id l]
  apply List.map_congr_left
  intro x hx
  obtain⟨o,c,d,g,r,v,rfl,_⟩:=h x hx
  rfl
 rw [← e]
 refine .many 7 [.int .i64,.int .i64,.bool,.int .i64,.sl 0,.sl 0] _ rfl (by simpa using hn) (by have:yD 7=80:=rfl; rw [this,List.length_map]; omega) (fun r hr=>?_) fun r hr j d c h1 h2=>?_
 ·obtain⟨x,hx,rfl⟩:=List.mem_map.1 hr
  obtain⟨o,c,d,g,r,v,rfl,_⟩:=h x hx
  rfl
 ·obtain⟨x,hx,rfl⟩:=List.mem_map.1 hr
  obtain⟨o,c',d',g,r,v,rfl,ho,hc,hd,hg,hr,hv⟩:=h x hx
  rw [aX] at h1
  match j with
  | 0=>simp at h1 h2; subst h1 h2; exact .int _ _ ho
  | 1=>simp at h1 h2; subst h1 h2; exact .int _ _ hc
  | 2=>
    simp at h1 h2; subst h1 h2
    rcases hd with rfl | rfl
    ·exact .bool false
    ·exact .bool true
  | 3=>simp at h1 h2; subst h1 h2; exact .int _ _ hg
  | 4=>simp at h1 h2; subst h1 h2; exact hr
  | 5=>simp at h1 h2; subst h1 h2; exact hv
  | j+6=>simp at h1
theorem Tg.thing {x:D} {o c dn g:Int} {r v:D} (T:Tg x o c dn g r v):CX x:=⟨o,c,dn,g,r,v,T.is,T.ho,T.hc,T.hd,T.hg,T.hr,T.hv⟩
theorem Bg {l:List D} {z:Int} {y x:D} (h:x∈iK l z y):x∈l∨x=y:=by
 unfold iK at h
 split at h
 ·exact .inl h
 ·exact List.mem_or_eq_of_mem_set h
theorem YP {s:D} {n:Nat} (G:Gs s n) {z:Int} {y:D} (hy:CX y) (h4:(y.hd 4).l.length≤n) (h5:(y.hd 5).l.length≤n) (hn:0 < s.l.length):Gs (dL (iK s.l z y)) n:=by
 have ht:=IV G.wd hn
 refine⟨OV (fun x hx=>?_) (fun he=>?_) (by rw [iY]; exact ht.few),fun x hx=>?_⟩
 ·rcases Bg hx with h | rfl
  ·exact G.wd.thing x h
  ·exact hy
 ·have:=iY s.l z y
  rw [he] at this
  simp at this
  omega
 ·rw [aX] at hx
  rcases Bg hx with h | rfl
  ·exact G.rows x h
  ·exact⟨h4,h5⟩
theorem ajW (s:D) (obj M:Int) (A:Act):(aeJ s obj M A).l.length=s.l.length:=by
 cases A with
 | blk=>rfl
 | mis=>rfl
 | res o c dn g r v m a oc=>
   unfold aeJ
   rw [aX,iY]
   cases m with
   | none=>rfl
   | some q=>exact iY _ _ _
theorem asD {s:D} {n:Nat} (G:Gs s n) {obj M:Int} {A:Act} (hA:OE (n+1) A) (ho0:0≤obj) (ho1:obj < (s.l.length:Int)) (hM:NoM A∨0≤M∧M < (s.l.length:Int)):Gs (aeJ s obj M A) (n+1):=by
 have G1:=G.mono (Nat.le_succ n)
 cases A with
 | blk=>exact G1
 | mis=>exact G1
 | res o c dn g r v m a oc=>
   obtain⟨h1,h2,h3,h4,h5,h6,h7,h8,h9,_⟩:=hA
   have hd:(if dn=0 then (0:Int) else 1)=dn:=by rcases h3 with rfl | rfl <;> rfl
   have hy:CX (dL [.i o,.i c,.i (if dn=0 then 0 else 1),.i g,r,v]):=⟨o,c,_,g,r,v,rfl,h1,h2,by rw [hd]; exact h3,h4,h5,h7⟩
   cases m with
   | none=>exact YP G1 hy h6 h8 (by omega)
   | some q=>
     have hM:0≤M∧M < (s.l.length:Int):=hM.resolve_left (fun h=>by simp [NoM] at h)
     obtain⟨k,rfl⟩ : ∃k:Nat,M=(k:Int):=⟨M.toNat,by omega⟩
     have hk:k < s.l.length:=by omega
     obtain⟨o',c',d',g',r',v',he,q1,q2,q3,q4,q5,q6⟩:=G.wd.thing _ (List.getElem_mem hk)
     have hrw:=G1.rows _ (List.getElem_mem hk)
     rw [he] at hrw
     have hz:dL (iK (s.at (k:Int)).l 0 (.i q))=dL [.i q,.i c',.i d',.i g',r',v']:=by rw [bC hk,he]; rfl
     have G2:Gs (dL (iK s.l (k:Int) (dL (iK (s.at (k:Int)).l 0 (.i q))))) (n+1):=by
      rw [hz]
      exact YP G1 ⟨q,c',d',g',r',v',rfl,h9 q rfl,q2,q3,q4,q5,q6⟩ hrw.1 hrw.2 (by omega)
     have:=YP (z:=obj) G2 hy h6 h8 (by rw [aX,iY]; omega)
     rw [aX] at this
     exact this
def evA (th op obj:Int):Act→List Int
 | .blk=>[0,0,0,0,0,0]
 | .mis=>[th,27,obj,IntKind.i64.wrap op,0,2]
 | .res _ _ _ _ _ _ _ a oc=>[th,op,obj,a,0,oc]
theorem asK (s:D) (th op obj M:Int) (A:Act):outA s th op obj M A=enc (aeJ s obj M A) :: evA th op obj A:=by cases A <;> rfl
end Go.As.Try
end
section
namespace Go.As.Try
open Go hiding Stat Spec shape
open Go.As
set_option maxRecDepth 100000
theorem z6:((2:Int)=1)=False∧((4:Int)=3)=False∧((5:Int)=3)=False∧((5:Int)=4)=False∧((6:Int)=3)=False∧((6:Int)=4)=False∧((6:Int)=5)=False∧((7:Int)=3)=False∧((7:Int)=4)=False∧((7:Int)=5)=False∧((7:Int)=6)=False:=by simp
structure KT where
 a:Int
 lc:D
 w:Int
 o:Int
 g:Int
 tr:Int
abbrev KT.d (x:KT):D:=dL [.i x.a,x.lc,.i x.w,.i x.o,.i x.g,.i x.tr]
structure Cd (d0 d1:D):Prop where
 h0:Wd (.sl 3) d0
 h1:Wd (.sl 4) d1
 ok:Ic d0 d1
 ins: ∀x∈d1.l,abX d0 x
theorem MR.code {d0 d1 s k:D} (h0:Wd (.sl 3) d0) (h1:Wd (.sl 4) d1) (hr:H8 s) (M:MR d0 d1 s k):Cd d0 d1∧s.l.length=d0.l.length:=by
 obtain⟨b,hb,_,hi⟩:=yR h0 h1 hr
 rw [M.1] at hb
 simp only [Option.some.injEq,List.cons.injEq,and_true] at hb
 obtain⟨hC,hle,_⟩:=hi.1 hb.symm
 obtain⟨ys,hC',c,rfl,_,hok⟩:=Dq h0 h1
 rw [hC] at hC'
 simp only [Option.some.injEq,List.cons.injEq,and_true] at hC'
 have:=hok hC'.symm
 exact⟨⟨h0,h1,this.1,this.2⟩,hle⟩
structure Rt (d0 d1:D) (t:Int) (x:KT):Prop where
 t0:0≤t
 t1:t < (d1.l.length:Int)
 ok:OkT d0 ((d1.at t).hd 1).l.length ((d1.at t).hd 2).l.length x.a x.lc.l.length x.w x.o x.g x.tr
 hl:Wd (.sl 0) x.lc
 hg:iT .i64 x.g
abbrev Ins (d1:D) (t:Int) (x:KT):D:=((d1.at t).hd 2).at x.a
abbrev Nc (d1:D) (t:Int):Nat:=((d1.at t).hd 2).l.length
structure InF (d0:D) (nl nc:Nat) (I:D):Prop where
 ok:OkI d0 nl nc (I.hd 0).n (I.hd 1).n (I.hd 2).n (I.hd 3).n (I.hd 4).n (I.hd 6).l.length
 op:iT .u8 (I.hd 1).n
 ob:iT .i64 (I.hd 2).n
 to:iT .i64 (I.hd 4).n
 nn:iT .i64 (I.hd 5).n
 ar:Wd (.sl 6) (I.hd 6)
theorem Cd.at {d0 d1:D} (C:Cd d0 d1) {t:Int} (t0:0≤t) (t1:t < (d1.l.length:Int)):d1.at t∈d1.l:=by
 obtain⟨i,rfl⟩ : ∃i:Nat,t=(i:Int):=⟨t.toNat,by omega⟩
 rw [bC (by omega:i < d1.l.length)]
 exact List.getElem_mem _
theorem aAq {d:D} {i:Int} (h0:0≤i) (h1:i < (d.l.length:Int)):d.at i∈d.l:=by
 obtain⟨k,rfl⟩ : ∃k:Nat,i=(k:Int):=⟨i.toNat,by omega⟩
 rw [bC (by omega:k < d.l.length)]
 exact List.getElem_mem _
theorem Cd.code {d0 d1:D} (C:Cd d0 d1) {t:Int} (t0:0≤t) (t1:t < (d1.l.length:Int)):Wd (.sl 5) ((d1.at t).hd 2):=by
 obtain⟨i,rfl⟩ : ∃i:Nat,t=(i:Int):=⟨t.toNat,by omega⟩
 have hi:i < d1.l.length:=by omega
 obtain⟨nm',lc,cd,he,_,_,h⟩:=EW C.h1 hi
 rw [bC hi,he]
 exact h
theorem Cd.inf {d0 d1:D} (C:Cd d0 d1) {t:Int} {x:KT} (R:Rt d0 d1 t x) (h:x.a < (Nc d1 t:Int)):InF d0 ((d1.at t).hd 1).l.length (Nc d1 t) (Ins d1 t x):=by
 have ha:=R.ok.1
 have h1:=C.ins _ (C.at R.t0 R.t1) (Ins d1 t x) (aAq ha h)
 obtain⟨i,hi⟩ : ∃i:Nat,x.a=(i:Int):=⟨x.a.toNat,by omega⟩
 have hil:i < ((d1.at t).hd 2).l.length:=by unfold Nc at h; omega
 obtain⟨a,b,c,e,f,g,OH,he,_,hb,hc,_,hf,hg,hw⟩:=YJ (C.code R.t0 R.t1) hil
 have hI:Ins d1 t x=dL [.i a,.i b,.i c,.i e,.i f,.i g,OH]:=by unfold Ins; rw [hi,bC hil,he]
 refine⟨h1,?_,?_,?_,?_,?_⟩
 all_goals
  rw [hI]
  simp only [dR,List.getElem?_cons_zero,List.getElem?_cons_succ,Option.getD_some,n_i]
  assumption
theorem Rt.ints {d0 d1:D} {t:Int} {x:KT} (R:Rt d0 d1 t x):Ints x.lc:=fun y hy=>by
 obtain⟨n,rfl,hn⟩:=(R.hl.el1 rfl y hy).i
 exact hn
section
variable {d0 d1 s k:D} {t:Int} {x:KT} (hk:k.at t=x.d) (ht:t < (k.l.length:Int)) (R:Rt d0 d1 t x)
include hk ht R
def pK (d1:D) (t:Int) (x:KT):Int:=if x.w=0 then (if x.a=(Nc d1 t:Int) then 1 else 0) else 0
theorem JZ:L 1650 [enc d0,enc d1,enc s,enc k,t]=some [pK d1 t x]:=by
 have c1: ¬t < 0:=by have:=R.t0; omega
 have c2:=R.t1
 unfold pK Nc
 rw [aT,ayB]
 simp only [aiM,zz,aG.den,Nat.reduceLT,hk,c1,ht,c2,dR,List.getElem?_cons_zero,List.getElem?_cons_succ]
 by_cases w0:x.w=0
 ·simp only [w0,if_true]
  by_cases a0:x.a=(((d1.at t).hd 2).l.length:Int)
  ·simp only [a0,if_true]
   rfl
  ·simp only [a0,if_false]
   rfl
 ·simp only [w0,if_false]
  rfl
end
noncomputable def ev (e lc:D):Int:=low ((L 1950 [(e.hd 0).n,enc (e.hd 1),(e.hd 2).n,enc (e.hd 3),enc lc]).getD []) 0
theorem Wx {IK lc:D} (ha:Wd (.sl 6) IK) (hl:Ints lc) {i:Int} (i0:0≤i) (i1:i < (IK.l.length:Int)):L 1950 [((IK.at i).hd 0).n,enc ((IK.at i).hd 1),((IK.at i).hd 2).n,enc ((IK.at i).hd 3),enc lc]=some [ev (IK.at i) lc]∧iT .i64 (ev (IK.at i) lc):=by
 obtain⟨j,rfl⟩ : ∃j:Nat,i=(j:Int):=⟨i.toNat,by omega⟩
 have hj:j < IK.l.length:=by omega
 obtain⟨k',s',n',ks',he,_,_,hn',h2⟩:=Dh ha hj
 obtain⟨ys,hL,v,rfl,hv⟩:=Wv _ ks' (Nat.le_refl _) h2 k' n' s' lc hn' hl
 have e1:IK.at (j:Int)=dL [.i k',s',.i n',ks']:=by rw [bC hj,he]
 unfold ev
 rw [e1]
 simp only [dR,List.getElem?_cons_zero,List.getElem?_cons_succ,Option.getD_some,n_i,hL,aN]
 exact⟨trivial,hv⟩
noncomputable def Xf (IK lc:D):Int:=if IK.l.length=0 then 0 else ev (IK.at ((IK.l.length:Int) - 1)) lc
theorem avJ {IK lc:D} (ha:Wd (.sl 6) IK) (hl:Ints lc):iT .i64 (Xf IK lc):=by
 unfold Xf
 split
 ·constructor <;> omega
 ·exact (Wx ha hl (by omega) (by omega)).2
theorem QB {IK lc:D} (ha:Wd (.sl 6) IK) (hl:Ints lc) (x3 x5 x6 x7 x8 x9 x10:Int): ∀(j i:Nat) (v:Int),i+j=IK.l.length→L 1751 [enc IK,(IK.l.length:Int),(i:Int),x3,enc lc,x5,x6,x7,x8,x9,x10,v]=some [x9,x10,if j=0 then v else Xf IK lc,x8,1]
 | 0,i,v,hi=>by
   have c1: ¬(i:Int) < (IK.l.length:Int):=by omega
   rw [aT,anX]
   simp only [aaO,zz,aG.den,Nat.reduceLT,c1,bK,if_true]
 | j+1,i,v,hi=>by
   have hr:=ha.len
   have c1:(i:Int) < (IK.l.length:Int):=by omega
   have c2: ¬((i:Int) < 0):=by omega
   have w:=aY (n:=i) (by omega)
   obtain⟨he,_⟩:=Wx ha hl (i:=(i:Int)) (by omega) c1
   have ih:=QB ha hl x3 x5 x6 x7 x8 x9 x10 j (i+1) (ev (IK.at (i:Int)) lc) (by omega)
   rw [aT,anX]
   simp only [aaO,zz,aG.den,Nat.reduceLT,c1,c2,w,he,aP]
   rw [ih,if_neg (Nat.succ_ne_zero j)]
   by_cases hj:j=0
   ·subst hj
    rw [if_pos rfl]
    unfold Xf
    rw [if_neg (by omega),show ((IK.l.length:Int) - 1)=(i:Int) by omega]
   ·rw [if_neg hj]
noncomputable def xJ (d1:D) (t:Int) (x:KT):List Int:=
 if x.w=0 then
  if x.a=(Nc d1 t:Int) then [0,0,0,0,0]
  else if ((Ins d1 t x).hd 0).n=1 then [((Ins d1 t x).hd 1).n,((Ins d1 t x).hd 2).n,Xf ((Ins d1 t x).hd 6) x.lc,x.tr,1]
  else if ((Ins d1 t x).hd 0).n=2 then [26,((Ins d1 t x).hd 2).n,0,0,1]
  else [0,0,0,0,0]
 else [x.w,x.o,x.g,0,1]
section
variable {d0 d1 s k:D} {t:Int} {x:KT} (C:Cd d0 d1) (hk:k.at t=x.d) (ht:t < (k.l.length:Int)) (R:Rt d0 d1 t x)
include C hk ht R
theorem abD:L 1750 [enc d0,enc d1,enc s,enc k,t]=some (xJ d1 t x):=by
 have c1: ¬t < 0:=by have:=R.t0; omega
 have c2:=R.t1
 have c3: ¬x.a < 0:=by have:=R.ok.1; omega
 have ho:=JZ (s:=s) hk ht R
 unfold xJ
 rw [aT,ayA]
 by_cases w0:x.w=0
 ·by_cases a0:x.a=(Nc d1 t:Int)
  ·have e:pK d1 t x=1:=by unfold pK; rw [if_pos w0,if_pos a0]
   rw [e] at ho
   rw [if_pos w0,if_pos a0]
   simp only [KO,zz,aG.den,Nat.reduceLT,hk,c1,ht,c2,dR,List.getElem?_cons_zero,List.getElem?_cons_succ,w0,ho,aH,bK]
  ·have e:pK d1 t x=0:=by unfold pK; rw [if_pos w0,if_neg a0]
   rw [e] at ho
   have hlt:x.a < (Nc d1 t:Int):=by have:=R.ok.2.1; unfold Nc at a0 ⊢; omega
   have F:=C.inf R hlt
   rw [if_pos w0,if_neg a0]
   unfold Ins at F ⊢
   unfold Nc at hlt
   by_cases h1:((((d1.at t).hd 2).at x.a).hd 0).n=1
   ·rw [if_pos h1]
    have lp:=QB F.ar R.ints x.a x.w x.o x.g x.tr ((((d1.at t).hd 2).at x.a).hd 1).n ((((d1.at t).hd 2).at x.a).hd 2).n ((((d1.at t).hd 2).at x.a).hd 6).l.length 0 0 (by omega)
    have e2:(if ((((d1.at t).hd 2).at x.a).hd 6).l.length=0 then 0 else Xf ((((d1.at t).hd 2).at x.a).hd 6) x.lc)=Xf ((((d1.at t).hd 2).at x.a).hd 6) x.lc:=by
     by_cases hz:((((d1.at t).hd 2).at x.a).hd 6).l.length=0
     ·rw [if_pos hz]; unfold Xf; rw [if_pos hz]
     ·rw [if_neg hz]
    rw [e2] at lp
    simp only [KO,zz,aG.den,Nat.reduceLT,hk,c1,ht,c2,c3,dR,List.getElem?_cons_zero,List.getElem?_cons_succ,w0,ho,hlt,h1,aP]
    rw [w0] at lp
    exact lp
   ·by_cases h2:((((d1.at t).hd 2).at x.a).hd 0).n=2
    ·rw [if_neg h1,if_pos h2]
     simp only [KO,zz,aG.den,Nat.reduceLT,hk,c1,ht,c2,c3,dR,List.getElem?_cons_zero,List.getElem?_cons_succ,w0,ho,hlt,h2,bK,if_false,z6]
    ·rw [if_neg h1,if_neg h2]
     simp only [KO,zz,aG.den,Nat.reduceLT,hk,c1,ht,c2,c3,dR,List.getElem?_cons_zero,List.getElem?_cons_succ,w0,ho,hlt,h1,h2,bK]
 ·rw [if_neg w0]
  simp only [KO,zz,aG.den,Nat.reduceLT,hk,c1,ht,dR,List.getElem?_cons_zero,List.getElem?_cons_succ,w0,bK]
end
noncomputable def Bh (I:D) (x:KT):KT:=
 if (I.hd 0).n=3 then { x with a:=x.a+1,lc:=dL (iK x.lc.l (I.hd 3).n (.i (ev ((I.hd 6).at 0) x.lc))) }
 else if (I.hd 0).n=4 then (if ev ((I.hd 6).at 0) x.lc=0 then { x with a:=(I.hd 4).n } else { x with a:=x.a+1 })
 else if (I.hd 0).n=5 then { x with a:=(I.hd 4).n }
 else if (I.hd 0).n=6 then { x with a:=x.a+1,lc:=dL (iK x.lc.l (I.hd 3).n (.i (I.hd 5).n)) }
 else if 0 < (x.lc.at (I.hd 3).n).n then { x with a:=x.a+1,lc:=dL (iK x.lc.l (I.hd 3).n (.i (IntKind.i64.wrap ((x.lc.at (I.hd 3).n).n - 1)))) }
 else { x with a:=(I.hd 4).n }
structure Loc (d1:D) (t:Int) (x:KT):Prop where
 w:x.w=0
 a:x.a < (Nc d1 t:Int)
 n1:((Ins d1 t x).hd 0).n≠1
 n2:((Ins d1 t x).hd 0).n≠2
theorem akX {d0 d1:D} {t:Int} {x:KT} (R:Rt d0 d1 t x) (ho:pK d1 t x=0) (hn:low (xJ d1 t x) 4=0):Loc d1 t x:=by
 unfold pK at ho
 unfold xJ at hn
 have h2:=R.ok.2.1
 by_cases w0:x.w=0
 ·rw [if_pos w0] at ho hn
  by_cases a0:x.a=(Nc d1 t:Int)
  ·rw [if_pos a0] at ho
   omega
  ·rw [if_neg a0] at hn
   by_cases h1:((Ins d1 t x).hd 0).n=1
   ·rw [if_pos h1] at hn
    simp only [aO,aN] at hn
    omega
   ·by_cases h2':((Ins d1 t x).hd 0).n=2
    ·rw [if_neg h1,if_pos h2'] at hn
     simp only [aO,aN] at hn
     omega
    ·exact⟨w0,by unfold Nc at a0 ⊢; omega,h1,h2'⟩
 ·rw [if_neg w0] at hn
  simp only [aO,aN] at hn
  omega
section
variable {d0 d1 s k:D} {t:Int} {x:KT} (C:Cd d0 d1) (ht:t < (k.l.length:Int)) (R:Rt d0 d1 t x) (Lc:Loc d1 t x)
include C ht R Lc
theorem akW:L 14000 [enc d0,enc d1,t,enc s,enc k,x.a,enc x.lc,x.w,x.o,x.g,x.tr]=some [0,enc d0,enc d1,t,enc s,enc k,x.a,enc x.lc,x.w,x.o,x.g,x.tr,(Bh (Ins d1 t x) x).a,enc (Bh (Ins d1 t x) x).lc]:=by
 have c1: ¬t < 0:=by have:=R.t0; omega
 have c2:=R.t1
 have c3: ¬x.a < 0:=by have:=R.ok.1; omega
 have c4:=Lc.a
 have F:=C.inf R c4
 have hln:(x.lc.l.length:Int)=(((d1.at t).hd 1).l.length:Int):=R.ok.2.2.1
 have hnc:((d1.at t).hd 2).l.length≤140737488351232:=(C.code R.t0 R.t1).len
 have n1:=Lc.n1
 have n2:=Lc.n2
 have hw:IntKind.i64.wrap (x.a+1)=x.a+1:=by
  refine mM (by omega) ?_
  unfold Nc at c4
  omega
 have E:=Wx F.ar R.ints (i:=0)
 have ok:=F.ok
 unfold Ins at n1 n2 ok E ⊢
 unfold Nc at c4
 rw [aT,aoG]
 unfold Bh
 rcases ok with h | h | ⟨h,i0,i1,na⟩ | ⟨h,_,_,na⟩ | ⟨h,_⟩ | ⟨h,i0,i1⟩ | ⟨h,i0,i1,_⟩
 ·exact absurd h.1 n1
 ·exact absurd h.1 n2
 ·have c5: ¬(((((d1.at t).hd 2).at x.a).hd 3).n < 0):=by omega
  have c6:(((((d1.at t).hd 2).at x.a).hd 3).n < (x.lc.l.length:Int)):=by omega
  have c7:(0:Int) < (((((d1.at t).hd 2).at x.a).hd 6).l.length:Int):=by omega
  obtain⟨E,_⟩:=E (by omega) c7
  simp only [yL,zz,aG.den,Nat.reduceLT,c1,ht,c2,c3,c4,c5,c6,c7,h,E,hw,bK]
 ·have c7:(0:Int) < (((((d1.at t).hd 2).at x.a).hd 6).l.length:Int):=by omega
  obtain⟨E,_⟩:=E (by omega) c7
  by_cases hz:ev (((((d1.at t).hd 2).at x.a).hd 6).at 0) x.lc=0
  ·simp only [yL,zz,aG.den,Nat.reduceLT,c1,ht,c2,c3,c4,c7,h,E,hw,hz,bK,z6]
  ·simp only [yL,zz,aG.den,Nat.reduceLT,c1,ht,c2,c3,c4,c7,h,E,hw,hz,bK,z6]
 ·simp only [yL,zz,aG.den,Nat.reduceLT,c1,ht,c2,c3,c4,h,hw,bK,z6]
 ·have c5: ¬(((((d1.at t).hd 2).at x.a).hd 3).n < 0):=by omega
  have c6:(((((d1.at t).hd 2).at x.a).hd 3).n < (x.lc.l.length:Int)):=by omega
  simp only [yL,zz,aG.den,Nat.reduceLT,c1,ht,c2,c3,c4,c5,c6,h,hw,bK,z6]
 ·have c5: ¬(((((d1.at t).hd 2).at x.a).hd 3).n < 0):=by omega
  have c6:(((((d1.at t).hd 2).at x.a).hd 3).n < (x.lc.l.length:Int)):=by omega
  by_cases hz:0 < (x.lc.at ((((d1.at t).hd 2).at x.a).hd 3).n).n
  ·simp only [yL,zz,aG.den,Nat.reduceLT,c1,ht,c2,c3,c4,c5,c6,h,hw,hz,bK,z6]
  ·simp only [yL,zz,aG.den,Nat.reduceLT,c1,ht,c2,c3,c4,c5,c6,h,hw,hz,bK,z6]
theorem akV (hz:x.lc.l.length=0):L 14050 [enc d0,enc d1,t,enc s,enc k,x.a,enc x.lc,x.w,x.o,x.g,x.tr]=some [0,enc d0,enc d1,t,enc s,enc k,x.a,enc x.lc,x.w,x.o,x.g,x.tr,(Bh (Ins d1 t x) x).a]∧(Bh (Ins d1 t x) x).lc=x.lc:=by
 have c1: ¬t < 0:=by have:=R.t0; omega
 have c2:=R.t1
 have c3: ¬x.a < 0:=by have:=R.ok.1; omega
 have c4:=Lc.a
 have F:=C.inf R c4
 have hln:(x.lc.l.length:Int)=(((d1.at t).hd 1).l.length:Int):=R.ok.2.2.1
 have hnc:((d1.at t).hd 2).l.length≤140737488351232:=(C.code R.t0 R.t1).len
 have n1:=Lc.n1
 have n2:=Lc.n2
 have hw:IntKind.i64.wrap (x.a+1)=x.a+1:=by
  refine mM (by omega) ?_
  unfold Nc at c4
  omega
 have E:=Wx F.ar R.ints (i:=0)
 have ok:=F.ok
 unfold Ins at n1 n2 ok E ⊢
 unfold Nc at c4
 rw [aT,aoF]
 unfold Bh
 rcases ok with h | h | ⟨h,i0,i1,na⟩ | ⟨h,_,_,na⟩ | ⟨h,_⟩ | ⟨h,i0,i1⟩ | ⟨h,i0,i1,_⟩
 ·exact absurd h.1 n1
 ·exact absurd h.1 n2
 ·omega
 ·have c7:(0:Int) < (((((d1.at t).hd 2).at x.a).hd 6).l.length:Int):=by omega
  obtain⟨E,_⟩:=E (by omega) c7
  by_cases hz:ev (((((d1.at t).hd 2).at x.a).hd 6).at 0) x.lc=0
  ·simp only [KP,zz,aG.den,Nat.reduceLT,c1,ht,c2,c3,c4,c7,h,E,hw,hz,bK,z6]
  ·simp only [KP,zz,aG.den,Nat.reduceLT,c1,ht,c2,c3,c4,c7,h,E,hw,hz,bK,z6]
 ·simp only [KP,zz,aG.den,Nat.reduceLT,c1,ht,c2,c3,c4,h,hw,bK,z6]
 ·omega
 ·omega
theorem akU:Rt d0 d1 t (Bh (Ins d1 t x) x)∧(Bh (Ins d1 t x) x).lc.l.length=x.lc.l.length:=by
 have c4:=Lc.a
 have F:=C.inf R c4
 obtain⟨a0,a1,hln,tr0,tr1,hw⟩:=R.ok
 have n1:=Lc.n1
 have n2:=Lc.n2
 have ok:=F.ok
 have hI:=R.ints
 have hwd: ∀{z v:Int},0≤z→z < (x.lc.l.length:Int)→iT .i64 v→Wd (.sl 0) (dL (iK x.lc.l z (.i v))):=fun {z v} h0 h1 hv=>by
  have:=R.hl.room
  have h3:yD 0=8:=rfl
  rw [h3] at this
  have hs:=iY x.lc.l z (.i v)
  refine Ce (fun y hy=>?_) (fun he=>?_) (by rw [hs]; omega)
  ·rcases Bg hy with h | rfl
   ·exact (R.hl.el1 rfl y h).i
   ·exact⟨v,rfl,hv⟩
  ·rw [he] at hs
   simp only [List.length_nil] at hs
   omega
 have hsl: ∀z v,(dL (iK x.lc.l z v)).l.length=x.lc.l.length:=fun z v=>by rw [aX,iY]
 have T:=R.t0
 have T':=R.t1
 unfold Nc at c4 ok F
 unfold Bh
 have go: ∀{a:Int} {lc:D},0≤a→a≤(((d1.at t).hd 2).l.length:Int)→lc.l.length=x.lc.l.length→Wd (.sl 0) lc→Rt d0 d1 t { x with a:=a,lc:=lc }∧({ x with a:=a,lc:=lc }:KT).lc.l.length=x.lc.l.length:=fun h0 h1 h2 h3=> ⟨⟨T,T',⟨h0,h1,by rw [h2]; exact hln,tr0,tr1,hw⟩,h3,R.hg⟩,h2⟩
 rcases ok with h | h | ⟨h,i0,i1,na⟩ | ⟨h,t0,t1,na⟩ | ⟨h,t0,t1⟩ | ⟨h,i0,i1⟩ | ⟨h,i0,i1,t0,t1⟩
 ·exact absurd h.1 n1
 ·exact absurd h.1 n2
 ·rw [if_pos h]
  exact go (by omega) (by omega) (hsl _ _) (hwd i0 (by omega) (Wx F.ar hI (by omega) (by omega)).2)
 ·rw [if_neg (by omega),if_pos h]
  split
  ·exact go t0 t1 rfl R.hl
  ·exact go (by omega) (by omega) rfl R.hl
 ·rw [if_neg (by omega),if_neg (by omega),if_pos h]
  exact go t0 t1 rfl R.hl
 ·rw [if_neg (by omega),if_neg (by omega),if_neg (by omega),if_pos h]
  exact go (by omega) (by omega) (hsl _ _) (hwd i0 (by omega) F.nn)
 ·rw [if_neg (by omega),if_neg (by omega),if_neg (by omega),if_neg (by omega)]
  split
  ·exact go (by omega) (by omega) (hsl _ _) (hwd i0 (by omega) (wrap_in _))
  ·exact go t0 t1 rfl R.hl
end
end Go.As.Try
end
section
namespace Go.As.Try
open Go hiding Stat Spec shape
open Go.As
set_option maxRecDepth 100000
theorem z5:(∀p:Prop,(p∧False)=False)∧(∀p:Prop,(False∧p)=False)∧(¬True)=False∧(∀p:Prop,(p∧p)=p)∧(∀(a:Int) (l m:List Int),(a :: l)++m=a :: (l++m))∧(∀l:List Int,[]++l=l)∧((16:Int)=15)=False∧((3:Int)=0)=False∧((15:Int)=16)=False∧(∀ys:List Int,fin L (.out ys)=some ys):=
 ⟨and_false,false_and,not_true_eq_false,and_self,fun _ _ _=>rfl,fun _=>rfl,by simp,by simp,by simp,fun _=>rfl⟩
def agJ:Act→Prop
 | .res _ _ _ _ _ _ _ a _=>iT .i64 a
 | _=>True
theorem agJ.ite {p:Prop} [Decidable p] {a b:Act} (ha:agJ a) (hb:agJ b):agJ (if p then a else b):=by
 split
 ·exact ha
 ·exact hb
theorem aCn {r:D} (h:Wd (.sl 0) r) (i:Nat):iT .i64 (r.at (i:Int)).n:=by
 by_cases hi:i < r.l.length
 ·rw [bC hi]
  obtain⟨n,hn,hk⟩:=(h.el1 rfl _ (List.getElem_mem hi)).i
  rw [hn]
  exact hk
 ·rw [ZB,List.getElem?_eq_none (by omega)]
  constructor <;> (simp only [Option.getD_none,n_i]; omega)
theorem aEw {y:D} {M mo th op arg tries o c dn g:Int} {r v:D} (T:Tg y o c dn g r v) (hr:r.l.length≤140737488351232) (ha:iT .i64 arg):agJ (act M mo th op arg tries o c dn g r v):=by
 have hz:iT .i64 0:=⟨by omega,by omega⟩
 have h1:iT .i64 1:=⟨by omega,by omega⟩
 have w:=@wrap_in
 have hv:=aCn T.hv 0
 have hl:iT .i64 (r.l.length:Int):=⟨by omega,by omega⟩
 unfold act
 repeat' refine agJ.ite ?_ ?_
 all_goals first
  | trivial
  | exact hz
  | exact h1
  | exact w _
  | exact T.hc
  | exact ha
  | exact T.hg
  | exact hv
  | exact hl
def yK (I:D) (x:KT) (op e2 e3 e4 oc:Int):KT:=
 if oc=0 then (if op=4 then { x with tr:=if 4611686018427387904 < x.tr+1 then 4611686018427387904 else x.tr+1 } else x)
 else if x.w=0 then
  { a:=if (I.hd 0).n=1∧(I.hd 1).n=16∧¬(e2=16∧e4=1) then (I.hd 4).n else x.a+1,lc:=if (I.hd 0).n=1∧¬(I.hd 3).n < 0 then dL (iK x.lc.l (I.hd 3).n (.i e4)) else x.lc,w:=if oc=3 then (if e2=15 then 25 else 24) else 0,o:=if oc=3 then e3 else x.o,g:=if oc=3∧e2=15 then e4 else x.g,tr:=0 }
 else { x with w:=0,o:=0,g:=0,tr:=0 }
def evT (e1 e2 e3 e4 e5 oc:Int):List Int:=if oc=0 then [0,0,0,0,0] else [e1,e2,e3,e4,e5]
section
variable {d0 d1 s s' k:D} {t op obj arg tries e1 e2 e3 e4 e5 oc:Int} {x:KT} (C:Cd d0 d1) (ht:t < (k.l.length:Int)) (R:Rt d0 d1 t x)
 (hA:L 400 [enc d0,enc d1,enc s,t,op,obj,arg,tries]=some [enc s',e1,e2,e3,e4,e5,oc]) (h0:oc=0→s'=s) (hx:x.w=0→x.a < (Nc d1 t:Int))
include C ht R hA h0 hx
set_option maxHeartbeats 4000000 in
theorem ahA:L 14500 [enc d0,enc d1,t,op,obj,arg,tries,enc s,enc k,x.a,enc x.lc,x.w,x.o,x.g,x.tr]=some (0 :: enc d0 :: enc d1 :: t :: op :: obj :: arg :: tries :: enc s :: enc k :: x.a :: enc x.lc :: x.w :: x.o :: x.g :: x.tr :: (evT e1 e2 e3 e4 e5 oc++ [oc,enc s',(yK (Ins d1 t x) x op e2 e3 e4 oc).a,enc (yK (Ins d1 t x) x op e2 e3 e4 oc).lc,(yK (Ins d1 t x) x op e2 e3 e4 oc).w,(yK (Ins d1 t x) x op e2 e3 e4 oc).o,(yK (Ins d1 t x) x op e2 e3 e4 oc).g,(yK (Ins d1 t x) x op e2 e3 e4 oc).tr])):=by
 have c1: ¬t < 0:=by have:=R.t0; omega
 have c2:=R.t1
 have c3: ¬x.a < 0:=by have:=R.ok.1; omega
 have q0:=R.ok.2.2.2.1
 have q1:=R.ok.2.2.2.2.1
 have wt:IntKind.i64.wrap (x.tr+1)=x.tr+1:=mM (by omega) (by omega)
 rw [aT,aoD]
 unfold yK evT
 by_cases o0:oc=0
 ·have hs:=h0 o0
  subst hs
  subst o0
  by_cases p4:op=4
  ·subst p4
   by_cases pt:4611686018427387904 < x.tr+1
   ·simp only [fF,zz,aG.den,Nat.reduceLT,hA,c1,ht,wt,pt,bK,if_true,eq_self,List.cons_append,List.nil_append]
   ·simp only [fF,zz,aG.den,Nat.reduceLT,hA,c1,ht,wt,pt,bK,if_true,eq_self,if_false,List.cons_append,List.nil_append]
  ·simp only [fF,zz,aG.den,Nat.reduceLT,hA,c1,ht,p4,bK,if_true,if_false,List.cons_append,List.nil_append]
 ·by_cases w0:x.w=0
  ·have c4:=hx w0
   have F:=C.inf R c4
   have ok:=F.ok
   have hln:(x.lc.l.length:Int)=(((d1.at t).hd 1).l.length:Int):=R.ok.2.2.1
   have hnc:((d1.at t).hd 2).l.length≤140737488351232:=(C.code R.t0 R.t1).len
   unfold Nc at c4
   have hw:IntKind.i64.wrap (x.a+1)=x.a+1:=mM (by omega) (by omega)
   unfold OkI Ins at ok
   unfold Ins
   by_cases n1:((((d1.at t).hd 2).at x.a).hd 0).n=1
   ·have hin:((((d1.at t).hd 2).at x.a).hd 3).n= -1∨0≤((((d1.at t).hd 2).at x.a).hd 3).n∧((((d1.at t).hd 2).at x.a).hd 3).n < (x.lc.l.length:Int):=by
     rw [hln]
     omega
    by_cases i0:((((d1.at t).hd 2).at x.a).hd 3).n < 0
    ·by_cases p16:((((d1.at t).hd 2).at x.a).hd 1).n=16
     ·by_cases q16:e2=16
      ·by_cases q4:e4=1
       ·by_cases q3:oc=3
        ·simp only [fF,zz,aG.den,Nat.reduceLT,hA,c1,ht,c2,c3,c4,o0,w0,hw,n1,i0,p16,q16,q4,q3,z5]
        ·simp only [fF,zz,aG.den,Nat.reduceLT,hA,c1,ht,c2,c3,c4,o0,w0,hw,n1,i0,p16,q16,q4,q3,z5]
       ·by_cases q3:oc=3
        ·simp only [fF,zz,aG.den,Nat.reduceLT,hA,c1,ht,c2,c3,c4,o0,w0,hw,n1,i0,p16,q16,q4,q3,z5]
        ·simp only [fF,zz,aG.den,Nat.reduceLT,hA,c1,ht,c2,c3,c4,o0,w0,hw,n1,i0,p16,q16,q4,q3,z5]
      ·by_cases yS:e2=15
       ·by_cases q3:oc=3
        ·simp only [fF,zz,aG.den,Nat.reduceLT,hA,c1,ht,c2,c3,c4,o0,w0,hw,n1,i0,p16,q16,yS,q3,z5]
        ·simp only [fF,zz,aG.den,Nat.reduceLT,hA,c1,ht,c2,c3,c4,o0,w0,hw,n1,i0,p16,q16,yS,q3,z5]
       ·by_cases q3:oc=3
        ·simp only [fF,zz,aG.den,Nat.reduceLT,hA,c1,ht,c2,c3,c4,o0,w0,hw,n1,i0,p16,q16,yS,q3,z5]
        ·simp only [fF,zz,aG.den,Nat.reduceLT,hA,c1,ht,c2,c3,c4,o0,w0,hw,n1,i0,p16,q16,yS,q3,z5]
     ·by_cases yS:e2=15
      ·by_cases q3:oc=3
       ·simp only [fF,zz,aG.den,Nat.reduceLT,hA,c1,ht,c2,c3,c4,o0,w0,hw,n1,i0,p16,yS,q3,z5]
       ·simp only [fF,zz,aG.den,Nat.reduceLT,hA,c1,ht,c2,c3,c4,o0,w0,hw,n1,i0,p16,yS,q3,z5]
      ·by_cases q3:oc=3
       ·simp only [fF,zz,aG.den,Nat.reduceLT,hA,c1,ht,c2,c3,c4,o0,w0,hw,n1,i0,p16,yS,q3,z5]
       ·simp only [fF,zz,aG.den,Nat.reduceLT,hA,c1,ht,c2,c3,c4,o0,w0,hw,n1,i0,p16,yS,q3,z5]
    ·have i1:((((d1.at t).hd 2).at x.a).hd 3).n < (x.lc.l.length:Int):=by omega
     by_cases p16:((((d1.at t).hd 2).at x.a).hd 1).n=16
     ·by_cases q16:e2=16
      ·by_cases q4:e4=1
       ·by_cases q3:oc=3
        ·simp only [fF,zz,aG.den,Nat.reduceLT,hA,c1,ht,c2,c3,c4,o0,w0,hw,n1,i0,i1,p16,q16,q4,q3,z5]
        ·simp only [fF,zz,aG.den,Nat.reduceLT,hA,c1,ht,c2,c3,c4,o0,w0,hw,n1,i0,i1,p16,q16,q4,q3,z5]
       ·by_cases q3:oc=3
        ·simp only [fF,zz,aG.den,Nat.reduceLT,hA,c1,ht,c2,c3,c4,o0,w0,hw,n1,i0,i1,p16,q16,q4,q3,z5]
        ·simp only [fF,zz,aG.den,Nat.reduceLT,hA,c1,ht,c2,c3,c4,o0,w0,hw,n1,i0,i1,p16,q16,q4,q3,z5]
      ·by_cases yS:e2=15
       ·by_cases q3:oc=3
        ·simp only [fF,zz,aG.den,Nat.reduceLT,hA,c1,ht,c2,c3,c4,o0,w0,hw,n1,i0,i1,p16,q16,yS,q3,z5]
        ·simp only [fF,zz,aG.den,Nat.reduceLT,hA,c1,ht,c2,c3,c4,o0,w0,hw,n1,i0,i1,p16,q16,yS,q3,z5]
       ·by_cases q3:oc=3
        ·simp only [fF,zz,aG.den,Nat.reduceLT,hA,c1,ht,c2,c3,c4,o0,w0,hw,n1,i0,i1,p16,q16,yS,q3,z5]
        ·simp only [fF,zz,aG.den,Nat.reduceLT,hA,c1,ht,c2,c3,c4,o0,w0,hw,n1,i0,i1,p16,q16,yS,q3,z5]
     ·by_cases yS:e2=15
      ·by_cases q3:oc=3
       ·simp only [fF,zz,aG.den,Nat.reduceLT,hA,c1,ht,c2,c3,c4,o0,w0,hw,n1,i0,i1,p16,yS,q3,z5]
       ·simp only [fF,zz,aG.den,Nat.reduceLT,hA,c1,ht,c2,c3,c4,o0,w0,hw,n1,i0,i1,p16,yS,q3,z5]
      ·by_cases q3:oc=3
       ·simp only [fF,zz,aG.den,Nat.reduceLT,hA,c1,ht,c2,c3,c4,o0,w0,hw,n1,i0,i1,p16,yS,q3,z5]
       ·simp only [fF,zz,aG.den,Nat.reduceLT,hA,c1,ht,c2,c3,c4,o0,w0,hw,n1,i0,i1,p16,yS,q3,z5]
   ·by_cases yS:e2=15
    ·by_cases q3:oc=3
     ·simp only [fF,zz,aG.den,Nat.reduceLT,hA,c1,ht,c2,c3,c4,o0,w0,hw,n1,yS,q3,z5]
     ·simp only [fF,zz,aG.den,Nat.reduceLT,hA,c1,ht,c2,c3,c4,o0,w0,hw,n1,yS,q3,z5]
    ·by_cases q3:oc=3
     ·simp only [fF,zz,aG.den,Nat.reduceLT,hA,c1,ht,c2,c3,c4,o0,w0,hw,n1,yS,q3,z5]
     ·simp only [fF,zz,aG.den,Nat.reduceLT,hA,c1,ht,c2,c3,c4,o0,w0,hw,n1,yS,q3,z5]
  ·simp only [fF,zz,aG.den,Nat.reduceLT,hA,c1,ht,o0,w0,bK,if_true,if_false,List.cons_append,List.nil_append]
end
section
variable {d0 d1 s s' k:D} {t op obj arg tries e1 e2 e3 e4 e5 oc:Int} {x:KT} (C:Cd d0 d1) (ht:t < (k.l.length:Int)) (R:Rt d0 d1 t x)
 (hA:L 400 [enc d0,enc d1,enc s,t,op,obj,arg,tries]=some [enc s',e1,e2,e3,e4,e5,oc]) (h0:oc=0→s'=s) (hx:x.w=0→x.a < (Nc d1 t:Int)) (hz:x.lc.l.length=0)
include C ht R hA h0 hx hz
set_option maxHeartbeats 4000000 in
theorem agZ:L 14550 [enc d0,enc d1,t,op,obj,arg,tries,enc s,enc k,x.a,enc x.lc,x.w,x.o,x.g,x.tr]=some (0 :: enc d0 :: enc d1 :: t :: op :: obj :: arg :: tries :: enc s :: enc k :: x.a :: enc x.lc :: x.w :: x.o :: x.g :: x.tr :: (evT e1 e2 e3 e4 e5 oc++ [oc,enc s',(yK (Ins d1 t x) x op e2 e3 e4 oc).a,(yK (Ins d1 t x) x op e2 e3 e4 oc).w,(yK (Ins d1 t x) x op e2 e3 e4 oc).o,(yK (Ins d1 t x) x op e2 e3 e4 oc).g,(yK (Ins d1 t x) x op e2 e3 e4 oc).tr]))∧(yK (Ins d1 t x) x op e2 e3 e4 oc).lc=x.lc:=by
 have c1: ¬t < 0:=by have:=R.t0; omega
 have c2:=R.t1
 have c3: ¬x.a < 0:=by have:=R.ok.1; omega
 have q0:=R.ok.2.2.2.1
 have q1:=R.ok.2.2.2.2.1
 have wt:IntKind.i64.wrap (x.tr+1)=x.tr+1:=mM (by omega) (by omega)
 rw [aT,aoA]
 unfold yK evT
 by_cases o0:oc=0
 ·have hs:=h0 o0
  subst hs
  subst o0
  by_cases p4:op=4
  ·subst p4
   by_cases pt:4611686018427387904 < x.tr+1
   ·simp only [jO,zz,aG.den,Nat.reduceLT,hA,c1,ht,wt,pt,bK,if_true,eq_self,List.cons_append,List.nil_append] <;> exact⟨rfl,rfl⟩
   ·simp only [jO,zz,aG.den,Nat.reduceLT,hA,c1,ht,wt,pt,bK,if_true,eq_self,if_false,List.cons_append,List.nil_append] <;> exact⟨rfl,rfl⟩
  ·simp only [jO,zz,aG.den,Nat.reduceLT,hA,c1,ht,p4,bK,if_true,if_false,List.cons_append,List.nil_append] <;> exact⟨rfl,rfl⟩
 ·by_cases w0:x.w=0
  ·have c4:=hx w0
   have F:=C.inf R c4
   have ok:=F.ok
   have hln:(x.lc.l.length:Int)=(((d1.at t).hd 1).l.length:Int):=R.ok.2.2.1
   have hnc:((d1.at t).hd 2).l.length≤140737488351232:=(C.code R.t0 R.t1).len
   unfold Nc at c4
   have hw:IntKind.i64.wrap (x.a+1)=x.a+1:=mM (by omega) (by omega)
   unfold OkI Ins at ok
   unfold Ins
   by_cases n1:((((d1.at t).hd 2).at x.a).hd 0).n=1
   ·have hin:((((d1.at t).hd 2).at x.a).hd 3).n= -1∨0≤((((d1.at t).hd 2).at x.a).hd 3).n∧((((d1.at t).hd 2).at x.a).hd 3).n < (x.lc.l.length:Int):=by
     rw [hln]
     omega
    by_cases i0:((((d1.at t).hd 2).at x.a).hd 3).n < 0
    ·by_cases p16:((((d1.at t).hd 2).at x.a).hd 1).n=16
     ·by_cases q16:e2=16
      ·by_cases q4:e4=1
       ·by_cases q3:oc=3
        ·simp only [jO,zz,aG.den,Nat.reduceLT,hA,c1,ht,c2,c3,c4,o0,w0,hw,n1,i0,p16,q16,q4,q3,z5] <;> exact⟨rfl,rfl⟩
        ·simp only [jO,zz,aG.den,Nat.reduceLT,hA,c1,ht,c2,c3,c4,o0,w0,hw,n1,i0,p16,q16,q4,q3,z5] <;> exact⟨rfl,rfl⟩
       ·by_cases q3:oc=3
        ·simp only [jO,zz,aG.den,Nat.reduceLT,hA,c1,ht,c2,c3,c4,o0,w0,hw,n1,i0,p16,q16,q4,q3,z5] <;> exact⟨rfl,rfl⟩
        ·simp only [jO,zz,aG.den,Nat.reduceLT,hA,c1,ht,c2,c3,c4,o0,w0,hw,n1,i0,p16,q16,q4,q3,z5] <;> exact⟨rfl,rfl⟩
      ·by_cases yS:e2=15
       ·by_cases q3:oc=3
        ·simp only [jO,zz,aG.den,Nat.reduceLT,hA,c1,ht,c2,c3,c4,o0,w0,hw,n1,i0,p16,q16,yS,q3,z5] <;> exact⟨rfl,rfl⟩
        ·simp only [jO,zz,aG.den,Nat.reduceLT,hA,c1,ht,c2,c3,c4,o0,w0,hw,n1,i0,p16,q16,yS,q3,z5] <;> exact⟨rfl,rfl⟩
       ·by_cases q3:oc=3
        ·simp only [jO,zz,aG.den,Nat.reduceLT,hA,c1,ht,c2,c3,c4,o0,w0,hw,n1,i0,p16,q16,yS,q3,z5] <;> exact⟨rfl,rfl⟩
        ·simp only [jO,zz,aG.den,Nat.reduceLT,hA,c1,ht,c2,c3,c4,o0,w0,hw,n1,i0,p16,q16,yS,q3,z5] <;> exact⟨rfl,rfl⟩
     ·by_cases yS:e2=15
      ·by_cases q3:oc=3
       ·simp only [jO,zz,aG.den,Nat.reduceLT,hA,c1,ht,c2,c3,c4,o0,w0,hw,n1,i0,p16,yS,q3,z5] <;> exact⟨rfl,rfl⟩
       ·simp only [jO,zz,aG.den,Nat.reduceLT,hA,c1,ht,c2,c3,c4,o0,w0,hw,n1,i0,p16,yS,q3,z5] <;> exact⟨rfl,rfl⟩
      ·by_cases q3:oc=3
       ·simp only [jO,zz,aG.den,Nat.reduceLT,hA,c1,ht,c2,c3,c4,o0,w0,hw,n1,i0,p16,yS,q3,z5] <;> exact⟨rfl,rfl⟩
       ·simp only [jO,zz,aG.den,Nat.reduceLT,hA,c1,ht,c2,c3,c4,o0,w0,hw,n1,i0,p16,yS,q3,z5] <;> exact⟨rfl,rfl⟩
    ·omega
   ·by_cases yS:e2=15
    ·by_cases q3:oc=3
     ·simp only [jO,zz,aG.den,Nat.reduceLT,hA,c1,ht,c2,c3,c4,o0,w0,hw,n1,yS,q3,z5] <;> exact⟨rfl,rfl⟩
     ·simp only [jO,zz,aG.den,Nat.reduceLT,hA,c1,ht,c2,c3,c4,o0,w0,hw,n1,yS,q3,z5] <;> exact⟨rfl,rfl⟩
    ·by_cases q3:oc=3
     ·simp only [jO,zz,aG.den,Nat.reduceLT,hA,c1,ht,c2,c3,c4,o0,w0,hw,n1,yS,q3,z5] <;> exact⟨rfl,rfl⟩
     ·simp only [jO,zz,aG.den,Nat.reduceLT,hA,c1,ht,c2,c3,c4,o0,w0,hw,n1,yS,q3,z5] <;> exact⟨rfl,rfl⟩
  ·simp only [jO,zz,aG.den,Nat.reduceLT,hA,c1,ht,o0,w0,bK,if_true,if_false,List.cons_append,List.nil_append] <;> exact⟨rfl,rfl⟩
end
end Go.As.Try
end
section
namespace Go.As.Try
open Go hiding Stat Spec shape
open Go.As
set_option maxRecDepth 100000
structure Sx (s k:D) (n:Nat):Prop where
 g:Gs s n
 wk:Wd (.sl 8) k
 n2s:s≠.i 2
 n2k:k≠.i 2
theorem Sx.st {s k:D} {n:Nat} (S:Sx s k n):Sk s k:=⟨S.g.wd,S.wk,S.n2s,S.n2k⟩
theorem Sx.mono {s k:D} {n m:Nat} (S:Sx s k n) (h:n≤m):Sx s k m:=⟨S.g.mono h,S.wk,S.n2s,S.n2k⟩
abbrev AU (k:D) (t:Int) (x:KT):D:=dL (iK k.l t x.d)
theorem eY (a:D) (l:List D):dL (a :: l)= .p a (dL l):=rfl
theorem gZ:dL []= .i 0:=rfl
structure Tried (d0 d1 s:D) (t op obj arg tries:Int) (n:Nat) (s':D) (e1 e2 e3 e4 e5 oc:Int):Prop where
 eq:L 400 [enc d0,enc d1,enc s,t,op,obj,arg,tries]=some [enc s',e1,e2,e3,e4,e5,oc]
 no:oc=0→s'=s∧e1=0∧e2=0∧e3=0∧e4=0∧e5=0
 oc3:oc=0∨oc=2∨oc=3
 gs:Gs s' (n+1)
 len:s'.l.length=s.l.length
 n2:s≠.i 2→s'≠.i 2
 e3:iT .i64 e3
 e4:iT .i64 e4
theorem try_any {d0 d1 s:D} {t op obj arg tries:Int} {n:Nat} (h0:Wd (.sl 3) d0) (h1:Wd (.sl 4) d1) (G:Gs s n) (hn:n < 17592186043904) (ht:iT .i64 t) (hop:iT .u8 op) (hob:iT .i64 obj) (ha:iT .i64 arg) :
 ∃s' e1 e2 e3 e4 e5 oc,Tried d0 d1 s t op obj arg tries n s' e1 e2 e3 e4 e5 oc:=by
 have hf:=G.few (by omega:n < 17592186044415)
 have z:iT .i64 0:=⟨by omega,by omega⟩
 by_cases A:Acc d0 d1 s t op obj
 ·obtain⟨_,o,c,dn,g,r,v,T,hL⟩:=aqS (arg:=arg) (tries:=tries) h0 h1 G.wd hf hop A
  rw [asK] at hL
  have o0:=A.o0
  have o1:=A.o1
  obtain⟨i,rfl⟩ : ∃i:Nat,obj=(i:Int):=⟨obj.toNat,by omega⟩
  have hi:i < s.l.length:=by omega
  have hrow:=G.rows _ (List.getElem_mem hi)
  have e:s.l[i]=dL [.i o,.i c,.i dn,.i g,r,v]:=by rw [← bC hi]; exact T.is
  rw [e] at hrow
  have hA:=aB8 (M:=Mx d0 (i:Int)) (mo:=Mo d0 s (i:Int)) (op:=op) (tries:=tries) T (n:=n) hrow.1 hrow.2 (by omega) ht ha
  have hE:=aEw (M:=Mx d0 (i:Int)) (mo:=Mo d0 s (i:Int)) (th:=t) (op:=op) (tries:=tries) T (by have:=hrow.1; have:r.l.length≤n:=this; omega) ha
  have hM:NoM (act (Mx d0 (i:Int)) (Mo d0 s (i:Int)) t op arg tries o c dn g r v)∨0≤Mx d0 (i:Int)∧Mx d0 (i:Int) < (s.l.length:Int):=by
   by_cases h:op=12∨op=24
   ·have:=Xl h0 h1 G.wd hf hop A h
    exact .inr ⟨this.1,this.2.1⟩
   ·exact .inl (agG (by omega) (by omega))
  have hg:=asD G hA o0 o1 hM
  have hl:=ajW s (i:Int) (Mx d0 (i:Int)) (act (Mx d0 (i:Int)) (Mo d0 s (i:Int)) t op arg tries o c dn g r v)
  generalize act (Mx d0 (i:Int)) (Mo d0 s (i:Int)) t op arg tries o c dn g r v=B at *
  have hn2:s≠.i 2→aeJ s (i:Int) (Mx d0 (i:Int)) B≠.i 2:=fun _ he=>by
   rw [he] at hl
   have:(D.i 2).l.length=0:=rfl
   omega
  cases B with
  | blk=>exact⟨s,0,0,0,0,0,0,hL,fun _=> ⟨rfl,rfl,rfl,rfl,rfl,rfl⟩,.inl rfl,hg,rfl,fun h=>h,z,z⟩
  | mis=>exact⟨s,t,27,_,_,0,2,hL,fun h=>absurd h (by omega),.inr (.inl rfl),hg,rfl,fun h=>h,hob,wrap_in _⟩
  | res o' c' dn' g' r' v' m a oc=>exact⟨_,t,op,_,a,0,oc,hL,fun h=>by have:=hA.2.2.2.2.2.2.2.2.2; omega,.inr hA.2.2.2.2.2.2.2.2.2,hg,hl,hn2,hob,hE⟩
 ·exact⟨s,0,0,0,0,0,0,azJ h0 h1 G.wd hf hop A,fun _=> ⟨rfl,rfl,rfl,rfl,rfl,rfl⟩,.inl rfl,G.mono (Nat.le_succ n),rfl,fun h=>h,z,z⟩
noncomputable abbrev stE (d0 d1 s k:D) (t:Int):Nat→Int:=dK L (low [enc d0,enc d1,enc s,enc k,t])
theorem ajF {k:D} {t:Int} {x:KT} (h:k=dL k.l) (t0:0≤t) (t1:t < (k.l.length:Int)) (hk:k.at t=x.d):AU k t x=k:=by
 obtain⟨i,rfl⟩ : ∃i:Nat,t=(i:Int):=⟨t.toNat,by omega⟩
 have hi:i < k.l.length:=by omega
 rw [bC hi] at hk
 unfold AU
 rw [← hk]
 exact set_self h hi
section
variable {d0 d1 s k:D} {t:Int} {n:Nat} (S:Sx s k n)
include S
theorem aaT (hR:L 1550 [enc d0,enc d1,enc s,enc k,t]=some [0]):L 1850 [enc d0,enc d1,enc s,enc k,t]=some [enc s,enc k,0,0,0,0,0,0]:=by
 by_cases hr:t < 0∨(k.l.length:Int)≤t
 ·rcases agD S.st hr with h | ⟨h,he⟩
  ·have K:eF (stE d0 d1 s k t) IY= .out [enc s,enc k,0,0,0,0,0,0]:=by
    refine bV [.eq (a0 9050 RV) Q0,.eq wG Qa,ZG,ZF] [] (ou [JJ,XA,Qa,Qa,Qa,Qa,Qa,Qa]) (by simp only [zz,aG.den,Nat.reduceLT,h,hR] <;> omega) (by kernel_rfl) ?_
    simp only [zz,aG.den,Nat.reduceLT,h]
   rw [aT,NS]
   exact congrArg (fin L) K
  ·subst he
   have K:eF (stE d0 d1 s (.i 1) t) IY= .out [enc s,enc (.i 1),0,0,0,0,0,0]:=by
    refine bV [.eq (a0 9050 RV) Q0,.eq wG Q0,ZG,ZF] [.eq wG Qa] (ou [JJ,Qh,Qa,Qa,Qa,Qa,Qa,Qa]) (by simp only [zz,aG.den,Nat.reduceLT,h,hR] <;> omega) (by kernel_rfl) ?_
    simp only [zz,aG.den,Nat.reduceLT,h]
   rw [aT,NS]
   exact congrArg (fin L) K
 ·obtain⟨i,rfl⟩ : ∃i:Nat,t=(i:Int):=⟨t.toNat,by omega⟩
  have hi:i < k.l.length:=by omega
  obtain⟨a,lc,w,o,g,tr,T⟩:=nG S.wk _ (List.getElem_mem hi)
  have h:=RH S.st hi T
  have hs:AU k (i:Int) ⟨a,lc,w,o,g,tr⟩ = k:=ajF (Vg S.wk (by omega)).sh (by omega) (by omega) (by rw [bC hi,T.is])
  simp only [AU,KT.d,eY,gZ] at hs
  have ha:EN lc=3∨EN lc=4:=by unfold EN; split <;> simp
  have K:eF (stE d0 d1 s k (i:Int)) IY= .out [enc s,enc k,0,0,0,0,0,0]:=by
   rcases ha with ha | ha
   ·rw [ha] at h
    refine bV [.eq (a0 9050 RV) Q0,.eq wG tY,ZG,ZF] [.eq wG Qa,.eq wG Q0,.eq wG kY] (ou [JJ,Qp0,Qa,Qa,Qa,Qa,Qa,Qa]) (by simp only [zz,aG.den,Nat.reduceLT,h,hR] <;> omega) (by kernel_rfl) ?_
    simp only [zz,aG.den,Nat.reduceLT,h,hs]
   ·rw [ha] at h
    refine bV [.eq (a0 9050 RV) Q0,.eq wG EO,ZG,ZF] [.eq wG Qa,.eq wG Q0,.eq wG kY,.eq wG tY] (ou [JJ,Qp0,Qa,Qa,Qa,Qa,Qa,Qa]) (by simp only [zz,aG.den,Nat.reduceLT,h,hR] <;> omega) (by kernel_rfl) ?_
    simp only [zz,aG.den,Nat.reduceLT,h,hs]
  rw [aT,NS]
  exact congrArg (fin L) K
end
structure Rs (d0 d1 s k:D) (t:Int) (x:KT):Prop where
 c:Cd d0 d1
 r:Rt d0 d1 t x
 hk:k.at t=x.d
 ht:t < (k.l.length:Int)
 yes:L 1550 [enc d0,enc d1,enc s,enc k,t]=some [1]
theorem awM {d0 d1 s k:D} {t:Int} {n:Nat} (S:Sx s k n) (hn:n < 17592186043904) (h0:Wd (.sl 3) d0) (h1:Wd (.sl 4) d1):L 1550 [enc d0,enc d1,enc s,enc k,t]=some [0]∨∃x,Rs d0 d1 s k t x:=by
 obtain⟨ys,hL,b,rfl,hb⟩:=ajP (k:=k) h0 h1 (S.g.few (by omega)).rows h1.len t
 rcases hb with ⟨rfl,_⟩ | ⟨rfl,t0,t1,M⟩
 ·exact .inl hL
 ·refine .inr ?_
  obtain⟨hle,hO⟩:=M.2
  obtain⟨i,rfl⟩ : ∃i:Nat,t=(i:Int):=⟨t.toNat,by omega⟩
  have hi:i < k.l.length:=by omega
  have hd:i < d1.l.length:=by omega
  obtain⟨a,lc,w,o,g,tr,T⟩:=nG S.wk _ (List.getElem_mem hi)
  have ok:=hO i hi
  unfold OkK at ok
  rw [T.is] at ok
  simp only [dR,List.getElem?_cons_zero,List.getElem?_cons_succ,Option.getD_some,n_i] at ok
  refine⟨⟨a,lc,w,o,g,tr⟩,(MR.code h0 h1 (S.g.few (by omega)).rows M).1,⟨by omega,by omega,?_,T.hl,T.hg⟩,by rw [bC hi,T.is],by omega,hL⟩
  rw [bC hd]
  exact ok
section
variable {d0 d1 s k:D} {t:Int} {n:Nat} {x:KT} (S:Sx s k n) (R:Rs d0 d1 s k t x)
include S R
theorem Rs.cp:L 9050 [t,enc s,enc k]=some [EN x.lc,t,enc s,enc k,x.a,enc x.lc,x.w,x.o,x.g,x.tr]:=by
 have t0:=R.r.t0
 have ht:=R.ht
 obtain⟨i,rfl⟩ : ∃i:Nat,t=(i:Int):=⟨t.toNat,by omega⟩
 have hi:i < k.l.length:=by omega
 obtain⟨a,lc,w,o,g,tr,T⟩:=nG S.wk _ (List.getElem_mem hi)
 have h:=RH S.st hi T
 have e:=R.hk
 rw [bC hi,T.is] at e
 simp only [KT.d,eY,gZ,D.p.injEq,D.i.injEq,and_true] at e
 obtain⟨rfl,rfl,rfl,rfl,rfl,rfl⟩:=e
 exact h
theorem Rs.self:dL (iK k.l t (.p (.i x.a) (.p x.lc (.p (.i x.w) (.p (.i x.o) (.p (.i x.g) (.p (.i x.tr) (.i 0))))))))=k:=by
 have hl:0 < k.l.length:=by have:=R.r.t0; have:=R.ht; omega
 exact ajF (Vg S.wk hl).sh R.r.t0 R.ht R.hk
theorem adT (ho:pK d1 t x=1):L 1850 [enc d0,enc d1,enc s,enc k,t]=some [enc s,enc k,0,0,0,0,0,4]:=by
 have h:=R.cp S
 have hs:=R.self S
 have hR:=R.yes
 have hO:=JZ (s:=s) R.hk R.ht R.r
 rw [ho] at hO
 have ha:EN x.lc=3∨EN x.lc=4:=by unfold EN; split <;> simp
 have K:eF (stE d0 d1 s k t) IY= .out [enc s,enc k,0,0,0,0,0,4]:=by
  rcases ha with ha | ha
  ·rw [ha] at h
   refine bV [.eq (a0 9050 RV) Q0,.eq wG tY,ZG,.eq (a0 1650 RX) Q0] [.eq wG Qa,.eq wG Q0,.eq wG kY,ZF,Qp3] (ou [JJ,Qp0,Qa,Qa,Qa,Qa,Qa,EO]) (by simp only [zz,aG.den,Nat.reduceLT,h,hR,hs,hO] <;> omega) (by kernel_rfl) ?_
   simp only [zz,aG.den,Nat.reduceLT,h,hs]
  ·rw [ha] at h
   refine bV [.eq (a0 9050 RV) Q0,.eq wG EO,ZG,.eq (a0 1650 RX) Q0] [.eq wG Qa,.eq wG Q0,.eq wG kY,.eq wG tY,ZF,Qp3] (ou [JJ,Qp0,Qa,Qa,Qa,Qa,Qa,EO]) (by simp only [zz,aG.den,Nat.reduceLT,h,hR,hs,hO] <;> omega) (by kernel_rfl) ?_
   simp only [zz,aG.den,Nat.reduceLT,h,hs]
 rw [aT,NS]
 exact congrArg (fin L) K
theorem Yc (ho:pK d1 t x=0) (hn:low (xJ d1 t x) 4=0):L 1850 [enc d0,enc d1,enc s,enc k,t]=some [enc s,enc (AU k t (Bh (Ins d1 t x) x)),0,0,0,0,0,1]:=by
 have h:=R.cp S
 have hs:=R.self S
 have hR:=R.yes
 have hO:=JZ (s:=s) R.hk R.ht R.r
 have hN:=abD (s:=s) R.c R.hk R.ht R.r
 have Lc:=akX R.r ho hn
 rw [ho] at hO
 have K:eF (stE d0 d1 s k t) IY= .out [enc s,enc (AU k t (Bh (Ins d1 t x) x)),0,0,0,0,0,1]:=by
  have hw:(Bh (Ins d1 t x) x).w=x.w∧(Bh (Ins d1 t x) x).o=x.o∧(Bh (Ins d1 t x) x).g=x.g∧(Bh (Ins d1 t x) x).tr=x.tr:=by
   unfold Bh
   repeat' split
   all_goals exact⟨rfl,rfl,rfl,rfl⟩
  by_cases hp:0 < x.lc.l.length
  ·have ha:EN x.lc=3:=if_pos hp
   rw [ha] at h
   have hl:=akW (s:=s) R.c R.ht R.r Lc
   refine bV [.eq (a0 9050 RV) Q0,.eq wG tY,ZG,.eq (a0 1650 RX) Q0,Qp3,.eq (a0 1750 RX) Q0,Qp4,.eq (a0 14000 Qp5) Q0,.eq (rr 14000 Qp5 0) Qa] [.eq wG Qa,.eq wG Q0,.eq wG kY,ZF] (ou [JJ,.op .set XA (cn (mk bF) (cn (mk (rr 14000 Qp5 12)) (cn (rr 14000 Qp5 13) Qpz))),Qa,Qa,Qa,Qa,Qa,Q0]) (by simp only [zz,aG.den,Nat.reduceLT,h,hR,hs,hO,hN,hn,hl] <;> omega) (by kernel_rfl) ?_
   simp only [zz,aG.den,Nat.reduceLT,h,hs,hl,AU,KT.d,eY,gZ,hw]
  ·have ha:EN x.lc=4:=if_neg hp
   rw [ha] at h
   obtain⟨hl,hc⟩:=akV (s:=s) R.c R.ht R.r Lc (by omega)
   refine bV [.eq (a0 9050 RV) Q0,.eq wG EO,ZG,.eq (a0 1650 RX) Q0,Qp3,.eq (a0 1750 RX) Q0,Qp4,.eq (a0 14050 Qp5) Q0,.eq (rr 14050 Qp5 0) Qa] [.eq wG Qa,.eq wG Q0,.eq wG kY,.eq wG tY,ZF] (ou [JJ,.op .set XA (cn (mk bF) (cn (mk (rr 14050 Qp5 12)) (cn Qpu Qpz))),Qa,Qa,Qa,Qa,Qa,Q0]) (by simp only [zz,aG.den,Nat.reduceLT,h,hR,hs,hO,hN,hn,hl] <;> omega) (by kernel_rfl) ?_
   simp only [zz,aG.den,Nat.reduceLT,h,hs,hl,AU,KT.d,eY,gZ,hw,hc]
 rw [aT,NS]
 exact congrArg (fin L) K
theorem Yb {op obj arg tries e1 e2 e3 e4 e5 oc:Int} {s':D} (ho:pK d1 t x=0) (hn:xJ d1 t x= [op,obj,arg,tries,1]) (A:Tried d0 d1 s t op obj arg tries n s' e1 e2 e3 e4 e5 oc) :
 L 1850 [enc d0,enc d1,enc s,enc k,t]=some [enc s',enc (AU k t (yK (Ins d1 t x) x op e2 e3 e4 oc)),e1,e2,e3,e4,e5,oc]:=by
 have h:=R.cp S
 have hs:=R.self S
 have hR:=R.yes
 have hO:=JZ (s:=s) R.hk R.ht R.r
 have hN:=abD (s:=s) R.c R.hk R.ht R.r
 rw [ho] at hO
 rw [hn] at hN
 have hx:x.w=0→x.a < (Nc d1 t:Int):=fun w0=>by
  unfold pK at ho
  rw [if_pos w0] at ho
  have:=R.r.ok.2.1
  unfold Nc at ho ⊢
  split at ho <;> omega
 have hE:evT e1 e2 e3 e4 e5 oc= [e1,e2,e3,e4,e5]:=by
  unfold evT
  split
  ·rename_i h0
   obtain⟨_,rfl,rfl,rfl,rfl,rfl⟩:=A.no h0
   rfl
  ·rfl
 have K:eF (stE d0 d1 s k t) IY= .out [enc s',enc (AU k t (yK (Ins d1 t x) x op e2 e3 e4 oc)),e1,e2,e3,e4,e5,oc]:=by
  by_cases hp:0 < x.lc.l.length
  ·have ha:EN x.lc=3:=if_pos hp
   rw [ha] at h
   have hl:=ahA R.c R.ht R.r A.eq (fun h=>(A.no h).1) hx
   rw [hE] at hl
   simp only [List.cons_append,List.nil_append] at hl
   refine bV [.eq (a0 9050 RV) Q0,.eq wG tY,ZG,.eq (a0 1650 RX) Q0,Qp3,.eq (a0 1750 RX) Q0,.eq (a0 14500 qO) Q0,.eq (rr 14500 qO 0) Qa] [.eq wG Qa,.eq wG Q0,.eq wG kY,ZF,Qp4] (ou [rr 14500 qO 22,.op .set XA (cn (mk bF) (cn (mk (rr 14500 qO 23)) (cn (rr 14500 qO 24) (cn (mk (rr 14500 qO 25)) (cn (mk (rr 14500 qO 26)) (cn (mk (rr 14500 qO 27)) (cn (mk (rr 14500 qO 28)) lM))))))),rr 14500 qO 16,rr 14500 qO 17,rr 14500 qO 18,rr 14500 qO 19,rr 14500 qO 20,rr 14500 qO 21]) (by simp only [zz,aG.den,Nat.reduceLT,h,hR,hs,hO,hN,hl] <;> omega) (by kernel_rfl) ?_
   simp only [zz,aG.den,Nat.reduceLT,h,hs,hN,hl,AU,KT.d,eY,gZ]
  ·have ha:EN x.lc=4:=if_neg hp
   rw [ha] at h
   obtain⟨hl,hc⟩:=agZ R.c R.ht R.r A.eq (fun h=>(A.no h).1) hx (by omega)
   rw [hE] at hl
   simp only [List.cons_append,List.nil_append] at hl
   refine bV [.eq (a0 9050 RV) Q0,.eq wG EO,ZG,.eq (a0 1650 RX) Q0,Qp3,.eq (a0 1750 RX) Q0,.eq (a0 14550 qO) Q0,.eq (rr 14550 qO 0) Qa] [.eq wG Qa,.eq wG Q0,.eq wG kY,.eq wG tY,ZF,Qp4] (ou [rr 14550 qO 22,.op .set XA (cn (mk bF) (cn (mk (rr 14550 qO 23)) (cn Qpu (cn (mk (rr 14550 qO 24)) (cn (mk (rr 14550 qO 25)) (cn (mk (rr 14550 qO 26)) (cn (mk (rr 14550 qO 27)) lM))))))),rr 14550 qO 16,rr 14550 qO 17,rr 14550 qO 18,rr 14550 qO 19,rr 14550 qO 20,rr 14550 qO 21]) (by simp only [zz,aG.den,Nat.reduceLT,h,hR,hs,hO,hN,hl] <;> omega) (by kernel_rfl) ?_
   simp only [zz,aG.den,Nat.reduceLT,h,hs,hN,hl,AU,KT.d,eY,gZ,hc]
 rw [aT,NS]
 exact congrArg (fin L) K
end
end Go.As.Try
end
section
namespace Go.As.Try
open Go hiding Stat Spec shape
open Go.As
set_option maxRecDepth 100000
theorem Tot.jmp {j k:Nat} {xs ys:List Int} {t:T Lf} {p:List Int→Prop} (e:S.tree j=t) (h:eF (dK L (low xs)) t= .jump k ys) (q:Tot k ys p):Tot j xs p:=by
 refine Tot.of ?_
 rw [e,h]
 exact .jump q
theorem Tot.ret {j:Nat} {xs ys:List Int} {t:T Lf} {p:List Int→Prop} (e:S.tree j=t) (h:eF (dK L (low xs)) t= .out ys) (q:p ys):Tot j xs p:=by
 refine Tot.of ?_
 rw [e,h]
 exact .out q
theorem O7 (m:Nat) (hm:m≤60) (ih: ∀(k n:Int) (s kids:D),Wd .str s→Wd (.sl 6) kids→Tot 150 [k,enc s,n,enc kids,(m:Int)] one) (x3 x4 x5:Int) (kids:D) (hk:Wd (.sl 6) kids) :
 ∀(j i:Nat) (x1:Int),i+j=kids.l.length→Tot 151 [((m+1:Nat):Int),x1,(i:Int),x3,x4,x5,enc kids] one
 | 0,i,x1,hi=>Tot.ret auP (ys:=[x1]) (bV [] [.lt Qo ZK] (ou [Qb]) (by simp only [zz,aG.den,Nat.reduceLT] <;> omega) (by kernel_rfl) (by simp only [zz,aG.den,Nat.reduceLT])) ⟨x1,rfl⟩
 | j+1,i,x1,hi=>by
   have hl:=hk.len
   have hil:i < kids.l.length:=by omega
   have hw:=aY (n:=i) (by omega)
   obtain⟨k,s,n,ks,he,_,hs,_,hks⟩:=Dh hk hil
   have ha:kids.at (i:Int)=dL [.i k,s,.i n,ks]:=by rw [bC hil]; exact he
   obtain⟨ys,YO,z,rfl⟩:=ih k n s ks hs hks
   have hw2:IntKind.i64.wrap (((m+1:Nat):Int) - 1)=(m:Int):=by rw [mM (by omega) (by omega)]; omega
   by_cases hx:10000 < x1
   ·exact Tot.ret auP (ys:=[x1]) (bV [.lt Qo ZK,.lt (.lit 10000) Qb] [] (ou [Qb]) (by simp only [zz,aG.den,Nat.reduceLT] <;> omega) (by kernel_rfl) (by simp only [zz,aG.den,Nat.reduceLT])) ⟨x1,rfl⟩
   ·exact Tot.jmp auP (bV [.lt Qo ZK,.eq (a0 150 Qff) Q0] [.lt (.lit 10000) Qb,vN] (ju 151 [Qf,wr (.add Qb (rr 150 Qff 0)),mG,Qm,bF,bY,dP]) (by simp only [zz,aG.den,Nat.reduceLT,ha,dR,List.getElem?_cons_zero,List.getElem?_cons_succ,hw2,YO] <;> omega) (by kernel_rfl) (by simp only [zz,aG.den,Nat.reduceLT,ha,dR,List.getElem?_cons_zero,List.getElem?_cons_succ,hw2,YO,hw] <;> rfl)) (O7 m hm ih x3 x4 x5 kids hk j (i+1) (IntKind.i64.wrap (x1+z)) (by omega))
theorem Vs: ∀(m:Nat),m≤60→∀(k n:Int) (s kids:D),Wd .str s→Wd (.sl 6) kids→Tot 150 [k,enc s,n,enc kids,(m:Int)] one
 | 0,_,k,n,s,kids,_,_=>Tot.ret aB1 (ys:=[10000]) (bV [Qfc] [] (ou [.lit 10000]) (by simp only [zz,aG.den,Nat.reduceLT] <;> omega) (by kernel_rfl) (by simp only [zz,aG.den,Nat.reduceLT])) ⟨_,rfl⟩
 | m+1,hm,k,n,s,kids,hs,hk=>Tot.jmp aB1 (ys:=[((m+1:Nat):Int),_,(0:Nat),k,enc s,n,enc kids]) (bV [] [Qfc] (ju 151 [bF,wr (.add Q0 (wr (.quo Qc (.lit 100)))),Qa,Qf,Qb,Qo,Qm]) (by simp only [zz,aG.den,Nat.reduceLT] <;> omega) (by kernel_rfl) (by simp only [nZ,List.map,bH,Nat.reduceLT,aN,aO] <;> rfl)) (O7 m (by omega) (Vs m (by omega)) k (enc s) n kids hk kids.l.length 0 _ (by omega))
section
variable {d0 d1:D} (h1:Wd (.sl 4) d1)
include h1
theorem Nh (x1 x2 x3:Int) (OH:D) (ha:Wd (.sl 6) OH) (q: ∀x0,Tot 102 [x0,x1,IntKind.i64.wrap (x2+1),x3,enc d0,enc d1] ED): ∀(j i:Nat) (x0:Int),i+j=OH.l.length→Tot 103 [x0,x1,x2,x3,enc OH,(OH.l.length:Int),(i:Int),enc d0,enc d1] ED
 | 0,i,x0,hi=>Tot.jmp aB2 (bV [] [.lt dP bY] (ju 102 [Qf,Qb,mG,Qm,fC,fU]) (by simp only [zz,aG.den,Nat.reduceLT] <;> omega) (by kernel_rfl) (by simp only [zz,aG.den,Nat.reduceLT])) (q x0)
 | j+1,i,x0,hi=>by
   have hl:=ha.len
   have hil:i < OH.l.length:=by omega
   have hw:=aY (n:=i) (by omega)
   obtain⟨k,s,n,ks,he,_,hs,_,hks⟩:=Dh ha hil
   have hat:OH.at (i:Int)=dL [.i k,s,.i n,ks]:=by rw [bC hil]; exact he
   obtain⟨ys,YO,z,rfl⟩:=Vs 60 (by omega) k n s ks hs hks
   have YO:L 150 [k,enc s,n,enc ks,60]=some [z]:=YO
   exact Tot.jmp aB2 (bV [.lt dP bY,.lt dP XG,.eq (a0 150 Qfb) Q0] [Qe8] (ju 103 [wr (.add Qf (rr 150 Qfb 0)),Qb,Qo,Qm,bF,bY,wr (.add dP Q0),fC,fU]) (by simp only [zz,aG.den,Nat.reduceLT,hat,dR,List.getElem?_cons_zero,List.getElem?_cons_succ,YO] <;> omega) (by kernel_rfl) (by simp only [zz,aG.den,Nat.reduceLT,hat,dR,List.getElem?_cons_zero,List.getElem?_cons_succ,YO,hw] <;> rfl)) (Nh x1 x2 x3 OH ha q j (i+1) (IntKind.i64.wrap (x0+z)) (by omega))
theorem afK (i:Nat) (hi:i < d1.l.length) (q: ∀x0,Tot 101 [x0,(d1.l.length:Int),((i+1:Nat):Int),enc d0,enc d1] ED): ∀(j k:Nat) (x0:Int),(∀nm' lc cd,d1.l[i]=dL [nm',lc,cd]→k+j=cd.l.length)→Tot 102 [x0,(i:Int),(k:Int),(d1.l.length:Int),enc d0,enc d1] ED:=by
 have hl:=h1.len
 have hw:=aY (n:=i) (by omega)
 obtain⟨nm',lc,cd,he,_,_,hcd⟩:=EW h1 hi
 have hat:d1.at (i:Int)=dL [nm',lc,cd]:=by rw [bC hi]; exact he
 have hcl:=hcd.len
 intro j
 induction j with
 | zero=>
   intro k x0 hk
   have hk:=hk _ _ _ he
   exact Tot.jmp auQ (bV [.lt Qb Qe3] [Qe2,.lt Qo (ln (ce 2 Xo))] (ju 101 [Qf,Qm,Qe5,bF,bY]) (by simp only [zz,aG.den,Nat.reduceLT,hat,dR,List.getElem?_cons_zero,List.getElem?_cons_succ] <;> omega) (by kernel_rfl) (by simp only [zz,aG.den,Nat.reduceLT,hw] <;> rfl)) (q x0)
 | succ j ih=>
   intro k x0 hk
   have hk':=hk _ _ _ he
   by_cases h6:6000 < x0
   ·exact Tot.jmp auQ (bV [.lt Qb Qe3,.lt Qo (ln (ce 2 Xo)),.lt (.lit 6000) Qf] [Qe2] (ju 101 [Qf,Qm,Qe5,bF,bY]) (by simp only [zz,aG.den,Nat.reduceLT,hat,dR,List.getElem?_cons_zero,List.getElem?_cons_succ] <;> omega) (by kernel_rfl) (by simp only [zz,aG.den,Nat.reduceLT,hw] <;> rfl)) (q x0)
   ·have hkl:k < cd.l.length:=by omega
    have hw2:=aY (n:=k) (by omega)
    obtain⟨a,b,c,e,f,g,OH,hin,_,_,_,_,_,_,has⟩:=YJ hcd hkl
    have aE7:cd.at (k:Int)=dL [.i a,.i b,.i c,.i e,.i f,.i g,OH]:=by rw [bC hkl]; exact hin
    refine Tot.jmp auQ (bV [.lt Qb Qe3,.lt Qo (ln (ce 2 Xo))] [Qe2,.lt (.lit 6000) Qf,vN] (ju 103 [Qf,Qb,Qo,Qm,Qe7,ln Qe7,Qa,bF,bY]) (by simp only [zz,aG.den,Nat.reduceLT,hat,dR,List.getElem?_cons_zero,List.getElem?_cons_succ] <;> omega) (by kernel_rfl) (by simp only [zz,aG.den,Nat.reduceLT,hat,aE7,dR,List.getElem?_cons_zero,List.getElem?_cons_succ] <;> rfl)) (Nh h1 (i:Int) (k:Int) (d1.l.length:Int) OH has (fun x0=>?_) OH.l.length 0 x0 (by omega))
    rw [hw2]
    exact ih (k+1) x0 fun nm' lc cd he=>by have:=hk nm' lc cd he; omega
theorem Nb: ∀(j i:Nat) (x0:Int),i+j=d1.l.length→Tot 101 [x0,(d1.l.length:Int),(i:Int),enc d0,enc d1] ED
 | 0,i,x0,hi=>by
   by_cases h6:6000 < x0
   ·exact Tot.ret auR (bV [.lt (.lit 6000) Qf] [yH] (ou [Q0]) (by simp only [zz,aG.den,Nat.reduceLT] <;> omega) (by kernel_rfl) (by simp only [zz,aG.den,Nat.reduceLT])) yZ
   ·exact Tot.ret auR (bV [] [yH,.lt (.lit 6000) Qf] (ou [Qa]) (by simp only [zz,aG.den,Nat.reduceLT] <;> omega) (by kernel_rfl) (by simp only [zz,aG.den,Nat.reduceLT])) zA
 | j+1,i,x0,hi=>by
   have hil:i < d1.l.length:=by omega
   obtain⟨nm',lc,cd,he,_,_,hcd⟩:=EW h1 hil
   refine Tot.jmp auR (ys:=[_,(i:Int),((0:Nat):Int),(d1.l.length:Int),enc d0,enc d1]) (bV [yH,Qdk] [vN] (ju 102 [wr (.add Qf (wr (.add (ln Qdm) (ln (ce 2 Qdl))))),Qo,Qa,Qb,Qm,bF]) (by simp only [zz,aG.den,Nat.reduceLT] <;> omega) (by kernel_rfl) (by simp only [zz,aG.den,Nat.reduceLT] <;> rfl)) (afK h1 i hil (fun x0=>Nb j (i+1) x0 (by omega)) cd.l.length 0 _ fun n' l' c' he'=>?_)
   rw [he] at he'
   have:=Ob he'
   simp only [List.cons.injEq,and_true] at this
   rw [this.2.2]
   omega
theorem afJ:Tot 100 [enc d0,enc d1] ED:=
 Tot.jmp e100 (ys:=[_,(d1.l.length:Int),((0:Nat):Int),enc d0,enc d1]) (bV [] [] (ju 101 [wr (.add vJ Qc),Qc,Qa,Qf,Qb]) (by simp only [zz,aG.den,Nat.reduceLT] <;> omega) (by kernel_rfl) (by simp only [zz,aG.den,Nat.reduceLT] <;> rfl)) (Nb h1 d1.l.length 0 _ (by omega))
end
end Go.As.Try
end
section
namespace Go.As.Try
open Go hiding Stat Spec shape
open Go.As
set_option maxRecDepth 100000
def oI (x:D):D:=dL [.i 0,if (x.hd 1).l.length=0 then .i 2 else dL (List.replicate (x.hd 1).l.length (.i 0)),.i 0,.i 0,.i 0,.i 0]
def rD (d0:D):D:=if d0.l.length=0 then .i 1 else dL (d0.l.map mO)
def uM (d1:D):D:=if d1.l.length=0 then .i 1 else dL (d1.l.map oI)
theorem Vd {l:List D} (h: ∀x∈l,∃a lc w o g tr,Kt x a lc w o g tr) (hn:l≠[]) (hl:l.length≤2199023255488):Wd (.sl 8) (dL l):=by
 have e:(l.map fun x=>x.l).map dL=l:=by
  rw [List.map_map]
  conv=>rhs; rw [← List.map_id l]
  apply List.map_congr_left
  intro x hx
  obtain⟨a,lc,w,o,g,tr,T⟩:=h x hx
  rw [T.is]
  rfl
 rw [← e]
 refine .many 8 [.int .i64,.sl 0,.int .u8,.int .i64,.int .i64,.int .i64] _ rfl (by simpa using hn) (by have:yD 8=64:=rfl; rw [this,List.length_map]; omega) (fun r hr=>?_) fun r hr j d c h1 h2=>?_
 ·obtain⟨x,hx,rfl⟩:=List.mem_map.1 hr
  obtain⟨a,lc,w,o,g,tr,T⟩:=h x hx
  rw [T.is]
  rfl
 ·obtain⟨x,hx,rfl⟩:=List.mem_map.1 hr
  obtain⟨a,lc,w,o,g,tr,T⟩:=h x hx
  rw [T.is,aX] at h1
  match j with
  | 0=>simp at h1 h2; subst h1 h2; exact .int _ _ T.ha
  | 1=>simp at h1 h2; subst h1 h2; exact T.hl
  | 2=>simp at h1 h2; subst h1 h2; exact .int _ _ T.hw
  | 3=>simp at h1 h2; subst h1 h2; exact .int _ _ T.ho
  | 4=>simp at h1 h2; subst h1 h2; exact .int _ _ T.hg
  | 5=>simp at h1 h2; subst h1 h2; exact .int _ _ T.ht
  | j+6=>simp at h1
theorem ahF (x:D) (h:(x.hd 1).l.length≤17592186043904): ∃a lc w o g tr,Kt (oI x) a lc w o g tr:=by
 have z:iT .i64 0:=⟨by omega,by omega⟩
 refine⟨0,_,0,0,0,0,rfl,z,?_,⟨by omega,by omega⟩,z,z,z⟩
 split
 ·exact .non 0
 ·rename_i hn
  refine Ce (fun y hy=> ⟨0,(List.mem_replicate.1 hy).2,z⟩) (fun he=>?_) (by simpa using h)
  have:=congrArg List.length he
  simp only [List.length_replicate,List.length_nil] at this
  omega
theorem Ew {d1:D} (h1:Wd (.sl 4) d1): ∀x∈d1.l,(x.hd 1).l.length≤8796093021952:=by
 intro x hx
 obtain⟨i,hi,rfl⟩:=List.getElem_of_mem hx
 obtain⟨nm',lc,cd,he,_,hlc,_⟩:=EW h1 hi
 rw [he]
 simp only [dR,List.getElem?_cons_zero,List.getElem?_cons_succ,Option.getD_some]
 have:=hlc.room
 have h3:yD 2=16:=rfl
 rw [h3] at this
 omega
theorem ajA {d0 d1:D} (h0:Wd (.sl 3) d0) (h1:Wd (.sl 4) d1) (ok:Ic d0 d1):Sx (rD d0) (uM d1) 0:=by
 refine⟨?_,?_,?_,?_⟩
 ·unfold rD
  split
  ·exact⟨.nil 7,fun x hx=>by simp [D.l] at hx⟩
  ·refine⟨OV (fun x hx=>?_) (fun he=>?_) (by rw [List.length_map]; have:=ok.1; omega),fun x hx=>?_⟩
   ·obtain⟨y,hy,rfl⟩:=List.mem_map.1 hx
    obtain⟨kd,nm',ln,s1,s2,he,_,hnn,_⟩:=h0.decl y hy
    rw [he]
    refine⟨-1,_,0,0,.i 1,.i 1,rfl,⟨by omega,by omega⟩,?_,.inl rfl,⟨by omega,by omega⟩,.nil 0,.nil 0⟩
    split
    ·exact hnn
    ·exact⟨by omega,by omega⟩
   ·have:=congrArg List.length he
    simp only [List.length_map,List.length_nil] at this
    omega
   ·rw [aX] at hx
    obtain⟨y,hy,rfl⟩:=List.mem_map.1 hx
    exact⟨Nat.le_refl 0,Nat.le_refl 0⟩
 ·unfold uM
  split
  ·exact .nil 8
  ·refine Vd (fun x hx=>?_) (fun he=>?_) (by rw [List.length_map]; have:=ok.2.1; omega)
   ·obtain⟨y,hy,rfl⟩:=List.mem_map.1 hx
    exact ahF y (by have:=Ew h1 y hy; omega)
   ·have:=congrArg List.length he
    simp only [List.length_map,List.length_nil] at this
    omega
 ·unfold rD
  split
  ·intro h; cases h
  ·intro h
   have:=congrArg (fun d=>d.l.length) h
   simp only [aX,List.length_map,yG,List.length_nil] at this
   omega
 ·unfold uM
  split
  ·intro h; cases h
  ·intro h
   have:=congrArg (fun d=>d.l.length) h
   simp only [aX,List.length_map,yG,List.length_nil] at this
   omega
theorem Ji (d1:D) (h1:Wd (.sl 4) d1) (hlen:d1.l.length≤16) (s:D): ∀(k i:Nat) (acc:List D),i+k=d1.l.length→acc.length=i→
 L 1452 [enc d1,(d1.l.length:Int),(i:Int),enc s,enc (dL acc)]=some [enc s,enc (dL (acc++(d1.l.drop i).map oI)),0]
 | 0,i,acc,hi,ha=>by
   have c1: ¬(i:Int) < (d1.l.length:Int):=by omega
   rw [aT,aoB,List.drop_of_length_le (by omega)]
   simp only [Vm,zz,aG.den,Nat.reduceLT,c1,bK,List.map_nil,List.append_nil]
 | k+1,i,acc,hi,ha=>by
   have hil:i < d1.l.length:=by omega
   have hd:d1.l.drop i=d1.l[i] :: d1.l.drop (i+1):=List.drop_eq_getElem_cons hil
   have ih:=Ji d1 h1 hlen s k (i+1) (acc++ [oI d1.l[i]]) (by omega) (by simp [ha])
   have c1:(i:Int) < (d1.l.length:Int):=by omega
   have c2: ¬((i:Int) < 0):=by omega
   have w:=aY (n:=i) (by omega)
   have c3:(acc.length:Int) < 2199023255551:=by omega
   have hb:=Ew h1 _ (List.getElem_mem hil)
   have c4:((((d1.l[i]).hd 1).l.length:Nat):Int) < 17592186044416:=by omega
   have e2:acc++(oI d1.l[i] :: (d1.l.drop (i+1)).map oI)=acc++ [oI d1.l[i]]++(d1.l.drop (i+1)).map oI:=by simp
   rw [hd,List.map_cons,e2,← ih,aT,aoB]
   by_cases hz:((d1.l[i]).hd 1).l.length=0
   ·have hz':((((d1.l[i]).hd 1).l.length:Nat):Int)=0:=by omega
    have et:oI d1.l[i]= .p (.i 0) (.p (.i 2) (.p (.i 0) (.p (.i 0) (.p (.i 0) (.p (.i 0) (.i 0)))))):=by unfold oI; rw [if_pos hz]; rfl
    rw [et]
    simp only [Vm,zz,aG.den,Nat.reduceLT,c1,c2,w,bC hil,hz',c3,aX,aP]
   ·have hz': ¬((((d1.l[i]).hd 1).l.length:Nat):Int)=0:=by omega
    have et:oI d1.l[i]= .p (.i 0) (.p (dL (List.replicate ((d1.l[i]).hd 1).l.length (.i 0))) (.p (.i 0) (.p (.i 0) (.p (.i 0) (.p (.i 0) (.i 0)))))):=by unfold oI; rw [if_neg hz]; rfl
    rw [et]
    simp only [Vm,zz,aG.den,Nat.reduceLT,c1,c2,w,bC hil,hz',c3,c4,aX,Int.toNat_natCast,aP]
theorem VP (d1:D) (h1:Wd (.sl 4) d1) (hlen:d1.l.length≤16) (s:D):L 1451 [enc d1,(d1.l.length:Int),enc s]=some [enc s,enc (uM d1),0]:=by
 by_cases hn:d1.l.length=0
 ·have c1: ¬(0:Int) < (d1.l.length:Int):=by omega
  have e:uM d1= .i 1:=by unfold uM; rw [if_pos hn]
  rw [aT,aoC,e]
  simp only [Vo,zz,aG.den,Nat.reduceLT,c1,bK]
 ·have hp:0 < d1.l.length:=by omega
  have c1:(0:Int) < (d1.l.length:Int):=by omega
  have e:uM d1=dL (d1.l.map oI):=by unfold uM; rw [if_neg hn]
  have ih:=Ji d1 h1 hlen s (d1.l.length - 1) 1 [oI (d1.l[0]'hp)] (by omega) rfl
  have e1:[oI (d1.l[0]'hp)]++(d1.l.drop 1).map oI=d1.l.map oI:=by
   conv=>rhs; rw [← List.drop_zero (l:=d1.l),List.drop_eq_getElem_cons hp]
   rfl
  rw [e1,← e] at ih
  have a0:d1.at 0=d1.l[0]'hp:=bC (i:=0) hp
  have hb:=Ew h1 _ (List.getElem_mem hp)
  have c4:((((d1.l[0]'hp).hd 1).l.length:Nat):Int) < 17592186044416:=by omega
  rw [← ih,aT,aoC]
  by_cases hz:((d1.l[0]'hp).hd 1).l.length=0
  ·have hz':((((d1.l[0]'hp).hd 1).l.length:Nat):Int)=0:=by omega
   have et:dL [oI (d1.l[0]'hp)]= .p (.p (.i 0) (.p (.i 2) (.p (.i 0) (.p (.i 0) (.p (.i 0) (.p (.i 0) (.i 0))))))) (.i 0):=by unfold oI; rw [if_pos hz]; rfl
   rw [et]
   simp only [Vo,zz,aG.den,Nat.reduceLT,c1,a0,hz',yG,List.nil_append,eY,gZ,aP,Int.natCast_one]
  ·have hz': ¬((((d1.l[0]'hp).hd 1).l.length:Nat):Int)=0:=by omega
   have et:dL [oI (d1.l[0]'hp)]= .p (.p (.i 0) (.p (dL (List.replicate ((d1.l[0]'hp).hd 1).l.length (.i 0))) (.p (.i 0) (.p (.i 0) (.p (.i 0) (.p (.i 0) (.i 0))))))) (.i 0):=by unfold oI; rw [if_neg hz]; rfl
   rw [et]
   simp only [Vo,zz,aG.den,Nat.reduceLT,c1,a0,hz',c4,yG,List.nil_append,eY,gZ,Int.toNat_natCast,aP,Int.natCast_one]
theorem aeZ {d0 d1:D} (h1:Wd (.sl 4) d1) (hc:L 450 [enc d0,enc d1]=some [0]) (ok:Ic d0 d1):L 1450 [enc d0,enc d1]=some [enc (rD d0),enc (uM d1),0]:=by
 have h3:L 300 [enc d0,enc d1]=some [enc (rD d0)]:=by
  by_cases hn:d0.l.length=0
  ·have e:rD d0= .i 1:=by unfold rD; rw [if_pos hn]
   rw [e]
   exact aqB hc (.inr hn)
  ·have e:rD d0=dL (d0.l.map mO):=by unfold rD; rw [if_neg hn]
   rw [e]
   exact aqC hc ok.1 (by omega)
 have K:eF (dK L (low [enc d0,enc d1])) aaQ= .jump 1451 [enc d1,(d1.l.length:Int),enc (rD d0)]:=by
  refine bV [Qf5,Qf6,.eq (a0 300 OI) Q0] [] (ju 1451 [Qb,Qc,rr 300 OI 0]) (by simp only [zz,aG.den,Nat.reduceLT,hc,h3] <;> omega) (by kernel_rfl) ?_
  simp only [zz,aG.den,Nat.reduceLT,h3]
 rw [aT,aoE]
 exact (congrArg (fin L) K).trans (VP d1 h1 ok.2.1 _)
theorem aeY {d0 d1:D} {c:Int} (hc:L 450 [enc d0,enc d1]=some [c]) (h:c≠0):L 1450 [enc d0,enc d1]=some [enc (.i 1),enc (.i 1),c]:=by
 have K:eF (dK L (low [enc d0,enc d1])) aaQ= .out [enc (.i 1),enc (.i 1),c]:=by
  refine bV [Qf5] [Qf6] (ou [Qh,Qh,rr 450 OI 0]) (by simp only [zz,aG.den,Nat.reduceLT,hc] <;> omega) (by kernel_rfl) ?_
  simp only [zz,aG.den,Nat.reduceLT,hc]
 rw [aT,aoE]
 exact congrArg (fin L) K
theorem Ll (k:D) (t:Int) (x:KT):(AU k t x).l.length=k.l.length:=by rw [aX,iY]
theorem aeS {d1:D} {t:Int} {x:KT} (ho: ¬pK d1 t x=1) (h: ¬low (xJ d1 t x) 4=0): ∃op obj arg tr,xJ d1 t x= [op,obj,arg,tr,1]:=by
 unfold pK at ho
 unfold xJ at h ⊢
 by_cases w0:x.w=0
 ·rw [if_pos w0] at ho h ⊢
  by_cases a0:x.a=(Nc d1 t:Int)
  ·rw [if_pos a0] at ho
   omega
  ·rw [if_neg a0] at h ⊢
   by_cases h1:((Ins d1 t x).hd 0).n=1
   ·rw [if_pos h1]
    exact⟨_,_,_,_,rfl⟩
   ·rw [if_neg h1] at h ⊢
    by_cases h2:((Ins d1 t x).hd 0).n=2
    ·rw [if_pos h2]
     exact⟨_,_,_,_,rfl⟩
    ·rw [if_neg h2] at h
     exact absurd rfl h
 ·rw [if_neg w0]
  exact⟨_,_,_,_,rfl⟩
theorem asJ (d1:D) (t:Int) (x:KT):pK d1 t x=0∨pK d1 t x=1:=by
 unfold pK
 split
 ·split
  ·exact .inr rfl
  ·exact .inl rfl
 ·exact .inl rfl
theorem asO {d0 d1:D} {t:Int} {x:KT} (C:Cd d0 d1) (R:Rt d0 d1 t x) (hd0:d0.l.length≤64) {op obj arg tr b:Int} (hn:xJ d1 t x= [op,obj,arg,tr,b]):iT .u8 op∧iT .i64 obj∧iT .i64 arg:=by
 have z8:iT .u8 0:=⟨by omega,by omega⟩
 have z:iT .i64 0:=⟨by omega,by omega⟩
 have ok:=R.ok
 unfold xJ at hn
 by_cases w0:x.w=0
 ·rw [if_pos w0] at hn
  by_cases a0:x.a=(Nc d1 t:Int)
  ·rw [if_pos a0] at hn
   simp only [List.cons.injEq] at hn
   obtain⟨rfl,rfl,rfl,_⟩:=hn
   exact⟨z8,z,z⟩
  ·have hlt:x.a < (Nc d1 t:Int):=by have:=ok.2.1; unfold Nc at a0 ⊢; omega
   have F:=C.inf R hlt
   rw [if_neg a0] at hn
   by_cases h1:((Ins d1 t x).hd 0).n=1
   ·rw [if_pos h1] at hn
    simp only [List.cons.injEq] at hn
    obtain⟨rfl,rfl,rfl,_⟩:=hn
    exact⟨F.op,F.ob,avJ F.ar R.ints⟩
   ·rw [if_neg h1] at hn
    by_cases h2:((Ins d1 t x).hd 0).n=2
    ·rw [if_pos h2] at hn
     simp only [List.cons.injEq] at hn
     obtain⟨rfl,rfl,rfl,_⟩:=hn
     exact⟨⟨by omega,by omega⟩,F.ob,z⟩
    ·rw [if_neg h2] at hn
     simp only [List.cons.injEq] at hn
     obtain⟨rfl,rfl,rfl,_⟩:=hn
     exact⟨z8,z,z⟩
 ·rw [if_neg w0] at hn
  simp only [List.cons.injEq] at hn
  obtain⟨rfl,rfl,rfl,_⟩:=hn
  obtain⟨_,_,_,_,_,hw⟩:=ok
  exact⟨⟨by omega,by omega⟩,⟨by omega,by omega⟩,R.hg⟩
section
variable {d0 d1 s k:D} {t:Int} {n:Nat} {eop eob ea eb m:Int} {x:KT} (S:Sx s k n) (C:Cd d0 d1) (ht:t < (k.l.length:Int))
include S C ht
end
end Go.As.Try
end
section
namespace Go.As.Try
open Go hiding Stat Spec shape
open Go.As
set_option maxRecDepth 100000
theorem aqO {lc:D} (h:Wd (.sl 0) lc) {z v:Int} (h0:0≤z) (h1:z < (lc.l.length:Int)) (hv:iT .i64 v):Wd (.sl 0) (dL (iK lc.l z (.i v))):=by
 have:=h.room
 have h3:yD 0=8:=rfl
 rw [h3] at this
 have hs:=iY lc.l z (.i v)
 refine Ce (fun y hy=>?_) (fun he=>?_) (by rw [hs]; omega)
 ·rcases Bg hy with h' | rfl
  ·exact (h.el1 rfl y h').i
  ·exact⟨v,rfl,hv⟩
 ·rw [he] at hs
  simp only [List.length_nil] at hs
  omega
theorem ZQ {k:D} (hk:Wd (.sl 8) k) {t:Int} {x:KT} (h: ∃a lc w o g tr,Kt x.d a lc w o g tr) (hp:0 < k.l.length):Wd (.sl 8) (AU k t x):=by
 have hf:=hk.room
 have h3:yD 8=64:=rfl
 rw [h3] at hf
 have hs:=iY k.l t x.d
 refine Vd (fun y hy=>?_) (fun he=>?_) (by rw [hs]; omega)
 ·rcases Bg hy with h' | rfl
  ·exact nG hk y h'
  ·exact h
 ·rw [he] at hs
  simp only [List.length_nil] at hs
  omega
section
variable {d0 d1 s k:D} {t:Int} {n:Nat} {x:KT}
theorem VU {x:KT} (ha:iT .i64 x.a) (hl:Wd (.sl 0) x.lc) (hw:iT .u8 x.w) (ho:iT .i64 x.o) (hg:iT .i64 x.g) (ht:iT .i64 x.tr): ∃a lc w o g tr,Kt x.d a lc w o g tr:=⟨_,_,_,_,_,_,rfl,ha,hl,hw,ho,hg,ht⟩
theorem Rt.kt (C:Cd d0 d1) (R:Rt d0 d1 t x): ∃a lc w o g tr,Kt x.d a lc w o g tr:=by
 obtain⟨a0,a1,_,t0,t1,hw⟩:=R.ok
 have hd:=C.ok.1
 have hnc:=(C.code R.t0 R.t1).len
 exact VU ⟨by omega,by omega⟩ R.hl ⟨by omega,by omega⟩ ⟨by omega,by omega⟩ R.hg ⟨by omega,by omega⟩
theorem azL (C:Cd d0 d1) (R:Rt d0 d1 t x) (hx:x.w=0→x.a < (Nc d1 t:Int)) {op e2 e3 e4 oc:Int} (h3:iT .i64 e3) (h4:iT .i64 e4): ∃a lc w o g tr,Kt (yK (Ins d1 t x) x op e2 e3 e4 oc).d a lc w o g tr:=by
 obtain⟨a0,a1,hln,t0,t1,hw⟩:=R.ok
 have hd:=C.ok.1
 have hnc:=(C.code R.t0 R.t1).len
 have ka:iT .i64 x.a:=⟨by omega,by omega⟩
 have kw:iT .u8 x.w:=⟨by omega,by omega⟩
 have ko:iT .i64 x.o:=⟨by omega,by omega⟩
 have kt:iT .i64 x.tr:=⟨by omega,by omega⟩
 have z:iT .i64 0:=⟨by omega,by omega⟩
 have z8: ∀v:Int,v=0∨v=24∨v=25→iT .u8 v:=fun v h=> ⟨by omega,by omega⟩
 unfold yK
 split
 ·split
  ·exact VU ka R.hl kw ko R.hg (by
    show iT .i64 (if 4611686018427387904 < x.tr+1 then 4611686018427387904 else x.tr+1)
    split <;> exact⟨by omega,by omega⟩)
  ·exact VU ka R.hl kw ko R.hg kt
 ·split
  ·rename_i w0
   have F:=C.inf R (hx w0)
   have ok:=F.ok
   have h1:=hx w0
   unfold Nc at h1
   unfold OkI at ok
   have k1:iT .i64 (x.a+1):=⟨by omega,by omega⟩
   refine VU ?_ ?_ ?_ ?_ ?_ z
   ·show iT .i64 (if _ then _ else _)
    split
    ·exact F.to
    ·exact k1
   ·show Wd (.sl 0) (if _ then _ else _)
    split
    ·rename_i hc
     refine aqO R.hl (by omega) ?_ h4
     have:=hc.1
     omega
    ·exact R.hl
   ·show iT .u8 (if _ then _ else _)
    split
    ·split
     ·exact z8 _ (by omega)
     ·exact z8 _ (by omega)
    ·exact z8 _ (by omega)
   ·show iT .i64 (if _ then _ else _)
    split
    ·exact h3
    ·exact ko
   ·show iT .i64 (if _ then _ else _)
    split
    ·exact h4
    ·exact R.hg
  ·exact VU ka R.hl (z8 _ (.inl rfl)) z z z
theorem aaU {k:D} (hp:0 < k.l.length) (t:Int) (x:KT):AU k t x≠.i 2:=fun he=>by
 have:=Ll k t x
 rw [he] at this
 have e:(D.i 2).l.length=0:=rfl
 omega
theorem azK (S:Sx s k n) (C:Cd d0 d1) (R:Rt d0 d1 t x) (ht:t < (k.l.length:Int)) (hx:x.w=0→x.a < (Nc d1 t:Int)) {op obj arg tries e1 e2 e3 e4 e5 oc:Int} {s':D} (A:Tried d0 d1 s t op obj arg tries n s' e1 e2 e3 e4 e5 oc) :
 Sx s' (AU k t (yK (Ins d1 t x) x op e2 e3 e4 oc)) (n+1):=by
 have hp:0 < k.l.length:=by have:=R.t0; omega
 exact⟨A.gs,ZQ S.wk (azL C R hx A.e3 A.e4) hp,A.n2 S.n2s,aaU hp _ _⟩
theorem aEv (R:Rt d0 d1 t x) (ho:pK d1 t x=0):x.w=0→x.a < (Nc d1 t:Int):=fun w0=>by
 unfold pK at ho
 rw [if_pos w0] at ho
 have:=R.ok.2.1
 unfold Nc at ho ⊢
 split at ho <;> omega
end
section
variable {d0 d1 s k:D} {t:Int} {n:Nat} {eop eob ea eb:Int} (S:Sx s k n) (hn:n < 17592186043904) (C:Cd d0 d1) (ht:t < (k.l.length:Int))
include S hn C ht
end
section
variable {d0 d1 s k:D} {t:Int} {n:Nat} {eop eob ea eb:Int} (S:Sx s k n) (hn:n < 17592186043904) (h0:Wd (.sl 3) d0) (h1:Wd (.sl 4) d1)
include S
include hn h0 h1
end
section
variable {d0 d1:D} (h0:Wd (.sl 3) d0) (h1:Wd (.sl 4) d1)
include h0 h1
end
end Go.As.Try
end
section
namespace Go.As.Try
open Go hiding Stat Spec shape
open Go.As
set_option maxRecDepth 100000
structure aB9 (d0 d1 s k:D) (t:Int) (n:Nat) (s' k':D) (e1 e2 e3 e4 e5 oc:Int):Prop where
 eq:L 1850 [enc d0,enc d1,enc s,enc k,t]=some [enc s',enc k',e1,e2,e3,e4,e5,oc]
 sx:Sx s' k' (n+1)
 ls:s'.l.length=s.l.length
 lk:k'.l.length=k.l.length
section
variable {d0 d1 s k:D} {n:Nat} (S:Sx s k n) (hn:n < 17592186043904) (h0:Wd (.sl 3) d0) (h1:Wd (.sl 4) d1)
include S hn h0 h1
theorem aAr {t:Int} {x:KT} (R:Rs d0 d1 s k t x) (ho:pK d1 t x=0) (ha:low (xJ d1 t x) 4=0):Sx s (AU k t (Bh (Ins d1 t x) x)) n:=by
 have hp:0 < k.l.length:=by have:=R.r.t0; have:=R.ht; omega
 exact⟨S.g,ZQ S.wk ((akU R.c R.ht R.r (akX R.r ho ha)).1.kt R.c) hp,S.n2s,aaU hp _ _⟩
theorem AB (t:Int): ∃s' k' e1 e2 e3 e4 e5 oc,aB9 d0 d1 s k t n s' k' e1 e2 e3 e4 e5 oc:=by
 rcases awM (t:=t) S hn h0 h1 with h | ⟨x,R⟩
 ·exact⟨s,k,0,0,0,0,0,0,aaT S h,S.mono (Nat.le_succ n),rfl,rfl⟩
 ·rcases asJ d1 t x with ho | ho
  ·by_cases ha:low (xJ d1 t x) 4=0
   ·exact⟨_,_,0,0,0,0,0,1,Yc S R ho ha,(aAr S hn h0 h1 R ho ha).mono (Nat.le_succ n),rfl,Ll _ _ _⟩
   ·obtain⟨op,obj,arg,tr,hq⟩:=aeS (by omega) ha
    obtain⟨k1,k2,k3⟩:=asO R.c R.r R.c.ok.1 hq
    have hti:iT .i64 t:=by
     have:=R.r.t0
     have:=R.r.t1
     have:=h1.len
     exact⟨by omega,by omega⟩
    obtain⟨s',e1,e2,e3,e4,e5,oc,A⟩:=try_any (tries:=tr) h0 h1 S.g hn hti k1 k2 k3
    exact⟨s',_,e1,e2,e3,e4,e5,oc,Yb S R ho hq A,azK S R.c R.r R.ht (aEv R.r ho) A,A.len,Ll _ _ _⟩
  ·exact⟨s,k,0,0,0,0,0,4,adT S R ho,S.mono (Nat.le_succ n),rfl,rfl⟩
end
def gW (x n:Int):Int:=if x.tmod n < 0 then x.tmod n+n else x.tmod n
theorem KJ {x n:Int} (h:0 < n): -n < x.tmod n∧x.tmod n < n:=by
 have h1:=Int.tmod_lt_of_pos x h
 have h2:=Int.tmod_lt_of_pos (-x) h
 rw [Int.neg_tmod] at h2
 omega
theorem CP {x n:Int} (h:0 < n):0≤gW x n∧gW x n < n:=by
 have:=KJ (x:=x) h
 unfold gW
 split <;> omega
theorem PN {x n:Int} (h:0 < n) (hb:n≤140737488351232):(IntKind.i64.wrap (x.tmod n+n)).tmod n=gW x n:=by
 have h1:=KJ (x:=x) h
 rw [mM (by omega) (by omega)]
 unfold gW
 split
 ·exact Int.tmod_eq_of_lt (by omega) (by omega)
 ·rw [Int.tmod_eq_emod_of_nonneg (by omega),Int.add_emod_right]
  exact Int.emod_eq_of_lt (by omega) (by omega)
theorem VB {x n c:Int} (h:0 < n) (h0:0≤c):gW (gW x n+n*c) n=gW x n:=by
 have h1:=CP (x:=x) h
 have h2:0≤n*c:=Int.mul_nonneg (by omega) h0
 have e:(gW x n+n*c).tmod n=gW x n:=by
  rw [Int.tmod_eq_emod_of_nonneg (by omega),Int.add_mul_emod_self_left]
  exact Int.emod_eq_of_lt h1.1 h1.2
 have e2:gW (gW x n+n*c) n=if (gW x n+n*c).tmod n < 0 then (gW x n+n*c).tmod n+n else (gW x n+n*c).tmod n:=rfl
 rw [e2,e,if_neg (by omega)]
theorem vU {x n:Int} (h:0 < n) (hb:n≤140737488351232):L 2100 [x,n]=some [gW x n]:=by
 have h1:=KJ (x:=x) h
 have c1: ¬n < 1:=by omega
 have w:IntKind.i64.wrap (x.tmod n+n)=x.tmod n+n:=mM (by omega) (by omega)
 rw [aT,axY]
 unfold gW
 have dr: ∀{ρ:Nat→Int} (a b:SE),(SE.rem a b).den ρ=(a.den ρ).tmod (b.den ρ):=fun _ _=>rfl
 by_cases hz:x.tmod n < 0
 ·simp only [aaL,zz,aG.den,Nat.reduceLT,c1,dr,hz,w,bK,if_true]
 ·simp only [aaL,zz,aG.den,Nat.reduceLT,c1,dr,hz,bK,if_false]
end Go.As.Try
end
section
namespace Go.As.Try
open Go hiding Stat Spec shape
open Go.As
set_option maxRecDepth 100000
def EqN (a b:D):Prop:=a.l.length=b.l.length∧∀(i:Nat),(a.at (i:Int)).n=(b.at (i:Int)).n
structure KEq (x y:D):Prop where
 c0:(x.hd 0).n=(y.hd 0).n
 c1:EqN (x.hd 1) (y.hd 1)
 c2:(x.hd 2).n=(y.hd 2).n
 c3:(x.hd 3).n=(y.hd 3).n
 c4:(x.hd 4).n=(y.hd 4).n
 c5:(x.hd 5).n=(y.hd 5).n
theorem EqN.rfl' (a:D):EqN a a:=⟨rfl,fun _=>rfl⟩
theorem KEq.rfl' (a:D):KEq a a:=⟨rfl,EqN.rfl' _,rfl,rfl,rfl,rfl⟩
def akT (k:D):Prop:=k.l.length≤140737488351232∧∀i:Nat,((k.at (i:Int)).hd 1).l.length≤140737488351232
section
variable {s k s' k':D} (hl:k.l.length=k'.l.length) (hq: ∀i:Nat,KEq (k.at (i:Int)) (k'.at (i:Int))) (hb:akT k)
include hl hq hb
theorem Fh: ∀(j i:Nat),i+j=k.l.length→L 2051 [(k.l.length:Int),(i:Int),enc s,enc k,enc s',enc k']=some [1]
 | 0,i,hi=>by
   have c1: ¬(i:Int) < (k.l.length:Int):=by omega
   rw [aT,anW]
   simp only [aaN,zz,aG.den,Nat.reduceLT,c1,bK]
 | j+1,i,hi=>by
   have c1:(i:Int) < (k.l.length:Int):=by omega
   have c2: ¬((i:Int) < 0):=by omega
   have c3:(i:Int) < (k'.l.length:Int):=by omega
   have b1:=hb.1
   have w:=aY (n:=i) (by omega)
   have ih:=Fh j (i+1) (by omega)
   have q:=hq i
   obtain⟨q1,q2⟩:=q.c1
   have b2:=hb.2 i
   have lp: ∀(j' i':Nat),i'+j'=((k.at (i:Int)).hd 1).l.length→L 2052 [(k.l.length:Int),(i:Int),(((k.at (i:Int)).hd 1).l.length:Int),(i':Int),enc s,enc k,enc s',enc k',((k.at (i:Int)).hd 0).n,enc ((k.at (i:Int)).hd 1),((k.at (i:Int)).hd 2).n,((k.at (i:Int)).hd 3).n,((k.at (i:Int)).hd 4).n,((k.at (i:Int)).hd 5).n,((k'.at (i:Int)).hd 0).n,enc ((k'.at (i:Int)).hd 1),((k'.at (i:Int)).hd 2).n,((k'.at (i:Int)).hd 3).n,((k'.at (i:Int)).hd 4).n,((k'.at (i:Int)).hd 5).n]=some [1]:=by
    intro j'
    induction j' with
    | zero=>
      intro i' hi'
      have d1: ¬(i':Int) < (((k.at (i:Int)).hd 1).l.length:Int):=by omega
      rw [aT,anV]
      simp only [aaM,zz,aG.den,Nat.reduceLT,d1,w,aP,ih]
    | succ j' ihj=>
      intro i' hi'
      have d1:(i':Int) < (((k.at (i:Int)).hd 1).l.length:Int):=by omega
      have d2: ¬((i':Int) < 0):=by omega
      have d3:(i':Int) < (((k'.at (i:Int)).hd 1).l.length:Int):=by omega
      have w':=aY (n:=i') (by omega)
      have h':=ihj (i'+1) (by omega)
      have hn:=q2 i'
      rw [aT,anV]
      simp only [aaM,zz,aG.den,Nat.reduceLT,d1,d2,d3,w',hn,aP]
      exact h'
   have l0:=lp ((k.at (i:Int)).hd 1).l.length 0 (by omega)
   have q1':(((k.at (i:Int)).hd 1).l.length:Int)=(((k'.at (i:Int)).hd 1).l.length:Int):=by omega
   simp only [q.c0,q.c2,q.c3,q.c4,q.c5,q1',Int.natCast_zero] at l0
   rw [aT,anW]
   simp only [aaN,zz,aG.den,Nat.reduceLT,c1,c2,c3,q.c0,q.c2,q.c3,q.c4,q.c5,q1',aP]
   exact l0
theorem aeC (hs:L 200 [enc s,enc s']=some [1]):L 2050 [enc s,enc k,enc s',enc k']=some [1]:=by
 have h:=Fh (s:=s) (s':=s') hl hq hb k.l.length 0 (by omega)
 have hl':(k.l.length:Int)=(k'.l.length:Int):=by omega
 rw [Int.natCast_zero] at h
 rw [aT,axZ]
 simp only [aiK,zz,aG.den,Nat.reduceLT,hs,aH,hl',aP]
 rw [hl'] at h
 exact h
end
theorem aeB {s:D} (hlen:s.l.length≤140737488351232) (hr:Ti s):L 200 [enc s,enc s]=some [1]:=by
 obtain⟨c,h1,_,h3⟩:=aeA s s hlen hr
 rw [h1,h3.2 ⟨rfl,fun k h1 h2 _=> ⟨rfl,rfl,Iff.rfl,rfl,⟨rfl,fun _ _ _ _=>rfl⟩,⟨rfl,fun _ _ _ _=>rfl⟩⟩⟩]
theorem Sx.aER {s k:D} {n:Nat} (S:Sx s k n):akT k:=by
 refine⟨S.wk.len,fun i=>?_⟩
 by_cases hi:i < k.l.length
 ·obtain⟨a,lc,w,o,g,tr,T⟩:=nG S.wk _ (List.getElem_mem hi)
  rw [bC hi,T.is,dR]
  exact T.hl.len
 ·rw [ZB,List.getElem?_eq_none (by omega)]
  show ((D.i 0).hd 1).l.length≤_
  simp [D.hd,D.l]
theorem Sx.same {s k:D} {n:Nat} (S:Sx s k n) (hn:n < 17592186043904):L 2050 [enc s,enc k,enc s,enc k]=some [1]:=
 aeC rfl (fun _=>KEq.rfl' _) S.aER (aeB S.g.wd.len (fun x hx=>by have:=S.g.rows x hx; omega))
theorem Wu (d:D) (hd:d.l.length≤140737488351232): ∀(j i:Nat),i+j=d.l.length→L 2451 [enc d,enc d,(d.l.length:Int),(i:Int)]=some [1]
 | 0,i,hi=>by
   have c1: ¬(i:Int) < (d.l.length:Int):=by omega
   rw [aT,anU]
   simp only [aaK,zz,aG.den,Nat.reduceLT,c1,bK]
 | j+1,i,hi=>by
   have c1:(i:Int) < (d.l.length:Int):=by omega
   have c2: ¬((i:Int) < 0):=by omega
   have w:=aY (n:=i) (by omega)
   have ih:=Wu d hd j (i+1) (by omega)
   rw [aT,anU]
   simp only [aaK,zz,aG.den,Nat.reduceLT,c1,c2,w,Hz,and_self,aP,ih]
theorem xZ (d:D) (hd:d.l.length≤140737488351232):L 2450 [enc d,enc d]=some [1]:=by
 have h:=Wu d hd d.l.length 0 (by omega)
 rw [Int.natCast_zero] at h
 rw [aT,axX]
 simp only [aiJ,zz,aG.den,Nat.reduceLT,aP]
 exact h
end Go.As.Try
end
section
namespace Go.As.Try
open Go hiding Stat Spec shape
open Go.As
set_option maxRecDepth 100000
abbrev Xz (e1 e2 e3 e4 e5:Int):D:=dL [.i e1,.i e2,.i e3,.i e4,.i e5]
structure PS where
 s:D
 k:D
 l:List D
noncomputable def stA (d0 d1 s k:D) (t:Int):List Int:=(L 1850 [enc d0,enc d1,enc s,enc k,t]).getD []
noncomputable def stP (d0 d1:D) (p:PS) (t:Int):PS:=
 ⟨dec (low (stA d0 d1 p.s p.k t) 0),dec (low (stA d0 d1 p.s p.k t) 1),if low (stA d0 d1 p.s p.k t) 7=2∨low (stA d0 d1 p.s p.k t) 7=3 then p.l++ [Xz (low (stA d0 d1 p.s p.k t) 2) (low (stA d0 d1 p.s p.k t) 3) (low (stA d0 d1 p.s p.k t) 4) (low (stA d0 d1 p.s p.k t) 5) (low (stA d0 d1 p.s p.k t) 6)] else p.l⟩
noncomputable def lQ (d0 d1:D):PS→List Int→PS
 | p,[]=>p
 | p,t :: ts=>lQ d0 d1 (stP d0 d1 p t) ts
theorem I9 (d0 d1:D): ∀(a b:List Int) (p:PS),lQ d0 d1 p (a++b)=lQ d0 d1 (lQ d0 d1 p a) b
 | [],b,p=>rfl
 | t :: a,b,p=>by
   simp only [List.cons_append,lQ]
   exact I9 d0 d1 a b _
structure POk (d1:D) (p:PS) (n:Nat):Prop where
 sx:Sx p.s p.k n
 lk:p.k.l.length=d1.l.length
 ll:p.l.length≤n
theorem Ee {d0 d1:D} {p:PS} {t:Int} {n:Nat} {s' k':D} {e1 e2 e3 e4 e5 oc:Int} (A:aB9 d0 d1 p.s p.k t n s' k' e1 e2 e3 e4 e5 oc):stP d0 d1 p t=⟨s',k',if oc=2∨oc=3 then p.l++ [Xz e1 e2 e3 e4 e5] else p.l⟩:=by
 unfold stP stA
 rw [A.eq]
 simp only [Option.getD_some,aN,aO,aC]
 rfl
theorem Yf {d0 d1:D} {p:PS} {t:Int} {n:Nat} (P:POk d1 p n) {s' k':D} {e1 e2 e3 e4 e5 oc:Int} (A:aB9 d0 d1 p.s p.k t n s' k' e1 e2 e3 e4 e5 oc):POk d1 (stP d0 d1 p t) (n+1):=by
 rw [Ee A]
 refine⟨A.sx,A.lk.trans P.lk,?_⟩
 have:=P.ll
 show (if oc=2∨oc=3 then p.l++ [Xz e1 e2 e3 e4 e5] else p.l).length≤n+1
 split
 ·rw [List.length_append]; exact Nat.succ_le_succ this
 ·omega
def GX (d0 d1 d:D) (q:PS):List Int:=if q.l= [] then [1,enc d0,enc d1,enc d,enc q.s,enc q.k] else [2,enc d0,enc d1,enc d,enc (dL q.l),enc q.s,enc q.k]
def DL (d1:D) (x:D):Int:=gW x.n (d1.l.length:Int)
theorem dr {ρ:Nat→Int} (a b:SE):(SE.rem a b).den ρ=(a.den ρ).tmod (b.den ρ):=rfl
theorem aeT:((3:Int)=2)=False:=by simp
theorem asQ:((1:Int)=2)=False:=by simp
theorem asP:((1:Int)=3)=False:=by simp
section
variable {d0 d1:D} (h0:Wd (.sl 3) d0) (h1:Wd (.sl 4) d1)
include h0 h1
theorem Tf: ∀(ts:List Int) (p:PS) (n:Nat),POk d1 p n→n+ts.length < 17592186043904→POk d1 (lQ d0 d1 p ts) (n+ts.length)
 | [],p,n,P,_=>P
 | t :: ts,p,n,P,hn=>by
   simp only [List.length_cons] at hn
   obtain⟨s',k',e1,e2,e3,e4,e5,oc,A⟩:=AB P.sx (by omega) h0 h1 t
   have h:=Tf ts _ (n+1) (Yf P A) (by omega)
   have e:n+1+ts.length=n+(t :: ts).length:=by rw [List.length_cons]; omega
   rw [e] at h
   exact h
end
section
variable {d0 d1:D} (h0:Wd (.sl 3) d0) (h1:Wd (.sl 4) d1) (hn:0 < d1.l.length)
include h0 h1 hn
theorem PK (d:D) (hd:d.l.length≤1000000): ∀(j i:Nat) (p:PS),i+j=d.l.length→POk d1 p i→
 (p.l= []→L 15501 [enc d0,enc d1,enc d,(d1.l.length:Int),(i:Int),enc p.s,enc p.k]=some (GX d0 d1 d (lQ d0 d1 p ((d.l.drop i).map (DL d1)))))∧
 (p.l≠[]→L 15502 [enc d0,enc d1,enc d,(d1.l.length:Int),(i:Int),enc (dL p.l),enc p.s,enc p.k]=some (GX d0 d1 d (lQ d0 d1 p ((d.l.drop i).map (DL d1)))))
 | 0,i,p,hi,P=>by
   have c1: ¬(i:Int) < (d.l.length:Int):=by omega
   rw [List.drop_of_length_le (by omega)]
   simp only [List.map_nil,lQ]
   refine⟨fun hp=>?_,fun hp=>?_⟩
   ·rw [aT,Zm]
    simp only [Ed,zz,aG.den,Nat.reduceLT,c1,bK,GX,hp,if_true]
   ·rw [aT,Zl]
    simp only [Ec,zz,aG.den,Nat.reduceLT,c1,bK,GX,if_neg hp]
 | j+1,i,p,hi,P=>by
   have hil:i < d.l.length:=by omega
   have c1:(i:Int) < (d.l.length:Int):=by omega
   have c2:(0:Int) < (d1.l.length:Int):=by omega
   have c3: ¬((i:Int) < 0):=by omega
   have w:=aY (n:=i) (by omega)
   have hb:=h1.len
   have pk:=PN (x:=(d.at (i:Int)).n) c2 (by omega)
   obtain⟨r1,r2⟩:=CP (x:=(d.at (i:Int)).n) c2
   have c4: ¬(gW (d.at (i:Int)).n (d1.l.length:Int) < 0):=by omega
   have c5:gW (d.at (i:Int)).n (d1.l.length:Int) < (p.k.l.length:Int):=by have:=P.lk; omega
   obtain⟨s',k',e1,e2,e3,e4,e5,oc,A⟩:=AB P.sx (by omega) h0 h1 (gW (d.at (i:Int)).n (d1.l.length:Int))
   have hA:=A.eq
   have c6:gW (d.at (i:Int)).n (d1.l.length:Int) < (k'.l.length:Int):=by have:=P.lk; have:=A.lk; omega
   have P':=Yf P A
   have ih:=PK d hd j (i+1) _ (by omega) P'
   have hdr:lQ d0 d1 p ((d.l.drop i).map (DL d1))=lQ d0 d1 (stP d0 d1 p (gW (d.at (i:Int)).n (d1.l.length:Int))) ((d.l.drop (i+1)).map (DL d1)):=by
    rw [List.drop_eq_getElem_cons hil,List.map_cons,lQ,DL,bC hil]
   have hl:=P.ll
   have c7:(p.l.length:Int) < 3518437208882:=by omega
   rw [hdr]
   generalize lQ d0 d1 (stP d0 d1 p (gW (d.at (i:Int)).n (d1.l.length:Int))) ((d.l.drop (i+1)).map (DL d1))=Q at *
   rw [Ee A] at ih
   obtain⟨ih1,ih2⟩:=ih
   refine⟨fun hp=>?_,fun hp=>?_⟩
   ·rw [aT,Zm]
    by_cases o2:oc=2
    ·simp only [o2,true_or,if_true,hp,List.nil_append,Xz,eY,gZ] at ih2
     simp only [Ed,zz,aG.den,Nat.reduceLT,dr,c1,c2,c3,c4,c5,pk,hA,o2,w,aP,yG,List.nil_append,eY,gZ]
     exact ih2 (by simp)
    ·by_cases o3:oc=3
     ·simp only [o3,or_true,if_true,hp,List.nil_append,Xz,eY,gZ] at ih2
      simp only [Ed,zz,aG.den,Nat.reduceLT,dr,c1,c2,c3,c4,c5,pk,hA,o3,w,aP,yG,List.nil_append,eY,gZ,aeT]
      exact ih2 (by simp)
     ·simp only [o2,o3,or_self,if_false] at ih1
      by_cases o1:oc=1
      ·simp only [Ed,zz,aG.den,Nat.reduceLT,dr,c1,c2,c3,c4,c5,pk,hA,o1,w,aP,asQ,asP]
       exact ih1 hp
      ·simp only [Ed,zz,aG.den,Nat.reduceLT,dr,c1,c2,c3,c4,c5,c6,pk,hA,o1,o2,o3,w,aP]
       exact ih1 hp
   ·rw [aT,Zl]
    by_cases o2:oc=2
    ·simp only [o2,true_or,if_true,Xz,eY,gZ] at ih2
     simp only [Ec,zz,aG.den,Nat.reduceLT,dr,c1,c2,c3,c4,c5,c7,pk,hA,o2,w,aP,aX]
     exact ih2 (by simp)
    ·by_cases o3:oc=3
     ·simp only [o3,or_true,if_true,Xz,eY,gZ] at ih2
      simp only [Ec,zz,aG.den,Nat.reduceLT,dr,c1,c2,c3,c4,c5,c7,pk,hA,o3,w,aP,aX,aeT]
      exact ih2 (by simp)
     ·simp only [o2,o3,or_self,if_false] at ih2
      by_cases o1:oc=1
      ·simp only [Ec,zz,aG.den,Nat.reduceLT,dr,c1,c2,c3,c4,c5,pk,hA,o1,w,aP,asQ,asP]
       exact ih2 hp
      ·simp only [Ec,zz,aG.den,Nat.reduceLT,dr,c1,c2,c3,c4,c5,c6,pk,hA,o1,o2,o3,w,aP]
       exact ih2 hp
theorem PI (d:D) (hd:d.l.length≤1000000): ∀(j i:Nat) (p:PS),i+j=d.l.length→POk d1 p i→
 (p.l= []→L 15601 [enc d0,enc d1,enc d,(d1.l.length:Int),(i:Int),enc p.s,enc p.k]=some (GX d0 d1 d (lQ d0 d1 p ((d.l.drop i).map (DL d1)))))∧
 (p.l≠[]→L 15602 [enc d0,enc d1,enc d,(d1.l.length:Int),(i:Int),enc (dL p.l),enc p.s,enc p.k]=some (GX d0 d1 d (lQ d0 d1 p ((d.l.drop i).map (DL d1)))))
 | 0,i,p,hi,P=>by
   have c1: ¬(i:Int) < (d.l.length:Int):=by omega
   rw [List.drop_of_length_le (by omega)]
   simp only [List.map_nil,lQ]
   refine⟨fun hp=>?_,fun hp=>?_⟩
   ·rw [aT,Zi]
    simp only [Eb,zz,aG.den,Nat.reduceLT,c1,bK,GX,hp,if_true]
   ·rw [aT,Zh]
    simp only [Ea,zz,aG.den,Nat.reduceLT,c1,bK,GX,if_neg hp]
 | j+1,i,p,hi,P=>by
   have hil:i < d.l.length:=by omega
   have c1:(i:Int) < (d.l.length:Int):=by omega
   have c2:(0:Int) < (d1.l.length:Int):=by omega
   have c3: ¬((i:Int) < 0):=by omega
   have w:=aY (n:=i) (by omega)
   have hb:=h1.len
   have pk:=PN (x:=(d.at (i:Int)).n) c2 (by omega)
   obtain⟨r1,r2⟩:=CP (x:=(d.at (i:Int)).n) c2
   have c4: ¬(gW (d.at (i:Int)).n (d1.l.length:Int) < 0):=by omega
   have c5:gW (d.at (i:Int)).n (d1.l.length:Int) < (p.k.l.length:Int):=by have:=P.lk; omega
   obtain⟨s',k',e1,e2,e3,e4,e5,oc,A⟩:=AB P.sx (by omega) h0 h1 (gW (d.at (i:Int)).n (d1.l.length:Int))
   have hA:=A.eq
   have c6:gW (d.at (i:Int)).n (d1.l.length:Int) < (k'.l.length:Int):=by have:=P.lk; have:=A.lk; omega
   have P':=Yf P A
   have ih:=PI d hd j (i+1) _ (by omega) P'
   have hdr:lQ d0 d1 p ((d.l.drop i).map (DL d1))=lQ d0 d1 (stP d0 d1 p (gW (d.at (i:Int)).n (d1.l.length:Int))) ((d.l.drop (i+1)).map (DL d1)):=by
    rw [List.drop_eq_getElem_cons hil,List.map_cons,lQ,DL,bC hil]
   have hl:=P.ll
   have c7:(p.l.length:Int) < 3518437208882:=by omega
   rw [hdr]
   generalize lQ d0 d1 (stP d0 d1 p (gW (d.at (i:Int)).n (d1.l.length:Int))) ((d.l.drop (i+1)).map (DL d1))=Q at *
   rw [Ee A] at ih
   obtain⟨ih1,ih2⟩:=ih
   refine⟨fun hp=>?_,fun hp=>?_⟩
   ·rw [aT,Zi]
    by_cases o2:oc=2
    ·simp only [o2,true_or,if_true,hp,List.nil_append,Xz,eY,gZ] at ih2
     simp only [Eb,zz,aG.den,Nat.reduceLT,dr,c1,c2,c3,c4,c5,pk,hA,o2,w,aP,yG,List.nil_append,eY,gZ]
     exact ih2 (by simp)
    ·by_cases o3:oc=3
     ·simp only [o3,or_true,if_true,hp,List.nil_append,Xz,eY,gZ] at ih2
      simp only [Eb,zz,aG.den,Nat.reduceLT,dr,c1,c2,c3,c4,c5,pk,hA,o3,w,aP,yG,List.nil_append,eY,gZ,aeT]
      exact ih2 (by simp)
     ·simp only [o2,o3,or_self,if_false] at ih1
      by_cases o1:oc=1
      ·simp only [Eb,zz,aG.den,Nat.reduceLT,dr,c1,c2,c3,c4,c5,pk,hA,o1,w,aP,asQ,asP]
       exact ih1 hp
      ·simp only [Eb,zz,aG.den,Nat.reduceLT,dr,c1,c2,c3,c4,c5,c6,pk,hA,o1,o2,o3,w,aP]
       exact ih1 hp
   ·rw [aT,Zh]
    by_cases o2:oc=2
    ·simp only [o2,true_or,if_true,Xz,eY,gZ] at ih2
     simp only [Ea,zz,aG.den,Nat.reduceLT,dr,c1,c2,c3,c4,c5,c7,pk,hA,o2,w,aP,aX]
     exact ih2 (by simp)
    ·by_cases o3:oc=3
     ·simp only [o3,or_true,if_true,Xz,eY,gZ] at ih2
      simp only [Ea,zz,aG.den,Nat.reduceLT,dr,c1,c2,c3,c4,c5,c7,pk,hA,o3,w,aP,aX,aeT]
      exact ih2 (by simp)
     ·simp only [o2,o3,or_self,if_false] at ih2
      by_cases o1:oc=1
      ·simp only [Ea,zz,aG.den,Nat.reduceLT,dr,c1,c2,c3,c4,c5,pk,hA,o1,w,aP,asQ,asP]
       exact ih2 hp
      ·simp only [Ea,zz,aG.den,Nat.reduceLT,dr,c1,c2,c3,c4,c5,c6,pk,hA,o1,o2,o3,w,aP]
       exact ih2 hp
end
end Go.As.Try
end
section
namespace Go.As.Try
open Go hiding Stat Spec shape
open Go.As
set_option maxRecDepth 100000
theorem dm {ρ:Nat→Int} (a b:SE):(SE.mul a b).den ρ=a.den ρ*b.den ρ:=rfl
theorem akN:((2:Int)=0)=False:=by simp
theorem VN:((2:Int)=1)=False:=by simp
def tZ (d1:D) (x0:Int) (x:D):D:=.i (gW x.n (d1.l.length:Int)+(d1.l.length:Int)*x0.tmod 10)
theorem agR {x0:Int} (hx:iT .u8 x0):0≤x0.tmod 10∧x0.tmod 10 < 10:=by
 have h1:=hx.1
 rw [Int.tmod_eq_emod_of_nonneg h1]
 omega
theorem O8 {d1 x:D} {x0:Int} (hn:0 < d1.l.length) (hb:d1.l.length≤140737488351232) (hx:iT .u8 x0) :
 IntKind.i64.wrap (gW x.n (d1.l.length:Int)+IntKind.i64.wrap ((d1.l.length:Int)*IntKind.i64.wrap (x0.tmod 10)))=(tZ d1 x0 x).n:=by
 obtain⟨r1,r2⟩:=agR hx
 obtain⟨p1,p2⟩:=CP (x:=x.n) (n:=(d1.l.length:Int)) (by omega)
 rw [mM (z:=x0.tmod 10) (by omega) (by omega)]
 have m1:0≤(d1.l.length:Int)*x0.tmod 10:=Int.mul_nonneg (by omega) r1
 have m2:(d1.l.length:Int)*x0.tmod 10≤(d1.l.length:Int)*10:=Int.mul_le_mul_of_nonneg_left (by omega) (by omega)
 rw [mM (z:=(d1.l.length:Int)*x0.tmod 10) (by omega) (by omega),mM (by omega) (by omega)]
 rfl
theorem aAe {d1:D} {x0:Int} (hn:0 < d1.l.length) (hx:iT .u8 x0) (l:List D):(l.map (tZ d1 x0)).map (DL d1)=l.map (DL d1):=by
 rw [List.map_map]
 apply List.map_congr_left
 intro x _
 exact VB (by omega) (agR hx).1
section
variable {d0 d1 al:D} {x0:Int} (h1:Wd (.sl 4) d1) (hn:0 < d1.l.length) (hx:iT .u8 x0) (hal:al.l.length≤1000)
include h1 hn hx hal
theorem Oq {s k:D} (hS:L 2050 [enc s,enc k,enc s,enc k]=some [1]) (hP:L 15600 [enc d0,enc d1,enc (dL (al.l.map (tZ d1 x0)))]=some [0,enc d0,enc d1,enc (dL (al.l.map (tZ d1 x0)))]) (hZ:L 2050 [enc (.i 1),enc (.i 1),enc (.i 1),enc (.i 1)]=some [1]): ∀(j i:Nat) (acc:List D),i+j=al.l.length→acc++(al.l.drop i).map (tZ d1 x0)=al.l.map (tZ d1 x0)→
 L 2510 [x0,enc (dL acc),enc al,(al.l.length:Int),(i:Int),enc d0,enc d1]=some [1]
 | 0,i,acc,hi,ha=>by
   have c1: ¬(i:Int) < (al.l.length:Int):=by omega
   rw [List.drop_of_length_le (by omega),List.map_nil,List.append_nil] at ha
   subst ha
   have hE:=xZ (.i 1) (by simp [D.l])
   rw [aT,anQ]
   simp only [aaI,zz,aG.den,Nat.reduceLT,c1,hP,hE,hZ,bK,aH]
 | j+1,i,acc,hi,ha=>by
   have hil:i < al.l.length:=by omega
   have c1:(i:Int) < (al.l.length:Int):=by omega
   have c2: ¬((i:Int) < 0):=by omega
   have w:=aY (n:=i) (by omega)
   have hp:=vU (x:=(al.at (i:Int)).n) (n:=(d1.l.length:Int)) (by omega) (by have:=h1.len; omega)
   have hw:=O8 (d1:=d1) (x:=al.at (i:Int)) hn h1.len hx
   have hlen:acc.length+(al.l.length - i)=al.l.length:=by
    have:=congrArg List.length ha
    rw [List.length_append,List.length_map,List.length_map,List.length_drop] at this
    exact this
   have c3:(acc.length:Int) < 17592186044415:=by omega
   have hd:acc++ [tZ d1 x0 (al.at (i:Int))]++(al.l.drop (i+1)).map (tZ d1 x0)=al.l.map (tZ d1 x0):=by
    rw [← ha,List.drop_eq_getElem_cons hil,List.map_cons,List.append_assoc,bC hil]
    rfl
   have ih:=Oq hS hP hZ j (i+1) (acc++ [tZ d1 x0 (al.at (i:Int))]) (by omega) hd
   rw [aT,anQ]
   simp only [aaI,zz,aG.den,Nat.reduceLT,dr,dm,c1,c2,c3,w,hp,hw,aP,aX]
   exact ih
theorem Oo {s k:D} (hS:L 2050 [enc s,enc k,enc s,enc k]=some [1]) (hP:(L 15600 [enc d0,enc d1,enc (dL (al.l.map (tZ d1 x0)))]=some [0,enc d0,enc d1,enc (dL (al.l.map (tZ d1 x0)))]∧s= .i 1∧k= .i 1)∨L 15600 [enc d0,enc d1,enc (dL (al.l.map (tZ d1 x0)))]=some [1,enc d0,enc d1,enc (dL (al.l.map (tZ d1 x0))),enc s,enc k]): ∀(j i:Nat) (acc:List D),i+j=al.l.length→acc++(al.l.drop i).map (tZ d1 x0)=al.l.map (tZ d1 x0)→
 L 2511 [x0,enc (dL acc),enc al,(al.l.length:Int),(i:Int),enc d0,enc d1,enc s,enc k]=some [1]
 | 0,i,acc,hi,ha=>by
   have c1: ¬(i:Int) < (al.l.length:Int):=by omega
   rw [List.drop_of_length_le (by omega),List.map_nil,List.append_nil] at ha
   subst ha
   have hE:=xZ (.i 1) (by simp [D.l])
   rw [aT,anP]
   rcases hP with ⟨hP,rfl,rfl⟩ | hP
   ·simp only [Vk,zz,aG.den,Nat.reduceLT,c1,hP,hE,hS,bK,aH]
   ·simp only [Vk,zz,aG.den,Nat.reduceLT,c1,hP,hE,hS,bK,aH]
 | j+1,i,acc,hi,ha=>by
   have hil:i < al.l.length:=by omega
   have c1:(i:Int) < (al.l.length:Int):=by omega
   have c2: ¬((i:Int) < 0):=by omega
   have w:=aY (n:=i) (by omega)
   have hp:=vU (x:=(al.at (i:Int)).n) (n:=(d1.l.length:Int)) (by omega) (by have:=h1.len; omega)
   have hw:=O8 (d1:=d1) (x:=al.at (i:Int)) hn h1.len hx
   have hlen:acc.length+(al.l.length - i)=al.l.length:=by
    have:=congrArg List.length ha
    rw [List.length_append,List.length_map,List.length_map,List.length_drop] at this
    exact this
   have c3:(acc.length:Int) < 17592186044415:=by omega
   have hd:acc++ [tZ d1 x0 (al.at (i:Int))]++(al.l.drop (i+1)).map (tZ d1 x0)=al.l.map (tZ d1 x0):=by
    rw [← ha,List.drop_eq_getElem_cons hil,List.map_cons,List.append_assoc,bC hil]
    rfl
   have ih:=Oo hS hP j (i+1) (acc++ [tZ d1 x0 (al.at (i:Int))]) (by omega) hd
   rw [aT,anP]
   simp only [Vk,zz,aG.den,Nat.reduceLT,dr,dm,c1,c2,c3,w,hp,hw,aP,aX]
   exact ih
theorem Om {s k e:D} (hS:L 2050 [enc s,enc k,enc s,enc k]=some [1]) (hP:L 15600 [enc d0,enc d1,enc (dL (al.l.map (tZ d1 x0)))]=some [2,enc d0,enc d1,enc (dL (al.l.map (tZ d1 x0))),enc e,enc s,enc k]) (he:e.l.length≤140737488351232): ∀(j i:Nat) (acc:List D),i+j=al.l.length→acc++(al.l.drop i).map (tZ d1 x0)=al.l.map (tZ d1 x0)→
 L 2512 [x0,enc e,enc (dL acc),enc al,(al.l.length:Int),(i:Int),enc d0,enc d1,enc s,enc k]=some [1]
 | 0,i,acc,hi,ha=>by
   have c1: ¬(i:Int) < (al.l.length:Int):=by omega
   rw [List.drop_of_length_le (by omega),List.map_nil,List.append_nil] at ha
   subst ha
   have hE:=xZ (.i 1) (by simp [D.l])
   rw [aT,anO]
   have hE':=xZ e he
   simp only [aaH,zz,aG.den,Nat.reduceLT,c1,hP,hE',hS,bK,aH,akN,VN]
 | j+1,i,acc,hi,ha=>by
   have hil:i < al.l.length:=by omega
   have c1:(i:Int) < (al.l.length:Int):=by omega
   have c2: ¬((i:Int) < 0):=by omega
   have w:=aY (n:=i) (by omega)
   have hp:=vU (x:=(al.at (i:Int)).n) (n:=(d1.l.length:Int)) (by omega) (by have:=h1.len; omega)
   have hw:=O8 (d1:=d1) (x:=al.at (i:Int)) hn h1.len hx
   have hlen:acc.length+(al.l.length - i)=al.l.length:=by
    have:=congrArg List.length ha
    rw [List.length_append,List.length_map,List.length_map,List.length_drop] at this
    exact this
   have c3:(acc.length:Int) < 17592186044415:=by omega
   have hd:acc++ [tZ d1 x0 (al.at (i:Int))]++(al.l.drop (i+1)).map (tZ d1 x0)=al.l.map (tZ d1 x0):=by
    rw [← ha,List.drop_eq_getElem_cons hil,List.map_cons,List.append_assoc,bC hil]
    rfl
   have ih:=Om hS hP he j (i+1) (acc++ [tZ d1 x0 (al.at (i:Int))]) (by omega) hd
   rw [aT,anO]
   simp only [aaH,zz,aG.den,Nat.reduceLT,dr,dm,c1,c2,c3,w,hp,hw,aP,aX]
   exact ih
theorem Ye {s k:D} (hS:L 2050 [enc s,enc k,enc s,enc k]=some [1]) (hP:L 15600 [enc d0,enc d1,enc (dL (al.l.map (tZ d1 x0)))]=some [0,enc d0,enc d1,enc (dL (al.l.map (tZ d1 x0)))]) (hZ:L 2050 [enc (.i 1),enc (.i 1),enc (.i 1),enc (.i 1)]=some [1]) (hpos:0 < al.l.length):L 2505 [x0,enc al,(al.l.length:Int),enc d0,enc d1]=some [1]:=by
 have c1:(0:Int) < (al.l.length:Int):=by omega
 have hp:=vU (x:=(al.at 0).n) (n:=(d1.l.length:Int)) (by omega) (by have:=h1.len; omega)
 have hw:=O8 (d1:=d1) (x:=al.at 0) hn h1.len hx
 have ih:=Oq h1 hn hx hal hS hP hZ (al.l.length - 1) 1 [tZ d1 x0 (al.at 0)] (by omega) (by
  conv=>rhs; rw [← List.drop_zero (l:=al.l),List.drop_eq_getElem_cons hpos]
  rw [List.map_cons,← bC (i:=0) hpos]
  rfl)
 have e1:(dL [tZ d1 x0 (al.at 0)])= .p (tZ d1 x0 (al.at 0)) (.i 0):=rfl
 rw [e1] at ih
 rw [aT,axV]
 simp only [aiH,zz,aG.den,Nat.reduceLT,dr,dm,c1,hp,hw,aP,yG,List.nil_append,eY,gZ]
 exact ih
theorem Le {s k:D} (hS:L 2050 [enc s,enc k,enc s,enc k]=some [1]) (hP:(L 15600 [enc d0,enc d1,enc (dL (al.l.map (tZ d1 x0)))]=some [0,enc d0,enc d1,enc (dL (al.l.map (tZ d1 x0)))]∧s= .i 1∧k= .i 1)∨L 15600 [enc d0,enc d1,enc (dL (al.l.map (tZ d1 x0)))]=some [1,enc d0,enc d1,enc (dL (al.l.map (tZ d1 x0))),enc s,enc k]) (hpos:0 < al.l.length):L 2507 [x0,enc al,(al.l.length:Int),enc d0,enc d1,enc s,enc k]=some [1]:=by
 have c1:(0:Int) < (al.l.length:Int):=by omega
 have hp:=vU (x:=(al.at 0).n) (n:=(d1.l.length:Int)) (by omega) (by have:=h1.len; omega)
 have hw:=O8 (d1:=d1) (x:=al.at 0) hn h1.len hx
 have ih:=Oo h1 hn hx hal hS hP (al.l.length - 1) 1 [tZ d1 x0 (al.at 0)] (by omega) (by
  conv=>rhs; rw [← List.drop_zero (l:=al.l),List.drop_eq_getElem_cons hpos]
  rw [List.map_cons,← bC (i:=0) hpos]
  rfl)
 have e1:(dL [tZ d1 x0 (al.at 0)])= .p (tZ d1 x0 (al.at 0)) (.i 0):=rfl
 rw [e1] at ih
 rw [aT,axT]
 simp only [aiG,zz,aG.den,Nat.reduceLT,dr,dm,c1,hp,hw,aP,yG,List.nil_append,eY,gZ]
 exact ih
theorem Yd {s k e:D} (hS:L 2050 [enc s,enc k,enc s,enc k]=some [1]) (hP:L 15600 [enc d0,enc d1,enc (dL (al.l.map (tZ d1 x0)))]=some [2,enc d0,enc d1,enc (dL (al.l.map (tZ d1 x0))),enc e,enc s,enc k]) (he:e.l.length≤140737488351232) (hpos:0 < al.l.length):L 2509 [x0,enc e,enc al,(al.l.length:Int),enc d0,enc d1,enc s,enc k]=some [1]:=by
 have c1:(0:Int) < (al.l.length:Int):=by omega
 have hp:=vU (x:=(al.at 0).n) (n:=(d1.l.length:Int)) (by omega) (by have:=h1.len; omega)
 have hw:=O8 (d1:=d1) (x:=al.at 0) hn h1.len hx
 have ih:=Om h1 hn hx hal hS hP he (al.l.length - 1) 1 [tZ d1 x0 (al.at 0)] (by omega) (by
  conv=>rhs; rw [← List.drop_zero (l:=al.l),List.drop_eq_getElem_cons hpos]
  rw [List.map_cons,← bC (i:=0) hpos]
  rfl)
 have e1:(dL [tZ d1 x0 (al.at 0)])= .p (tZ d1 x0 (al.at 0)) (.i 0):=rfl
 rw [e1] at ih
 rw [aT,axS]
 simp only [aiF,zz,aG.den,Nat.reduceLT,dr,dm,c1,hp,hw,aP,yG,List.nil_append,eY,gZ]
 exact ih
end
section
variable {d0 d1:D} {x0:Int}
theorem aeR (hP:L 15550 [enc d0,enc d1]=some [0,enc d0,enc d1]) (hZ:L 2050 [enc (.i 1),enc (.i 1),enc (.i 1),enc (.i 1)]=some [1]):L 2504 [x0,enc d0,enc d1]=some [1]:=by
 have hE:=xZ (.i 1) (by simp [D.l])
 rw [aT,axW]
 simp only [aiI,zz,aG.den,Nat.reduceLT,hP,hE,hZ,bK,aH]
theorem P8 {s k:D} (hS:L 2050 [enc s,enc k,enc s,enc k]=some [1]) (hP:(L 15550 [enc d0,enc d1]=some [0,enc d0,enc d1]∧s= .i 1∧k= .i 1)∨L 15550 [enc d0,enc d1]=some [1,enc d0,enc d1,enc s,enc k]):L 2506 [x0,enc d0,enc d1,enc s,enc k]=some [1]:=by
 have hE:=xZ (.i 1) (by simp [D.l])
 rw [aT,axU]
 rcases hP with ⟨hP,rfl,rfl⟩ | hP
 ·simp only [aaJ,zz,aG.den,Nat.reduceLT,hP,hE,hS,bK,aH]
 ·simp only [aaJ,zz,aG.den,Nat.reduceLT,hP,hE,hS,bK,aH]
end
section
variable {d0 d1 a b:D} {x0:Int} (ha:a.l.length≤60) (hb:b.l.length≤60)
include ha hb
theorem amT (hz:b.l.length=0) (hNo:a.l++b.l= []→L 2504 [x0,enc d0,enc d1]=some [1]) (hAl: ∀al:D,al.l=a.l++b.l→0 < al.l.length→L 2505 [x0,enc al,(al.l.length:Int),enc d0,enc d1]=some [1]) :
 L 2501 [x0,enc a,enc b,(b.l.length:Int),enc d0,enc d1]=some [1]:=by
 have c1: ¬(0:Int) < (b.l.length:Int):=by omega
 rw [aT,anT]
 by_cases za:(a.l.length:Int)=0
 ·have ha':a.l= []:=List.length_eq_zero_iff.1 (by omega)
  by_cases zb:(b.l.length:Int)=0
  ·have hb':b.l= []:=List.length_eq_zero_iff.1 (by omega)
   simp only [KN,zz,aG.den,Nat.reduceLT,c1,za,zb,aP]
   exact hNo (by rw [ha',hb']; rfl)
  ·have c2:(b.l.length:Int) < 17592186044416:=by omega
   simp only [KN,zz,aG.den,Nat.reduceLT,c1,za,zb,c2,aP]
   exact hAl b (by rw [ha']; rfl) (by omega)
 ·have c2:(a.l.length:Int) < 17592186044416:=by omega
  by_cases zb:(b.l.length:Int)=0
  ·have hb':b.l= []:=List.length_eq_zero_iff.1 (by omega)
   simp only [KN,zz,aG.den,Nat.reduceLT,c1,za,zb,c2,aP]
   exact hAl a (by rw [hb',List.append_nil]) (by omega)
  ·have c3:(b.l.length:Int) < 17592185044416:=by omega
   have c4:(a.l.length:Int) < 1000000:=by omega
   have h:=hAl (dL (a.l++b.l)) (aX _) (by rw [aX,List.length_append]; omega)
   simp only [KN,zz,aG.den,Nat.reduceLT,c1,za,zb,c2,c3,c4,aP]
   exact h
theorem WR {s k:D} (hNo:a.l++b.l= []→L 2506 [x0,enc d0,enc d1,enc s,enc k]=some [1]) (hAl: ∀al:D,al.l=a.l++b.l→0 < al.l.length→L 2507 [x0,enc al,(al.l.length:Int),enc d0,enc d1,enc s,enc k]=some [1]) :
 L 2502 [x0,enc a,enc b,(b.l.length:Int),(b.l.length:Int),enc d0,enc d1,enc s,enc k]=some [1]:=by
 have c1: ¬(b.l.length:Int) < (b.l.length:Int):=by omega
 rw [aT,anS]
 by_cases za:(a.l.length:Int)=0
 ·have ha':a.l= []:=List.length_eq_zero_iff.1 (by omega)
  by_cases zb:(b.l.length:Int)=0
  ·have hb':b.l= []:=List.length_eq_zero_iff.1 (by omega)
   simp only [E5,zz,aG.den,Nat.reduceLT,c1,za,zb,aP]
   exact hNo (by rw [ha',hb']; rfl)
  ·have c2:(b.l.length:Int) < 17592186044416:=by omega
   simp only [E5,zz,aG.den,Nat.reduceLT,c1,za,zb,c2,aP]
   exact hAl b (by rw [ha']; rfl) (by omega)
 ·have c2:(a.l.length:Int) < 17592186044416:=by omega
  by_cases zb:(b.l.length:Int)=0
  ·have hb':b.l= []:=List.length_eq_zero_iff.1 (by omega)
   simp only [E5,zz,aG.den,Nat.reduceLT,c1,za,zb,c2,aP]
   exact hAl a (by rw [hb',List.append_nil]) (by omega)
  ·have c3:(b.l.length:Int) < 17592185044416:=by omega
   have c4:(a.l.length:Int) < 1000000:=by omega
   have h:=hAl (dL (a.l++b.l)) (aX _) (by rw [aX,List.length_append]; omega)
   simp only [E5,zz,aG.den,Nat.reduceLT,c1,za,zb,c2,c3,c4,aP]
   exact h
theorem amS {s k e:D} (hNo:a.l++b.l= []→L 2508 [x0,enc e,enc d0,enc d1,enc s,enc k]=some [1]) (hAl: ∀al:D,al.l=a.l++b.l→0 < al.l.length→L 2509 [x0,enc e,enc al,(al.l.length:Int),enc d0,enc d1,enc s,enc k]=some [1]) :
 L 2503 [x0,enc a,enc b,enc e,(b.l.length:Int),(b.l.length:Int),enc d0,enc d1,enc s,enc k]=some [1]:=by
 have c1: ¬(b.l.length:Int) < (b.l.length:Int):=by omega
 rw [aT,anR]
 by_cases za:(a.l.length:Int)=0
 ·have ha':a.l= []:=List.length_eq_zero_iff.1 (by omega)
  by_cases zb:(b.l.length:Int)=0
  ·have hb':b.l= []:=List.length_eq_zero_iff.1 (by omega)
   simp only [EZ,zz,aG.den,Nat.reduceLT,c1,za,zb,aP]
   exact hNo (by rw [ha',hb']; rfl)
  ·have c2:(b.l.length:Int) < 17592186044416:=by omega
   simp only [EZ,zz,aG.den,Nat.reduceLT,c1,za,zb,c2,aP]
   exact hAl b (by rw [ha']; rfl) (by omega)
 ·have c2:(a.l.length:Int) < 17592186044416:=by omega
  by_cases zb:(b.l.length:Int)=0
  ·have hb':b.l= []:=List.length_eq_zero_iff.1 (by omega)
   simp only [EZ,zz,aG.den,Nat.reduceLT,c1,za,zb,c2,aP]
   exact hAl a (by rw [hb',List.append_nil]) (by omega)
  ·have c3:(b.l.length:Int) < 17592185044416:=by omega
   have c4:(a.l.length:Int) < 1000000:=by omega
   have h:=hAl (dL (a.l++b.l)) (aX _) (by rw [aX,List.length_append]; omega)
   simp only [EZ,zz,aG.den,Nat.reduceLT,c1,za,zb,c2,c3,c4,aP]
   exact h
end
section
variable {d0 d1 a b:D} {x0:Int} (h0:Wd (.sl 3) d0) (h1:Wd (.sl 4) d1) (hn:0 < d1.l.length) (hb:b.l.length≤60)
include h0 h1 hn hb
theorem second: ∀(j i:Nat) (p:PS),i+j=b.l.length→Sx p.s p.k (1000+i)→p.l.length≤1000+i→
 ((lQ d0 d1 p ((b.l.drop i).map (DL d1))).l= []→L 2502 [x0,enc a,enc b,(b.l.length:Int),(b.l.length:Int),enc d0,enc d1,enc (lQ d0 d1 p ((b.l.drop i).map (DL d1))).s,enc (lQ d0 d1 p ((b.l.drop i).map (DL d1))).k]=some [1])→
 ((lQ d0 d1 p ((b.l.drop i).map (DL d1))).l≠[]→L 2503 [x0,enc a,enc b,enc (dL (lQ d0 d1 p ((b.l.drop i).map (DL d1))).l),(b.l.length:Int),(b.l.length:Int),enc d0,enc d1,enc (lQ d0 d1 p ((b.l.drop i).map (DL d1))).s,enc (lQ d0 d1 p ((b.l.drop i).map (DL d1))).k]=some [1])→
 (p.l= []→L 2502 [x0,enc a,enc b,(b.l.length:Int),(i:Int),enc d0,enc d1,enc p.s,enc p.k]=some [1])∧(p.l≠[]→L 2503 [x0,enc a,enc b,enc (dL p.l),(b.l.length:Int),(i:Int),enc d0,enc d1,enc p.s,enc p.k]=some [1])
 | 0,i,p,hi,_,_,hE,hE'=>by
   rw [List.drop_of_length_le (by omega)] at hE hE'
   have e:i=b.l.length:=by omega
   subst e
   exact⟨hE,hE'⟩
 | j+1,i,p,hi,P,hl,hE,hE'=>by
   have hil:i < b.l.length:=by omega
   have c1:(i:Int) < (b.l.length:Int):=by omega
   have c3: ¬((i:Int) < 0):=by omega
   have w:=aY (n:=i) (by omega)
   have hp:=vU (x:=(b.at (i:Int)).n) (n:=(d1.l.length:Int)) (by omega) (by have:=h1.len; omega)
   obtain⟨s',k',e1,e2,e3,e4,e5,oc,A⟩:=AB P (by omega) h0 h1 (gW (b.at (i:Int)).n (d1.l.length:Int))
   have hA:=A.eq
   have hdr:lQ d0 d1 p ((b.l.drop i).map (DL d1))=lQ d0 d1 (stP d0 d1 p (gW (b.at (i:Int)).n (d1.l.length:Int))) ((b.l.drop (i+1)).map (DL d1)):=by
    rw [List.drop_eq_getElem_cons hil,List.map_cons,lQ,DL,bC hil]
   have c7:(p.l.length:Int) < 3518437208882:=by omega
   rw [hdr] at hE hE'
   have hsx:Sx (stP d0 d1 p (gW (b.at (i:Int)).n (d1.l.length:Int))).s (stP d0 d1 p (gW (b.at (i:Int)).n (d1.l.length:Int))).k (1000+(i+1)):=by
    rw [Ee A]; exact A.sx
   have hl':(stP d0 d1 p (gW (b.at (i:Int)).n (d1.l.length:Int))).l.length≤1000+(i+1):=by
    rw [Ee A]
    show (if oc=2∨oc=3 then p.l++ [Xz e1 e2 e3 e4 e5] else p.l).length≤1000+(i+1)
    split
    ·rw [List.length_append]
     exact Nat.succ_le_succ hl
    ·omega
   have ih:=second j (i+1) _ (by omega) hsx hl' hE hE'
   rw [Ee A] at ih
   obtain⟨ih1,ih2⟩:=ih
   refine⟨fun hq=>?_,fun hq=>?_⟩
   ·rw [aT,anS]
    by_cases o2:oc=2
    ·simp only [o2,true_or,if_true,hq,List.nil_append,Xz,eY,gZ] at ih2
     simp only [E5,zz,aG.den,Nat.reduceLT,c1,c3,hp,hA,o2,w,aP,yG,List.nil_append,eY,gZ]
     exact ih2 (by simp)
    ·by_cases o3:oc=3
     ·simp only [o3,or_true,if_true,hq,List.nil_append,Xz,eY,gZ] at ih2
      simp only [E5,zz,aG.den,Nat.reduceLT,c1,c3,hp,hA,o3,w,aP,yG,List.nil_append,eY,gZ,aeT]
      exact ih2 (by simp)
     ·simp only [o2,o3,or_self,if_false] at ih1
      simp only [E5,zz,aG.den,Nat.reduceLT,c1,c3,hp,hA,o2,o3,w,aP]
      exact ih1 hq
   ·rw [aT,anR]
    by_cases o2:oc=2
    ·simp only [o2,true_or,if_true,Xz,eY,gZ] at ih2
     simp only [EZ,zz,aG.den,Nat.reduceLT,c1,c3,c7,hp,hA,o2,w,aP,aX]
     exact ih2 (by simp)
    ·by_cases o3:oc=3
     ·simp only [o3,or_true,if_true,Xz,eY,gZ] at ih2
      simp only [EZ,zz,aG.den,Nat.reduceLT,c1,c3,c7,hp,hA,o3,w,aP,aX,aeT]
      exact ih2 (by simp)
     ·simp only [o2,o3,or_self,if_false] at ih2
      simp only [EZ,zz,aG.den,Nat.reduceLT,c1,c3,hp,hA,o2,o3,w,aP]
      exact ih2 hq
end
theorem XM (d1:D):(uM d1).l.length=d1.l.length:=by
 unfold uM
 split
 ·rename_i h; rw [h]; rfl
 ·rw [aX,List.length_map]
section
variable {d0 d1:D} (h0:Wd (.sl 3) d0) (h1:Wd (.sl 4) d1)
include h0 h1
theorem begins:(∃s k:D,L 1450 [enc d0,enc d1]=some [enc s,enc k,0]∧POk d1 ⟨s,k,[]⟩ 0)∨(∃c:Int,c≠0∧L 1450 [enc d0,enc d1]=some [enc (.i 1),enc (.i 1),c]):=by
 obtain⟨ys,hC,c,rfl,_,hok⟩:=Dq h0 h1
 by_cases hc:c=0
 ·subst hc
  have ok:=(hok rfl).1
  exact .inl ⟨_,_,aeZ h1 hC ok,ajA h0 h1 ok,XM d1,Nat.le_refl _⟩
 ·exact .inr ⟨c,hc,aeY hC hc⟩
end
theorem KX:Sx (.i 1) (.i 1) 0:=⟨⟨.nil 7,fun x hx=>by simp [D.l] at hx⟩,.nil 8,by simp,by simp⟩
section
variable {d0 d1:D} (h0:Wd (.sl 3) d0) (h1:Wd (.sl 4) d1)
include h0 h1
theorem VL (t:Int):stP d0 d1 ⟨.i 1,.i 1,[]⟩ t=⟨.i 1,.i 1,[]⟩:=by
 have h:L 1550 [enc d0,enc d1,enc (.i 1),enc (.i 1),t]=some [0]:=by
  rcases awM (t:=t) KX (by omega) h0 h1 with h | ⟨x,R⟩
  ·exact h
  ·have:=R.ht
   have:=R.r.t0
   simp only [D.l,List.length_nil] at *
   omega
 unfold stP stA
 rw [aaT KX h]
 simp only [Option.getD_some,aN,aO,aC]
 rfl
theorem TG: ∀ts:List Int,lQ d0 d1 ⟨.i 1,.i 1,[]⟩ ts=⟨.i 1,.i 1,[]⟩
 | []=>rfl
 | t :: ts=>by rw [lQ,VL h0 h1 t,TG ts]
end
section
variable {d0 d1:D} (h0:Wd (.sl 3) d0) (h1:Wd (.sl 4) d1) (hn:0 < d1.l.length)
include h0 h1 hn
theorem Yt {s k:D} (hB:L 1450 [enc d0,enc d1]=some [enc s,enc k,0]) (P:POk d1 ⟨s,k,[]⟩ 0) (d:D) (hd:d.l.length≤1000000):L 15500 [enc d0,enc d1,enc d]=some (GX d0 d1 d (lQ d0 d1 ⟨s,k,[]⟩ (d.l.map (DL d1)))):=by
 have h:=(PK h0 h1 hn d hd d.l.length 0 ⟨s,k,[]⟩ (by omega) P).1 rfl
 rw [List.drop_zero,Int.natCast_zero] at h
 rw [aT,Zn]
 simp only [SC,zz,aG.den,Nat.reduceLT,hB,aP]
 exact h
omit h0 h1 hn in
theorem YR {c:Int} (hc:c≠0) (hB:L 1450 [enc d0,enc d1]=some [enc (.i 1),enc (.i 1),c]) (d:D):L 15500 [enc d0,enc d1,enc d]=some [0,enc d0,enc d1,enc d]:=by
 rw [aT,Zn]
 simp only [SC,zz,aG.den,Nat.reduceLT,hB,if_neg hc,bK]
theorem Yr {s k:D} (hB:L 1450 [enc d0,enc d1]=some [enc s,enc k,0]) (P:POk d1 ⟨s,k,[]⟩ 0) (d:D) (hd:d.l.length≤1000000):L 15600 [enc d0,enc d1,enc d]=some (GX d0 d1 d (lQ d0 d1 ⟨s,k,[]⟩ (d.l.map (DL d1)))):=by
 have h:=(PI h0 h1 hn d hd d.l.length 0 ⟨s,k,[]⟩ (by omega) P).1 rfl
 rw [List.drop_zero,Int.natCast_zero] at h
 rw [aT,Zj]
 simp only [Sz,zz,aG.den,Nat.reduceLT,hB,aP]
 exact h
omit h0 h1 hn in
theorem Np {c:Int} (hc:c≠0) (hB:L 1450 [enc d0,enc d1]=some [enc (.i 1),enc (.i 1),c]) (d:D):L 15600 [enc d0,enc d1,enc d]=some [0,enc d0,enc d1,enc d]:=by
 rw [aT,Zj]
 simp only [Sz,zz,aG.den,Nat.reduceLT,hB,if_neg hc,bK]
omit h0 h1 hn in
theorem ajX {s k:D} (hB:L 1450 [enc d0,enc d1]=some [enc s,enc k,0]):L 15550 [enc d0,enc d1]=some [1,enc d0,enc d1,enc s,enc k]:=by
 have h:L 15551 [enc d0,enc d1,(d1.l.length:Int),enc s,enc k]=some [1,enc d0,enc d1,enc s,enc k]:=by
  rw [aT,anY]
  simp only [XQ,zz,aG.den,Nat.reduceLT,bK]
 rw [aT,Zk]
 simp only [SA,zz,aG.den,Nat.reduceLT,hB,aP,h]
omit h0 h1 hn in
theorem Ws {c:Int} (hc:c≠0) (hB:L 1450 [enc d0,enc d1]=some [enc (.i 1),enc (.i 1),c]):L 15550 [enc d0,enc d1]=some [0,enc d0,enc d1]:=by
 rw [aT,Zk]
 simp only [SA,zz,aG.den,Nat.reduceLT,hB,if_neg hc,bK]
end
section
variable {d0 d1 a b:D} {x0:Int} (h0:Wd (.sl 3) d0) (h1:Wd (.sl 4) d1) (hn:0 < d1.l.length) (hx:iT .u8 x0) (ha:a.l.length≤60) (hb:b.l.length≤60)
include h0 h1 hn hx ha hb
theorem amQ {s k:D} (hB:L 1450 [enc d0,enc d1]=some [enc s,enc k,0]) (P:POk d1 ⟨s,k,[]⟩ 0) (q:PS) (hq:q=lQ d0 d1 ⟨s,k,[]⟩ ((a.l++b.l).map (DL d1))) :
 (q.l= []→L 2502 [x0,enc a,enc b,(b.l.length:Int),(b.l.length:Int),enc d0,enc d1,enc q.s,enc q.k]=some [1])∧(q.l≠[]→L 2503 [x0,enc a,enc b,enc (dL q.l),(b.l.length:Int),(b.l.length:Int),enc d0,enc d1,enc q.s,enc q.k]=some [1]):=by
 have hQ:=Tf h0 h1 ((a.l++b.l).map (DL d1)) _ 0 P (by rw [List.length_map,List.length_append]; omega)
 rw [← hq,List.length_map,List.length_append] at hQ
 have hS:=hQ.sx.same (by omega)
 have hpl: ∀al:D,al.l=a.l++b.l→L 15600 [enc d0,enc d1,enc (dL (al.l.map (tZ d1 x0)))]=some (GX d0 d1 (dL (al.l.map (tZ d1 x0))) q):=fun al he=>by
  have h:=Yr h0 h1 hn hB P (dL (al.l.map (tZ d1 x0))) (by rw [aX,List.length_map,he,List.length_append]; omega)
  rw [aX,aAe hn hx,he,← hq,← he] at h
  exact h
 refine⟨fun hz=>?_,fun hz=>?_⟩
 ·refine WR ha hb (fun he=>P8 hS (.inr ?_)) fun al he hp=>Le h1 hn hx (by rw [he,List.length_append]; omega) hS (.inr ?_) hp
  ·rw [he] at hq
   have e:q=⟨s,k,[]⟩:=hq
   rw [e]
   exact ajX hB
  ·have h:=hpl al he
   unfold GX at h
   rw [if_pos hz] at h
   exact h
 ·have hlen:=hQ.ll
  have hpos:0 < q.l.length:=List.length_pos_iff.2 hz
  refine amS ha hb (fun he=>?_) fun al he hp=>Yd h1 hn hx (by rw [he,List.length_append]; omega) hS ?_ (by rw [aX]; omega) hp
  ·have:=congrArg List.length he
   rw [List.length_append,List.length_nil] at this
   omega
  ·have h:=hpl al he
   unfold GX at h
   rw [if_neg hz] at h
   exact h
theorem aAo {s k:D} (hB:L 1450 [enc d0,enc d1]=some [enc s,enc k,0]) (P:POk d1 ⟨s,k,[]⟩ 0) (q:PS) (hq:q=lQ d0 d1 ⟨s,k,[]⟩ (a.l.map (DL d1))) :
 (q.l= []→L 2502 [x0,enc a,enc b,(b.l.length:Int),0,enc d0,enc d1,enc q.s,enc q.k]=some [1])∧(q.l≠[]→L 2503 [x0,enc a,enc b,enc (dL q.l),(b.l.length:Int),0,enc d0,enc d1,enc q.s,enc q.k]=some [1]):=by
 have hQ:=Tf h0 h1 (a.l.map (DL d1)) _ 0 P (by rw [List.length_map]; omega)
 rw [← hq,List.length_map] at hQ
 have hE:=amQ h0 h1 hn hx ha hb hB P (lQ d0 d1 q (b.l.map (DL d1))) (by rw [hq,List.map_append,I9])
 have h:=second (x0:=x0) (a:=a) h0 h1 hn hb b.l.length 0 q (by omega) (hQ.sx.mono (by omega)) (by have:=hQ.ll; omega) (by rw [List.drop_zero]; exact hE.1) (by rw [List.drop_zero]; exact hE.2)
 rw [Int.natCast_zero] at h
 exact h
theorem aAp {c:Int} (hc:c≠0) (hB:L 1450 [enc d0,enc d1]=some [enc (.i 1),enc (.i 1),c]):L 2501 [x0,enc a,enc b,(b.l.length:Int),enc d0,enc d1]=some [1]:=by
 have hS:=KX.same (by omega)
 by_cases hz:b.l.length=0
 ·exact amT ha hb hz (fun _=>aeR (Ws hc hB) hS) fun al he hp=>Ye (s:=.i 1) (k:=.i 1) h1 hn hx (by rw [he,List.length_append]; omega) hS (Np hc hB _) hS hp
 ·have hE:=WR (d0:=d0) (d1:=d1) (x0:=x0) (s:=.i 1) (k:=.i 1) ha hb (fun he=>P8 hS (.inl ⟨Ws hc hB,rfl,rfl⟩)) fun al he hp=>Le h1 hn hx (by rw [he,List.length_append]; omega) hS (.inl ⟨Np hc hB _,rfl,rfl⟩) hp
  have h:=second (x0:=x0) (a:=a) h0 h1 hn hb (b.l.length - 1) 1 ⟨.i 1,.i 1,[]⟩ (by omega) (KX.mono (by omega)) (by simp) (fun _=>by rw [TG h0 h1]; exact hE) (fun hl=>absurd (by rw [TG h0 h1]) hl)
  have h':=h.1 rfl
  have c1:(0:Int) < (b.l.length:Int):=by omega
  have hp:=vU (x:=(b.at 0).n) (n:=(d1.l.length:Int)) (by omega) (by have:=h1.len; omega)
  obtain⟨s',k',e1,e2,e3,e4,e5,oc,A⟩:=AB KX (by omega) h0 h1 (gW (b.at 0).n (d1.l.length:Int))
  have hst:=VL h0 h1 (gW (b.at 0).n (d1.l.length:Int))
  rw [Ee (p:=⟨.i 1,.i 1,[]⟩) A] at hst
  simp only [PS.mk.injEq] at hst
  obtain⟨rfl,rfl,hl⟩:=hst
  have o2: ¬oc=2:=fun h=>by rw [if_pos (.inl h)] at hl; simp at hl
  have o3: ¬oc=3:=fun h=>by rw [if_pos (.inr h)] at hl; simp at hl
  have hA:=A.eq
  rw [aT,anT]
  simp only [KN,zz,aG.den,Nat.reduceLT,c1,hp,hA,o2,o3,aP]
  exact h'
end
section
variable {d0 d1:D} {x0:Int} (h0:Wd (.sl 3) d0) (h1:Wd (.sl 4) d1) (hx:iT .u8 x0)
include h0 h1 hx
theorem afE (a b:D):L 2500 [enc d0,enc d1,enc a,enc b,x0]=some [1]:=by
 obtain⟨ys,hG,g,rfl,_⟩:=afJ (d0:=d0) h1
 by_cases g0:g=0
 ·subst g0
  by_cases n0:(d1.l.length:Int)=0
  ·rw [aT,acN]
   simp only [IX,zz,aG.den,Nat.reduceLT,hG,n0,bK]
  ·have hn:0 < d1.l.length:=by omega
   have go: ∀a' b':D,a'.l.length≤60→b'.l.length≤60→(∀R:Option (List Int),(∀s k:D,L 15500 [enc d0,enc d1,enc a']=some [0,enc d0,enc d1,enc a']→L 2501 [x0,enc a',enc b',(b'.l.length:Int),enc d0,enc d1]=some [1]→R=some [1])→
    (∀s k:D,L 15500 [enc d0,enc d1,enc a']=some [1,enc d0,enc d1,enc a',enc s,enc k]→L 2502 [x0,enc a',enc b',(b'.l.length:Int),0,enc d0,enc d1,enc s,enc k]=some [1]→R=some [1])→
    (∀e s k:D,L 15500 [enc d0,enc d1,enc a']=some [2,enc d0,enc d1,enc a',enc e,enc s,enc k]→L 2503 [x0,enc a',enc b',enc e,(b'.l.length:Int),0,enc d0,enc d1,enc s,enc k]=some [1]→R=some [1])→R=some [1]):=by
    intro a' b' ha hb R r0 r1 r2
    rcases begins h0 h1 with ⟨s,k,hB,P⟩ | ⟨c,hc,hB⟩
    ·have hm:=aAo h0 h1 hn hx ha hb hB P _ rfl
     have hp:=Yt h0 h1 hn hB P a' (by omega)
     unfold GX at hp
     by_cases hz:(lQ d0 d1 ⟨s,k,[]⟩ (a'.l.map (DL d1))).l= []
     ·rw [if_pos hz] at hp
      exact r1 _ _ hp (hm.1 hz)
     ·rw [if_neg hz] at hp
      exact r2 _ _ _ hp (hm.2 hz)
    ·exact r0 (.i 1) (.i 1) (YR hc hB a') (aAp h0 h1 hn hx ha hb hc hB)
   have t60: ∀d:D,(60:Int) < (d.l.length:Int)→(iM d (d.l.take 60)).l.length≤60:=fun d _=>by rw [kP,List.length_take]; omega
   have tal: ∀d:D,¬(60:Int) < (d.l.length:Int)→(iM d (d.l.take d.l.length)).l.length≤60:=fun d h=>by rw [kP,List.length_take]; omega
   have n6:(60:Int).toNat=60:=rfl
   have lt: ∀d:D,¬(d.l.length:Int) < (d.l.length:Int):=fun d=>by omega
   rw [aT,acN]
   by_cases ca:(60:Int) < (a.l.length:Int) <;> by_cases cb:(60:Int) < (b.l.length:Int)
   ·refine go _ _ (t60 a ca) (t60 b cb) _ (fun s k h h'=>?_) (fun s k h h'=>?_) (fun e s k h h'=>?_) <;> (simp only [IX,zz,aG.den,Nat.reduceLT,hG,n0,ca,cb,n6,lt,Int.toNat_natCast,h,aP,aH,akN,VN]; exact h')
   ·refine go _ _ (t60 a ca) (tal b cb) _ (fun s k h h'=>?_) (fun s k h h'=>?_) (fun e s k h h'=>?_) <;> (simp only [IX,zz,aG.den,Nat.reduceLT,hG,n0,ca,cb,n6,lt,Int.toNat_natCast,h,aP,aH,akN,VN]; exact h')
   ·refine go _ _ (tal a ca) (t60 b cb) _ (fun s k h h'=>?_) (fun s k h h'=>?_) (fun e s k h h'=>?_) <;> (simp only [IX,zz,aG.den,Nat.reduceLT,hG,n0,ca,cb,n6,lt,Int.toNat_natCast,h,aP,aH,akN,VN]; exact h')
   ·refine go _ _ (tal a ca) (tal b cb) _ (fun s k h h'=>?_) (fun s k h h'=>?_) (fun e s k h h'=>?_) <;> (simp only [IX,zz,aG.den,Nat.reduceLT,hG,n0,ca,cb,n6,lt,Int.toNat_natCast,h,aP,aH,akN,VN]; exact h')
 ·rw [aT,acN]
  simp only [IX,zz,aG.den,Nat.reduceLT,hG,if_neg g0,bK]
end
end Go.As.Try
end

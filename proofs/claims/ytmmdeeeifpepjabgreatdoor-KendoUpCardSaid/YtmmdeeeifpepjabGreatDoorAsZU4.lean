import Derived.Test.YtmmdeeeifpepjabGreatDoorAsZU3
set_option linter.unusedSectionVars false
set_option linter.unusedVariables false
set_option linter.unusedSimpArgs false
section
namespace Go.As.Try
open Go hiding Stat Spec shape
open Go.As
set_option maxRecDepth 100000
def one (ys:List Int):Prop:= ∃k:Int,ys= [k]
theorem aC4 {o:Int} (h:iM .u8 o):IntKind.i64.wrap o=o:=nU (by have:=h.1; omega) (by have:=h.2; omega)
theorem alR (a b c d e:Int):Tot 650 [a,b,c,d,e] (fun ys=> ∃k l:Int,ys= [k,l]∧(l=0∨l=1)):=by
 refine Tot.of ?_;rw [aCx];simp only [asU,zz]
 repeat' first | exact .out ⟨_,_,rfl,.inl rfl⟩ | exact .out ⟨_,_,rfl,.inr rfl⟩ | refine .ite (fun _=>?_) (fun _=>?_)
theorem PI (r:D) (hl:r.l.length≤140737488351232) (x0 x4 x5 x6 x7 x8 x9 x10 x11 x12:Int) (v:D): ∀(j i:Nat) (x14:Int),i+j=r.l.length→
 Tot 501 [x0,enc r,(r.l.length:Int),(i:Int),x4,x5,x6,x7,x8,x9,x10,x11,x12,enc v,x14] EI
 | 0,i,x14,hi=>by
   have c1: ¬(i:Int) < (r.l.length:Int):=by omega
   refine Tot.of ?_;rw [aoP];simp only [Yh,zz,c1]
   repeat' first | exact .out zG | exact .out zF | refine .ite (fun _=>?_) (fun _=>?_)
 | j+1,i,x14,hi=>by
   have c1:(i:Int) < (r.l.length:Int):=by omega
   have c2: ¬((i:Int) < 0):=by omega
   have w:=aZ (n:=i) (by omega);have ih:=fun x=>PI r hl x0 x4 x5 x6 x7 x8 x9 x10 x11 x12 v j (i+1) x (by omega);refine Tot.of ?_;rw [aoP];simp only [Yh,zz,c1,c2,w]
   repeat' first | exact .out zG | exact .out zF | exact .jump (ih _) | refine .ite (fun _=>?_) (fun _=>?_)
theorem YI (x0 x1 x2 x3 x4 x5 x6 x7 x8 x11:Int) (r v:D) (hl:r.l.length≤140737488351232):Tot 500 [x0,x1,x2,x3,x4,x5,x6,x7,x8,enc r,enc v,x11] EI:=by
 obtain⟨ys,hM,a,b,rfl,hb⟩:=alR x0 x1 x2 x3 x4;have ih:=PI r hl x11 x0 x1 x2 x3 x4 x5 x6 x7 x8 v r.l.length 0 (enc (.i 0)) (by omega);refine Tot.of ?_;rw [aCz];simp only [ajF,zz,hM]
 repeat' first | exact .out zG | exact .out zF | exact .jump ih | refine .ite (fun _=>?_) (fun _=>?_)
end Go.As.Try
end
section
namespace Go.As.Try
open Go hiding Stat Spec shape
open Go.As
set_option maxRecDepth 100000
theorem set_self {d:D} (hd:d=dL d.l) {i:Nat} (hi:i < d.l.length):dL (fE d.l (i:Int) d.l[i])=d:=by rw [xH,List.set_getElem_self,← hd]
theorem TL (a b c d e f x:D):fE [a,b,c,d,e,f] 4 x= [a,b,c,d,x,f]:=rfl
theorem TJ (a b c d e f x:D):fE [a,b,c,d,e,f] 5 x= [a,b,c,d,e,x]:=rfl
theorem iO: ¬(enc (.i 2)=enc (.i 1)):=fun h=>by have:=lK h; simp at this
theorem len1:(((D.i 1).l.length:Nat):Int)=0:=rfl
theorem len2:(((D.i 2).l.length:Nat):Int)=0:=rfl
theorem oJ: ¬((0:Int) < 0):=by omega
theorem bG {r:D} (h:Wd (.sl 0) r):r= .i 1∨r= .i 2∨((0:Int) < (r.l.length:Int)∧(r.l.length:Int) < 17592186044416):=by
 rcases h.sh with h1 | h1 | ⟨h1,h2⟩
 ·exact .inl h1
 ·exact .inr (.inl h1)
 ·have hr:=h.room;have h3:vT 0=8:=rfl;rw [h3] at hr;have:=List.length_pos_iff.2 h2;exact .inr (.inr ⟨by omega,by omega⟩)
structure Th (d:D):Prop where
 wd:Wd (.sl 7) d
 sh:d=dL d.l
 few:d.l.length≤1759218604390
theorem E5 {d:D} (h:Wd (.sl 7) d) (hn:0 < d.l.length):Th d:=by
 refine⟨h,?_,?_⟩
 ·rcases h.sh with rfl | rfl | ⟨h1,_⟩
  ·simp [D.l] at hn
  ·simp [D.l] at hn
  ·exact h1
 ·have hr:=h.room;have h3:vT 7=80:=rfl;rw [h3] at hr;omega
theorem RZ (d:D) (h:Th d): ∀(j i:Nat),i+j=d.l.length→L 551 [enc d,(d.l.length:Int),(i:Int)]=some [enc d]
 | 0,i,hi=>by
   have c1: ¬(i:Int) < (d.l.length:Int):=by omega
   rw [aT,aCy];simp only [asV,zz,c1,fin]
 | j+1,i,hi=>by
   have hl:=h.few;have hil:i < d.l.length:=by omega
   have c1:(i:Int) < (d.l.length:Int):=by omega
   have c2: ¬((i:Int) < 0):=by omega
   have w:=aZ (n:=i) (by omega);have ih:=RZ d h j (i+1) (by omega);obtain⟨o,c,dn,g,r,v,he,_,_,_,_,hr,hv⟩:=h.wd.thing _ (List.getElem_mem hil);have hs:=set_self h.sh hil;rw [he] at hs;rw [aT,aCy];rcases bG hr with rfl | rfl | ⟨r1,r2⟩ <;> rcases bG hv with rfl | rfl | ⟨v1,v2⟩
   all_goals
    simp only [asV,zz,c1,c2,w,aY hil,he,eG,aX,List.getElem?_cons_zero,List.getElem?_cons_succ,TL,TJ,hs,len1,len2,oJ,iO]
    try simp only [r1,r2,zz]
    try simp only [v1,v2,zz]
    try simp only [fin]
    exact ih
theorem arA (d:D) (h:Wd (.sl 7) d):L 550 [enc d]=some [enc d]:=by
 rw [aT,aES];rcases h.sh with rfl | rfl | ⟨h1,h2⟩
 ·simp only [aiT,zz,len1,oJ,fin];rw [aT,aER];rfl
 ·simp only [aiT,zz,len2,oJ,iO,fin];rw [aT,aEQ];rfl
 ·have hp:=List.length_pos_iff.2 h2;have ht:=E5 h hp;have hl:=ht.few;have c1:(0:Int) < (d.l.length:Int):=by omega
  have c2:(d.l.length:Int) < 1759218604441:=by omega
  simp only [aiT,zz,c1,c2,fin];exact RZ d ht d.l.length 0 (by omega)
theorem Sm (d:D) (h:Th d) (gi:Nat) (x4 x5 x6 x7 x8 x9:Int): ∀(j i:Nat),gi < i→i+j=d.l.length→L 9004 [(gi:Int),enc d,(d.l.length:Int),(i:Int),x4,x5,x6,x7,x8,x9]=some [3,(gi:Int),enc d,x4,x5,x6,x7,x8,x9]
 | 0,i,hg,hi=>by
   have c1: ¬(i:Int) < (d.l.length:Int):=by omega
   have c0: ¬((i:Int)=(gi:Int)):=by omega
   rw [aT,aoI];simp only [aaS,zz,c0,c1,fin]
 | j+1,i,hg,hi=>by
   have hl:=h.few;have hil:i < d.l.length:=by omega
   have c1:(i:Int) < (d.l.length:Int):=by omega
   have c2: ¬((i:Int) < 0):=by omega
   have c0: ¬((i:Int)=(gi:Int)):=by omega
   have w:=aZ (n:=i) (by omega);have ih:=Sm d h gi x4 x5 x6 x7 x8 x9 j (i+1) (by omega) (by omega);obtain⟨o,c,dn,g,r,v,he,_,_,_,_,hr,hv⟩:=h.wd.thing _ (List.getElem_mem hil);have hs:=set_self h.sh hil;rw [he] at hs;rw [aT,aoI];rcases bG hr with rfl | rfl | ⟨r1,r2⟩ <;> rcases bG hv with rfl | rfl | ⟨v1,v2⟩
   all_goals
    simp only [aaS,zz,c0,c1,c2,w,aY hil,he,eG,aX,List.getElem?_cons_zero,List.getElem?_cons_succ,TL,TJ,hs,len1,len2,oJ,iO]
    try simp only [r1,r2,zz]
    try simp only [v1,v2,zz]
    try simp only [fin]
    exact ih
theorem Sl (d:D) (h:Th d) (gi:Nat) (x4 x5 x6 x7 x8 x9:Int): ∀(j i:Nat),gi < i→i+j=d.l.length→L 9005 [(gi:Int),enc d,(d.l.length:Int),(i:Int),x4,x5,x6,x7,x8,x9]=some [4,(gi:Int),enc d,x4,x5,x6,x7,x8,x9]
 | 0,i,hg,hi=>by
   have c1: ¬(i:Int) < (d.l.length:Int):=by omega
   have c0: ¬((i:Int)=(gi:Int)):=by omega
   rw [aT,aoH];simp only [aaR,zz,c0,c1,fin]
 | j+1,i,hg,hi=>by
   have hl:=h.few;have hil:i < d.l.length:=by omega
   have c1:(i:Int) < (d.l.length:Int):=by omega
   have c2: ¬((i:Int) < 0):=by omega
   have c0: ¬((i:Int)=(gi:Int)):=by omega
   have w:=aZ (n:=i) (by omega);have ih:=Sl d h gi x4 x5 x6 x7 x8 x9 j (i+1) (by omega) (by omega);obtain⟨o,c,dn,g,r,v,he,_,_,_,_,hr,hv⟩:=h.wd.thing _ (List.getElem_mem hil);have hs:=set_self h.sh hil;rw [he] at hs;rw [aT,aoH];rcases bG hr with rfl | rfl | ⟨r1,r2⟩ <;> rcases bG hv with rfl | rfl | ⟨v1,v2⟩
   all_goals
    simp only [aaR,zz,c0,c1,c2,w,aY hil,he,eG,aX,List.getElem?_cons_zero,List.getElem?_cons_succ,TL,TJ,hs,len1,len2,oJ,iO]
    try simp only [r1,r2,zz]
    try simp only [v1,v2,zz]
    try simp only [fin]
    exact ih
theorem Sj (d:D) (h:Th d) (gi:Nat) (x4 x5 x6 x7 x8 x9:Int): ∀(j i:Nat),gi < i→i+j=d.l.length→L 9006 [(gi:Int),enc d,(d.l.length:Int),(i:Int),x4,x5,x6,x7,x8,x9]=some [5,(gi:Int),enc d,x4,x5,x6,x7,x8,x9]
 | 0,i,hg,hi=>by
   have c1: ¬(i:Int) < (d.l.length:Int):=by omega
   have c0: ¬((i:Int)=(gi:Int)):=by omega
   rw [aT,aoG];simp only [aaQ,zz,c0,c1,fin]
 | j+1,i,hg,hi=>by
   have hl:=h.few;have hil:i < d.l.length:=by omega
   have c1:(i:Int) < (d.l.length:Int):=by omega
   have c2: ¬((i:Int) < 0):=by omega
   have c0: ¬((i:Int)=(gi:Int)):=by omega
   have w:=aZ (n:=i) (by omega);have ih:=Sj d h gi x4 x5 x6 x7 x8 x9 j (i+1) (by omega) (by omega);obtain⟨o,c,dn,g,r,v,he,_,_,_,_,hr,hv⟩:=h.wd.thing _ (List.getElem_mem hil);have hs:=set_self h.sh hil;rw [he] at hs;rw [aT,aoG];rcases bG hr with rfl | rfl | ⟨r1,r2⟩ <;> rcases bG hv with rfl | rfl | ⟨v1,v2⟩
   all_goals
    simp only [aaQ,zz,c0,c1,c2,w,aY hil,he,eG,aX,List.getElem?_cons_zero,List.getElem?_cons_succ,TL,TJ,hs,len1,len2,oJ,iO]
    try simp only [r1,r2,zz]
    try simp only [v1,v2,zz]
    try simp only [fin]
    exact ih
theorem Si (d:D) (h:Th d) (gi:Nat) (x4 x5 x6 x7 x8 x9:Int): ∀(j i:Nat),gi < i→i+j=d.l.length→L 9007 [(gi:Int),enc d,(d.l.length:Int),(i:Int),x4,x5,x6,x7,x8,x9]=some [6,(gi:Int),enc d,x4,x5,x6,x7,x8,x9]
 | 0,i,hg,hi=>by
   have c1: ¬(i:Int) < (d.l.length:Int):=by omega
   have c0: ¬((i:Int)=(gi:Int)):=by omega
   rw [aT,aoF];simp only [aaP,zz,c0,c1,fin]
 | j+1,i,hg,hi=>by
   have hl:=h.few;have hil:i < d.l.length:=by omega
   have c1:(i:Int) < (d.l.length:Int):=by omega
   have c2: ¬((i:Int) < 0):=by omega
   have c0: ¬((i:Int)=(gi:Int)):=by omega
   have w:=aZ (n:=i) (by omega);have ih:=Si d h gi x4 x5 x6 x7 x8 x9 j (i+1) (by omega) (by omega);obtain⟨o,c,dn,g,r,v,he,_,_,_,_,hr,hv⟩:=h.wd.thing _ (List.getElem_mem hil);have hs:=set_self h.sh hil;rw [he] at hs;rw [aT,aoF];rcases bG hr with rfl | rfl | ⟨r1,r2⟩ <;> rcases bG hv with rfl | rfl | ⟨v1,v2⟩
   all_goals
    simp only [aaP,zz,c0,c1,c2,w,aY hil,he,eG,aX,List.getElem?_cons_zero,List.getElem?_cons_succ,TL,TJ,hs,len1,len2,oJ,iO]
    try simp only [r1,r2,zz]
    try simp only [v1,v2,zz]
    try simp only [fin]
    exact ih
def pF (r v:D):Int:=if 0 < r.l.length then (if 0 < v.l.length then 3 else 4) else (if 0 < v.l.length then 5 else 6)
theorem aAq (d:D) (h:Th d) (gi:Nat) (hgi:gi < d.l.length) (o c dn g:Int) (r v:D) (he':d.l[gi]=dL [.i o,.i c,.i dn,.i g,r,v]): ∀(j i:Nat),i≤gi→i+j=gi→
 L 9001 [(gi:Int),enc d,(d.l.length:Int),(i:Int)]=some [pF r v,(gi:Int),enc d,o,c,dn,g,enc r,enc v]
 | 0,i,hg,hi=>by
   obtain rfl:i=gi:=by omega
   have hl:=h.few;have c1:(i:Int) < (d.l.length:Int):=by omega
   have c2: ¬((i:Int) < 0):=by omega
   have w:=aZ (n:=i) (by omega);obtain⟨o',c',dn',g',r',v',he,_,_,_,_,hr,hv⟩:=h.wd.thing _ (List.getElem_mem hgi);rw [he'] at he;have he:=Ou he;simp only [List.cons.injEq,D.i.injEq,and_true] at he;obtain⟨rfl,rfl,rfl,rfl,rfl,rfl⟩:=he;have b4:=fun a b=>Sm d h i o c dn g a b (d.l.length - (i+1)) (i+1) (by omega) (by omega);have b5:=fun a b=>Sl d h i o c dn g a b (d.l.length - (i+1)) (i+1) (by omega) (by omega);have b6:=fun a b=>Sj d h i o c dn g a b (d.l.length - (i+1)) (i+1) (by omega) (by omega);have b7:=fun a b=>Si d h i o c dn g a b (d.l.length - (i+1)) (i+1) (by omega) (by omega);rw [aT,Xm];rcases bG hr with rfl | rfl | ⟨r1,r2⟩
   ·rcases bG hv with rfl | rfl | ⟨v1,v2⟩
    ·simp only [uV,zz,c1,c2,w,aY hgi,he',eG,aX,List.getElem?_cons_zero,List.getElem?_cons_succ,len1,oJ,fin,b7];rw [pF,if_neg (by simp [D.l]),if_neg (by simp [D.l])]
    ·simp only [uV,zz,c1,c2,w,aY hgi,he',eG,aX,List.getElem?_cons_zero,List.getElem?_cons_succ,len1,oJ,len2,iO,fin,b7];rw [pF,if_neg (by simp [D.l]),if_neg (by simp [D.l])]
    ·simp only [uV,zz,c1,c2,w,aY hgi,he',eG,aX,List.getElem?_cons_zero,List.getElem?_cons_succ,len1,oJ,v1,v2,fin,b6];rw [pF,if_neg (by simp [D.l]),if_pos (by omega)]
   ·rcases bG hv with rfl | rfl | ⟨v1,v2⟩
    ·simp only [uV,zz,c1,c2,w,aY hgi,he',eG,aX,List.getElem?_cons_zero,List.getElem?_cons_succ,len2,oJ,iO,len1,fin,b7];rw [pF,if_neg (by simp [D.l]),if_neg (by simp [D.l])]
    ·simp only [uV,zz,c1,c2,w,aY hgi,he',eG,aX,List.getElem?_cons_zero,List.getElem?_cons_succ,len2,oJ,iO,fin,b7];rw [pF,if_neg (by simp [D.l]),if_neg (by simp [D.l])]
    ·simp only [uV,zz,c1,c2,w,aY hgi,he',eG,aX,List.getElem?_cons_zero,List.getElem?_cons_succ,len2,oJ,iO,v1,v2,fin,b6];rw [pF,if_neg (by simp [D.l]),if_pos (by omega)]
   ·rcases bG hv with rfl | rfl | ⟨v1,v2⟩
    ·simp only [uV,zz,c1,c2,w,aY hgi,he',eG,aX,List.getElem?_cons_zero,List.getElem?_cons_succ,r1,r2,len1,oJ,fin,b5];rw [pF,if_pos (by omega),if_neg (by simp [D.l])]
    ·simp only [uV,zz,c1,c2,w,aY hgi,he',eG,aX,List.getElem?_cons_zero,List.getElem?_cons_succ,r1,r2,len2,oJ,iO,fin,b5];rw [pF,if_pos (by omega),if_neg (by simp [D.l])]
    ·simp only [uV,zz,c1,c2,w,aY hgi,he',eG,aX,List.getElem?_cons_zero,List.getElem?_cons_succ,r1,r2,v1,v2,fin,b4];rw [pF,if_pos (by omega),if_pos (by omega)]
 | j+1,i,hg,hi=>by
   have hl:=h.few;have hil:i < d.l.length:=by omega
   have c1:(i:Int) < (d.l.length:Int):=by omega
   have c2: ¬((i:Int) < 0):=by omega
   have c0: ¬((i:Int)=(gi:Int)):=by omega
   have w:=aZ (n:=i) (by omega);have ih:=aAq d h gi hgi o c dn g r v he' j (i+1) (by omega) (by omega);clear he';obtain⟨o2,c2',dn2,g2,r2',v2',he,_,_,_,_,hr,hv⟩:=h.wd.thing _ (List.getElem_mem hil);have hs:=set_self h.sh hil;rw [he] at hs;rw [aT,Xm];rcases bG hr with rfl | rfl | ⟨r1,r2⟩ <;> rcases bG hv with rfl | rfl | ⟨v1,v2⟩
   all_goals
    simp only [uV,zz,c0,c1,c2,w,aY hil,he,eG,aX,List.getElem?_cons_zero,List.getElem?_cons_succ,TL,TJ,hs,len1,len2,oJ,iO]
    try simp only [r1,r2,zz]
    try simp only [v1,v2,zz]
    try simp only [fin]
    exact ih
theorem aAp (d:D) (h:Th d) (gi:Nat) (hgi:gi < d.l.length) (o c dn g:Int) (r v:D) (he':d.l[gi]=dL [.i o,.i c,.i dn,.i g,r,v]) :
 L 9000 [(gi:Int),enc d]=some [pF r v,(gi:Int),enc d,o,c,dn,g,enc r,enc v]:=by
 have hl:=h.few;have c1:(0:Int) < (d.l.length:Int):=by omega
 have c2:(d.l.length:Int) < 1759218604441:=by omega
 rw [aT,aoJ];simp only [Pv,zz,c1,c2,fin];exact aAq d h gi hgi o c dn g r v he' gi 0 (by omega) (by omega)
theorem Oy (d:D) (h:Th d) (x:Int) (hx:x < 0∨(d.l.length:Int)≤x): ∀(j i:Nat),i+j=d.l.length→L 9001 [x,enc d,(d.l.length:Int),(i:Int)]=some [0,x,enc d]
 | 0,i,hi=>by
   have c1: ¬(i:Int) < (d.l.length:Int):=by omega
   rw [aT,Xm];by_cases c0:(i:Int)=x
   ·simp only [uV,zz,c0,fin];have c1: ¬x < (d.l.length:Int):=by omega
    simp only [if_neg c1]
   ·simp only [uV,zz,c0,c1,fin]
 | j+1,i,hi=>by
   have hl:=h.few;have hil:i < d.l.length:=by omega
   have c1:(i:Int) < (d.l.length:Int):=by omega
   have c2: ¬((i:Int) < 0):=by omega
   have c0: ¬((i:Int)=x):=by omega
   have w:=aZ (n:=i) (by omega);have ih:=Oy d h x hx j (i+1) (by omega);obtain⟨o,c,dn,g,r,v,he,_,_,_,_,hr,hv⟩:=h.wd.thing _ (List.getElem_mem hil);have hs:=set_self h.sh hil;rw [he] at hs;rw [aT,Xm];rcases bG hr with rfl | rfl | ⟨r1,r2⟩ <;> rcases bG hv with rfl | rfl | ⟨v1,v2⟩
   all_goals
    simp only [uV,zz,c0,c1,c2,w,aY hil,he,eG,aX,List.getElem?_cons_zero,List.getElem?_cons_succ,TL,TJ,hs,len1,len2,oJ,iO]
    try simp only [r1,r2,zz]
    try simp only [v1,v2,zz]
    try simp only [fin]
    exact ih
theorem copyN (d:D) (h:Wd (.sl 7) d) (x:Int) (hx:x < 0∨(d.l.length:Int)≤x):Tot 9000 [x,enc d] (fun ys=>ys= [0,x,enc d]∨(ys= [1,x]∧d= .i 1)∨(ys= [2,x]∧d= .i 2)):=by
 refine Tot.of ?_;rw [aoJ];rcases h.sh with rfl | rfl | ⟨h1,h2⟩
 ·simp only [Pv,zz,len1,oJ];refine .jump (Tot.of ?_);rw [ayX];simp only [aiN,zz];exact .ite (fun _=> .out (.inr (.inl rfl))) fun _=> .out (.inr (.inl rfl))
 ·simp only [Pv,zz,len2,oJ,iO];refine .jump (Tot.of ?_);rw [ayW];simp only [aiM,zz];exact .ite (fun _=> .out (.inr (.inr rfl))) fun _=> .out (.inr (.inr rfl))
 ·have hp:=List.length_pos_iff.2 h2;have ht:=E5 h hp;have hl:=ht.few;have c1:(0:Int) < (d.l.length:Int):=by omega
  have c2:(d.l.length:Int) < 1759218604441:=by omega
  simp only [Pv,zz,c1,c2];exact .jump ⟨_,Oy d ht x hx d.l.length 0 (by omega),.inl rfl⟩
end Go.As.Try
end
section
namespace Go.As.Try
open Go hiding Stat Spec shape
open Go.As
set_option maxRecDepth 100000
def atJ (d x:D) (m:Nat):List Int:=[(d.hd 0).n,enc (d.hd 1),(d.hd 2).n,enc (d.hd 3),(d.hd 4).n,(x.hd 0).n,(x.hd 1).n,(if (x.hd 2).n=0 then 0 else 1),(x.hd 3).n,enc (x.hd 4),enc (x.hd 5),(m:Int)]
def Snd (d x:D) (m:Nat):Prop:=L 500 (atJ d x m)=some [1]
theorem atI (d x:D) (m:Nat) (h:(x.hd 4).l.length≤140737488351232): ∃c,L 500 (atJ d x m)=some [c]∧(c=0∨c=1):=by obtain⟨ys,h1,c,rfl,hc⟩:=YI (d.hd 0).n (enc (d.hd 1)) (d.hd 2).n (enc (d.hd 3)) (d.hd 4).n (x.hd 0).n (x.hd 1).n (if (x.hd 2).n=0 then 0 else 1) (x.hd 3).n (m:Int) (x.hd 4) (x.hd 5) h;exact⟨c,h1,hc⟩
theorem aA:((1:Int)=0)=False:=by simp
def Em (s:D):Prop:= ∀x∈s.l,(x.hd 4).l.length≤140737488351232
section
variable {d0 d1 s:D} (hr:Em s) (hle:s.l.length=d0.l.length) (hlen:d0.l.length≤140737488351232)
include hr hle hlen
theorem L9: ∀(j i:Nat),i+j=s.l.length→∃b:Int,L 351 [enc s,(s.l.length:Int),(i:Int),enc d0,enc d1]=some [b]∧(b=0∨b=1)∧
 (b=1↔∀(k:Nat) (hk:k < s.l.length),i≤k→Snd (d0.l[k]'(hle▸hk)) s.l[k] d1.l.length)
 | 0,i,hi=>by
   have c1: ¬(i:Int) < (s.l.length:Int):=by omega
   refine⟨1,?_,.inr rfl,fun _ k hk h=>absurd hk (by omega),fun _=>rfl⟩;rw [aT,awJ];simp only [Yi,zz,c1,fin]
 | j+1,i,hi=>by
   have hil:i < s.l.length:=by omega
   have hid:i < d0.l.length:=by omega
   have c1:(i:Int) < (s.l.length:Int):=by omega
   have c2: ¬((i:Int) < 0):=by omega
   have c3:(i:Int) < (d0.l.length:Int):=by omega
   have w:=aZ (n:=i) (by omega);obtain⟨c,hS,hc⟩:=atI d0.l[i] s.l[i] d1.l.length (hr _ (List.getElem_mem hil));obtain⟨b,hb1,hb2,ih⟩:=L9 j (i+1) (by omega);have hS':=hS;unfold atJ at hS;by_cases hc0:c=0
   ·subst hc0;refine⟨0,?_,.inl rfl,fun h=>absurd h (by omega),fun h=>?_⟩
    ·rw [aT,awJ];by_cases hn:((s.l[i]).hd 2).n=0
     ·rw [if_pos hn] at hS;simp only [Yi,zz,c1,c2,c3,w,aY hil,aY hid,hn,hS,fin]
     ·rw [if_neg hn] at hS;simp only [Yi,zz,c1,c2,c3,w,aY hil,aY hid,hn,hS,fin]
    ·have:=h i hil (Nat.le_refl i);unfold Snd at this;rw [hS'] at this;simp at this
   ·have hc1:c=1:=by omega
    subst hc1;refine⟨b,?_,hb2,fun h k hk hik=>?_,fun h=>ih.2 fun k hk hik=>h k hk (by omega)⟩
    ·rw [aT,awJ];by_cases hn:((s.l[i]).hd 2).n=0
     ·rw [if_pos hn] at hS;simp only [Yi,zz,c1,c2,c3,w,aY hil,aY hid,hn,hS,fin,aA,hb1]
     ·rw [if_neg hn] at hS;simp only [Yi,zz,c1,c2,c3,w,aY hil,aY hid,hn,hS,fin,aA,hb1]
    ·by_cases hke:k=i
     ·subst hke;exact hS'
     ·exact ih.1 h k hk (by omega)
end
theorem qZ {d0 d1 s:D} (h0:Wd (.sl 3) d0) (h1:Wd (.sl 4) d1) (hr:Em s): ∃b:Int,L 350 [enc d0,enc d1,enc s]=some [b]∧(b=0∨b=1)∧
 (b=1↔L 450 [enc d0,enc d1]=some [0]∧∃hle:s.l.length=d0.l.length,∀(k:Nat) (hk:k < s.l.length),Snd (d0.l[k]'(hle▸hk)) s.l[k] d1.l.length):=by
 obtain⟨ys,hC,c,rfl,hc,hok⟩:=Dy h0 h1;by_cases hc0:c=0
 ·subst hc0;by_cases hl:s.l.length=d0.l.length
  ·have hlen:=h0.len;obtain⟨b,hb1,hb2,hb3⟩:=L9 (d1:=d1) hr hl hlen s.l.length 0 (by omega);refine⟨b,?_,hb2,fun h=> ⟨hC,hl,fun k hk=>hb3.1 h k hk (by omega)⟩,fun⟨_,_,h⟩=>hb3.2 fun k hk _=>h k hk⟩;have hl':(s.l.length:Int)=(d0.l.length:Int):=by omega
   rw [aT,awK,ajH,dQ,if_pos,dQ,if_pos,dQ,if_pos,oI]
   ·simp only [List.map,bP,gZ,iP,aW,Nat.reduceLT,aO,aQ,aF,fin];exact hb1
   ·simp only [iL,oU,bP,gK,iI,gZ,List.map,iP,aW,Nat.reduceLT,aO,aQ,aF];exact hl'
   ·simp only [iL,oU,bP,gK,iI,gZ,List.map,iP,aW,Nat.reduceLT,aO,aQ,aF];rw [hC];simp only [aO,aQ,Option.isSome_some,Option.getD_some,if_true]
   ·simp only [iL,oU,bP,gK,iI,gZ,List.map,iP,aW,Nat.reduceLT,aO,aQ,aF];rw [hC];simp only [aO,aQ,Option.isSome_some,Option.getD_some,if_true]
  ·refine⟨0,?_,.inl rfl,fun h=>absurd h (by omega),fun⟨_,h,_⟩=>absurd h hl⟩;have hl': ¬(s.l.length:Int)=(d0.l.length:Int):=by omega
   rw [aT,awK,ajH,dQ,if_pos,dQ,if_pos,dQ,if_neg]
   ·simp only [jR,List.map,bP,fin]
   ·simp only [iL,oU,bP,gK,iI,gZ,List.map,iP,aW,Nat.reduceLT,aO,aQ,aF];exact hl'
   ·simp only [iL,oU,bP,gK,iI,gZ,List.map,iP,aW,Nat.reduceLT,aO,aQ,aF];rw [hC];simp only [aO,aQ,Option.isSome_some,Option.getD_some,if_true]
   ·simp only [iL,oU,bP,gK,iI,gZ,List.map,iP,aW,Nat.reduceLT,aO,aQ,aF];rw [hC];simp only [aO,aQ,Option.isSome_some,Option.getD_some,if_true]
 ·refine⟨0,?_,.inl rfl,fun h=>absurd h (by omega),fun⟨h,_⟩=>?_⟩
  ·rw [aT,awK,ajH,dQ,if_pos,dQ,if_neg]
   ·simp only [jR,List.map,bP,fin]
   ·simp only [iL,oU,bP,gK,iI,gZ,List.map,iP,aW,Nat.reduceLT,aO,aQ,aF];rw [hC];simp only [aO,aQ,Option.isSome_some,Option.getD_some,if_true];exact hc0
   ·simp only [iL,oU,bP,gK,iI,gZ,List.map,iP,aW,Nat.reduceLT,aO,aQ,aF];rw [hC];simp only [aO,aQ,Option.isSome_some,Option.getD_some,if_true]
  ·rw [hC] at h;simp at h;exact absurd h hc0
end Go.As.Try
end
section
namespace Go.As.Try
open Go hiding Stat Spec shape
open Go.As
set_option maxRecDepth 100000
def OkT (d0:D) (nl nc:Nat) (a:Int) (ll:Nat) (w o g t:Int):Prop:=
 0≤a∧a≤(nc:Int)∧(ll:Int)=(nl:Int)∧0≤t∧t≤4611686018427387904∧
  (w=0∧o=0∧g=0∨w=24∧0≤o∧o < (d0.l.length:Int)∧((d0.at o).hd 0).n=4∨w=25∧0≤o∧o < (d0.l.length:Int)∧((d0.at o).hd 0).n=5)
def isB (p:Prop) (ys:List Int):Prop:= ∃b:Int,ys= [b]∧(b=0∧¬p∨b=1∧p)
theorem Ap {p:Prop} (h: ¬p):isB p [0]:=⟨0,rfl,.inl ⟨rfl,h⟩⟩
theorem WA {p:Prop} (h:p):isB p [1]:=⟨1,rfl,.inr ⟨rfl,h⟩⟩
theorem asN (d0 d3 d4 d6:D) (x1 x2 x5 x7 x8 x9 x10:Int):Tot 1600 [enc d0,x1,x2,enc d3,enc d4,x5,enc d6,x7,x8,x9,x10] (isB (OkT d0 d3.l.length d4.l.length x5 d6.l.length x7 x8 x9 x10)):=by
 unfold OkT;refine Tot.of ?_;rw [aAb];simp only [ajP,zz]
 repeat' first
  | exact .out (Ap (by omega))
  | exact .out (WA (by omega))
  | refine .ite (fun _=>?_) (fun _=>?_)
def OkK (d0 x k:D):Prop:=OkT d0 (x.hd 1).l.length (x.hd 2).l.length (k.hd 0).n (k.hd 1).l.length (k.hd 2).n (k.hd 3).n (k.hd 4).n (k.hd 5).n
section
variable {d0 d1 k:D} (hle:k.l.length=d1.l.length) (hlen:d1.l.length≤140737488351232)
include hle hlen
theorem Jp: ∀(j i:Nat),i+j=k.l.length→Tot 1501 [enc k,(k.l.length:Int),(i:Int),enc d0,enc d1] (isB (∀(n:Nat) (hn:n < k.l.length),i≤n→OkK d0 (d1.l[n]'(hle▸hn)) k.l[n]))
 | 0,i,hi=>by
   have c1: ¬(i:Int) < (k.l.length:Int):=by omega
   refine Tot.of ?_;rw [apI];simp only [abI,zz,c1];exact .out (WA fun n hn h=>by omega)
 | j+1,i,hi=>by
   have hil:i < k.l.length:=by omega
   have hid:i < d1.l.length:=by omega
   have c1:(i:Int) < (k.l.length:Int):=by omega
   have c2: ¬((i:Int) < 0):=by omega
   have c3:(i:Int) < (d1.l.length:Int):=by omega
   have w:=aZ (n:=i) (by omega);obtain⟨ys,hT,b,rfl,hb⟩:=asN d0 ((d1.l[i]).hd 1) ((d1.l[i]).hd 2) ((k.l[i]).hd 1) (enc d1) (enc ((d1.l[i]).hd 0)) ((k.l[i]).hd 0).n ((k.l[i]).hd 2).n ((k.l[i]).hd 3).n ((k.l[i]).hd 4).n ((k.l[i]).hd 5).n;obtain⟨ys,ih,b',rfl,hb'⟩:=Jp j (i+1) (by omega);refine Tot.of ?_;rw [apI];simp only [abI,zz,c1,c2,c3,aY hil,aY hid,w,hT];refine .ite (fun h0=> .out (Ap fun h=>?_)) (fun h0=> .jump ⟨_,ih,b',rfl,?_⟩)
   ·rcases hb with ⟨_,hb⟩ | ⟨hb,_⟩
    ·exact hb (h i hil (Nat.le_refl _))
    ·omega
   ·rcases hb with ⟨hb,_⟩ | ⟨_,hb⟩
    ·exact absurd hb h0
    ·rcases hb' with ⟨q,hb'⟩ | ⟨q,hb'⟩
     ·exact .inl ⟨q,fun h=>hb' fun n hn hni=>h n hn (by omega)⟩
     ·refine .inr ⟨q,fun n hn hni=>?_⟩;by_cases he:n=i
      ·subst he; exact hb
      ·exact hb' n hn (by omega)
end
def MR (d0 d1 s k:D):Prop:=L 350 [enc d0,enc d1,enc s]=some [1]∧∃hle:k.l.length=d1.l.length,∀(n:Nat) (hn:n < k.l.length),OkK d0 (d1.l[n]'(hle▸hn)) k.l[n]
theorem QO {d0 d1 s k:D} (h0:Wd (.sl 3) d0) (h1:Wd (.sl 4) d1) (hr:Em s) (hlen:d1.l.length≤140737488351232):Tot 1500 [enc d0,enc d1,enc s,enc k] (isB (MR d0 d1 s k)):=by
 obtain⟨b,hb,hb1,_⟩:=qZ h0 h1 hr;refine Tot.of ?_;rw [aAd];simp only [ajR,zz,hb];refine .ite (fun h=> .out (Ap fun q=>?_)) (fun h=> .ite (fun hl=>?_) (fun hl=> .out (Ap fun q=>?_)))
 ·have:=q.1;rw [hb] at this;simp at this;omega
 ·have hle:k.l.length=d1.l.length:=by omega
  obtain⟨ys,hL,b',rfl,hb'⟩:=Jp (d0:=d0) hle hlen k.l.length 0 (by omega);refine .jump ⟨_,hL,b',rfl,?_⟩;have hone:b=1:=by omega
  subst hone;rcases hb' with ⟨q,hb'⟩ | ⟨q,hb'⟩
  ·exact .inl ⟨q,fun h=>hb' fun n hn _=>h.2.2 n hn⟩
  ·exact .inr ⟨q,hb,hle,fun n hn=>hb' n hn (Nat.zero_le _)⟩
 ·have:=q.2.1;omega
theorem VX {d0 d1 s k:D} (h0:Wd (.sl 3) d0) (h1:Wd (.sl 4) d1) (hr:Em s) (hlen:d1.l.length≤140737488351232) (t:Int):Tot 1550 [enc d0,enc d1,enc s,enc k,t] (isB (0≤t∧t < (d1.l.length:Int)∧MR d0 d1 s k)):=by
 obtain⟨ys,hM,b,rfl,hb⟩:=QO h0 h1 hr hlen (k:=k);refine Tot.of ?_;rw [aAc];simp only [ajQ,zz,hM];refine .ite (fun h=> .out (Ap fun q=>by omega)) (fun h=> .ite (fun h2=> .ite (fun h3=> .out (Ap fun q=>?_)) (fun h3=> .out (WA ?_))) (fun h2=> .out (Ap fun q=>by omega)))
 ·rcases hb with ⟨_,hb⟩ | ⟨hb,_⟩
  ·exact hb q.2.2
  ·omega
 ·rcases hb with ⟨hb,_⟩ | ⟨_,hb⟩
  ·exact absurd hb h3
  ·exact⟨by omega,h2,hb⟩
end Go.As.Try
end
section
namespace Go.As.Try
open Go hiding Stat Spec shape
open Go.As
set_option maxRecDepth 100000
def firstAt (t:Int):List D→Nat→Int
 | [],_=> -1
 | x :: l,i=>if x.n=t then (i:Int) else firstAt t l (i+1)
def place (r:D) (t:Int):Int:=firstAt t r.l 0
def wo (t:Int) (l:List D):List D:=l.filter fun x=>decide (x.n≠t)
theorem D8 (t:Int): ∀(l:List D) (i:Nat),(firstAt t l i= -1∧∀x∈l,x.n≠t)∨∃(k:Nat) (h:k < l.length),firstAt t l i=((i+k:Nat):Int)∧(l[k]).n=t∧∀x∈l.take k,x.n≠t
 | [],_=> .inl ⟨rfl,fun x h=>absurd h (by simp)⟩
 | x :: l,i=>by
   unfold firstAt;by_cases hx:x.n=t
   ·rw [if_pos hx];exact .inr ⟨0,by simp,by simp,hx,by simp⟩
   ·rw [if_neg hx];rcases D8 t l (i+1) with ⟨h1,h2⟩ | ⟨k,hk,h1,h2,h3⟩
    ·exact .inl ⟨h1,fun y hy=>by rcases List.mem_cons.1 hy with rfl | hy; exact hx; exact h2 y hy⟩
    ·refine .inr ⟨k+1,by simp; omega,by rw [h1]; congr 1; omega,by simpa using h2,fun y hy=>?_⟩;rw [List.take_succ_cons] at hy;rcases List.mem_cons.1 hy with rfl | hy
     ·exact hx
     ·exact h3 y hy
theorem vX (r:D) (t:Int):(place r t= -1∧∀x∈r.l,x.n≠t)∨∃(k:Nat) (h:k < r.l.length),place r t=(k:Int)∧(r.l[k]).n=t∧∀x∈r.l.take k,x.n≠t:=by have:=D8 t r.l 0;simp only [Nat.zero_add] at this;exact this
theorem iU (r:D) (t:Int): -1≤place r t∧place r t < (r.l.length:Int):=by rcases vX r t with ⟨h,_⟩ | ⟨k,hk,h,_⟩ <;> rw [h] <;> omega
theorem J6 {t:Int} {l:List D} (h: ∀x∈l,x.n≠t):wo t l=l:=List.filter_eq_self.2 fun x hx=>by simpa using h x hx
theorem zS {r:D} {t:Int} {i:Nat} (h:i < r.l.length):firstAt t (r.l.drop i) i=if (r.at (i:Int)).n=t then (i:Int) else firstAt t (r.l.drop (i+1)) (i+1):=by rw [List.drop_eq_getElem_cons h,aY h];rfl
theorem amP (r:D) (t:Int) (hl:r.l.length≤140737488351232): ∀(j i:Nat),i+j=r.l.length→L 851 [enc r,t,(r.l.length:Int),(i:Int)]=some [firstAt t (r.l.drop i) i]
 | 0,i,hi=>by
   have c1: ¬(i:Int) < (r.l.length:Int):=by omega
   rw [List.drop_of_length_le (by omega),aT,aCw];simp only [aiO,zz,c1,fin,firstAt]
 | j+1,i,hi=>by
   have c1:(i:Int) < (r.l.length:Int):=by omega
   have c2: ¬((i:Int) < 0):=by omega
   have w:=aZ (n:=i) (by omega);have ih:=amP r t hl j (i+1) (by omega);rw [zS (by omega),aT,aCw];by_cases he:(r.at (i:Int)).n=t
   ·simp only [aiO,zz,c1,c2,he,fin]
   ·have he': ¬t=(r.at (i:Int)).n:=fun h=>he h.symm;simp only [aiO,zz,c1,c2,if_neg he,if_neg he',w,fin,ih]
theorem dK (r:D) (t:Int) (hl:r.l.length≤140737488351232):L 850 [enc r,t]=some [place r t]:=by have h:=amP r t hl r.l.length 0 (by omega);rw [aT,aEJ];simp only [aAS,zz,fin];exact h
theorem has_is (r:D) (t:Int) (hl:r.l.length≤140737488351232):L 900 [enc r,t]=some [if place r t < 0 then 0 else 1]:=by rw [aT,aEI];simp only [aAR,zz,dK r t hl];split <;> rfl
theorem FZ (r:D) (t:Int) (hl:r.l.length≤140737488351232) (y2 y3 y4 y5 y6 y7 y8 y9 qJ qI qH:Int): ∀(j i:Nat),i+j=r.l.length→
 L 12051 [enc r,t,y2,y3,y4,y5,y6,y7,y8,y9,qJ,qI,qH,(r.l.length:Int),(i:Int)]=some [0,enc r,t,y2,y3,y4,y5,y6,y7,y8,y9,qJ,qI,qH,firstAt t (r.l.drop i) i]
 | 0,i,hi=>by
   have c1: ¬(i:Int) < (r.l.length:Int):=by omega
   rw [List.drop_of_length_le (by omega),aT,ZM];simp only [LG,zz,c1,fin,firstAt]
 | j+1,i,hi=>by
   have c1:(i:Int) < (r.l.length:Int):=by omega
   have c2: ¬((i:Int) < 0):=by omega
   have w:=aZ (n:=i) (by omega);have ih:=FZ r t hl y2 y3 y4 y5 y6 y7 y8 y9 qJ qI qH j (i+1) (by omega);rw [zS (by omega),aT,ZM];by_cases he:(r.at (i:Int)).n=t
   ·simp only [LG,zz,c1,c2,he,fin]
   ·simp only [LG,zz,c1,c2,if_neg he,w,fin,ih]
theorem auN (r:D) (t:Int) (hl:r.l.length≤140737488351232) (y2 y3 y4 y5 y6 y7 y8 y9 qJ qI qH:Int):L 12050 [enc r,t,y2,y3,y4,y5,y6,y7,y8,y9,qJ,qI,qH]=some [0,enc r,t,y2,y3,y4,y5,y6,y7,y8,y9,qJ,qI,qH,place r t]:=by have h:=FZ r t hl y2 y3 y4 y5 y6 y7 y8 y9 qJ qI qH r.l.length 0 (by omega);rw [aT,aqL];simp only [YB,zz,fin];exact h
theorem FY (r:D) (t:Int) (hl:r.l.length≤140737488351232) (y2 y3 y4 y5 y6 y7 y8 y9 qJ qI qH:Int): ∀(j i:Nat),i+j=r.l.length→
 L 12151 [enc r,t,y2,y3,y4,y5,y6,y7,y8,y9,qJ,qI,qH,(r.l.length:Int),(i:Int)]=some [0,enc r,t,y2,y3,y4,y5,y6,y7,y8,y9,qJ,qI,qH,firstAt t (r.l.drop i) i]
 | 0,i,hi=>by
   have c1: ¬(i:Int) < (r.l.length:Int):=by omega
   rw [List.drop_of_length_le (by omega),aT,ZK];simp only [LC,zz,c1,fin,firstAt]
 | j+1,i,hi=>by
   have c1:(i:Int) < (r.l.length:Int):=by omega
   have c2: ¬((i:Int) < 0):=by omega
   have w:=aZ (n:=i) (by omega);have ih:=FY r t hl y2 y3 y4 y5 y6 y7 y8 y9 qJ qI qH j (i+1) (by omega);rw [zS (by omega),aT,ZK];by_cases he:(r.at (i:Int)).n=t
   ·simp only [LC,zz,c1,c2,he,fin]
   ·simp only [LC,zz,c1,c2,if_neg he,w,fin,ih]
theorem auM (r:D) (t:Int) (hl:r.l.length≤140737488351232) (y2 y3 y4 y5 y6 y7 y8 y9 qJ qI qH:Int):L 12150 [enc r,t,y2,y3,y4,y5,y6,y7,y8,y9,qJ,qI,qH]=some [0,enc r,t,y2,y3,y4,y5,y6,y7,y8,y9,qJ,qI,qH,place r t]:=by have h:=FY r t hl y2 y3 y4 y5 y6 y7 y8 y9 qJ qI qH r.l.length 0 (by omega);rw [aT,aqK];simp only [YA,zz,fin];exact h
theorem CB {t:Int} {l:List D} {j:Nat} (h:j < l.length):wo t (l.take (j+1))=if (l[j]).n=t then wo t (l.take j) else wo t (l.take j)++ [l[j]]:=by
 unfold wo;rw [List.take_succ_eq_append_getElem h,List.filter_append];by_cases he:(l[j]).n=t
 ·simp [he]
 ·simp [he]
theorem ahQ (t:Int) (l:List D):(wo t l).length≤l.length:=List.length_filter_le _ _
theorem Ad (r0:D) (t:Int) (l0:List D) (hl:l0.length≤140737488351232) (hn: ∀x∈l0,x= .i x.n) (y2 y3 y4 y5 y6 y7 y8 y9 qJ qI qH:Int): ∀(m i j:Nat) (r:D),r.l.length=l0.length→i < j→j+m=l0.length→r.l.drop j=l0.drop j→r.l.take i=wo t (l0.take j)→
 ∃(n:Nat) (r':D),n < l0.length∧r'.l.length=l0.length∧r'.l.take n=wo t l0∧L 12001 [enc r0,t,y2,y3,y4,y5,y6,y7,y8,y9,qJ,qI,qH,enc r,(i:Int),(j:Int)]=some [1,enc r0,t,y2,y3,y4,y5,y6,y7,y8,y9,qJ,qI,qH,(n:Int),enc r',(l0.length:Int)]
 | 0,i,j,r,hr,h1,h2,h3,h4=>by
   have c1: ¬(j:Int) < (l0.length:Int):=by omega
   have c2: ¬((i:Int) < 0):=by omega
   have c3: ¬((l0.length:Int) < (i:Int)):=by omega
   have c4: ¬((l0.length:Int) - (i:Int) < 0):=by omega
   have c5:(i:Int)+((l0.length:Int) - (i:Int))=(l0.length:Int):=by omega
   refine⟨i,dL (r.l.take i++List.replicate (r.l.length - i) (.i 0)),by omega,by rw [aX]; simp only [List.length_append,List.length_take,List.length_replicate]; omega,?_,?_⟩
   ·rw [aX,List.take_append_of_le_length (by rw [List.length_take]; omega),List.take_take,Nat.min_self,h4,List.take_of_length_le (by omega)]
   ·rw [aT,U6];simp only [LH,zz,c1,c2,c3,c4,c5,Int.toNat_natCast,fin,hr]
 | m+1,i,j,r,hr,h1,h2,h3,h4=>by
   have c1:(j:Int) < (l0.length:Int):=by omega
   have c2: ¬((j:Int) < 0):=by omega
   have w:=aZ (n:=j) (by omega);have hj:j < r.l.length:=by omega
   have hj0:j < l0.length:=by omega
   have hx:r.at (j:Int)=l0[j]:=by rw [aY hj];rw [List.drop_eq_getElem_cons hj,List.drop_eq_getElem_cons hj0] at h3;exact (List.cons.inj h3).1
   have h3':r.l.drop (j+1)=l0.drop (j+1):=by rw [List.drop_eq_getElem_cons hj,List.drop_eq_getElem_cons hj0] at h3;exact (List.cons.inj h3).2
   by_cases he:(r.at (j:Int)).n=t
   ·obtain⟨n,r',q1,q2,q3,ih⟩:=Ad r0 t l0 hl hn y2 y3 y4 y5 y6 y7 y8 y9 qJ qI qH m i (j+1) r hr (by omega) (by omega) h3' (by rw [CB hj0,← hx,if_pos he,h4]);refine⟨n,r',q1,q2,q3,?_⟩;rw [aT,U6];simp only [LH,zz,c1,c2,he,w,hr,fin,ih]
   ·have c3: ¬((i:Int) < 0):=by omega
    have c4:(i:Int) < (l0.length:Int):=by omega
    have w2:=aZ (n:=i) (by omega);have hs:fE r.l (i:Int) (.i (r.at (j:Int)).n)=r.l.set i l0[j]:=by rw [xH,hx,← hn _ (List.getElem_mem hj0)]
    obtain⟨n,r',q1,q2,q3,ih⟩:=Ad r0 t l0 hl hn y2 y3 y4 y5 y6 y7 y8 y9 qJ qI qH m (i+1) (j+1) (dL (fE r.l (i:Int) (.i (r.at (j:Int)).n))) (by rw [aX,fP,hr]) (by omega) (by omega)
     (by rw [aX,hs,List.drop_set_of_lt (by omega),h3'])
     (by rw [aX,hs,List.take_succ_eq_append_getElem (by rw [List.length_set]; omega),List.take_set_of_le (Nat.le_refl _),List.getElem_set_self,h4,CB hj0,← hx,if_neg he])
    refine⟨n,r',q1,q2,q3,?_⟩;rw [aT,U6];simp only [LH,zz,c1,c2,c3,c4,if_neg he,w,w2,hr,fin,ih]
theorem awW (r:D) (t:Int) (hl:r.l.length≤140737488351232) (hn: ∀x∈r.l,x= .i x.n):(wo t r.l=r.l∧∀y2 y3 y4 y5 y6 y7 y8 y9 qJ qI qH:Int,L 12000 [enc r,t,y2,y3,y4,y5,y6,y7,y8,y9,qJ,qI,qH]=some [0,enc r,t,y2,y3,y4,y5,y6,y7,y8,y9,qJ,qI,qH])∨
 ∀y2 y3 y4 y5 y6 y7 y8 y9 qJ qI qH:Int,∃(n:Nat) (r':D),n < r.l.length∧r'.l.length=r.l.length∧r'.l.take n=wo t r.l∧L 12000 [enc r,t,y2,y3,y4,y5,y6,y7,y8,y9,qJ,qI,qH]=some [1,enc r,t,y2,y3,y4,y5,y6,y7,y8,y9,qJ,qI,qH,(n:Int),enc r',(r.l.length:Int)]:=by
 have h:=auN r t hl;rcases vX r t with ⟨hp,hno⟩ | ⟨i,hi,hp,hat,hno⟩
 ·refine .inl ⟨J6 hno,fun y2 y3 y4 y5 y6 y7 y8 y9 qJ qI qH=>?_⟩;have h':=h y2 y3 y4 y5 y6 y7 y8 y9 qJ qI qH;clear h;rw [hp] at h';rw [aT,ZN,TB,dQ,if_pos,dQ,if_pos,dQ,if_pos]
  ·simp only [jR,List.map,bP,aW,aO,aQ,Nat.reduceLT,fin]
  ·simp only [Qm3,iL,bP,gK,iI,List.map,aW,Nat.reduceLT,aO,aQ];rw [h'];simp only [aO,aQ,Option.isSome_some,Option.getD_some,if_true]
  ·simp only [iL,bP,gK,iI,List.map,aW,Nat.reduceLT,aO,aQ];rw [h'];simp only [aO,aQ,Option.isSome_some,Option.getD_some,if_true]
  ·simp only [iL,bP,gK,iI,List.map,aW,Nat.reduceLT,aO,aQ];rw [h'];simp only [aO,aQ,Option.isSome_some,Option.getD_some,if_true]
 ·refine .inr fun y2 y3 y4 y5 y6 y7 y8 y9 qJ qI qH=>?_;have h':=h y2 y3 y4 y5 y6 y7 y8 y9 qJ qI qH;clear h;rw [hp] at h';have w:=aZ (n:=i) (by omega);have h0:r.l.take i=wo t (r.l.take (i+1)):=by rw [CB hi,if_pos hat,J6 hno]
  obtain⟨n,r',q1,q2,q3,ih⟩:=Ad r t r.l hl hn y2 y3 y4 y5 y6 y7 y8 y9 qJ qI qH (r.l.length - (i+1)) i (i+1) r rfl (by omega) (by omega) rfl h0;refine⟨n,r',q1,q2,q3,?_⟩;rw [aT,ZN,TB,dQ,if_pos,dQ,if_pos,dQ,if_neg]
  ·simp only [oI,List.map,Qm3,bP,gK,BP,den_add,aW,aO,aQ,Nat.reduceLT];rw [h'];simp only [aO,aQ,Option.getD_some,w,fin];rw [ih]
  ·simp only [Qm3,iL,bP,gK,iI,List.map,aW,Nat.reduceLT,aO,aQ];rw [h'];simp only [aO,aQ,Option.isSome_some,Option.getD_some,if_true];omega
  ·simp only [iL,bP,gK,iI,List.map,aW,Nat.reduceLT,aO,aQ];rw [h'];simp only [aO,aQ,Option.isSome_some,Option.getD_some,if_true]
  ·simp only [iL,bP,gK,iI,List.map,aW,Nat.reduceLT,aO,aQ];rw [h'];simp only [aO,aQ,Option.isSome_some,Option.getD_some,if_true]
theorem Ac (r0:D) (t:Int) (l0:List D) (hl:l0.length≤140737488351232) (hn: ∀x∈l0,x= .i x.n) (y2 y3 y4 y5 y6 y7 y8 y9 qJ qI qH:Int): ∀(m i j:Nat) (r:D),r.l.length=l0.length→i < j→j+m=l0.length→r.l.drop j=l0.drop j→r.l.take i=wo t (l0.take j)→
 ∃(n:Nat) (r':D),n < l0.length∧r'.l.length=l0.length∧r'.l.take n=wo t l0∧L 12101 [enc r0,t,y2,y3,y4,y5,y6,y7,y8,y9,qJ,qI,qH,enc r,(i:Int),(j:Int)]=some [1,enc r0,t,y2,y3,y4,y5,y6,y7,y8,y9,qJ,qI,qH,(n:Int),enc r',(l0.length:Int)]
 | 0,i,j,r,hr,h1,h2,h3,h4=>by
   have c1: ¬(j:Int) < (l0.length:Int):=by omega
   have c2: ¬((i:Int) < 0):=by omega
   have c3: ¬((l0.length:Int) < (i:Int)):=by omega
   have c4: ¬((l0.length:Int) - (i:Int) < 0):=by omega
   have c5:(i:Int)+((l0.length:Int) - (i:Int))=(l0.length:Int):=by omega
   refine⟨i,dL (r.l.take i++List.replicate (r.l.length - i) (.i 0)),by omega,by rw [aX]; simp only [List.length_append,List.length_take,List.length_replicate]; omega,?_,?_⟩
   ·rw [aX,List.take_append_of_le_length (by rw [List.length_take]; omega),List.take_take,Nat.min_self,h4,List.take_of_length_le (by omega)]
   ·rw [aT,U5];simp only [LD,zz,c1,c2,c3,c4,c5,Int.toNat_natCast,fin,hr]
 | m+1,i,j,r,hr,h1,h2,h3,h4=>by
   have c1:(j:Int) < (l0.length:Int):=by omega
   have c2: ¬((j:Int) < 0):=by omega
   have w:=aZ (n:=j) (by omega);have hj:j < r.l.length:=by omega
   have hj0:j < l0.length:=by omega
   have hx:r.at (j:Int)=l0[j]:=by rw [aY hj];rw [List.drop_eq_getElem_cons hj,List.drop_eq_getElem_cons hj0] at h3;exact (List.cons.inj h3).1
   have h3':r.l.drop (j+1)=l0.drop (j+1):=by rw [List.drop_eq_getElem_cons hj,List.drop_eq_getElem_cons hj0] at h3;exact (List.cons.inj h3).2
   by_cases he:(r.at (j:Int)).n=t
   ·obtain⟨n,r',q1,q2,q3,ih⟩:=Ac r0 t l0 hl hn y2 y3 y4 y5 y6 y7 y8 y9 qJ qI qH m i (j+1) r hr (by omega) (by omega) h3' (by rw [CB hj0,← hx,if_pos he,h4]);refine⟨n,r',q1,q2,q3,?_⟩;rw [aT,U5];simp only [LD,zz,c1,c2,he,w,hr,fin,ih]
   ·have c3: ¬((i:Int) < 0):=by omega
    have c4:(i:Int) < (l0.length:Int):=by omega
    have w2:=aZ (n:=i) (by omega);have hs:fE r.l (i:Int) (.i (r.at (j:Int)).n)=r.l.set i l0[j]:=by rw [xH,hx,← hn _ (List.getElem_mem hj0)]
    obtain⟨n,r',q1,q2,q3,ih⟩:=Ac r0 t l0 hl hn y2 y3 y4 y5 y6 y7 y8 y9 qJ qI qH m (i+1) (j+1) (dL (fE r.l (i:Int) (.i (r.at (j:Int)).n))) (by rw [aX,fP,hr]) (by omega) (by omega)
     (by rw [aX,hs,List.drop_set_of_lt (by omega),h3'])
     (by rw [aX,hs,List.take_succ_eq_append_getElem (by rw [List.length_set]; omega),List.take_set_of_le (Nat.le_refl _),List.getElem_set_self,h4,CB hj0,← hx,if_neg he])
    refine⟨n,r',q1,q2,q3,?_⟩;rw [aT,U5];simp only [LD,zz,c1,c2,c3,c4,if_neg he,w,w2,hr,fin,ih]
theorem awV (r:D) (t:Int) (hl:r.l.length≤140737488351232) (hn: ∀x∈r.l,x= .i x.n):(wo t r.l=r.l∧∀y2 y3 y4 y5 y6 y7 y8 y9 qJ qI qH:Int,L 12100 [enc r,t,y2,y3,y4,y5,y6,y7,y8,y9,qJ,qI,qH]=some [0,enc r,t,y2,y3,y4,y5,y6,y7,y8,y9,qJ,qI,qH])∨
 ∀y2 y3 y4 y5 y6 y7 y8 y9 qJ qI qH:Int,∃(n:Nat) (r':D),n < r.l.length∧r'.l.length=r.l.length∧r'.l.take n=wo t r.l∧L 12100 [enc r,t,y2,y3,y4,y5,y6,y7,y8,y9,qJ,qI,qH]=some [1,enc r,t,y2,y3,y4,y5,y6,y7,y8,y9,qJ,qI,qH,(n:Int),enc r',(r.l.length:Int)]:=by
 have h:=auM r t hl;rcases vX r t with ⟨hp,hno⟩ | ⟨i,hi,hp,hat,hno⟩
 ·refine .inl ⟨J6 hno,fun y2 y3 y4 y5 y6 y7 y8 y9 qJ qI qH=>?_⟩;have h':=h y2 y3 y4 y5 y6 y7 y8 y9 qJ qI qH;clear h;rw [hp] at h';rw [aT,ZL,TA,dQ,if_pos,dQ,if_pos,dQ,if_pos]
  ·simp only [jR,List.map,bP,aW,aO,aQ,Nat.reduceLT,fin]
  ·simp only [Qnf,iL,bP,gK,iI,List.map,aW,Nat.reduceLT,aO,aQ];rw [h'];simp only [aO,aQ,Option.isSome_some,Option.getD_some,if_true]
  ·simp only [iL,bP,gK,iI,List.map,aW,Nat.reduceLT,aO,aQ];rw [h'];simp only [aO,aQ,Option.isSome_some,Option.getD_some,if_true]
  ·simp only [iL,bP,gK,iI,List.map,aW,Nat.reduceLT,aO,aQ];rw [h'];simp only [aO,aQ,Option.isSome_some,Option.getD_some,if_true]
 ·refine .inr fun y2 y3 y4 y5 y6 y7 y8 y9 qJ qI qH=>?_;have h':=h y2 y3 y4 y5 y6 y7 y8 y9 qJ qI qH;clear h;rw [hp] at h';have w:=aZ (n:=i) (by omega);have h0:r.l.take i=wo t (r.l.take (i+1)):=by rw [CB hi,if_pos hat,J6 hno]
  obtain⟨n,r',q1,q2,q3,ih⟩:=Ac r t r.l hl hn y2 y3 y4 y5 y6 y7 y8 y9 qJ qI qH (r.l.length - (i+1)) i (i+1) r rfl (by omega) (by omega) rfl h0;refine⟨n,r',q1,q2,q3,?_⟩;rw [aT,ZL,TA,dQ,if_pos,dQ,if_pos,dQ,if_neg]
  ·simp only [oI,List.map,Qnf,bP,gK,BP,den_add,aW,aO,aQ,Nat.reduceLT];rw [h'];simp only [aO,aQ,Option.getD_some,w,fin];rw [ih]
  ·simp only [Qnf,iL,bP,gK,iI,List.map,aW,Nat.reduceLT,aO,aQ];rw [h'];simp only [aO,aQ,Option.isSome_some,Option.getD_some,if_true];omega
  ·simp only [iL,bP,gK,iI,List.map,aW,Nat.reduceLT,aO,aQ];rw [h'];simp only [aO,aQ,Option.isSome_some,Option.getD_some,if_true]
  ·simp only [iL,bP,gK,iI,List.map,aW,Nat.reduceLT,aO,aQ];rw [h'];simp only [aO,aQ,Option.isSome_some,Option.getD_some,if_true]
theorem awU (r:D) (t:Int): ∀y2 y3 y4 y5 y6 y7 y8 y9 qJ qI qH:Int,L 12200 [enc r,t,y2,y3,y4,y5,y6,y7,y8,y9,qJ,qI,qH]=some [0,enc r,t,y2,y3,y4,y5,y6,y7,y8,y9,qJ,qI,qH]:=by
 intro y2 y3 y4 y5 y6 y7 y8 y9 qJ qI qH
 have h:L 12250 [enc r,t,y2,y3,y4,y5,y6,y7,y8,y9,qJ,qI,qH]=some [0,enc r,t,y2,y3,y4,y5,y6,y7,y8,y9,qJ,qI,qH]:=by rw [aT,aqI];simp only [Yy,zz,fin];rw [aT,aqH];simp only [Yx,zz,fin]
 have h':=h;clear h;rw [aT,aqJ,Yz,dQ,if_pos,dQ,if_pos]
 ·simp only [jR,List.map,bP,aW,aO,aQ,Nat.reduceLT,fin]
 ·simp only [iL,bP,gK,iI,List.map,aW,Nat.reduceLT,aO,aQ];rw [h'];simp only [aO,aQ,Option.isSome_some,Option.getD_some,if_true]
 ·simp only [iL,bP,gK,iI,List.map,aW,Nat.reduceLT,aO,aQ];rw [h'];simp only [aO,aQ,Option.isSome_some,Option.getD_some,if_true]
theorem awT (r:D) (t:Int): ∀y2 y3 y4 y5 y6 y7 y8 y9 qJ qI qH:Int,L 12300 [enc r,t,y2,y3,y4,y5,y6,y7,y8,y9,qJ,qI,qH]=some [0,enc r,t,y2,y3,y4,y5,y6,y7,y8,y9,qJ,qI,qH]:=by
 intro y2 y3 y4 y5 y6 y7 y8 y9 qJ qI qH
 have h:L 12350 [enc r,t,y2,y3,y4,y5,y6,y7,y8,y9,qJ,qI,qH]=some [0,enc r,t,y2,y3,y4,y5,y6,y7,y8,y9,qJ,qI,qH]:=by rw [aT,aqF];simp only [Yv,zz,fin];rw [aT,aqE];simp only [Yu,zz,fin]
 have h':=h;clear h;rw [aT,aqG,Yw,dQ,if_pos,dQ,if_pos]
 ·simp only [jR,List.map,bP,aW,aO,aQ,Nat.reduceLT,fin]
 ·simp only [iL,bP,gK,iI,List.map,aW,Nat.reduceLT,aO,aQ];rw [h'];simp only [aO,aQ,Option.isSome_some,Option.getD_some,if_true]
 ·simp only [iL,bP,gK,iI,List.map,aW,Nat.reduceLT,aO,aQ];rw [h'];simp only [aO,aQ,Option.isSome_some,Option.getD_some,if_true]
end Go.As.Try
end
section
namespace Go.As.Try
open Go hiding Stat Spec shape
open Go.As
set_option maxRecDepth 100000
abbrev Mx (d0:D) (obj:Int):Int:=((d0.at obj).hd 2).n
abbrev Mo (d0 s:D) (obj:Int):Int:=((s.at ((d0.at obj).hd 2).n).hd 0).n
inductive Act where
 | blk
 | mis
 | res (o c dn g:Int) (r v:D) (m:Option Int) (a oc:Int)
def act (M mo th op arg tries o c dn g:Int) (r v:D):Act:=
 if op=1 then (if o=th then .mis else if place r th < 0 then (if o < 0 then .res th c dn g r v none 0 2 else .blk) else .mis)
 else if op=2 then (if o=th then .res (-1) c dn g r v none 0 2 else .mis)
 else if op=8 then (if o=th then .res (-1) c dn g r v none 0 2 else .mis)
 else if op=3 then (if o < 0 then .res th c dn g r v none 1 2 else .res o c dn g r v none 0 2)
 else if op=4 then (if o < 0 then .res th c dn g r v none 1 2 else if tries < arg then .blk else .res o c dn g r v none 0 2)
 else if op=5 then (if o=th then .mis else if place r th < 0 then (if o < 0 then .res o c dn g (dL (r.l++ [.i th])) v none 0 2 else .blk) else .mis)
 else if op=6 then (if place r th < 0 then .mis else .res o c dn g (gQ (.i 2) (r.l.take (place r th).toNat++r.l.drop ((place r th).toNat+1))) v none 0 2)
 else if op=7 then (if o=th then .mis else if place r th < 0 then (if (r.l.length:Int)=0 then (if o < 0 then .res th c dn g r v none 0 2 else .blk) else .blk) else .mis)
 else if op=9 then (if 0 < c then .res o (IntKind.i64.wrap (c - 1)) dn g r v none 0 2 else .blk)
 else if op=11 then (if 0 < c then .res o (IntKind.i64.wrap (c - 1)) dn g r v none 1 2 else .res o c dn g r v none 0 2)
 else if op=10 then (if c < M then .res o (IntKind.i64.wrap (c+1)) dn g r v none 0 2 else .mis)
 else if op=17 then (if arg < IntKind.i64.wrap (0 - c) then .mis else if IntKind.i64.wrap (1099511627776 - c) < arg then .mis else .res o (IntKind.i64.wrap (c+arg)) dn g r v none (IntKind.i64.wrap (c+arg)) 2)
 else if op=18 then (if 0 < c then .res o (IntKind.i64.wrap (c - 1)) dn g r v none (IntKind.i64.wrap (c - 1)) 2 else .mis)
 else if op=19 then (if c=0 then .res o c dn g r v none 0 2 else .blk)
 else if op=22 then .res o c dn g r v none c 2
 else if op=23 then .res o arg dn g r v none arg 2
 else if op=20 then (if (v.l.length:Int) < M then .res o c dn g r (dL (v.l++ [.i arg])) none arg 2 else .blk)
 else if op=21 then (if (v.l.length:Int)=0 then .blk else .res o c dn g r (gQ v (v.l.drop 1)) none (v.at 0).n 2)
 else if op=12 then (if mo=th then .res o c dn g (dL (wo th r.l++ [.i th])) v (some (-1)) 0 3 else .mis)
 else if op=13 then (if (r.l.length:Int)=0 then .res o c dn g r v none 0 2 else .res o c dn g (gQ r (r.l.drop 1)) v none (IntKind.i64.wrap ((r.at 0).n+1)) 2)
 else if op=14 then .res o c dn g (.i 1) v none (r.l.length:Int) 2
 else if op=24 then (if place r th < 0 then (if mo < 0 then .res o c dn g r v (some th) 0 2 else .blk) else .blk)
 else if op=15 then (if g < 4611686018427387904 then (if IntKind.i64.wrap (c+1)=M then .res o 0 dn (IntKind.i64.wrap (g+1)) r v none g 3 else .res o (IntKind.i64.wrap (c+1)) dn g r v none g 3) else .mis)
 else if op=25 then (if arg < g then .res o c dn g r v none arg 2 else .blk)
 else if op=16 then (if dn=0 then (if o=th then .mis else if o < 0 then .res th c dn g r v none 1 2 else .blk) else .res o c dn g r v none 0 2)
 else (if o=th then .res (-1) c 1 g r v none 0 2 else .mis)
def YS (s:D) (obj M:Int):Act→D
 | .res o c dn g r v m _ _=>dL (fE (match m with | none=>s.l | some q=>fE s.l M (dL (fE (s.at M).l 0 (.i q)))) obj (dL [.i o,.i c,.i (if dn=0 then 0 else 1),.i g,r,v]))
 | _=>s
def outA (s:D) (th op obj M:Int):Act→List Int
 | .blk=>[enc s,0,0,0,0,0,0]
 | .mis=>[enc s,th,27,obj,IntKind.i64.wrap op,0,2]
 | .res o c dn g r v m a oc=>[enc (YS s obj M (.res o c dn g r v m a oc)),th,op,obj,a,0,oc]
structure TH (d0 d1 s:D) (th op obj arg tries o c dn g:Int) (r v:D):Prop where
 hcp:L 9000 [obj,enc s]=some [pF r v,obj,enc s,o,c,dn,g,enc r,enc v]
 iZ:L 550 [enc s]=some [enc s]
 hR:L 350 [enc d0,enc d1,enc s]=some [1]
 F9:0≤th
 F8:th < (d1.l.length:Int)
 BG:0≤obj
 BF:obj < (s.l.length:Int)
 hlen:s.l.length=d0.l.length
 hk:L 600 [op]=some [((d0.at obj).hd 0).n]
 hr:(r.l.length:Int) < 17592186044415
 hv:(v.l.length:Int) < 17592186044415
 hn: ∀x∈r.l,x= .i x.n
 hM:op=12∨op=24→0≤((d0.at obj).hd 2).n∧((d0.at obj).hd 2).n < (s.l.length:Int)∧((d0.at obj).hd 2).n≠obj
theorem TH.hb {d0 d1 s:D} {th op obj arg tries o c dn g:Int} {r v:D} (H:TH d0 d1 s th op obj arg tries o c dn g r v):r.l.length≤140737488351232:=by have:=H.hr; omega
noncomputable abbrev dH (d0 d1 s:D) (th op obj arg tries:Int):Nat→Int:=bQ L (low [enc d0,enc d1,enc s,th,op,obj,arg,tries])
abbrev bF (k:Nat):SE:=rr 9000 [.aP 5,.aP 2] k
abbrev Y0:SE:=nm (ce 2 (el (.aP 0) (.aP 5)))
abbrev kK:SE:=rr 850 [bF 7,.aP 3] 0
abbrev aeU (q:SE):SE:=.op .set (bF 2) (cn (mk Y0) (.op .set (el (bF 2) Y0) (cn (.dat (.i 0)) q)))
abbrev wY:List SE:=[bF 7,.aP 3,.aP 5,Y0,aeU (.dat (.i (-1))),.aP 4,.aP 6,.aP 7,bF 3,bF 4,bF 5,bF 6,bF 8]
abbrev thg (o c d g r v:SE):SE:=cn (mk (.aP 5)) (cn o (cn c (cn d (cn g (cn r (cn v (.dat (.i 0))))))))
abbrev wM:T Lf:=ou [rr 550 [.aP 2] 0,.aP 3,.lit 27,.aP 5,wr (.aP 4),.lit 0,.lit 2]
abbrev DK:T Lf:=ou [rr 550 [.aP 2] 0,.lit 0,.lit 0,.lit 0,.lit 0,.lit 0,.lit 0]
abbrev lU (z o c d g r v a:SE) (oc:Int):T Lf:=ou [.op .set z (thg o c d g r v),.aP 3,.aP 4,.aP 5,a,.lit 0,.lit oc]
theorem CX {r:D} (h:r.l= []) (t:Int):place r t= -1:=by unfold place; rw [h]; rfl
theorem aAI {r:D} (h:r.l= []) (t:Int):wo t r.l= []:=by rw [h]; rfl
theorem alt3 {r v:D} (h:0 < r.l.length) (h':0 < v.l.length):pF r v=3:=by simp [pF,h,h']
theorem aFN {r v:D} (h:0 < r.l.length) (h':v.l= []):pF r v=4:=by simp [pF,h,h']
theorem aFM {r v:D} (h:r.l= []) (h':0 < v.l.length):pF r v=5:=by simp [pF,h,h']
theorem aFL {r v:D} (h:r.l= []) (h':v.l= []):pF r v=6:=by simp [pF,h,h']
abbrev Gl (d0 s:D) (th op obj arg tries o c dn g:Int) (r v:D):RS:=.out (outA s th op obj (Mx d0 obj) (act (Mx d0 obj) (Mo d0 s obj) th op arg tries o c dn g r v))
theorem dG (s:D) (th op obj M:Int):outA s th op obj M .blk= [enc s,0,0,0,0,0,0]:=rfl
theorem dF (s:D) (th op obj M:Int):outA s th op obj M .mis= [enc s,th,27,obj,IntKind.i64.wrap op,0,2]:=rfl
theorem bU (s:D) (th op obj M o c dn g:Int) (r v:D) (a oc:Int):outA s th op obj M (.res o c dn g r v none a oc)= [enc (dL (fE s.l obj (dL [.i o,.i c,.i (if dn=0 then 0 else 1),.i g,r,v]))),th,op,obj,a,0,oc]:=rfl
theorem bT (s:D) (th op obj M o c dn g:Int) (r v:D) (q a oc:Int):outA s th op obj M (.res o c dn g r v (some q) a oc)= [enc (dL (fE (fE s.l M (dL (fE (s.at M).l 0 (.i q)))) obj (dL [.i o,.i c,.i (if dn=0 then 0 else 1),.i g,r,v]))),th,op,obj,a,0,oc]:=rfl
section
variable {s:D} {th op obj M:Int}
theorem eY {c:Prop} [Decidable c] {a b:Act}:RS.out (outA s th op obj M (if c then a else b))=if c then RS.out (outA s th op obj M a) else RS.out (outA s th op obj M b):=by split <;> rfl
end
theorem AO {p:Prop} [Decidable p]:((if p then (0:Int) else 1)=0)=p:=by by_cases h:p <;> simp [h]
theorem kU (l:List D):l= []∨0 < l.length:=by cases l <;> simp
theorem z2 {ρ:Nat→Int} {a b c d:List SB} (h:zY ρ a∧zW ρ b) (h':zY ρ c∧zW ρ d):zY ρ (a++c)∧zW ρ (b++d):=⟨ahK h.1 h'.1,ahN h.2 h'.2⟩
end Go.As.Try
end
section
namespace Go.As.Try
open Go hiding Stat Spec shape
open Go.As
set_option maxRecDepth 100000
abbrev bt:SE:=.op .bit (mk (bF 5)) (.lit 0)
abbrev kW:SE:=wr (.add kK (.lit 1))
abbrev kL:SE:=.sub (ln (bF 7)) kW
abbrev kD:SE:=.add kK kL
abbrev kC:SE:=.op .cat (.op .cat (.op .take (bF 7) kK) (.op .drop (.op .take (bF 7) (.add kW kL)) kW)) (.op .drop (bF 7) kD)
abbrev kF:SE:=.op .fill kC (cn (mk kD) (.dat (.i 0)))
section
variable {d0 d1 s r v:D} {th op obj arg tries o c dn g:Int}
abbrev YG:List SB:=[.eq (a0 9000 [.aP 5,.aP 2]) (.lit 1),.eq (a0 350 [.aP 0,.aP 1,.aP 2]) (.lit 1),.eq (a0 600 [.aP 4]) (.lit 1),.eq (a0 550 [.aP 2]) (.lit 1),.eq (a0 900 [bF 7,.aP 3]) (.lit 1),.eq (a0 850 [bF 7,.aP 3]) (.lit 1),.lt (.aP 3) (ln (.aP 1)),.lt (.aP 5) (ln (.aP 0)),.lt (.aP 5) (ln (bF 2)),.eq (rr 600 [.aP 4] 0) (nm (ce 0 (el (.aP 0) (.aP 5)))),.lt (ln (bF 7)) (.lit 17592186044415),.lt (ln (bF 8)) (.lit 17592186044415)]
abbrev NG:List SB:=[.lt (.aP 5) (.lit 0),.eq (rr 350 [.aP 0,.aP 1,.aP 2] 0) (.lit 0),.lt (.aP 3) (.lit 0),.lt (ln (bF 7)) (ln (bF 7)),.lt (ln (bF 8)) (.add (.lit 1) (.sub (ln (bF 8)) (.lit 1))),.lt (ln (bF 7)) (.add (.lit 1) (.sub (ln (bF 7)) (.lit 1)))]
theorem fG (H:TH d0 d1 s th op obj arg tries o c dn g r v):zY (dH d0 d1 s th op obj arg tries) YG∧zW (dH d0 d1 s th op obj arg tries) NG:=by have hb:=H.hb;have h1:=H.F9; have h2:=H.F8; have h3:=H.BG; have h4:=H.BF; have h5:=H.hlen; have h6:=H.hr; have h7:=H.hv; have hp:=iU r th;simp only [zz,H.hcp,H.iZ,H.hR,H.hk,has_is r th hb,dK r th hb] <;> omega
abbrev YA3:List SB:=[.eq (bF 0) (.lit 3)]
abbrev NA3:List SB:=[.eq (bF 0) (.lit 0),.eq (bF 0) (.lit 1),.eq (bF 0) (.lit 2),.eq (bF 0) (.lit 4),.eq (bF 0) (.lit 5),.eq (bF 0) (.lit 6),.lt (.sub (ln (bF 7)) (.lit 1)) (.lit 0),.lt (.sub (ln (bF 8)) (.lit 1)) (.lit 0)]
theorem fA3 (H:TH d0 d1 s th op obj arg tries o c dn g r v) (hr:0 < r.l.length) (hv:0 < v.l.length):zY (dH d0 d1 s th op obj arg tries) YA3∧zW (dH d0 d1 s th op obj arg tries) NA3:=by have hb:=H.hb;have h1:=H.F9; have h2:=H.F8; have h3:=H.BG; have h4:=H.BF; have h5:=H.hlen; have h6:=H.hr; have h7:=H.hv; have hp:=iU r th;simp only [zz,H.hcp,H.iZ,H.hR,H.hk,has_is r th hb,dK r th hb,alt3 hr hv] <;> omega
abbrev YA4:List SB:=[.eq (bF 0) (.lit 4)]
abbrev NA4:List SB:=[.eq (bF 0) (.lit 0),.eq (bF 0) (.lit 1),.eq (bF 0) (.lit 2),.eq (bF 0) (.lit 3),.eq (bF 0) (.lit 5),.eq (bF 0) (.lit 6),.lt (.sub (ln (bF 7)) (.lit 1)) (.lit 0)]
theorem fA4 (H:TH d0 d1 s th op obj arg tries o c dn g r v) (hr:0 < r.l.length) (hv:v.l= []):zY (dH d0 d1 s th op obj arg tries) YA4∧zW (dH d0 d1 s th op obj arg tries) NA4:=by have hb:=H.hb;have h1:=H.F9; have h2:=H.F8; have h3:=H.BG; have h4:=H.BF; have h5:=H.hlen; have h6:=H.hr; have h7:=H.hv; have hp:=iU r th;simp only [zz,H.hcp,H.iZ,H.hR,H.hk,has_is r th hb,dK r th hb,aFN hr hv] <;> omega
abbrev YA5:List SB:=[.eq (bF 0) (.lit 5),.lt kK (.lit 0)]
abbrev NA5:List SB:=[.eq (bF 0) (.lit 0),.eq (bF 0) (.lit 1),.eq (bF 0) (.lit 2),.eq (bF 0) (.lit 3),.eq (bF 0) (.lit 4),.eq (bF 0) (.lit 6),.lt (.sub (ln (bF 8)) (.lit 1)) (.lit 0)]
theorem fA5 (H:TH d0 d1 s th op obj arg tries o c dn g r v) (hr:r.l= []) (hv:0 < v.l.length):zY (dH d0 d1 s th op obj arg tries) YA5∧zW (dH d0 d1 s th op obj arg tries) NA5:=by have hb:=H.hb;have h1:=H.F9; have h2:=H.F8; have h3:=H.BG; have h4:=H.BF; have h5:=H.hlen; have h6:=H.hr; have h7:=H.hv; have hp:=iU r th;simp only [zz,H.hcp,H.iZ,H.hR,H.hk,has_is r th hb,dK r th hb,aFM hr hv,CX hr] <;> omega
abbrev YA6:List SB:=[.eq (bF 0) (.lit 6),.lt kK (.lit 0)]
abbrev NA6:List SB:=[.eq (bF 0) (.lit 0),.eq (bF 0) (.lit 1),.eq (bF 0) (.lit 2),.eq (bF 0) (.lit 3),.eq (bF 0) (.lit 4),.eq (bF 0) (.lit 5)]
theorem fA6 (H:TH d0 d1 s th op obj arg tries o c dn g r v) (hr:r.l= []) (hv:v.l= []):zY (dH d0 d1 s th op obj arg tries) YA6∧zW (dH d0 d1 s th op obj arg tries) NA6:=by have hb:=H.hb;have h1:=H.F9; have h2:=H.F8; have h3:=H.BG; have h4:=H.BF; have h5:=H.hlen; have h6:=H.hr; have h7:=H.hv; have hp:=iU r th;simp only [zz,H.hcp,H.iZ,H.hR,H.hk,has_is r th hb,dK r th hb,aFL hr hv,CX hr] <;> omega
abbrev YM:List SB:=[.lt Y0 (ln (bF 2))]
abbrev NM:List SB:=[.lt Y0 (.lit 0),.eq Y0 (.aP 5)]
theorem fM (H:TH d0 d1 s th op obj arg tries o c dn g r v) (ho:op=12∨op=24):zY (dH d0 d1 s th op obj arg tries) YM∧zW (dH d0 d1 s th op obj arg tries) NM:=by have hb:=H.hb;have h1:=H.F9; have h2:=H.F8; have h3:=H.BG; have h4:=H.BF; have h5:=H.hlen; have h6:=H.hr; have h7:=H.hv; have hp:=iU r th; have hm:=H.hM ho;simp only [zz,H.hcp,H.iZ,H.hR,H.hk,has_is r th hb,dK r th hb] <;> omega
abbrev YK0:List SB:=[.lt kK (.lit 0)]
abbrev NK0:List SB:=[]
theorem fK0 (H:TH d0 d1 s th op obj arg tries o c dn g r v) (hk:place r th < 0):zY (dH d0 d1 s th op obj arg tries) YK0∧zW (dH d0 d1 s th op obj arg tries) NK0:=by have hb:=H.hb;have h1:=H.F9; have h2:=H.F8; have h3:=H.BG; have h4:=H.BF; have h5:=H.hlen; have h6:=H.hr; have h7:=H.hv; have hp:=iU r th;simp only [zz,H.hcp,H.iZ,H.hR,H.hk,has_is r th hb,dK r th hb] <;> omega
abbrev YK1:List SB:=[.lt kD (ln (bF 7)),.eq (.add kD (.sub (ln (bF 7)) kD)) (ln kC)]
abbrev NK1:List SB:=[.lt kK (.lit 0),.lt kW kK,.lt (ln (bF 7)) kW,.eq kK kW,.lt (ln (bF 7)) kK,.lt kW (.lit 0),.lt kL (.lit 0),.lt (ln (bF 7)) (.add kW kL),.lt (ln (bF 7)) kD,.lt kD (.lit 0),.lt (ln kC) (ln (bF 7)),.lt (.sub (ln (bF 7)) kD) (.lit 0),.lt (ln kF) kD]
theorem fK1 (H:TH d0 d1 s th op obj arg tries o c dn g r v) (hk: ¬place r th < 0):zY (dH d0 d1 s th op obj arg tries) YK1∧zW (dH d0 d1 s th op obj arg tries) NK1:=by have hb:=H.hb;have h1:=H.F9; have h2:=H.F8; have h3:=H.BG; have h4:=H.BF; have h5:=H.hlen; have h6:=H.hr; have h7:=H.hv; have hp:=iU r th; have hw:IntKind.i64.wrap (place r th+1)=place r th+1:=nU (by omega) (by omega);simp only [zz,H.hcp,H.iZ,H.hR,H.hk,has_is r th hb,dK r th hb,kT,aX,List.length_append,List.length_take,List.length_drop,List.length_replicate,hw] <;> omega
abbrev dA (d0 s r v:D) (th op obj arg tries o c dn g:Int):List Int:=[enc r,th,obj,Mx d0 obj,enc (dL (fE s.l (Mx d0 obj) (dL (fE (s.at (Mx d0 obj)).l 0 (.i (-1)))))),op,arg,tries,o,c,dn,g,enc v]
abbrev aFS:List SB:=[.eq (a0 12000 wY) (.lit 1),.eq (rr 12000 wY 0) (.lit 0)]
abbrev aFY:List SB:=[]
theorem aFI (H:TH d0 d1 s th op obj arg tries o c dn g r v) (hd:L 12000 (dA d0 s r v th op obj arg tries o c dn g)=some (0 :: (dA d0 s r v th op obj arg tries o c dn g))):zY (dH d0 d1 s th op obj arg tries) aFS∧zW (dH d0 d1 s th op obj arg tries) aFY:=by have hb:=H.hb;have h1:=H.F9; have h2:=H.F8; have h3:=H.BG; have h4:=H.BF; have h5:=H.hlen; have h6:=H.hr; have h7:=H.hv; have hp:=iU r th;simp only [zz,H.hcp,H.iZ,H.hR,H.hk,has_is r th hb,dK r th hb,hd] <;> omega
abbrev aFT:List SB:=[.eq (a0 12000 wY) (.lit 1),.eq (rr 12000 wY 0) (.lit 1)]
abbrev aFZ:List SB:=[.eq (rr 12000 wY 0) (.lit 0),.lt (rr 12000 wY 14) (.lit 0),.lt (ln (rr 12000 wY 15)) (.add (rr 12000 wY 14) (.lit 1)),.lt (.add (rr 12000 wY 14) (.lit 1)) (.lit 0),.lt (ln (.op .cat (.op .cat (.op .take (rr 12000 wY 15) (rr 12000 wY 14)) (.op .snoc (.dat (.i 0)) (mk (.aP 3)))) (.op .drop (rr 12000 wY 15) (.add (rr 12000 wY 14) (.lit 1))))) (.add (rr 12000 wY 14) (.lit 1))]
theorem aFJ (H:TH d0 d1 s th op obj arg tries o c dn g r v) {n:Nat} {r1:D} (hn:n < r.l.length) (hl:r1.l.length=r.l.length) (hd:L 12000 (dA d0 s r v th op obj arg tries o c dn g)=some (1 :: ((dA d0 s r v th op obj arg tries o c dn g)++ [(n:Int),enc r1,(r.l.length:Int)]))):zY (dH d0 d1 s th op obj arg tries) aFT∧zW (dH d0 d1 s th op obj arg tries) aFZ:=by have hb:=H.hb;have h1:=H.F9; have h2:=H.F8; have h3:=H.BG; have h4:=H.BF; have h5:=H.hlen; have h6:=H.hr; have h7:=H.hv; have hp:=iU r th;simp only [zz,H.hcp,H.iZ,H.hR,H.hk,has_is r th hb,dK r th hb,hd,kT,aX,yK,List.cons_append,List.nil_append,List.length_append,List.length_take,List.length_drop,List.length_cons,List.length_nil] <;> omega
abbrev aFQ:List SB:=[.eq (a0 12100 wY) (.lit 1),.eq (rr 12100 wY 0) (.lit 0)]
abbrev aFW:List SB:=[]
theorem aFG (H:TH d0 d1 s th op obj arg tries o c dn g r v) (hd:L 12100 (dA d0 s r v th op obj arg tries o c dn g)=some (0 :: (dA d0 s r v th op obj arg tries o c dn g))):zY (dH d0 d1 s th op obj arg tries) aFQ∧zW (dH d0 d1 s th op obj arg tries) aFW:=by have hb:=H.hb;have h1:=H.F9; have h2:=H.F8; have h3:=H.BG; have h4:=H.BF; have h5:=H.hlen; have h6:=H.hr; have h7:=H.hv; have hp:=iU r th;simp only [zz,H.hcp,H.iZ,H.hR,H.hk,has_is r th hb,dK r th hb,hd] <;> omega
abbrev aFR:List SB:=[.eq (a0 12100 wY) (.lit 1),.eq (rr 12100 wY 0) (.lit 1)]
abbrev aFX:List SB:=[.eq (rr 12100 wY 0) (.lit 0),.lt (rr 12100 wY 14) (.lit 0),.lt (ln (rr 12100 wY 15)) (.add (rr 12100 wY 14) (.lit 1)),.lt (.add (rr 12100 wY 14) (.lit 1)) (.lit 0),.lt (ln (.op .cat (.op .cat (.op .take (rr 12100 wY 15) (rr 12100 wY 14)) (.op .snoc (.dat (.i 0)) (mk (.aP 3)))) (.op .drop (rr 12100 wY 15) (.add (rr 12100 wY 14) (.lit 1))))) (.add (rr 12100 wY 14) (.lit 1))]
theorem aFH (H:TH d0 d1 s th op obj arg tries o c dn g r v) {n:Nat} {r1:D} (hn:n < r.l.length) (hl:r1.l.length=r.l.length) (hd:L 12100 (dA d0 s r v th op obj arg tries o c dn g)=some (1 :: ((dA d0 s r v th op obj arg tries o c dn g)++ [(n:Int),enc r1,(r.l.length:Int)]))):zY (dH d0 d1 s th op obj arg tries) aFR∧zW (dH d0 d1 s th op obj arg tries) aFX:=by have hb:=H.hb;have h1:=H.F9; have h2:=H.F8; have h3:=H.BG; have h4:=H.BF; have h5:=H.hlen; have h6:=H.hr; have h7:=H.hv; have hp:=iU r th;simp only [zz,H.hcp,H.iZ,H.hR,H.hk,has_is r th hb,dK r th hb,hd,kT,aX,yK,List.cons_append,List.nil_append,List.length_append,List.length_take,List.length_drop,List.length_cons,List.length_nil] <;> omega
abbrev aFP:List SB:=[.eq (a0 12200 wY) (.lit 1),.eq (rr 12200 wY 0) (.lit 0)]
abbrev aFV:List SB:=[]
theorem aFF (H:TH d0 d1 s th op obj arg tries o c dn g r v) (hd:L 12200 (dA d0 s r v th op obj arg tries o c dn g)=some (0 :: (dA d0 s r v th op obj arg tries o c dn g))):zY (dH d0 d1 s th op obj arg tries) aFP∧zW (dH d0 d1 s th op obj arg tries) aFV:=by have hb:=H.hb;have h1:=H.F9; have h2:=H.F8; have h3:=H.BG; have h4:=H.BF; have h5:=H.hlen; have h6:=H.hr; have h7:=H.hv; have hp:=iU r th;simp only [zz,H.hcp,H.iZ,H.hR,H.hk,has_is r th hb,dK r th hb,hd] <;> omega
abbrev aFO:List SB:=[.eq (a0 12300 wY) (.lit 1),.eq (rr 12300 wY 0) (.lit 0)]
abbrev aFU:List SB:=[]
theorem aFE (H:TH d0 d1 s th op obj arg tries o c dn g r v) (hd:L 12300 (dA d0 s r v th op obj arg tries o c dn g)=some (0 :: (dA d0 s r v th op obj arg tries o c dn g))):zY (dH d0 d1 s th op obj arg tries) aFO∧zW (dH d0 d1 s th op obj arg tries) aFU:=by have hb:=H.hb;have h1:=H.F9; have h2:=H.F8; have h3:=H.BG; have h4:=H.BF; have h5:=H.hlen; have h6:=H.hr; have h7:=H.hv; have hp:=iU r th;simp only [zz,H.hcp,H.iZ,H.hR,H.hk,has_is r th hb,dK r th hb,hd] <;> omega
end
end Go.As.Try
end
section
namespace Go.As.Try
open Go hiding Stat Spec shape
open Go.As
set_option maxRecDepth 100000
theorem Oq (l m:List D):gQ (dL l) m=gQ (.i 2) m:=by
 cases m with
 | cons a m=>rfl
 | nil=>cases l <;> rfl
theorem aaI (d:D) (h:0 < d.l.length):gQ (gQ d (d.l.take (1+((d.l.length:Int) - 1)).toNat)) ((gQ d (d.l.take (1+((d.l.length:Int) - 1)).toNat)).l.drop (1:Int).toNat)=gQ d (d.l.drop 1):=by rw [EM (fun e=>by rw [e]; rfl),kT,List.take_of_length_le (by omega)];rfl
theorem aCL (l:List D) (k:Nat) (hk:k < l.length) (R B:List D):((l.take k++(l.take l.length).drop (k+1)++B).take (l.length - 1)++R).take (l.length - 1)=l.take k++l.drop (k+1)∨B.length=0:=by
 by_cases hB:B.length=0
 ·exact .inr hB
 ·left;have e:(l.take k++(l.take l.length).drop (k+1)).length=l.length - 1:=by simp only [List.length_append,List.length_take,List.length_drop]; omega
  rw [List.take_append_of_le_length (by rw [List.length_take,List.length_append,e]; omega),List.take_take,Nat.min_self,List.take_append_of_le_length (by omega),List.take_of_length_le (by omega),List.take_length]
section
variable {d0 d1 s r v:D} {th op obj arg tries o c dn g:Int}
abbrev zt0:T Lf:=(sp (.eq (bF 3) (.aP 3)) wM (sp (.eq (rr 900 [bF 7,.aP 3] 0) (.lit 0)) (sp (.lt (bF 3) (.lit 0)) (lU (bF 2) (mk (.aP 3)) (mk (bF 4)) bt (mk (bF 6)) (bF 7) (bF 8) (.lit 0) 2) DK) wM))
theorem sm0 (H:TH d0 d1 s th 1 obj arg tries o c dn g r v):dY (dH d0 d1 s th 1 obj arg tries) zt0=Gl d0 s th 1 obj arg tries o c dn g r v:=by
 have hb:=H.hb;simp only [zz,H.hcp,H.iZ,H.hR,H.hk,has_is r th hb,dK r th hb,aA,AO,eY,dG,dF,bU,bT,dL,act,Int.reduceEq,Gl] <;> (repeat' split) <;> first | rfl | (exfalso; omega)
abbrev zt1:T Lf:=(sp (.eq (bF 3) (.aP 3)) (lU (bF 2) (.dat (.i (-1))) (mk (bF 4)) bt (mk (bF 6)) (bF 7) (bF 8) (.lit 0) 2) wM)
theorem sm1 (H:TH d0 d1 s th 2 obj arg tries o c dn g r v):dY (dH d0 d1 s th 2 obj arg tries) zt1=Gl d0 s th 2 obj arg tries o c dn g r v:=by
 have hb:=H.hb;simp only [zz,H.hcp,H.iZ,H.hR,H.hk,has_is r th hb,dK r th hb,aA,AO,eY,dG,dF,bU,bT,dL,act,Int.reduceEq,Gl] <;> (repeat' split) <;> first | rfl | (exfalso; omega)
theorem sm2 (H:TH d0 d1 s th 8 obj arg tries o c dn g r v):dY (dH d0 d1 s th 8 obj arg tries) zt1=Gl d0 s th 8 obj arg tries o c dn g r v:=by
 have hb:=H.hb;simp only [zz,H.hcp,H.iZ,H.hR,H.hk,has_is r th hb,dK r th hb,aA,AO,eY,dG,dF,bU,bT,dL,act,Int.reduceEq,Gl] <;> (repeat' split) <;> first | rfl | (exfalso; omega)
abbrev zt2:T Lf:=(sp (.lt (bF 3) (.lit 0)) (lU (bF 2) (mk (.aP 3)) (mk (bF 4)) bt (mk (bF 6)) (bF 7) (bF 8) (.lit 1) 2) (lU (bF 2) (mk (bF 3)) (mk (bF 4)) bt (mk (bF 6)) (bF 7) (bF 8) (.lit 0) 2))
theorem sm3 (H:TH d0 d1 s th 3 obj arg tries o c dn g r v):dY (dH d0 d1 s th 3 obj arg tries) zt2=Gl d0 s th 3 obj arg tries o c dn g r v:=by
 have hb:=H.hb;simp only [zz,H.hcp,H.iZ,H.hR,H.hk,has_is r th hb,dK r th hb,aA,AO,eY,dG,dF,bU,bT,dL,act,Int.reduceEq,Gl] <;> (repeat' split) <;> first | rfl | (exfalso; omega)
abbrev zt3:T Lf:=(sp (.lt (bF 3) (.lit 0)) (lU (bF 2) (mk (.aP 3)) (mk (bF 4)) bt (mk (bF 6)) (bF 7) (bF 8) (.lit 1) 2) (sp (.lt (.aP 7) (.aP 6)) DK (lU (bF 2) (mk (bF 3)) (mk (bF 4)) bt (mk (bF 6)) (bF 7) (bF 8) (.lit 0) 2)))
theorem sm4 (H:TH d0 d1 s th 4 obj arg tries o c dn g r v):dY (dH d0 d1 s th 4 obj arg tries) zt3=Gl d0 s th 4 obj arg tries o c dn g r v:=by
 have hb:=H.hb;simp only [zz,H.hcp,H.iZ,H.hR,H.hk,has_is r th hb,dK r th hb,aA,AO,eY,dG,dF,bU,bT,dL,act,Int.reduceEq,Gl] <;> (repeat' split) <;> first | rfl | (exfalso; omega)
abbrev zt4:T Lf:=(sp (.eq (bF 3) (.aP 3)) wM (sp (.eq (rr 900 [bF 7,.aP 3] 0) (.lit 0)) (sp (.lt (bF 3) (.lit 0)) (lU (bF 2) (mk (bF 3)) (mk (bF 4)) bt (mk (bF 6)) (.op .snoc (bF 7) (mk (.aP 3))) (bF 8) (.lit 0) 2) DK) wM))
theorem sm5 (H:TH d0 d1 s th 5 obj arg tries o c dn g r v) (hr:0 < r.l.length):dY (dH d0 d1 s th 5 obj arg tries) zt4=Gl d0 s th 5 obj arg tries o c dn g r v:=by
 have hb:=H.hb;simp only [zz,H.hcp,H.iZ,H.hR,H.hk,has_is r th hb,dK r th hb,yK,List.nil_append,aA,AO,eY,dG,dF,bU,bT,dL,act,Int.reduceEq,Gl] <;> (repeat' split) <;> first | rfl | (exfalso; omega)
abbrev zt5:T Lf:=wM
theorem sm6 (H:TH d0 d1 s th 6 obj arg tries o c dn g r v) (hk:place r th < 0):dY (dH d0 d1 s th 6 obj arg tries) zt5=Gl d0 s th 6 obj arg tries o c dn g r v:=by
 have hb:=H.hb;simp only [zz,H.hcp,H.iZ,H.hR,H.hk,has_is r th hb,dK r th hb,hk,aA,AO,eY,dG,dF,bU,bT,dL,act,Int.reduceEq,Gl] <;> (repeat' split) <;> first | rfl | (exfalso; omega)
abbrev zt6:T Lf:=(lU (bF 2) (mk (bF 3)) (mk (bF 4)) bt (mk (bF 6)) (.op .take kF kD) (bF 8) (.lit 0) 2)
theorem sm7 (H:TH d0 d1 s th 6 obj arg tries o c dn g r v) (hr:0 < r.l.length) (hk: ¬place r th < 0):dY (dH d0 d1 s th 6 obj arg tries) zt6=Gl d0 s th 6 obj arg tries o c dn g r v:=by
 have hb:=H.hb;rcases vX r th with ⟨hp,_⟩ | ⟨k,hkl,hp,_⟩
 ·exact absurd hk (by rw [hp]; omega)
 have hw:IntKind.i64.wrap ((k:Int)+1)=(k:Int)+1:=nU (by omega) (by omega);have e1:((k:Int)+1+((r.l.length:Int) - ((k:Int)+1))).toNat=r.l.length:=by omega
 have e2:((k:Int)+((r.l.length:Int) - ((k:Int)+1))).toNat=r.l.length - 1:=by omega
 have e3:((k:Int)+1).toNat=k+1:=by omega
 have h0: ¬((k:Int) < 0):=by omega
 have hd:=fun R=>(aCL r.l k hkl R (r.l.drop (r.l.length - 1))).resolve_right (by rw [List.length_drop]; omega);simp only [zz,H.hcp,H.iZ,H.hR,H.hk,has_is r th hb,dK r th hb,hp,hw,e1,e2,e3,h0,kT,aX,Int.toNat_natCast,hd,Oq,aA,AO,eY,dG,dF,bU,bT,dL,act,Int.reduceEq,Gl] <;> (repeat' split) <;> first | rfl | (exfalso; omega)
abbrev zt7:T Lf:=(sp (.eq (bF 3) (.aP 3)) wM (sp (.eq (rr 900 [bF 7,.aP 3] 0) (.lit 0)) (sp (.eq (ln (bF 7)) (.lit 0)) (sp (.lt (bF 3) (.lit 0)) (lU (bF 2) (mk (.aP 3)) (mk (bF 4)) bt (mk (bF 6)) (bF 7) (bF 8) (.lit 0) 2) DK) DK) wM))
theorem sm8 (H:TH d0 d1 s th 7 obj arg tries o c dn g r v) (hr:0 < r.l.length):dY (dH d0 d1 s th 7 obj arg tries) zt7=Gl d0 s th 7 obj arg tries o c dn g r v:=by
 have hb:=H.hb;simp only [zz,H.hcp,H.iZ,H.hR,H.hk,has_is r th hb,dK r th hb,aA,AO,eY,dG,dF,bU,bT,dL,act,Int.reduceEq,Gl] <;> (repeat' split) <;> first | rfl | (exfalso; omega)
abbrev zt8:T Lf:=(sp (.lt (.lit 0) (bF 4)) (lU (bF 2) (mk (bF 3)) (mk (wr (.sub (bF 4) (.lit 1)))) bt (mk (bF 6)) (bF 7) (bF 8) (.lit 0) 2) DK)
theorem sm9 (H:TH d0 d1 s th 9 obj arg tries o c dn g r v):dY (dH d0 d1 s th 9 obj arg tries) zt8=Gl d0 s th 9 obj arg tries o c dn g r v:=by
 have hb:=H.hb;simp only [zz,H.hcp,H.iZ,H.hR,H.hk,has_is r th hb,dK r th hb,aA,AO,eY,dG,dF,bU,bT,dL,act,Int.reduceEq,Gl] <;> (repeat' split) <;> first | rfl | (exfalso; omega)
abbrev zt9:T Lf:=(sp (.lt (.lit 0) (bF 4)) (lU (bF 2) (mk (bF 3)) (mk (wr (.sub (bF 4) (.lit 1)))) bt (mk (bF 6)) (bF 7) (bF 8) (.lit 1) 2) (lU (bF 2) (mk (bF 3)) (mk (bF 4)) bt (mk (bF 6)) (bF 7) (bF 8) (.lit 0) 2))
theorem aFd (H:TH d0 d1 s th 11 obj arg tries o c dn g r v):dY (dH d0 d1 s th 11 obj arg tries) zt9=Gl d0 s th 11 obj arg tries o c dn g r v:=by
 have hb:=H.hb;simp only [zz,H.hcp,H.iZ,H.hR,H.hk,has_is r th hb,dK r th hb,aA,AO,eY,dG,dF,bU,bT,dL,act,Int.reduceEq,Gl] <;> (repeat' split) <;> first | rfl | (exfalso; omega)
abbrev aC1:T Lf:=(sp (.lt (bF 4) Y0) (lU (bF 2) (mk (bF 3)) (mk (wr (.add (bF 4) (.lit 1)))) bt (mk (bF 6)) (bF 7) (bF 8) (.lit 0) 2) wM)
theorem aFc (H:TH d0 d1 s th 10 obj arg tries o c dn g r v):dY (dH d0 d1 s th 10 obj arg tries) aC1=Gl d0 s th 10 obj arg tries o c dn g r v:=by
 have hb:=H.hb;simp only [zz,H.hcp,H.iZ,H.hR,H.hk,has_is r th hb,dK r th hb,aA,AO,eY,dG,dF,bU,bT,dL,act,Int.reduceEq,Gl] <;> (repeat' split) <;> first | rfl | (exfalso; omega)
abbrev aC0:T Lf:=(sp (.lt (.aP 6) (wr (.sub (.lit 0) (bF 4)))) wM (sp (.lt (wr (.sub (.lit 1099511627776) (bF 4))) (.aP 6)) wM (lU (bF 2) (mk (bF 3)) (mk (wr (.add (bF 4) (.aP 6)))) bt (mk (bF 6)) (bF 7) (bF 8) (wr (.add (bF 4) (.aP 6))) 2)))
theorem aFb (H:TH d0 d1 s th 17 obj arg tries o c dn g r v):dY (dH d0 d1 s th 17 obj arg tries) aC0=Gl d0 s th 17 obj arg tries o c dn g r v:=by
 have hb:=H.hb;simp only [zz,H.hcp,H.iZ,H.hR,H.hk,has_is r th hb,dK r th hb,aA,AO,eY,dG,dF,bU,bT,dL,act,Int.reduceEq,Gl] <;> (repeat' split) <;> first | rfl | (exfalso; omega)
abbrev aCZ:T Lf:=(sp (.lt (.lit 0) (bF 4)) (lU (bF 2) (mk (bF 3)) (mk (wr (.sub (bF 4) (.lit 1)))) bt (mk (bF 6)) (bF 7) (bF 8) (wr (.sub (bF 4) (.lit 1))) 2) wM)
theorem aFa (H:TH d0 d1 s th 18 obj arg tries o c dn g r v):dY (dH d0 d1 s th 18 obj arg tries) aCZ=Gl d0 s th 18 obj arg tries o c dn g r v:=by
 have hb:=H.hb;simp only [zz,H.hcp,H.iZ,H.hR,H.hk,has_is r th hb,dK r th hb,aA,AO,eY,dG,dF,bU,bT,dL,act,Int.reduceEq,Gl] <;> (repeat' split) <;> first | rfl | (exfalso; omega)
abbrev aCY:T Lf:=(sp (.eq (bF 4) (.lit 0)) (lU (bF 2) (mk (bF 3)) (mk (bF 4)) bt (mk (bF 6)) (bF 7) (bF 8) (.lit 0) 2) DK)
theorem aE9 (H:TH d0 d1 s th 19 obj arg tries o c dn g r v):dY (dH d0 d1 s th 19 obj arg tries) aCY=Gl d0 s th 19 obj arg tries o c dn g r v:=by
 have hb:=H.hb;simp only [zz,H.hcp,H.iZ,H.hR,H.hk,has_is r th hb,dK r th hb,aA,AO,eY,dG,dF,bU,bT,dL,act,Int.reduceEq,Gl] <;> (repeat' split) <;> first | rfl | (exfalso; omega)
abbrev aCX:T Lf:=(lU (bF 2) (mk (bF 3)) (mk (bF 4)) bt (mk (bF 6)) (bF 7) (bF 8) (bF 4) 2)
theorem aE8 (H:TH d0 d1 s th 22 obj arg tries o c dn g r v):dY (dH d0 d1 s th 22 obj arg tries) aCX=Gl d0 s th 22 obj arg tries o c dn g r v:=by
 have hb:=H.hb;simp only [zz,H.hcp,H.iZ,H.hR,H.hk,has_is r th hb,dK r th hb,aA,AO,eY,dG,dF,bU,bT,dL,act,Int.reduceEq,Gl] <;> (repeat' split) <;> first | rfl | (exfalso; omega)
abbrev aCW:T Lf:=(lU (bF 2) (mk (bF 3)) (mk (.aP 6)) bt (mk (bF 6)) (bF 7) (bF 8) (.aP 6) 2)
theorem aE7 (H:TH d0 d1 s th 23 obj arg tries o c dn g r v):dY (dH d0 d1 s th 23 obj arg tries) aCW=Gl d0 s th 23 obj arg tries o c dn g r v:=by
 have hb:=H.hb;simp only [zz,H.hcp,H.iZ,H.hR,H.hk,has_is r th hb,dK r th hb,aA,AO,eY,dG,dF,bU,bT,dL,act,Int.reduceEq,Gl] <;> (repeat' split) <;> first | rfl | (exfalso; omega)
abbrev aAH:T Lf:=(sp (.lt (ln (bF 8)) Y0) (lU (bF 2) (mk (bF 3)) (mk (bF 4)) bt (mk (bF 6)) (bF 7) (.op .snoc (bF 8) (mk (.aP 6))) (.aP 6) 2) DK)
theorem aDr (H:TH d0 d1 s th 20 obj arg tries o c dn g r v) (hv:0 < v.l.length):dY (dH d0 d1 s th 20 obj arg tries) aAH=Gl d0 s th 20 obj arg tries o c dn g r v:=by
 have hb:=H.hb;simp only [zz,H.hcp,H.iZ,H.hR,H.hk,has_is r th hb,dK r th hb,yK,List.nil_append,aA,AO,eY,dG,dF,bU,bT,dL,act,Int.reduceEq,Gl] <;> (repeat' split) <;> first | rfl | (exfalso; omega)
abbrev aAG:T Lf:=(sp (.eq (ln (bF 8)) (.lit 0)) DK (lU (bF 2) (mk (bF 3)) (mk (bF 4)) bt (mk (bF 6)) (bF 7) (.op .drop (.op .take (bF 8) (.add (.lit 1) (.sub (ln (bF 8)) (.lit 1)))) (.lit 1)) (nm (el (bF 8) (.lit 0))) 2))
theorem aDq (H:TH d0 d1 s th 21 obj arg tries o c dn g r v) (hv:0 < v.l.length):dY (dH d0 d1 s th 21 obj arg tries) aAG=Gl d0 s th 21 obj arg tries o c dn g r v:=by
 have hb:=H.hb;simp only [zz,H.hcp,H.iZ,H.hR,H.hk,has_is r th hb,dK r th hb,aaI v hv,aA,AO,eY,dG,dF,bU,bT,dL,act,Int.reduceEq,Gl] <;> (repeat' split) <;> first | rfl | (exfalso; omega)
abbrev aAF:T Lf:=(sp (.eq (nm (ce 0 (el (bF 2) Y0))) (.aP 3)) (lU (aeU (.dat (.i (-1)))) (mk (bF 3)) (mk (bF 4)) bt (mk (bF 6)) (.op .snoc (bF 7) (mk (.aP 3))) (bF 8) (.lit 0) 3) wM)
theorem aDp (H:TH d0 d1 s th 12 obj arg tries o c dn g r v) (hr:0 < r.l.length) (hw:wo th r.l=r.l):dY (dH d0 d1 s th 12 obj arg tries) aAF=Gl d0 s th 12 obj arg tries o c dn g r v:=by
 have hb:=H.hb;simp only [zz,H.hcp,H.iZ,H.hR,H.hk,has_is r th hb,dK r th hb,hw,aX,yK,List.nil_append,aA,AO,eY,dG,dF,bU,bT,dL,act,Int.reduceEq,Gl] <;> (repeat' split) <;> first | rfl | (exfalso; omega)
abbrev aCV:T Lf:=(sp (.eq (nm (ce 0 (el (bF 2) Y0))) (.aP 3)) (lU (aeU (.dat (.i (-1)))) (mk (bF 3)) (mk (bF 4)) bt (mk (bF 6)) (.op .take (.op .cat (.op .cat (.op .take (rr 12000 wY 15) (rr 12000 wY 14)) (.op .snoc (.dat (.i 0)) (mk (.aP 3)))) (.op .drop (rr 12000 wY 15) (.add (rr 12000 wY 14) (.lit 1)))) (.add (rr 12000 wY 14) (.lit 1))) (bF 8) (.lit 0) 3) wM)
theorem aE6 (H:TH d0 d1 s th 12 obj arg tries o c dn g r v) (hr:0 < r.l.length) (hv:0 < v.l.length) {n:Nat} {r1:D} (hn:n < r.l.length) (hl:r1.l.length=r.l.length) (hw:r1.l.take n=wo th r.l) (hd:L 12000 (dA d0 s r v th 12 obj arg tries o c dn g)=some (1 :: ((dA d0 s r v th 12 obj arg tries o c dn g)++ [(n:Int),enc r1,(r.l.length:Int)]))):dY (dH d0 d1 s th 12 obj arg tries) aCV=Gl d0 s th 12 obj arg tries o c dn g r v:=by
 have hb:=H.hb;have e3:((n:Int)+1).toNat=n+1:=by omega
 have hA: ∀B,(wo th r.l++ [D.i th]++B).take (n+1)=wo th r.l++ [.i th]:=fun B=>by
  have:(wo th r.l++ [D.i th]).length=n+1:=by rw [← hw]; simp only [List.length_append,List.length_take,List.length_cons,List.length_nil]; omega
  rw [List.take_append_of_le_length (by omega),List.take_of_length_le (by omega)]
 have hB:wo th r.l++ [D.i th]≠[]:=by simp
 simp only [zz,H.hcp,H.iZ,H.hR,H.hk,has_is r th hb,dK r th hb,hd,List.cons_append,e3,l_p,kT,aX,yK,List.nil_append,Int.toNat_natCast,hw,hA,Oq,GI hB,aA,AO,eY,dG,dF,bU,bT,dL,act,Int.reduceEq,Gl] <;> (repeat' split) <;> first | rfl | (exfalso; omega)
abbrev aAE:T Lf:=(sp (.eq (ln (bF 7)) (.lit 0)) (lU (bF 2) (mk (bF 3)) (mk (bF 4)) bt (mk (bF 6)) (bF 7) (bF 8) (.lit 0) 2) (lU (bF 2) (mk (bF 3)) (mk (bF 4)) bt (mk (bF 6)) (.op .drop (.op .take (bF 7) (.add (.lit 1) (.sub (ln (bF 7)) (.lit 1)))) (.lit 1)) (bF 8) (wr (.add (nm (el (bF 7) (.lit 0))) (.lit 1))) 2))
theorem aDo (H:TH d0 d1 s th 13 obj arg tries o c dn g r v) (hr:0 < r.l.length):dY (dH d0 d1 s th 13 obj arg tries) aAE=Gl d0 s th 13 obj arg tries o c dn g r v:=by
 have hb:=H.hb;simp only [zz,H.hcp,H.iZ,H.hR,H.hk,has_is r th hb,dK r th hb,aaI r hr,yK,List.nil_append,aA,AO,eY,dG,dF,bU,bT,dL,act,Int.reduceEq,Gl] <;> (repeat' split) <;> first | rfl | (exfalso; omega)
abbrev aAD:T Lf:=(lU (bF 2) (mk (bF 3)) (mk (bF 4)) bt (mk (bF 6)) (.dat (.i 1)) (bF 8) (ln (bF 7)) 2)
theorem aDn (H:TH d0 d1 s th 14 obj arg tries o c dn g r v) (hr:0 < r.l.length):dY (dH d0 d1 s th 14 obj arg tries) aAD=Gl d0 s th 14 obj arg tries o c dn g r v:=by
 have hb:=H.hb;simp only [zz,H.hcp,H.iZ,H.hR,H.hk,has_is r th hb,dK r th hb,yK,List.nil_append,aA,AO,eY,dG,dF,bU,bT,dL,act,Int.reduceEq,Gl] <;> (repeat' split) <;> first | rfl | (exfalso; omega)
abbrev ahI:T Lf:=(sp (.eq (rr 900 [bF 7,.aP 3] 0) (.lit 0)) (sp (.lt (nm (ce 0 (el (bF 2) Y0))) (.lit 0)) (lU (aeU (mk (.aP 3))) (mk (bF 3)) (mk (bF 4)) bt (mk (bF 6)) (bF 7) (bF 8) (.lit 0) 2) DK) DK)
theorem atK (H:TH d0 d1 s th 24 obj arg tries o c dn g r v):dY (dH d0 d1 s th 24 obj arg tries) ahI=Gl d0 s th 24 obj arg tries o c dn g r v:=by
 have hb:=H.hb;simp only [zz,H.hcp,H.iZ,H.hR,H.hk,has_is r th hb,dK r th hb,aX,yK,List.nil_append,aA,AO,eY,dG,dF,bU,bT,dL,act,Int.reduceEq,Gl] <;> (repeat' split) <;> first | rfl | (exfalso; omega)
abbrev aCU:T Lf:=(sp (.lt (bF 6) (.lit 4611686018427387904)) (sp (.eq (wr (.add (bF 4) (.lit 1))) Y0) (lU (bF 2) (mk (bF 3)) (.dat (.i 0)) bt (mk (wr (.add (bF 6) (.lit 1)))) (bF 7) (bF 8) (bF 6) 3) (lU (bF 2) (mk (bF 3)) (mk (wr (.add (bF 4) (.lit 1)))) bt (mk (bF 6)) (bF 7) (bF 8) (bF 6) 3)) wM)
theorem aE5 (H:TH d0 d1 s th 15 obj arg tries o c dn g r v):dY (dH d0 d1 s th 15 obj arg tries) aCU=Gl d0 s th 15 obj arg tries o c dn g r v:=by
 have hb:=H.hb;simp only [zz,H.hcp,H.iZ,H.hR,H.hk,has_is r th hb,dK r th hb,aA,AO,eY,dG,dF,bU,bT,dL,act,Int.reduceEq,Gl] <;> (repeat' split) <;> first | rfl | (exfalso; omega)
abbrev aCT:T Lf:=(sp (.lt (.aP 6) (bF 6)) (lU (bF 2) (mk (bF 3)) (mk (bF 4)) bt (mk (bF 6)) (bF 7) (bF 8) (.aP 6) 2) DK)
theorem aE4 (H:TH d0 d1 s th 25 obj arg tries o c dn g r v):dY (dH d0 d1 s th 25 obj arg tries) aCT=Gl d0 s th 25 obj arg tries o c dn g r v:=by
 have hb:=H.hb;simp only [zz,H.hcp,H.iZ,H.hR,H.hk,has_is r th hb,dK r th hb,aA,AO,eY,dG,dF,bU,bT,dL,act,Int.reduceEq,Gl] <;> (repeat' split) <;> first | rfl | (exfalso; omega)
abbrev aCS:T Lf:=(sp (.eq (bF 5) (.lit 0)) (sp (.eq (bF 3) (.aP 3)) wM (sp (.lt (bF 3) (.lit 0)) (lU (bF 2) (mk (.aP 3)) (mk (bF 4)) bt (mk (bF 6)) (bF 7) (bF 8) (.lit 1) 2) DK)) (lU (bF 2) (mk (bF 3)) (mk (bF 4)) bt (mk (bF 6)) (bF 7) (bF 8) (.lit 0) 2))
theorem aE3 (H:TH d0 d1 s th 16 obj arg tries o c dn g r v):dY (dH d0 d1 s th 16 obj arg tries) aCS=Gl d0 s th 16 obj arg tries o c dn g r v:=by
 have hb:=H.hb;simp only [zz,H.hcp,H.iZ,H.hR,H.hk,has_is r th hb,dK r th hb,aA,AO,eY,dG,dF,bU,bT,dL,act,Int.reduceEq,Gl] <;> (repeat' split) <;> first | rfl | (exfalso; omega)
abbrev aCR:T Lf:=(sp (.eq (bF 3) (.aP 3)) (lU (bF 2) (.dat (.i (-1))) (mk (bF 4)) (.dat (.i 1)) (mk (bF 6)) (bF 7) (bF 8) (.lit 0) 2) wM)
theorem aE2 (H:TH d0 d1 s th 26 obj arg tries o c dn g r v):dY (dH d0 d1 s th 26 obj arg tries) aCR=Gl d0 s th 26 obj arg tries o c dn g r v:=by
 have hb:=H.hb;simp only [zz,H.hcp,H.iZ,H.hR,H.hk,has_is r th hb,dK r th hb,aA,AO,eY,dG,dF,bU,bT,dL,act,Int.reduceEq,Gl] <;> (repeat' split) <;> first | rfl | (exfalso; omega)
abbrev aAC:T Lf:=(sp (.lt (.lit 0) Y0) (lU (bF 2) (mk (bF 3)) (mk (bF 4)) bt (mk (bF 6)) (bF 7) (.op .snoc (.dat (.i 0)) (mk (.aP 6))) (.aP 6) 2) DK)
theorem aDm (H:TH d0 d1 s th 20 obj arg tries o c dn g r v) (hv:v.l= []):dY (dH d0 d1 s th 20 obj arg tries) aAC=Gl d0 s th 20 obj arg tries o c dn g r v:=by
 have hb:=H.hb;have hz2:((0:Nat):Int)=0:=rfl;simp only [zz,H.hcp,H.iZ,H.hR,H.hk,has_is r th hb,dK r th hb,hv,List.length_nil,List.nil_append,hz2,yK,aA,AO,eY,dG,dF,bU,bT,dL,act,Int.reduceEq,Gl] <;> (repeat' split) <;> first | rfl | (exfalso; omega)
abbrev aAB:T Lf:=DK
theorem aDl (H:TH d0 d1 s th 21 obj arg tries o c dn g r v) (hv:v.l= []):dY (dH d0 d1 s th 21 obj arg tries) aAB=Gl d0 s th 21 obj arg tries o c dn g r v:=by
 have hb:=H.hb;have hz2:((0:Nat):Int)=0:=rfl;simp only [zz,H.hcp,H.iZ,H.hR,H.hk,has_is r th hb,dK r th hb,hv,List.length_nil,List.nil_append,hz2,aA,AO,eY,dG,dF,bU,bT,dL,act,Int.reduceEq,Gl] <;> (repeat' split) <;> first | rfl | (exfalso; omega)
abbrev aCQ:T Lf:=(sp (.eq (nm (ce 0 (el (bF 2) Y0))) (.aP 3)) (lU (aeU (.dat (.i (-1)))) (mk (bF 3)) (mk (bF 4)) bt (mk (bF 6)) (.op .take (.op .cat (.op .cat (.op .take (rr 12100 wY 15) (rr 12100 wY 14)) (.op .snoc (.dat (.i 0)) (mk (.aP 3)))) (.op .drop (rr 12100 wY 15) (.add (rr 12100 wY 14) (.lit 1)))) (.add (rr 12100 wY 14) (.lit 1))) (bF 8) (.lit 0) 3) wM)
theorem aE1 (H:TH d0 d1 s th 12 obj arg tries o c dn g r v) (hr:0 < r.l.length) (hv:v.l= []) {n:Nat} {r1:D} (hn:n < r.l.length) (hl:r1.l.length=r.l.length) (hw:r1.l.take n=wo th r.l) (hd:L 12100 (dA d0 s r v th 12 obj arg tries o c dn g)=some (1 :: ((dA d0 s r v th 12 obj arg tries o c dn g)++ [(n:Int),enc r1,(r.l.length:Int)]))):dY (dH d0 d1 s th 12 obj arg tries) aCQ=Gl d0 s th 12 obj arg tries o c dn g r v:=by
 have hb:=H.hb;have hz2:((0:Nat):Int)=0:=rfl;have e3:((n:Int)+1).toNat=n+1:=by omega
 have hA: ∀B,(wo th r.l++ [D.i th]++B).take (n+1)=wo th r.l++ [.i th]:=fun B=>by
  have:(wo th r.l++ [D.i th]).length=n+1:=by rw [← hw]; simp only [List.length_append,List.length_take,List.length_cons,List.length_nil]; omega
  rw [List.take_append_of_le_length (by omega),List.take_of_length_le (by omega)]
 have hB:wo th r.l++ [D.i th]≠[]:=by simp
 simp only [zz,H.hcp,H.iZ,H.hR,H.hk,has_is r th hb,dK r th hb,hv,List.length_nil,List.nil_append,hz2,hd,List.cons_append,e3,l_p,kT,aX,yK,Int.toNat_natCast,hw,hA,Oq,GI hB,aA,AO,eY,dG,dF,bU,bT,dL,act,Int.reduceEq,Gl] <;> (repeat' split) <;> first | rfl | (exfalso; omega)
abbrev aAA:T Lf:=(sp (.eq (bF 3) (.aP 3)) wM (sp (.eq (rr 900 [bF 7,.aP 3] 0) (.lit 0)) (sp (.lt (bF 3) (.lit 0)) (lU (bF 2) (mk (bF 3)) (mk (bF 4)) bt (mk (bF 6)) (.op .snoc (.dat (.i 0)) (mk (.aP 3))) (bF 8) (.lit 0) 2) DK) wM))
theorem aDk (H:TH d0 d1 s th 5 obj arg tries o c dn g r v) (hr:r.l= []):dY (dH d0 d1 s th 5 obj arg tries) aAA=Gl d0 s th 5 obj arg tries o c dn g r v:=by
 have hb:=H.hb;have hz:((0:Nat):Int)=0:=rfl;simp only [zz,H.hcp,H.iZ,H.hR,H.hk,has_is r th hb,dK r th hb,hr,List.length_nil,List.nil_append,hz,yK,aA,AO,eY,dG,dF,bU,bT,dL,act,Int.reduceEq,Gl] <;> (repeat' split) <;> first | rfl | (exfalso; omega)
theorem aDj (H:TH d0 d1 s th 7 obj arg tries o c dn g r v) (hr:r.l= []):dY (dH d0 d1 s th 7 obj arg tries) zt0=Gl d0 s th 7 obj arg tries o c dn g r v:=by
 have hb:=H.hb;have hz:((0:Nat):Int)=0:=rfl;simp only [zz,H.hcp,H.iZ,H.hR,H.hk,has_is r th hb,dK r th hb,hr,List.length_nil,List.nil_append,hz,aA,AO,eY,dG,dF,bU,bT,dL,act,Int.reduceEq,Gl] <;> (repeat' split) <;> first | rfl | (exfalso; omega)
abbrev aAz:T Lf:=(sp (.eq (nm (ce 0 (el (bF 2) Y0))) (.aP 3)) (lU (aeU (.dat (.i (-1)))) (mk (bF 3)) (mk (bF 4)) bt (mk (bF 6)) (.op .snoc (.dat (.i 0)) (mk (.aP 3))) (bF 8) (.lit 0) 3) wM)
theorem aDi (H:TH d0 d1 s th 12 obj arg tries o c dn g r v) (hr:r.l= []):dY (dH d0 d1 s th 12 obj arg tries) aAz=Gl d0 s th 12 obj arg tries o c dn g r v:=by
 have hb:=H.hb;have hz:((0:Nat):Int)=0:=rfl;simp only [zz,H.hcp,H.iZ,H.hR,H.hk,has_is r th hb,dK r th hb,hr,List.length_nil,List.nil_append,hz,aAI hr,aX,yK,aA,AO,eY,dG,dF,bU,bT,dL,act,Int.reduceEq,Gl] <;> (repeat' split) <;> first | rfl | (exfalso; omega)
abbrev aAy:T Lf:=(lU (bF 2) (mk (bF 3)) (mk (bF 4)) bt (mk (bF 6)) (bF 7) (bF 8) (.lit 0) 2)
theorem aDh (H:TH d0 d1 s th 13 obj arg tries o c dn g r v) (hr:r.l= []):dY (dH d0 d1 s th 13 obj arg tries) aAy=Gl d0 s th 13 obj arg tries o c dn g r v:=by
 have hb:=H.hb;have hz:((0:Nat):Int)=0:=rfl;simp only [zz,H.hcp,H.iZ,H.hR,H.hk,has_is r th hb,dK r th hb,hr,List.length_nil,List.nil_append,hz,yK,aA,AO,eY,dG,dF,bU,bT,dL,act,Int.reduceEq,Gl] <;> (repeat' split) <;> first | rfl | (exfalso; omega)
abbrev aAx:T Lf:=(lU (bF 2) (mk (bF 3)) (mk (bF 4)) bt (mk (bF 6)) (.dat (.i 1)) (bF 8) (.lit 0) 2)
theorem aDg (H:TH d0 d1 s th 14 obj arg tries o c dn g r v) (hr:r.l= []):dY (dH d0 d1 s th 14 obj arg tries) aAx=Gl d0 s th 14 obj arg tries o c dn g r v:=by
 have hb:=H.hb;have hz:((0:Nat):Int)=0:=rfl;simp only [zz,H.hcp,H.iZ,H.hR,H.hk,has_is r th hb,dK r th hb,hr,List.length_nil,List.nil_append,hz,yK,aA,AO,eY,dG,dF,bU,bT,dL,act,Int.reduceEq,Gl] <;> (repeat' split) <;> first | rfl | (exfalso; omega)
end
end Go.As.Try
end
section
namespace Go.As.Try
open Go hiding Stat Spec shape
open Go.As
set_option maxRecDepth 100000
def ops:List Int:=[1,2,8,3,4,5,6,7,9,11,10,17,18,19,22,23,20,21,12,13,14,24,15,25,16,26]
abbrev Yo (k:Int):List SB:=[.eq (.aP 4) (.lit k)]
abbrev No (k:Int):List SB:=(ops.filter fun j=>!(j == k)).map fun j=> .eq (.aP 4) (.lit j)
abbrev p3:T Lf:=prune (YG++YA3) (NG++NA3) kP
abbrev p4:T Lf:=prune (YG++YA4) (NG++NA4) kP
abbrev p5:T Lf:=prune (YG++YA5) (NG++NA5) kP
abbrev p6:T Lf:=prune (YG++YA6) (NG++NA6) kP
section
variable {d0 d1 s r v:D} {th op obj arg tries o c dn g:Int}
theorem ahL {ρ:Nat→Int}: ∀{l:List SB},(∀c∈l,¬c.den ρ=true)→zW ρ l
 | [],_=>trivial
 | c :: l,h=> ⟨h c (by simp),ahL fun x hx=>h x (List.mem_cons_of_mem _ hx)⟩
theorem fO (k:Int):zY (dH d0 d1 s th k obj arg tries) (Yo k)∧zW (dH d0 d1 s th k obj arg tries) (No k):=by refine⟨by simp only [zz],ahL fun c hc=>?_⟩;obtain⟨j,hj,rfl⟩:=List.mem_map.1 hc;have:=(List.mem_filter.1 hj).2;simp only [zz];intro h;subst h;simp at this
theorem sp3 (H:TH d0 d1 s th op obj arg tries o c dn g r v) (hr:0 < r.l.length) (hv:0 < v.l.length):dY (dH d0 d1 s th op obj arg tries) p3=dY (dH d0 d1 s th op obj arg tries) kP:=dJ (z2 (fG H) (fA3 H hr hv)) kP
theorem sp4 (H:TH d0 d1 s th op obj arg tries o c dn g r v) (hr:0 < r.l.length) (hv:v.l= []):dY (dH d0 d1 s th op obj arg tries) p4=dY (dH d0 d1 s th op obj arg tries) kP:=dJ (z2 (fG H) (fA4 H hr hv)) kP
theorem sp5 (H:TH d0 d1 s th op obj arg tries o c dn g r v) (hr:r.l= []) (hv:0 < v.l.length):dY (dH d0 d1 s th op obj arg tries) p5=dY (dH d0 d1 s th op obj arg tries) kP:=dJ (z2 (fG H) (fA5 H hr hv)) kP
theorem sp6 (H:TH d0 d1 s th op obj arg tries o c dn g r v) (hr:r.l= []) (hv:v.l= []):dY (dH d0 d1 s th op obj arg tries) p6=dY (dH d0 d1 s th op obj arg tries) kP:=dJ (z2 (fG H) (fA6 H hr hv)) kP
theorem kH {k:Int} {t u:T Lf} {Q:RS} (e:prune (Yo k) (No k) t=u) (h:dY (dH d0 d1 s th k obj arg tries) u=Q):dY (dH d0 d1 s th k obj arg tries) t=Q:=by rw [← dJ (fO k) t,e,h]
theorem kJ (H:TH d0 d1 s th op obj arg tries o c dn g r v) {u:T Lf} {Q:RS} (e3:prune (Yo op) (No op) p3=u) (e4:prune (Yo op) (No op) p4=u) (e5:prune (Yo op) (No op) p5=u) (e6:prune (Yo op) (No op) p6=u) (h:dY (dH d0 d1 s th op obj arg tries) u=Q):dY (dH d0 d1 s th op obj arg tries) kP=Q:=by
 rcases kU r.l with hr | hr <;> rcases kU v.l with hv | hv
 ·exact (sp6 H hr hv).symm.trans (kH e6 h)
 ·exact (sp5 H hr hv).symm.trans (kH e5 h)
 ·exact (sp4 H hr hv).symm.trans (kH e4 h)
 ·exact (sp3 H hr hv).symm.trans (kH e3 h)
theorem o1 (H:TH d0 d1 s th 1 obj arg tries o c dn g r v):dY (dH d0 d1 s th 1 obj arg tries) kP=Gl d0 s th 1 obj arg tries o c dn g r v:=kJ H (u:=zt0) (by kernel_rfl) (by kernel_rfl) (by kernel_rfl) (by kernel_rfl) (sm0 H)
theorem o2 (H:TH d0 d1 s th 2 obj arg tries o c dn g r v):dY (dH d0 d1 s th 2 obj arg tries) kP=Gl d0 s th 2 obj arg tries o c dn g r v:=kJ H (u:=zt1) (by kernel_rfl) (by kernel_rfl) (by kernel_rfl) (by kernel_rfl) (sm1 H)
theorem o8 (H:TH d0 d1 s th 8 obj arg tries o c dn g r v):dY (dH d0 d1 s th 8 obj arg tries) kP=Gl d0 s th 8 obj arg tries o c dn g r v:=kJ H (u:=zt1) (by kernel_rfl) (by kernel_rfl) (by kernel_rfl) (by kernel_rfl) (sm2 H)
theorem o3 (H:TH d0 d1 s th 3 obj arg tries o c dn g r v):dY (dH d0 d1 s th 3 obj arg tries) kP=Gl d0 s th 3 obj arg tries o c dn g r v:=kJ H (u:=zt2) (by kernel_rfl) (by kernel_rfl) (by kernel_rfl) (by kernel_rfl) (sm3 H)
theorem o4 (H:TH d0 d1 s th 4 obj arg tries o c dn g r v):dY (dH d0 d1 s th 4 obj arg tries) kP=Gl d0 s th 4 obj arg tries o c dn g r v:=kJ H (u:=zt3) (by kernel_rfl) (by kernel_rfl) (by kernel_rfl) (by kernel_rfl) (sm4 H)
theorem o5 (H:TH d0 d1 s th 5 obj arg tries o c dn g r v):dY (dH d0 d1 s th 5 obj arg tries) kP=Gl d0 s th 5 obj arg tries o c dn g r v:=by
 rcases kU r.l with hr | hr <;> rcases kU v.l with hv | hv
 ·exact (sp6 H hr hv).symm.trans (kH (u:=aAA) (by kernel_rfl) (aDk H hr))
 ·exact (sp5 H hr hv).symm.trans (kH (u:=aAA) (by kernel_rfl) (aDk H hr))
 ·exact (sp4 H hr hv).symm.trans (kH (u:=zt4) (by kernel_rfl) (sm5 H hr))
 ·exact (sp3 H hr hv).symm.trans (kH (u:=zt4) (by kernel_rfl) (sm5 H hr))
theorem o6 (H:TH d0 d1 s th 6 obj arg tries o c dn g r v):dY (dH d0 d1 s th 6 obj arg tries) kP=Gl d0 s th 6 obj arg tries o c dn g r v:=by
 rcases kU r.l with hr | hr <;> rcases kU v.l with hv | hv
 ·exact (sp6 H hr hv).symm.trans (kH (u:=zt5) (by kernel_rfl) (sm6 H (by rw [CX hr]; omega)))
 ·exact (sp5 H hr hv).symm.trans (kH (u:=zt5) (by kernel_rfl) (sm6 H (by rw [CX hr]; omega)))
 ·by_cases hk:place r th < 0
  ·exact (sp4 H hr hv).symm.trans ((dJ (fK0 H hk) _).symm.trans (kH (u:=zt5) (by kernel_rfl) (sm6 H hk)))
  ·exact (sp4 H hr hv).symm.trans ((dJ (fK1 H hk) _).symm.trans (kH (u:=zt6) (by kernel_rfl) (sm7 H hr hk)))
 ·by_cases hk:place r th < 0
  ·exact (sp3 H hr hv).symm.trans ((dJ (fK0 H hk) _).symm.trans (kH (u:=zt5) (by kernel_rfl) (sm6 H hk)))
  ·exact (sp3 H hr hv).symm.trans ((dJ (fK1 H hk) _).symm.trans (kH (u:=zt6) (by kernel_rfl) (sm7 H hr hk)))
theorem o7 (H:TH d0 d1 s th 7 obj arg tries o c dn g r v):dY (dH d0 d1 s th 7 obj arg tries) kP=Gl d0 s th 7 obj arg tries o c dn g r v:=by
 rcases kU r.l with hr | hr <;> rcases kU v.l with hv | hv
 ·exact (sp6 H hr hv).symm.trans (kH (u:=zt0) (by kernel_rfl) (aDj H hr))
 ·exact (sp5 H hr hv).symm.trans (kH (u:=zt0) (by kernel_rfl) (aDj H hr))
 ·exact (sp4 H hr hv).symm.trans (kH (u:=zt7) (by kernel_rfl) (sm8 H hr))
 ·exact (sp3 H hr hv).symm.trans (kH (u:=zt7) (by kernel_rfl) (sm8 H hr))
theorem o9 (H:TH d0 d1 s th 9 obj arg tries o c dn g r v):dY (dH d0 d1 s th 9 obj arg tries) kP=Gl d0 s th 9 obj arg tries o c dn g r v:=kJ H (u:=zt8) (by kernel_rfl) (by kernel_rfl) (by kernel_rfl) (by kernel_rfl) (sm9 H)
theorem o11 (H:TH d0 d1 s th 11 obj arg tries o c dn g r v):dY (dH d0 d1 s th 11 obj arg tries) kP=Gl d0 s th 11 obj arg tries o c dn g r v:=kJ H (u:=zt9) (by kernel_rfl) (by kernel_rfl) (by kernel_rfl) (by kernel_rfl) (aFd H)
theorem o10 (H:TH d0 d1 s th 10 obj arg tries o c dn g r v):dY (dH d0 d1 s th 10 obj arg tries) kP=Gl d0 s th 10 obj arg tries o c dn g r v:=kJ H (u:=aC1) (by kernel_rfl) (by kernel_rfl) (by kernel_rfl) (by kernel_rfl) (aFc H)
theorem o17 (H:TH d0 d1 s th 17 obj arg tries o c dn g r v):dY (dH d0 d1 s th 17 obj arg tries) kP=Gl d0 s th 17 obj arg tries o c dn g r v:=kJ H (u:=aC0) (by kernel_rfl) (by kernel_rfl) (by kernel_rfl) (by kernel_rfl) (aFb H)
theorem o18 (H:TH d0 d1 s th 18 obj arg tries o c dn g r v):dY (dH d0 d1 s th 18 obj arg tries) kP=Gl d0 s th 18 obj arg tries o c dn g r v:=kJ H (u:=aCZ) (by kernel_rfl) (by kernel_rfl) (by kernel_rfl) (by kernel_rfl) (aFa H)
theorem o19 (H:TH d0 d1 s th 19 obj arg tries o c dn g r v):dY (dH d0 d1 s th 19 obj arg tries) kP=Gl d0 s th 19 obj arg tries o c dn g r v:=kJ H (u:=aCY) (by kernel_rfl) (by kernel_rfl) (by kernel_rfl) (by kernel_rfl) (aE9 H)
theorem o22 (H:TH d0 d1 s th 22 obj arg tries o c dn g r v):dY (dH d0 d1 s th 22 obj arg tries) kP=Gl d0 s th 22 obj arg tries o c dn g r v:=kJ H (u:=aCX) (by kernel_rfl) (by kernel_rfl) (by kernel_rfl) (by kernel_rfl) (aE8 H)
theorem o23 (H:TH d0 d1 s th 23 obj arg tries o c dn g r v):dY (dH d0 d1 s th 23 obj arg tries) kP=Gl d0 s th 23 obj arg tries o c dn g r v:=kJ H (u:=aCW) (by kernel_rfl) (by kernel_rfl) (by kernel_rfl) (by kernel_rfl) (aE7 H)
theorem o20 (H:TH d0 d1 s th 20 obj arg tries o c dn g r v):dY (dH d0 d1 s th 20 obj arg tries) kP=Gl d0 s th 20 obj arg tries o c dn g r v:=by
 rcases kU r.l with hr | hr <;> rcases kU v.l with hv | hv
 ·exact (sp6 H hr hv).symm.trans (kH (u:=aAC) (by kernel_rfl) (aDm H hv))
 ·exact (sp5 H hr hv).symm.trans (kH (u:=aAH) (by kernel_rfl) (aDr H hv))
 ·exact (sp4 H hr hv).symm.trans (kH (u:=aAC) (by kernel_rfl) (aDm H hv))
 ·exact (sp3 H hr hv).symm.trans (kH (u:=aAH) (by kernel_rfl) (aDr H hv))
theorem o21 (H:TH d0 d1 s th 21 obj arg tries o c dn g r v):dY (dH d0 d1 s th 21 obj arg tries) kP=Gl d0 s th 21 obj arg tries o c dn g r v:=by
 rcases kU r.l with hr | hr <;> rcases kU v.l with hv | hv
 ·exact (sp6 H hr hv).symm.trans (kH (u:=aAB) (by kernel_rfl) (aDl H hv))
 ·exact (sp5 H hr hv).symm.trans (kH (u:=aAG) (by kernel_rfl) (aDq H hv))
 ·exact (sp4 H hr hv).symm.trans (kH (u:=aAB) (by kernel_rfl) (aDl H hv))
 ·exact (sp3 H hr hv).symm.trans (kH (u:=aAG) (by kernel_rfl) (aDq H hv))
theorem o12 (H:TH d0 d1 s th 12 obj arg tries o c dn g r v):dY (dH d0 d1 s th 12 obj arg tries) kP=Gl d0 s th 12 obj arg tries o c dn g r v:=by
 rcases kU r.l with hr | hr <;> rcases kU v.l with hv | hv
 ·have hd:=awT r th obj (Mx d0 obj) (enc (dL (fE s.l (Mx d0 obj) (dL (fE (s.at (Mx d0 obj)).l 0 (.i (-1))))))) 12 arg tries o c dn g (enc v);exact (sp6 H hr hv).symm.trans ((dJ (fM H (by omega)) _).symm.trans ((dJ (aFE H hd) _).symm.trans (kH (u:=aAz) (by kernel_rfl) (aDi H hr))))
 ·have hd:=awU r th obj (Mx d0 obj) (enc (dL (fE s.l (Mx d0 obj) (dL (fE (s.at (Mx d0 obj)).l 0 (.i (-1))))))) 12 arg tries o c dn g (enc v);exact (sp5 H hr hv).symm.trans ((dJ (fM H (by omega)) _).symm.trans ((dJ (aFF H hd) _).symm.trans (kH (u:=aAz) (by kernel_rfl) (aDi H hr))))
 ·rcases awV r th (by have:=H.hr; omega) H.hn with ⟨hw,hd⟩ | hd
  ·have hd:=hd obj (Mx d0 obj) (enc (dL (fE s.l (Mx d0 obj) (dL (fE (s.at (Mx d0 obj)).l 0 (.i (-1))))))) 12 arg tries o c dn g (enc v);exact (sp4 H hr hv).symm.trans ((dJ (fM H (by omega)) _).symm.trans ((dJ (aFG H hd) _).symm.trans (kH (u:=aAF) (by kernel_rfl) (aDp H hr hw))))
  ·obtain⟨n,r1,hn,hl,hw,hd⟩:=hd obj (Mx d0 obj) (enc (dL (fE s.l (Mx d0 obj) (dL (fE (s.at (Mx d0 obj)).l 0 (.i (-1))))))) 12 arg tries o c dn g (enc v);exact (sp4 H hr hv).symm.trans ((dJ (fM H (by omega)) _).symm.trans ((dJ (aFH H hn hl hd) _).symm.trans (kH (u:=aCQ) (by kernel_rfl) (aE1 H hr hv hn hl hw hd))))
 ·rcases awW r th (by have:=H.hr; omega) H.hn with ⟨hw,hd⟩ | hd
  ·have hd:=hd obj (Mx d0 obj) (enc (dL (fE s.l (Mx d0 obj) (dL (fE (s.at (Mx d0 obj)).l 0 (.i (-1))))))) 12 arg tries o c dn g (enc v);exact (sp3 H hr hv).symm.trans ((dJ (fM H (by omega)) _).symm.trans ((dJ (aFI H hd) _).symm.trans (kH (u:=aAF) (by kernel_rfl) (aDp H hr hw))))
  ·obtain⟨n,r1,hn,hl,hw,hd⟩:=hd obj (Mx d0 obj) (enc (dL (fE s.l (Mx d0 obj) (dL (fE (s.at (Mx d0 obj)).l 0 (.i (-1))))))) 12 arg tries o c dn g (enc v);exact (sp3 H hr hv).symm.trans ((dJ (fM H (by omega)) _).symm.trans ((dJ (aFJ H hn hl hd) _).symm.trans (kH (u:=aCV) (by kernel_rfl) (aE6 H hr hv hn hl hw hd))))
theorem o13 (H:TH d0 d1 s th 13 obj arg tries o c dn g r v):dY (dH d0 d1 s th 13 obj arg tries) kP=Gl d0 s th 13 obj arg tries o c dn g r v:=by
 rcases kU r.l with hr | hr <;> rcases kU v.l with hv | hv
 ·exact (sp6 H hr hv).symm.trans (kH (u:=aAy) (by kernel_rfl) (aDh H hr))
 ·exact (sp5 H hr hv).symm.trans (kH (u:=aAy) (by kernel_rfl) (aDh H hr))
 ·exact (sp4 H hr hv).symm.trans (kH (u:=aAE) (by kernel_rfl) (aDo H hr))
 ·exact (sp3 H hr hv).symm.trans (kH (u:=aAE) (by kernel_rfl) (aDo H hr))
theorem o14 (H:TH d0 d1 s th 14 obj arg tries o c dn g r v):dY (dH d0 d1 s th 14 obj arg tries) kP=Gl d0 s th 14 obj arg tries o c dn g r v:=by
 rcases kU r.l with hr | hr <;> rcases kU v.l with hv | hv
 ·exact (sp6 H hr hv).symm.trans (kH (u:=aAx) (by kernel_rfl) (aDg H hr))
 ·exact (sp5 H hr hv).symm.trans (kH (u:=aAx) (by kernel_rfl) (aDg H hr))
 ·exact (sp4 H hr hv).symm.trans (kH (u:=aAD) (by kernel_rfl) (aDn H hr))
 ·exact (sp3 H hr hv).symm.trans (kH (u:=aAD) (by kernel_rfl) (aDn H hr))
theorem o24 (H:TH d0 d1 s th 24 obj arg tries o c dn g r v):dY (dH d0 d1 s th 24 obj arg tries) kP=Gl d0 s th 24 obj arg tries o c dn g r v:=by
 rcases kU r.l with hr | hr <;> rcases kU v.l with hv | hv
 ·exact (sp6 H hr hv).symm.trans ((dJ (fM H (by omega)) _).symm.trans (kH (u:=ahI) (by kernel_rfl) (atK H)))
 ·exact (sp5 H hr hv).symm.trans ((dJ (fM H (by omega)) _).symm.trans (kH (u:=ahI) (by kernel_rfl) (atK H)))
 ·exact (sp4 H hr hv).symm.trans ((dJ (fM H (by omega)) _).symm.trans (kH (u:=ahI) (by kernel_rfl) (atK H)))
 ·exact (sp3 H hr hv).symm.trans ((dJ (fM H (by omega)) _).symm.trans (kH (u:=ahI) (by kernel_rfl) (atK H)))
theorem o15 (H:TH d0 d1 s th 15 obj arg tries o c dn g r v):dY (dH d0 d1 s th 15 obj arg tries) kP=Gl d0 s th 15 obj arg tries o c dn g r v:=kJ H (u:=aCU) (by kernel_rfl) (by kernel_rfl) (by kernel_rfl) (by kernel_rfl) (aE5 H)
theorem o25 (H:TH d0 d1 s th 25 obj arg tries o c dn g r v):dY (dH d0 d1 s th 25 obj arg tries) kP=Gl d0 s th 25 obj arg tries o c dn g r v:=kJ H (u:=aCT) (by kernel_rfl) (by kernel_rfl) (by kernel_rfl) (by kernel_rfl) (aE4 H)
theorem o16 (H:TH d0 d1 s th 16 obj arg tries o c dn g r v):dY (dH d0 d1 s th 16 obj arg tries) kP=Gl d0 s th 16 obj arg tries o c dn g r v:=kJ H (u:=aCS) (by kernel_rfl) (by kernel_rfl) (by kernel_rfl) (by kernel_rfl) (aE3 H)
theorem o26 (H:TH d0 d1 s th 26 obj arg tries o c dn g r v):dY (dH d0 d1 s th 26 obj arg tries) kP=Gl d0 s th 26 obj arg tries o c dn g r v:=kJ H (u:=aCR) (by kernel_rfl) (by kernel_rfl) (by kernel_rfl) (by kernel_rfl) (aE2 H)
theorem asI (H:TH d0 d1 s th op obj arg tries o c dn g r v) (hop:op∈ops):L 400 [enc d0,enc d1,enc s,th,op,obj,arg,tries]=some (outA s th op obj (Mx d0 obj) (act (Mx d0 obj) (Mo d0 s obj) th op arg tries o c dn g r v)):=by
 rw [aT,aCG]
 suffices h:dY (dH d0 d1 s th op obj arg tries) kP=Gl d0 s th op obj arg tries o c dn g r v by rw [h]; rfl
 unfold ops at hop;simp only [List.mem_cons,List.not_mem_nil,or_false] at hop;rcases hop with rfl | rfl | rfl | rfl | rfl | rfl | rfl | rfl | rfl | rfl | rfl | rfl | rfl | rfl | rfl | rfl | rfl | rfl | rfl | rfl | rfl | rfl | rfl | rfl | rfl | rfl
 ·exact o1 H
 ·exact o2 H
 ·exact o8 H
 ·exact o3 H
 ·exact o4 H
 ·exact o5 H
 ·exact o6 H
 ·exact o7 H
 ·exact o9 H
 ·exact o11 H
 ·exact o10 H
 ·exact o17 H
 ·exact o18 H
 ·exact o19 H
 ·exact o22 H
 ·exact o23 H
 ·exact o20 H
 ·exact o21 H
 ·exact o12 H
 ·exact o13 H
 ·exact o14 H
 ·exact o24 H
 ·exact o15 H
 ·exact o25 H
 ·exact o16 H
 ·exact o26 H
end
end Go.As.Try
end
section
namespace Go.As.Try
open Go hiding Stat Spec shape
open Go.As
set_option maxRecDepth 100000
abbrev alL:T Lf:=ou [.op .set (bF 2) (thg (mk (bF 3)) (mk (bF 4)) bt (mk (bF 6)) (bF 7) (bF 8)),.lit 0,.lit 0,.lit 0,.lit 0,.lit 0,.lit 0]
abbrev Ya (a:Int):List SB:=[.eq (a0 9000 [.aP 5,.aP 2]) (.lit 1),.eq (bF 0) (.lit a),.eq (a0 350 [.aP 0,.aP 1,.aP 2]) (.lit 1)]
abbrev Na (a:Int):List SB:=([0,1,2,3,4,5].filter fun j=>!(j == a)).map fun j=> .eq (bF 0) (.lit j)
abbrev r3:SB:=.eq (rr 350 [.aP 0,.aP 1,.aP 2] 0) (.lit 0)
abbrev t3:SB:=.lt (.aP 3) (.lit 0)
abbrev u3:SB:=.lt (.aP 3) (ln (.aP 1))
section
variable {d0 d1 s r v:D} {th op obj arg tries o c dn g b kop a:Int} (hR:L 350 [enc d0,enc d1,enc s]=some [b])
include hR
theorem fa {l:List Int} (hc:L 9000 [obj,enc s]=some (a :: l)):zY (dH d0 d1 s th op obj arg tries) (Ya a)∧zW (dH d0 d1 s th op obj arg tries) (Na a):=by refine⟨by simp only [zz,hc,hR],ahL fun c hc'=>?_⟩;obtain⟨j,hj,rfl⟩:=List.mem_map.1 hc';have:=(List.mem_filter.1 hj).2;simp only [zz,hc];intro h;subst h;simp at this
theorem wR (k:dY (dH d0 d1 s th op obj arg tries) kP= .out [enc s,0,0,0,0,0,0]):L 400 [enc d0,enc d1,enc s,th,op,obj,arg,tries]=some [enc s,0,0,0,0,0,0]:=by rw [aT,aCG];exact congrArg (fin L) k
section
variable (ha:a=3∨a=4∨a=5∨a=6) (hcp:L 9000 [obj,enc s]=some [a,obj,enc s,o,c,dn,g,enc r,enc v]) (BG:0≤obj) (BF:obj < (s.l.length:Int)) (hd:dn=0∨dn=1) (hs:s=dL (fE s.l obj (dL [.i o,.i c,.i dn,.i g,r,v])))
include ha hcp BG BF hd hs
omit ha hR BG BF in
theorem Kr:dY (dH d0 d1 s th op obj arg tries) alL= .out [enc s,0,0,0,0,0,0]:=by
 have e:(if dn=0 then (0:Int) else 1)=dn:=by rcases hd with rfl | rfl <;> rfl
 simp only [dL] at hs;simp only [zz,hcp,e,← hs]
theorem aFh (h:b=0):L 400 [enc d0,enc d1,enc s,th,op,obj,arg,tries]=some [enc s,0,0,0,0,0,0]:=
 wR hR (bY (Ya a++ [r3]) (Na a++ []) alL (z2 (fa hR hcp) (by simp only [zz,hcp,hR] <;> omega)) (by rcases ha with rfl | rfl | rfl | rfl <;> kernel_rfl) (Kr hcp hd hs))
theorem aFg (hb:b≠0) (h:th < 0):L 400 [enc d0,enc d1,enc s,th,op,obj,arg,tries]=some [enc s,0,0,0,0,0,0]:=
 wR hR (bY (Ya a++ [t3]) (Na a++ [r3]) alL (z2 (fa hR hcp) (by simp only [zz,hcp,hR] <;> omega)) (by rcases ha with rfl | rfl | rfl | rfl <;> kernel_rfl) (Kr hcp hd hs))
theorem aFf (hb:b≠0) (h0:0≤th) (h: ¬th < (d1.l.length:Int)):L 400 [enc d0,enc d1,enc s,th,op,obj,arg,tries]=some [enc s,0,0,0,0,0,0]:=
 wR hR (bY (Ya a++ []) (Na a++ [r3,t3,u3]) alL (z2 (fa hR hcp) (by simp only [zz,hcp,hR] <;> omega)) (by rcases ha with rfl | rfl | rfl | rfl <;> kernel_rfl) (Kr hcp hd hs))
theorem aFi (hb:b≠0) (h0:0≤th) (h:th < (d1.l.length:Int)) (hk:L 600 [op]=some [kop]) (hlen:s.l.length=d0.l.length) (hne: ¬kop=((d0.at obj).hd 0).n):L 400 [enc d0,enc d1,enc s,th,op,obj,arg,tries]=some [enc s,0,0,0,0,0,0]:=
 wR hR (bY (Ya a++ [u3,.lt (.aP 5) (ln (bF 2)),.eq (a0 600 [.aP 4]) (.lit 1),.lt (.aP 5) (ln (.aP 0))]) (Na a++ [r3,t3,.lt (.aP 5) (.lit 0),.eq (rr 600 [.aP 4] 0) (nm (ce 0 (el (.aP 0) (.aP 5))))]) alL (z2 (fa hR hcp) (by simp only [zz,hcp,hR,hk] <;> omega)) (by rcases ha with rfl | rfl | rfl | rfl <;> kernel_rfl) (Kr hcp hd hs))
end
theorem aDB (hcp:L 9000 [obj,enc s]=some [0,obj,enc s]) (h:obj < 0):L 400 [enc d0,enc d1,enc s,th,op,obj,arg,tries]=some [enc s,0,0,0,0,0,0]:=
 wR hR (bY (Ya 0++ [.lt (.aP 5) (.lit 0)]) (Na 0++ []) (sp r3 (ou [bF 2,.lit 0,.lit 0,.lit 0,.lit 0,.lit 0,.lit 0]) (sp t3 (ou [bF 2,.lit 0,.lit 0,.lit 0,.lit 0,.lit 0,.lit 0]) (sp u3 (ou [bF 2,.lit 0,.lit 0,.lit 0,.lit 0,.lit 0,.lit 0]) (ou [bF 2,.lit 0,.lit 0,.lit 0,.lit 0,.lit 0,.lit 0])))) (z2 (fa hR hcp) (by simp only [zz,hcp] <;> omega)) (by kernel_rfl) (by simp only [zz,hcp,hR,ite_self]))
theorem aDA (hcp:L 9000 [obj,enc s]=some [0,obj,enc s]) (h0:0≤obj) (h: ¬obj < (s.l.length:Int)):L 400 [enc d0,enc d1,enc s,th,op,obj,arg,tries]=some [enc s,0,0,0,0,0,0]:=
 wR hR (bY (Ya 0++ []) (Na 0++ [.lt (.aP 5) (.lit 0),.lt (.aP 5) (ln (bF 2))]) (sp r3 (ou [bF 2,.lit 0,.lit 0,.lit 0,.lit 0,.lit 0,.lit 0]) (sp t3 (ou [bF 2,.lit 0,.lit 0,.lit 0,.lit 0,.lit 0,.lit 0]) (sp u3 (ou [bF 2,.lit 0,.lit 0,.lit 0,.lit 0,.lit 0,.lit 0]) (ou [bF 2,.lit 0,.lit 0,.lit 0,.lit 0,.lit 0,.lit 0])))) (z2 (fa hR hcp) (by simp only [zz,hcp] <;> omega)) (by kernel_rfl) (by simp only [zz,hcp,hR,ite_self]))
theorem aDz (hcp:L 9000 [obj,enc s]=some [1,obj]) (h:obj < 0) (hs:s= .i 1):L 400 [enc d0,enc d1,enc s,th,op,obj,arg,tries]=some [enc s,0,0,0,0,0,0]:=
 wR hR (bY (Ya 1++ [.lt (.aP 5) (.lit 0)]) (Na 1++ []) (sp r3 (ou [.dat (.i 1),.lit 0,.lit 0,.lit 0,.lit 0,.lit 0,.lit 0]) (sp t3 (ou [.dat (.i 1),.lit 0,.lit 0,.lit 0,.lit 0,.lit 0,.lit 0]) (sp u3 (ou [.dat (.i 1),.lit 0,.lit 0,.lit 0,.lit 0,.lit 0,.lit 0]) (ou [.dat (.i 1),.lit 0,.lit 0,.lit 0,.lit 0,.lit 0,.lit 0])))) (z2 (fa hR hcp) (by simp only [zz,hcp] <;> omega)) (by kernel_rfl) (by simp only [zz,hcp,hR,hs,ite_self]))
theorem aDy (hcp:L 9000 [obj,enc s]=some [1,obj]) (h0:0≤obj) (h: ¬obj < (s.l.length:Int)) (hs:s= .i 1):L 400 [enc d0,enc d1,enc s,th,op,obj,arg,tries]=some [enc s,0,0,0,0,0,0]:=
 wR hR (bY (Ya 1++ []) (Na 1++ [.lt (.aP 5) (.lit 0)]) (sp r3 (ou [.dat (.i 1),.lit 0,.lit 0,.lit 0,.lit 0,.lit 0,.lit 0]) (sp t3 (ou [.dat (.i 1),.lit 0,.lit 0,.lit 0,.lit 0,.lit 0,.lit 0]) (sp u3 (ou [.dat (.i 1),.lit 0,.lit 0,.lit 0,.lit 0,.lit 0,.lit 0]) (ou [.dat (.i 1),.lit 0,.lit 0,.lit 0,.lit 0,.lit 0,.lit 0])))) (z2 (fa hR hcp) (by simp only [zz,hcp] <;> omega)) (by kernel_rfl) (by simp only [zz,hcp,hR,hs,ite_self]))
theorem aDx (hcp:L 9000 [obj,enc s]=some [2,obj]) (h:obj < 0) (hs:s= .i 2):L 400 [enc d0,enc d1,enc s,th,op,obj,arg,tries]=some [enc s,0,0,0,0,0,0]:=
 wR hR (bY (Ya 2++ [.lt (.aP 5) (.lit 0)]) (Na 2++ []) (sp r3 (ou [.dat (.i 2),.lit 0,.lit 0,.lit 0,.lit 0,.lit 0,.lit 0]) (sp t3 (ou [.dat (.i 2),.lit 0,.lit 0,.lit 0,.lit 0,.lit 0,.lit 0]) (sp u3 (ou [.dat (.i 2),.lit 0,.lit 0,.lit 0,.lit 0,.lit 0,.lit 0]) (ou [.dat (.i 2),.lit 0,.lit 0,.lit 0,.lit 0,.lit 0,.lit 0])))) (z2 (fa hR hcp) (by simp only [zz,hcp] <;> omega)) (by kernel_rfl) (by simp only [zz,hcp,hR,hs,ite_self]))
theorem aDw (hcp:L 9000 [obj,enc s]=some [2,obj]) (h0:0≤obj) (h: ¬obj < (s.l.length:Int)) (hs:s= .i 2):L 400 [enc d0,enc d1,enc s,th,op,obj,arg,tries]=some [enc s,0,0,0,0,0,0]:=
 wR hR (bY (Ya 2++ []) (Na 2++ [.lt (.aP 5) (.lit 0)]) (sp r3 (ou [.dat (.i 2),.lit 0,.lit 0,.lit 0,.lit 0,.lit 0,.lit 0]) (sp t3 (ou [.dat (.i 2),.lit 0,.lit 0,.lit 0,.lit 0,.lit 0,.lit 0]) (sp u3 (ou [.dat (.i 2),.lit 0,.lit 0,.lit 0,.lit 0,.lit 0,.lit 0]) (ou [.dat (.i 2),.lit 0,.lit 0,.lit 0,.lit 0,.lit 0,.lit 0])))) (z2 (fa hR hcp) (by simp only [zz,hcp] <;> omega)) (by kernel_rfl) (by simp only [zz,hcp,hR,hs,ite_self]))
end
end Go.As.Try
end
section
namespace Go.As.Try
open Go hiding Stat Spec shape
open Go.As
set_option maxRecDepth 100000
def kindOf (o:Int):Int:=if o < 27 then (if o=0 then 0 else if o=1 then 1 else if o=2 then 1 else if o=3 then 1 else if o=4 then 1 else if o=5 then 2 else if o=6 then 2 else if o=7 then 2 else if o=8 then 2 else if o=9 then 3 else if o=10 then 3 else if o=11 then 3 else if o=12 then 4 else if o=13 then 4 else if o=14 then 4 else if o=15 then 5 else if o=16 then 6 else if o=17 then 7 else if o=18 then 7 else if o=19 then 7 else if o=20 then 8 else if o=21 then 8 else if o=22 then 9 else if o=23 then 9 else if o=24 then 4 else if o=25 then 5 else 6) else 0
theorem Wv (o:Int) (h:iM .u8 o):L 600 [o]=some [kindOf o]:=by
 have h1:=h.1;have w:=aC4 h;have c1: ¬(o < 0):=by omega
 rw [aT,aEN];simp only [aAW,zz,w,c1];by_cases h27:o < 27
 ·simp only [if_pos h27];have:o=0∨o=1∨o=2∨o=3∨o=4∨o=5∨o=6∨o=7∨o=8∨o=9∨o=10∨o=11∨o=12∨o=13∨o=14∨o=15∨o=16∨o=17∨o=18∨o=19∨o=20∨o=21∨o=22∨o=23∨o=24∨o=25∨o=26:=by omega
  rcases this with rfl | rfl | rfl | rfl | rfl | rfl | rfl | rfl | rfl | rfl | rfl | rfl | rfl | rfl | rfl | rfl | rfl | rfl | rfl | rfl | rfl | rfl | rfl | rfl | rfl | rfl | rfl
  all_goals rfl
 ·simp only [if_neg h27];unfold kindOf;rw [if_neg h27];rfl
theorem amE {o:Int} (h0:0≤o) (h:kindOf o≠0):o∈ops:=by
 have h27:o < 27:=by refine Decidable.byContradiction fun hn=>h ?_;unfold kindOf;rw [if_neg hn]
 have:o=0∨o=1∨o=2∨o=3∨o=4∨o=5∨o=6∨o=7∨o=8∨o=9∨o=10∨o=11∨o=12∨o=13∨o=14∨o=15∨o=16∨o=17∨o=18∨o=19∨o=20∨o=21∨o=22∨o=23∨o=24∨o=25∨o=26:=by omega
 rcases this with rfl | rfl | rfl | rfl | rfl | rfl | rfl | rfl | rfl | rfl | rfl | rfl | rfl | rfl | rfl | rfl | rfl | rfl | rfl | rfl | rfl | rfl | rfl | rfl | rfl | rfl | rfl
 all_goals first | exact absurd rfl h | decide
structure Acc (d0 d1 s:D) (th op obj:Int):Prop where
 r:L 350 [enc d0,enc d1,enc s]=some [1]
 t0:0≤th
 t1:th < (d1.l.length:Int)
 o0:0≤obj
 o1:obj < (s.l.length:Int)
 k:kindOf op=((d0.at obj).hd 0).n
structure Tg (x:D) (o c dn g:Int) (r v:D):Prop where
 is:x=dL [.i o,.i c,.i dn,.i g,r,v]
 ho:iM .i64 o
 hc:iM .i64 c
 hd:dn=0∨dn=1
 hg:iM .i64 g
 hr:Wd (.sl 0) r
 hv:Wd (.sl 0) v
theorem Le {x:D} (h:Dh x): ∃o c dn g r v,Tg x o c dn g r v:=by obtain⟨o,c,d,g,r,v,h1,h2,h3,h4,h5,h6,h7⟩:=h;exact⟨o,c,d,g,r,v,h1,h2,h3,h4,h5,h6,h7⟩
theorem asE {r:D} (h:Wd (.sl 0) r): ∀x∈r.l,x= .i x.n:=by intro x hx;obtain⟨n,rfl,_⟩:=(h.el1 rfl x hx).i;rfl
def few (s:D):Prop:= ∀x∈s.l,(x.hd 4).l.length < 17592186044415∧(x.hd 5).l.length < 17592186044415
theorem few.rows {s:D} (h:few s):Em s:=fun x hx=>by have:=(h x hx).1; omega
section
variable {d0 d1 s:D} {th op obj arg tries:Int} (h0:Wd (.sl 3) d0) (h1:Wd (.sl 4) d1) (hs:Wd (.sl 7) s) (hf:few s) (hop:iM .u8 op)
include h0 h1 hf in
theorem L8 (h:L 350 [enc d0,enc d1,enc s]=some [1]):Ew d0 d1∧s.l.length=d0.l.length:=by obtain⟨b,hb,_,hi⟩:=qZ h0 h1 hf.rows;rw [h] at hb;simp only [Option.some.injEq,List.cons.injEq,and_true] at hb;obtain⟨hC,hle,_⟩:=hi.1 hb.symm;obtain⟨ys,hC',c,rfl,_,hok⟩:=Dy h0 h1;rw [hC] at hC';simp only [Option.some.injEq,List.cons.injEq,and_true] at hC';exact⟨(hok hC'.symm).1,hle⟩
include h0 h1 hf in
theorem aeK (A:Acc d0 d1 s th op obj):alE d0 (d0.at obj)∧s.l.length=d0.l.length:=by
 obtain⟨hok,hle⟩:=L8 h0 h1 hf A.r;refine⟨?_,hle⟩;have a1:=A.o0; have a2:=A.o1;obtain⟨i,rfl⟩ : ∃i:Nat,obj=(i:Int):=⟨obj.toNat,by omega⟩;have hi:i < d0.l.length:=by omega
 rw [aY hi];exact hok.2.2 _ (List.getElem_mem hi)
include h0 h1 hs hf hop
theorem XH (A:Acc d0 d1 s th op obj) (h:op=12∨op=24):0≤Mx d0 obj∧Mx d0 obj < (s.l.length:Int)∧Mx d0 obj≠obj:=by
 obtain⟨ho,hle⟩:=aeK h0 h1 hf A
 have h4:((d0.at obj).hd 0).n=4:=by rw [← A.k];rcases h with rfl | rfl <;> rfl
 obtain⟨m1,m2,m3⟩:=ho.2.2.2.2.2 h4;refine⟨m1,by rw [hle]; exact m2,fun he=>?_⟩;have he:((d0.at obj).hd 2).n=obj:=he;rw [he,h4] at m3;omega
theorem aaH (A:Acc d0 d1 s th op obj):op∈ops∧∃o c dn g r v,Tg (s.at obj) o c dn g r v∧
 L 400 [enc d0,enc d1,enc s,th,op,obj,arg,tries]=some (outA s th op obj (Mx d0 obj) (act (Mx d0 obj) (Mo d0 s obj) th op arg tries o c dn g r v)):=by
 obtain⟨ho,hle⟩:=aeK h0 h1 hf A;have hin:op∈ops:=amE hop.1 (by rw [A.k]; have:=ho.1; omega);have a1:=A.o0; have a2:=A.o1;obtain⟨i,rfl⟩ : ∃i:Nat,obj=(i:Int):=⟨obj.toNat,by omega⟩;have hi:i < s.l.length:=by omega
 have ht:=E5 hs (by omega);obtain⟨o,c,dn,g,r,v,T⟩:=Le (hs.thing _ (List.getElem_mem hi));have hfx:=hf _ (List.getElem_mem hi);rw [T.is] at hfx;have hkk:L 600 [op]=some [((d0.at (i:Int)).hd 0).n]:=by rw [Wv op hop,A.k]
 refine⟨hin,o,c,dn,g,r,v,by rw [aY hi]; exact T,?_⟩;refine asI ⟨aAp s ht i hi o c dn g r v T.is,arA s hs,A.r,A.t0,A.t1,A.o0,A.o1,hle,hkk,?_,?_,(asE T.hr),fun h=>XH h0 h1 hs hf hop A h⟩ hin
 ·have:(r.l.length:Int) < 17592186044415:=Int.ofNat_lt.2 hfx.1;exact this
 ·have:(v.l.length:Int) < 17592186044415:=Int.ofNat_lt.2 hfx.2;exact this
theorem aiA (A: ¬Acc d0 d1 s th op obj):L 400 [enc d0,enc d1,enc s,th,op,obj,arg,tries]=some [enc s,0,0,0,0,0,0]:=by
 obtain⟨b,hb,hb2,_⟩:=qZ h0 h1 hf.rows;by_cases ho:0≤obj∧obj < (s.l.length:Int)
 ·obtain⟨i,rfl⟩ : ∃i:Nat,obj=(i:Int):=⟨obj.toNat,by omega⟩;have hi:i < s.l.length:=by omega
  have ht:=E5 hs (by omega);obtain⟨o,c,dn,g,r,v,T⟩:=Le (hs.thing _ (List.getElem_mem hi));have hcp:=aAp s ht i hi o c dn g r v T.is
  have hss:s=dL (fE s.l (i:Int) (dL [.i o,.i c,.i dn,.i g,r,v])):=by have:=set_self ht.sh hi;rw [T.is] at this;exact this.symm
  have hkk:=Wv op hop
  have key: ∀alt:Int,(alt=3∨alt=4∨alt=5∨alt=6)→L 9000 [(i:Int),enc s]=some [alt,(i:Int),enc s,o,c,dn,g,enc r,enc v]→L 400 [enc d0,enc d1,enc s,th,op,(i:Int),arg,tries]=some [enc s,0,0,0,0,0,0]:=by
   intro alt ha hcp;by_cases hb0:b=0
   ·exact aFh hb ha hcp ho.1 ho.2 T.hd hss hb0
   ·have hb1:b=1:=by omega
    by_cases t0:th < 0
    ·exact aFg hb ha hcp ho.1 ho.2 T.hd hss hb0 t0
    ·by_cases t1:th < (d1.l.length:Int)
     ·have hne: ¬kindOf op=((d0.at (i:Int)).hd 0).n:=fun hk=>A ⟨by rw [hb,hb1],by omega,t1,ho.1,ho.2,hk⟩;obtain⟨_,hle⟩:=L8 h0 h1 hf (by rw [hb,hb1]);exact aFi hb ha hcp ho.1 ho.2 T.hd hss hb0 (by omega) t1 hkk hle hne
     ·exact aFf hb ha hcp ho.1 ho.2 T.hd hss hb0 (by omega) t1
  refine key _ ?_ hcp;unfold pF;split <;> split <;> simp
 ·obtain⟨ys,hc,hys⟩:=copyN s hs obj (by omega);by_cases hn:obj < 0
  ·rcases hys with rfl | ⟨rfl,he⟩ | ⟨rfl,he⟩
   ·exact aDB hb hc hn
   ·exact aDz hb hc hn he
   ·exact aDx hb hc hn he
  ·rcases hys with rfl | ⟨rfl,he⟩ | ⟨rfl,he⟩
   ·exact aDA hb hc (by omega) (by omega)
   ·exact aDy hb hc (by omega) (by omega) he
   ·exact aDw hb hc (by omega) (by omega) he
end
end Go.As.Try
end
section
namespace Go.As.Try
open Go hiding Stat Spec shape
open Go.As
set_option maxRecDepth 100000
theorem J7 {d:D} {l:List D} (h: ∀x∈l,∃n,x= .i n∧iM .i64 n) (hl:l.length≤17592186043904):Wd (.sl 0) (gQ d l):=by
 cases l with
 | nil=>
   show Wd (.sl 0) (if d= .i 1 then .i 1 else .i 2);split
   ·exact .nil 0
   ·exact .non 0
 | cons a l=> refine .one 0 (.int .i64) (a :: l) rfl (by simp) (by have:vT 0=8:=rfl; rw [this]; omega) fun x hx=>?_;obtain⟨n,rfl,hn⟩:=h x hx;exact .int _ _ hn
theorem yL {l:List D} (h: ∀x∈l,∃n,x= .i n∧iM .i64 n) (hn:l≠[]) (hl:l.length≤17592186043904):Wd (.sl 0) (dL l):=by rw [← GI (d:=.i 2) hn];exact J7 h hl
theorem yM {r:D} (h:Wd (.sl 0) r): ∀x∈r.l,∃n,x= .i n∧iM .i64 n:=fun x hx=>(h.el1 rfl x hx).i
theorem wrap_in (z:Int):iM .i64 (IntKind.i64.wrap z):=by constructor <;> (rw [IntKind.wrap_i64]; omega)
def OW (n:Nat):Act→Prop
 | .res o c dn g r v m _ oc=>iM .i64 o∧iM .i64 c∧(dn=0∨dn=1)∧iM .i64 g∧Wd (.sl 0) r∧r.l.length≤n∧Wd (.sl 0) v∧v.l.length≤n∧(∀q,m=some q→iM .i64 q)∧(oc=2∨oc=3)
 | _=>True
theorem OW.ite {n:Nat} {p:Prop} [Decidable p] {a b:Act} (ha:OW n a) (hb:OW n b):OW n (if p then a else b):=by
 split
 ·exact ha
 ·exact hb
def NoM:Act→Prop
 | .res _ _ _ _ _ _ m _ _=>m=none
 | _=>True
theorem NoM.ite {p:Prop} [Decidable p] {a b:Act} (ha:NoM a) (hb:NoM b):NoM (if p then a else b):=by
 split
 ·exact ha
 ·exact hb
section
variable {x:D} {M mo th op arg tries o c dn g:Int} {r v:D}
theorem aCP (T:Tg x o c dn g r v) {n:Nat} (hr:r.l.length≤n) (hv:v.l.length≤n) (hn:n < 17592186043904) (ht:iM .i64 th) (ha:iM .i64 arg):OW (n+1) (act M mo th op arg tries o c dn g r v):=by
 have hm:iM .i64 (-1):=⟨by omega,by omega⟩;have hz:iM .i64 0:=⟨by omega,by omega⟩;have e1: ∀q:Int,(none:Option Int)=some q→iM .i64 q:=fun q h=>by simp at h
 have e2: ∀{p:Int},iM .i64 p→∀q:Int,some p=some q→iM .i64 q:=fun hp q h=>by simp only [Option.some.injEq] at h; exact h▸hp
 have hr1:r.l.length≤n+1:=by omega
 have hv1:v.l.length≤n+1:=by omega
 have w:=@wrap_in
 have sn: ∀{l:List D} {t:Int},(∀x∈l,∃n,x= .i n∧iM .i64 n)→iM .i64 t→∀x∈l++ [.i t],∃n,x= .i n∧iM .i64 n:=fun h ht x hx=>by
  rcases List.mem_append.1 hx with hx | hx
  ·exact h x hx
  ·simp only [List.mem_cons,List.not_mem_nil,or_false] at hx;exact⟨_,hx,ht⟩
 have r5:Wd (.sl 0) (dL (r.l++ [.i th])):=yL (sn (yM T.hr) ht) (by simp) (by simp; omega);have l5:(dL (r.l++ [.i th])).l.length≤n+1:=by rw [aX]; simp; omega
 have r20:Wd (.sl 0) (dL (v.l++ [.i arg])):=yL (sn (yM T.hv) ha) (by simp) (by simp; omega);have l20:(dL (v.l++ [.i arg])).l.length≤n+1:=by rw [aX]; simp; omega
 have r12:Wd (.sl 0) (dL (wo th r.l++ [.i th])):=yL (sn (fun x hx=>(yM T.hr) x (List.mem_filter.1 hx).1) ht) (by simp) (by have:=ahQ th r.l; simp; omega);have l12:(dL (wo th r.l++ [.i th])).l.length≤n+1:=by have:=ahQ th r.l; rw [aX]; simp; omega
 have r6: ∀k,Wd (.sl 0) (gQ (.i 2) (r.l.take k++r.l.drop (k+1))):=fun k=>J7 (fun x hx=>by
  rcases List.mem_append.1 hx with hx | hx
  ·exact (yM T.hr) x (List.mem_of_mem_take hx)
  ·exact (yM T.hr) x (List.mem_of_mem_drop hx)) (by simp only [List.length_append,List.length_take,List.length_drop]; omega)
 have l6: ∀k,(gQ (.i 2) (r.l.take k++r.l.drop (k+1))).l.length≤n+1:=fun k=>by rw [kT]; simp only [List.length_append,List.length_take,List.length_drop]; omega
 have r21:Wd (.sl 0) (gQ v (v.l.drop 1)):=J7 (fun x hx=>(yM T.hv) x (List.mem_of_mem_drop hx)) (by simp; omega);have l21:(gQ v (v.l.drop 1)).l.length≤n+1:=by rw [kT]; simp; omega
 have r13:Wd (.sl 0) (gQ r (r.l.drop 1)):=J7 (fun x hx=>(yM T.hr) x (List.mem_of_mem_drop hx)) (by simp; omega);have l13:(gQ r (r.l.drop 1)).l.length≤n+1:=by rw [kT]; simp; omega
 have r14:Wd (.sl 0) (.i 1):=.nil 0;have l14:(D.i 1).l.length≤n+1:=by simp [D.l]
 unfold act
 repeat' refine OW.ite ?_ ?_
 all_goals first
  | trivial
  | exact⟨by first | exact T.ho | exact ht | exact hm,by first | exact T.hc | exact w _ | exact ha | exact hz,by first | exact T.hd | exact .inr rfl,by first | exact T.hg | exact w _,by first | exact T.hr | exact r5 | exact r6 _ | exact r12 | exact r13 | exact r14,by first | exact hr1 | exact l5 | exact l6 _ | exact l12 | exact l13 | exact l14,by first | exact T.hv | exact r20 | exact r21,by first | exact hv1 | exact l20 | exact l21,by first | exact e1 | exact e2 hm | exact e2 ht,by first | exact .inl rfl | exact .inr rfl⟩
theorem ahE (h12:op≠12) (h24:op≠24):NoM (act M mo th op arg tries o c dn g r v):=by
 unfold act;rw [if_neg h12,if_neg h24]
 repeat' refine NoM.ite ?_ ?_
 all_goals first
  | exact rfl
  | trivial
end
end Go.As.Try
end
section
namespace Go.As.Try
open Go hiding Stat Spec shape
open Go.As
set_option maxRecDepth 100000
def isN (ys:List Int):Prop:= ∃v:Int,ys= [v]∧iM .i64 v
theorem amK:isN [0]:=⟨0,rfl,by constructor <;> omega⟩
theorem amJ:isN [1]:=⟨1,rfl,by constructor <;> omega⟩
theorem ayL (z:Int):isN [IntKind.i64.wrap z]:=⟨_,rfl,wrap_in z⟩
theorem LU: ∀{d x:D},x∈d.l→SizeOf.sizeOf x < SizeOf.sizeOf d
 | .i _,x,h=>by simp [D.l] at h
 | .p a b,x,h=>by
   simp only [D.l,List.mem_cons] at h;rcases h with rfl | h
   ·simp only [D.p.sizeOf_spec]; omega
   ·have:=LU (d:=b) h;simp only [D.p.sizeOf_spec]; omega
def Nums (l:List D):Prop:= ∀y∈l,iM .i64 (aqS y).n
theorem alM:Nums []:=fun y h=>by simp at h
theorem FV: ∀{l:List D} {k v:D},Nums l→iM .i64 v.n→Nums (Bv l k v)
 | [],k,v,_,hv=>by intro y hy;simp only [Bv,List.mem_cons,List.not_mem_nil,or_false] at hy;subst hy;exact hv
 | d :: l,k,v,hl,hv=>by
   intro y hy;simp only [Bv] at hy;split at hy
   ·simp only [List.mem_cons] at hy;rcases hy with rfl | hy
    ·exact hv
    ·exact hl y (by simp [hy])
   ·simp only [List.mem_cons] at hy;rcases hy with rfl | hy
    ·exact hl _ (by simp)
    ·exact FV (fun z hz=>hl z (by simp [hz])) hv y hy
theorem Wh: ∀{l:List D} {k:D},Nums l→iM .i64 ((nY l k).getD (.i 0)).n
 | [],k,_=>by constructor <;> simp [nY,D.n]
 | d :: l,k,hl=>by
   simp only [nY];split
   ·exact hl d (by simp)
   ·exact Wh fun y hy=>hl y (by simp [hy])
theorem auO {l:List D} {k:D} (h:Nums l):isN [((nY l k).getD (.i 0)).n]:=⟨_,rfl,Wh h⟩
def Ints (d:D):Prop:= ∀x∈d.l,iM .i64 x.n
theorem ints_at {d:D} (h:Ints d) {i:Int} (h0: ¬i < 0) (h1:i < (d.l.length:Int)):iM .i64 (d.at i).n:=by obtain⟨k,rfl⟩ : ∃k:Nat,i=(k:Int):=⟨i.toNat,by omega⟩;rw [aY (by omega:k < d.l.length)];exact h _ (List.getElem_mem _)
set_option maxHeartbeats 4000000 in
theorem WV: ∀(N:Nat) (kids:D),SizeOf.sizeOf kids≤N→Wd (.sl 6) kids→∀(k n:Int) (s loc:D),iM .i64 n→Ints loc→Tot 1950 [k,enc s,n,enc kids,enc loc] isN
 | 0,kids,hN,_,_,_,_,_,_,_=>by exfalso;cases kids <;> simp at hN
 | N+1,kids,hN,hk,k,n,s,loc,hn,hi=>by
   have sub: ∀i:Nat,∃v:Int,iM .i64 v∧(i < kids.l.length→L 1950 [((kids.at (i:Int)).hd 0).n,enc ((kids.at (i:Int)).hd 1),((kids.at (i:Int)).hd 2).n,enc ((kids.at (i:Int)).hd 3),enc loc]=some [v]):=by
    intro i;by_cases hil:i < kids.l.length
    ·obtain⟨k',s',n',ks',he,_,_,hn',h2⟩:=Dp hk hil
     have hsz:SizeOf.sizeOf ks' < SizeOf.sizeOf kids.l[i]:=by rw [he];exact LU (by rw [aX]; simp)
     have hsz2:=LU (List.getElem_mem hil);obtain⟨ys,hL,v,rfl,hv⟩:=WV N ks' (by omega) h2 k' n' s' loc hn' hi;refine⟨v,hv,fun _=>?_⟩;rw [aY hil,he];simp only [zg,Option.getD_some];exact hL
    ·exact⟨0,by constructor <;> omega,fun h=>absurd h hil⟩
   obtain⟨v0,hv0,h0⟩:=sub 0;obtain⟨v1,hv1,h1⟩:=sub 1;by_cases l1:(kids.l.length:Int)=1
   ·have h0:=h0 (by omega);simp only [Int.natCast_zero] at h0;refine Tot.of ?_;rw [adL];simp only [VI,zz,l1,h0]
    repeat' first | exact .out ⟨_,rfl,hn⟩ | exact .out amK | exact .out amJ | exact .out (ayL _) | exact .out ⟨_,rfl,ints_at hi ‹_› ‹_›⟩ | refine .ite (fun _=>?_) (fun _=>?_)
   ·by_cases l2:(kids.l.length:Int)=2
    ·have h0:=h0 (by omega);have h1:=h1 (by omega);simp only [Int.natCast_zero,Int.natCast_one] at h0 h1;refine Tot.of ?_;rw [adL];simp only [VI,zz,l1,l2,h0,h1]
     repeat' first | exact .out ⟨_,rfl,hn⟩ | exact .out amK | exact .out amJ | exact .out (ayL _) | exact .out ⟨_,rfl,ints_at hi ‹_› ‹_›⟩ | (simp only [aX]; exact .out (auO (FV (FV (FV alM (wrap_in _)) (wrap_in _)) (wrap_in _)))) | refine .ite (fun _=>?_) (fun _=>?_)
    ·refine Tot.of ?_;rw [adL];simp only [VI,zz,l1,l2]
     repeat' first | exact .out ⟨_,rfl,hn⟩ | exact .out amK | exact .out amJ | exact .out ⟨_,rfl,ints_at hi ‹_› ‹_›⟩ | refine .ite (fun _=>?_) (fun _=>?_)
end Go.As.Try
end
section
namespace Go.As.Try
open Go hiding Stat Spec shape
open Go.As
set_option maxRecDepth 100000
structure Kt (x:D) (a:Int) (lc:D) (w o g tr:Int):Prop where
 is:x=dL [.i a,lc,.i w,.i o,.i g,.i tr]
 ha:iM .i64 a
 hl:Wd (.sl 0) lc
 hw:iM .u8 w
 ho:iM .i64 o
 hg:iM .i64 g
 ht:iM .i64 tr
theorem jW {d:D} (h:Wd (.sl 8) d): ∀x∈d.l,∃a lc w o g tr,Kt x a lc w o g tr:=by intro x hx;obtain⟨r,rfl,hl,hc⟩:=h.elN (cs:=[.int .i64,.sl 0,.int .u8,.int .i64,.int .i64,.int .i64]) rfl x hx;obtain⟨a,b,c,d,e,f,rfl⟩:=six hl;obtain⟨a,rfl,ha⟩:=(hc 0 _ _ rfl rfl).i;obtain⟨w,rfl,hw⟩:=(hc 2 _ _ rfl rfl).i;obtain⟨o,rfl,ho⟩:=(hc 3 _ _ rfl rfl).i;obtain⟨g,rfl,hg⟩:=(hc 4 _ _ rfl rfl).i;obtain⟨t,rfl,ht⟩:=(hc 5 _ _ rfl rfl).i;exact⟨a,b,w,o,g,t,rfl,ha,hc 1 _ _ rfl rfl,hw,ho,hg,ht⟩
structure Tk (d:D):Prop where
 wd:Wd (.sl 8) d
 sh:d=dL d.l
 few:d.l.length≤2199023255500
theorem Po {d:D} (h:Wd (.sl 8) d) (hn:0 < d.l.length):Tk d:=by
 refine⟨h,?_,?_⟩
 ·rcases h.sh with rfl | rfl | ⟨h1,_⟩
  ·simp [D.l] at hn
  ·simp [D.l] at hn
  ·exact h1
 ·have hr:=h.room;have h3:vT 8=64:=rfl;rw [h3] at hr;omega
theorem Je (a b c d e f x:D):fE [a,b,c,d,e,f] 1 x= [a,x,c,d,e,f]:=rfl
theorem aH (j:Nat) (xs:List Int):fin L (.jump j xs)=L j xs:=rfl
theorem aK (ys:List Int):fin L (.out ys)=some ys:=rfl
def ER (lc:D):Int:=if 0 < lc.l.length then 3 else 4
theorem XF {lc:D} (h:(0:Int) < (lc.l.length:Int)):ER lc=3:=if_pos (by omega)
theorem U9 (d:D) (h:Th d) (x0:Int) (k:D): ∀(j i:Nat),i+j=d.l.length→L 9051 [x0,(d.l.length:Int),(i:Int),enc d,enc k]=L 9060 [x0,(k.l.length:Int),0,enc d,enc k]
 | 0,i,hi=>by
   have c1: ¬(i:Int) < (d.l.length:Int):=by omega
   rw [aT,aoD];simp only [aaO,zz,c1,aH,Int.natCast_zero]
 | j+1,i,hi=>by
   have hl:=h.few;have hil:i < d.l.length:=by omega
   have c1:(i:Int) < (d.l.length:Int):=by omega
   have c2: ¬((i:Int) < 0):=by omega
   have w:=aZ (n:=i) (by omega);have ih:=U9 d h x0 k j (i+1) (by omega);obtain⟨o,c,dn,g,r,v,he,_,_,_,_,hr,hv⟩:=h.wd.thing _ (List.getElem_mem hil);have hs:=set_self h.sh hil;rw [he] at hs;rw [aT,aoD];rcases bG hr with rfl | rfl | ⟨r1,r2⟩ <;> rcases bG hv with rfl | rfl | ⟨v1,v2⟩
   all_goals
    simp only [aaO,zz,c1,c2,w,aY hil,he,eG,aX,List.getElem?_cons_zero,List.getElem?_cons_succ,TL,TJ,hs,len1,len2,oJ,iO]
    try simp only [r1,r2,zz]
    try simp only [v1,v2,zz]
    try simp only [aH]
    exact ih
theorem adU (d:D) (h:Th d) (x0:Int): ∀(j i:Nat),i+j=d.l.length→L 9052 [x0,(d.l.length:Int),(i:Int),enc d]=L 9061 [x0,enc d]
 | 0,i,hi=>by
   have c1: ¬(i:Int) < (d.l.length:Int):=by omega
   rw [aT,aoC];simp only [aaN,zz,c1,aH,Int.natCast_zero]
 | j+1,i,hi=>by
   have hl:=h.few;have hil:i < d.l.length:=by omega
   have c1:(i:Int) < (d.l.length:Int):=by omega
   have c2: ¬((i:Int) < 0):=by omega
   have w:=aZ (n:=i) (by omega);have ih:=adU d h x0 j (i+1) (by omega);obtain⟨o,c,dn,g,r,v,he,_,_,_,_,hr,hv⟩:=h.wd.thing _ (List.getElem_mem hil);have hs:=set_self h.sh hil;rw [he] at hs;rw [aT,aoC];rcases bG hr with rfl | rfl | ⟨r1,r2⟩ <;> rcases bG hv with rfl | rfl | ⟨v1,v2⟩
   all_goals
    simp only [aaN,zz,c1,c2,w,aY hil,he,eG,aX,List.getElem?_cons_zero,List.getElem?_cons_succ,TL,TJ,hs,len1,len2,oJ,iO]
    try simp only [r1,r2,zz]
    try simp only [v1,v2,zz]
    try simp only [aH]
    exact ih
theorem aeA (k:D) (h:Tk k) (x0:Int) (s:D): ∀(j i:Nat),(hx:x0 < 0∨(k.l.length:Int)≤x0)→i+j=k.l.length→L 9060 [x0,(k.l.length:Int),(i:Int),enc s,enc k]=some [0,x0,enc s,enc k]
 | 0,i,hx,hi=>by
   have c1: ¬(i:Int) < (k.l.length:Int):=by omega
   rw [aT,Xl];by_cases c0:(i:Int)=x0
   ·subst c0;simp only [Fb,zz,c1,aK]
   ·simp only [Fb,zz,c0,c1,aK]
 | j+1,i,hx,hi=>by
   have hl:=h.few;have hil:i < k.l.length:=by omega
   have c1:(i:Int) < (k.l.length:Int):=by omega
   have c2: ¬((i:Int) < 0):=by omega
   have c0: ¬((i:Int)=x0):=by omega
   have w:=aZ (n:=i) (by omega);have ih:=aeA k h x0 s j (i+1) hx (by omega);obtain⟨a,lc,w',o,g,tr,T⟩:=jW h.wd _ (List.getElem_mem hil);have hs:=set_self h.sh hil;rw [T.is] at hs;rw [aT,Xl];rcases bG T.hl with rfl | rfl | ⟨r1,r2⟩
   all_goals
    simp only [Fb,zz,c0,c1,c2,w,aY hil,T.is,eG,aX,List.getElem?_cons_zero,List.getElem?_cons_succ,Je,hs,len1,len2,oJ,iO]
    try simp only [r1,r2,zz]
    try simp only [aH]
    exact ih
theorem adZ (k:D) (h:Tk k) (x0:Int): ∀(j i:Nat),(hx:x0 < 0∨(k.l.length:Int)≤x0)→i+j=k.l.length→L 9063 [x0,(k.l.length:Int),(i:Int),enc k]=some [0,x0,enc (.i 1),enc k]
 | 0,i,hx,hi=>by
   have c1: ¬(i:Int) < (k.l.length:Int):=by omega
   rw [aT,Xk];by_cases c0:(i:Int)=x0
   ·subst c0;simp only [Fa,zz,c1,aK]
   ·simp only [Fa,zz,c0,c1,aK]
 | j+1,i,hx,hi=>by
   have hl:=h.few;have hil:i < k.l.length:=by omega
   have c1:(i:Int) < (k.l.length:Int):=by omega
   have c2: ¬((i:Int) < 0):=by omega
   have c0: ¬((i:Int)=x0):=by omega
   have w:=aZ (n:=i) (by omega);have ih:=adZ k h x0 j (i+1) hx (by omega);obtain⟨a,lc,w',o,g,tr,T⟩:=jW h.wd _ (List.getElem_mem hil);have hs:=set_self h.sh hil;rw [T.is] at hs;rw [aT,Xk];rcases bG T.hl with rfl | rfl | ⟨r1,r2⟩
   all_goals
    simp only [Fa,zz,c0,c1,c2,w,aY hil,T.is,eG,aX,List.getElem?_cons_zero,List.getElem?_cons_succ,Je,hs,len1,len2,oJ,iO]
    try simp only [r1,r2,zz]
    try simp only [aH]
    exact ih
theorem adY (k:D) (h:Tk k) (gi:Nat) (x4 x5 x6 x7 x8 x9:Int) (s:D): ∀(j i:Nat),gi < i→i+j=k.l.length→L 9069 [(gi:Int),(k.l.length:Int),(i:Int),enc s,enc k,x4,x5,x6,x7,x8,x9]=some [3,(gi:Int),enc s,enc k,x4,x5,x6,x7,x8,x9]
 | 0,i,hg,hi=>by
   have c1: ¬(i:Int) < (k.l.length:Int):=by omega
   have c0: ¬((i:Int)=(gi:Int)):=by omega
   rw [aT,aoB];simp only [aaM,zz,c0,c1,aK]
 | j+1,i,hg,hi=>by
   have hl:=h.few;have hil:i < k.l.length:=by omega
   have c1:(i:Int) < (k.l.length:Int):=by omega
   have c2: ¬((i:Int) < 0):=by omega
   have c0: ¬((i:Int)=(gi:Int)):=by omega
   have w:=aZ (n:=i) (by omega);have ih:=adY k h gi x4 x5 x6 x7 x8 x9 s j (i+1) (by omega) (by omega);obtain⟨a,lc,w',o,g,tr,T⟩:=jW h.wd _ (List.getElem_mem hil);have hs:=set_self h.sh hil;rw [T.is] at hs;rw [aT,aoB];rcases bG T.hl with rfl | rfl | ⟨r1,r2⟩
   all_goals
    simp only [aaM,zz,c0,c1,c2,w,aY hil,T.is,eG,aX,List.getElem?_cons_zero,List.getElem?_cons_succ,Je,hs,len1,len2,oJ,iO]
    try simp only [r1,r2,zz]
    try simp only [aH]
    exact ih
theorem Vb (k:D) (h:Tk k) (gi:Nat) (x4 x5 x6 x7 x8 x9:Int) (s:D): ∀(j i:Nat),gi < i→i+j=k.l.length→L 9070 [(gi:Int),(k.l.length:Int),(i:Int),enc s,enc k,x4,x5,x6,x7,x8,x9]=some [4,(gi:Int),enc s,enc k,x4,x5,x6,x7,x8,x9]
 | 0,i,hg,hi=>by
   have c1: ¬(i:Int) < (k.l.length:Int):=by omega
   have c0: ¬((i:Int)=(gi:Int)):=by omega
   rw [aT,aoA];simp only [aaL,zz,c0,c1,aK]
 | j+1,i,hg,hi=>by
   have hl:=h.few;have hil:i < k.l.length:=by omega
   have c1:(i:Int) < (k.l.length:Int):=by omega
   have c2: ¬((i:Int) < 0):=by omega
   have c0: ¬((i:Int)=(gi:Int)):=by omega
   have w:=aZ (n:=i) (by omega);have ih:=Vb k h gi x4 x5 x6 x7 x8 x9 s j (i+1) (by omega) (by omega);obtain⟨a,lc,w',o,g,tr,T⟩:=jW h.wd _ (List.getElem_mem hil);have hs:=set_self h.sh hil;rw [T.is] at hs;rw [aT,aoA];rcases bG T.hl with rfl | rfl | ⟨r1,r2⟩
   all_goals
    simp only [aaL,zz,c0,c1,c2,w,aY hil,T.is,eG,aX,List.getElem?_cons_zero,List.getElem?_cons_succ,Je,hs,len1,len2,oJ,iO]
    try simp only [r1,r2,zz]
    try simp only [aH]
    exact ih
theorem adX (k:D) (h:Tk k) (gi:Nat) (x4 x5 x6 x7 x8 x9:Int): ∀(j i:Nat),gi < i→i+j=k.l.length→L 9071 [(gi:Int),(k.l.length:Int),(i:Int),enc k,x4,x5,x6,x7,x8,x9]=some [3,(gi:Int),enc (.i 1),enc k,x4,x5,x6,x7,x8,x9]
 | 0,i,hg,hi=>by
   have c1: ¬(i:Int) < (k.l.length:Int):=by omega
   have c0: ¬((i:Int)=(gi:Int)):=by omega
   rw [aT,anZ];simp only [aaK,zz,c0,c1,aK]
 | j+1,i,hg,hi=>by
   have hl:=h.few;have hil:i < k.l.length:=by omega
   have c1:(i:Int) < (k.l.length:Int):=by omega
   have c2: ¬((i:Int) < 0):=by omega
   have c0: ¬((i:Int)=(gi:Int)):=by omega
   have w:=aZ (n:=i) (by omega);have ih:=adX k h gi x4 x5 x6 x7 x8 x9 j (i+1) (by omega) (by omega);obtain⟨a,lc,w',o,g,tr,T⟩:=jW h.wd _ (List.getElem_mem hil);have hs:=set_self h.sh hil;rw [T.is] at hs;rw [aT,anZ];rcases bG T.hl with rfl | rfl | ⟨r1,r2⟩
   all_goals
    simp only [aaK,zz,c0,c1,c2,w,aY hil,T.is,eG,aX,List.getElem?_cons_zero,List.getElem?_cons_succ,Je,hs,len1,len2,oJ,iO]
    try simp only [r1,r2,zz]
    try simp only [aH]
    exact ih
theorem Va (k:D) (h:Tk k) (gi:Nat) (x4 x5 x6 x7 x8 x9:Int): ∀(j i:Nat),gi < i→i+j=k.l.length→L 9072 [(gi:Int),(k.l.length:Int),(i:Int),enc k,x4,x5,x6,x7,x8,x9]=some [4,(gi:Int),enc (.i 1),enc k,x4,x5,x6,x7,x8,x9]
 | 0,i,hg,hi=>by
   have c1: ¬(i:Int) < (k.l.length:Int):=by omega
   have c0: ¬((i:Int)=(gi:Int)):=by omega
   rw [aT,anY];simp only [aaJ,zz,c0,c1,aK]
 | j+1,i,hg,hi=>by
   have hl:=h.few;have hil:i < k.l.length:=by omega
   have c1:(i:Int) < (k.l.length:Int):=by omega
   have c2: ¬((i:Int) < 0):=by omega
   have c0: ¬((i:Int)=(gi:Int)):=by omega
   have w:=aZ (n:=i) (by omega);have ih:=Va k h gi x4 x5 x6 x7 x8 x9 j (i+1) (by omega) (by omega);obtain⟨a,lc,w',o,g,tr,T⟩:=jW h.wd _ (List.getElem_mem hil);have hs:=set_self h.sh hil;rw [T.is] at hs;rw [aT,anY];rcases bG T.hl with rfl | rfl | ⟨r1,r2⟩
   all_goals
    simp only [aaJ,zz,c0,c1,c2,w,aY hil,T.is,eG,aX,List.getElem?_cons_zero,List.getElem?_cons_succ,Je,hs,len1,len2,oJ,iO]
    try simp only [r1,r2,zz]
    try simp only [aH]
    exact ih
theorem adW (k:D) (h:Tk k) (s:D) (gi:Nat) (hgi:gi < k.l.length) (a:Int) (lc:D) (w o g tr:Int) (T:Kt k.l[gi] a lc w o g tr): ∀(j i:Nat),i+j=gi→L 9060 [(gi:Int),(k.l.length:Int),(i:Int),enc s,enc k]=some [ER lc,(gi:Int),enc s,enc k,a,enc lc,w,o,g,tr]
 | 0,i,hi=>by
   have hl:=h.few;have he:i=gi:=by omega
   subst he;have c1:(i:Int) < (k.l.length:Int):=by omega
   have c2: ¬((i:Int) < 0):=by omega
   have w':=aZ (n:=i) (by omega);rw [aT,Xl];rcases bG T.hl with rfl | rfl | ⟨r1,r2⟩
   ·have ih:=Vb k h i a (enc (.i 1)) w o g tr s (k.l.length - (i+1)) (i+1) (by omega) (by omega);simp only [Fb,zz,c1,c2,w',aY hgi,T.is,eG,aX,List.getElem?_cons_zero,List.getElem?_cons_succ,List.getElem?_nil,Option.getD_none,len1,len2,oJ,iO,aH];exact ih
   ·have ih:=Vb k h i a (enc (.i 2)) w o g tr s (k.l.length - (i+1)) (i+1) (by omega) (by omega);simp only [Fb,zz,c1,c2,w',aY hgi,T.is,eG,aX,List.getElem?_cons_zero,List.getElem?_cons_succ,List.getElem?_nil,Option.getD_none,len1,len2,oJ,iO,aH];exact ih
   ·have ih:=adY k h i a (enc lc) w o g tr s (k.l.length - (i+1)) (i+1) (by omega) (by omega);simp only [Fb,zz,c1,c2,w',aY hgi,T.is,eG,aX,List.getElem?_cons_zero,List.getElem?_cons_succ,len1,len2,oJ,iO];simp only [r1,r2,zz,aH];rw [XF r1];exact ih
 | j+1,i,hi=>by
   have hl:=h.few;have hil:i < k.l.length:=by omega
   have c1:(i:Int) < (k.l.length:Int):=by omega
   have c2: ¬((i:Int) < 0):=by omega
   have c0: ¬((i:Int)=(gi:Int)):=by omega
   have w1:=aZ (n:=i) (by omega);have ih:=adW k h s gi hgi a lc w o g tr T j (i+1) (by omega);obtain⟨a',lc',w',o',g',tr',T'⟩:=jW h.wd _ (List.getElem_mem hil);have hs:=set_self h.sh hil;rw [T'.is] at hs;rw [aT,Xl];rcases bG T'.hl with rfl | rfl | ⟨r1,r2⟩
   all_goals
    simp only [Fb,zz,c0,c1,c2,w1,aY hil,T'.is,eG,aX,List.getElem?_cons_zero,List.getElem?_cons_succ,Je,hs,len1,len2,oJ,iO]
    try simp only [r1,r2,zz]
    try simp only [aH]
    exact ih
theorem adV (k:D) (h:Tk k) (gi:Nat) (hgi:gi < k.l.length) (a:Int) (lc:D) (w o g tr:Int) (T:Kt k.l[gi] a lc w o g tr): ∀(j i:Nat),i+j=gi→L 9063 [(gi:Int),(k.l.length:Int),(i:Int),enc k]=some [ER lc,(gi:Int),enc (.i 1),enc k,a,enc lc,w,o,g,tr]
 | 0,i,hi=>by
   have hl:=h.few;have he:i=gi:=by omega
   subst he;have c1:(i:Int) < (k.l.length:Int):=by omega
   have c2: ¬((i:Int) < 0):=by omega
   have w':=aZ (n:=i) (by omega);rw [aT,Xk];rcases bG T.hl with rfl | rfl | ⟨r1,r2⟩
   ·have ih:=Va k h i a (enc (.i 1)) w o g tr (k.l.length - (i+1)) (i+1) (by omega) (by omega);simp only [Fa,zz,c1,c2,w',aY hgi,T.is,eG,aX,List.getElem?_cons_zero,List.getElem?_cons_succ,List.getElem?_nil,Option.getD_none,len1,len2,oJ,iO,aH];exact ih
   ·have ih:=Va k h i a (enc (.i 2)) w o g tr (k.l.length - (i+1)) (i+1) (by omega) (by omega);simp only [Fa,zz,c1,c2,w',aY hgi,T.is,eG,aX,List.getElem?_cons_zero,List.getElem?_cons_succ,List.getElem?_nil,Option.getD_none,len1,len2,oJ,iO,aH];exact ih
   ·have ih:=adX k h i a (enc lc) w o g tr (k.l.length - (i+1)) (i+1) (by omega) (by omega);simp only [Fa,zz,c1,c2,w',aY hgi,T.is,eG,aX,List.getElem?_cons_zero,List.getElem?_cons_succ,len1,len2,oJ,iO];simp only [r1,r2,zz,aH];rw [XF r1];exact ih
 | j+1,i,hi=>by
   have hl:=h.few;have hil:i < k.l.length:=by omega
   have c1:(i:Int) < (k.l.length:Int):=by omega
   have c2: ¬((i:Int) < 0):=by omega
   have c0: ¬((i:Int)=(gi:Int)):=by omega
   have w1:=aZ (n:=i) (by omega);have ih:=adV k h gi hgi a lc w o g tr T j (i+1) (by omega);obtain⟨a',lc',w',o',g',tr',T'⟩:=jW h.wd _ (List.getElem_mem hil);have hs:=set_self h.sh hil;rw [T'.is] at hs;rw [aT,Xk];rcases bG T'.hl with rfl | rfl | ⟨r1,r2⟩
   all_goals
    simp only [Fa,zz,c0,c1,c2,w1,aY hil,T'.is,eG,aX,List.getElem?_cons_zero,List.getElem?_cons_succ,Je,hs,len1,len2,oJ,iO]
    try simp only [r1,r2,zz]
    try simp only [aH]
    exact ih
structure Sk (s k:D):Prop where
 ws:Wd (.sl 7) s
 wk:Wd (.sl 8) k
 n2s:s≠.i 2
 n2k:k≠.i 2
theorem YU {t:Nat} {d:D} (h:Wd (.sl t) d) (h2:d≠.i 2):d= .i 1∨0 < d.l.length:=by
 rcases h.sh with h1 | h1 | ⟨_,h1⟩
 ·exact .inl h1
 ·exact absurd h1 h2
 ·exact .inr (List.length_pos_iff.2 h1)
theorem auD (x0:Int) (s:D):L 9061 [x0,enc s]=some [1,x0,enc s]:=by rw [aT,ayT];simp only [aiK,zz];split <;> rfl
theorem auC (x0:Int):L 9064 [x0]=some [1,x0,enc (.i 1)]:=by rw [aT,ayS];simp only [aiJ,zz];split <;> rfl
theorem anE (x0:Int) (k:D):L 9054 [x0,enc k]=L 9063 [x0,(k.l.length:Int),0,enc k]:=by rw [aT,ayV];simp only [aiL,zz,aH]
theorem aBC (x0:Int):L 9055 [x0]=L 9064 [x0]:=by rw [aT,ayU];rfl
section
variable {s k:D} (h:Sk s k)
include h
theorem Sr {gi:Nat} (hgi:gi < k.l.length) {a:Int} {lc:D} {w o g tr:Int} (T:Kt k.l[gi] a lc w o g tr):L 9050 [(gi:Int),enc s,enc k]=some [ER lc,(gi:Int),enc s,enc k,a,enc lc,w,o,g,tr]:=by
 have hk:0 < k.l.length:=by omega
 have hK:=Po h.wk hk;have hl':=hK.few;have c1':(0:Int) < (k.l.length:Int):=by omega
 have c2':(k.l.length:Int) < 2199023255552:=by omega
 rw [aT,aoE];rcases YU h.ws h.n2s with rfl | hs
 ·simp only [IZ,zz,len1,oJ,c1',c2',aH];exact (anE _ k).trans (adV k hK gi hgi a lc w o g tr T gi 0 (by omega))
 ·have hT:=E5 h.ws hs;have hl:=hT.few;have c1:(0:Int) < (s.l.length:Int):=by omega
  have c2:(s.l.length:Int) < 1759218604441:=by omega
  simp only [IZ,zz,oJ,c1,c2,c1',c2',aH];exact (U9 s hT _ k s.l.length 0 (by omega)).trans (adW k hK s gi hgi a lc w o g tr T gi 0 (by omega))
theorem ahB {x:Int} (hx:x < 0∨(k.l.length:Int)≤x):L 9050 [x,enc s,enc k]=some [0,x,enc s,enc k]∨L 9050 [x,enc s,enc k]=some [1,x,enc s]∧k= .i 1:=by
 rw [aT,aoE];rcases YU h.ws h.n2s with rfl | hs <;> rcases YU h.wk h.n2k with rfl | hk
 ·refine .inr ⟨?_,rfl⟩;simp only [IZ,zz,len1,oJ,aH];exact (aBC _).trans (auC _)
 ·have hK:=Po h.wk hk;have hl:=hK.few;have c1:(0:Int) < (k.l.length:Int):=by omega
  have c2:(k.l.length:Int) < 2199023255552:=by omega
  refine .inl ?_;simp only [IZ,zz,len1,oJ,c1,c2,aH];exact (anE _ k).trans (adZ k hK _ k.l.length 0 hx (by omega))
 ·have hT:=E5 h.ws hs;have hl:=hT.few;have c1:(0:Int) < (s.l.length:Int):=by omega
  have c2:(s.l.length:Int) < 1759218604441:=by omega
  refine .inr ⟨?_,rfl⟩;simp only [IZ,zz,len1,oJ,c1,c2,aH];exact (adU s hT _ s.l.length 0 (by omega)).trans (auD _ s)
 ·have hT:=E5 h.ws hs;have hl:=hT.few;have c1:(0:Int) < (s.l.length:Int):=by omega
  have c2:(s.l.length:Int) < 1759218604441:=by omega
  have hK:=Po h.wk hk;have hl':=hK.few;have c1':(0:Int) < (k.l.length:Int):=by omega
  have c2':(k.l.length:Int) < 2199023255552:=by omega
  refine .inl ?_;simp only [IZ,zz,oJ,c1,c2,c1',c2',aH];exact (U9 s hT _ k s.l.length 0 (by omega)).trans (aeA k hK _ s k.l.length 0 hx (by omega))
end
end Go.As.Try
end
section
namespace Go.As.Try
open Go hiding Stat Spec shape
open Go.As
set_option maxRecDepth 100000
def EqI (a b:D) (i:Nat):Prop:= ∀(k:Nat) (h1:k < a.l.length) (h2:k < b.l.length),i≤k→(a.l[k]).n=(b.l[k]).n
theorem EqI.step {a b:D} {i:Nat} (h1:i < a.l.length) (h2:i < b.l.length) (h:(a.l[i]).n=(b.l[i]).n):EqI a b i↔EqI a b (i+1):=by
 constructor
 ·intro q k x y z;exact q k x y (by omega)
 ·intro q k x y z;by_cases hk:k=i
  ·subst hk;exact h
  ·exact q k x y (by omega)
theorem EqI.end' {a b:D} {i:Nat} (h:a.l.length≤i):EqI a b i:=fun k h1 _ h3=>absurd h1 (by omega)
section
variable {a b:D} (hle:a.l.length=b.l.length) (hlen:a.l.length≤140737488351232)
include hle hlen
theorem Rk: ∀(j i:Nat),i+j=a.l.length→∃c:Int,L 251 [enc a,enc b,(i:Int)]=some [c]∧(c=0∨c=1)∧(c=1↔EqI a b i)
 | 0,i,hi=>by
   have c1: ¬(i:Int) < (a.l.length:Int):=by omega
   refine⟨1,?_,.inr rfl,fun _=>EqI.end' (by omega),fun _=>rfl⟩;rw [aT,e251];simp only [ajL,zz,c1,fin]
 | j+1,i,hi=>by
   have hil:i < a.l.length:=by omega
   have hib:i < b.l.length:=by omega
   have c1:(i:Int) < (a.l.length:Int):=by omega
   have c2: ¬((i:Int) < 0):=by omega
   have c3:(i:Int) < (b.l.length:Int):=by omega
   have w:=aZ (n:=i) (by omega);obtain⟨c,h1,h2,h3⟩:=Rk j (i+1) (by omega);by_cases he:(a.l[i]).n=(b.l[i]).n
   ·refine⟨c,?_,h2,h3.trans (EqI.step hil hib he).symm⟩;rw [aT,e251];simp only [ajL,zz,c1,c2,c3,w,aY hil,aY hib,he,fin,h1]
   ·refine⟨0,?_,.inl rfl,fun h=>absurd h (by omega),fun h=>absurd (h i hil hib (Nat.le_refl i)) he⟩;rw [aT,e251];simp only [ajL,zz,c1,c2,c3,w,aY hil,aY hib,he,fin]
end
def arW (a b:D):Prop:=a.l.length=b.l.length∧EqI a b 0
theorem agC (a b:D) (hlen:a.l.length≤140737488351232): ∃c:Int,L 250 [enc a,enc b]=some [c]∧(c=0∨c=1)∧(c=1↔arW a b):=by
 by_cases hl:a.l.length=b.l.length
 ·obtain⟨c,h1,h2,h3⟩:=Rk hl hlen a.l.length 0 (by omega);refine⟨c,?_,h2,h3.trans ⟨fun h=> ⟨hl,h⟩,fun h=>h.2⟩⟩;have hl':(a.l.length:Int)=(b.l.length:Int):=by omega
  rw [aT,e250,atD,dQ,if_pos,oI]
  ·simp only [List.map,bP,aW,Nat.reduceLT,aO,aQ,fin];exact h1
  ·simp only [iL,gZ,aW,Nat.reduceLT,aO,aQ,aF,iP];exact hl'
 ·refine⟨0,?_,.inl rfl,fun h=>absurd h (by omega),fun h=>absurd h.1 hl⟩;have hl': ¬(a.l.length:Int)=(b.l.length:Int):=by omega
  rw [aT,e250,atD,dQ,if_neg]
  ·simp only [jR,List.map,bP,fin]
  ·simp only [iL,gZ,aW,Nat.reduceLT,aO,aQ,aF,iP];exact hl'
theorem Pm (x y:D) (hle:x.l.length=y.l.length) (hlen:x.l.length≤140737488351232) (x0 x1 x2:Int) (i:Nat) (hi:i < 9223372036854775807) (c:Int) (hc:c=0∨c=1) (h:L 201 [x0,x1,x2,((i+1:Nat):Int)]=some [c]) (x6 x7 x8 x9 x10 x12 x13 x14 x15 x16:Int) :
 ∀(j k:Nat),k+j=x.l.length→∃e:Int,L 202 [x0,x1,x2,(i:Int),(x.l.length:Int),(k:Int),x6,x7,x8,x9,x10,enc x,x12,x13,x14,x15,x16,enc y]=some [e]∧(e=0∨e=1)∧(e=1↔EqI x y k∧c=1)
 | 0,k,hk=>by
   have c1: ¬(k:Int) < (x.l.length:Int):=by omega
   have w:=aZ (n:=i) (by omega);refine⟨c,?_,hc,fun h=> ⟨EqI.end' (by omega),h⟩,fun h=>h.2⟩;rw [aT,awL];simp only [ajN,zz,c1,w,fin,h]
 | j+1,k,hk=>by
   have hil:k < x.l.length:=by omega
   have hib:k < y.l.length:=by omega
   have c1:(k:Int) < (x.l.length:Int):=by omega
   have c2: ¬((k:Int) < 0):=by omega
   have c3:(k:Int) < (y.l.length:Int):=by omega
   have w:=aZ (n:=k) (by omega);obtain⟨e,h1,h2,h3⟩:=Pm x y hle hlen x0 x1 x2 i hi c hc h x6 x7 x8 x9 x10 x12 x13 x14 x15 x16 j (k+1) (by omega);by_cases he:(x.l[k]).n=(y.l[k]).n
   ·refine⟨e,?_,h2,h3.trans ⟨fun q=> ⟨(EqI.step hil hib he).2 q.1,q.2⟩,fun q=> ⟨(EqI.step hil hib he).1 q.1,q.2⟩⟩⟩;rw [aT,awL];simp only [ajN,zz,c1,c2,c3,w,aY hil,aY hib,he,fin,h1]
   ·refine⟨0,?_,.inl rfl,fun h=>absurd h (by omega),fun h=>absurd (h.1 k hil hib (Nat.le_refl k)) he⟩;rw [aT,awL];simp only [ajN,zz,c1,c2,c3,w,aY hil,aY hib,he,fin]
end Go.As.Try
end
section
namespace Go.As.Try
open Go hiding Stat Spec shape
open Go.As
set_option maxRecDepth 100000
theorem LX (ρ) (a b:SB):((SB.and a b).den ρ=true)=(a.den ρ=true∧b.den ρ=true):=by simp [SB.den]
structure aEZ (x y:D):Prop where
 o:(x.hd 0).n=(y.hd 0).n
 c:(x.hd 1).n=(y.hd 1).n
 d:(x.hd 2).n=0↔(y.hd 2).n=0
 g:(x.hd 3).n=(y.hd 3).n
 r:arW (x.hd 4) (y.hd 4)
 v:arW (x.hd 5) (y.hd 5)
def XI (a b:D) (i:Nat):Prop:= ∀(k:Nat) (h1:k < a.l.length) (h2:k < b.l.length),i≤k→aEZ a.l[k] b.l[k]
theorem bits {p q:Int}:((¬(¬p=0∧¬q=0))∧¬(¬¬p=0∧¬¬q=0))↔¬(p=0↔q=0):=by omega
def TP (s:D):Prop:= ∀x∈s.l,(x.hd 4).l.length≤140737488351232∧(x.hd 5).l.length≤140737488351232
section
variable {a b:D} (hle:a.l.length=b.l.length) (hlen:a.l.length≤140737488351232) (hr:TP a)
include hle hlen hr
theorem PO: ∀(j i:Nat),i+j=a.l.length→∃c:Int,L 201 [enc a,enc b,(a.l.length:Int),(i:Int)]=some [c]∧(c=0∨c=1)∧(c=1↔XI a b i)
 | 0,i,hi=>by
   have c1: ¬(i:Int) < (a.l.length:Int):=by omega
   refine⟨1,?_,.inr rfl,fun _ k h1 _ h3=>absurd h1 (by omega),fun _=>rfl⟩;rw [aT,U3];simp only [t201,zz,c1,fin]
 | j+1,i,hi=>by
   have hil:i < a.l.length:=by omega
   have hib:i < b.l.length:=by omega
   have c1:(i:Int) < (a.l.length:Int):=by omega
   have c2: ¬((i:Int) < 0):=by omega
   have c3:(i:Int) < (b.l.length:Int):=by omega
   obtain⟨c,h1,h2,h3⟩:=PO j (i+1) (by omega);have hb:=hr _ (List.getElem_mem hil);by_cases b0:((a.l[i]).hd 0).n=((b.l[i]).hd 0).n
   case neg=>
    refine⟨0,?_,.inl rfl,fun h=>absurd h (by omega),fun h=>absurd (h i hil hib (Nat.le_refl i)).o b0⟩;rw [aT,U3];simp only [t201,zz,c1,c2,c3,aY hil,aY hib,b0,fin]
   by_cases b1:((a.l[i]).hd 1).n=((b.l[i]).hd 1).n
   case neg=>
    refine⟨0,?_,.inl rfl,fun h=>absurd h (by omega),fun h=>absurd (h i hil hib (Nat.le_refl i)).c b1⟩;rw [aT,U3];simp only [t201,zz,c1,c2,c3,aY hil,aY hib,b0,b1,fin]
   by_cases b2:(((a.l[i]).hd 2).n=0↔((b.l[i]).hd 2).n=0)
   case neg=>
    refine⟨0,?_,.inl rfl,fun h=>absurd h (by omega),fun h=>absurd (h i hil hib (Nat.le_refl i)).d b2⟩;rw [aT,U3];have b2':=bits.2 b2;simp only [t201,zz,LX,LW,c1,c2,c3,aY hil,aY hib,b0,b1,if_pos b2',fin]
   have b2': ¬_:=fun h=>bits.1 h b2;by_cases b3:((a.l[i]).hd 3).n=((b.l[i]).hd 3).n
   case neg=>
    refine⟨0,?_,.inl rfl,fun h=>absurd h (by omega),fun h=>absurd (h i hil hib (Nat.le_refl i)).g b3⟩;rw [aT,U3];simp only [t201,zz,LX,LW,c1,c2,c3,aY hil,aY hib,b0,b1,if_neg b2',b3,fin]
   obtain⟨e,g1,g2,g3⟩:=agC ((a.l[i]).hd 4) ((b.l[i]).hd 4) hb.1;by_cases b4:e=0
   ·subst b4;refine⟨0,?_,.inl rfl,fun h=>absurd h (by omega),fun h=>absurd (g3.2 (h i hil hib (Nat.le_refl i)).r) (by omega)⟩;rw [aT,U3];simp only [t201,zz,LX,LW,c1,c2,c3,aY hil,aY hib,b0,b1,if_neg b2',b3,g1,fin]
   have he:e=1:=by omega
   subst he;by_cases b5:((a.l[i]).hd 5).l.length=((b.l[i]).hd 5).l.length
   case neg=>
    have b5': ¬(((a.l[i]).hd 5).l.length:Int)=(((b.l[i]).hd 5).l.length:Int):=by omega
    refine⟨0,?_,.inl rfl,fun h=>absurd h (by omega),fun h=>absurd (h i hil hib (Nat.le_refl i)).v.1 b5⟩;rw [aT,U3];simp only [t201,zz,LX,LW,c1,c2,c3,aY hil,aY hib,b0,b1,if_neg b2',b3,g1,aA,b5',fin]
   have b5':(((a.l[i]).hd 5).l.length:Int)=(((b.l[i]).hd 5).l.length:Int):=by omega
   obtain⟨f,f1,f2,f3⟩:=Pm ((a.l[i]).hd 5) ((b.l[i]).hd 5) b5 hb.2 (enc a) (enc b) (a.l.length:Int) i (by omega) c h2 h1 ((b.l[i]).hd 0).n ((b.l[i]).hd 1).n ((a.l[i]).hd 2).n ((b.l[i]).hd 3).n (enc ((a.l[i]).hd 4)) ((b.l[i]).hd 0).n ((b.l[i]).hd 1).n ((b.l[i]).hd 2).n ((b.l[i]).hd 3).n (enc ((b.l[i]).hd 4)) ((a.l[i]).hd 5).l.length 0 (by omega);refine⟨f,?_,f2,fun h k k1 k2 k3=>?_,fun h=>f3.2 ⟨(h i hil hib (Nat.le_refl i)).v.2,h3.2 fun k k1 k2 k3=>h k k1 k2 (by omega)⟩⟩
   ·rw [aT,U3];rw [b5'] at f1;simp only [t201,zz,LX,LW,c1,c2,c3,aY hil,aY hib,b0,b1,if_neg b2',b3,g1,aA,b5',fin];exact f1
   ·by_cases hk:k=i
    ·subst hk;exact⟨b0,b1,b2,b3,g3.1 rfl,b5,(f3.1 h).1⟩
    ·exact h3.1 (f3.1 h).2 k k1 k2 (by omega)
end
theorem aeY (a b:D) (hlen:a.l.length≤140737488351232) (hr:TP a): ∃c:Int,L 200 [enc a,enc b]=some [c]∧(c=0∨c=1)∧(c=1↔a.l.length=b.l.length∧XI a b 0):=by
 by_cases hl:a.l.length=b.l.length
 ·obtain⟨c,h1,h2,h3⟩:=PO hl hlen hr a.l.length 0 (by omega);refine⟨c,?_,h2,h3.trans ⟨fun h=> ⟨hl,h⟩,fun h=>h.2⟩⟩;have hl':(a.l.length:Int)=(b.l.length:Int):=by omega
  rw [aT,aCH,atE,dQ,if_pos,oI]
  ·simp only [List.map,bP,gZ,iP,aW,Nat.reduceLT,aO,aQ,aF,fin];exact h1
  ·simp only [iL,gZ,aW,Nat.reduceLT,aO,aQ,aF,iP];exact hl'
 ·refine⟨0,?_,.inl rfl,fun h=>absurd h (by omega),fun h=>absurd h.1 hl⟩;have hl': ¬(a.l.length:Int)=(b.l.length:Int):=by omega
  rw [aT,aCH,atE,dQ,if_neg]
  ·simp only [jR,List.map,bP,fin]
  ·simp only [iL,gZ,aW,Nat.reduceLT,aO,aQ,aF,iP];exact hl'
end Go.As.Try
end
section
namespace Go.As.Try
open Go hiding Stat Spec shape
open Go.As
set_option maxRecDepth 100000
end Go.As.Try
end
section
namespace Go.As.Try
open Go hiding Stat Spec shape
open Go.As
set_option maxRecDepth 100000
theorem ahC {d0:D} (hl:d0.l.length≤64) (hn:0 < d0.l.length):L 301 [enc d0,(d0.l.length:Int)]=some [enc (dL (d0.l.map mP))]:=by
 have e0:=OI d0 hl (d0.l.length - 1) 1 [mP (d0.l[0]'hn)] (by omega) rfl
 have e1:[mP (d0.l[0]'hn)]++(d0.l.drop 1).map mP=d0.l.map mP:=by
  conv=>rhs; rw [← List.drop_zero (l:=d0.l),List.drop_eq_getElem_cons hn]
  rfl
 rw [e1] at e0;have a0:d0.at 0=d0.l[0]'hn:=aY (i:=0) hn;have c1:(0:Int) < (d0.l.length:Int):=by omega
 have key: ∀q:Int,q=(if (((d0.l[0]'hn)).hd 0).n=3∨((d0.l[0]'hn).hd 0).n=9 then ((d0.l[0]'hn).hd 2).n else 0)→enc (dL [mP (d0.l[0]'hn)])=enc (.p (.p (.i (-1)) (.p (.i q) (.p (.i 0) (.p (.i 0) (.p (.i 1) (.p (.i 1) (.i 0))))))) (.i 0)):=fun q hq=>by rw [hq]; rfl
 have k:dY (bQ L (low [enc d0,(d0.l.length:Int)])) Yj= .jump 302 [enc (dL [mP (d0.l[0]'hn)]),enc d0,(d0.l.length:Int),1]:=by
  by_cases h3:((d0.l[0]'hn).hd 0).n=3
  ·rw [key _ (by rw [if_pos (.inl h3)])];simp only [Yj,zz,c1,a0,yK,List.nil_append,h3,dL]
  ·by_cases h9:((d0.l[0]'hn).hd 0).n=9
   ·rw [key _ (by rw [if_pos (.inr h9)])];simp only [Yj,zz,c1,a0,yK,List.nil_append,if_neg h3,if_pos h9,dL]
   ·rw [key 0 (by rw [if_neg (by omega)])];simp only [Yj,zz,c1,a0,yK,List.nil_append,if_neg h3,if_neg h9,dL]
 rw [aT,e301];exact (congrArg (fin L) k).trans e0
theorem arN {d0 d1:D} (hc:L 450 [enc d0,enc d1]=some [0]) (hl:d0.l.length≤64) (hn:0 < d0.l.length):L 300 [enc d0,enc d1]=some [enc (dL (d0.l.map mP))]:=by
 have k:dY (bQ L (low [enc d0,enc d1])) ajK= .jump 301 [enc d0,(d0.l.length:Int)]:=by refine bY [.eq (a0 450 [.aP 0,.aP 1]) (.lit 1),.eq (rr 450 [.aP 0,.aP 1] 0) (.lit 0)] [] (ju 301 [.aP 0,ln (.aP 0)]) (by simp only [zz,hc]) (by kernel_rfl) ?_;simp only [oI,List.map,aW,gZ,Nat.reduceLT,aO,aQ,aF]
 rw [aT,e300];exact (congrArg (fin L) k).trans (ahC hl hn)
theorem arM {d0 d1:D} {c:Int} (hc:L 450 [enc d0,enc d1]=some [c]) (h:c≠0∨d0.l.length=0):L 300 [enc d0,enc d1]=some [enc (.i 1)]:=by
 by_cases h0:c=0
 ·subst h0;have hz:d0.l.length=0:=h.resolve_left (fun h=>h rfl)
  have k:dY (bQ L (low [enc d0,enc d1])) ajK= .jump 301 [enc d0,0]:=by refine bY [.eq (a0 450 [.aP 0,.aP 1]) (.lit 1),.eq (rr 450 [.aP 0,.aP 1] 0) (.lit 0)] [] (ju 301 [.aP 0,ln (.aP 0)]) (by simp only [zz,hc]) (by kernel_rfl) ?_;simp only [oI,List.map,aW,gZ,Nat.reduceLT,aO,aQ,aF,hz];rfl
  have k1:dY (bQ L (low [enc d0,0])) Yj= .out [enc (.i 1)]:=by refine bY [] [.lt (.lit 0) (.aP 1)] (ou [.dat (.i 1)]) (by simp only [zz] <;> omega) (by kernel_rfl) rfl
  rw [aT,e300];refine (congrArg (fin L) k).trans ?_;show L 301 [enc d0,0]=_;rw [aT,e301];exact congrArg (fin L) k1
 ·have k:dY (bQ L (low [enc d0,enc d1])) ajK= .out [enc (.i 1)]:=by
   refine bY [.eq (a0 450 [.aP 0,.aP 1]) (.lit 1)] [.eq (rr 450 [.aP 0,.aP 1] 0) (.lit 0)] (ou [.dat (.i 1)]) (by simp only [zz,hc] <;> omega) (by kernel_rfl) rfl
  rw [aT,e300];exact congrArg (fin L) k
structure Gs (s:D) (n:Nat):Prop where
 wd:Wd (.sl 7) s
 rows: ∀x∈s.l,(x.hd 4).l.length≤n∧(x.hd 5).l.length≤n
theorem Gs.few {s:D} {n:Nat} (h:Gs s n) (hn:n < 17592186044415):few s:=fun x hx=>by have:=h.rows x hx; omega
theorem Gs.mono {s:D} {n m:Nat} (h:Gs s n) (hm:n≤m):Gs s m:=⟨h.wd,fun x hx=>by have:=h.rows x hx; omega⟩
theorem Ph {l:List D} (h: ∀x∈l,Dh x) (hn:l≠[]) (hl:l.length≤1759218604390):Wd (.sl 7) (dL l):=by
 have e:(l.map fun x=>x.l).map dL=l:=by
  rw [List.map_map]
  conv=>rhs; rw [← List.map_id l]
  apply List.map_congr_left;intro x hx;obtain⟨o,c,d,g,r,v,rfl,_⟩:=h x hx;rfl
 rw [← e];refine .many 7 [.int .i64,.int .i64,.bool,.int .i64,.sl 0,.sl 0] _ rfl (by simpa using hn) (by have:vT 7=80:=rfl; rw [this,List.length_map]; omega) (fun r hr=>?_) fun r hr j d c h1 h2=>?_
 ·obtain⟨x,hx,rfl⟩:=List.mem_map.1 hr;obtain⟨o,c,d,g,r,v,rfl,_⟩:=h x hx;rfl
 ·obtain⟨x,hx,rfl⟩:=List.mem_map.1 hr;obtain⟨o,c',d',g,r,v,rfl,ho,hc,hd,hg,hr,hv⟩:=h x hx;rw [aX] at h1
  match j with
  | 0=>simp at h1 h2; subst h1 h2; exact .int _ _ ho
  | 1=>simp at h1 h2; subst h1 h2; exact .int _ _ hc
  | 2=>
    simp at h1 h2; subst h1 h2;rcases hd with rfl | rfl
    ·exact .bool false
    ·exact .bool true
  | 3=>simp at h1 h2; subst h1 h2; exact .int _ _ hg
  | 4=>simp at h1 h2; subst h1 h2; exact hr
  | 5=>simp at h1 h2; subst h1 h2; exact hv
  | j+6=>simp at h1
theorem Tg.thing {x:D} {o c dn g:Int} {r v:D} (T:Tg x o c dn g r v):Dh x:=⟨o,c,dn,g,r,v,T.is,T.ho,T.hc,T.hd,T.hg,T.hr,T.hv⟩
theorem xX {l:List D} {z:Int} {y x:D} (h:x∈fE l z y):x∈l∨x=y:=by
 unfold fE at h;split at h
 ·exact .inl h
 ·exact List.mem_or_eq_of_mem_set h
theorem WO {l:List D} {z:Int} {y:D} {k:Nat} (h:(k:Int)≠z):(fE l z y)[k]?=l[k]?:=by
 unfold fE;split
 ·rfl
 ·rw [List.getElem?_set,if_neg (by omega)]
theorem WQ {l:List D} {k:Nat} {y:D} (h:k < l.length):(fE l (k:Int) y)[k]?=some y:=by rw [xH,List.getElem?_set,if_pos rfl,if_pos h]
theorem Zg {s:D} {n:Nat} (G:Gs s n) {z:Int} {y:D} (hy:Dh y) (h4:(y.hd 4).l.length≤n) (h5:(y.hd 5).l.length≤n) (hn:0 < s.l.length):Gs (dL (fE s.l z y)) n:=by
 have ht:=E5 G.wd hn;refine⟨Ph (fun x hx=>?_) (fun he=>?_) (by rw [fP]; exact ht.few),fun x hx=>?_⟩
 ·rcases xX hx with h | rfl
  ·exact G.wd.thing x h
  ·exact hy
 ·have:=fP s.l z y;rw [he] at this;simp at this;omega
 ·rw [aX] at hx;rcases xX hx with h | rfl
  ·exact G.rows x h
  ·exact⟨h4,h5⟩
theorem alA (s:D) (obj M:Int) (A:Act):(YS s obj M A).l.length=s.l.length:=by
 cases A with
 | blk=>rfl
 | mis=>rfl
 | res o c dn g r v m a oc=>
   unfold YS;rw [aX,fP]
   cases m with
   | none=>rfl
   | some q=>exact fP _ _ _
theorem atW {s:D} {n:Nat} (G:Gs s n) {obj M:Int} {A:Act} (hA:OW (n+1) A) (ho0:0≤obj) (ho1:obj < (s.l.length:Int)) (hM:NoM A∨0≤M∧M < (s.l.length:Int)):Gs (YS s obj M A) (n+1):=by
 have G1:=G.mono (Nat.le_succ n)
 cases A with
 | blk=>exact G1
 | mis=>exact G1
 | res o c dn g r v m a oc=>
   obtain⟨h1,h2,h3,h4,h5,h6,h7,h8,h9,_⟩:=hA
   have hd:(if dn=0 then (0:Int) else 1)=dn:=by rcases h3 with rfl | rfl <;> rfl
   have hy:Dh (dL [.i o,.i c,.i (if dn=0 then 0 else 1),.i g,r,v]):=⟨o,c,_,g,r,v,rfl,h1,h2,by rw [hd]; exact h3,h4,h5,h7⟩
   cases m with
   | none=>exact Zg G1 hy h6 h8 (by omega)
   | some q=>
     have hM:0≤M∧M < (s.l.length:Int):=hM.resolve_left (fun h=>by simp [NoM] at h);obtain⟨k,rfl⟩ : ∃k:Nat,M=(k:Int):=⟨M.toNat,by omega⟩;have hk:k < s.l.length:=by omega
     obtain⟨o',c',d',g',r',v',he,q1,q2,q3,q4,q5,q6⟩:=G.wd.thing _ (List.getElem_mem hk);have hrw:=G1.rows _ (List.getElem_mem hk);rw [he] at hrw;have hz:dL (fE (s.at (k:Int)).l 0 (.i q))=dL [.i q,.i c',.i d',.i g',r',v']:=by rw [aY hk,he]; rfl
     have G2:Gs (dL (fE s.l (k:Int) (dL (fE (s.at (k:Int)).l 0 (.i q))))) (n+1):=by rw [hz];exact Zg G1 ⟨q,c',d',g',r',v',rfl,h9 q rfl,q2,q3,q4,q5,q6⟩ hrw.1 hrw.2 (by omega)
     have:=Zg (z:=obj) G2 hy h6 h8 (by rw [aX,fP]; omega);rw [aX] at this;exact this
def evA (th op obj:Int):Act→List Int
 | .blk=>[0,0,0,0,0,0]
 | .mis=>[th,27,obj,IntKind.i64.wrap op,0,2]
 | .res _ _ _ _ _ _ _ a oc=>[th,op,obj,a,0,oc]
theorem abW (s:D) (th op obj M:Int) (A:Act):outA s th op obj M A=enc (YS s obj M A) :: evA th op obj A:=by cases A <;> rfl
end Go.As.Try
end
section
namespace Go.As.Try
open Go hiding Stat Spec shape
open Go.As
set_option maxRecDepth 100000
theorem z6:((2:Int)=1)=False∧((4:Int)=3)=False∧((5:Int)=3)=False∧((5:Int)=4)=False∧((6:Int)=3)=False∧((6:Int)=4)=False∧((6:Int)=5)=False∧((7:Int)=3)=False∧((7:Int)=4)=False∧((7:Int)=5)=False∧((7:Int)=6)=False:=by simp
structure KT where
 a:Int
 lc:D
 w:Int
 o:Int
 g:Int
 tr:Int
abbrev KT.d (x:KT):D:=dL [.i x.a,x.lc,.i x.w,.i x.o,.i x.g,.i x.tr]
structure Cd (d0 d1:D):Prop where
 h0:Wd (.sl 3) d0
 h1:Wd (.sl 4) d1
 ok:Ew d0 d1
 ins: ∀x∈d1.l,acS d0 x
theorem MR.code {d0 d1 s k:D} (h0:Wd (.sl 3) d0) (h1:Wd (.sl 4) d1) (hr:Em s) (M:MR d0 d1 s k):Cd d0 d1∧s.l.length=d0.l.length:=by obtain⟨b,hb,_,hi⟩:=qZ h0 h1 hr;rw [M.1] at hb;simp only [Option.some.injEq,List.cons.injEq,and_true] at hb;obtain⟨hC,hle,_⟩:=hi.1 hb.symm;obtain⟨ys,hC',c,rfl,_,hok⟩:=Dy h0 h1;rw [hC] at hC';simp only [Option.some.injEq,List.cons.injEq,and_true] at hC';have:=hok hC'.symm;exact⟨⟨h0,h1,this.1,this.2⟩,hle⟩
structure Rt (d0 d1:D) (t:Int) (x:KT):Prop where
 t0:0≤t
 t1:t < (d1.l.length:Int)
 ok:OkT d0 ((d1.at t).hd 1).l.length ((d1.at t).hd 2).l.length x.a x.lc.l.length x.w x.o x.g x.tr
 hl:Wd (.sl 0) x.lc
 hg:iM .i64 x.g
abbrev Ins (d1:D) (t:Int) (x:KT):D:=((d1.at t).hd 2).at x.a
abbrev Nc (d1:D) (t:Int):Nat:=((d1.at t).hd 2).l.length
structure InF (d0:D) (nl nc:Nat) (I:D):Prop where
 ok:OkI d0 nl nc (I.hd 0).n (I.hd 1).n (I.hd 2).n (I.hd 3).n (I.hd 4).n (I.hd 6).l.length
 op:iM .u8 (I.hd 1).n
 ob:iM .i64 (I.hd 2).n
 to:iM .i64 (I.hd 4).n
 nn:iM .i64 (I.hd 5).n
 ar:Wd (.sl 6) (I.hd 6)
theorem Cd.at {d0 d1:D} (C:Cd d0 d1) {t:Int} (t0:0≤t) (t1:t < (d1.l.length:Int)):d1.at t∈d1.l:=by obtain⟨i,rfl⟩ : ∃i:Nat,t=(i:Int):=⟨t.toNat,by omega⟩;rw [aY (by omega:i < d1.l.length)];exact List.getElem_mem _
theorem alT {d:D} {i:Int} (h0:0≤i) (h1:i < (d.l.length:Int)):d.at i∈d.l:=by obtain⟨k,rfl⟩ : ∃k:Nat,i=(k:Int):=⟨i.toNat,by omega⟩;rw [aY (by omega:k < d.l.length)];exact List.getElem_mem _
theorem Cd.code {d0 d1:D} (C:Cd d0 d1) {t:Int} (t0:0≤t) (t1:t < (d1.l.length:Int)):Wd (.sl 5) ((d1.at t).hd 2):=by
 obtain⟨i,rfl⟩ : ∃i:Nat,t=(i:Int):=⟨t.toNat,by omega⟩;have hi:i < d1.l.length:=by omega
 obtain⟨nm',lc,cd,he,_,_,h⟩:=E8 C.h1 hi;rw [aY hi,he];exact h
theorem Cd.inf {d0 d1:D} (C:Cd d0 d1) {t:Int} {x:KT} (R:Rt d0 d1 t x) (h:x.a < (Nc d1 t:Int)):InF d0 ((d1.at t).hd 1).l.length (Nc d1 t) (Ins d1 t x):=by
 have ha:=R.ok.1;have h1:=C.ins _ (C.at R.t0 R.t1) (Ins d1 t x) (alT ha h);obtain⟨i,hi⟩ : ∃i:Nat,x.a=(i:Int):=⟨x.a.toNat,by omega⟩;have hil:i < ((d1.at t).hd 2).l.length:=by unfold Nc at h; omega
 obtain⟨a,b,c,e,f,g,OY,he,_,hb,hc,_,hf,hg,hw⟩:=Zb (C.code R.t0 R.t1) hil;have hI:Ins d1 t x=dL [.i a,.i b,.i c,.i e,.i f,.i g,OY]:=by unfold Ins; rw [hi,aY hil,he]
 refine⟨h1,?_,?_,?_,?_,?_⟩
 all_goals
  rw [hI];simp only [zg,Option.getD_some,n_i];assumption
theorem Rt.ints {d0 d1:D} {t:Int} {x:KT} (R:Rt d0 d1 t x):Ints x.lc:=fun y hy=>by obtain⟨n,rfl,hn⟩:=(R.hl.el1 rfl y hy).i;exact hn
section
variable {d0 d1 s k:D} {t:Int} {x:KT} (hk:k.at t=x.d) (ht:t < (k.l.length:Int)) (R:Rt d0 d1 t x)
include hk ht R
def jM (d1:D) (t:Int) (x:KT):Int:=if x.w=0 then (if x.a=(Nc d1 t:Int) then 1 else 0) else 0
theorem yX:L 1650 [enc d0,enc d1,enc s,enc k,t]=some [jM d1 t x]:=by
 have c1: ¬t < 0:=by have:=R.t0; omega
 have c2:=R.t1;unfold jM Nc;rw [aT,aAa];simp only [ajO,zz,hk,c1,ht,c2,zg];by_cases w0:x.w=0
 ·simp only [w0,if_true];by_cases a0:x.a=(((d1.at t).hd 2).l.length:Int)
  ·simp only [a0,if_true];rfl
  ·simp only [a0,if_false];rfl
 ·simp only [w0,if_false];rfl
end
noncomputable def ev (e lc:D):Int:=low ((L 1950 [(e.hd 0).n,enc (e.hd 1),(e.hd 2).n,enc (e.hd 3),enc lc]).getD []) 0
theorem WW {IU lc:D} (ha:Wd (.sl 6) IU) (hl:Ints lc) {i:Int} (i0:0≤i) (i1:i < (IU.l.length:Int)):L 1950 [((IU.at i).hd 0).n,enc ((IU.at i).hd 1),((IU.at i).hd 2).n,enc ((IU.at i).hd 3),enc lc]=some [ev (IU.at i) lc]∧iM .i64 (ev (IU.at i) lc):=by
 obtain⟨j,rfl⟩ : ∃j:Nat,i=(j:Int):=⟨i.toNat,by omega⟩;have hj:j < IU.l.length:=by omega
 obtain⟨k',s',n',ks',he,_,_,hn',h2⟩:=Dp ha hj;obtain⟨ys,hL,v,rfl,hv⟩:=WV _ ks' (Nat.le_refl _) h2 k' n' s' lc hn' hl;have e1:IU.at (j:Int)=dL [.i k',s',.i n',ks']:=by rw [aY hj,he]
 unfold ev;rw [e1];simp only [zg,Option.getD_some,n_i,hL,aO];exact⟨trivial,hv⟩
noncomputable def XB (IU lc:D):Int:=if IU.l.length=0 then 0 else ev (IU.at ((IU.l.length:Int) - 1)) lc
theorem axF {IU lc:D} (ha:Wd (.sl 6) IU) (hl:Ints lc):iM .i64 (XB IU lc):=by
 unfold XB;split
 ·constructor <;> omega
 ·exact (WW ha hl (by omega) (by omega)).2
theorem QN {IU lc:D} (ha:Wd (.sl 6) IU) (hl:Ints lc) (x3 x5 x6 x7 x8 x9 x10:Int): ∀(j i:Nat) (v:Int),i+j=IU.l.length→L 1751 [enc IU,(IU.l.length:Int),(i:Int),x3,enc lc,x5,x6,x7,x8,x9,x10,v]=some [x9,x10,if j=0 then v else XB IU lc,x8,1]
 | 0,i,v,hi=>by
   have c1: ¬(i:Int) < (IU.l.length:Int):=by omega
   rw [aT,apE];simp only [abG,zz,c1,aK,if_true]
 | j+1,i,v,hi=>by
   have hr:=ha.len;have c1:(i:Int) < (IU.l.length:Int):=by omega
   have c2: ¬((i:Int) < 0):=by omega
   have w:=aZ (n:=i) (by omega);obtain⟨he,_⟩:=WW ha hl (i:=(i:Int)) (by omega) c1;have ih:=QN ha hl x3 x5 x6 x7 x8 x9 x10 j (i+1) (ev (IU.at (i:Int)) lc) (by omega);rw [aT,apE];simp only [abG,zz,c1,c2,w,he,aH];rw [ih,if_neg (Nat.succ_ne_zero j)];by_cases hj:j=0
   ·subst hj;rw [if_pos rfl];unfold XB;rw [if_neg (by omega),show ((IU.l.length:Int) - 1)=(i:Int) by omega]
   ·rw [if_neg hj]
noncomputable def oV (d1:D) (t:Int) (x:KT):List Int:=
 if x.w=0 then
  if x.a=(Nc d1 t:Int) then [0,0,0,0,0]
  else if ((Ins d1 t x).hd 0).n=1 then [((Ins d1 t x).hd 1).n,((Ins d1 t x).hd 2).n,XB ((Ins d1 t x).hd 6) x.lc,x.tr,1]
  else if ((Ins d1 t x).hd 0).n=2 then [26,((Ins d1 t x).hd 2).n,0,0,1]
  else [0,0,0,0,0]
 else [x.w,x.o,x.g,0,1]
section
variable {d0 d1 s k:D} {t:Int} {x:KT} (C:Cd d0 d1) (hk:k.at t=x.d) (ht:t < (k.l.length:Int)) (R:Rt d0 d1 t x)
include C hk ht R
theorem Ue:L 1750 [enc d0,enc d1,enc s,enc k,t]=some (oV d1 t x):=by
 have c1: ¬t < 0:=by have:=R.t0; omega
 have c2:=R.t1;have c3: ¬x.a < 0:=by have:=R.ok.1; omega
 have ho:=yX (s:=s) hk ht R;unfold oV;rw [aT,azZ];by_cases w0:x.w=0
 ·by_cases a0:x.a=(Nc d1 t:Int)
  ·have e:jM d1 t x=1:=by unfold jM; rw [if_pos w0,if_pos a0]
   rw [e] at ho;rw [if_pos w0,if_pos a0];simp only [Lp,zz,hk,c1,ht,c2,zg,w0,ho,aA,aK]
  ·have e:jM d1 t x=0:=by unfold jM; rw [if_pos w0,if_neg a0]
   rw [e] at ho;have hlt:x.a < (Nc d1 t:Int):=by have:=R.ok.2.1; unfold Nc at a0 ⊢; omega
   have F:=C.inf R hlt;rw [if_pos w0,if_neg a0];unfold Ins at F ⊢;unfold Nc at hlt;by_cases h1:((((d1.at t).hd 2).at x.a).hd 0).n=1
   ·rw [if_pos h1];have lp:=QN F.ar R.ints x.a x.w x.o x.g x.tr ((((d1.at t).hd 2).at x.a).hd 1).n ((((d1.at t).hd 2).at x.a).hd 2).n ((((d1.at t).hd 2).at x.a).hd 6).l.length 0 0 (by omega)
    have e2:(if ((((d1.at t).hd 2).at x.a).hd 6).l.length=0 then 0 else XB ((((d1.at t).hd 2).at x.a).hd 6) x.lc)=XB ((((d1.at t).hd 2).at x.a).hd 6) x.lc:=by
     by_cases hz:((((d1.at t).hd 2).at x.a).hd 6).l.length=0
     ·rw [if_pos hz]; unfold XB; rw [if_pos hz]
     ·rw [if_neg hz]
    rw [e2] at lp;simp only [Lp,zz,hk,c1,ht,c2,c3,zg,w0,ho,hlt,h1,aH];rw [w0] at lp;exact lp
   ·by_cases h2:((((d1.at t).hd 2).at x.a).hd 0).n=2
    ·rw [if_neg h1,if_pos h2];simp only [Lp,zz,hk,c1,ht,c2,c3,zg,w0,ho,hlt,h2,aK,if_false,z6]
    ·rw [if_neg h1,if_neg h2];simp only [Lp,zz,hk,c1,ht,c2,c3,zg,w0,ho,hlt,h1,h2,aK]
 ·rw [if_neg w0];simp only [Lp,zz,hk,c1,ht,zg,w0,aK]
end
noncomputable def AL (I:D) (x:KT):KT:=
 if (I.hd 0).n=3 then { x with a:=x.a+1,lc:=dL (fE x.lc.l (I.hd 3).n (.i (ev ((I.hd 6).at 0) x.lc))) }
 else if (I.hd 0).n=4 then (if ev ((I.hd 6).at 0) x.lc=0 then { x with a:=(I.hd 4).n } else { x with a:=x.a+1 })
 else if (I.hd 0).n=5 then { x with a:=(I.hd 4).n }
 else if (I.hd 0).n=6 then { x with a:=x.a+1,lc:=dL (fE x.lc.l (I.hd 3).n (.i (I.hd 5).n)) }
 else if 0 < (x.lc.at (I.hd 3).n).n then { x with a:=x.a+1,lc:=dL (fE x.lc.l (I.hd 3).n (.i (IntKind.i64.wrap ((x.lc.at (I.hd 3).n).n - 1)))) }
 else { x with a:=(I.hd 4).n }
structure Loc (d1:D) (t:Int) (x:KT):Prop where
 w:x.w=0
 a:x.a < (Nc d1 t:Int)
 n1:((Ins d1 t x).hd 0).n≠1
 n2:((Ins d1 t x).hd 0).n≠2
theorem amB {d0 d1:D} {t:Int} {x:KT} (R:Rt d0 d1 t x) (ho:jM d1 t x=0) (hn:low (oV d1 t x) 4=0):Loc d1 t x:=by
 unfold jM at ho;unfold oV at hn;have h2:=R.ok.2.1;by_cases w0:x.w=0
 ·rw [if_pos w0] at ho hn;by_cases a0:x.a=(Nc d1 t:Int)
  ·rw [if_pos a0] at ho;omega
  ·rw [if_neg a0] at hn;by_cases h1:((Ins d1 t x).hd 0).n=1
   ·rw [if_pos h1] at hn;simp only [aQ,aO] at hn;omega
   ·by_cases h2':((Ins d1 t x).hd 0).n=2
    ·rw [if_neg h1,if_pos h2'] at hn;simp only [aQ,aO] at hn;omega
    ·exact⟨w0,by unfold Nc at a0 ⊢; omega,h1,h2'⟩
 ·rw [if_neg w0] at hn;simp only [aQ,aO] at hn;omega
section
variable {d0 d1 s k:D} {t:Int} {x:KT} (C:Cd d0 d1) (ht:t < (k.l.length:Int)) (R:Rt d0 d1 t x) (Lc:Loc d1 t x)
include C ht R Lc
theorem amA:L 14000 [enc d0,enc d1,t,enc s,enc k,x.a,enc x.lc,x.w,x.o,x.g,x.tr]=some [0,enc d0,enc d1,t,enc s,enc k,x.a,enc x.lc,x.w,x.o,x.g,x.tr,(AL (Ins d1 t x) x).a,enc (AL (Ins d1 t x) x).lc]:=by
 have c1: ¬t < 0:=by have:=R.t0; omega
 have c2:=R.t1;have c3: ¬x.a < 0:=by have:=R.ok.1; omega
 have c4:=Lc.a;have F:=C.inf R c4;have hln:(x.lc.l.length:Int)=(((d1.at t).hd 1).l.length:Int):=R.ok.2.2.1;have hnc:((d1.at t).hd 2).l.length≤140737488351232:=(C.code R.t0 R.t1).len;have n1:=Lc.n1;have n2:=Lc.n2
 have hw:IntKind.i64.wrap (x.a+1)=x.a+1:=by refine nU (by omega) ?_;unfold Nc at c4;omega
 have E:=WW F.ar R.ints (i:=0);have ok:=F.ok;unfold Ins at n1 n2 ok E ⊢;unfold Nc at c4;rw [aT,apQ];unfold AL;rcases ok with h | h | ⟨h,i0,i1,na⟩ | ⟨h,_,_,na⟩ | ⟨h,_⟩ | ⟨h,i0,i1⟩ | ⟨h,i0,i1,_⟩
 ·exact absurd h.1 n1
 ·exact absurd h.1 n2
 ·have c5: ¬(((((d1.at t).hd 2).at x.a).hd 3).n < 0):=by omega
  have c6:(((((d1.at t).hd 2).at x.a).hd 3).n < (x.lc.l.length:Int)):=by omega
  have c7:(0:Int) < (((((d1.at t).hd 2).at x.a).hd 6).l.length:Int):=by omega
  obtain⟨E,_⟩:=E (by omega) c7;simp only [yP,zz,c1,ht,c2,c3,c4,c5,c6,c7,h,E,hw,aK]
 ·have c7:(0:Int) < (((((d1.at t).hd 2).at x.a).hd 6).l.length:Int):=by omega
  obtain⟨E,_⟩:=E (by omega) c7;by_cases hz:ev (((((d1.at t).hd 2).at x.a).hd 6).at 0) x.lc=0
  ·simp only [yP,zz,c1,ht,c2,c3,c4,c7,h,E,hw,hz,aK,z6]
  ·simp only [yP,zz,c1,ht,c2,c3,c4,c7,h,E,hw,hz,aK,z6]
 ·simp only [yP,zz,c1,ht,c2,c3,c4,h,hw,aK,z6]
 ·have c5: ¬(((((d1.at t).hd 2).at x.a).hd 3).n < 0):=by omega
  have c6:(((((d1.at t).hd 2).at x.a).hd 3).n < (x.lc.l.length:Int)):=by omega
  simp only [yP,zz,c1,ht,c2,c3,c4,c5,c6,h,hw,aK,z6]
 ·have c5: ¬(((((d1.at t).hd 2).at x.a).hd 3).n < 0):=by omega
  have c6:(((((d1.at t).hd 2).at x.a).hd 3).n < (x.lc.l.length:Int)):=by omega
  by_cases hz:0 < (x.lc.at ((((d1.at t).hd 2).at x.a).hd 3).n).n
  ·simp only [yP,zz,c1,ht,c2,c3,c4,c5,c6,h,hw,hz,aK,z6]
  ·simp only [yP,zz,c1,ht,c2,c3,c4,c5,c6,h,hw,hz,aK,z6]
theorem alZ (hz:x.lc.l.length=0):L 14050 [enc d0,enc d1,t,enc s,enc k,x.a,enc x.lc,x.w,x.o,x.g,x.tr]=some [0,enc d0,enc d1,t,enc s,enc k,x.a,enc x.lc,x.w,x.o,x.g,x.tr,(AL (Ins d1 t x) x).a]∧(AL (Ins d1 t x) x).lc=x.lc:=by
 have c1: ¬t < 0:=by have:=R.t0; omega
 have c2:=R.t1;have c3: ¬x.a < 0:=by have:=R.ok.1; omega
 have c4:=Lc.a;have F:=C.inf R c4;have hln:(x.lc.l.length:Int)=(((d1.at t).hd 1).l.length:Int):=R.ok.2.2.1;have hnc:((d1.at t).hd 2).l.length≤140737488351232:=(C.code R.t0 R.t1).len;have n1:=Lc.n1;have n2:=Lc.n2
 have hw:IntKind.i64.wrap (x.a+1)=x.a+1:=by refine nU (by omega) ?_;unfold Nc at c4;omega
 have E:=WW F.ar R.ints (i:=0);have ok:=F.ok;unfold Ins at n1 n2 ok E ⊢;unfold Nc at c4;rw [aT,apP];unfold AL;rcases ok with h | h | ⟨h,i0,i1,na⟩ | ⟨h,_,_,na⟩ | ⟨h,_⟩ | ⟨h,i0,i1⟩ | ⟨h,i0,i1,_⟩
 ·exact absurd h.1 n1
 ·exact absurd h.1 n2
 ·omega
 ·have c7:(0:Int) < (((((d1.at t).hd 2).at x.a).hd 6).l.length:Int):=by omega
  obtain⟨E,_⟩:=E (by omega) c7;by_cases hz:ev (((((d1.at t).hd 2).at x.a).hd 6).at 0) x.lc=0
  ·simp only [Lu,zz,c1,ht,c2,c3,c4,c7,h,E,hw,hz,aK,z6]
  ·simp only [Lu,zz,c1,ht,c2,c3,c4,c7,h,E,hw,hz,aK,z6]
 ·simp only [Lu,zz,c1,ht,c2,c3,c4,h,hw,aK,z6]
 ·omega
 ·omega
theorem alY:Rt d0 d1 t (AL (Ins d1 t x) x)∧(AL (Ins d1 t x) x).lc.l.length=x.lc.l.length:=by
 have c4:=Lc.a;have F:=C.inf R c4;obtain⟨a0,a1,hln,tr0,tr1,hw⟩:=R.ok;have n1:=Lc.n1;have n2:=Lc.n2;have ok:=F.ok;have hI:=R.ints
 have hwd: ∀{z v:Int},0≤z→z < (x.lc.l.length:Int)→iM .i64 v→Wd (.sl 0) (dL (fE x.lc.l z (.i v))):=fun {z v} h0 h1 hv=>by
  have:=R.hl.room;have h3:vT 0=8:=rfl;rw [h3] at this;have hs:=fP x.lc.l z (.i v);refine yL (fun y hy=>?_) (fun he=>?_) (by rw [hs]; omega)
  ·rcases xX hy with h | rfl
   ·exact (R.hl.el1 rfl y h).i
   ·exact⟨v,rfl,hv⟩
  ·rw [he] at hs;simp only [List.length_nil] at hs;omega
 have hsl: ∀z v,(dL (fE x.lc.l z v)).l.length=x.lc.l.length:=fun z v=>by rw [aX,fP]
 have T:=R.t0;have T':=R.t1;unfold Nc at c4 ok F;unfold AL;have go: ∀{a:Int} {lc:D},0≤a→a≤(((d1.at t).hd 2).l.length:Int)→lc.l.length=x.lc.l.length→Wd (.sl 0) lc→Rt d0 d1 t { x with a:=a,lc:=lc }∧({ x with a:=a,lc:=lc }:KT).lc.l.length=x.lc.l.length:=fun h0 h1 h2 h3=> ⟨⟨T,T',⟨h0,h1,by rw [h2]; exact hln,tr0,tr1,hw⟩,h3,R.hg⟩,h2⟩;rcases ok with h | h | ⟨h,i0,i1,na⟩ | ⟨h,t0,t1,na⟩ | ⟨h,t0,t1⟩ | ⟨h,i0,i1⟩ | ⟨h,i0,i1,t0,t1⟩
 ·exact absurd h.1 n1
 ·exact absurd h.1 n2
 ·rw [if_pos h];exact go (by omega) (by omega) (hsl _ _) (hwd i0 (by omega) (WW F.ar hI (by omega) (by omega)).2)
 ·rw [if_neg (by omega),if_pos h];split
  ·exact go t0 t1 rfl R.hl
  ·exact go (by omega) (by omega) rfl R.hl
 ·rw [if_neg (by omega),if_neg (by omega),if_pos h];exact go t0 t1 rfl R.hl
 ·rw [if_neg (by omega),if_neg (by omega),if_neg (by omega),if_pos h];exact go (by omega) (by omega) (hsl _ _) (hwd i0 (by omega) F.nn)
 ·rw [if_neg (by omega),if_neg (by omega),if_neg (by omega),if_neg (by omega)];split
  ·exact go (by omega) (by omega) (hsl _ _) (hwd i0 (by omega) (wrap_in _))
  ·exact go t0 t1 rfl R.hl
end
end Go.As.Try
end
section
namespace Go.As.Try
open Go hiding Stat Spec shape
open Go.As
set_option maxRecDepth 100000
theorem z5:(∀p:Prop,(p∧False)=False)∧(∀p:Prop,(False∧p)=False)∧(¬True)=False∧(∀p:Prop,(p∧p)=p)∧(∀(a:Int) (l m:List Int),(a :: l)++m=a :: (l++m))∧(∀l:List Int,[]++l=l)∧((16:Int)=15)=False∧((3:Int)=0)=False∧((15:Int)=16)=False∧(∀ys:List Int,fin L (.out ys)=some ys):=
 ⟨and_false,false_and,not_true_eq_false,and_self,fun _ _ _=>rfl,fun _=>rfl,by simp,by simp,by simp,fun _=>rfl⟩
def ahH:Act→Prop
 | .res _ _ _ _ _ _ _ a _=>iM .i64 a
 | _=>True
theorem ahH.ite {p:Prop} [Decidable p] {a b:Act} (ha:ahH a) (hb:ahH b):ahH (if p then a else b):=by
 split
 ·exact ha
 ·exact hb
theorem ahT {r:D} (h:Wd (.sl 0) r) (i:Nat):iM .i64 (r.at (i:Int)).n:=by
 by_cases hi:i < r.l.length
 ·rw [aY hi];obtain⟨n,hn,hk⟩:=(h.el1 rfl _ (List.getElem_mem hi)).i;rw [hn];exact hk
 ·rw [IL,List.getElem?_eq_none (by omega)];constructor <;> (simp only [Option.getD_none,n_i]; omega)
theorem aEY {y:D} {M mo th op arg tries o c dn g:Int} {r v:D} (T:Tg y o c dn g r v) (hr:r.l.length≤140737488351232) (ha:iM .i64 arg):ahH (act M mo th op arg tries o c dn g r v):=by
 have hz:iM .i64 0:=⟨by omega,by omega⟩;have h1:iM .i64 1:=⟨by omega,by omega⟩;have w:=@wrap_in;have hv:=ahT T.hv 0;have hl:iM .i64 (r.l.length:Int):=⟨by omega,by omega⟩;unfold act
 repeat' refine ahH.ite ?_ ?_
 all_goals first
  | trivial
  | exact hz
  | exact h1
  | exact w _
  | exact T.hc
  | exact ha
  | exact T.hg
  | exact hv
  | exact hl
def xA (I:D) (x:KT) (op e2 e3 e4 oc:Int):KT:=
 if oc=0 then (if op=4 then { x with tr:=if 4611686018427387904 < x.tr+1 then 4611686018427387904 else x.tr+1 } else x)
 else if x.w=0 then
  { a:=if (I.hd 0).n=1∧(I.hd 1).n=16∧¬(e2=16∧e4=1) then (I.hd 4).n else x.a+1,lc:=if (I.hd 0).n=1∧¬(I.hd 3).n < 0 then dL (fE x.lc.l (I.hd 3).n (.i e4)) else x.lc,w:=if oc=3 then (if e2=15 then 25 else 24) else 0,o:=if oc=3 then e3 else x.o,g:=if oc=3∧e2=15 then e4 else x.g,tr:=0 }
 else { x with w:=0,o:=0,g:=0,tr:=0 }
def evT (e1 e2 e3 e4 e5 oc:Int):List Int:=if oc=0 then [0,0,0,0,0] else [e1,e2,e3,e4,e5]
section
variable {d0 d1 s s' k:D} {t op obj arg tries e1 e2 e3 e4 e5 oc:Int} {x:KT} (C:Cd d0 d1) (ht:t < (k.l.length:Int)) (R:Rt d0 d1 t x)
 (hA:L 400 [enc d0,enc d1,enc s,t,op,obj,arg,tries]=some [enc s',e1,e2,e3,e4,e5,oc]) (h0:oc=0→s'=s) (hx:x.w=0→x.a < (Nc d1 t:Int))
include C ht R hA h0 hx
set_option maxHeartbeats 4000000 in
theorem aiC:L 14500 [enc d0,enc d1,t,op,obj,arg,tries,enc s,enc k,x.a,enc x.lc,x.w,x.o,x.g,x.tr]=some (0 :: enc d0 :: enc d1 :: t :: op :: obj :: arg :: tries :: enc s :: enc k :: x.a :: enc x.lc :: x.w :: x.o :: x.g :: x.tr :: (evT e1 e2 e3 e4 e5 oc++ [oc,enc s',(xA (Ins d1 t x) x op e2 e3 e4 oc).a,enc (xA (Ins d1 t x) x op e2 e3 e4 oc).lc,(xA (Ins d1 t x) x op e2 e3 e4 oc).w,(xA (Ins d1 t x) x op e2 e3 e4 oc).o,(xA (Ins d1 t x) x op e2 e3 e4 oc).g,(xA (Ins d1 t x) x op e2 e3 e4 oc).tr])):=by
 have c1: ¬t < 0:=by have:=R.t0; omega
 have c2:=R.t1;have c3: ¬x.a < 0:=by have:=R.ok.1; omega
 have q0:=R.ok.2.2.2.1;have q1:=R.ok.2.2.2.2.1;have wt:IntKind.i64.wrap (x.tr+1)=x.tr+1:=nU (by omega) (by omega);rw [aT,apN];unfold xA evT;by_cases o0:oc=0
 ·have hs:=h0 o0;subst hs;subst o0;by_cases p4:op=4
  ·subst p4;by_cases pt:4611686018427387904 < x.tr+1
   ·simp only [fD,zz,hA,c1,ht,wt,pt,aK,if_true,eq_self,List.cons_append,List.nil_append]
   ·simp only [fD,zz,hA,c1,ht,wt,pt,aK,if_true,eq_self,if_false,List.cons_append,List.nil_append]
  ·simp only [fD,zz,hA,c1,ht,p4,aK,if_true,if_false,List.cons_append,List.nil_append]
 ·by_cases w0:x.w=0
  ·have c4:=hx w0;have F:=C.inf R c4;have ok:=F.ok;have hln:(x.lc.l.length:Int)=(((d1.at t).hd 1).l.length:Int):=R.ok.2.2.1;have hnc:((d1.at t).hd 2).l.length≤140737488351232:=(C.code R.t0 R.t1).len;unfold Nc at c4;have hw:IntKind.i64.wrap (x.a+1)=x.a+1:=nU (by omega) (by omega);unfold OkI Ins at ok;unfold Ins;by_cases n1:((((d1.at t).hd 2).at x.a).hd 0).n=1
   ·have hin:((((d1.at t).hd 2).at x.a).hd 3).n= -1∨0≤((((d1.at t).hd 2).at x.a).hd 3).n∧((((d1.at t).hd 2).at x.a).hd 3).n < (x.lc.l.length:Int):=by
     rw [hln];omega
    by_cases i0:((((d1.at t).hd 2).at x.a).hd 3).n < 0
    ·by_cases p16:((((d1.at t).hd 2).at x.a).hd 1).n=16
     ·by_cases q16:e2=16
      ·by_cases q4:e4=1
       ·by_cases q3:oc=3
        ·simp only [fD,zz,hA,c1,ht,c2,c3,c4,o0,w0,hw,n1,i0,p16,q16,q4,q3,z5]
        ·simp only [fD,zz,hA,c1,ht,c2,c3,c4,o0,w0,hw,n1,i0,p16,q16,q4,q3,z5]
       ·by_cases q3:oc=3
        ·simp only [fD,zz,hA,c1,ht,c2,c3,c4,o0,w0,hw,n1,i0,p16,q16,q4,q3,z5]
        ·simp only [fD,zz,hA,c1,ht,c2,c3,c4,o0,w0,hw,n1,i0,p16,q16,q4,q3,z5]
      ·by_cases yV:e2=15
       ·by_cases q3:oc=3
        ·simp only [fD,zz,hA,c1,ht,c2,c3,c4,o0,w0,hw,n1,i0,p16,q16,yV,q3,z5]
        ·simp only [fD,zz,hA,c1,ht,c2,c3,c4,o0,w0,hw,n1,i0,p16,q16,yV,q3,z5]
       ·by_cases q3:oc=3
        ·simp only [fD,zz,hA,c1,ht,c2,c3,c4,o0,w0,hw,n1,i0,p16,q16,yV,q3,z5]
        ·simp only [fD,zz,hA,c1,ht,c2,c3,c4,o0,w0,hw,n1,i0,p16,q16,yV,q3,z5]
     ·by_cases yV:e2=15
      ·by_cases q3:oc=3
       ·simp only [fD,zz,hA,c1,ht,c2,c3,c4,o0,w0,hw,n1,i0,p16,yV,q3,z5]
       ·simp only [fD,zz,hA,c1,ht,c2,c3,c4,o0,w0,hw,n1,i0,p16,yV,q3,z5]
      ·by_cases q3:oc=3
       ·simp only [fD,zz,hA,c1,ht,c2,c3,c4,o0,w0,hw,n1,i0,p16,yV,q3,z5]
       ·simp only [fD,zz,hA,c1,ht,c2,c3,c4,o0,w0,hw,n1,i0,p16,yV,q3,z5]
    ·have i1:((((d1.at t).hd 2).at x.a).hd 3).n < (x.lc.l.length:Int):=by omega
     by_cases p16:((((d1.at t).hd 2).at x.a).hd 1).n=16
     ·by_cases q16:e2=16
      ·by_cases q4:e4=1
       ·by_cases q3:oc=3
        ·simp only [fD,zz,hA,c1,ht,c2,c3,c4,o0,w0,hw,n1,i0,i1,p16,q16,q4,q3,z5]
        ·simp only [fD,zz,hA,c1,ht,c2,c3,c4,o0,w0,hw,n1,i0,i1,p16,q16,q4,q3,z5]
       ·by_cases q3:oc=3
        ·simp only [fD,zz,hA,c1,ht,c2,c3,c4,o0,w0,hw,n1,i0,i1,p16,q16,q4,q3,z5]
        ·simp only [fD,zz,hA,c1,ht,c2,c3,c4,o0,w0,hw,n1,i0,i1,p16,q16,q4,q3,z5]
      ·by_cases yV:e2=15
       ·by_cases q3:oc=3
        ·simp only [fD,zz,hA,c1,ht,c2,c3,c4,o0,w0,hw,n1,i0,i1,p16,q16,yV,q3,z5]
        ·simp only [fD,zz,hA,c1,ht,c2,c3,c4,o0,w0,hw,n1,i0,i1,p16,q16,yV,q3,z5]
       ·by_cases q3:oc=3
        ·simp only [fD,zz,hA,c1,ht,c2,c3,c4,o0,w0,hw,n1,i0,i1,p16,q16,yV,q3,z5]
        ·simp only [fD,zz,hA,c1,ht,c2,c3,c4,o0,w0,hw,n1,i0,i1,p16,q16,yV,q3,z5]
     ·by_cases yV:e2=15
      ·by_cases q3:oc=3
       ·simp only [fD,zz,hA,c1,ht,c2,c3,c4,o0,w0,hw,n1,i0,i1,p16,yV,q3,z5]
       ·simp only [fD,zz,hA,c1,ht,c2,c3,c4,o0,w0,hw,n1,i0,i1,p16,yV,q3,z5]
      ·by_cases q3:oc=3
       ·simp only [fD,zz,hA,c1,ht,c2,c3,c4,o0,w0,hw,n1,i0,i1,p16,yV,q3,z5]
       ·simp only [fD,zz,hA,c1,ht,c2,c3,c4,o0,w0,hw,n1,i0,i1,p16,yV,q3,z5]
   ·by_cases yV:e2=15
    ·by_cases q3:oc=3
     ·simp only [fD,zz,hA,c1,ht,c2,c3,c4,o0,w0,hw,n1,yV,q3,z5]
     ·simp only [fD,zz,hA,c1,ht,c2,c3,c4,o0,w0,hw,n1,yV,q3,z5]
    ·by_cases q3:oc=3
     ·simp only [fD,zz,hA,c1,ht,c2,c3,c4,o0,w0,hw,n1,yV,q3,z5]
     ·simp only [fD,zz,hA,c1,ht,c2,c3,c4,o0,w0,hw,n1,yV,q3,z5]
  ·simp only [fD,zz,hA,c1,ht,o0,w0,aK,if_true,if_false,List.cons_append,List.nil_append]
end
section
variable {d0 d1 s s' k:D} {t op obj arg tries e1 e2 e3 e4 e5 oc:Int} {x:KT} (C:Cd d0 d1) (ht:t < (k.l.length:Int)) (R:Rt d0 d1 t x)
 (hA:L 400 [enc d0,enc d1,enc s,t,op,obj,arg,tries]=some [enc s',e1,e2,e3,e4,e5,oc]) (h0:oc=0→s'=s) (hx:x.w=0→x.a < (Nc d1 t:Int)) (hz:x.lc.l.length=0)
include C ht R hA h0 hx hz
set_option maxHeartbeats 4000000 in
theorem aiB:L 14550 [enc d0,enc d1,t,op,obj,arg,tries,enc s,enc k,x.a,enc x.lc,x.w,x.o,x.g,x.tr]=some (0 :: enc d0 :: enc d1 :: t :: op :: obj :: arg :: tries :: enc s :: enc k :: x.a :: enc x.lc :: x.w :: x.o :: x.g :: x.tr :: (evT e1 e2 e3 e4 e5 oc++ [oc,enc s',(xA (Ins d1 t x) x op e2 e3 e4 oc).a,(xA (Ins d1 t x) x op e2 e3 e4 oc).w,(xA (Ins d1 t x) x op e2 e3 e4 oc).o,(xA (Ins d1 t x) x op e2 e3 e4 oc).g,(xA (Ins d1 t x) x op e2 e3 e4 oc).tr]))∧(xA (Ins d1 t x) x op e2 e3 e4 oc).lc=x.lc:=by
 have c1: ¬t < 0:=by have:=R.t0; omega
 have c2:=R.t1;have c3: ¬x.a < 0:=by have:=R.ok.1; omega
 have q0:=R.ok.2.2.2.1;have q1:=R.ok.2.2.2.2.1;have wt:IntKind.i64.wrap (x.tr+1)=x.tr+1:=nU (by omega) (by omega);rw [aT,apK];unfold xA evT;by_cases o0:oc=0
 ·have hs:=h0 o0;subst hs;subst o0;by_cases p4:op=4
  ·subst p4;by_cases pt:4611686018427387904 < x.tr+1
   ·simp only [jQ,zz,hA,c1,ht,wt,pt,aK,if_true,eq_self,List.cons_append,List.nil_append] <;> exact⟨rfl,rfl⟩
   ·simp only [jQ,zz,hA,c1,ht,wt,pt,aK,if_true,eq_self,if_false,List.cons_append,List.nil_append] <;> exact⟨rfl,rfl⟩
  ·simp only [jQ,zz,hA,c1,ht,p4,aK,if_true,if_false,List.cons_append,List.nil_append] <;> exact⟨rfl,rfl⟩
 ·by_cases w0:x.w=0
  ·have c4:=hx w0;have F:=C.inf R c4;have ok:=F.ok;have hln:(x.lc.l.length:Int)=(((d1.at t).hd 1).l.length:Int):=R.ok.2.2.1;have hnc:((d1.at t).hd 2).l.length≤140737488351232:=(C.code R.t0 R.t1).len;unfold Nc at c4;have hw:IntKind.i64.wrap (x.a+1)=x.a+1:=nU (by omega) (by omega);unfold OkI Ins at ok;unfold Ins;by_cases n1:((((d1.at t).hd 2).at x.a).hd 0).n=1
   ·have hin:((((d1.at t).hd 2).at x.a).hd 3).n= -1∨0≤((((d1.at t).hd 2).at x.a).hd 3).n∧((((d1.at t).hd 2).at x.a).hd 3).n < (x.lc.l.length:Int):=by
     rw [hln];omega
    by_cases i0:((((d1.at t).hd 2).at x.a).hd 3).n < 0
    ·by_cases p16:((((d1.at t).hd 2).at x.a).hd 1).n=16
     ·by_cases q16:e2=16
      ·by_cases q4:e4=1
       ·by_cases q3:oc=3
        ·simp only [jQ,zz,hA,c1,ht,c2,c3,c4,o0,w0,hw,n1,i0,p16,q16,q4,q3,z5] <;> exact⟨rfl,rfl⟩
        ·simp only [jQ,zz,hA,c1,ht,c2,c3,c4,o0,w0,hw,n1,i0,p16,q16,q4,q3,z5] <;> exact⟨rfl,rfl⟩
       ·by_cases q3:oc=3
        ·simp only [jQ,zz,hA,c1,ht,c2,c3,c4,o0,w0,hw,n1,i0,p16,q16,q4,q3,z5] <;> exact⟨rfl,rfl⟩
        ·simp only [jQ,zz,hA,c1,ht,c2,c3,c4,o0,w0,hw,n1,i0,p16,q16,q4,q3,z5] <;> exact⟨rfl,rfl⟩
      ·by_cases yV:e2=15
       ·by_cases q3:oc=3
        ·simp only [jQ,zz,hA,c1,ht,c2,c3,c4,o0,w0,hw,n1,i0,p16,q16,yV,q3,z5] <;> exact⟨rfl,rfl⟩
        ·simp only [jQ,zz,hA,c1,ht,c2,c3,c4,o0,w0,hw,n1,i0,p16,q16,yV,q3,z5] <;> exact⟨rfl,rfl⟩
       ·by_cases q3:oc=3
        ·simp only [jQ,zz,hA,c1,ht,c2,c3,c4,o0,w0,hw,n1,i0,p16,q16,yV,q3,z5] <;> exact⟨rfl,rfl⟩
        ·simp only [jQ,zz,hA,c1,ht,c2,c3,c4,o0,w0,hw,n1,i0,p16,q16,yV,q3,z5] <;> exact⟨rfl,rfl⟩
     ·by_cases yV:e2=15
      ·by_cases q3:oc=3
       ·simp only [jQ,zz,hA,c1,ht,c2,c3,c4,o0,w0,hw,n1,i0,p16,yV,q3,z5] <;> exact⟨rfl,rfl⟩
       ·simp only [jQ,zz,hA,c1,ht,c2,c3,c4,o0,w0,hw,n1,i0,p16,yV,q3,z5] <;> exact⟨rfl,rfl⟩
      ·by_cases q3:oc=3
       ·simp only [jQ,zz,hA,c1,ht,c2,c3,c4,o0,w0,hw,n1,i0,p16,yV,q3,z5] <;> exact⟨rfl,rfl⟩
       ·simp only [jQ,zz,hA,c1,ht,c2,c3,c4,o0,w0,hw,n1,i0,p16,yV,q3,z5] <;> exact⟨rfl,rfl⟩
    ·omega
   ·by_cases yV:e2=15
    ·by_cases q3:oc=3
     ·simp only [jQ,zz,hA,c1,ht,c2,c3,c4,o0,w0,hw,n1,yV,q3,z5] <;> exact⟨rfl,rfl⟩
     ·simp only [jQ,zz,hA,c1,ht,c2,c3,c4,o0,w0,hw,n1,yV,q3,z5] <;> exact⟨rfl,rfl⟩
    ·by_cases q3:oc=3
     ·simp only [jQ,zz,hA,c1,ht,c2,c3,c4,o0,w0,hw,n1,yV,q3,z5] <;> exact⟨rfl,rfl⟩
     ·simp only [jQ,zz,hA,c1,ht,c2,c3,c4,o0,w0,hw,n1,yV,q3,z5] <;> exact⟨rfl,rfl⟩
  ·simp only [jQ,zz,hA,c1,ht,o0,w0,aK,if_true,if_false,List.cons_append,List.nil_append] <;> exact⟨rfl,rfl⟩
end
end Go.As.Try
end
section
namespace Go.As.Try
open Go hiding Stat Spec shape
open Go.As
set_option maxRecDepth 100000
structure Sx (s k:D) (n:Nat):Prop where
 g:Gs s n
 wk:Wd (.sl 8) k
 n2s:s≠.i 2
 n2k:k≠.i 2
theorem Sx.st {s k:D} {n:Nat} (S:Sx s k n):Sk s k:=⟨S.g.wd,S.wk,S.n2s,S.n2k⟩
theorem Sx.mono {s k:D} {n m:Nat} (S:Sx s k n) (h:n≤m):Sx s k m:=⟨S.g.mono h,S.wk,S.n2s,S.n2k⟩
abbrev xI (k:D) (t:Int) (x:KT):D:=dL (fE k.l t x.d)
theorem iV (a:D) (l:List D):dL (a :: l)= .p a (dL l):=rfl
theorem kY:dL []= .i 0:=rfl
structure Tried (d0 d1 s:D) (t op obj arg tries:Int) (n:Nat) (s':D) (e1 e2 e3 e4 e5 oc:Int):Prop where
 eq:L 400 [enc d0,enc d1,enc s,t,op,obj,arg,tries]=some [enc s',e1,e2,e3,e4,e5,oc]
 no:oc=0→s'=s∧e1=0∧e2=0∧e3=0∧e4=0∧e5=0
 oc3:oc=0∨oc=2∨oc=3
 gs:Gs s' (n+1)
 len:s'.l.length=s.l.length
 n2:s≠.i 2→s'≠.i 2
 e3:iM .i64 e3
 e4:iM .i64 e4
theorem try_any {d0 d1 s:D} {t op obj arg tries:Int} {n:Nat} (h0:Wd (.sl 3) d0) (h1:Wd (.sl 4) d1) (G:Gs s n) (hn:n < 17592186043904) (ht:iM .i64 t) (hop:iM .u8 op) (hob:iM .i64 obj) (ha:iM .i64 arg) :
 ∃s' e1 e2 e3 e4 e5 oc,Tried d0 d1 s t op obj arg tries n s' e1 e2 e3 e4 e5 oc:=by
 have hf:=G.few (by omega:n < 17592186044415);have z:iM .i64 0:=⟨by omega,by omega⟩;by_cases A:Acc d0 d1 s t op obj
 ·obtain⟨_,o,c,dn,g,r,v,T,hL⟩:=aaH (arg:=arg) (tries:=tries) h0 h1 G.wd hf hop A;rw [abW] at hL;have o0:=A.o0;have o1:=A.o1;obtain⟨i,rfl⟩ : ∃i:Nat,obj=(i:Int):=⟨obj.toNat,by omega⟩;have hi:i < s.l.length:=by omega
  have hrow:=G.rows _ (List.getElem_mem hi);have e:s.l[i]=dL [.i o,.i c,.i dn,.i g,r,v]:=by rw [← aY hi]; exact T.is
  rw [e] at hrow;have hA:=aCP (M:=Mx d0 (i:Int)) (mo:=Mo d0 s (i:Int)) (op:=op) (tries:=tries) T (n:=n) hrow.1 hrow.2 (by omega) ht ha;have hE:=aEY (M:=Mx d0 (i:Int)) (mo:=Mo d0 s (i:Int)) (th:=t) (op:=op) (tries:=tries) T (by have:=hrow.1; have:r.l.length≤n:=this; omega) ha
  have hM:NoM (act (Mx d0 (i:Int)) (Mo d0 s (i:Int)) t op arg tries o c dn g r v)∨0≤Mx d0 (i:Int)∧Mx d0 (i:Int) < (s.l.length:Int):=by
   by_cases h:op=12∨op=24
   ·have:=XH h0 h1 G.wd hf hop A h;exact .inr ⟨this.1,this.2.1⟩
   ·exact .inl (ahE (by omega) (by omega))
  have hg:=atW G hA o0 o1 hM;have hl:=alA s (i:Int) (Mx d0 (i:Int)) (act (Mx d0 (i:Int)) (Mo d0 s (i:Int)) t op arg tries o c dn g r v);generalize act (Mx d0 (i:Int)) (Mo d0 s (i:Int)) t op arg tries o c dn g r v=B at *
  have hn2:s≠.i 2→YS s (i:Int) (Mx d0 (i:Int)) B≠.i 2:=fun _ he=>by rw [he] at hl;have:(D.i 2).l.length=0:=rfl;omega
  cases B with
  | blk=>exact⟨s,0,0,0,0,0,0,hL,fun _=> ⟨rfl,rfl,rfl,rfl,rfl,rfl⟩,.inl rfl,hg,rfl,fun h=>h,z,z⟩
  | mis=>exact⟨s,t,27,_,_,0,2,hL,fun h=>absurd h (by omega),.inr (.inl rfl),hg,rfl,fun h=>h,hob,wrap_in _⟩
  | res o' c' dn' g' r' v' m a oc=>exact⟨_,t,op,_,a,0,oc,hL,fun h=>by have:=hA.2.2.2.2.2.2.2.2.2; omega,.inr hA.2.2.2.2.2.2.2.2.2,hg,hl,hn2,hob,hE⟩
 ·exact⟨s,0,0,0,0,0,0,aiA h0 h1 G.wd hf hop A,fun _=> ⟨rfl,rfl,rfl,rfl,rfl,rfl⟩,.inl rfl,G.mono (Nat.le_succ n),rfl,fun h=>h,z,z⟩
noncomputable abbrev stE (d0 d1 s k:D) (t:Int):Nat→Int:=bQ L (low [enc d0,enc d1,enc s,enc k,t])
theorem akI {k:D} {t:Int} {x:KT} (h:k=dL k.l) (t0:0≤t) (t1:t < (k.l.length:Int)) (hk:k.at t=x.d):xI k t x=k:=by
 obtain⟨i,rfl⟩ : ∃i:Nat,t=(i:Int):=⟨t.toNat,by omega⟩;have hi:i < k.l.length:=by omega
 rw [aY hi] at hk;unfold xI;rw [← hk];exact set_self h hi
section
variable {d0 d1 s k:D} {t:Int} {n:Nat} (S:Sx s k n)
include S
theorem atG (hR:L 1550 [enc d0,enc d1,enc s,enc k,t]=some [0]):L 1850 [enc d0,enc d1,enc s,enc k,t]=some [enc s,enc k,0,0,0,0,0,0]:=by
 by_cases hr:t < 0∨(k.l.length:Int)≤t
 ·rcases ahB S.st hr with h | ⟨h,he⟩
  ·have K:dY (stE d0 d1 s k t) Jb= .out [enc s,enc k,0,0,0,0,0,0]:=by
    refine bY [.eq (a0 9050 SL) Q0,.eq wJ Qa,XL,XK] [] (ou [KX,Z5,Qa,Qa,Qa,Qa,Qa,Qa]) (by simp only [zz,h,hR] <;> omega) (by kernel_rfl) ?_;simp only [zz,h]
   rw [aT,Oc];exact congrArg (fin L) K
  ·subst he
   have K:dY (stE d0 d1 s (.i 1) t) Jb= .out [enc s,enc (.i 1),0,0,0,0,0,0]:=by refine bY [.eq (a0 9050 SL) Q0,.eq wJ Q0,XL,XK] [.eq wJ Qa] (ou [KX,Qh,Qa,Qa,Qa,Qa,Qa,Qa]) (by simp only [zz,h,hR] <;> omega) (by kernel_rfl) ?_;simp only [zz,h]
   rw [aT,Oc];exact congrArg (fin L) K
 ·obtain⟨i,rfl⟩ : ∃i:Nat,t=(i:Int):=⟨t.toNat,by omega⟩;have hi:i < k.l.length:=by omega
  obtain⟨a,lc,w,o,g,tr,T⟩:=jW S.wk _ (List.getElem_mem hi);have h:=Sr S.st hi T;have hs:xI k (i:Int) ⟨a,lc,w,o,g,tr⟩ = k:=akI (Po S.wk (by omega)).sh (by omega) (by omega) (by rw [aY hi,T.is]);simp only [xI,KT.d,iV,kY] at hs;have ha:ER lc=3∨ER lc=4:=by unfold ER; split <;> simp
  have K:dY (stE d0 d1 s k (i:Int)) Jb= .out [enc s,enc k,0,0,0,0,0,0]:=by
   rcases ha with ha | ha
   ·rw [ha] at h;refine bY [.eq (a0 9050 SL) Q0,.eq wJ vU,XL,XK] [.eq wJ Qa,.eq wJ Q0,.eq wJ nH] (ou [KX,Qp2,Qa,Qa,Qa,Qa,Qa,Qa]) (by simp only [zz,h,hR] <;> omega) (by kernel_rfl) ?_;simp only [zz,h,hs]
   ·rw [ha] at h;refine bY [.eq (a0 9050 SL) Q0,.eq wJ DW,XL,XK] [.eq wJ Qa,.eq wJ Q0,.eq wJ nH,.eq wJ vU] (ou [KX,Qp2,Qa,Qa,Qa,Qa,Qa,Qa]) (by simp only [zz,h,hR] <;> omega) (by kernel_rfl) ?_;simp only [zz,h,hs]
  rw [aT,Oc];exact congrArg (fin L) K
end
structure Rs (d0 d1 s k:D) (t:Int) (x:KT):Prop where
 c:Cd d0 d1
 r:Rt d0 d1 t x
 hk:k.at t=x.d
 ht:t < (k.l.length:Int)
 yes:L 1550 [enc d0,enc d1,enc s,enc k,t]=some [1]
theorem ayJ {d0 d1 s k:D} {t:Int} {n:Nat} (S:Sx s k n) (hn:n < 17592186043904) (h0:Wd (.sl 3) d0) (h1:Wd (.sl 4) d1):L 1550 [enc d0,enc d1,enc s,enc k,t]=some [0]∨∃x,Rs d0 d1 s k t x:=by
 obtain⟨ys,hL,b,rfl,hb⟩:=VX (k:=k) h0 h1 (S.g.few (by omega)).rows h1.len t;rcases hb with ⟨rfl,_⟩ | ⟨rfl,t0,t1,M⟩
 ·exact .inl hL
 ·refine .inr ?_;obtain⟨hle,hO⟩:=M.2;obtain⟨i,rfl⟩ : ∃i:Nat,t=(i:Int):=⟨t.toNat,by omega⟩;have hi:i < k.l.length:=by omega
  have hd:i < d1.l.length:=by omega
  obtain⟨a,lc,w,o,g,tr,T⟩:=jW S.wk _ (List.getElem_mem hi);have ok:=hO i hi;unfold OkK at ok;rw [T.is] at ok;simp only [zg,Option.getD_some,n_i] at ok;refine⟨⟨a,lc,w,o,g,tr⟩,(MR.code h0 h1 (S.g.few (by omega)).rows M).1,⟨by omega,by omega,?_,T.hl,T.hg⟩,by rw [aY hi,T.is],by omega,hL⟩;rw [aY hd];exact ok
section
variable {d0 d1 s k:D} {t:Int} {n:Nat} {x:KT} (S:Sx s k n) (R:Rs d0 d1 s k t x)
include S R
theorem Rs.cp:L 9050 [t,enc s,enc k]=some [ER x.lc,t,enc s,enc k,x.a,enc x.lc,x.w,x.o,x.g,x.tr]:=by
 have t0:=R.r.t0;have ht:=R.ht;obtain⟨i,rfl⟩ : ∃i:Nat,t=(i:Int):=⟨t.toNat,by omega⟩;have hi:i < k.l.length:=by omega
 obtain⟨a,lc,w,o,g,tr,T⟩:=jW S.wk _ (List.getElem_mem hi);have h:=Sr S.st hi T;have e:=R.hk;rw [aY hi,T.is] at e;simp only [KT.d,iV,kY,D.p.injEq,D.i.injEq,and_true] at e;obtain⟨rfl,rfl,rfl,rfl,rfl,rfl⟩:=e;exact h
theorem Rs.self:dL (fE k.l t (.p (.i x.a) (.p x.lc (.p (.i x.w) (.p (.i x.o) (.p (.i x.g) (.p (.i x.tr) (.i 0))))))))=k:=by
 have hl:0 < k.l.length:=by have:=R.r.t0; have:=R.ht; omega
 exact akI (Po S.wk hl).sh R.r.t0 R.ht R.hk
theorem aeR (ho:jM d1 t x=1):L 1850 [enc d0,enc d1,enc s,enc k,t]=some [enc s,enc k,0,0,0,0,0,4]:=by
 have h:=R.cp S;have hs:=R.self S;have hR:=R.yes;have hO:=yX (s:=s) R.hk R.ht R.r;rw [ho] at hO;have ha:ER x.lc=3∨ER x.lc=4:=by unfold ER; split <;> simp
 have K:dY (stE d0 d1 s k t) Jb= .out [enc s,enc k,0,0,0,0,0,4]:=by
  rcases ha with ha | ha
  ·rw [ha] at h;refine bY [.eq (a0 9050 SL) Q0,.eq wJ vU,XL,.eq (a0 1650 SN) Q0] [.eq wJ Qa,.eq wJ Q0,.eq wJ nH,XK,Qp5] (ou [KX,Qp2,Qa,Qa,Qa,Qa,Qa,DW]) (by simp only [zz,h,hR,hs,hO] <;> omega) (by kernel_rfl) ?_;simp only [zz,h,hs]
  ·rw [ha] at h;refine bY [.eq (a0 9050 SL) Q0,.eq wJ DW,XL,.eq (a0 1650 SN) Q0] [.eq wJ Qa,.eq wJ Q0,.eq wJ nH,.eq wJ vU,XK,Qp5] (ou [KX,Qp2,Qa,Qa,Qa,Qa,Qa,DW]) (by simp only [zz,h,hR,hs,hO] <;> omega) (by kernel_rfl) ?_;simp only [zz,h,hs]
 rw [aT,Oc];exact congrArg (fin L) K
theorem YD (ho:jM d1 t x=0) (hn:low (oV d1 t x) 4=0):L 1850 [enc d0,enc d1,enc s,enc k,t]=some [enc s,enc (xI k t (AL (Ins d1 t x) x)),0,0,0,0,0,1]:=by
 have h:=R.cp S;have hs:=R.self S;have hR:=R.yes;have hO:=yX (s:=s) R.hk R.ht R.r;have hN:=Ue (s:=s) R.c R.hk R.ht R.r;have Lc:=amB R.r ho hn;rw [ho] at hO
 have K:dY (stE d0 d1 s k t) Jb= .out [enc s,enc (xI k t (AL (Ins d1 t x) x)),0,0,0,0,0,1]:=by
  have hw:(AL (Ins d1 t x) x).w=x.w∧(AL (Ins d1 t x) x).o=x.o∧(AL (Ins d1 t x) x).g=x.g∧(AL (Ins d1 t x) x).tr=x.tr:=by
   unfold AL
   repeat' split
   all_goals exact⟨rfl,rfl,rfl,rfl⟩
  by_cases hp:0 < x.lc.l.length
  ·have ha:ER x.lc=3:=if_pos hp;rw [ha] at h;have hl:=amA (s:=s) R.c R.ht R.r Lc;refine bY [.eq (a0 9050 SL) Q0,.eq wJ vU,XL,.eq (a0 1650 SN) Q0,Qp5,.eq (a0 1750 SN) Q0,Qp6,.eq (a0 14000 Qp7) Q0,.eq (rr 14000 Qp7 0) Qa] [.eq wJ Qa,.eq wJ Q0,.eq wJ nH,XK] (ou [KX,.op .set Z5 (cn (mk bD) (cn (mk (rr 14000 Qp7 12)) (cn (rr 14000 Qp7 13) Qp1))),Qa,Qa,Qa,Qa,Qa,Q0]) (by simp only [zz,h,hR,hs,hO,hN,hn,hl] <;> omega) (by kernel_rfl) ?_;simp only [zz,h,hs,hl,xI,KT.d,iV,kY,hw]
  ·have ha:ER x.lc=4:=if_neg hp;rw [ha] at h;obtain⟨hl,hc⟩:=alZ (s:=s) R.c R.ht R.r Lc (by omega);refine bY [.eq (a0 9050 SL) Q0,.eq wJ DW,XL,.eq (a0 1650 SN) Q0,Qp5,.eq (a0 1750 SN) Q0,Qp6,.eq (a0 14050 Qp7) Q0,.eq (rr 14050 Qp7 0) Qa] [.eq wJ Qa,.eq wJ Q0,.eq wJ nH,.eq wJ vU,XK] (ou [KX,.op .set Z5 (cn (mk bD) (cn (mk (rr 14050 Qp7 12)) (cn Qpw Qp1))),Qa,Qa,Qa,Qa,Qa,Q0]) (by simp only [zz,h,hR,hs,hO,hN,hn,hl] <;> omega) (by kernel_rfl) ?_;simp only [zz,h,hs,hl,xI,KT.d,iV,kY,hw,hc]
 rw [aT,Oc];exact congrArg (fin L) K
theorem YC {op obj arg tries e1 e2 e3 e4 e5 oc:Int} {s':D} (ho:jM d1 t x=0) (hn:oV d1 t x= [op,obj,arg,tries,1]) (A:Tried d0 d1 s t op obj arg tries n s' e1 e2 e3 e4 e5 oc) :
 L 1850 [enc d0,enc d1,enc s,enc k,t]=some [enc s',enc (xI k t (xA (Ins d1 t x) x op e2 e3 e4 oc)),e1,e2,e3,e4,e5,oc]:=by
 have h:=R.cp S;have hs:=R.self S;have hR:=R.yes;have hO:=yX (s:=s) R.hk R.ht R.r;have hN:=Ue (s:=s) R.c R.hk R.ht R.r;rw [ho] at hO;rw [hn] at hN
 have hx:x.w=0→x.a < (Nc d1 t:Int):=fun w0=>by unfold jM at ho;rw [if_pos w0] at ho;have:=R.r.ok.2.1;unfold Nc at ho ⊢;split at ho <;> omega
 have hE:evT e1 e2 e3 e4 e5 oc= [e1,e2,e3,e4,e5]:=by
  unfold evT;split
  ·rename_i h0;obtain⟨_,rfl,rfl,rfl,rfl,rfl⟩:=A.no h0;rfl
  ·rfl
 have K:dY (stE d0 d1 s k t) Jb= .out [enc s',enc (xI k t (xA (Ins d1 t x) x op e2 e3 e4 oc)),e1,e2,e3,e4,e5,oc]:=by
  by_cases hp:0 < x.lc.l.length
  ·have ha:ER x.lc=3:=if_pos hp;rw [ha] at h;have hl:=aiC R.c R.ht R.r A.eq (fun h=>(A.no h).1) hx;rw [hE] at hl;simp only [List.cons_append,List.nil_append] at hl;refine bY [.eq (a0 9050 SL) Q0,.eq wJ vU,XL,.eq (a0 1650 SN) Q0,Qp5,.eq (a0 1750 SN) Q0,.eq (a0 14500 qU) Q0,.eq (rr 14500 qU 0) Qa] [.eq wJ Qa,.eq wJ Q0,.eq wJ nH,XK,Qp6] (ou [rr 14500 qU 22,.op .set Z5 (cn (mk bD) (cn (mk (rr 14500 qU 23)) (cn (rr 14500 qU 24) (cn (mk (rr 14500 qU 25)) (cn (mk (rr 14500 qU 26)) (cn (mk (rr 14500 qU 27)) (cn (mk (rr 14500 qU 28)) jO))))))),rr 14500 qU 16,rr 14500 qU 17,rr 14500 qU 18,rr 14500 qU 19,rr 14500 qU 20,rr 14500 qU 21]) (by simp only [zz,h,hR,hs,hO,hN,hl] <;> omega) (by kernel_rfl) ?_;simp only [zz,h,hs,hN,hl,xI,KT.d,iV,kY]
  ·have ha:ER x.lc=4:=if_neg hp;rw [ha] at h;obtain⟨hl,hc⟩:=aiB R.c R.ht R.r A.eq (fun h=>(A.no h).1) hx (by omega);rw [hE] at hl;simp only [List.cons_append,List.nil_append] at hl;refine bY [.eq (a0 9050 SL) Q0,.eq wJ DW,XL,.eq (a0 1650 SN) Q0,Qp5,.eq (a0 1750 SN) Q0,.eq (a0 14550 qU) Q0,.eq (rr 14550 qU 0) Qa] [.eq wJ Qa,.eq wJ Q0,.eq wJ nH,.eq wJ vU,XK,Qp6] (ou [rr 14550 qU 22,.op .set Z5 (cn (mk bD) (cn (mk (rr 14550 qU 23)) (cn Qpw (cn (mk (rr 14550 qU 24)) (cn (mk (rr 14550 qU 25)) (cn (mk (rr 14550 qU 26)) (cn (mk (rr 14550 qU 27)) jO))))))),rr 14550 qU 16,rr 14550 qU 17,rr 14550 qU 18,rr 14550 qU 19,rr 14550 qU 20,rr 14550 qU 21]) (by simp only [zz,h,hR,hs,hO,hN,hl] <;> omega) (by kernel_rfl) ?_;simp only [zz,h,hs,hN,hl,xI,KT.d,iV,kY,hc]
 rw [aT,Oc];exact congrArg (fin L) K
end
end Go.As.Try
end
section
namespace Go.As.Try
open Go hiding Stat Spec shape
open Go.As
set_option maxRecDepth 100000
theorem Tot.jmp {j k:Nat} {xs ys:List Int} {t:T Lf} {p:List Int→Prop} (e:S.tree j=t) (h:dY (bQ L (low xs)) t= .jump k ys) (q:Tot k ys p):Tot j xs p:=by refine Tot.of ?_;rw [e,h];exact .jump q
theorem Tot.ret {j:Nat} {xs ys:List Int} {t:T Lf} {p:List Int→Prop} (e:S.tree j=t) (h:dY (bQ L (low xs)) t= .out ys) (q:p ys):Tot j xs p:=by refine Tot.of ?_;rw [e,h];exact .out q
theorem PG (m:Nat) (hm:m≤60) (ih: ∀(k n:Int) (s kids:D),Wd .str s→Wd (.sl 6) kids→Tot 150 [k,enc s,n,enc kids,(m:Int)] one) (x3 x4 x5:Int) (kids:D) (hk:Wd (.sl 6) kids) :
 ∀(j i:Nat) (x1:Int),i+j=kids.l.length→Tot 151 [((m+1:Nat):Int),x1,(i:Int),x3,x4,x5,enc kids] one
 | 0,i,x1,hi=>Tot.ret awM (ys:=[x1]) (bY [] [.lt Qo Z9] (ou [Qb]) (by simp only [zz] <;> omega) (by kernel_rfl) (by simp only [zz])) ⟨x1,rfl⟩
 | j+1,i,x1,hi=>by
   have hl:=hk.len;have hil:i < kids.l.length:=by omega
   have hw:=aZ (n:=i) (by omega);obtain⟨k,s,n,ks,he,_,hs,_,hks⟩:=Dp hk hil;have ha:kids.at (i:Int)=dL [.i k,s,.i n,ks]:=by rw [aY hil]; exact he
   obtain⟨ys,Zf,z,rfl⟩:=ih k n s ks hs hks;have hw2:IntKind.i64.wrap (((m+1:Nat):Int) - 1)=(m:Int):=by rw [nU (by omega) (by omega)]; omega
   by_cases hx:10000 < x1
   ·exact Tot.ret awM (ys:=[x1]) (bY [.lt Qo Z9,.lt (.lit 10000) Qb] [] (ou [Qb]) (by simp only [zz] <;> omega) (by kernel_rfl) (by simp only [zz])) ⟨x1,rfl⟩
   ·exact Tot.jmp awM (bY [.lt Qo Z9,.eq (a0 150 Qfd) Q0] [.lt (.lit 10000) Qb,tK] (ju 151 [Qf,wr (.add Qb (rr 150 Qfd 0)),jP,Qm,bD,bM,dN]) (by simp only [zz,ha,zg,hw2,Zf] <;> omega) (by kernel_rfl) (by simp only [zz,ha,zg,hw2,Zf,hw] <;> rfl)) (PG m hm ih x3 x4 x5 kids hk j (i+1) (IntKind.i64.wrap (x1+z)) (by omega))
theorem VQ: ∀(m:Nat),m≤60→∀(k n:Int) (s kids:D),Wd .str s→Wd (.sl 6) kids→Tot 150 [k,enc s,n,enc kids,(m:Int)] one
 | 0,_,k,n,s,kids,_,_=>Tot.ret aCI (ys:=[10000]) (bY [Qfa] [] (ou [.lit 10000]) (by simp only [zz] <;> omega) (by kernel_rfl) (by simp only [zz])) ⟨_,rfl⟩
 | m+1,hm,k,n,s,kids,hs,hk=>Tot.jmp aCI (ys:=[((m+1:Nat):Int),_,(0:Nat),k,enc s,n,enc kids]) (bY [] [Qfa] (ju 151 [bD,wr (.add Q0 (wr (.quo Qc (.lit 100)))),Qa,Qf,Qb,Qo,Qm]) (by simp only [zz] <;> omega) (by kernel_rfl) (by simp only [oI,List.map,aW,Nat.reduceLT,aO,aQ] <;> rfl)) (PG m (by omega) (VQ m (by omega)) k (enc s) n kids hk kids.l.length 0 _ (by omega))
section
variable {d0 d1:D} (h1:Wd (.sl 4) d1)
include h1
theorem NC (x1 x2 x3:Int) (OY:D) (ha:Wd (.sl 6) OY) (q: ∀x0,Tot 102 [x0,x1,IntKind.i64.wrap (x2+1),x3,enc d0,enc d1] EI): ∀(j i:Nat) (x0:Int),i+j=OY.l.length→Tot 103 [x0,x1,x2,x3,enc OY,(OY.l.length:Int),(i:Int),enc d0,enc d1] EI
 | 0,i,x0,hi=>Tot.jmp aCJ (bY [] [.lt dN bM] (ju 102 [Qf,Qb,jP,Qm,fA,fV]) (by simp only [zz] <;> omega) (by kernel_rfl) (by simp only [zz])) (q x0)
 | j+1,i,x0,hi=>by
   have hl:=ha.len;have hil:i < OY.l.length:=by omega
   have hw:=aZ (n:=i) (by omega);obtain⟨k,s,n,ks,he,_,hs,_,hks⟩:=Dp ha hil;have hat:OY.at (i:Int)=dL [.i k,s,.i n,ks]:=by rw [aY hil]; exact he
   obtain⟨ys,Zf,z,rfl⟩:=VQ 60 (by omega) k n s ks hs hks;have Zf:L 150 [k,enc s,n,enc ks,60]=some [z]:=Zf;exact Tot.jmp aCJ (bY [.lt dN bM,.lt dN O8,.eq (a0 150 Qe9) Q0] [Qe7] (ju 103 [wr (.add Qf (rr 150 Qe9 0)),Qb,Qo,Qm,bD,bM,wr (.add dN Q0),fA,fV]) (by simp only [zz,hat,zg,Zf] <;> omega) (by kernel_rfl) (by simp only [zz,hat,zg,Zf,hw] <;> rfl)) (NC x1 x2 x3 OY ha q j (i+1) (IntKind.i64.wrap (x0+z)) (by omega))
theorem agH (i:Nat) (hi:i < d1.l.length) (q: ∀x0,Tot 101 [x0,(d1.l.length:Int),((i+1:Nat):Int),enc d0,enc d1] EI): ∀(j k:Nat) (x0:Int),(∀nm' lc cd,d1.l[i]=dL [nm',lc,cd]→k+j=cd.l.length)→Tot 102 [x0,(i:Int),(k:Int),(d1.l.length:Int),enc d0,enc d1] EI:=by
 have hl:=h1.len;have hw:=aZ (n:=i) (by omega);obtain⟨nm',lc,cd,he,_,_,hcd⟩:=E8 h1 hi;have hat:d1.at (i:Int)=dL [nm',lc,cd]:=by rw [aY hi]; exact he
 have hcl:=hcd.len;intro j
 induction j with
 | zero=> intro k x0 hk;have hk:=hk _ _ _ he;exact Tot.jmp awN (bY [.lt Qb (ln bM)] [Qe2,.lt Qo (ln (ce 2 XO))] (ju 101 [Qf,Qm,Qe4,bD,bM]) (by simp only [zz,hat,zg] <;> omega) (by kernel_rfl) (by simp only [zz,hw] <;> rfl)) (q x0)
 | succ j ih=>
   intro k x0 hk;have hk':=hk _ _ _ he;by_cases h6:6000 < x0
   ·exact Tot.jmp awN (bY [.lt Qb (ln bM),.lt Qo (ln (ce 2 XO)),.lt (.lit 6000) Qf] [Qe2] (ju 101 [Qf,Qm,Qe4,bD,bM]) (by simp only [zz,hat,zg] <;> omega) (by kernel_rfl) (by simp only [zz,hw] <;> rfl)) (q x0)
   ·have hkl:k < cd.l.length:=by omega
    have hw2:=aZ (n:=k) (by omega);obtain⟨a,b,c,e,f,g,OY,hin,_,_,_,_,_,_,has⟩:=Zb hcd hkl;have aFA:cd.at (k:Int)=dL [.i a,.i b,.i c,.i e,.i f,.i g,OY]:=by rw [aY hkl]; exact hin
    refine Tot.jmp awN (bY [.lt Qb (ln bM),.lt Qo (ln (ce 2 XO))] [Qe2,.lt (.lit 6000) Qf,tK] (ju 103 [Qf,Qb,Qo,Qm,Qe6,ln Qe6,Qa,bD,bM]) (by simp only [zz,hat,zg] <;> omega) (by kernel_rfl) (by simp only [zz,hat,aFA,zg] <;> rfl)) (NC h1 (i:Int) (k:Int) (d1.l.length:Int) OY has (fun x0=>?_) OY.l.length 0 x0 (by omega));rw [hw2];exact ih (k+1) x0 fun nm' lc cd he=>by have:=hk nm' lc cd he; omega
theorem Nz: ∀(j i:Nat) (x0:Int),i+j=d1.l.length→Tot 101 [x0,(d1.l.length:Int),(i:Int),enc d0,enc d1] EI
 | 0,i,x0,hi=>by
   by_cases h6:6000 < x0
   ·exact Tot.ret awO (bY [.lt (.lit 6000) Qf] [wK] (ou [Q0]) (by simp only [zz] <;> omega) (by kernel_rfl) (by simp only [zz])) zF
   ·exact Tot.ret awO (bY [] [wK,.lt (.lit 6000) Qf] (ou [Qa]) (by simp only [zz] <;> omega) (by kernel_rfl) (by simp only [zz])) zG
 | j+1,i,x0,hi=>by
   have hil:i < d1.l.length:=by omega
   obtain⟨nm',lc,cd,he,_,_,hcd⟩:=E8 h1 hil;refine Tot.jmp awO (ys:=[_,(i:Int),((0:Nat):Int),(d1.l.length:Int),enc d0,enc d1]) (bY [wK,Qdk] [tK] (ju 102 [wr (.add Qf (wr (.add (ln Qdm) (ln (ce 2 Qdl))))),Qo,Qa,Qb,Qm,bD]) (by simp only [zz] <;> omega) (by kernel_rfl) (by simp only [zz] <;> rfl)) (agH h1 i hil (fun x0=>Nz j (i+1) x0 (by omega)) cd.l.length 0 _ fun n' l' c' he'=>?_);rw [he] at he';have:=Ou he';simp only [List.cons.injEq,and_true] at this;rw [this.2.2];omega
theorem agG:Tot 100 [enc d0,enc d1] EI:=
 Tot.jmp e100 (ys:=[_,(d1.l.length:Int),((0:Nat):Int),enc d0,enc d1]) (bY [] [] (ju 101 [wr (.add sZ Qc),Qc,Qa,Qf,Qb]) (by simp only [zz] <;> omega) (by kernel_rfl) (by simp only [zz] <;> rfl)) (Nz h1 d1.l.length 0 _ (by omega))
end
end Go.As.Try
end
section
namespace Go.As.Try
open Go hiding Stat Spec shape
open Go.As
set_option maxRecDepth 100000
def oO (x:D):D:=dL [.i 0,if (x.hd 1).l.length=0 then .i 2 else dL (List.replicate (x.hd 1).l.length (.i 0)),.i 0,.i 0,.i 0,.i 0]
def rH (d0:D):D:=if d0.l.length=0 then .i 1 else dL (d0.l.map mP)
def uS (d1:D):D:=if d1.l.length=0 then .i 1 else dL (d1.l.map oO)
theorem VB {l:List D} (h: ∀x∈l,∃a lc w o g tr,Kt x a lc w o g tr) (hn:l≠[]) (hl:l.length≤2199023255488):Wd (.sl 8) (dL l):=by
 have e:(l.map fun x=>x.l).map dL=l:=by
  rw [List.map_map]
  conv=>rhs; rw [← List.map_id l]
  apply List.map_congr_left;intro x hx;obtain⟨a,lc,w,o,g,tr,T⟩:=h x hx;rw [T.is];rfl
 rw [← e];refine .many 8 [.int .i64,.sl 0,.int .u8,.int .i64,.int .i64,.int .i64] _ rfl (by simpa using hn) (by have:vT 8=64:=rfl; rw [this,List.length_map]; omega) (fun r hr=>?_) fun r hr j d c h1 h2=>?_
 ·obtain⟨x,hx,rfl⟩:=List.mem_map.1 hr;obtain⟨a,lc,w,o,g,tr,T⟩:=h x hx;rw [T.is];rfl
 ·obtain⟨x,hx,rfl⟩:=List.mem_map.1 hr;obtain⟨a,lc,w,o,g,tr,T⟩:=h x hx;rw [T.is,aX] at h1
  match j with
  | 0=>simp at h1 h2; subst h1 h2; exact .int _ _ T.ha
  | 1=>simp at h1 h2; subst h1 h2; exact T.hl
  | 2=>simp at h1 h2; subst h1 h2; exact .int _ _ T.hw
  | 3=>simp at h1 h2; subst h1 h2; exact .int _ _ T.ho
  | 4=>simp at h1 h2; subst h1 h2; exact .int _ _ T.hg
  | 5=>simp at h1 h2; subst h1 h2; exact .int _ _ T.ht
  | j+6=>simp at h1
theorem aiI (x:D) (h:(x.hd 1).l.length≤17592186043904): ∃a lc w o g tr,Kt (oO x) a lc w o g tr:=by
 have z:iM .i64 0:=⟨by omega,by omega⟩;refine⟨0,_,0,0,0,0,rfl,z,?_,⟨by omega,by omega⟩,z,z,z⟩;split
 ·exact .non 0
 ·rename_i hn;refine yL (fun y hy=> ⟨0,(List.mem_replicate.1 hy).2,z⟩) (fun he=>?_) (by simpa using h);have:=congrArg List.length he;simp only [List.length_replicate,List.length_nil] at this;omega
theorem ED {d1:D} (h1:Wd (.sl 4) d1): ∀x∈d1.l,(x.hd 1).l.length≤8796093021952:=by intro x hx;obtain⟨i,hi,rfl⟩:=List.getElem_of_mem hx;obtain⟨nm',lc,cd,he,_,hlc,_⟩:=E8 h1 hi;rw [he];simp only [zg,Option.getD_some];have:=hlc.room;have h3:vT 2=16:=rfl;rw [h3] at this;omega
theorem akC {d0 d1:D} (h0:Wd (.sl 3) d0) (h1:Wd (.sl 4) d1) (ok:Ew d0 d1):Sx (rH d0) (uS d1) 0:=by
 refine⟨?_,?_,?_,?_⟩
 ·unfold rH;split
  ·exact⟨.nil 7,fun x hx=>by simp [D.l] at hx⟩
  ·refine⟨Ph (fun x hx=>?_) (fun he=>?_) (by rw [List.length_map]; have:=ok.1; omega),fun x hx=>?_⟩
   ·obtain⟨y,hy,rfl⟩:=List.mem_map.1 hx;obtain⟨kd,nm',ln,s1,s2,he,_,hnn,_⟩:=h0.decl y hy;rw [he];refine⟨-1,_,0,0,.i 1,.i 1,rfl,⟨by omega,by omega⟩,?_,.inl rfl,⟨by omega,by omega⟩,.nil 0,.nil 0⟩;split
    ·exact hnn
    ·exact⟨by omega,by omega⟩
   ·have:=congrArg List.length he;simp only [List.length_map,List.length_nil] at this;omega
   ·rw [aX] at hx;obtain⟨y,hy,rfl⟩:=List.mem_map.1 hx;exact⟨Nat.le_refl 0,Nat.le_refl 0⟩
 ·unfold uS;split
  ·exact .nil 8
  ·refine VB (fun x hx=>?_) (fun he=>?_) (by rw [List.length_map]; have:=ok.2.1; omega)
   ·obtain⟨y,hy,rfl⟩:=List.mem_map.1 hx;exact aiI y (by have:=ED h1 y hy; omega)
   ·have:=congrArg List.length he;simp only [List.length_map,List.length_nil] at this;omega
 ·unfold rH;split
  ·intro h; cases h
  ·intro h;have:=congrArg (fun d=>d.l.length) h;simp only [aX,List.length_map,yK,List.length_nil] at this;omega
 ·unfold uS;split
  ·intro h; cases h
  ·intro h;have:=congrArg (fun d=>d.l.length) h;simp only [aX,List.length_map,yK,List.length_nil] at this;omega
theorem Jq (d1:D) (h1:Wd (.sl 4) d1) (hlen:d1.l.length≤16) (s:D): ∀(k i:Nat) (acc:List D),i+k=d1.l.length→acc.length=i→
 L 1452 [enc d1,(d1.l.length:Int),(i:Int),enc s,enc (dL acc)]=some [enc s,enc (dL (acc++(d1.l.drop i).map oO)),0]
 | 0,i,acc,hi,ha=>by
   have c1: ¬(i:Int) < (d1.l.length:Int):=by omega
   rw [aT,apL,List.drop_of_length_le (by omega)];simp only [VJ,zz,c1,aK,List.map_nil,List.append_nil]
 | k+1,i,acc,hi,ha=>by
   have hil:i < d1.l.length:=by omega
   have hd:d1.l.drop i=d1.l[i] :: d1.l.drop (i+1):=List.drop_eq_getElem_cons hil;have ih:=Jq d1 h1 hlen s k (i+1) (acc++ [oO d1.l[i]]) (by omega) (by simp [ha]);have c1:(i:Int) < (d1.l.length:Int):=by omega
   have c2: ¬((i:Int) < 0):=by omega
   have w:=aZ (n:=i) (by omega);have c3:(acc.length:Int) < 2199023255551:=by omega
   have hb:=ED h1 _ (List.getElem_mem hil);have c4:((((d1.l[i]).hd 1).l.length:Nat):Int) < 17592186044416:=by omega
   have e2:acc++(oO d1.l[i] :: (d1.l.drop (i+1)).map oO)=acc++ [oO d1.l[i]]++(d1.l.drop (i+1)).map oO:=by simp
   rw [hd,List.map_cons,e2,← ih,aT,apL];by_cases hz:((d1.l[i]).hd 1).l.length=0
   ·have hz':((((d1.l[i]).hd 1).l.length:Nat):Int)=0:=by omega
    have et:oO d1.l[i]= .p (.i 0) (.p (.i 2) (.p (.i 0) (.p (.i 0) (.p (.i 0) (.p (.i 0) (.i 0)))))):=by unfold oO; rw [if_pos hz]; rfl
    rw [et];simp only [VJ,zz,c1,c2,w,aY hil,hz',c3,aX,aH]
   ·have hz': ¬((((d1.l[i]).hd 1).l.length:Nat):Int)=0:=by omega
    have et:oO d1.l[i]= .p (.i 0) (.p (dL (List.replicate ((d1.l[i]).hd 1).l.length (.i 0))) (.p (.i 0) (.p (.i 0) (.p (.i 0) (.p (.i 0) (.i 0)))))):=by unfold oO; rw [if_neg hz]; rfl
    rw [et];simp only [VJ,zz,c1,c2,w,aY hil,hz',c3,c4,aX,Int.toNat_natCast,aH]
theorem Wq (d1:D) (h1:Wd (.sl 4) d1) (hlen:d1.l.length≤16) (s:D):L 1451 [enc d1,(d1.l.length:Int),enc s]=some [enc s,enc (uS d1),0]:=by
 by_cases hn:d1.l.length=0
 ·have c1: ¬(0:Int) < (d1.l.length:Int):=by omega
  have e:uS d1= .i 1:=by unfold uS; rw [if_pos hn]
  rw [aT,apM,e];simp only [VK,zz,c1,aK]
 ·have hp:0 < d1.l.length:=by omega
  have c1:(0:Int) < (d1.l.length:Int):=by omega
  have e:uS d1=dL (d1.l.map oO):=by unfold uS; rw [if_neg hn]
  have ih:=Jq d1 h1 hlen s (d1.l.length - 1) 1 [oO (d1.l[0]'hp)] (by omega) rfl
  have e1:[oO (d1.l[0]'hp)]++(d1.l.drop 1).map oO=d1.l.map oO:=by
   conv=>rhs; rw [← List.drop_zero (l:=d1.l),List.drop_eq_getElem_cons hp]
   rfl
  rw [e1,← e] at ih;have a0:d1.at 0=d1.l[0]'hp:=aY (i:=0) hp;have hb:=ED h1 _ (List.getElem_mem hp);have c4:((((d1.l[0]'hp).hd 1).l.length:Nat):Int) < 17592186044416:=by omega
  rw [← ih,aT,apM];by_cases hz:((d1.l[0]'hp).hd 1).l.length=0
  ·have hz':((((d1.l[0]'hp).hd 1).l.length:Nat):Int)=0:=by omega
   have et:dL [oO (d1.l[0]'hp)]= .p (.p (.i 0) (.p (.i 2) (.p (.i 0) (.p (.i 0) (.p (.i 0) (.p (.i 0) (.i 0))))))) (.i 0):=by unfold oO; rw [if_pos hz]; rfl
   rw [et];simp only [VK,zz,c1,a0,hz',yK,List.nil_append,iV,kY,aH,Int.natCast_one]
  ·have hz': ¬((((d1.l[0]'hp).hd 1).l.length:Nat):Int)=0:=by omega
   have et:dL [oO (d1.l[0]'hp)]= .p (.p (.i 0) (.p (dL (List.replicate ((d1.l[0]'hp).hd 1).l.length (.i 0))) (.p (.i 0) (.p (.i 0) (.p (.i 0) (.p (.i 0) (.i 0))))))) (.i 0):=by unfold oO; rw [if_neg hz]; rfl
   rw [et];simp only [VK,zz,c1,a0,hz',c4,yK,List.nil_append,iV,kY,Int.toNat_natCast,aH,Int.natCast_one]
theorem afV {d0 d1:D} (h1:Wd (.sl 4) d1) (hc:L 450 [enc d0,enc d1]=some [0]) (ok:Ew d0 d1):L 1450 [enc d0,enc d1]=some [enc (rH d0),enc (uS d1),0]:=by
 have h3:L 300 [enc d0,enc d1]=some [enc (rH d0)]:=by
  by_cases hn:d0.l.length=0
  ·have e:rH d0= .i 1:=by unfold rH; rw [if_pos hn]
   rw [e];exact arM hc (.inr hn)
  ·have e:rH d0=dL (d0.l.map mP):=by unfold rH; rw [if_neg hn]
   rw [e];exact arN hc ok.1 (by omega)
 have K:dY (bQ L (low [enc d0,enc d1])) abJ= .jump 1451 [enc d1,(d1.l.length:Int),enc (rH d0)]:=by refine bY [Qf1,Qf2,.eq (a0 300 OT) Q0] [] (ju 1451 [Qb,Qc,rr 300 OT 0]) (by simp only [zz,hc,h3] <;> omega) (by kernel_rfl) ?_;simp only [zz,h3]
 rw [aT,apO];exact (congrArg (fin L) K).trans (Wq d1 h1 ok.2.1 _)
theorem afU {d0 d1:D} {c:Int} (hc:L 450 [enc d0,enc d1]=some [c]) (h:c≠0):L 1450 [enc d0,enc d1]=some [enc (.i 1),enc (.i 1),c]:=by
 have K:dY (bQ L (low [enc d0,enc d1])) abJ= .out [enc (.i 1),enc (.i 1),c]:=by refine bY [Qf1] [Qf2] (ou [Qh,Qh,rr 450 OT 0]) (by simp only [zz,hc] <;> omega) (by kernel_rfl) ?_;simp only [zz,hc]
 rw [aT,apO];exact congrArg (fin L) K
theorem LV (k:D) (t:Int) (x:KT):(xI k t x).l.length=k.l.length:=by rw [aX,fP]
theorem afR {d1:D} {t:Int} {x:KT} (ho: ¬jM d1 t x=1) (h: ¬low (oV d1 t x) 4=0): ∃op obj arg tr,oV d1 t x= [op,obj,arg,tr,1]:=by
 unfold jM at ho;unfold oV at h ⊢;by_cases w0:x.w=0
 ·rw [if_pos w0] at ho h ⊢;by_cases a0:x.a=(Nc d1 t:Int)
  ·rw [if_pos a0] at ho;omega
  ·rw [if_neg a0] at h ⊢;by_cases h1:((Ins d1 t x).hd 0).n=1
   ·rw [if_pos h1];exact⟨_,_,_,_,rfl⟩
   ·rw [if_neg h1] at h ⊢;by_cases h2:((Ins d1 t x).hd 0).n=2
    ·rw [if_pos h2];exact⟨_,_,_,_,rfl⟩
    ·rw [if_neg h2] at h;exact absurd rfl h
 ·rw [if_neg w0];exact⟨_,_,_,_,rfl⟩
theorem abV (d1:D) (t:Int) (x:KT):jM d1 t x=0∨jM d1 t x=1:=by
 unfold jM;split
 ·split
  ·exact .inr rfl
  ·exact .inl rfl
 ·exact .inl rfl
theorem auF {d0 d1:D} {t:Int} {x:KT} (C:Cd d0 d1) (R:Rt d0 d1 t x) (hd0:d0.l.length≤64) {op obj arg tr b:Int} (hn:oV d1 t x= [op,obj,arg,tr,b]):iM .u8 op∧iM .i64 obj∧iM .i64 arg:=by
 have z8:iM .u8 0:=⟨by omega,by omega⟩;have z:iM .i64 0:=⟨by omega,by omega⟩;have ok:=R.ok;unfold oV at hn;by_cases w0:x.w=0
 ·rw [if_pos w0] at hn;by_cases a0:x.a=(Nc d1 t:Int)
  ·rw [if_pos a0] at hn;simp only [List.cons.injEq] at hn;obtain⟨rfl,rfl,rfl,_⟩:=hn;exact⟨z8,z,z⟩
  ·have hlt:x.a < (Nc d1 t:Int):=by have:=ok.2.1; unfold Nc at a0 ⊢; omega
   have F:=C.inf R hlt;rw [if_neg a0] at hn;by_cases h1:((Ins d1 t x).hd 0).n=1
   ·rw [if_pos h1] at hn;simp only [List.cons.injEq] at hn;obtain⟨rfl,rfl,rfl,_⟩:=hn;exact⟨F.op,F.ob,axF F.ar R.ints⟩
   ·rw [if_neg h1] at hn;by_cases h2:((Ins d1 t x).hd 0).n=2
    ·rw [if_pos h2] at hn;simp only [List.cons.injEq] at hn;obtain⟨rfl,rfl,rfl,_⟩:=hn;exact⟨⟨by omega,by omega⟩,F.ob,z⟩
    ·rw [if_neg h2] at hn;simp only [List.cons.injEq] at hn;obtain⟨rfl,rfl,rfl,_⟩:=hn;exact⟨z8,z,z⟩
 ·rw [if_neg w0] at hn;simp only [List.cons.injEq] at hn;obtain⟨rfl,rfl,rfl,_⟩:=hn;obtain⟨_,_,_,_,_,hw⟩:=ok;exact⟨⟨by omega,by omega⟩,⟨by omega,by omega⟩,R.hg⟩
end Go.As.Try
end
section
namespace Go.As.Try
open Go hiding Stat Spec shape
open Go.As
set_option maxRecDepth 100000
theorem asC {lc:D} (h:Wd (.sl 0) lc) {z v:Int} (h0:0≤z) (h1:z < (lc.l.length:Int)) (hv:iM .i64 v):Wd (.sl 0) (dL (fE lc.l z (.i v))):=by
 have:=h.room;have h3:vT 0=8:=rfl;rw [h3] at this;have hs:=fP lc.l z (.i v);refine yL (fun y hy=>?_) (fun he=>?_) (by rw [hs]; omega)
 ·rcases xX hy with h' | rfl
  ·exact (h.el1 rfl y h').i
  ·exact⟨v,rfl,hv⟩
 ·rw [he] at hs;simp only [List.length_nil] at hs;omega
theorem aaB {k:D} (hk:Wd (.sl 8) k) {t:Int} {x:KT} (h: ∃a lc w o g tr,Kt x.d a lc w o g tr) (hp:0 < k.l.length):Wd (.sl 8) (xI k t x):=by
 have hf:=hk.room;have h3:vT 8=64:=rfl;rw [h3] at hf;have hs:=fP k.l t x.d;refine VB (fun y hy=>?_) (fun he=>?_) (by rw [hs]; omega)
 ·rcases xX hy with h' | rfl
  ·exact jW hk y h'
  ·exact h
 ·rw [he] at hs;simp only [List.length_nil] at hs;omega
section
variable {d0 d1 s k:D} {t:Int} {n:Nat} {x:KT}
theorem Wu {x:KT} (ha:iM .i64 x.a) (hl:Wd (.sl 0) x.lc) (hw:iM .u8 x.w) (ho:iM .i64 x.o) (hg:iM .i64 x.g) (ht:iM .i64 x.tr): ∃a lc w o g tr,Kt x.d a lc w o g tr:=⟨_,_,_,_,_,_,rfl,ha,hl,hw,ho,hg,ht⟩
theorem Rt.kt (C:Cd d0 d1) (R:Rt d0 d1 t x): ∃a lc w o g tr,Kt x.d a lc w o g tr:=by obtain⟨a0,a1,_,t0,t1,hw⟩:=R.ok;have hd:=C.ok.1;have hnc:=(C.code R.t0 R.t1).len;exact Wu ⟨by omega,by omega⟩ R.hl ⟨by omega,by omega⟩ ⟨by omega,by omega⟩ R.hg ⟨by omega,by omega⟩
theorem aAP (C:Cd d0 d1) (R:Rt d0 d1 t x) (hx:x.w=0→x.a < (Nc d1 t:Int)) {op e2 e3 e4 oc:Int} (h3:iM .i64 e3) (h4:iM .i64 e4): ∃a lc w o g tr,Kt (xA (Ins d1 t x) x op e2 e3 e4 oc).d a lc w o g tr:=by
 obtain⟨a0,a1,hln,t0,t1,hw⟩:=R.ok;have hd:=C.ok.1;have hnc:=(C.code R.t0 R.t1).len;have ka:iM .i64 x.a:=⟨by omega,by omega⟩;have kw:iM .u8 x.w:=⟨by omega,by omega⟩;have ko:iM .i64 x.o:=⟨by omega,by omega⟩;have kt:iM .i64 x.tr:=⟨by omega,by omega⟩;have z:iM .i64 0:=⟨by omega,by omega⟩;have z8: ∀v:Int,v=0∨v=24∨v=25→iM .u8 v:=fun v h=> ⟨by omega,by omega⟩;unfold xA;split
 ·split
  ·exact Wu ka R.hl kw ko R.hg (by
    show iM .i64 (if 4611686018427387904 < x.tr+1 then 4611686018427387904 else x.tr+1)
    split <;> exact⟨by omega,by omega⟩)
  ·exact Wu ka R.hl kw ko R.hg kt
 ·split
  ·rename_i w0;have F:=C.inf R (hx w0);have ok:=F.ok;have h1:=hx w0;unfold Nc at h1;unfold OkI at ok;have k1:iM .i64 (x.a+1):=⟨by omega,by omega⟩;refine Wu ?_ ?_ ?_ ?_ ?_ z
   ·show iM .i64 (if _ then _ else _);split
    ·exact F.to
    ·exact k1
   ·show Wd (.sl 0) (if _ then _ else _);split
    ·rename_i hc;refine asC R.hl (by omega) ?_ h4;have:=hc.1;omega
    ·exact R.hl
   ·show iM .u8 (if _ then _ else _);split
    ·split
     ·exact z8 _ (by omega)
     ·exact z8 _ (by omega)
    ·exact z8 _ (by omega)
   ·show iM .i64 (if _ then _ else _);split
    ·exact h3
    ·exact ko
   ·show iM .i64 (if _ then _ else _);split
    ·exact h4
    ·exact R.hg
  ·exact Wu ka R.hl (z8 _ (.inl rfl)) z z z
theorem abM {k:D} (hp:0 < k.l.length) (t:Int) (x:KT):xI k t x≠.i 2:=fun he=>by have:=LV k t x;rw [he] at this;have e:(D.i 2).l.length=0:=rfl;omega
theorem aAO (S:Sx s k n) (C:Cd d0 d1) (R:Rt d0 d1 t x) (ht:t < (k.l.length:Int)) (hx:x.w=0→x.a < (Nc d1 t:Int)) {op obj arg tries e1 e2 e3 e4 e5 oc:Int} {s':D} (A:Tried d0 d1 s t op obj arg tries n s' e1 e2 e3 e4 e5 oc) :
 Sx s' (xI k t (xA (Ins d1 t x) x op e2 e3 e4 oc)) (n+1):=by
 have hp:0 < k.l.length:=by have:=R.t0; omega
 exact⟨A.gs,aaB S.wk (aAP C R hx A.e3 A.e4) hp,A.n2 S.n2s,abM hp _ _⟩
theorem aEX (R:Rt d0 d1 t x) (ho:jM d1 t x=0):x.w=0→x.a < (Nc d1 t:Int):=fun w0=>by unfold jM at ho;rw [if_pos w0] at ho;have:=R.ok.2.1;unfold Nc at ho ⊢;split at ho <;> omega
end
end Go.As.Try
end
section
namespace Go.As.Try
open Go hiding Stat Spec shape
open Go.As
set_option maxRecDepth 100000
theorem QV: ∀(l:List D) (k v k':D),nY (Bv l k v) k'=if k=k' then some v else nY l k'
 | [],k,v,k'=>by
   simp only [Bv,nY];by_cases h:k=k'
   ·rw [if_pos h]; exact if_pos h
   ·rw [if_neg h]; exact if_neg h
 | d :: l,k,v,k'=>by
   simp only [Bv];by_cases h:Xt d=k
   ·rw [if_pos h];simp only [nY];by_cases h2:k=k'
    ·rw [if_pos h2]; exact if_pos h2
    ·rw [if_neg h2,if_neg (fun h3=>h2 (h.symm.trans h3))]; exact if_neg h2
   ·rw [if_neg h];simp only [nY,QV l k v k'];by_cases h2:Xt d=k'
    ·rw [if_pos h2,if_neg (fun h3=>h (h2.trans h3.symm)),if_pos h2]
    ·rw [if_neg h2,if_neg h2]
def XJ (m:Int) (l:List D):Prop:=(∀x∈l,0≤x.n∧x.n < m)∧(l.map D.n).Nodup
def aeL (N o dn:Int) (rl vl:Nat):Prop:=(N < 0→(vl:Int)=0)∧(0≤N→(vl:Int)≤N)∧(o < 0∨(rl:Int)=0∧dn=0)
def Z4 (s:D) (l:List D):Prop:= ∀n:Int,(nY s.l (.i n)=none∧n∉l.map D.n)∨(nY s.l (.i n)=some (.i 1)∧n∈l.map D.n)
theorem akL {s x:D} {l:List D} (h:Z4 s l):Z4 (dL (Bv s.l (.i x.n) (.i 1))) (l++ [x]):=fun n=>by
 rw [aX,QV,List.map_append];by_cases hn:x.n=n
 ·rw [if_pos (by rw [hn])];exact .inr ⟨rfl,List.mem_append_right _ (by simp [hn])⟩
 ·rw [if_neg (fun h=>hn (by simpa using h))];rcases h n with ⟨h1,h2⟩ | ⟨h1,h2⟩
  ·refine .inl ⟨h1,fun h3=>?_⟩;rcases List.mem_append.1 h3 with h3 | h3
   ·exact h2 h3
   ·simp only [List.map,List.mem_cons,List.not_mem_nil,or_false] at h3;exact hn h3.symm
  ·exact .inr ⟨h1,List.mem_append_left _ h2⟩
theorem KD {P Q:Prop} {ys:List Int} (h:P) (hQ:isB Q ys):isB (P∧Q) ys:=by
 obtain⟨b,rfl,h1 | h1⟩:=hQ
 ·exact⟨b,rfl,.inl ⟨h1.1,fun q=>h1.2 q.2⟩⟩
 ·exact⟨b,rfl,.inr ⟨h1.1,h,h1.2⟩⟩
theorem zD {P Q:Prop} (h: ¬P):isB (P∧Q) [0]:=Ap fun q=>h q.1
theorem VW (m:Int) (r:D) (hl:r.l.length≤140737488351232) (k nm' N x7 x8 o c dn g:Int) (v:D): ∀(j i:Nat) (seen:D),i+j=r.l.length→Z4 seen (r.l.take i)→XJ m (r.l.take i)→
 Tot 501 [m,enc r,(r.l.length:Int),(i:Int),k,nm',N,x7,x8,o,c,dn,g,enc v,enc seen] (isB (XJ m r.l∧aeL N o dn r.l.length v.l.length))
 | 0,i,seen,hi,_,hR=>by
   have c1: ¬(i:Int) < (r.l.length:Int):=by omega
   rw [List.take_of_length_le (by omega)] at hR;refine Tot.of ?_;unfold aeL;rw [aoP];simp only [Yh,zz,c1]
   repeat' first
    | exact .out (KD hR (Ap (by omega)))
    | exact .out (KD hR (WA (by omega)))
    | refine .ite (fun _=>?_) (fun _=>?_)
 | j+1,i,seen,hi,hS,hR=>by
   have hil:i < r.l.length:=by omega
   have c1:(i:Int) < (r.l.length:Int):=by omega
   have c2: ¬((i:Int) < 0):=by omega
   have w:=aZ (n:=i) (by omega);have ht:r.l.take (i+1)=r.l.take i++ [r.l[i]]:=by rw [List.take_add_one,List.getElem?_eq_getElem hil]; rfl
   have hmem:r.l[i]∈r.l:=List.getElem_mem hil;have ih:=fun h=>VW m r hl k nm' N x7 x8 o c dn g v j (i+1) (dL (Bv seen.l (.i (r.l[i]).n) (.i 1))) (by omega) (by rw [ht]; exact akL hS) h;refine Tot.of ?_;rw [aoP];rcases hS (r.l[i]).n with ⟨h1,h2⟩ | ⟨h1,h2⟩
   ·simp only [Yh,zz,c1,c2,w,aY hil,h1,Option.isSome_none,Bool.false_eq_true];refine .ite (fun q=> .out (zD fun R=>?_)) (fun q=> .ite (fun q2=>?_) (fun q2=> .out (zD fun R=>?_)))
    ·have:=R.1 _ hmem;omega
    ·refine .jump (ih ?_);rw [ht];refine⟨fun x hx=>?_,?_⟩
     ·rcases List.mem_append.1 hx with hx | hx
      ·exact hR.1 x hx
      ·simp only [List.mem_cons,List.not_mem_nil,or_false] at hx;subst hx;exact⟨by omega,q2⟩
     ·rw [List.map_append,List.nodup_append];refine⟨hR.2,by simp,fun a ha b hb=>?_⟩;simp only [List.map,List.mem_cons,List.not_mem_nil,or_false] at hb;subst hb;intro he;subst he;exact h2 ha
    ·have:=R.1 _ hmem;omega
   ·simp only [Yh,zz,c1,c2,w,aY hil,h1,aA]
    have nd: ¬XJ m r.l:=fun R=>by
     have hn:=R.2;have e:r.l=r.l.take i++r.l[i] :: r.l.drop (i+1):=by rw [← List.drop_eq_getElem_cons hil,List.take_append_drop]
     rw [e,List.map_append,List.nodup_append] at hn;exact hn.2.2 _ h2 _ (by rw [List.map_cons]; exact List.mem_cons_self) rfl
    refine .ite (fun q=> .out (zD nd)) (fun q=> .ite (fun q2=> .out (zD nd)) (fun q2=> .out (zD nd)))
theorem afC (m:Int) (r:D) (hl:r.l.length≤140737488351232) (k nm' N x7 x8 o c dn g:Int) (v:D) :
 Tot 501 [m,enc r,(r.l.length:Int),0,k,nm',N,x7,x8,o,c,dn,g,enc v,enc (.i 0)] (isB (XJ m r.l∧aeL N o dn r.l.length v.l.length)):=
 VW m r hl k nm' N x7 x8 o c dn g v r.l.length 0 (.i 0) (by omega) (fun n=> .inl ⟨rfl,by simp⟩) ⟨by simp,by simp⟩
def EU (k N c:Int):Prop:=k=9∨(k=3∧0≤c∧c≤N)∨(k=5∧0≤c∧c≤IntKind.i64.wrap (N - 1))∨(k=7∧0≤c∧c≤1099511627776)∨(k≠3∧k≠5∧k≠7∧k≠9∧c=0)
theorem auH (k x1 N x3 x4 c:Int): ∃a b:Int,L 650 [k,x1,N,x3,x4]=some [a,b]∧(b=0∧EU k N c∨b=1∧(EU k N c↔0≤c∧c≤a)):=by
 have:Tot 650 [k,x1,N,x3,x4] (fun ys=> ∃a b:Int,ys= [a,b]∧(b=0∧EU k N c∨b=1∧(EU k N c↔0≤c∧c≤a))):=by
  unfold EU;refine Tot.of ?_;rw [aCx];simp only [asU,zz]
  repeat' first
   | exact .out ⟨_,_,rfl,by omega⟩
   | refine .ite (fun _=>?_) (fun _=>?_)
 obtain⟨ys,h,a,b,rfl,h2⟩:=this;exact⟨a,b,h,h2⟩
def aAw (k N m o c dn g:Int) (rl vl:Nat):Prop:=
 EU k N c∧-1≤o∧o < m∧0≤g∧g≤4611686018427387904∧(0≤o→k=1∨k=2∨k=6)∧(0 < (rl:Int)→k=4∨k=2)∧(0 < (vl:Int)→k=8)∧(dn≠0→k=6)∧(0 < g→k=5)
def arV (k N m o c dn g:Int) (r v:D):Prop:=aAw k N m o c dn g r.l.length v.l.length∧XJ m r.l∧aeL N o dn r.l.length v.l.length
set_option maxHeartbeats 4000000 in
theorem akF (k x1 N x3 x4 m o c dn g:Int) (r v:D) (hl:r.l.length≤140737488351232):Tot 500 [k,x1,N,x3,x4,o,c,dn,g,enc r,enc v,m] (isB (arV k N m o c dn g r v)):=by
 unfold arV aAw;obtain⟨a,b,hM,hb⟩:=auH k x1 N x3 x4 c;have ih:=afC m r hl k x1 N x3 x4 o c dn g v;refine Tot.of ?_;rw [aCz];generalize EU k N c=H at *;by_cases b0:b=0
 ·subst b0
  have hH:H:=by
   rcases hb with h | h
   ·exact h.2
   ·omega
  simp only [ajF,zz,hM]
  repeat' first
   | exact .out (zD (by omega))
   | exact .jump (let ⟨ys,hL,hB⟩:=ih; ⟨ys,hL,KD ⟨hH,by omega,by omega,by omega,by omega,by omega,by omega,by omega,by omega,by omega⟩ hB⟩)
   | refine .ite (fun _=>?_) (fun _=>?_)
 ·have hH:H↔0≤c∧c≤a:=by
   rcases hb with h | h
   ·omega
   ·exact h.2
  simp only [ajF,zz,hM,if_neg b0]
  repeat' first
   | exact .out (zD fun h=>by first | omega | (have:=hH.1 h.1; omega))
   | exact .jump (let ⟨ys,hL,hB⟩:=ih; ⟨ys,hL,KD ⟨hH.2 ⟨by omega,by omega⟩,by omega,by omega,by omega,by omega,by omega,by omega,by omega,by omega,by omega⟩ hB⟩)
   | refine .ite (fun _=>?_) (fun _=>?_)
theorem auP {P:Prop} {j:Nat} {xs:List Int} (h:Tot j xs (isB P)):L j xs=some [1]↔P:=by
 obtain⟨ys,hL,b,rfl,hb⟩:=h;rw [hL];simp only [Option.some.injEq,List.cons.injEq,and_true];rcases hb with ⟨h1,h2⟩ | ⟨h1,h2⟩
 ·exact⟨fun h=>by omega,fun h=>absurd h h2⟩
 ·exact⟨fun _=>h2,fun _=>h1⟩
theorem aAZ {d x:D} {m:Nat} {o c dn g:Int} {r v:D} (T:Tg x o c dn g r v) (hl:r.l.length≤140737488351232):Snd d x m↔arV (d.hd 0).n (d.hd 2).n (m:Int) o c dn g r v:=by
 have h:=auP (akF (d.hd 0).n (enc (d.hd 1)) (d.hd 2).n (enc (d.hd 3)) (d.hd 4).n (m:Int) o c dn g r v hl)
 have e:(if dn=0 then (0:Int) else 1)=dn:=by rcases T.hd with rfl | rfl <;> rfl
 unfold Snd atJ;rw [T.is];simp only [zg,Option.getD_some,n_i,e];exact h
end Go.As.Try
end
section
namespace Go.As.Try
open Go hiding Stat Spec shape
open Go.As
set_option maxRecDepth 100000
def axO (k N m:Int):Act→Prop
 | .res o c dn g r v _ _ _=>arV k N m o c dn g r v
 | _=>True
theorem axO.ite {k N m:Int} {p:Prop} [Decidable p] {a b:Act} (ha:p→axO k N m a) (hb: ¬p→axO k N m b):axO k N m (if p then a else b):=by
 by_cases h:p
 ·rw [if_pos h]; exact ha h
 ·rw [if_neg h]; exact hb h
section
variable {d0 x:D} {k N m mo th op arg tries o c dn g:Int} {r v:D}
end
end Go.As.Try
end
section
namespace Go.As.Try
open Go hiding Stat Spec shape
open Go.As
set_option maxRecDepth 100000
structure aF9 (d0 d1 s k:D) (t:Int) (n:Nat) (s' k':D) (e1 e2 e3 e4 e5 oc:Int):Prop where
 eq:L 1850 [enc d0,enc d1,enc s,enc k,t]=some [enc s',enc k',e1,e2,e3,e4,e5,oc]
 sx:Sx s' k' (n+1)
 ls:s'.l.length=s.l.length
 lk:k'.l.length=k.l.length
section
variable {d0 d1 s k:D} {n:Nat} (S:Sx s k n) (hn:n < 17592186043904) (h0:Wd (.sl 3) d0) (h1:Wd (.sl 4) d1)
include S hn h0 h1
theorem aBj {t:Int} {x:KT} (R:Rs d0 d1 s k t x) (ho:jM d1 t x=0) (ha:low (oV d1 t x) 4=0):Sx s (xI k t (AL (Ins d1 t x) x)) n:=by
 have hp:0 < k.l.length:=by have:=R.r.t0; have:=R.ht; omega
 exact⟨S.g,aaB S.wk ((alY R.c R.ht R.r (amB R.r ho ha)).1.kt R.c) hp,S.n2s,abM hp _ _⟩
end
def alB (x n:Int):Int:=if x.tmod n < 0 then x.tmod n+n else x.tmod n
theorem aiG {x n:Int} (h:0 < n): -n < x.tmod n∧x.tmod n < n:=by have h1:=Int.tmod_lt_of_pos x h;have h2:=Int.tmod_lt_of_pos (-x) h;rw [Int.neg_tmod] at h2;omega
theorem afI {x n:Int} (h:0 < n) (hb:n≤140737488351232):(IntKind.i64.wrap (x.tmod n+n)).tmod n=alB x n:=by
 have h1:=aiG (x:=x) h;rw [nU (by omega) (by omega)];unfold alB;split
 ·exact Int.tmod_eq_of_lt (by omega) (by omega)
 ·rw [Int.tmod_eq_emod_of_nonneg (by omega),Int.add_emod_right];exact Int.emod_eq_of_lt (by omega) (by omega)
end Go.As.Try
end
section
namespace Go.As.Try
open Go hiding Stat Spec shape
open Go.As
set_option maxRecDepth 100000
inductive arT (d0 d1 s:D) (t op obj arg tries:Int):D→Int→Int→Int→Int→Int→Int→Prop
 | no:arT d0 d1 s t op obj arg tries s 0 0 0 0 0 0
 | mis (A:Acc d0 d1 s t op obj):arT d0 d1 s t op obj arg tries s t 27 obj (IntKind.i64.wrap op) 0 2
 | res (A:Acc d0 d1 s t op obj) (o c dn g:Int) (r v:D) (o' c' dn' g':Int) (r' v':D) (m:Option Int) (a oc:Int) (T:Tg (s.at obj) o c dn g r v)
  (h:act (Mx d0 obj) (Mo d0 s obj) t op arg tries o c dn g r v= .res o' c' dn' g' r' v' m a oc):arT d0 d1 s t op obj arg tries (YS s obj (Mx d0 obj) (.res o' c' dn' g' r' v' m a oc)) t op obj a 0 oc
section
variable {d0 d1 s s':D} {t op obj arg tries e1 e2 e3 e4 e5 oc:Int} {n:Nat}
theorem Yf (h0:Wd (.sl 3) d0) (h1:Wd (.sl 4) d1) (G:Gs s n) (hn:n < 17592186043904) (hop:iM .u8 op) (A:Tried d0 d1 s t op obj arg tries n s' e1 e2 e3 e4 e5 oc):arT d0 d1 s t op obj arg tries s' e1 e2 e3 e4 e5 oc:=by
 have hf:=G.few (by omega:n < 17592186044415);have hA:=A.eq;by_cases h:Acc d0 d1 s t op obj
 ·obtain⟨_,o,c,dn,g,r,v,T,hL⟩:=aaH (arg:=arg) (tries:=tries) h0 h1 G.wd hf hop h;rw [abW] at hL;rw [hA] at hL
  cases hB:act (Mx d0 obj) (Mo d0 s obj) t op arg tries o c dn g r v with
  | blk=> rw [hB] at hL;simp only [evA,Option.some.injEq,List.cons.injEq,and_true] at hL;obtain⟨q,rfl,rfl,rfl,rfl,rfl,rfl⟩:=hL;have q:=lK q;subst q;exact .no
  | mis=> rw [hB] at hL;simp only [evA,Option.some.injEq,List.cons.injEq,and_true] at hL;obtain⟨q,rfl,rfl,rfl,rfl,rfl,rfl⟩:=hL;have q:=lK q;subst q;exact .mis h
  | res o' c' dn' g' r' v' m a oc'=> rw [hB] at hL;simp only [evA,Option.some.injEq,List.cons.injEq,and_true] at hL;obtain⟨q,rfl,rfl,rfl,rfl,rfl,rfl⟩:=hL;have q:=lK q;subst q;exact .res h o c dn g r v o' c' dn' g' r' v' m _ _ T hB
 ·have hL:=aiA (arg:=arg) (tries:=tries) h0 h1 G.wd hf hop h;rw [hA] at hL;simp only [Option.some.injEq,List.cons.injEq,and_true] at hL;obtain⟨q,rfl,rfl,rfl,rfl,rfl,rfl⟩:=hL;have q:=lK q;subst q;exact .no
end
section
variable {d0 d1 s:D} {n:Nat} (h0:Wd (.sl 3) d0) (h1:Wd (.sl 4) d1) (G:Gs s n) (hn:n < 17592186044000)
include h0 h1 G hn
theorem TN (R:L 350 [enc d0,enc d1,enc s]=some [1]):L 450 [enc d0,enc d1]=some [0]∧Ew d0 d1∧s.l.length=d0.l.length:=by obtain⟨b,hb,_,hi⟩:=qZ h0 h1 (G.few (by omega)).rows;rw [R] at hb;simp only [Option.some.injEq,List.cons.injEq,and_true] at hb;obtain⟨hC,hle,_⟩:=hi.1 hb.symm;exact⟨hC,L8 h0 h1 (G.few (by omega)) R⟩
theorem aA2 (R:L 350 [enc d0,enc d1,enc s]=some [1]) {i:Int} (i0:0≤i) (i1:i < (s.l.length:Int)) {o c dn g:Int} {r v:D} (T:Tg (s.at i) o c dn g r v):arV ((d0.at i).hd 0).n ((d0.at i).hd 2).n (d1.l.length:Int) o c dn g r v:=by
 obtain⟨b,hb,_,hi⟩:=qZ h0 h1 (G.few (by omega)).rows;rw [R] at hb;simp only [Option.some.injEq,List.cons.injEq,and_true] at hb;obtain⟨_,hle,hs⟩:=hi.1 hb.symm;obtain⟨k,rfl⟩ : ∃k:Nat,i=(k:Int):=⟨i.toNat,by omega⟩;have hk:k < s.l.length:=by omega
 have h:=hs k hk;rw [aY hk] at T;have hrow:=G.rows _ (List.getElem_mem hk);rw [T.is] at hrow;have hl:r.l.length≤140737488351232:=by have:=hrow.1; have:r.l.length≤n:=this; omega
 rw [aAZ T hl] at h;rw [aY (by omega:k < d0.l.length)];exact h
end
theorem ayQ {s:D} {n:Nat} (G:Gs s n) {i:Int} (i0:0≤i) (i1:i < (s.l.length:Int)): ∃o c dn g r v,Tg (s.at i) o c dn g r v∧r.l.length≤n∧v.l.length≤n:=by
 obtain⟨k,rfl⟩ : ∃k:Nat,i=(k:Int):=⟨i.toNat,by omega⟩;have hk:k < s.l.length:=by omega
 obtain⟨o,c,dn,g,r,v,T⟩:=Le (G.wd.thing _ (List.getElem_mem hk));have hrow:=G.rows _ (List.getElem_mem hk);rw [T.is] at hrow;exact⟨o,c,dn,g,r,v,by rw [aY hk]; exact T,hrow.1,hrow.2⟩
def axP (th:Int):Act→Prop
 | .res _ _ _ _ _ _ m _ _=> ∀q,m=some q→q= -1∨q=th
 | _=>True
theorem axP.ite {th:Int} {p:Prop} [Decidable p] {a b:Act} (ha:axP th a) (hb:axP th b):axP th (if p then a else b):=by
 split
 ·exact ha
 ·exact hb
theorem arP {s:D} {i:Nat} {x:D} (h:s.l[i]?=some x):s.at (i:Int)=x:=by rw [IL,h]; rfl
section
variable {d0 d1 s:D} {t op obj arg tries:Int} {n:Nat} (h0:Wd (.sl 3) d0) (h1:Wd (.sl 4) d1) (G:Gs s n) (hn:n < 17592186043904) (hop:iM .u8 op) (ht:iM .i64 t) (ha:iM .i64 arg)
include h0 h1 G hn hop ht ha
end
def axN (op:Int):Act→Prop
 | .res _ _ _ _ _ _ _ _ oc=>oc=2∨oc=3∧(op=12∨op=15)
 | _=>True
theorem axN.ite {op:Int} {p:Prop} [Decidable p] {a b:Act} (ha:p→axN op a) (hb: ¬p→axN op b):axN op (if p then a else b):=by
 by_cases h:p
 ·rw [if_pos h]; exact ha h
 ·rw [if_neg h]; exact hb h
section
variable {d0 d1 s s' k:D} {t op obj arg tries e1 e2 e3 e4 e5 oc:Int} {n:Nat} {x:KT}
end
inductive JJ (d0 d1 s k:D) (t:Int) (n:Nat):D→D→Int→Int→Int→Int→Int→Int→Prop
 | no (h:L 1550 [enc d0,enc d1,enc s,enc k,t]=some [0]):JJ d0 d1 s k t n s k 0 0 0 0 0 0
 | over (x:KT) (R:Rs d0 d1 s k t x) (ho:jM d1 t x=1):JJ d0 d1 s k t n s k 0 0 0 0 0 4
 | loc (x:KT) (R:Rs d0 d1 s k t x) (ho:jM d1 t x=0) (ha:low (oV d1 t x) 4=0):JJ d0 d1 s k t n s (xI k t (AL (Ins d1 t x) x)) 0 0 0 0 0 1
 | tri (x:KT) (R:Rs d0 d1 s k t x) (ho:jM d1 t x=0) (op obj arg tr:Int) (hq:oV d1 t x= [op,obj,arg,tr,1]) (k1:iM .u8 op) (k2:iM .i64 obj) (k3:iM .i64 arg) (hti:iM .i64 t) (s':D) (e1 e2 e3 e4 e5 oc:Int)
  (A:Tried d0 d1 s t op obj arg tr n s' e1 e2 e3 e4 e5 oc) (T:arT d0 d1 s t op obj arg tr s' e1 e2 e3 e4 e5 oc):JJ d0 d1 s k t n s' (xI k t (xA (Ins d1 t x) x op e2 e3 e4 oc)) e1 e2 e3 e4 e5 oc
section
variable {d0 d1 s k:D} {n:Nat} (S:Sx s k n) (hn:n < 17592186043904) (h0:Wd (.sl 3) d0) (h1:Wd (.sl 4) d1)
include S hn h0 h1
theorem YE (t:Int): ∃s' k' e1 e2 e3 e4 e5 oc,L 1850 [enc d0,enc d1,enc s,enc k,t]=some [enc s',enc k',e1,e2,e3,e4,e5,oc]∧JJ d0 d1 s k t n s' k' e1 e2 e3 e4 e5 oc:=by
 rcases ayJ (t:=t) S hn h0 h1 with h | ⟨x,R⟩
 ·exact⟨s,k,0,0,0,0,0,0,atG S h,.no h⟩
 ·rcases abV d1 t x with ho | ho
  ·by_cases ha:low (oV d1 t x) 4=0
   ·exact⟨_,_,0,0,0,0,0,1,YD S R ho ha,.loc x R ho ha⟩
   ·obtain⟨op,obj,arg,tr,hq⟩:=afR (by omega) ha;obtain⟨k1,k2,k3⟩:=auF R.c R.r R.c.ok.1 hq
    have hti:iM .i64 t:=by have:=R.r.t0;have:=R.r.t1;have:=h1.len;exact⟨by omega,by omega⟩
    obtain⟨s',e1,e2,e3,e4,e5,oc,A⟩:=try_any (tries:=tr) h0 h1 S.g hn hti k1 k2 k3;exact⟨s',_,e1,e2,e3,e4,e5,oc,YC S R ho hq A,.tri x R ho op obj arg tr hq k1 k2 k3 hti s' e1 e2 e3 e4 e5 oc A (Yf h0 h1 S.g hn k1 A)⟩
  ·exact⟨s,k,0,0,0,0,0,4,aeR S R ho,.over x R ho⟩
theorem VP {t:Int} {s' k':D} {e1 e2 e3 e4 e5 oc:Int} (H:JJ d0 d1 s k t n s' k' e1 e2 e3 e4 e5 oc):Sx s' k' (n+1)∧s'.l.length=s.l.length∧k'.l.length=k.l.length:=by
 cases H with
 | no h=>exact⟨S.mono (Nat.le_succ n),rfl,rfl⟩
 | over x R ho=>exact⟨S.mono (Nat.le_succ n),rfl,rfl⟩
 | loc x R ho ha=>exact⟨(aBj S hn h0 h1 R ho ha).mono (Nat.le_succ n),rfl,LV _ _ _⟩
 | tri x R ho op obj arg tr hq k1 k2 k3 hti s' e1 e2 e3 e4 e5 oc A T=>exact⟨aAO S R.c R.r R.ht (aEX R.r ho) A,A.len,LV _ _ _⟩
end
theorem MR.thr {d0 d1 s k:D} {n:Nat} (S:Sx s k n) (hn:n < 17592186043904) (h0:Wd (.sl 3) d0) (h1:Wd (.sl 4) d1) (M:MR d0 d1 s k) {t:Int} (t0:0≤t) (t1:t < (d1.l.length:Int)): ∃x,Rs d0 d1 s k t x:=by
 obtain⟨ys,hL,b,rfl,hb⟩:=VX (k:=k) h0 h1 (S.g.few (by omega)).rows h1.len t;rcases hb with ⟨_,hb⟩ | ⟨rfl,_⟩
 ·exact absurd ⟨t0,t1,M⟩ hb
 ·rcases ayJ (t:=t) S hn h0 h1 with h | h
  ·rw [hL] at h;simp at h
  ·exact h
end Go.As.Try
end
section
namespace Go.As.Try
open Go hiding Stat Spec shape
open Go.As
set_option maxRecDepth 100000
def OJ (s:D) (t:Int) (x:KT):Int:=if x.w=24 then (if place ((s.at x.o).hd 4) t < 0 then 0 else 1) else if x.w=25 then (if x.g < ((s.at x.o).hd 3).n then 0 else 1) else 0
def aEU (d1 s:D) (t:Int) (x:KT):Int:=if jM d1 t x=1 then 0 else if OJ s t x=0 then 1 else 0
section
variable {d0 d1 s k:D} {t:Int} {n:Nat} {x:KT} (S:Sx s k n) (hn:n < 17592186043904) (R:Rs d0 d1 s k t x) (hle:s.l.length=d0.l.length)
include S hn R hle
theorem SA:L 2850 [enc s,enc k,t]=some [OJ s t x]:=by
 have hk:=R.hk;have ht:=R.ht;have c1: ¬t < 0:=by have:=R.r.t0; omega
 have hw:=R.r.ok.2.2.2.2.2;rw [aT,azV];unfold OJ
 have q:(x.w=24∨x.w=25)→((s.at x.o).hd 4).l.length≤140737488351232∧¬x.o < 0∧x.o < (s.l.length:Int):=fun h=>by
  have o0:0≤x.o∧x.o < (s.l.length:Int):=by omega
  obtain⟨o,c,dn,g,r,v,T,hr,_⟩:=ayQ S.g o0.1 o0.2;rw [T.is];exact⟨by simp only [zg,Option.getD_some]; omega,by omega,o0.2⟩
 by_cases w4:x.w=24
 ·obtain⟨hl,o0,o1⟩:=q (.inl w4);have hh:=has_is ((s.at x.o).hd 4) t hl;by_cases hp:place ((s.at x.o).hd 4) t < 0
  ·rw [if_pos hp] at hh;simp only [Lm,zz,hk,c1,ht,zg,w4,o0,o1,hh,hp,aK,if_true]
  ·rw [if_neg hp] at hh;simp only [Lm,zz,hk,c1,ht,zg,w4,o0,o1,hh,hp,aK,if_true,if_false,aA]
 ·by_cases w5:x.w=25
  ·obtain⟨hl,o0,o1⟩:=q (.inr w5);by_cases hp:x.g < ((s.at x.o).hd 3).n
   ·simp only [Lm,zz,hk,c1,ht,zg,w5,o0,o1,hp,aK,if_true,if_false,Int.reduceEq]
   ·simp only [Lm,zz,hk,c1,ht,zg,w5,o0,o1,hp,aK,if_true,if_false,Int.reduceEq]
  ·simp only [Lm,zz,hk,c1,ht,zg,w4,w5,aK,if_false]
theorem agZ:L 2900 [enc d0,enc d1,enc s,enc k,t]=some [aEU d1 s t x]:=by
 have hk:=R.hk;have ht:=R.ht;have c1: ¬t < 0:=by have:=R.r.t0; omega
 have c2:=R.r.t1;have hA:=SA S hn R hle;rw [aT,azU];unfold aEU jM Nc
 have a01:OJ s t x=0∨OJ s t x=1:=by
  unfold OJ
  repeat' split
  all_goals simp
 by_cases w0:x.w=0
 ·by_cases a0:x.a=(((d1.at t).hd 2).l.length:Int)
  ·simp only [Ll,zz,hk,c1,c2,ht,zg,w0,a0,aK,if_true]
  ·rcases a01 with h | h
   ·rw [h] at hA;simp only [Ll,zz,hk,c1,c2,ht,zg,w0,a0,hA,h,aK,if_true,if_false,Int.reduceEq]
   ·rw [h] at hA;simp only [Ll,zz,hk,c1,c2,ht,zg,w0,a0,hA,h,aK,if_true,if_false,Int.reduceEq]
 ·rcases a01 with h | h
  ·rw [h] at hA;simp only [Ll,zz,hk,c1,c2,ht,zg,w0,hA,h,aK,if_true,if_false,Int.reduceEq]
  ·rw [h] at hA;simp only [Ll,zz,hk,c1,c2,ht,zg,w0,hA,h,aK,if_true,if_false,Int.reduceEq]
end
noncomputable def JY (d0 d1 s k:D) (u:Int):Int:=low ((L 2900 [enc d0,enc d1,enc s,enc k,u]).getD []) 0
def SG (cnt:Int→Int) (c:D) (t:Int):Prop:=cnt t≠0∧∀u:Nat,u < c.l.length→((c.at (u:Int)).n < (c.at t).n∨(c.at (u:Int)).n=(c.at t).n∧(u:Int) < t)→cnt (u:Int)=0
section
variable {d0 d1 s k c:D} {t:Int} (hc: ∀u:Int,0≤u→u < (c.l.length:Int)→∃z:Int,L 2900 [enc d0,enc d1,enc s,enc k,u]=some [z]) (t0:0≤t) (t1:t < (c.l.length:Int)) (hb:c.l.length≤140737488351232)
include hc t0 t1 hb
theorem Pn: ∀(j i:Nat),i+j=c.l.length→∃b:Int,L 2951 [t,enc c,(c.l.length:Int),(i:Int),enc d0,enc d1,enc s,enc k]=some [b]∧(b=0∨b=1)∧
 (b=1↔∀u:Nat,i≤u→u < c.l.length→((c.at (u:Int)).n < (c.at t).n∨(c.at (u:Int)).n=(c.at t).n∧(u:Int) < t)→JY d0 d1 s k (u:Int)=0)
 | 0,i,hi=>by
   have c1: ¬(i:Int) < (c.l.length:Int):=by omega
   refine⟨1,?_,.inr rfl,fun _ u h h'=>by omega,fun _=>rfl⟩;rw [aT,JB];simp only [Fh,zz,c1,aK]
 | j+1,i,hi=>by
   have c1:(i:Int) < (c.l.length:Int):=by omega
   have c2: ¬((i:Int) < 0):=by omega
   have c3: ¬(t < 0):=by omega
   have w:=aZ (n:=i) (by omega);obtain⟨b,ih,hb2,hiff⟩:=Pn j (i+1) (by omega);obtain⟨z,hz⟩:=hc (i:Int) (by omega) c1
   have hzl:JY d0 d1 s k (i:Int)=z:=by unfold JY;rw [hz];rfl
   have pass:(((c.at (i:Int)).n < (c.at t).n∨(c.at (i:Int)).n=(c.at t).n∧(i:Int) < t)→z=0)→(b=1↔∀u:Nat,i≤u→u < c.l.length→((c.at (u:Int)).n < (c.at t).n∨(c.at (u:Int)).n=(c.at t).n∧(u:Int) < t)→JY d0 d1 s k (u:Int)=0):=fun hp=>by
    rw [hiff];refine⟨fun h u hu hl ha=>?_,fun h u hu hl ha=>h u (by omega) hl ha⟩;by_cases hui:u=i
    ·subst hui;rw [hzl];exact hp ha
    ·exact h u (by omega) hl ha
   have stop:((c.at (i:Int)).n < (c.at t).n∨(c.at (i:Int)).n=(c.at t).n∧(i:Int) < t)→z≠0→((0:Int)=1↔∀u:Nat,i≤u→u < c.l.length→((c.at (u:Int)).n < (c.at t).n∨(c.at (u:Int)).n=(c.at t).n∧(u:Int) < t)→JY d0 d1 s k (u:Int)=0):=fun ha hne=>
    ⟨fun h=>by omega,fun h=>absurd (hzl.symm.trans (h i (Nat.le_refl _) (by omega) ha)) hne⟩
   by_cases l1:(c.at (i:Int)).n < (c.at t).n
   ·by_cases z0:z=0
    ·refine⟨b,?_,hb2,pass fun _=>z0⟩;rw [aT,JB];simp only [Fh,zz,c1,c2,c3,t1,w,l1,hz,z0,aH,ih]
    ·refine⟨0,?_,.inl rfl,stop (.inl l1) z0⟩;rw [aT,JB];simp only [Fh,zz,c1,c2,c3,t1,w,l1,hz,if_neg z0,aK]
   ·by_cases l2:(c.at (i:Int)).n=(c.at t).n
    ·by_cases l3:(i:Int) < t
     ·by_cases z0:z=0
      ·refine⟨b,?_,hb2,pass fun _=>z0⟩;rw [aT,JB];simp only [Fh,zz,c1,c2,c3,t1,w,if_neg l1,if_pos l2,l3,hz,z0,aH,ih]
      ·refine⟨0,?_,.inl rfl,stop (.inr ⟨l2,l3⟩) z0⟩;rw [aT,JB];simp only [Fh,zz,c1,c2,c3,t1,w,if_neg l1,if_pos l2,l3,hz,if_neg z0,aK]
     ·refine⟨b,?_,hb2,pass fun h=>by omega⟩;rw [aT,JB];simp only [Fh,zz,c1,c2,c3,t1,w,if_neg l1,if_pos l2,if_neg l3,aH,ih]
    ·refine⟨b,?_,hb2,pass fun h=>by omega⟩;rw [aT,JB];simp only [Fh,zz,c1,c2,c3,t1,w,if_neg l1,if_neg l2,aH,ih]
theorem asG: ∃b:Int,L 2950 [enc d0,enc d1,enc s,enc k,enc c,t]=some [b]∧(b=0∨b=1)∧(b=1↔SG (JY d0 d1 s k) c t):=by
 obtain⟨b,hL,hb2,hiff⟩:=Pn hc t0 t1 hb c.l.length 0 (by omega);obtain⟨z,hz⟩:=hc t t0 t1
 have hzl:JY d0 d1 s k t=z:=by unfold JY;rw [hz];rfl
 unfold SG;rw [hzl];rw [Int.natCast_zero] at hL;by_cases z0:z=0
 ·refine⟨0,?_,.inl rfl,fun h=>by omega,fun h=>absurd z0 h.1⟩;rw [aT,apB];simp only [abB,zz,hz,z0,aK]
 ·refine⟨b,?_,hb2,hiff.trans ⟨fun h=> ⟨z0,fun u hu ha=>h u (Nat.zero_le _) hu ha⟩,fun h u _ hu ha=>h.2 u hu ha⟩⟩;rw [aT,apB];simp only [abB,zz,hz,if_neg z0,aH,hL]
end
theorem Wn (c:D) (hb:c.l.length≤140737488351232): ∀(j i:Nat),i+j=c.l.length→∃b:Int,L 16051 [enc c,(c.l.length:Int),(i:Int)]=some [b]∧(b < 0↔∀u:Nat,i≤u→u < c.l.length→0≤(c.at (u:Int)).n)
 | 0,i,hi=>by
   have c1: ¬(i:Int) < (c.l.length:Int):=by omega
   refine⟨-1,?_,fun _ u h h'=>by omega,fun _=>by omega⟩;rw [aT,U4];simp only [Lr,zz,c1,aK]
 | j+1,i,hi=>by
   have c1:(i:Int) < (c.l.length:Int):=by omega
   have c2: ¬((i:Int) < 0):=by omega
   have w:=aZ (n:=i) (by omega);obtain⟨b,ih,hiff⟩:=Wn c hb j (i+1) (by omega);by_cases hz:(c.at (i:Int)).n < 0
   ·refine⟨(i:Int),?_,fun h=>by omega,fun h=>?_⟩
    ·rw [aT,U4];simp only [Lr,zz,c1,c2,hz,aK]
    ·have:=h i (Nat.le_refl _) (by omega);omega
   ·refine⟨b,?_,hiff.trans ⟨fun h u hu hl=>?_,fun h u hu hl=>h u (by omega) hl⟩⟩
    ·rw [aT,U4];simp only [Lr,zz,c1,c2,if_neg hz,w,aH,ih]
    ·by_cases hui:u=i
     ·subst hui; omega
     ·exact h u (by omega) hl
def KR (d0 d1 s k c:D):Prop:=c.l.length=d1.l.length∧(∀u:Nat,u < c.l.length→0≤(c.at (u:Int)).n)∧MR d0 d1 s k
theorem Rf {d0 d1 s k c:D} (h0:Wd (.sl 3) d0) (h1:Wd (.sl 4) d1) (hr:Em s) (hb:c.l.length≤140737488351232):Tot 2750 [enc d0,enc d1,enc s,enc k,enc c] (isB (KR d0 d1 s k c)):=by
 obtain⟨ys,hM,m,rfl,hm⟩:=QO h0 h1 hr h1.len (k:=k);obtain⟨b,hL,hiff⟩:=Wn c hb c.l.length 0 (by omega);rw [Int.natCast_zero] at hL
 have h50:L 16050 [enc c]=some [b]:=by rw [aT,apG];simp only [Yk,zz,aH,hL]
 have h00:L 16000 [enc c]=some [if b < 0 then 0 else 1]:=by
  rw [aT,apH];by_cases hb0:b < 0
  ·simp only [Tj,zz,h50,hb0,aK,if_true]
  ·simp only [Tj,zz,h50,hb0,aK,if_false]
 unfold KR;refine Tot.of ?_;rw [azW];by_cases hl:(c.l.length:Int)=(d1.l.length:Int)
 ·by_cases hb0:b < 0
  ·rw [if_pos hb0] at h00;simp only [VH,zz,hl,h00,hM];have hall:=fun u hu=>hiff.1 hb0 u (Nat.zero_le _) hu;refine .ite (fun h=> .out (Ap fun q=>?_)) (fun h=> .out (WA ⟨by omega,hall,?_⟩))
   ·rcases hm with ⟨_,hm⟩ | ⟨h',_⟩
    ·exact hm q.2.2
    ·omega
   ·rcases hm with ⟨h',_⟩ | ⟨_,hm⟩
    ·exact absurd h' h
    ·exact hm
  ·rw [if_neg hb0] at h00;simp only [VH,zz,hl,h00,aA];exact .out (Ap fun q=>hb0 (hiff.2 fun u _ hu=>q.2.1 u hu))
 ·simp only [VH,zz,if_neg hl];exact .out (Ap fun q=>hl (by have:=q.1; omega))
end Go.As.Try
end
section
namespace Go.As.Try
open Go hiding Stat Spec shape
open Go.As
set_option maxRecDepth 100000
def EqN (a b:D):Prop:=a.l.length=b.l.length∧∀(i:Nat),(a.at (i:Int)).n=(b.at (i:Int)).n
structure KEq (x y:D):Prop where
 c0:(x.hd 0).n=(y.hd 0).n
 c1:EqN (x.hd 1) (y.hd 1)
 c2:(x.hd 2).n=(y.hd 2).n
 c3:(x.hd 3).n=(y.hd 3).n
 c4:(x.hd 4).n=(y.hd 4).n
 c5:(x.hd 5).n=(y.hd 5).n
theorem EqN.rfl' (a:D):EqN a a:=⟨rfl,fun _=>rfl⟩
theorem KEq.rfl' (a:D):KEq a a:=⟨rfl,EqN.rfl' _,rfl,rfl,rfl,rfl⟩
def alX (k:D):Prop:=k.l.length≤140737488351232∧∀i:Nat,((k.at (i:Int)).hd 1).l.length≤140737488351232
section
variable {s k s' k':D} (hl:k.l.length=k'.l.length) (hq: ∀i:Nat,KEq (k.at (i:Int)) (k'.at (i:Int))) (hb:alX k)
include hl hq hb
theorem FC: ∀(j i:Nat),i+j=k.l.length→L 2051 [(k.l.length:Int),(i:Int),enc s,enc k,enc s',enc k']=some [1]
 | 0,i,hi=>by
   have c1: ¬(i:Int) < (k.l.length:Int):=by omega
   rw [aT,apD];simp only [abD,zz,c1,aK]
 | j+1,i,hi=>by
   have c1:(i:Int) < (k.l.length:Int):=by omega
   have c2: ¬((i:Int) < 0):=by omega
   have c3:(i:Int) < (k'.l.length:Int):=by omega
   have b1:=hb.1;have w:=aZ (n:=i) (by omega);have ih:=FC j (i+1) (by omega);have q:=hq i;obtain⟨q1,q2⟩:=q.c1;have b2:=hb.2 i
   have lp: ∀(j' i':Nat),i'+j'=((k.at (i:Int)).hd 1).l.length→L 2052 [(k.l.length:Int),(i:Int),(((k.at (i:Int)).hd 1).l.length:Int),(i':Int),enc s,enc k,enc s',enc k',((k.at (i:Int)).hd 0).n,enc ((k.at (i:Int)).hd 1),((k.at (i:Int)).hd 2).n,((k.at (i:Int)).hd 3).n,((k.at (i:Int)).hd 4).n,((k.at (i:Int)).hd 5).n,((k'.at (i:Int)).hd 0).n,enc ((k'.at (i:Int)).hd 1),((k'.at (i:Int)).hd 2).n,((k'.at (i:Int)).hd 3).n,((k'.at (i:Int)).hd 4).n,((k'.at (i:Int)).hd 5).n]=some [1]:=by
    intro j'
    induction j' with
    | zero=>
      intro i' hi';have d1: ¬(i':Int) < (((k.at (i:Int)).hd 1).l.length:Int):=by omega
      rw [aT,apC];simp only [abC,zz,d1,w,aH,ih]
    | succ j' ihj=>
      intro i' hi';have d1:(i':Int) < (((k.at (i:Int)).hd 1).l.length:Int):=by omega
      have d2: ¬((i':Int) < 0):=by omega
      have d3:(i':Int) < (((k'.at (i:Int)).hd 1).l.length:Int):=by omega
      have w':=aZ (n:=i') (by omega);have h':=ihj (i'+1) (by omega);have hn:=q2 i';rw [aT,apC];simp only [abC,zz,d1,d2,d3,w',hn,aH];exact h'
   have l0:=lp ((k.at (i:Int)).hd 1).l.length 0 (by omega);have q1':(((k.at (i:Int)).hd 1).l.length:Int)=(((k'.at (i:Int)).hd 1).l.length:Int):=by omega
   simp only [q.c0,q.c2,q.c3,q.c4,q.c5,q1',Int.natCast_zero] at l0;rw [aT,apD];simp only [abD,zz,c1,c2,c3,q.c0,q.c2,q.c3,q.c4,q.c5,q1',aH];exact l0
theorem afA (hs:L 200 [enc s,enc s']=some [1]):L 2050 [enc s,enc k,enc s',enc k']=some [1]:=by
 have h:=FC (s:=s) (s':=s') hl hq hb k.l.length 0 (by omega);have hl':(k.l.length:Int)=(k'.l.length:Int):=by omega
 rw [Int.natCast_zero] at h;rw [aT,azX];simp only [ajM,zz,hs,aA,hl',aH];rw [hl'] at h;exact h
end
theorem aeZ {s:D} (hlen:s.l.length≤140737488351232) (hr:TP s):L 200 [enc s,enc s]=some [1]:=by obtain⟨c,h1,_,h3⟩:=aeY s s hlen hr;rw [h1,h3.2 ⟨rfl,fun k h1 h2 _=> ⟨rfl,rfl,Iff.rfl,rfl,⟨rfl,fun _ _ _ _=>rfl⟩,⟨rfl,fun _ _ _ _=>rfl⟩⟩⟩]
theorem Sx.aFj {s k:D} {n:Nat} (S:Sx s k n):alX k:=by
 refine⟨S.wk.len,fun i=>?_⟩;by_cases hi:i < k.l.length
 ·obtain⟨a,lc,w,o,g,tr,T⟩:=jW S.wk _ (List.getElem_mem hi);rw [aY hi,T.is,eG];exact T.hl.len
 ·rw [IL,List.getElem?_eq_none (by omega)];show ((D.i 0).hd 1).l.length≤_;simp [D.hd,D.l]
theorem Sx.same {s k:D} {n:Nat} (S:Sx s k n) (hn:n < 17592186043904):L 2050 [enc s,enc k,enc s,enc k]=some [1]:=
 afA rfl (fun _=>KEq.rfl' _) S.aFj (aeZ S.g.wd.len (fun x hx=>by have:=S.g.rows x hx; omega))
end Go.As.Try
end
section
namespace Go.As.Try
open Go hiding Stat Spec shape
open Go.As
set_option maxRecDepth 100000
section
variable {k c:D} (hk:Tk k) (hc:Wd (.sl 0) c)
include hk hc
theorem acN (x:Int): ∀(j i:Nat) (acc:List D),i+j=k.l.length→acc.length=i→L 3055 [enc k,(k.l.length:Int),(i:Int),x,enc c,enc (dL acc)]=some [enc (.i 1),enc (dL (acc++k.l.drop i)),enc c]
 | 0,i,acc,hi,ha=>by
   have c1: ¬(i:Int) < (k.l.length:Int):=by omega
   rw [List.drop_of_length_le (by omega),List.append_nil,aT,aoW];rcases bG hc with rfl | rfl | ⟨r1,r2⟩
   ·simp only [I8,zz,c1,len1,len2,oJ,iO,aK]
   ·simp only [I8,zz,c1,len1,len2,oJ,iO,aK]
   ·simp only [I8,zz,c1,r1,r2,aK]
 | j+1,i,acc,hi,ha=>by
   have hil:i < k.l.length:=by omega
   have hf:=hk.few;have c1:(i:Int) < (k.l.length:Int):=by omega
   have c2: ¬((i:Int) < 0):=by omega
   have c4:(acc.length:Int) < 2199023255551:=by omega
   have w:=aZ (n:=i) (by omega);obtain⟨a,lc,w',o,g,tr,T⟩:=jW hk.wd _ (List.getElem_mem hil);have he:=T.is;have ih:=acN x j (i+1) (acc++ [k.l[i]]) (by omega) (by rw [List.length_append,ha]; rfl);rw [List.append_assoc,List.cons_append,List.nil_append,← List.drop_eq_getElem_cons hil] at ih;rw [he] at ih;simp only [iV,kY] at ih;rw [aT,aoW];rcases bG T.hl with rfl | rfl | ⟨r1,r2⟩
   ·simp only [I8,zz,c1,c2,c4,w,aY hil,he,eG,aX,List.getElem?_cons_zero,List.getElem?_cons_succ,Option.getD_some,len1,len2,oJ,iO,aH];exact ih
   ·simp only [I8,zz,c1,c2,c4,w,aY hil,he,eG,aX,List.getElem?_cons_zero,List.getElem?_cons_succ,Option.getD_some,len1,len2,oJ,iO,aH];exact ih
   ·simp only [I8,zz,c1,c2,c4,w,aY hil,he,eG,aX,List.getElem?_cons_zero,List.getElem?_cons_succ,Option.getD_some,len1,len2,oJ,iO,aH,r1,r2];exact ih
theorem acM (x:Int) (y:Int): ∀(j i:Nat) (acc:List D),i+j=k.l.length→acc.length=i→L 3056 [enc k,(k.l.length:Int),(i:Int),x,enc c,y,enc (dL acc)]=some [y,enc (dL (acc++k.l.drop i)),enc c]
 | 0,i,acc,hi,ha=>by
   have c1: ¬(i:Int) < (k.l.length:Int):=by omega
   rw [List.drop_of_length_le (by omega),List.append_nil,aT,aoV];rcases bG hc with rfl | rfl | ⟨r1,r2⟩
   ·simp only [I7,zz,c1,len1,len2,oJ,iO,aK]
   ·simp only [I7,zz,c1,len1,len2,oJ,iO,aK]
   ·simp only [I7,zz,c1,r1,r2,aK]
 | j+1,i,acc,hi,ha=>by
   have hil:i < k.l.length:=by omega
   have hf:=hk.few;have c1:(i:Int) < (k.l.length:Int):=by omega
   have c2: ¬((i:Int) < 0):=by omega
   have c4:(acc.length:Int) < 2199023255551:=by omega
   have w:=aZ (n:=i) (by omega);obtain⟨a,lc,w',o,g,tr,T⟩:=jW hk.wd _ (List.getElem_mem hil);have he:=T.is;have ih:=acM x y j (i+1) (acc++ [k.l[i]]) (by omega) (by rw [List.length_append,ha]; rfl);rw [List.append_assoc,List.cons_append,List.nil_append,← List.drop_eq_getElem_cons hil] at ih;rw [he] at ih;simp only [iV,kY] at ih;rw [aT,aoV];rcases bG T.hl with rfl | rfl | ⟨r1,r2⟩
   ·simp only [I7,zz,c1,c2,c4,w,aY hil,he,eG,aX,List.getElem?_cons_zero,List.getElem?_cons_succ,Option.getD_some,len1,len2,oJ,iO,aH];exact ih
   ·simp only [I7,zz,c1,c2,c4,w,aY hil,he,eG,aX,List.getElem?_cons_zero,List.getElem?_cons_succ,Option.getD_some,len1,len2,oJ,iO,aH];exact ih
   ·simp only [I7,zz,c1,c2,c4,w,aY hil,he,eG,aX,List.getElem?_cons_zero,List.getElem?_cons_succ,Option.getD_some,len1,len2,oJ,iO,aH,r1,r2];exact ih
end
section
variable {k c:D} (hk0:k.l.length=0→k= .i 1) (hk1:0 < k.l.length→Tk k) (hc:Wd (.sl 0) c)
include hk0 hk1 hc
theorem auL (x:Int):L 3053 [enc k,(k.l.length:Int),x,enc c]=some [enc (.i 1),enc k,enc c]:=by
 by_cases hz:k.l.length=0
 ·obtain rfl:k= .i 1:=hk0 hz;rw [aT,aoY];rcases bG hc with rfl | rfl | ⟨r1,r2⟩
  ·simp only [Ja,zz,len1,len2,oJ,iO,aK]
  ·simp only [Ja,zz,len1,len2,oJ,iO,aK]
  ·simp only [Ja,zz,len1,oJ,r1,r2,aK]
 ·have hp:0 < k.l.length:=by omega
  have hk:=hk1 hp;have c1:(0:Int) < (k.l.length:Int):=by omega
  obtain⟨a,lc,w',o,g,tr,T⟩:=jW hk.wd _ (List.getElem_mem hp);have he:=T.is;have ih:=acN hk hc x (k.l.length - 1) 1 [k.l[0]] (by omega) rfl;rw [List.cons_append,List.nil_append,← List.drop_eq_getElem_cons hp,List.drop_zero,← hk.sh] at ih;rw [he] at ih;simp only [iV,kY] at ih;have a0:k.at 0=k.l[0]:=aY (i:=0) hp;rw [aT,aoY];rcases bG T.hl with rfl | rfl | ⟨r1,r2⟩
  ·simp only [Ja,zz,c1,a0,he,eG,aX,yK,List.nil_append,List.getElem?_cons_zero,List.getElem?_cons_succ,len1,len2,oJ,iO,aH];exact ih
  ·simp only [Ja,zz,c1,a0,he,eG,aX,yK,List.nil_append,List.getElem?_cons_zero,List.getElem?_cons_succ,len1,len2,oJ,iO,aH];exact ih
  ·simp only [Ja,zz,c1,a0,he,eG,aX,yK,List.nil_append,List.getElem?_cons_zero,List.getElem?_cons_succ,r1,r2,aH];exact ih
theorem auK (x:Int) (y:Int):L 3054 [enc k,(k.l.length:Int),x,enc c,y]=some [y,enc k,enc c]:=by
 by_cases hz:k.l.length=0
 ·obtain rfl:k= .i 1:=hk0 hz;rw [aT,aoX];rcases bG hc with rfl | rfl | ⟨r1,r2⟩
  ·simp only [I9,zz,len1,len2,oJ,iO,aK]
  ·simp only [I9,zz,len1,len2,oJ,iO,aK]
  ·simp only [I9,zz,len1,oJ,r1,r2,aK]
 ·have hp:0 < k.l.length:=by omega
  have hk:=hk1 hp;have c1:(0:Int) < (k.l.length:Int):=by omega
  obtain⟨a,lc,w',o,g,tr,T⟩:=jW hk.wd _ (List.getElem_mem hp);have he:=T.is;have ih:=acM hk hc x y (k.l.length - 1) 1 [k.l[0]] (by omega) rfl;rw [List.cons_append,List.nil_append,← List.drop_eq_getElem_cons hp,List.drop_zero,← hk.sh] at ih;rw [he] at ih;simp only [iV,kY] at ih;have a0:k.at 0=k.l[0]:=aY (i:=0) hp;rw [aT,aoX];rcases bG T.hl with rfl | rfl | ⟨r1,r2⟩
  ·simp only [I9,zz,c1,a0,he,eG,aX,yK,List.nil_append,List.getElem?_cons_zero,List.getElem?_cons_succ,len1,len2,oJ,iO,aH];exact ih
  ·simp only [I9,zz,c1,a0,he,eG,aX,yK,List.nil_append,List.getElem?_cons_zero,List.getElem?_cons_succ,len1,len2,oJ,iO,aH];exact ih
  ·simp only [I9,zz,c1,a0,he,eG,aX,yK,List.nil_append,List.getElem?_cons_zero,List.getElem?_cons_succ,r1,r2,aH];exact ih
end
section
variable {s k c:D} (hs:Th s)
include hs
theorem amG: ∀(j i:Nat) (acc:List D),i+j=s.l.length→acc.length=i→L 3052 [enc s,(s.l.length:Int),(i:Int),enc k,enc c,enc (dL acc)]=L 3054 [enc k,(k.l.length:Int),enc s,enc c,enc (dL (acc++s.l.drop i))]
 | 0,i,acc,hi,ha=>by
   have c1: ¬(i:Int) < (s.l.length:Int):=by omega
   rw [List.drop_of_length_le (by omega),List.append_nil,aT,aoZ];simp only [aaZ,zz,c1,aH]
 | j+1,i,acc,hi,ha=>by
   have hil:i < s.l.length:=by omega
   have hf:=hs.few;have c1:(i:Int) < (s.l.length:Int):=by omega
   have c2: ¬((i:Int) < 0):=by omega
   have c4:(acc.length:Int) < 1759218604440:=by omega
   have w:=aZ (n:=i) (by omega);obtain⟨o,c',dn,g,r,v,he,_,_,hd,_,hr,hv⟩:=hs.wd.thing _ (List.getElem_mem hil);have ih:=amG j (i+1) (acc++ [s.l[i]]) (by omega) (by rw [List.length_append,ha]; rfl);rw [List.append_assoc,List.cons_append,List.nil_append,← List.drop_eq_getElem_cons hil] at ih;rw [he] at ih;simp only [iV,kY] at ih;rw [aT,aoZ];rcases hd with rfl | rfl <;> rcases bG hr with rfl | rfl | ⟨r1,r2⟩ <;> rcases bG hv with rfl | rfl | ⟨v1,v2⟩
   all_goals
    simp only [aaZ,zz,c1,c2,c4,w,aY hil,he,eG,aX,List.getElem?_cons_zero,List.getElem?_cons_succ,len1,len2,oJ,iO]
    try simp only [r1,r2,zz]
    try simp only [v1,v2,zz]
    try simp only [aH,if_true,aA,if_false]
    exact ih
end
section
variable {s k c:D} (hs0:s.l.length=0→s= .i 1) (hs1:0 < s.l.length→Th s) (hk0:k.l.length=0→k= .i 1) (hk1:0 < k.l.length→Tk k) (hc:Wd (.sl 0) c)
include hs0 hs1 hk0 hk1 hc
theorem Y7:L 3050 [enc s,enc k,enc c]=some [enc s,enc k,enc c]:=by
 have h:L 3051 [enc s,(s.l.length:Int),enc k,enc c]=some [enc s,enc k,enc c]:=by
  by_cases hz:s.l.length=0
  ·have c1: ¬(0:Int) < (s.l.length:Int):=by omega
   have h:=auL hk0 hk1 hc (enc s);rw [aT,apA];simp only [abA,zz,c1,aH];rw [h,hs0 hz]
  ·have hp:0 < s.l.length:=by omega
   have hs:=hs1 hp;have c1:(0:Int) < (s.l.length:Int):=by omega
   obtain⟨o,c',dn,g,r,v,he,_,_,hd,_,hr,hv⟩:=hs.wd.thing _ (List.getElem_mem hp);have ih:=amG (k:=k) (c:=c) hs (s.l.length - 1) 1 [s.l[0]] (by omega) rfl;rw [List.cons_append,List.nil_append,← List.drop_eq_getElem_cons hp,List.drop_zero,← hs.sh,auK hk0 hk1 hc] at ih;rw [he] at ih;simp only [iV,kY] at ih;have a0:s.at 0=s.l[0]:=aY (i:=0) hp;rw [aT,apA];rcases hd with rfl | rfl <;> rcases bG hr with rfl | rfl | ⟨r1,r2⟩ <;> rcases bG hv with rfl | rfl | ⟨v1,v2⟩
   all_goals
    simp only [abA,zz,c1,a0,he,eG,aX,yK,List.nil_append,List.getElem?_cons_zero,List.getElem?_cons_succ,len1,len2,oJ,iO]
    try simp only [r1,r2,zz]
    try simp only [v1,v2,zz]
    try simp only [aH,if_true,aA,if_false]
    exact ih
 rw [aT,azT];simp only [ajJ,zz,aH];exact h
end
theorem Sx.aDJ {s k c:D} {n:Nat} (S:Sx s k n) (hc:Wd (.sl 0) c):L 3050 [enc s,enc k,enc c]=some [enc s,enc k,enc c]:=by
 refine Y7 (fun h=>?_) (fun h=>E5 S.g.wd h) (fun h=>?_) (fun h=>Po S.wk h) hc
 ·rcases S.g.wd.sh with h1 | h1 | ⟨_,h2⟩
  ·exact h1
  ·exact absurd h1 S.n2s
  ·exact absurd (List.length_eq_zero_iff.1 h) h2
 ·rcases S.wk.sh with h1 | h1 | ⟨_,h2⟩
  ·exact h1
  ·exact absurd h1 S.n2k
  ·exact absurd (List.length_eq_zero_iff.1 h) h2
end Go.As.Try
end
section
namespace Go.As.Try
open Go hiding Stat Spec shape
open Go.As
set_option maxRecDepth 100000
def bump (c:D) (u n:Int):D:=dL (fE c.l u (.i (if (c.at u).n < n then n else (c.at u).n)))
theorem yH (c:D) (u n:Int):(bump c u n).l.length=c.l.length:=by unfold bump; rw [aX,fP]
def wkB (n:Int):List D→D→D
 | [],c=>c
 | x :: l,c=>wkB n l (bump c x.n n)
def wkA (o g n:Int):List D→Nat→D→D
 | [],_,c=>c
 | x :: l,i,c=>wkA o g n l (i+1) (if (x.hd 2).n=25∧(x.hd 3).n=o∧(x.hd 4).n=g then bump c (i:Int) n else c)
def wkM (s s' k':D) (e2 e3 e4:Int) (c:D) (n:Int):D:=
 if e2=13 then (if 0 < e4 then bump c (IntKind.i64.wrap (e4 - 1)) n else c)
 else if e2=14 then wkB n ((s.at e3).hd 4).l c
 else if e2=15 then (if e4 < ((s'.at e3).hd 3).n then wkA e3 e4 n k'.l 0 c else c)
 else c
section
variable {x0 x1 x2 x3 x4 x5 x6 x7 x8 x9 n:Int} {m:Nat}
theorem VA (r:D) (hr: ∀x∈r.l,0≤x.n∧x.n < (m:Int)) (hb:r.l.length≤140737488351232): ∀(j i:Nat) (c:D),i+j=r.l.length→c.l.length=m→
 L 15001 [x0,x1,x2,x3,x4,x5,x6,x7,x8,x9,n,enc r,(r.l.length:Int),(i:Int),enc c]=some [0,x0,x1,x2,x3,x4,x5,x6,x7,x8,x9,n,enc (wkB n (r.l.drop i) c)]
 | 0,i,c,hi,hc=>by
   have c1: ¬(i:Int) < (r.l.length:Int):=by omega
   rw [List.drop_of_length_le (by omega),aT,ZJ];simp only [Ls,zz,c1,aK,wkB]
 | j+1,i,c,hi,hc=>by
   have hil:i < r.l.length:=by omega
   have c1:(i:Int) < (r.l.length:Int):=by omega
   have c2: ¬((i:Int) < 0):=by omega
   have w:=aZ (n:=i) (by omega);obtain⟨r0,r1⟩:=hr _ (List.getElem_mem hil);have c3: ¬((r.l[i]).n < 0):=by omega
   have c4:(r.l[i]).n < (c.l.length:Int):=by omega
   have ih:=VA r hr hb j (i+1) (bump c (r.l[i]).n n) (by omega) (by rw [yH]; exact hc);rw [List.drop_eq_getElem_cons hil,wkB,aT,ZJ];unfold bump at ih ⊢;by_cases hz:(c.at (r.l[i]).n).n < n
   ·simp only [if_pos hz] at ih ⊢;simp only [Ls,zz,c1,c2,c3,c4,aY hil,hz,w,aH];exact ih
   ·simp only [if_neg hz] at ih ⊢;simp only [Ls,zz,c1,c2,c3,c4,aY hil,hz,w,aH];exact ih
theorem AQ (k:D) (hb:k.l.length≤140737488351232) (hk:k.l.length≤m): ∀(j i:Nat) (c:D),i+j=k.l.length→c.l.length=m→
 L 15002 [x0,x1,x2,enc k,x4,x5,x6,x7,x8,x9,n,(k.l.length:Int),(i:Int),enc c]=some [0,x0,x1,x2,enc k,x4,x5,x6,x7,x8,x9,n,enc (wkA x6 x7 n (k.l.drop i) i c)]
 | 0,i,c,hi,hc=>by
   have c1: ¬(i:Int) < (k.l.length:Int):=by omega
   rw [List.drop_of_length_le (by omega),aT,ZI];simp only [AY,zz,c1,aK,wkA]
 | j+1,i,c,hi,hc=>by
   have hil:i < k.l.length:=by omega
   have c1:(i:Int) < (k.l.length:Int):=by omega
   have c2: ¬((i:Int) < 0):=by omega
   have c4:(i:Int) < (c.l.length:Int):=by omega
   have w:=aZ (n:=i) (by omega);rw [List.drop_eq_getElem_cons hil,wkA,aT,ZI];by_cases h2:((k.l[i]).hd 2).n=25
   ·by_cases h3:((k.l[i]).hd 3).n=x6
    ·by_cases h4:((k.l[i]).hd 4).n=x7
     ·have ih:=AQ k hb hk j (i+1) (bump c (i:Int) n) (by omega) (by rw [yH]; exact hc);rw [if_pos ⟨h2,h3,h4⟩];unfold bump at ih ⊢;by_cases hz:(c.at (i:Int)).n < n
      ·simp only [if_pos hz] at ih ⊢;simp only [AY,zz,c1,c2,c4,aY hil,h2,h3,h4,hz,w,aH];exact ih
      ·simp only [if_neg hz] at ih ⊢;simp only [AY,zz,c1,c2,c4,aY hil,h2,h3,h4,hz,w,aH];exact ih
     ·have ih:=AQ k hb hk j (i+1) c (by omega) hc;rw [if_neg (fun h=>h4 h.2.2)];simp only [AY,zz,c1,c2,aY hil,h2,h3,if_neg h4,w,aH];exact ih
    ·have ih:=AQ k hb hk j (i+1) c (by omega) hc;rw [if_neg (fun h=>h3 h.2.1)];simp only [AY,zz,c1,c2,aY hil,h2,if_neg h3,w,aH];exact ih
   ·have ih:=AQ k hb hk j (i+1) c (by omega) hc;rw [if_neg (fun h=>h2 h.1)];simp only [AY,zz,c1,c2,aY hil,if_neg h2,w,aH];exact ih
end
structure axJ (s s' k':D) (e2 e3 e4:Int) (m:Nat):Prop where
 sig:e2=13→0 < e4→0≤IntKind.i64.wrap (e4 - 1)∧IntKind.i64.wrap (e4 - 1) < (m:Int)
 brd:e2=14→0≤e3∧e3 < (s.l.length:Int)∧(∀x∈((s.at e3).hd 4).l,0≤x.n∧x.n < (m:Int))∧((s.at e3).hd 4).l.length≤140737488351232
 arr:e2=15→0≤e3∧e3 < (s'.l.length:Int)
 lk:k'.l.length≤m
 few:k'.l.length≤140737488351232
theorem ahP {s s' k' c:D} {x1 e1 e2 e3 e4 e5 n:Int} (W:axJ s s' k' e2 e3 e4 c.l.length):L 15000 [enc s,x1,enc s',enc k',e1,e2,e3,e4,e5,enc c,n]=some [0,enc s,x1,enc s',enc k',e1,e2,e3,e4,e5,enc c,n,enc (wkM s s' k' e2 e3 e4 c n)]:=by
 rw [aT,apJ];unfold wkM;by_cases h3:e2=13
 ·by_cases hp:0 < e4
  ·obtain⟨w0,w1⟩:=W.sig h3 hp;have c2: ¬(IntKind.i64.wrap (e4 - 1) < 0):=by omega
   unfold bump;by_cases hz:(c.at (IntKind.i64.wrap (e4 - 1))).n < n
   ·simp only [yO,zz,h3,hp,c2,w1,hz,aK,if_true]
   ·simp only [yO,zz,h3,hp,c2,w1,hz,aK,if_true,if_false]
  ·simp only [yO,zz,h3,hp,aK,if_true,if_false]
 ·by_cases h4:e2=14
  ·obtain⟨b0,b1,b2,b3⟩:=W.brd h4;have c2: ¬(e3 < 0):=by omega
   have h:=VA (x0:=enc s) (x1:=x1) (x2:=enc s') (x3:=enc k') (x4:=e1) (x5:=e2) (x6:=e3) (x7:=e4) (x8:=e5) (x9:=enc c) (n:=n) ((s.at e3).hd 4) b2 b3 ((s.at e3).hd 4).l.length 0 c (by omega) rfl;rw [List.drop_zero,Int.natCast_zero,h4] at h;simp only [yO,zz,h4,b1,c2,aH,if_true,if_false,Int.reduceEq];exact h
  ·by_cases h5:e2=15
   ·obtain⟨b0,b1⟩:=W.arr h5;have c2: ¬(e3 < 0):=by omega
    by_cases hg:e4 < ((s'.at e3).hd 3).n
    ·have h:=AQ (x0:=enc s) (x1:=x1) (x2:=enc s') (x4:=e1) (x5:=e2) (x6:=e3) (x7:=e4) (x8:=e5) (x9:=enc c) (n:=n) k' W.few W.lk k'.l.length 0 c (by omega) rfl;rw [List.drop_zero,Int.natCast_zero,h5] at h;simp only [yO,zz,h5,b1,c2,hg,aH,if_true,if_false,Int.reduceEq];exact h
    ·simp only [yO,zz,h5,b1,c2,hg,aK,if_true,if_false,Int.reduceEq]
   ·simp only [yO,zz,h3,h4,h5,aK,if_false]
abbrev IV:Int:=9223372036854775807
abbrev tick (c:D) (t:Int):D:=dL (fE c.l t (.i ((c.at t).n+1)))
inductive O9 (d0 d1 s k c:D) (t:Int) (n:Nat):D→D→D→Int→Int→Int→Int→Int→Int→Int→Prop
 | no (h: ¬(0≤t∧t < (d1.l.length:Int)∧KR d0 d1 s k c)):O9 d0 d1 s k c t n s k c 0 0 0 0 0 0 0
 | over (x:KT) (K:KR d0 d1 s k c) (R:Rs d0 d1 s k t x) (ho:jM d1 t x=1):O9 d0 d1 s k c t n s k c 0 0 0 0 0 4 0
 | asl (x:KT) (K:KR d0 d1 s k c) (R:Rs d0 d1 s k t x) (ho:jM d1 t x=0) (ha:OJ s t x≠0):O9 d0 d1 s k c t n s k c 0 0 0 0 0 0 0
 | wait (x:KT) (K:KR d0 d1 s k c) (R:Rs d0 d1 s k t x) (ho:jM d1 t x=0) (ha:OJ s t x=0) (hq:low (oV d1 t x) 4≠0∨(c.at t).n=IV) (ht: ¬SG (JY d0 d1 s k) c t):O9 d0 d1 s k c t n s k c 0 0 0 0 0 0 0
 | full (x:KT) (K:KR d0 d1 s k c) (R:Rs d0 d1 s k t x) (ho:jM d1 t x=0) (ha:OJ s t x=0) (ht:SG (JY d0 d1 s k) c t) (hm:(c.at t).n=IV):O9 d0 d1 s k c t n s k c 0 0 0 0 0 0 131
 | go (x:KT) (K:KR d0 d1 s k c) (R:Rs d0 d1 s k t x) (ho:jM d1 t x=0) (ha:OJ s t x=0) (hq:low (oV d1 t x) 4=0∨SG (JY d0 d1 s k) c t) (hm:(c.at t).n≠IV) (s' k':D) (e1 e2 e3 e4 e5 oc:Int)
  (hL:L 1850 [enc d0,enc d1,enc s,enc k,t]=some [enc s',enc k',e1,e2,e3,e4,e5,oc]) (H:JJ d0 d1 s k t n s' k' e1 e2 e3 e4 e5 oc) (W:axJ s s' k' e2 e3 e4 c.l.length):O9 d0 d1 s k c t n s' k' (wkM s s' k' e2 e3 e4 (tick c t) ((c.at t).n+1)) e1 e2 e3 e4 e5 oc 0
theorem afQ (d1:D) (t:Int) (x:KT): ∃a b c d e,oV d1 t x= [a,b,c,d,e]∧(e=0∨e=1):=by
 unfold oV;split
 ·split
  ·exact⟨_,_,_,_,_,rfl,.inl rfl⟩
  ·split
   ·exact⟨_,_,_,_,_,rfl,.inr rfl⟩
   ·split
    ·exact⟨_,_,_,_,_,rfl,.inr rfl⟩
    ·exact⟨_,_,_,_,_,rfl,.inl rfl⟩
 ·exact⟨_,_,_,_,_,rfl,.inr rfl⟩
section
variable {d0 d1 s k:D} {n:Nat} (S:Sx s k n) (hn:n < 17592186043904) (h0:Wd (.sl 3) d0) (h1:Wd (.sl 4) d1)
include S hn h0 h1
theorem aA3 (M:MR d0 d1 s k) {i:Int} (i0:0≤i) (i1:i < (s.l.length:Int)):(∀x∈((s.at i).hd 4).l,0≤x.n∧x.n < (d1.l.length:Int))∧((s.at i).hd 4).l.length≤140737488351232:=by obtain⟨o,c,dn,g,r,v,T,hr,_⟩:=ayQ S.g i0 i1;have P:=aA2 h0 h1 S.g (by omega) M.1 i0 i1 T;rw [T.is];simp only [zg,Option.getD_some];exact⟨P.2.1.1,by omega⟩
theorem aC2 (M:MR d0 d1 s k) {t:Int} {s' k':D} {e1 e2 e3 e4 e5 oc:Int} (H:JJ d0 d1 s k t n s' k' e1 e2 e3 e4 e5 oc):axJ s s' k' e2 e3 e4 d1.l.length:=by
 have hx:=VP S hn h0 h1 H;have hlk:k.l.length=d1.l.length:=M.2.1;have hk2:=h1.len;have hle:=(TN h0 h1 S.g (by omega) M.1).2.2;refine⟨fun h13 hp=>?_,fun h14=>?_,fun h15=>?_,by omega,by omega⟩
 all_goals
  cases H with
  | no h=>omega
  | over x R ho=>omega
  | loc x R ho ha=>omega
  | tri x R ho op obj arg tr hq k1 k2 k3 hti s' e1 e2 e3 e4 e5 oc A T=>
    cases T with
    | no=>omega
    | mis A'=>omega
    | res A' o c dn g r v o' c' dn' g' r' v' m a oc T' h=>
      have a0:=A'.o0;have a1:=A'.o1;obtain⟨hrow,hrl⟩:=aA3 S hn h0 h1 M a0 a1
      first
       | (subst h13
          have e:act (Mx d0 e3) (Mo d0 s e3) t 13 arg tr o c dn g r v=if (r.l.length:Int)=0 then .res o c dn g r v none 0 2 else .res o c dn g (gQ r (r.l.drop 1)) v none (IntKind.i64.wrap ((r.at 0).n+1)) 2:=by simp [act]
          rw [e] at h;rw [T'.is] at hrow;simp only [zg,Option.getD_some] at hrow;have hok:=(TN h0 h1 S.g (by omega) M.1).2.1.2.1;by_cases hz:(r.l.length:Int)=0
          ·rw [if_pos hz] at h;simp only [Act.res.injEq] at h;omega
          ·rw [if_neg hz] at h;simp only [Act.res.injEq] at h;have h2:=h.2.2.2.2.2.2.2.1;have hm:r.at 0∈r.l:=alT (Int.le_refl 0) (by omega);obtain⟨q0,q1⟩:=hrow _ hm;rw [nU (by omega) (by omega)] at h2;rw [← h2,nU (by omega) (by omega)]
           omega)
       | exact⟨a0,a1,hrow,hrl⟩
       | (have:=hx.2.1
          exact⟨a0,by omega⟩)
theorem Jr {c:D} (hc:Wd (.sl 0) c) (t:Int): ∃s' k' c' e1 e2 e3 e4 e5 oc er,L 3100 [enc d0,enc d1,enc s,enc k,enc c,t]=some [enc s',enc k',enc c',e1,e2,e3,e4,e5,oc,er]∧O9 d0 d1 s k c t n s' k' c' e1 e2 e3 e4 e5 oc er:=by
 have hcp:=S.aDJ hc;have hb:=hc.len;obtain⟨ys,hK,b,rfl,hb'⟩:=Rf (k:=k) h0 h1 (S.g.few (by omega)).rows hb;by_cases t0:t < 0
 ·refine⟨s,k,c,0,0,0,0,0,0,0,?_,.no fun h=>by omega⟩;rw [aT,Au];simp only [xB,zz,t0,hcp,aK]
 ·by_cases t1:t < (d1.l.length:Int)
  ·rcases hb' with ⟨rfl,hN⟩ | ⟨rfl,K⟩
   ·refine⟨s,k,c,0,0,0,0,0,0,0,?_,.no fun h=>hN h.2.2⟩;rw [aT,Au];simp only [xB,zz,t0,t1,hK,hcp,aK]
   ·obtain⟨hcl,hnn,M⟩:=K;have hle:=(TN h0 h1 S.g (by omega) M.1).2.2;obtain⟨x,R⟩:=M.thr S hn h0 h1 (by omega:0≤t) t1;have hO:=yX (s:=s) R.hk R.ht R.r;have hN:=Ue (s:=s) R.c R.hk R.ht R.r;have h15:=R.yes;have tc:t < (c.l.length:Int):=by omega
    have hA:=SA S hn R hle;rcases abV d1 t x with ho | ho
    ·rw [ho] at hO
     have h17:L 1700 [enc d0,enc d1,enc s,enc k,t]=some [0]:=by rw [aT,apF];simp only [abH,zz,h15,hO,aA,aK]
     obtain⟨q0,q1,q2,q3,q4,hq,hq4⟩:=afQ d1 t x
     have h18:L 1800 [enc d0,enc d1,enc s,enc k,t]=some [q0,q1,q2,q3,q4]:=by
      rw [hq] at hN;rw [aT,azY];rcases hq4 with rfl | rfl
      ·simp only [abE,zz,h15,hN,aA,aK]
      ·simp only [abE,zz,h15,hN,aA,aK]
     have hl4:low (oV d1 t x) 4=q4:=by rw [hq]; rfl
     by_cases ha:OJ s t x=0
     ·obtain⟨tb,hT,aF2,hTi⟩:=asG (d0:=d0) (d1:=d1) (s:=s) (k:=k) (c:=c) (t:=t) (fun u u0 u1=>by
       obtain⟨y,Ry⟩:=M.thr S hn h0 h1 u0 (by omega)
       exact⟨_,agZ S hn Ry hle⟩) (by omega) tc hb
      rw [ha] at hA
      have hgo:(low (oV d1 t x) 4=0∨SG (JY d0 d1 s k) c t)→(c.at t).n≠IV→∃s' k' e1 e2 e3 e4 e5 oc,(L 1850 [enc d0,enc d1,enc s,enc k,t]=some [enc s',enc k',e1,e2,e3,e4,e5,oc]∧L 15000 [enc s,enc k,enc s',enc k',e1,e2,e3,e4,e5,enc (tick c t),(c.at t).n+1]=some [0,enc s,enc k,enc s',enc k',e1,e2,e3,e4,e5,enc (tick c t),(c.at t).n+1,enc (wkM s s' k' e2 e3 e4 (tick c t) ((c.at t).n+1))])∧
       O9 d0 d1 s k c t n s' k' (wkM s s' k' e2 e3 e4 (tick c t) ((c.at t).n+1)) e1 e2 e3 e4 e5 oc 0:=fun hq' hm=>by
       obtain⟨s',k',e1,e2,e3,e4,e5,oc,hL,H⟩:=YE S hn h0 h1 t;have W:=aC2 S hn h0 h1 M H;refine⟨s',k',e1,e2,e3,e4,e5,oc,⟨hL,ahP ?_⟩,.go x ⟨hcl,hnn,M⟩ R ho ha hq' hm s' k' e1 e2 e3 e4 e5 oc hL H (by rw [hcl]; exact W)⟩;rw [aX,fP,hcl];exact W
      have hin:iM .i64 (c.at t).n:=by obtain⟨i,rfl⟩ : ∃i:Nat,t=(i:Int):=⟨t.toNat,by omega⟩;exact ahT hc i
      have hw:(c.at t).n≠IV→IntKind.i64.wrap ((c.at t).n+1)=(c.at t).n+1:=fun hm=>nU (by have:=hin.1; omega) (by have:=hin.2; unfold IV at hm; omega);have hpos:(0:Int) < (c.l.length:Int):=by omega
      have hfew:(c.l.length:Int) < 17592186044416:=by have:=hc.room;have h3:vT 0=8:=rfl;rw [h3] at this;omega
      have hat:((tick c t).at t).n=(c.at t).n+1:=by
       obtain⟨i,rfl⟩ : ∃i:Nat,t=(i:Int):=⟨t.toNat,by omega⟩
       have:(tick c (i:Int)).at (i:Int)= .i ((c.at (i:Int)).n+1):=arP (by
        show (dL (fE c.l (i:Int) _)).l[i]?=_;rw [aX]
        exact WQ (by omega))
       rw [this];rfl
      by_cases h4:q4=0
      ·by_cases hm:(c.at t).n=IV
       ·have hm':(c.at t).n=9223372036854775807:=hm;by_cases hz:tb=0
        ·refine⟨s,k,c,0,0,0,0,0,0,0,?_,.wait x ⟨hcl,hnn,M⟩ R ho ha (.inr hm) fun h=>by have:=hTi.2 h; omega⟩;rw [aT,Au];simp only [xB,zz,t0,t1,hK,h17,h18,tc,hA,h4,hm',hT,hz,hcp,aA,aK]
        ·refine⟨s,k,c,0,0,0,0,0,0,131,?_,.full x ⟨hcl,hnn,M⟩ R ho ha (hTi.1 (by omega)) hm⟩;rw [aT,Au];simp only [xB,zz,t0,t1,hK,h17,h18,tc,hA,h4,hm',hT,if_neg hz,hcp,aA,aK]
       ·obtain⟨s',k',e1,e2,e3,e4,e5,oc,⟨hL,hW⟩,H⟩:=hgo (.inl (by rw [hl4]; exact h4)) hm;refine⟨s',k',_,e1,e2,e3,e4,e5,oc,0,?_,H⟩;have hm': ¬(c.at t).n=9223372036854775807:=hm;rw [aT,Au];simp only [xB,zz,t0,t1,hK,h17,h18,tc,hA,h4,hm',hL,hpos,hfew,hw hm,hat,hW,aA,aK]
      ·by_cases hz:tb=0
       ·refine⟨s,k,c,0,0,0,0,0,0,0,?_,.wait x ⟨hcl,hnn,M⟩ R ho ha (.inl (by rw [hl4]; exact h4)) fun h=>by have:=hTi.2 h; omega⟩;rw [aT,Au];simp only [xB,zz,t0,t1,hK,h17,h18,tc,hA,if_neg h4,hT,hz,hcp,aA,aK]
       ·have hTP:=hTi.1 (by omega);by_cases hm:(c.at t).n=IV
        ·have hm':(c.at t).n=9223372036854775807:=hm;refine⟨s,k,c,0,0,0,0,0,0,131,?_,.full x ⟨hcl,hnn,M⟩ R ho ha hTP hm⟩;rw [aT,Au];simp only [xB,zz,t0,t1,hK,h17,h18,tc,hA,if_neg h4,hm',hT,if_neg hz,hcp,aA,aK]
        ·obtain⟨s',k',e1,e2,e3,e4,e5,oc,⟨hL,hW⟩,H⟩:=hgo (.inr hTP) hm;refine⟨s',k',_,e1,e2,e3,e4,e5,oc,0,?_,H⟩;have hm': ¬(c.at t).n=9223372036854775807:=hm;rw [aT,Au];simp only [xB,zz,t0,t1,hK,h17,h18,tc,hA,if_neg h4,hm',hT,if_neg hz,hL,hpos,hfew,hw hm,hat,hW,aA,aK]
     ·refine⟨s,k,c,0,0,0,0,0,0,0,?_,.asl x ⟨hcl,hnn,M⟩ R ho ha⟩;obtain⟨b4,hb4⟩ : ∃b4,q4=b4:=⟨_,rfl⟩;rw [aT,Au];simp only [xB,zz,t0,t1,hK,h17,h18,tc,hA,if_neg ha,hcp,aA,aK]
    ·rw [ho] at hO
     have h17:L 1700 [enc d0,enc d1,enc s,enc k,t]=some [1]:=by rw [aT,apF];simp only [abH,zz,h15,hO,aA,aK]
     refine⟨s,k,c,0,0,0,0,0,4,0,?_,.over x ⟨hcl,hnn,M⟩ R ho⟩;rw [aT,Au];simp only [xB,zz,t0,t1,hK,h17,hcp,aA,aK]
  ·refine⟨s,k,c,0,0,0,0,0,0,0,?_,.no fun h=>t1 h.2.1⟩;rw [aT,Au];simp only [xB,zz,t0,t1,hcp,aK]
end
end Go.As.Try
end
section
namespace Go.As.Try
open Go hiding Stat Spec shape
open Go.As
set_option maxRecDepth 100000
abbrev evD (e1 e2 e3 e4 e5:Int):D:=dL [.i e1,.i e2,.i e3,.i e4,.i e5]
structure PS where
 s:D
 k:D
 l:List D
structure POk (d1:D) (p:PS) (n:Nat):Prop where
 sx:Sx p.s p.k n
 lk:p.k.l.length=d1.l.length
 ll:p.l.length≤n
theorem dr {ρ:Nat→Int} (a b:SE):(SE.rem a b).den ρ=(a.den ρ).tmod (b.den ρ):=rfl
theorem aBe:((3:Int)=2)=False:=by simp
section
variable {d0 d1:D} (h0:Wd (.sl 3) d0) (h1:Wd (.sl 4) d1)
include h0 h1
end
theorem Yg (d1:D):(uS d1).l.length=d1.l.length:=by
 unfold uS;split
 ·rename_i h; rw [h]; rfl
 ·rw [aX,List.length_map]
section
variable {d0 d1:D} (h0:Wd (.sl 3) d0) (h1:Wd (.sl 4) d1)
include h0 h1
theorem begins:(∃s k:D,L 1450 [enc d0,enc d1]=some [enc s,enc k,0]∧POk d1 ⟨s,k,[]⟩ 0)∨(∃c:Int,c≠0∧L 1450 [enc d0,enc d1]=some [enc (.i 1),enc (.i 1),c]):=by
 obtain⟨ys,hC,c,rfl,_,hok⟩:=Dy h0 h1;by_cases hc:c=0
 ·subst hc;have ok:=(hok rfl).1;exact .inl ⟨_,_,afV h1 hC ok,akC h0 h1 ok,Yg d1,Nat.le_refl _⟩
 ·exact .inr ⟨c,hc,afU hC hc⟩
end
end Go.As.Try
end
section
namespace Go.As.Try
open Go hiding Stat Spec shape
open Go.As
set_option maxRecDepth 100000
structure Ck (M:Int) (c:D):Prop where
 wd:Wd (.sl 0) c
 rng: ∀u:Nat,u < c.l.length→0≤(c.at (u:Int)).n∧(c.at (u:Int)).n≤M
structure Sh (B:Int) (c c':D):Prop where
 len:c'.l.length=c.l.length
 at': ∀u:Nat,u < c.l.length→(c'.at (u:Int)).n=(c.at (u:Int)).n+B
theorem G9 (c:D) (u x:Int) {v:Nat} (hv:v < c.l.length):((dL (fE c.l u (.i x))).at (v:Int)).n=if (v:Int)=u then x else (c.at (v:Int)).n:=by
 by_cases h:(v:Int)=u
 ·subst h;rw [if_pos rfl,arP (s:=dL (fE c.l (v:Int) (.i x))) (i:=v) (x:=.i x) (by rw [aX]; exact WQ hv)];rfl
 ·rw [if_neg h]
  have e:(dL (fE c.l u (.i x))).at (v:Int)=c.at (v:Int):=by rw [IL,IL,aX,WO h]
  rw [e]
theorem asD {c:D} (hc:Wd (.sl 0) c) (hp:0 < c.l.length) (z:Int) {v:Int} (hv:iM .i64 v):Wd (.sl 0) (dL (fE c.l z (.i v))):=by
 have:=hc.room;have h3:vT 0=8:=rfl;rw [h3] at this;have hs:=fP c.l z (.i v);refine yL (fun y hy=>?_) (fun he=>?_) (by rw [hs]; omega)
 ·rcases xX hy with h | rfl
  ·exact (hc.el1 rfl y h).i
  ·exact⟨v,rfl,hv⟩
 ·rw [he] at hs;simp only [List.length_nil] at hs;omega
theorem abN {M:Int} {c:D} (C:Ck M c) (hp:0 < c.l.length) (hM:M≤IV) (z:Int) {v:Int} (v0:0≤v) (v1:v≤M):Ck M (dL (fE c.l z (.i v))):=by
 refine⟨asD C.wd hp z ⟨by omega,by unfold IV at hM; omega⟩,fun u hu=>?_⟩;rw [aX,fP] at hu;rw [G9 c z v hu];split
 ·exact⟨v0,v1⟩
 ·exact C.rng u hu
theorem Ck.mono {M M':Int} {c:D} (C:Ck M c) (h:M≤M'):Ck M' c:=⟨C.wd,fun u hu=>by have:=C.rng u hu; omega⟩
theorem Ck.at {M:Int} {c:D} (C:Ck M c) {t:Int} (t0:0≤t) (t1:t < (c.l.length:Int)):0≤(c.at t).n∧(c.at t).n≤M:=by obtain⟨i,rfl⟩ : ∃i:Nat,t=(i:Int):=⟨t.toNat,by omega⟩;exact C.rng i (by omega)
theorem Vj {M:Int} {c:D} (C:Ck M c) (hp:0 < c.l.length) (hM:M≤IV) {u n:Int} (u0:0≤u) (u1:u < (c.l.length:Int)) (n0:0≤n) (n1:n≤M):Ck M (bump c u n):=by unfold bump;have:=C.at u0 u1;refine abN C hp hM u ?_ ?_ <;> (split <;> omega)
theorem ahS {M:Int} {n:Int} (hM:M≤IV) (n0:0≤n) (n1:n≤M): ∀(l:List D) (c:D),Ck M c→0 < c.l.length→(∀x∈l,0≤x.n∧x.n < (c.l.length:Int))→Ck M (wkB n l c)∧(wkB n l c).l.length=c.l.length
 | [],c,C,_,_=> ⟨C,rfl⟩
 | x :: l,c,C,hp,h=>by have hx:=h x List.mem_cons_self;have e:=yH c x.n n;have:=ahS hM n0 n1 l (bump c x.n n) (Vj C hp hM hx.1 hx.2 n0 n1) (by omega) (fun y hy=>by rw [e]; exact h y (List.mem_cons_of_mem _ hy));rw [e] at this;exact this
theorem Yd {M:Int} {n o g:Int} (hM:M≤IV) (n0:0≤n) (n1:n≤M): ∀(l:List D) (i:Nat) (c:D),Ck M c→0 < c.l.length→i+l.length≤c.l.length→Ck M (wkA o g n l i c)∧(wkA o g n l i c).l.length=c.l.length
 | [],i,c,C,_,_=> ⟨C,rfl⟩
 | x :: l,i,c,C,hp,h=>by
   simp only [List.length_cons] at h;unfold wkA;split
   ·have e:=yH c (i:Int) n;have:=Yd (o:=o) (g:=g) hM n0 n1 l (i+1) (bump c (i:Int) n) (Vj C hp hM (by omega) (by omega) n0 n1) (by omega) (by omega);rw [e] at this;exact this
   ·exact Yd hM n0 n1 l (i+1) c C hp (by omega)
theorem aAL {M:Int} {s s' k' c:D} {e2 e3 e4 n:Int} (W:axJ s s' k' e2 e3 e4 c.l.length) (C:Ck M c) (hp:0 < c.l.length) (hM:M≤IV) (n0:0≤n) (n1:n≤M):Ck M (wkM s s' k' e2 e3 e4 c n)∧(wkM s s' k' e2 e3 e4 c n).l.length=c.l.length:=by
 unfold wkM;split
 ·rename_i h;split
  ·rename_i h';obtain⟨w0,w1⟩:=W.sig h h';exact⟨Vj C hp hM w0 w1 n0 n1,yH _ _ _⟩
  ·exact⟨C,rfl⟩
 ·split
  ·rename_i h;exact ahS hM n0 n1 _ c C hp (W.brd h).2.2.1
  ·split
   ·split
    ·exact Yd hM n0 n1 _ 0 c C hp (by have:=W.lk; omega)
    ·exact⟨C,rfl⟩
   ·exact⟨C,rfl⟩
theorem AX (c:D) (t:Int):(tick c t).l.length=c.l.length:=by rw [aX,fP]
theorem Sh.at {B:Int} {c c':D} (h:Sh B c c') {t:Int} (t0:0≤t) (t1:t < (c.l.length:Int)):(c'.at t).n=(c.at t).n+B:=by obtain⟨i,rfl⟩ : ∃i:Nat,t=(i:Int):=⟨t.toNat,by omega⟩;exact h.at' i (by omega)
structure aGa (d0 d1 s k c c':D) (t:Int) (n:Nat) (B M M':Int) (s' k' cn cn':D) (e1 e2 e3 e4 e5 oc:Int):Prop where
 one:L 3100 [enc d0,enc d1,enc s,enc k,enc c,t]=some [enc s',enc k',enc cn,e1,e2,e3,e4,e5,oc,0]
 two:L 3100 [enc d0,enc d1,enc s,enc k,enc c',t]=some [enc s',enc k',enc cn',e1,e2,e3,e4,e5,oc,0]
 sh:Sh B cn cn'
 ck:Ck (M+1) cn
 ck':Ck (M'+1) cn'
 sx:Sx s' k' (n+1)
section
variable {d0 d1 s k:D} {n:Nat} (S:Sx s k n) (hn:n < 17592186043904) (h0:Wd (.sl 3) d0) (h1:Wd (.sl 4) d1)
include S hn h0 h1
end
end Go.As.Try
end
section
namespace Go.As.Try
open Go hiding Stat Spec shape
open Go.As
set_option maxRecDepth 100000
structure One (d0 d1 s k:D) (t:Int) (s' k':D) (e1 e2 e3 e4 e5 oc:Int) (x y:KT):Prop where
 hk:k.at t=x.d
 hk':k'=xI k t y
 how:(oc=0∧s'=s∧e1=0∧e2=0∧e3=0∧e4=0∧e5=0∧y= { x with tr:=y.tr }∧L 1700 [enc d0,enc d1,enc s,enc k,t]=some [0])∨
  (oc=4∧s'=s∧e1=0∧e2=0∧e3=0∧e4=0∧e5=0∧y=x∧L 1700 [enc d0,enc d1,enc s,enc k,t]=some [1])∨
  (oc=1∧s'=s∧e1=0∧e2=0∧e3=0∧e4=0∧e5=0∧L 1700 [enc d0,enc d1,enc s,enc k,t]=some [0])∨
  ((oc=2∨oc=3)∧e2≠0∧L 1700 [enc d0,enc d1,enc s,enc k,t]=some [0])
section
variable {d0 d1 s k:D} {n:Nat} (S:Sx s k n) (hn:n < 17592186043904) (h0:Wd (.sl 3) d0) (h1:Wd (.sl 4) d1)
include S hn h0 h1
end
section
variable {d0 d1 s k:D} {n:Nat} (S:Sx s k n) (hn:n < 17592186043900) (h0:Wd (.sl 3) d0) (h1:Wd (.sl 4) d1)
include S hn h0 h1
end
end Go.As.Try
end
section
namespace Go.As.Try
open Go hiding Stat Spec shape
open Go.As
set_option maxRecDepth 100000
theorem agB {d0 d1 s k c:D} (h0:Wd (.sl 3) d0) (h1:Wd (.sl 4) d1) (hc:Wd (.sl 0) c) (hB:L 1450 [enc d0,enc d1]=some [enc s,enc k,0]) (S:Sx s k 0):(KR d0 d1 s k c∧L 2800 [enc d0,enc d1,enc c]=some [enc s,enc k,enc c,0])∨L 2800 [enc d0,enc d1,enc c]=some [enc (.i 1),enc (.i 1),enc (.i 1),2]:=by
 obtain⟨ys,hK,b,rfl,hb⟩:=Rf (k:=k) h0 h1 (S.g.few (by omega)).rows hc.len;rcases hb with ⟨rfl,hN⟩ | ⟨rfl,hY⟩
 ·refine .inr ?_;rw [aT,adK];rcases bG hc with rfl | rfl | ⟨r1,r2⟩
  ·simp only [Fj,zz,hB,len1,len2,oJ,iO,hK,aK]
  ·simp only [Fj,zz,hB,len1,len2,oJ,iO,hK,aK]
  ·simp only [Fj,zz,hB,r1,r2,hK,aK]
 ·refine .inl ⟨hY,?_⟩;rw [aT,adK];rcases bG hc with rfl | rfl | ⟨r1,r2⟩
  ·simp only [Fj,zz,hB,len1,len2,oJ,iO,hK,aK,aA]
  ·simp only [Fj,zz,hB,len1,len2,oJ,iO,hK,aK,aA]
  ·simp only [Fj,zz,hB,r1,r2,hK,aK,aA]
theorem acG {d0 d1 s k c:D} {n:Nat} (S:Sx s k n) (hn:n < 17592186043904) (h0:Wd (.sl 3) d0) (h1:Wd (.sl 4) d1) (C:Ck IV c) {t:Int} {s' k' c':D} {e1 e2 e3 e4 e5 oc er:Int} (H:O9 d0 d1 s k c t n s' k' c' e1 e2 e3 e4 e5 oc er):Sx s' k' (n+1)∧Ck IV c'∧c'.l.length=c.l.length:=by
 cases H with
 | no h=>exact⟨S.mono (Nat.le_succ n),C,rfl⟩
 | over x K R ho=>exact⟨S.mono (Nat.le_succ n),C,rfl⟩
 | asl x K R ho ha=>exact⟨S.mono (Nat.le_succ n),C,rfl⟩
 | wait x K R ho ha hq ht=>exact⟨S.mono (Nat.le_succ n),C,rfl⟩
 | full x K R ho ha ht hm=>exact⟨S.mono (Nat.le_succ n),C,rfl⟩
 | go x K R ho ha hq hm s' k' e1 e2 e3 e4 e5 oc hL H W=>
   have t0:=R.r.t0;have tc:t < (c.l.length:Int):=by have:=K.1; have:=R.r.t1; omega
   have hc:=C.at t0 tc;have C1:Ck IV (tick c t):=abN C (by omega) (Int.le_refl _) t (by omega) (by omega);have h2:=aAL (n:=(c.at t).n+1) (by rw [AX]; exact W) C1 (by rw [AX]; omega) (Int.le_refl _) (by omega) (by omega);exact⟨(VP S hn h0 h1 H).1,h2.1,h2.2.trans (AX c t)⟩
section
variable {d0 d1 d:D} (h0:Wd (.sl 3) d0) (h1:Wd (.sl 4) d1) (hn:0 < d1.l.length) (hd:d.l.length≤1000)
include h0 h1 hn hd
theorem Nh (m:Nat): ∀(j i:Nat) (s k c:D) (l:List D),i+j=d.l.length→Sx s k i→Ck IV c→c.l.length=m→l.length≤i→
 ∃(l2 s2 k2 c2:D) (er:Int),Sx s2 k2 1000∧Ck IV c2∧c2.l.length=m∧l2.l.length≤1000∧
 (l= []→L 3151 [enc d,(d1.l.length:Int),(i:Int),enc d0,enc d1,enc s,enc k,enc c]=some [enc l2,enc s2,enc k2,enc c2,er])∧
 (l≠[]→L 3152 [enc d,enc (dL l),(d1.l.length:Int),(i:Int),enc d0,enc d1,enc s,enc k,enc c]=some [enc l2,enc s2,enc k2,enc c2,er])
 | 0,i,s,k,c,l,hi,S,C,hm,hl=>by
   have c1: ¬(i:Int) < (d.l.length:Int):=by omega
   refine⟨if l= [] then .i 1 else dL l,s,k,c,0,S.mono (by omega),C,hm,?_,fun hz=>?_,fun hz=>?_⟩
   ·split
    ·simp [D.l]
    ·rw [aX]; omega
   ·rw [if_pos hz,aT,Xn];simp only [Fg,zz,c1,aK]
   ·rw [if_neg hz,aT,adI];simp only [Lj,zz,c1,aK]
 | j+1,i,s,k,c,l,hi,S,C,hm,hl=>by
   have hil:i < d.l.length:=by omega
   have c1:(i:Int) < (d.l.length:Int):=by omega
   have c2:(0:Int) < (d1.l.length:Int):=by omega
   have c3: ¬((i:Int) < 0):=by omega
   have w:=aZ (n:=i) (by omega);have hb:=h1.len;have pk:=afI (x:=(d.at (i:Int)).n) c2 (by omega);have c7:(l.length:Int) < 3518437208882:=by omega
   obtain⟨s',k',cn,e1,e2,e3,e4,e5,oc,er,A,H⟩:=Jr S (by omega) h0 h1 C.wd (alB (d.at (i:Int)).n (d1.l.length:Int));obtain⟨S',C',hlc⟩:=acG S (by omega) h0 h1 C H;by_cases r0:er=0
   ·subst r0
    obtain⟨l2,s2,k2,cm,er,P1,P2,P3,P4,ih1,ih2⟩:=Nh m j (i+1) s' k' cn (if oc=2∨oc=3 then l++ [evD e1 e2 e3 e4 e5] else l) (by omega) S' C' (hlc.trans hm)
     (by split
         ·rw [List.length_append]; exact Nat.succ_le_succ hl
         ·omega)
    refine⟨l2,s2,k2,cm,er,P1,P2,P3,P4,fun hz=>?_,fun hz=>?_⟩
    ·subst hz;rw [aT,Xn];by_cases o2:oc=2
     ·simp only [o2,true_or,if_true,List.nil_append,evD,iV,kY] at ih2;have j1:=ih2 (by simp);simp only [Fg,zz,dr,c1,c2,c3,pk,A,o2,w,aH,yK,List.nil_append,iV,kY];exact j1
     ·by_cases o3:oc=3
      ·simp only [o3,or_true,if_true,List.nil_append,evD,iV,kY] at ih2;have j1:=ih2 (by simp);simp only [Fg,zz,dr,c1,c2,c3,pk,A,o3,w,aH,yK,List.nil_append,iV,kY,aBe];exact j1
      ·simp only [o2,o3,or_self,if_false] at ih1;have j1:=ih1 trivial;simp only [Fg,zz,dr,c1,c2,c3,pk,A,o2,o3,w,aH];exact j1
    ·rw [aT,adI];by_cases o2:oc=2
     ·simp only [o2,true_or,if_true,evD,iV,kY] at ih2;have j1:=ih2 (by simp);simp only [Lj,zz,dr,c1,c2,c3,c7,pk,A,o2,w,aH,aX];exact j1
     ·by_cases o3:oc=3
      ·simp only [o3,or_true,if_true,evD,iV,kY] at ih2;have j1:=ih2 (by simp);simp only [Lj,zz,dr,c1,c2,c3,c7,pk,A,o3,w,aH,aX,aBe];exact j1
      ·simp only [o2,o3,or_self,if_false] at ih2;have j1:=ih2 hz;simp only [Lj,zz,dr,c1,c2,c3,pk,A,o2,o3,w,aH];exact j1
   ·refine⟨if l= [] then .i 1 else dL l,s,k,c,er,S.mono (by omega),C,hm,?_,fun hz=>?_,fun hz=>?_⟩
    ·split
     ·simp [D.l]
     ·rw [aX]; omega
    ·rw [if_pos hz,aT,Xn];simp only [Fg,zz,dr,c1,c2,c3,pk,A,if_neg r0,aK]
    ·rw [if_neg hz,aT,adI];simp only [Lj,zz,dr,c1,c2,c3,pk,A,if_neg r0,aK]
end
theorem afZ {d0 d1 c d:D} (h0:Wd (.sl 3) d0) (h1:Wd (.sl 4) d1) (hc:Wd (.sl 0) c) (hd:d.l.length≤1000): ∃(l s k c':D) (er:Int),L 3150 [enc d0,enc d1,enc c,enc d]=some [enc l,enc s,enc k,enc c',er]∧(er=0→0 < d1.l.length→Sx s k 1000∧Ck IV c'∧c'.l.length=d1.l.length):=by
 have nil: ∀z:Int,z≠0→L 2800 [enc d0,enc d1,enc c]=some [enc (.i 1),enc (.i 1),enc (.i 1),z]→∃(l s k c':D) (er:Int),L 3150 [enc d0,enc d1,enc c,enc d]=some [enc l,enc s,enc k,enc c',er]∧(er=0→0 < d1.l.length→Sx s k 1000∧Ck IV c'∧c'.l.length=d1.l.length):=fun z hz q=>by refine⟨.i 1,.i 1,.i 1,.i 1,z,?_,fun h=>absurd h hz⟩;rw [aT,adJ];simp only [VG,zz,q,if_neg hz,aK]
 rcases begins h0 h1 with ⟨s,k,hB,P⟩ | ⟨z,hz,hB⟩
 ·rcases agB h0 h1 hc hB P.sx with ⟨K,q⟩ | q
  ·by_cases hn:0 < d1.l.length
   ·have C:Ck IV c:=⟨hc,fun u hu=> ⟨K.2.1 u hu,by have:=(ahT hc u).2; exact this⟩⟩;obtain⟨l2,s2,k2,c2,er,P1,P2,P3,_,g1,_⟩:=Nh h0 h1 hn hd c.l.length d.l.length 0 s k c [] (by omega) P.sx C rfl (Nat.zero_le _);have j1:=g1 rfl;rw [Int.natCast_zero] at j1;refine⟨l2,s2,k2,c2,er,?_,fun _ _=> ⟨P1,P2,P3.trans K.1⟩⟩;rw [aT,adJ];simp only [VG,zz,q,aH];exact j1
   ·have z1: ¬(0:Int) < (d1.l.length:Int):=by omega
    refine⟨.i 1,s,k,c,0,?_,fun _ h=>absurd h hn⟩
    have go:L 3151 [enc d,(d1.l.length:Int),0,enc d0,enc d1,enc s,enc k,enc c]=some [enc (.i 1),enc s,enc k,enc c,0]:=by
     rw [aT,Xn];by_cases hz:(0:Int) < (d.l.length:Int)
     ·simp only [Fg,zz,hz,z1,aK]
     ·simp only [Fg,zz,if_neg hz,aK]
    rw [aT,adJ];simp only [VG,zz,q,aH];exact go
  ·exact nil 2 (by omega) q
 ·refine nil z hz ?_;rw [aT,adK];simp only [Fj,zz,hB,if_neg hz,aK]
theorem arL {d0 d1 c d:D} (h0:Wd (.sl 3) d0) (h1:Wd (.sl 4) d1) (hc:Wd (.sl 0) c) (m:Nat) (hm:m≤1000): ∃(s k c':D) (b:Int),L 3200 [enc d0,enc d1,enc c,enc d,(m:Int)]=some [enc s,enc k,enc c',b]∧(b=0∨b=1∧0 < d1.l.length∧Sx s k 1000∧Ck IV c'∧c'.l.length=d1.l.length):=by
 have key: ∀p:D,p.l.length≤1000→(∀(s k c':D) (er:Int) (l:D),L 3150 [enc d0,enc d1,enc c,enc p]=some [enc l,enc s,enc k,enc c',er]→L 3200 [enc d0,enc d1,enc c,enc d,(m:Int)]=some [enc s,enc k,enc c',if er=0 then (if (0:Int) < (d1.l.length:Int) then 1 else 0) else 0])→∃(s k c':D) (b:Int),L 3200 [enc d0,enc d1,enc c,enc d,(m:Int)]=some [enc s,enc k,enc c',b]∧(b=0∨b=1∧0 < d1.l.length∧Sx s k 1000∧Ck IV c'∧c'.l.length=d1.l.length):=fun p hp hL=>by
  obtain⟨l,s,k,c',er,q,hq⟩:=afZ h0 h1 hc hp;refine⟨s,k,c',_,hL s k c' er l q,?_⟩;by_cases r0:er=0
  ·by_cases hn:(0:Int) < (d1.l.length:Int)
   ·rw [if_pos r0,if_pos hn];exact .inr ⟨rfl,by omega,hq r0 (by omega)⟩
   ·rw [if_pos r0,if_neg hn];exact .inl rfl
  ·rw [if_neg r0];exact .inl rfl
 by_cases hlt:(m:Int) < (d.l.length:Int)
 ·have c1: ¬(m:Int) < 0:=by omega
  refine key (gQ d (d.l.take m)) (by rw [kT,List.length_take]; omega) fun s k c' er l q=>?_;rw [aT,aoU];by_cases r0:er=0
  ·by_cases hn:(0:Int) < (d1.l.length:Int)
   ·simp only [I5,zz,hlt,c1,Int.toNat_natCast,q,r0,hn,aK,if_true]
   ·simp only [I5,zz,hlt,c1,Int.toNat_natCast,q,r0,hn,aK,if_true,if_false]
  ·simp only [I5,zz,hlt,c1,Int.toNat_natCast,q,r0,aK,if_false]
 ·refine key (gQ d (d.l.take d.l.length)) (by rw [kT,List.length_take]; omega) fun s k c' er l q=>?_;rw [aT,aoU];by_cases r0:er=0
  ·by_cases hn:(0:Int) < (d1.l.length:Int)
   ·simp only [I5,zz,hlt,Int.lt_irrefl,Int.toNat_natCast,q,r0,hn,aK,if_true]
   ·simp only [I5,zz,hlt,Int.lt_irrefl,Int.toNat_natCast,q,r0,hn,aK,if_true,if_false]
  ·simp only [I5,zz,hlt,Int.lt_irrefl,Int.toNat_natCast,q,r0,aK,if_false]
section
variable {d0 d1 s k c:D} {n:Nat} (S:Sx s k n) (hn:n < 17592186043800) (h0:Wd (.sl 3) d0) (h1:Wd (.sl 4) d1)
include S hn h0 h1
end
section
variable {d0 d1 s k c:D} (S:Sx s k 1000) (h0:Wd (.sl 3) d0) (h1:Wd (.sl 4) d1) (C:Ck IV c) (hl:c.l.length=d1.l.length)
include S h0 h1 C hl
end
end Go.As.Try
end
section
namespace Go.As.Try
open Go hiding Stat Spec shape
open Go.As
set_option maxRecDepth 100000
def Ge (c c':D):Prop:=c'.l.length=c.l.length∧∀v:Nat,v < c.l.length→(c.at (v:Int)).n≤(c'.at (v:Int)).n
theorem Ge.rfl' (c:D):Ge c c:=⟨rfl,fun _ _=>Int.le_refl _⟩
theorem Ge.trans' {a b c:D} (h:Ge a b) (g:Ge b c):Ge a c:=⟨g.1.trans h.1,fun v hv=>Int.le_trans (h.2 v hv) (g.2 v (by rw [h.1]; exact hv))⟩
theorem Vh (c:D) (u n:Int):Ge c (bump c u n):=by
 refine⟨yH c u n,fun v hv=>?_⟩;unfold bump;rw [G9 c u _ hv];by_cases h:(v:Int)=u
 ·subst h;rw [if_pos rfl];split <;> omega
 ·rw [if_neg h];exact Int.le_refl _
theorem ahR (n:Int): ∀(l:List D) (c:D),Ge c (wkB n l c)
 | [],c=> .rfl' c
 | x :: l,c=>(Vh c x.n n).trans' (ahR n l _)
theorem Yc (o g n:Int): ∀(l:List D) (i:Nat) (c:D),Ge c (wkA o g n l i c)
 | [],_,c=> .rfl' c
 | x :: l,i,c=>by
   unfold wkA;split
   ·exact (Vh c (i:Int) n).trans' (Yc o g n l (i+1) _)
   ·exact Yc o g n l (i+1) c
theorem aAJ (s s' k':D) (e2 e3 e4:Int) (c:D) (n:Int):Ge c (wkM s s' k' e2 e3 e4 c n):=by
 unfold wkM;split
 ·split
  ·exact Vh _ _ _
  ·exact .rfl' c
 ·split
  ·exact ahR _ _ _
  ·split
   ·split
    ·exact Yc _ _ _ _ _ _
    ·exact .rfl' c
   ·exact .rfl' c
theorem aAK {s s' k' c:D} {e2 e3 e4 n:Int} (h3:e2≠13) (h4:e2≠14) (h5:e2≠15):wkM s s' k' e2 e3 e4 c n=c:=by unfold wkM;rw [if_neg h3,if_neg h4,if_neg h5]
structure Up (s k c:D) (t:Int) (s' k' c':D) (e2 oc:Int):Prop where
 ge:Ge c c'
 eq:e2≠13→e2≠14→e2≠15→∀v:Nat,v < c.l.length→(v:Int)≠t→(c'.at (v:Int)).n=(c.at (v:Int)).n
 own:oc=1∨oc=2∨oc=3→(c.at t).n < (c'.at t).n
 over:oc=4→s'=s∧k'=k∧c'=c
theorem Up.same (s k c:D) (t e2:Int) {oc:Int} (h:oc=0∨oc=4):Up s k c t s k c e2 oc:=⟨.rfl' c,fun _ _ _ _ _ _=>rfl,fun q=>by omega,fun _=> ⟨rfl,rfl,rfl⟩⟩
theorem auJ {d0 d1 s k c:D} {n:Nat} {t:Int} {s' k' c':D} {e1 e2 e3 e4 e5 oc er:Int} (H:O9 d0 d1 s k c t n s' k' c' e1 e2 e3 e4 e5 oc er):er=0∧Up s k c t s' k' c' e2 oc∨er=131∧(c.at t).n=IV∧s'=s∧k'=k∧c'=c:=by
 cases H with
 | no h=>exact .inl ⟨rfl,.same s k c t 0 (.inl rfl)⟩
 | over x K R ho=>exact .inl ⟨rfl,.same s k c t 0 (.inr rfl)⟩
 | asl x K R ho ha=>exact .inl ⟨rfl,.same s k c t 0 (.inl rfl)⟩
 | wait x K R ho ha hq ht=>exact .inl ⟨rfl,.same s k c t 0 (.inl rfl)⟩
 | full x K R ho ha ht hm=>exact .inr ⟨rfl,hm,rfl,rfl,rfl⟩
 | go x K R ho ha hq hm s' k' e1 e2 e3 e4 e5 oc hL H W=>
   have t0:=R.r.t0;have tc:t < (c.l.length:Int):=by have:=K.1; have:=R.r.t1; omega
   obtain⟨i,rfl⟩ : ∃i:Nat,t=(i:Int):=⟨t.toNat,by omega⟩;have hi:i < c.l.length:=by omega
   have g1:Ge c (tick c (i:Int)):=⟨AX c _,fun v hv=>by
    rw [G9 c (i:Int) _ hv];by_cases h:(v:Int)=(i:Int)
    ·rw [if_pos h,h]; omega
    ·rw [if_neg h]; exact Int.le_refl _⟩
   have hu:=aAJ s s' k' e2 e3 e4 (tick c (i:Int)) ((c.at (i:Int)).n+1);refine .inl ⟨rfl,g1.trans' hu,fun h3 h4 h5 v hv hne=>?_,fun _=>?_,fun h4=>?_⟩
   ·rw [aAK h3 h4 h5,G9 c (i:Int) _ hv,if_neg hne]
   ·have h:=hu.2 i (by rw [AX]; exact hi);rw [G9 c (i:Int) _ hi,if_pos rfl] at h;omega
   ·exfalso
    cases H with
    | no h=>omega
    | over x' R' ho'=> have hN:=yX (s:=s) R.hk R.ht R.r;have hM:=yX (s:=s) R'.hk R'.ht R'.r;rw [ho] at hN;rw [ho'] at hM;rw [hN] at hM;simp at hM
    | loc x' R' ho' ha'=>omega
    | tri x' R' ho' op obj arg tr hq' k1 k2 k3 hti s' e1 e2 e3 e4 e5 oc A T=> have:=A.oc3;omega
theorem aeB (d:D) (hd:d.l.length≤140737488351232): ∀(j i:Nat),i+j=d.l.length→L 3551 [enc d,enc d,(d.l.length:Int),(i:Int)]=some [1]
 | 0,i,hi=>by
   have c1: ¬(i:Int) < (d.l.length:Int):=by omega
   rw [aT,aoQ];simp only [aaY,zz,c1,aK]
 | j+1,i,hi=>by
   have c1:(i:Int) < (d.l.length:Int):=by omega
   have c2: ¬((i:Int) < 0):=by omega
   have w:=aZ (n:=i) (by omega);have ih:=aeB d hd j (i+1) (by omega);rw [aT,aoQ];simp only [aaY,zz,c1,c2,w,aH];exact ih
theorem axA (d:D) (hd:d.l.length≤140737488351232):L 3550 [enc d,enc d]=some [1]:=by have h:=aeB d hd d.l.length 0 (by omega);rw [Int.natCast_zero] at h;rw [aT,azQ];simp only [ajG,zz,aH];exact h
theorem akQ {s k c:D} {n:Nat} (S:Sx s k n) (hn:n < 17592186043904) (hc:c.l.length≤140737488351232):L 3300 [enc s,enc k,enc c,enc s,enc k,enc c]=some [1]:=by have h1:=S.same hn;have h2:=axA c hc;rw [aT,azS];simp only [ajI,zz,h1,h2,aA,aK]
section
variable {d0 d1 s k c:D} (S:Sx s k 1000) (h0:Wd (.sl 3) d0) (h1:Wd (.sl 4) d1) (C:Ck IV c) (hl:c.l.length=d1.l.length)
include S h0 h1 C hl
theorem aAN {i:Nat} (hi:i < d1.l.length) {s' k' c':D} {e2 oc:Int} (U:Up s k c (i:Int) s' k' c' e2 oc)
 (ih:L 3351 [(d1.l.length:Int),((i+1:Nat):Int),enc d0,enc d1,enc s,enc k,enc c]=some [1]) :
 L 3352 [(i:Int),oc,(d1.l.length:Int),(d1.l.length:Int),(d1.l.length:Int),enc d0,enc d1,enc s,enc k,enc c,enc s',enc k',enc c']=some [1]∧
 L 3353 [(i:Int),oc,(d1.l.length:Int),(d1.l.length:Int),(d1.l.length:Int),enc d0,enc d1,enc s,enc k,enc c,enc s',enc k',enc c']=some [1]:=by
 have hb:=h1.len;have c2: ¬(i:Int) < 0:=by omega
 have c3:(i:Int) < (c'.l.length:Int):=by have:=U.ge.1; omega
 have c4:(i:Int) < (c.l.length:Int):=by omega
 have w:=aZ (n:=i) (by omega);rw [aT,aT,aoS,aoR];by_cases o2:oc=2
 ·have q:=U.own (by omega);simp only [DX,Fe,zz,Int.lt_irrefl,o2,c2,c3,c4,q,w,aH];exact⟨ih,ih⟩
 ·by_cases o3:oc=3
  ·have q:=U.own (by omega);simp only [DX,Fe,zz,Int.lt_irrefl,o3,aBe,c2,c3,c4,q,w,aH];exact⟨ih,ih⟩
  ·by_cases o1:oc=1
   ·have q:=U.own (by omega);have z2: ¬(1:Int)=2:=by omega
    have z3: ¬(1:Int)=3:=by omega
    simp only [DX,Fe,zz,Int.lt_irrefl,o1,z2,z3,c2,c3,c4,q,w,aH];exact⟨ih,ih⟩
   ·by_cases o4:oc=4
    ·obtain⟨e1,e2,e3⟩:=U.over o4;subst e1 e2 e3;have q:=akQ S (by omega) C.wd.len;have z2: ¬(4:Int)=2:=by omega
     have z3: ¬(4:Int)=3:=by omega
     have z1: ¬(4:Int)=1:=by omega
     simp only [DX,Fe,zz,Int.lt_irrefl,o4,z1,z2,z3,q,aA,w,aH];exact⟨ih,ih⟩
    ·simp only [DX,Fe,zz,Int.lt_irrefl,if_neg o1,if_neg o2,if_neg o3,if_neg o4,w,aH];exact⟨ih,ih⟩
theorem aaG {i:Nat} (hi:i < d1.l.length) {s' k' c':D} {e2 oc:Int} (U:Up s k c (i:Int) s' k' c' e2 oc)
 (ih:L 3351 [(d1.l.length:Int),((i+1:Nat):Int),enc d0,enc d1,enc s,enc k,enc c]=some [1]): ∀(j v:Nat),v+j=d1.l.length→
 L 3352 [(i:Int),oc,(d1.l.length:Int),(d1.l.length:Int),(v:Int),enc d0,enc d1,enc s,enc k,enc c,enc s',enc k',enc c']=some [1]∧
 (e2≠13→e2≠14→e2≠15→L 3353 [(i:Int),oc,(d1.l.length:Int),(d1.l.length:Int),(v:Int),enc d0,enc d1,enc s,enc k,enc c,enc s',enc k',enc c']=some [1])
 | 0,v,hv=>by
   have e:v=d1.l.length:=by omega
   subst e;obtain⟨q1,q2⟩:=aAN S h0 h1 C hl hi U ih;exact⟨q1,fun _ _ _=>q2⟩
 | j+1,v,hv=>by
   have hb:=h1.len;have hvc:v < c.l.length:=by omega
   have c1:(v:Int) < (d1.l.length:Int):=by omega
   have c2: ¬(v:Int) < 0:=by omega
   have c3:(v:Int) < (c'.l.length:Int):=by have:=U.ge.1; omega
   have c4:(v:Int) < (c.l.length:Int):=by omega
   have c5: ¬(c'.at (v:Int)).n < (c.at (v:Int)).n:=by have:=U.ge.2 v hvc; omega
   have w:=aZ (n:=v) (by omega);obtain⟨r1,r2⟩:=aaG hi U ih j (v+1) (by omega);refine⟨?_,fun g3 g4 g5=>?_⟩
   ·rw [aT,aoS];by_cases hvi:(v:Int)=(i:Int)
    ·simp only [DX,zz,c1,c2,c3,c4,c5,if_pos hvi,w,aH];exact r1
    ·by_cases hg:(c.at (v:Int)).n < (c'.at (v:Int)).n
     ·simp only [DX,zz,c1,c2,c3,c4,c5,if_neg hvi,hg,w,aH];exact r1
     ·simp only [DX,zz,c1,c2,c3,c4,c5,if_neg hvi,hg,w,aH];exact r1
   ·have r:=r2 g3 g4 g5;rw [aT,aoR];by_cases hvi:(v:Int)=(i:Int)
    ·simp only [Fe,zz,c1,c2,c3,c4,c5,if_pos hvi,w,aH];exact r
    ·have hg: ¬(c.at (v:Int)).n < (c'.at (v:Int)).n:=by have:=U.eq g3 g4 g5 v hvc hvi; omega
     simp only [Fe,zz,c1,c2,c3,c4,c5,if_neg hvi,hg,w,aH];exact r
theorem aaF: ∀(j i:Nat),i+j=d1.l.length→L 3351 [(d1.l.length:Int),(i:Int),enc d0,enc d1,enc s,enc k,enc c]=some [1]
 | 0,i,hi=>by
   have c1: ¬(i:Int) < (d1.l.length:Int):=by omega
   rw [aT,aoT];simp only [I4,zz,c1,aK]
 | j+1,i,hi=>by
   have hb:=h1.len;have c1:(i:Int) < (d1.l.length:Int):=by omega
   have c2: ¬(i:Int) < 0:=by omega
   have c4:(i:Int) < (c.l.length:Int):=by omega
   have hl':(c.l.length:Int)=(d1.l.length:Int):=by omega
   have w:=aZ (n:=i) (by omega);have ih:=aaF j (i+1) (by omega);obtain⟨s',k',c',e1,e2,e3,e4,e5,oc,er,A,H⟩:=Jr S (by omega) h0 h1 C.wd (i:Int);obtain⟨S',C',hlc⟩:=acG S (by omega) h0 h1 C H;have auS:(c'.l.length:Int)=(d1.l.length:Int):=by omega
   rw [aT,aoT];rcases auJ H with ⟨rfl,U⟩ | ⟨rfl,hm,q1,q2,q3⟩
   ·obtain⟨r1,r2⟩:=aaG S h0 h1 C hl (by omega) U ih d1.l.length 0 (by omega);rw [Int.natCast_zero] at r1 r2;by_cases g3:e2=13
    ·simp only [I4,zz,c1,A,auS,hl',g3,aA,aH];exact r1
    ·by_cases g4:e2=14
     ·simp only [I4,zz,c1,A,auS,hl',g4,aA,aH,Int.reduceEq];exact r1
     ·by_cases g5:e2=15
      ·simp only [I4,zz,c1,A,auS,hl',g5,aA,aH,Int.reduceEq];exact r1
      ·simp only [I4,zz,c1,A,auS,hl',if_neg g3,if_neg g4,if_neg g5,aA,aH];exact r2 g3 g4 g5
   ·rw [q1,q2,q3] at A;have q:=akQ S (by omega) C.wd.len;have hm':(c.at (i:Int)).n=9223372036854775807:=hm;have z: ¬(131:Int)=0:=by omega
    simp only [I4,zz,c1,c2,A,hl',z,hm',q,aA,w,aH];exact ih
end
theorem aAM {d0 d1 c:D} (h0:Wd (.sl 3) d0) (h1:Wd (.sl 4) d1) (hc:Wd (.sl 0) c) (d:D):L 3350 [enc d0,enc d1,enc c,enc d]=some [1]:=by
 obtain⟨ys,hG,g,rfl,_⟩:=agG (d0:=d0) h1;rw [aT,azR];by_cases g0:g=0
 ·subst g0;by_cases aBB:(100:Int) < (c.l.length:Int)
  ·simp only [Px,zz,hG,aBB,aK]
  ·obtain⟨s,k,c',b,hB,hb⟩:=arL (d:=d) h0 h1 hc 120 (by omega);have e:((120:Nat):Int)=120:=rfl;rw [e] at hB;rcases hb with rfl | ⟨rfl,hn,S,C,hl⟩
   ·simp only [Px,zz,hG,aBB,hB,aK]
   ·have h:=aaF S h0 h1 C hl d1.l.length 0 (by omega);rw [Int.natCast_zero] at h;simp only [Px,zz,hG,aBB,hB,aA,aH];exact h
 ·simp only [Px,zz,hG,if_neg g0,aK]
end Go.As.Try
end

import Derived.Test.YtmmdeeeifpepjabGreatDoorAsZA3
set_option linter.unusedSectionVars false
set_option linter.unusedVariables false
set_option linter.unusedSimpArgs false
section
namespace Go.As.Try
open Go hiding Stat Spec shape
open Go.As
set_option maxRecDepth 100000
theorem set_self {d:D} (hd:d=dL d.l) {i:Nat} (hi:i < d.l.length):dL (fE d.l (i:Int) d.l[i])=d:=by rw [xJ,List.set_getElem_self,← hd]
theorem TM (a b c d e f x:D):fE [a,b,c,d,e,f] 4 x= [a,b,c,d,x,f]:=rfl
theorem TL (a b c d e f x:D):fE [a,b,c,d,e,f] 5 x= [a,b,c,d,e,x]:=rfl
theorem iO: ¬(enc (.i 2)=enc (.i 1)):=fun h=>by have:=lK h; simp at this
theorem len1:(((D.i 1).l.length:Nat):Int)=0:=rfl
theorem len2:(((D.i 2).l.length:Nat):Int)=0:=rfl
theorem oK: ¬((0:Int) < 0):=by omega
theorem bG {r:D} (h:Wd (.sl 0) r):r= .i 1∨r= .i 2∨((0:Int) < (r.l.length:Int)∧(r.l.length:Int) < 17592186044416):=by
 rcases h.sh with h1 | h1 | ⟨h1,h2⟩
 ·exact .inl h1
 ·exact .inr (.inl h1)
 ·have hr:=h.room;have h3:vV 0=8:=rfl;rw [h3] at hr;have:=List.length_pos_iff.2 h2;exact .inr (.inr ⟨by omega,by omega⟩)
structure Th (d:D):Prop where
 wd:Wd (.sl 7) d
 sh:d=dL d.l
 few:d.l.length≤1759218604390
theorem E8 {d:D} (h:Wd (.sl 7) d) (hn:0 < d.l.length):Th d:=by
 refine⟨h,?_,?_⟩
 ·rcases h.sh with rfl | rfl | ⟨h1,_⟩
  ·simp [D.l] at hn
  ·simp [D.l] at hn
  ·exact h1
 ·have hr:=h.room;have h3:vV 7=80:=rfl;rw [h3] at hr;omega
theorem Sj (d:D) (h:Th d): ∀(j i:Nat),i+j=d.l.length→L 551 [enc d,(d.l.length:Int),(i:Int)]=some [enc d]
 | 0,i,hi=>by
   have c1: ¬(i:Int) < (d.l.length:Int):=by omega
   rw [aT,aCg];simp only [asI,zz,c1,fin]
 | j+1,i,hi=>by
   have hl:=h.few;have hil:i < d.l.length:=by omega
   have c1:(i:Int) < (d.l.length:Int):=by omega
   have c2: ¬((i:Int) < 0):=by omega
   have w:=bC (n:=i) (by omega);have ih:=Sj d h j (i+1) (by omega);obtain⟨o,c,dn,g,r,v,he,_,_,_,_,hr,hv⟩:=h.wd.thing _ (List.getElem_mem hil);have hs:=set_self h.sh hil;rw [he] at hs;rw [aT,aCg];rcases bG hr with rfl | rfl | ⟨r1,r2⟩ <;> rcases bG hv with rfl | rfl | ⟨v1,v2⟩
   all_goals
    simp only [asI,zz,c1,c2,w,aY hil,he,eG,aX,List.getElem?_cons_zero,List.getElem?_cons_succ,TM,TL,hs,len1,len2,oK,iO]
    try simp only [r1,r2,zz]
    try simp only [v1,v2,zz]
    try simp only [fin]
    exact ih
theorem aqP (d:D) (h:Wd (.sl 7) d):L 550 [enc d]=some [enc d]:=by
 rw [aT,aEC];rcases h.sh with rfl | rfl | ⟨h1,h2⟩
 ·simp only [aiN,zz,len1,oK,fin];rw [aT,aEB];rfl
 ·simp only [aiN,zz,len2,oK,iO,fin];rw [aT,aEA];rfl
 ·have hp:=List.length_pos_iff.2 h2;have ht:=E8 h hp;have hl:=ht.few;have c1:(0:Int) < (d.l.length:Int):=by omega
  have c2:(d.l.length:Int) < 1759218604441:=by omega
  simp only [aiN,zz,c1,c2,fin];exact Sj d ht d.l.length 0 (by omega)
theorem Sv (d:D) (h:Th d) (gi:Nat) (x4 x5 x6 x7 x8 x9:Int): ∀(j i:Nat),gi < i→i+j=d.l.length→L 9004 [(gi:Int),enc d,(d.l.length:Int),(i:Int),x4,x5,x6,x7,x8,x9]=some [3,(gi:Int),enc d,x4,x5,x6,x7,x8,x9]
 | 0,i,hg,hi=>by
   have c1: ¬(i:Int) < (d.l.length:Int):=by omega
   have c0: ¬((i:Int)=(gi:Int)):=by omega
   rw [aT,anZ];simp only [aaQ,zz,c0,c1,fin]
 | j+1,i,hg,hi=>by
   have hl:=h.few;have hil:i < d.l.length:=by omega
   have c1:(i:Int) < (d.l.length:Int):=by omega
   have c2: ¬((i:Int) < 0):=by omega
   have c0: ¬((i:Int)=(gi:Int)):=by omega
   have w:=bC (n:=i) (by omega);have ih:=Sv d h gi x4 x5 x6 x7 x8 x9 j (i+1) (by omega) (by omega);obtain⟨o,c,dn,g,r,v,he,_,_,_,_,hr,hv⟩:=h.wd.thing _ (List.getElem_mem hil);have hs:=set_self h.sh hil;rw [he] at hs;rw [aT,anZ];rcases bG hr with rfl | rfl | ⟨r1,r2⟩ <;> rcases bG hv with rfl | rfl | ⟨v1,v2⟩
   all_goals
    simp only [aaQ,zz,c0,c1,c2,w,aY hil,he,eG,aX,List.getElem?_cons_zero,List.getElem?_cons_succ,TM,TL,hs,len1,len2,oK,iO]
    try simp only [r1,r2,zz]
    try simp only [v1,v2,zz]
    try simp only [fin]
    exact ih
theorem Sr (d:D) (h:Th d) (gi:Nat) (x4 x5 x6 x7 x8 x9:Int): ∀(j i:Nat),gi < i→i+j=d.l.length→L 9005 [(gi:Int),enc d,(d.l.length:Int),(i:Int),x4,x5,x6,x7,x8,x9]=some [4,(gi:Int),enc d,x4,x5,x6,x7,x8,x9]
 | 0,i,hg,hi=>by
   have c1: ¬(i:Int) < (d.l.length:Int):=by omega
   have c0: ¬((i:Int)=(gi:Int)):=by omega
   rw [aT,anY];simp only [aaP,zz,c0,c1,fin]
 | j+1,i,hg,hi=>by
   have hl:=h.few;have hil:i < d.l.length:=by omega
   have c1:(i:Int) < (d.l.length:Int):=by omega
   have c2: ¬((i:Int) < 0):=by omega
   have c0: ¬((i:Int)=(gi:Int)):=by omega
   have w:=bC (n:=i) (by omega);have ih:=Sr d h gi x4 x5 x6 x7 x8 x9 j (i+1) (by omega) (by omega);obtain⟨o,c,dn,g,r,v,he,_,_,_,_,hr,hv⟩:=h.wd.thing _ (List.getElem_mem hil);have hs:=set_self h.sh hil;rw [he] at hs;rw [aT,anY];rcases bG hr with rfl | rfl | ⟨r1,r2⟩ <;> rcases bG hv with rfl | rfl | ⟨v1,v2⟩
   all_goals
    simp only [aaP,zz,c0,c1,c2,w,aY hil,he,eG,aX,List.getElem?_cons_zero,List.getElem?_cons_succ,TM,TL,hs,len1,len2,oK,iO]
    try simp only [r1,r2,zz]
    try simp only [v1,v2,zz]
    try simp only [fin]
    exact ih
theorem Sm (d:D) (h:Th d) (gi:Nat) (x4 x5 x6 x7 x8 x9:Int): ∀(j i:Nat),gi < i→i+j=d.l.length→L 9006 [(gi:Int),enc d,(d.l.length:Int),(i:Int),x4,x5,x6,x7,x8,x9]=some [5,(gi:Int),enc d,x4,x5,x6,x7,x8,x9]
 | 0,i,hg,hi=>by
   have c1: ¬(i:Int) < (d.l.length:Int):=by omega
   have c0: ¬((i:Int)=(gi:Int)):=by omega
   rw [aT,anX];simp only [aaO,zz,c0,c1,fin]
 | j+1,i,hg,hi=>by
   have hl:=h.few;have hil:i < d.l.length:=by omega
   have c1:(i:Int) < (d.l.length:Int):=by omega
   have c2: ¬((i:Int) < 0):=by omega
   have c0: ¬((i:Int)=(gi:Int)):=by omega
   have w:=bC (n:=i) (by omega);have ih:=Sm d h gi x4 x5 x6 x7 x8 x9 j (i+1) (by omega) (by omega);obtain⟨o,c,dn,g,r,v,he,_,_,_,_,hr,hv⟩:=h.wd.thing _ (List.getElem_mem hil);have hs:=set_self h.sh hil;rw [he] at hs;rw [aT,anX];rcases bG hr with rfl | rfl | ⟨r1,r2⟩ <;> rcases bG hv with rfl | rfl | ⟨v1,v2⟩
   all_goals
    simp only [aaO,zz,c0,c1,c2,w,aY hil,he,eG,aX,List.getElem?_cons_zero,List.getElem?_cons_succ,TM,TL,hs,len1,len2,oK,iO]
    try simp only [r1,r2,zz]
    try simp only [v1,v2,zz]
    try simp only [fin]
    exact ih
theorem Sl (d:D) (h:Th d) (gi:Nat) (x4 x5 x6 x7 x8 x9:Int): ∀(j i:Nat),gi < i→i+j=d.l.length→L 9007 [(gi:Int),enc d,(d.l.length:Int),(i:Int),x4,x5,x6,x7,x8,x9]=some [6,(gi:Int),enc d,x4,x5,x6,x7,x8,x9]
 | 0,i,hg,hi=>by
   have c1: ¬(i:Int) < (d.l.length:Int):=by omega
   have c0: ¬((i:Int)=(gi:Int)):=by omega
   rw [aT,anW];simp only [aaN,zz,c0,c1,fin]
 | j+1,i,hg,hi=>by
   have hl:=h.few;have hil:i < d.l.length:=by omega
   have c1:(i:Int) < (d.l.length:Int):=by omega
   have c2: ¬((i:Int) < 0):=by omega
   have c0: ¬((i:Int)=(gi:Int)):=by omega
   have w:=bC (n:=i) (by omega);have ih:=Sl d h gi x4 x5 x6 x7 x8 x9 j (i+1) (by omega) (by omega);obtain⟨o,c,dn,g,r,v,he,_,_,_,_,hr,hv⟩:=h.wd.thing _ (List.getElem_mem hil);have hs:=set_self h.sh hil;rw [he] at hs;rw [aT,anW];rcases bG hr with rfl | rfl | ⟨r1,r2⟩ <;> rcases bG hv with rfl | rfl | ⟨v1,v2⟩
   all_goals
    simp only [aaN,zz,c0,c1,c2,w,aY hil,he,eG,aX,List.getElem?_cons_zero,List.getElem?_cons_succ,TM,TL,hs,len1,len2,oK,iO]
    try simp only [r1,r2,zz]
    try simp only [v1,v2,zz]
    try simp only [fin]
    exact ih
def pF (r v:D):Int:=if 0 < r.l.length then (if 0 < v.l.length then 3 else 4) else (if 0 < v.l.length then 5 else 6)
theorem aAd (d:D) (h:Th d) (gi:Nat) (hgi:gi < d.l.length) (o c dn g:Int) (r v:D) (he':d.l[gi]=dL [.i o,.i c,.i dn,.i g,r,v]): ∀(j i:Nat),i≤gi→i+j=gi→
 L 9001 [(gi:Int),enc d,(d.l.length:Int),(i:Int)]=some [pF r v,(gi:Int),enc d,o,c,dn,g,enc r,enc v]
 | 0,i,hg,hi=>by
   obtain rfl:i=gi:=by omega
   have hl:=h.few;have c1:(i:Int) < (d.l.length:Int):=by omega
   have c2: ¬((i:Int) < 0):=by omega
   have w:=bC (n:=i) (by omega);obtain⟨o',c',dn',g',r',v',he,_,_,_,_,hr,hv⟩:=h.wd.thing _ (List.getElem_mem hgi);rw [he'] at he;have he:=Oz he;simp only [List.cons.injEq,D.i.injEq,and_true] at he;obtain⟨rfl,rfl,rfl,rfl,rfl,rfl⟩:=he;have b4:=fun a b=>Sv d h i o c dn g a b (d.l.length - (i+1)) (i+1) (by omega) (by omega);have b5:=fun a b=>Sr d h i o c dn g a b (d.l.length - (i+1)) (i+1) (by omega) (by omega);have b6:=fun a b=>Sm d h i o c dn g a b (d.l.length - (i+1)) (i+1) (by omega) (by omega);have b7:=fun a b=>Sl d h i o c dn g a b (d.l.length - (i+1)) (i+1) (by omega) (by omega);rw [aT,Xo];rcases bG hr with rfl | rfl | ⟨r1,r2⟩
   ·rcases bG hv with rfl | rfl | ⟨v1,v2⟩
    ·simp only [uX,zz,c1,c2,w,aY hgi,he',eG,aX,List.getElem?_cons_zero,List.getElem?_cons_succ,len1,oK,fin,b7];rw [pF,if_neg (by simp [D.l]),if_neg (by simp [D.l])]
    ·simp only [uX,zz,c1,c2,w,aY hgi,he',eG,aX,List.getElem?_cons_zero,List.getElem?_cons_succ,len1,oK,len2,iO,fin,b7];rw [pF,if_neg (by simp [D.l]),if_neg (by simp [D.l])]
    ·simp only [uX,zz,c1,c2,w,aY hgi,he',eG,aX,List.getElem?_cons_zero,List.getElem?_cons_succ,len1,oK,v1,v2,fin,b6];rw [pF,if_neg (by simp [D.l]),if_pos (by omega)]
   ·rcases bG hv with rfl | rfl | ⟨v1,v2⟩
    ·simp only [uX,zz,c1,c2,w,aY hgi,he',eG,aX,List.getElem?_cons_zero,List.getElem?_cons_succ,len2,oK,iO,len1,fin,b7];rw [pF,if_neg (by simp [D.l]),if_neg (by simp [D.l])]
    ·simp only [uX,zz,c1,c2,w,aY hgi,he',eG,aX,List.getElem?_cons_zero,List.getElem?_cons_succ,len2,oK,iO,fin,b7];rw [pF,if_neg (by simp [D.l]),if_neg (by simp [D.l])]
    ·simp only [uX,zz,c1,c2,w,aY hgi,he',eG,aX,List.getElem?_cons_zero,List.getElem?_cons_succ,len2,oK,iO,v1,v2,fin,b6];rw [pF,if_neg (by simp [D.l]),if_pos (by omega)]
   ·rcases bG hv with rfl | rfl | ⟨v1,v2⟩
    ·simp only [uX,zz,c1,c2,w,aY hgi,he',eG,aX,List.getElem?_cons_zero,List.getElem?_cons_succ,r1,r2,len1,oK,fin,b5];rw [pF,if_pos (by omega),if_neg (by simp [D.l])]
    ·simp only [uX,zz,c1,c2,w,aY hgi,he',eG,aX,List.getElem?_cons_zero,List.getElem?_cons_succ,r1,r2,len2,oK,iO,fin,b5];rw [pF,if_pos (by omega),if_neg (by simp [D.l])]
    ·simp only [uX,zz,c1,c2,w,aY hgi,he',eG,aX,List.getElem?_cons_zero,List.getElem?_cons_succ,r1,r2,v1,v2,fin,b4];rw [pF,if_pos (by omega),if_pos (by omega)]
 | j+1,i,hg,hi=>by
   have hl:=h.few;have hil:i < d.l.length:=by omega
   have c1:(i:Int) < (d.l.length:Int):=by omega
   have c2: ¬((i:Int) < 0):=by omega
   have c0: ¬((i:Int)=(gi:Int)):=by omega
   have w:=bC (n:=i) (by omega);have ih:=aAd d h gi hgi o c dn g r v he' j (i+1) (by omega) (by omega);clear he';obtain⟨o2,c2',dn2,g2,r2',v2',he,_,_,_,_,hr,hv⟩:=h.wd.thing _ (List.getElem_mem hil);have hs:=set_self h.sh hil;rw [he] at hs;rw [aT,Xo];rcases bG hr with rfl | rfl | ⟨r1,r2⟩ <;> rcases bG hv with rfl | rfl | ⟨v1,v2⟩
   all_goals
    simp only [uX,zz,c0,c1,c2,w,aY hil,he,eG,aX,List.getElem?_cons_zero,List.getElem?_cons_succ,TM,TL,hs,len1,len2,oK,iO]
    try simp only [r1,r2,zz]
    try simp only [v1,v2,zz]
    try simp only [fin]
    exact ih
theorem aAc (d:D) (h:Th d) (gi:Nat) (hgi:gi < d.l.length) (o c dn g:Int) (r v:D) (he':d.l[gi]=dL [.i o,.i c,.i dn,.i g,r,v]) :
 L 9000 [(gi:Int),enc d]=some [pF r v,(gi:Int),enc d,o,c,dn,g,enc r,enc v]:=by
 have hl:=h.few;have c1:(0:Int) < (d.l.length:Int):=by omega
 have c2:(d.l.length:Int) < 1759218604441:=by omega
 rw [aT,aoA];simp only [Pz,zz,c1,c2,fin];exact aAd d h gi hgi o c dn g r v he' gi 0 (by omega) (by omega)
theorem OC (d:D) (h:Th d) (x:Int) (hx:x < 0∨(d.l.length:Int)≤x): ∀(j i:Nat),i+j=d.l.length→L 9001 [x,enc d,(d.l.length:Int),(i:Int)]=some [0,x,enc d]
 | 0,i,hi=>by
   have c1: ¬(i:Int) < (d.l.length:Int):=by omega
   rw [aT,Xo];by_cases c0:(i:Int)=x
   ·simp only [uX,zz,c0,fin];have c1: ¬x < (d.l.length:Int):=by omega
    simp only [if_neg c1]
   ·simp only [uX,zz,c0,c1,fin]
 | j+1,i,hi=>by
   have hl:=h.few;have hil:i < d.l.length:=by omega
   have c1:(i:Int) < (d.l.length:Int):=by omega
   have c2: ¬((i:Int) < 0):=by omega
   have c0: ¬((i:Int)=x):=by omega
   have w:=bC (n:=i) (by omega);have ih:=OC d h x hx j (i+1) (by omega);obtain⟨o,c,dn,g,r,v,he,_,_,_,_,hr,hv⟩:=h.wd.thing _ (List.getElem_mem hil);have hs:=set_self h.sh hil;rw [he] at hs;rw [aT,Xo];rcases bG hr with rfl | rfl | ⟨r1,r2⟩ <;> rcases bG hv with rfl | rfl | ⟨v1,v2⟩
   all_goals
    simp only [uX,zz,c0,c1,c2,w,aY hil,he,eG,aX,List.getElem?_cons_zero,List.getElem?_cons_succ,TM,TL,hs,len1,len2,oK,iO]
    try simp only [r1,r2,zz]
    try simp only [v1,v2,zz]
    try simp only [fin]
    exact ih
theorem copyN (d:D) (h:Wd (.sl 7) d) (x:Int) (hx:x < 0∨(d.l.length:Int)≤x):Tot 9000 [x,enc d] (fun ys=>ys= [0,x,enc d]∨(ys= [1,x]∧d= .i 1)∨(ys= [2,x]∧d= .i 2)):=by
 refine Tot.of ?_;rw [aoA];rcases h.sh with rfl | rfl | ⟨h1,h2⟩
 ·simp only [Pz,zz,len1,oK];refine .jump (Tot.of ?_);rw [ayM];simp only [aiH,zz];exact .ite (fun _=> .out (.inr (.inl rfl))) fun _=> .out (.inr (.inl rfl))
 ·simp only [Pz,zz,len2,oK,iO];refine .jump (Tot.of ?_);rw [ayL];simp only [aiG,zz];exact .ite (fun _=> .out (.inr (.inr rfl))) fun _=> .out (.inr (.inr rfl))
 ·have hp:=List.length_pos_iff.2 h2;have ht:=E8 h hp;have hl:=ht.few;have c1:(0:Int) < (d.l.length:Int):=by omega
  have c2:(d.l.length:Int) < 1759218604441:=by omega
  simp only [Pz,zz,c1,c2];exact .jump ⟨_,OC d ht x hx d.l.length 0 (by omega),.inl rfl⟩
end Go.As.Try
end
section
namespace Go.As.Try
open Go hiding Stat Spec shape
open Go.As
set_option maxRecDepth 100000
def asX (d x:D) (m:Nat):List Int:=[(d.hd 0).n,enc (d.hd 1),(d.hd 2).n,enc (d.hd 3),(d.hd 4).n,(x.hd 0).n,(x.hd 1).n,(if (x.hd 2).n=0 then 0 else 1),(x.hd 3).n,enc (x.hd 4),enc (x.hd 5),(m:Int)]
def Snd (d x:D) (m:Nat):Prop:=L 500 (asX d x m)=some [1]
theorem asW (d x:D) (m:Nat) (h:(x.hd 4).l.length≤140737488351232): ∃c,L 500 (asX d x m)=some [c]∧(c=0∨c=1):=by obtain⟨ys,h1,c,rfl,hc⟩:=YK (d.hd 0).n (enc (d.hd 1)) (d.hd 2).n (enc (d.hd 3)) (d.hd 4).n (x.hd 0).n (x.hd 1).n (if (x.hd 2).n=0 then 0 else 1) (x.hd 3).n (m:Int) (x.hd 4) (x.hd 5) h;exact⟨c,h1,hc⟩
theorem aA:((1:Int)=0)=False:=by simp
def Es (s:D):Prop:= ∀x∈s.l,(x.hd 4).l.length≤140737488351232
section
variable {d0 d1 s:D} (hr:Es s) (hle:s.l.length=d0.l.length) (hlen:d0.l.length≤140737488351232)
include hr hle hlen
theorem Me: ∀(j i:Nat),i+j=s.l.length→∃b:Int,L 351 [enc s,(s.l.length:Int),(i:Int),enc d0,enc d1]=some [b]∧(b=0∨b=1)∧
 (b=1↔∀(k:Nat) (hk:k < s.l.length),i≤k→Snd (d0.l[k]'(hle▸hk)) s.l[k] d1.l.length)
 | 0,i,hi=>by
   have c1: ¬(i:Int) < (s.l.length:Int):=by omega
   refine⟨1,?_,.inr rfl,fun _ k hk h=>absurd hk (by omega),fun _=>rfl⟩;rw [aT,avV];simp only [Yl,zz,c1,fin]
 | j+1,i,hi=>by
   have hil:i < s.l.length:=by omega
   have hid:i < d0.l.length:=by omega
   have c1:(i:Int) < (s.l.length:Int):=by omega
   have c2: ¬((i:Int) < 0):=by omega
   have c3:(i:Int) < (d0.l.length:Int):=by omega
   have w:=bC (n:=i) (by omega);obtain⟨c,hS,hc⟩:=asW d0.l[i] s.l[i] d1.l.length (hr _ (List.getElem_mem hil));obtain⟨b,hb1,hb2,ih⟩:=Me j (i+1) (by omega);have hS':=hS;unfold asX at hS;by_cases hc0:c=0
   ·subst hc0;refine⟨0,?_,.inl rfl,fun h=>absurd h (by omega),fun h=>?_⟩
    ·rw [aT,avV];by_cases hn:((s.l[i]).hd 2).n=0
     ·rw [if_pos hn] at hS;simp only [Yl,zz,c1,c2,c3,w,aY hil,aY hid,hn,hS,fin]
     ·rw [if_neg hn] at hS;simp only [Yl,zz,c1,c2,c3,w,aY hil,aY hid,hn,hS,fin]
    ·have:=h i hil (Nat.le_refl i);unfold Snd at this;rw [hS'] at this;simp at this
   ·have hc1:c=1:=by omega
    subst hc1;refine⟨b,?_,hb2,fun h k hk hik=>?_,fun h=>ih.2 fun k hk hik=>h k hk (by omega)⟩
    ·rw [aT,avV];by_cases hn:((s.l[i]).hd 2).n=0
     ·rw [if_pos hn] at hS;simp only [Yl,zz,c1,c2,c3,w,aY hil,aY hid,hn,hS,fin,aA,hb1]
     ·rw [if_neg hn] at hS;simp only [Yl,zz,c1,c2,c3,w,aY hil,aY hid,hn,hS,fin,aA,hb1]
    ·by_cases hke:k=i
     ·subst hke;exact hS'
     ·exact ih.1 h k hk (by omega)
end
theorem qZ {d0 d1 s:D} (h0:Wd (.sl 3) d0) (h1:Wd (.sl 4) d1) (hr:Es s): ∃b:Int,L 350 [enc d0,enc d1,enc s]=some [b]∧(b=0∨b=1)∧
 (b=1↔L 450 [enc d0,enc d1]=some [0]∧∃hle:s.l.length=d0.l.length,∀(k:Nat) (hk:k < s.l.length),Snd (d0.l[k]'(hle▸hk)) s.l[k] d1.l.length):=by
 obtain⟨ys,hC,c,rfl,hc,hok⟩:=Dz h0 h1;by_cases hc0:c=0
 ·subst hc0;by_cases hl:s.l.length=d0.l.length
  ·have hlen:=h0.len;obtain⟨b,hb1,hb2,hb3⟩:=Me (d1:=d1) hr hl hlen s.l.length 0 (by omega);refine⟨b,?_,hb2,fun h=> ⟨hC,hl,fun k hk=>hb3.1 h k hk (by omega)⟩,fun⟨_,_,h⟩=>hb3.2 fun k hk _=>h k hk⟩;have hl':(s.l.length:Int)=(d0.l.length:Int):=by omega
   rw [aT,avW,ajA,dQ,if_pos,dQ,if_pos,dQ,if_pos,oJ]
   ·simp only [List.map,bP,gY,iP,aW,Nat.reduceLT,aN,aP,aF,fin];exact hb1
   ·simp only [iL,oV,bP,gJ,iI,gY,List.map,iP,aW,Nat.reduceLT,aN,aP,aF];exact hl'
   ·simp only [iL,oV,bP,gJ,iI,gY,List.map,iP,aW,Nat.reduceLT,aN,aP,aF];rw [hC];simp only [aN,aP,Option.isSome_some,Option.getD_some,if_true]
   ·simp only [iL,oV,bP,gJ,iI,gY,List.map,iP,aW,Nat.reduceLT,aN,aP,aF];rw [hC];simp only [aN,aP,Option.isSome_some,Option.getD_some,if_true]
  ·refine⟨0,?_,.inl rfl,fun h=>absurd h (by omega),fun⟨_,h,_⟩=>absurd h hl⟩;have hl': ¬(s.l.length:Int)=(d0.l.length:Int):=by omega
   rw [aT,avW,ajA,dQ,if_pos,dQ,if_pos,dQ,if_neg]
   ·simp only [jR,List.map,bP,fin]
   ·simp only [iL,oV,bP,gJ,iI,gY,List.map,iP,aW,Nat.reduceLT,aN,aP,aF];exact hl'
   ·simp only [iL,oV,bP,gJ,iI,gY,List.map,iP,aW,Nat.reduceLT,aN,aP,aF];rw [hC];simp only [aN,aP,Option.isSome_some,Option.getD_some,if_true]
   ·simp only [iL,oV,bP,gJ,iI,gY,List.map,iP,aW,Nat.reduceLT,aN,aP,aF];rw [hC];simp only [aN,aP,Option.isSome_some,Option.getD_some,if_true]
 ·refine⟨0,?_,.inl rfl,fun h=>absurd h (by omega),fun⟨h,_⟩=>?_⟩
  ·rw [aT,avW,ajA,dQ,if_pos,dQ,if_neg]
   ·simp only [jR,List.map,bP,fin]
   ·simp only [iL,oV,bP,gJ,iI,gY,List.map,iP,aW,Nat.reduceLT,aN,aP,aF];rw [hC];simp only [aN,aP,Option.isSome_some,Option.getD_some,if_true];exact hc0
   ·simp only [iL,oV,bP,gJ,iI,gY,List.map,iP,aW,Nat.reduceLT,aN,aP,aF];rw [hC];simp only [aN,aP,Option.isSome_some,Option.getD_some,if_true]
  ·rw [hC] at h;simp at h;exact absurd h hc0
end Go.As.Try
end
section
namespace Go.As.Try
open Go hiding Stat Spec shape
open Go.As
set_option maxRecDepth 100000
def OkT (d0:D) (nl nc:Nat) (a:Int) (ll:Nat) (w o g t:Int):Prop:=
 0≤a∧a≤(nc:Int)∧(ll:Int)=(nl:Int)∧0≤t∧t≤4611686018427387904∧
  (w=0∧o=0∧g=0∨w=24∧0≤o∧o < (d0.l.length:Int)∧((d0.at o).hd 0).n=4∨w=25∧0≤o∧o < (d0.l.length:Int)∧((d0.at o).hd 0).n=5)
def isB (p:Prop) (ys:List Int):Prop:= ∃b:Int,ys= [b]∧(b=0∧¬p∨b=1∧p)
theorem Aq {p:Prop} (h: ¬p):isB p [0]:=⟨0,rfl,.inl ⟨rfl,h⟩⟩
theorem WC {p:Prop} (h:p):isB p [1]:=⟨1,rfl,.inr ⟨rfl,h⟩⟩
theorem asB (d0 d3 d4 d6:D) (x1 x2 x5 x7 x8 x9 x10:Int):Tot 1600 [enc d0,x1,x2,enc d3,enc d4,x5,enc d6,x7,x8,x9,x10] (isB (OkT d0 d3.l.length d4.l.length x5 d6.l.length x7 x8 x9 x10)):=by
 unfold OkT;refine Tot.of ?_;rw [azO];simp only [ajH,zz]
 repeat' first
  | exact .out (Aq (by omega))
  | exact .out (WC (by omega))
  | refine .ite (fun _=>?_) (fun _=>?_)
def OkK (d0 x k:D):Prop:=OkT d0 (x.hd 1).l.length (x.hd 2).l.length (k.hd 0).n (k.hd 1).l.length (k.hd 2).n (k.hd 3).n (k.hd 4).n (k.hd 5).n
section
variable {d0 d1 k:D} (hle:k.l.length=d1.l.length) (hlen:d1.l.length≤140737488351232)
include hle hlen
theorem Jt: ∀(j i:Nat),i+j=k.l.length→Tot 1501 [enc k,(k.l.length:Int),(i:Int),enc d0,enc d1] (isB (∀(n:Nat) (hn:n < k.l.length),i≤n→OkK d0 (d1.l[n]'(hle▸hn)) k.l[n]))
 | 0,i,hi=>by
   have c1: ¬(i:Int) < (k.l.length:Int):=by omega
   refine Tot.of ?_;rw [aoX];simp only [abE,zz,c1];exact .out (WC fun n hn h=>by omega)
 | j+1,i,hi=>by
   have hil:i < k.l.length:=by omega
   have hid:i < d1.l.length:=by omega
   have c1:(i:Int) < (k.l.length:Int):=by omega
   have c2: ¬((i:Int) < 0):=by omega
   have c3:(i:Int) < (d1.l.length:Int):=by omega
   have w:=bC (n:=i) (by omega);obtain⟨ys,hT,b,rfl,hb⟩:=asB d0 ((d1.l[i]).hd 1) ((d1.l[i]).hd 2) ((k.l[i]).hd 1) (enc d1) (enc ((d1.l[i]).hd 0)) ((k.l[i]).hd 0).n ((k.l[i]).hd 2).n ((k.l[i]).hd 3).n ((k.l[i]).hd 4).n ((k.l[i]).hd 5).n;obtain⟨ys,ih,b',rfl,hb'⟩:=Jt j (i+1) (by omega);refine Tot.of ?_;rw [aoX];simp only [abE,zz,c1,c2,c3,aY hil,aY hid,w,hT];refine .ite (fun h0=> .out (Aq fun h=>?_)) (fun h0=> .jump ⟨_,ih,b',rfl,?_⟩)
   ·rcases hb with ⟨_,hb⟩ | ⟨hb,_⟩
    ·exact hb (h i hil (Nat.le_refl _))
    ·omega
   ·rcases hb with ⟨hb,_⟩ | ⟨_,hb⟩
    ·exact absurd hb h0
    ·rcases hb' with ⟨q,hb'⟩ | ⟨q,hb'⟩
     ·exact .inl ⟨q,fun h=>hb' fun n hn hni=>h n hn (by omega)⟩
     ·refine .inr ⟨q,fun n hn hni=>?_⟩;by_cases he:n=i
      ·subst he; exact hb
      ·exact hb' n hn (by omega)
end
def MR (d0 d1 s k:D):Prop:=L 350 [enc d0,enc d1,enc s]=some [1]∧∃hle:k.l.length=d1.l.length,∀(n:Nat) (hn:n < k.l.length),OkK d0 (d1.l[n]'(hle▸hn)) k.l[n]
theorem QU {d0 d1 s k:D} (h0:Wd (.sl 3) d0) (h1:Wd (.sl 4) d1) (hr:Es s) (hlen:d1.l.length≤140737488351232):Tot 1500 [enc d0,enc d1,enc s,enc k] (isB (MR d0 d1 s k)):=by
 obtain⟨b,hb,hb1,_⟩:=qZ h0 h1 hr;refine Tot.of ?_;rw [azQ];simp only [ajJ,zz,hb];refine .ite (fun h=> .out (Aq fun q=>?_)) (fun h=> .ite (fun hl=>?_) (fun hl=> .out (Aq fun q=>?_)))
 ·have:=q.1;rw [hb] at this;simp at this;omega
 ·have hle:k.l.length=d1.l.length:=by omega
  obtain⟨ys,hL,b',rfl,hb'⟩:=Jt (d0:=d0) hle hlen k.l.length 0 (by omega);refine .jump ⟨_,hL,b',rfl,?_⟩;have hone:b=1:=by omega
  subst hone;rcases hb' with ⟨q,hb'⟩ | ⟨q,hb'⟩
  ·exact .inl ⟨q,fun h=>hb' fun n hn _=>h.2.2 n hn⟩
  ·exact .inr ⟨q,hb,hle,fun n hn=>hb' n hn (Nat.zero_le _)⟩
 ·have:=q.2.1;omega
theorem MB {d0 d1 s k:D} (h0:Wd (.sl 3) d0) (h1:Wd (.sl 4) d1) (hr:Es s) (hlen:d1.l.length≤140737488351232) (t:Int):Tot 1550 [enc d0,enc d1,enc s,enc k,t] (isB (0≤t∧t < (d1.l.length:Int)∧MR d0 d1 s k)):=by
 obtain⟨ys,hM,b,rfl,hb⟩:=QU h0 h1 hr hlen (k:=k);refine Tot.of ?_;rw [azP];simp only [ajI,zz,hM];refine .ite (fun h=> .out (Aq fun q=>by omega)) (fun h=> .ite (fun h2=> .ite (fun h3=> .out (Aq fun q=>?_)) (fun h3=> .out (WC ?_))) (fun h2=> .out (Aq fun q=>by omega)))
 ·rcases hb with ⟨_,hb⟩ | ⟨hb,_⟩
  ·exact hb q.2.2
  ·omega
 ·rcases hb with ⟨hb,_⟩ | ⟨_,hb⟩
  ·exact absurd hb h3
  ·exact⟨by omega,h2,hb⟩
end Go.As.Try
end
section
namespace Go.As.Try
open Go hiding Stat Spec shape
open Go.As
set_option maxRecDepth 100000
def firstAt (t:Int):List D→Nat→Int
 | [],_=> -1
 | x :: l,i=>if x.n=t then (i:Int) else firstAt t l (i+1)
def place (r:D) (t:Int):Int:=firstAt t r.l 0
def wo (t:Int) (l:List D):List D:=l.filter fun x=>decide (x.n≠t)
theorem D9 (t:Int): ∀(l:List D) (i:Nat),(firstAt t l i= -1∧∀x∈l,x.n≠t)∨∃(k:Nat) (h:k < l.length),firstAt t l i=((i+k:Nat):Int)∧(l[k]).n=t∧∀x∈l.take k,x.n≠t
 | [],_=> .inl ⟨rfl,fun x h=>absurd h (by simp)⟩
 | x :: l,i=>by
   unfold firstAt;by_cases hx:x.n=t
   ·rw [if_pos hx];exact .inr ⟨0,by simp,by simp,hx,by simp⟩
   ·rw [if_neg hx];rcases D9 t l (i+1) with ⟨h1,h2⟩ | ⟨k,hk,h1,h2,h3⟩
    ·exact .inl ⟨h1,fun y hy=>by rcases List.mem_cons.1 hy with rfl | hy; exact hx; exact h2 y hy⟩
    ·refine .inr ⟨k+1,by simp; omega,by rw [h1]; congr 1; omega,by simpa using h2,fun y hy=>?_⟩;rw [List.take_succ_cons] at hy;rcases List.mem_cons.1 hy with rfl | hy
     ·exact hx
     ·exact h3 y hy
theorem vY (r:D) (t:Int):(place r t= -1∧∀x∈r.l,x.n≠t)∨∃(k:Nat) (h:k < r.l.length),place r t=(k:Int)∧(r.l[k]).n=t∧∀x∈r.l.take k,x.n≠t:=by have:=D9 t r.l 0;simp only [Nat.zero_add] at this;exact this
theorem iU (r:D) (t:Int): -1≤place r t∧place r t < (r.l.length:Int):=by rcases vY r t with ⟨h,_⟩ | ⟨k,hk,h,_⟩ <;> rw [h] <;> omega
theorem J8 {t:Int} {l:List D} (h: ∀x∈l,x.n≠t):wo t l=l:=List.filter_eq_self.2 fun x hx=>by simpa using h x hx
theorem zT {r:D} {t:Int} {i:Nat} (h:i < r.l.length):firstAt t (r.l.drop i) i=if (r.at (i:Int)).n=t then (i:Int) else firstAt t (r.l.drop (i+1)) (i+1):=by rw [List.drop_eq_getElem_cons h,aY h];rfl
theorem amF (r:D) (t:Int) (hl:r.l.length≤140737488351232): ∀(j i:Nat),i+j=r.l.length→L 851 [enc r,t,(r.l.length:Int),(i:Int)]=some [firstAt t (r.l.drop i) i]
 | 0,i,hi=>by
   have c1: ¬(i:Int) < (r.l.length:Int):=by omega
   rw [List.drop_of_length_le (by omega),aT,aCe];simp only [aiI,zz,c1,fin,firstAt]
 | j+1,i,hi=>by
   have c1:(i:Int) < (r.l.length:Int):=by omega
   have c2: ¬((i:Int) < 0):=by omega
   have w:=bC (n:=i) (by omega);have ih:=amF r t hl j (i+1) (by omega);rw [zT (by omega),aT,aCe];by_cases he:(r.at (i:Int)).n=t
   ·simp only [aiI,zz,c1,c2,he,fin]
   ·have he': ¬t=(r.at (i:Int)).n:=fun h=>he h.symm;simp only [aiI,zz,c1,c2,if_neg he,if_neg he',w,fin,ih]
theorem dK (r:D) (t:Int) (hl:r.l.length≤140737488351232):L 850 [enc r,t]=some [place r t]:=by have h:=amF r t hl r.l.length 0 (by omega);rw [aT,aEt];simp only [aAB,zz,fin];exact h
theorem has_is (r:D) (t:Int) (hl:r.l.length≤140737488351232):L 900 [enc r,t]=some [if place r t < 0 then 0 else 1]:=by rw [aT,aEs];simp only [aAA,zz,dK r t hl];split <;> rfl
theorem F6 (r:D) (t:Int) (hl:r.l.length≤140737488351232) (y2 y3 y4 y5 y6 y7 y8 y9 qJ qI qH:Int): ∀(j i:Nat),i+j=r.l.length→
 L 12051 [enc r,t,y2,y3,y4,y5,y6,y7,y8,y9,qJ,qI,qH,(r.l.length:Int),(i:Int)]=some [0,enc r,t,y2,y3,y4,y5,y6,y7,y8,y9,qJ,qI,qH,firstAt t (r.l.drop i) i]
 | 0,i,hi=>by
   have c1: ¬(i:Int) < (r.l.length:Int):=by omega
   rw [List.drop_of_length_le (by omega),aT,ZP];simp only [LK,zz,c1,fin,firstAt]
 | j+1,i,hi=>by
   have c1:(i:Int) < (r.l.length:Int):=by omega
   have c2: ¬((i:Int) < 0):=by omega
   have w:=bC (n:=i) (by omega);have ih:=F6 r t hl y2 y3 y4 y5 y6 y7 y8 y9 qJ qI qH j (i+1) (by omega);rw [zT (by omega),aT,ZP];by_cases he:(r.at (i:Int)).n=t
   ·simp only [LK,zz,c1,c2,he,fin]
   ·simp only [LK,zz,c1,c2,if_neg he,w,fin,ih]
theorem auC (r:D) (t:Int) (hl:r.l.length≤140737488351232) (y2 y3 y4 y5 y6 y7 y8 y9 qJ qI qH:Int):L 12050 [enc r,t,y2,y3,y4,y5,y6,y7,y8,y9,qJ,qI,qH]=some [0,enc r,t,y2,y3,y4,y5,y6,y7,y8,y9,qJ,qI,qH,place r t]:=by have h:=F6 r t hl y2 y3 y4 y5 y6 y7 y8 y9 qJ qI qH r.l.length 0 (by omega);rw [aT,aqA];simp only [YE,zz,fin];exact h
theorem F5 (r:D) (t:Int) (hl:r.l.length≤140737488351232) (y2 y3 y4 y5 y6 y7 y8 y9 qJ qI qH:Int): ∀(j i:Nat),i+j=r.l.length→
 L 12151 [enc r,t,y2,y3,y4,y5,y6,y7,y8,y9,qJ,qI,qH,(r.l.length:Int),(i:Int)]=some [0,enc r,t,y2,y3,y4,y5,y6,y7,y8,y9,qJ,qI,qH,firstAt t (r.l.drop i) i]
 | 0,i,hi=>by
   have c1: ¬(i:Int) < (r.l.length:Int):=by omega
   rw [List.drop_of_length_le (by omega),aT,ZN];simp only [LH,zz,c1,fin,firstAt]
 | j+1,i,hi=>by
   have c1:(i:Int) < (r.l.length:Int):=by omega
   have c2: ¬((i:Int) < 0):=by omega
   have w:=bC (n:=i) (by omega);have ih:=F5 r t hl y2 y3 y4 y5 y6 y7 y8 y9 qJ qI qH j (i+1) (by omega);rw [zT (by omega),aT,ZN];by_cases he:(r.at (i:Int)).n=t
   ·simp only [LH,zz,c1,c2,he,fin]
   ·simp only [LH,zz,c1,c2,if_neg he,w,fin,ih]
theorem auB (r:D) (t:Int) (hl:r.l.length≤140737488351232) (y2 y3 y4 y5 y6 y7 y8 y9 qJ qI qH:Int):L 12150 [enc r,t,y2,y3,y4,y5,y6,y7,y8,y9,qJ,qI,qH]=some [0,enc r,t,y2,y3,y4,y5,y6,y7,y8,y9,qJ,qI,qH,place r t]:=by have h:=F5 r t hl y2 y3 y4 y5 y6 y7 y8 y9 qJ qI qH r.l.length 0 (by omega);rw [aT,apZ];simp only [YD,zz,fin];exact h
theorem CG {t:Int} {l:List D} {j:Nat} (h:j < l.length):wo t (l.take (j+1))=if (l[j]).n=t then wo t (l.take j) else wo t (l.take j)++ [l[j]]:=by
 unfold wo;rw [List.take_succ_eq_append_getElem h,List.filter_append];by_cases he:(l[j]).n=t
 ·simp [he]
 ·simp [he]
theorem ahK (t:Int) (l:List D):(wo t l).length≤l.length:=List.length_filter_le _ _
theorem Ae (r0:D) (t:Int) (l0:List D) (hl:l0.length≤140737488351232) (hn: ∀x∈l0,x= .i x.n) (y2 y3 y4 y5 y6 y7 y8 y9 qJ qI qH:Int): ∀(m i j:Nat) (r:D),r.l.length=l0.length→i < j→j+m=l0.length→r.l.drop j=l0.drop j→r.l.take i=wo t (l0.take j)→
 ∃(n:Nat) (r':D),n < l0.length∧r'.l.length=l0.length∧r'.l.take n=wo t l0∧L 12001 [enc r0,t,y2,y3,y4,y5,y6,y7,y8,y9,qJ,qI,qH,enc r,(i:Int),(j:Int)]=some [1,enc r0,t,y2,y3,y4,y5,y6,y7,y8,y9,qJ,qI,qH,(n:Int),enc r',(l0.length:Int)]
 | 0,i,j,r,hr,h1,h2,h3,h4=>by
   have c1: ¬(j:Int) < (l0.length:Int):=by omega
   have c2: ¬((i:Int) < 0):=by omega
   have c3: ¬((l0.length:Int) < (i:Int)):=by omega
   have c4: ¬((l0.length:Int) - (i:Int) < 0):=by omega
   have c5:(i:Int)+((l0.length:Int) - (i:Int))=(l0.length:Int):=by omega
   refine⟨i,dL (r.l.take i++List.replicate (r.l.length - i) (.i 0)),by omega,by rw [aX]; simp only [List.length_append,List.length_take,List.length_replicate]; omega,?_,?_⟩
   ·rw [aX,List.take_append_of_le_length (by rw [List.length_take]; omega),List.take_take,Nat.min_self,h4,List.take_of_length_le (by omega)]
   ·rw [aT,U6];simp only [LM,zz,c1,c2,c3,c4,c5,Int.toNat_natCast,fin,hr]
 | m+1,i,j,r,hr,h1,h2,h3,h4=>by
   have c1:(j:Int) < (l0.length:Int):=by omega
   have c2: ¬((j:Int) < 0):=by omega
   have w:=bC (n:=j) (by omega);have hj:j < r.l.length:=by omega
   have hj0:j < l0.length:=by omega
   have hx:r.at (j:Int)=l0[j]:=by rw [aY hj];rw [List.drop_eq_getElem_cons hj,List.drop_eq_getElem_cons hj0] at h3;exact (List.cons.inj h3).1
   have h3':r.l.drop (j+1)=l0.drop (j+1):=by rw [List.drop_eq_getElem_cons hj,List.drop_eq_getElem_cons hj0] at h3;exact (List.cons.inj h3).2
   by_cases he:(r.at (j:Int)).n=t
   ·obtain⟨n,r',q1,q2,q3,ih⟩:=Ae r0 t l0 hl hn y2 y3 y4 y5 y6 y7 y8 y9 qJ qI qH m i (j+1) r hr (by omega) (by omega) h3' (by rw [CG hj0,← hx,if_pos he,h4]);refine⟨n,r',q1,q2,q3,?_⟩;rw [aT,U6];simp only [LM,zz,c1,c2,he,w,hr,fin,ih]
   ·have c3: ¬((i:Int) < 0):=by omega
    have c4:(i:Int) < (l0.length:Int):=by omega
    have w2:=bC (n:=i) (by omega);have hs:fE r.l (i:Int) (.i (r.at (j:Int)).n)=r.l.set i l0[j]:=by rw [xJ,hx,← hn _ (List.getElem_mem hj0)]
    obtain⟨n,r',q1,q2,q3,ih⟩:=Ae r0 t l0 hl hn y2 y3 y4 y5 y6 y7 y8 y9 qJ qI qH m (i+1) (j+1) (dL (fE r.l (i:Int) (.i (r.at (j:Int)).n))) (by rw [aX,fP,hr]) (by omega) (by omega)
     (by rw [aX,hs,List.drop_set_of_lt (by omega),h3'])
     (by rw [aX,hs,List.take_succ_eq_append_getElem (by rw [List.length_set]; omega),List.take_set_of_le (Nat.le_refl _),List.getElem_set_self,h4,CG hj0,← hx,if_neg he])
    refine⟨n,r',q1,q2,q3,?_⟩;rw [aT,U6];simp only [LM,zz,c1,c2,c3,c4,if_neg he,w,w2,hr,fin,ih]
theorem awK (r:D) (t:Int) (hl:r.l.length≤140737488351232) (hn: ∀x∈r.l,x= .i x.n):(wo t r.l=r.l∧∀y2 y3 y4 y5 y6 y7 y8 y9 qJ qI qH:Int,L 12000 [enc r,t,y2,y3,y4,y5,y6,y7,y8,y9,qJ,qI,qH]=some [0,enc r,t,y2,y3,y4,y5,y6,y7,y8,y9,qJ,qI,qH])∨
 ∀y2 y3 y4 y5 y6 y7 y8 y9 qJ qI qH:Int,∃(n:Nat) (r':D),n < r.l.length∧r'.l.length=r.l.length∧r'.l.take n=wo t r.l∧L 12000 [enc r,t,y2,y3,y4,y5,y6,y7,y8,y9,qJ,qI,qH]=some [1,enc r,t,y2,y3,y4,y5,y6,y7,y8,y9,qJ,qI,qH,(n:Int),enc r',(r.l.length:Int)]:=by
 have h:=auC r t hl;rcases vY r t with ⟨hp,hno⟩ | ⟨i,hi,hp,hat,hno⟩
 ·refine .inl ⟨J8 hno,fun y2 y3 y4 y5 y6 y7 y8 y9 qJ qI qH=>?_⟩;have h':=h y2 y3 y4 y5 y6 y7 y8 y9 qJ qI qH;clear h;rw [hp] at h';rw [aT,ZQ,TD,dQ,if_pos,dQ,if_pos,dQ,if_pos]
  ·simp only [jR,List.map,bP,aW,aN,aP,Nat.reduceLT,fin]
  ·simp only [Qm3,iL,bP,gJ,iI,List.map,aW,Nat.reduceLT,aN,aP];rw [h'];simp only [aN,aP,Option.isSome_some,Option.getD_some,if_true]
  ·simp only [iL,bP,gJ,iI,List.map,aW,Nat.reduceLT,aN,aP];rw [h'];simp only [aN,aP,Option.isSome_some,Option.getD_some,if_true]
  ·simp only [iL,bP,gJ,iI,List.map,aW,Nat.reduceLT,aN,aP];rw [h'];simp only [aN,aP,Option.isSome_some,Option.getD_some,if_true]
 ·refine .inr fun y2 y3 y4 y5 y6 y7 y8 y9 qJ qI qH=>?_;have h':=h y2 y3 y4 y5 y6 y7 y8 y9 qJ qI qH;clear h;rw [hp] at h';have w:=bC (n:=i) (by omega);have h0:r.l.take i=wo t (r.l.take (i+1)):=by rw [CG hi,if_pos hat,J8 hno]
  obtain⟨n,r',q1,q2,q3,ih⟩:=Ae r t r.l hl hn y2 y3 y4 y5 y6 y7 y8 y9 qJ qI qH (r.l.length - (i+1)) i (i+1) r rfl (by omega) (by omega) rfl h0;refine⟨n,r',q1,q2,q3,?_⟩;rw [aT,ZQ,TD,dQ,if_pos,dQ,if_pos,dQ,if_neg]
  ·simp only [oJ,List.map,Qm3,bP,gJ,BP,den_add,aW,aN,aP,Nat.reduceLT];rw [h'];simp only [aN,aP,Option.getD_some,w,fin];rw [ih]
  ·simp only [Qm3,iL,bP,gJ,iI,List.map,aW,Nat.reduceLT,aN,aP];rw [h'];simp only [aN,aP,Option.isSome_some,Option.getD_some,if_true];omega
  ·simp only [iL,bP,gJ,iI,List.map,aW,Nat.reduceLT,aN,aP];rw [h'];simp only [aN,aP,Option.isSome_some,Option.getD_some,if_true]
  ·simp only [iL,bP,gJ,iI,List.map,aW,Nat.reduceLT,aN,aP];rw [h'];simp only [aN,aP,Option.isSome_some,Option.getD_some,if_true]
theorem Ad (r0:D) (t:Int) (l0:List D) (hl:l0.length≤140737488351232) (hn: ∀x∈l0,x= .i x.n) (y2 y3 y4 y5 y6 y7 y8 y9 qJ qI qH:Int): ∀(m i j:Nat) (r:D),r.l.length=l0.length→i < j→j+m=l0.length→r.l.drop j=l0.drop j→r.l.take i=wo t (l0.take j)→
 ∃(n:Nat) (r':D),n < l0.length∧r'.l.length=l0.length∧r'.l.take n=wo t l0∧L 12101 [enc r0,t,y2,y3,y4,y5,y6,y7,y8,y9,qJ,qI,qH,enc r,(i:Int),(j:Int)]=some [1,enc r0,t,y2,y3,y4,y5,y6,y7,y8,y9,qJ,qI,qH,(n:Int),enc r',(l0.length:Int)]
 | 0,i,j,r,hr,h1,h2,h3,h4=>by
   have c1: ¬(j:Int) < (l0.length:Int):=by omega
   have c2: ¬((i:Int) < 0):=by omega
   have c3: ¬((l0.length:Int) < (i:Int)):=by omega
   have c4: ¬((l0.length:Int) - (i:Int) < 0):=by omega
   have c5:(i:Int)+((l0.length:Int) - (i:Int))=(l0.length:Int):=by omega
   refine⟨i,dL (r.l.take i++List.replicate (r.l.length - i) (.i 0)),by omega,by rw [aX]; simp only [List.length_append,List.length_take,List.length_replicate]; omega,?_,?_⟩
   ·rw [aX,List.take_append_of_le_length (by rw [List.length_take]; omega),List.take_take,Nat.min_self,h4,List.take_of_length_le (by omega)]
   ·rw [aT,U5];simp only [LJ,zz,c1,c2,c3,c4,c5,Int.toNat_natCast,fin,hr]
 | m+1,i,j,r,hr,h1,h2,h3,h4=>by
   have c1:(j:Int) < (l0.length:Int):=by omega
   have c2: ¬((j:Int) < 0):=by omega
   have w:=bC (n:=j) (by omega);have hj:j < r.l.length:=by omega
   have hj0:j < l0.length:=by omega
   have hx:r.at (j:Int)=l0[j]:=by rw [aY hj];rw [List.drop_eq_getElem_cons hj,List.drop_eq_getElem_cons hj0] at h3;exact (List.cons.inj h3).1
   have h3':r.l.drop (j+1)=l0.drop (j+1):=by rw [List.drop_eq_getElem_cons hj,List.drop_eq_getElem_cons hj0] at h3;exact (List.cons.inj h3).2
   by_cases he:(r.at (j:Int)).n=t
   ·obtain⟨n,r',q1,q2,q3,ih⟩:=Ad r0 t l0 hl hn y2 y3 y4 y5 y6 y7 y8 y9 qJ qI qH m i (j+1) r hr (by omega) (by omega) h3' (by rw [CG hj0,← hx,if_pos he,h4]);refine⟨n,r',q1,q2,q3,?_⟩;rw [aT,U5];simp only [LJ,zz,c1,c2,he,w,hr,fin,ih]
   ·have c3: ¬((i:Int) < 0):=by omega
    have c4:(i:Int) < (l0.length:Int):=by omega
    have w2:=bC (n:=i) (by omega);have hs:fE r.l (i:Int) (.i (r.at (j:Int)).n)=r.l.set i l0[j]:=by rw [xJ,hx,← hn _ (List.getElem_mem hj0)]
    obtain⟨n,r',q1,q2,q3,ih⟩:=Ad r0 t l0 hl hn y2 y3 y4 y5 y6 y7 y8 y9 qJ qI qH m (i+1) (j+1) (dL (fE r.l (i:Int) (.i (r.at (j:Int)).n))) (by rw [aX,fP,hr]) (by omega) (by omega)
     (by rw [aX,hs,List.drop_set_of_lt (by omega),h3'])
     (by rw [aX,hs,List.take_succ_eq_append_getElem (by rw [List.length_set]; omega),List.take_set_of_le (Nat.le_refl _),List.getElem_set_self,h4,CG hj0,← hx,if_neg he])
    refine⟨n,r',q1,q2,q3,?_⟩;rw [aT,U5];simp only [LJ,zz,c1,c2,c3,c4,if_neg he,w,w2,hr,fin,ih]
theorem awJ (r:D) (t:Int) (hl:r.l.length≤140737488351232) (hn: ∀x∈r.l,x= .i x.n):(wo t r.l=r.l∧∀y2 y3 y4 y5 y6 y7 y8 y9 qJ qI qH:Int,L 12100 [enc r,t,y2,y3,y4,y5,y6,y7,y8,y9,qJ,qI,qH]=some [0,enc r,t,y2,y3,y4,y5,y6,y7,y8,y9,qJ,qI,qH])∨
 ∀y2 y3 y4 y5 y6 y7 y8 y9 qJ qI qH:Int,∃(n:Nat) (r':D),n < r.l.length∧r'.l.length=r.l.length∧r'.l.take n=wo t r.l∧L 12100 [enc r,t,y2,y3,y4,y5,y6,y7,y8,y9,qJ,qI,qH]=some [1,enc r,t,y2,y3,y4,y5,y6,y7,y8,y9,qJ,qI,qH,(n:Int),enc r',(r.l.length:Int)]:=by
 have h:=auB r t hl;rcases vY r t with ⟨hp,hno⟩ | ⟨i,hi,hp,hat,hno⟩
 ·refine .inl ⟨J8 hno,fun y2 y3 y4 y5 y6 y7 y8 y9 qJ qI qH=>?_⟩;have h':=h y2 y3 y4 y5 y6 y7 y8 y9 qJ qI qH;clear h;rw [hp] at h';rw [aT,ZO,TB,dQ,if_pos,dQ,if_pos,dQ,if_pos]
  ·simp only [jR,List.map,bP,aW,aN,aP,Nat.reduceLT,fin]
  ·simp only [Qnf,iL,bP,gJ,iI,List.map,aW,Nat.reduceLT,aN,aP];rw [h'];simp only [aN,aP,Option.isSome_some,Option.getD_some,if_true]
  ·simp only [iL,bP,gJ,iI,List.map,aW,Nat.reduceLT,aN,aP];rw [h'];simp only [aN,aP,Option.isSome_some,Option.getD_some,if_true]
  ·simp only [iL,bP,gJ,iI,List.map,aW,Nat.reduceLT,aN,aP];rw [h'];simp only [aN,aP,Option.isSome_some,Option.getD_some,if_true]
 ·refine .inr fun y2 y3 y4 y5 y6 y7 y8 y9 qJ qI qH=>?_;have h':=h y2 y3 y4 y5 y6 y7 y8 y9 qJ qI qH;clear h;rw [hp] at h';have w:=bC (n:=i) (by omega);have h0:r.l.take i=wo t (r.l.take (i+1)):=by rw [CG hi,if_pos hat,J8 hno]
  obtain⟨n,r',q1,q2,q3,ih⟩:=Ad r t r.l hl hn y2 y3 y4 y5 y6 y7 y8 y9 qJ qI qH (r.l.length - (i+1)) i (i+1) r rfl (by omega) (by omega) rfl h0;refine⟨n,r',q1,q2,q3,?_⟩;rw [aT,ZO,TB,dQ,if_pos,dQ,if_pos,dQ,if_neg]
  ·simp only [oJ,List.map,Qnf,bP,gJ,BP,den_add,aW,aN,aP,Nat.reduceLT];rw [h'];simp only [aN,aP,Option.getD_some,w,fin];rw [ih]
  ·simp only [Qnf,iL,bP,gJ,iI,List.map,aW,Nat.reduceLT,aN,aP];rw [h'];simp only [aN,aP,Option.isSome_some,Option.getD_some,if_true];omega
  ·simp only [iL,bP,gJ,iI,List.map,aW,Nat.reduceLT,aN,aP];rw [h'];simp only [aN,aP,Option.isSome_some,Option.getD_some,if_true]
  ·simp only [iL,bP,gJ,iI,List.map,aW,Nat.reduceLT,aN,aP];rw [h'];simp only [aN,aP,Option.isSome_some,Option.getD_some,if_true]
theorem awI (r:D) (t:Int): ∀y2 y3 y4 y5 y6 y7 y8 y9 qJ qI qH:Int,L 12200 [enc r,t,y2,y3,y4,y5,y6,y7,y8,y9,qJ,qI,qH]=some [0,enc r,t,y2,y3,y4,y5,y6,y7,y8,y9,qJ,qI,qH]:=by
 intro y2 y3 y4 y5 y6 y7 y8 y9 qJ qI qH
 have h:L 12250 [enc r,t,y2,y3,y4,y5,y6,y7,y8,y9,qJ,qI,qH]=some [0,enc r,t,y2,y3,y4,y5,y6,y7,y8,y9,qJ,qI,qH]:=by rw [aT,apX];simp only [YB,zz,fin];rw [aT,apW];simp only [YA,zz,fin]
 have h':=h;clear h;rw [aT,apY,YC,dQ,if_pos,dQ,if_pos]
 ·simp only [jR,List.map,bP,aW,aN,aP,Nat.reduceLT,fin]
 ·simp only [iL,bP,gJ,iI,List.map,aW,Nat.reduceLT,aN,aP];rw [h'];simp only [aN,aP,Option.isSome_some,Option.getD_some,if_true]
 ·simp only [iL,bP,gJ,iI,List.map,aW,Nat.reduceLT,aN,aP];rw [h'];simp only [aN,aP,Option.isSome_some,Option.getD_some,if_true]
theorem awH (r:D) (t:Int): ∀y2 y3 y4 y5 y6 y7 y8 y9 qJ qI qH:Int,L 12300 [enc r,t,y2,y3,y4,y5,y6,y7,y8,y9,qJ,qI,qH]=some [0,enc r,t,y2,y3,y4,y5,y6,y7,y8,y9,qJ,qI,qH]:=by
 intro y2 y3 y4 y5 y6 y7 y8 y9 qJ qI qH
 have h:L 12350 [enc r,t,y2,y3,y4,y5,y6,y7,y8,y9,qJ,qI,qH]=some [0,enc r,t,y2,y3,y4,y5,y6,y7,y8,y9,qJ,qI,qH]:=by rw [aT,apU];simp only [Yy,zz,fin];rw [aT,apT];simp only [Yx,zz,fin]
 have h':=h;clear h;rw [aT,apV,Yz,dQ,if_pos,dQ,if_pos]
 ·simp only [jR,List.map,bP,aW,aN,aP,Nat.reduceLT,fin]
 ·simp only [iL,bP,gJ,iI,List.map,aW,Nat.reduceLT,aN,aP];rw [h'];simp only [aN,aP,Option.isSome_some,Option.getD_some,if_true]
 ·simp only [iL,bP,gJ,iI,List.map,aW,Nat.reduceLT,aN,aP];rw [h'];simp only [aN,aP,Option.isSome_some,Option.getD_some,if_true]
end Go.As.Try
end
section
namespace Go.As.Try
open Go hiding Stat Spec shape
open Go.As
set_option maxRecDepth 100000
abbrev Mx (d0:D) (obj:Int):Int:=((d0.at obj).hd 2).n
abbrev Mo (d0 s:D) (obj:Int):Int:=((s.at ((d0.at obj).hd 2).n).hd 0).n
inductive Act where
 | blk
 | mis
 | res (o c dn g:Int) (r v:D) (m:Option Int) (a oc:Int)
def act (M mo th op arg tries o c dn g:Int) (r v:D):Act:=
 if op=1 then (if o=th then .mis else if place r th < 0 then (if o < 0 then .res th c dn g r v none 0 2 else .blk) else .mis)
 else if op=2 then (if o=th then .res (-1) c dn g r v none 0 2 else .mis)
 else if op=8 then (if o=th then .res (-1) c dn g r v none 0 2 else .mis)
 else if op=3 then (if o < 0 then .res th c dn g r v none 1 2 else .res o c dn g r v none 0 2)
 else if op=4 then (if o < 0 then .res th c dn g r v none 1 2 else if tries < arg then .blk else .res o c dn g r v none 0 2)
 else if op=5 then (if o=th then .mis else if place r th < 0 then (if o < 0 then .res o c dn g (dL (r.l++ [.i th])) v none 0 2 else .blk) else .mis)
 else if op=6 then (if place r th < 0 then .mis else .res o c dn g (gK (.i 2) (r.l.take (place r th).toNat++r.l.drop ((place r th).toNat+1))) v none 0 2)
 else if op=7 then (if o=th then .mis else if place r th < 0 then (if (r.l.length:Int)=0 then (if o < 0 then .res th c dn g r v none 0 2 else .blk) else .blk) else .mis)
 else if op=9 then (if 0 < c then .res o (IntKind.i64.wrap (c - 1)) dn g r v none 0 2 else .blk)
 else if op=11 then (if 0 < c then .res o (IntKind.i64.wrap (c - 1)) dn g r v none 1 2 else .res o c dn g r v none 0 2)
 else if op=10 then (if c < M then .res o (IntKind.i64.wrap (c+1)) dn g r v none 0 2 else .mis)
 else if op=17 then (if arg < IntKind.i64.wrap (0 - c) then .mis else if IntKind.i64.wrap (1099511627776 - c) < arg then .mis else .res o (IntKind.i64.wrap (c+arg)) dn g r v none (IntKind.i64.wrap (c+arg)) 2)
 else if op=18 then (if 0 < c then .res o (IntKind.i64.wrap (c - 1)) dn g r v none (IntKind.i64.wrap (c - 1)) 2 else .mis)
 else if op=19 then (if c=0 then .res o c dn g r v none 0 2 else .blk)
 else if op=22 then .res o c dn g r v none c 2
 else if op=23 then .res o arg dn g r v none arg 2
 else if op=20 then (if (v.l.length:Int) < M then .res o c dn g r (dL (v.l++ [.i arg])) none arg 2 else .blk)
 else if op=21 then (if (v.l.length:Int)=0 then .blk else .res o c dn g r (gK v (v.l.drop 1)) none (v.at 0).n 2)
 else if op=12 then (if mo=th then .res o c dn g (dL (wo th r.l++ [.i th])) v (some (-1)) 0 3 else .mis)
 else if op=13 then (if (r.l.length:Int)=0 then .res o c dn g r v none 0 2 else .res o c dn g (gK r (r.l.drop 1)) v none (IntKind.i64.wrap ((r.at 0).n+1)) 2)
 else if op=14 then .res o c dn g (.i 1) v none (r.l.length:Int) 2
 else if op=24 then (if place r th < 0 then (if mo < 0 then .res o c dn g r v (some th) 0 2 else .blk) else .blk)
 else if op=15 then (if g < 4611686018427387904 then (if IntKind.i64.wrap (c+1)=M then .res o 0 dn (IntKind.i64.wrap (g+1)) r v none g 3 else .res o (IntKind.i64.wrap (c+1)) dn g r v none g 3) else .mis)
 else if op=25 then (if arg < g then .res o c dn g r v none arg 2 else .blk)
 else if op=16 then (if dn=0 then (if o=th then .mis else if o < 0 then .res th c dn g r v none 1 2 else .blk) else .res o c dn g r v none 0 2)
 else (if o=th then .res (-1) c 1 g r v none 0 2 else .mis)
def YU (s:D) (obj M:Int):Act→D
 | .res o c dn g r v m _ _=>dL (fE (match m with | none=>s.l | some q=>fE s.l M (dL (fE (s.at M).l 0 (.i q)))) obj (dL [.i o,.i c,.i (if dn=0 then 0 else 1),.i g,r,v]))
 | _=>s
def outA (s:D) (th op obj M:Int):Act→List Int
 | .blk=>[enc s,0,0,0,0,0,0]
 | .mis=>[enc s,th,27,obj,IntKind.i64.wrap op,0,2]
 | .res o c dn g r v m a oc=>[enc (YU s obj M (.res o c dn g r v m a oc)),th,op,obj,a,0,oc]
structure TH (d0 d1 s:D) (th op obj arg tries o c dn g:Int) (r v:D):Prop where
 hcp:L 9000 [obj,enc s]=some [pF r v,obj,enc s,o,c,dn,g,enc r,enc v]
 iZ:L 550 [enc s]=some [enc s]
 hR:L 350 [enc d0,enc d1,enc s]=some [1]
 Gg:0≤th
 Gf:th < (d1.l.length:Int)
 BG:0≤obj
 BF:obj < (s.l.length:Int)
 hlen:s.l.length=d0.l.length
 hk:L 600 [op]=some [((d0.at obj).hd 0).n]
 hr:(r.l.length:Int) < 17592186044415
 hv:(v.l.length:Int) < 17592186044415
 hn: ∀x∈r.l,x= .i x.n
 hM:op=12∨op=24→0≤((d0.at obj).hd 2).n∧((d0.at obj).hd 2).n < (s.l.length:Int)∧((d0.at obj).hd 2).n≠obj
theorem TH.hb {d0 d1 s:D} {th op obj arg tries o c dn g:Int} {r v:D} (H:TH d0 d1 s th op obj arg tries o c dn g r v):r.l.length≤140737488351232:=by have:=H.hr; omega
noncomputable abbrev dH (d0 d1 s:D) (th op obj arg tries:Int):Nat→Int:=bQ L (low [enc d0,enc d1,enc s,th,op,obj,arg,tries])
abbrev bD (k:Nat):SE:=rr 9000 [.aO 5,.aO 2] k
abbrev Y2:SE:=nm (ce 2 (el (.aO 0) (.aO 5)))
abbrev kK:SE:=rr 850 [bD 7,.aO 3] 0
abbrev aeP (q:SE):SE:=.op .set (bD 2) (cn (mk Y2) (.op .set (el (bD 2) Y2) (cn (.dat (.i 0)) q)))
abbrev xA:List SE:=[bD 7,.aO 3,.aO 5,Y2,aeP (.dat (.i (-1))),.aO 4,.aO 6,.aO 7,bD 3,bD 4,bD 5,bD 6,bD 8]
abbrev thg (o c d g r v:SE):SE:=cn (mk (.aO 5)) (cn o (cn c (cn d (cn g (cn r (cn v (.dat (.i 0))))))))
abbrev wP:T Lf:=ou [rr 550 [.aO 2] 0,.aO 3,.lit 27,.aO 5,wr (.aO 4),.lit 0,.lit 2]
abbrev DL:T Lf:=ou [rr 550 [.aO 2] 0,.lit 0,.lit 0,.lit 0,.lit 0,.lit 0,.lit 0]
abbrev lU (z o c d g r v a:SE) (oc:Int):T Lf:=ou [.op .set z (thg o c d g r v),.aO 3,.aO 4,.aO 5,a,.lit 0,.lit oc]
theorem CY {r:D} (h:r.l= []) (t:Int):place r t= -1:=by unfold place; rw [h]; rfl
theorem aAv {r:D} (h:r.l= []) (t:Int):wo t r.l= []:=by rw [h]; rfl
theorem alt3 {r v:D} (h:0 < r.l.length) (h':0 < v.l.length):pF r v=3:=by simp [pF,h,h']
theorem aFy {r v:D} (h:0 < r.l.length) (h':v.l= []):pF r v=4:=by simp [pF,h,h']
theorem aFx {r v:D} (h:r.l= []) (h':0 < v.l.length):pF r v=5:=by simp [pF,h,h']
theorem aFw {r v:D} (h:r.l= []) (h':v.l= []):pF r v=6:=by simp [pF,h,h']
abbrev Gl (d0 s:D) (th op obj arg tries o c dn g:Int) (r v:D):RS:=.out (outA s th op obj (Mx d0 obj) (act (Mx d0 obj) (Mo d0 s obj) th op arg tries o c dn g r v))
theorem dG (s:D) (th op obj M:Int):outA s th op obj M .blk= [enc s,0,0,0,0,0,0]:=rfl
theorem dF (s:D) (th op obj M:Int):outA s th op obj M .mis= [enc s,th,27,obj,IntKind.i64.wrap op,0,2]:=rfl
theorem bU (s:D) (th op obj M o c dn g:Int) (r v:D) (a oc:Int):outA s th op obj M (.res o c dn g r v none a oc)= [enc (dL (fE s.l obj (dL [.i o,.i c,.i (if dn=0 then 0 else 1),.i g,r,v]))),th,op,obj,a,0,oc]:=rfl
theorem bT (s:D) (th op obj M o c dn g:Int) (r v:D) (q a oc:Int):outA s th op obj M (.res o c dn g r v (some q) a oc)= [enc (dL (fE (fE s.l M (dL (fE (s.at M).l 0 (.i q)))) obj (dL [.i o,.i c,.i (if dn=0 then 0 else 1),.i g,r,v]))),th,op,obj,a,0,oc]:=rfl
section
variable {s:D} {th op obj M:Int}
theorem fA {c:Prop} [Decidable c] {a b:Act}:RS.out (outA s th op obj M (if c then a else b))=if c then RS.out (outA s th op obj M a) else RS.out (outA s th op obj M b):=by split <;> rfl
end
theorem AP {p:Prop} [Decidable p]:((if p then (0:Int) else 1)=0)=p:=by by_cases h:p <;> simp [h]
theorem kU (l:List D):l= []∨0 < l.length:=by cases l <;> simp
theorem z2 {ρ:Nat→Int} {a b c d:List SB} (h:zY ρ a∧zW ρ b) (h':zY ρ c∧zW ρ d):zY ρ (a++c)∧zW ρ (b++d):=⟨ahE h.1 h'.1,ahH h.2 h'.2⟩
end Go.As.Try
end
section
namespace Go.As.Try
open Go hiding Stat Spec shape
open Go.As
set_option maxRecDepth 100000
abbrev bt:SE:=.op .bit (mk (bD 5)) (.lit 0)
abbrev kW:SE:=wr (.add kK (.lit 1))
abbrev kL:SE:=.sub (ln (bD 7)) kW
abbrev kD:SE:=.add kK kL
abbrev kC:SE:=.op .cat (.op .cat (.op .take (bD 7) kK) (.op .drop (.op .take (bD 7) (.add kW kL)) kW)) (.op .drop (bD 7) kD)
abbrev kF:SE:=.op .fill kC (cn (mk kD) (.dat (.i 0)))
section
variable {d0 d1 s r v:D} {th op obj arg tries o c dn g:Int}
abbrev YG:List SB:=[.eq (a0 9000 [.aO 5,.aO 2]) (.lit 1),.eq (a0 350 [.aO 0,.aO 1,.aO 2]) (.lit 1),.eq (a0 600 [.aO 4]) (.lit 1),.eq (a0 550 [.aO 2]) (.lit 1),.eq (a0 900 [bD 7,.aO 3]) (.lit 1),.eq (a0 850 [bD 7,.aO 3]) (.lit 1),.lt (.aO 3) (ln (.aO 1)),.lt (.aO 5) (ln (.aO 0)),.lt (.aO 5) (ln (bD 2)),.eq (rr 600 [.aO 4] 0) (nm (ce 0 (el (.aO 0) (.aO 5)))),.lt (ln (bD 7)) (.lit 17592186044415),.lt (ln (bD 8)) (.lit 17592186044415)]
abbrev NG:List SB:=[.lt (.aO 5) (.lit 0),.eq (rr 350 [.aO 0,.aO 1,.aO 2] 0) (.lit 0),.lt (.aO 3) (.lit 0),.lt (ln (bD 7)) (ln (bD 7)),.lt (ln (bD 8)) (.add (.lit 1) (.sub (ln (bD 8)) (.lit 1))),.lt (ln (bD 7)) (.add (.lit 1) (.sub (ln (bD 7)) (.lit 1)))]
theorem fG (H:TH d0 d1 s th op obj arg tries o c dn g r v):zY (dH d0 d1 s th op obj arg tries) YG∧zW (dH d0 d1 s th op obj arg tries) NG:=by have hb:=H.hb;have h1:=H.Gg; have h2:=H.Gf; have h3:=H.BG; have h4:=H.BF; have h5:=H.hlen; have h6:=H.hr; have h7:=H.hv; have hp:=iU r th;simp only [zz,H.hcp,H.iZ,H.hR,H.hk,has_is r th hb,dK r th hb] <;> omega
abbrev YA3:List SB:=[.eq (bD 0) (.lit 3)]
abbrev NA3:List SB:=[.eq (bD 0) (.lit 0),.eq (bD 0) (.lit 1),.eq (bD 0) (.lit 2),.eq (bD 0) (.lit 4),.eq (bD 0) (.lit 5),.eq (bD 0) (.lit 6),.lt (.sub (ln (bD 7)) (.lit 1)) (.lit 0),.lt (.sub (ln (bD 8)) (.lit 1)) (.lit 0)]
theorem fA3 (H:TH d0 d1 s th op obj arg tries o c dn g r v) (hr:0 < r.l.length) (hv:0 < v.l.length):zY (dH d0 d1 s th op obj arg tries) YA3∧zW (dH d0 d1 s th op obj arg tries) NA3:=by have hb:=H.hb;have h1:=H.Gg; have h2:=H.Gf; have h3:=H.BG; have h4:=H.BF; have h5:=H.hlen; have h6:=H.hr; have h7:=H.hv; have hp:=iU r th;simp only [zz,H.hcp,H.iZ,H.hR,H.hk,has_is r th hb,dK r th hb,alt3 hr hv] <;> omega
abbrev YA4:List SB:=[.eq (bD 0) (.lit 4)]
abbrev NA4:List SB:=[.eq (bD 0) (.lit 0),.eq (bD 0) (.lit 1),.eq (bD 0) (.lit 2),.eq (bD 0) (.lit 3),.eq (bD 0) (.lit 5),.eq (bD 0) (.lit 6),.lt (.sub (ln (bD 7)) (.lit 1)) (.lit 0)]
theorem fA4 (H:TH d0 d1 s th op obj arg tries o c dn g r v) (hr:0 < r.l.length) (hv:v.l= []):zY (dH d0 d1 s th op obj arg tries) YA4∧zW (dH d0 d1 s th op obj arg tries) NA4:=by have hb:=H.hb;have h1:=H.Gg; have h2:=H.Gf; have h3:=H.BG; have h4:=H.BF; have h5:=H.hlen; have h6:=H.hr; have h7:=H.hv; have hp:=iU r th;simp only [zz,H.hcp,H.iZ,H.hR,H.hk,has_is r th hb,dK r th hb,aFy hr hv] <;> omega
abbrev YA5:List SB:=[.eq (bD 0) (.lit 5),.lt kK (.lit 0)]
abbrev NA5:List SB:=[.eq (bD 0) (.lit 0),.eq (bD 0) (.lit 1),.eq (bD 0) (.lit 2),.eq (bD 0) (.lit 3),.eq (bD 0) (.lit 4),.eq (bD 0) (.lit 6),.lt (.sub (ln (bD 8)) (.lit 1)) (.lit 0)]
theorem fA5 (H:TH d0 d1 s th op obj arg tries o c dn g r v) (hr:r.l= []) (hv:0 < v.l.length):zY (dH d0 d1 s th op obj arg tries) YA5∧zW (dH d0 d1 s th op obj arg tries) NA5:=by have hb:=H.hb;have h1:=H.Gg; have h2:=H.Gf; have h3:=H.BG; have h4:=H.BF; have h5:=H.hlen; have h6:=H.hr; have h7:=H.hv; have hp:=iU r th;simp only [zz,H.hcp,H.iZ,H.hR,H.hk,has_is r th hb,dK r th hb,aFx hr hv,CY hr] <;> omega
abbrev YA6:List SB:=[.eq (bD 0) (.lit 6),.lt kK (.lit 0)]
abbrev NA6:List SB:=[.eq (bD 0) (.lit 0),.eq (bD 0) (.lit 1),.eq (bD 0) (.lit 2),.eq (bD 0) (.lit 3),.eq (bD 0) (.lit 4),.eq (bD 0) (.lit 5)]
theorem fA6 (H:TH d0 d1 s th op obj arg tries o c dn g r v) (hr:r.l= []) (hv:v.l= []):zY (dH d0 d1 s th op obj arg tries) YA6∧zW (dH d0 d1 s th op obj arg tries) NA6:=by have hb:=H.hb;have h1:=H.Gg; have h2:=H.Gf; have h3:=H.BG; have h4:=H.BF; have h5:=H.hlen; have h6:=H.hr; have h7:=H.hv; have hp:=iU r th;simp only [zz,H.hcp,H.iZ,H.hR,H.hk,has_is r th hb,dK r th hb,aFw hr hv,CY hr] <;> omega
abbrev YM:List SB:=[.lt Y2 (ln (bD 2))]
abbrev NM:List SB:=[.lt Y2 (.lit 0),.eq Y2 (.aO 5)]
theorem fM (H:TH d0 d1 s th op obj arg tries o c dn g r v) (ho:op=12∨op=24):zY (dH d0 d1 s th op obj arg tries) YM∧zW (dH d0 d1 s th op obj arg tries) NM:=by have hb:=H.hb;have h1:=H.Gg; have h2:=H.Gf; have h3:=H.BG; have h4:=H.BF; have h5:=H.hlen; have h6:=H.hr; have h7:=H.hv; have hp:=iU r th; have hm:=H.hM ho;simp only [zz,H.hcp,H.iZ,H.hR,H.hk,has_is r th hb,dK r th hb] <;> omega
abbrev YK0:List SB:=[.lt kK (.lit 0)]
abbrev NK0:List SB:=[]
theorem fK0 (H:TH d0 d1 s th op obj arg tries o c dn g r v) (hk:place r th < 0):zY (dH d0 d1 s th op obj arg tries) YK0∧zW (dH d0 d1 s th op obj arg tries) NK0:=by have hb:=H.hb;have h1:=H.Gg; have h2:=H.Gf; have h3:=H.BG; have h4:=H.BF; have h5:=H.hlen; have h6:=H.hr; have h7:=H.hv; have hp:=iU r th;simp only [zz,H.hcp,H.iZ,H.hR,H.hk,has_is r th hb,dK r th hb] <;> omega
abbrev YK1:List SB:=[.lt kD (ln (bD 7)),.eq (.add kD (.sub (ln (bD 7)) kD)) (ln kC)]
abbrev NK1:List SB:=[.lt kK (.lit 0),.lt kW kK,.lt (ln (bD 7)) kW,.eq kK kW,.lt (ln (bD 7)) kK,.lt kW (.lit 0),.lt kL (.lit 0),.lt (ln (bD 7)) (.add kW kL),.lt (ln (bD 7)) kD,.lt kD (.lit 0),.lt (ln kC) (ln (bD 7)),.lt (.sub (ln (bD 7)) kD) (.lit 0),.lt (ln kF) kD]
theorem fK1 (H:TH d0 d1 s th op obj arg tries o c dn g r v) (hk: ¬place r th < 0):zY (dH d0 d1 s th op obj arg tries) YK1∧zW (dH d0 d1 s th op obj arg tries) NK1:=by have hb:=H.hb;have h1:=H.Gg; have h2:=H.Gf; have h3:=H.BG; have h4:=H.BF; have h5:=H.hlen; have h6:=H.hr; have h7:=H.hv; have hp:=iU r th; have hw:IntKind.i64.wrap (place r th+1)=place r th+1:=lZ (by omega) (by omega);simp only [zz,H.hcp,H.iZ,H.hR,H.hk,has_is r th hb,dK r th hb,kT,aX,List.length_append,List.length_take,List.length_drop,List.length_replicate,hw] <;> omega
abbrev dA (d0 s r v:D) (th op obj arg tries o c dn g:Int):List Int:=[enc r,th,obj,Mx d0 obj,enc (dL (fE s.l (Mx d0 obj) (dL (fE (s.at (Mx d0 obj)).l 0 (.i (-1)))))),op,arg,tries,o,c,dn,g,enc v]
abbrev aFD:List SB:=[.eq (a0 12000 xA) (.lit 1),.eq (rr 12000 xA 0) (.lit 0)]
abbrev aFJ:List SB:=[]
theorem aFt (H:TH d0 d1 s th op obj arg tries o c dn g r v) (hd:L 12000 (dA d0 s r v th op obj arg tries o c dn g)=some (0 :: (dA d0 s r v th op obj arg tries o c dn g))):zY (dH d0 d1 s th op obj arg tries) aFD∧zW (dH d0 d1 s th op obj arg tries) aFJ:=by have hb:=H.hb;have h1:=H.Gg; have h2:=H.Gf; have h3:=H.BG; have h4:=H.BF; have h5:=H.hlen; have h6:=H.hr; have h7:=H.hv; have hp:=iU r th;simp only [zz,H.hcp,H.iZ,H.hR,H.hk,has_is r th hb,dK r th hb,hd] <;> omega
abbrev aFE:List SB:=[.eq (a0 12000 xA) (.lit 1),.eq (rr 12000 xA 0) (.lit 1)]
abbrev aFK:List SB:=[.eq (rr 12000 xA 0) (.lit 0),.lt (rr 12000 xA 14) (.lit 0),.lt (ln (rr 12000 xA 15)) (.add (rr 12000 xA 14) (.lit 1)),.lt (.add (rr 12000 xA 14) (.lit 1)) (.lit 0),.lt (ln (.op .cat (.op .cat (.op .take (rr 12000 xA 15) (rr 12000 xA 14)) (.op .snoc (.dat (.i 0)) (mk (.aO 3)))) (.op .drop (rr 12000 xA 15) (.add (rr 12000 xA 14) (.lit 1))))) (.add (rr 12000 xA 14) (.lit 1))]
theorem aFu (H:TH d0 d1 s th op obj arg tries o c dn g r v) {n:Nat} {r1:D} (hn:n < r.l.length) (hl:r1.l.length=r.l.length) (hd:L 12000 (dA d0 s r v th op obj arg tries o c dn g)=some (1 :: ((dA d0 s r v th op obj arg tries o c dn g)++ [(n:Int),enc r1,(r.l.length:Int)]))):zY (dH d0 d1 s th op obj arg tries) aFE∧zW (dH d0 d1 s th op obj arg tries) aFK:=by have hb:=H.hb;have h1:=H.Gg; have h2:=H.Gf; have h3:=H.BG; have h4:=H.BF; have h5:=H.hlen; have h6:=H.hr; have h7:=H.hv; have hp:=iU r th;simp only [zz,H.hcp,H.iZ,H.hR,H.hk,has_is r th hb,dK r th hb,hd,kT,aX,yL,List.cons_append,List.nil_append,List.length_append,List.length_take,List.length_drop,List.length_cons,List.length_nil] <;> omega
abbrev aFB:List SB:=[.eq (a0 12100 xA) (.lit 1),.eq (rr 12100 xA 0) (.lit 0)]
abbrev aFH:List SB:=[]
theorem aFr (H:TH d0 d1 s th op obj arg tries o c dn g r v) (hd:L 12100 (dA d0 s r v th op obj arg tries o c dn g)=some (0 :: (dA d0 s r v th op obj arg tries o c dn g))):zY (dH d0 d1 s th op obj arg tries) aFB∧zW (dH d0 d1 s th op obj arg tries) aFH:=by have hb:=H.hb;have h1:=H.Gg; have h2:=H.Gf; have h3:=H.BG; have h4:=H.BF; have h5:=H.hlen; have h6:=H.hr; have h7:=H.hv; have hp:=iU r th;simp only [zz,H.hcp,H.iZ,H.hR,H.hk,has_is r th hb,dK r th hb,hd] <;> omega
abbrev aFC:List SB:=[.eq (a0 12100 xA) (.lit 1),.eq (rr 12100 xA 0) (.lit 1)]
abbrev aFI:List SB:=[.eq (rr 12100 xA 0) (.lit 0),.lt (rr 12100 xA 14) (.lit 0),.lt (ln (rr 12100 xA 15)) (.add (rr 12100 xA 14) (.lit 1)),.lt (.add (rr 12100 xA 14) (.lit 1)) (.lit 0),.lt (ln (.op .cat (.op .cat (.op .take (rr 12100 xA 15) (rr 12100 xA 14)) (.op .snoc (.dat (.i 0)) (mk (.aO 3)))) (.op .drop (rr 12100 xA 15) (.add (rr 12100 xA 14) (.lit 1))))) (.add (rr 12100 xA 14) (.lit 1))]
theorem aFs (H:TH d0 d1 s th op obj arg tries o c dn g r v) {n:Nat} {r1:D} (hn:n < r.l.length) (hl:r1.l.length=r.l.length) (hd:L 12100 (dA d0 s r v th op obj arg tries o c dn g)=some (1 :: ((dA d0 s r v th op obj arg tries o c dn g)++ [(n:Int),enc r1,(r.l.length:Int)]))):zY (dH d0 d1 s th op obj arg tries) aFC∧zW (dH d0 d1 s th op obj arg tries) aFI:=by have hb:=H.hb;have h1:=H.Gg; have h2:=H.Gf; have h3:=H.BG; have h4:=H.BF; have h5:=H.hlen; have h6:=H.hr; have h7:=H.hv; have hp:=iU r th;simp only [zz,H.hcp,H.iZ,H.hR,H.hk,has_is r th hb,dK r th hb,hd,kT,aX,yL,List.cons_append,List.nil_append,List.length_append,List.length_take,List.length_drop,List.length_cons,List.length_nil] <;> omega
abbrev aFA:List SB:=[.eq (a0 12200 xA) (.lit 1),.eq (rr 12200 xA 0) (.lit 0)]
abbrev aFG:List SB:=[]
theorem aFq (H:TH d0 d1 s th op obj arg tries o c dn g r v) (hd:L 12200 (dA d0 s r v th op obj arg tries o c dn g)=some (0 :: (dA d0 s r v th op obj arg tries o c dn g))):zY (dH d0 d1 s th op obj arg tries) aFA∧zW (dH d0 d1 s th op obj arg tries) aFG:=by have hb:=H.hb;have h1:=H.Gg; have h2:=H.Gf; have h3:=H.BG; have h4:=H.BF; have h5:=H.hlen; have h6:=H.hr; have h7:=H.hv; have hp:=iU r th;simp only [zz,H.hcp,H.iZ,H.hR,H.hk,has_is r th hb,dK r th hb,hd] <;> omega
abbrev aFz:List SB:=[.eq (a0 12300 xA) (.lit 1),.eq (rr 12300 xA 0) (.lit 0)]
abbrev aFF:List SB:=[]
theorem aFp (H:TH d0 d1 s th op obj arg tries o c dn g r v) (hd:L 12300 (dA d0 s r v th op obj arg tries o c dn g)=some (0 :: (dA d0 s r v th op obj arg tries o c dn g))):zY (dH d0 d1 s th op obj arg tries) aFz∧zW (dH d0 d1 s th op obj arg tries) aFF:=by have hb:=H.hb;have h1:=H.Gg; have h2:=H.Gf; have h3:=H.BG; have h4:=H.BF; have h5:=H.hlen; have h6:=H.hr; have h7:=H.hv; have hp:=iU r th;simp only [zz,H.hcp,H.iZ,H.hR,H.hk,has_is r th hb,dK r th hb,hd] <;> omega
end
end Go.As.Try
end
section
namespace Go.As.Try
open Go hiding Stat Spec shape
open Go.As
set_option maxRecDepth 100000
theorem Ox (l m:List D):gK (dL l) m=gK (.i 2) m:=by
 cases m with
 | cons a m=>rfl
 | nil=>cases l <;> rfl
theorem aaG (d:D) (h:0 < d.l.length):gK (gK d (d.l.take (1+((d.l.length:Int) - 1)).toNat)) ((gK d (d.l.take (1+((d.l.length:Int) - 1)).toNat)).l.drop (1:Int).toNat)=gK d (d.l.drop 1):=by rw [EO (fun e=>by rw [e]; rfl),kT,List.take_of_length_le (by omega)];rfl
theorem aCt (l:List D) (k:Nat) (hk:k < l.length) (R B:List D):((l.take k++(l.take l.length).drop (k+1)++B).take (l.length - 1)++R).take (l.length - 1)=l.take k++l.drop (k+1)∨B.length=0:=by
 by_cases hB:B.length=0
 ·exact .inr hB
 ·left;have e:(l.take k++(l.take l.length).drop (k+1)).length=l.length - 1:=by simp only [List.length_append,List.length_take,List.length_drop]; omega
  rw [List.take_append_of_le_length (by rw [List.length_take,List.length_append,e]; omega),List.take_take,Nat.min_self,List.take_append_of_le_length (by omega),List.take_of_length_le (by omega),List.take_length]
section
variable {d0 d1 s r v:D} {th op obj arg tries o c dn g:Int}
abbrev zt0:T Lf:=(sp (.eq (bD 3) (.aO 3)) wP (sp (.eq (rr 900 [bD 7,.aO 3] 0) (.lit 0)) (sp (.lt (bD 3) (.lit 0)) (lU (bD 2) (mk (.aO 3)) (mk (bD 4)) bt (mk (bD 6)) (bD 7) (bD 8) (.lit 0) 2) DL) wP))
theorem sm0 (H:TH d0 d1 s th 1 obj arg tries o c dn g r v):dY (dH d0 d1 s th 1 obj arg tries) zt0=Gl d0 s th 1 obj arg tries o c dn g r v:=by
 have hb:=H.hb;simp only [zz,H.hcp,H.iZ,H.hR,H.hk,has_is r th hb,dK r th hb,aA,AP,fA,dG,dF,bU,bT,dL,act,Int.reduceEq,Gl] <;> (repeat' split) <;> first | rfl | (exfalso; omega)
abbrev zt1:T Lf:=(sp (.eq (bD 3) (.aO 3)) (lU (bD 2) (.dat (.i (-1))) (mk (bD 4)) bt (mk (bD 6)) (bD 7) (bD 8) (.lit 0) 2) wP)
theorem sm1 (H:TH d0 d1 s th 2 obj arg tries o c dn g r v):dY (dH d0 d1 s th 2 obj arg tries) zt1=Gl d0 s th 2 obj arg tries o c dn g r v:=by
 have hb:=H.hb;simp only [zz,H.hcp,H.iZ,H.hR,H.hk,has_is r th hb,dK r th hb,aA,AP,fA,dG,dF,bU,bT,dL,act,Int.reduceEq,Gl] <;> (repeat' split) <;> first | rfl | (exfalso; omega)
theorem sm2 (H:TH d0 d1 s th 8 obj arg tries o c dn g r v):dY (dH d0 d1 s th 8 obj arg tries) zt1=Gl d0 s th 8 obj arg tries o c dn g r v:=by
 have hb:=H.hb;simp only [zz,H.hcp,H.iZ,H.hR,H.hk,has_is r th hb,dK r th hb,aA,AP,fA,dG,dF,bU,bT,dL,act,Int.reduceEq,Gl] <;> (repeat' split) <;> first | rfl | (exfalso; omega)
abbrev zt2:T Lf:=(sp (.lt (bD 3) (.lit 0)) (lU (bD 2) (mk (.aO 3)) (mk (bD 4)) bt (mk (bD 6)) (bD 7) (bD 8) (.lit 1) 2) (lU (bD 2) (mk (bD 3)) (mk (bD 4)) bt (mk (bD 6)) (bD 7) (bD 8) (.lit 0) 2))
theorem sm3 (H:TH d0 d1 s th 3 obj arg tries o c dn g r v):dY (dH d0 d1 s th 3 obj arg tries) zt2=Gl d0 s th 3 obj arg tries o c dn g r v:=by
 have hb:=H.hb;simp only [zz,H.hcp,H.iZ,H.hR,H.hk,has_is r th hb,dK r th hb,aA,AP,fA,dG,dF,bU,bT,dL,act,Int.reduceEq,Gl] <;> (repeat' split) <;> first | rfl | (exfalso; omega)
abbrev zt3:T Lf:=(sp (.lt (bD 3) (.lit 0)) (lU (bD 2) (mk (.aO 3)) (mk (bD 4)) bt (mk (bD 6)) (bD 7) (bD 8) (.lit 1) 2) (sp (.lt (.aO 7) (.aO 6)) DL (lU (bD 2) (mk (bD 3)) (mk (bD 4)) bt (mk (bD 6)) (bD 7) (bD 8) (.lit 0) 2)))
theorem sm4 (H:TH d0 d1 s th 4 obj arg tries o c dn g r v):dY (dH d0 d1 s th 4 obj arg tries) zt3=Gl d0 s th 4 obj arg tries o c dn g r v:=by
 have hb:=H.hb;simp only [zz,H.hcp,H.iZ,H.hR,H.hk,has_is r th hb,dK r th hb,aA,AP,fA,dG,dF,bU,bT,dL,act,Int.reduceEq,Gl] <;> (repeat' split) <;> first | rfl | (exfalso; omega)
abbrev zt4:T Lf:=(sp (.eq (bD 3) (.aO 3)) wP (sp (.eq (rr 900 [bD 7,.aO 3] 0) (.lit 0)) (sp (.lt (bD 3) (.lit 0)) (lU (bD 2) (mk (bD 3)) (mk (bD 4)) bt (mk (bD 6)) (.op .snoc (bD 7) (mk (.aO 3))) (bD 8) (.lit 0) 2) DL) wP))
theorem sm5 (H:TH d0 d1 s th 5 obj arg tries o c dn g r v) (hr:0 < r.l.length):dY (dH d0 d1 s th 5 obj arg tries) zt4=Gl d0 s th 5 obj arg tries o c dn g r v:=by
 have hb:=H.hb;simp only [zz,H.hcp,H.iZ,H.hR,H.hk,has_is r th hb,dK r th hb,yL,List.nil_append,aA,AP,fA,dG,dF,bU,bT,dL,act,Int.reduceEq,Gl] <;> (repeat' split) <;> first | rfl | (exfalso; omega)
abbrev zt5:T Lf:=wP
theorem sm6 (H:TH d0 d1 s th 6 obj arg tries o c dn g r v) (hk:place r th < 0):dY (dH d0 d1 s th 6 obj arg tries) zt5=Gl d0 s th 6 obj arg tries o c dn g r v:=by
 have hb:=H.hb;simp only [zz,H.hcp,H.iZ,H.hR,H.hk,has_is r th hb,dK r th hb,hk,aA,AP,fA,dG,dF,bU,bT,dL,act,Int.reduceEq,Gl] <;> (repeat' split) <;> first | rfl | (exfalso; omega)
abbrev zt6:T Lf:=(lU (bD 2) (mk (bD 3)) (mk (bD 4)) bt (mk (bD 6)) (.op .take kF kD) (bD 8) (.lit 0) 2)
theorem sm7 (H:TH d0 d1 s th 6 obj arg tries o c dn g r v) (hr:0 < r.l.length) (hk: ¬place r th < 0):dY (dH d0 d1 s th 6 obj arg tries) zt6=Gl d0 s th 6 obj arg tries o c dn g r v:=by
 have hb:=H.hb;rcases vY r th with ⟨hp,_⟩ | ⟨k,hkl,hp,_⟩
 ·exact absurd hk (by rw [hp]; omega)
 have hw:IntKind.i64.wrap ((k:Int)+1)=(k:Int)+1:=lZ (by omega) (by omega);have e1:((k:Int)+1+((r.l.length:Int) - ((k:Int)+1))).toNat=r.l.length:=by omega
 have e2:((k:Int)+((r.l.length:Int) - ((k:Int)+1))).toNat=r.l.length - 1:=by omega
 have e3:((k:Int)+1).toNat=k+1:=by omega
 have h0: ¬((k:Int) < 0):=by omega
 have hd:=fun R=>(aCt r.l k hkl R (r.l.drop (r.l.length - 1))).resolve_right (by rw [List.length_drop]; omega);simp only [zz,H.hcp,H.iZ,H.hR,H.hk,has_is r th hb,dK r th hb,hp,hw,e1,e2,e3,h0,kT,aX,Int.toNat_natCast,hd,Ox,aA,AP,fA,dG,dF,bU,bT,dL,act,Int.reduceEq,Gl] <;> (repeat' split) <;> first | rfl | (exfalso; omega)
abbrev zt7:T Lf:=(sp (.eq (bD 3) (.aO 3)) wP (sp (.eq (rr 900 [bD 7,.aO 3] 0) (.lit 0)) (sp (.eq (ln (bD 7)) (.lit 0)) (sp (.lt (bD 3) (.lit 0)) (lU (bD 2) (mk (.aO 3)) (mk (bD 4)) bt (mk (bD 6)) (bD 7) (bD 8) (.lit 0) 2) DL) DL) wP))
theorem sm8 (H:TH d0 d1 s th 7 obj arg tries o c dn g r v) (hr:0 < r.l.length):dY (dH d0 d1 s th 7 obj arg tries) zt7=Gl d0 s th 7 obj arg tries o c dn g r v:=by
 have hb:=H.hb;simp only [zz,H.hcp,H.iZ,H.hR,H.hk,has_is r th hb,dK r th hb,aA,AP,fA,dG,dF,bU,bT,dL,act,Int.reduceEq,Gl] <;> (repeat' split) <;> first | rfl | (exfalso; omega)
abbrev zt8:T Lf:=(sp (.lt (.lit 0) (bD 4)) (lU (bD 2) (mk (bD 3)) (mk (wr (.sub (bD 4) (.lit 1)))) bt (mk (bD 6)) (bD 7) (bD 8) (.lit 0) 2) DL)
theorem sm9 (H:TH d0 d1 s th 9 obj arg tries o c dn g r v):dY (dH d0 d1 s th 9 obj arg tries) zt8=Gl d0 s th 9 obj arg tries o c dn g r v:=by
 have hb:=H.hb;simp only [zz,H.hcp,H.iZ,H.hR,H.hk,has_is r th hb,dK r th hb,aA,AP,fA,dG,dF,bU,bT,dL,act,Int.reduceEq,Gl] <;> (repeat' split) <;> first | rfl | (exfalso; omega)
abbrev zt9:T Lf:=(sp (.lt (.lit 0) (bD 4)) (lU (bD 2) (mk (bD 3)) (mk (wr (.sub (bD 4) (.lit 1)))) bt (mk (bD 6)) (bD 7) (bD 8) (.lit 1) 2) (lU (bD 2) (mk (bD 3)) (mk (bD 4)) bt (mk (bD 6)) (bD 7) (bD 8) (.lit 0) 2))
theorem aEX (H:TH d0 d1 s th 11 obj arg tries o c dn g r v):dY (dH d0 d1 s th 11 obj arg tries) zt9=Gl d0 s th 11 obj arg tries o c dn g r v:=by
 have hb:=H.hb;simp only [zz,H.hcp,H.iZ,H.hR,H.hk,has_is r th hb,dK r th hb,aA,AP,fA,dG,dF,bU,bT,dL,act,Int.reduceEq,Gl] <;> (repeat' split) <;> first | rfl | (exfalso; omega)
abbrev aCJ:T Lf:=(sp (.lt (bD 4) Y2) (lU (bD 2) (mk (bD 3)) (mk (wr (.add (bD 4) (.lit 1)))) bt (mk (bD 6)) (bD 7) (bD 8) (.lit 0) 2) wP)
theorem aEW (H:TH d0 d1 s th 10 obj arg tries o c dn g r v):dY (dH d0 d1 s th 10 obj arg tries) aCJ=Gl d0 s th 10 obj arg tries o c dn g r v:=by
 have hb:=H.hb;simp only [zz,H.hcp,H.iZ,H.hR,H.hk,has_is r th hb,dK r th hb,aA,AP,fA,dG,dF,bU,bT,dL,act,Int.reduceEq,Gl] <;> (repeat' split) <;> first | rfl | (exfalso; omega)
abbrev aCI:T Lf:=(sp (.lt (.aO 6) (wr (.sub (.lit 0) (bD 4)))) wP (sp (.lt (wr (.sub (.lit 1099511627776) (bD 4))) (.aO 6)) wP (lU (bD 2) (mk (bD 3)) (mk (wr (.add (bD 4) (.aO 6)))) bt (mk (bD 6)) (bD 7) (bD 8) (wr (.add (bD 4) (.aO 6))) 2)))
theorem aEV (H:TH d0 d1 s th 17 obj arg tries o c dn g r v):dY (dH d0 d1 s th 17 obj arg tries) aCI=Gl d0 s th 17 obj arg tries o c dn g r v:=by
 have hb:=H.hb;simp only [zz,H.hcp,H.iZ,H.hR,H.hk,has_is r th hb,dK r th hb,aA,AP,fA,dG,dF,bU,bT,dL,act,Int.reduceEq,Gl] <;> (repeat' split) <;> first | rfl | (exfalso; omega)
abbrev aCH:T Lf:=(sp (.lt (.lit 0) (bD 4)) (lU (bD 2) (mk (bD 3)) (mk (wr (.sub (bD 4) (.lit 1)))) bt (mk (bD 6)) (bD 7) (bD 8) (wr (.sub (bD 4) (.lit 1))) 2) wP)
theorem aEU (H:TH d0 d1 s th 18 obj arg tries o c dn g r v):dY (dH d0 d1 s th 18 obj arg tries) aCH=Gl d0 s th 18 obj arg tries o c dn g r v:=by
 have hb:=H.hb;simp only [zz,H.hcp,H.iZ,H.hR,H.hk,has_is r th hb,dK r th hb,aA,AP,fA,dG,dF,bU,bT,dL,act,Int.reduceEq,Gl] <;> (repeat' split) <;> first | rfl | (exfalso; omega)
abbrev aCG:T Lf:=(sp (.eq (bD 4) (.lit 0)) (lU (bD 2) (mk (bD 3)) (mk (bD 4)) bt (mk (bD 6)) (bD 7) (bD 8) (.lit 0) 2) DL)
theorem aET (H:TH d0 d1 s th 19 obj arg tries o c dn g r v):dY (dH d0 d1 s th 19 obj arg tries) aCG=Gl d0 s th 19 obj arg tries o c dn g r v:=by
 have hb:=H.hb;simp only [zz,H.hcp,H.iZ,H.hR,H.hk,has_is r th hb,dK r th hb,aA,AP,fA,dG,dF,bU,bT,dL,act,Int.reduceEq,Gl] <;> (repeat' split) <;> first | rfl | (exfalso; omega)
abbrev aCF:T Lf:=(lU (bD 2) (mk (bD 3)) (mk (bD 4)) bt (mk (bD 6)) (bD 7) (bD 8) (bD 4) 2)
theorem aES (H:TH d0 d1 s th 22 obj arg tries o c dn g r v):dY (dH d0 d1 s th 22 obj arg tries) aCF=Gl d0 s th 22 obj arg tries o c dn g r v:=by
 have hb:=H.hb;simp only [zz,H.hcp,H.iZ,H.hR,H.hk,has_is r th hb,dK r th hb,aA,AP,fA,dG,dF,bU,bT,dL,act,Int.reduceEq,Gl] <;> (repeat' split) <;> first | rfl | (exfalso; omega)
abbrev aCE:T Lf:=(lU (bD 2) (mk (bD 3)) (mk (.aO 6)) bt (mk (bD 6)) (bD 7) (bD 8) (.aO 6) 2)
theorem aER (H:TH d0 d1 s th 23 obj arg tries o c dn g r v):dY (dH d0 d1 s th 23 obj arg tries) aCE=Gl d0 s th 23 obj arg tries o c dn g r v:=by
 have hb:=H.hb;simp only [zz,H.hcp,H.iZ,H.hR,H.hk,has_is r th hb,dK r th hb,aA,AP,fA,dG,dF,bU,bT,dL,act,Int.reduceEq,Gl] <;> (repeat' split) <;> first | rfl | (exfalso; omega)
abbrev aAu:T Lf:=(sp (.lt (ln (bD 8)) Y2) (lU (bD 2) (mk (bD 3)) (mk (bD 4)) bt (mk (bD 6)) (bD 7) (.op .snoc (bD 8) (mk (.aO 6))) (.aO 6) 2) DL)
theorem aC9 (H:TH d0 d1 s th 20 obj arg tries o c dn g r v) (hv:0 < v.l.length):dY (dH d0 d1 s th 20 obj arg tries) aAu=Gl d0 s th 20 obj arg tries o c dn g r v:=by
 have hb:=H.hb;simp only [zz,H.hcp,H.iZ,H.hR,H.hk,has_is r th hb,dK r th hb,yL,List.nil_append,aA,AP,fA,dG,dF,bU,bT,dL,act,Int.reduceEq,Gl] <;> (repeat' split) <;> first | rfl | (exfalso; omega)
abbrev aAt:T Lf:=(sp (.eq (ln (bD 8)) (.lit 0)) DL (lU (bD 2) (mk (bD 3)) (mk (bD 4)) bt (mk (bD 6)) (bD 7) (.op .drop (.op .take (bD 8) (.add (.lit 1) (.sub (ln (bD 8)) (.lit 1)))) (.lit 1)) (nm (el (bD 8) (.lit 0))) 2))
theorem aC8 (H:TH d0 d1 s th 21 obj arg tries o c dn g r v) (hv:0 < v.l.length):dY (dH d0 d1 s th 21 obj arg tries) aAt=Gl d0 s th 21 obj arg tries o c dn g r v:=by
 have hb:=H.hb;simp only [zz,H.hcp,H.iZ,H.hR,H.hk,has_is r th hb,dK r th hb,aaG v hv,aA,AP,fA,dG,dF,bU,bT,dL,act,Int.reduceEq,Gl] <;> (repeat' split) <;> first | rfl | (exfalso; omega)
abbrev aAs:T Lf:=(sp (.eq (nm (ce 0 (el (bD 2) Y2))) (.aO 3)) (lU (aeP (.dat (.i (-1)))) (mk (bD 3)) (mk (bD 4)) bt (mk (bD 6)) (.op .snoc (bD 7) (mk (.aO 3))) (bD 8) (.lit 0) 3) wP)
theorem aC7 (H:TH d0 d1 s th 12 obj arg tries o c dn g r v) (hr:0 < r.l.length) (hw:wo th r.l=r.l):dY (dH d0 d1 s th 12 obj arg tries) aAs=Gl d0 s th 12 obj arg tries o c dn g r v:=by
 have hb:=H.hb;simp only [zz,H.hcp,H.iZ,H.hR,H.hk,has_is r th hb,dK r th hb,hw,aX,yL,List.nil_append,aA,AP,fA,dG,dF,bU,bT,dL,act,Int.reduceEq,Gl] <;> (repeat' split) <;> first | rfl | (exfalso; omega)
abbrev aCD:T Lf:=(sp (.eq (nm (ce 0 (el (bD 2) Y2))) (.aO 3)) (lU (aeP (.dat (.i (-1)))) (mk (bD 3)) (mk (bD 4)) bt (mk (bD 6)) (.op .take (.op .cat (.op .cat (.op .take (rr 12000 xA 15) (rr 12000 xA 14)) (.op .snoc (.dat (.i 0)) (mk (.aO 3)))) (.op .drop (rr 12000 xA 15) (.add (rr 12000 xA 14) (.lit 1)))) (.add (rr 12000 xA 14) (.lit 1))) (bD 8) (.lit 0) 3) wP)
theorem aEQ (H:TH d0 d1 s th 12 obj arg tries o c dn g r v) (hr:0 < r.l.length) (hv:0 < v.l.length) {n:Nat} {r1:D} (hn:n < r.l.length) (hl:r1.l.length=r.l.length) (hw:r1.l.take n=wo th r.l) (hd:L 12000 (dA d0 s r v th 12 obj arg tries o c dn g)=some (1 :: ((dA d0 s r v th 12 obj arg tries o c dn g)++ [(n:Int),enc r1,(r.l.length:Int)]))):dY (dH d0 d1 s th 12 obj arg tries) aCD=Gl d0 s th 12 obj arg tries o c dn g r v:=by
 have hb:=H.hb;have e3:((n:Int)+1).toNat=n+1:=by omega
 have hA: ∀B,(wo th r.l++ [D.i th]++B).take (n+1)=wo th r.l++ [.i th]:=fun B=>by
  have:(wo th r.l++ [D.i th]).length=n+1:=by rw [← hw]; simp only [List.length_append,List.length_take,List.length_cons,List.length_nil]; omega
  rw [List.take_append_of_le_length (by omega),List.take_of_length_le (by omega)]
 have hB:wo th r.l++ [D.i th]≠[]:=by simp
 simp only [zz,H.hcp,H.iZ,H.hR,H.hk,has_is r th hb,dK r th hb,hd,List.cons_append,e3,l_p,kT,aX,yL,List.nil_append,Int.toNat_natCast,hw,hA,Ox,GL hB,aA,AP,fA,dG,dF,bU,bT,dL,act,Int.reduceEq,Gl] <;> (repeat' split) <;> first | rfl | (exfalso; omega)
abbrev aAr:T Lf:=(sp (.eq (ln (bD 7)) (.lit 0)) (lU (bD 2) (mk (bD 3)) (mk (bD 4)) bt (mk (bD 6)) (bD 7) (bD 8) (.lit 0) 2) (lU (bD 2) (mk (bD 3)) (mk (bD 4)) bt (mk (bD 6)) (.op .drop (.op .take (bD 7) (.add (.lit 1) (.sub (ln (bD 7)) (.lit 1)))) (.lit 1)) (bD 8) (wr (.add (nm (el (bD 7) (.lit 0))) (.lit 1))) 2))
theorem aC6 (H:TH d0 d1 s th 13 obj arg tries o c dn g r v) (hr:0 < r.l.length):dY (dH d0 d1 s th 13 obj arg tries) aAr=Gl d0 s th 13 obj arg tries o c dn g r v:=by
 have hb:=H.hb;simp only [zz,H.hcp,H.iZ,H.hR,H.hk,has_is r th hb,dK r th hb,aaG r hr,yL,List.nil_append,aA,AP,fA,dG,dF,bU,bT,dL,act,Int.reduceEq,Gl] <;> (repeat' split) <;> first | rfl | (exfalso; omega)
abbrev aAq:T Lf:=(lU (bD 2) (mk (bD 3)) (mk (bD 4)) bt (mk (bD 6)) (.dat (.i 1)) (bD 8) (ln (bD 7)) 2)
theorem aC5 (H:TH d0 d1 s th 14 obj arg tries o c dn g r v) (hr:0 < r.l.length):dY (dH d0 d1 s th 14 obj arg tries) aAq=Gl d0 s th 14 obj arg tries o c dn g r v:=by
 have hb:=H.hb;simp only [zz,H.hcp,H.iZ,H.hR,H.hk,has_is r th hb,dK r th hb,yL,List.nil_append,aA,AP,fA,dG,dF,bU,bT,dL,act,Int.reduceEq,Gl] <;> (repeat' split) <;> first | rfl | (exfalso; omega)
abbrev ahC:T Lf:=(sp (.eq (rr 900 [bD 7,.aO 3] 0) (.lit 0)) (sp (.lt (nm (ce 0 (el (bD 2) Y2))) (.lit 0)) (lU (aeP (mk (.aO 3))) (mk (bD 3)) (mk (bD 4)) bt (mk (bD 6)) (bD 7) (bD 8) (.lit 0) 2) DL) DL)
theorem asY (H:TH d0 d1 s th 24 obj arg tries o c dn g r v):dY (dH d0 d1 s th 24 obj arg tries) ahC=Gl d0 s th 24 obj arg tries o c dn g r v:=by
 have hb:=H.hb;simp only [zz,H.hcp,H.iZ,H.hR,H.hk,has_is r th hb,dK r th hb,aX,yL,List.nil_append,aA,AP,fA,dG,dF,bU,bT,dL,act,Int.reduceEq,Gl] <;> (repeat' split) <;> first | rfl | (exfalso; omega)
abbrev aCC:T Lf:=(sp (.lt (bD 6) (.lit 4611686018427387904)) (sp (.eq (wr (.add (bD 4) (.lit 1))) Y2) (lU (bD 2) (mk (bD 3)) (.dat (.i 0)) bt (mk (wr (.add (bD 6) (.lit 1)))) (bD 7) (bD 8) (bD 6) 3) (lU (bD 2) (mk (bD 3)) (mk (wr (.add (bD 4) (.lit 1)))) bt (mk (bD 6)) (bD 7) (bD 8) (bD 6) 3)) wP)
theorem aEP (H:TH d0 d1 s th 15 obj arg tries o c dn g r v):dY (dH d0 d1 s th 15 obj arg tries) aCC=Gl d0 s th 15 obj arg tries o c dn g r v:=by
 have hb:=H.hb;simp only [zz,H.hcp,H.iZ,H.hR,H.hk,has_is r th hb,dK r th hb,aA,AP,fA,dG,dF,bU,bT,dL,act,Int.reduceEq,Gl] <;> (repeat' split) <;> first | rfl | (exfalso; omega)
abbrev aCB:T Lf:=(sp (.lt (.aO 6) (bD 6)) (lU (bD 2) (mk (bD 3)) (mk (bD 4)) bt (mk (bD 6)) (bD 7) (bD 8) (.aO 6) 2) DL)
theorem aEO (H:TH d0 d1 s th 25 obj arg tries o c dn g r v):dY (dH d0 d1 s th 25 obj arg tries) aCB=Gl d0 s th 25 obj arg tries o c dn g r v:=by
 have hb:=H.hb;simp only [zz,H.hcp,H.iZ,H.hR,H.hk,has_is r th hb,dK r th hb,aA,AP,fA,dG,dF,bU,bT,dL,act,Int.reduceEq,Gl] <;> (repeat' split) <;> first | rfl | (exfalso; omega)
abbrev aCA:T Lf:=(sp (.eq (bD 5) (.lit 0)) (sp (.eq (bD 3) (.aO 3)) wP (sp (.lt (bD 3) (.lit 0)) (lU (bD 2) (mk (.aO 3)) (mk (bD 4)) bt (mk (bD 6)) (bD 7) (bD 8) (.lit 1) 2) DL)) (lU (bD 2) (mk (bD 3)) (mk (bD 4)) bt (mk (bD 6)) (bD 7) (bD 8) (.lit 0) 2))
theorem aEN (H:TH d0 d1 s th 16 obj arg tries o c dn g r v):dY (dH d0 d1 s th 16 obj arg tries) aCA=Gl d0 s th 16 obj arg tries o c dn g r v:=by
 have hb:=H.hb;simp only [zz,H.hcp,H.iZ,H.hR,H.hk,has_is r th hb,dK r th hb,aA,AP,fA,dG,dF,bU,bT,dL,act,Int.reduceEq,Gl] <;> (repeat' split) <;> first | rfl | (exfalso; omega)
abbrev aCz:T Lf:=(sp (.eq (bD 3) (.aO 3)) (lU (bD 2) (.dat (.i (-1))) (mk (bD 4)) (.dat (.i 1)) (mk (bD 6)) (bD 7) (bD 8) (.lit 0) 2) wP)
theorem aEM (H:TH d0 d1 s th 26 obj arg tries o c dn g r v):dY (dH d0 d1 s th 26 obj arg tries) aCz=Gl d0 s th 26 obj arg tries o c dn g r v:=by
 have hb:=H.hb;simp only [zz,H.hcp,H.iZ,H.hR,H.hk,has_is r th hb,dK r th hb,aA,AP,fA,dG,dF,bU,bT,dL,act,Int.reduceEq,Gl] <;> (repeat' split) <;> first | rfl | (exfalso; omega)
abbrev aAp:T Lf:=(sp (.lt (.lit 0) Y2) (lU (bD 2) (mk (bD 3)) (mk (bD 4)) bt (mk (bD 6)) (bD 7) (.op .snoc (.dat (.i 0)) (mk (.aO 6))) (.aO 6) 2) DL)
theorem aC4 (H:TH d0 d1 s th 20 obj arg tries o c dn g r v) (hv:v.l= []):dY (dH d0 d1 s th 20 obj arg tries) aAp=Gl d0 s th 20 obj arg tries o c dn g r v:=by
 have hb:=H.hb;have hz2:((0:Nat):Int)=0:=rfl;simp only [zz,H.hcp,H.iZ,H.hR,H.hk,has_is r th hb,dK r th hb,hv,List.length_nil,List.nil_append,hz2,yL,aA,AP,fA,dG,dF,bU,bT,dL,act,Int.reduceEq,Gl] <;> (repeat' split) <;> first | rfl | (exfalso; omega)
abbrev aAo:T Lf:=DL
theorem aC3 (H:TH d0 d1 s th 21 obj arg tries o c dn g r v) (hv:v.l= []):dY (dH d0 d1 s th 21 obj arg tries) aAo=Gl d0 s th 21 obj arg tries o c dn g r v:=by
 have hb:=H.hb;have hz2:((0:Nat):Int)=0:=rfl;simp only [zz,H.hcp,H.iZ,H.hR,H.hk,has_is r th hb,dK r th hb,hv,List.length_nil,List.nil_append,hz2,aA,AP,fA,dG,dF,bU,bT,dL,act,Int.reduceEq,Gl] <;> (repeat' split) <;> first | rfl | (exfalso; omega)
abbrev aCy:T Lf:=(sp (.eq (nm (ce 0 (el (bD 2) Y2))) (.aO 3)) (lU (aeP (.dat (.i (-1)))) (mk (bD 3)) (mk (bD 4)) bt (mk (bD 6)) (.op .take (.op .cat (.op .cat (.op .take (rr 12100 xA 15) (rr 12100 xA 14)) (.op .snoc (.dat (.i 0)) (mk (.aO 3)))) (.op .drop (rr 12100 xA 15) (.add (rr 12100 xA 14) (.lit 1)))) (.add (rr 12100 xA 14) (.lit 1))) (bD 8) (.lit 0) 3) wP)
theorem aEL (H:TH d0 d1 s th 12 obj arg tries o c dn g r v) (hr:0 < r.l.length) (hv:v.l= []) {n:Nat} {r1:D} (hn:n < r.l.length) (hl:r1.l.length=r.l.length) (hw:r1.l.take n=wo th r.l) (hd:L 12100 (dA d0 s r v th 12 obj arg tries o c dn g)=some (1 :: ((dA d0 s r v th 12 obj arg tries o c dn g)++ [(n:Int),enc r1,(r.l.length:Int)]))):dY (dH d0 d1 s th 12 obj arg tries) aCy=Gl d0 s th 12 obj arg tries o c dn g r v:=by
 have hb:=H.hb;have hz2:((0:Nat):Int)=0:=rfl;have e3:((n:Int)+1).toNat=n+1:=by omega
 have hA: ∀B,(wo th r.l++ [D.i th]++B).take (n+1)=wo th r.l++ [.i th]:=fun B=>by
  have:(wo th r.l++ [D.i th]).length=n+1:=by rw [← hw]; simp only [List.length_append,List.length_take,List.length_cons,List.length_nil]; omega
  rw [List.take_append_of_le_length (by omega),List.take_of_length_le (by omega)]
 have hB:wo th r.l++ [D.i th]≠[]:=by simp
 simp only [zz,H.hcp,H.iZ,H.hR,H.hk,has_is r th hb,dK r th hb,hv,List.length_nil,List.nil_append,hz2,hd,List.cons_append,e3,l_p,kT,aX,yL,Int.toNat_natCast,hw,hA,Ox,GL hB,aA,AP,fA,dG,dF,bU,bT,dL,act,Int.reduceEq,Gl] <;> (repeat' split) <;> first | rfl | (exfalso; omega)
abbrev aAn:T Lf:=(sp (.eq (bD 3) (.aO 3)) wP (sp (.eq (rr 900 [bD 7,.aO 3] 0) (.lit 0)) (sp (.lt (bD 3) (.lit 0)) (lU (bD 2) (mk (bD 3)) (mk (bD 4)) bt (mk (bD 6)) (.op .snoc (.dat (.i 0)) (mk (.aO 3))) (bD 8) (.lit 0) 2) DL) wP))
theorem aC2 (H:TH d0 d1 s th 5 obj arg tries o c dn g r v) (hr:r.l= []):dY (dH d0 d1 s th 5 obj arg tries) aAn=Gl d0 s th 5 obj arg tries o c dn g r v:=by
 have hb:=H.hb;have hz:((0:Nat):Int)=0:=rfl;simp only [zz,H.hcp,H.iZ,H.hR,H.hk,has_is r th hb,dK r th hb,hr,List.length_nil,List.nil_append,hz,yL,aA,AP,fA,dG,dF,bU,bT,dL,act,Int.reduceEq,Gl] <;> (repeat' split) <;> first | rfl | (exfalso; omega)
theorem aC1 (H:TH d0 d1 s th 7 obj arg tries o c dn g r v) (hr:r.l= []):dY (dH d0 d1 s th 7 obj arg tries) zt0=Gl d0 s th 7 obj arg tries o c dn g r v:=by
 have hb:=H.hb;have hz:((0:Nat):Int)=0:=rfl;simp only [zz,H.hcp,H.iZ,H.hR,H.hk,has_is r th hb,dK r th hb,hr,List.length_nil,List.nil_append,hz,aA,AP,fA,dG,dF,bU,bT,dL,act,Int.reduceEq,Gl] <;> (repeat' split) <;> first | rfl | (exfalso; omega)
abbrev aAm:T Lf:=(sp (.eq (nm (ce 0 (el (bD 2) Y2))) (.aO 3)) (lU (aeP (.dat (.i (-1)))) (mk (bD 3)) (mk (bD 4)) bt (mk (bD 6)) (.op .snoc (.dat (.i 0)) (mk (.aO 3))) (bD 8) (.lit 0) 3) wP)
theorem aC0 (H:TH d0 d1 s th 12 obj arg tries o c dn g r v) (hr:r.l= []):dY (dH d0 d1 s th 12 obj arg tries) aAm=Gl d0 s th 12 obj arg tries o c dn g r v:=by
 have hb:=H.hb;have hz:((0:Nat):Int)=0:=rfl;simp only [zz,H.hcp,H.iZ,H.hR,H.hk,has_is r th hb,dK r th hb,hr,List.length_nil,List.nil_append,hz,aAv hr,aX,yL,aA,AP,fA,dG,dF,bU,bT,dL,act,Int.reduceEq,Gl] <;> (repeat' split) <;> first | rfl | (exfalso; omega)
abbrev aAl:T Lf:=(lU (bD 2) (mk (bD 3)) (mk (bD 4)) bt (mk (bD 6)) (bD 7) (bD 8) (.lit 0) 2)
theorem aCZ (H:TH d0 d1 s th 13 obj arg tries o c dn g r v) (hr:r.l= []):dY (dH d0 d1 s th 13 obj arg tries) aAl=Gl d0 s th 13 obj arg tries o c dn g r v:=by
 have hb:=H.hb;have hz:((0:Nat):Int)=0:=rfl;simp only [zz,H.hcp,H.iZ,H.hR,H.hk,has_is r th hb,dK r th hb,hr,List.length_nil,List.nil_append,hz,yL,aA,AP,fA,dG,dF,bU,bT,dL,act,Int.reduceEq,Gl] <;> (repeat' split) <;> first | rfl | (exfalso; omega)
abbrev aAk:T Lf:=(lU (bD 2) (mk (bD 3)) (mk (bD 4)) bt (mk (bD 6)) (.dat (.i 1)) (bD 8) (.lit 0) 2)
theorem aCY (H:TH d0 d1 s th 14 obj arg tries o c dn g r v) (hr:r.l= []):dY (dH d0 d1 s th 14 obj arg tries) aAk=Gl d0 s th 14 obj arg tries o c dn g r v:=by
 have hb:=H.hb;have hz:((0:Nat):Int)=0:=rfl;simp only [zz,H.hcp,H.iZ,H.hR,H.hk,has_is r th hb,dK r th hb,hr,List.length_nil,List.nil_append,hz,yL,aA,AP,fA,dG,dF,bU,bT,dL,act,Int.reduceEq,Gl] <;> (repeat' split) <;> first | rfl | (exfalso; omega)
end
end Go.As.Try
end
section
namespace Go.As.Try
open Go hiding Stat Spec shape
open Go.As
set_option maxRecDepth 100000
def ops:List Int:=[1,2,8,3,4,5,6,7,9,11,10,17,18,19,22,23,20,21,12,13,14,24,15,25,16,26]
abbrev Yo (k:Int):List SB:=[.eq (.aO 4) (.lit k)]
abbrev No (k:Int):List SB:=(ops.filter fun j=>!(j == k)).map fun j=> .eq (.aO 4) (.lit j)
abbrev p3:T Lf:=prune (YG++YA3) (NG++NA3) kP
abbrev p4:T Lf:=prune (YG++YA4) (NG++NA4) kP
abbrev p5:T Lf:=prune (YG++YA5) (NG++NA5) kP
abbrev p6:T Lf:=prune (YG++YA6) (NG++NA6) kP
section
variable {d0 d1 s r v:D} {th op obj arg tries o c dn g:Int}
theorem ahF {ρ:Nat→Int}: ∀{l:List SB},(∀c∈l,¬c.den ρ=true)→zW ρ l
 | [],_=>trivial
 | c :: l,h=> ⟨h c (by simp),ahF fun x hx=>h x (List.mem_cons_of_mem _ hx)⟩
theorem fO (k:Int):zY (dH d0 d1 s th k obj arg tries) (Yo k)∧zW (dH d0 d1 s th k obj arg tries) (No k):=by refine⟨by simp only [zz],ahF fun c hc=>?_⟩;obtain⟨j,hj,rfl⟩:=List.mem_map.1 hc;have:=(List.mem_filter.1 hj).2;simp only [zz];intro h;subst h;simp at this
theorem sp3 (H:TH d0 d1 s th op obj arg tries o c dn g r v) (hr:0 < r.l.length) (hv:0 < v.l.length):dY (dH d0 d1 s th op obj arg tries) p3=dY (dH d0 d1 s th op obj arg tries) kP:=dJ (z2 (fG H) (fA3 H hr hv)) kP
theorem sp4 (H:TH d0 d1 s th op obj arg tries o c dn g r v) (hr:0 < r.l.length) (hv:v.l= []):dY (dH d0 d1 s th op obj arg tries) p4=dY (dH d0 d1 s th op obj arg tries) kP:=dJ (z2 (fG H) (fA4 H hr hv)) kP
theorem sp5 (H:TH d0 d1 s th op obj arg tries o c dn g r v) (hr:r.l= []) (hv:0 < v.l.length):dY (dH d0 d1 s th op obj arg tries) p5=dY (dH d0 d1 s th op obj arg tries) kP:=dJ (z2 (fG H) (fA5 H hr hv)) kP
theorem sp6 (H:TH d0 d1 s th op obj arg tries o c dn g r v) (hr:r.l= []) (hv:v.l= []):dY (dH d0 d1 s th op obj arg tries) p6=dY (dH d0 d1 s th op obj arg tries) kP:=dJ (z2 (fG H) (fA6 H hr hv)) kP
theorem kH {k:Int} {t u:T Lf} {Q:RS} (e:prune (Yo k) (No k) t=u) (h:dY (dH d0 d1 s th k obj arg tries) u=Q):dY (dH d0 d1 s th k obj arg tries) t=Q:=by rw [← dJ (fO k) t,e,h]
theorem kJ (H:TH d0 d1 s th op obj arg tries o c dn g r v) {u:T Lf} {Q:RS} (e3:prune (Yo op) (No op) p3=u) (e4:prune (Yo op) (No op) p4=u) (e5:prune (Yo op) (No op) p5=u) (e6:prune (Yo op) (No op) p6=u) (h:dY (dH d0 d1 s th op obj arg tries) u=Q):dY (dH d0 d1 s th op obj arg tries) kP=Q:=by
 rcases kU r.l with hr | hr <;> rcases kU v.l with hv | hv
 ·exact (sp6 H hr hv).symm.trans (kH e6 h)
 ·exact (sp5 H hr hv).symm.trans (kH e5 h)
 ·exact (sp4 H hr hv).symm.trans (kH e4 h)
 ·exact (sp3 H hr hv).symm.trans (kH e3 h)
theorem o1 (H:TH d0 d1 s th 1 obj arg tries o c dn g r v):dY (dH d0 d1 s th 1 obj arg tries) kP=Gl d0 s th 1 obj arg tries o c dn g r v:=kJ H (u:=zt0) (by kernel_rfl) (by kernel_rfl) (by kernel_rfl) (by kernel_rfl) (sm0 H)
theorem o2 (H:TH d0 d1 s th 2 obj arg tries o c dn g r v):dY (dH d0 d1 s th 2 obj arg tries) kP=Gl d0 s th 2 obj arg tries o c dn g r v:=kJ H (u:=zt1) (by kernel_rfl) (by kernel_rfl) (by kernel_rfl) (by kernel_rfl) (sm1 H)
theorem o8 (H:TH d0 d1 s th 8 obj arg tries o c dn g r v):dY (dH d0 d1 s th 8 obj arg tries) kP=Gl d0 s th 8 obj arg tries o c dn g r v:=kJ H (u:=zt1) (by kernel_rfl) (by kernel_rfl) (by kernel_rfl) (by kernel_rfl) (sm2 H)
theorem o3 (H:TH d0 d1 s th 3 obj arg tries o c dn g r v):dY (dH d0 d1 s th 3 obj arg tries) kP=Gl d0 s th 3 obj arg tries o c dn g r v:=kJ H (u:=zt2) (by kernel_rfl) (by kernel_rfl) (by kernel_rfl) (by kernel_rfl) (sm3 H)
theorem o4 (H:TH d0 d1 s th 4 obj arg tries o c dn g r v):dY (dH d0 d1 s th 4 obj arg tries) kP=Gl d0 s th 4 obj arg tries o c dn g r v:=kJ H (u:=zt3) (by kernel_rfl) (by kernel_rfl) (by kernel_rfl) (by kernel_rfl) (sm4 H)
theorem o5 (H:TH d0 d1 s th 5 obj arg tries o c dn g r v):dY (dH d0 d1 s th 5 obj arg tries) kP=Gl d0 s th 5 obj arg tries o c dn g r v:=by
 rcases kU r.l with hr | hr <;> rcases kU v.l with hv | hv
 ·exact (sp6 H hr hv).symm.trans (kH (u:=aAn) (by kernel_rfl) (aC2 H hr))
 ·exact (sp5 H hr hv).symm.trans (kH (u:=aAn) (by kernel_rfl) (aC2 H hr))
 ·exact (sp4 H hr hv).symm.trans (kH (u:=zt4) (by kernel_rfl) (sm5 H hr))
 ·exact (sp3 H hr hv).symm.trans (kH (u:=zt4) (by kernel_rfl) (sm5 H hr))
theorem o6 (H:TH d0 d1 s th 6 obj arg tries o c dn g r v):dY (dH d0 d1 s th 6 obj arg tries) kP=Gl d0 s th 6 obj arg tries o c dn g r v:=by
 rcases kU r.l with hr | hr <;> rcases kU v.l with hv | hv
 ·exact (sp6 H hr hv).symm.trans (kH (u:=zt5) (by kernel_rfl) (sm6 H (by rw [CY hr]; omega)))
 ·exact (sp5 H hr hv).symm.trans (kH (u:=zt5) (by kernel_rfl) (sm6 H (by rw [CY hr]; omega)))
 ·by_cases hk:place r th < 0
  ·exact (sp4 H hr hv).symm.trans ((dJ (fK0 H hk) _).symm.trans (kH (u:=zt5) (by kernel_rfl) (sm6 H hk)))
  ·exact (sp4 H hr hv).symm.trans ((dJ (fK1 H hk) _).symm.trans (kH (u:=zt6) (by kernel_rfl) (sm7 H hr hk)))
 ·by_cases hk:place r th < 0
  ·exact (sp3 H hr hv).symm.trans ((dJ (fK0 H hk) _).symm.trans (kH (u:=zt5) (by kernel_rfl) (sm6 H hk)))
  ·exact (sp3 H hr hv).symm.trans ((dJ (fK1 H hk) _).symm.trans (kH (u:=zt6) (by kernel_rfl) (sm7 H hr hk)))
theorem o7 (H:TH d0 d1 s th 7 obj arg tries o c dn g r v):dY (dH d0 d1 s th 7 obj arg tries) kP=Gl d0 s th 7 obj arg tries o c dn g r v:=by
 rcases kU r.l with hr | hr <;> rcases kU v.l with hv | hv
 ·exact (sp6 H hr hv).symm.trans (kH (u:=zt0) (by kernel_rfl) (aC1 H hr))
 ·exact (sp5 H hr hv).symm.trans (kH (u:=zt0) (by kernel_rfl) (aC1 H hr))
 ·exact (sp4 H hr hv).symm.trans (kH (u:=zt7) (by kernel_rfl) (sm8 H hr))
 ·exact (sp3 H hr hv).symm.trans (kH (u:=zt7) (by kernel_rfl) (sm8 H hr))
theorem o9 (H:TH d0 d1 s th 9 obj arg tries o c dn g r v):dY (dH d0 d1 s th 9 obj arg tries) kP=Gl d0 s th 9 obj arg tries o c dn g r v:=kJ H (u:=zt8) (by kernel_rfl) (by kernel_rfl) (by kernel_rfl) (by kernel_rfl) (sm9 H)
theorem o11 (H:TH d0 d1 s th 11 obj arg tries o c dn g r v):dY (dH d0 d1 s th 11 obj arg tries) kP=Gl d0 s th 11 obj arg tries o c dn g r v:=kJ H (u:=zt9) (by kernel_rfl) (by kernel_rfl) (by kernel_rfl) (by kernel_rfl) (aEX H)
theorem o10 (H:TH d0 d1 s th 10 obj arg tries o c dn g r v):dY (dH d0 d1 s th 10 obj arg tries) kP=Gl d0 s th 10 obj arg tries o c dn g r v:=kJ H (u:=aCJ) (by kernel_rfl) (by kernel_rfl) (by kernel_rfl) (by kernel_rfl) (aEW H)
theorem o17 (H:TH d0 d1 s th 17 obj arg tries o c dn g r v):dY (dH d0 d1 s th 17 obj arg tries) kP=Gl d0 s th 17 obj arg tries o c dn g r v:=kJ H (u:=aCI) (by kernel_rfl) (by kernel_rfl) (by kernel_rfl) (by kernel_rfl) (aEV H)
theorem o18 (H:TH d0 d1 s th 18 obj arg tries o c dn g r v):dY (dH d0 d1 s th 18 obj arg tries) kP=Gl d0 s th 18 obj arg tries o c dn g r v:=kJ H (u:=aCH) (by kernel_rfl) (by kernel_rfl) (by kernel_rfl) (by kernel_rfl) (aEU H)
theorem o19 (H:TH d0 d1 s th 19 obj arg tries o c dn g r v):dY (dH d0 d1 s th 19 obj arg tries) kP=Gl d0 s th 19 obj arg tries o c dn g r v:=kJ H (u:=aCG) (by kernel_rfl) (by kernel_rfl) (by kernel_rfl) (by kernel_rfl) (aET H)
theorem o22 (H:TH d0 d1 s th 22 obj arg tries o c dn g r v):dY (dH d0 d1 s th 22 obj arg tries) kP=Gl d0 s th 22 obj arg tries o c dn g r v:=kJ H (u:=aCF) (by kernel_rfl) (by kernel_rfl) (by kernel_rfl) (by kernel_rfl) (aES H)
theorem o23 (H:TH d0 d1 s th 23 obj arg tries o c dn g r v):dY (dH d0 d1 s th 23 obj arg tries) kP=Gl d0 s th 23 obj arg tries o c dn g r v:=kJ H (u:=aCE) (by kernel_rfl) (by kernel_rfl) (by kernel_rfl) (by kernel_rfl) (aER H)
theorem o20 (H:TH d0 d1 s th 20 obj arg tries o c dn g r v):dY (dH d0 d1 s th 20 obj arg tries) kP=Gl d0 s th 20 obj arg tries o c dn g r v:=by
 rcases kU r.l with hr | hr <;> rcases kU v.l with hv | hv
 ·exact (sp6 H hr hv).symm.trans (kH (u:=aAp) (by kernel_rfl) (aC4 H hv))
 ·exact (sp5 H hr hv).symm.trans (kH (u:=aAu) (by kernel_rfl) (aC9 H hv))
 ·exact (sp4 H hr hv).symm.trans (kH (u:=aAp) (by kernel_rfl) (aC4 H hv))
 ·exact (sp3 H hr hv).symm.trans (kH (u:=aAu) (by kernel_rfl) (aC9 H hv))
theorem o21 (H:TH d0 d1 s th 21 obj arg tries o c dn g r v):dY (dH d0 d1 s th 21 obj arg tries) kP=Gl d0 s th 21 obj arg tries o c dn g r v:=by
 rcases kU r.l with hr | hr <;> rcases kU v.l with hv | hv
 ·exact (sp6 H hr hv).symm.trans (kH (u:=aAo) (by kernel_rfl) (aC3 H hv))
 ·exact (sp5 H hr hv).symm.trans (kH (u:=aAt) (by kernel_rfl) (aC8 H hv))
 ·exact (sp4 H hr hv).symm.trans (kH (u:=aAo) (by kernel_rfl) (aC3 H hv))
 ·exact (sp3 H hr hv).symm.trans (kH (u:=aAt) (by kernel_rfl) (aC8 H hv))
theorem o12 (H:TH d0 d1 s th 12 obj arg tries o c dn g r v):dY (dH d0 d1 s th 12 obj arg tries) kP=Gl d0 s th 12 obj arg tries o c dn g r v:=by
 rcases kU r.l with hr | hr <;> rcases kU v.l with hv | hv
 ·have hd:=awH r th obj (Mx d0 obj) (enc (dL (fE s.l (Mx d0 obj) (dL (fE (s.at (Mx d0 obj)).l 0 (.i (-1))))))) 12 arg tries o c dn g (enc v);exact (sp6 H hr hv).symm.trans ((dJ (fM H (by omega)) _).symm.trans ((dJ (aFp H hd) _).symm.trans (kH (u:=aAm) (by kernel_rfl) (aC0 H hr))))
 ·have hd:=awI r th obj (Mx d0 obj) (enc (dL (fE s.l (Mx d0 obj) (dL (fE (s.at (Mx d0 obj)).l 0 (.i (-1))))))) 12 arg tries o c dn g (enc v);exact (sp5 H hr hv).symm.trans ((dJ (fM H (by omega)) _).symm.trans ((dJ (aFq H hd) _).symm.trans (kH (u:=aAm) (by kernel_rfl) (aC0 H hr))))
 ·rcases awJ r th (by have:=H.hr; omega) H.hn with ⟨hw,hd⟩ | hd
  ·have hd:=hd obj (Mx d0 obj) (enc (dL (fE s.l (Mx d0 obj) (dL (fE (s.at (Mx d0 obj)).l 0 (.i (-1))))))) 12 arg tries o c dn g (enc v);exact (sp4 H hr hv).symm.trans ((dJ (fM H (by omega)) _).symm.trans ((dJ (aFr H hd) _).symm.trans (kH (u:=aAs) (by kernel_rfl) (aC7 H hr hw))))
  ·obtain⟨n,r1,hn,hl,hw,hd⟩:=hd obj (Mx d0 obj) (enc (dL (fE s.l (Mx d0 obj) (dL (fE (s.at (Mx d0 obj)).l 0 (.i (-1))))))) 12 arg tries o c dn g (enc v);exact (sp4 H hr hv).symm.trans ((dJ (fM H (by omega)) _).symm.trans ((dJ (aFs H hn hl hd) _).symm.trans (kH (u:=aCy) (by kernel_rfl) (aEL H hr hv hn hl hw hd))))
 ·rcases awK r th (by have:=H.hr; omega) H.hn with ⟨hw,hd⟩ | hd
  ·have hd:=hd obj (Mx d0 obj) (enc (dL (fE s.l (Mx d0 obj) (dL (fE (s.at (Mx d0 obj)).l 0 (.i (-1))))))) 12 arg tries o c dn g (enc v);exact (sp3 H hr hv).symm.trans ((dJ (fM H (by omega)) _).symm.trans ((dJ (aFt H hd) _).symm.trans (kH (u:=aAs) (by kernel_rfl) (aC7 H hr hw))))
  ·obtain⟨n,r1,hn,hl,hw,hd⟩:=hd obj (Mx d0 obj) (enc (dL (fE s.l (Mx d0 obj) (dL (fE (s.at (Mx d0 obj)).l 0 (.i (-1))))))) 12 arg tries o c dn g (enc v);exact (sp3 H hr hv).symm.trans ((dJ (fM H (by omega)) _).symm.trans ((dJ (aFu H hn hl hd) _).symm.trans (kH (u:=aCD) (by kernel_rfl) (aEQ H hr hv hn hl hw hd))))
theorem o13 (H:TH d0 d1 s th 13 obj arg tries o c dn g r v):dY (dH d0 d1 s th 13 obj arg tries) kP=Gl d0 s th 13 obj arg tries o c dn g r v:=by
 rcases kU r.l with hr | hr <;> rcases kU v.l with hv | hv
 ·exact (sp6 H hr hv).symm.trans (kH (u:=aAl) (by kernel_rfl) (aCZ H hr))
 ·exact (sp5 H hr hv).symm.trans (kH (u:=aAl) (by kernel_rfl) (aCZ H hr))
 ·exact (sp4 H hr hv).symm.trans (kH (u:=aAr) (by kernel_rfl) (aC6 H hr))
 ·exact (sp3 H hr hv).symm.trans (kH (u:=aAr) (by kernel_rfl) (aC6 H hr))
theorem o14 (H:TH d0 d1 s th 14 obj arg tries o c dn g r v):dY (dH d0 d1 s th 14 obj arg tries) kP=Gl d0 s th 14 obj arg tries o c dn g r v:=by
 rcases kU r.l with hr | hr <;> rcases kU v.l with hv | hv
 ·exact (sp6 H hr hv).symm.trans (kH (u:=aAk) (by kernel_rfl) (aCY H hr))
 ·exact (sp5 H hr hv).symm.trans (kH (u:=aAk) (by kernel_rfl) (aCY H hr))
 ·exact (sp4 H hr hv).symm.trans (kH (u:=aAq) (by kernel_rfl) (aC5 H hr))
 ·exact (sp3 H hr hv).symm.trans (kH (u:=aAq) (by kernel_rfl) (aC5 H hr))
theorem o24 (H:TH d0 d1 s th 24 obj arg tries o c dn g r v):dY (dH d0 d1 s th 24 obj arg tries) kP=Gl d0 s th 24 obj arg tries o c dn g r v:=by
 rcases kU r.l with hr | hr <;> rcases kU v.l with hv | hv
 ·exact (sp6 H hr hv).symm.trans ((dJ (fM H (by omega)) _).symm.trans (kH (u:=ahC) (by kernel_rfl) (asY H)))
 ·exact (sp5 H hr hv).symm.trans ((dJ (fM H (by omega)) _).symm.trans (kH (u:=ahC) (by kernel_rfl) (asY H)))
 ·exact (sp4 H hr hv).symm.trans ((dJ (fM H (by omega)) _).symm.trans (kH (u:=ahC) (by kernel_rfl) (asY H)))
 ·exact (sp3 H hr hv).symm.trans ((dJ (fM H (by omega)) _).symm.trans (kH (u:=ahC) (by kernel_rfl) (asY H)))
theorem o15 (H:TH d0 d1 s th 15 obj arg tries o c dn g r v):dY (dH d0 d1 s th 15 obj arg tries) kP=Gl d0 s th 15 obj arg tries o c dn g r v:=kJ H (u:=aCC) (by kernel_rfl) (by kernel_rfl) (by kernel_rfl) (by kernel_rfl) (aEP H)
theorem o25 (H:TH d0 d1 s th 25 obj arg tries o c dn g r v):dY (dH d0 d1 s th 25 obj arg tries) kP=Gl d0 s th 25 obj arg tries o c dn g r v:=kJ H (u:=aCB) (by kernel_rfl) (by kernel_rfl) (by kernel_rfl) (by kernel_rfl) (aEO H)
theorem o16 (H:TH d0 d1 s th 16 obj arg tries o c dn g r v):dY (dH d0 d1 s th 16 obj arg tries) kP=Gl d0 s th 16 obj arg tries o c dn g r v:=kJ H (u:=aCA) (by kernel_rfl) (by kernel_rfl) (by kernel_rfl) (by kernel_rfl) (aEN H)
theorem o26 (H:TH d0 d1 s th 26 obj arg tries o c dn g r v):dY (dH d0 d1 s th 26 obj arg tries) kP=Gl d0 s th 26 obj arg tries o c dn g r v:=kJ H (u:=aCz) (by kernel_rfl) (by kernel_rfl) (by kernel_rfl) (by kernel_rfl) (aEM H)
theorem arW (H:TH d0 d1 s th op obj arg tries o c dn g r v) (hop:op∈ops):L 400 [enc d0,enc d1,enc s,th,op,obj,arg,tries]=some (outA s th op obj (Mx d0 obj) (act (Mx d0 obj) (Mo d0 s obj) th op arg tries o c dn g r v)):=by
 rw [aT,aCo]
 suffices h:dY (dH d0 d1 s th op obj arg tries) kP=Gl d0 s th op obj arg tries o c dn g r v by rw [h]; rfl
 unfold ops at hop;simp only [List.mem_cons,List.not_mem_nil,or_false] at hop;rcases hop with rfl | rfl | rfl | rfl | rfl | rfl | rfl | rfl | rfl | rfl | rfl | rfl | rfl | rfl | rfl | rfl | rfl | rfl | rfl | rfl | rfl | rfl | rfl | rfl | rfl | rfl
 ·exact o1 H
 ·exact o2 H
 ·exact o8 H
 ·exact o3 H
 ·exact o4 H
 ·exact o5 H
 ·exact o6 H
 ·exact o7 H
 ·exact o9 H
 ·exact o11 H
 ·exact o10 H
 ·exact o17 H
 ·exact o18 H
 ·exact o19 H
 ·exact o22 H
 ·exact o23 H
 ·exact o20 H
 ·exact o21 H
 ·exact o12 H
 ·exact o13 H
 ·exact o14 H
 ·exact o24 H
 ·exact o15 H
 ·exact o25 H
 ·exact o16 H
 ·exact o26 H
end
end Go.As.Try
end
section
namespace Go.As.Try
open Go hiding Stat Spec shape
open Go.As
set_option maxRecDepth 100000
abbrev alC:T Lf:=ou [.op .set (bD 2) (thg (mk (bD 3)) (mk (bD 4)) bt (mk (bD 6)) (bD 7) (bD 8)),.lit 0,.lit 0,.lit 0,.lit 0,.lit 0,.lit 0]
abbrev Ya (a:Int):List SB:=[.eq (a0 9000 [.aO 5,.aO 2]) (.lit 1),.eq (bD 0) (.lit a),.eq (a0 350 [.aO 0,.aO 1,.aO 2]) (.lit 1)]
abbrev Na (a:Int):List SB:=([0,1,2,3,4,5].filter fun j=>!(j == a)).map fun j=> .eq (bD 0) (.lit j)
abbrev r3:SB:=.eq (rr 350 [.aO 0,.aO 1,.aO 2] 0) (.lit 0)
abbrev t3:SB:=.lt (.aO 3) (.lit 0)
abbrev u3:SB:=.lt (.aO 3) (ln (.aO 1))
section
variable {d0 d1 s r v:D} {th op obj arg tries o c dn g b kop a:Int} (hR:L 350 [enc d0,enc d1,enc s]=some [b])
include hR
theorem fa {l:List Int} (hc:L 9000 [obj,enc s]=some (a :: l)):zY (dH d0 d1 s th op obj arg tries) (Ya a)∧zW (dH d0 d1 s th op obj arg tries) (Na a):=by refine⟨by simp only [zz,hc,hR],ahF fun c hc'=>?_⟩;obtain⟨j,hj,rfl⟩:=List.mem_map.1 hc';have:=(List.mem_filter.1 hj).2;simp only [zz,hc];intro h;subst h;simp at this
theorem wU (k:dY (dH d0 d1 s th op obj arg tries) kP= .out [enc s,0,0,0,0,0,0]):L 400 [enc d0,enc d1,enc s,th,op,obj,arg,tries]=some [enc s,0,0,0,0,0,0]:=by rw [aT,aCo];exact congrArg (fin L) k
section
variable (ha:a=3∨a=4∨a=5∨a=6) (hcp:L 9000 [obj,enc s]=some [a,obj,enc s,o,c,dn,g,enc r,enc v]) (BG:0≤obj) (BF:obj < (s.l.length:Int)) (hd:dn=0∨dn=1) (hs:s=dL (fE s.l obj (dL [.i o,.i c,.i dn,.i g,r,v])))
include ha hcp BG BF hd hs
omit ha hR BG BF in
theorem Kv:dY (dH d0 d1 s th op obj arg tries) alC= .out [enc s,0,0,0,0,0,0]:=by
 have e:(if dn=0 then (0:Int) else 1)=dn:=by rcases hd with rfl | rfl <;> rfl
 simp only [dL] at hs;simp only [zz,hcp,e,← hs]
theorem aE1 (h:b=0):L 400 [enc d0,enc d1,enc s,th,op,obj,arg,tries]=some [enc s,0,0,0,0,0,0]:=
 wU hR (bW (Ya a++ [r3]) (Na a++ []) alC (z2 (fa hR hcp) (by simp only [zz,hcp,hR] <;> omega)) (by rcases ha with rfl | rfl | rfl | rfl <;> kernel_rfl) (Kv hcp hd hs))
theorem aE0 (hb:b≠0) (h:th < 0):L 400 [enc d0,enc d1,enc s,th,op,obj,arg,tries]=some [enc s,0,0,0,0,0,0]:=
 wU hR (bW (Ya a++ [t3]) (Na a++ [r3]) alC (z2 (fa hR hcp) (by simp only [zz,hcp,hR] <;> omega)) (by rcases ha with rfl | rfl | rfl | rfl <;> kernel_rfl) (Kv hcp hd hs))
theorem aEZ (hb:b≠0) (h0:0≤th) (h: ¬th < (d1.l.length:Int)):L 400 [enc d0,enc d1,enc s,th,op,obj,arg,tries]=some [enc s,0,0,0,0,0,0]:=
 wU hR (bW (Ya a++ []) (Na a++ [r3,t3,u3]) alC (z2 (fa hR hcp) (by simp only [zz,hcp,hR] <;> omega)) (by rcases ha with rfl | rfl | rfl | rfl <;> kernel_rfl) (Kv hcp hd hs))
theorem aE2 (hb:b≠0) (h0:0≤th) (h:th < (d1.l.length:Int)) (hk:L 600 [op]=some [kop]) (hlen:s.l.length=d0.l.length) (hne: ¬kop=((d0.at obj).hd 0).n):L 400 [enc d0,enc d1,enc s,th,op,obj,arg,tries]=some [enc s,0,0,0,0,0,0]:=
 wU hR (bW (Ya a++ [u3,.lt (.aO 5) (ln (bD 2)),.eq (a0 600 [.aO 4]) (.lit 1),.lt (.aO 5) (ln (.aO 0))]) (Na a++ [r3,t3,.lt (.aO 5) (.lit 0),.eq (rr 600 [.aO 4] 0) (nm (ce 0 (el (.aO 0) (.aO 5))))]) alC (z2 (fa hR hcp) (by simp only [zz,hcp,hR,hk] <;> omega)) (by rcases ha with rfl | rfl | rfl | rfl <;> kernel_rfl) (Kv hcp hd hs))
end
theorem aDk (hcp:L 9000 [obj,enc s]=some [0,obj,enc s]) (h:obj < 0):L 400 [enc d0,enc d1,enc s,th,op,obj,arg,tries]=some [enc s,0,0,0,0,0,0]:=
 wU hR (bW (Ya 0++ [.lt (.aO 5) (.lit 0)]) (Na 0++ []) (sp r3 (ou [bD 2,.lit 0,.lit 0,.lit 0,.lit 0,.lit 0,.lit 0]) (sp t3 (ou [bD 2,.lit 0,.lit 0,.lit 0,.lit 0,.lit 0,.lit 0]) (sp u3 (ou [bD 2,.lit 0,.lit 0,.lit 0,.lit 0,.lit 0,.lit 0]) (ou [bD 2,.lit 0,.lit 0,.lit 0,.lit 0,.lit 0,.lit 0])))) (z2 (fa hR hcp) (by simp only [zz,hcp] <;> omega)) (by kernel_rfl) (by simp only [zz,hcp,hR,ite_self]))
theorem aDj (hcp:L 9000 [obj,enc s]=some [0,obj,enc s]) (h0:0≤obj) (h: ¬obj < (s.l.length:Int)):L 400 [enc d0,enc d1,enc s,th,op,obj,arg,tries]=some [enc s,0,0,0,0,0,0]:=
 wU hR (bW (Ya 0++ []) (Na 0++ [.lt (.aO 5) (.lit 0),.lt (.aO 5) (ln (bD 2))]) (sp r3 (ou [bD 2,.lit 0,.lit 0,.lit 0,.lit 0,.lit 0,.lit 0]) (sp t3 (ou [bD 2,.lit 0,.lit 0,.lit 0,.lit 0,.lit 0,.lit 0]) (sp u3 (ou [bD 2,.lit 0,.lit 0,.lit 0,.lit 0,.lit 0,.lit 0]) (ou [bD 2,.lit 0,.lit 0,.lit 0,.lit 0,.lit 0,.lit 0])))) (z2 (fa hR hcp) (by simp only [zz,hcp] <;> omega)) (by kernel_rfl) (by simp only [zz,hcp,hR,ite_self]))
theorem aDi (hcp:L 9000 [obj,enc s]=some [1,obj]) (h:obj < 0) (hs:s= .i 1):L 400 [enc d0,enc d1,enc s,th,op,obj,arg,tries]=some [enc s,0,0,0,0,0,0]:=
 wU hR (bW (Ya 1++ [.lt (.aO 5) (.lit 0)]) (Na 1++ []) (sp r3 (ou [.dat (.i 1),.lit 0,.lit 0,.lit 0,.lit 0,.lit 0,.lit 0]) (sp t3 (ou [.dat (.i 1),.lit 0,.lit 0,.lit 0,.lit 0,.lit 0,.lit 0]) (sp u3 (ou [.dat (.i 1),.lit 0,.lit 0,.lit 0,.lit 0,.lit 0,.lit 0]) (ou [.dat (.i 1),.lit 0,.lit 0,.lit 0,.lit 0,.lit 0,.lit 0])))) (z2 (fa hR hcp) (by simp only [zz,hcp] <;> omega)) (by kernel_rfl) (by simp only [zz,hcp,hR,hs,ite_self]))
theorem aDh (hcp:L 9000 [obj,enc s]=some [1,obj]) (h0:0≤obj) (h: ¬obj < (s.l.length:Int)) (hs:s= .i 1):L 400 [enc d0,enc d1,enc s,th,op,obj,arg,tries]=some [enc s,0,0,0,0,0,0]:=
 wU hR (bW (Ya 1++ []) (Na 1++ [.lt (.aO 5) (.lit 0)]) (sp r3 (ou [.dat (.i 1),.lit 0,.lit 0,.lit 0,.lit 0,.lit 0,.lit 0]) (sp t3 (ou [.dat (.i 1),.lit 0,.lit 0,.lit 0,.lit 0,.lit 0,.lit 0]) (sp u3 (ou [.dat (.i 1),.lit 0,.lit 0,.lit 0,.lit 0,.lit 0,.lit 0]) (ou [.dat (.i 1),.lit 0,.lit 0,.lit 0,.lit 0,.lit 0,.lit 0])))) (z2 (fa hR hcp) (by simp only [zz,hcp] <;> omega)) (by kernel_rfl) (by simp only [zz,hcp,hR,hs,ite_self]))
theorem aDg (hcp:L 9000 [obj,enc s]=some [2,obj]) (h:obj < 0) (hs:s= .i 2):L 400 [enc d0,enc d1,enc s,th,op,obj,arg,tries]=some [enc s,0,0,0,0,0,0]:=
 wU hR (bW (Ya 2++ [.lt (.aO 5) (.lit 0)]) (Na 2++ []) (sp r3 (ou [.dat (.i 2),.lit 0,.lit 0,.lit 0,.lit 0,.lit 0,.lit 0]) (sp t3 (ou [.dat (.i 2),.lit 0,.lit 0,.lit 0,.lit 0,.lit 0,.lit 0]) (sp u3 (ou [.dat (.i 2),.lit 0,.lit 0,.lit 0,.lit 0,.lit 0,.lit 0]) (ou [.dat (.i 2),.lit 0,.lit 0,.lit 0,.lit 0,.lit 0,.lit 0])))) (z2 (fa hR hcp) (by simp only [zz,hcp] <;> omega)) (by kernel_rfl) (by simp only [zz,hcp,hR,hs,ite_self]))
theorem aDf (hcp:L 9000 [obj,enc s]=some [2,obj]) (h0:0≤obj) (h: ¬obj < (s.l.length:Int)) (hs:s= .i 2):L 400 [enc d0,enc d1,enc s,th,op,obj,arg,tries]=some [enc s,0,0,0,0,0,0]:=
 wU hR (bW (Ya 2++ []) (Na 2++ [.lt (.aO 5) (.lit 0)]) (sp r3 (ou [.dat (.i 2),.lit 0,.lit 0,.lit 0,.lit 0,.lit 0,.lit 0]) (sp t3 (ou [.dat (.i 2),.lit 0,.lit 0,.lit 0,.lit 0,.lit 0,.lit 0]) (sp u3 (ou [.dat (.i 2),.lit 0,.lit 0,.lit 0,.lit 0,.lit 0,.lit 0]) (ou [.dat (.i 2),.lit 0,.lit 0,.lit 0,.lit 0,.lit 0,.lit 0])))) (z2 (fa hR hcp) (by simp only [zz,hcp] <;> omega)) (by kernel_rfl) (by simp only [zz,hcp,hR,hs,ite_self]))
end
end Go.As.Try
end
section
namespace Go.As.Try
open Go hiding Stat Spec shape
open Go.As
set_option maxRecDepth 100000
def kindOf (o:Int):Int:=if o < 27 then (if o=0 then 0 else if o=1 then 1 else if o=2 then 1 else if o=3 then 1 else if o=4 then 1 else if o=5 then 2 else if o=6 then 2 else if o=7 then 2 else if o=8 then 2 else if o=9 then 3 else if o=10 then 3 else if o=11 then 3 else if o=12 then 4 else if o=13 then 4 else if o=14 then 4 else if o=15 then 5 else if o=16 then 6 else if o=17 then 7 else if o=18 then 7 else if o=19 then 7 else if o=20 then 8 else if o=21 then 8 else if o=22 then 9 else if o=23 then 9 else if o=24 then 4 else if o=25 then 5 else 6) else 0
theorem Wy (o:Int) (h:iM .u8 o):L 600 [o]=some [kindOf o]:=by
 have h1:=h.1;have w:=aCM h;have c1: ¬(o < 0):=by omega
 rw [aT,aEx];simp only [aAF,zz,w,c1];by_cases h27:o < 27
 ·simp only [if_pos h27];have:o=0∨o=1∨o=2∨o=3∨o=4∨o=5∨o=6∨o=7∨o=8∨o=9∨o=10∨o=11∨o=12∨o=13∨o=14∨o=15∨o=16∨o=17∨o=18∨o=19∨o=20∨o=21∨o=22∨o=23∨o=24∨o=25∨o=26:=by omega
  rcases this with rfl | rfl | rfl | rfl | rfl | rfl | rfl | rfl | rfl | rfl | rfl | rfl | rfl | rfl | rfl | rfl | rfl | rfl | rfl | rfl | rfl | rfl | rfl | rfl | rfl | rfl | rfl
  all_goals rfl
 ·simp only [if_neg h27];unfold kindOf;rw [if_neg h27];rfl
theorem alU {o:Int} (h0:0≤o) (h:kindOf o≠0):o∈ops:=by
 have h27:o < 27:=by refine Decidable.byContradiction fun hn=>h ?_;unfold kindOf;rw [if_neg hn]
 have:o=0∨o=1∨o=2∨o=3∨o=4∨o=5∨o=6∨o=7∨o=8∨o=9∨o=10∨o=11∨o=12∨o=13∨o=14∨o=15∨o=16∨o=17∨o=18∨o=19∨o=20∨o=21∨o=22∨o=23∨o=24∨o=25∨o=26:=by omega
 rcases this with rfl | rfl | rfl | rfl | rfl | rfl | rfl | rfl | rfl | rfl | rfl | rfl | rfl | rfl | rfl | rfl | rfl | rfl | rfl | rfl | rfl | rfl | rfl | rfl | rfl | rfl | rfl
 all_goals first | exact absurd rfl h | decide
structure Acc (d0 d1 s:D) (th op obj:Int):Prop where
 r:L 350 [enc d0,enc d1,enc s]=some [1]
 t0:0≤th
 t1:th < (d1.l.length:Int)
 o0:0≤obj
 o1:obj < (s.l.length:Int)
 k:kindOf op=((d0.at obj).hd 0).n
structure Tg (x:D) (o c dn g:Int) (r v:D):Prop where
 is:x=dL [.i o,.i c,.i dn,.i g,r,v]
 ho:iM .i64 o
 hc:iM .i64 c
 hd:dn=0∨dn=1
 hg:iM .i64 g
 hr:Wd (.sl 0) r
 hv:Wd (.sl 0) v
theorem Ll {x:D} (h:Di x): ∃o c dn g r v,Tg x o c dn g r v:=by obtain⟨o,c,d,g,r,v,h1,h2,h3,h4,h5,h6,h7⟩:=h;exact⟨o,c,d,g,r,v,h1,h2,h3,h4,h5,h6,h7⟩
theorem arT {r:D} (h:Wd (.sl 0) r): ∀x∈r.l,x= .i x.n:=by intro x hx;obtain⟨n,rfl,_⟩:=(h.el1 rfl x hx).i;rfl
def few (s:D):Prop:= ∀x∈s.l,(x.hd 4).l.length < 17592186044415∧(x.hd 5).l.length < 17592186044415
theorem few.rows {s:D} (h:few s):Es s:=fun x hx=>by have:=(h x hx).1; omega
section
variable {d0 d1 s:D} {th op obj arg tries:Int} (h0:Wd (.sl 3) d0) (h1:Wd (.sl 4) d1) (hs:Wd (.sl 7) s) (hf:few s) (hop:iM .u8 op)
include h0 h1 hf in
theorem Md (h:L 350 [enc d0,enc d1,enc s]=some [1]):Ez d0 d1∧s.l.length=d0.l.length:=by obtain⟨b,hb,_,hi⟩:=qZ h0 h1 hf.rows;rw [h] at hb;simp only [Option.some.injEq,List.cons.injEq,and_true] at hb;obtain⟨hC,hle,_⟩:=hi.1 hb.symm;obtain⟨ys,hC',c,rfl,_,hok⟩:=Dz h0 h1;rw [hC] at hC';simp only [Option.some.injEq,List.cons.injEq,and_true] at hC';exact⟨(hok hC'.symm).1,hle⟩
include h0 h1 hf in
theorem aeF (A:Acc d0 d1 s th op obj):akV d0 (d0.at obj)∧s.l.length=d0.l.length:=by
 obtain⟨hok,hle⟩:=Md h0 h1 hf A.r;refine⟨?_,hle⟩;have a1:=A.o0; have a2:=A.o1;obtain⟨i,rfl⟩ : ∃i:Nat,obj=(i:Int):=⟨obj.toNat,by omega⟩;have hi:i < d0.l.length:=by omega
 rw [aY hi];exact hok.2.2 _ (List.getElem_mem hi)
include h0 h1 hs hf hop
theorem XK (A:Acc d0 d1 s th op obj) (h:op=12∨op=24):0≤Mx d0 obj∧Mx d0 obj < (s.l.length:Int)∧Mx d0 obj≠obj:=by
 obtain⟨ho,hle⟩:=aeF h0 h1 hf A
 have h4:((d0.at obj).hd 0).n=4:=by rw [← A.k];rcases h with rfl | rfl <;> rfl
 obtain⟨m1,m2,m3⟩:=ho.2.2.2.2.2 h4;refine⟨m1,by rw [hle]; exact m2,fun he=>?_⟩;have he:((d0.at obj).hd 2).n=obj:=he;rw [he,h4] at m3;omega
theorem Td (A:Acc d0 d1 s th op obj):op∈ops∧∃o c dn g r v,Tg (s.at obj) o c dn g r v∧
 L 400 [enc d0,enc d1,enc s,th,op,obj,arg,tries]=some (outA s th op obj (Mx d0 obj) (act (Mx d0 obj) (Mo d0 s obj) th op arg tries o c dn g r v)):=by
 obtain⟨ho,hle⟩:=aeF h0 h1 hf A;have hin:op∈ops:=alU hop.1 (by rw [A.k]; have:=ho.1; omega);have a1:=A.o0; have a2:=A.o1;obtain⟨i,rfl⟩ : ∃i:Nat,obj=(i:Int):=⟨obj.toNat,by omega⟩;have hi:i < s.l.length:=by omega
 have ht:=E8 hs (by omega);obtain⟨o,c,dn,g,r,v,T⟩:=Ll (hs.thing _ (List.getElem_mem hi));have hfx:=hf _ (List.getElem_mem hi);rw [T.is] at hfx;have hkk:L 600 [op]=some [((d0.at (i:Int)).hd 0).n]:=by rw [Wy op hop,A.k]
 refine⟨hin,o,c,dn,g,r,v,by rw [aY hi]; exact T,?_⟩;refine arW ⟨aAc s ht i hi o c dn g r v T.is,aqP s hs,A.r,A.t0,A.t1,A.o0,A.o1,hle,hkk,?_,?_,(arT T.hr),fun h=>XK h0 h1 hs hf hop A h⟩ hin
 ·have:(r.l.length:Int) < 17592186044415:=Int.ofNat_lt.2 hfx.1;exact this
 ·have:(v.l.length:Int) < 17592186044415:=Int.ofNat_lt.2 hfx.2;exact this
theorem Yh (A: ¬Acc d0 d1 s th op obj):L 400 [enc d0,enc d1,enc s,th,op,obj,arg,tries]=some [enc s,0,0,0,0,0,0]:=by
 obtain⟨b,hb,hb2,_⟩:=qZ h0 h1 hf.rows;by_cases ho:0≤obj∧obj < (s.l.length:Int)
 ·obtain⟨i,rfl⟩ : ∃i:Nat,obj=(i:Int):=⟨obj.toNat,by omega⟩;have hi:i < s.l.length:=by omega
  have ht:=E8 hs (by omega);obtain⟨o,c,dn,g,r,v,T⟩:=Ll (hs.thing _ (List.getElem_mem hi));have hcp:=aAc s ht i hi o c dn g r v T.is
  have hss:s=dL (fE s.l (i:Int) (dL [.i o,.i c,.i dn,.i g,r,v])):=by have:=set_self ht.sh hi;rw [T.is] at this;exact this.symm
  have hkk:=Wy op hop
  have key: ∀alt:Int,(alt=3∨alt=4∨alt=5∨alt=6)→L 9000 [(i:Int),enc s]=some [alt,(i:Int),enc s,o,c,dn,g,enc r,enc v]→L 400 [enc d0,enc d1,enc s,th,op,(i:Int),arg,tries]=some [enc s,0,0,0,0,0,0]:=by
   intro alt ha hcp;by_cases hb0:b=0
   ·exact aE1 hb ha hcp ho.1 ho.2 T.hd hss hb0
   ·have hb1:b=1:=by omega
    by_cases t0:th < 0
    ·exact aE0 hb ha hcp ho.1 ho.2 T.hd hss hb0 t0
    ·by_cases t1:th < (d1.l.length:Int)
     ·have hne: ¬kindOf op=((d0.at (i:Int)).hd 0).n:=fun hk=>A ⟨by rw [hb,hb1],by omega,t1,ho.1,ho.2,hk⟩;obtain⟨_,hle⟩:=Md h0 h1 hf (by rw [hb,hb1]);exact aE2 hb ha hcp ho.1 ho.2 T.hd hss hb0 (by omega) t1 hkk hle hne
     ·exact aEZ hb ha hcp ho.1 ho.2 T.hd hss hb0 (by omega) t1
  refine key _ ?_ hcp;unfold pF;split <;> split <;> simp
 ·obtain⟨ys,hc,hys⟩:=copyN s hs obj (by omega);by_cases hn:obj < 0
  ·rcases hys with rfl | ⟨rfl,he⟩ | ⟨rfl,he⟩
   ·exact aDk hb hc hn
   ·exact aDi hb hc hn he
   ·exact aDg hb hc hn he
  ·rcases hys with rfl | ⟨rfl,he⟩ | ⟨rfl,he⟩
   ·exact aDj hb hc (by omega) (by omega)
   ·exact aDh hb hc (by omega) (by omega) he
   ·exact aDf hb hc (by omega) (by omega) he
end
end Go.As.Try
end
section
namespace Go.As.Try
open Go hiding Stat Spec shape
open Go.As
set_option maxRecDepth 100000
theorem J9 {d:D} {l:List D} (h: ∀x∈l,∃n,x= .i n∧iM .i64 n) (hl:l.length≤17592186043904):Wd (.sl 0) (gK d l):=by
 cases l with
 | nil=>
   show Wd (.sl 0) (if d= .i 1 then .i 1 else .i 2);split
   ·exact .nil 0
   ·exact .non 0
 | cons a l=> refine .one 0 (.int .i64) (a :: l) rfl (by simp) (by have:vV 0=8:=rfl; rw [this]; omega) fun x hx=>?_;obtain⟨n,rfl,hn⟩:=h x hx;exact .int _ _ hn
theorem yM {l:List D} (h: ∀x∈l,∃n,x= .i n∧iM .i64 n) (hn:l≠[]) (hl:l.length≤17592186043904):Wd (.sl 0) (dL l):=by rw [← GL (d:=.i 2) hn];exact J9 h hl
theorem yN {r:D} (h:Wd (.sl 0) r): ∀x∈r.l,∃n,x= .i n∧iM .i64 n:=fun x hx=>(h.el1 rfl x hx).i
theorem wrap_in (z:Int):iM .i64 (IntKind.i64.wrap z):=by constructor <;> (rw [IntKind.wrap_i64]; omega)
def OZ (n:Nat):Act→Prop
 | .res o c dn g r v m _ oc=>iM .i64 o∧iM .i64 c∧(dn=0∨dn=1)∧iM .i64 g∧Wd (.sl 0) r∧r.l.length≤n∧Wd (.sl 0) v∧v.l.length≤n∧(∀q,m=some q→iM .i64 q)∧(oc=2∨oc=3)
 | _=>True
theorem OZ.ite {n:Nat} {p:Prop} [Decidable p] {a b:Act} (ha:OZ n a) (hb:OZ n b):OZ n (if p then a else b):=by
 split
 ·exact ha
 ·exact hb
def NoM:Act→Prop
 | .res _ _ _ _ _ _ m _ _=>m=none
 | _=>True
theorem NoM.ite {p:Prop} [Decidable p] {a b:Act} (ha:NoM a) (hb:NoM b):NoM (if p then a else b):=by
 split
 ·exact ha
 ·exact hb
section
variable {x:D} {M mo th op arg tries o c dn g:Int} {r v:D}
theorem aCx (T:Tg x o c dn g r v) {n:Nat} (hr:r.l.length≤n) (hv:v.l.length≤n) (hn:n < 17592186043904) (ht:iM .i64 th) (ha:iM .i64 arg):OZ (n+1) (act M mo th op arg tries o c dn g r v):=by
 have hm:iM .i64 (-1):=⟨by omega,by omega⟩;have hz:iM .i64 0:=⟨by omega,by omega⟩;have e1: ∀q:Int,(none:Option Int)=some q→iM .i64 q:=fun q h=>by simp at h
 have e2: ∀{p:Int},iM .i64 p→∀q:Int,some p=some q→iM .i64 q:=fun hp q h=>by simp only [Option.some.injEq] at h; exact h▸hp
 have hr1:r.l.length≤n+1:=by omega
 have hv1:v.l.length≤n+1:=by omega
 have w:=@wrap_in
 have sn: ∀{l:List D} {t:Int},(∀x∈l,∃n,x= .i n∧iM .i64 n)→iM .i64 t→∀x∈l++ [.i t],∃n,x= .i n∧iM .i64 n:=fun h ht x hx=>by
  rcases List.mem_append.1 hx with hx | hx
  ·exact h x hx
  ·simp only [List.mem_cons,List.not_mem_nil,or_false] at hx;exact⟨_,hx,ht⟩
 have r5:Wd (.sl 0) (dL (r.l++ [.i th])):=yM (sn (yN T.hr) ht) (by simp) (by simp; omega);have l5:(dL (r.l++ [.i th])).l.length≤n+1:=by rw [aX]; simp; omega
 have r20:Wd (.sl 0) (dL (v.l++ [.i arg])):=yM (sn (yN T.hv) ha) (by simp) (by simp; omega);have l20:(dL (v.l++ [.i arg])).l.length≤n+1:=by rw [aX]; simp; omega
 have r12:Wd (.sl 0) (dL (wo th r.l++ [.i th])):=yM (sn (fun x hx=>(yN T.hr) x (List.mem_filter.1 hx).1) ht) (by simp) (by have:=ahK th r.l; simp; omega);have l12:(dL (wo th r.l++ [.i th])).l.length≤n+1:=by have:=ahK th r.l; rw [aX]; simp; omega
 have r6: ∀k,Wd (.sl 0) (gK (.i 2) (r.l.take k++r.l.drop (k+1))):=fun k=>J9 (fun x hx=>by
  rcases List.mem_append.1 hx with hx | hx
  ·exact (yN T.hr) x (List.mem_of_mem_take hx)
  ·exact (yN T.hr) x (List.mem_of_mem_drop hx)) (by simp only [List.length_append,List.length_take,List.length_drop]; omega)
 have l6: ∀k,(gK (.i 2) (r.l.take k++r.l.drop (k+1))).l.length≤n+1:=fun k=>by rw [kT]; simp only [List.length_append,List.length_take,List.length_drop]; omega
 have r21:Wd (.sl 0) (gK v (v.l.drop 1)):=J9 (fun x hx=>(yN T.hv) x (List.mem_of_mem_drop hx)) (by simp; omega);have l21:(gK v (v.l.drop 1)).l.length≤n+1:=by rw [kT]; simp; omega
 have r13:Wd (.sl 0) (gK r (r.l.drop 1)):=J9 (fun x hx=>(yN T.hr) x (List.mem_of_mem_drop hx)) (by simp; omega);have l13:(gK r (r.l.drop 1)).l.length≤n+1:=by rw [kT]; simp; omega
 have r14:Wd (.sl 0) (.i 1):=.nil 0;have l14:(D.i 1).l.length≤n+1:=by simp [D.l]
 unfold act
 repeat' refine OZ.ite ?_ ?_
 all_goals first
  | trivial
  | exact⟨by first | exact T.ho | exact ht | exact hm,by first | exact T.hc | exact w _ | exact ha | exact hz,by first | exact T.hd | exact .inr rfl,by first | exact T.hg | exact w _,by first | exact T.hr | exact r5 | exact r6 _ | exact r12 | exact r13 | exact r14,by first | exact hr1 | exact l5 | exact l6 _ | exact l12 | exact l13 | exact l14,by first | exact T.hv | exact r20 | exact r21,by first | exact hv1 | exact l20 | exact l21,by first | exact e1 | exact e2 hm | exact e2 ht,by first | exact .inl rfl | exact .inr rfl⟩
theorem agY (h12:op≠12) (h24:op≠24):NoM (act M mo th op arg tries o c dn g r v):=by
 unfold act;rw [if_neg h12,if_neg h24]
 repeat' refine NoM.ite ?_ ?_
 all_goals first
  | exact rfl
  | trivial
end
end Go.As.Try
end
section
namespace Go.As.Try
open Go hiding Stat Spec shape
open Go.As
set_option maxRecDepth 100000
def isN (ys:List Int):Prop:= ∃v:Int,ys= [v]∧iM .i64 v
theorem amA:isN [0]:=⟨0,rfl,by constructor <;> omega⟩
theorem alZ:isN [1]:=⟨1,rfl,by constructor <;> omega⟩
theorem ayA (z:Int):isN [IntKind.i64.wrap z]:=⟨_,rfl,wrap_in z⟩
theorem LY: ∀{d x:D},x∈d.l→SizeOf.sizeOf x < SizeOf.sizeOf d
 | .i _,x,h=>by simp [D.l] at h
 | .p a b,x,h=>by
   simp only [D.l,List.mem_cons] at h;rcases h with rfl | h
   ·simp only [D.p.sizeOf_spec]; omega
   ·have:=LY (d:=b) h;simp only [D.p.sizeOf_spec]; omega
def Nums (l:List D):Prop:= ∀y∈l,iM .i64 (aqH y).n
theorem alD:Nums []:=fun y h=>by simp at h
theorem FX: ∀{l:List D} {k v:D},Nums l→iM .i64 v.n→Nums (Bv l k v)
 | [],k,v,_,hv=>by intro y hy;simp only [Bv,List.mem_cons,List.not_mem_nil,or_false] at hy;subst hy;exact hv
 | d :: l,k,v,hl,hv=>by
   intro y hy;simp only [Bv] at hy;split at hy
   ·simp only [List.mem_cons] at hy;rcases hy with rfl | hy
    ·exact hv
    ·exact hl y (by simp [hy])
   ·simp only [List.mem_cons] at hy;rcases hy with rfl | hy
    ·exact hl _ (by simp)
    ·exact FX (fun z hz=>hl z (by simp [hz])) hv y hy
theorem Wi: ∀{l:List D} {k:D},Nums l→iM .i64 ((nZ l k).getD (.i 0)).n
 | [],k,_=>by constructor <;> simp [nZ,D.n]
 | d :: l,k,hl=>by
   simp only [nZ];split
   ·exact hl d (by simp)
   ·exact Wi fun y hy=>hl y (by simp [hy])
theorem auD {l:List D} {k:D} (h:Nums l):isN [((nZ l k).getD (.i 0)).n]:=⟨_,rfl,Wi h⟩
def Ints (d:D):Prop:= ∀x∈d.l,iM .i64 x.n
theorem ints_at {d:D} (h:Ints d) {i:Int} (h0: ¬i < 0) (h1:i < (d.l.length:Int)):iM .i64 (d.at i).n:=by obtain⟨k,rfl⟩ : ∃k:Nat,i=(k:Int):=⟨i.toNat,by omega⟩;rw [aY (by omega:k < d.l.length)];exact h _ (List.getElem_mem _)
set_option maxHeartbeats 4000000 in
theorem WX: ∀(N:Nat) (kids:D),SizeOf.sizeOf kids≤N→Wd (.sl 6) kids→∀(k n:Int) (s loc:D),iM .i64 n→Ints loc→Tot 1950 [k,enc s,n,enc kids,enc loc] isN
 | 0,kids,hN,_,_,_,_,_,_,_=>by exfalso;cases kids <;> simp at hN
 | N+1,kids,hN,hk,k,n,s,loc,hn,hi=>by
   have sub: ∀i:Nat,∃v:Int,iM .i64 v∧(i < kids.l.length→L 1950 [((kids.at (i:Int)).hd 0).n,enc ((kids.at (i:Int)).hd 1),((kids.at (i:Int)).hd 2).n,enc ((kids.at (i:Int)).hd 3),enc loc]=some [v]):=by
    intro i;by_cases hil:i < kids.l.length
    ·obtain⟨k',s',n',ks',he,_,_,hn',h2⟩:=Dq hk hil
     have hsz:SizeOf.sizeOf ks' < SizeOf.sizeOf kids.l[i]:=by rw [he];exact LY (by rw [aX]; simp)
     have hsz2:=LY (List.getElem_mem hil);obtain⟨ys,hL,v,rfl,hv⟩:=WX N ks' (by omega) h2 k' n' s' loc hn' hi;refine⟨v,hv,fun _=>?_⟩;rw [aY hil,he];simp only [zg,Option.getD_some];exact hL
    ·exact⟨0,by constructor <;> omega,fun h=>absurd h hil⟩
   obtain⟨v0,hv0,h0⟩:=sub 0;obtain⟨v1,hv1,h1⟩:=sub 1;by_cases l1:(kids.l.length:Int)=1
   ·have h0:=h0 (by omega);simp only [Int.natCast_zero] at h0;refine Tot.of ?_;rw [adH];simp only [VJ,zz,l1,h0]
    repeat' first | exact .out ⟨_,rfl,hn⟩ | exact .out amA | exact .out alZ | exact .out (ayA _) | exact .out ⟨_,rfl,ints_at hi ‹_› ‹_›⟩ | refine .ite (fun _=>?_) (fun _=>?_)
   ·by_cases l2:(kids.l.length:Int)=2
    ·have h0:=h0 (by omega);have h1:=h1 (by omega);simp only [Int.natCast_zero,Int.natCast_one] at h0 h1;refine Tot.of ?_;rw [adH];simp only [VJ,zz,l1,l2,h0,h1]
     repeat' first | exact .out ⟨_,rfl,hn⟩ | exact .out amA | exact .out alZ | exact .out (ayA _) | exact .out ⟨_,rfl,ints_at hi ‹_› ‹_›⟩ | (simp only [aX]; exact .out (auD (FX (FX (FX alD (wrap_in _)) (wrap_in _)) (wrap_in _)))) | refine .ite (fun _=>?_) (fun _=>?_)
    ·refine Tot.of ?_;rw [adH];simp only [VJ,zz,l1,l2]
     repeat' first | exact .out ⟨_,rfl,hn⟩ | exact .out amA | exact .out alZ | exact .out ⟨_,rfl,ints_at hi ‹_› ‹_›⟩ | refine .ite (fun _=>?_) (fun _=>?_)
end Go.As.Try
end
section
namespace Go.As.Try
open Go hiding Stat Spec shape
open Go.As
set_option maxRecDepth 100000
structure Kt (x:D) (a:Int) (lc:D) (w o g tr:Int):Prop where
 is:x=dL [.i a,lc,.i w,.i o,.i g,.i tr]
 ha:iM .i64 a
 hl:Wd (.sl 0) lc
 hw:iM .u8 w
 ho:iM .i64 o
 hg:iM .i64 g
 ht:iM .i64 tr
theorem jW {d:D} (h:Wd (.sl 8) d): ∀x∈d.l,∃a lc w o g tr,Kt x a lc w o g tr:=by intro x hx;obtain⟨r,rfl,hl,hc⟩:=h.elN (cs:=[.int .i64,.sl 0,.int .u8,.int .i64,.int .i64,.int .i64]) rfl x hx;obtain⟨a,b,c,d,e,f,rfl⟩:=six hl;obtain⟨a,rfl,ha⟩:=(hc 0 _ _ rfl rfl).i;obtain⟨w,rfl,hw⟩:=(hc 2 _ _ rfl rfl).i;obtain⟨o,rfl,ho⟩:=(hc 3 _ _ rfl rfl).i;obtain⟨g,rfl,hg⟩:=(hc 4 _ _ rfl rfl).i;obtain⟨t,rfl,ht⟩:=(hc 5 _ _ rfl rfl).i;exact⟨a,b,w,o,g,t,rfl,ha,hc 1 _ _ rfl rfl,hw,ho,hg,ht⟩
structure Tk (d:D):Prop where
 wd:Wd (.sl 8) d
 sh:d=dL d.l
 few:d.l.length≤2199023255500
theorem Px {d:D} (h:Wd (.sl 8) d) (hn:0 < d.l.length):Tk d:=by
 refine⟨h,?_,?_⟩
 ·rcases h.sh with rfl | rfl | ⟨h1,_⟩
  ·simp [D.l] at hn
  ·simp [D.l] at hn
  ·exact h1
 ·have hr:=h.room;have h3:vV 8=64:=rfl;rw [h3] at hr;omega
theorem Ji (a b c d e f x:D):fE [a,b,c,d,e,f] 1 x= [a,x,c,d,e,f]:=rfl
theorem aQ (j:Nat) (xs:List Int):fin L (.jump j xs)=L j xs:=rfl
theorem aH (ys:List Int):fin L (.out ys)=some ys:=rfl
def ET (lc:D):Int:=if 0 < lc.l.length then 3 else 4
theorem XI {lc:D} (h:(0:Int) < (lc.l.length:Int)):ET lc=3:=if_pos (by omega)
theorem U9 (d:D) (h:Th d) (x0:Int) (k:D): ∀(j i:Nat),i+j=d.l.length→L 9051 [x0,(d.l.length:Int),(i:Int),enc d,enc k]=L 9060 [x0,(k.l.length:Int),0,enc d,enc k]
 | 0,i,hi=>by
   have c1: ¬(i:Int) < (d.l.length:Int):=by omega
   rw [aT,anU];simp only [aaM,zz,c1,aQ,Int.natCast_zero]
 | j+1,i,hi=>by
   have hl:=h.few;have hil:i < d.l.length:=by omega
   have c1:(i:Int) < (d.l.length:Int):=by omega
   have c2: ¬((i:Int) < 0):=by omega
   have w:=bC (n:=i) (by omega);have ih:=U9 d h x0 k j (i+1) (by omega);obtain⟨o,c,dn,g,r,v,he,_,_,_,_,hr,hv⟩:=h.wd.thing _ (List.getElem_mem hil);have hs:=set_self h.sh hil;rw [he] at hs;rw [aT,anU];rcases bG hr with rfl | rfl | ⟨r1,r2⟩ <;> rcases bG hv with rfl | rfl | ⟨v1,v2⟩
   all_goals
    simp only [aaM,zz,c1,c2,w,aY hil,he,eG,aX,List.getElem?_cons_zero,List.getElem?_cons_succ,TM,TL,hs,len1,len2,oK,iO]
    try simp only [r1,r2,zz]
    try simp only [v1,v2,zz]
    try simp only [aQ]
    exact ih
theorem adQ (d:D) (h:Th d) (x0:Int): ∀(j i:Nat),i+j=d.l.length→L 9052 [x0,(d.l.length:Int),(i:Int),enc d]=L 9061 [x0,enc d]
 | 0,i,hi=>by
   have c1: ¬(i:Int) < (d.l.length:Int):=by omega
   rw [aT,anT];simp only [aaL,zz,c1,aQ,Int.natCast_zero]
 | j+1,i,hi=>by
   have hl:=h.few;have hil:i < d.l.length:=by omega
   have c1:(i:Int) < (d.l.length:Int):=by omega
   have c2: ¬((i:Int) < 0):=by omega
   have w:=bC (n:=i) (by omega);have ih:=adQ d h x0 j (i+1) (by omega);obtain⟨o,c,dn,g,r,v,he,_,_,_,_,hr,hv⟩:=h.wd.thing _ (List.getElem_mem hil);have hs:=set_self h.sh hil;rw [he] at hs;rw [aT,anT];rcases bG hr with rfl | rfl | ⟨r1,r2⟩ <;> rcases bG hv with rfl | rfl | ⟨v1,v2⟩
   all_goals
    simp only [aaL,zz,c1,c2,w,aY hil,he,eG,aX,List.getElem?_cons_zero,List.getElem?_cons_succ,TM,TL,hs,len1,len2,oK,iO]
    try simp only [r1,r2,zz]
    try simp only [v1,v2,zz]
    try simp only [aQ]
    exact ih
theorem adW (k:D) (h:Tk k) (x0:Int) (s:D): ∀(j i:Nat),(hx:x0 < 0∨(k.l.length:Int)≤x0)→i+j=k.l.length→L 9060 [x0,(k.l.length:Int),(i:Int),enc s,enc k]=some [0,x0,enc s,enc k]
 | 0,i,hx,hi=>by
   have c1: ¬(i:Int) < (k.l.length:Int):=by omega
   rw [aT,Xn];by_cases c0:(i:Int)=x0
   ·subst c0;simp only [Fe,zz,c1,aH]
   ·simp only [Fe,zz,c0,c1,aH]
 | j+1,i,hx,hi=>by
   have hl:=h.few;have hil:i < k.l.length:=by omega
   have c1:(i:Int) < (k.l.length:Int):=by omega
   have c2: ¬((i:Int) < 0):=by omega
   have c0: ¬((i:Int)=x0):=by omega
   have w:=bC (n:=i) (by omega);have ih:=adW k h x0 s j (i+1) hx (by omega);obtain⟨a,lc,w',o,g,tr,T⟩:=jW h.wd _ (List.getElem_mem hil);have hs:=set_self h.sh hil;rw [T.is] at hs;rw [aT,Xn];rcases bG T.hl with rfl | rfl | ⟨r1,r2⟩
   all_goals
    simp only [Fe,zz,c0,c1,c2,w,aY hil,T.is,eG,aX,List.getElem?_cons_zero,List.getElem?_cons_succ,Ji,hs,len1,len2,oK,iO]
    try simp only [r1,r2,zz]
    try simp only [aQ]
    exact ih
theorem adV (k:D) (h:Tk k) (x0:Int): ∀(j i:Nat),(hx:x0 < 0∨(k.l.length:Int)≤x0)→i+j=k.l.length→L 9063 [x0,(k.l.length:Int),(i:Int),enc k]=some [0,x0,enc (.i 1),enc k]
 | 0,i,hx,hi=>by
   have c1: ¬(i:Int) < (k.l.length:Int):=by omega
   rw [aT,Xm];by_cases c0:(i:Int)=x0
   ·subst c0;simp only [Fb,zz,c1,aH]
   ·simp only [Fb,zz,c0,c1,aH]
 | j+1,i,hx,hi=>by
   have hl:=h.few;have hil:i < k.l.length:=by omega
   have c1:(i:Int) < (k.l.length:Int):=by omega
   have c2: ¬((i:Int) < 0):=by omega
   have c0: ¬((i:Int)=x0):=by omega
   have w:=bC (n:=i) (by omega);have ih:=adV k h x0 j (i+1) hx (by omega);obtain⟨a,lc,w',o,g,tr,T⟩:=jW h.wd _ (List.getElem_mem hil);have hs:=set_self h.sh hil;rw [T.is] at hs;rw [aT,Xm];rcases bG T.hl with rfl | rfl | ⟨r1,r2⟩
   all_goals
    simp only [Fb,zz,c0,c1,c2,w,aY hil,T.is,eG,aX,List.getElem?_cons_zero,List.getElem?_cons_succ,Ji,hs,len1,len2,oK,iO]
    try simp only [r1,r2,zz]
    try simp only [aQ]
    exact ih
theorem adU (k:D) (h:Tk k) (gi:Nat) (x4 x5 x6 x7 x8 x9:Int) (s:D): ∀(j i:Nat),gi < i→i+j=k.l.length→L 9069 [(gi:Int),(k.l.length:Int),(i:Int),enc s,enc k,x4,x5,x6,x7,x8,x9]=some [3,(gi:Int),enc s,enc k,x4,x5,x6,x7,x8,x9]
 | 0,i,hg,hi=>by
   have c1: ¬(i:Int) < (k.l.length:Int):=by omega
   have c0: ¬((i:Int)=(gi:Int)):=by omega
   rw [aT,anS];simp only [aaK,zz,c0,c1,aH]
 | j+1,i,hg,hi=>by
   have hl:=h.few;have hil:i < k.l.length:=by omega
   have c1:(i:Int) < (k.l.length:Int):=by omega
   have c2: ¬((i:Int) < 0):=by omega
   have c0: ¬((i:Int)=(gi:Int)):=by omega
   have w:=bC (n:=i) (by omega);have ih:=adU k h gi x4 x5 x6 x7 x8 x9 s j (i+1) (by omega) (by omega);obtain⟨a,lc,w',o,g,tr,T⟩:=jW h.wd _ (List.getElem_mem hil);have hs:=set_self h.sh hil;rw [T.is] at hs;rw [aT,anS];rcases bG T.hl with rfl | rfl | ⟨r1,r2⟩
   all_goals
    simp only [aaK,zz,c0,c1,c2,w,aY hil,T.is,eG,aX,List.getElem?_cons_zero,List.getElem?_cons_succ,Ji,hs,len1,len2,oK,iO]
    try simp only [r1,r2,zz]
    try simp only [aQ]
    exact ih
theorem Vb (k:D) (h:Tk k) (gi:Nat) (x4 x5 x6 x7 x8 x9:Int) (s:D): ∀(j i:Nat),gi < i→i+j=k.l.length→L 9070 [(gi:Int),(k.l.length:Int),(i:Int),enc s,enc k,x4,x5,x6,x7,x8,x9]=some [4,(gi:Int),enc s,enc k,x4,x5,x6,x7,x8,x9]
 | 0,i,hg,hi=>by
   have c1: ¬(i:Int) < (k.l.length:Int):=by omega
   have c0: ¬((i:Int)=(gi:Int)):=by omega
   rw [aT,anR];simp only [aaJ,zz,c0,c1,aH]
 | j+1,i,hg,hi=>by
   have hl:=h.few;have hil:i < k.l.length:=by omega
   have c1:(i:Int) < (k.l.length:Int):=by omega
   have c2: ¬((i:Int) < 0):=by omega
   have c0: ¬((i:Int)=(gi:Int)):=by omega
   have w:=bC (n:=i) (by omega);have ih:=Vb k h gi x4 x5 x6 x7 x8 x9 s j (i+1) (by omega) (by omega);obtain⟨a,lc,w',o,g,tr,T⟩:=jW h.wd _ (List.getElem_mem hil);have hs:=set_self h.sh hil;rw [T.is] at hs;rw [aT,anR];rcases bG T.hl with rfl | rfl | ⟨r1,r2⟩
   all_goals
    simp only [aaJ,zz,c0,c1,c2,w,aY hil,T.is,eG,aX,List.getElem?_cons_zero,List.getElem?_cons_succ,Ji,hs,len1,len2,oK,iO]
    try simp only [r1,r2,zz]
    try simp only [aQ]
    exact ih
theorem adT (k:D) (h:Tk k) (gi:Nat) (x4 x5 x6 x7 x8 x9:Int): ∀(j i:Nat),gi < i→i+j=k.l.length→L 9071 [(gi:Int),(k.l.length:Int),(i:Int),enc k,x4,x5,x6,x7,x8,x9]=some [3,(gi:Int),enc (.i 1),enc k,x4,x5,x6,x7,x8,x9]
 | 0,i,hg,hi=>by
   have c1: ¬(i:Int) < (k.l.length:Int):=by omega
   have c0: ¬((i:Int)=(gi:Int)):=by omega
   rw [aT,anQ];simp only [aaI,zz,c0,c1,aH]
 | j+1,i,hg,hi=>by
   have hl:=h.few;have hil:i < k.l.length:=by omega
   have c1:(i:Int) < (k.l.length:Int):=by omega
   have c2: ¬((i:Int) < 0):=by omega
   have c0: ¬((i:Int)=(gi:Int)):=by omega
   have w:=bC (n:=i) (by omega);have ih:=adT k h gi x4 x5 x6 x7 x8 x9 j (i+1) (by omega) (by omega);obtain⟨a,lc,w',o,g,tr,T⟩:=jW h.wd _ (List.getElem_mem hil);have hs:=set_self h.sh hil;rw [T.is] at hs;rw [aT,anQ];rcases bG T.hl with rfl | rfl | ⟨r1,r2⟩
   all_goals
    simp only [aaI,zz,c0,c1,c2,w,aY hil,T.is,eG,aX,List.getElem?_cons_zero,List.getElem?_cons_succ,Ji,hs,len1,len2,oK,iO]
    try simp only [r1,r2,zz]
    try simp only [aQ]
    exact ih
theorem Va (k:D) (h:Tk k) (gi:Nat) (x4 x5 x6 x7 x8 x9:Int): ∀(j i:Nat),gi < i→i+j=k.l.length→L 9072 [(gi:Int),(k.l.length:Int),(i:Int),enc k,x4,x5,x6,x7,x8,x9]=some [4,(gi:Int),enc (.i 1),enc k,x4,x5,x6,x7,x8,x9]
 | 0,i,hg,hi=>by
   have c1: ¬(i:Int) < (k.l.length:Int):=by omega
   have c0: ¬((i:Int)=(gi:Int)):=by omega
   rw [aT,anP];simp only [aaH,zz,c0,c1,aH]
 | j+1,i,hg,hi=>by
   have hl:=h.few;have hil:i < k.l.length:=by omega
   have c1:(i:Int) < (k.l.length:Int):=by omega
   have c2: ¬((i:Int) < 0):=by omega
   have c0: ¬((i:Int)=(gi:Int)):=by omega
   have w:=bC (n:=i) (by omega);have ih:=Va k h gi x4 x5 x6 x7 x8 x9 j (i+1) (by omega) (by omega);obtain⟨a,lc,w',o,g,tr,T⟩:=jW h.wd _ (List.getElem_mem hil);have hs:=set_self h.sh hil;rw [T.is] at hs;rw [aT,anP];rcases bG T.hl with rfl | rfl | ⟨r1,r2⟩
   all_goals
    simp only [aaH,zz,c0,c1,c2,w,aY hil,T.is,eG,aX,List.getElem?_cons_zero,List.getElem?_cons_succ,Ji,hs,len1,len2,oK,iO]
    try simp only [r1,r2,zz]
    try simp only [aQ]
    exact ih
theorem adS (k:D) (h:Tk k) (s:D) (gi:Nat) (hgi:gi < k.l.length) (a:Int) (lc:D) (w o g tr:Int) (T:Kt k.l[gi] a lc w o g tr): ∀(j i:Nat),i+j=gi→L 9060 [(gi:Int),(k.l.length:Int),(i:Int),enc s,enc k]=some [ET lc,(gi:Int),enc s,enc k,a,enc lc,w,o,g,tr]
 | 0,i,hi=>by
   have hl:=h.few;have he:i=gi:=by omega
   subst he;have c1:(i:Int) < (k.l.length:Int):=by omega
   have c2: ¬((i:Int) < 0):=by omega
   have w':=bC (n:=i) (by omega);rw [aT,Xn];rcases bG T.hl with rfl | rfl | ⟨r1,r2⟩
   ·have ih:=Vb k h i a (enc (.i 1)) w o g tr s (k.l.length - (i+1)) (i+1) (by omega) (by omega);simp only [Fe,zz,c1,c2,w',aY hgi,T.is,eG,aX,List.getElem?_cons_zero,List.getElem?_cons_succ,List.getElem?_nil,Option.getD_none,len1,len2,oK,iO,aQ];exact ih
   ·have ih:=Vb k h i a (enc (.i 2)) w o g tr s (k.l.length - (i+1)) (i+1) (by omega) (by omega);simp only [Fe,zz,c1,c2,w',aY hgi,T.is,eG,aX,List.getElem?_cons_zero,List.getElem?_cons_succ,List.getElem?_nil,Option.getD_none,len1,len2,oK,iO,aQ];exact ih
   ·have ih:=adU k h i a (enc lc) w o g tr s (k.l.length - (i+1)) (i+1) (by omega) (by omega);simp only [Fe,zz,c1,c2,w',aY hgi,T.is,eG,aX,List.getElem?_cons_zero,List.getElem?_cons_succ,len1,len2,oK,iO];simp only [r1,r2,zz,aQ];rw [XI r1];exact ih
 | j+1,i,hi=>by
   have hl:=h.few;have hil:i < k.l.length:=by omega
   have c1:(i:Int) < (k.l.length:Int):=by omega
   have c2: ¬((i:Int) < 0):=by omega
   have c0: ¬((i:Int)=(gi:Int)):=by omega
   have w1:=bC (n:=i) (by omega);have ih:=adS k h s gi hgi a lc w o g tr T j (i+1) (by omega);obtain⟨a',lc',w',o',g',tr',T'⟩:=jW h.wd _ (List.getElem_mem hil);have hs:=set_self h.sh hil;rw [T'.is] at hs;rw [aT,Xn];rcases bG T'.hl with rfl | rfl | ⟨r1,r2⟩
   all_goals
    simp only [Fe,zz,c0,c1,c2,w1,aY hil,T'.is,eG,aX,List.getElem?_cons_zero,List.getElem?_cons_succ,Ji,hs,len1,len2,oK,iO]
    try simp only [r1,r2,zz]
    try simp only [aQ]
    exact ih
theorem adR (k:D) (h:Tk k) (gi:Nat) (hgi:gi < k.l.length) (a:Int) (lc:D) (w o g tr:Int) (T:Kt k.l[gi] a lc w o g tr): ∀(j i:Nat),i+j=gi→L 9063 [(gi:Int),(k.l.length:Int),(i:Int),enc k]=some [ET lc,(gi:Int),enc (.i 1),enc k,a,enc lc,w,o,g,tr]
 | 0,i,hi=>by
   have hl:=h.few;have he:i=gi:=by omega
   subst he;have c1:(i:Int) < (k.l.length:Int):=by omega
   have c2: ¬((i:Int) < 0):=by omega
   have w':=bC (n:=i) (by omega);rw [aT,Xm];rcases bG T.hl with rfl | rfl | ⟨r1,r2⟩
   ·have ih:=Va k h i a (enc (.i 1)) w o g tr (k.l.length - (i+1)) (i+1) (by omega) (by omega);simp only [Fb,zz,c1,c2,w',aY hgi,T.is,eG,aX,List.getElem?_cons_zero,List.getElem?_cons_succ,List.getElem?_nil,Option.getD_none,len1,len2,oK,iO,aQ];exact ih
   ·have ih:=Va k h i a (enc (.i 2)) w o g tr (k.l.length - (i+1)) (i+1) (by omega) (by omega);simp only [Fb,zz,c1,c2,w',aY hgi,T.is,eG,aX,List.getElem?_cons_zero,List.getElem?_cons_succ,List.getElem?_nil,Option.getD_none,len1,len2,oK,iO,aQ];exact ih
   ·have ih:=adT k h i a (enc lc) w o g tr (k.l.length - (i+1)) (i+1) (by omega) (by omega);simp only [Fb,zz,c1,c2,w',aY hgi,T.is,eG,aX,List.getElem?_cons_zero,List.getElem?_cons_succ,len1,len2,oK,iO];simp only [r1,r2,zz,aQ];rw [XI r1];exact ih
 | j+1,i,hi=>by
   have hl:=h.few;have hil:i < k.l.length:=by omega
   have c1:(i:Int) < (k.l.length:Int):=by omega
   have c2: ¬((i:Int) < 0):=by omega
   have c0: ¬((i:Int)=(gi:Int)):=by omega
   have w1:=bC (n:=i) (by omega);have ih:=adR k h gi hgi a lc w o g tr T j (i+1) (by omega);obtain⟨a',lc',w',o',g',tr',T'⟩:=jW h.wd _ (List.getElem_mem hil);have hs:=set_self h.sh hil;rw [T'.is] at hs;rw [aT,Xm];rcases bG T'.hl with rfl | rfl | ⟨r1,r2⟩
   all_goals
    simp only [Fb,zz,c0,c1,c2,w1,aY hil,T'.is,eG,aX,List.getElem?_cons_zero,List.getElem?_cons_succ,Ji,hs,len1,len2,oK,iO]
    try simp only [r1,r2,zz]
    try simp only [aQ]
    exact ih
structure Sk (s k:D):Prop where
 ws:Wd (.sl 7) s
 wk:Wd (.sl 8) k
 n2s:s≠.i 2
 n2k:k≠.i 2
theorem YW {t:Nat} {d:D} (h:Wd (.sl t) d) (h2:d≠.i 2):d= .i 1∨0 < d.l.length:=by
 rcases h.sh with h1 | h1 | ⟨_,h1⟩
 ·exact .inl h1
 ·exact absurd h1 h2
 ·exact .inr (List.length_pos_iff.2 h1)
theorem atQ (x0:Int) (s:D):L 9061 [x0,enc s]=some [1,x0,enc s]:=by rw [aT,ayI];simp only [aiE,zz];split <;> rfl
theorem atP (x0:Int):L 9064 [x0]=some [1,x0,enc (.i 1)]:=by rw [aT,ayH];simp only [aiD,zz];split <;> rfl
theorem amV (x0:Int) (k:D):L 9054 [x0,enc k]=L 9063 [x0,(k.l.length:Int),0,enc k]:=by rw [aT,ayK];simp only [aiF,zz,aQ]
theorem aBl (x0:Int):L 9055 [x0]=L 9064 [x0]:=by rw [aT,ayJ];rfl
section
variable {s k:D} (h:Sk s k)
include h
theorem Sz {gi:Nat} (hgi:gi < k.l.length) {a:Int} {lc:D} {w o g tr:Int} (T:Kt k.l[gi] a lc w o g tr):L 9050 [(gi:Int),enc s,enc k]=some [ET lc,(gi:Int),enc s,enc k,a,enc lc,w,o,g,tr]:=by
 have hk:0 < k.l.length:=by omega
 have hK:=Px h.wk hk;have hl':=hK.few;have c1':(0:Int) < (k.l.length:Int):=by omega
 have c2':(k.l.length:Int) < 2199023255552:=by omega
 rw [aT,anV];rcases YW h.ws h.n2s with rfl | hs
 ·simp only [I9,zz,len1,oK,c1',c2',aQ];exact (amV _ k).trans (adR k hK gi hgi a lc w o g tr T gi 0 (by omega))
 ·have hT:=E8 h.ws hs;have hl:=hT.few;have c1:(0:Int) < (s.l.length:Int):=by omega
  have c2:(s.l.length:Int) < 1759218604441:=by omega
  simp only [I9,zz,oK,c1,c2,c1',c2',aQ];exact (U9 s hT _ k s.l.length 0 (by omega)).trans (adS k hK s gi hgi a lc w o g tr T gi 0 (by omega))
theorem agV {x:Int} (hx:x < 0∨(k.l.length:Int)≤x):L 9050 [x,enc s,enc k]=some [0,x,enc s,enc k]∨L 9050 [x,enc s,enc k]=some [1,x,enc s]∧k= .i 1:=by
 rw [aT,anV];rcases YW h.ws h.n2s with rfl | hs <;> rcases YW h.wk h.n2k with rfl | hk
 ·refine .inr ⟨?_,rfl⟩;simp only [I9,zz,len1,oK,aQ];exact (aBl _).trans (atP _)
 ·have hK:=Px h.wk hk;have hl:=hK.few;have c1:(0:Int) < (k.l.length:Int):=by omega
  have c2:(k.l.length:Int) < 2199023255552:=by omega
  refine .inl ?_;simp only [I9,zz,len1,oK,c1,c2,aQ];exact (amV _ k).trans (adV k hK _ k.l.length 0 hx (by omega))
 ·have hT:=E8 h.ws hs;have hl:=hT.few;have c1:(0:Int) < (s.l.length:Int):=by omega
  have c2:(s.l.length:Int) < 1759218604441:=by omega
  refine .inr ⟨?_,rfl⟩;simp only [I9,zz,len1,oK,c1,c2,aQ];exact (adQ s hT _ s.l.length 0 (by omega)).trans (atQ _ s)
 ·have hT:=E8 h.ws hs;have hl:=hT.few;have c1:(0:Int) < (s.l.length:Int):=by omega
  have c2:(s.l.length:Int) < 1759218604441:=by omega
  have hK:=Px h.wk hk;have hl':=hK.few;have c1':(0:Int) < (k.l.length:Int):=by omega
  have c2':(k.l.length:Int) < 2199023255552:=by omega
  refine .inl ?_;simp only [I9,zz,oK,c1,c2,c1',c2',aQ];exact (U9 s hT _ k s.l.length 0 (by omega)).trans (adW k hK _ s k.l.length 0 hx (by omega))
end
end Go.As.Try
end
section
namespace Go.As.Try
open Go hiding Stat Spec shape
open Go.As
set_option maxRecDepth 100000
def EqI (a b:D) (i:Nat):Prop:= ∀(k:Nat) (h1:k < a.l.length) (h2:k < b.l.length),i≤k→(a.l[k]).n=(b.l[k]).n
theorem EqI.step {a b:D} {i:Nat} (h1:i < a.l.length) (h2:i < b.l.length) (h:(a.l[i]).n=(b.l[i]).n):EqI a b i↔EqI a b (i+1):=by
 constructor
 ·intro q k x y z;exact q k x y (by omega)
 ·intro q k x y z;by_cases hk:k=i
  ·subst hk;exact h
  ·exact q k x y (by omega)
theorem EqI.end' {a b:D} {i:Nat} (h:a.l.length≤i):EqI a b i:=fun k h1 _ h3=>absurd h1 (by omega)
section
variable {a b:D} (hle:a.l.length=b.l.length) (hlen:a.l.length≤140737488351232)
include hle hlen
theorem Rn: ∀(j i:Nat),i+j=a.l.length→∃c:Int,L 251 [enc a,enc b,(i:Int)]=some [c]∧(c=0∨c=1)∧(c=1↔EqI a b i)
 | 0,i,hi=>by
   have c1: ¬(i:Int) < (a.l.length:Int):=by omega
   refine⟨1,?_,.inr rfl,fun _=>EqI.end' (by omega),fun _=>rfl⟩;rw [aT,e251];simp only [ajD,zz,c1,fin]
 | j+1,i,hi=>by
   have hil:i < a.l.length:=by omega
   have hib:i < b.l.length:=by omega
   have c1:(i:Int) < (a.l.length:Int):=by omega
   have c2: ¬((i:Int) < 0):=by omega
   have c3:(i:Int) < (b.l.length:Int):=by omega
   have w:=bC (n:=i) (by omega);obtain⟨c,h1,h2,h3⟩:=Rn j (i+1) (by omega);by_cases he:(a.l[i]).n=(b.l[i]).n
   ·refine⟨c,?_,h2,h3.trans (EqI.step hil hib he).symm⟩;rw [aT,e251];simp only [ajD,zz,c1,c2,c3,w,aY hil,aY hib,he,fin,h1]
   ·refine⟨0,?_,.inl rfl,fun h=>absurd h (by omega),fun h=>absurd (h i hil hib (Nat.le_refl i)) he⟩;rw [aT,e251];simp only [ajD,zz,c1,c2,c3,w,aY hil,aY hib,he,fin]
end
def arL (a b:D):Prop:=a.l.length=b.l.length∧EqI a b 0
theorem afX (a b:D) (hlen:a.l.length≤140737488351232): ∃c:Int,L 250 [enc a,enc b]=some [c]∧(c=0∨c=1)∧(c=1↔arL a b):=by
 by_cases hl:a.l.length=b.l.length
 ·obtain⟨c,h1,h2,h3⟩:=Rn hl hlen a.l.length 0 (by omega);refine⟨c,?_,h2,h3.trans ⟨fun h=> ⟨hl,h⟩,fun h=>h.2⟩⟩;have hl':(a.l.length:Int)=(b.l.length:Int):=by omega
  rw [aT,e250,asQ,dQ,if_pos,oJ]
  ·simp only [List.map,bP,aW,Nat.reduceLT,aN,aP,fin];exact h1
  ·simp only [iL,gY,aW,Nat.reduceLT,aN,aP,aF,iP];exact hl'
 ·refine⟨0,?_,.inl rfl,fun h=>absurd h (by omega),fun h=>absurd h.1 hl⟩;have hl': ¬(a.l.length:Int)=(b.l.length:Int):=by omega
  rw [aT,e250,asQ,dQ,if_neg]
  ·simp only [jR,List.map,bP,fin]
  ·simp only [iL,gY,aW,Nat.reduceLT,aN,aP,aF,iP];exact hl'
theorem Pq (x y:D) (hle:x.l.length=y.l.length) (hlen:x.l.length≤140737488351232) (x0 x1 x2:Int) (i:Nat) (hi:i < 9223372036854775807) (c:Int) (hc:c=0∨c=1) (h:L 201 [x0,x1,x2,((i+1:Nat):Int)]=some [c]) (x6 x7 x8 x9 x10 x12 x13 x14 x15 x16:Int) :
 ∀(j k:Nat),k+j=x.l.length→∃e:Int,L 202 [x0,x1,x2,(i:Int),(x.l.length:Int),(k:Int),x6,x7,x8,x9,x10,enc x,x12,x13,x14,x15,x16,enc y]=some [e]∧(e=0∨e=1)∧(e=1↔EqI x y k∧c=1)
 | 0,k,hk=>by
   have c1: ¬(k:Int) < (x.l.length:Int):=by omega
   have w:=bC (n:=i) (by omega);refine⟨c,?_,hc,fun h=> ⟨EqI.end' (by omega),h⟩,fun h=>h.2⟩;rw [aT,avX];simp only [ajF,zz,c1,w,fin,h]
 | j+1,k,hk=>by
   have hil:k < x.l.length:=by omega
   have hib:k < y.l.length:=by omega
   have c1:(k:Int) < (x.l.length:Int):=by omega
   have c2: ¬((k:Int) < 0):=by omega
   have c3:(k:Int) < (y.l.length:Int):=by omega
   have w:=bC (n:=k) (by omega);obtain⟨e,h1,h2,h3⟩:=Pq x y hle hlen x0 x1 x2 i hi c hc h x6 x7 x8 x9 x10 x12 x13 x14 x15 x16 j (k+1) (by omega);by_cases he:(x.l[k]).n=(y.l[k]).n
   ·refine⟨e,?_,h2,h3.trans ⟨fun q=> ⟨(EqI.step hil hib he).2 q.1,q.2⟩,fun q=> ⟨(EqI.step hil hib he).1 q.1,q.2⟩⟩⟩;rw [aT,avX];simp only [ajF,zz,c1,c2,c3,w,aY hil,aY hib,he,fin,h1]
   ·refine⟨0,?_,.inl rfl,fun h=>absurd h (by omega),fun h=>absurd (h.1 k hil hib (Nat.le_refl k)) he⟩;rw [aT,avX];simp only [ajF,zz,c1,c2,c3,w,aY hil,aY hib,he,fin]
end Go.As.Try
end
section
namespace Go.As.Try
open Go hiding Stat Spec shape
open Go.As
set_option maxRecDepth 100000
theorem yX (ρ) (a b:SB):((SB.and a b).den ρ=true)=(a.den ρ=true∧b.den ρ=true):=by simp [SB.den]
structure aEI (x y:D):Prop where
 o:(x.hd 0).n=(y.hd 0).n
 c:(x.hd 1).n=(y.hd 1).n
 d:(x.hd 2).n=0↔(y.hd 2).n=0
 g:(x.hd 3).n=(y.hd 3).n
 r:arL (x.hd 4) (y.hd 4)
 v:arL (x.hd 5) (y.hd 5)
def XL (a b:D) (i:Nat):Prop:= ∀(k:Nat) (h1:k < a.l.length) (h2:k < b.l.length),i≤k→aEI a.l[k] b.l[k]
theorem bits {p q:Int}:((¬(¬p=0∧¬q=0))∧¬(¬¬p=0∧¬¬q=0))↔¬(p=0↔q=0):=by omega
def TP (s:D):Prop:= ∀x∈s.l,(x.hd 4).l.length≤140737488351232∧(x.hd 5).l.length≤140737488351232
section
variable {a b:D} (hle:a.l.length=b.l.length) (hlen:a.l.length≤140737488351232) (hr:TP a)
include hle hlen hr
theorem PW: ∀(j i:Nat),i+j=a.l.length→∃c:Int,L 201 [enc a,enc b,(a.l.length:Int),(i:Int)]=some [c]∧(c=0∨c=1)∧(c=1↔XL a b i)
 | 0,i,hi=>by
   have c1: ¬(i:Int) < (a.l.length:Int):=by omega
   refine⟨1,?_,.inr rfl,fun _ k h1 _ h3=>absurd h1 (by omega),fun _=>rfl⟩;rw [aT,U3];simp only [t201,zz,c1,fin]
 | j+1,i,hi=>by
   have hil:i < a.l.length:=by omega
   have hib:i < b.l.length:=by omega
   have c1:(i:Int) < (a.l.length:Int):=by omega
   have c2: ¬((i:Int) < 0):=by omega
   have c3:(i:Int) < (b.l.length:Int):=by omega
   obtain⟨c,h1,h2,h3⟩:=PW j (i+1) (by omega);have hb:=hr _ (List.getElem_mem hil);by_cases b0:((a.l[i]).hd 0).n=((b.l[i]).hd 0).n
   case neg=>
    refine⟨0,?_,.inl rfl,fun h=>absurd h (by omega),fun h=>absurd (h i hil hib (Nat.le_refl i)).o b0⟩;rw [aT,U3];simp only [t201,zz,c1,c2,c3,aY hil,aY hib,b0,fin]
   by_cases b1:((a.l[i]).hd 1).n=((b.l[i]).hd 1).n
   case neg=>
    refine⟨0,?_,.inl rfl,fun h=>absurd h (by omega),fun h=>absurd (h i hil hib (Nat.le_refl i)).c b1⟩;rw [aT,U3];simp only [t201,zz,c1,c2,c3,aY hil,aY hib,b0,b1,fin]
   by_cases b2:(((a.l[i]).hd 2).n=0↔((b.l[i]).hd 2).n=0)
   case neg=>
    refine⟨0,?_,.inl rfl,fun h=>absurd h (by omega),fun h=>absurd (h i hil hib (Nat.le_refl i)).d b2⟩;rw [aT,U3];have b2':=bits.2 b2;simp only [t201,zz,yX,L6,c1,c2,c3,aY hil,aY hib,b0,b1,if_pos b2',fin]
   have b2': ¬_:=fun h=>bits.1 h b2;by_cases b3:((a.l[i]).hd 3).n=((b.l[i]).hd 3).n
   case neg=>
    refine⟨0,?_,.inl rfl,fun h=>absurd h (by omega),fun h=>absurd (h i hil hib (Nat.le_refl i)).g b3⟩;rw [aT,U3];simp only [t201,zz,yX,L6,c1,c2,c3,aY hil,aY hib,b0,b1,if_neg b2',b3,fin]
   obtain⟨e,g1,g2,g3⟩:=afX ((a.l[i]).hd 4) ((b.l[i]).hd 4) hb.1;by_cases b4:e=0
   ·subst b4;refine⟨0,?_,.inl rfl,fun h=>absurd h (by omega),fun h=>absurd (g3.2 (h i hil hib (Nat.le_refl i)).r) (by omega)⟩;rw [aT,U3];simp only [t201,zz,yX,L6,c1,c2,c3,aY hil,aY hib,b0,b1,if_neg b2',b3,g1,fin]
   have he:e=1:=by omega
   subst he;by_cases b5:((a.l[i]).hd 5).l.length=((b.l[i]).hd 5).l.length
   case neg=>
    have b5': ¬(((a.l[i]).hd 5).l.length:Int)=(((b.l[i]).hd 5).l.length:Int):=by omega
    refine⟨0,?_,.inl rfl,fun h=>absurd h (by omega),fun h=>absurd (h i hil hib (Nat.le_refl i)).v.1 b5⟩;rw [aT,U3];simp only [t201,zz,yX,L6,c1,c2,c3,aY hil,aY hib,b0,b1,if_neg b2',b3,g1,aA,b5',fin]
   have b5':(((a.l[i]).hd 5).l.length:Int)=(((b.l[i]).hd 5).l.length:Int):=by omega
   obtain⟨f,f1,f2,f3⟩:=Pq ((a.l[i]).hd 5) ((b.l[i]).hd 5) b5 hb.2 (enc a) (enc b) (a.l.length:Int) i (by omega) c h2 h1 ((b.l[i]).hd 0).n ((b.l[i]).hd 1).n ((a.l[i]).hd 2).n ((b.l[i]).hd 3).n (enc ((a.l[i]).hd 4)) ((b.l[i]).hd 0).n ((b.l[i]).hd 1).n ((b.l[i]).hd 2).n ((b.l[i]).hd 3).n (enc ((b.l[i]).hd 4)) ((a.l[i]).hd 5).l.length 0 (by omega);refine⟨f,?_,f2,fun h k k1 k2 k3=>?_,fun h=>f3.2 ⟨(h i hil hib (Nat.le_refl i)).v.2,h3.2 fun k k1 k2 k3=>h k k1 k2 (by omega)⟩⟩
   ·rw [aT,U3];rw [b5'] at f1;simp only [t201,zz,yX,L6,c1,c2,c3,aY hil,aY hib,b0,b1,if_neg b2',b3,g1,aA,b5',fin];exact f1
   ·by_cases hk:k=i
    ·subst hk;exact⟨b0,b1,b2,b3,g3.1 rfl,b5,(f3.1 h).1⟩
    ·exact h3.1 (f3.1 h).2 k k1 k2 (by omega)
end
theorem aeT (a b:D) (hlen:a.l.length≤140737488351232) (hr:TP a): ∃c:Int,L 200 [enc a,enc b]=some [c]∧(c=0∨c=1)∧(c=1↔a.l.length=b.l.length∧XL a b 0):=by
 by_cases hl:a.l.length=b.l.length
 ·obtain⟨c,h1,h2,h3⟩:=PW hl hlen hr a.l.length 0 (by omega);refine⟨c,?_,h2,h3.trans ⟨fun h=> ⟨hl,h⟩,fun h=>h.2⟩⟩;have hl':(a.l.length:Int)=(b.l.length:Int):=by omega
  rw [aT,aCp,asR,dQ,if_pos,oJ]
  ·simp only [List.map,bP,gY,iP,aW,Nat.reduceLT,aN,aP,aF,fin];exact h1
  ·simp only [iL,gY,aW,Nat.reduceLT,aN,aP,aF,iP];exact hl'
 ·refine⟨0,?_,.inl rfl,fun h=>absurd h (by omega),fun h=>absurd h.1 hl⟩;have hl': ¬(a.l.length:Int)=(b.l.length:Int):=by omega
  rw [aT,aCp,asR,dQ,if_neg]
  ·simp only [jR,List.map,bP,fin]
  ·simp only [iL,gY,aW,Nat.reduceLT,aN,aP,aF,iP];exact hl'
end Go.As.Try
end
section
namespace Go.As.Try
open Go hiding Stat Spec shape
open Go.As
set_option maxRecDepth 100000
end Go.As.Try
end
section
namespace Go.As.Try
open Go hiding Stat Spec shape
open Go.As
set_option maxRecDepth 100000
theorem agW {d0:D} (hl:d0.l.length≤64) (hn:0 < d0.l.length):L 301 [enc d0,(d0.l.length:Int)]=some [enc (dL (d0.l.map mQ))]:=by
 have e0:=OO d0 hl (d0.l.length - 1) 1 [mQ (d0.l[0]'hn)] (by omega) rfl
 have e1:[mQ (d0.l[0]'hn)]++(d0.l.drop 1).map mQ=d0.l.map mQ:=by
  conv=>rhs; rw [← List.drop_zero (l:=d0.l),List.drop_eq_getElem_cons hn]
  rfl
 rw [e1] at e0;have a0:d0.at 0=d0.l[0]'hn:=aY (i:=0) hn;have c1:(0:Int) < (d0.l.length:Int):=by omega
 have key: ∀q:Int,q=(if (((d0.l[0]'hn)).hd 0).n=3∨((d0.l[0]'hn).hd 0).n=9 then ((d0.l[0]'hn).hd 2).n else 0)→enc (dL [mQ (d0.l[0]'hn)])=enc (.p (.p (.i (-1)) (.p (.i q) (.p (.i 0) (.p (.i 0) (.p (.i 1) (.p (.i 1) (.i 0))))))) (.i 0)):=fun q hq=>by rw [hq]; rfl
 have k:dY (bQ L (low [enc d0,(d0.l.length:Int)])) Ym= .jump 302 [enc (dL [mQ (d0.l[0]'hn)]),enc d0,(d0.l.length:Int),1]:=by
  by_cases h3:((d0.l[0]'hn).hd 0).n=3
  ·rw [key _ (by rw [if_pos (.inl h3)])];simp only [Ym,zz,c1,a0,yL,List.nil_append,h3,dL]
  ·by_cases h9:((d0.l[0]'hn).hd 0).n=9
   ·rw [key _ (by rw [if_pos (.inr h9)])];simp only [Ym,zz,c1,a0,yL,List.nil_append,if_neg h3,if_pos h9,dL]
   ·rw [key 0 (by rw [if_neg (by omega)])];simp only [Ym,zz,c1,a0,yL,List.nil_append,if_neg h3,if_neg h9,dL]
 rw [aT,e301];exact (congrArg (fin L) k).trans e0
theorem arC {d0 d1:D} (hc:L 450 [enc d0,enc d1]=some [0]) (hl:d0.l.length≤64) (hn:0 < d0.l.length):L 300 [enc d0,enc d1]=some [enc (dL (d0.l.map mQ))]:=by
 have k:dY (bQ L (low [enc d0,enc d1])) ajC= .jump 301 [enc d0,(d0.l.length:Int)]:=by refine bW [.eq (a0 450 [.aO 0,.aO 1]) (.lit 1),.eq (rr 450 [.aO 0,.aO 1] 0) (.lit 0)] [] (ju 301 [.aO 0,ln (.aO 0)]) (by simp only [zz,hc]) (by kernel_rfl) ?_;simp only [oJ,List.map,aW,gY,Nat.reduceLT,aN,aP,aF]
 rw [aT,e300];exact (congrArg (fin L) k).trans (agW hl hn)
theorem arB {d0 d1:D} {c:Int} (hc:L 450 [enc d0,enc d1]=some [c]) (h:c≠0∨d0.l.length=0):L 300 [enc d0,enc d1]=some [enc (.i 1)]:=by
 by_cases h0:c=0
 ·subst h0;have hz:d0.l.length=0:=h.resolve_left (fun h=>h rfl)
  have k:dY (bQ L (low [enc d0,enc d1])) ajC= .jump 301 [enc d0,0]:=by refine bW [.eq (a0 450 [.aO 0,.aO 1]) (.lit 1),.eq (rr 450 [.aO 0,.aO 1] 0) (.lit 0)] [] (ju 301 [.aO 0,ln (.aO 0)]) (by simp only [zz,hc]) (by kernel_rfl) ?_;simp only [oJ,List.map,aW,gY,Nat.reduceLT,aN,aP,aF,hz];rfl
  have k1:dY (bQ L (low [enc d0,0])) Ym= .out [enc (.i 1)]:=by refine bW [] [.lt (.lit 0) (.aO 1)] (ou [.dat (.i 1)]) (by simp only [zz] <;> omega) (by kernel_rfl) rfl
  rw [aT,e300];refine (congrArg (fin L) k).trans ?_;show L 301 [enc d0,0]=_;rw [aT,e301];exact congrArg (fin L) k1
 ·have k:dY (bQ L (low [enc d0,enc d1])) ajC= .out [enc (.i 1)]:=by
   refine bW [.eq (a0 450 [.aO 0,.aO 1]) (.lit 1)] [.eq (rr 450 [.aO 0,.aO 1] 0) (.lit 0)] (ou [.dat (.i 1)]) (by simp only [zz,hc] <;> omega) (by kernel_rfl) rfl
  rw [aT,e300];exact congrArg (fin L) k
structure Gs (s:D) (n:Nat):Prop where
 wd:Wd (.sl 7) s
 rows: ∀x∈s.l,(x.hd 4).l.length≤n∧(x.hd 5).l.length≤n
theorem Gs.few {s:D} {n:Nat} (h:Gs s n) (hn:n < 17592186044415):few s:=fun x hx=>by have:=h.rows x hx; omega
theorem Gs.mono {s:D} {n m:Nat} (h:Gs s n) (hm:n≤m):Gs s m:=⟨h.wd,fun x hx=>by have:=h.rows x hx; omega⟩
theorem Pn {l:List D} (h: ∀x∈l,Di x) (hn:l≠[]) (hl:l.length≤1759218604390):Wd (.sl 7) (dL l):=by
 have e:(l.map fun x=>x.l).map dL=l:=by
  rw [List.map_map]
  conv=>rhs; rw [← List.map_id l]
  apply List.map_congr_left;intro x hx;obtain⟨o,c,d,g,r,v,rfl,_⟩:=h x hx;rfl
 rw [← e];refine .many 7 [.int .i64,.int .i64,.bool,.int .i64,.sl 0,.sl 0] _ rfl (by simpa using hn) (by have:vV 7=80:=rfl; rw [this,List.length_map]; omega) (fun r hr=>?_) fun r hr j d c h1 h2=>?_
 ·obtain⟨x,hx,rfl⟩:=List.mem_map.1 hr;obtain⟨o,c,d,g,r,v,rfl,_⟩:=h x hx;rfl
 ·obtain⟨x,hx,rfl⟩:=List.mem_map.1 hr;obtain⟨o,c',d',g,r,v,rfl,ho,hc,hd,hg,hr,hv⟩:=h x hx;rw [aX] at h1
  match j with
  | 0=>simp at h1 h2; subst h1 h2; exact .int _ _ ho
  | 1=>simp at h1 h2; subst h1 h2; exact .int _ _ hc
  | 2=>
    simp at h1 h2; subst h1 h2;rcases hd with rfl | rfl
    ·exact .bool false
    ·exact .bool true
  | 3=>simp at h1 h2; subst h1 h2; exact .int _ _ hg
  | 4=>simp at h1 h2; subst h1 h2; exact hr
  | 5=>simp at h1 h2; subst h1 h2; exact hv
  | j+6=>simp at h1
theorem Tg.thing {x:D} {o c dn g:Int} {r v:D} (T:Tg x o c dn g r v):Di x:=⟨o,c,dn,g,r,v,T.is,T.ho,T.hc,T.hd,T.hg,T.hr,T.hv⟩
theorem xZ {l:List D} {z:Int} {y x:D} (h:x∈fE l z y):x∈l∨x=y:=by
 unfold fE at h;split at h
 ·exact .inl h
 ·exact List.mem_or_eq_of_mem_set h
theorem WR {l:List D} {z:Int} {y:D} {k:Nat} (h:(k:Int)≠z):(fE l z y)[k]?=l[k]?:=by
 unfold fE;split
 ·rfl
 ·rw [List.getElem?_set,if_neg (by omega)]
theorem WS {l:List D} {k:Nat} {y:D} (h:k < l.length):(fE l (k:Int) y)[k]?=some y:=by rw [xJ,List.getElem?_set,if_pos rfl,if_pos h]
theorem Zj {s:D} {n:Nat} (G:Gs s n) {z:Int} {y:D} (hy:Di y) (h4:(y.hd 4).l.length≤n) (h5:(y.hd 5).l.length≤n) (hn:0 < s.l.length):Gs (dL (fE s.l z y)) n:=by
 have ht:=E8 G.wd hn;refine⟨Pn (fun x hx=>?_) (fun he=>?_) (by rw [fP]; exact ht.few),fun x hx=>?_⟩
 ·rcases xZ hx with h | rfl
  ·exact G.wd.thing x h
  ·exact hy
 ·have:=fP s.l z y;rw [he] at this;simp at this;omega
 ·rw [aX] at hx;rcases xZ hx with h | rfl
  ·exact G.rows x h
  ·exact⟨h4,h5⟩
theorem akR (s:D) (obj M:Int) (A:Act):(YU s obj M A).l.length=s.l.length:=by
 cases A with
 | blk=>rfl
 | mis=>rfl
 | res o c dn g r v m a oc=>
   unfold YU;rw [aX,fP]
   cases m with
   | none=>rfl
   | some q=>exact fP _ _ _
theorem atJ {s:D} {n:Nat} (G:Gs s n) {obj M:Int} {A:Act} (hA:OZ (n+1) A) (ho0:0≤obj) (ho1:obj < (s.l.length:Int)) (hM:NoM A∨0≤M∧M < (s.l.length:Int)):Gs (YU s obj M A) (n+1):=by
 have G1:=G.mono (Nat.le_succ n)
 cases A with
 | blk=>exact G1
 | mis=>exact G1
 | res o c dn g r v m a oc=>
   obtain⟨h1,h2,h3,h4,h5,h6,h7,h8,h9,_⟩:=hA
   have hd:(if dn=0 then (0:Int) else 1)=dn:=by rcases h3 with rfl | rfl <;> rfl
   have hy:Di (dL [.i o,.i c,.i (if dn=0 then 0 else 1),.i g,r,v]):=⟨o,c,_,g,r,v,rfl,h1,h2,by rw [hd]; exact h3,h4,h5,h7⟩
   cases m with
   | none=>exact Zj G1 hy h6 h8 (by omega)
   | some q=>
     have hM:0≤M∧M < (s.l.length:Int):=hM.resolve_left (fun h=>by simp [NoM] at h);obtain⟨k,rfl⟩ : ∃k:Nat,M=(k:Int):=⟨M.toNat,by omega⟩;have hk:k < s.l.length:=by omega
     obtain⟨o',c',d',g',r',v',he,q1,q2,q3,q4,q5,q6⟩:=G.wd.thing _ (List.getElem_mem hk);have hrw:=G1.rows _ (List.getElem_mem hk);rw [he] at hrw;have hz:dL (fE (s.at (k:Int)).l 0 (.i q))=dL [.i q,.i c',.i d',.i g',r',v']:=by rw [aY hk,he]; rfl
     have G2:Gs (dL (fE s.l (k:Int) (dL (fE (s.at (k:Int)).l 0 (.i q))))) (n+1):=by rw [hz];exact Zj G1 ⟨q,c',d',g',r',v',rfl,h9 q rfl,q2,q3,q4,q5,q6⟩ hrw.1 hrw.2 (by omega)
     have:=Zj (z:=obj) G2 hy h6 h8 (by rw [aX,fP]; omega);rw [aX] at this;exact this
def evA (th op obj:Int):Act→List Int
 | .blk=>[0,0,0,0,0,0]
 | .mis=>[th,27,obj,IntKind.i64.wrap op,0,2]
 | .res _ _ _ _ _ _ _ a oc=>[th,op,obj,a,0,oc]
theorem abT (s:D) (th op obj M:Int) (A:Act):outA s th op obj M A=enc (YU s obj M A) :: evA th op obj A:=by cases A <;> rfl
end Go.As.Try
end
section
namespace Go.As.Try
open Go hiding Stat Spec shape
open Go.As
set_option maxRecDepth 100000
theorem z6:((2:Int)=1)=False∧((4:Int)=3)=False∧((5:Int)=3)=False∧((5:Int)=4)=False∧((6:Int)=3)=False∧((6:Int)=4)=False∧((6:Int)=5)=False∧((7:Int)=3)=False∧((7:Int)=4)=False∧((7:Int)=5)=False∧((7:Int)=6)=False:=by simp
structure KT where
 a:Int
 lc:D
 w:Int
 o:Int
 g:Int
 tr:Int
abbrev KT.d (x:KT):D:=dL [.i x.a,x.lc,.i x.w,.i x.o,.i x.g,.i x.tr]
structure Cd (d0 d1:D):Prop where
 h0:Wd (.sl 3) d0
 h1:Wd (.sl 4) d1
 ok:Ez d0 d1
 ins: ∀x∈d1.l,acO d0 x
theorem MR.code {d0 d1 s k:D} (h0:Wd (.sl 3) d0) (h1:Wd (.sl 4) d1) (hr:Es s) (M:MR d0 d1 s k):Cd d0 d1∧s.l.length=d0.l.length:=by obtain⟨b,hb,_,hi⟩:=qZ h0 h1 hr;rw [M.1] at hb;simp only [Option.some.injEq,List.cons.injEq,and_true] at hb;obtain⟨hC,hle,_⟩:=hi.1 hb.symm;obtain⟨ys,hC',c,rfl,_,hok⟩:=Dz h0 h1;rw [hC] at hC';simp only [Option.some.injEq,List.cons.injEq,and_true] at hC';have:=hok hC'.symm;exact⟨⟨h0,h1,this.1,this.2⟩,hle⟩
structure Rt (d0 d1:D) (t:Int) (x:KT):Prop where
 t0:0≤t
 t1:t < (d1.l.length:Int)
 ok:OkT d0 ((d1.at t).hd 1).l.length ((d1.at t).hd 2).l.length x.a x.lc.l.length x.w x.o x.g x.tr
 hl:Wd (.sl 0) x.lc
 hg:iM .i64 x.g
abbrev Ins (d1:D) (t:Int) (x:KT):D:=((d1.at t).hd 2).at x.a
abbrev Nc (d1:D) (t:Int):Nat:=((d1.at t).hd 2).l.length
structure InF (d0:D) (nl nc:Nat) (I:D):Prop where
 ok:OkI d0 nl nc (I.hd 0).n (I.hd 1).n (I.hd 2).n (I.hd 3).n (I.hd 4).n (I.hd 6).l.length
 op:iM .u8 (I.hd 1).n
 ob:iM .i64 (I.hd 2).n
 to:iM .i64 (I.hd 4).n
 nn:iM .i64 (I.hd 5).n
 ar:Wd (.sl 6) (I.hd 6)
theorem Cd.at {d0 d1:D} (C:Cd d0 d1) {t:Int} (t0:0≤t) (t1:t < (d1.l.length:Int)):d1.at t∈d1.l:=by obtain⟨i,rfl⟩ : ∃i:Nat,t=(i:Int):=⟨t.toNat,by omega⟩;rw [aY (by omega:i < d1.l.length)];exact List.getElem_mem _
theorem alK {d:D} {i:Int} (h0:0≤i) (h1:i < (d.l.length:Int)):d.at i∈d.l:=by obtain⟨k,rfl⟩ : ∃k:Nat,i=(k:Int):=⟨i.toNat,by omega⟩;rw [aY (by omega:k < d.l.length)];exact List.getElem_mem _
theorem Cd.code {d0 d1:D} (C:Cd d0 d1) {t:Int} (t0:0≤t) (t1:t < (d1.l.length:Int)):Wd (.sl 5) ((d1.at t).hd 2):=by
 obtain⟨i,rfl⟩ : ∃i:Nat,t=(i:Int):=⟨t.toNat,by omega⟩;have hi:i < d1.l.length:=by omega
 obtain⟨nm',lc,cd,he,_,_,h⟩:=Fa C.h1 hi;rw [aY hi,he];exact h
theorem Cd.inf {d0 d1:D} (C:Cd d0 d1) {t:Int} {x:KT} (R:Rt d0 d1 t x) (h:x.a < (Nc d1 t:Int)):InF d0 ((d1.at t).hd 1).l.length (Nc d1 t) (Ins d1 t x):=by
 have ha:=R.ok.1;have h1:=C.ins _ (C.at R.t0 R.t1) (Ins d1 t x) (alK ha h);obtain⟨i,hi⟩ : ∃i:Nat,x.a=(i:Int):=⟨x.a.toNat,by omega⟩;have hil:i < ((d1.at t).hd 2).l.length:=by unfold Nc at h; omega
 obtain⟨a,b,c,e,f,g,O4,he,_,hb,hc,_,hf,hg,hw⟩:=Ze (C.code R.t0 R.t1) hil;have hI:Ins d1 t x=dL [.i a,.i b,.i c,.i e,.i f,.i g,O4]:=by unfold Ins; rw [hi,aY hil,he]
 refine⟨h1,?_,?_,?_,?_,?_⟩
 all_goals
  rw [hI];simp only [zg,Option.getD_some,n_i];assumption
theorem Rt.ints {d0 d1:D} {t:Int} {x:KT} (R:Rt d0 d1 t x):Ints x.lc:=fun y hy=>by obtain⟨n,rfl,hn⟩:=(R.hl.el1 rfl y hy).i;exact hn
section
variable {d0 d1 s k:D} {t:Int} {x:KT} (hk:k.at t=x.d) (ht:t < (k.l.length:Int)) (R:Rt d0 d1 t x)
include hk ht R
def jJ (d1:D) (t:Int) (x:KT):Int:=if x.w=0 then (if x.a=(Nc d1 t:Int) then 1 else 0) else 0
theorem FN:L 1650 [enc d0,enc d1,enc s,enc k,t]=some [jJ d1 t x]:=by
 have c1: ¬t < 0:=by have:=R.t0; omega
 have c2:=R.t1;unfold jJ Nc;rw [aT,azN];simp only [ajG,zz,hk,c1,ht,c2,zg];by_cases w0:x.w=0
 ·simp only [w0,if_true];by_cases a0:x.a=(((d1.at t).hd 2).l.length:Int)
  ·simp only [a0,if_true];rfl
  ·simp only [a0,if_false];rfl
 ·simp only [w0,if_false];rfl
end
noncomputable def ev (e lc:D):Int:=low ((L 1950 [(e.hd 0).n,enc (e.hd 1),(e.hd 2).n,enc (e.hd 3),enc lc]).getD []) 0
theorem WY {I4 lc:D} (ha:Wd (.sl 6) I4) (hl:Ints lc) {i:Int} (i0:0≤i) (i1:i < (I4.l.length:Int)):L 1950 [((I4.at i).hd 0).n,enc ((I4.at i).hd 1),((I4.at i).hd 2).n,enc ((I4.at i).hd 3),enc lc]=some [ev (I4.at i) lc]∧iM .i64 (ev (I4.at i) lc):=by
 obtain⟨j,rfl⟩ : ∃j:Nat,i=(j:Int):=⟨i.toNat,by omega⟩;have hj:j < I4.l.length:=by omega
 obtain⟨k',s',n',ks',he,_,_,hn',h2⟩:=Dq ha hj;obtain⟨ys,hL,v,rfl,hv⟩:=WX _ ks' (Nat.le_refl _) h2 k' n' s' lc hn' hl;have e1:I4.at (j:Int)=dL [.i k',s',.i n',ks']:=by rw [aY hj,he]
 unfold ev;rw [e1];simp only [zg,Option.getD_some,n_i,hL,aN];exact⟨trivial,hv⟩
noncomputable def XE (I4 lc:D):Int:=if I4.l.length=0 then 0 else ev (I4.at ((I4.l.length:Int) - 1)) lc
theorem awU {I4 lc:D} (ha:Wd (.sl 6) I4) (hl:Ints lc):iM .i64 (XE I4 lc):=by
 unfold XE;split
 ·constructor <;> omega
 ·exact (WY ha hl (by omega) (by omega)).2
theorem QT {I4 lc:D} (ha:Wd (.sl 6) I4) (hl:Ints lc) (x3 x5 x6 x7 x8 x9 x10:Int): ∀(j i:Nat) (v:Int),i+j=I4.l.length→L 1751 [enc I4,(I4.l.length:Int),(i:Int),x3,enc lc,x5,x6,x7,x8,x9,x10,v]=some [x9,x10,if j=0 then v else XE I4 lc,x8,1]
 | 0,i,v,hi=>by
   have c1: ¬(i:Int) < (I4.l.length:Int):=by omega
   rw [aT,aoT];simp only [abC,zz,c1,aH,if_true]
 | j+1,i,v,hi=>by
   have hr:=ha.len;have c1:(i:Int) < (I4.l.length:Int):=by omega
   have c2: ¬((i:Int) < 0):=by omega
   have w:=bC (n:=i) (by omega);obtain⟨he,_⟩:=WY ha hl (i:=(i:Int)) (by omega) c1;have ih:=QT ha hl x3 x5 x6 x7 x8 x9 x10 j (i+1) (ev (I4.at (i:Int)) lc) (by omega);rw [aT,aoT];simp only [abC,zz,c1,c2,w,he,aQ];rw [ih,if_neg (Nat.succ_ne_zero j)];by_cases hj:j=0
   ·subst hj;rw [if_pos rfl];unfold XE;rw [if_neg (by omega),show ((I4.l.length:Int) - 1)=(i:Int) by omega]
   ·rw [if_neg hj]
noncomputable def mD (d1:D) (t:Int) (x:KT):List Int:=
 if x.w=0 then
  if x.a=(Nc d1 t:Int) then [0,0,0,0,0]
  else if ((Ins d1 t x).hd 0).n=1 then [((Ins d1 t x).hd 1).n,((Ins d1 t x).hd 2).n,XE ((Ins d1 t x).hd 6) x.lc,x.tr,1]
  else if ((Ins d1 t x).hd 0).n=2 then [26,((Ins d1 t x).hd 2).n,0,0,1]
  else [0,0,0,0,0]
 else [x.w,x.o,x.g,0,1]
section
variable {d0 d1 s k:D} {t:Int} {x:KT} (C:Cd d0 d1) (hk:k.at t=x.d) (ht:t < (k.l.length:Int)) (R:Rt d0 d1 t x)
include C hk ht R
theorem Ue:L 1750 [enc d0,enc d1,enc s,enc k,t]=some (mD d1 t x):=by
 have c1: ¬t < 0:=by have:=R.t0; omega
 have c2:=R.t1;have c3: ¬x.a < 0:=by have:=R.ok.1; omega
 have ho:=FN (s:=s) hk ht R;unfold mD;rw [aT,azM];by_cases w0:x.w=0
 ·by_cases a0:x.a=(Nc d1 t:Int)
  ·have e:jJ d1 t x=1:=by unfold jJ; rw [if_pos w0,if_pos a0]
   rw [e] at ho;rw [if_pos w0,if_pos a0];simp only [Lu,zz,hk,c1,ht,c2,zg,w0,ho,aA,aH]
  ·have e:jJ d1 t x=0:=by unfold jJ; rw [if_pos w0,if_neg a0]
   rw [e] at ho;have hlt:x.a < (Nc d1 t:Int):=by have:=R.ok.2.1; unfold Nc at a0 ⊢; omega
   have F:=C.inf R hlt;rw [if_pos w0,if_neg a0];unfold Ins at F ⊢;unfold Nc at hlt;by_cases h1:((((d1.at t).hd 2).at x.a).hd 0).n=1
   ·rw [if_pos h1];have lp:=QT F.ar R.ints x.a x.w x.o x.g x.tr ((((d1.at t).hd 2).at x.a).hd 1).n ((((d1.at t).hd 2).at x.a).hd 2).n ((((d1.at t).hd 2).at x.a).hd 6).l.length 0 0 (by omega)
    have e2:(if ((((d1.at t).hd 2).at x.a).hd 6).l.length=0 then 0 else XE ((((d1.at t).hd 2).at x.a).hd 6) x.lc)=XE ((((d1.at t).hd 2).at x.a).hd 6) x.lc:=by
     by_cases hz:((((d1.at t).hd 2).at x.a).hd 6).l.length=0
     ·rw [if_pos hz]; unfold XE; rw [if_pos hz]
     ·rw [if_neg hz]
    rw [e2] at lp;simp only [Lu,zz,hk,c1,ht,c2,c3,zg,w0,ho,hlt,h1,aQ];rw [w0] at lp;exact lp
   ·by_cases h2:((((d1.at t).hd 2).at x.a).hd 0).n=2
    ·rw [if_neg h1,if_pos h2];simp only [Lu,zz,hk,c1,ht,c2,c3,zg,w0,ho,hlt,h2,aH,if_false,z6]
    ·rw [if_neg h1,if_neg h2];simp only [Lu,zz,hk,c1,ht,c2,c3,zg,w0,ho,hlt,h1,h2,aH]
 ·rw [if_neg w0];simp only [Lu,zz,hk,c1,ht,zg,w0,aH]
end
noncomputable def AO (I:D) (x:KT):KT:=
 if (I.hd 0).n=3 then { x with a:=x.a+1,lc:=dL (fE x.lc.l (I.hd 3).n (.i (ev ((I.hd 6).at 0) x.lc))) }
 else if (I.hd 0).n=4 then (if ev ((I.hd 6).at 0) x.lc=0 then { x with a:=(I.hd 4).n } else { x with a:=x.a+1 })
 else if (I.hd 0).n=5 then { x with a:=(I.hd 4).n }
 else if (I.hd 0).n=6 then { x with a:=x.a+1,lc:=dL (fE x.lc.l (I.hd 3).n (.i (I.hd 5).n)) }
 else if 0 < (x.lc.at (I.hd 3).n).n then { x with a:=x.a+1,lc:=dL (fE x.lc.l (I.hd 3).n (.i (IntKind.i64.wrap ((x.lc.at (I.hd 3).n).n - 1)))) }
 else { x with a:=(I.hd 4).n }
structure Loc (d1:D) (t:Int) (x:KT):Prop where
 w:x.w=0
 a:x.a < (Nc d1 t:Int)
 n1:((Ins d1 t x).hd 0).n≠1
 n2:((Ins d1 t x).hd 0).n≠2
theorem Y6 {d0 d1:D} {t:Int} {x:KT} (R:Rt d0 d1 t x) (ho:jJ d1 t x=0) (hn:low (mD d1 t x) 4=0):Loc d1 t x:=by
 unfold jJ at ho;unfold mD at hn;have h2:=R.ok.2.1;by_cases w0:x.w=0
 ·rw [if_pos w0] at ho hn;by_cases a0:x.a=(Nc d1 t:Int)
  ·rw [if_pos a0] at ho;omega
  ·rw [if_neg a0] at hn;by_cases h1:((Ins d1 t x).hd 0).n=1
   ·rw [if_pos h1] at hn;simp only [aP,aN] at hn;omega
   ·by_cases h2':((Ins d1 t x).hd 0).n=2
    ·rw [if_neg h1,if_pos h2'] at hn;simp only [aP,aN] at hn;omega
    ·exact⟨w0,by unfold Nc at a0 ⊢; omega,h1,h2'⟩
 ·rw [if_neg w0] at hn;simp only [aP,aN] at hn;omega
section
variable {d0 d1 s k:D} {t:Int} {x:KT} (C:Cd d0 d1) (ht:t < (k.l.length:Int)) (R:Rt d0 d1 t x) (Lc:Loc d1 t x)
include C ht R Lc
theorem alR:L 14000 [enc d0,enc d1,t,enc s,enc k,x.a,enc x.lc,x.w,x.o,x.g,x.tr]=some [0,enc d0,enc d1,t,enc s,enc k,x.a,enc x.lc,x.w,x.o,x.g,x.tr,(AO (Ins d1 t x) x).a,enc (AO (Ins d1 t x) x).lc]:=by
 have c1: ¬t < 0:=by have:=R.t0; omega
 have c2:=R.t1;have c3: ¬x.a < 0:=by have:=R.ok.1; omega
 have c4:=Lc.a;have F:=C.inf R c4;have hln:(x.lc.l.length:Int)=(((d1.at t).hd 1).l.length:Int):=R.ok.2.2.1;have hnc:((d1.at t).hd 2).l.length≤140737488351232:=(C.code R.t0 R.t1).len;have n1:=Lc.n1;have n2:=Lc.n2
 have hw:IntKind.i64.wrap (x.a+1)=x.a+1:=by refine lZ (by omega) ?_;unfold Nc at c4;omega
 have E:=WY F.ar R.ints (i:=0);have ok:=F.ok;unfold Ins at n1 n2 ok E ⊢;unfold Nc at c4;rw [aT,apF];unfold AO;rcases ok with h | h | ⟨h,i0,i1,na⟩ | ⟨h,_,_,na⟩ | ⟨h,_⟩ | ⟨h,i0,i1⟩ | ⟨h,i0,i1,_⟩
 ·exact absurd h.1 n1
 ·exact absurd h.1 n2
 ·have c5: ¬(((((d1.at t).hd 2).at x.a).hd 3).n < 0):=by omega
  have c6:(((((d1.at t).hd 2).at x.a).hd 3).n < (x.lc.l.length:Int)):=by omega
  have c7:(0:Int) < (((((d1.at t).hd 2).at x.a).hd 6).l.length:Int):=by omega
  obtain⟨E,_⟩:=E (by omega) c7;simp only [yQ,zz,c1,ht,c2,c3,c4,c5,c6,c7,h,E,hw,aH]
 ·have c7:(0:Int) < (((((d1.at t).hd 2).at x.a).hd 6).l.length:Int):=by omega
  obtain⟨E,_⟩:=E (by omega) c7;by_cases hz:ev (((((d1.at t).hd 2).at x.a).hd 6).at 0) x.lc=0
  ·simp only [yQ,zz,c1,ht,c2,c3,c4,c7,h,E,hw,hz,aH,z6]
  ·simp only [yQ,zz,c1,ht,c2,c3,c4,c7,h,E,hw,hz,aH,z6]
 ·simp only [yQ,zz,c1,ht,c2,c3,c4,h,hw,aH,z6]
 ·have c5: ¬(((((d1.at t).hd 2).at x.a).hd 3).n < 0):=by omega
  have c6:(((((d1.at t).hd 2).at x.a).hd 3).n < (x.lc.l.length:Int)):=by omega
  simp only [yQ,zz,c1,ht,c2,c3,c4,c5,c6,h,hw,aH,z6]
 ·have c5: ¬(((((d1.at t).hd 2).at x.a).hd 3).n < 0):=by omega
  have c6:(((((d1.at t).hd 2).at x.a).hd 3).n < (x.lc.l.length:Int)):=by omega
  by_cases hz:0 < (x.lc.at ((((d1.at t).hd 2).at x.a).hd 3).n).n
  ·simp only [yQ,zz,c1,ht,c2,c3,c4,c5,c6,h,hw,hz,aH,z6]
  ·simp only [yQ,zz,c1,ht,c2,c3,c4,c5,c6,h,hw,hz,aH,z6]
theorem alQ (hz:x.lc.l.length=0):L 14050 [enc d0,enc d1,t,enc s,enc k,x.a,enc x.lc,x.w,x.o,x.g,x.tr]=some [0,enc d0,enc d1,t,enc s,enc k,x.a,enc x.lc,x.w,x.o,x.g,x.tr,(AO (Ins d1 t x) x).a]∧(AO (Ins d1 t x) x).lc=x.lc:=by
 have c1: ¬t < 0:=by have:=R.t0; omega
 have c2:=R.t1;have c3: ¬x.a < 0:=by have:=R.ok.1; omega
 have c4:=Lc.a;have F:=C.inf R c4;have hln:(x.lc.l.length:Int)=(((d1.at t).hd 1).l.length:Int):=R.ok.2.2.1;have hnc:((d1.at t).hd 2).l.length≤140737488351232:=(C.code R.t0 R.t1).len;have n1:=Lc.n1;have n2:=Lc.n2
 have hw:IntKind.i64.wrap (x.a+1)=x.a+1:=by refine lZ (by omega) ?_;unfold Nc at c4;omega
 have E:=WY F.ar R.ints (i:=0);have ok:=F.ok;unfold Ins at n1 n2 ok E ⊢;unfold Nc at c4;rw [aT,apE];unfold AO;rcases ok with h | h | ⟨h,i0,i1,na⟩ | ⟨h,_,_,na⟩ | ⟨h,_⟩ | ⟨h,i0,i1⟩ | ⟨h,i0,i1,_⟩
 ·exact absurd h.1 n1
 ·exact absurd h.1 n2
 ·omega
 ·have c7:(0:Int) < (((((d1.at t).hd 2).at x.a).hd 6).l.length:Int):=by omega
  obtain⟨E,_⟩:=E (by omega) c7;by_cases hz:ev (((((d1.at t).hd 2).at x.a).hd 6).at 0) x.lc=0
  ·simp only [LG,zz,c1,ht,c2,c3,c4,c7,h,E,hw,hz,aH,z6]
  ·simp only [LG,zz,c1,ht,c2,c3,c4,c7,h,E,hw,hz,aH,z6]
 ·simp only [LG,zz,c1,ht,c2,c3,c4,h,hw,aH,z6]
 ·omega
 ·omega
theorem alP:Rt d0 d1 t (AO (Ins d1 t x) x)∧(AO (Ins d1 t x) x).lc.l.length=x.lc.l.length:=by
 have c4:=Lc.a;have F:=C.inf R c4;obtain⟨a0,a1,hln,tr0,tr1,hw⟩:=R.ok;have n1:=Lc.n1;have n2:=Lc.n2;have ok:=F.ok;have hI:=R.ints
 have hwd: ∀{z v:Int},0≤z→z < (x.lc.l.length:Int)→iM .i64 v→Wd (.sl 0) (dL (fE x.lc.l z (.i v))):=fun {z v} h0 h1 hv=>by
  have:=R.hl.room;have h3:vV 0=8:=rfl;rw [h3] at this;have hs:=fP x.lc.l z (.i v);refine yM (fun y hy=>?_) (fun he=>?_) (by rw [hs]; omega)
  ·rcases xZ hy with h | rfl
   ·exact (R.hl.el1 rfl y h).i
   ·exact⟨v,rfl,hv⟩
  ·rw [he] at hs;simp only [List.length_nil] at hs;omega
 have hsl: ∀z v,(dL (fE x.lc.l z v)).l.length=x.lc.l.length:=fun z v=>by rw [aX,fP]
 have T:=R.t0;have T':=R.t1;unfold Nc at c4 ok F;unfold AO;have go: ∀{a:Int} {lc:D},0≤a→a≤(((d1.at t).hd 2).l.length:Int)→lc.l.length=x.lc.l.length→Wd (.sl 0) lc→Rt d0 d1 t { x with a:=a,lc:=lc }∧({ x with a:=a,lc:=lc }:KT).lc.l.length=x.lc.l.length:=fun h0 h1 h2 h3=> ⟨⟨T,T',⟨h0,h1,by rw [h2]; exact hln,tr0,tr1,hw⟩,h3,R.hg⟩,h2⟩;rcases ok with h | h | ⟨h,i0,i1,na⟩ | ⟨h,t0,t1,na⟩ | ⟨h,t0,t1⟩ | ⟨h,i0,i1⟩ | ⟨h,i0,i1,t0,t1⟩
 ·exact absurd h.1 n1
 ·exact absurd h.1 n2
 ·rw [if_pos h];exact go (by omega) (by omega) (hsl _ _) (hwd i0 (by omega) (WY F.ar hI (by omega) (by omega)).2)
 ·rw [if_neg (by omega),if_pos h];split
  ·exact go t0 t1 rfl R.hl
  ·exact go (by omega) (by omega) rfl R.hl
 ·rw [if_neg (by omega),if_neg (by omega),if_pos h];exact go t0 t1 rfl R.hl
 ·rw [if_neg (by omega),if_neg (by omega),if_neg (by omega),if_pos h];exact go (by omega) (by omega) (hsl _ _) (hwd i0 (by omega) F.nn)
 ·rw [if_neg (by omega),if_neg (by omega),if_neg (by omega),if_neg (by omega)];split
  ·exact go (by omega) (by omega) (hsl _ _) (hwd i0 (by omega) (wrap_in _))
  ·exact go t0 t1 rfl R.hl
end
end Go.As.Try
end
section
namespace Go.As.Try
open Go hiding Stat Spec shape
open Go.As
set_option maxRecDepth 100000
theorem z5:(∀p:Prop,(p∧False)=False)∧(∀p:Prop,(False∧p)=False)∧(¬True)=False∧(∀p:Prop,(p∧p)=p)∧(∀(a:Int) (l m:List Int),(a :: l)++m=a :: (l++m))∧(∀l:List Int,[]++l=l)∧((16:Int)=15)=False∧((3:Int)=0)=False∧((15:Int)=16)=False∧(∀ys:List Int,fin L (.out ys)=some ys):=
 ⟨and_false,false_and,not_true_eq_false,and_self,fun _ _ _=>rfl,fun _=>rfl,by simp,by simp,by simp,fun _=>rfl⟩
def ahB:Act→Prop
 | .res _ _ _ _ _ _ _ a _=>iM .i64 a
 | _=>True
theorem ahB.ite {p:Prop} [Decidable p] {a b:Act} (ha:ahB a) (hb:ahB b):ahB (if p then a else b):=by
 split
 ·exact ha
 ·exact hb
theorem ahM {r:D} (h:Wd (.sl 0) r) (i:Nat):iM .i64 (r.at (i:Int)).n:=by
 by_cases hi:i < r.l.length
 ·rw [aY hi];obtain⟨n,hn,hk⟩:=(h.el1 rfl _ (List.getElem_mem hi)).i;rw [hn];exact hk
 ·rw [IY,List.getElem?_eq_none (by omega)];constructor <;> (simp only [Option.getD_none,n_i]; omega)
theorem aEH {y:D} {M mo th op arg tries o c dn g:Int} {r v:D} (T:Tg y o c dn g r v) (hr:r.l.length≤140737488351232) (ha:iM .i64 arg):ahB (act M mo th op arg tries o c dn g r v):=by
 have hz:iM .i64 0:=⟨by omega,by omega⟩;have h1:iM .i64 1:=⟨by omega,by omega⟩;have w:=@wrap_in;have hv:=ahM T.hv 0;have hl:iM .i64 (r.l.length:Int):=⟨by omega,by omega⟩;unfold act
 repeat' refine ahB.ite ?_ ?_
 all_goals first
  | trivial
  | exact hz
  | exact h1
  | exact w _
  | exact T.hc
  | exact ha
  | exact T.hg
  | exact hv
  | exact hl
def xC (I:D) (x:KT) (op e2 e3 e4 oc:Int):KT:=
 if oc=0 then (if op=4 then { x with tr:=if 4611686018427387904 < x.tr+1 then 4611686018427387904 else x.tr+1 } else x)
 else if x.w=0 then
  { a:=if (I.hd 0).n=1∧(I.hd 1).n=16∧¬(e2=16∧e4=1) then (I.hd 4).n else x.a+1,lc:=if (I.hd 0).n=1∧¬(I.hd 3).n < 0 then dL (fE x.lc.l (I.hd 3).n (.i e4)) else x.lc,w:=if oc=3 then (if e2=15 then 25 else 24) else 0,o:=if oc=3 then e3 else x.o,g:=if oc=3∧e2=15 then e4 else x.g,tr:=0 }
 else { x with w:=0,o:=0,g:=0,tr:=0 }
def evT (e1 e2 e3 e4 e5 oc:Int):List Int:=if oc=0 then [0,0,0,0,0] else [e1,e2,e3,e4,e5]
section
variable {d0 d1 s s' k:D} {t op obj arg tries e1 e2 e3 e4 e5 oc:Int} {x:KT} (C:Cd d0 d1) (ht:t < (k.l.length:Int)) (R:Rt d0 d1 t x)
 (hA:L 400 [enc d0,enc d1,enc s,t,op,obj,arg,tries]=some [enc s',e1,e2,e3,e4,e5,oc]) (h0:oc=0→s'=s) (hx:x.w=0→x.a < (Nc d1 t:Int))
include C ht R hA h0 hx
set_option maxHeartbeats 4000000 in
theorem ahW:L 14500 [enc d0,enc d1,t,op,obj,arg,tries,enc s,enc k,x.a,enc x.lc,x.w,x.o,x.g,x.tr]=some (0 :: enc d0 :: enc d1 :: t :: op :: obj :: arg :: tries :: enc s :: enc k :: x.a :: enc x.lc :: x.w :: x.o :: x.g :: x.tr :: (evT e1 e2 e3 e4 e5 oc++ [oc,enc s',(xC (Ins d1 t x) x op e2 e3 e4 oc).a,enc (xC (Ins d1 t x) x op e2 e3 e4 oc).lc,(xC (Ins d1 t x) x op e2 e3 e4 oc).w,(xC (Ins d1 t x) x op e2 e3 e4 oc).o,(xC (Ins d1 t x) x op e2 e3 e4 oc).g,(xC (Ins d1 t x) x op e2 e3 e4 oc).tr])):=by
 have c1: ¬t < 0:=by have:=R.t0; omega
 have c2:=R.t1;have c3: ¬x.a < 0:=by have:=R.ok.1; omega
 have q0:=R.ok.2.2.2.1;have q1:=R.ok.2.2.2.2.1;have wt:IntKind.i64.wrap (x.tr+1)=x.tr+1:=lZ (by omega) (by omega);rw [aT,apC];unfold xC evT;by_cases o0:oc=0
 ·have hs:=h0 o0;subst hs;subst o0;by_cases p4:op=4
  ·subst p4;by_cases pt:4611686018427387904 < x.tr+1
   ·simp only [fD,zz,hA,c1,ht,wt,pt,aH,if_true,eq_self,List.cons_append,List.nil_append]
   ·simp only [fD,zz,hA,c1,ht,wt,pt,aH,if_true,eq_self,if_false,List.cons_append,List.nil_append]
  ·simp only [fD,zz,hA,c1,ht,p4,aH,if_true,if_false,List.cons_append,List.nil_append]
 ·by_cases w0:x.w=0
  ·have c4:=hx w0;have F:=C.inf R c4;have ok:=F.ok;have hln:(x.lc.l.length:Int)=(((d1.at t).hd 1).l.length:Int):=R.ok.2.2.1;have hnc:((d1.at t).hd 2).l.length≤140737488351232:=(C.code R.t0 R.t1).len;unfold Nc at c4;have hw:IntKind.i64.wrap (x.a+1)=x.a+1:=lZ (by omega) (by omega);unfold OkI Ins at ok;unfold Ins;by_cases n1:((((d1.at t).hd 2).at x.a).hd 0).n=1
   ·have hin:((((d1.at t).hd 2).at x.a).hd 3).n= -1∨0≤((((d1.at t).hd 2).at x.a).hd 3).n∧((((d1.at t).hd 2).at x.a).hd 3).n < (x.lc.l.length:Int):=by
     rw [hln];omega
    by_cases i0:((((d1.at t).hd 2).at x.a).hd 3).n < 0
    ·by_cases p16:((((d1.at t).hd 2).at x.a).hd 1).n=16
     ·by_cases q16:e2=16
      ·by_cases q4:e4=1
       ·by_cases q3:oc=3
        ·simp only [fD,zz,hA,c1,ht,c2,c3,c4,o0,w0,hw,n1,i0,p16,q16,q4,q3,z5]
        ·simp only [fD,zz,hA,c1,ht,c2,c3,c4,o0,w0,hw,n1,i0,p16,q16,q4,q3,z5]
       ·by_cases q3:oc=3
        ·simp only [fD,zz,hA,c1,ht,c2,c3,c4,o0,w0,hw,n1,i0,p16,q16,q4,q3,z5]
        ·simp only [fD,zz,hA,c1,ht,c2,c3,c4,o0,w0,hw,n1,i0,p16,q16,q4,q3,z5]
      ·by_cases yY:e2=15
       ·by_cases q3:oc=3
        ·simp only [fD,zz,hA,c1,ht,c2,c3,c4,o0,w0,hw,n1,i0,p16,q16,yY,q3,z5]
        ·simp only [fD,zz,hA,c1,ht,c2,c3,c4,o0,w0,hw,n1,i0,p16,q16,yY,q3,z5]
       ·by_cases q3:oc=3
        ·simp only [fD,zz,hA,c1,ht,c2,c3,c4,o0,w0,hw,n1,i0,p16,q16,yY,q3,z5]
        ·simp only [fD,zz,hA,c1,ht,c2,c3,c4,o0,w0,hw,n1,i0,p16,q16,yY,q3,z5]
     ·by_cases yY:e2=15
      ·by_cases q3:oc=3
       ·simp only [fD,zz,hA,c1,ht,c2,c3,c4,o0,w0,hw,n1,i0,p16,yY,q3,z5]
       ·simp only [fD,zz,hA,c1,ht,c2,c3,c4,o0,w0,hw,n1,i0,p16,yY,q3,z5]
      ·by_cases q3:oc=3
       ·simp only [fD,zz,hA,c1,ht,c2,c3,c4,o0,w0,hw,n1,i0,p16,yY,q3,z5]
       ·simp only [fD,zz,hA,c1,ht,c2,c3,c4,o0,w0,hw,n1,i0,p16,yY,q3,z5]
    ·have i1:((((d1.at t).hd 2).at x.a).hd 3).n < (x.lc.l.length:Int):=by omega
     by_cases p16:((((d1.at t).hd 2).at x.a).hd 1).n=16
     ·by_cases q16:e2=16
      ·by_cases q4:e4=1
       ·by_cases q3:oc=3
        ·simp only [fD,zz,hA,c1,ht,c2,c3,c4,o0,w0,hw,n1,i0,i1,p16,q16,q4,q3,z5]
        ·simp only [fD,zz,hA,c1,ht,c2,c3,c4,o0,w0,hw,n1,i0,i1,p16,q16,q4,q3,z5]
       ·by_cases q3:oc=3
        ·simp only [fD,zz,hA,c1,ht,c2,c3,c4,o0,w0,hw,n1,i0,i1,p16,q16,q4,q3,z5]
        ·simp only [fD,zz,hA,c1,ht,c2,c3,c4,o0,w0,hw,n1,i0,i1,p16,q16,q4,q3,z5]
      ·by_cases yY:e2=15
       ·by_cases q3:oc=3
        ·simp only [fD,zz,hA,c1,ht,c2,c3,c4,o0,w0,hw,n1,i0,i1,p16,q16,yY,q3,z5]
        ·simp only [fD,zz,hA,c1,ht,c2,c3,c4,o0,w0,hw,n1,i0,i1,p16,q16,yY,q3,z5]
       ·by_cases q3:oc=3
        ·simp only [fD,zz,hA,c1,ht,c2,c3,c4,o0,w0,hw,n1,i0,i1,p16,q16,yY,q3,z5]
        ·simp only [fD,zz,hA,c1,ht,c2,c3,c4,o0,w0,hw,n1,i0,i1,p16,q16,yY,q3,z5]
     ·by_cases yY:e2=15
      ·by_cases q3:oc=3
       ·simp only [fD,zz,hA,c1,ht,c2,c3,c4,o0,w0,hw,n1,i0,i1,p16,yY,q3,z5]
       ·simp only [fD,zz,hA,c1,ht,c2,c3,c4,o0,w0,hw,n1,i0,i1,p16,yY,q3,z5]
      ·by_cases q3:oc=3
       ·simp only [fD,zz,hA,c1,ht,c2,c3,c4,o0,w0,hw,n1,i0,i1,p16,yY,q3,z5]
       ·simp only [fD,zz,hA,c1,ht,c2,c3,c4,o0,w0,hw,n1,i0,i1,p16,yY,q3,z5]
   ·by_cases yY:e2=15
    ·by_cases q3:oc=3
     ·simp only [fD,zz,hA,c1,ht,c2,c3,c4,o0,w0,hw,n1,yY,q3,z5]
     ·simp only [fD,zz,hA,c1,ht,c2,c3,c4,o0,w0,hw,n1,yY,q3,z5]
    ·by_cases q3:oc=3
     ·simp only [fD,zz,hA,c1,ht,c2,c3,c4,o0,w0,hw,n1,yY,q3,z5]
     ·simp only [fD,zz,hA,c1,ht,c2,c3,c4,o0,w0,hw,n1,yY,q3,z5]
  ·simp only [fD,zz,hA,c1,ht,o0,w0,aH,if_true,if_false,List.cons_append,List.nil_append]
end
section
variable {d0 d1 s s' k:D} {t op obj arg tries e1 e2 e3 e4 e5 oc:Int} {x:KT} (C:Cd d0 d1) (ht:t < (k.l.length:Int)) (R:Rt d0 d1 t x)
 (hA:L 400 [enc d0,enc d1,enc s,t,op,obj,arg,tries]=some [enc s',e1,e2,e3,e4,e5,oc]) (h0:oc=0→s'=s) (hx:x.w=0→x.a < (Nc d1 t:Int)) (hz:x.lc.l.length=0)
include C ht R hA h0 hx hz
set_option maxHeartbeats 4000000 in
theorem ahV:L 14550 [enc d0,enc d1,t,op,obj,arg,tries,enc s,enc k,x.a,enc x.lc,x.w,x.o,x.g,x.tr]=some (0 :: enc d0 :: enc d1 :: t :: op :: obj :: arg :: tries :: enc s :: enc k :: x.a :: enc x.lc :: x.w :: x.o :: x.g :: x.tr :: (evT e1 e2 e3 e4 e5 oc++ [oc,enc s',(xC (Ins d1 t x) x op e2 e3 e4 oc).a,(xC (Ins d1 t x) x op e2 e3 e4 oc).w,(xC (Ins d1 t x) x op e2 e3 e4 oc).o,(xC (Ins d1 t x) x op e2 e3 e4 oc).g,(xC (Ins d1 t x) x op e2 e3 e4 oc).tr]))∧(xC (Ins d1 t x) x op e2 e3 e4 oc).lc=x.lc:=by
 have c1: ¬t < 0:=by have:=R.t0; omega
 have c2:=R.t1;have c3: ¬x.a < 0:=by have:=R.ok.1; omega
 have q0:=R.ok.2.2.2.1;have q1:=R.ok.2.2.2.2.1;have wt:IntKind.i64.wrap (x.tr+1)=x.tr+1:=lZ (by omega) (by omega);rw [aT,aoZ];unfold xC evT;by_cases o0:oc=0
 ·have hs:=h0 o0;subst hs;subst o0;by_cases p4:op=4
  ·subst p4;by_cases pt:4611686018427387904 < x.tr+1
   ·simp only [jQ,zz,hA,c1,ht,wt,pt,aH,if_true,eq_self,List.cons_append,List.nil_append] <;> exact⟨rfl,rfl⟩
   ·simp only [jQ,zz,hA,c1,ht,wt,pt,aH,if_true,eq_self,if_false,List.cons_append,List.nil_append] <;> exact⟨rfl,rfl⟩
  ·simp only [jQ,zz,hA,c1,ht,p4,aH,if_true,if_false,List.cons_append,List.nil_append] <;> exact⟨rfl,rfl⟩
 ·by_cases w0:x.w=0
  ·have c4:=hx w0;have F:=C.inf R c4;have ok:=F.ok;have hln:(x.lc.l.length:Int)=(((d1.at t).hd 1).l.length:Int):=R.ok.2.2.1;have hnc:((d1.at t).hd 2).l.length≤140737488351232:=(C.code R.t0 R.t1).len;unfold Nc at c4;have hw:IntKind.i64.wrap (x.a+1)=x.a+1:=lZ (by omega) (by omega);unfold OkI Ins at ok;unfold Ins;by_cases n1:((((d1.at t).hd 2).at x.a).hd 0).n=1
   ·have hin:((((d1.at t).hd 2).at x.a).hd 3).n= -1∨0≤((((d1.at t).hd 2).at x.a).hd 3).n∧((((d1.at t).hd 2).at x.a).hd 3).n < (x.lc.l.length:Int):=by
     rw [hln];omega
    by_cases i0:((((d1.at t).hd 2).at x.a).hd 3).n < 0
    ·by_cases p16:((((d1.at t).hd 2).at x.a).hd 1).n=16
     ·by_cases q16:e2=16
      ·by_cases q4:e4=1
       ·by_cases q3:oc=3
        ·simp only [jQ,zz,hA,c1,ht,c2,c3,c4,o0,w0,hw,n1,i0,p16,q16,q4,q3,z5] <;> exact⟨rfl,rfl⟩
        ·simp only [jQ,zz,hA,c1,ht,c2,c3,c4,o0,w0,hw,n1,i0,p16,q16,q4,q3,z5] <;> exact⟨rfl,rfl⟩
       ·by_cases q3:oc=3
        ·simp only [jQ,zz,hA,c1,ht,c2,c3,c4,o0,w0,hw,n1,i0,p16,q16,q4,q3,z5] <;> exact⟨rfl,rfl⟩
        ·simp only [jQ,zz,hA,c1,ht,c2,c3,c4,o0,w0,hw,n1,i0,p16,q16,q4,q3,z5] <;> exact⟨rfl,rfl⟩
      ·by_cases yY:e2=15
       ·by_cases q3:oc=3
        ·simp only [jQ,zz,hA,c1,ht,c2,c3,c4,o0,w0,hw,n1,i0,p16,q16,yY,q3,z5] <;> exact⟨rfl,rfl⟩
        ·simp only [jQ,zz,hA,c1,ht,c2,c3,c4,o0,w0,hw,n1,i0,p16,q16,yY,q3,z5] <;> exact⟨rfl,rfl⟩
       ·by_cases q3:oc=3
        ·simp only [jQ,zz,hA,c1,ht,c2,c3,c4,o0,w0,hw,n1,i0,p16,q16,yY,q3,z5] <;> exact⟨rfl,rfl⟩
        ·simp only [jQ,zz,hA,c1,ht,c2,c3,c4,o0,w0,hw,n1,i0,p16,q16,yY,q3,z5] <;> exact⟨rfl,rfl⟩
     ·by_cases yY:e2=15
      ·by_cases q3:oc=3
       ·simp only [jQ,zz,hA,c1,ht,c2,c3,c4,o0,w0,hw,n1,i0,p16,yY,q3,z5] <;> exact⟨rfl,rfl⟩
       ·simp only [jQ,zz,hA,c1,ht,c2,c3,c4,o0,w0,hw,n1,i0,p16,yY,q3,z5] <;> exact⟨rfl,rfl⟩
      ·by_cases q3:oc=3
       ·simp only [jQ,zz,hA,c1,ht,c2,c3,c4,o0,w0,hw,n1,i0,p16,yY,q3,z5] <;> exact⟨rfl,rfl⟩
       ·simp only [jQ,zz,hA,c1,ht,c2,c3,c4,o0,w0,hw,n1,i0,p16,yY,q3,z5] <;> exact⟨rfl,rfl⟩
    ·omega
   ·by_cases yY:e2=15
    ·by_cases q3:oc=3
     ·simp only [jQ,zz,hA,c1,ht,c2,c3,c4,o0,w0,hw,n1,yY,q3,z5] <;> exact⟨rfl,rfl⟩
     ·simp only [jQ,zz,hA,c1,ht,c2,c3,c4,o0,w0,hw,n1,yY,q3,z5] <;> exact⟨rfl,rfl⟩
    ·by_cases q3:oc=3
     ·simp only [jQ,zz,hA,c1,ht,c2,c3,c4,o0,w0,hw,n1,yY,q3,z5] <;> exact⟨rfl,rfl⟩
     ·simp only [jQ,zz,hA,c1,ht,c2,c3,c4,o0,w0,hw,n1,yY,q3,z5] <;> exact⟨rfl,rfl⟩
  ·simp only [jQ,zz,hA,c1,ht,o0,w0,aH,if_true,if_false,List.cons_append,List.nil_append] <;> exact⟨rfl,rfl⟩
end
end Go.As.Try
end
section
namespace Go.As.Try
open Go hiding Stat Spec shape
open Go.As
set_option maxRecDepth 100000
structure Sx (s k:D) (n:Nat):Prop where
 g:Gs s n
 wk:Wd (.sl 8) k
 n2s:s≠.i 2
 n2k:k≠.i 2
theorem Sx.st {s k:D} {n:Nat} (S:Sx s k n):Sk s k:=⟨S.g.wd,S.wk,S.n2s,S.n2k⟩
theorem Sx.mono {s k:D} {n m:Nat} (S:Sx s k n) (h:n≤m):Sx s k m:=⟨S.g.mono h,S.wk,S.n2s,S.n2k⟩
abbrev xK (k:D) (t:Int) (x:KT):D:=dL (fE k.l t x.d)
theorem iV (a:D) (l:List D):dL (a :: l)= .p a (dL l):=rfl
theorem kY:dL []= .i 0:=rfl
structure Tried (d0 d1 s:D) (t op obj arg tries:Int) (n:Nat) (s':D) (e1 e2 e3 e4 e5 oc:Int):Prop where
 eq:L 400 [enc d0,enc d1,enc s,t,op,obj,arg,tries]=some [enc s',e1,e2,e3,e4,e5,oc]
 no:oc=0→s'=s∧e1=0∧e2=0∧e3=0∧e4=0∧e5=0
 oc3:oc=0∨oc=2∨oc=3
 gs:Gs s' (n+1)
 len:s'.l.length=s.l.length
 n2:s≠.i 2→s'≠.i 2
 e3:iM .i64 e3
 e4:iM .i64 e4
theorem try_any {d0 d1 s:D} {t op obj arg tries:Int} {n:Nat} (h0:Wd (.sl 3) d0) (h1:Wd (.sl 4) d1) (G:Gs s n) (hn:n < 17592186043904) (ht:iM .i64 t) (hop:iM .u8 op) (hob:iM .i64 obj) (ha:iM .i64 arg) :
 ∃s' e1 e2 e3 e4 e5 oc,Tried d0 d1 s t op obj arg tries n s' e1 e2 e3 e4 e5 oc:=by
 have hf:=G.few (by omega:n < 17592186044415);have z:iM .i64 0:=⟨by omega,by omega⟩;by_cases A:Acc d0 d1 s t op obj
 ·obtain⟨_,o,c,dn,g,r,v,T,hL⟩:=Td (arg:=arg) (tries:=tries) h0 h1 G.wd hf hop A;rw [abT] at hL;have o0:=A.o0;have o1:=A.o1;obtain⟨i,rfl⟩ : ∃i:Nat,obj=(i:Int):=⟨obj.toNat,by omega⟩;have hi:i < s.l.length:=by omega
  have hrow:=G.rows _ (List.getElem_mem hi);have e:s.l[i]=dL [.i o,.i c,.i dn,.i g,r,v]:=by rw [← aY hi]; exact T.is
  rw [e] at hrow;have hA:=aCx (M:=Mx d0 (i:Int)) (mo:=Mo d0 s (i:Int)) (op:=op) (tries:=tries) T (n:=n) hrow.1 hrow.2 (by omega) ht ha;have hE:=aEH (M:=Mx d0 (i:Int)) (mo:=Mo d0 s (i:Int)) (th:=t) (op:=op) (tries:=tries) T (by have:=hrow.1; have:r.l.length≤n:=this; omega) ha
  have hM:NoM (act (Mx d0 (i:Int)) (Mo d0 s (i:Int)) t op arg tries o c dn g r v)∨0≤Mx d0 (i:Int)∧Mx d0 (i:Int) < (s.l.length:Int):=by
   by_cases h:op=12∨op=24
   ·have:=XK h0 h1 G.wd hf hop A h;exact .inr ⟨this.1,this.2.1⟩
   ·exact .inl (agY (by omega) (by omega))
  have hg:=atJ G hA o0 o1 hM;have hl:=akR s (i:Int) (Mx d0 (i:Int)) (act (Mx d0 (i:Int)) (Mo d0 s (i:Int)) t op arg tries o c dn g r v);generalize act (Mx d0 (i:Int)) (Mo d0 s (i:Int)) t op arg tries o c dn g r v=B at *
  have hn2:s≠.i 2→YU s (i:Int) (Mx d0 (i:Int)) B≠.i 2:=fun _ he=>by rw [he] at hl;have:(D.i 2).l.length=0:=rfl;omega
  cases B with
  | blk=>exact⟨s,0,0,0,0,0,0,hL,fun _=> ⟨rfl,rfl,rfl,rfl,rfl,rfl⟩,.inl rfl,hg,rfl,fun h=>h,z,z⟩
  | mis=>exact⟨s,t,27,_,_,0,2,hL,fun h=>absurd h (by omega),.inr (.inl rfl),hg,rfl,fun h=>h,hob,wrap_in _⟩
  | res o' c' dn' g' r' v' m a oc=>exact⟨_,t,op,_,a,0,oc,hL,fun h=>by have:=hA.2.2.2.2.2.2.2.2.2; omega,.inr hA.2.2.2.2.2.2.2.2.2,hg,hl,hn2,hob,hE⟩
 ·exact⟨s,0,0,0,0,0,0,Yh h0 h1 G.wd hf hop A,fun _=> ⟨rfl,rfl,rfl,rfl,rfl,rfl⟩,.inl rfl,G.mono (Nat.le_succ n),rfl,fun h=>h,z,z⟩
noncomputable abbrev stE (d0 d1 s k:D) (t:Int):Nat→Int:=bQ L (low [enc d0,enc d1,enc s,enc k,t])
theorem akA {k:D} {t:Int} {x:KT} (h:k=dL k.l) (t0:0≤t) (t1:t < (k.l.length:Int)) (hk:k.at t=x.d):xK k t x=k:=by
 obtain⟨i,rfl⟩ : ∃i:Nat,t=(i:Int):=⟨t.toNat,by omega⟩;have hi:i < k.l.length:=by omega
 rw [aY hi] at hk;unfold xK;rw [← hk];exact set_self h hi
section
variable {d0 d1 s k:D} {t:Int} {n:Nat} (S:Sx s k n)
include S
theorem asU (hR:L 1550 [enc d0,enc d1,enc s,enc k,t]=some [0]):L 1850 [enc d0,enc d1,enc s,enc k,t]=some [enc s,enc k,0,0,0,0,0,0]:=by
 by_cases hr:t < 0∨(k.l.length:Int)≤t
 ·rcases agV S.st hr with h | ⟨h,he⟩
  ·have K:dY (stE d0 d1 s k t) Jf= .out [enc s,enc k,0,0,0,0,0,0]:=by
    refine bW [.eq (a0 9050 SN) Q0,.eq wK Qa,XP,XO] [] (ou [KZ,Z9,Qa,Qa,Qa,Qa,Qa,Qa]) (by simp only [zz,h,hR] <;> omega) (by kernel_rfl) ?_;simp only [zz,h]
   rw [aT,Oi];exact congrArg (fin L) K
  ·subst he
   have K:dY (stE d0 d1 s (.i 1) t) Jf= .out [enc s,enc (.i 1),0,0,0,0,0,0]:=by refine bW [.eq (a0 9050 SN) Q0,.eq wK Q0,XP,XO] [.eq wK Qa] (ou [KZ,Qh,Qa,Qa,Qa,Qa,Qa,Qa]) (by simp only [zz,h,hR] <;> omega) (by kernel_rfl) ?_;simp only [zz,h]
   rw [aT,Oi];exact congrArg (fin L) K
 ·obtain⟨i,rfl⟩ : ∃i:Nat,t=(i:Int):=⟨t.toNat,by omega⟩;have hi:i < k.l.length:=by omega
  obtain⟨a,lc,w,o,g,tr,T⟩:=jW S.wk _ (List.getElem_mem hi);have h:=Sz S.st hi T;have hs:xK k (i:Int) ⟨a,lc,w,o,g,tr⟩ = k:=akA (Px S.wk (by omega)).sh (by omega) (by omega) (by rw [aY hi,T.is]);simp only [xK,KT.d,iV,kY] at hs;have ha:ET lc=3∨ET lc=4:=by unfold ET; split <;> simp
  have K:dY (stE d0 d1 s k (i:Int)) Jf= .out [enc s,enc k,0,0,0,0,0,0]:=by
   rcases ha with ha | ha
   ·rw [ha] at h;refine bW [.eq (a0 9050 SN) Q0,.eq wK wM,XP,XO] [.eq wK Qa,.eq wK Q0,.eq wK nI] (ou [KZ,Qp2,Qa,Qa,Qa,Qa,Qa,Qa]) (by simp only [zz,h,hR] <;> omega) (by kernel_rfl) ?_;simp only [zz,h,hs]
   ·rw [ha] at h;refine bW [.eq (a0 9050 SN) Q0,.eq wK Ef,XP,XO] [.eq wK Qa,.eq wK Q0,.eq wK nI,.eq wK wM] (ou [KZ,Qp2,Qa,Qa,Qa,Qa,Qa,Qa]) (by simp only [zz,h,hR] <;> omega) (by kernel_rfl) ?_;simp only [zz,h,hs]
  rw [aT,Oi];exact congrArg (fin L) K
end
structure Rs (d0 d1 s k:D) (t:Int) (x:KT):Prop where
 c:Cd d0 d1
 r:Rt d0 d1 t x
 hk:k.at t=x.d
 ht:t < (k.l.length:Int)
 yes:L 1550 [enc d0,enc d1,enc s,enc k,t]=some [1]
theorem axY {d0 d1 s k:D} {t:Int} {n:Nat} (S:Sx s k n) (hn:n < 17592186043904) (h0:Wd (.sl 3) d0) (h1:Wd (.sl 4) d1):L 1550 [enc d0,enc d1,enc s,enc k,t]=some [0]∨∃x,Rs d0 d1 s k t x:=by
 obtain⟨ys,hL,b,rfl,hb⟩:=MB (k:=k) h0 h1 (S.g.few (by omega)).rows h1.len t;rcases hb with ⟨rfl,_⟩ | ⟨rfl,t0,t1,M⟩
 ·exact .inl hL
 ·refine .inr ?_;obtain⟨hle,hO⟩:=M.2;obtain⟨i,rfl⟩ : ∃i:Nat,t=(i:Int):=⟨t.toNat,by omega⟩;have hi:i < k.l.length:=by omega
  have hd:i < d1.l.length:=by omega
  obtain⟨a,lc,w,o,g,tr,T⟩:=jW S.wk _ (List.getElem_mem hi);have ok:=hO i hi;unfold OkK at ok;rw [T.is] at ok;simp only [zg,Option.getD_some,n_i] at ok;refine⟨⟨a,lc,w,o,g,tr⟩,(MR.code h0 h1 (S.g.few (by omega)).rows M).1,⟨by omega,by omega,?_,T.hl,T.hg⟩,by rw [aY hi,T.is],by omega,hL⟩;rw [aY hd];exact ok
section
variable {d0 d1 s k:D} {t:Int} {n:Nat} {x:KT} (S:Sx s k n) (R:Rs d0 d1 s k t x)
include S R
theorem Rs.cp:L 9050 [t,enc s,enc k]=some [ET x.lc,t,enc s,enc k,x.a,enc x.lc,x.w,x.o,x.g,x.tr]:=by
 have t0:=R.r.t0;have ht:=R.ht;obtain⟨i,rfl⟩ : ∃i:Nat,t=(i:Int):=⟨t.toNat,by omega⟩;have hi:i < k.l.length:=by omega
 obtain⟨a,lc,w,o,g,tr,T⟩:=jW S.wk _ (List.getElem_mem hi);have h:=Sz S.st hi T;have e:=R.hk;rw [aY hi,T.is] at e;simp only [KT.d,iV,kY,D.p.injEq,D.i.injEq,and_true] at e;obtain⟨rfl,rfl,rfl,rfl,rfl,rfl⟩:=e;exact h
theorem Rs.self:dL (fE k.l t (.p (.i x.a) (.p x.lc (.p (.i x.w) (.p (.i x.o) (.p (.i x.g) (.p (.i x.tr) (.i 0))))))))=k:=by
 have hl:0 < k.l.length:=by have:=R.r.t0; have:=R.ht; omega
 exact akA (Px S.wk hl).sh R.r.t0 R.ht R.hk
theorem aeM (ho:jJ d1 t x=1):L 1850 [enc d0,enc d1,enc s,enc k,t]=some [enc s,enc k,0,0,0,0,0,4]:=by
 have h:=R.cp S;have hs:=R.self S;have hR:=R.yes;have hO:=FN (s:=s) R.hk R.ht R.r;rw [ho] at hO;have ha:ET x.lc=3∨ET x.lc=4:=by unfold ET; split <;> simp
 have K:dY (stE d0 d1 s k t) Jf= .out [enc s,enc k,0,0,0,0,0,4]:=by
  rcases ha with ha | ha
  ·rw [ha] at h;refine bW [.eq (a0 9050 SN) Q0,.eq wK wM,XP,.eq (a0 1650 SQ) Q0] [.eq wK Qa,.eq wK Q0,.eq wK nI,XO,Qp5] (ou [KZ,Qp2,Qa,Qa,Qa,Qa,Qa,Ef]) (by simp only [zz,h,hR,hs,hO] <;> omega) (by kernel_rfl) ?_;simp only [zz,h,hs]
  ·rw [ha] at h;refine bW [.eq (a0 9050 SN) Q0,.eq wK Ef,XP,.eq (a0 1650 SQ) Q0] [.eq wK Qa,.eq wK Q0,.eq wK nI,.eq wK wM,XO,Qp5] (ou [KZ,Qp2,Qa,Qa,Qa,Qa,Qa,Ef]) (by simp only [zz,h,hR,hs,hO] <;> omega) (by kernel_rfl) ?_;simp only [zz,h,hs]
 rw [aT,Oi];exact congrArg (fin L) K
theorem YH (ho:jJ d1 t x=0) (hn:low (mD d1 t x) 4=0):L 1850 [enc d0,enc d1,enc s,enc k,t]=some [enc s,enc (xK k t (AO (Ins d1 t x) x)),0,0,0,0,0,1]:=by
 have h:=R.cp S;have hs:=R.self S;have hR:=R.yes;have hO:=FN (s:=s) R.hk R.ht R.r;have hN:=Ue (s:=s) R.c R.hk R.ht R.r;have Lc:=Y6 R.r ho hn;rw [ho] at hO
 have K:dY (stE d0 d1 s k t) Jf= .out [enc s,enc (xK k t (AO (Ins d1 t x) x)),0,0,0,0,0,1]:=by
  have hw:(AO (Ins d1 t x) x).w=x.w∧(AO (Ins d1 t x) x).o=x.o∧(AO (Ins d1 t x) x).g=x.g∧(AO (Ins d1 t x) x).tr=x.tr:=by
   unfold AO
   repeat' split
   all_goals exact⟨rfl,rfl,rfl,rfl⟩
  by_cases hp:0 < x.lc.l.length
  ·have ha:ET x.lc=3:=if_pos hp;rw [ha] at h;have hl:=alR (s:=s) R.c R.ht R.r Lc;refine bW [.eq (a0 9050 SN) Q0,.eq wK wM,XP,.eq (a0 1650 SQ) Q0,Qp5,.eq (a0 1750 SQ) Q0,Qp6,.eq (a0 14000 Qp7) Q0,.eq (rr 14000 Qp7 0) Qa] [.eq wK Qa,.eq wK Q0,.eq wK nI,XO] (ou [KZ,.op .set Z9 (cn (mk bF) (cn (mk (rr 14000 Qp7 12)) (cn (rr 14000 Qp7 13) Qp1))),Qa,Qa,Qa,Qa,Qa,Q0]) (by simp only [zz,h,hR,hs,hO,hN,hn,hl] <;> omega) (by kernel_rfl) ?_;simp only [zz,h,hs,hl,xK,KT.d,iV,kY,hw]
  ·have ha:ET x.lc=4:=if_neg hp;rw [ha] at h;obtain⟨hl,hc⟩:=alQ (s:=s) R.c R.ht R.r Lc (by omega);refine bW [.eq (a0 9050 SN) Q0,.eq wK Ef,XP,.eq (a0 1650 SQ) Q0,Qp5,.eq (a0 1750 SQ) Q0,Qp6,.eq (a0 14050 Qp7) Q0,.eq (rr 14050 Qp7 0) Qa] [.eq wK Qa,.eq wK Q0,.eq wK nI,.eq wK wM,XO] (ou [KZ,.op .set Z9 (cn (mk bF) (cn (mk (rr 14050 Qp7 12)) (cn Qpw Qp1))),Qa,Qa,Qa,Qa,Qa,Q0]) (by simp only [zz,h,hR,hs,hO,hN,hn,hl] <;> omega) (by kernel_rfl) ?_;simp only [zz,h,hs,hl,xK,KT.d,iV,kY,hw,hc]
 rw [aT,Oi];exact congrArg (fin L) K
theorem YF {op obj arg tries e1 e2 e3 e4 e5 oc:Int} {s':D} (ho:jJ d1 t x=0) (hn:mD d1 t x= [op,obj,arg,tries,1]) (A:Tried d0 d1 s t op obj arg tries n s' e1 e2 e3 e4 e5 oc) :
 L 1850 [enc d0,enc d1,enc s,enc k,t]=some [enc s',enc (xK k t (xC (Ins d1 t x) x op e2 e3 e4 oc)),e1,e2,e3,e4,e5,oc]:=by
 have h:=R.cp S;have hs:=R.self S;have hR:=R.yes;have hO:=FN (s:=s) R.hk R.ht R.r;have hN:=Ue (s:=s) R.c R.hk R.ht R.r;rw [ho] at hO;rw [hn] at hN
 have hx:x.w=0→x.a < (Nc d1 t:Int):=fun w0=>by unfold jJ at ho;rw [if_pos w0] at ho;have:=R.r.ok.2.1;unfold Nc at ho ⊢;split at ho <;> omega
 have hE:evT e1 e2 e3 e4 e5 oc= [e1,e2,e3,e4,e5]:=by
  unfold evT;split
  ·rename_i h0;obtain⟨_,rfl,rfl,rfl,rfl,rfl⟩:=A.no h0;rfl
  ·rfl
 have K:dY (stE d0 d1 s k t) Jf= .out [enc s',enc (xK k t (xC (Ins d1 t x) x op e2 e3 e4 oc)),e1,e2,e3,e4,e5,oc]:=by
  by_cases hp:0 < x.lc.l.length
  ·have ha:ET x.lc=3:=if_pos hp;rw [ha] at h;have hl:=ahW R.c R.ht R.r A.eq (fun h=>(A.no h).1) hx;rw [hE] at hl;simp only [List.cons_append,List.nil_append] at hl;refine bW [.eq (a0 9050 SN) Q0,.eq wK wM,XP,.eq (a0 1650 SQ) Q0,Qp5,.eq (a0 1750 SQ) Q0,.eq (a0 14500 qU) Q0,.eq (rr 14500 qU 0) Qa] [.eq wK Qa,.eq wK Q0,.eq wK nI,XO,Qp6] (ou [rr 14500 qU 22,.op .set Z9 (cn (mk bF) (cn (mk (rr 14500 qU 23)) (cn (rr 14500 qU 24) (cn (mk (rr 14500 qU 25)) (cn (mk (rr 14500 qU 26)) (cn (mk (rr 14500 qU 27)) (cn (mk (rr 14500 qU 28)) jO))))))),rr 14500 qU 16,rr 14500 qU 17,rr 14500 qU 18,rr 14500 qU 19,rr 14500 qU 20,rr 14500 qU 21]) (by simp only [zz,h,hR,hs,hO,hN,hl] <;> omega) (by kernel_rfl) ?_;simp only [zz,h,hs,hN,hl,xK,KT.d,iV,kY]
  ·have ha:ET x.lc=4:=if_neg hp;rw [ha] at h;obtain⟨hl,hc⟩:=ahV R.c R.ht R.r A.eq (fun h=>(A.no h).1) hx (by omega);rw [hE] at hl;simp only [List.cons_append,List.nil_append] at hl;refine bW [.eq (a0 9050 SN) Q0,.eq wK Ef,XP,.eq (a0 1650 SQ) Q0,Qp5,.eq (a0 1750 SQ) Q0,.eq (a0 14550 qU) Q0,.eq (rr 14550 qU 0) Qa] [.eq wK Qa,.eq wK Q0,.eq wK nI,.eq wK wM,XO,Qp6] (ou [rr 14550 qU 22,.op .set Z9 (cn (mk bF) (cn (mk (rr 14550 qU 23)) (cn Qpw (cn (mk (rr 14550 qU 24)) (cn (mk (rr 14550 qU 25)) (cn (mk (rr 14550 qU 26)) (cn (mk (rr 14550 qU 27)) jO))))))),rr 14550 qU 16,rr 14550 qU 17,rr 14550 qU 18,rr 14550 qU 19,rr 14550 qU 20,rr 14550 qU 21]) (by simp only [zz,h,hR,hs,hO,hN,hl] <;> omega) (by kernel_rfl) ?_;simp only [zz,h,hs,hN,hl,xK,KT.d,iV,kY,hc]
 rw [aT,Oi];exact congrArg (fin L) K
end
end Go.As.Try
end
section
namespace Go.As.Try
open Go hiding Stat Spec shape
open Go.As
set_option maxRecDepth 100000
theorem Tot.jmp {j k:Nat} {xs ys:List Int} {t:T Lf} {p:List Int→Prop} (e:S.tree j=t) (h:dY (bQ L (low xs)) t= .jump k ys) (q:Tot k ys p):Tot j xs p:=by refine Tot.of ?_;rw [e,h];exact .jump q
theorem Tot.ret {j:Nat} {xs ys:List Int} {t:T Lf} {p:List Int→Prop} (e:S.tree j=t) (h:dY (bQ L (low xs)) t= .out ys) (q:p ys):Tot j xs p:=by refine Tot.of ?_;rw [e,h];exact .out q
theorem PL (m:Nat) (hm:m≤60) (ih: ∀(k n:Int) (s kids:D),Wd .str s→Wd (.sl 6) kids→Tot 150 [k,enc s,n,enc kids,(m:Int)] one) (x3 x4 x5:Int) (kids:D) (hk:Wd (.sl 6) kids) :
 ∀(j i:Nat) (x1:Int),i+j=kids.l.length→Tot 151 [((m+1:Nat):Int),x1,(i:Int),x3,x4,x5,enc kids] one
 | 0,i,x1,hi=>Tot.ret avY (ys:=[x1]) (bW [] [.lt Qo Qfb] (ou [Qb]) (by simp only [zz] <;> omega) (by kernel_rfl) (by simp only [zz])) ⟨x1,rfl⟩
 | j+1,i,x1,hi=>by
   have hl:=hk.len;have hil:i < kids.l.length:=by omega
   have hw:=bC (n:=i) (by omega);obtain⟨k,s,n,ks,he,_,hs,_,hks⟩:=Dq hk hil;have ha:kids.at (i:Int)=dL [.i k,s,.i n,ks]:=by rw [aY hil]; exact he
   obtain⟨ys,Zi,z,rfl⟩:=ih k n s ks hs hks;have hw2:IntKind.i64.wrap (((m+1:Nat):Int) - 1)=(m:Int):=by rw [lZ (by omega) (by omega)]; omega
   by_cases hx:10000 < x1
   ·exact Tot.ret avY (ys:=[x1]) (bW [.lt Qo Qfb,.lt (.lit 10000) Qb] [] (ou [Qb]) (by simp only [zz] <;> omega) (by kernel_rfl) (by simp only [zz])) ⟨x1,rfl⟩
   ·exact Tot.jmp avY (bW [.lt Qo Qfb,.eq (a0 150 Qfd) Q0] [.lt (.lit 10000) Qb,tN] (ju 151 [Qf,wr (.add Qb (rr 150 Qfd 0)),jP,Qm,bF,bM,dN]) (by simp only [zz,ha,zg,hw2,Zi] <;> omega) (by kernel_rfl) (by simp only [zz,ha,zg,hw2,Zi,hw] <;> rfl)) (PL m hm ih x3 x4 x5 kids hk j (i+1) (IntKind.i64.wrap (x1+z)) (by omega))
theorem VT: ∀(m:Nat),m≤60→∀(k n:Int) (s kids:D),Wd .str s→Wd (.sl 6) kids→Tot 150 [k,enc s,n,enc kids,(m:Int)] one
 | 0,_,k,n,s,kids,_,_=>Tot.ret aCq (ys:=[10000]) (bW [Qfa] [] (ou [.lit 10000]) (by simp only [zz] <;> omega) (by kernel_rfl) (by simp only [zz])) ⟨_,rfl⟩
 | m+1,hm,k,n,s,kids,hs,hk=>Tot.jmp aCq (ys:=[((m+1:Nat):Int),_,(0:Nat),k,enc s,n,enc kids]) (bW [] [Qfa] (ju 151 [bF,wr (.add Q0 (wr (.quo Qc (.lit 100)))),Qa,Qf,Qb,Qo,Qm]) (by simp only [zz] <;> omega) (by kernel_rfl) (by simp only [oJ,List.map,aW,Nat.reduceLT,aN,aP] <;> rfl)) (PL m (by omega) (VT m (by omega)) k (enc s) n kids hk kids.l.length 0 _ (by omega))
section
variable {d0 d1:D} (h1:Wd (.sl 4) d1)
include h1
theorem NJ (x1 x2 x3:Int) (O4:D) (ha:Wd (.sl 6) O4) (q: ∀x0,Tot 102 [x0,x1,IntKind.i64.wrap (x2+1),x3,enc d0,enc d1] EK): ∀(j i:Nat) (x0:Int),i+j=O4.l.length→Tot 103 [x0,x1,x2,x3,enc O4,(O4.l.length:Int),(i:Int),enc d0,enc d1] EK
 | 0,i,x0,hi=>Tot.jmp aCr (bW [] [.lt dN bM] (ju 102 [Qf,Qb,jP,Qm,eX,fU]) (by simp only [zz] <;> omega) (by kernel_rfl) (by simp only [zz])) (q x0)
 | j+1,i,x0,hi=>by
   have hl:=ha.len;have hil:i < O4.l.length:=by omega
   have hw:=bC (n:=i) (by omega);obtain⟨k,s,n,ks,he,_,hs,_,hks⟩:=Dq ha hil;have hat:O4.at (i:Int)=dL [.i k,s,.i n,ks]:=by rw [aY hil]; exact he
   obtain⟨ys,Zi,z,rfl⟩:=VT 60 (by omega) k n s ks hs hks;have Zi:L 150 [k,enc s,n,enc ks,60]=some [z]:=Zi;exact Tot.jmp aCr (bW [.lt dN bM,.lt dN Pj,.eq (a0 150 Qe9) Q0] [Qe7] (ju 103 [wr (.add Qf (rr 150 Qe9 0)),Qb,Qo,Qm,bF,bM,wr (.add dN Q0),eX,fU]) (by simp only [zz,hat,zg,Zi] <;> omega) (by kernel_rfl) (by simp only [zz,hat,zg,Zi,hw] <;> rfl)) (NJ x1 x2 x3 O4 ha q j (i+1) (IntKind.i64.wrap (x0+z)) (by omega))
theorem agC (i:Nat) (hi:i < d1.l.length) (q: ∀x0,Tot 101 [x0,(d1.l.length:Int),((i+1:Nat):Int),enc d0,enc d1] EK): ∀(j k:Nat) (x0:Int),(∀nm' lc cd,d1.l[i]=dL [nm',lc,cd]→k+j=cd.l.length)→Tot 102 [x0,(i:Int),(k:Int),(d1.l.length:Int),enc d0,enc d1] EK:=by
 have hl:=h1.len;have hw:=bC (n:=i) (by omega);obtain⟨nm',lc,cd,he,_,_,hcd⟩:=Fa h1 hi;have hat:d1.at (i:Int)=dL [nm',lc,cd]:=by rw [aY hi]; exact he
 have hcl:=hcd.len;intro j
 induction j with
 | zero=> intro k x0 hk;have hk:=hk _ _ _ he;exact Tot.jmp avZ (bW [.lt Qb (ln bM)] [Qe2,.lt Qo (ln (ce 2 XR))] (ju 101 [Qf,Qm,Qe4,bF,bM]) (by simp only [zz,hat,zg] <;> omega) (by kernel_rfl) (by simp only [zz,hw] <;> rfl)) (q x0)
 | succ j ih=>
   intro k x0 hk;have hk':=hk _ _ _ he;by_cases h6:6000 < x0
   ·exact Tot.jmp avZ (bW [.lt Qb (ln bM),.lt Qo (ln (ce 2 XR)),.lt (.lit 6000) Qf] [Qe2] (ju 101 [Qf,Qm,Qe4,bF,bM]) (by simp only [zz,hat,zg] <;> omega) (by kernel_rfl) (by simp only [zz,hw] <;> rfl)) (q x0)
   ·have hkl:k < cd.l.length:=by omega
    have hw2:=bC (n:=k) (by omega);obtain⟨a,b,c,e,f,g,O4,hin,_,_,_,_,_,_,has⟩:=Ze hcd hkl;have aFk:cd.at (k:Int)=dL [.i a,.i b,.i c,.i e,.i f,.i g,O4]:=by rw [aY hkl]; exact hin
    refine Tot.jmp avZ (bW [.lt Qb (ln bM),.lt Qo (ln (ce 2 XR))] [Qe2,.lt (.lit 6000) Qf,tN] (ju 103 [Qf,Qb,Qo,Qm,Qe6,ln Qe6,Qa,bF,bM]) (by simp only [zz,hat,zg] <;> omega) (by kernel_rfl) (by simp only [zz,hat,aFk,zg] <;> rfl)) (NJ h1 (i:Int) (k:Int) (d1.l.length:Int) O4 has (fun x0=>?_) O4.l.length 0 x0 (by omega));rw [hw2];exact ih (k+1) x0 fun nm' lc cd he=>by have:=hk nm' lc cd he; omega
theorem NI: ∀(j i:Nat) (x0:Int),i+j=d1.l.length→Tot 101 [x0,(d1.l.length:Int),(i:Int),enc d0,enc d1] EK
 | 0,i,x0,hi=>by
   by_cases h6:6000 < x0
   ·exact Tot.ret awC (bW [.lt (.lit 6000) Qf] [wL] (ou [Q0]) (by simp only [zz] <;> omega) (by kernel_rfl) (by simp only [zz])) zG
   ·exact Tot.ret awC (bW [] [wL,.lt (.lit 6000) Qf] (ou [Qa]) (by simp only [zz] <;> omega) (by kernel_rfl) (by simp only [zz])) zH
 | j+1,i,x0,hi=>by
   have hil:i < d1.l.length:=by omega
   obtain⟨nm',lc,cd,he,_,_,hcd⟩:=Fa h1 hil;refine Tot.jmp awC (ys:=[_,(i:Int),((0:Nat):Int),(d1.l.length:Int),enc d0,enc d1]) (bW [wL,Qdk] [tN] (ju 102 [wr (.add Qf (wr (.add (ln Qdm) (ln (ce 2 Qdl))))),Qo,Qa,Qb,Qm,bF]) (by simp only [zz] <;> omega) (by kernel_rfl) (by simp only [zz] <;> rfl)) (agC h1 i hil (fun x0=>NI j (i+1) x0 (by omega)) cd.l.length 0 _ fun n' l' c' he'=>?_);rw [he] at he';have:=Oz he';simp only [List.cons.injEq,and_true] at this;rw [this.2.2];omega
theorem agB:Tot 100 [enc d0,enc d1] EK:=
 Tot.jmp e100 (ys:=[_,(d1.l.length:Int),((0:Nat):Int),enc d0,enc d1]) (bW [] [] (ju 101 [wr (.add tC Qc),Qc,Qa,Qf,Qb]) (by simp only [zz] <;> omega) (by kernel_rfl) (by simp only [zz] <;> rfl)) (NI h1 d1.l.length 0 _ (by omega))
end
end Go.As.Try
end
section
namespace Go.As.Try
open Go hiding Stat Spec shape
open Go.As
set_option maxRecDepth 100000
def oP (x:D):D:=dL [.i 0,if (x.hd 1).l.length=0 then .i 2 else dL (List.replicate (x.hd 1).l.length (.i 0)),.i 0,.i 0,.i 0,.i 0]
def rH (d0:D):D:=if d0.l.length=0 then .i 1 else dL (d0.l.map mQ)
def uT (d1:D):D:=if d1.l.length=0 then .i 1 else dL (d1.l.map oP)
theorem VB {l:List D} (h: ∀x∈l,∃a lc w o g tr,Kt x a lc w o g tr) (hn:l≠[]) (hl:l.length≤2199023255488):Wd (.sl 8) (dL l):=by
 have e:(l.map fun x=>x.l).map dL=l:=by
  rw [List.map_map]
  conv=>rhs; rw [← List.map_id l]
  apply List.map_congr_left;intro x hx;obtain⟨a,lc,w,o,g,tr,T⟩:=h x hx;rw [T.is];rfl
 rw [← e];refine .many 8 [.int .i64,.sl 0,.int .u8,.int .i64,.int .i64,.int .i64] _ rfl (by simpa using hn) (by have:vV 8=64:=rfl; rw [this,List.length_map]; omega) (fun r hr=>?_) fun r hr j d c h1 h2=>?_
 ·obtain⟨x,hx,rfl⟩:=List.mem_map.1 hr;obtain⟨a,lc,w,o,g,tr,T⟩:=h x hx;rw [T.is];rfl
 ·obtain⟨x,hx,rfl⟩:=List.mem_map.1 hr;obtain⟨a,lc,w,o,g,tr,T⟩:=h x hx;rw [T.is,aX] at h1
  match j with
  | 0=>simp at h1 h2; subst h1 h2; exact .int _ _ T.ha
  | 1=>simp at h1 h2; subst h1 h2; exact T.hl
  | 2=>simp at h1 h2; subst h1 h2; exact .int _ _ T.hw
  | 3=>simp at h1 h2; subst h1 h2; exact .int _ _ T.ho
  | 4=>simp at h1 h2; subst h1 h2; exact .int _ _ T.hg
  | 5=>simp at h1 h2; subst h1 h2; exact .int _ _ T.ht
  | j+6=>simp at h1
theorem aiC (x:D) (h:(x.hd 1).l.length≤17592186043904): ∃a lc w o g tr,Kt (oP x) a lc w o g tr:=by
 have z:iM .i64 0:=⟨by omega,by omega⟩;refine⟨0,_,0,0,0,0,rfl,z,?_,⟨by omega,by omega⟩,z,z,z⟩;split
 ·exact .non 0
 ·rename_i hn;refine yM (fun y hy=> ⟨0,(List.mem_replicate.1 hy).2,z⟩) (fun he=>?_) (by simpa using h);have:=congrArg List.length he;simp only [List.length_replicate,List.length_nil] at this;omega
theorem EG {d1:D} (h1:Wd (.sl 4) d1): ∀x∈d1.l,(x.hd 1).l.length≤8796093021952:=by intro x hx;obtain⟨i,hi,rfl⟩:=List.getElem_of_mem hx;obtain⟨nm',lc,cd,he,_,hlc,_⟩:=Fa h1 hi;rw [he];simp only [zg,Option.getD_some];have:=hlc.room;have h3:vV 2=16:=rfl;rw [h3] at this;omega
theorem ajU {d0 d1:D} (h0:Wd (.sl 3) d0) (h1:Wd (.sl 4) d1) (ok:Ez d0 d1):Sx (rH d0) (uT d1) 0:=by
 refine⟨?_,?_,?_,?_⟩
 ·unfold rH;split
  ·exact⟨.nil 7,fun x hx=>by simp [D.l] at hx⟩
  ·refine⟨Pn (fun x hx=>?_) (fun he=>?_) (by rw [List.length_map]; have:=ok.1; omega),fun x hx=>?_⟩
   ·obtain⟨y,hy,rfl⟩:=List.mem_map.1 hx;obtain⟨kd,nm',ln,s1,s2,he,_,hnn,_⟩:=h0.decl y hy;rw [he];refine⟨-1,_,0,0,.i 1,.i 1,rfl,⟨by omega,by omega⟩,?_,.inl rfl,⟨by omega,by omega⟩,.nil 0,.nil 0⟩;split
    ·exact hnn
    ·exact⟨by omega,by omega⟩
   ·have:=congrArg List.length he;simp only [List.length_map,List.length_nil] at this;omega
   ·rw [aX] at hx;obtain⟨y,hy,rfl⟩:=List.mem_map.1 hx;exact⟨Nat.le_refl 0,Nat.le_refl 0⟩
 ·unfold uT;split
  ·exact .nil 8
  ·refine VB (fun x hx=>?_) (fun he=>?_) (by rw [List.length_map]; have:=ok.2.1; omega)
   ·obtain⟨y,hy,rfl⟩:=List.mem_map.1 hx;exact aiC y (by have:=EG h1 y hy; omega)
   ·have:=congrArg List.length he;simp only [List.length_map,List.length_nil] at this;omega
 ·unfold rH;split
  ·intro h; cases h
  ·intro h;have:=congrArg (fun d=>d.l.length) h;simp only [aX,List.length_map,yL,List.length_nil] at this;omega
 ·unfold uT;split
  ·intro h; cases h
  ·intro h;have:=congrArg (fun d=>d.l.length) h;simp only [aX,List.length_map,yL,List.length_nil] at this;omega
theorem Ju (d1:D) (h1:Wd (.sl 4) d1) (hlen:d1.l.length≤16) (s:D): ∀(k i:Nat) (acc:List D),i+k=d1.l.length→acc.length=i→
 L 1452 [enc d1,(d1.l.length:Int),(i:Int),enc s,enc (dL acc)]=some [enc s,enc (dL (acc++(d1.l.drop i).map oP)),0]
 | 0,i,acc,hi,ha=>by
   have c1: ¬(i:Int) < (d1.l.length:Int):=by omega
   rw [aT,apA,List.drop_of_length_le (by omega)];simp only [VK,zz,c1,aH,List.map_nil,List.append_nil]
 | k+1,i,acc,hi,ha=>by
   have hil:i < d1.l.length:=by omega
   have hd:d1.l.drop i=d1.l[i] :: d1.l.drop (i+1):=List.drop_eq_getElem_cons hil;have ih:=Ju d1 h1 hlen s k (i+1) (acc++ [oP d1.l[i]]) (by omega) (by simp [ha]);have c1:(i:Int) < (d1.l.length:Int):=by omega
   have c2: ¬((i:Int) < 0):=by omega
   have w:=bC (n:=i) (by omega);have c3:(acc.length:Int) < 2199023255551:=by omega
   have hb:=EG h1 _ (List.getElem_mem hil);have c4:((((d1.l[i]).hd 1).l.length:Nat):Int) < 17592186044416:=by omega
   have e2:acc++(oP d1.l[i] :: (d1.l.drop (i+1)).map oP)=acc++ [oP d1.l[i]]++(d1.l.drop (i+1)).map oP:=by simp
   rw [hd,List.map_cons,e2,← ih,aT,apA];by_cases hz:((d1.l[i]).hd 1).l.length=0
   ·have hz':((((d1.l[i]).hd 1).l.length:Nat):Int)=0:=by omega
    have et:oP d1.l[i]= .p (.i 0) (.p (.i 2) (.p (.i 0) (.p (.i 0) (.p (.i 0) (.p (.i 0) (.i 0)))))):=by unfold oP; rw [if_pos hz]; rfl
    rw [et];simp only [VK,zz,c1,c2,w,aY hil,hz',c3,aX,aQ]
   ·have hz': ¬((((d1.l[i]).hd 1).l.length:Nat):Int)=0:=by omega
    have et:oP d1.l[i]= .p (.i 0) (.p (dL (List.replicate ((d1.l[i]).hd 1).l.length (.i 0))) (.p (.i 0) (.p (.i 0) (.p (.i 0) (.p (.i 0) (.i 0)))))):=by unfold oP; rw [if_neg hz]; rfl
    rw [et];simp only [VK,zz,c1,c2,w,aY hil,hz',c3,c4,aX,Int.toNat_natCast,aQ]
theorem Ws (d1:D) (h1:Wd (.sl 4) d1) (hlen:d1.l.length≤16) (s:D):L 1451 [enc d1,(d1.l.length:Int),enc s]=some [enc s,enc (uT d1),0]:=by
 by_cases hn:d1.l.length=0
 ·have c1: ¬(0:Int) < (d1.l.length:Int):=by omega
  have e:uT d1= .i 1:=by unfold uT; rw [if_pos hn]
  rw [aT,apB,e];simp only [VL,zz,c1,aH]
 ·have hp:0 < d1.l.length:=by omega
  have c1:(0:Int) < (d1.l.length:Int):=by omega
  have e:uT d1=dL (d1.l.map oP):=by unfold uT; rw [if_neg hn]
  have ih:=Ju d1 h1 hlen s (d1.l.length - 1) 1 [oP (d1.l[0]'hp)] (by omega) rfl
  have e1:[oP (d1.l[0]'hp)]++(d1.l.drop 1).map oP=d1.l.map oP:=by
   conv=>rhs; rw [← List.drop_zero (l:=d1.l),List.drop_eq_getElem_cons hp]
   rfl
  rw [e1,← e] at ih;have a0:d1.at 0=d1.l[0]'hp:=aY (i:=0) hp;have hb:=EG h1 _ (List.getElem_mem hp);have c4:((((d1.l[0]'hp).hd 1).l.length:Nat):Int) < 17592186044416:=by omega
  rw [← ih,aT,apB];by_cases hz:((d1.l[0]'hp).hd 1).l.length=0
  ·have hz':((((d1.l[0]'hp).hd 1).l.length:Nat):Int)=0:=by omega
   have et:dL [oP (d1.l[0]'hp)]= .p (.p (.i 0) (.p (.i 2) (.p (.i 0) (.p (.i 0) (.p (.i 0) (.p (.i 0) (.i 0))))))) (.i 0):=by unfold oP; rw [if_pos hz]; rfl
   rw [et];simp only [VL,zz,c1,a0,hz',yL,List.nil_append,iV,kY,aQ,Int.natCast_one]
  ·have hz': ¬((((d1.l[0]'hp).hd 1).l.length:Nat):Int)=0:=by omega
   have et:dL [oP (d1.l[0]'hp)]= .p (.p (.i 0) (.p (dL (List.replicate ((d1.l[0]'hp).hd 1).l.length (.i 0))) (.p (.i 0) (.p (.i 0) (.p (.i 0) (.p (.i 0) (.i 0))))))) (.i 0):=by unfold oP; rw [if_neg hz]; rfl
   rw [et];simp only [VL,zz,c1,a0,hz',c4,yL,List.nil_append,iV,kY,Int.toNat_natCast,aQ,Int.natCast_one]
theorem afQ {d0 d1:D} (h1:Wd (.sl 4) d1) (hc:L 450 [enc d0,enc d1]=some [0]) (ok:Ez d0 d1):L 1450 [enc d0,enc d1]=some [enc (rH d0),enc (uT d1),0]:=by
 have h3:L 300 [enc d0,enc d1]=some [enc (rH d0)]:=by
  by_cases hn:d0.l.length=0
  ·have e:rH d0= .i 1:=by unfold rH; rw [if_pos hn]
   rw [e];exact arB hc (.inr hn)
  ·have e:rH d0=dL (d0.l.map mQ):=by unfold rH; rw [if_neg hn]
   rw [e];exact arC hc ok.1 (by omega)
 have K:dY (bQ L (low [enc d0,enc d1])) abG= .jump 1451 [enc d1,(d1.l.length:Int),enc (rH d0)]:=by refine bW [Qf1,Qf2,.eq (a0 300 OW) Q0] [] (ju 1451 [Qb,Qc,rr 300 OW 0]) (by simp only [zz,hc,h3] <;> omega) (by kernel_rfl) ?_;simp only [zz,h3]
 rw [aT,apD];exact (congrArg (fin L) K).trans (Ws d1 h1 ok.2.1 _)
theorem afP {d0 d1:D} {c:Int} (hc:L 450 [enc d0,enc d1]=some [c]) (h:c≠0):L 1450 [enc d0,enc d1]=some [enc (.i 1),enc (.i 1),c]:=by
 have K:dY (bQ L (low [enc d0,enc d1])) abG= .out [enc (.i 1),enc (.i 1),c]:=by refine bW [Qf1] [Qf2] (ou [Qh,Qh,rr 450 OW 0]) (by simp only [zz,hc] <;> omega) (by kernel_rfl) ?_;simp only [zz,hc]
 rw [aT,apD];exact congrArg (fin L) K
theorem LZ (k:D) (t:Int) (x:KT):(xK k t x).l.length=k.l.length:=by rw [aX,fP]
theorem afM {d1:D} {t:Int} {x:KT} (ho: ¬jJ d1 t x=1) (h: ¬low (mD d1 t x) 4=0): ∃op obj arg tr,mD d1 t x= [op,obj,arg,tr,1]:=by
 unfold jJ at ho;unfold mD at h ⊢;by_cases w0:x.w=0
 ·rw [if_pos w0] at ho h ⊢;by_cases a0:x.a=(Nc d1 t:Int)
  ·rw [if_pos a0] at ho;omega
  ·rw [if_neg a0] at h ⊢;by_cases h1:((Ins d1 t x).hd 0).n=1
   ·rw [if_pos h1];exact⟨_,_,_,_,rfl⟩
   ·rw [if_neg h1] at h ⊢;by_cases h2:((Ins d1 t x).hd 0).n=2
    ·rw [if_pos h2];exact⟨_,_,_,_,rfl⟩
    ·rw [if_neg h2] at h;exact absurd rfl h
 ·rw [if_neg w0];exact⟨_,_,_,_,rfl⟩
theorem abS (d1:D) (t:Int) (x:KT):jJ d1 t x=0∨jJ d1 t x=1:=by
 unfold jJ;split
 ·split
  ·exact .inr rfl
  ·exact .inl rfl
 ·exact .inl rfl
theorem atU {d0 d1:D} {t:Int} {x:KT} (C:Cd d0 d1) (R:Rt d0 d1 t x) (hd0:d0.l.length≤64) {op obj arg tr b:Int} (hn:mD d1 t x= [op,obj,arg,tr,b]):iM .u8 op∧iM .i64 obj∧iM .i64 arg:=by
 have z8:iM .u8 0:=⟨by omega,by omega⟩;have z:iM .i64 0:=⟨by omega,by omega⟩;have ok:=R.ok;unfold mD at hn;by_cases w0:x.w=0
 ·rw [if_pos w0] at hn;by_cases a0:x.a=(Nc d1 t:Int)
  ·rw [if_pos a0] at hn;simp only [List.cons.injEq] at hn;obtain⟨rfl,rfl,rfl,_⟩:=hn;exact⟨z8,z,z⟩
  ·have hlt:x.a < (Nc d1 t:Int):=by have:=ok.2.1; unfold Nc at a0 ⊢; omega
   have F:=C.inf R hlt;rw [if_neg a0] at hn;by_cases h1:((Ins d1 t x).hd 0).n=1
   ·rw [if_pos h1] at hn;simp only [List.cons.injEq] at hn;obtain⟨rfl,rfl,rfl,_⟩:=hn;exact⟨F.op,F.ob,awU F.ar R.ints⟩
   ·rw [if_neg h1] at hn;by_cases h2:((Ins d1 t x).hd 0).n=2
    ·rw [if_pos h2] at hn;simp only [List.cons.injEq] at hn;obtain⟨rfl,rfl,rfl,_⟩:=hn;exact⟨⟨by omega,by omega⟩,F.ob,z⟩
    ·rw [if_neg h2] at hn;simp only [List.cons.injEq] at hn;obtain⟨rfl,rfl,rfl,_⟩:=hn;exact⟨z8,z,z⟩
 ·rw [if_neg w0] at hn;simp only [List.cons.injEq] at hn;obtain⟨rfl,rfl,rfl,_⟩:=hn;obtain⟨_,_,_,_,_,hw⟩:=ok;exact⟨⟨by omega,by omega⟩,⟨by omega,by omega⟩,R.hg⟩
end Go.As.Try
end
section
namespace Go.As.Try
open Go hiding Stat Spec shape
open Go.As
set_option maxRecDepth 100000
theorem arR {lc:D} (h:Wd (.sl 0) lc) {z v:Int} (h0:0≤z) (h1:z < (lc.l.length:Int)) (hv:iM .i64 v):Wd (.sl 0) (dL (fE lc.l z (.i v))):=by
 have:=h.room;have h3:vV 0=8:=rfl;rw [h3] at this;have hs:=fP lc.l z (.i v);refine yM (fun y hy=>?_) (fun he=>?_) (by rw [hs]; omega)
 ·rcases xZ hy with h' | rfl
  ·exact (h.el1 rfl y h').i
  ·exact⟨v,rfl,hv⟩
 ·rw [he] at hs;simp only [List.length_nil] at hs;omega
theorem aaB {k:D} (hk:Wd (.sl 8) k) {t:Int} {x:KT} (h: ∃a lc w o g tr,Kt x.d a lc w o g tr) (hp:0 < k.l.length):Wd (.sl 8) (xK k t x):=by
 have hf:=hk.room;have h3:vV 8=64:=rfl;rw [h3] at hf;have hs:=fP k.l t x.d;refine VB (fun y hy=>?_) (fun he=>?_) (by rw [hs]; omega)
 ·rcases xZ hy with h' | rfl
  ·exact jW hk y h'
  ·exact h
 ·rw [he] at hs;simp only [List.length_nil] at hs;omega
section
variable {d0 d1 s k:D} {t:Int} {n:Nat} {x:KT}
theorem Wv {x:KT} (ha:iM .i64 x.a) (hl:Wd (.sl 0) x.lc) (hw:iM .u8 x.w) (ho:iM .i64 x.o) (hg:iM .i64 x.g) (ht:iM .i64 x.tr): ∃a lc w o g tr,Kt x.d a lc w o g tr:=⟨_,_,_,_,_,_,rfl,ha,hl,hw,ho,hg,ht⟩
theorem Rt.kt (C:Cd d0 d1) (R:Rt d0 d1 t x): ∃a lc w o g tr,Kt x.d a lc w o g tr:=by obtain⟨a0,a1,_,t0,t1,hw⟩:=R.ok;have hd:=C.ok.1;have hnc:=(C.code R.t0 R.t1).len;exact Wv ⟨by omega,by omega⟩ R.hl ⟨by omega,by omega⟩ ⟨by omega,by omega⟩ R.hg ⟨by omega,by omega⟩
theorem aAy (C:Cd d0 d1) (R:Rt d0 d1 t x) (hx:x.w=0→x.a < (Nc d1 t:Int)) {op e2 e3 e4 oc:Int} (h3:iM .i64 e3) (h4:iM .i64 e4): ∃a lc w o g tr,Kt (xC (Ins d1 t x) x op e2 e3 e4 oc).d a lc w o g tr:=by
 obtain⟨a0,a1,hln,t0,t1,hw⟩:=R.ok;have hd:=C.ok.1;have hnc:=(C.code R.t0 R.t1).len;have ka:iM .i64 x.a:=⟨by omega,by omega⟩;have kw:iM .u8 x.w:=⟨by omega,by omega⟩;have ko:iM .i64 x.o:=⟨by omega,by omega⟩;have kt:iM .i64 x.tr:=⟨by omega,by omega⟩;have z:iM .i64 0:=⟨by omega,by omega⟩;have z8: ∀v:Int,v=0∨v=24∨v=25→iM .u8 v:=fun v h=> ⟨by omega,by omega⟩;unfold xC;split
 ·split
  ·exact Wv ka R.hl kw ko R.hg (by
    show iM .i64 (if 4611686018427387904 < x.tr+1 then 4611686018427387904 else x.tr+1)
    split <;> exact⟨by omega,by omega⟩)
  ·exact Wv ka R.hl kw ko R.hg kt
 ·split
  ·rename_i w0;have F:=C.inf R (hx w0);have ok:=F.ok;have h1:=hx w0;unfold Nc at h1;unfold OkI at ok;have k1:iM .i64 (x.a+1):=⟨by omega,by omega⟩;refine Wv ?_ ?_ ?_ ?_ ?_ z
   ·show iM .i64 (if _ then _ else _);split
    ·exact F.to
    ·exact k1
   ·show Wd (.sl 0) (if _ then _ else _);split
    ·rename_i hc;refine arR R.hl (by omega) ?_ h4;have:=hc.1;omega
    ·exact R.hl
   ·show iM .u8 (if _ then _ else _);split
    ·split
     ·exact z8 _ (by omega)
     ·exact z8 _ (by omega)
    ·exact z8 _ (by omega)
   ·show iM .i64 (if _ then _ else _);split
    ·exact h3
    ·exact ko
   ·show iM .i64 (if _ then _ else _);split
    ·exact h4
    ·exact R.hg
  ·exact Wv ka R.hl (z8 _ (.inl rfl)) z z z
theorem abJ {k:D} (hp:0 < k.l.length) (t:Int) (x:KT):xK k t x≠.i 2:=fun he=>by have:=LZ k t x;rw [he] at this;have e:(D.i 2).l.length=0:=rfl;omega
theorem aAx (S:Sx s k n) (C:Cd d0 d1) (R:Rt d0 d1 t x) (ht:t < (k.l.length:Int)) (hx:x.w=0→x.a < (Nc d1 t:Int)) {op obj arg tries e1 e2 e3 e4 e5 oc:Int} {s':D} (A:Tried d0 d1 s t op obj arg tries n s' e1 e2 e3 e4 e5 oc) :
 Sx s' (xK k t (xC (Ins d1 t x) x op e2 e3 e4 oc)) (n+1):=by
 have hp:0 < k.l.length:=by have:=R.t0; omega
 exact⟨A.gs,aaB S.wk (aAy C R hx A.e3 A.e4) hp,A.n2 S.n2s,abJ hp _ _⟩
theorem aEG (R:Rt d0 d1 t x) (ho:jJ d1 t x=0):x.w=0→x.a < (Nc d1 t:Int):=fun w0=>by unfold jJ at ho;rw [if_pos w0] at ho;have:=R.ok.2.1;unfold Nc at ho ⊢;split at ho <;> omega
end
end Go.As.Try
end
section
namespace Go.As.Try
open Go hiding Stat Spec shape
open Go.As
set_option maxRecDepth 100000
theorem QZ: ∀(l:List D) (k v k':D),nZ (Bv l k v) k'=if k=k' then some v else nZ l k'
 | [],k,v,k'=>by
   simp only [Bv,nZ];by_cases h:k=k'
   ·rw [if_pos h]; exact if_pos h
   ·rw [if_neg h]; exact if_neg h
 | d :: l,k,v,k'=>by
   simp only [Bv];by_cases h:Xv d=k
   ·rw [if_pos h];simp only [nZ];by_cases h2:k=k'
    ·rw [if_pos h2]; exact if_pos h2
    ·rw [if_neg h2,if_neg (fun h3=>h2 (h.symm.trans h3))]; exact if_neg h2
   ·rw [if_neg h];simp only [nZ,QZ l k v k'];by_cases h2:Xv d=k'
    ·rw [if_pos h2,if_neg (fun h3=>h (h2.trans h3.symm)),if_pos h2]
    ·rw [if_neg h2,if_neg h2]
def XM (m:Int) (l:List D):Prop:=(∀x∈l,0≤x.n∧x.n < m)∧(l.map D.n).Nodup
def aeG (N o dn:Int) (rl vl:Nat):Prop:=(N < 0→(vl:Int)=0)∧(0≤N→(vl:Int)≤N)∧(o < 0∨(rl:Int)=0∧dn=0)
def Z8 (s:D) (l:List D):Prop:= ∀n:Int,(nZ s.l (.i n)=none∧n∉l.map D.n)∨(nZ s.l (.i n)=some (.i 1)∧n∈l.map D.n)
theorem akD {s x:D} {l:List D} (h:Z8 s l):Z8 (dL (Bv s.l (.i x.n) (.i 1))) (l++ [x]):=fun n=>by
 rw [aX,QZ,List.map_append];by_cases hn:x.n=n
 ·rw [if_pos (by rw [hn])];exact .inr ⟨rfl,List.mem_append_right _ (by simp [hn])⟩
 ·rw [if_neg (fun h=>hn (by simpa using h))];rcases h n with ⟨h1,h2⟩ | ⟨h1,h2⟩
  ·refine .inl ⟨h1,fun h3=>?_⟩;rcases List.mem_append.1 h3 with h3 | h3
   ·exact h2 h3
   ·simp only [List.map,List.mem_cons,List.not_mem_nil,or_false] at h3;exact hn h3.symm
  ·exact .inr ⟨h1,List.mem_append_left _ h2⟩
theorem KG {P Q:Prop} {ys:List Int} (h:P) (hQ:isB Q ys):isB (P∧Q) ys:=by
 obtain⟨b,rfl,h1 | h1⟩:=hQ
 ·exact⟨b,rfl,.inl ⟨h1.1,fun q=>h1.2 q.2⟩⟩
 ·exact⟨b,rfl,.inr ⟨h1.1,h,h1.2⟩⟩
theorem zF {P Q:Prop} (h: ¬P):isB (P∧Q) [0]:=Aq fun q=>h q.1
theorem VX (m:Int) (r:D) (hl:r.l.length≤140737488351232) (k nm' N x7 x8 o c dn g:Int) (v:D): ∀(j i:Nat) (seen:D),i+j=r.l.length→Z8 seen (r.l.take i)→XM m (r.l.take i)→
 Tot 501 [m,enc r,(r.l.length:Int),(i:Int),k,nm',N,x7,x8,o,c,dn,g,enc v,enc seen] (isB (XM m r.l∧aeG N o dn r.l.length v.l.length))
 | 0,i,seen,hi,_,hR=>by
   have c1: ¬(i:Int) < (r.l.length:Int):=by omega
   rw [List.take_of_length_le (by omega)] at hR;refine Tot.of ?_;unfold aeG;rw [aoG];simp only [Yk,zz,c1]
   repeat' first
    | exact .out (KG hR (Aq (by omega)))
    | exact .out (KG hR (WC (by omega)))
    | refine .ite (fun _=>?_) (fun _=>?_)
 | j+1,i,seen,hi,hS,hR=>by
   have hil:i < r.l.length:=by omega
   have c1:(i:Int) < (r.l.length:Int):=by omega
   have c2: ¬((i:Int) < 0):=by omega
   have w:=bC (n:=i) (by omega);have ht:r.l.take (i+1)=r.l.take i++ [r.l[i]]:=by rw [List.take_add_one,List.getElem?_eq_getElem hil]; rfl
   have hmem:r.l[i]∈r.l:=List.getElem_mem hil;have ih:=fun h=>VX m r hl k nm' N x7 x8 o c dn g v j (i+1) (dL (Bv seen.l (.i (r.l[i]).n) (.i 1))) (by omega) (by rw [ht]; exact akD hS) h;refine Tot.of ?_;rw [aoG];rcases hS (r.l[i]).n with ⟨h1,h2⟩ | ⟨h1,h2⟩
   ·simp only [Yk,zz,c1,c2,w,aY hil,h1,Option.isSome_none,Bool.false_eq_true];refine .ite (fun q=> .out (zF fun R=>?_)) (fun q=> .ite (fun q2=>?_) (fun q2=> .out (zF fun R=>?_)))
    ·have:=R.1 _ hmem;omega
    ·refine .jump (ih ?_);rw [ht];refine⟨fun x hx=>?_,?_⟩
     ·rcases List.mem_append.1 hx with hx | hx
      ·exact hR.1 x hx
      ·simp only [List.mem_cons,List.not_mem_nil,or_false] at hx;subst hx;exact⟨by omega,q2⟩
     ·rw [List.map_append,List.nodup_append];refine⟨hR.2,by simp,fun a ha b hb=>?_⟩;simp only [List.map,List.mem_cons,List.not_mem_nil,or_false] at hb;subst hb;intro he;subst he;exact h2 ha
    ·have:=R.1 _ hmem;omega
   ·simp only [Yk,zz,c1,c2,w,aY hil,h1,aA]
    have nd: ¬XM m r.l:=fun R=>by
     have hn:=R.2;have e:r.l=r.l.take i++r.l[i] :: r.l.drop (i+1):=by rw [← List.drop_eq_getElem_cons hil,List.take_append_drop]
     rw [e,List.map_append,List.nodup_append] at hn;exact hn.2.2 _ h2 _ (by rw [List.map_cons]; exact List.mem_cons_self) rfl
    refine .ite (fun q=> .out (zF nd)) (fun q=> .ite (fun q2=> .out (zF nd)) (fun q2=> .out (zF nd)))
theorem aeX (m:Int) (r:D) (hl:r.l.length≤140737488351232) (k nm' N x7 x8 o c dn g:Int) (v:D) :
 Tot 501 [m,enc r,(r.l.length:Int),0,k,nm',N,x7,x8,o,c,dn,g,enc v,enc (.i 0)] (isB (XM m r.l∧aeG N o dn r.l.length v.l.length)):=
 VX m r hl k nm' N x7 x8 o c dn g v r.l.length 0 (.i 0) (by omega) (fun n=> .inl ⟨rfl,by simp⟩) ⟨by simp,by simp⟩
def EW (k N c:Int):Prop:=k=9∨(k=3∧0≤c∧c≤N)∨(k=5∧0≤c∧c≤IntKind.i64.wrap (N - 1))∨(k=7∧0≤c∧c≤1099511627776)∨(k≠3∧k≠5∧k≠7∧k≠9∧c=0)
theorem atW (k x1 N x3 x4 c:Int): ∃a b:Int,L 650 [k,x1,N,x3,x4]=some [a,b]∧(b=0∧EW k N c∨b=1∧(EW k N c↔0≤c∧c≤a)):=by
 have:Tot 650 [k,x1,N,x3,x4] (fun ys=> ∃a b:Int,ys= [a,b]∧(b=0∧EW k N c∨b=1∧(EW k N c↔0≤c∧c≤a))):=by
  unfold EW;refine Tot.of ?_;rw [aCf];simp only [asH,zz]
  repeat' first
   | exact .out ⟨_,_,rfl,by omega⟩
   | refine .ite (fun _=>?_) (fun _=>?_)
 obtain⟨ys,h,a,b,rfl,h2⟩:=this;exact⟨a,b,h,h2⟩
def aAj (k N m o c dn g:Int) (rl vl:Nat):Prop:=
 EW k N c∧-1≤o∧o < m∧0≤g∧g≤4611686018427387904∧(0≤o→k=1∨k=2∨k=6)∧(0 < (rl:Int)→k=4∨k=2)∧(0 < (vl:Int)→k=8)∧(dn≠0→k=6)∧(0 < g→k=5)
def arK (k N m o c dn g:Int) (r v:D):Prop:=aAj k N m o c dn g r.l.length v.l.length∧XM m r.l∧aeG N o dn r.l.length v.l.length
set_option maxHeartbeats 4000000 in
theorem ajX (k x1 N x3 x4 m o c dn g:Int) (r v:D) (hl:r.l.length≤140737488351232):Tot 500 [k,x1,N,x3,x4,o,c,dn,g,enc r,enc v,m] (isB (arK k N m o c dn g r v)):=by
 unfold arK aAj;obtain⟨a,b,hM,hb⟩:=atW k x1 N x3 x4 c;have ih:=aeX m r hl k x1 N x3 x4 o c dn g v;refine Tot.of ?_;rw [aCh];generalize EW k N c=H at *;by_cases b0:b=0
 ·subst b0
  have hH:H:=by
   rcases hb with h | h
   ·exact h.2
   ·omega
  simp only [aiZ,zz,hM]
  repeat' first
   | exact .out (zF (by omega))
   | exact .jump (let ⟨ys,hL,hB⟩:=ih; ⟨ys,hL,KG ⟨hH,by omega,by omega,by omega,by omega,by omega,by omega,by omega,by omega,by omega⟩ hB⟩)
   | refine .ite (fun _=>?_) (fun _=>?_)
 ·have hH:H↔0≤c∧c≤a:=by
   rcases hb with h | h
   ·omega
   ·exact h.2
  simp only [aiZ,zz,hM,if_neg b0]
  repeat' first
   | exact .out (zF fun h=>by first | omega | (have:=hH.1 h.1; omega))
   | exact .jump (let ⟨ys,hL,hB⟩:=ih; ⟨ys,hL,KG ⟨hH.2 ⟨by omega,by omega⟩,by omega,by omega,by omega,by omega,by omega,by omega,by omega,by omega,by omega⟩ hB⟩)
   | refine .ite (fun _=>?_) (fun _=>?_)
theorem auE {P:Prop} {j:Nat} {xs:List Int} (h:Tot j xs (isB P)):L j xs=some [1]↔P:=by
 obtain⟨ys,hL,b,rfl,hb⟩:=h;rw [hL];simp only [Option.some.injEq,List.cons.injEq,and_true];rcases hb with ⟨h1,h2⟩ | ⟨h1,h2⟩
 ·exact⟨fun h=>by omega,fun h=>absurd h h2⟩
 ·exact⟨fun _=>h2,fun _=>h1⟩
theorem aAI {d x:D} {m:Nat} {o c dn g:Int} {r v:D} (T:Tg x o c dn g r v) (hl:r.l.length≤140737488351232):Snd d x m↔arK (d.hd 0).n (d.hd 2).n (m:Int) o c dn g r v:=by
 have h:=auE (ajX (d.hd 0).n (enc (d.hd 1)) (d.hd 2).n (enc (d.hd 3)) (d.hd 4).n (m:Int) o c dn g r v hl)
 have e:(if dn=0 then (0:Int) else 1)=dn:=by rcases T.hd with rfl | rfl <;> rfl
 unfold Snd asX;rw [T.is];simp only [zg,Option.getD_some,n_i,e];exact h
end Go.As.Try
end
section
namespace Go.As.Try
open Go hiding Stat Spec shape
open Go.As
set_option maxRecDepth 100000
def axD (k N m:Int):Act→Prop
 | .res o c dn g r v _ _ _=>arK k N m o c dn g r v
 | _=>True
theorem axD.ite {k N m:Int} {p:Prop} [Decidable p] {a b:Act} (ha:p→axD k N m a) (hb: ¬p→axD k N m b):axD k N m (if p then a else b):=by
 by_cases h:p
 ·rw [if_pos h]; exact ha h
 ·rw [if_neg h]; exact hb h
section
variable {d0 x:D} {k N m mo th op arg tries o c dn g:Int} {r v:D}
end
end Go.As.Try
end
section
namespace Go.As.Try
open Go hiding Stat Spec shape
open Go.As
set_option maxRecDepth 100000
structure aFT (d0 d1 s k:D) (t:Int) (n:Nat) (s' k':D) (e1 e2 e3 e4 e5 oc:Int):Prop where
 eq:L 1850 [enc d0,enc d1,enc s,enc k,t]=some [enc s',enc k',e1,e2,e3,e4,e5,oc]
 sx:Sx s' k' (n+1)
 ls:s'.l.length=s.l.length
 lk:k'.l.length=k.l.length
section
variable {d0 d1 s k:D} {n:Nat} (S:Sx s k n) (hn:n < 17592186043904) (h0:Wd (.sl 3) d0) (h1:Wd (.sl 4) d1)
include S hn h0 h1
theorem aA0 {t:Int} {x:KT} (R:Rs d0 d1 s k t x) (ho:jJ d1 t x=0) (ha:low (mD d1 t x) 4=0):Sx s (xK k t (AO (Ins d1 t x) x)) n:=by
 have hp:0 < k.l.length:=by have:=R.r.t0; have:=R.ht; omega
 exact⟨S.g,aaB S.wk ((alP R.c R.ht R.r (Y6 R.r ho ha)).1.kt R.c) hp,S.n2s,abJ hp _ _⟩
end
def akS (x n:Int):Int:=if x.tmod n < 0 then x.tmod n+n else x.tmod n
theorem aiA {x n:Int} (h:0 < n): -n < x.tmod n∧x.tmod n < n:=by have h1:=Int.tmod_lt_of_pos x h;have h2:=Int.tmod_lt_of_pos (-x) h;rw [Int.neg_tmod] at h2;omega
theorem afD {x n:Int} (h:0 < n) (hb:n≤140737488351232):(IntKind.i64.wrap (x.tmod n+n)).tmod n=akS x n:=by
 have h1:=aiA (x:=x) h;rw [lZ (by omega) (by omega)];unfold akS;split
 ·exact Int.tmod_eq_of_lt (by omega) (by omega)
 ·rw [Int.tmod_eq_emod_of_nonneg (by omega),Int.add_emod_right];exact Int.emod_eq_of_lt (by omega) (by omega)
end Go.As.Try
end
section
namespace Go.As.Try
open Go hiding Stat Spec shape
open Go.As
set_option maxRecDepth 100000
inductive arI (d0 d1 s:D) (t op obj arg tries:Int):D→Int→Int→Int→Int→Int→Int→Prop
 | no:arI d0 d1 s t op obj arg tries s 0 0 0 0 0 0
 | mis (A:Acc d0 d1 s t op obj):arI d0 d1 s t op obj arg tries s t 27 obj (IntKind.i64.wrap op) 0 2
 | res (A:Acc d0 d1 s t op obj) (o c dn g:Int) (r v:D) (o' c' dn' g':Int) (r' v':D) (m:Option Int) (a oc:Int) (T:Tg (s.at obj) o c dn g r v)
  (h:act (Mx d0 obj) (Mo d0 s obj) t op arg tries o c dn g r v= .res o' c' dn' g' r' v' m a oc):arI d0 d1 s t op obj arg tries (YU s obj (Mx d0 obj) (.res o' c' dn' g' r' v' m a oc)) t op obj a 0 oc
section
variable {d0 d1 s s':D} {t op obj arg tries e1 e2 e3 e4 e5 oc:Int} {n:Nat}
theorem Yi (h0:Wd (.sl 3) d0) (h1:Wd (.sl 4) d1) (G:Gs s n) (hn:n < 17592186043904) (hop:iM .u8 op) (A:Tried d0 d1 s t op obj arg tries n s' e1 e2 e3 e4 e5 oc):arI d0 d1 s t op obj arg tries s' e1 e2 e3 e4 e5 oc:=by
 have hf:=G.few (by omega:n < 17592186044415);have hA:=A.eq;by_cases h:Acc d0 d1 s t op obj
 ·obtain⟨_,o,c,dn,g,r,v,T,hL⟩:=Td (arg:=arg) (tries:=tries) h0 h1 G.wd hf hop h;rw [abT] at hL;rw [hA] at hL
  cases hB:act (Mx d0 obj) (Mo d0 s obj) t op arg tries o c dn g r v with
  | blk=> rw [hB] at hL;simp only [evA,Option.some.injEq,List.cons.injEq,and_true] at hL;obtain⟨q,rfl,rfl,rfl,rfl,rfl,rfl⟩:=hL;have q:=lK q;subst q;exact .no
  | mis=> rw [hB] at hL;simp only [evA,Option.some.injEq,List.cons.injEq,and_true] at hL;obtain⟨q,rfl,rfl,rfl,rfl,rfl,rfl⟩:=hL;have q:=lK q;subst q;exact .mis h
  | res o' c' dn' g' r' v' m a oc'=> rw [hB] at hL;simp only [evA,Option.some.injEq,List.cons.injEq,and_true] at hL;obtain⟨q,rfl,rfl,rfl,rfl,rfl,rfl⟩:=hL;have q:=lK q;subst q;exact .res h o c dn g r v o' c' dn' g' r' v' m _ _ T hB
 ·have hL:=Yh (arg:=arg) (tries:=tries) h0 h1 G.wd hf hop h;rw [hA] at hL;simp only [Option.some.injEq,List.cons.injEq,and_true] at hL;obtain⟨q,rfl,rfl,rfl,rfl,rfl,rfl⟩:=hL;have q:=lK q;subst q;exact .no
end
section
variable {d0 d1 s:D} {n:Nat} (h0:Wd (.sl 3) d0) (h1:Wd (.sl 4) d1) (G:Gs s n) (hn:n < 17592186044000)
include h0 h1 G hn
theorem FK (R:L 350 [enc d0,enc d1,enc s]=some [1]):L 450 [enc d0,enc d1]=some [0]∧Ez d0 d1∧s.l.length=d0.l.length:=by obtain⟨b,hb,_,hi⟩:=qZ h0 h1 (G.few (by omega)).rows;rw [R] at hb;simp only [Option.some.injEq,List.cons.injEq,and_true] at hb;obtain⟨hC,hle,_⟩:=hi.1 hb.symm;exact⟨hC,Md h0 h1 (G.few (by omega)) R⟩
theorem aAL (R:L 350 [enc d0,enc d1,enc s]=some [1]) {i:Int} (i0:0≤i) (i1:i < (s.l.length:Int)) {o c dn g:Int} {r v:D} (T:Tg (s.at i) o c dn g r v):arK ((d0.at i).hd 0).n ((d0.at i).hd 2).n (d1.l.length:Int) o c dn g r v:=by
 obtain⟨b,hb,_,hi⟩:=qZ h0 h1 (G.few (by omega)).rows;rw [R] at hb;simp only [Option.some.injEq,List.cons.injEq,and_true] at hb;obtain⟨_,hle,hs⟩:=hi.1 hb.symm;obtain⟨k,rfl⟩ : ∃k:Nat,i=(k:Int):=⟨i.toNat,by omega⟩;have hk:k < s.l.length:=by omega
 have h:=hs k hk;rw [aY hk] at T;have hrow:=G.rows _ (List.getElem_mem hk);rw [T.is] at hrow;have hl:r.l.length≤140737488351232:=by have:=hrow.1; have:r.l.length≤n:=this; omega
 rw [aAI T hl] at h;rw [aY (by omega:k < d0.l.length)];exact h
end
theorem ayF {s:D} {n:Nat} (G:Gs s n) {i:Int} (i0:0≤i) (i1:i < (s.l.length:Int)): ∃o c dn g r v,Tg (s.at i) o c dn g r v∧r.l.length≤n∧v.l.length≤n:=by
 obtain⟨k,rfl⟩ : ∃k:Nat,i=(k:Int):=⟨i.toNat,by omega⟩;have hk:k < s.l.length:=by omega
 obtain⟨o,c,dn,g,r,v,T⟩:=Ll (G.wd.thing _ (List.getElem_mem hk));have hrow:=G.rows _ (List.getElem_mem hk);rw [T.is] at hrow;exact⟨o,c,dn,g,r,v,by rw [aY hk]; exact T,hrow.1,hrow.2⟩
def axE (th:Int):Act→Prop
 | .res _ _ _ _ _ _ m _ _=> ∀q,m=some q→q= -1∨q=th
 | _=>True
theorem axE.ite {th:Int} {p:Prop} [Decidable p] {a b:Act} (ha:axE th a) (hb:axE th b):axE th (if p then a else b):=by
 split
 ·exact ha
 ·exact hb
theorem arE {s:D} {i:Nat} {x:D} (h:s.l[i]?=some x):s.at (i:Int)=x:=by rw [IY,h]; rfl
section
variable {d0 d1 s:D} {t op obj arg tries:Int} {n:Nat} (h0:Wd (.sl 3) d0) (h1:Wd (.sl 4) d1) (G:Gs s n) (hn:n < 17592186043904) (hop:iM .u8 op) (ht:iM .i64 t) (ha:iM .i64 arg)
include h0 h1 G hn hop ht ha
end
def axC (op:Int):Act→Prop
 | .res _ _ _ _ _ _ _ _ oc=>oc=2∨oc=3∧(op=12∨op=15)
 | _=>True
theorem axC.ite {op:Int} {p:Prop} [Decidable p] {a b:Act} (ha:p→axC op a) (hb: ¬p→axC op b):axC op (if p then a else b):=by
 by_cases h:p
 ·rw [if_pos h]; exact ha h
 ·rw [if_neg h]; exact hb h
section
variable {d0 d1 s s' k:D} {t op obj arg tries e1 e2 e3 e4 e5 oc:Int} {n:Nat} {x:KT}
end
inductive Hg (d0 d1 s k:D) (t:Int) (n:Nat):D→D→Int→Int→Int→Int→Int→Int→Prop
 | no (h:L 1550 [enc d0,enc d1,enc s,enc k,t]=some [0]):Hg d0 d1 s k t n s k 0 0 0 0 0 0
 | over (x:KT) (R:Rs d0 d1 s k t x) (ho:jJ d1 t x=1):Hg d0 d1 s k t n s k 0 0 0 0 0 4
 | loc (x:KT) (R:Rs d0 d1 s k t x) (ho:jJ d1 t x=0) (ha:low (mD d1 t x) 4=0):Hg d0 d1 s k t n s (xK k t (AO (Ins d1 t x) x)) 0 0 0 0 0 1
 | tri (x:KT) (R:Rs d0 d1 s k t x) (ho:jJ d1 t x=0) (op obj arg tr:Int) (hq:mD d1 t x= [op,obj,arg,tr,1]) (k1:iM .u8 op) (k2:iM .i64 obj) (k3:iM .i64 arg) (hti:iM .i64 t) (s':D) (e1 e2 e3 e4 e5 oc:Int)
  (A:Tried d0 d1 s t op obj arg tr n s' e1 e2 e3 e4 e5 oc) (T:arI d0 d1 s t op obj arg tr s' e1 e2 e3 e4 e5 oc):Hg d0 d1 s k t n s' (xK k t (xC (Ins d1 t x) x op e2 e3 e4 oc)) e1 e2 e3 e4 e5 oc
section
variable {d0 d1 s k:D} {n:Nat} (S:Sx s k n) (hn:n < 17592186043904) (h0:Wd (.sl 3) d0) (h1:Wd (.sl 4) d1)
include S hn h0 h1
theorem LW (t:Int): ∃s' k' e1 e2 e3 e4 e5 oc,L 1850 [enc d0,enc d1,enc s,enc k,t]=some [enc s',enc k',e1,e2,e3,e4,e5,oc]∧Hg d0 d1 s k t n s' k' e1 e2 e3 e4 e5 oc:=by
 rcases axY (t:=t) S hn h0 h1 with h | ⟨x,R⟩
 ·exact⟨s,k,0,0,0,0,0,0,asU S h,.no h⟩
 ·rcases abS d1 t x with ho | ho
  ·by_cases ha:low (mD d1 t x) 4=0
   ·exact⟨_,_,0,0,0,0,0,1,YH S R ho ha,.loc x R ho ha⟩
   ·obtain⟨op,obj,arg,tr,hq⟩:=afM (by omega) ha;obtain⟨k1,k2,k3⟩:=atU R.c R.r R.c.ok.1 hq
    have hti:iM .i64 t:=by have:=R.r.t0;have:=R.r.t1;have:=h1.len;exact⟨by omega,by omega⟩
    obtain⟨s',e1,e2,e3,e4,e5,oc,A⟩:=try_any (tries:=tr) h0 h1 S.g hn hti k1 k2 k3;exact⟨s',_,e1,e2,e3,e4,e5,oc,YF S R ho hq A,.tri x R ho op obj arg tr hq k1 k2 k3 hti s' e1 e2 e3 e4 e5 oc A (Yi h0 h1 S.g hn k1 A)⟩
  ·exact⟨s,k,0,0,0,0,0,4,aeM S R ho,.over x R ho⟩
theorem VQ {t:Int} {s' k':D} {e1 e2 e3 e4 e5 oc:Int} (H:Hg d0 d1 s k t n s' k' e1 e2 e3 e4 e5 oc):Sx s' k' (n+1)∧s'.l.length=s.l.length∧k'.l.length=k.l.length:=by
 cases H with
 | no h=>exact⟨S.mono (Nat.le_succ n),rfl,rfl⟩
 | over x R ho=>exact⟨S.mono (Nat.le_succ n),rfl,rfl⟩
 | loc x R ho ha=>exact⟨(aA0 S hn h0 h1 R ho ha).mono (Nat.le_succ n),rfl,LZ _ _ _⟩
 | tri x R ho op obj arg tr hq k1 k2 k3 hti s' e1 e2 e3 e4 e5 oc A T=>exact⟨aAx S R.c R.r R.ht (aEG R.r ho) A,A.len,LZ _ _ _⟩
end
theorem MR.thr {d0 d1 s k:D} {n:Nat} (S:Sx s k n) (hn:n < 17592186043904) (h0:Wd (.sl 3) d0) (h1:Wd (.sl 4) d1) (M:MR d0 d1 s k) {t:Int} (t0:0≤t) (t1:t < (d1.l.length:Int)): ∃x,Rs d0 d1 s k t x:=by
 obtain⟨ys,hL,b,rfl,hb⟩:=MB (k:=k) h0 h1 (S.g.few (by omega)).rows h1.len t;rcases hb with ⟨_,hb⟩ | ⟨rfl,_⟩
 ·exact absurd ⟨t0,t1,M⟩ hb
 ·rcases axY (t:=t) S hn h0 h1 with h | h
  ·rw [hL] at h;simp at h
  ·exact h
end Go.As.Try
end
section
namespace Go.As.Try
open Go hiding Stat Spec shape
open Go.As
set_option maxRecDepth 100000
def DW (s:D) (t:Int) (x:KT):Int:=if x.w=24 then (if place ((s.at x.o).hd 4) t < 0 then 0 else 1) else if x.w=25 then (if x.g < ((s.at x.o).hd 3).n then 0 else 1) else 0
def awO (d1 s:D) (t:Int) (x:KT):Int:=if jJ d1 t x=1 then 0 else if DW s t x=0 then 1 else 0
section
variable {d0 d1 s k:D} {t:Int} {n:Nat} {x:KT} (S:Sx s k n) (hn:n < 17592186043904) (R:Rs d0 d1 s k t x) (hle:s.l.length=d0.l.length)
include S hn R hle
theorem SG:L 2850 [enc s,enc k,t]=some [DW s t x]:=by
 have hk:=R.hk;have ht:=R.ht;have c1: ¬t < 0:=by have:=R.r.t0; omega
 have hw:=R.r.ok.2.2.2.2.2;rw [aT,azI];unfold DW
 have q:(x.w=24∨x.w=25)→((s.at x.o).hd 4).l.length≤140737488351232∧¬x.o < 0∧x.o < (s.l.length:Int):=fun h=>by
  have o0:0≤x.o∧x.o < (s.l.length:Int):=by omega
  obtain⟨o,c,dn,g,r,v,T,hr,_⟩:=ayF S.g o0.1 o0.2;rw [T.is];exact⟨by simp only [zg,Option.getD_some]; omega,by omega,o0.2⟩
 by_cases w4:x.w=24
 ·obtain⟨hl,o0,o1⟩:=q (.inl w4);have hh:=has_is ((s.at x.o).hd 4) t hl;by_cases hp:place ((s.at x.o).hd 4) t < 0
  ·rw [if_pos hp] at hh;simp only [Ls,zz,hk,c1,ht,zg,w4,o0,o1,hh,hp,aH,if_true]
  ·rw [if_neg hp] at hh;simp only [Ls,zz,hk,c1,ht,zg,w4,o0,o1,hh,hp,aH,if_true,if_false,aA]
 ·by_cases w5:x.w=25
  ·obtain⟨hl,o0,o1⟩:=q (.inr w5);by_cases hp:x.g < ((s.at x.o).hd 3).n
   ·simp only [Ls,zz,hk,c1,ht,zg,w5,o0,o1,hp,aH,if_true,if_false,Int.reduceEq]
   ·simp only [Ls,zz,hk,c1,ht,zg,w5,o0,o1,hp,aH,if_true,if_false,Int.reduceEq]
  ·simp only [Ls,zz,hk,c1,ht,zg,w4,w5,aH,if_false]
theorem IW:L 2900 [enc d0,enc d1,enc s,enc k,t]=some [awO d1 s t x]:=by
 have hk:=R.hk;have ht:=R.ht;have c1: ¬t < 0:=by have:=R.r.t0; omega
 have c2:=R.r.t1;have hA:=SG S hn R hle;rw [aT,azH];unfold awO jJ Nc
 have a01:DW s t x=0∨DW s t x=1:=by
  unfold DW
  repeat' split
  all_goals simp
 by_cases w0:x.w=0
 ·by_cases a0:x.a=(((d1.at t).hd 2).l.length:Int)
  ·simp only [Lr,zz,hk,c1,c2,ht,zg,w0,a0,aH,if_true]
  ·rcases a01 with h | h
   ·rw [h] at hA;simp only [Lr,zz,hk,c1,c2,ht,zg,w0,a0,hA,h,aH,if_true,if_false,Int.reduceEq]
   ·rw [h] at hA;simp only [Lr,zz,hk,c1,c2,ht,zg,w0,a0,hA,h,aH,if_true,if_false,Int.reduceEq]
 ·rcases a01 with h | h
  ·rw [h] at hA;simp only [Lr,zz,hk,c1,c2,ht,zg,w0,hA,h,aH,if_true,if_false,Int.reduceEq]
  ·rw [h] at hA;simp only [Lr,zz,hk,c1,c2,ht,zg,w0,hA,h,aH,if_true,if_false,Int.reduceEq]
end
noncomputable def sQ (d0 d1 s k:D) (u:Int):Int:=low ((L 2900 [enc d0,enc d1,enc s,enc k,u]).getD []) 0
def vS (cnt:Int→Int) (c:D) (t:Int):Prop:=cnt t≠0∧∀u:Nat,u < c.l.length→((c.at (u:Int)).n < (c.at t).n∨(c.at (u:Int)).n=(c.at t).n∧(u:Int) < t)→cnt (u:Int)=0
section
variable {d0 d1 s k c:D} {t:Int} (hc: ∀u:Int,0≤u→u < (c.l.length:Int)→∃z:Int,L 2900 [enc d0,enc d1,enc s,enc k,u]=some [z]) (t0:0≤t) (t1:t < (c.l.length:Int)) (hb:c.l.length≤140737488351232)
include hc t0 t1 hb
theorem Pv: ∀(j i:Nat),i+j=c.l.length→∃b:Int,L 2951 [t,enc c,(c.l.length:Int),(i:Int),enc d0,enc d1,enc s,enc k]=some [b]∧(b=0∨b=1)∧
 (b=1↔∀u:Nat,i≤u→u < c.l.length→((c.at (u:Int)).n < (c.at t).n∨(c.at (u:Int)).n=(c.at t).n∧(u:Int) < t)→sQ d0 d1 s k (u:Int)=0)
 | 0,i,hi=>by
   have c1: ¬(i:Int) < (c.l.length:Int):=by omega
   refine⟨1,?_,.inr rfl,fun _ u h h'=>by omega,fun _=>rfl⟩;rw [aT,JE];simp only [Fh,zz,c1,aH]
 | j+1,i,hi=>by
   have c1:(i:Int) < (c.l.length:Int):=by omega
   have c2: ¬((i:Int) < 0):=by omega
   have c3: ¬(t < 0):=by omega
   have w:=bC (n:=i) (by omega);obtain⟨b,ih,hb2,hiff⟩:=Pv j (i+1) (by omega);obtain⟨z,hz⟩:=hc (i:Int) (by omega) c1
   have hzl:sQ d0 d1 s k (i:Int)=z:=by unfold sQ;rw [hz];rfl
   have pass:(((c.at (i:Int)).n < (c.at t).n∨(c.at (i:Int)).n=(c.at t).n∧(i:Int) < t)→z=0)→(b=1↔∀u:Nat,i≤u→u < c.l.length→((c.at (u:Int)).n < (c.at t).n∨(c.at (u:Int)).n=(c.at t).n∧(u:Int) < t)→sQ d0 d1 s k (u:Int)=0):=fun hp=>by
    rw [hiff];refine⟨fun h u hu hl ha=>?_,fun h u hu hl ha=>h u (by omega) hl ha⟩;by_cases hui:u=i
    ·subst hui;rw [hzl];exact hp ha
    ·exact h u (by omega) hl ha
   have stop:((c.at (i:Int)).n < (c.at t).n∨(c.at (i:Int)).n=(c.at t).n∧(i:Int) < t)→z≠0→((0:Int)=1↔∀u:Nat,i≤u→u < c.l.length→((c.at (u:Int)).n < (c.at t).n∨(c.at (u:Int)).n=(c.at t).n∧(u:Int) < t)→sQ d0 d1 s k (u:Int)=0):=fun ha hne=>
    ⟨fun h=>by omega,fun h=>absurd (hzl.symm.trans (h i (Nat.le_refl _) (by omega) ha)) hne⟩
   by_cases l1:(c.at (i:Int)).n < (c.at t).n
   ·by_cases z0:z=0
    ·refine⟨b,?_,hb2,pass fun _=>z0⟩;rw [aT,JE];simp only [Fh,zz,c1,c2,c3,t1,w,l1,hz,z0,aQ,ih]
    ·refine⟨0,?_,.inl rfl,stop (.inl l1) z0⟩;rw [aT,JE];simp only [Fh,zz,c1,c2,c3,t1,w,l1,hz,if_neg z0,aH]
   ·by_cases l2:(c.at (i:Int)).n=(c.at t).n
    ·by_cases l3:(i:Int) < t
     ·by_cases z0:z=0
      ·refine⟨b,?_,hb2,pass fun _=>z0⟩;rw [aT,JE];simp only [Fh,zz,c1,c2,c3,t1,w,if_neg l1,if_pos l2,l3,hz,z0,aQ,ih]
      ·refine⟨0,?_,.inl rfl,stop (.inr ⟨l2,l3⟩) z0⟩;rw [aT,JE];simp only [Fh,zz,c1,c2,c3,t1,w,if_neg l1,if_pos l2,l3,hz,if_neg z0,aH]
     ·refine⟨b,?_,hb2,pass fun h=>by omega⟩;rw [aT,JE];simp only [Fh,zz,c1,c2,c3,t1,w,if_neg l1,if_pos l2,if_neg l3,aQ,ih]
    ·refine⟨b,?_,hb2,pass fun h=>by omega⟩;rw [aT,JE];simp only [Fh,zz,c1,c2,c3,t1,w,if_neg l1,if_neg l2,aQ,ih]
theorem aaF: ∃b:Int,L 2950 [enc d0,enc d1,enc s,enc k,enc c,t]=some [b]∧(b=0∨b=1)∧(b=1↔vS (sQ d0 d1 s k) c t):=by
 obtain⟨b,hL,hb2,hiff⟩:=Pv hc t0 t1 hb c.l.length 0 (by omega);obtain⟨z,hz⟩:=hc t t0 t1
 have hzl:sQ d0 d1 s k t=z:=by unfold sQ;rw [hz];rfl
 unfold vS;rw [hzl];rw [Int.natCast_zero] at hL;by_cases z0:z=0
 ·refine⟨0,?_,.inl rfl,fun h=>by omega,fun h=>absurd z0 h.1⟩;rw [aT,aoQ];simp only [aaY,zz,hz,z0,aH]
 ·refine⟨b,?_,hb2,hiff.trans ⟨fun h=> ⟨z0,fun u hu ha=>h u (Nat.zero_le _) hu ha⟩,fun h u _ hu ha=>h.2 u hu ha⟩⟩;rw [aT,aoQ];simp only [aaY,zz,hz,if_neg z0,aQ,hL]
end
theorem Wp (c:D) (hb:c.l.length≤140737488351232): ∀(j i:Nat),i+j=c.l.length→∃b:Int,L 16051 [enc c,(c.l.length:Int),(i:Int)]=some [b]∧(b < 0↔∀u:Nat,i≤u→u < c.l.length→0≤(c.at (u:Int)).n)
 | 0,i,hi=>by
   have c1: ¬(i:Int) < (c.l.length:Int):=by omega
   refine⟨-1,?_,fun _ u h h'=>by omega,fun _=>by omega⟩;rw [aT,U4];simp only [LC,zz,c1,aH]
 | j+1,i,hi=>by
   have c1:(i:Int) < (c.l.length:Int):=by omega
   have c2: ¬((i:Int) < 0):=by omega
   have w:=bC (n:=i) (by omega);obtain⟨b,ih,hiff⟩:=Wp c hb j (i+1) (by omega);by_cases hz:(c.at (i:Int)).n < 0
   ·refine⟨(i:Int),?_,fun h=>by omega,fun h=>?_⟩
    ·rw [aT,U4];simp only [LC,zz,c1,c2,hz,aH]
    ·have:=h i (Nat.le_refl _) (by omega);omega
   ·refine⟨b,?_,hiff.trans ⟨fun h u hu hl=>?_,fun h u hu hl=>h u (by omega) hl⟩⟩
    ·rw [aT,U4];simp only [LC,zz,c1,c2,if_neg hz,w,aQ,ih]
    ·by_cases hui:u=i
     ·subst hui; omega
     ·exact h u (by omega) hl
def KR (d0 d1 s k c:D):Prop:=c.l.length=d1.l.length∧(∀u:Nat,u < c.l.length→0≤(c.at (u:Int)).n)∧MR d0 d1 s k
theorem Iy {d0 d1 s k c:D} (h0:Wd (.sl 3) d0) (h1:Wd (.sl 4) d1) (hr:Es s) (hb:c.l.length≤140737488351232):Tot 2750 [enc d0,enc d1,enc s,enc k,enc c] (isB (KR d0 d1 s k c)):=by
 obtain⟨ys,hM,m,rfl,hm⟩:=QU h0 h1 hr h1.len (k:=k);obtain⟨b,hL,hiff⟩:=Wp c hb c.l.length 0 (by omega);rw [Int.natCast_zero] at hL
 have h50:L 16050 [enc c]=some [b]:=by rw [aT,aoV];simp only [Yn,zz,aQ,hL]
 have h00:L 16000 [enc c]=some [if b < 0 then 0 else 1]:=by
  rw [aT,aoW];by_cases hb0:b < 0
  ·simp only [Tm,zz,h50,hb0,aH,if_true]
  ·simp only [Tm,zz,h50,hb0,aH,if_false]
 unfold KR;refine Tot.of ?_;rw [azJ];by_cases hl:(c.l.length:Int)=(d1.l.length:Int)
 ·by_cases hb0:b < 0
  ·rw [if_pos hb0] at h00;simp only [VI,zz,hl,h00,hM];have hall:=fun u hu=>hiff.1 hb0 u (Nat.zero_le _) hu;refine .ite (fun h=> .out (Aq fun q=>?_)) (fun h=> .out (WC ⟨by omega,hall,?_⟩))
   ·rcases hm with ⟨_,hm⟩ | ⟨h',_⟩
    ·exact hm q.2.2
    ·omega
   ·rcases hm with ⟨h',_⟩ | ⟨_,hm⟩
    ·exact absurd h' h
    ·exact hm
  ·rw [if_neg hb0] at h00;simp only [VI,zz,hl,h00,aA];exact .out (Aq fun q=>hb0 (hiff.2 fun u _ hu=>q.2.1 u hu))
 ·simp only [VI,zz,if_neg hl];exact .out (Aq fun q=>hl (by have:=q.1; omega))
end Go.As.Try
end
section
namespace Go.As.Try
open Go hiding Stat Spec shape
open Go.As
set_option maxRecDepth 100000
def EqN (a b:D):Prop:=a.l.length=b.l.length∧∀(i:Nat),(a.at (i:Int)).n=(b.at (i:Int)).n
structure KEq (x y:D):Prop where
 c0:(x.hd 0).n=(y.hd 0).n
 c1:EqN (x.hd 1) (y.hd 1)
 c2:(x.hd 2).n=(y.hd 2).n
 c3:(x.hd 3).n=(y.hd 3).n
 c4:(x.hd 4).n=(y.hd 4).n
 c5:(x.hd 5).n=(y.hd 5).n
theorem EqN.rfl' (a:D):EqN a a:=⟨rfl,fun _=>rfl⟩
theorem KEq.rfl' (a:D):KEq a a:=⟨rfl,EqN.rfl' _,rfl,rfl,rfl,rfl⟩
def alO (k:D):Prop:=k.l.length≤140737488351232∧∀i:Nat,((k.at (i:Int)).hd 1).l.length≤140737488351232
section
variable {s k s' k':D} (hl:k.l.length=k'.l.length) (hq: ∀i:Nat,KEq (k.at (i:Int)) (k'.at (i:Int))) (hb:alO k)
include hl hq hb
theorem FC: ∀(j i:Nat),i+j=k.l.length→L 2051 [(k.l.length:Int),(i:Int),enc s,enc k,enc s',enc k']=some [1]
 | 0,i,hi=>by
   have c1: ¬(i:Int) < (k.l.length:Int):=by omega
   rw [aT,aoS];simp only [abA,zz,c1,aH]
 | j+1,i,hi=>by
   have c1:(i:Int) < (k.l.length:Int):=by omega
   have c2: ¬((i:Int) < 0):=by omega
   have c3:(i:Int) < (k'.l.length:Int):=by omega
   have b1:=hb.1;have w:=bC (n:=i) (by omega);have ih:=FC j (i+1) (by omega);have q:=hq i;obtain⟨q1,q2⟩:=q.c1;have b2:=hb.2 i
   have lp: ∀(j' i':Nat),i'+j'=((k.at (i:Int)).hd 1).l.length→L 2052 [(k.l.length:Int),(i:Int),(((k.at (i:Int)).hd 1).l.length:Int),(i':Int),enc s,enc k,enc s',enc k',((k.at (i:Int)).hd 0).n,enc ((k.at (i:Int)).hd 1),((k.at (i:Int)).hd 2).n,((k.at (i:Int)).hd 3).n,((k.at (i:Int)).hd 4).n,((k.at (i:Int)).hd 5).n,((k'.at (i:Int)).hd 0).n,enc ((k'.at (i:Int)).hd 1),((k'.at (i:Int)).hd 2).n,((k'.at (i:Int)).hd 3).n,((k'.at (i:Int)).hd 4).n,((k'.at (i:Int)).hd 5).n]=some [1]:=by
    intro j'
    induction j' with
    | zero=>
      intro i' hi';have d1: ¬(i':Int) < (((k.at (i:Int)).hd 1).l.length:Int):=by omega
      rw [aT,aoR];simp only [aaZ,zz,d1,w,aQ,ih]
    | succ j' ihj=>
      intro i' hi';have d1:(i':Int) < (((k.at (i:Int)).hd 1).l.length:Int):=by omega
      have d2: ¬((i':Int) < 0):=by omega
      have d3:(i':Int) < (((k'.at (i:Int)).hd 1).l.length:Int):=by omega
      have w':=bC (n:=i') (by omega);have h':=ihj (i'+1) (by omega);have hn:=q2 i';rw [aT,aoR];simp only [aaZ,zz,d1,d2,d3,w',hn,aQ];exact h'
   have l0:=lp ((k.at (i:Int)).hd 1).l.length 0 (by omega);have q1':(((k.at (i:Int)).hd 1).l.length:Int)=(((k'.at (i:Int)).hd 1).l.length:Int):=by omega
   simp only [q.c0,q.c2,q.c3,q.c4,q.c5,q1',Int.natCast_zero] at l0;rw [aT,aoS];simp only [abA,zz,c1,c2,c3,q.c0,q.c2,q.c3,q.c4,q.c5,q1',aQ];exact l0
theorem aeV (hs:L 200 [enc s,enc s']=some [1]):L 2050 [enc s,enc k,enc s',enc k']=some [1]:=by
 have h:=FC (s:=s) (s':=s') hl hq hb k.l.length 0 (by omega);have hl':(k.l.length:Int)=(k'.l.length:Int):=by omega
 rw [Int.natCast_zero] at h;rw [aT,azK];simp only [ajE,zz,hs,aA,hl',aQ];rw [hl'] at h;exact h
end
theorem aeU {s:D} (hlen:s.l.length≤140737488351232) (hr:TP s):L 200 [enc s,enc s]=some [1]:=by obtain⟨c,h1,_,h3⟩:=aeT s s hlen hr;rw [h1,h3.2 ⟨rfl,fun k h1 h2 _=> ⟨rfl,rfl,Iff.rfl,rfl,⟨rfl,fun _ _ _ _=>rfl⟩,⟨rfl,fun _ _ _ _=>rfl⟩⟩⟩]
theorem Sx.aE3 {s k:D} {n:Nat} (S:Sx s k n):alO k:=by
 refine⟨S.wk.len,fun i=>?_⟩;by_cases hi:i < k.l.length
 ·obtain⟨a,lc,w,o,g,tr,T⟩:=jW S.wk _ (List.getElem_mem hi);rw [aY hi,T.is,eG];exact T.hl.len
 ·rw [IY,List.getElem?_eq_none (by omega)];show ((D.i 0).hd 1).l.length≤_;simp [D.hd,D.l]
theorem Sx.same {s k:D} {n:Nat} (S:Sx s k n) (hn:n < 17592186043904):L 2050 [enc s,enc k,enc s,enc k]=some [1]:=
 aeV rfl (fun _=>KEq.rfl' _) S.aE3 (aeU S.g.wd.len (fun x hx=>by have:=S.g.rows x hx; omega))
end Go.As.Try
end
section
namespace Go.As.Try
open Go hiding Stat Spec shape
open Go.As
set_option maxRecDepth 100000
section
variable {k c:D} (hk:Tk k) (hc:Wd (.sl 0) c)
include hk hc
theorem acJ (x:Int): ∀(j i:Nat) (acc:List D),i+j=k.l.length→acc.length=i→L 3055 [enc k,(k.l.length:Int),(i:Int),x,enc c,enc (dL acc)]=some [enc (.i 1),enc (dL (acc++k.l.drop i)),enc c]
 | 0,i,acc,hi,ha=>by
   have c1: ¬(i:Int) < (k.l.length:Int):=by omega
   rw [List.drop_of_length_le (by omega),List.append_nil,aT,aoK];rcases bG hc with rfl | rfl | ⟨r1,r2⟩
   ·simp only [Jc,zz,c1,len1,len2,oK,iO,aH]
   ·simp only [Jc,zz,c1,len1,len2,oK,iO,aH]
   ·simp only [Jc,zz,c1,r1,r2,aH]
 | j+1,i,acc,hi,ha=>by
   have hil:i < k.l.length:=by omega
   have hf:=hk.few;have c1:(i:Int) < (k.l.length:Int):=by omega
   have c2: ¬((i:Int) < 0):=by omega
   have c4:(acc.length:Int) < 2199023255551:=by omega
   have w:=bC (n:=i) (by omega);obtain⟨a,lc,w',o,g,tr,T⟩:=jW hk.wd _ (List.getElem_mem hil);have he:=T.is;have ih:=acJ x j (i+1) (acc++ [k.l[i]]) (by omega) (by rw [List.length_append,ha]; rfl);rw [List.append_assoc,List.cons_append,List.nil_append,← List.drop_eq_getElem_cons hil] at ih;rw [he] at ih;simp only [iV,kY] at ih;rw [aT,aoK];rcases bG T.hl with rfl | rfl | ⟨r1,r2⟩
   ·simp only [Jc,zz,c1,c2,c4,w,aY hil,he,eG,aX,List.getElem?_cons_zero,List.getElem?_cons_succ,Option.getD_some,len1,len2,oK,iO,aQ];exact ih
   ·simp only [Jc,zz,c1,c2,c4,w,aY hil,he,eG,aX,List.getElem?_cons_zero,List.getElem?_cons_succ,Option.getD_some,len1,len2,oK,iO,aQ];exact ih
   ·simp only [Jc,zz,c1,c2,c4,w,aY hil,he,eG,aX,List.getElem?_cons_zero,List.getElem?_cons_succ,Option.getD_some,len1,len2,oK,iO,aQ,r1,r2];exact ih
theorem acI (x:Int) (y:Int): ∀(j i:Nat) (acc:List D),i+j=k.l.length→acc.length=i→L 3056 [enc k,(k.l.length:Int),(i:Int),x,enc c,y,enc (dL acc)]=some [y,enc (dL (acc++k.l.drop i)),enc c]
 | 0,i,acc,hi,ha=>by
   have c1: ¬(i:Int) < (k.l.length:Int):=by omega
   rw [List.drop_of_length_le (by omega),List.append_nil,aT,aoJ];rcases bG hc with rfl | rfl | ⟨r1,r2⟩
   ·simp only [Jb,zz,c1,len1,len2,oK,iO,aH]
   ·simp only [Jb,zz,c1,len1,len2,oK,iO,aH]
   ·simp only [Jb,zz,c1,r1,r2,aH]
 | j+1,i,acc,hi,ha=>by
   have hil:i < k.l.length:=by omega
   have hf:=hk.few;have c1:(i:Int) < (k.l.length:Int):=by omega
   have c2: ¬((i:Int) < 0):=by omega
   have c4:(acc.length:Int) < 2199023255551:=by omega
   have w:=bC (n:=i) (by omega);obtain⟨a,lc,w',o,g,tr,T⟩:=jW hk.wd _ (List.getElem_mem hil);have he:=T.is;have ih:=acI x y j (i+1) (acc++ [k.l[i]]) (by omega) (by rw [List.length_append,ha]; rfl);rw [List.append_assoc,List.cons_append,List.nil_append,← List.drop_eq_getElem_cons hil] at ih;rw [he] at ih;simp only [iV,kY] at ih;rw [aT,aoJ];rcases bG T.hl with rfl | rfl | ⟨r1,r2⟩
   ·simp only [Jb,zz,c1,c2,c4,w,aY hil,he,eG,aX,List.getElem?_cons_zero,List.getElem?_cons_succ,Option.getD_some,len1,len2,oK,iO,aQ];exact ih
   ·simp only [Jb,zz,c1,c2,c4,w,aY hil,he,eG,aX,List.getElem?_cons_zero,List.getElem?_cons_succ,Option.getD_some,len1,len2,oK,iO,aQ];exact ih
   ·simp only [Jb,zz,c1,c2,c4,w,aY hil,he,eG,aX,List.getElem?_cons_zero,List.getElem?_cons_succ,Option.getD_some,len1,len2,oK,iO,aQ,r1,r2];exact ih
end
section
variable {k c:D} (hk0:k.l.length=0→k= .i 1) (hk1:0 < k.l.length→Tk k) (hc:Wd (.sl 0) c)
include hk0 hk1 hc
theorem auA (x:Int):L 3053 [enc k,(k.l.length:Int),x,enc c]=some [enc (.i 1),enc k,enc c]:=by
 by_cases hz:k.l.length=0
 ·obtain rfl:k= .i 1:=hk0 hz;rw [aT,aoM];rcases bG hc with rfl | rfl | ⟨r1,r2⟩
  ·simp only [Je,zz,len1,len2,oK,iO,aH]
  ·simp only [Je,zz,len1,len2,oK,iO,aH]
  ·simp only [Je,zz,len1,oK,r1,r2,aH]
 ·have hp:0 < k.l.length:=by omega
  have hk:=hk1 hp;have c1:(0:Int) < (k.l.length:Int):=by omega
  obtain⟨a,lc,w',o,g,tr,T⟩:=jW hk.wd _ (List.getElem_mem hp);have he:=T.is;have ih:=acJ hk hc x (k.l.length - 1) 1 [k.l[0]] (by omega) rfl;rw [List.cons_append,List.nil_append,← List.drop_eq_getElem_cons hp,List.drop_zero,← hk.sh] at ih;rw [he] at ih;simp only [iV,kY] at ih;have a0:k.at 0=k.l[0]:=aY (i:=0) hp;rw [aT,aoM];rcases bG T.hl with rfl | rfl | ⟨r1,r2⟩
  ·simp only [Je,zz,c1,a0,he,eG,aX,yL,List.nil_append,List.getElem?_cons_zero,List.getElem?_cons_succ,len1,len2,oK,iO,aQ];exact ih
  ·simp only [Je,zz,c1,a0,he,eG,aX,yL,List.nil_append,List.getElem?_cons_zero,List.getElem?_cons_succ,len1,len2,oK,iO,aQ];exact ih
  ·simp only [Je,zz,c1,a0,he,eG,aX,yL,List.nil_append,List.getElem?_cons_zero,List.getElem?_cons_succ,r1,r2,aQ];exact ih
theorem atZ (x:Int) (y:Int):L 3054 [enc k,(k.l.length:Int),x,enc c,y]=some [y,enc k,enc c]:=by
 by_cases hz:k.l.length=0
 ·obtain rfl:k= .i 1:=hk0 hz;rw [aT,aoL];rcases bG hc with rfl | rfl | ⟨r1,r2⟩
  ·simp only [Jd,zz,len1,len2,oK,iO,aH]
  ·simp only [Jd,zz,len1,len2,oK,iO,aH]
  ·simp only [Jd,zz,len1,oK,r1,r2,aH]
 ·have hp:0 < k.l.length:=by omega
  have hk:=hk1 hp;have c1:(0:Int) < (k.l.length:Int):=by omega
  obtain⟨a,lc,w',o,g,tr,T⟩:=jW hk.wd _ (List.getElem_mem hp);have he:=T.is;have ih:=acI hk hc x y (k.l.length - 1) 1 [k.l[0]] (by omega) rfl;rw [List.cons_append,List.nil_append,← List.drop_eq_getElem_cons hp,List.drop_zero,← hk.sh] at ih;rw [he] at ih;simp only [iV,kY] at ih;have a0:k.at 0=k.l[0]:=aY (i:=0) hp;rw [aT,aoL];rcases bG T.hl with rfl | rfl | ⟨r1,r2⟩
  ·simp only [Jd,zz,c1,a0,he,eG,aX,yL,List.nil_append,List.getElem?_cons_zero,List.getElem?_cons_succ,len1,len2,oK,iO,aQ];exact ih
  ·simp only [Jd,zz,c1,a0,he,eG,aX,yL,List.nil_append,List.getElem?_cons_zero,List.getElem?_cons_succ,len1,len2,oK,iO,aQ];exact ih
  ·simp only [Jd,zz,c1,a0,he,eG,aX,yL,List.nil_append,List.getElem?_cons_zero,List.getElem?_cons_succ,r1,r2,aQ];exact ih
end
section
variable {s k c:D} (hs:Th s)
include hs
theorem alW: ∀(j i:Nat) (acc:List D),i+j=s.l.length→acc.length=i→L 3052 [enc s,(s.l.length:Int),(i:Int),enc k,enc c,enc (dL acc)]=L 3054 [enc k,(k.l.length:Int),enc s,enc c,enc (dL (acc++s.l.drop i))]
 | 0,i,acc,hi,ha=>by
   have c1: ¬(i:Int) < (s.l.length:Int):=by omega
   rw [List.drop_of_length_le (by omega),List.append_nil,aT,aoN];simp only [aaW,zz,c1,aQ]
 | j+1,i,acc,hi,ha=>by
   have hil:i < s.l.length:=by omega
   have hf:=hs.few;have c1:(i:Int) < (s.l.length:Int):=by omega
   have c2: ¬((i:Int) < 0):=by omega
   have c4:(acc.length:Int) < 1759218604440:=by omega
   have w:=bC (n:=i) (by omega);obtain⟨o,c',dn,g,r,v,he,_,_,hd,_,hr,hv⟩:=hs.wd.thing _ (List.getElem_mem hil);have ih:=alW j (i+1) (acc++ [s.l[i]]) (by omega) (by rw [List.length_append,ha]; rfl);rw [List.append_assoc,List.cons_append,List.nil_append,← List.drop_eq_getElem_cons hil] at ih;rw [he] at ih;simp only [iV,kY] at ih;rw [aT,aoN];rcases hd with rfl | rfl <;> rcases bG hr with rfl | rfl | ⟨r1,r2⟩ <;> rcases bG hv with rfl | rfl | ⟨v1,v2⟩
   all_goals
    simp only [aaW,zz,c1,c2,c4,w,aY hil,he,eG,aX,List.getElem?_cons_zero,List.getElem?_cons_succ,len1,len2,oK,iO]
    try simp only [r1,r2,zz]
    try simp only [v1,v2,zz]
    try simp only [aQ,if_true,aA,if_false]
    exact ih
end
section
variable {s k c:D} (hs0:s.l.length=0→s= .i 1) (hs1:0 < s.l.length→Th s) (hk0:k.l.length=0→k= .i 1) (hk1:0 < k.l.length→Tk k) (hc:Wd (.sl 0) c)
include hs0 hs1 hk0 hk1 hc
theorem Za:L 3050 [enc s,enc k,enc c]=some [enc s,enc k,enc c]:=by
 have h:L 3051 [enc s,(s.l.length:Int),enc k,enc c]=some [enc s,enc k,enc c]:=by
  by_cases hz:s.l.length=0
  ·have c1: ¬(0:Int) < (s.l.length:Int):=by omega
   have h:=auA hk0 hk1 hc (enc s);rw [aT,aoO];simp only [aaX,zz,c1,aQ];rw [h,hs0 hz]
  ·have hp:0 < s.l.length:=by omega
   have hs:=hs1 hp;have c1:(0:Int) < (s.l.length:Int):=by omega
   obtain⟨o,c',dn,g,r,v,he,_,_,hd,_,hr,hv⟩:=hs.wd.thing _ (List.getElem_mem hp);have ih:=alW (k:=k) (c:=c) hs (s.l.length - 1) 1 [s.l[0]] (by omega) rfl;rw [List.cons_append,List.nil_append,← List.drop_eq_getElem_cons hp,List.drop_zero,← hs.sh,atZ hk0 hk1 hc] at ih;rw [he] at ih;simp only [iV,kY] at ih;have a0:s.at 0=s.l[0]:=aY (i:=0) hp;rw [aT,aoO];rcases hd with rfl | rfl <;> rcases bG hr with rfl | rfl | ⟨r1,r2⟩ <;> rcases bG hv with rfl | rfl | ⟨v1,v2⟩
   all_goals
    simp only [aaX,zz,c1,a0,he,eG,aX,yL,List.nil_append,List.getElem?_cons_zero,List.getElem?_cons_succ,len1,len2,oK,iO]
    try simp only [r1,r2,zz]
    try simp only [v1,v2,zz]
    try simp only [aQ,if_true,aA,if_false]
    exact ih
 rw [aT,azG];simp only [ajB,zz,aQ];exact h
end
theorem Sx.aDt {s k c:D} {n:Nat} (S:Sx s k n) (hc:Wd (.sl 0) c):L 3050 [enc s,enc k,enc c]=some [enc s,enc k,enc c]:=by
 refine Za (fun h=>?_) (fun h=>E8 S.g.wd h) (fun h=>?_) (fun h=>Px S.wk h) hc
 ·rcases S.g.wd.sh with h1 | h1 | ⟨_,h2⟩
  ·exact h1
  ·exact absurd h1 S.n2s
  ·exact absurd (List.length_eq_zero_iff.1 h) h2
 ·rcases S.wk.sh with h1 | h1 | ⟨_,h2⟩
  ·exact h1
  ·exact absurd h1 S.n2k
  ·exact absurd (List.length_eq_zero_iff.1 h) h2
end Go.As.Try
end
section
namespace Go.As.Try
open Go hiding Stat Spec shape
open Go.As
set_option maxRecDepth 100000
def bump (c:D) (u n:Int):D:=dL (fE c.l u (.i (if (c.at u).n < n then n else (c.at u).n)))
theorem BX (c:D) (u n:Int):(bump c u n).l.length=c.l.length:=by unfold bump; rw [aX,fP]
def wkB (n:Int):List D→D→D
 | [],c=>c
 | x :: l,c=>wkB n l (bump c x.n n)
def wkA (o g n:Int):List D→Nat→D→D
 | [],_,c=>c
 | x :: l,i,c=>wkA o g n l (i+1) (if (x.hd 2).n=25∧(x.hd 3).n=o∧(x.hd 4).n=g then bump c (i:Int) n else c)
def wkM (s s' k':D) (e2 e3 e4:Int) (c:D) (n:Int):D:=
 if e2=13 then (if 0 < e4 then bump c (IntKind.i64.wrap (e4 - 1)) n else c)
 else if e2=14 then wkB n ((s.at e3).hd 4).l c
 else if e2=15 then (if e4 < ((s'.at e3).hd 3).n then wkA e3 e4 n k'.l 0 c else c)
 else c
section
variable {x0 x1 x2 x3 x4 x5 x6 x7 x8 x9 n:Int} {m:Nat}
theorem VA (r:D) (hr: ∀x∈r.l,0≤x.n∧x.n < (m:Int)) (hb:r.l.length≤140737488351232): ∀(j i:Nat) (c:D),i+j=r.l.length→c.l.length=m→
 L 15001 [x0,x1,x2,x3,x4,x5,x6,x7,x8,x9,n,enc r,(r.l.length:Int),(i:Int),enc c]=some [0,x0,x1,x2,x3,x4,x5,x6,x7,x8,x9,n,enc (wkB n (r.l.drop i) c)]
 | 0,i,c,hi,hc=>by
   have c1: ¬(i:Int) < (r.l.length:Int):=by omega
   rw [List.drop_of_length_le (by omega),aT,ZM];simp only [LD,zz,c1,aH,wkB]
 | j+1,i,c,hi,hc=>by
   have hil:i < r.l.length:=by omega
   have c1:(i:Int) < (r.l.length:Int):=by omega
   have c2: ¬((i:Int) < 0):=by omega
   have w:=bC (n:=i) (by omega);obtain⟨r0,r1⟩:=hr _ (List.getElem_mem hil);have c3: ¬((r.l[i]).n < 0):=by omega
   have c4:(r.l[i]).n < (c.l.length:Int):=by omega
   have ih:=VA r hr hb j (i+1) (bump c (r.l[i]).n n) (by omega) (by rw [BX]; exact hc);rw [List.drop_eq_getElem_cons hil,wkB,aT,ZM];unfold bump at ih ⊢;by_cases hz:(c.at (r.l[i]).n).n < n
   ·simp only [if_pos hz] at ih ⊢;simp only [LD,zz,c1,c2,c3,c4,aY hil,hz,w,aQ];exact ih
   ·simp only [if_neg hz] at ih ⊢;simp only [LD,zz,c1,c2,c3,c4,aY hil,hz,w,aQ];exact ih
theorem AU (k:D) (hb:k.l.length≤140737488351232) (hk:k.l.length≤m): ∀(j i:Nat) (c:D),i+j=k.l.length→c.l.length=m→
 L 15002 [x0,x1,x2,enc k,x4,x5,x6,x7,x8,x9,n,(k.l.length:Int),(i:Int),enc c]=some [0,x0,x1,x2,enc k,x4,x5,x6,x7,x8,x9,n,enc (wkA x6 x7 n (k.l.drop i) i c)]
 | 0,i,c,hi,hc=>by
   have c1: ¬(i:Int) < (k.l.length:Int):=by omega
   rw [List.drop_of_length_le (by omega),aT,ZL];simp only [AY,zz,c1,aH,wkA]
 | j+1,i,c,hi,hc=>by
   have hil:i < k.l.length:=by omega
   have c1:(i:Int) < (k.l.length:Int):=by omega
   have c2: ¬((i:Int) < 0):=by omega
   have c4:(i:Int) < (c.l.length:Int):=by omega
   have w:=bC (n:=i) (by omega);rw [List.drop_eq_getElem_cons hil,wkA,aT,ZL];by_cases h2:((k.l[i]).hd 2).n=25
   ·by_cases h3:((k.l[i]).hd 3).n=x6
    ·by_cases h4:((k.l[i]).hd 4).n=x7
     ·have ih:=AU k hb hk j (i+1) (bump c (i:Int) n) (by omega) (by rw [BX]; exact hc);rw [if_pos ⟨h2,h3,h4⟩];unfold bump at ih ⊢;by_cases hz:(c.at (i:Int)).n < n
      ·simp only [if_pos hz] at ih ⊢;simp only [AY,zz,c1,c2,c4,aY hil,h2,h3,h4,hz,w,aQ];exact ih
      ·simp only [if_neg hz] at ih ⊢;simp only [AY,zz,c1,c2,c4,aY hil,h2,h3,h4,hz,w,aQ];exact ih
     ·have ih:=AU k hb hk j (i+1) c (by omega) hc;rw [if_neg (fun h=>h4 h.2.2)];simp only [AY,zz,c1,c2,aY hil,h2,h3,if_neg h4,w,aQ];exact ih
    ·have ih:=AU k hb hk j (i+1) c (by omega) hc;rw [if_neg (fun h=>h3 h.2.1)];simp only [AY,zz,c1,c2,aY hil,h2,if_neg h3,w,aQ];exact ih
   ·have ih:=AU k hb hk j (i+1) c (by omega) hc;rw [if_neg (fun h=>h2 h.1)];simp only [AY,zz,c1,c2,aY hil,if_neg h2,w,aQ];exact ih
end
structure awY (s s' k':D) (e2 e3 e4:Int) (m:Nat):Prop where
 sig:e2=13→0 < e4→0≤IntKind.i64.wrap (e4 - 1)∧IntKind.i64.wrap (e4 - 1) < (m:Int)
 brd:e2=14→0≤e3∧e3 < (s.l.length:Int)∧(∀x∈((s.at e3).hd 4).l,0≤x.n∧x.n < (m:Int))∧((s.at e3).hd 4).l.length≤140737488351232
 arr:e2=15→0≤e3∧e3 < (s'.l.length:Int)
 lk:k'.l.length≤m
 few:k'.l.length≤140737488351232
theorem ahJ {s s' k' c:D} {x1 e1 e2 e3 e4 e5 n:Int} (W:awY s s' k' e2 e3 e4 c.l.length):L 15000 [enc s,x1,enc s',enc k',e1,e2,e3,e4,e5,enc c,n]=some [0,enc s,x1,enc s',enc k',e1,e2,e3,e4,e5,enc c,n,enc (wkM s s' k' e2 e3 e4 c n)]:=by
 rw [aT,aoY];unfold wkM;by_cases h3:e2=13
 ·by_cases hp:0 < e4
  ·obtain⟨w0,w1⟩:=W.sig h3 hp;have c2: ¬(IntKind.i64.wrap (e4 - 1) < 0):=by omega
   unfold bump;by_cases hz:(c.at (IntKind.i64.wrap (e4 - 1))).n < n
   ·simp only [yP,zz,h3,hp,c2,w1,hz,aH,if_true]
   ·simp only [yP,zz,h3,hp,c2,w1,hz,aH,if_true,if_false]
  ·simp only [yP,zz,h3,hp,aH,if_true,if_false]
 ·by_cases h4:e2=14
  ·obtain⟨b0,b1,b2,b3⟩:=W.brd h4;have c2: ¬(e3 < 0):=by omega
   have h:=VA (x0:=enc s) (x1:=x1) (x2:=enc s') (x3:=enc k') (x4:=e1) (x5:=e2) (x6:=e3) (x7:=e4) (x8:=e5) (x9:=enc c) (n:=n) ((s.at e3).hd 4) b2 b3 ((s.at e3).hd 4).l.length 0 c (by omega) rfl;rw [List.drop_zero,Int.natCast_zero,h4] at h;simp only [yP,zz,h4,b1,c2,aQ,if_true,if_false,Int.reduceEq];exact h
  ·by_cases h5:e2=15
   ·obtain⟨b0,b1⟩:=W.arr h5;have c2: ¬(e3 < 0):=by omega
    by_cases hg:e4 < ((s'.at e3).hd 3).n
    ·have h:=AU (x0:=enc s) (x1:=x1) (x2:=enc s') (x4:=e1) (x5:=e2) (x6:=e3) (x7:=e4) (x8:=e5) (x9:=enc c) (n:=n) k' W.few W.lk k'.l.length 0 c (by omega) rfl;rw [List.drop_zero,Int.natCast_zero,h5] at h;simp only [yP,zz,h5,b1,c2,hg,aQ,if_true,if_false,Int.reduceEq];exact h
    ·simp only [yP,zz,h5,b1,c2,hg,aH,if_true,if_false,Int.reduceEq]
   ·simp only [yP,zz,h3,h4,h5,aH,if_false]
abbrev J6:Int:=9223372036854775807
abbrev tick (c:D) (t:Int):D:=dL (fE c.l t (.i ((c.at t).n+1)))
inductive Vr (d0 d1 s k c:D) (t:Int) (n:Nat):D→D→D→Int→Int→Int→Int→Int→Int→Int→Prop
 | no (h: ¬(0≤t∧t < (d1.l.length:Int)∧KR d0 d1 s k c)):Vr d0 d1 s k c t n s k c 0 0 0 0 0 0 0
 | over (x:KT) (K:KR d0 d1 s k c) (R:Rs d0 d1 s k t x) (ho:jJ d1 t x=1):Vr d0 d1 s k c t n s k c 0 0 0 0 0 4 0
 | asl (x:KT) (K:KR d0 d1 s k c) (R:Rs d0 d1 s k t x) (ho:jJ d1 t x=0) (ha:DW s t x≠0):Vr d0 d1 s k c t n s k c 0 0 0 0 0 0 0
 | wait (x:KT) (K:KR d0 d1 s k c) (R:Rs d0 d1 s k t x) (ho:jJ d1 t x=0) (ha:DW s t x=0) (hq:low (mD d1 t x) 4≠0∨(c.at t).n=J6) (ht: ¬vS (sQ d0 d1 s k) c t):Vr d0 d1 s k c t n s k c 0 0 0 0 0 0 0
 | full (x:KT) (K:KR d0 d1 s k c) (R:Rs d0 d1 s k t x) (ho:jJ d1 t x=0) (ha:DW s t x=0) (ht:vS (sQ d0 d1 s k) c t) (hm:(c.at t).n=J6):Vr d0 d1 s k c t n s k c 0 0 0 0 0 0 131
 | go (x:KT) (K:KR d0 d1 s k c) (R:Rs d0 d1 s k t x) (ho:jJ d1 t x=0) (ha:DW s t x=0) (hq:low (mD d1 t x) 4=0∨vS (sQ d0 d1 s k) c t) (hm:(c.at t).n≠J6) (s' k':D) (e1 e2 e3 e4 e5 oc:Int)
  (hL:L 1850 [enc d0,enc d1,enc s,enc k,t]=some [enc s',enc k',e1,e2,e3,e4,e5,oc]) (H:Hg d0 d1 s k t n s' k' e1 e2 e3 e4 e5 oc) (W:awY s s' k' e2 e3 e4 c.l.length):Vr d0 d1 s k c t n s' k' (wkM s s' k' e2 e3 e4 (tick c t) ((c.at t).n+1)) e1 e2 e3 e4 e5 oc 0
theorem afL (d1:D) (t:Int) (x:KT): ∃a b c d e,mD d1 t x= [a,b,c,d,e]∧(e=0∨e=1):=by
 unfold mD;split
 ·split
  ·exact⟨_,_,_,_,_,rfl,.inl rfl⟩
  ·split
   ·exact⟨_,_,_,_,_,rfl,.inr rfl⟩
   ·split
    ·exact⟨_,_,_,_,_,rfl,.inr rfl⟩
    ·exact⟨_,_,_,_,_,rfl,.inl rfl⟩
 ·exact⟨_,_,_,_,_,rfl,.inr rfl⟩
section
variable {d0 d1 s k:D} {n:Nat} (S:Sx s k n) (hn:n < 17592186043904) (h0:Wd (.sl 3) d0) (h1:Wd (.sl 4) d1)
include S hn h0 h1
theorem aAM (M:MR d0 d1 s k) {i:Int} (i0:0≤i) (i1:i < (s.l.length:Int)):(∀x∈((s.at i).hd 4).l,0≤x.n∧x.n < (d1.l.length:Int))∧((s.at i).hd 4).l.length≤140737488351232:=by obtain⟨o,c,dn,g,r,v,T,hr,_⟩:=ayF S.g i0 i1;have P:=aAL h0 h1 S.g (by omega) M.1 i0 i1 T;rw [T.is];simp only [zg,Option.getD_some];exact⟨P.2.1.1,by omega⟩
theorem aCK (M:MR d0 d1 s k) {t:Int} {s' k':D} {e1 e2 e3 e4 e5 oc:Int} (H:Hg d0 d1 s k t n s' k' e1 e2 e3 e4 e5 oc):awY s s' k' e2 e3 e4 d1.l.length:=by
 have hx:=VQ S hn h0 h1 H;have hlk:k.l.length=d1.l.length:=M.2.1;have hk2:=h1.len;have hle:=(FK h0 h1 S.g (by omega) M.1).2.2;refine⟨fun h13 hp=>?_,fun h14=>?_,fun h15=>?_,by omega,by omega⟩
 all_goals
  cases H with
  | no h=>omega
  | over x R ho=>omega
  | loc x R ho ha=>omega
  | tri x R ho op obj arg tr hq k1 k2 k3 hti s' e1 e2 e3 e4 e5 oc A T=>
    cases T with
    | no=>omega
    | mis A'=>omega
    | res A' o c dn g r v o' c' dn' g' r' v' m a oc T' h=>
      have a0:=A'.o0;have a1:=A'.o1;obtain⟨hrow,hrl⟩:=aAM S hn h0 h1 M a0 a1
      first
       | (subst h13
          have e:act (Mx d0 e3) (Mo d0 s e3) t 13 arg tr o c dn g r v=if (r.l.length:Int)=0 then .res o c dn g r v none 0 2 else .res o c dn g (gK r (r.l.drop 1)) v none (IntKind.i64.wrap ((r.at 0).n+1)) 2:=by simp [act]
          rw [e] at h;rw [T'.is] at hrow;simp only [zg,Option.getD_some] at hrow;have hok:=(FK h0 h1 S.g (by omega) M.1).2.1.2.1;by_cases hz:(r.l.length:Int)=0
          ·rw [if_pos hz] at h;simp only [Act.res.injEq] at h;omega
          ·rw [if_neg hz] at h;simp only [Act.res.injEq] at h;have h2:=h.2.2.2.2.2.2.2.1;have hm:r.at 0∈r.l:=alK (Int.le_refl 0) (by omega);obtain⟨q0,q1⟩:=hrow _ hm;rw [lZ (by omega) (by omega)] at h2;rw [← h2,lZ (by omega) (by omega)]
           omega)
       | exact⟨a0,a1,hrow,hrl⟩
       | (have:=hx.2.1
          exact⟨a0,by omega⟩)
theorem Wx {c:D} (hc:Wd (.sl 0) c) (t:Int): ∃s' k' c' e1 e2 e3 e4 e5 oc er,L 3100 [enc d0,enc d1,enc s,enc k,enc c,t]=some [enc s',enc k',enc c',e1,e2,e3,e4,e5,oc,er]∧Vr d0 d1 s k c t n s' k' c' e1 e2 e3 e4 e5 oc er:=by
 have hcp:=S.aDt hc;have hb:=hc.len;obtain⟨ys,hK,b,rfl,hb'⟩:=Iy (k:=k) h0 h1 (S.g.few (by omega)).rows hb;by_cases t0:t < 0
 ·refine⟨s,k,c,0,0,0,0,0,0,0,?_,.no fun h=>by omega⟩;rw [aT,Aw];simp only [xE,zz,t0,hcp,aH]
 ·by_cases t1:t < (d1.l.length:Int)
  ·rcases hb' with ⟨rfl,hN⟩ | ⟨rfl,K⟩
   ·refine⟨s,k,c,0,0,0,0,0,0,0,?_,.no fun h=>hN h.2.2⟩;rw [aT,Aw];simp only [xE,zz,t0,t1,hK,hcp,aH]
   ·obtain⟨hcl,hnn,M⟩:=K;have hle:=(FK h0 h1 S.g (by omega) M.1).2.2;obtain⟨x,R⟩:=M.thr S hn h0 h1 (by omega:0≤t) t1;have hO:=FN (s:=s) R.hk R.ht R.r;have hN:=Ue (s:=s) R.c R.hk R.ht R.r;have h15:=R.yes;have tc:t < (c.l.length:Int):=by omega
    have hA:=SG S hn R hle;rcases abS d1 t x with ho | ho
    ·rw [ho] at hO
     have h17:L 1700 [enc d0,enc d1,enc s,enc k,t]=some [0]:=by rw [aT,aoU];simp only [abD,zz,h15,hO,aA,aH]
     obtain⟨q0,q1,q2,q3,q4,hq,hq4⟩:=afL d1 t x
     have h18:L 1800 [enc d0,enc d1,enc s,enc k,t]=some [q0,q1,q2,q3,q4]:=by
      rw [hq] at hN;rw [aT,azL];rcases hq4 with rfl | rfl
      ·simp only [abB,zz,h15,hN,aA,aH]
      ·simp only [abB,zz,h15,hN,aA,aH]
     have hl4:low (mD d1 t x) 4=q4:=by rw [hq]; rfl
     by_cases ha:DW s t x=0
     ·obtain⟨tb,hT,aBd,hTi⟩:=aaF (d0:=d0) (d1:=d1) (s:=s) (k:=k) (c:=c) (t:=t) (fun u u0 u1=>by
       obtain⟨y,Ry⟩:=M.thr S hn h0 h1 u0 (by omega)
       exact⟨_,IW S hn Ry hle⟩) (by omega) tc hb
      rw [ha] at hA
      have hgo:(low (mD d1 t x) 4=0∨vS (sQ d0 d1 s k) c t)→(c.at t).n≠J6→∃s' k' e1 e2 e3 e4 e5 oc,(L 1850 [enc d0,enc d1,enc s,enc k,t]=some [enc s',enc k',e1,e2,e3,e4,e5,oc]∧L 15000 [enc s,enc k,enc s',enc k',e1,e2,e3,e4,e5,enc (tick c t),(c.at t).n+1]=some [0,enc s,enc k,enc s',enc k',e1,e2,e3,e4,e5,enc (tick c t),(c.at t).n+1,enc (wkM s s' k' e2 e3 e4 (tick c t) ((c.at t).n+1))])∧
       Vr d0 d1 s k c t n s' k' (wkM s s' k' e2 e3 e4 (tick c t) ((c.at t).n+1)) e1 e2 e3 e4 e5 oc 0:=fun hq' hm=>by
       obtain⟨s',k',e1,e2,e3,e4,e5,oc,hL,H⟩:=LW S hn h0 h1 t;have W:=aCK S hn h0 h1 M H;refine⟨s',k',e1,e2,e3,e4,e5,oc,⟨hL,ahJ ?_⟩,.go x ⟨hcl,hnn,M⟩ R ho ha hq' hm s' k' e1 e2 e3 e4 e5 oc hL H (by rw [hcl]; exact W)⟩;rw [aX,fP,hcl];exact W
      have hin:iM .i64 (c.at t).n:=by obtain⟨i,rfl⟩ : ∃i:Nat,t=(i:Int):=⟨t.toNat,by omega⟩;exact ahM hc i
      have hw:(c.at t).n≠J6→IntKind.i64.wrap ((c.at t).n+1)=(c.at t).n+1:=fun hm=>lZ (by have:=hin.1; omega) (by have:=hin.2; unfold J6 at hm; omega);have hpos:(0:Int) < (c.l.length:Int):=by omega
      have hfew:(c.l.length:Int) < 17592186044416:=by have:=hc.room;have h3:vV 0=8:=rfl;rw [h3] at this;omega
      have hat:((tick c t).at t).n=(c.at t).n+1:=by
       obtain⟨i,rfl⟩ : ∃i:Nat,t=(i:Int):=⟨t.toNat,by omega⟩
       have:(tick c (i:Int)).at (i:Int)= .i ((c.at (i:Int)).n+1):=arE (by
        show (dL (fE c.l (i:Int) _)).l[i]?=_;rw [aX]
        exact WS (by omega))
       rw [this];rfl
      by_cases h4:q4=0
      ·by_cases hm:(c.at t).n=J6
       ·have hm':(c.at t).n=9223372036854775807:=hm;by_cases hz:tb=0
        ·refine⟨s,k,c,0,0,0,0,0,0,0,?_,.wait x ⟨hcl,hnn,M⟩ R ho ha (.inr hm) fun h=>by have:=hTi.2 h; omega⟩;rw [aT,Aw];simp only [xE,zz,t0,t1,hK,h17,h18,tc,hA,h4,hm',hT,hz,hcp,aA,aH]
        ·refine⟨s,k,c,0,0,0,0,0,0,131,?_,.full x ⟨hcl,hnn,M⟩ R ho ha (hTi.1 (by omega)) hm⟩;rw [aT,Aw];simp only [xE,zz,t0,t1,hK,h17,h18,tc,hA,h4,hm',hT,if_neg hz,hcp,aA,aH]
       ·obtain⟨s',k',e1,e2,e3,e4,e5,oc,⟨hL,hW⟩,H⟩:=hgo (.inl (by rw [hl4]; exact h4)) hm;refine⟨s',k',_,e1,e2,e3,e4,e5,oc,0,?_,H⟩;have hm': ¬(c.at t).n=9223372036854775807:=hm;rw [aT,Aw];simp only [xE,zz,t0,t1,hK,h17,h18,tc,hA,h4,hm',hL,hpos,hfew,hw hm,hat,hW,aA,aH]
      ·by_cases hz:tb=0
       ·refine⟨s,k,c,0,0,0,0,0,0,0,?_,.wait x ⟨hcl,hnn,M⟩ R ho ha (.inl (by rw [hl4]; exact h4)) fun h=>by have:=hTi.2 h; omega⟩;rw [aT,Aw];simp only [xE,zz,t0,t1,hK,h17,h18,tc,hA,if_neg h4,hT,hz,hcp,aA,aH]
       ·have hTP:=hTi.1 (by omega);by_cases hm:(c.at t).n=J6
        ·have hm':(c.at t).n=9223372036854775807:=hm;refine⟨s,k,c,0,0,0,0,0,0,131,?_,.full x ⟨hcl,hnn,M⟩ R ho ha hTP hm⟩;rw [aT,Aw];simp only [xE,zz,t0,t1,hK,h17,h18,tc,hA,if_neg h4,hm',hT,if_neg hz,hcp,aA,aH]
        ·obtain⟨s',k',e1,e2,e3,e4,e5,oc,⟨hL,hW⟩,H⟩:=hgo (.inr hTP) hm;refine⟨s',k',_,e1,e2,e3,e4,e5,oc,0,?_,H⟩;have hm': ¬(c.at t).n=9223372036854775807:=hm;rw [aT,Aw];simp only [xE,zz,t0,t1,hK,h17,h18,tc,hA,if_neg h4,hm',hT,if_neg hz,hL,hpos,hfew,hw hm,hat,hW,aA,aH]
     ·refine⟨s,k,c,0,0,0,0,0,0,0,?_,.asl x ⟨hcl,hnn,M⟩ R ho ha⟩;obtain⟨b4,hb4⟩ : ∃b4,q4=b4:=⟨_,rfl⟩;rw [aT,Aw];simp only [xE,zz,t0,t1,hK,h17,h18,tc,hA,if_neg ha,hcp,aA,aH]
    ·rw [ho] at hO
     have h17:L 1700 [enc d0,enc d1,enc s,enc k,t]=some [1]:=by rw [aT,aoU];simp only [abD,zz,h15,hO,aA,aH]
     refine⟨s,k,c,0,0,0,0,0,4,0,?_,.over x ⟨hcl,hnn,M⟩ R ho⟩;rw [aT,Aw];simp only [xE,zz,t0,t1,hK,h17,hcp,aA,aH]
  ·refine⟨s,k,c,0,0,0,0,0,0,0,?_,.no fun h=>t1 h.2.1⟩;rw [aT,Aw];simp only [xE,zz,t0,t1,hcp,aH]
end
end Go.As.Try
end
section
namespace Go.As.Try
open Go hiding Stat Spec shape
open Go.As
set_option maxRecDepth 100000
abbrev evD (e1 e2 e3 e4 e5:Int):D:=dL [.i e1,.i e2,.i e3,.i e4,.i e5]
structure PS where
 s:D
 k:D
 l:List D
structure POk (d1:D) (p:PS) (n:Nat):Prop where
 sx:Sx p.s p.k n
 lk:p.k.l.length=d1.l.length
 ll:p.l.length≤n
theorem dr {ρ:Nat→Int} (a b:SE):(SE.rem a b).den ρ=(a.den ρ).tmod (b.den ρ):=rfl
theorem aDp:((3:Int)=2)=False:=by simp
section
variable {d0 d1:D} (h0:Wd (.sl 3) d0) (h1:Wd (.sl 4) d1)
include h0 h1
end
theorem Yj (d1:D):(uT d1).l.length=d1.l.length:=by
 unfold uT;split
 ·rename_i h; rw [h]; rfl
 ·rw [aX,List.length_map]
section
variable {d0 d1:D} (h0:Wd (.sl 3) d0) (h1:Wd (.sl 4) d1)
include h0 h1
theorem begins:(∃s k:D,L 1450 [enc d0,enc d1]=some [enc s,enc k,0]∧POk d1 ⟨s,k,[]⟩ 0)∨(∃c:Int,c≠0∧L 1450 [enc d0,enc d1]=some [enc (.i 1),enc (.i 1),c]):=by
 obtain⟨ys,hC,c,rfl,_,hok⟩:=Dz h0 h1;by_cases hc:c=0
 ·subst hc;have ok:=(hok rfl).1;exact .inl ⟨_,_,afQ h1 hC ok,ajU h0 h1 ok,Yj d1,Nat.le_refl _⟩
 ·exact .inr ⟨c,hc,afP hC hc⟩
end
end Go.As.Try
end
section
namespace Go.As.Try
open Go hiding Stat Spec shape
open Go.As
set_option maxRecDepth 100000
structure Ck (M:Int) (c:D):Prop where
 wd:Wd (.sl 0) c
 rng: ∀u:Nat,u < c.l.length→0≤(c.at (u:Int)).n∧(c.at (u:Int)).n≤M
structure Sh (B:Int) (c c':D):Prop where
 len:c'.l.length=c.l.length
 at': ∀u:Nat,u < c.l.length→(c'.at (u:Int)).n=(c.at (u:Int)).n+B
theorem awT (c:D) (u x:Int) {v:Nat} (hv:v < c.l.length):((dL (fE c.l u (.i x))).at (v:Int)).n=if (v:Int)=u then x else (c.at (v:Int)).n:=by
 by_cases h:(v:Int)=u
 ·subst h;rw [if_pos rfl,arE (s:=dL (fE c.l (v:Int) (.i x))) (i:=v) (x:=.i x) (by rw [aX]; exact WS hv)];rfl
 ·rw [if_neg h]
  have e:(dL (fE c.l u (.i x))).at (v:Int)=c.at (v:Int):=by rw [IY,IY,aX,WR h]
  rw [e]
theorem arS {c:D} (hc:Wd (.sl 0) c) (hp:0 < c.l.length) (z:Int) {v:Int} (hv:iM .i64 v):Wd (.sl 0) (dL (fE c.l z (.i v))):=by
 have:=hc.room;have h3:vV 0=8:=rfl;rw [h3] at this;have hs:=fP c.l z (.i v);refine yM (fun y hy=>?_) (fun he=>?_) (by rw [hs]; omega)
 ·rcases xZ hy with h | rfl
  ·exact (hc.el1 rfl y h).i
  ·exact⟨v,rfl,hv⟩
 ·rw [he] at hs;simp only [List.length_nil] at hs;omega
theorem abK {M:Int} {c:D} (C:Ck M c) (hp:0 < c.l.length) (hM:M≤J6) (z:Int) {v:Int} (v0:0≤v) (v1:v≤M):Ck M (dL (fE c.l z (.i v))):=by
 refine⟨arS C.wd hp z ⟨by omega,by unfold J6 at hM; omega⟩,fun u hu=>?_⟩;rw [aX,fP] at hu;rw [awT c z v hu];split
 ·exact⟨v0,v1⟩
 ·exact C.rng u hu
theorem Ck.mono {M M':Int} {c:D} (C:Ck M c) (h:M≤M'):Ck M' c:=⟨C.wd,fun u hu=>by have:=C.rng u hu; omega⟩
theorem Ck.at {M:Int} {c:D} (C:Ck M c) {t:Int} (t0:0≤t) (t1:t < (c.l.length:Int)):0≤(c.at t).n∧(c.at t).n≤M:=by obtain⟨i,rfl⟩ : ∃i:Nat,t=(i:Int):=⟨t.toNat,by omega⟩;exact C.rng i (by omega)
theorem Vh {M:Int} {c:D} (C:Ck M c) (hp:0 < c.l.length) (hM:M≤J6) {u n:Int} (u0:0≤u) (u1:u < (c.l.length:Int)) (n0:0≤n) (n1:n≤M):Ck M (bump c u n):=by unfold bump;have:=C.at u0 u1;refine abK C hp hM u ?_ ?_ <;> (split <;> omega)
theorem ahL {M:Int} {n:Int} (hM:M≤J6) (n0:0≤n) (n1:n≤M): ∀(l:List D) (c:D),Ck M c→0 < c.l.length→(∀x∈l,0≤x.n∧x.n < (c.l.length:Int))→Ck M (wkB n l c)∧(wkB n l c).l.length=c.l.length
 | [],c,C,_,_=> ⟨C,rfl⟩
 | x :: l,c,C,hp,h=>by have hx:=h x List.mem_cons_self;have e:=BX c x.n n;have:=ahL hM n0 n1 l (bump c x.n n) (Vh C hp hM hx.1 hx.2 n0 n1) (by omega) (fun y hy=>by rw [e]; exact h y (List.mem_cons_of_mem _ hy));rw [e] at this;exact this
theorem Yf {M:Int} {n o g:Int} (hM:M≤J6) (n0:0≤n) (n1:n≤M): ∀(l:List D) (i:Nat) (c:D),Ck M c→0 < c.l.length→i+l.length≤c.l.length→Ck M (wkA o g n l i c)∧(wkA o g n l i c).l.length=c.l.length
 | [],i,c,C,_,_=> ⟨C,rfl⟩
 | x :: l,i,c,C,hp,h=>by
   simp only [List.length_cons] at h;unfold wkA;split
   ·have e:=BX c (i:Int) n;have:=Yf (o:=o) (g:=g) hM n0 n1 l (i+1) (bump c (i:Int) n) (Vh C hp hM (by omega) (by omega) n0 n1) (by omega) (by omega);rw [e] at this;exact this
   ·exact Yf hM n0 n1 l (i+1) c C hp (by omega)
theorem aAw {M:Int} {s s' k' c:D} {e2 e3 e4 n:Int} (W:awY s s' k' e2 e3 e4 c.l.length) (C:Ck M c) (hp:0 < c.l.length) (hM:M≤J6) (n0:0≤n) (n1:n≤M):Ck M (wkM s s' k' e2 e3 e4 c n)∧(wkM s s' k' e2 e3 e4 c n).l.length=c.l.length:=by
 unfold wkM;split
 ·rename_i h;split
  ·rename_i h';obtain⟨w0,w1⟩:=W.sig h h';exact⟨Vh C hp hM w0 w1 n0 n1,BX _ _ _⟩
  ·exact⟨C,rfl⟩
 ·split
  ·rename_i h;exact ahL hM n0 n1 _ c C hp (W.brd h).2.2.1
  ·split
   ·split
    ·exact Yf hM n0 n1 _ 0 c C hp (by have:=W.lk; omega)
    ·exact⟨C,rfl⟩
   ·exact⟨C,rfl⟩
theorem Lj (c:D) (t:Int):(tick c t).l.length=c.l.length:=by rw [aX,fP]
theorem Sh.at {B:Int} {c c':D} (h:Sh B c c') {t:Int} (t0:0≤t) (t1:t < (c.l.length:Int)):(c'.at t).n=(c.at t).n+B:=by obtain⟨i,rfl⟩ : ∃i:Nat,t=(i:Int):=⟨t.toNat,by omega⟩;exact h.at' i (by omega)
structure aFU (d0 d1 s k c c':D) (t:Int) (n:Nat) (B M M':Int) (s' k' cn cn':D) (e1 e2 e3 e4 e5 oc:Int):Prop where
 one:L 3100 [enc d0,enc d1,enc s,enc k,enc c,t]=some [enc s',enc k',enc cn,e1,e2,e3,e4,e5,oc,0]
 two:L 3100 [enc d0,enc d1,enc s,enc k,enc c',t]=some [enc s',enc k',enc cn',e1,e2,e3,e4,e5,oc,0]
 sh:Sh B cn cn'
 ck:Ck (M+1) cn
 ck':Ck (M'+1) cn'
 sx:Sx s' k' (n+1)
section
variable {d0 d1 s k:D} {n:Nat} (S:Sx s k n) (hn:n < 17592186043904) (h0:Wd (.sl 3) d0) (h1:Wd (.sl 4) d1)
include S hn h0 h1
end
end Go.As.Try
end
section
namespace Go.As.Try
open Go hiding Stat Spec shape
open Go.As
set_option maxRecDepth 100000
structure One (d0 d1 s k:D) (t:Int) (s' k':D) (e1 e2 e3 e4 e5 oc:Int) (x y:KT):Prop where
 hk:k.at t=x.d
 hk':k'=xK k t y
 how:(oc=0∧s'=s∧e1=0∧e2=0∧e3=0∧e4=0∧e5=0∧y= { x with tr:=y.tr }∧L 1700 [enc d0,enc d1,enc s,enc k,t]=some [0])∨
  (oc=4∧s'=s∧e1=0∧e2=0∧e3=0∧e4=0∧e5=0∧y=x∧L 1700 [enc d0,enc d1,enc s,enc k,t]=some [1])∨
  (oc=1∧s'=s∧e1=0∧e2=0∧e3=0∧e4=0∧e5=0∧L 1700 [enc d0,enc d1,enc s,enc k,t]=some [0])∨
  ((oc=2∨oc=3)∧e2≠0∧L 1700 [enc d0,enc d1,enc s,enc k,t]=some [0])
section
variable {d0 d1 s k:D} {n:Nat} (S:Sx s k n) (hn:n < 17592186043904) (h0:Wd (.sl 3) d0) (h1:Wd (.sl 4) d1)
include S hn h0 h1
end
section
variable {d0 d1 s k:D} {n:Nat} (S:Sx s k n) (hn:n < 17592186043900) (h0:Wd (.sl 3) d0) (h1:Wd (.sl 4) d1)
include S hn h0 h1
theorem aDc {t:Int} {x:KT} (R:Rs d0 d1 s k t x):MR d0 d1 s k:=by
 obtain⟨ys,hL,b,rfl,hb⟩:=MB (k:=k) h0 h1 (S.g.few (by omega)).rows h1.len t;rw [R.yes] at hL;simp only [Option.some.injEq,List.cons.injEq,and_true] at hL;rcases hb with ⟨h,_⟩ | ⟨_,h⟩
 ·omega
 ·exact h.2.2
end
end Go.As.Try
end
section
namespace Go.As.Try
open Go hiding Stat Spec shape
open Go.As
set_option maxRecDepth 100000
theorem afW {d0 d1 s k c:D} (h0:Wd (.sl 3) d0) (h1:Wd (.sl 4) d1) (hc:Wd (.sl 0) c) (hB:L 1450 [enc d0,enc d1]=some [enc s,enc k,0]) (S:Sx s k 0):(KR d0 d1 s k c∧L 2800 [enc d0,enc d1,enc c]=some [enc s,enc k,enc c,0])∨L 2800 [enc d0,enc d1,enc c]=some [enc (.i 1),enc (.i 1),enc (.i 1),2]:=by
 obtain⟨ys,hK,b,rfl,hb⟩:=Iy (k:=k) h0 h1 (S.g.few (by omega)).rows hc.len;rcases hb with ⟨rfl,hN⟩ | ⟨rfl,hY⟩
 ·refine .inr ?_;rw [aT,adG];rcases bG hc with rfl | rfl | ⟨r1,r2⟩
  ·simp only [Fj,zz,hB,len1,len2,oK,iO,hK,aH]
  ·simp only [Fj,zz,hB,len1,len2,oK,iO,hK,aH]
  ·simp only [Fj,zz,hB,r1,r2,hK,aH]
 ·refine .inl ⟨hY,?_⟩;rw [aT,adG];rcases bG hc with rfl | rfl | ⟨r1,r2⟩
  ·simp only [Fj,zz,hB,len1,len2,oK,iO,hK,aH,aA]
  ·simp only [Fj,zz,hB,len1,len2,oK,iO,hK,aH,aA]
  ·simp only [Fj,zz,hB,r1,r2,hK,aH,aA]
theorem atY {d0 d1 s k c:D} {n:Nat} (S:Sx s k n) (hn:n < 17592186043904) (h0:Wd (.sl 3) d0) (h1:Wd (.sl 4) d1) (C:Ck J6 c) {t:Int} {s' k' c':D} {e1 e2 e3 e4 e5 oc er:Int} (H:Vr d0 d1 s k c t n s' k' c' e1 e2 e3 e4 e5 oc er):Sx s' k' (n+1)∧Ck J6 c'∧c'.l.length=c.l.length:=by
 cases H with
 | no h=>exact⟨S.mono (Nat.le_succ n),C,rfl⟩
 | over x K R ho=>exact⟨S.mono (Nat.le_succ n),C,rfl⟩
 | asl x K R ho ha=>exact⟨S.mono (Nat.le_succ n),C,rfl⟩
 | wait x K R ho ha hq ht=>exact⟨S.mono (Nat.le_succ n),C,rfl⟩
 | full x K R ho ha ht hm=>exact⟨S.mono (Nat.le_succ n),C,rfl⟩
 | go x K R ho ha hq hm s' k' e1 e2 e3 e4 e5 oc hL H W=>
   have t0:=R.r.t0;have tc:t < (c.l.length:Int):=by have:=K.1; have:=R.r.t1; omega
   have hc:=C.at t0 tc;have C1:Ck J6 (tick c t):=abK C (by omega) (Int.le_refl _) t (by omega) (by omega);have h2:=aAw (n:=(c.at t).n+1) (by rw [Lj]; exact W) C1 (by rw [Lj]; omega) (Int.le_refl _) (by omega) (by omega);exact⟨(VQ S hn h0 h1 H).1,h2.1,h2.2.trans (Lj c t)⟩
section
variable {d0 d1 d:D} (h0:Wd (.sl 3) d0) (h1:Wd (.sl 4) d1) (hn:0 < d1.l.length) (hd:d.l.length≤1000)
include h0 h1 hn hd
theorem Np (m:Nat): ∀(j i:Nat) (s k c:D) (l:List D),i+j=d.l.length→Sx s k i→Ck J6 c→c.l.length=m→l.length≤i→
 ∃(l2 s2 k2 c2:D) (er:Int),Sx s2 k2 1000∧Ck J6 c2∧c2.l.length=m∧l2.l.length≤1000∧
 (l= []→L 3151 [enc d,(d1.l.length:Int),(i:Int),enc d0,enc d1,enc s,enc k,enc c]=some [enc l2,enc s2,enc k2,enc c2,er])∧
 (l≠[]→L 3152 [enc d,enc (dL l),(d1.l.length:Int),(i:Int),enc d0,enc d1,enc s,enc k,enc c]=some [enc l2,enc s2,enc k2,enc c2,er])
 | 0,i,s,k,c,l,hi,S,C,hm,hl=>by
   have c1: ¬(i:Int) < (d.l.length:Int):=by omega
   refine⟨if l= [] then .i 1 else dL l,s,k,c,0,S.mono (by omega),C,hm,?_,fun hz=>?_,fun hz=>?_⟩
   ·split
    ·simp [D.l]
    ·rw [aX]; omega
   ·rw [if_pos hz,aT,Xp];simp only [Fg,zz,c1,aH]
   ·rw [if_neg hz,aT,adE];simp only [Lp,zz,c1,aH]
 | j+1,i,s,k,c,l,hi,S,C,hm,hl=>by
   have hil:i < d.l.length:=by omega
   have c1:(i:Int) < (d.l.length:Int):=by omega
   have c2:(0:Int) < (d1.l.length:Int):=by omega
   have c3: ¬((i:Int) < 0):=by omega
   have w:=bC (n:=i) (by omega);have hb:=h1.len;have pk:=afD (x:=(d.at (i:Int)).n) c2 (by omega);have c7:(l.length:Int) < 3518437208882:=by omega
   obtain⟨s',k',cn,e1,e2,e3,e4,e5,oc,er,A,H⟩:=Wx S (by omega) h0 h1 C.wd (akS (d.at (i:Int)).n (d1.l.length:Int));obtain⟨S',C',hlc⟩:=atY S (by omega) h0 h1 C H;by_cases r0:er=0
   ·subst r0
    obtain⟨l2,s2,k2,cm,er,P1,P2,P3,P4,ih1,ih2⟩:=Np m j (i+1) s' k' cn (if oc=2∨oc=3 then l++ [evD e1 e2 e3 e4 e5] else l) (by omega) S' C' (hlc.trans hm)
     (by split
         ·rw [List.length_append]; exact Nat.succ_le_succ hl
         ·omega)
    refine⟨l2,s2,k2,cm,er,P1,P2,P3,P4,fun hz=>?_,fun hz=>?_⟩
    ·subst hz;rw [aT,Xp];by_cases o2:oc=2
     ·simp only [o2,true_or,if_true,List.nil_append,evD,iV,kY] at ih2;have j1:=ih2 (by simp);simp only [Fg,zz,dr,c1,c2,c3,pk,A,o2,w,aQ,yL,List.nil_append,iV,kY];exact j1
     ·by_cases o3:oc=3
      ·simp only [o3,or_true,if_true,List.nil_append,evD,iV,kY] at ih2;have j1:=ih2 (by simp);simp only [Fg,zz,dr,c1,c2,c3,pk,A,o3,w,aQ,yL,List.nil_append,iV,kY,aDp];exact j1
      ·simp only [o2,o3,or_self,if_false] at ih1;have j1:=ih1 trivial;simp only [Fg,zz,dr,c1,c2,c3,pk,A,o2,o3,w,aQ];exact j1
    ·rw [aT,adE];by_cases o2:oc=2
     ·simp only [o2,true_or,if_true,evD,iV,kY] at ih2;have j1:=ih2 (by simp);simp only [Lp,zz,dr,c1,c2,c3,c7,pk,A,o2,w,aQ,aX];exact j1
     ·by_cases o3:oc=3
      ·simp only [o3,or_true,if_true,evD,iV,kY] at ih2;have j1:=ih2 (by simp);simp only [Lp,zz,dr,c1,c2,c3,c7,pk,A,o3,w,aQ,aX,aDp];exact j1
      ·simp only [o2,o3,or_self,if_false] at ih2;have j1:=ih2 hz;simp only [Lp,zz,dr,c1,c2,c3,pk,A,o2,o3,w,aQ];exact j1
   ·refine⟨if l= [] then .i 1 else dL l,s,k,c,er,S.mono (by omega),C,hm,?_,fun hz=>?_,fun hz=>?_⟩
    ·split
     ·simp [D.l]
     ·rw [aX]; omega
    ·rw [if_pos hz,aT,Xp];simp only [Fg,zz,dr,c1,c2,c3,pk,A,if_neg r0,aH]
    ·rw [if_neg hz,aT,adE];simp only [Lp,zz,dr,c1,c2,c3,pk,A,if_neg r0,aH]
end
theorem afU {d0 d1 c d:D} (h0:Wd (.sl 3) d0) (h1:Wd (.sl 4) d1) (hc:Wd (.sl 0) c) (hd:d.l.length≤1000): ∃(l s k c':D) (er:Int),L 3150 [enc d0,enc d1,enc c,enc d]=some [enc l,enc s,enc k,enc c',er]∧(er=0→0 < d1.l.length→Sx s k 1000∧Ck J6 c'∧c'.l.length=d1.l.length):=by
 have nil: ∀z:Int,z≠0→L 2800 [enc d0,enc d1,enc c]=some [enc (.i 1),enc (.i 1),enc (.i 1),z]→∃(l s k c':D) (er:Int),L 3150 [enc d0,enc d1,enc c,enc d]=some [enc l,enc s,enc k,enc c',er]∧(er=0→0 < d1.l.length→Sx s k 1000∧Ck J6 c'∧c'.l.length=d1.l.length):=fun z hz q=>by refine⟨.i 1,.i 1,.i 1,.i 1,z,?_,fun h=>absurd h hz⟩;rw [aT,adF];simp only [VG,zz,q,if_neg hz,aH]
 rcases begins h0 h1 with ⟨s,k,hB,P⟩ | ⟨z,hz,hB⟩
 ·rcases afW h0 h1 hc hB P.sx with ⟨K,q⟩ | q
  ·by_cases hn:0 < d1.l.length
   ·have C:Ck J6 c:=⟨hc,fun u hu=> ⟨K.2.1 u hu,by have:=(ahM hc u).2; exact this⟩⟩;obtain⟨l2,s2,k2,c2,er,P1,P2,P3,_,g1,_⟩:=Np h0 h1 hn hd c.l.length d.l.length 0 s k c [] (by omega) P.sx C rfl (Nat.zero_le _);have j1:=g1 rfl;rw [Int.natCast_zero] at j1;refine⟨l2,s2,k2,c2,er,?_,fun _ _=> ⟨P1,P2,P3.trans K.1⟩⟩;rw [aT,adF];simp only [VG,zz,q,aQ];exact j1
   ·have z1: ¬(0:Int) < (d1.l.length:Int):=by omega
    refine⟨.i 1,s,k,c,0,?_,fun _ h=>absurd h hn⟩
    have go:L 3151 [enc d,(d1.l.length:Int),0,enc d0,enc d1,enc s,enc k,enc c]=some [enc (.i 1),enc s,enc k,enc c,0]:=by
     rw [aT,Xp];by_cases hz:(0:Int) < (d.l.length:Int)
     ·simp only [Fg,zz,hz,z1,aH]
     ·simp only [Fg,zz,if_neg hz,aH]
    rw [aT,adF];simp only [VG,zz,q,aQ];exact go
  ·exact nil 2 (by omega) q
 ·refine nil z hz ?_;rw [aT,adG];simp only [Fj,zz,hB,if_neg hz,aH]
theorem arA {d0 d1 c d:D} (h0:Wd (.sl 3) d0) (h1:Wd (.sl 4) d1) (hc:Wd (.sl 0) c) (m:Nat) (hm:m≤1000): ∃(s k c':D) (b:Int),L 3200 [enc d0,enc d1,enc c,enc d,(m:Int)]=some [enc s,enc k,enc c',b]∧(b=0∨b=1∧0 < d1.l.length∧Sx s k 1000∧Ck J6 c'∧c'.l.length=d1.l.length):=by
 have key: ∀p:D,p.l.length≤1000→(∀(s k c':D) (er:Int) (l:D),L 3150 [enc d0,enc d1,enc c,enc p]=some [enc l,enc s,enc k,enc c',er]→L 3200 [enc d0,enc d1,enc c,enc d,(m:Int)]=some [enc s,enc k,enc c',if er=0 then (if (0:Int) < (d1.l.length:Int) then 1 else 0) else 0])→∃(s k c':D) (b:Int),L 3200 [enc d0,enc d1,enc c,enc d,(m:Int)]=some [enc s,enc k,enc c',b]∧(b=0∨b=1∧0 < d1.l.length∧Sx s k 1000∧Ck J6 c'∧c'.l.length=d1.l.length):=fun p hp hL=>by
  obtain⟨l,s,k,c',er,q,hq⟩:=afU h0 h1 hc hp;refine⟨s,k,c',_,hL s k c' er l q,?_⟩;by_cases r0:er=0
  ·by_cases hn:(0:Int) < (d1.l.length:Int)
   ·rw [if_pos r0,if_pos hn];exact .inr ⟨rfl,by omega,hq r0 (by omega)⟩
   ·rw [if_pos r0,if_neg hn];exact .inl rfl
  ·rw [if_neg r0];exact .inl rfl
 by_cases hlt:(m:Int) < (d.l.length:Int)
 ·have c1: ¬(m:Int) < 0:=by omega
  refine key (gK d (d.l.take m)) (by rw [kT,List.length_take]; omega) fun s k c' er l q=>?_;rw [aT,aoI];by_cases r0:er=0
  ·by_cases hn:(0:Int) < (d1.l.length:Int)
   ·simp only [Ja,zz,hlt,c1,Int.toNat_natCast,q,r0,hn,aH,if_true]
   ·simp only [Ja,zz,hlt,c1,Int.toNat_natCast,q,r0,hn,aH,if_true,if_false]
  ·simp only [Ja,zz,hlt,c1,Int.toNat_natCast,q,r0,aH,if_false]
 ·refine key (gK d (d.l.take d.l.length)) (by rw [kT,List.length_take]; omega) fun s k c' er l q=>?_;rw [aT,aoI];by_cases r0:er=0
  ·by_cases hn:(0:Int) < (d1.l.length:Int)
   ·simp only [Ja,zz,hlt,Int.lt_irrefl,Int.toNat_natCast,q,r0,hn,aH,if_true]
   ·simp only [Ja,zz,hlt,Int.lt_irrefl,Int.toNat_natCast,q,r0,hn,aH,if_true,if_false]
  ·simp only [Ja,zz,hlt,Int.lt_irrefl,Int.toNat_natCast,q,r0,aH,if_false]
theorem ahS {cnt:Int→Int} {c:D} {t u:Int} (t0:0≤t) (t1:t < (c.l.length:Int)) (u0:0≤u) (u1:u < (c.l.length:Int)) (a:vS cnt c t) (b:vS cnt c u):t=u:=by
 obtain⟨i,rfl⟩ : ∃i:Nat,t=(i:Int):=⟨t.toNat,by omega⟩;obtain⟨j,rfl⟩ : ∃j:Nat,u=(j:Int):=⟨u.toNat,by omega⟩;refine Decidable.byContradiction fun hne=>?_;have h1:=fun h=>b.2 i (by omega) h;have h2:=fun h=>a.2 j (by omega) h;by_cases q:(c.at (i:Int)).n < (c.at (j:Int)).n∨(c.at (i:Int)).n=(c.at (j:Int)).n∧(i:Int) < (j:Int)
 ·exact a.1 (h1 q)
 ·exact b.1 (h2 (by omega))
theorem H8 (cnt:Int→Int) (c:D): ∀m:Nat,(∃u:Nat,u < m∧cnt (u:Int)≠0)→∃u:Nat,u < m∧cnt (u:Int)≠0∧∀v:Nat,v < m→((c.at (v:Int)).n < (c.at (u:Int)).n∨(c.at (v:Int)).n=(c.at (u:Int)).n∧(v:Int) < (u:Int))→cnt (v:Int)=0
 | 0,h=>by obtain⟨u,hu,_⟩:=h; omega
 | m+1,h=>by
   by_cases hm:cnt (m:Int)=0
   ·obtain⟨u,hu,hc⟩:=h
    have hum:u < m:=by
     rcases Nat.lt_or_ge u m with q | q
     ·exact q
     ·exact absurd (by rw [show u=m by omega] at hc; exact hm) (by rw [show u=m by omega] at hc; exact hc)
    obtain⟨v,hv,hcv,hall⟩:=H8 cnt c m ⟨u,hum,hc⟩;refine⟨v,by omega,hcv,fun w hw ha=>?_⟩;by_cases hwm:w=m
    ·subst hwm; exact hm
    ·exact hall w (by omega) ha
   ·by_cases he: ∃u:Nat,u < m∧cnt (u:Int)≠0
    ·obtain⟨v,hv,hcv,hall⟩:=H8 cnt c m he;by_cases hlt:(c.at (m:Int)).n < (c.at (v:Int)).n
     ·refine⟨m,by omega,hm,fun w hw ha=>?_⟩;by_cases hwm:w=m
      ·subst hwm; omega
      ·exact hall w (by omega) (by omega)
     ·refine⟨v,by omega,hcv,fun w hw ha=>?_⟩;by_cases hwm:w=m
      ·subst hwm; omega
      ·exact hall w (by omega) ha
    ·refine⟨m,by omega,hm,fun w hw ha=>?_⟩;by_cases hwm:w=m
     ·subst hwm; omega
     ·exact Decidable.byContradiction fun hc=>he ⟨w,by omega,hc⟩
section
variable {d0 d1 s k c:D} {n:Nat} (S:Sx s k n) (hn:n < 17592186043800) (h0:Wd (.sl 3) d0) (h1:Wd (.sl 4) d1)
include S hn h0 h1
theorem XD {t op obj arg tr:Int} {x:KT} (R:Rs d0 d1 s k t x) (ha:DW s t x≠0) (hq:mD d1 t x= [op,obj,arg,tr,1]) {s':D} {e1 e2 e3 e4 e5 oc:Int} (k1:iM .u8 op) (A:Tried d0 d1 s t op obj arg tr n s' e1 e2 e3 e4 e5 oc):oc=0:=by
 have hw:(x.w=24∧¬place ((s.at x.o).hd 4) t < 0)∨(x.w=25∧¬x.g < ((s.at x.o).hd 3).n):=by
  unfold DW at ha;by_cases w4:x.w=24
  ·rw [if_pos w4] at ha;exact .inl ⟨w4,fun h=>ha (if_pos h)⟩
  ·rw [if_neg w4] at ha;by_cases w5:x.w=25
   ·rw [if_pos w5] at ha;exact .inr ⟨w5,fun h=>ha (if_pos h)⟩
   ·rw [if_neg w5] at ha;exact absurd rfl ha
 have hnx:mD d1 t x= [x.w,x.o,x.g,0,1]:=by unfold mD;rw [if_neg (by omega)]
 rw [hnx] at hq;simp only [List.cons.injEq,and_true] at hq;obtain⟨rfl,rfl,rfl,rfl⟩:=hq;have hA:=A.eq;by_cases hAc:Acc d0 d1 s t x.w x.o
 ·obtain⟨_,o,c,dn,g,r,v,T,hL⟩:=Td (arg:=x.g) (tries:=0) h0 h1 S.g.wd (S.g.few (by omega)) k1 hAc
  have e:act (Mx d0 x.o) (Mo d0 s x.o) t x.w x.g 0 o c dn g r v= .blk:=by
   rw [T.is] at hw;simp only [zg,Option.getD_some,n_i] at hw;rcases hw with ⟨w4,hp⟩ | ⟨w5,hp⟩
   ·rw [w4]; simp [act,hp]
   ·rw [w5]; simp [act,hp]
  rw [hA,e] at hL;simp only [outA,Option.some.injEq,List.cons.injEq,and_true] at hL;omega
 ·have hL:=Yh (arg:=x.g) (tries:=0) h0 h1 S.g.wd (S.g.few (by omega)) k1 hAc;rw [hA] at hL;simp only [Option.some.injEq,List.cons.injEq,and_true] at hL;omega
theorem amU {t:Int} {s' k':D} {e1 e2 e3 e4 e5 oc:Int} (H:Hg d0 d1 s k t n s' k' e1 e2 e3 e4 e5 oc) (hg:oc=1∨¬(e1=0∧e2=0∧e3=0∧e4=0∧e5=0)):MR d0 d1 s k∧sQ d0 d1 s k t≠0:=by
 have fin': ∀x:KT,Rs d0 d1 s k t x→jJ d1 t x=0→DW s t x=0→MR d0 d1 s k∧sQ d0 d1 s k t≠0:=fun x R ho ha=>by have M:=aDc S (by omega) h0 h1 R;refine⟨M,?_⟩;unfold sQ;rw [IW S (by omega) R (FK h0 h1 S.g (by omega) M.1).2.2];show awO d1 s t x≠0;unfold awO;rw [if_neg (by omega),if_pos ha];omega
 cases H with
 | no h=>exfalso; omega
 | over x R ho=>exfalso; omega
 | loc x R ho ha=> refine fin' x R ho ?_;have hl:=(Y6 R.r ho ha).w;unfold DW;rw [if_neg (by omega),if_neg (by omega)]
 | tri x R ho op obj arg tr hq k1 k2 k3 hti s' e1 e2 e3 e4 e5 oc A T=>
   by_cases ha:DW s t x=0
   ·exact fin' x R ho ha
   ·have o0:=XD S hn h0 h1 R ha hq k1 A;obtain⟨_,q⟩:=A.no o0;exfalso;omega
theorem ahT (hc:Wd (.sl 0) c) {t:Int} (t0:0≤t) (t1:t < (d1.l.length:Int)): ∃b:Int,L 3000 [enc d0,enc d1,enc s,enc k,enc c,t]=some [b]∧(b=0∨b=1)∧(b=1↔KR d0 d1 s k c∧vS (sQ d0 d1 s k) c t):=by
 have c1: ¬t < 0:=by omega
 obtain⟨ys,hK,b,rfl,hb⟩:=Iy (k:=k) h0 h1 (S.g.few (by omega)).rows hc.len;rcases hb with ⟨rfl,hN⟩ | ⟨rfl,K⟩
 ·refine⟨0,?_,.inl rfl,fun h=>by omega,fun h=>absurd h.1 hN⟩;rw [aT,aoP];simp only [VH,zz,c1,t1,hK,aH]
 ·obtain⟨hcl,hnn,M⟩:=K;have hle:=(FK h0 h1 S.g (by omega) M.1).2.2
  obtain⟨tb,hT,aBd,hTi⟩:=aaF (d0:=d0) (d1:=d1) (s:=s) (k:=k) (c:=c) (t:=t) (fun u u0 u1=>by
   obtain⟨y,Ry⟩:=M.thr S (by omega) h0 h1 u0 (by omega)
   exact⟨_,IW S (by omega) Ry hle⟩) t0 (by omega) hc.len
  refine⟨tb,?_,aBd,hTi.trans ⟨fun h=> ⟨⟨hcl,hnn,M⟩,h⟩,fun h=>h.2⟩⟩;rw [aT,aoP];rcases aBd with rfl | rfl
  ·simp only [VH,zz,c1,t1,hK,hT,aA,aH]
  ·simp only [VH,zz,c1,t1,hK,hT,aA,aH]
end
theorem aEK {x:Int} (h:x=0∨x=1):IntKind.i64.wrap (x+1)=x+1:=lZ (by omega) (by omega)
theorem wr1 {x:Int} {i n:Nat} (h0:0≤x) (h1:x≤(i:Int)) (h2:(i:Int) < (n:Int)) (h3:n≤140737488351232):IntKind.i64.wrap (x+1)=x+1:=lZ (by omega) (by omega)
section
variable {d0 d1 s k c:D} (S:Sx s k 1000) (h0:Wd (.sl 3) d0) (h1:Wd (.sl 4) d1) (C:Ck J6 c) (hl:c.l.length=d1.l.length)
include S h0 h1 C hl
theorem V9: ∀(j i:Nat) (x0 x1:Int),i+j=d1.l.length→
 (x0=0∧(∀t:Nat,t < i→¬(KR d0 d1 s k c∧vS (sQ d0 d1 s k) c (t:Int)))∨x0=1∧∃t:Nat,t < i∧KR d0 d1 s k c∧vS (sQ d0 d1 s k) c (t:Int))→
 (0≤x1∧x1≤(i:Int)∧(x1=0∨MR d0 d1 s k∧∃t:Nat,t < i∧sQ d0 d1 s k (t:Int)≠0))→
 L 3251 [x0,x1,(d1.l.length:Int),(i:Int),enc d0,enc d1,enc s,enc k,enc c]=some [1]
 | 0,i,x0,x1,hi,H0,H1=>by
   have c1: ¬(i:Int) < (d1.l.length:Int):=by omega
   have c2: ¬(1:Int) < x0:=by omega
   rw [aT,aoH];by_cases z:x1=0
   ·simp only [DY,zz,c1,c2,z,aH]
   ·have e:x0=1:=by
     rcases H0 with ⟨_,hno⟩ | ⟨h,_⟩
     ·obtain⟨M,t,ht,hc⟩:=H1.2.2.resolve_left z;obtain⟨u,hu,hcu,hall⟩:=H8 (sQ d0 d1 s k) c c.l.length ⟨t,by omega,hc⟩;exact absurd ⟨⟨hl,fun v hv=>(C.rng v hv).1,M⟩,hcu,fun v hv ha=>hall v hv ha⟩ (hno u (by omega))
     ·exact h
    simp only [DY,zz,c1,if_neg z,e,Int.lt_irrefl,aH]
 | j+1,i,x0,x1,hi,H0,H1=>by
   have c1:(i:Int) < (d1.l.length:Int):=by omega
   have hb:=h1.len;have w:=bC (n:=i) (by omega);have w0:IntKind.i64.wrap (x0+1)=x0+1:=aEK (H0.imp (fun h=>h.1) (fun h=>h.1));have w1:IntKind.i64.wrap (x1+1)=x1+1:=wr1 H1.1 H1.2.1 c1 hb;obtain⟨b,hT,aFj,hTi⟩:=ahT S (by omega) h0 h1 C.wd (by omega:(0:Int)≤(i:Int)) c1;obtain⟨s',k',e1,e2,e3,e4,e5,oc,hL,Hs⟩:=LW S (by omega) h0 h1 (i:Int);have hgo:=fun hg=>amU S (by omega) h0 h1 Hs hg;have ih:=fun y0 y1 q q'=>V9 j (i+1) y0 y1 (by omega) q q'
   have N0:b=0→(x0=0∧(∀t:Nat,t < i+1→¬(KR d0 d1 s k c∧vS (sQ d0 d1 s k) c (t:Int)))∨x0=1∧∃t:Nat,t < i+1∧KR d0 d1 s k c∧vS (sQ d0 d1 s k) c (t:Int)):=fun b0=>by
    rcases H0 with ⟨h,q⟩ | ⟨h,t,ht,q⟩
    ·refine .inl ⟨h,fun t ht hq=>?_⟩;by_cases hti:t=i
     ·subst hti; have:=hTi.2 hq; omega
     ·exact q t (by omega) hq
    ·exact .inr ⟨h,t,by omega,q⟩
   have N1:b≠0→(x0+1=0∧(∀t:Nat,t < i+1→¬(KR d0 d1 s k c∧vS (sQ d0 d1 s k) c (t:Int)))∨x0+1=1∧∃t:Nat,t < i+1∧KR d0 d1 s k c∧vS (sQ d0 d1 s k) c (t:Int)):=fun b0=>by
    have hy:=hTi.1 (aFj.resolve_left b0);rcases H0 with ⟨h,q⟩ | ⟨h,t,ht,q⟩
    ·exact .inr ⟨by omega,i,by omega,hy⟩
    ·have:=ahS (by omega) (by omega) (by omega) (by omega) q.2 hy.2;omega
   have G0:0≤x1∧x1≤((i+1:Nat):Int)∧(x1=0∨MR d0 d1 s k∧∃t:Nat,t < i+1∧sQ d0 d1 s k (t:Int)≠0):=by refine⟨H1.1,by omega,H1.2.2.imp id fun q=> ⟨q.1,?_⟩⟩;obtain⟨t,ht,hc⟩:=q.2;exact⟨t,by omega,hc⟩
   have G1:(oc=1∨¬(e1=0∧e2=0∧e3=0∧e4=0∧e5=0))→0≤x1+1∧x1+1≤((i+1:Nat):Int)∧(x1+1=0∨MR d0 d1 s k∧∃t:Nat,t < i+1∧sQ d0 d1 s k (t:Int)≠0):=fun hg=>
    ⟨by omega,by omega,.inr ⟨(hgo hg).1,i,by omega,(hgo hg).2⟩⟩
   rw [aT,aoH];by_cases b0:b=0
   ·by_cases o1:oc=1
    ·simp only [DY,zz,c1,hT,b0,hL,o1,w,w1,aQ];exact ih _ _ (N0 b0) (G1 (.inl o1))
    ·by_cases he:e1=0∧e2=0∧e3=0∧e4=0∧e5=0
     ·simp only [DY,zz,c1,hT,b0,hL,if_neg o1,yX,if_pos he,w,aQ];exact ih _ _ (N0 b0) G0
     ·simp only [DY,zz,c1,hT,b0,hL,if_neg o1,yX,if_neg he,w,w1,aQ];exact ih _ _ (N0 b0) (G1 (.inr he))
   ·by_cases o1:oc=1
    ·simp only [DY,zz,c1,hT,if_neg b0,hL,o1,w,w0,w1,aQ];exact ih _ _ (N1 b0) (G1 (.inl o1))
    ·by_cases he:e1=0∧e2=0∧e3=0∧e4=0∧e5=0
     ·simp only [DY,zz,c1,hT,if_neg b0,hL,if_neg o1,yX,if_pos he,w,w0,aQ];exact ih _ _ (N1 b0) G0
     ·simp only [DY,zz,c1,hT,if_neg b0,hL,if_neg o1,yX,if_neg he,w,w0,w1,aQ];exact ih _ _ (N1 b0) (G1 (.inr he))
end
theorem atS {d0 d1 c:D} (h0:Wd (.sl 3) d0) (h1:Wd (.sl 4) d1) (hc:Wd (.sl 0) c) (d:D):L 3250 [enc d0,enc d1,enc c,enc d]=some [1]:=by
 obtain⟨ys,hG,g,rfl,_⟩:=agB (d0:=d0) h1;rw [aT,azF];by_cases g0:g=0
 ·subst g0;by_cases aBk:(100:Int) < (c.l.length:Int)
  ·simp only [PD,zz,hG,aBk,aH]
  ·obtain⟨s,k,c',b,hB,hb⟩:=arA (d:=d) h0 h1 hc 150 (by omega);have e:((150:Nat):Int)=150:=rfl;rw [e] at hB;rcases hb with rfl | ⟨rfl,hn,S,C,hl⟩
   ·simp only [PD,zz,hG,aBk,hB,aH]
   ·have h:=V9 S h0 h1 C hl d1.l.length 0 0 0 (by omega) (.inl ⟨rfl,fun t ht=>by omega⟩) ⟨by omega,by omega,.inl rfl⟩;rw [Int.natCast_zero] at h;simp only [PD,zz,hG,aBk,hB,aA,aQ];exact h
 ·simp only [PD,zz,hG,if_neg g0,aH]
end Go.As.Try
end

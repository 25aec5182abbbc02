import Derived.Test.YtmmdeeeifpepjabGreatDoorAsZR3
set_option linter.unusedSectionVars false
set_option linter.unusedVariables false
set_option linter.unusedSimpArgs false
section
namespace Go.As.Try
open Go hiding Stat Spec shape
open Go.As
set_option maxRecDepth 100000
def OkI (d0:D) (nl nc:Nat) (dx op ob into to:Int) (na:Nat):Prop:=
 (dx=1∧0≤ob∧ob < (d0.l.length:Int)∧(into= -1∨0≤into∧into < (nl:Int))∧(op=16→0≤to∧to≤(nc:Int)))∨
 (dx=2∧0≤ob∧ob < (d0.l.length:Int))∨(dx=3∧0≤into∧into < (nl:Int)∧(na:Int)=1)∨(dx=4∧0≤to∧to≤(nc:Int)∧(na:Int)=1)∨
 (dx=5∧0≤to∧to≤(nc:Int))∨(dx=6∧0≤into∧into < (nl:Int))∨(dx=7∧0≤into∧into < (nl:Int)∧0≤to∧to≤(nc:Int))
def isI (p:Prop) (ys:List Int):Prop:= ∃c:Int,ys= [c]∧(c=0∨c=1)∧(c=1→p)
theorem aEo {p:Prop}:isI p [0]:=⟨0,rfl,.inl rfl,fun h=>absurd h (by omega)⟩
theorem aEn {p:Prop} (h:p):isI p [1]:=⟨1,rfl,.inr rfl,fun _=>h⟩
set_option maxHeartbeats 2000000 in
theorem avY (d0 d1 d3 d4 d:D) (x2 x5 x6 x7 x8 x9 x10:Int) (hd:d.l.length≤2513169434915):Tot 750 [enc d0,enc d1,x2,enc d3,enc d4,x5,x6,x7,x8,x9,x10,enc d] (isI (OkI d0 d3.l.length d4.l.length x5 x6 x7 x8 x9 d.l.length)):=by
 unfold OkI;obtain⟨ys,h0,b0,rfl,_,f0⟩:=Yg ((d0.at x7).hd 0).n x5 x6 x7 x8 x9 x10 0 d hd;obtain⟨ys,h1,b1,rfl,_,f1⟩:=Yg ((d0.at x7).hd 0).n x5 x6 x7 x8 x9 x10 1 d hd;refine Tot.of ?_;rw [aFl];simp only [aBs,zz,h0,h1]
 repeat' first | exact .out aEo | exact .out (aEn (by omega)) | refine .ite (fun _=>?_) (fun _=>?_)
def OkO (d0:D) (k n:Int):Prop:=1≤k∧k≤9∧(k=1∨k=2∨k=6∨k=7→n=0)∧(k=3∨k=8→1≤n∧n≤1048576)∧(k=5→1≤n∧n≤16)∧(k=4→0≤n∧n < (d0.l.length:Int)∧((d0.at n).hd 0).n=1)
def amQ (d0:D) (x:D):Prop:=OkO d0 (x.hd 0).n (x.hd 2).n
def aBV (d0:D) (k n:Int) (ys:List Int):Prop:= ∃b:Int,ys= [b]∧(b=0∨b=1)∧(b≠0→OkO d0 k n)
theorem agW (d0:D) (x1 x2 x3 x4 x5 x6:Int):Tot 700 [enc d0,x1,x2,x3,x4,x5,x6] (aBV d0 x2 x4):=by
 refine Tot.of ?_;rw [aFm];simp only [aBt,zz]
 repeat' first
  | exact .out ⟨0,rfl,.inl rfl,fun h=>absurd rfl h⟩
  | exact .out ⟨1,rfl,.inr rfl,fun _=> ⟨by omega,by omega,by omega,by omega,by omega,fun h4=>by first | omega | exact⟨by omega,by omega,by assumption⟩⟩⟩
  | refine .ite (fun _=>?_) (fun _=>?_)
def EY (d0 d1:D):Prop:=d0.l.length≤64∧d1.l.length≤16∧∀x∈d0.l,amQ d0 x
def aeE (d0 x:D):Prop:= ∀y∈(x.hd 2).l,OkI d0 (x.hd 1).l.length (x.hd 2).l.length (y.hd 0).n (y.hd 1).n (y.hd 2).n (y.hd 3).n (y.hd 4).n (y.hd 6).l.length
def Oe (d0 d1:D) (ys:List Int):Prop:= ∃b:Int,ys= [b]∧(b=0∨b=120)∧(b=0→EY d0 d1∧∀x∈d1.l,aeE d0 x)
theorem FW {d:D} (h:Wd (.sl 4) d) {i:Nat} (hi:i < d.l.length): ∃nm' lc cd,d.l[i]=dL [nm',lc,cd]∧Wd .str nm'∧Wd (.sl 2) lc∧Wd (.sl 5) cd:=by
 obtain⟨r,h1,hl,hc⟩:=h.elN (cs:=[.str,.sl 2,.sl 5]) rfl _ (List.getElem_mem hi)
 match r,hl with
 | [a,b,c],_=>exact⟨a,b,c,h1,hc 0 _ _ rfl rfl,hc 1 _ _ rfl rfl,hc 2 _ _ rfl rfl⟩
theorem ZU {d:D} (h:Wd (.sl 5) d) {i:Nat} (hi:i < d.l.length): ∃a b c e f g QC,d.l[i]=dL [.i a,.i b,.i c,.i e,.i f,.i g,QC]∧iI .u8 a∧iI .u8 b∧iI .i64 c∧iI .i64 e∧iI .i64 f∧iI .i64 g∧Wd (.sl 6) QC:=by
 obtain⟨r,h1,hl,hc⟩:=h.elN (cs:=[.int .u8,.int .u8,.int .i64,.int .i64,.int .i64,.int .i64,.sl 6]) rfl _ (List.getElem_mem hi)
 match r,hl with
 | [a,b,c,e,f,g,QC],_=> obtain⟨a,rfl,ha⟩:=(hc 0 _ _ rfl rfl).i;obtain⟨b,rfl,hb⟩:=(hc 1 _ _ rfl rfl).i;obtain⟨c,rfl,hc'⟩:=(hc 2 _ _ rfl rfl).i;obtain⟨e,rfl,he⟩:=(hc 3 _ _ rfl rfl).i;obtain⟨f,rfl,hf⟩:=(hc 4 _ _ rfl rfl).i;obtain⟨g,rfl,hg⟩:=(hc 5 _ _ rfl rfl).i;exact⟨a,b,c,e,f,g,QC,h1,ha,hb,hc',he,hf,hg,hc 6 _ _ rfl rfl⟩
section
variable {d0 d1:D} (h0:Wd (.sl 3) d0) (h1:Wd (.sl 4) d1)
include h1
theorem FT (hx: ∀x y:Int,x=y→True): ∀(j i:Nat),i+j=d1.l.length→Tot 453 [enc d1,(d1.l.length:Int),(i:Int),enc d0] (Oe d0 d1)
 | 0,i,hi=>by
   have c1: ¬(i:Int) < (d1.l.length:Int):=by omega
   refine Tot.of ?_;rw [aC1];simp only [auO,zz,c1];exact .out ⟨120,rfl,.inr rfl,fun h=>by omega⟩
 | j+1,i,hi=>by
   have hl:=h1.len;have c1:(i:Int) < (d1.l.length:Int):=by omega
   have c2: ¬((i:Int) < 0):=by omega
   have w:=aZ (n:=i) (by omega);refine Tot.of ?_;rw [aC1];simp only [auO,zz,c1,c2];refine .jump (Tot.of ?_);rw [aCZ];simp only [auM,zz,w];exact .ite (fun _=> .jump (FT hx j (i+1) (by omega))) fun _=> .jump (FT hx j (i+1) (by omega))
theorem Us (i:Nat) (hi:i < d1.l.length) (j:Nat) (hj:i+1+j=d1.l.length) (x0 x5 x6 x7:Int):Tot 455 [x0,enc d1,(d1.l.length:Int),(i:Int),enc d0,x5,x6,x7] (Oe d0 d1):=by have hl:=h1.len;have w:=aZ (n:=i) (by omega);refine Tot.of ?_;rw [aCZ];simp only [auM,zz,w];exact .ite (fun _=> .jump (FT h1 (fun _ _ _=>trivial) j (i+1) (by omega))) fun _=> .jump (FT h1 (fun _ _ _=>trivial) j (i+1) (by omega))
theorem WL (hg:EY d0 d1): ∀(j i:Nat),i+j=d1.l.length→(∀(n:Nat) (h:n < d1.l.length),n < i→aeE d0 d1.l[n])→Tot 454 [enc d1,(d1.l.length:Int),(i:Int),enc d0] (Oe d0 d1)
 | 0,i,hi,hp=>by
   have c1: ¬(i:Int) < (d1.l.length:Int):=by omega
   refine Tot.of ?_;rw [aC0];simp only [auN,zz,c1];refine .out ⟨0,rfl,.inl rfl,fun _=> ⟨hg,fun x hx=>?_⟩⟩;obtain⟨n,hn,rfl⟩:=List.getElem_of_mem hx;exact hp n hn (by omega)
 | j+1,i,hi,hp=>by
   have hl:=h1.len;have hil:i < d1.l.length:=by omega
   have c1:(i:Int) < (d1.l.length:Int):=by omega
   have c2: ¬((i:Int) < 0):=by omega
   have w:=aZ (n:=i) (by omega);obtain⟨nm',lc,cd,he,hn,hlc,hcd⟩:=FW h1 hil;have hcl:=hcd.len;have e1:(d1.l[i]).hd 1=lc:=by rw [he,iT]; rfl
   have e2:(d1.l[i]).hd 2=cd:=by rw [he,iT]; rfl
   have loop: ∀(m k:Nat),k+m=cd.l.length→(∀(n:Nat) (h:n < cd.l.length),n < k→OkI d0 lc.l.length cd.l.length ((cd.l[n]).hd 0).n ((cd.l[n]).hd 1).n ((cd.l[n]).hd 2).n ((cd.l[n]).hd 3).n ((cd.l[n]).hd 4).n ((cd.l[n]).hd 6).l.length)→Tot 456 [(k:Int),enc d1,(d1.l.length:Int),(i:Int),enc d0,enc nm',enc lc,enc cd] (Oe d0 d1):=by
    intro m
    induction m with
    | zero=>
      intro k hk hq;have c3: ¬(k:Int) < (cd.l.length:Int):=by omega
      have ih:=WL hg j (i+1) (by omega) fun n hn hni=>by
       by_cases hne:n=i
       ·subst hne;unfold aeE;rw [e1,e2];intro y hy;obtain⟨z,hz,rfl⟩:=List.getElem_of_mem hy;exact hq z hz (by omega)
       ·exact hp n hn (by omega)
      refine Tot.of ?_;rw [aCY];simp only [auL,zz,c3,w];exact .jump ih
    | succ m ihm=>
      intro k hk hq;have hkl:k < cd.l.length:=by omega
      have c3:(k:Int) < (cd.l.length:Int):=by omega
      have c4: ¬((k:Int) < 0):=by omega
      have w2:=aZ (n:=k) (by omega);obtain⟨a,b,c,e,f,g,QC,hin,_,_,_,_,_,_,has⟩:=ZU hcd hkl;have hroom:=has.room
      have hal:QC.l.length≤2513169434915:=by have:wG 6=56:=rfl;rw [this] at hroom;omega
      obtain⟨ys,hM,q,rfl,aGE,hqI⟩:=avY d0 d1 lc cd QC (enc nm') a b c e f g hal;obtain⟨ys,hX,r,rfl,_⟩:=ahS QC lc (enc nm') (enc cd) has;refine Tot.of ?_;rw [aCY];simp only [auL,zz,c3,c4,aX hkl,hin,zg,hM,hX,w2];refine .ite (fun _=> .jump (Us h1 i hil j (by omega) _ _ _ _)) fun hq0=> .ite (fun _=> .jump (ihm (k+1) (by omega) fun n hn hnk=>?_)) fun _=> .jump (Us h1 i hil j (by omega) _ _ _ _);by_cases hne:n=k
      ·subst hne;simp only [hin,zg];exact hqI (by omega)
      ·exact hq n hn (by omega)
   refine Tot.of ?_;rw [aC0];simp only [auN,zz,c1,c2,aX hil,he,zg];exact .ite (fun _=> .jump (Us h1 i hil j (by omega) _ _ _ _)) fun _=> .ite (fun _=> .jump (Us h1 i hil j (by omega) _ _ _ _)) fun _=> .jump (loop cd.l.length 0 (by omega) fun n hn h=>absurd h (by omega))
include h0
theorem Lm: ∀(j i:Nat),i+j=d0.l.length→Tot 451 [enc d0,(d0.l.length:Int),(i:Int),enc d1] (Oe d0 d1)
 | 0,i,hi=>by
   have c1: ¬(i:Int) < (d0.l.length:Int):=by omega
   refine Tot.of ?_;rw [aC3];simp only [auQ,zz,c1];exact .jump (FT h1 (fun _ _ _=>trivial) d1.l.length 0 (by omega))
 | j+1,i,hi=>by
   have hl:=h0.len;have c1:(i:Int) < (d0.l.length:Int):=by omega
   have c2: ¬((i:Int) < 0):=by omega
   have w:=aZ (n:=i) (by omega);refine Tot.of ?_;rw [aC3];simp only [auQ,zz,c1,c2,w];exact .jump (Lm j (i+1) (by omega))
theorem Xp (hs:d0.l.length≤64) (ht:d1.l.length≤16): ∀(j i:Nat),i+j=d0.l.length→(∀(k:Nat) (h:k < d0.l.length),k < i→amQ d0 d0.l[k])→Tot 452 [enc d0,(d0.l.length:Int),(i:Int),enc d1] (Oe d0 d1)
 | 0,i,hi,hp=>by
   have c1: ¬(i:Int) < (d0.l.length:Int):=by omega
   refine Tot.of ?_;rw [aC2];simp only [auP,zz,c1];refine .jump (WL h1 ⟨hs,ht,fun x hx=>?_⟩ d1.l.length 0 (by omega) fun n hn h=>absurd h (by omega));obtain⟨k,hk,rfl⟩:=List.getElem_of_mem hx;exact hp k hk (by omega)
 | j+1,i,hi,hp=>by
   have hil:i < d0.l.length:=by omega
   have c1:(i:Int) < (d0.l.length:Int):=by omega
   have c2: ¬((i:Int) < 0):=by omega
   have w:=aZ (n:=i) (by omega);obtain⟨ys,hO,b,rfl,_,hob⟩:=agW d0 (enc d1) ((d0.l[i]).hd 0).n (enc ((d0.l[i]).hd 1)) ((d0.l[i]).hd 2).n (enc ((d0.l[i]).hd 3)) ((d0.l[i]).hd 4).n;refine Tot.of ?_;rw [aC2];simp only [auP,zz,c1,c2,w,aX hil,hO];refine .ite (fun _=> .jump (Lm h0 h1 j (i+1) (by omega))) fun hb=> .jump (Xp hs ht j (i+1) (by omega) fun k hk hki=>?_);by_cases hke:k=i
   ·subst hke;exact hob hb
   ·exact hp k hk (by omega)
theorem Ec:Tot 450 [enc d0,enc d1] (Oe d0 d1):=by
 refine Tot.of ?_;rw [aFu];simp only [aBv,zz]
 exact .ite (fun _=> .jump (Lm h0 h1 d0.l.length 0 (by omega))) fun ha=> .ite (fun _=> .jump (Lm h0 h1 d0.l.length 0 (by omega))) fun hb=>
  .jump (Xp h0 h1 (by omega) (by omega) d0.l.length 0 (by omega) fun k hk hki=>by omega)
end
end Go.As.Try
end
section
namespace Go.As.Try
open Go hiding Stat Spec shape
open Go.As
set_option maxRecDepth 100000
def one (ys:List Int):Prop:= ∃k:Int,ys= [k]
theorem aDx {o:Int} (h:iI .u8 o):IntKind.i64.wrap o=o:=oQ (by have:=h.1; omega) (by have:=h.2; omega)
theorem anG (a b c d e:Int):Tot 650 [a,b,c,d,e] (fun ys=> ∃k l:Int,ys= [k,l]∧(l=0∨l=1)):=by
 refine Tot.of ?_;rw [aCV];simp only [auJ,zz]
 repeat' first | exact .out ⟨_,_,rfl,.inl rfl⟩ | exact .out ⟨_,_,rfl,.inr rfl⟩ | refine .ite (fun _=>?_) (fun _=>?_)
theorem Rf (r:D) (hl:r.l.length≤140737488351232) (x0 x4 x5 x6 x7 x8 x9 x10 x11 x12:Int) (v:D): ∀(j i:Nat) (x14:Int),i+j=r.l.length→
 Tot 501 [x0,enc r,(r.l.length:Int),(i:Int),x4,x5,x6,x7,x8,x9,x10,x11,x12,enc v,x14] Fh
 | 0,i,x14,hi=>by
   have c1: ¬(i:Int) < (r.l.length:Int):=by omega
   refine Tot.of ?_;rw [aqE];simp only [Y4,zz,c1]
   repeat' first | exact .out Ah | exact .out Ag | refine .ite (fun _=>?_) (fun _=>?_)
 | j+1,i,x14,hi=>by
   have c1:(i:Int) < (r.l.length:Int):=by omega
   have c2: ¬((i:Int) < 0):=by omega
   have w:=aZ (n:=i) (by omega);have ih:=fun x=>Rf r hl x0 x4 x5 x6 x7 x8 x9 x10 x11 x12 v j (i+1) x (by omega);refine Tot.of ?_;rw [aqE];simp only [Y4,zz,c1,c2,w]
   repeat' first | exact .out Ah | exact .out Ag | exact .jump (ih _) | refine .ite (fun _=>?_) (fun _=>?_)
theorem Zp (x0 x1 x2 x3 x4 x5 x6 x7 x8 x11:Int) (r v:D) (hl:r.l.length≤140737488351232):Tot 500 [x0,x1,x2,x3,x4,x5,x6,x7,x8,enc r,enc v,x11] Fh:=by
 obtain⟨ys,hM,a,b,rfl,hb⟩:=anG x0 x1 x2 x3 x4;have ih:=Rf r hl x11 x0 x1 x2 x3 x4 x5 x6 x7 x8 v r.l.length 0 (enc (.i 0)) (by omega);refine Tot.of ?_;rw [aCX];simp only [akK,zz,hM]
 repeat' first | exact .out Ah | exact .out Ag | exact .jump ih | refine .ite (fun _=>?_) (fun _=>?_)
end Go.As.Try
end
section
namespace Go.As.Try
open Go hiding Stat Spec shape
open Go.As
set_option maxRecDepth 100000
theorem set_self {d:D} (hd:d=dL d.l) {i:Nat} (hi:i < d.l.length):dL (eF d.l (i:Int) d.l[i])=d:=by rw [yC,List.set_getElem_self,← hd]
theorem UJ (a b c d e f x:D):eF [a,b,c,d,e,f] 4 x= [a,b,c,d,x,f]:=rfl
theorem UH (a b c d e f x:D):eF [a,b,c,d,e,f] 5 x= [a,b,c,d,e,x]:=rfl
theorem qJ: ¬(enc (.i 2)=enc (.i 1)):=fun h=>by have:=iD h; simp at this
theorem len1:(((D.i 1).l.length:Nat):Int)=0:=rfl
theorem len2:(((D.i 2).l.length:Nat):Int)=0:=rfl
theorem yN: ¬((0:Int) < 0):=by omega
theorem bZ {r:D} (h:Wd (.sl 0) r):r= .i 1∨r= .i 2∨((0:Int) < (r.l.length:Int)∧(r.l.length:Int) < 17592186044416):=by
 rcases h.sh with h1 | h1 | ⟨h1,h2⟩
 ·exact .inl h1
 ·exact .inr (.inl h1)
 ·have hr:=h.room;have h3:wG 0=8:=rfl;rw [h3] at hr;have:=List.length_pos_iff.2 h2;exact .inr (.inr ⟨by omega,by omega⟩)
structure Th (d:D):Prop where
 wd:Wd (.sl 7) d
 sh:d=dL d.l
 few:d.l.length≤1759218604390
theorem FV {d:D} (h:Wd (.sl 7) d) (hn:0 < d.l.length):Th d:=by
 refine⟨h,?_,?_⟩
 ·rcases h.sh with rfl | rfl | ⟨h1,_⟩
  ·simp [D.l] at hn
  ·simp [D.l] at hn
  ·exact h1
 ·have hr:=h.room;have h3:wG 7=80:=rfl;rw [h3] at hr;omega
theorem TM (d:D) (h:Th d): ∀(j i:Nat),i+j=d.l.length→L 551 [enc d,(d.l.length:Int),(i:Int)]=some [enc d]
 | 0,i,hi=>by
   have c1: ¬(i:Int) < (d.l.length:Int):=by omega
   rw [aQ,aCW];simp only [auK,zz,c1,fin]
 | j+1,i,hi=>by
   have hl:=h.few;have hil:i < d.l.length:=by omega
   have c1:(i:Int) < (d.l.length:Int):=by omega
   have c2: ¬((i:Int) < 0):=by omega
   have w:=aZ (n:=i) (by omega);have ih:=TM d h j (i+1) (by omega);obtain⟨o,c,dn,g,r,v,he,_,_,_,_,hr,hv⟩:=h.wd.thing _ (List.getElem_mem hil);have hs:=set_self h.sh hil;rw [he] at hs;rw [aQ,aCW];rcases bZ hr with rfl | rfl | ⟨r1,r2⟩ <;> rcases bZ hv with rfl | rfl | ⟨v1,v2⟩
   all_goals
    simp only [auK,zz,c1,c2,w,aX hil,he,iT,aT,List.getElem?_cons_zero,List.getElem?_cons_succ,UJ,UH,hs,len1,len2,yN,qJ]
    try simp only [r1,r2,zz]
    try simp only [v1,v2,zz]
    try simp only [fin]
    exact ih
theorem asP (d:D) (h:Wd (.sl 7) d):L 550 [enc d]=some [enc d]:=by
 rw [aQ,aFt];rcases h.sh with rfl | rfl | ⟨h1,h2⟩
 ·simp only [ajY,zz,len1,yN,fin];rw [aQ,aFs];rfl
 ·simp only [ajY,zz,len2,yN,qJ,fin];rw [aQ,aFr];rfl
 ·have hp:=List.length_pos_iff.2 h2;have ht:=FV h hp;have hl:=ht.few;have c1:(0:Int) < (d.l.length:Int):=by omega
  have c2:(d.l.length:Int) < 1759218604441:=by omega
  simp only [ajY,zz,c1,c2,fin];exact TM d ht d.l.length 0 (by omega)
theorem TR (d:D) (h:Th d) (gi:Nat) (x4 x5 x6 x7 x8 x9:Int): ∀(j i:Nat),gi < i→i+j=d.l.length→L 9004 [(gi:Int),enc d,(d.l.length:Int),(i:Int),x4,x5,x6,x7,x8,x9]=some [3,(gi:Int),enc d,x4,x5,x6,x7,x8,x9]
 | 0,i,hg,hi=>by
   have c1: ¬(i:Int) < (d.l.length:Int):=by omega
   have c0: ¬((i:Int)=(gi:Int)):=by omega
   rw [aQ,apX];simp only [acA,zz,c0,c1,fin]
 | j+1,i,hg,hi=>by
   have hl:=h.few;have hil:i < d.l.length:=by omega
   have c1:(i:Int) < (d.l.length:Int):=by omega
   have c2: ¬((i:Int) < 0):=by omega
   have c0: ¬((i:Int)=(gi:Int)):=by omega
   have w:=aZ (n:=i) (by omega);have ih:=TR d h gi x4 x5 x6 x7 x8 x9 j (i+1) (by omega) (by omega);obtain⟨o,c,dn,g,r,v,he,_,_,_,_,hr,hv⟩:=h.wd.thing _ (List.getElem_mem hil);have hs:=set_self h.sh hil;rw [he] at hs;rw [aQ,apX];rcases bZ hr with rfl | rfl | ⟨r1,r2⟩ <;> rcases bZ hv with rfl | rfl | ⟨v1,v2⟩
   all_goals
    simp only [acA,zz,c0,c1,c2,w,aX hil,he,iT,aT,List.getElem?_cons_zero,List.getElem?_cons_succ,UJ,UH,hs,len1,len2,yN,qJ]
    try simp only [r1,r2,zz]
    try simp only [v1,v2,zz]
    try simp only [fin]
    exact ih
theorem TQ (d:D) (h:Th d) (gi:Nat) (x4 x5 x6 x7 x8 x9:Int): ∀(j i:Nat),gi < i→i+j=d.l.length→L 9005 [(gi:Int),enc d,(d.l.length:Int),(i:Int),x4,x5,x6,x7,x8,x9]=some [4,(gi:Int),enc d,x4,x5,x6,x7,x8,x9]
 | 0,i,hg,hi=>by
   have c1: ¬(i:Int) < (d.l.length:Int):=by omega
   have c0: ¬((i:Int)=(gi:Int)):=by omega
   rw [aQ,apW];simp only [abZ,zz,c0,c1,fin]
 | j+1,i,hg,hi=>by
   have hl:=h.few;have hil:i < d.l.length:=by omega
   have c1:(i:Int) < (d.l.length:Int):=by omega
   have c2: ¬((i:Int) < 0):=by omega
   have c0: ¬((i:Int)=(gi:Int)):=by omega
   have w:=aZ (n:=i) (by omega);have ih:=TQ d h gi x4 x5 x6 x7 x8 x9 j (i+1) (by omega) (by omega);obtain⟨o,c,dn,g,r,v,he,_,_,_,_,hr,hv⟩:=h.wd.thing _ (List.getElem_mem hil);have hs:=set_self h.sh hil;rw [he] at hs;rw [aQ,apW];rcases bZ hr with rfl | rfl | ⟨r1,r2⟩ <;> rcases bZ hv with rfl | rfl | ⟨v1,v2⟩
   all_goals
    simp only [abZ,zz,c0,c1,c2,w,aX hil,he,iT,aT,List.getElem?_cons_zero,List.getElem?_cons_succ,UJ,UH,hs,len1,len2,yN,qJ]
    try simp only [r1,r2,zz]
    try simp only [v1,v2,zz]
    try simp only [fin]
    exact ih
theorem TP (d:D) (h:Th d) (gi:Nat) (x4 x5 x6 x7 x8 x9:Int): ∀(j i:Nat),gi < i→i+j=d.l.length→L 9006 [(gi:Int),enc d,(d.l.length:Int),(i:Int),x4,x5,x6,x7,x8,x9]=some [5,(gi:Int),enc d,x4,x5,x6,x7,x8,x9]
 | 0,i,hg,hi=>by
   have c1: ¬(i:Int) < (d.l.length:Int):=by omega
   have c0: ¬((i:Int)=(gi:Int)):=by omega
   rw [aQ,apV];simp only [abY,zz,c0,c1,fin]
 | j+1,i,hg,hi=>by
   have hl:=h.few;have hil:i < d.l.length:=by omega
   have c1:(i:Int) < (d.l.length:Int):=by omega
   have c2: ¬((i:Int) < 0):=by omega
   have c0: ¬((i:Int)=(gi:Int)):=by omega
   have w:=aZ (n:=i) (by omega);have ih:=TP d h gi x4 x5 x6 x7 x8 x9 j (i+1) (by omega) (by omega);obtain⟨o,c,dn,g,r,v,he,_,_,_,_,hr,hv⟩:=h.wd.thing _ (List.getElem_mem hil);have hs:=set_self h.sh hil;rw [he] at hs;rw [aQ,apV];rcases bZ hr with rfl | rfl | ⟨r1,r2⟩ <;> rcases bZ hv with rfl | rfl | ⟨v1,v2⟩
   all_goals
    simp only [abY,zz,c0,c1,c2,w,aX hil,he,iT,aT,List.getElem?_cons_zero,List.getElem?_cons_succ,UJ,UH,hs,len1,len2,yN,qJ]
    try simp only [r1,r2,zz]
    try simp only [v1,v2,zz]
    try simp only [fin]
    exact ih
theorem TN (d:D) (h:Th d) (gi:Nat) (x4 x5 x6 x7 x8 x9:Int): ∀(j i:Nat),gi < i→i+j=d.l.length→L 9007 [(gi:Int),enc d,(d.l.length:Int),(i:Int),x4,x5,x6,x7,x8,x9]=some [6,(gi:Int),enc d,x4,x5,x6,x7,x8,x9]
 | 0,i,hg,hi=>by
   have c1: ¬(i:Int) < (d.l.length:Int):=by omega
   have c0: ¬((i:Int)=(gi:Int)):=by omega
   rw [aQ,apU];simp only [abX,zz,c0,c1,fin]
 | j+1,i,hg,hi=>by
   have hl:=h.few;have hil:i < d.l.length:=by omega
   have c1:(i:Int) < (d.l.length:Int):=by omega
   have c2: ¬((i:Int) < 0):=by omega
   have c0: ¬((i:Int)=(gi:Int)):=by omega
   have w:=aZ (n:=i) (by omega);have ih:=TN d h gi x4 x5 x6 x7 x8 x9 j (i+1) (by omega) (by omega);obtain⟨o,c,dn,g,r,v,he,_,_,_,_,hr,hv⟩:=h.wd.thing _ (List.getElem_mem hil);have hs:=set_self h.sh hil;rw [he] at hs;rw [aQ,apU];rcases bZ hr with rfl | rfl | ⟨r1,r2⟩ <;> rcases bZ hv with rfl | rfl | ⟨v1,v2⟩
   all_goals
    simp only [abX,zz,c0,c1,c2,w,aX hil,he,iT,aT,List.getElem?_cons_zero,List.getElem?_cons_succ,UJ,UH,hs,len1,len2,yN,qJ]
    try simp only [r1,r2,zz]
    try simp only [v1,v2,zz]
    try simp only [fin]
    exact ih
def pG (r v:D):Int:=if 0 < r.l.length then (if 0 < v.l.length then 3 else 4) else (if 0 < v.l.length then 5 else 6)
theorem aA2 (d:D) (h:Th d) (gi:Nat) (hgi:gi < d.l.length) (o c dn g:Int) (r v:D) (he':d.l[gi]=dL [.i o,.i c,.i dn,.i g,r,v]): ∀(j i:Nat),i≤gi→i+j=gi→
 L 9001 [(gi:Int),enc d,(d.l.length:Int),(i:Int)]=some [pG r v,(gi:Int),enc d,o,c,dn,g,enc r,enc v]
 | 0,i,hg,hi=>by
   obtain rfl:i=gi:=by omega
   have hl:=h.few;have c1:(i:Int) < (d.l.length:Int):=by omega
   have c2: ¬((i:Int) < 0):=by omega
   have w:=aZ (n:=i) (by omega);obtain⟨o',c',BD,g',r',v',he,_,_,_,_,hr,hv⟩:=h.wd.thing _ (List.getElem_mem hgi);rw [he'] at he;have he:=Po he;simp only [List.cons.injEq,D.i.injEq,and_true] at he;obtain⟨rfl,rfl,rfl,rfl,rfl,rfl⟩:=he;have b4:=fun a b=>TR d h i o c dn g a b (d.l.length - (i+1)) (i+1) (by omega) (by omega);have b5:=fun a b=>TQ d h i o c dn g a b (d.l.length - (i+1)) (i+1) (by omega) (by omega);have b6:=fun a b=>TP d h i o c dn g a b (d.l.length - (i+1)) (i+1) (by omega) (by omega);have b7:=fun a b=>TN d h i o c dn g a b (d.l.length - (i+1)) (i+1) (by omega) (by omega);rw [aQ,Ye];rcases bZ hr with rfl | rfl | ⟨r1,r2⟩
   ·rcases bZ hv with rfl | rfl | ⟨v1,v2⟩
    ·simp only [vP,zz,c1,c2,w,aX hgi,he',iT,aT,List.getElem?_cons_zero,List.getElem?_cons_succ,len1,yN,fin,b7];rw [pG,if_neg (by simp [D.l]),if_neg (by simp [D.l])]
    ·simp only [vP,zz,c1,c2,w,aX hgi,he',iT,aT,List.getElem?_cons_zero,List.getElem?_cons_succ,len1,yN,len2,qJ,fin,b7];rw [pG,if_neg (by simp [D.l]),if_neg (by simp [D.l])]
    ·simp only [vP,zz,c1,c2,w,aX hgi,he',iT,aT,List.getElem?_cons_zero,List.getElem?_cons_succ,len1,yN,v1,v2,fin,b6];rw [pG,if_neg (by simp [D.l]),if_pos (by omega)]
   ·rcases bZ hv with rfl | rfl | ⟨v1,v2⟩
    ·simp only [vP,zz,c1,c2,w,aX hgi,he',iT,aT,List.getElem?_cons_zero,List.getElem?_cons_succ,len2,yN,qJ,len1,fin,b7];rw [pG,if_neg (by simp [D.l]),if_neg (by simp [D.l])]
    ·simp only [vP,zz,c1,c2,w,aX hgi,he',iT,aT,List.getElem?_cons_zero,List.getElem?_cons_succ,len2,yN,qJ,fin,b7];rw [pG,if_neg (by simp [D.l]),if_neg (by simp [D.l])]
    ·simp only [vP,zz,c1,c2,w,aX hgi,he',iT,aT,List.getElem?_cons_zero,List.getElem?_cons_succ,len2,yN,qJ,v1,v2,fin,b6];rw [pG,if_neg (by simp [D.l]),if_pos (by omega)]
   ·rcases bZ hv with rfl | rfl | ⟨v1,v2⟩
    ·simp only [vP,zz,c1,c2,w,aX hgi,he',iT,aT,List.getElem?_cons_zero,List.getElem?_cons_succ,r1,r2,len1,yN,fin,b5];rw [pG,if_pos (by omega),if_neg (by simp [D.l])]
    ·simp only [vP,zz,c1,c2,w,aX hgi,he',iT,aT,List.getElem?_cons_zero,List.getElem?_cons_succ,r1,r2,len2,yN,qJ,fin,b5];rw [pG,if_pos (by omega),if_neg (by simp [D.l])]
    ·simp only [vP,zz,c1,c2,w,aX hgi,he',iT,aT,List.getElem?_cons_zero,List.getElem?_cons_succ,r1,r2,v1,v2,fin,b4];rw [pG,if_pos (by omega),if_pos (by omega)]
 | j+1,i,hg,hi=>by
   have hl:=h.few;have hil:i < d.l.length:=by omega
   have c1:(i:Int) < (d.l.length:Int):=by omega
   have c2: ¬((i:Int) < 0):=by omega
   have c0: ¬((i:Int)=(gi:Int)):=by omega
   have w:=aZ (n:=i) (by omega);have ih:=aA2 d h gi hgi o c dn g r v he' j (i+1) (by omega) (by omega);clear he';obtain⟨o2,c2',dn2,g2,r2',v2',he,_,_,_,_,hr,hv⟩:=h.wd.thing _ (List.getElem_mem hil);have hs:=set_self h.sh hil;rw [he] at hs;rw [aQ,Ye];rcases bZ hr with rfl | rfl | ⟨r1,r2⟩ <;> rcases bZ hv with rfl | rfl | ⟨v1,v2⟩
   all_goals
    simp only [vP,zz,c0,c1,c2,w,aX hil,he,iT,aT,List.getElem?_cons_zero,List.getElem?_cons_succ,UJ,UH,hs,len1,len2,yN,qJ]
    try simp only [r1,r2,zz]
    try simp only [v1,v2,zz]
    try simp only [fin]
    exact ih
theorem aA1 (d:D) (h:Th d) (gi:Nat) (hgi:gi < d.l.length) (o c dn g:Int) (r v:D) (he':d.l[gi]=dL [.i o,.i c,.i dn,.i g,r,v]) :
 L 9000 [(gi:Int),enc d]=some [pG r v,(gi:Int),enc d,o,c,dn,g,enc r,enc v]:=by
 have hl:=h.few;have c1:(0:Int) < (d.l.length:Int):=by omega
 have c2:(d.l.length:Int) < 1759218604441:=by omega
 rw [aQ,apY];simp only [QS,zz,c1,c2,fin];exact aA2 d h gi hgi o c dn g r v he' gi 0 (by omega) (by omega)
theorem Px (d:D) (h:Th d) (x:Int) (hx:x < 0∨(d.l.length:Int)≤x): ∀(j i:Nat),i+j=d.l.length→L 9001 [x,enc d,(d.l.length:Int),(i:Int)]=some [0,x,enc d]
 | 0,i,hi=>by
   have c1: ¬(i:Int) < (d.l.length:Int):=by omega
   rw [aQ,Ye];by_cases c0:(i:Int)=x
   ·simp only [vP,zz,c0,fin];have c1: ¬x < (d.l.length:Int):=by omega
    simp only [if_neg c1]
   ·simp only [vP,zz,c0,c1,fin]
 | j+1,i,hi=>by
   have hl:=h.few;have hil:i < d.l.length:=by omega
   have c1:(i:Int) < (d.l.length:Int):=by omega
   have c2: ¬((i:Int) < 0):=by omega
   have c0: ¬((i:Int)=x):=by omega
   have w:=aZ (n:=i) (by omega);have ih:=Px d h x hx j (i+1) (by omega);obtain⟨o,c,dn,g,r,v,he,_,_,_,_,hr,hv⟩:=h.wd.thing _ (List.getElem_mem hil);have hs:=set_self h.sh hil;rw [he] at hs;rw [aQ,Ye];rcases bZ hr with rfl | rfl | ⟨r1,r2⟩ <;> rcases bZ hv with rfl | rfl | ⟨v1,v2⟩
   all_goals
    simp only [vP,zz,c0,c1,c2,w,aX hil,he,iT,aT,List.getElem?_cons_zero,List.getElem?_cons_succ,UJ,UH,hs,len1,len2,yN,qJ]
    try simp only [r1,r2,zz]
    try simp only [v1,v2,zz]
    try simp only [fin]
    exact ih
theorem copyN (d:D) (h:Wd (.sl 7) d) (x:Int) (hx:x < 0∨(d.l.length:Int)≤x):Tot 9000 [x,enc d] (fun ys=>ys= [0,x,enc d]∨(ys= [1,x]∧d= .i 1)∨(ys= [2,x]∧d= .i 2)):=by
 refine Tot.of ?_;rw [apY];rcases h.sh with rfl | rfl | ⟨h1,h2⟩
 ·simp only [QS,zz,len1,yN];refine .jump (Tot.of ?_);rw [aAi];simp only [ajS,zz];exact .ite (fun _=> .out (.inr (.inl rfl))) fun _=> .out (.inr (.inl rfl))
 ·simp only [QS,zz,len2,yN,qJ];refine .jump (Tot.of ?_);rw [aAh];simp only [ajR,zz];exact .ite (fun _=> .out (.inr (.inr rfl))) fun _=> .out (.inr (.inr rfl))
 ·have hp:=List.length_pos_iff.2 h2;have ht:=FV h hp;have hl:=ht.few;have c1:(0:Int) < (d.l.length:Int):=by omega
  have c2:(d.l.length:Int) < 1759218604441:=by omega
  simp only [QS,zz,c1,c2];exact .jump ⟨_,Px d ht x hx d.l.length 0 (by omega),.inl rfl⟩
end Go.As.Try
end
section
namespace Go.As.Try
open Go hiding Stat Spec shape
open Go.As
set_option maxRecDepth 100000
def auX (d x:D) (m:Nat):List Int:=[(d.hd 0).n,enc (d.hd 1),(d.hd 2).n,enc (d.hd 3),(d.hd 4).n,(x.hd 0).n,(x.hd 1).n,(if (x.hd 2).n=0 then 0 else 1),(x.hd 3).n,enc (x.hd 4),enc (x.hd 5),(m:Int)]
def Snd (d x:D) (m:Nat):Prop:=L 500 (auX d x m)=some [1]
theorem auW (d x:D) (m:Nat) (h:(x.hd 4).l.length≤140737488351232): ∃c,L 500 (auX d x m)=some [c]∧(c=0∨c=1):=by obtain⟨ys,h1,c,rfl,hc⟩:=Zp (d.hd 0).n (enc (d.hd 1)) (d.hd 2).n (enc (d.hd 3)) (d.hd 4).n (x.hd 0).n (x.hd 1).n (if (x.hd 2).n=0 then 0 else 1) (x.hd 3).n (m:Int) (x.hd 4) (x.hd 5) h;exact⟨c,h1,hc⟩
theorem aC:((1:Int)=0)=False:=by simp
def IJ (s:D):Prop:= ∀x∈s.l,(x.hd 4).l.length≤140737488351232
section
variable {d0 d1 s:D} (hr:IJ s) (hle:s.l.length=d0.l.length) (hlen:d0.l.length≤140737488351232)
include hr hle hlen
theorem Nu: ∀(j i:Nat),i+j=s.l.length→∃b:Int,L 351 [enc s,(s.l.length:Int),(i:Int),enc d0,enc d1]=some [b]∧(b=0∨b=1)∧
 (b=1↔∀(k:Nat) (hk:k < s.l.length),i≤k→Snd (d0.l[k]'(hle▸hk)) s.l[k] d1.l.length)
 | 0,i,hi=>by
   have c1: ¬(i:Int) < (s.l.length:Int):=by omega
   refine⟨1,?_,.inr rfl,fun _ k hk h=>absurd hk (by omega),fun _=>rfl⟩;rw [aQ,axT];simp only [Y5,zz,c1,fin]
 | j+1,i,hi=>by
   have hil:i < s.l.length:=by omega
   have hid:i < d0.l.length:=by omega
   have c1:(i:Int) < (s.l.length:Int):=by omega
   have c2: ¬((i:Int) < 0):=by omega
   have c3:(i:Int) < (d0.l.length:Int):=by omega
   have w:=aZ (n:=i) (by omega);obtain⟨c,hS,hc⟩:=auW d0.l[i] s.l[i] d1.l.length (hr _ (List.getElem_mem hil));obtain⟨b,hb1,hb2,ih⟩:=Nu j (i+1) (by omega);have hS':=hS;unfold auX at hS;by_cases hc0:c=0
   ·subst hc0;refine⟨0,?_,.inl rfl,fun h=>absurd h (by omega),fun h=>?_⟩
    ·rw [aQ,axT];by_cases hn:((s.l[i]).hd 2).n=0
     ·rw [if_pos hn] at hS;simp only [Y5,zz,c1,c2,c3,w,aX hil,aX hid,hn,hS,fin]
     ·rw [if_neg hn] at hS;simp only [Y5,zz,c1,c2,c3,w,aX hil,aX hid,hn,hS,fin]
    ·have:=h i hil (Nat.le_refl i);unfold Snd at this;rw [hS'] at this;simp at this
   ·have hc1:c=1:=by omega
    subst hc1;refine⟨b,?_,hb2,fun h k hk hik=>?_,fun h=>ih.2 fun k hk hik=>h k hk (by omega)⟩
    ·rw [aQ,axT];by_cases hn:((s.l[i]).hd 2).n=0
     ·rw [if_pos hn] at hS;simp only [Y5,zz,c1,c2,c3,w,aX hil,aX hid,hn,hS,fin,aC,hb1]
     ·rw [if_neg hn] at hS;simp only [Y5,zz,c1,c2,c3,w,aX hil,aX hid,hn,hS,fin,aC,hb1]
    ·by_cases hke:k=i
     ·subst hke;exact hS'
     ·exact ih.1 h k hk (by omega)
end
theorem pK {d0 d1 s:D} (h0:Wd (.sl 3) d0) (h1:Wd (.sl 4) d1) (hr:IJ s): ∃b:Int,L 350 [enc d0,enc d1,enc s]=some [b]∧(b=0∨b=1)∧
 (b=1↔L 450 [enc d0,enc d1]=some [0]∧∃hle:s.l.length=d0.l.length,∀(k:Nat) (hk:k < s.l.length),Snd (d0.l[k]'(hle▸hk)) s.l[k] d1.l.length):=by
 obtain⟨ys,hC,c,rfl,hc,hok⟩:=Ec h0 h1;by_cases hc0:c=0
 ·subst hc0;by_cases hl:s.l.length=d0.l.length
  ·have hlen:=h0.len;obtain⟨b,hb1,hb2,hb3⟩:=Nu (d1:=d1) hr hl hlen s.l.length 0 (by omega);refine⟨b,?_,hb2,fun h=> ⟨hC,hl,fun k hk=>hb3.1 h k hk (by omega)⟩,fun⟨_,_,h⟩=>hb3.2 fun k hk _=>h k hk⟩;have hl':(s.l.length:Int)=(d0.l.length:Int):=by omega
   rw [aQ,axU,akM,dS,if_pos,dS,if_pos,dS,if_pos,oJ]
   ·simp only [List.map,bK,iE,iU,aW,Nat.reduceLT,aN,aO,aG,fin];exact hb1
   ·simp only [iQ,oW,bK,gU,iM,iE,List.map,iU,aW,Nat.reduceLT,aN,aO,aG];exact hl'
   ·simp only [iQ,oW,bK,gU,iM,iE,List.map,iU,aW,Nat.reduceLT,aN,aO,aG];rw [hC];simp only [aN,aO,Option.isSome_some,Option.getD_some,if_true]
   ·simp only [iQ,oW,bK,gU,iM,iE,List.map,iU,aW,Nat.reduceLT,aN,aO,aG];rw [hC];simp only [aN,aO,Option.isSome_some,Option.getD_some,if_true]
  ·refine⟨0,?_,.inl rfl,fun h=>absurd h (by omega),fun⟨_,h,_⟩=>absurd h hl⟩;have hl': ¬(s.l.length:Int)=(d0.l.length:Int):=by omega
   rw [aQ,axU,akM,dS,if_pos,dS,if_pos,dS,if_neg]
   ·simp only [jQ,List.map,bK,fin]
   ·simp only [iQ,oW,bK,gU,iM,iE,List.map,iU,aW,Nat.reduceLT,aN,aO,aG];exact hl'
   ·simp only [iQ,oW,bK,gU,iM,iE,List.map,iU,aW,Nat.reduceLT,aN,aO,aG];rw [hC];simp only [aN,aO,Option.isSome_some,Option.getD_some,if_true]
   ·simp only [iQ,oW,bK,gU,iM,iE,List.map,iU,aW,Nat.reduceLT,aN,aO,aG];rw [hC];simp only [aN,aO,Option.isSome_some,Option.getD_some,if_true]
 ·refine⟨0,?_,.inl rfl,fun h=>absurd h (by omega),fun⟨h,_⟩=>?_⟩
  ·rw [aQ,axU,akM,dS,if_pos,dS,if_neg]
   ·simp only [jQ,List.map,bK,fin]
   ·simp only [iQ,oW,bK,gU,iM,iE,List.map,iU,aW,Nat.reduceLT,aN,aO,aG];rw [hC];simp only [aN,aO,Option.isSome_some,Option.getD_some,if_true];exact hc0
   ·simp only [iQ,oW,bK,gU,iM,iE,List.map,iU,aW,Nat.reduceLT,aN,aO,aG];rw [hC];simp only [aN,aO,Option.isSome_some,Option.getD_some,if_true]
  ·rw [hC] at h;simp at h;exact absurd h hc0
end Go.As.Try
end
section
namespace Go.As.Try
open Go hiding Stat Spec shape
open Go.As
set_option maxRecDepth 100000
def OkT (d0:D) (nl nc:Nat) (a:Int) (ll:Nat) (w o g t:Int):Prop:=
 0≤a∧a≤(nc:Int)∧(ll:Int)=(nl:Int)∧0≤t∧t≤4611686018427387904∧
  (w=0∧o=0∧g=0∨w=24∧0≤o∧o < (d0.l.length:Int)∧((d0.at o).hd 0).n=4∨w=25∧0≤o∧o < (d0.l.length:Int)∧((d0.at o).hd 0).n=5)
def isB (p:Prop) (ys:List Int):Prop:= ∃b:Int,ys= [b]∧(b=0∧¬p∨b=1∧p)
theorem GH {p:Prop} (h: ¬p):isB p [0]:=⟨0,rfl,.inl ⟨rfl,h⟩⟩
theorem aeC {p:Prop} (h:p):isB p [1]:=⟨1,rfl,.inr ⟨rfl,h⟩⟩
theorem auD (d0 d3 d4 d6:D) (x1 x2 x5 x7 x8 x9 x10:Int):Tot 1600 [enc d0,x1,x2,enc d3,enc d4,x5,enc d6,x7,x8,x9,x10] (isB (OkT d0 d3.l.length d4.l.length x5 d6.l.length x7 x8 x9 x10)):=by
 unfold OkT;refine Tot.of ?_;rw [aAM];simp only [akW,zz]
 repeat' first
  | exact .out (GH (by omega))
  | exact .out (aeC (by omega))
  | refine .ite (fun _=>?_) (fun _=>?_)
def OkK (d0 x k:D):Prop:=OkT d0 (x.hd 1).l.length (x.hd 2).l.length (k.hd 0).n (k.hd 1).l.length (k.hd 2).n (k.hd 3).n (k.hd 4).n (k.hd 5).n
section
variable {d0 d1 k:D} (hle:k.l.length=d1.l.length) (hlen:d1.l.length≤140737488351232)
include hle hlen
theorem JL: ∀(j i:Nat),i+j=k.l.length→Tot 1501 [enc k,(k.l.length:Int),(i:Int),enc d0,enc d1] (isB (∀(n:Nat) (hn:n < k.l.length),i≤n→OkK d0 (d1.l[n]'(hle▸hn)) k.l[n]))
 | 0,i,hi=>by
   have c1: ¬(i:Int) < (k.l.length:Int):=by omega
   refine Tot.of ?_;rw [aqV];simp only [acO,zz,c1];exact .out (aeC fun n hn h=>by omega)
 | j+1,i,hi=>by
   have hil:i < k.l.length:=by omega
   have hid:i < d1.l.length:=by omega
   have c1:(i:Int) < (k.l.length:Int):=by omega
   have c2: ¬((i:Int) < 0):=by omega
   have c3:(i:Int) < (d1.l.length:Int):=by omega
   have w:=aZ (n:=i) (by omega);obtain⟨ys,hT,b,rfl,hb⟩:=auD d0 ((d1.l[i]).hd 1) ((d1.l[i]).hd 2) ((k.l[i]).hd 1) (enc d1) (enc ((d1.l[i]).hd 0)) ((k.l[i]).hd 0).n ((k.l[i]).hd 2).n ((k.l[i]).hd 3).n ((k.l[i]).hd 4).n ((k.l[i]).hd 5).n;obtain⟨ys,ih,b',rfl,hb'⟩:=JL j (i+1) (by omega);refine Tot.of ?_;rw [aqV];simp only [acO,zz,c1,c2,c3,aX hil,aX hid,w,hT];refine .ite (fun h0=> .out (GH fun h=>?_)) (fun h0=> .jump ⟨_,ih,b',rfl,?_⟩)
   ·rcases hb with ⟨_,hb⟩ | ⟨hb,_⟩
    ·exact hb (h i hil (Nat.le_refl _))
    ·omega
   ·rcases hb with ⟨hb,_⟩ | ⟨_,hb⟩
    ·exact absurd hb h0
    ·rcases hb' with ⟨q,hb'⟩ | ⟨q,hb'⟩
     ·exact .inl ⟨q,fun h=>hb' fun n hn hni=>h n hn (by omega)⟩
     ·refine .inr ⟨q,fun n hn hni=>?_⟩;by_cases he:n=i
      ·subst he; exact hb
      ·exact hb' n hn (by omega)
end
def MR (d0 d1 s k:D):Prop:=L 350 [enc d0,enc d1,enc s]=some [1]∧∃hle:k.l.length=d1.l.length,∀(n:Nat) (hn:n < k.l.length),OkK d0 (d1.l[n]'(hle▸hn)) k.l[n]
theorem IX {d0 d1 s k:D} (h0:Wd (.sl 3) d0) (h1:Wd (.sl 4) d1) (hr:IJ s) (hlen:d1.l.length≤140737488351232):Tot 1500 [enc d0,enc d1,enc s,enc k] (isB (MR d0 d1 s k)):=by
 obtain⟨b,hb,hb1,_⟩:=pK h0 h1 hr;refine Tot.of ?_;rw [aAO];simp only [akY,zz,hb];refine .ite (fun h=> .out (GH fun q=>?_)) (fun h=> .ite (fun hl=>?_) (fun hl=> .out (GH fun q=>?_)))
 ·have:=q.1;rw [hb] at this;simp at this;omega
 ·have hle:k.l.length=d1.l.length:=by omega
  obtain⟨ys,hL,b',rfl,hb'⟩:=JL (d0:=d0) hle hlen k.l.length 0 (by omega);refine .jump ⟨_,hL,b',rfl,?_⟩;have hone:b=1:=by omega
  subst hone;rcases hb' with ⟨q,hb'⟩ | ⟨q,hb'⟩
  ·exact .inl ⟨q,fun h=>hb' fun n hn _=>h.2.2 n hn⟩
  ·exact .inr ⟨q,hb,hle,fun n hn=>hb' n hn (Nat.zero_le _)⟩
 ·have:=q.2.1;omega
theorem BP {d0 d1 s k:D} (h0:Wd (.sl 3) d0) (h1:Wd (.sl 4) d1) (hr:IJ s) (hlen:d1.l.length≤140737488351232) (t:Int):Tot 1550 [enc d0,enc d1,enc s,enc k,t] (isB (0≤t∧t < (d1.l.length:Int)∧MR d0 d1 s k)):=by
 obtain⟨ys,hM,b,rfl,hb⟩:=IX h0 h1 hr hlen (k:=k);refine Tot.of ?_;rw [aAN];simp only [akX,zz,hM];refine .ite (fun h=> .out (GH fun q=>by omega)) (fun h=> .ite (fun h2=> .ite (fun h3=> .out (GH fun q=>?_)) (fun h3=> .out (aeC ?_))) (fun h2=> .out (GH fun q=>by omega)))
 ·rcases hb with ⟨_,hb⟩ | ⟨hb,_⟩
  ·exact hb q.2.2
  ·omega
 ·rcases hb with ⟨hb,_⟩ | ⟨_,hb⟩
  ·exact absurd hb h3
  ·exact⟨by omega,h2,hb⟩
end Go.As.Try
end
section
namespace Go.As.Try
open Go hiding Stat Spec shape
open Go.As
set_option maxRecDepth 100000
def firstAt (t:Int):List D→Nat→Int
 | [],_=> -1
 | x :: l,i=>if x.n=t then (i:Int) else firstAt t l (i+1)
def place (r:D) (t:Int):Int:=firstAt t r.l 0
def wo (t:Int) (l:List D):List D:=l.filter fun x=>decide (x.n≠t)
theorem EG (t:Int): ∀(l:List D) (i:Nat),(firstAt t l i= -1∧∀x∈l,x.n≠t)∨∃(k:Nat) (h:k < l.length),firstAt t l i=((i+k:Nat):Int)∧(l[k]).n=t∧∀x∈l.take k,x.n≠t
 | [],_=> .inl ⟨rfl,fun x h=>absurd h (by simp)⟩
 | x :: l,i=>by
   unfold firstAt;by_cases hx:x.n=t
   ·rw [if_pos hx];exact .inr ⟨0,by simp,by simp,hx,by simp⟩
   ·rw [if_neg hx];rcases EG t l (i+1) with ⟨h1,h2⟩ | ⟨k,hk,h1,h2,h3⟩
    ·exact .inl ⟨h1,fun y hy=>by rcases List.mem_cons.1 hy with rfl | hy; exact hx; exact h2 y hy⟩
    ·refine .inr ⟨k+1,by simp; omega,by rw [h1]; congr 1; omega,by simpa using h2,fun y hy=>?_⟩;rw [List.take_succ_cons] at hy;rcases List.mem_cons.1 hy with rfl | hy
     ·exact hx
     ·exact h3 y hy
theorem sZ (r:D) (t:Int):(place r t= -1∧∀x∈r.l,x.n≠t)∨∃(k:Nat) (h:k < r.l.length),place r t=(k:Int)∧(r.l[k]).n=t∧∀x∈r.l.take k,x.n≠t:=by have:=EG t r.l 0;simp only [Nat.zero_add] at this;exact this
theorem iR (r:D) (t:Int): -1≤place r t∧place r t < (r.l.length:Int):=by rcases sZ r t with ⟨h,_⟩ | ⟨k,hk,h,_⟩ <;> rw [h] <;> omega
theorem KJ {t:Int} {l:List D} (h: ∀x∈l,x.n≠t):wo t l=l:=List.filter_eq_self.2 fun x hx=>by simpa using h x hx
theorem Aw {r:D} {t:Int} {i:Nat} (h:i < r.l.length):firstAt t (r.l.drop i) i=if (r.at (i:Int)).n=t then (i:Int) else firstAt t (r.l.drop (i+1)) (i+1):=by rw [List.drop_eq_getElem_cons h,aX h];rfl
theorem aoC (r:D) (t:Int) (hl:r.l.length≤140737488351232): ∀(j i:Nat),i+j=r.l.length→L 851 [enc r,t,(r.l.length:Int),(i:Int)]=some [firstAt t (r.l.drop i) i]
 | 0,i,hi=>by
   have c1: ¬(i:Int) < (r.l.length:Int):=by omega
   rw [List.drop_of_length_le (by omega),aQ,aCU];simp only [ajT,zz,c1,fin,firstAt]
 | j+1,i,hi=>by
   have c1:(i:Int) < (r.l.length:Int):=by omega
   have c2: ¬((i:Int) < 0):=by omega
   have w:=aZ (n:=i) (by omega);have ih:=aoC r t hl j (i+1) (by omega);rw [Aw (by omega),aQ,aCU];by_cases he:(r.at (i:Int)).n=t
   ·simp only [ajT,zz,c1,c2,he,fin]
   ·have he': ¬t=(r.at (i:Int)).n:=fun h=>he h.symm;simp only [ajT,zz,c1,c2,if_neg he,if_neg he',w,fin,ih]
theorem dK (r:D) (t:Int) (hl:r.l.length≤140737488351232):L 850 [enc r,t]=some [place r t]:=by have h:=aoC r t hl r.l.length 0 (by omega);rw [aQ,aFj];simp only [aBq,zz,fin];exact h
theorem has_is (r:D) (t:Int) (hl:r.l.length≤140737488351232):L 900 [enc r,t]=some [if place r t < 0 then 0 else 1]:=by rw [aQ,aFi];simp only [aBp,zz,dK r t hl];split <;> rfl
theorem Gz (r:D) (t:Int) (hl:r.l.length≤140737488351232) (y2 y3 y4 y5 y6 y7 y8 y9 qO qN qM:Int): ∀(j i:Nat),i+j=r.l.length→
 L 12051 [enc r,t,y2,y3,y4,y5,y6,y7,y8,y9,qO,qN,qM,(r.l.length:Int),(i:Int)]=some [0,enc r,t,y2,y3,y4,y5,y6,y7,y8,y9,qO,qN,qM,firstAt t (r.l.drop i) i]
 | 0,i,hi=>by
   have c1: ¬(i:Int) < (r.l.length:Int):=by omega
   rw [List.drop_of_length_le (by omega),aQ,aaX];simp only [MN,zz,c1,fin,firstAt]
 | j+1,i,hi=>by
   have c1:(i:Int) < (r.l.length:Int):=by omega
   have c2: ¬((i:Int) < 0):=by omega
   have w:=aZ (n:=i) (by omega);have ih:=Gz r t hl y2 y3 y4 y5 y6 y7 y8 y9 qO qN qM j (i+1) (by omega);rw [Aw (by omega),aQ,aaX];by_cases he:(r.at (i:Int)).n=t
   ·simp only [MN,zz,c1,c2,he,fin]
   ·simp only [MN,zz,c1,c2,if_neg he,w,fin,ih]
theorem awC (r:D) (t:Int) (hl:r.l.length≤140737488351232) (y2 y3 y4 y5 y6 y7 y8 y9 qO qN qM:Int):L 12050 [enc r,t,y2,y3,y4,y5,y6,y7,y8,y9,qO,qN,qM]=some [0,enc r,t,y2,y3,y4,y5,y6,y7,y8,y9,qO,qN,qM,place r t]:=by have h:=Gz r t hl y2 y3 y4 y5 y6 y7 y8 y9 qO qN qM r.l.length 0 (by omega);rw [aQ,arX];simp only [Zl,zz,fin];exact h
theorem Gy (r:D) (t:Int) (hl:r.l.length≤140737488351232) (y2 y3 y4 y5 y6 y7 y8 y9 qO qN qM:Int): ∀(j i:Nat),i+j=r.l.length→
 L 12151 [enc r,t,y2,y3,y4,y5,y6,y7,y8,y9,qO,qN,qM,(r.l.length:Int),(i:Int)]=some [0,enc r,t,y2,y3,y4,y5,y6,y7,y8,y9,qO,qN,qM,firstAt t (r.l.drop i) i]
 | 0,i,hi=>by
   have c1: ¬(i:Int) < (r.l.length:Int):=by omega
   rw [List.drop_of_length_le (by omega),aQ,aaV];simp only [MK,zz,c1,fin,firstAt]
 | j+1,i,hi=>by
   have c1:(i:Int) < (r.l.length:Int):=by omega
   have c2: ¬((i:Int) < 0):=by omega
   have w:=aZ (n:=i) (by omega);have ih:=Gy r t hl y2 y3 y4 y5 y6 y7 y8 y9 qO qN qM j (i+1) (by omega);rw [Aw (by omega),aQ,aaV];by_cases he:(r.at (i:Int)).n=t
   ·simp only [MK,zz,c1,c2,he,fin]
   ·simp only [MK,zz,c1,c2,if_neg he,w,fin,ih]
theorem avZ (r:D) (t:Int) (hl:r.l.length≤140737488351232) (y2 y3 y4 y5 y6 y7 y8 y9 qO qN qM:Int):L 12150 [enc r,t,y2,y3,y4,y5,y6,y7,y8,y9,qO,qN,qM]=some [0,enc r,t,y2,y3,y4,y5,y6,y7,y8,y9,qO,qN,qM,place r t]:=by have h:=Gy r t hl y2 y3 y4 y5 y6 y7 y8 y9 qO qN qM r.l.length 0 (by omega);rw [aQ,arW];simp only [Zk,zz,fin];exact h
theorem Dq {t:Int} {l:List D} {j:Nat} (h:j < l.length):wo t (l.take (j+1))=if (l[j]).n=t then wo t (l.take j) else wo t (l.take j)++ [l[j]]:=by
 unfold wo;rw [List.take_succ_eq_append_getElem h,List.filter_append];by_cases he:(l[j]).n=t
 ·simp [he]
 ·simp [he]
theorem aiY (t:Int) (l:List D):(wo t l).length≤l.length:=List.length_filter_le _ _
theorem AQ (r0:D) (t:Int) (l0:List D) (hl:l0.length≤140737488351232) (hn: ∀x∈l0,x= .i x.n) (y2 y3 y4 y5 y6 y7 y8 y9 qO qN qM:Int): ∀(m i j:Nat) (r:D),r.l.length=l0.length→i < j→j+m=l0.length→r.l.drop j=l0.drop j→r.l.take i=wo t (l0.take j)→
 ∃(n:Nat) (r':D),n < l0.length∧r'.l.length=l0.length∧r'.l.take n=wo t l0∧L 12001 [enc r0,t,y2,y3,y4,y5,y6,y7,y8,y9,qO,qN,qM,enc r,(i:Int),(j:Int)]=some [1,enc r0,t,y2,y3,y4,y5,y6,y7,y8,y9,qO,qN,qM,(n:Int),enc r',(l0.length:Int)]
 | 0,i,j,r,hr,h1,h2,h3,h4=>by
   have c1: ¬(j:Int) < (l0.length:Int):=by omega
   have c2: ¬((i:Int) < 0):=by omega
   have c3: ¬((l0.length:Int) < (i:Int)):=by omega
   have c4: ¬((l0.length:Int) - (i:Int) < 0):=by omega
   have c5:(i:Int)+((l0.length:Int) - (i:Int))=(l0.length:Int):=by omega
   refine⟨i,dL (r.l.take i++List.replicate (r.l.length - i) (.i 0)),by omega,by rw [aT]; simp only [List.length_append,List.length_take,List.length_replicate]; omega,?_,?_⟩
   ·rw [aT,List.take_append_of_le_length (by rw [List.length_take]; omega),List.take_take,Nat.min_self,h4,List.take_of_length_le (by omega)]
   ·rw [aQ,VT];simp only [MO,zz,c1,c2,c3,c4,c5,Int.toNat_natCast,fin,hr]
 | m+1,i,j,r,hr,h1,h2,h3,h4=>by
   have c1:(j:Int) < (l0.length:Int):=by omega
   have c2: ¬((j:Int) < 0):=by omega
   have w:=aZ (n:=j) (by omega);have hj:j < r.l.length:=by omega
   have hj0:j < l0.length:=by omega
   have hx:r.at (j:Int)=l0[j]:=by rw [aX hj];rw [List.drop_eq_getElem_cons hj,List.drop_eq_getElem_cons hj0] at h3;exact (List.cons.inj h3).1
   have h3':r.l.drop (j+1)=l0.drop (j+1):=by rw [List.drop_eq_getElem_cons hj,List.drop_eq_getElem_cons hj0] at h3;exact (List.cons.inj h3).2
   by_cases he:(r.at (j:Int)).n=t
   ·obtain⟨n,r',q1,q2,q3,ih⟩:=AQ r0 t l0 hl hn y2 y3 y4 y5 y6 y7 y8 y9 qO qN qM m i (j+1) r hr (by omega) (by omega) h3' (by rw [Dq hj0,← hx,if_pos he,h4]);refine⟨n,r',q1,q2,q3,?_⟩;rw [aQ,VT];simp only [MO,zz,c1,c2,he,w,hr,fin,ih]
   ·have c3: ¬((i:Int) < 0):=by omega
    have c4:(i:Int) < (l0.length:Int):=by omega
    have w2:=aZ (n:=i) (by omega);have hs:eF r.l (i:Int) (.i (r.at (j:Int)).n)=r.l.set i l0[j]:=by rw [yC,hx,← hn _ (List.getElem_mem hj0)]
    obtain⟨n,r',q1,q2,q3,ih⟩:=AQ r0 t l0 hl hn y2 y3 y4 y5 y6 y7 y8 y9 qO qN qM m (i+1) (j+1) (dL (eF r.l (i:Int) (.i (r.at (j:Int)).n))) (by rw [aT,fJ,hr]) (by omega) (by omega)
     (by rw [aT,hs,List.drop_set_of_lt (by omega),h3'])
     (by rw [aT,hs,List.take_succ_eq_append_getElem (by rw [List.length_set]; omega),List.take_set_of_le (Nat.le_refl _),List.getElem_set_self,h4,Dq hj0,← hx,if_neg he])
    refine⟨n,r',q1,q2,q3,?_⟩;rw [aQ,VT];simp only [MO,zz,c1,c2,c3,c4,if_neg he,w,w2,hr,fin,ih]
theorem ayG (r:D) (t:Int) (hl:r.l.length≤140737488351232) (hn: ∀x∈r.l,x= .i x.n):(wo t r.l=r.l∧∀y2 y3 y4 y5 y6 y7 y8 y9 qO qN qM:Int,L 12000 [enc r,t,y2,y3,y4,y5,y6,y7,y8,y9,qO,qN,qM]=some [0,enc r,t,y2,y3,y4,y5,y6,y7,y8,y9,qO,qN,qM])∨
 ∀y2 y3 y4 y5 y6 y7 y8 y9 qO qN qM:Int,∃(n:Nat) (r':D),n < r.l.length∧r'.l.length=r.l.length∧r'.l.take n=wo t r.l∧L 12000 [enc r,t,y2,y3,y4,y5,y6,y7,y8,y9,qO,qN,qM]=some [1,enc r,t,y2,y3,y4,y5,y6,y7,y8,y9,qO,qN,qM,(n:Int),enc r',(r.l.length:Int)]:=by
 have h:=awC r t hl;rcases sZ r t with ⟨hp,hno⟩ | ⟨i,hi,hp,hat,hno⟩
 ·refine .inl ⟨KJ hno,fun y2 y3 y4 y5 y6 y7 y8 y9 qO qN qM=>?_⟩;have h':=h y2 y3 y4 y5 y6 y7 y8 y9 qO qN qM;clear h;rw [hp] at h';rw [aQ,aaY,UD,dS,if_pos,dS,if_pos,dS,if_pos]
  ·simp only [jQ,List.map,bK,aW,aN,aO,Nat.reduceLT,fin]
  ·simp only [Qm3,iQ,bK,gU,iM,List.map,aW,Nat.reduceLT,aN,aO];rw [h'];simp only [aN,aO,Option.isSome_some,Option.getD_some,if_true]
  ·simp only [iQ,bK,gU,iM,List.map,aW,Nat.reduceLT,aN,aO];rw [h'];simp only [aN,aO,Option.isSome_some,Option.getD_some,if_true]
  ·simp only [iQ,bK,gU,iM,List.map,aW,Nat.reduceLT,aN,aO];rw [h'];simp only [aN,aO,Option.isSome_some,Option.getD_some,if_true]
 ·refine .inr fun y2 y3 y4 y5 y6 y7 y8 y9 qO qN qM=>?_;have h':=h y2 y3 y4 y5 y6 y7 y8 y9 qO qN qM;clear h;rw [hp] at h';have w:=aZ (n:=i) (by omega);have h0:r.l.take i=wo t (r.l.take (i+1)):=by rw [Dq hi,if_pos hat,KJ hno]
  obtain⟨n,r',q1,q2,q3,ih⟩:=AQ r t r.l hl hn y2 y3 y4 y5 y6 y7 y8 y9 qO qN qM (r.l.length - (i+1)) i (i+1) r rfl (by omega) (by omega) rfl h0;refine⟨n,r',q1,q2,q3,?_⟩;rw [aQ,aaY,UD,dS,if_pos,dS,if_pos,dS,if_neg]
  ·simp only [oJ,List.map,Qm3,bK,gU,CY,den_add,aW,aN,aO,Nat.reduceLT];rw [h'];simp only [aN,aO,Option.getD_some,w,fin];rw [ih]
  ·simp only [Qm3,iQ,bK,gU,iM,List.map,aW,Nat.reduceLT,aN,aO];rw [h'];simp only [aN,aO,Option.isSome_some,Option.getD_some,if_true];omega
  ·simp only [iQ,bK,gU,iM,List.map,aW,Nat.reduceLT,aN,aO];rw [h'];simp only [aN,aO,Option.isSome_some,Option.getD_some,if_true]
  ·simp only [iQ,bK,gU,iM,List.map,aW,Nat.reduceLT,aN,aO];rw [h'];simp only [aN,aO,Option.isSome_some,Option.getD_some,if_true]
theorem AP (r0:D) (t:Int) (l0:List D) (hl:l0.length≤140737488351232) (hn: ∀x∈l0,x= .i x.n) (y2 y3 y4 y5 y6 y7 y8 y9 qO qN qM:Int): ∀(m i j:Nat) (r:D),r.l.length=l0.length→i < j→j+m=l0.length→r.l.drop j=l0.drop j→r.l.take i=wo t (l0.take j)→
 ∃(n:Nat) (r':D),n < l0.length∧r'.l.length=l0.length∧r'.l.take n=wo t l0∧L 12101 [enc r0,t,y2,y3,y4,y5,y6,y7,y8,y9,qO,qN,qM,enc r,(i:Int),(j:Int)]=some [1,enc r0,t,y2,y3,y4,y5,y6,y7,y8,y9,qO,qN,qM,(n:Int),enc r',(l0.length:Int)]
 | 0,i,j,r,hr,h1,h2,h3,h4=>by
   have c1: ¬(j:Int) < (l0.length:Int):=by omega
   have c2: ¬((i:Int) < 0):=by omega
   have c3: ¬((l0.length:Int) < (i:Int)):=by omega
   have c4: ¬((l0.length:Int) - (i:Int) < 0):=by omega
   have c5:(i:Int)+((l0.length:Int) - (i:Int))=(l0.length:Int):=by omega
   refine⟨i,dL (r.l.take i++List.replicate (r.l.length - i) (.i 0)),by omega,by rw [aT]; simp only [List.length_append,List.length_take,List.length_replicate]; omega,?_,?_⟩
   ·rw [aT,List.take_append_of_le_length (by rw [List.length_take]; omega),List.take_take,Nat.min_self,h4,List.take_of_length_le (by omega)]
   ·rw [aQ,VQ];simp only [ML,zz,c1,c2,c3,c4,c5,Int.toNat_natCast,fin,hr]
 | m+1,i,j,r,hr,h1,h2,h3,h4=>by
   have c1:(j:Int) < (l0.length:Int):=by omega
   have c2: ¬((j:Int) < 0):=by omega
   have w:=aZ (n:=j) (by omega);have hj:j < r.l.length:=by omega
   have hj0:j < l0.length:=by omega
   have hx:r.at (j:Int)=l0[j]:=by rw [aX hj];rw [List.drop_eq_getElem_cons hj,List.drop_eq_getElem_cons hj0] at h3;exact (List.cons.inj h3).1
   have h3':r.l.drop (j+1)=l0.drop (j+1):=by rw [List.drop_eq_getElem_cons hj,List.drop_eq_getElem_cons hj0] at h3;exact (List.cons.inj h3).2
   by_cases he:(r.at (j:Int)).n=t
   ·obtain⟨n,r',q1,q2,q3,ih⟩:=AP r0 t l0 hl hn y2 y3 y4 y5 y6 y7 y8 y9 qO qN qM m i (j+1) r hr (by omega) (by omega) h3' (by rw [Dq hj0,← hx,if_pos he,h4]);refine⟨n,r',q1,q2,q3,?_⟩;rw [aQ,VQ];simp only [ML,zz,c1,c2,he,w,hr,fin,ih]
   ·have c3: ¬((i:Int) < 0):=by omega
    have c4:(i:Int) < (l0.length:Int):=by omega
    have w2:=aZ (n:=i) (by omega);have hs:eF r.l (i:Int) (.i (r.at (j:Int)).n)=r.l.set i l0[j]:=by rw [yC,hx,← hn _ (List.getElem_mem hj0)]
    obtain⟨n,r',q1,q2,q3,ih⟩:=AP r0 t l0 hl hn y2 y3 y4 y5 y6 y7 y8 y9 qO qN qM m (i+1) (j+1) (dL (eF r.l (i:Int) (.i (r.at (j:Int)).n))) (by rw [aT,fJ,hr]) (by omega) (by omega)
     (by rw [aT,hs,List.drop_set_of_lt (by omega),h3'])
     (by rw [aT,hs,List.take_succ_eq_append_getElem (by rw [List.length_set]; omega),List.take_set_of_le (Nat.le_refl _),List.getElem_set_self,h4,Dq hj0,← hx,if_neg he])
    refine⟨n,r',q1,q2,q3,?_⟩;rw [aQ,VQ];simp only [ML,zz,c1,c2,c3,c4,if_neg he,w,w2,hr,fin,ih]
theorem ayF (r:D) (t:Int) (hl:r.l.length≤140737488351232) (hn: ∀x∈r.l,x= .i x.n):(wo t r.l=r.l∧∀y2 y3 y4 y5 y6 y7 y8 y9 qO qN qM:Int,L 12100 [enc r,t,y2,y3,y4,y5,y6,y7,y8,y9,qO,qN,qM]=some [0,enc r,t,y2,y3,y4,y5,y6,y7,y8,y9,qO,qN,qM])∨
 ∀y2 y3 y4 y5 y6 y7 y8 y9 qO qN qM:Int,∃(n:Nat) (r':D),n < r.l.length∧r'.l.length=r.l.length∧r'.l.take n=wo t r.l∧L 12100 [enc r,t,y2,y3,y4,y5,y6,y7,y8,y9,qO,qN,qM]=some [1,enc r,t,y2,y3,y4,y5,y6,y7,y8,y9,qO,qN,qM,(n:Int),enc r',(r.l.length:Int)]:=by
 have h:=avZ r t hl;rcases sZ r t with ⟨hp,hno⟩ | ⟨i,hi,hp,hat,hno⟩
 ·refine .inl ⟨KJ hno,fun y2 y3 y4 y5 y6 y7 y8 y9 qO qN qM=>?_⟩;have h':=h y2 y3 y4 y5 y6 y7 y8 y9 qO qN qM;clear h;rw [hp] at h';rw [aQ,aaW,UC,dS,if_pos,dS,if_pos,dS,if_pos]
  ·simp only [jQ,List.map,bK,aW,aN,aO,Nat.reduceLT,fin]
  ·simp only [Qnf,iQ,bK,gU,iM,List.map,aW,Nat.reduceLT,aN,aO];rw [h'];simp only [aN,aO,Option.isSome_some,Option.getD_some,if_true]
  ·simp only [iQ,bK,gU,iM,List.map,aW,Nat.reduceLT,aN,aO];rw [h'];simp only [aN,aO,Option.isSome_some,Option.getD_some,if_true]
  ·simp only [iQ,bK,gU,iM,List.map,aW,Nat.reduceLT,aN,aO];rw [h'];simp only [aN,aO,Option.isSome_some,Option.getD_some,if_true]
 ·refine .inr fun y2 y3 y4 y5 y6 y7 y8 y9 qO qN qM=>?_;have h':=h y2 y3 y4 y5 y6 y7 y8 y9 qO qN qM;clear h;rw [hp] at h';have w:=aZ (n:=i) (by omega);have h0:r.l.take i=wo t (r.l.take (i+1)):=by rw [Dq hi,if_pos hat,KJ hno]
  obtain⟨n,r',q1,q2,q3,ih⟩:=AP r t r.l hl hn y2 y3 y4 y5 y6 y7 y8 y9 qO qN qM (r.l.length - (i+1)) i (i+1) r rfl (by omega) (by omega) rfl h0;refine⟨n,r',q1,q2,q3,?_⟩;rw [aQ,aaW,UC,dS,if_pos,dS,if_pos,dS,if_neg]
  ·simp only [oJ,List.map,Qnf,bK,gU,CY,den_add,aW,aN,aO,Nat.reduceLT];rw [h'];simp only [aN,aO,Option.getD_some,w,fin];rw [ih]
  ·simp only [Qnf,iQ,bK,gU,iM,List.map,aW,Nat.reduceLT,aN,aO];rw [h'];simp only [aN,aO,Option.isSome_some,Option.getD_some,if_true];omega
  ·simp only [iQ,bK,gU,iM,List.map,aW,Nat.reduceLT,aN,aO];rw [h'];simp only [aN,aO,Option.isSome_some,Option.getD_some,if_true]
  ·simp only [iQ,bK,gU,iM,List.map,aW,Nat.reduceLT,aN,aO];rw [h'];simp only [aN,aO,Option.isSome_some,Option.getD_some,if_true]
theorem ayE (r:D) (t:Int): ∀y2 y3 y4 y5 y6 y7 y8 y9 qO qN qM:Int,L 12200 [enc r,t,y2,y3,y4,y5,y6,y7,y8,y9,qO,qN,qM]=some [0,enc r,t,y2,y3,y4,y5,y6,y7,y8,y9,qO,qN,qM]:=by
 intro y2 y3 y4 y5 y6 y7 y8 y9 qO qN qM
 have h:L 12250 [enc r,t,y2,y3,y4,y5,y6,y7,y8,y9,qO,qN,qM]=some [0,enc r,t,y2,y3,y4,y5,y6,y7,y8,y9,qO,qN,qM]:=by rw [aQ,arU];simp only [Zi,zz,fin];rw [aQ,arT];simp only [Zh,zz,fin]
 have h':=h;clear h;rw [aQ,arV,Zj,dS,if_pos,dS,if_pos]
 ·simp only [jQ,List.map,bK,aW,aN,aO,Nat.reduceLT,fin]
 ·simp only [iQ,bK,gU,iM,List.map,aW,Nat.reduceLT,aN,aO];rw [h'];simp only [aN,aO,Option.isSome_some,Option.getD_some,if_true]
 ·simp only [iQ,bK,gU,iM,List.map,aW,Nat.reduceLT,aN,aO];rw [h'];simp only [aN,aO,Option.isSome_some,Option.getD_some,if_true]
theorem ayD (r:D) (t:Int): ∀y2 y3 y4 y5 y6 y7 y8 y9 qO qN qM:Int,L 12300 [enc r,t,y2,y3,y4,y5,y6,y7,y8,y9,qO,qN,qM]=some [0,enc r,t,y2,y3,y4,y5,y6,y7,y8,y9,qO,qN,qM]:=by
 intro y2 y3 y4 y5 y6 y7 y8 y9 qO qN qM
 have h:L 12350 [enc r,t,y2,y3,y4,y5,y6,y7,y8,y9,qO,qN,qM]=some [0,enc r,t,y2,y3,y4,y5,y6,y7,y8,y9,qO,qN,qM]:=by rw [aQ,arR];simp only [Zf,zz,fin];rw [aQ,arQ];simp only [Ze,zz,fin]
 have h':=h;clear h;rw [aQ,arS,Zg,dS,if_pos,dS,if_pos]
 ·simp only [jQ,List.map,bK,aW,aN,aO,Nat.reduceLT,fin]
 ·simp only [iQ,bK,gU,iM,List.map,aW,Nat.reduceLT,aN,aO];rw [h'];simp only [aN,aO,Option.isSome_some,Option.getD_some,if_true]
 ·simp only [iQ,bK,gU,iM,List.map,aW,Nat.reduceLT,aN,aO];rw [h'];simp only [aN,aO,Option.isSome_some,Option.getD_some,if_true]
end Go.As.Try
end
section
namespace Go.As.Try
open Go hiding Stat Spec shape
open Go.As
set_option maxRecDepth 100000
abbrev Mx (d0:D) (obj:Int):Int:=((d0.at obj).hd 2).n
abbrev Mo (d0 s:D) (obj:Int):Int:=((s.at ((d0.at obj).hd 2).n).hd 0).n
inductive Act where
 | blk
 | mis
 | res (o c dn g:Int) (r v:D) (m:Option Int) (a oc:Int)
def act (M mo th op arg tries o c dn g:Int) (r v:D):Act:=
 if op=1 then (if o=th then .mis else if place r th < 0 then (if o < 0 then .res th c dn g r v none 0 2 else .blk) else .mis)
 else if op=2 then (if o=th then .res (-1) c dn g r v none 0 2 else .mis)
 else if op=8 then (if o=th then .res (-1) c dn g r v none 0 2 else .mis)
 else if op=3 then (if o < 0 then .res th c dn g r v none 1 2 else .res o c dn g r v none 0 2)
 else if op=4 then (if o < 0 then .res th c dn g r v none 1 2 else if tries < arg then .blk else .res o c dn g r v none 0 2)
 else if op=5 then (if o=th then .mis else if place r th < 0 then (if o < 0 then .res o c dn g (dL (r.l++ [.i th])) v none 0 2 else .blk) else .mis)
 else if op=6 then (if place r th < 0 then .mis else .res o c dn g (dN (.i 2) (r.l.take (place r th).toNat++r.l.drop ((place r th).toNat+1))) v none 0 2)
 else if op=7 then (if o=th then .mis else if place r th < 0 then (if (r.l.length:Int)=0 then (if o < 0 then .res th c dn g r v none 0 2 else .blk) else .blk) else .mis)
 else if op=9 then (if 0 < c then .res o (IntKind.i64.wrap (c - 1)) dn g r v none 0 2 else .blk)
 else if op=11 then (if 0 < c then .res o (IntKind.i64.wrap (c - 1)) dn g r v none 1 2 else .res o c dn g r v none 0 2)
 else if op=10 then (if c < M then .res o (IntKind.i64.wrap (c+1)) dn g r v none 0 2 else .mis)
 else if op=17 then (if arg < IntKind.i64.wrap (0 - c) then .mis else if IntKind.i64.wrap (1099511627776 - c) < arg then .mis else .res o (IntKind.i64.wrap (c+arg)) dn g r v none (IntKind.i64.wrap (c+arg)) 2)
 else if op=18 then (if 0 < c then .res o (IntKind.i64.wrap (c - 1)) dn g r v none (IntKind.i64.wrap (c - 1)) 2 else .mis)
 else if op=19 then (if c=0 then .res o c dn g r v none 0 2 else .blk)
 else if op=22 then .res o c dn g r v none c 2
 else if op=23 then .res o arg dn g r v none arg 2
 else if op=20 then (if (v.l.length:Int) < M then .res o c dn g r (dL (v.l++ [.i arg])) none arg 2 else .blk)
 else if op=21 then (if (v.l.length:Int)=0 then .blk else .res o c dn g r (dN v (v.l.drop 1)) none (v.at 0).n 2)
 else if op=12 then (if mo=th then .res o c dn g (dL (wo th r.l++ [.i th])) v (some (-1)) 0 3 else .mis)
 else if op=13 then (if (r.l.length:Int)=0 then .res o c dn g r v none 0 2 else .res o c dn g (dN r (r.l.drop 1)) v none (IntKind.i64.wrap ((r.at 0).n+1)) 2)
 else if op=14 then .res o c dn g (.i 1) v none (r.l.length:Int) 2
 else if op=24 then (if place r th < 0 then (if mo < 0 then .res o c dn g r v (some th) 0 2 else .blk) else .blk)
 else if op=15 then (if g < 4611686018427387904 then (if IntKind.i64.wrap (c+1)=M then .res o 0 dn (IntKind.i64.wrap (g+1)) r v none g 3 else .res o (IntKind.i64.wrap (c+1)) dn g r v none g 3) else .mis)
 else if op=25 then (if arg < g then .res o c dn g r v none arg 2 else .blk)
 else if op=16 then (if dn=0 then (if o=th then .mis else if o < 0 then .res th c dn g r v none 1 2 else .blk) else .res o c dn g r v none 0 2)
 else (if o=th then .res (-1) c 1 g r v none 0 2 else .mis)
def Bz (s:D) (obj M:Int):Act→D
 | .res o c dn g r v m _ _=>dL (eF (match m with | none=>s.l | some q=>eF s.l M (dL (eF (s.at M).l 0 (.i q)))) obj (dL [.i o,.i c,.i (if dn=0 then 0 else 1),.i g,r,v]))
 | _=>s
def outA (s:D) (th op obj M:Int):Act→List Int
 | .blk=>[enc s,0,0,0,0,0,0]
 | .mis=>[enc s,th,27,obj,IntKind.i64.wrap op,0,2]
 | .res o c dn g r v m a oc=>[enc (Bz s obj M (.res o c dn g r v m a oc)),th,op,obj,a,0,oc]
structure TH (d0 d1 s:D) (th op obj arg tries o c dn g:Int) (r v:D):Prop where
 hcp:L 9000 [obj,enc s]=some [pG r v,obj,enc s,o,c,dn,g,enc r,enc v]
 jC:L 550 [enc s]=some [enc s]
 hR:L 350 [enc d0,enc d1,enc s]=some [1]
 GR:0≤th
 GN:th < (d1.l.length:Int)
 CB:0≤obj
 Cm:obj < (s.l.length:Int)
 hlen:s.l.length=d0.l.length
 hk:L 600 [op]=some [((d0.at obj).hd 0).n]
 hr:(r.l.length:Int) < 17592186044415
 hv:(v.l.length:Int) < 17592186044415
 hn: ∀x∈r.l,x= .i x.n
 hM:op=12∨op=24→0≤((d0.at obj).hd 2).n∧((d0.at obj).hd 2).n < (s.l.length:Int)∧((d0.at obj).hd 2).n≠obj
theorem TH.hb {d0 d1 s:D} {th op obj arg tries o c dn g:Int} {r v:D} (H:TH d0 d1 s th op obj arg tries o c dn g r v):r.l.length≤140737488351232:=by have:=H.hr; omega
noncomputable abbrev dH (d0 d1 s:D) (th op obj arg tries:Int):Nat→Int:=bM L (low [enc d0,enc d1,enc s,th,op,obj,arg,tries])
abbrev bC (k:Nat):SE:=rr 9000 [.aP 5,.aP 2] k
abbrev ZG:SE:=nm (ce 2 (el (.aP 0) (.aP 5)))
abbrev kK:SE:=rr 850 [bC 7,.aP 3] 0
abbrev agA (q:SE):SE:=.op .set (bC 2) (cn (mk ZG) (.op .set (el (bC 2) ZG) (cn (.dat (.i 0)) q)))
abbrev xX:List SE:=[bC 7,.aP 3,.aP 5,ZG,agA (.dat (.i (-1))),.aP 4,.aP 6,.aP 7,bC 3,bC 4,bC 5,bC 6,bC 8]
abbrev thg (o c d g r v:SE):SE:=cn (mk (.aP 5)) (cn o (cn c (cn d (cn g (cn r (cn v (.dat (.i 0))))))))
abbrev xH:T Lf:=ou [rr 550 [.aP 2] 0,.aP 3,.lit 27,.aP 5,wr (.aP 4),.lit 0,.lit 2]
abbrev Ei:T Lf:=ou [rr 550 [.aP 2] 0,.lit 0,.lit 0,.lit 0,.lit 0,.lit 0,.lit 0]
abbrev lX (z o c d g r v a:SE) (oc:Int):T Lf:=ou [.op .set z (thg o c d g r v),.aP 3,.aP 4,.aP 5,a,.lit 0,.lit oc]
theorem DJ {r:D} (h:r.l= []) (t:Int):place r t= -1:=by unfold place; rw [h]; rfl
theorem aBk {r:D} (h:r.l= []) (t:Int):wo t r.l= []:=by rw [h]; rfl
theorem alt3 {r v:D} (h:0 < r.l.length) (h':0 < v.l.length):pG r v=3:=by simp [pG,h,h']
theorem aGn {r v:D} (h:0 < r.l.length) (h':v.l= []):pG r v=4:=by simp [pG,h,h']
theorem aGm {r v:D} (h:r.l= []) (h':0 < v.l.length):pG r v=5:=by simp [pG,h,h']
theorem aGl {r v:D} (h:r.l= []) (h':v.l= []):pG r v=6:=by simp [pG,h,h']
abbrev Gl (d0 s:D) (th op obj arg tries o c dn g:Int) (r v:D):RS:=.out (outA s th op obj (Mx d0 obj) (act (Mx d0 obj) (Mo d0 s obj) th op arg tries o c dn g r v))
theorem dG (s:D) (th op obj M:Int):outA s th op obj M .blk= [enc s,0,0,0,0,0,0]:=rfl
theorem dF (s:D) (th op obj M:Int):outA s th op obj M .mis= [enc s,th,27,obj,IntKind.i64.wrap op,0,2]:=rfl
theorem bQ (s:D) (th op obj M o c dn g:Int) (r v:D) (a oc:Int):outA s th op obj M (.res o c dn g r v none a oc)= [enc (dL (eF s.l obj (dL [.i o,.i c,.i (if dn=0 then 0 else 1),.i g,r,v]))),th,op,obj,a,0,oc]:=rfl
theorem bP (s:D) (th op obj M o c dn g:Int) (r v:D) (q a oc:Int):outA s th op obj M (.res o c dn g r v (some q) a oc)= [enc (dL (eF (eF s.l M (dL (eF (s.at M).l 0 (.i q)))) obj (dL [.i o,.i c,.i (if dn=0 then 0 else 1),.i g,r,v]))),th,op,obj,a,0,oc]:=rfl
section
variable {s:D} {th op obj M:Int}
theorem fC {c:Prop} [Decidable c] {a b:Act}:RS.out (outA s th op obj M (if c then a else b))=if c then RS.out (outA s th op obj M a) else RS.out (outA s th op obj M b):=by split <;> rfl
end
theorem BA {p:Prop} [Decidable p]:((if p then (0:Int) else 1)=0)=p:=by by_cases h:p <;> simp [h]
theorem kY (l:List D):l= []∨0 < l.length:=by cases l <;> simp
theorem z2 {ρ:Nat→Int} {a b c d:List SB} (h:zY ρ a∧zW ρ b) (h':zY ρ c∧zW ρ d):zY ρ (a++c)∧zW ρ (b++d):=⟨aiT h.1 h'.1,aiW h.2 h'.2⟩
end Go.As.Try
end
section
namespace Go.As.Try
open Go hiding Stat Spec shape
open Go.As
set_option maxRecDepth 100000
abbrev bt:SE:=.op .bit (mk (bC 5)) (.lit 0)
abbrev kW:SE:=wr (.add kK (.lit 1))
abbrev kL:SE:=.sub (ln (bC 7)) kW
abbrev kD:SE:=.add kK kL
abbrev kC:SE:=.op .cat (.op .cat (.op .take (bC 7) kK) (.op .drop (.op .take (bC 7) (.add kW kL)) kW)) (.op .drop (bC 7) kD)
abbrev kF:SE:=.op .fill kC (cn (mk kD) (.dat (.i 0)))
section
variable {d0 d1 s r v:D} {th op obj arg tries o c dn g:Int}
abbrev YG:List SB:=[.eq (a0 9000 [.aP 5,.aP 2]) (.lit 1),.eq (a0 350 [.aP 0,.aP 1,.aP 2]) (.lit 1),.eq (a0 600 [.aP 4]) (.lit 1),.eq (a0 550 [.aP 2]) (.lit 1),.eq (a0 900 [bC 7,.aP 3]) (.lit 1),.eq (a0 850 [bC 7,.aP 3]) (.lit 1),.lt (.aP 3) (ln (.aP 1)),.lt (.aP 5) (ln (.aP 0)),.lt (.aP 5) (ln (bC 2)),.eq (rr 600 [.aP 4] 0) (nm (ce 0 (el (.aP 0) (.aP 5)))),.lt (ln (bC 7)) (.lit 17592186044415),.lt (ln (bC 8)) (.lit 17592186044415)]
abbrev NG:List SB:=[.lt (.aP 5) (.lit 0),.eq (rr 350 [.aP 0,.aP 1,.aP 2] 0) (.lit 0),.lt (.aP 3) (.lit 0),.lt (ln (bC 7)) (ln (bC 7)),.lt (ln (bC 8)) (.add (.lit 1) (.sub (ln (bC 8)) (.lit 1))),.lt (ln (bC 7)) (.add (.lit 1) (.sub (ln (bC 7)) (.lit 1)))]
theorem fG (H:TH d0 d1 s th op obj arg tries o c dn g r v):zY (dH d0 d1 s th op obj arg tries) YG∧zW (dH d0 d1 s th op obj arg tries) NG:=by have hb:=H.hb;have h1:=H.GR; have h2:=H.GN; have h3:=H.CB; have h4:=H.Cm; have h5:=H.hlen; have h6:=H.hr; have h7:=H.hv; have hp:=iR r th;simp only [zz,H.hcp,H.jC,H.hR,H.hk,has_is r th hb,dK r th hb] <;> omega
abbrev YA3:List SB:=[.eq (bC 0) (.lit 3)]
abbrev NA3:List SB:=[.eq (bC 0) (.lit 0),.eq (bC 0) (.lit 1),.eq (bC 0) (.lit 2),.eq (bC 0) (.lit 4),.eq (bC 0) (.lit 5),.eq (bC 0) (.lit 6),.lt (.sub (ln (bC 7)) (.lit 1)) (.lit 0),.lt (.sub (ln (bC 8)) (.lit 1)) (.lit 0)]
theorem fA3 (H:TH d0 d1 s th op obj arg tries o c dn g r v) (hr:0 < r.l.length) (hv:0 < v.l.length):zY (dH d0 d1 s th op obj arg tries) YA3∧zW (dH d0 d1 s th op obj arg tries) NA3:=by have hb:=H.hb;have h1:=H.GR; have h2:=H.GN; have h3:=H.CB; have h4:=H.Cm; have h5:=H.hlen; have h6:=H.hr; have h7:=H.hv; have hp:=iR r th;simp only [zz,H.hcp,H.jC,H.hR,H.hk,has_is r th hb,dK r th hb,alt3 hr hv] <;> omega
abbrev YA4:List SB:=[.eq (bC 0) (.lit 4)]
abbrev NA4:List SB:=[.eq (bC 0) (.lit 0),.eq (bC 0) (.lit 1),.eq (bC 0) (.lit 2),.eq (bC 0) (.lit 3),.eq (bC 0) (.lit 5),.eq (bC 0) (.lit 6),.lt (.sub (ln (bC 7)) (.lit 1)) (.lit 0)]
theorem fA4 (H:TH d0 d1 s th op obj arg tries o c dn g r v) (hr:0 < r.l.length) (hv:v.l= []):zY (dH d0 d1 s th op obj arg tries) YA4∧zW (dH d0 d1 s th op obj arg tries) NA4:=by have hb:=H.hb;have h1:=H.GR; have h2:=H.GN; have h3:=H.CB; have h4:=H.Cm; have h5:=H.hlen; have h6:=H.hr; have h7:=H.hv; have hp:=iR r th;simp only [zz,H.hcp,H.jC,H.hR,H.hk,has_is r th hb,dK r th hb,aGn hr hv] <;> omega
abbrev YA5:List SB:=[.eq (bC 0) (.lit 5),.lt kK (.lit 0)]
abbrev NA5:List SB:=[.eq (bC 0) (.lit 0),.eq (bC 0) (.lit 1),.eq (bC 0) (.lit 2),.eq (bC 0) (.lit 3),.eq (bC 0) (.lit 4),.eq (bC 0) (.lit 6),.lt (.sub (ln (bC 8)) (.lit 1)) (.lit 0)]
theorem fA5 (H:TH d0 d1 s th op obj arg tries o c dn g r v) (hr:r.l= []) (hv:0 < v.l.length):zY (dH d0 d1 s th op obj arg tries) YA5∧zW (dH d0 d1 s th op obj arg tries) NA5:=by have hb:=H.hb;have h1:=H.GR; have h2:=H.GN; have h3:=H.CB; have h4:=H.Cm; have h5:=H.hlen; have h6:=H.hr; have h7:=H.hv; have hp:=iR r th;simp only [zz,H.hcp,H.jC,H.hR,H.hk,has_is r th hb,dK r th hb,aGm hr hv,DJ hr] <;> omega
abbrev YA6:List SB:=[.eq (bC 0) (.lit 6),.lt kK (.lit 0)]
abbrev NA6:List SB:=[.eq (bC 0) (.lit 0),.eq (bC 0) (.lit 1),.eq (bC 0) (.lit 2),.eq (bC 0) (.lit 3),.eq (bC 0) (.lit 4),.eq (bC 0) (.lit 5)]
theorem fA6 (H:TH d0 d1 s th op obj arg tries o c dn g r v) (hr:r.l= []) (hv:v.l= []):zY (dH d0 d1 s th op obj arg tries) YA6∧zW (dH d0 d1 s th op obj arg tries) NA6:=by have hb:=H.hb;have h1:=H.GR; have h2:=H.GN; have h3:=H.CB; have h4:=H.Cm; have h5:=H.hlen; have h6:=H.hr; have h7:=H.hv; have hp:=iR r th;simp only [zz,H.hcp,H.jC,H.hR,H.hk,has_is r th hb,dK r th hb,aGl hr hv,DJ hr] <;> omega
abbrev YM:List SB:=[.lt ZG (ln (bC 2))]
abbrev NM:List SB:=[.lt ZG (.lit 0),.eq ZG (.aP 5)]
theorem fM (H:TH d0 d1 s th op obj arg tries o c dn g r v) (ho:op=12∨op=24):zY (dH d0 d1 s th op obj arg tries) YM∧zW (dH d0 d1 s th op obj arg tries) NM:=by have hb:=H.hb;have h1:=H.GR; have h2:=H.GN; have h3:=H.CB; have h4:=H.Cm; have h5:=H.hlen; have h6:=H.hr; have h7:=H.hv; have hp:=iR r th; have hm:=H.hM ho;simp only [zz,H.hcp,H.jC,H.hR,H.hk,has_is r th hb,dK r th hb] <;> omega
abbrev YK0:List SB:=[.lt kK (.lit 0)]
abbrev NK0:List SB:=[]
theorem fK0 (H:TH d0 d1 s th op obj arg tries o c dn g r v) (hk:place r th < 0):zY (dH d0 d1 s th op obj arg tries) YK0∧zW (dH d0 d1 s th op obj arg tries) NK0:=by have hb:=H.hb;have h1:=H.GR; have h2:=H.GN; have h3:=H.CB; have h4:=H.Cm; have h5:=H.hlen; have h6:=H.hr; have h7:=H.hv; have hp:=iR r th;simp only [zz,H.hcp,H.jC,H.hR,H.hk,has_is r th hb,dK r th hb] <;> omega
abbrev YK1:List SB:=[.lt kD (ln (bC 7)),.eq (.add kD (.sub (ln (bC 7)) kD)) (ln kC)]
abbrev NK1:List SB:=[.lt kK (.lit 0),.lt kW kK,.lt (ln (bC 7)) kW,.eq kK kW,.lt (ln (bC 7)) kK,.lt kW (.lit 0),.lt kL (.lit 0),.lt (ln (bC 7)) (.add kW kL),.lt (ln (bC 7)) kD,.lt kD (.lit 0),.lt (ln kC) (ln (bC 7)),.lt (.sub (ln (bC 7)) kD) (.lit 0),.lt (ln kF) kD]
theorem fK1 (H:TH d0 d1 s th op obj arg tries o c dn g r v) (hk: ¬place r th < 0):zY (dH d0 d1 s th op obj arg tries) YK1∧zW (dH d0 d1 s th op obj arg tries) NK1:=by have hb:=H.hb;have h1:=H.GR; have h2:=H.GN; have h3:=H.CB; have h4:=H.Cm; have h5:=H.hlen; have h6:=H.hr; have h7:=H.hv; have hp:=iR r th; have hw:IntKind.i64.wrap (place r th+1)=place r th+1:=oQ (by omega) (by omega);simp only [zz,H.hcp,H.jC,H.hR,H.hk,has_is r th hb,dK r th hb,gJ,aT,List.length_append,List.length_take,List.length_drop,List.length_replicate,hw] <;> omega
abbrev dA (d0 s r v:D) (th op obj arg tries o c dn g:Int):List Int:=[enc r,th,obj,Mx d0 obj,enc (dL (eF s.l (Mx d0 obj) (dL (eF (s.at (Mx d0 obj)).l 0 (.i (-1)))))),op,arg,tries,o,c,dn,g,enc v]
abbrev aGs:List SB:=[.eq (a0 12000 xX) (.lit 1),.eq (rr 12000 xX 0) (.lit 0)]
abbrev aGz:List SB:=[]
theorem aGi (H:TH d0 d1 s th op obj arg tries o c dn g r v) (hd:L 12000 (dA d0 s r v th op obj arg tries o c dn g)=some (0 :: (dA d0 s r v th op obj arg tries o c dn g))):zY (dH d0 d1 s th op obj arg tries) aGs∧zW (dH d0 d1 s th op obj arg tries) aGz:=by have hb:=H.hb;have h1:=H.GR; have h2:=H.GN; have h3:=H.CB; have h4:=H.Cm; have h5:=H.hlen; have h6:=H.hr; have h7:=H.hv; have hp:=iR r th;simp only [zz,H.hcp,H.jC,H.hR,H.hk,has_is r th hb,dK r th hb,hd] <;> omega
abbrev aGt:List SB:=[.eq (a0 12000 xX) (.lit 1),.eq (rr 12000 xX 0) (.lit 1)]
abbrev aGA:List SB:=[.eq (rr 12000 xX 0) (.lit 0),.lt (rr 12000 xX 14) (.lit 0),.lt (ln (rr 12000 xX 15)) (.add (rr 12000 xX 14) (.lit 1)),.lt (.add (rr 12000 xX 14) (.lit 1)) (.lit 0),.lt (ln (.op .cat (.op .cat (.op .take (rr 12000 xX 15) (rr 12000 xX 14)) (.op .snoc (.dat (.i 0)) (mk (.aP 3)))) (.op .drop (rr 12000 xX 15) (.add (rr 12000 xX 14) (.lit 1))))) (.add (rr 12000 xX 14) (.lit 1))]
theorem aGj (H:TH d0 d1 s th op obj arg tries o c dn g r v) {n:Nat} {r1:D} (hn:n < r.l.length) (hl:r1.l.length=r.l.length) (hd:L 12000 (dA d0 s r v th op obj arg tries o c dn g)=some (1 :: ((dA d0 s r v th op obj arg tries o c dn g)++ [(n:Int),enc r1,(r.l.length:Int)]))):zY (dH d0 d1 s th op obj arg tries) aGt∧zW (dH d0 d1 s th op obj arg tries) aGA:=by have hb:=H.hb;have h1:=H.GR; have h2:=H.GN; have h3:=H.CB; have h4:=H.Cm; have h5:=H.hlen; have h6:=H.hr; have h7:=H.hv; have hp:=iR r th;simp only [zz,H.hcp,H.jC,H.hR,H.hk,has_is r th hb,dK r th hb,hd,gJ,aT,rQ,List.cons_append,List.nil_append,List.length_append,List.length_take,List.length_drop,List.length_cons,List.length_nil] <;> omega
abbrev aGq:List SB:=[.eq (a0 12100 xX) (.lit 1),.eq (rr 12100 xX 0) (.lit 0)]
abbrev aGx:List SB:=[]
theorem aGg (H:TH d0 d1 s th op obj arg tries o c dn g r v) (hd:L 12100 (dA d0 s r v th op obj arg tries o c dn g)=some (0 :: (dA d0 s r v th op obj arg tries o c dn g))):zY (dH d0 d1 s th op obj arg tries) aGq∧zW (dH d0 d1 s th op obj arg tries) aGx:=by have hb:=H.hb;have h1:=H.GR; have h2:=H.GN; have h3:=H.CB; have h4:=H.Cm; have h5:=H.hlen; have h6:=H.hr; have h7:=H.hv; have hp:=iR r th;simp only [zz,H.hcp,H.jC,H.hR,H.hk,has_is r th hb,dK r th hb,hd] <;> omega
abbrev aGr:List SB:=[.eq (a0 12100 xX) (.lit 1),.eq (rr 12100 xX 0) (.lit 1)]
abbrev aGy:List SB:=[.eq (rr 12100 xX 0) (.lit 0),.lt (rr 12100 xX 14) (.lit 0),.lt (ln (rr 12100 xX 15)) (.add (rr 12100 xX 14) (.lit 1)),.lt (.add (rr 12100 xX 14) (.lit 1)) (.lit 0),.lt (ln (.op .cat (.op .cat (.op .take (rr 12100 xX 15) (rr 12100 xX 14)) (.op .snoc (.dat (.i 0)) (mk (.aP 3)))) (.op .drop (rr 12100 xX 15) (.add (rr 12100 xX 14) (.lit 1))))) (.add (rr 12100 xX 14) (.lit 1))]
theorem aGh (H:TH d0 d1 s th op obj arg tries o c dn g r v) {n:Nat} {r1:D} (hn:n < r.l.length) (hl:r1.l.length=r.l.length) (hd:L 12100 (dA d0 s r v th op obj arg tries o c dn g)=some (1 :: ((dA d0 s r v th op obj arg tries o c dn g)++ [(n:Int),enc r1,(r.l.length:Int)]))):zY (dH d0 d1 s th op obj arg tries) aGr∧zW (dH d0 d1 s th op obj arg tries) aGy:=by have hb:=H.hb;have h1:=H.GR; have h2:=H.GN; have h3:=H.CB; have h4:=H.Cm; have h5:=H.hlen; have h6:=H.hr; have h7:=H.hv; have hp:=iR r th;simp only [zz,H.hcp,H.jC,H.hR,H.hk,has_is r th hb,dK r th hb,hd,gJ,aT,rQ,List.cons_append,List.nil_append,List.length_append,List.length_take,List.length_drop,List.length_cons,List.length_nil] <;> omega
abbrev aGp:List SB:=[.eq (a0 12200 xX) (.lit 1),.eq (rr 12200 xX 0) (.lit 0)]
abbrev aGw:List SB:=[]
theorem aGf (H:TH d0 d1 s th op obj arg tries o c dn g r v) (hd:L 12200 (dA d0 s r v th op obj arg tries o c dn g)=some (0 :: (dA d0 s r v th op obj arg tries o c dn g))):zY (dH d0 d1 s th op obj arg tries) aGp∧zW (dH d0 d1 s th op obj arg tries) aGw:=by have hb:=H.hb;have h1:=H.GR; have h2:=H.GN; have h3:=H.CB; have h4:=H.Cm; have h5:=H.hlen; have h6:=H.hr; have h7:=H.hv; have hp:=iR r th;simp only [zz,H.hcp,H.jC,H.hR,H.hk,has_is r th hb,dK r th hb,hd] <;> omega
abbrev aGo:List SB:=[.eq (a0 12300 xX) (.lit 1),.eq (rr 12300 xX 0) (.lit 0)]
abbrev aGv:List SB:=[]
theorem aGe (H:TH d0 d1 s th op obj arg tries o c dn g r v) (hd:L 12300 (dA d0 s r v th op obj arg tries o c dn g)=some (0 :: (dA d0 s r v th op obj arg tries o c dn g))):zY (dH d0 d1 s th op obj arg tries) aGo∧zW (dH d0 d1 s th op obj arg tries) aGv:=by have hb:=H.hb;have h1:=H.GR; have h2:=H.GN; have h3:=H.CB; have h4:=H.Cm; have h5:=H.hlen; have h6:=H.hr; have h7:=H.hv; have hp:=iR r th;simp only [zz,H.hcp,H.jC,H.hR,H.hk,has_is r th hb,dK r th hb,hd] <;> omega
end
end Go.As.Try
end
section
namespace Go.As.Try
open Go hiding Stat Spec shape
open Go.As
set_option maxRecDepth 100000
theorem Pm (l m:List D):dN (dL l) m=dN (.i 2) m:=by
 cases m with
 | cons a m=>rfl
 | nil=>cases l <;> rfl
theorem abQ (d:D) (h:0 < d.l.length):dN (dN d (d.l.take (1+((d.l.length:Int) - 1)).toNat)) ((dN d (d.l.take (1+((d.l.length:Int) - 1)).toNat)).l.drop (1:Int).toNat)=dN d (d.l.drop 1):=by rw [Fz (fun e=>by rw [e]; rfl),gJ,List.take_of_length_le (by omega)];rfl
theorem aC9 (l:List D) (k:Nat) (hk:k < l.length) (R B:List D):((l.take k++(l.take l.length).drop (k+1)++B).take (l.length - 1)++R).take (l.length - 1)=l.take k++l.drop (k+1)∨B.length=0:=by
 by_cases hB:B.length=0
 ·exact .inr hB
 ·left;have e:(l.take k++(l.take l.length).drop (k+1)).length=l.length - 1:=by simp only [List.length_append,List.length_take,List.length_drop]; omega
  rw [List.take_append_of_le_length (by rw [List.length_take,List.length_append,e]; omega),List.take_take,Nat.min_self,List.take_append_of_le_length (by omega),List.take_of_length_le (by omega),List.take_length]
section
variable {d0 d1 s r v:D} {th op obj arg tries o c dn g:Int}
abbrev zt0:T Lf:=(sp (.eq (bC 3) (.aP 3)) xH (sp (.eq (rr 900 [bC 7,.aP 3] 0) (.lit 0)) (sp (.lt (bC 3) (.lit 0)) (lX (bC 2) (mk (.aP 3)) (mk (bC 4)) bt (mk (bC 6)) (bC 7) (bC 8) (.lit 0) 2) Ei) xH))
theorem sm0 (H:TH d0 d1 s th 1 obj arg tries o c dn g r v):eG (dH d0 d1 s th 1 obj arg tries) zt0=Gl d0 s th 1 obj arg tries o c dn g r v:=by
 have hb:=H.hb;simp only [zz,H.hcp,H.jC,H.hR,H.hk,has_is r th hb,dK r th hb,aC,BA,fC,dG,dF,bQ,bP,dL,act,Int.reduceEq,Gl] <;> (repeat' split) <;> first | rfl | (exfalso; omega)
abbrev zt1:T Lf:=(sp (.eq (bC 3) (.aP 3)) (lX (bC 2) (.dat (.i (-1))) (mk (bC 4)) bt (mk (bC 6)) (bC 7) (bC 8) (.lit 0) 2) xH)
theorem sm1 (H:TH d0 d1 s th 2 obj arg tries o c dn g r v):eG (dH d0 d1 s th 2 obj arg tries) zt1=Gl d0 s th 2 obj arg tries o c dn g r v:=by
 have hb:=H.hb;simp only [zz,H.hcp,H.jC,H.hR,H.hk,has_is r th hb,dK r th hb,aC,BA,fC,dG,dF,bQ,bP,dL,act,Int.reduceEq,Gl] <;> (repeat' split) <;> first | rfl | (exfalso; omega)
theorem sm2 (H:TH d0 d1 s th 8 obj arg tries o c dn g r v):eG (dH d0 d1 s th 8 obj arg tries) zt1=Gl d0 s th 8 obj arg tries o c dn g r v:=by
 have hb:=H.hb;simp only [zz,H.hcp,H.jC,H.hR,H.hk,has_is r th hb,dK r th hb,aC,BA,fC,dG,dF,bQ,bP,dL,act,Int.reduceEq,Gl] <;> (repeat' split) <;> first | rfl | (exfalso; omega)
abbrev zt2:T Lf:=(sp (.lt (bC 3) (.lit 0)) (lX (bC 2) (mk (.aP 3)) (mk (bC 4)) bt (mk (bC 6)) (bC 7) (bC 8) (.lit 1) 2) (lX (bC 2) (mk (bC 3)) (mk (bC 4)) bt (mk (bC 6)) (bC 7) (bC 8) (.lit 0) 2))
theorem sm3 (H:TH d0 d1 s th 3 obj arg tries o c dn g r v):eG (dH d0 d1 s th 3 obj arg tries) zt2=Gl d0 s th 3 obj arg tries o c dn g r v:=by
 have hb:=H.hb;simp only [zz,H.hcp,H.jC,H.hR,H.hk,has_is r th hb,dK r th hb,aC,BA,fC,dG,dF,bQ,bP,dL,act,Int.reduceEq,Gl] <;> (repeat' split) <;> first | rfl | (exfalso; omega)
abbrev zt3:T Lf:=(sp (.lt (bC 3) (.lit 0)) (lX (bC 2) (mk (.aP 3)) (mk (bC 4)) bt (mk (bC 6)) (bC 7) (bC 8) (.lit 1) 2) (sp (.lt (.aP 7) (.aP 6)) Ei (lX (bC 2) (mk (bC 3)) (mk (bC 4)) bt (mk (bC 6)) (bC 7) (bC 8) (.lit 0) 2)))
theorem sm4 (H:TH d0 d1 s th 4 obj arg tries o c dn g r v):eG (dH d0 d1 s th 4 obj arg tries) zt3=Gl d0 s th 4 obj arg tries o c dn g r v:=by
 have hb:=H.hb;simp only [zz,H.hcp,H.jC,H.hR,H.hk,has_is r th hb,dK r th hb,aC,BA,fC,dG,dF,bQ,bP,dL,act,Int.reduceEq,Gl] <;> (repeat' split) <;> first | rfl | (exfalso; omega)
abbrev zt4:T Lf:=(sp (.eq (bC 3) (.aP 3)) xH (sp (.eq (rr 900 [bC 7,.aP 3] 0) (.lit 0)) (sp (.lt (bC 3) (.lit 0)) (lX (bC 2) (mk (bC 3)) (mk (bC 4)) bt (mk (bC 6)) (.op .snoc (bC 7) (mk (.aP 3))) (bC 8) (.lit 0) 2) Ei) xH))
theorem sm5 (H:TH d0 d1 s th 5 obj arg tries o c dn g r v) (hr:0 < r.l.length):eG (dH d0 d1 s th 5 obj arg tries) zt4=Gl d0 s th 5 obj arg tries o c dn g r v:=by
 have hb:=H.hb;simp only [zz,H.hcp,H.jC,H.hR,H.hk,has_is r th hb,dK r th hb,rQ,List.nil_append,aC,BA,fC,dG,dF,bQ,bP,dL,act,Int.reduceEq,Gl] <;> (repeat' split) <;> first | rfl | (exfalso; omega)
abbrev zt5:T Lf:=xH
theorem sm6 (H:TH d0 d1 s th 6 obj arg tries o c dn g r v) (hk:place r th < 0):eG (dH d0 d1 s th 6 obj arg tries) zt5=Gl d0 s th 6 obj arg tries o c dn g r v:=by
 have hb:=H.hb;simp only [zz,H.hcp,H.jC,H.hR,H.hk,has_is r th hb,dK r th hb,hk,aC,BA,fC,dG,dF,bQ,bP,dL,act,Int.reduceEq,Gl] <;> (repeat' split) <;> first | rfl | (exfalso; omega)
abbrev zt6:T Lf:=(lX (bC 2) (mk (bC 3)) (mk (bC 4)) bt (mk (bC 6)) (.op .take kF kD) (bC 8) (.lit 0) 2)
theorem sm7 (H:TH d0 d1 s th 6 obj arg tries o c dn g r v) (hr:0 < r.l.length) (hk: ¬place r th < 0):eG (dH d0 d1 s th 6 obj arg tries) zt6=Gl d0 s th 6 obj arg tries o c dn g r v:=by
 have hb:=H.hb;rcases sZ r th with ⟨hp,_⟩ | ⟨k,hkl,hp,_⟩
 ·exact absurd hk (by rw [hp]; omega)
 have hw:IntKind.i64.wrap ((k:Int)+1)=(k:Int)+1:=oQ (by omega) (by omega);have e1:((k:Int)+1+((r.l.length:Int) - ((k:Int)+1))).toNat=r.l.length:=by omega
 have e2:((k:Int)+((r.l.length:Int) - ((k:Int)+1))).toNat=r.l.length - 1:=by omega
 have e3:((k:Int)+1).toNat=k+1:=by omega
 have h0: ¬((k:Int) < 0):=by omega
 have hd:=fun R=>(aC9 r.l k hkl R (r.l.drop (r.l.length - 1))).resolve_right (by rw [List.length_drop]; omega);simp only [zz,H.hcp,H.jC,H.hR,H.hk,has_is r th hb,dK r th hb,hp,hw,e1,e2,e3,h0,gJ,aT,Int.toNat_natCast,hd,Pm,aC,BA,fC,dG,dF,bQ,bP,dL,act,Int.reduceEq,Gl] <;> (repeat' split) <;> first | rfl | (exfalso; omega)
abbrev zt7:T Lf:=(sp (.eq (bC 3) (.aP 3)) xH (sp (.eq (rr 900 [bC 7,.aP 3] 0) (.lit 0)) (sp (.eq (ln (bC 7)) (.lit 0)) (sp (.lt (bC 3) (.lit 0)) (lX (bC 2) (mk (.aP 3)) (mk (bC 4)) bt (mk (bC 6)) (bC 7) (bC 8) (.lit 0) 2) Ei) Ei) xH))
theorem sm8 (H:TH d0 d1 s th 7 obj arg tries o c dn g r v) (hr:0 < r.l.length):eG (dH d0 d1 s th 7 obj arg tries) zt7=Gl d0 s th 7 obj arg tries o c dn g r v:=by
 have hb:=H.hb;simp only [zz,H.hcp,H.jC,H.hR,H.hk,has_is r th hb,dK r th hb,aC,BA,fC,dG,dF,bQ,bP,dL,act,Int.reduceEq,Gl] <;> (repeat' split) <;> first | rfl | (exfalso; omega)
abbrev zt8:T Lf:=(sp (.lt (.lit 0) (bC 4)) (lX (bC 2) (mk (bC 3)) (mk (wr (.sub (bC 4) (.lit 1)))) bt (mk (bC 6)) (bC 7) (bC 8) (.lit 0) 2) Ei)
theorem sm9 (H:TH d0 d1 s th 9 obj arg tries o c dn g r v):eG (dH d0 d1 s th 9 obj arg tries) zt8=Gl d0 s th 9 obj arg tries o c dn g r v:=by
 have hb:=H.hb;simp only [zz,H.hcp,H.jC,H.hR,H.hk,has_is r th hb,dK r th hb,aC,BA,fC,dG,dF,bQ,bP,dL,act,Int.reduceEq,Gl] <;> (repeat' split) <;> first | rfl | (exfalso; omega)
abbrev zt9:T Lf:=(sp (.lt (.lit 0) (bC 4)) (lX (bC 2) (mk (bC 3)) (mk (wr (.sub (bC 4) (.lit 1)))) bt (mk (bC 6)) (bC 7) (bC 8) (.lit 1) 2) (lX (bC 2) (mk (bC 3)) (mk (bC 4)) bt (mk (bC 6)) (bC 7) (bC 8) (.lit 0) 2))
theorem aFO (H:TH d0 d1 s th 11 obj arg tries o c dn g r v):eG (dH d0 d1 s th 11 obj arg tries) zt9=Gl d0 s th 11 obj arg tries o c dn g r v:=by
 have hb:=H.hb;simp only [zz,H.hcp,H.jC,H.hR,H.hk,has_is r th hb,dK r th hb,aC,BA,fC,dG,dF,bQ,bP,dL,act,Int.reduceEq,Gl] <;> (repeat' split) <;> first | rfl | (exfalso; omega)
abbrev aDu:T Lf:=(sp (.lt (bC 4) ZG) (lX (bC 2) (mk (bC 3)) (mk (wr (.add (bC 4) (.lit 1)))) bt (mk (bC 6)) (bC 7) (bC 8) (.lit 0) 2) xH)
theorem aFN (H:TH d0 d1 s th 10 obj arg tries o c dn g r v):eG (dH d0 d1 s th 10 obj arg tries) aDu=Gl d0 s th 10 obj arg tries o c dn g r v:=by
 have hb:=H.hb;simp only [zz,H.hcp,H.jC,H.hR,H.hk,has_is r th hb,dK r th hb,aC,BA,fC,dG,dF,bQ,bP,dL,act,Int.reduceEq,Gl] <;> (repeat' split) <;> first | rfl | (exfalso; omega)
abbrev aDt:T Lf:=(sp (.lt (.aP 6) (wr (.sub (.lit 0) (bC 4)))) xH (sp (.lt (wr (.sub (.lit 1099511627776) (bC 4))) (.aP 6)) xH (lX (bC 2) (mk (bC 3)) (mk (wr (.add (bC 4) (.aP 6)))) bt (mk (bC 6)) (bC 7) (bC 8) (wr (.add (bC 4) (.aP 6))) 2)))
theorem aFM (H:TH d0 d1 s th 17 obj arg tries o c dn g r v):eG (dH d0 d1 s th 17 obj arg tries) aDt=Gl d0 s th 17 obj arg tries o c dn g r v:=by
 have hb:=H.hb;simp only [zz,H.hcp,H.jC,H.hR,H.hk,has_is r th hb,dK r th hb,aC,BA,fC,dG,dF,bQ,bP,dL,act,Int.reduceEq,Gl] <;> (repeat' split) <;> first | rfl | (exfalso; omega)
abbrev aDs:T Lf:=(sp (.lt (.lit 0) (bC 4)) (lX (bC 2) (mk (bC 3)) (mk (wr (.sub (bC 4) (.lit 1)))) bt (mk (bC 6)) (bC 7) (bC 8) (wr (.sub (bC 4) (.lit 1))) 2) xH)
theorem aFL (H:TH d0 d1 s th 18 obj arg tries o c dn g r v):eG (dH d0 d1 s th 18 obj arg tries) aDs=Gl d0 s th 18 obj arg tries o c dn g r v:=by
 have hb:=H.hb;simp only [zz,H.hcp,H.jC,H.hR,H.hk,has_is r th hb,dK r th hb,aC,BA,fC,dG,dF,bQ,bP,dL,act,Int.reduceEq,Gl] <;> (repeat' split) <;> first | rfl | (exfalso; omega)
abbrev aDr:T Lf:=(sp (.eq (bC 4) (.lit 0)) (lX (bC 2) (mk (bC 3)) (mk (bC 4)) bt (mk (bC 6)) (bC 7) (bC 8) (.lit 0) 2) Ei)
theorem aFK (H:TH d0 d1 s th 19 obj arg tries o c dn g r v):eG (dH d0 d1 s th 19 obj arg tries) aDr=Gl d0 s th 19 obj arg tries o c dn g r v:=by
 have hb:=H.hb;simp only [zz,H.hcp,H.jC,H.hR,H.hk,has_is r th hb,dK r th hb,aC,BA,fC,dG,dF,bQ,bP,dL,act,Int.reduceEq,Gl] <;> (repeat' split) <;> first | rfl | (exfalso; omega)
abbrev aDq:T Lf:=(lX (bC 2) (mk (bC 3)) (mk (bC 4)) bt (mk (bC 6)) (bC 7) (bC 8) (bC 4) 2)
theorem aFJ (H:TH d0 d1 s th 22 obj arg tries o c dn g r v):eG (dH d0 d1 s th 22 obj arg tries) aDq=Gl d0 s th 22 obj arg tries o c dn g r v:=by
 have hb:=H.hb;simp only [zz,H.hcp,H.jC,H.hR,H.hk,has_is r th hb,dK r th hb,aC,BA,fC,dG,dF,bQ,bP,dL,act,Int.reduceEq,Gl] <;> (repeat' split) <;> first | rfl | (exfalso; omega)
abbrev aDp:T Lf:=(lX (bC 2) (mk (bC 3)) (mk (.aP 6)) bt (mk (bC 6)) (bC 7) (bC 8) (.aP 6) 2)
theorem aFI (H:TH d0 d1 s th 23 obj arg tries o c dn g r v):eG (dH d0 d1 s th 23 obj arg tries) aDp=Gl d0 s th 23 obj arg tries o c dn g r v:=by
 have hb:=H.hb;simp only [zz,H.hcp,H.jC,H.hR,H.hk,has_is r th hb,dK r th hb,aC,BA,fC,dG,dF,bQ,bP,dL,act,Int.reduceEq,Gl] <;> (repeat' split) <;> first | rfl | (exfalso; omega)
abbrev aBj:T Lf:=(sp (.lt (ln (bC 8)) ZG) (lX (bC 2) (mk (bC 3)) (mk (bC 4)) bt (mk (bC 6)) (bC 7) (.op .snoc (bC 8) (mk (.aP 6))) (.aP 6) 2) Ei)
theorem aDV (H:TH d0 d1 s th 20 obj arg tries o c dn g r v) (hv:0 < v.l.length):eG (dH d0 d1 s th 20 obj arg tries) aBj=Gl d0 s th 20 obj arg tries o c dn g r v:=by
 have hb:=H.hb;simp only [zz,H.hcp,H.jC,H.hR,H.hk,has_is r th hb,dK r th hb,rQ,List.nil_append,aC,BA,fC,dG,dF,bQ,bP,dL,act,Int.reduceEq,Gl] <;> (repeat' split) <;> first | rfl | (exfalso; omega)
abbrev aBi:T Lf:=(sp (.eq (ln (bC 8)) (.lit 0)) Ei (lX (bC 2) (mk (bC 3)) (mk (bC 4)) bt (mk (bC 6)) (bC 7) (.op .drop (.op .take (bC 8) (.add (.lit 1) (.sub (ln (bC 8)) (.lit 1)))) (.lit 1)) (nm (el (bC 8) (.lit 0))) 2))
theorem aDU (H:TH d0 d1 s th 21 obj arg tries o c dn g r v) (hv:0 < v.l.length):eG (dH d0 d1 s th 21 obj arg tries) aBi=Gl d0 s th 21 obj arg tries o c dn g r v:=by
 have hb:=H.hb;simp only [zz,H.hcp,H.jC,H.hR,H.hk,has_is r th hb,dK r th hb,abQ v hv,aC,BA,fC,dG,dF,bQ,bP,dL,act,Int.reduceEq,Gl] <;> (repeat' split) <;> first | rfl | (exfalso; omega)
abbrev aBh:T Lf:=(sp (.eq (nm (ce 0 (el (bC 2) ZG))) (.aP 3)) (lX (agA (.dat (.i (-1)))) (mk (bC 3)) (mk (bC 4)) bt (mk (bC 6)) (.op .snoc (bC 7) (mk (.aP 3))) (bC 8) (.lit 0) 3) xH)
theorem aDT (H:TH d0 d1 s th 12 obj arg tries o c dn g r v) (hr:0 < r.l.length) (hw:wo th r.l=r.l):eG (dH d0 d1 s th 12 obj arg tries) aBh=Gl d0 s th 12 obj arg tries o c dn g r v:=by
 have hb:=H.hb;simp only [zz,H.hcp,H.jC,H.hR,H.hk,has_is r th hb,dK r th hb,hw,aT,rQ,List.nil_append,aC,BA,fC,dG,dF,bQ,bP,dL,act,Int.reduceEq,Gl] <;> (repeat' split) <;> first | rfl | (exfalso; omega)
abbrev aDo:T Lf:=(sp (.eq (nm (ce 0 (el (bC 2) ZG))) (.aP 3)) (lX (agA (.dat (.i (-1)))) (mk (bC 3)) (mk (bC 4)) bt (mk (bC 6)) (.op .take (.op .cat (.op .cat (.op .take (rr 12000 xX 15) (rr 12000 xX 14)) (.op .snoc (.dat (.i 0)) (mk (.aP 3)))) (.op .drop (rr 12000 xX 15) (.add (rr 12000 xX 14) (.lit 1)))) (.add (rr 12000 xX 14) (.lit 1))) (bC 8) (.lit 0) 3) xH)
theorem aFH (H:TH d0 d1 s th 12 obj arg tries o c dn g r v) (hr:0 < r.l.length) (hv:0 < v.l.length) {n:Nat} {r1:D} (hn:n < r.l.length) (hl:r1.l.length=r.l.length) (hw:r1.l.take n=wo th r.l) (hd:L 12000 (dA d0 s r v th 12 obj arg tries o c dn g)=some (1 :: ((dA d0 s r v th 12 obj arg tries o c dn g)++ [(n:Int),enc r1,(r.l.length:Int)]))):eG (dH d0 d1 s th 12 obj arg tries) aDo=Gl d0 s th 12 obj arg tries o c dn g r v:=by
 have hb:=H.hb;have e3:((n:Int)+1).toNat=n+1:=by omega
 have hA: ∀B,(wo th r.l++ [D.i th]++B).take (n+1)=wo th r.l++ [.i th]:=fun B=>by
  have:(wo th r.l++ [D.i th]).length=n+1:=by rw [← hw]; simp only [List.length_append,List.length_take,List.length_cons,List.length_nil]; omega
  rw [List.take_append_of_le_length (by omega),List.take_of_length_le (by omega)]
 have hB:wo th r.l++ [D.i th]≠[]:=by simp
 simp only [zz,H.hcp,H.jC,H.hR,H.hk,has_is r th hb,dK r th hb,hd,List.cons_append,e3,l_p,gJ,aT,rQ,List.nil_append,Int.toNat_natCast,hw,hA,Pm,yY hB,aC,BA,fC,dG,dF,bQ,bP,dL,act,Int.reduceEq,Gl] <;> (repeat' split) <;> first | rfl | (exfalso; omega)
abbrev aBg:T Lf:=(sp (.eq (ln (bC 7)) (.lit 0)) (lX (bC 2) (mk (bC 3)) (mk (bC 4)) bt (mk (bC 6)) (bC 7) (bC 8) (.lit 0) 2) (lX (bC 2) (mk (bC 3)) (mk (bC 4)) bt (mk (bC 6)) (.op .drop (.op .take (bC 7) (.add (.lit 1) (.sub (ln (bC 7)) (.lit 1)))) (.lit 1)) (bC 8) (wr (.add (nm (el (bC 7) (.lit 0))) (.lit 1))) 2))
theorem aDS (H:TH d0 d1 s th 13 obj arg tries o c dn g r v) (hr:0 < r.l.length):eG (dH d0 d1 s th 13 obj arg tries) aBg=Gl d0 s th 13 obj arg tries o c dn g r v:=by
 have hb:=H.hb;simp only [zz,H.hcp,H.jC,H.hR,H.hk,has_is r th hb,dK r th hb,abQ r hr,rQ,List.nil_append,aC,BA,fC,dG,dF,bQ,bP,dL,act,Int.reduceEq,Gl] <;> (repeat' split) <;> first | rfl | (exfalso; omega)
abbrev aBf:T Lf:=(lX (bC 2) (mk (bC 3)) (mk (bC 4)) bt (mk (bC 6)) (.dat (.i 1)) (bC 8) (ln (bC 7)) 2)
theorem aDR (H:TH d0 d1 s th 14 obj arg tries o c dn g r v) (hr:0 < r.l.length):eG (dH d0 d1 s th 14 obj arg tries) aBf=Gl d0 s th 14 obj arg tries o c dn g r v:=by
 have hb:=H.hb;simp only [zz,H.hcp,H.jC,H.hR,H.hk,has_is r th hb,dK r th hb,rQ,List.nil_append,aC,BA,fC,dG,dF,bQ,bP,dL,act,Int.reduceEq,Gl] <;> (repeat' split) <;> first | rfl | (exfalso; omega)
abbrev aiR:T Lf:=(sp (.eq (rr 900 [bC 7,.aP 3] 0) (.lit 0)) (sp (.lt (nm (ce 0 (el (bC 2) ZG))) (.lit 0)) (lX (agA (mk (.aP 3))) (mk (bC 3)) (mk (bC 4)) bt (mk (bC 6)) (bC 7) (bC 8) (.lit 0) 2) Ei) Ei)
theorem auY (H:TH d0 d1 s th 24 obj arg tries o c dn g r v):eG (dH d0 d1 s th 24 obj arg tries) aiR=Gl d0 s th 24 obj arg tries o c dn g r v:=by
 have hb:=H.hb;simp only [zz,H.hcp,H.jC,H.hR,H.hk,has_is r th hb,dK r th hb,aT,rQ,List.nil_append,aC,BA,fC,dG,dF,bQ,bP,dL,act,Int.reduceEq,Gl] <;> (repeat' split) <;> first | rfl | (exfalso; omega)
abbrev aDn:T Lf:=(sp (.lt (bC 6) (.lit 4611686018427387904)) (sp (.eq (wr (.add (bC 4) (.lit 1))) ZG) (lX (bC 2) (mk (bC 3)) (.dat (.i 0)) bt (mk (wr (.add (bC 6) (.lit 1)))) (bC 7) (bC 8) (bC 6) 3) (lX (bC 2) (mk (bC 3)) (mk (wr (.add (bC 4) (.lit 1)))) bt (mk (bC 6)) (bC 7) (bC 8) (bC 6) 3)) xH)
theorem aFG (H:TH d0 d1 s th 15 obj arg tries o c dn g r v):eG (dH d0 d1 s th 15 obj arg tries) aDn=Gl d0 s th 15 obj arg tries o c dn g r v:=by
 have hb:=H.hb;simp only [zz,H.hcp,H.jC,H.hR,H.hk,has_is r th hb,dK r th hb,aC,BA,fC,dG,dF,bQ,bP,dL,act,Int.reduceEq,Gl] <;> (repeat' split) <;> first | rfl | (exfalso; omega)
abbrev aDm:T Lf:=(sp (.lt (.aP 6) (bC 6)) (lX (bC 2) (mk (bC 3)) (mk (bC 4)) bt (mk (bC 6)) (bC 7) (bC 8) (.aP 6) 2) Ei)
theorem aFF (H:TH d0 d1 s th 25 obj arg tries o c dn g r v):eG (dH d0 d1 s th 25 obj arg tries) aDm=Gl d0 s th 25 obj arg tries o c dn g r v:=by
 have hb:=H.hb;simp only [zz,H.hcp,H.jC,H.hR,H.hk,has_is r th hb,dK r th hb,aC,BA,fC,dG,dF,bQ,bP,dL,act,Int.reduceEq,Gl] <;> (repeat' split) <;> first | rfl | (exfalso; omega)
abbrev aDl:T Lf:=(sp (.eq (bC 5) (.lit 0)) (sp (.eq (bC 3) (.aP 3)) xH (sp (.lt (bC 3) (.lit 0)) (lX (bC 2) (mk (.aP 3)) (mk (bC 4)) bt (mk (bC 6)) (bC 7) (bC 8) (.lit 1) 2) Ei)) (lX (bC 2) (mk (bC 3)) (mk (bC 4)) bt (mk (bC 6)) (bC 7) (bC 8) (.lit 0) 2))
theorem aFE (H:TH d0 d1 s th 16 obj arg tries o c dn g r v):eG (dH d0 d1 s th 16 obj arg tries) aDl=Gl d0 s th 16 obj arg tries o c dn g r v:=by
 have hb:=H.hb;simp only [zz,H.hcp,H.jC,H.hR,H.hk,has_is r th hb,dK r th hb,aC,BA,fC,dG,dF,bQ,bP,dL,act,Int.reduceEq,Gl] <;> (repeat' split) <;> first | rfl | (exfalso; omega)
abbrev aDk:T Lf:=(sp (.eq (bC 3) (.aP 3)) (lX (bC 2) (.dat (.i (-1))) (mk (bC 4)) (.dat (.i 1)) (mk (bC 6)) (bC 7) (bC 8) (.lit 0) 2) xH)
theorem aFD (H:TH d0 d1 s th 26 obj arg tries o c dn g r v):eG (dH d0 d1 s th 26 obj arg tries) aDk=Gl d0 s th 26 obj arg tries o c dn g r v:=by
 have hb:=H.hb;simp only [zz,H.hcp,H.jC,H.hR,H.hk,has_is r th hb,dK r th hb,aC,BA,fC,dG,dF,bQ,bP,dL,act,Int.reduceEq,Gl] <;> (repeat' split) <;> first | rfl | (exfalso; omega)
abbrev aBe:T Lf:=(sp (.lt (.lit 0) ZG) (lX (bC 2) (mk (bC 3)) (mk (bC 4)) bt (mk (bC 6)) (bC 7) (.op .snoc (.dat (.i 0)) (mk (.aP 6))) (.aP 6) 2) Ei)
theorem aDQ (H:TH d0 d1 s th 20 obj arg tries o c dn g r v) (hv:v.l= []):eG (dH d0 d1 s th 20 obj arg tries) aBe=Gl d0 s th 20 obj arg tries o c dn g r v:=by
 have hb:=H.hb;have hz2:((0:Nat):Int)=0:=rfl;simp only [zz,H.hcp,H.jC,H.hR,H.hk,has_is r th hb,dK r th hb,hv,List.length_nil,List.nil_append,hz2,rQ,aC,BA,fC,dG,dF,bQ,bP,dL,act,Int.reduceEq,Gl] <;> (repeat' split) <;> first | rfl | (exfalso; omega)
abbrev aBd:T Lf:=Ei
theorem aDP (H:TH d0 d1 s th 21 obj arg tries o c dn g r v) (hv:v.l= []):eG (dH d0 d1 s th 21 obj arg tries) aBd=Gl d0 s th 21 obj arg tries o c dn g r v:=by
 have hb:=H.hb;have hz2:((0:Nat):Int)=0:=rfl;simp only [zz,H.hcp,H.jC,H.hR,H.hk,has_is r th hb,dK r th hb,hv,List.length_nil,List.nil_append,hz2,aC,BA,fC,dG,dF,bQ,bP,dL,act,Int.reduceEq,Gl] <;> (repeat' split) <;> first | rfl | (exfalso; omega)
abbrev aDj:T Lf:=(sp (.eq (nm (ce 0 (el (bC 2) ZG))) (.aP 3)) (lX (agA (.dat (.i (-1)))) (mk (bC 3)) (mk (bC 4)) bt (mk (bC 6)) (.op .take (.op .cat (.op .cat (.op .take (rr 12100 xX 15) (rr 12100 xX 14)) (.op .snoc (.dat (.i 0)) (mk (.aP 3)))) (.op .drop (rr 12100 xX 15) (.add (rr 12100 xX 14) (.lit 1)))) (.add (rr 12100 xX 14) (.lit 1))) (bC 8) (.lit 0) 3) xH)
theorem aFC (H:TH d0 d1 s th 12 obj arg tries o c dn g r v) (hr:0 < r.l.length) (hv:v.l= []) {n:Nat} {r1:D} (hn:n < r.l.length) (hl:r1.l.length=r.l.length) (hw:r1.l.take n=wo th r.l) (hd:L 12100 (dA d0 s r v th 12 obj arg tries o c dn g)=some (1 :: ((dA d0 s r v th 12 obj arg tries o c dn g)++ [(n:Int),enc r1,(r.l.length:Int)]))):eG (dH d0 d1 s th 12 obj arg tries) aDj=Gl d0 s th 12 obj arg tries o c dn g r v:=by
 have hb:=H.hb;have hz2:((0:Nat):Int)=0:=rfl;have e3:((n:Int)+1).toNat=n+1:=by omega
 have hA: ∀B,(wo th r.l++ [D.i th]++B).take (n+1)=wo th r.l++ [.i th]:=fun B=>by
  have:(wo th r.l++ [D.i th]).length=n+1:=by rw [← hw]; simp only [List.length_append,List.length_take,List.length_cons,List.length_nil]; omega
  rw [List.take_append_of_le_length (by omega),List.take_of_length_le (by omega)]
 have hB:wo th r.l++ [D.i th]≠[]:=by simp
 simp only [zz,H.hcp,H.jC,H.hR,H.hk,has_is r th hb,dK r th hb,hv,List.length_nil,List.nil_append,hz2,hd,List.cons_append,e3,l_p,gJ,aT,rQ,Int.toNat_natCast,hw,hA,Pm,yY hB,aC,BA,fC,dG,dF,bQ,bP,dL,act,Int.reduceEq,Gl] <;> (repeat' split) <;> first | rfl | (exfalso; omega)
abbrev aBb:T Lf:=(sp (.eq (bC 3) (.aP 3)) xH (sp (.eq (rr 900 [bC 7,.aP 3] 0) (.lit 0)) (sp (.lt (bC 3) (.lit 0)) (lX (bC 2) (mk (bC 3)) (mk (bC 4)) bt (mk (bC 6)) (.op .snoc (.dat (.i 0)) (mk (.aP 3))) (bC 8) (.lit 0) 2) Ei) xH))
theorem aDO (H:TH d0 d1 s th 5 obj arg tries o c dn g r v) (hr:r.l= []):eG (dH d0 d1 s th 5 obj arg tries) aBb=Gl d0 s th 5 obj arg tries o c dn g r v:=by
 have hb:=H.hb;have hz:((0:Nat):Int)=0:=rfl;simp only [zz,H.hcp,H.jC,H.hR,H.hk,has_is r th hb,dK r th hb,hr,List.length_nil,List.nil_append,hz,rQ,aC,BA,fC,dG,dF,bQ,bP,dL,act,Int.reduceEq,Gl] <;> (repeat' split) <;> first | rfl | (exfalso; omega)
theorem aDN (H:TH d0 d1 s th 7 obj arg tries o c dn g r v) (hr:r.l= []):eG (dH d0 d1 s th 7 obj arg tries) zt0=Gl d0 s th 7 obj arg tries o c dn g r v:=by
 have hb:=H.hb;have hz:((0:Nat):Int)=0:=rfl;simp only [zz,H.hcp,H.jC,H.hR,H.hk,has_is r th hb,dK r th hb,hr,List.length_nil,List.nil_append,hz,aC,BA,fC,dG,dF,bQ,bP,dL,act,Int.reduceEq,Gl] <;> (repeat' split) <;> first | rfl | (exfalso; omega)
abbrev aBa:T Lf:=(sp (.eq (nm (ce 0 (el (bC 2) ZG))) (.aP 3)) (lX (agA (.dat (.i (-1)))) (mk (bC 3)) (mk (bC 4)) bt (mk (bC 6)) (.op .snoc (.dat (.i 0)) (mk (.aP 3))) (bC 8) (.lit 0) 3) xH)
theorem aDM (H:TH d0 d1 s th 12 obj arg tries o c dn g r v) (hr:r.l= []):eG (dH d0 d1 s th 12 obj arg tries) aBa=Gl d0 s th 12 obj arg tries o c dn g r v:=by
 have hb:=H.hb;have hz:((0:Nat):Int)=0:=rfl;simp only [zz,H.hcp,H.jC,H.hR,H.hk,has_is r th hb,dK r th hb,hr,List.length_nil,List.nil_append,hz,aBk hr,aT,rQ,aC,BA,fC,dG,dF,bQ,bP,dL,act,Int.reduceEq,Gl] <;> (repeat' split) <;> first | rfl | (exfalso; omega)
abbrev aA9:T Lf:=(lX (bC 2) (mk (bC 3)) (mk (bC 4)) bt (mk (bC 6)) (bC 7) (bC 8) (.lit 0) 2)
theorem aDL (H:TH d0 d1 s th 13 obj arg tries o c dn g r v) (hr:r.l= []):eG (dH d0 d1 s th 13 obj arg tries) aA9=Gl d0 s th 13 obj arg tries o c dn g r v:=by
 have hb:=H.hb;have hz:((0:Nat):Int)=0:=rfl;simp only [zz,H.hcp,H.jC,H.hR,H.hk,has_is r th hb,dK r th hb,hr,List.length_nil,List.nil_append,hz,rQ,aC,BA,fC,dG,dF,bQ,bP,dL,act,Int.reduceEq,Gl] <;> (repeat' split) <;> first | rfl | (exfalso; omega)
abbrev aA8:T Lf:=(lX (bC 2) (mk (bC 3)) (mk (bC 4)) bt (mk (bC 6)) (.dat (.i 1)) (bC 8) (.lit 0) 2)
theorem aDK (H:TH d0 d1 s th 14 obj arg tries o c dn g r v) (hr:r.l= []):eG (dH d0 d1 s th 14 obj arg tries) aA8=Gl d0 s th 14 obj arg tries o c dn g r v:=by
 have hb:=H.hb;have hz:((0:Nat):Int)=0:=rfl;simp only [zz,H.hcp,H.jC,H.hR,H.hk,has_is r th hb,dK r th hb,hr,List.length_nil,List.nil_append,hz,rQ,aC,BA,fC,dG,dF,bQ,bP,dL,act,Int.reduceEq,Gl] <;> (repeat' split) <;> first | rfl | (exfalso; omega)
end
end Go.As.Try
end
section
namespace Go.As.Try
open Go hiding Stat Spec shape
open Go.As
set_option maxRecDepth 100000
def ops:List Int:=[1,2,8,3,4,5,6,7,9,11,10,17,18,19,22,23,20,21,12,13,14,24,15,25,16,26]
abbrev Yo (k:Int):List SB:=[.eq (.aP 4) (.lit k)]
abbrev No (k:Int):List SB:=(ops.filter fun j=>!(j == k)).map fun j=> .eq (.aP 4) (.lit j)
abbrev p3:T Lf:=prune (YG++YA3) (NG++NA3) kP
abbrev p4:T Lf:=prune (YG++YA4) (NG++NA4) kP
abbrev p5:T Lf:=prune (YG++YA5) (NG++NA5) kP
abbrev p6:T Lf:=prune (YG++YA6) (NG++NA6) kP
section
variable {d0 d1 s r v:D} {th op obj arg tries o c dn g:Int}
theorem aiU {ρ:Nat→Int}: ∀{l:List SB},(∀c∈l,¬c.den ρ=true)→zW ρ l
 | [],_=>trivial
 | c :: l,h=> ⟨h c (by simp),aiU fun x hx=>h x (List.mem_cons_of_mem _ hx)⟩
theorem fO (k:Int):zY (dH d0 d1 s th k obj arg tries) (Yo k)∧zW (dH d0 d1 s th k obj arg tries) (No k):=by refine⟨by simp only [zz],aiU fun c hc=>?_⟩;obtain⟨j,hj,rfl⟩:=List.mem_map.1 hc;have:=(List.mem_filter.1 hj).2;simp only [zz];intro h;subst h;simp at this
theorem sp3 (H:TH d0 d1 s th op obj arg tries o c dn g r v) (hr:0 < r.l.length) (hv:0 < v.l.length):eG (dH d0 d1 s th op obj arg tries) p3=eG (dH d0 d1 s th op obj arg tries) kP:=dJ (z2 (fG H) (fA3 H hr hv)) kP
theorem sp4 (H:TH d0 d1 s th op obj arg tries o c dn g r v) (hr:0 < r.l.length) (hv:v.l= []):eG (dH d0 d1 s th op obj arg tries) p4=eG (dH d0 d1 s th op obj arg tries) kP:=dJ (z2 (fG H) (fA4 H hr hv)) kP
theorem sp5 (H:TH d0 d1 s th op obj arg tries o c dn g r v) (hr:r.l= []) (hv:0 < v.l.length):eG (dH d0 d1 s th op obj arg tries) p5=eG (dH d0 d1 s th op obj arg tries) kP:=dJ (z2 (fG H) (fA5 H hr hv)) kP
theorem sp6 (H:TH d0 d1 s th op obj arg tries o c dn g r v) (hr:r.l= []) (hv:v.l= []):eG (dH d0 d1 s th op obj arg tries) p6=eG (dH d0 d1 s th op obj arg tries) kP:=dJ (z2 (fG H) (fA6 H hr hv)) kP
theorem kG {k:Int} {t u:T Lf} {Q:RS} (e:prune (Yo k) (No k) t=u) (h:eG (dH d0 d1 s th k obj arg tries) u=Q):eG (dH d0 d1 s th k obj arg tries) t=Q:=by rw [← dJ (fO k) t,e,h]
theorem kH (H:TH d0 d1 s th op obj arg tries o c dn g r v) {u:T Lf} {Q:RS} (e3:prune (Yo op) (No op) p3=u) (e4:prune (Yo op) (No op) p4=u) (e5:prune (Yo op) (No op) p5=u) (e6:prune (Yo op) (No op) p6=u) (h:eG (dH d0 d1 s th op obj arg tries) u=Q):eG (dH d0 d1 s th op obj arg tries) kP=Q:=by
 rcases kY r.l with hr | hr <;> rcases kY v.l with hv | hv
 ·exact (sp6 H hr hv).symm.trans (kG e6 h)
 ·exact (sp5 H hr hv).symm.trans (kG e5 h)
 ·exact (sp4 H hr hv).symm.trans (kG e4 h)
 ·exact (sp3 H hr hv).symm.trans (kG e3 h)
theorem o1 (H:TH d0 d1 s th 1 obj arg tries o c dn g r v):eG (dH d0 d1 s th 1 obj arg tries) kP=Gl d0 s th 1 obj arg tries o c dn g r v:=kH H (u:=zt0) (by kernel_rfl) (by kernel_rfl) (by kernel_rfl) (by kernel_rfl) (sm0 H)
theorem o2 (H:TH d0 d1 s th 2 obj arg tries o c dn g r v):eG (dH d0 d1 s th 2 obj arg tries) kP=Gl d0 s th 2 obj arg tries o c dn g r v:=kH H (u:=zt1) (by kernel_rfl) (by kernel_rfl) (by kernel_rfl) (by kernel_rfl) (sm1 H)
theorem o8 (H:TH d0 d1 s th 8 obj arg tries o c dn g r v):eG (dH d0 d1 s th 8 obj arg tries) kP=Gl d0 s th 8 obj arg tries o c dn g r v:=kH H (u:=zt1) (by kernel_rfl) (by kernel_rfl) (by kernel_rfl) (by kernel_rfl) (sm2 H)
theorem o3 (H:TH d0 d1 s th 3 obj arg tries o c dn g r v):eG (dH d0 d1 s th 3 obj arg tries) kP=Gl d0 s th 3 obj arg tries o c dn g r v:=kH H (u:=zt2) (by kernel_rfl) (by kernel_rfl) (by kernel_rfl) (by kernel_rfl) (sm3 H)
theorem o4 (H:TH d0 d1 s th 4 obj arg tries o c dn g r v):eG (dH d0 d1 s th 4 obj arg tries) kP=Gl d0 s th 4 obj arg tries o c dn g r v:=kH H (u:=zt3) (by kernel_rfl) (by kernel_rfl) (by kernel_rfl) (by kernel_rfl) (sm4 H)
theorem o5 (H:TH d0 d1 s th 5 obj arg tries o c dn g r v):eG (dH d0 d1 s th 5 obj arg tries) kP=Gl d0 s th 5 obj arg tries o c dn g r v:=by
 rcases kY r.l with hr | hr <;> rcases kY v.l with hv | hv
 ·exact (sp6 H hr hv).symm.trans (kG (u:=aBb) (by kernel_rfl) (aDO H hr))
 ·exact (sp5 H hr hv).symm.trans (kG (u:=aBb) (by kernel_rfl) (aDO H hr))
 ·exact (sp4 H hr hv).symm.trans (kG (u:=zt4) (by kernel_rfl) (sm5 H hr))
 ·exact (sp3 H hr hv).symm.trans (kG (u:=zt4) (by kernel_rfl) (sm5 H hr))
theorem o6 (H:TH d0 d1 s th 6 obj arg tries o c dn g r v):eG (dH d0 d1 s th 6 obj arg tries) kP=Gl d0 s th 6 obj arg tries o c dn g r v:=by
 rcases kY r.l with hr | hr <;> rcases kY v.l with hv | hv
 ·exact (sp6 H hr hv).symm.trans (kG (u:=zt5) (by kernel_rfl) (sm6 H (by rw [DJ hr]; omega)))
 ·exact (sp5 H hr hv).symm.trans (kG (u:=zt5) (by kernel_rfl) (sm6 H (by rw [DJ hr]; omega)))
 ·by_cases hk:place r th < 0
  ·exact (sp4 H hr hv).symm.trans ((dJ (fK0 H hk) _).symm.trans (kG (u:=zt5) (by kernel_rfl) (sm6 H hk)))
  ·exact (sp4 H hr hv).symm.trans ((dJ (fK1 H hk) _).symm.trans (kG (u:=zt6) (by kernel_rfl) (sm7 H hr hk)))
 ·by_cases hk:place r th < 0
  ·exact (sp3 H hr hv).symm.trans ((dJ (fK0 H hk) _).symm.trans (kG (u:=zt5) (by kernel_rfl) (sm6 H hk)))
  ·exact (sp3 H hr hv).symm.trans ((dJ (fK1 H hk) _).symm.trans (kG (u:=zt6) (by kernel_rfl) (sm7 H hr hk)))
theorem o7 (H:TH d0 d1 s th 7 obj arg tries o c dn g r v):eG (dH d0 d1 s th 7 obj arg tries) kP=Gl d0 s th 7 obj arg tries o c dn g r v:=by
 rcases kY r.l with hr | hr <;> rcases kY v.l with hv | hv
 ·exact (sp6 H hr hv).symm.trans (kG (u:=zt0) (by kernel_rfl) (aDN H hr))
 ·exact (sp5 H hr hv).symm.trans (kG (u:=zt0) (by kernel_rfl) (aDN H hr))
 ·exact (sp4 H hr hv).symm.trans (kG (u:=zt7) (by kernel_rfl) (sm8 H hr))
 ·exact (sp3 H hr hv).symm.trans (kG (u:=zt7) (by kernel_rfl) (sm8 H hr))
theorem o9 (H:TH d0 d1 s th 9 obj arg tries o c dn g r v):eG (dH d0 d1 s th 9 obj arg tries) kP=Gl d0 s th 9 obj arg tries o c dn g r v:=kH H (u:=zt8) (by kernel_rfl) (by kernel_rfl) (by kernel_rfl) (by kernel_rfl) (sm9 H)
theorem o11 (H:TH d0 d1 s th 11 obj arg tries o c dn g r v):eG (dH d0 d1 s th 11 obj arg tries) kP=Gl d0 s th 11 obj arg tries o c dn g r v:=kH H (u:=zt9) (by kernel_rfl) (by kernel_rfl) (by kernel_rfl) (by kernel_rfl) (aFO H)
theorem o10 (H:TH d0 d1 s th 10 obj arg tries o c dn g r v):eG (dH d0 d1 s th 10 obj arg tries) kP=Gl d0 s th 10 obj arg tries o c dn g r v:=kH H (u:=aDu) (by kernel_rfl) (by kernel_rfl) (by kernel_rfl) (by kernel_rfl) (aFN H)
theorem o17 (H:TH d0 d1 s th 17 obj arg tries o c dn g r v):eG (dH d0 d1 s th 17 obj arg tries) kP=Gl d0 s th 17 obj arg tries o c dn g r v:=kH H (u:=aDt) (by kernel_rfl) (by kernel_rfl) (by kernel_rfl) (by kernel_rfl) (aFM H)
theorem o18 (H:TH d0 d1 s th 18 obj arg tries o c dn g r v):eG (dH d0 d1 s th 18 obj arg tries) kP=Gl d0 s th 18 obj arg tries o c dn g r v:=kH H (u:=aDs) (by kernel_rfl) (by kernel_rfl) (by kernel_rfl) (by kernel_rfl) (aFL H)
theorem o19 (H:TH d0 d1 s th 19 obj arg tries o c dn g r v):eG (dH d0 d1 s th 19 obj arg tries) kP=Gl d0 s th 19 obj arg tries o c dn g r v:=kH H (u:=aDr) (by kernel_rfl) (by kernel_rfl) (by kernel_rfl) (by kernel_rfl) (aFK H)
theorem o22 (H:TH d0 d1 s th 22 obj arg tries o c dn g r v):eG (dH d0 d1 s th 22 obj arg tries) kP=Gl d0 s th 22 obj arg tries o c dn g r v:=kH H (u:=aDq) (by kernel_rfl) (by kernel_rfl) (by kernel_rfl) (by kernel_rfl) (aFJ H)
theorem o23 (H:TH d0 d1 s th 23 obj arg tries o c dn g r v):eG (dH d0 d1 s th 23 obj arg tries) kP=Gl d0 s th 23 obj arg tries o c dn g r v:=kH H (u:=aDp) (by kernel_rfl) (by kernel_rfl) (by kernel_rfl) (by kernel_rfl) (aFI H)
theorem o20 (H:TH d0 d1 s th 20 obj arg tries o c dn g r v):eG (dH d0 d1 s th 20 obj arg tries) kP=Gl d0 s th 20 obj arg tries o c dn g r v:=by
 rcases kY r.l with hr | hr <;> rcases kY v.l with hv | hv
 ·exact (sp6 H hr hv).symm.trans (kG (u:=aBe) (by kernel_rfl) (aDQ H hv))
 ·exact (sp5 H hr hv).symm.trans (kG (u:=aBj) (by kernel_rfl) (aDV H hv))
 ·exact (sp4 H hr hv).symm.trans (kG (u:=aBe) (by kernel_rfl) (aDQ H hv))
 ·exact (sp3 H hr hv).symm.trans (kG (u:=aBj) (by kernel_rfl) (aDV H hv))
theorem o21 (H:TH d0 d1 s th 21 obj arg tries o c dn g r v):eG (dH d0 d1 s th 21 obj arg tries) kP=Gl d0 s th 21 obj arg tries o c dn g r v:=by
 rcases kY r.l with hr | hr <;> rcases kY v.l with hv | hv
 ·exact (sp6 H hr hv).symm.trans (kG (u:=aBd) (by kernel_rfl) (aDP H hv))
 ·exact (sp5 H hr hv).symm.trans (kG (u:=aBi) (by kernel_rfl) (aDU H hv))
 ·exact (sp4 H hr hv).symm.trans (kG (u:=aBd) (by kernel_rfl) (aDP H hv))
 ·exact (sp3 H hr hv).symm.trans (kG (u:=aBi) (by kernel_rfl) (aDU H hv))
theorem o12 (H:TH d0 d1 s th 12 obj arg tries o c dn g r v):eG (dH d0 d1 s th 12 obj arg tries) kP=Gl d0 s th 12 obj arg tries o c dn g r v:=by
 rcases kY r.l with hr | hr <;> rcases kY v.l with hv | hv
 ·have hd:=ayD r th obj (Mx d0 obj) (enc (dL (eF s.l (Mx d0 obj) (dL (eF (s.at (Mx d0 obj)).l 0 (.i (-1))))))) 12 arg tries o c dn g (enc v);exact (sp6 H hr hv).symm.trans ((dJ (fM H (by omega)) _).symm.trans ((dJ (aGe H hd) _).symm.trans (kG (u:=aBa) (by kernel_rfl) (aDM H hr))))
 ·have hd:=ayE r th obj (Mx d0 obj) (enc (dL (eF s.l (Mx d0 obj) (dL (eF (s.at (Mx d0 obj)).l 0 (.i (-1))))))) 12 arg tries o c dn g (enc v);exact (sp5 H hr hv).symm.trans ((dJ (fM H (by omega)) _).symm.trans ((dJ (aGf H hd) _).symm.trans (kG (u:=aBa) (by kernel_rfl) (aDM H hr))))
 ·rcases ayF r th (by have:=H.hr; omega) H.hn with ⟨hw,hd⟩ | hd
  ·have hd:=hd obj (Mx d0 obj) (enc (dL (eF s.l (Mx d0 obj) (dL (eF (s.at (Mx d0 obj)).l 0 (.i (-1))))))) 12 arg tries o c dn g (enc v);exact (sp4 H hr hv).symm.trans ((dJ (fM H (by omega)) _).symm.trans ((dJ (aGg H hd) _).symm.trans (kG (u:=aBh) (by kernel_rfl) (aDT H hr hw))))
  ·obtain⟨n,r1,hn,hl,hw,hd⟩:=hd obj (Mx d0 obj) (enc (dL (eF s.l (Mx d0 obj) (dL (eF (s.at (Mx d0 obj)).l 0 (.i (-1))))))) 12 arg tries o c dn g (enc v);exact (sp4 H hr hv).symm.trans ((dJ (fM H (by omega)) _).symm.trans ((dJ (aGh H hn hl hd) _).symm.trans (kG (u:=aDj) (by kernel_rfl) (aFC H hr hv hn hl hw hd))))
 ·rcases ayG r th (by have:=H.hr; omega) H.hn with ⟨hw,hd⟩ | hd
  ·have hd:=hd obj (Mx d0 obj) (enc (dL (eF s.l (Mx d0 obj) (dL (eF (s.at (Mx d0 obj)).l 0 (.i (-1))))))) 12 arg tries o c dn g (enc v);exact (sp3 H hr hv).symm.trans ((dJ (fM H (by omega)) _).symm.trans ((dJ (aGi H hd) _).symm.trans (kG (u:=aBh) (by kernel_rfl) (aDT H hr hw))))
  ·obtain⟨n,r1,hn,hl,hw,hd⟩:=hd obj (Mx d0 obj) (enc (dL (eF s.l (Mx d0 obj) (dL (eF (s.at (Mx d0 obj)).l 0 (.i (-1))))))) 12 arg tries o c dn g (enc v);exact (sp3 H hr hv).symm.trans ((dJ (fM H (by omega)) _).symm.trans ((dJ (aGj H hn hl hd) _).symm.trans (kG (u:=aDo) (by kernel_rfl) (aFH H hr hv hn hl hw hd))))
theorem o13 (H:TH d0 d1 s th 13 obj arg tries o c dn g r v):eG (dH d0 d1 s th 13 obj arg tries) kP=Gl d0 s th 13 obj arg tries o c dn g r v:=by
 rcases kY r.l with hr | hr <;> rcases kY v.l with hv | hv
 ·exact (sp6 H hr hv).symm.trans (kG (u:=aA9) (by kernel_rfl) (aDL H hr))
 ·exact (sp5 H hr hv).symm.trans (kG (u:=aA9) (by kernel_rfl) (aDL H hr))
 ·exact (sp4 H hr hv).symm.trans (kG (u:=aBg) (by kernel_rfl) (aDS H hr))
 ·exact (sp3 H hr hv).symm.trans (kG (u:=aBg) (by kernel_rfl) (aDS H hr))
theorem o14 (H:TH d0 d1 s th 14 obj arg tries o c dn g r v):eG (dH d0 d1 s th 14 obj arg tries) kP=Gl d0 s th 14 obj arg tries o c dn g r v:=by
 rcases kY r.l with hr | hr <;> rcases kY v.l with hv | hv
 ·exact (sp6 H hr hv).symm.trans (kG (u:=aA8) (by kernel_rfl) (aDK H hr))
 ·exact (sp5 H hr hv).symm.trans (kG (u:=aA8) (by kernel_rfl) (aDK H hr))
 ·exact (sp4 H hr hv).symm.trans (kG (u:=aBf) (by kernel_rfl) (aDR H hr))
 ·exact (sp3 H hr hv).symm.trans (kG (u:=aBf) (by kernel_rfl) (aDR H hr))
theorem o24 (H:TH d0 d1 s th 24 obj arg tries o c dn g r v):eG (dH d0 d1 s th 24 obj arg tries) kP=Gl d0 s th 24 obj arg tries o c dn g r v:=by
 rcases kY r.l with hr | hr <;> rcases kY v.l with hv | hv
 ·exact (sp6 H hr hv).symm.trans ((dJ (fM H (by omega)) _).symm.trans (kG (u:=aiR) (by kernel_rfl) (auY H)))
 ·exact (sp5 H hr hv).symm.trans ((dJ (fM H (by omega)) _).symm.trans (kG (u:=aiR) (by kernel_rfl) (auY H)))
 ·exact (sp4 H hr hv).symm.trans ((dJ (fM H (by omega)) _).symm.trans (kG (u:=aiR) (by kernel_rfl) (auY H)))
 ·exact (sp3 H hr hv).symm.trans ((dJ (fM H (by omega)) _).symm.trans (kG (u:=aiR) (by kernel_rfl) (auY H)))
theorem o15 (H:TH d0 d1 s th 15 obj arg tries o c dn g r v):eG (dH d0 d1 s th 15 obj arg tries) kP=Gl d0 s th 15 obj arg tries o c dn g r v:=kH H (u:=aDn) (by kernel_rfl) (by kernel_rfl) (by kernel_rfl) (by kernel_rfl) (aFG H)
theorem o25 (H:TH d0 d1 s th 25 obj arg tries o c dn g r v):eG (dH d0 d1 s th 25 obj arg tries) kP=Gl d0 s th 25 obj arg tries o c dn g r v:=kH H (u:=aDm) (by kernel_rfl) (by kernel_rfl) (by kernel_rfl) (by kernel_rfl) (aFF H)
theorem o16 (H:TH d0 d1 s th 16 obj arg tries o c dn g r v):eG (dH d0 d1 s th 16 obj arg tries) kP=Gl d0 s th 16 obj arg tries o c dn g r v:=kH H (u:=aDl) (by kernel_rfl) (by kernel_rfl) (by kernel_rfl) (by kernel_rfl) (aFE H)
theorem o26 (H:TH d0 d1 s th 26 obj arg tries o c dn g r v):eG (dH d0 d1 s th 26 obj arg tries) kP=Gl d0 s th 26 obj arg tries o c dn g r v:=kH H (u:=aDk) (by kernel_rfl) (by kernel_rfl) (by kernel_rfl) (by kernel_rfl) (aFD H)
theorem atY (H:TH d0 d1 s th op obj arg tries o c dn g r v) (hop:op∈ops):L 400 [enc d0,enc d1,enc s,th,op,obj,arg,tries]=some (outA s th op obj (Mx d0 obj) (act (Mx d0 obj) (Mo d0 s obj) th op arg tries o c dn g r v)):=by
 rw [aQ,aC4]
 suffices h:eG (dH d0 d1 s th op obj arg tries) kP=Gl d0 s th op obj arg tries o c dn g r v by rw [h]; rfl
 unfold ops at hop;simp only [List.mem_cons,List.not_mem_nil,or_false] at hop;rcases hop with rfl | rfl | rfl | rfl | rfl | rfl | rfl | rfl | rfl | rfl | rfl | rfl | rfl | rfl | rfl | rfl | rfl | rfl | rfl | rfl | rfl | rfl | rfl | rfl | rfl | rfl
 ·exact o1 H
 ·exact o2 H
 ·exact o8 H
 ·exact o3 H
 ·exact o4 H
 ·exact o5 H
 ·exact o6 H
 ·exact o7 H
 ·exact o9 H
 ·exact o11 H
 ·exact o10 H
 ·exact o17 H
 ·exact o18 H
 ·exact o19 H
 ·exact o22 H
 ·exact o23 H
 ·exact o20 H
 ·exact o21 H
 ·exact o12 H
 ·exact o13 H
 ·exact o14 H
 ·exact o24 H
 ·exact o15 H
 ·exact o25 H
 ·exact o16 H
 ·exact o26 H
end
end Go.As.Try
end
section
namespace Go.As.Try
open Go hiding Stat Spec shape
open Go.As
set_option maxRecDepth 100000
abbrev amX:T Lf:=ou [.op .set (bC 2) (thg (mk (bC 3)) (mk (bC 4)) bt (mk (bC 6)) (bC 7) (bC 8)),.lit 0,.lit 0,.lit 0,.lit 0,.lit 0,.lit 0]
abbrev Ya (a:Int):List SB:=[.eq (a0 9000 [.aP 5,.aP 2]) (.lit 1),.eq (bC 0) (.lit a),.eq (a0 350 [.aP 0,.aP 1,.aP 2]) (.lit 1)]
abbrev Na (a:Int):List SB:=([0,1,2,3,4,5].filter fun j=>!(j == a)).map fun j=> .eq (bC 0) (.lit j)
abbrev r3:SB:=.eq (rr 350 [.aP 0,.aP 1,.aP 2] 0) (.lit 0)
abbrev t3:SB:=.lt (.aP 3) (.lit 0)
abbrev u3:SB:=.lt (.aP 3) (ln (.aP 1))
section
variable {d0 d1 s r v:D} {th op obj arg tries o c dn g b kop a:Int} (hR:L 350 [enc d0,enc d1,enc s]=some [b])
include hR
theorem fa {l:List Int} (hc:L 9000 [obj,enc s]=some (a :: l)):zY (dH d0 d1 s th op obj arg tries) (Ya a)∧zW (dH d0 d1 s th op obj arg tries) (Na a):=by refine⟨by simp only [zz,hc,hR],aiU fun c hc'=>?_⟩;obtain⟨j,hj,rfl⟩:=List.mem_map.1 hc';have:=(List.mem_filter.1 hj).2;simp only [zz,hc];intro h;subst h;simp at this
theorem xM (k:eG (dH d0 d1 s th op obj arg tries) kP= .out [enc s,0,0,0,0,0,0]):L 400 [enc d0,enc d1,enc s,th,op,obj,arg,tries]=some [enc s,0,0,0,0,0,0]:=by rw [aQ,aC4];exact congrArg (fin L) k
section
variable (ha:a=3∨a=4∨a=5∨a=6) (hcp:L 9000 [obj,enc s]=some [a,obj,enc s,o,c,dn,g,enc r,enc v]) (CB:0≤obj) (Cm:obj < (s.l.length:Int)) (hd:dn=0∨dn=1) (hs:s=dL (eF s.l obj (dL [.i o,.i c,.i dn,.i g,r,v])))
include ha hcp CB Cm hd hs
omit ha hR CB Cm in
theorem La:eG (dH d0 d1 s th op obj arg tries) amX= .out [enc s,0,0,0,0,0,0]:=by
 have e:(if dn=0 then (0:Int) else 1)=dn:=by rcases hd with rfl | rfl <;> rfl
 simp only [dL] at hs;simp only [zz,hcp,e,← hs]
theorem aFS (h:b=0):L 400 [enc d0,enc d1,enc s,th,op,obj,arg,tries]=some [enc s,0,0,0,0,0,0]:=
 xM hR (bV (Ya a++ [r3]) (Na a++ []) amX (z2 (fa hR hcp) (by simp only [zz,hcp,hR] <;> omega)) (by rcases ha with rfl | rfl | rfl | rfl <;> kernel_rfl) (La hcp hd hs))
theorem aFR (hb:b≠0) (h:th < 0):L 400 [enc d0,enc d1,enc s,th,op,obj,arg,tries]=some [enc s,0,0,0,0,0,0]:=
 xM hR (bV (Ya a++ [t3]) (Na a++ [r3]) amX (z2 (fa hR hcp) (by simp only [zz,hcp,hR] <;> omega)) (by rcases ha with rfl | rfl | rfl | rfl <;> kernel_rfl) (La hcp hd hs))
theorem aFQ (hb:b≠0) (h0:0≤th) (h: ¬th < (d1.l.length:Int)):L 400 [enc d0,enc d1,enc s,th,op,obj,arg,tries]=some [enc s,0,0,0,0,0,0]:=
 xM hR (bV (Ya a++ []) (Na a++ [r3,t3,u3]) amX (z2 (fa hR hcp) (by simp only [zz,hcp,hR] <;> omega)) (by rcases ha with rfl | rfl | rfl | rfl <;> kernel_rfl) (La hcp hd hs))
theorem aFT (hb:b≠0) (h0:0≤th) (h:th < (d1.l.length:Int)) (hk:L 600 [op]=some [kop]) (hlen:s.l.length=d0.l.length) (hne: ¬kop=((d0.at obj).hd 0).n):L 400 [enc d0,enc d1,enc s,th,op,obj,arg,tries]=some [enc s,0,0,0,0,0,0]:=
 xM hR (bV (Ya a++ [u3,.lt (.aP 5) (ln (bC 2)),.eq (a0 600 [.aP 4]) (.lit 1),.lt (.aP 5) (ln (.aP 0))]) (Na a++ [r3,t3,.lt (.aP 5) (.lit 0),.eq (rr 600 [.aP 4] 0) (nm (ce 0 (el (.aP 0) (.aP 5))))]) amX (z2 (fa hR hcp) (by simp only [zz,hcp,hR,hk] <;> omega)) (by rcases ha with rfl | rfl | rfl | rfl <;> kernel_rfl) (La hcp hd hs))
end
theorem aD5 (hcp:L 9000 [obj,enc s]=some [0,obj,enc s]) (h:obj < 0):L 400 [enc d0,enc d1,enc s,th,op,obj,arg,tries]=some [enc s,0,0,0,0,0,0]:=
 xM hR (bV (Ya 0++ [.lt (.aP 5) (.lit 0)]) (Na 0++ []) (sp r3 (ou [bC 2,.lit 0,.lit 0,.lit 0,.lit 0,.lit 0,.lit 0]) (sp t3 (ou [bC 2,.lit 0,.lit 0,.lit 0,.lit 0,.lit 0,.lit 0]) (sp u3 (ou [bC 2,.lit 0,.lit 0,.lit 0,.lit 0,.lit 0,.lit 0]) (ou [bC 2,.lit 0,.lit 0,.lit 0,.lit 0,.lit 0,.lit 0])))) (z2 (fa hR hcp) (by simp only [zz,hcp] <;> omega)) (by kernel_rfl) (by simp only [zz,hcp,hR,ite_self]))
theorem aD4 (hcp:L 9000 [obj,enc s]=some [0,obj,enc s]) (h0:0≤obj) (h: ¬obj < (s.l.length:Int)):L 400 [enc d0,enc d1,enc s,th,op,obj,arg,tries]=some [enc s,0,0,0,0,0,0]:=
 xM hR (bV (Ya 0++ []) (Na 0++ [.lt (.aP 5) (.lit 0),.lt (.aP 5) (ln (bC 2))]) (sp r3 (ou [bC 2,.lit 0,.lit 0,.lit 0,.lit 0,.lit 0,.lit 0]) (sp t3 (ou [bC 2,.lit 0,.lit 0,.lit 0,.lit 0,.lit 0,.lit 0]) (sp u3 (ou [bC 2,.lit 0,.lit 0,.lit 0,.lit 0,.lit 0,.lit 0]) (ou [bC 2,.lit 0,.lit 0,.lit 0,.lit 0,.lit 0,.lit 0])))) (z2 (fa hR hcp) (by simp only [zz,hcp] <;> omega)) (by kernel_rfl) (by simp only [zz,hcp,hR,ite_self]))
theorem aD3 (hcp:L 9000 [obj,enc s]=some [1,obj]) (h:obj < 0) (hs:s= .i 1):L 400 [enc d0,enc d1,enc s,th,op,obj,arg,tries]=some [enc s,0,0,0,0,0,0]:=
 xM hR (bV (Ya 1++ [.lt (.aP 5) (.lit 0)]) (Na 1++ []) (sp r3 (ou [.dat (.i 1),.lit 0,.lit 0,.lit 0,.lit 0,.lit 0,.lit 0]) (sp t3 (ou [.dat (.i 1),.lit 0,.lit 0,.lit 0,.lit 0,.lit 0,.lit 0]) (sp u3 (ou [.dat (.i 1),.lit 0,.lit 0,.lit 0,.lit 0,.lit 0,.lit 0]) (ou [.dat (.i 1),.lit 0,.lit 0,.lit 0,.lit 0,.lit 0,.lit 0])))) (z2 (fa hR hcp) (by simp only [zz,hcp] <;> omega)) (by kernel_rfl) (by simp only [zz,hcp,hR,hs,ite_self]))
theorem aD2 (hcp:L 9000 [obj,enc s]=some [1,obj]) (h0:0≤obj) (h: ¬obj < (s.l.length:Int)) (hs:s= .i 1):L 400 [enc d0,enc d1,enc s,th,op,obj,arg,tries]=some [enc s,0,0,0,0,0,0]:=
 xM hR (bV (Ya 1++ []) (Na 1++ [.lt (.aP 5) (.lit 0)]) (sp r3 (ou [.dat (.i 1),.lit 0,.lit 0,.lit 0,.lit 0,.lit 0,.lit 0]) (sp t3 (ou [.dat (.i 1),.lit 0,.lit 0,.lit 0,.lit 0,.lit 0,.lit 0]) (sp u3 (ou [.dat (.i 1),.lit 0,.lit 0,.lit 0,.lit 0,.lit 0,.lit 0]) (ou [.dat (.i 1),.lit 0,.lit 0,.lit 0,.lit 0,.lit 0,.lit 0])))) (z2 (fa hR hcp) (by simp only [zz,hcp] <;> omega)) (by kernel_rfl) (by simp only [zz,hcp,hR,hs,ite_self]))
theorem aD1 (hcp:L 9000 [obj,enc s]=some [2,obj]) (h:obj < 0) (hs:s= .i 2):L 400 [enc d0,enc d1,enc s,th,op,obj,arg,tries]=some [enc s,0,0,0,0,0,0]:=
 xM hR (bV (Ya 2++ [.lt (.aP 5) (.lit 0)]) (Na 2++ []) (sp r3 (ou [.dat (.i 2),.lit 0,.lit 0,.lit 0,.lit 0,.lit 0,.lit 0]) (sp t3 (ou [.dat (.i 2),.lit 0,.lit 0,.lit 0,.lit 0,.lit 0,.lit 0]) (sp u3 (ou [.dat (.i 2),.lit 0,.lit 0,.lit 0,.lit 0,.lit 0,.lit 0]) (ou [.dat (.i 2),.lit 0,.lit 0,.lit 0,.lit 0,.lit 0,.lit 0])))) (z2 (fa hR hcp) (by simp only [zz,hcp] <;> omega)) (by kernel_rfl) (by simp only [zz,hcp,hR,hs,ite_self]))
theorem aD0 (hcp:L 9000 [obj,enc s]=some [2,obj]) (h0:0≤obj) (h: ¬obj < (s.l.length:Int)) (hs:s= .i 2):L 400 [enc d0,enc d1,enc s,th,op,obj,arg,tries]=some [enc s,0,0,0,0,0,0]:=
 xM hR (bV (Ya 2++ []) (Na 2++ [.lt (.aP 5) (.lit 0)]) (sp r3 (ou [.dat (.i 2),.lit 0,.lit 0,.lit 0,.lit 0,.lit 0,.lit 0]) (sp t3 (ou [.dat (.i 2),.lit 0,.lit 0,.lit 0,.lit 0,.lit 0,.lit 0]) (sp u3 (ou [.dat (.i 2),.lit 0,.lit 0,.lit 0,.lit 0,.lit 0,.lit 0]) (ou [.dat (.i 2),.lit 0,.lit 0,.lit 0,.lit 0,.lit 0,.lit 0])))) (z2 (fa hR hcp) (by simp only [zz,hcp] <;> omega)) (by kernel_rfl) (by simp only [zz,hcp,hR,hs,ite_self]))
end
end Go.As.Try
end
section
namespace Go.As.Try
open Go hiding Stat Spec shape
open Go.As
set_option maxRecDepth 100000
def kindOf (o:Int):Int:=if o < 27 then (if o=0 then 0 else if o=1 then 1 else if o=2 then 1 else if o=3 then 1 else if o=4 then 1 else if o=5 then 2 else if o=6 then 2 else if o=7 then 2 else if o=8 then 2 else if o=9 then 3 else if o=10 then 3 else if o=11 then 3 else if o=12 then 4 else if o=13 then 4 else if o=14 then 4 else if o=15 then 5 else if o=16 then 6 else if o=17 then 7 else if o=18 then 7 else if o=19 then 7 else if o=20 then 8 else if o=21 then 8 else if o=22 then 9 else if o=23 then 9 else if o=24 then 4 else if o=25 then 5 else 6) else 0
theorem Xz (o:Int) (h:iI .u8 o):L 600 [o]=some [kindOf o]:=by
 have h1:=h.1;have w:=aDx h;have c1: ¬(o < 0):=by omega
 rw [aQ,aFo];simp only [aBu,zz,w,c1];by_cases h27:o < 27
 ·simp only [if_pos h27];have:o=0∨o=1∨o=2∨o=3∨o=4∨o=5∨o=6∨o=7∨o=8∨o=9∨o=10∨o=11∨o=12∨o=13∨o=14∨o=15∨o=16∨o=17∨o=18∨o=19∨o=20∨o=21∨o=22∨o=23∨o=24∨o=25∨o=26:=by omega
  rcases this with rfl | rfl | rfl | rfl | rfl | rfl | rfl | rfl | rfl | rfl | rfl | rfl | rfl | rfl | rfl | rfl | rfl | rfl | rfl | rfl | rfl | rfl | rfl | rfl | rfl | rfl | rfl
  all_goals rfl
 ·simp only [if_neg h27];unfold kindOf;rw [if_neg h27];rfl
theorem anR {o:Int} (h0:0≤o) (h:kindOf o≠0):o∈ops:=by
 have h27:o < 27:=by refine Decidable.byContradiction fun hn=>h ?_;unfold kindOf;rw [if_neg hn]
 have:o=0∨o=1∨o=2∨o=3∨o=4∨o=5∨o=6∨o=7∨o=8∨o=9∨o=10∨o=11∨o=12∨o=13∨o=14∨o=15∨o=16∨o=17∨o=18∨o=19∨o=20∨o=21∨o=22∨o=23∨o=24∨o=25∨o=26:=by omega
 rcases this with rfl | rfl | rfl | rfl | rfl | rfl | rfl | rfl | rfl | rfl | rfl | rfl | rfl | rfl | rfl | rfl | rfl | rfl | rfl | rfl | rfl | rfl | rfl | rfl | rfl | rfl | rfl
 all_goals first | exact absurd rfl h | decide
structure Acc (d0 d1 s:D) (th op obj:Int):Prop where
 r:L 350 [enc d0,enc d1,enc s]=some [1]
 t0:0≤th
 t1:th < (d1.l.length:Int)
 o0:0≤obj
 o1:obj < (s.l.length:Int)
 k:kindOf op=((d0.at obj).hd 0).n
structure Tg (x:D) (o c dn g:Int) (r v:D):Prop where
 is:x=dL [.i o,.i c,.i dn,.i g,r,v]
 ho:iI .i64 o
 hc:iI .i64 c
 hd:dn=0∨dn=1
 hg:iI .i64 g
 hr:Wd (.sl 0) r
 hv:Wd (.sl 0) v
theorem FU {x:D} (h:DT x): ∃o c dn g r v,Tg x o c dn g r v:=by obtain⟨o,c,d,g,r,v,h1,h2,h3,h4,h5,h6,h7⟩:=h;exact⟨o,c,d,g,r,v,h1,h2,h3,h4,h5,h6,h7⟩
theorem atV {r:D} (h:Wd (.sl 0) r): ∀x∈r.l,x= .i x.n:=by intro x hx;obtain⟨n,rfl,_⟩:=(h.el1 rfl x hx).i;rfl
def few (s:D):Prop:= ∀x∈s.l,(x.hd 4).l.length < 17592186044415∧(x.hd 5).l.length < 17592186044415
theorem few.rows {s:D} (h:few s):IJ s:=fun x hx=>by have:=(h x hx).1; omega
section
variable {d0 d1 s:D} {th op obj arg tries:Int} (h0:Wd (.sl 3) d0) (h1:Wd (.sl 4) d1) (hs:Wd (.sl 7) s) (hf:few s) (hop:iI .u8 op)
include h0 h1 hf in
theorem Ns (h:L 350 [enc d0,enc d1,enc s]=some [1]):EY d0 d1∧s.l.length=d0.l.length:=by obtain⟨b,hb,_,hi⟩:=pK h0 h1 hf.rows;rw [h] at hb;simp only [Option.some.injEq,List.cons.injEq,and_true] at hb;obtain⟨hC,hle,_⟩:=hi.1 hb.symm;obtain⟨ys,hC',c,rfl,_,hok⟩:=Ec h0 h1;rw [hC] at hC';simp only [Option.some.injEq,List.cons.injEq,and_true] at hC';exact⟨(hok hC'.symm).1,hle⟩
include h0 h1 hf in
theorem afS (A:Acc d0 d1 s th op obj):amQ d0 (d0.at obj)∧s.l.length=d0.l.length:=by
 obtain⟨hok,hle⟩:=Ns h0 h1 hf A.r;refine⟨?_,hle⟩;have a1:=A.o0; have a2:=A.o1;obtain⟨i,rfl⟩ : ∃i:Nat,obj=(i:Int):=⟨obj.toNat,by omega⟩;have hi:i < d0.l.length:=by omega
 rw [aX hi];exact hok.2.2 _ (List.getElem_mem hi)
include h0 h1 hs hf hop
theorem PY (A:Acc d0 d1 s th op obj) (h:op=12∨op=24):0≤Mx d0 obj∧Mx d0 obj < (s.l.length:Int)∧Mx d0 obj≠obj:=by
 obtain⟨ho,hle⟩:=afS h0 h1 hf A
 have h4:((d0.at obj).hd 0).n=4:=by rw [← A.k];rcases h with rfl | rfl <;> rfl
 obtain⟨m1,m2,m3⟩:=ho.2.2.2.2.2 h4;refine⟨m1,by rw [hle]; exact m2,fun he=>?_⟩;have he:((d0.at obj).hd 2).n=obj:=he;rw [he,h4] at m3;omega
theorem KO (A:Acc d0 d1 s th op obj):op∈ops∧∃o c dn g r v,Tg (s.at obj) o c dn g r v∧
 L 400 [enc d0,enc d1,enc s,th,op,obj,arg,tries]=some (outA s th op obj (Mx d0 obj) (act (Mx d0 obj) (Mo d0 s obj) th op arg tries o c dn g r v)):=by
 obtain⟨ho,hle⟩:=afS h0 h1 hf A;have hin:op∈ops:=anR hop.1 (by rw [A.k]; have:=ho.1; omega);have a1:=A.o0; have a2:=A.o1;obtain⟨i,rfl⟩ : ∃i:Nat,obj=(i:Int):=⟨obj.toNat,by omega⟩;have hi:i < s.l.length:=by omega
 have ht:=FV hs (by omega);obtain⟨o,c,dn,g,r,v,T⟩:=FU (hs.thing _ (List.getElem_mem hi));have hfx:=hf _ (List.getElem_mem hi);rw [T.is] at hfx;have hkk:L 600 [op]=some [((d0.at (i:Int)).hd 0).n]:=by rw [Xz op hop,A.k]
 refine⟨hin,o,c,dn,g,r,v,by rw [aX hi]; exact T,?_⟩;refine atY ⟨aA1 s ht i hi o c dn g r v T.is,asP s hs,A.r,A.t0,A.t1,A.o0,A.o1,hle,hkk,?_,?_,(atV T.hr),fun h=>PY h0 h1 hs hf hop A h⟩ hin
 ·have:(r.l.length:Int) < 17592186044415:=Int.ofNat_lt.2 hfx.1;exact this
 ·have:(v.l.length:Int) < 17592186044415:=Int.ofNat_lt.2 hfx.2;exact this
theorem Un (A: ¬Acc d0 d1 s th op obj):L 400 [enc d0,enc d1,enc s,th,op,obj,arg,tries]=some [enc s,0,0,0,0,0,0]:=by
 obtain⟨b,hb,hb2,_⟩:=pK h0 h1 hf.rows;by_cases ho:0≤obj∧obj < (s.l.length:Int)
 ·obtain⟨i,rfl⟩ : ∃i:Nat,obj=(i:Int):=⟨obj.toNat,by omega⟩;have hi:i < s.l.length:=by omega
  have ht:=FV hs (by omega);obtain⟨o,c,dn,g,r,v,T⟩:=FU (hs.thing _ (List.getElem_mem hi));have hcp:=aA1 s ht i hi o c dn g r v T.is
  have hss:s=dL (eF s.l (i:Int) (dL [.i o,.i c,.i dn,.i g,r,v])):=by have:=set_self ht.sh hi;rw [T.is] at this;exact this.symm
  have hkk:=Xz op hop
  have key: ∀alt:Int,(alt=3∨alt=4∨alt=5∨alt=6)→L 9000 [(i:Int),enc s]=some [alt,(i:Int),enc s,o,c,dn,g,enc r,enc v]→L 400 [enc d0,enc d1,enc s,th,op,(i:Int),arg,tries]=some [enc s,0,0,0,0,0,0]:=by
   intro alt ha hcp;by_cases hb0:b=0
   ·exact aFS hb ha hcp ho.1 ho.2 T.hd hss hb0
   ·have hb1:b=1:=by omega
    by_cases t0:th < 0
    ·exact aFR hb ha hcp ho.1 ho.2 T.hd hss hb0 t0
    ·by_cases t1:th < (d1.l.length:Int)
     ·have hne: ¬kindOf op=((d0.at (i:Int)).hd 0).n:=fun hk=>A ⟨by rw [hb,hb1],by omega,t1,ho.1,ho.2,hk⟩;obtain⟨_,hle⟩:=Ns h0 h1 hf (by rw [hb,hb1]);exact aFT hb ha hcp ho.1 ho.2 T.hd hss hb0 (by omega) t1 hkk hle hne
     ·exact aFQ hb ha hcp ho.1 ho.2 T.hd hss hb0 (by omega) t1
  refine key _ ?_ hcp;unfold pG;split <;> split <;> simp
 ·obtain⟨ys,hc,hys⟩:=copyN s hs obj (by omega);by_cases hn:obj < 0
  ·rcases hys with rfl | ⟨rfl,he⟩ | ⟨rfl,he⟩
   ·exact aD5 hb hc hn
   ·exact aD3 hb hc hn he
   ·exact aD1 hb hc hn he
  ·rcases hys with rfl | ⟨rfl,he⟩ | ⟨rfl,he⟩
   ·exact aD4 hb hc (by omega) (by omega)
   ·exact aD2 hb hc (by omega) (by omega) he
   ·exact aD0 hb hc (by omega) (by omega) he
end
end Go.As.Try
end
section
namespace Go.As.Try
open Go hiding Stat Spec shape
open Go.As
set_option maxRecDepth 100000
theorem KL {d:D} {l:List D} (h: ∀x∈l,∃n,x= .i n∧iI .i64 n) (hl:l.length≤17592186043904):Wd (.sl 0) (dN d l):=by
 cases l with
 | nil=>
   show Wd (.sl 0) (if d= .i 1 then .i 1 else .i 2);split
   ·exact .nil 0
   ·exact .non 0
 | cons a l=> refine .one 0 (.int .i64) (a :: l) rfl (by simp) (by have:wG 0=8:=rfl; rw [this]; omega) fun x hx=>?_;obtain⟨n,rfl,hn⟩:=h x hx;exact .int _ _ hn
theorem Du {l:List D} (h: ∀x∈l,∃n,x= .i n∧iI .i64 n) (hn:l≠[]) (hl:l.length≤17592186043904):Wd (.sl 0) (dL l):=by rw [← yY (d:=.i 2) hn];exact KL h hl
theorem zJ {r:D} (h:Wd (.sl 0) r): ∀x∈r.l,∃n,x= .i n∧iI .i64 n:=fun x hx=>(h.el1 rfl x hx).i
theorem wrap_in (z:Int):iI .i64 (IntKind.i64.wrap z):=by constructor <;> (rw [IntKind.wrap_i64]; omega)
def QA (n:Nat):Act→Prop
 | .res o c dn g r v m _ oc=>iI .i64 o∧iI .i64 c∧(dn=0∨dn=1)∧iI .i64 g∧Wd (.sl 0) r∧r.l.length≤n∧Wd (.sl 0) v∧v.l.length≤n∧(∀q,m=some q→iI .i64 q)∧(oc=2∨oc=3)
 | _=>True
theorem QA.ite {n:Nat} {p:Prop} [Decidable p] {a b:Act} (ha:QA n a) (hb:QA n b):QA n (if p then a else b):=by
 split
 ·exact ha
 ·exact hb
def NoM:Act→Prop
 | .res _ _ _ _ _ _ m _ _=>m=none
 | _=>True
theorem NoM.ite {p:Prop} [Decidable p] {a b:Act} (ha:NoM a) (hb:NoM b):NoM (if p then a else b):=by
 split
 ·exact ha
 ·exact hb
section
variable {x:D} {M mo th op arg tries o c dn g:Int} {r v:D}
theorem atJ (T:Tg x o c dn g r v) {n:Nat} (hr:r.l.length≤n) (hv:v.l.length≤n) (hn:n < 17592186043904) (ht:iI .i64 th) (ha:iI .i64 arg):QA (n+1) (act M mo th op arg tries o c dn g r v):=by
 have hm:iI .i64 (-1):=⟨by omega,by omega⟩;have hz:iI .i64 0:=⟨by omega,by omega⟩;have e1: ∀q:Int,(none:Option Int)=some q→iI .i64 q:=fun q h=>by simp at h
 have e2: ∀{p:Int},iI .i64 p→∀q:Int,some p=some q→iI .i64 q:=fun hp q h=>by simp only [Option.some.injEq] at h; exact h▸hp
 have hr1:r.l.length≤n+1:=by omega
 have hv1:v.l.length≤n+1:=by omega
 have w:=@wrap_in
 have sn: ∀{l:List D} {t:Int},(∀x∈l,∃n,x= .i n∧iI .i64 n)→iI .i64 t→∀x∈l++ [.i t],∃n,x= .i n∧iI .i64 n:=fun h ht x hx=>by
  rcases List.mem_append.1 hx with hx | hx
  ·exact h x hx
  ·simp only [List.mem_cons,List.not_mem_nil,or_false] at hx;exact⟨_,hx,ht⟩
 have r5:Wd (.sl 0) (dL (r.l++ [.i th])):=Du (sn (zJ T.hr) ht) (by simp) (by simp; omega);have l5:(dL (r.l++ [.i th])).l.length≤n+1:=by rw [aT]; simp; omega
 have r20:Wd (.sl 0) (dL (v.l++ [.i arg])):=Du (sn (zJ T.hv) ha) (by simp) (by simp; omega);have l20:(dL (v.l++ [.i arg])).l.length≤n+1:=by rw [aT]; simp; omega
 have r12:Wd (.sl 0) (dL (wo th r.l++ [.i th])):=Du (sn (fun x hx=>(zJ T.hr) x (List.mem_filter.1 hx).1) ht) (by simp) (by have:=aiY th r.l; simp; omega);have l12:(dL (wo th r.l++ [.i th])).l.length≤n+1:=by have:=aiY th r.l; rw [aT]; simp; omega
 have r6: ∀k,Wd (.sl 0) (dN (.i 2) (r.l.take k++r.l.drop (k+1))):=fun k=>KL (fun x hx=>by
  rcases List.mem_append.1 hx with hx | hx
  ·exact (zJ T.hr) x (List.mem_of_mem_take hx)
  ·exact (zJ T.hr) x (List.mem_of_mem_drop hx)) (by simp only [List.length_append,List.length_take,List.length_drop]; omega)
 have l6: ∀k,(dN (.i 2) (r.l.take k++r.l.drop (k+1))).l.length≤n+1:=fun k=>by rw [gJ]; simp only [List.length_append,List.length_take,List.length_drop]; omega
 have r21:Wd (.sl 0) (dN v (v.l.drop 1)):=KL (fun x hx=>(zJ T.hv) x (List.mem_of_mem_drop hx)) (by simp; omega);have l21:(dN v (v.l.drop 1)).l.length≤n+1:=by rw [gJ]; simp; omega
 have r13:Wd (.sl 0) (dN r (r.l.drop 1)):=KL (fun x hx=>(zJ T.hr) x (List.mem_of_mem_drop hx)) (by simp; omega);have l13:(dN r (r.l.drop 1)).l.length≤n+1:=by rw [gJ]; simp; omega
 have r14:Wd (.sl 0) (.i 1):=.nil 0;have l14:(D.i 1).l.length≤n+1:=by simp [D.l]
 unfold act
 repeat' refine QA.ite ?_ ?_
 all_goals first
  | trivial
  | exact⟨by first | exact T.ho | exact ht | exact hm,by first | exact T.hc | exact w _ | exact ha | exact hz,by first | exact T.hd | exact .inr rfl,by first | exact T.hg | exact w _,by first | exact T.hr | exact r5 | exact r6 _ | exact r12 | exact r13 | exact r14,by first | exact hr1 | exact l5 | exact l6 _ | exact l12 | exact l13 | exact l14,by first | exact T.hv | exact r20 | exact r21,by first | exact hv1 | exact l20 | exact l21,by first | exact e1 | exact e2 hm | exact e2 ht,by first | exact .inl rfl | exact .inr rfl⟩
theorem TW (h12:op≠12) (h24:op≠24):NoM (act M mo th op arg tries o c dn g r v):=by
 unfold act;rw [if_neg h12,if_neg h24]
 repeat' refine NoM.ite ?_ ?_
 all_goals first
  | exact rfl
  | trivial
end
end Go.As.Try
end
section
namespace Go.As.Try
open Go hiding Stat Spec shape
open Go.As
set_option maxRecDepth 100000
def isN (ys:List Int):Prop:= ∃v:Int,ys= [v]∧iI .i64 v
theorem anX:isN [0]:=⟨0,rfl,by constructor <;> omega⟩
theorem anW:isN [1]:=⟨1,rfl,by constructor <;> omega⟩
theorem azX (z:Int):isN [IntKind.i64.wrap z]:=⟨_,rfl,wrap_in z⟩
theorem Nh: ∀{d x:D},x∈d.l→SizeOf.sizeOf x < SizeOf.sizeOf d
 | .i _,x,h=>by simp [D.l] at h
 | .p a b,x,h=>by
   simp only [D.l,List.mem_cons] at h;rcases h with rfl | h
   ·simp only [D.p.sizeOf_spec]; omega
   ·have:=Nh (d:=b) h;simp only [D.p.sizeOf_spec]; omega
def Nums (l:List D):Prop:= ∀y∈l,iI .i64 (asE y).n
theorem amY:Nums []:=fun y h=>by simp at h
theorem Gv: ∀{l:List D} {k v:D},Nums l→iI .i64 v.n→Nums (Cb l k v)
 | [],k,v,_,hv=>by intro y hy;simp only [Cb,List.mem_cons,List.not_mem_nil,or_false] at hy;subst hy;exact hv
 | d :: l,k,v,hl,hv=>by
   intro y hy;simp only [Cb] at hy;split at hy
   ·simp only [List.mem_cons] at hy;rcases hy with rfl | hy
    ·exact hv
    ·exact hl y (by simp [hy])
   ·simp only [List.mem_cons] at hy;rcases hy with rfl | hy
    ·exact hl _ (by simp)
    ·exact Gv (fun z hz=>hl z (by simp [hz])) hv y hy
theorem Xq: ∀{l:List D} {k:D},Nums l→iI .i64 ((oC l k).getD (.i 0)).n
 | [],k,_=>by constructor <;> simp [oC,D.n]
 | d :: l,k,hl=>by
   simp only [oC];split
   ·exact hl d (by simp)
   ·exact Xq fun y hy=>hl y (by simp [hy])
theorem awD {l:List D} {k:D} (h:Nums l):isN [((oC l k).getD (.i 0)).n]:=⟨_,rfl,Xq h⟩
def Ints (d:D):Prop:= ∀x∈d.l,iI .i64 x.n
theorem ints_at {d:D} (h:Ints d) {i:Int} (h0: ¬i < 0) (h1:i < (d.l.length:Int)):iI .i64 (d.at i).n:=by obtain⟨k,rfl⟩ : ∃k:Nat,i=(k:Int):=⟨i.toNat,by omega⟩;rw [aX (by omega:k < d.l.length)];exact h _ (List.getElem_mem _)
set_option maxHeartbeats 4000000 in
theorem XR: ∀(N:Nat) (kids:D),SizeOf.sizeOf kids≤N→Wd (.sl 6) kids→∀(k n:Int) (s loc:D),iI .i64 n→Ints loc→Tot 1950 [k,enc s,n,enc kids,enc loc] isN
 | 0,kids,hN,_,_,_,_,_,_,_=>by exfalso;cases kids <;> simp at hN
 | N+1,kids,hN,hk,k,n,s,loc,hn,hi=>by
   have sub: ∀i:Nat,∃v:Int,iI .i64 v∧(i < kids.l.length→L 1950 [((kids.at (i:Int)).hd 0).n,enc ((kids.at (i:Int)).hd 1),((kids.at (i:Int)).hd 2).n,enc ((kids.at (i:Int)).hd 3),enc loc]=some [v]):=by
    intro i;by_cases hil:i < kids.l.length
    ·obtain⟨k',s',n',ks',he,_,_,hn',h2⟩:=DZ hk hil
     have hsz:SizeOf.sizeOf ks' < SizeOf.sizeOf kids.l[i]:=by rw [he];exact Nh (by rw [aT]; simp)
     have hsz2:=Nh (List.getElem_mem hil);obtain⟨ys,hL,v,rfl,hv⟩:=XR N ks' (by omega) h2 k' n' s' loc hn' hi;refine⟨v,hv,fun _=>?_⟩;rw [aX hil,he];simp only [zg,Option.getD_some];exact hL
    ·exact⟨0,by constructor <;> omega,fun h=>absurd h hil⟩
   obtain⟨v0,hv0,h0⟩:=sub 0;obtain⟨v1,hv1,h1⟩:=sub 1;by_cases l1:(kids.l.length:Int)=1
   ·have h0:=h0 (by omega);simp only [Int.natCast_zero] at h0;refine Tot.of ?_;rw [aeU];simp only [WT,zz,l1,h0]
    repeat' first | exact .out ⟨_,rfl,hn⟩ | exact .out anX | exact .out anW | exact .out (azX _) | exact .out ⟨_,rfl,ints_at hi ‹_› ‹_›⟩ | refine .ite (fun _=>?_) (fun _=>?_)
   ·by_cases l2:(kids.l.length:Int)=2
    ·have h0:=h0 (by omega);have h1:=h1 (by omega);simp only [Int.natCast_zero,Int.natCast_one] at h0 h1;refine Tot.of ?_;rw [aeU];simp only [WT,zz,l1,l2,h0,h1]
     repeat' first | exact .out ⟨_,rfl,hn⟩ | exact .out anX | exact .out anW | exact .out (azX _) | exact .out ⟨_,rfl,ints_at hi ‹_› ‹_›⟩ | (simp only [aT]; exact .out (awD (Gv (Gv (Gv amY (wrap_in _)) (wrap_in _)) (wrap_in _)))) | refine .ite (fun _=>?_) (fun _=>?_)
    ·refine Tot.of ?_;rw [aeU];simp only [WT,zz,l1,l2]
     repeat' first | exact .out ⟨_,rfl,hn⟩ | exact .out anX | exact .out anW | exact .out ⟨_,rfl,ints_at hi ‹_› ‹_›⟩ | refine .ite (fun _=>?_) (fun _=>?_)
end Go.As.Try
end
section
namespace Go.As.Try
open Go hiding Stat Spec shape
open Go.As
set_option maxRecDepth 100000
structure Kt (x:D) (a:Int) (lc:D) (w o g tr:Int):Prop where
 is:x=dL [.i a,lc,.i w,.i o,.i g,.i tr]
 ha:iI .i64 a
 hl:Wd (.sl 0) lc
 hw:iI .u8 w
 ho:iI .i64 o
 hg:iI .i64 g
 ht:iI .i64 tr
theorem lJ {d:D} (h:Wd (.sl 8) d): ∀x∈d.l,∃a lc w o g tr,Kt x a lc w o g tr:=by intro x hx;obtain⟨r,rfl,hl,hc⟩:=h.elN (cs:=[.int .i64,.sl 0,.int .u8,.int .i64,.int .i64,.int .i64]) rfl x hx;obtain⟨a,b,c,d,e,f,rfl⟩:=six hl;obtain⟨a,rfl,ha⟩:=(hc 0 _ _ rfl rfl).i;obtain⟨w,rfl,hw⟩:=(hc 2 _ _ rfl rfl).i;obtain⟨o,rfl,ho⟩:=(hc 3 _ _ rfl rfl).i;obtain⟨g,rfl,hg⟩:=(hc 4 _ _ rfl rfl).i;obtain⟨t,rfl,ht⟩:=(hc 5 _ _ rfl rfl).i;exact⟨a,b,w,o,g,t,rfl,ha,hc 1 _ _ rfl rfl,hw,ho,hg,ht⟩
structure Tk (d:D):Prop where
 wd:Wd (.sl 8) d
 sh:d=dL d.l
 few:d.l.length≤2199023255500
theorem WJ {d:D} (h:Wd (.sl 8) d) (hn:0 < d.l.length):Tk d:=by
 refine⟨h,?_,?_⟩
 ·rcases h.sh with rfl | rfl | ⟨h1,_⟩
  ·simp [D.l] at hn
  ·simp [D.l] at hn
  ·exact h1
 ·have hr:=h.room;have h3:wG 8=64:=rfl;rw [h3] at hr;omega
theorem JB (a b c d e f x:D):eF [a,b,c,d,e,f] 1 x= [a,x,c,d,e,f]:=rfl
theorem aF (j:Nat) (xs:List Int):fin L (.jump j xs)=L j xs:=rfl
theorem bH (ys:List Int):fin L (.out ys)=some ys:=rfl
def FI (lc:D):Int:=if 0 < lc.l.length then 3 else 4
theorem YA {lc:D} (h:(0:Int) < (lc.l.length:Int)):FI lc=3:=if_pos (by omega)
theorem VY (d:D) (h:Th d) (x0:Int) (k:D): ∀(j i:Nat),i+j=d.l.length→L 9051 [x0,(d.l.length:Int),(i:Int),enc d,enc k]=L 9060 [x0,(k.l.length:Int),0,enc d,enc k]
 | 0,i,hi=>by
   have c1: ¬(i:Int) < (d.l.length:Int):=by omega
   rw [aQ,apS];simp only [abW,zz,c1,aF,Int.natCast_zero]
 | j+1,i,hi=>by
   have hl:=h.few;have hil:i < d.l.length:=by omega
   have c1:(i:Int) < (d.l.length:Int):=by omega
   have c2: ¬((i:Int) < 0):=by omega
   have w:=aZ (n:=i) (by omega);have ih:=VY d h x0 k j (i+1) (by omega);obtain⟨o,c,dn,g,r,v,he,_,_,_,_,hr,hv⟩:=h.wd.thing _ (List.getElem_mem hil);have hs:=set_self h.sh hil;rw [he] at hs;rw [aQ,apS];rcases bZ hr with rfl | rfl | ⟨r1,r2⟩ <;> rcases bZ hv with rfl | rfl | ⟨v1,v2⟩
   all_goals
    simp only [abW,zz,c1,c2,w,aX hil,he,iT,aT,List.getElem?_cons_zero,List.getElem?_cons_succ,UJ,UH,hs,len1,len2,yN,qJ]
    try simp only [r1,r2,zz]
    try simp only [v1,v2,zz]
    try simp only [aF]
    exact ih
theorem afD (d:D) (h:Th d) (x0:Int): ∀(j i:Nat),i+j=d.l.length→L 9052 [x0,(d.l.length:Int),(i:Int),enc d]=L 9061 [x0,enc d]
 | 0,i,hi=>by
   have c1: ¬(i:Int) < (d.l.length:Int):=by omega
   rw [aQ,apR];simp only [abV,zz,c1,aF,Int.natCast_zero]
 | j+1,i,hi=>by
   have hl:=h.few;have hil:i < d.l.length:=by omega
   have c1:(i:Int) < (d.l.length:Int):=by omega
   have c2: ¬((i:Int) < 0):=by omega
   have w:=aZ (n:=i) (by omega);have ih:=afD d h x0 j (i+1) (by omega);obtain⟨o,c,dn,g,r,v,he,_,_,_,_,hr,hv⟩:=h.wd.thing _ (List.getElem_mem hil);have hs:=set_self h.sh hil;rw [he] at hs;rw [aQ,apR];rcases bZ hr with rfl | rfl | ⟨r1,r2⟩ <;> rcases bZ hv with rfl | rfl | ⟨v1,v2⟩
   all_goals
    simp only [abV,zz,c1,c2,w,aX hil,he,iT,aT,List.getElem?_cons_zero,List.getElem?_cons_succ,UJ,UH,hs,len1,len2,yN,qJ]
    try simp only [r1,r2,zz]
    try simp only [v1,v2,zz]
    try simp only [aF]
    exact ih
theorem afJ (k:D) (h:Tk k) (x0:Int) (s:D): ∀(j i:Nat),(hx:x0 < 0∨(k.l.length:Int)≤x0)→i+j=k.l.length→L 9060 [x0,(k.l.length:Int),(i:Int),enc s,enc k]=some [0,x0,enc s,enc k]
 | 0,i,hx,hi=>by
   have c1: ¬(i:Int) < (k.l.length:Int):=by omega
   rw [aQ,Yd];by_cases c0:(i:Int)=x0
   ·subst c0;simp only [FY,zz,c1,bH]
   ·simp only [FY,zz,c0,c1,bH]
 | j+1,i,hx,hi=>by
   have hl:=h.few;have hil:i < k.l.length:=by omega
   have c1:(i:Int) < (k.l.length:Int):=by omega
   have c2: ¬((i:Int) < 0):=by omega
   have c0: ¬((i:Int)=x0):=by omega
   have w:=aZ (n:=i) (by omega);have ih:=afJ k h x0 s j (i+1) hx (by omega);obtain⟨a,lc,w',o,g,tr,T⟩:=lJ h.wd _ (List.getElem_mem hil);have hs:=set_self h.sh hil;rw [T.is] at hs;rw [aQ,Yd];rcases bZ T.hl with rfl | rfl | ⟨r1,r2⟩
   all_goals
    simp only [FY,zz,c0,c1,c2,w,aX hil,T.is,iT,aT,List.getElem?_cons_zero,List.getElem?_cons_succ,JB,hs,len1,len2,yN,qJ]
    try simp only [r1,r2,zz]
    try simp only [aF]
    exact ih
theorem afI (k:D) (h:Tk k) (x0:Int): ∀(j i:Nat),(hx:x0 < 0∨(k.l.length:Int)≤x0)→i+j=k.l.length→L 9063 [x0,(k.l.length:Int),(i:Int),enc k]=some [0,x0,enc (.i 1),enc k]
 | 0,i,hx,hi=>by
   have c1: ¬(i:Int) < (k.l.length:Int):=by omega
   rw [aQ,Yc];by_cases c0:(i:Int)=x0
   ·subst c0;simp only [FX,zz,c1,bH]
   ·simp only [FX,zz,c0,c1,bH]
 | j+1,i,hx,hi=>by
   have hl:=h.few;have hil:i < k.l.length:=by omega
   have c1:(i:Int) < (k.l.length:Int):=by omega
   have c2: ¬((i:Int) < 0):=by omega
   have c0: ¬((i:Int)=x0):=by omega
   have w:=aZ (n:=i) (by omega);have ih:=afI k h x0 j (i+1) hx (by omega);obtain⟨a,lc,w',o,g,tr,T⟩:=lJ h.wd _ (List.getElem_mem hil);have hs:=set_self h.sh hil;rw [T.is] at hs;rw [aQ,Yc];rcases bZ T.hl with rfl | rfl | ⟨r1,r2⟩
   all_goals
    simp only [FX,zz,c0,c1,c2,w,aX hil,T.is,iT,aT,List.getElem?_cons_zero,List.getElem?_cons_succ,JB,hs,len1,len2,yN,qJ]
    try simp only [r1,r2,zz]
    try simp only [aF]
    exact ih
theorem afH (k:D) (h:Tk k) (gi:Nat) (x4 x5 x6 x7 x8 x9:Int) (s:D): ∀(j i:Nat),gi < i→i+j=k.l.length→L 9069 [(gi:Int),(k.l.length:Int),(i:Int),enc s,enc k,x4,x5,x6,x7,x8,x9]=some [3,(gi:Int),enc s,enc k,x4,x5,x6,x7,x8,x9]
 | 0,i,hg,hi=>by
   have c1: ¬(i:Int) < (k.l.length:Int):=by omega
   have c0: ¬((i:Int)=(gi:Int)):=by omega
   rw [aQ,apQ];simp only [abU,zz,c0,c1,bH]
 | j+1,i,hg,hi=>by
   have hl:=h.few;have hil:i < k.l.length:=by omega
   have c1:(i:Int) < (k.l.length:Int):=by omega
   have c2: ¬((i:Int) < 0):=by omega
   have c0: ¬((i:Int)=(gi:Int)):=by omega
   have w:=aZ (n:=i) (by omega);have ih:=afH k h gi x4 x5 x6 x7 x8 x9 s j (i+1) (by omega) (by omega);obtain⟨a,lc,w',o,g,tr,T⟩:=lJ h.wd _ (List.getElem_mem hil);have hs:=set_self h.sh hil;rw [T.is] at hs;rw [aQ,apQ];rcases bZ T.hl with rfl | rfl | ⟨r1,r2⟩
   all_goals
    simp only [abU,zz,c0,c1,c2,w,aX hil,T.is,iT,aT,List.getElem?_cons_zero,List.getElem?_cons_succ,JB,hs,len1,len2,yN,qJ]
    try simp only [r1,r2,zz]
    try simp only [aF]
    exact ih
theorem V3 (k:D) (h:Tk k) (gi:Nat) (x4 x5 x6 x7 x8 x9:Int) (s:D): ∀(j i:Nat),gi < i→i+j=k.l.length→L 9070 [(gi:Int),(k.l.length:Int),(i:Int),enc s,enc k,x4,x5,x6,x7,x8,x9]=some [4,(gi:Int),enc s,enc k,x4,x5,x6,x7,x8,x9]
 | 0,i,hg,hi=>by
   have c1: ¬(i:Int) < (k.l.length:Int):=by omega
   have c0: ¬((i:Int)=(gi:Int)):=by omega
   rw [aQ,apP];simp only [abT,zz,c0,c1,bH]
 | j+1,i,hg,hi=>by
   have hl:=h.few;have hil:i < k.l.length:=by omega
   have c1:(i:Int) < (k.l.length:Int):=by omega
   have c2: ¬((i:Int) < 0):=by omega
   have c0: ¬((i:Int)=(gi:Int)):=by omega
   have w:=aZ (n:=i) (by omega);have ih:=V3 k h gi x4 x5 x6 x7 x8 x9 s j (i+1) (by omega) (by omega);obtain⟨a,lc,w',o,g,tr,T⟩:=lJ h.wd _ (List.getElem_mem hil);have hs:=set_self h.sh hil;rw [T.is] at hs;rw [aQ,apP];rcases bZ T.hl with rfl | rfl | ⟨r1,r2⟩
   all_goals
    simp only [abT,zz,c0,c1,c2,w,aX hil,T.is,iT,aT,List.getElem?_cons_zero,List.getElem?_cons_succ,JB,hs,len1,len2,yN,qJ]
    try simp only [r1,r2,zz]
    try simp only [aF]
    exact ih
theorem afG (k:D) (h:Tk k) (gi:Nat) (x4 x5 x6 x7 x8 x9:Int): ∀(j i:Nat),gi < i→i+j=k.l.length→L 9071 [(gi:Int),(k.l.length:Int),(i:Int),enc k,x4,x5,x6,x7,x8,x9]=some [3,(gi:Int),enc (.i 1),enc k,x4,x5,x6,x7,x8,x9]
 | 0,i,hg,hi=>by
   have c1: ¬(i:Int) < (k.l.length:Int):=by omega
   have c0: ¬((i:Int)=(gi:Int)):=by omega
   rw [aQ,apO];simp only [abS,zz,c0,c1,bH]
 | j+1,i,hg,hi=>by
   have hl:=h.few;have hil:i < k.l.length:=by omega
   have c1:(i:Int) < (k.l.length:Int):=by omega
   have c2: ¬((i:Int) < 0):=by omega
   have c0: ¬((i:Int)=(gi:Int)):=by omega
   have w:=aZ (n:=i) (by omega);have ih:=afG k h gi x4 x5 x6 x7 x8 x9 j (i+1) (by omega) (by omega);obtain⟨a,lc,w',o,g,tr,T⟩:=lJ h.wd _ (List.getElem_mem hil);have hs:=set_self h.sh hil;rw [T.is] at hs;rw [aQ,apO];rcases bZ T.hl with rfl | rfl | ⟨r1,r2⟩
   all_goals
    simp only [abS,zz,c0,c1,c2,w,aX hil,T.is,iT,aT,List.getElem?_cons_zero,List.getElem?_cons_succ,JB,hs,len1,len2,yN,qJ]
    try simp only [r1,r2,zz]
    try simp only [aF]
    exact ih
theorem VZ (k:D) (h:Tk k) (gi:Nat) (x4 x5 x6 x7 x8 x9:Int): ∀(j i:Nat),gi < i→i+j=k.l.length→L 9072 [(gi:Int),(k.l.length:Int),(i:Int),enc k,x4,x5,x6,x7,x8,x9]=some [4,(gi:Int),enc (.i 1),enc k,x4,x5,x6,x7,x8,x9]
 | 0,i,hg,hi=>by
   have c1: ¬(i:Int) < (k.l.length:Int):=by omega
   have c0: ¬((i:Int)=(gi:Int)):=by omega
   rw [aQ,apN];simp only [abR,zz,c0,c1,bH]
 | j+1,i,hg,hi=>by
   have hl:=h.few;have hil:i < k.l.length:=by omega
   have c1:(i:Int) < (k.l.length:Int):=by omega
   have c2: ¬((i:Int) < 0):=by omega
   have c0: ¬((i:Int)=(gi:Int)):=by omega
   have w:=aZ (n:=i) (by omega);have ih:=VZ k h gi x4 x5 x6 x7 x8 x9 j (i+1) (by omega) (by omega);obtain⟨a,lc,w',o,g,tr,T⟩:=lJ h.wd _ (List.getElem_mem hil);have hs:=set_self h.sh hil;rw [T.is] at hs;rw [aQ,apN];rcases bZ T.hl with rfl | rfl | ⟨r1,r2⟩
   all_goals
    simp only [abR,zz,c0,c1,c2,w,aX hil,T.is,iT,aT,List.getElem?_cons_zero,List.getElem?_cons_succ,JB,hs,len1,len2,yN,qJ]
    try simp only [r1,r2,zz]
    try simp only [aF]
    exact ih
theorem afF (k:D) (h:Tk k) (s:D) (gi:Nat) (hgi:gi < k.l.length) (a:Int) (lc:D) (w o g tr:Int) (T:Kt k.l[gi] a lc w o g tr): ∀(j i:Nat),i+j=gi→L 9060 [(gi:Int),(k.l.length:Int),(i:Int),enc s,enc k]=some [FI lc,(gi:Int),enc s,enc k,a,enc lc,w,o,g,tr]
 | 0,i,hi=>by
   have hl:=h.few;have he:i=gi:=by omega
   subst he;have c1:(i:Int) < (k.l.length:Int):=by omega
   have c2: ¬((i:Int) < 0):=by omega
   have w':=aZ (n:=i) (by omega);rw [aQ,Yd];rcases bZ T.hl with rfl | rfl | ⟨r1,r2⟩
   ·have ih:=V3 k h i a (enc (.i 1)) w o g tr s (k.l.length - (i+1)) (i+1) (by omega) (by omega);simp only [FY,zz,c1,c2,w',aX hgi,T.is,iT,aT,List.getElem?_cons_zero,List.getElem?_cons_succ,List.getElem?_nil,Option.getD_none,len1,len2,yN,qJ,aF];exact ih
   ·have ih:=V3 k h i a (enc (.i 2)) w o g tr s (k.l.length - (i+1)) (i+1) (by omega) (by omega);simp only [FY,zz,c1,c2,w',aX hgi,T.is,iT,aT,List.getElem?_cons_zero,List.getElem?_cons_succ,List.getElem?_nil,Option.getD_none,len1,len2,yN,qJ,aF];exact ih
   ·have ih:=afH k h i a (enc lc) w o g tr s (k.l.length - (i+1)) (i+1) (by omega) (by omega);simp only [FY,zz,c1,c2,w',aX hgi,T.is,iT,aT,List.getElem?_cons_zero,List.getElem?_cons_succ,len1,len2,yN,qJ];simp only [r1,r2,zz,aF];rw [YA r1];exact ih
 | j+1,i,hi=>by
   have hl:=h.few;have hil:i < k.l.length:=by omega
   have c1:(i:Int) < (k.l.length:Int):=by omega
   have c2: ¬((i:Int) < 0):=by omega
   have c0: ¬((i:Int)=(gi:Int)):=by omega
   have w1:=aZ (n:=i) (by omega);have ih:=afF k h s gi hgi a lc w o g tr T j (i+1) (by omega);obtain⟨a',lc',w',o',g',tr',T'⟩:=lJ h.wd _ (List.getElem_mem hil);have hs:=set_self h.sh hil;rw [T'.is] at hs;rw [aQ,Yd];rcases bZ T'.hl with rfl | rfl | ⟨r1,r2⟩
   all_goals
    simp only [FY,zz,c0,c1,c2,w1,aX hil,T'.is,iT,aT,List.getElem?_cons_zero,List.getElem?_cons_succ,JB,hs,len1,len2,yN,qJ]
    try simp only [r1,r2,zz]
    try simp only [aF]
    exact ih
theorem afE (k:D) (h:Tk k) (gi:Nat) (hgi:gi < k.l.length) (a:Int) (lc:D) (w o g tr:Int) (T:Kt k.l[gi] a lc w o g tr): ∀(j i:Nat),i+j=gi→L 9063 [(gi:Int),(k.l.length:Int),(i:Int),enc k]=some [FI lc,(gi:Int),enc (.i 1),enc k,a,enc lc,w,o,g,tr]
 | 0,i,hi=>by
   have hl:=h.few;have he:i=gi:=by omega
   subst he;have c1:(i:Int) < (k.l.length:Int):=by omega
   have c2: ¬((i:Int) < 0):=by omega
   have w':=aZ (n:=i) (by omega);rw [aQ,Yc];rcases bZ T.hl with rfl | rfl | ⟨r1,r2⟩
   ·have ih:=VZ k h i a (enc (.i 1)) w o g tr (k.l.length - (i+1)) (i+1) (by omega) (by omega);simp only [FX,zz,c1,c2,w',aX hgi,T.is,iT,aT,List.getElem?_cons_zero,List.getElem?_cons_succ,List.getElem?_nil,Option.getD_none,len1,len2,yN,qJ,aF];exact ih
   ·have ih:=VZ k h i a (enc (.i 2)) w o g tr (k.l.length - (i+1)) (i+1) (by omega) (by omega);simp only [FX,zz,c1,c2,w',aX hgi,T.is,iT,aT,List.getElem?_cons_zero,List.getElem?_cons_succ,List.getElem?_nil,Option.getD_none,len1,len2,yN,qJ,aF];exact ih
   ·have ih:=afG k h i a (enc lc) w o g tr (k.l.length - (i+1)) (i+1) (by omega) (by omega);simp only [FX,zz,c1,c2,w',aX hgi,T.is,iT,aT,List.getElem?_cons_zero,List.getElem?_cons_succ,len1,len2,yN,qJ];simp only [r1,r2,zz,aF];rw [YA r1];exact ih
 | j+1,i,hi=>by
   have hl:=h.few;have hil:i < k.l.length:=by omega
   have c1:(i:Int) < (k.l.length:Int):=by omega
   have c2: ¬((i:Int) < 0):=by omega
   have c0: ¬((i:Int)=(gi:Int)):=by omega
   have w1:=aZ (n:=i) (by omega);have ih:=afE k h gi hgi a lc w o g tr T j (i+1) (by omega);obtain⟨a',lc',w',o',g',tr',T'⟩:=lJ h.wd _ (List.getElem_mem hil);have hs:=set_self h.sh hil;rw [T'.is] at hs;rw [aQ,Yc];rcases bZ T'.hl with rfl | rfl | ⟨r1,r2⟩
   all_goals
    simp only [FX,zz,c0,c1,c2,w1,aX hil,T'.is,iT,aT,List.getElem?_cons_zero,List.getElem?_cons_succ,JB,hs,len1,len2,yN,qJ]
    try simp only [r1,r2,zz]
    try simp only [aF]
    exact ih
structure Sk (s k:D):Prop where
 ws:Wd (.sl 7) s
 wk:Wd (.sl 8) k
 n2s:s≠.i 2
 n2k:k≠.i 2
theorem ZA {t:Nat} {d:D} (h:Wd (.sl t) d) (h2:d≠.i 2):d= .i 1∨0 < d.l.length:=by
 rcases h.sh with h1 | h1 | ⟨_,h1⟩
 ·exact .inl h1
 ·exact absurd h1 h2
 ·exact .inr (List.length_pos_iff.2 h1)
theorem avU (x0:Int) (s:D):L 9061 [x0,enc s]=some [1,x0,enc s]:=by rw [aQ,aAe];simp only [ajP,zz];split <;> rfl
theorem avT (x0:Int):L 9064 [x0]=some [1,x0,enc (.i 1)]:=by rw [aQ,aAd];simp only [ajO,zz];split <;> rfl
theorem aoR (x0:Int) (k:D):L 9054 [x0,enc k]=L 9063 [x0,(k.l.length:Int),0,enc k]:=by rw [aQ,aAg];simp only [ajQ,zz,aF]
theorem aB9 (x0:Int):L 9055 [x0]=L 9064 [x0]:=by rw [aQ,aAf];rfl
section
variable {s k:D} (h:Sk s k)
include h
theorem TS {gi:Nat} (hgi:gi < k.l.length) {a:Int} {lc:D} {w o g tr:Int} (T:Kt k.l[gi] a lc w o g tr):L 9050 [(gi:Int),enc s,enc k]=some [FI lc,(gi:Int),enc s,enc k,a,enc lc,w,o,g,tr]:=by
 have hk:0 < k.l.length:=by omega
 have hK:=WJ h.wk hk;have hl':=hK.few;have c1':(0:Int) < (k.l.length:Int):=by omega
 have c2':(k.l.length:Int) < 2199023255552:=by omega
 rw [aQ,apT];rcases ZA h.ws h.n2s with rfl | hs
 ·simp only [Js,zz,len1,yN,c1',c2',aF];exact (aoR _ k).trans (afE k hK gi hgi a lc w o g tr T gi 0 (by omega))
 ·have hT:=FV h.ws hs;have hl:=hT.few;have c1:(0:Int) < (s.l.length:Int):=by omega
  have c2:(s.l.length:Int) < 1759218604441:=by omega
  simp only [Js,zz,yN,c1,c2,c1',c2',aF];exact (VY s hT _ k s.l.length 0 (by omega)).trans (afF k hK s gi hgi a lc w o g tr T gi 0 (by omega))
theorem aiH {x:Int} (hx:x < 0∨(k.l.length:Int)≤x):L 9050 [x,enc s,enc k]=some [0,x,enc s,enc k]∨L 9050 [x,enc s,enc k]=some [1,x,enc s]∧k= .i 1:=by
 rw [aQ,apT];rcases ZA h.ws h.n2s with rfl | hs <;> rcases ZA h.wk h.n2k with rfl | hk
 ·refine .inr ⟨?_,rfl⟩;simp only [Js,zz,len1,yN,aF];exact (aB9 _).trans (avT _)
 ·have hK:=WJ h.wk hk;have hl:=hK.few;have c1:(0:Int) < (k.l.length:Int):=by omega
  have c2:(k.l.length:Int) < 2199023255552:=by omega
  refine .inl ?_;simp only [Js,zz,len1,yN,c1,c2,aF];exact (aoR _ k).trans (afI k hK _ k.l.length 0 hx (by omega))
 ·have hT:=FV h.ws hs;have hl:=hT.few;have c1:(0:Int) < (s.l.length:Int):=by omega
  have c2:(s.l.length:Int) < 1759218604441:=by omega
  refine .inr ⟨?_,rfl⟩;simp only [Js,zz,len1,yN,c1,c2,aF];exact (afD s hT _ s.l.length 0 (by omega)).trans (avU _ s)
 ·have hT:=FV h.ws hs;have hl:=hT.few;have c1:(0:Int) < (s.l.length:Int):=by omega
  have c2:(s.l.length:Int) < 1759218604441:=by omega
  have hK:=WJ h.wk hk;have hl':=hK.few;have c1':(0:Int) < (k.l.length:Int):=by omega
  have c2':(k.l.length:Int) < 2199023255552:=by omega
  refine .inl ?_;simp only [Js,zz,yN,c1,c2,c1',c2',aF];exact (VY s hT _ k s.l.length 0 (by omega)).trans (afJ k hK _ s k.l.length 0 hx (by omega))
end
end Go.As.Try
end
section
namespace Go.As.Try
open Go hiding Stat Spec shape
open Go.As
set_option maxRecDepth 100000
def EqI (a b:D) (i:Nat):Prop:= ∀(k:Nat) (h1:k < a.l.length) (h2:k < b.l.length),i≤k→(a.l[k]).n=(b.l[k]).n
theorem EqI.step {a b:D} {i:Nat} (h1:i < a.l.length) (h2:i < b.l.length) (h:(a.l[i]).n=(b.l[i]).n):EqI a b i↔EqI a b (i+1):=by
 constructor
 ·intro q k x y z;exact q k x y (by omega)
 ·intro q k x y z;by_cases hk:k=i
  ·subst hk;exact h
  ·exact q k x y (by omega)
theorem EqI.end' {a b:D} {i:Nat} (h:a.l.length≤i):EqI a b i:=fun k h1 _ h3=>absurd h1 (by omega)
section
variable {a b:D} (hle:a.l.length=b.l.length) (hlen:a.l.length≤140737488351232)
include hle hlen
theorem SS: ∀(j i:Nat),i+j=a.l.length→∃c:Int,L 251 [enc a,enc b,(i:Int)]=some [c]∧(c=0∨c=1)∧(c=1↔EqI a b i)
 | 0,i,hi=>by
   have c1: ¬(i:Int) < (a.l.length:Int):=by omega
   refine⟨1,?_,.inr rfl,fun _=>EqI.end' (by omega),fun _=>rfl⟩;rw [aQ,e251];simp only [akR,zz,c1,fin]
 | j+1,i,hi=>by
   have hil:i < a.l.length:=by omega
   have hib:i < b.l.length:=by omega
   have c1:(i:Int) < (a.l.length:Int):=by omega
   have c2: ¬((i:Int) < 0):=by omega
   have c3:(i:Int) < (b.l.length:Int):=by omega
   have w:=aZ (n:=i) (by omega);obtain⟨c,h1,h2,h3⟩:=SS j (i+1) (by omega);by_cases he:(a.l[i]).n=(b.l[i]).n
   ·refine⟨c,?_,h2,h3.trans (EqI.step hil hib he).symm⟩;rw [aQ,e251];simp only [akR,zz,c1,c2,c3,w,aX hil,aX hib,he,fin,h1]
   ·refine⟨0,?_,.inl rfl,fun h=>absurd h (by omega),fun h=>absurd (h i hil hib (Nat.le_refl i)) he⟩;rw [aQ,e251];simp only [akR,zz,c1,c2,c3,w,aX hil,aX hib,he,fin]
end
def atM (a b:D):Prop:=a.l.length=b.l.length∧EqI a b 0
theorem ahJ (a b:D) (hlen:a.l.length≤140737488351232): ∃c:Int,L 250 [enc a,enc b]=some [c]∧(c=0∨c=1)∧(c=1↔atM a b):=by
 by_cases hl:a.l.length=b.l.length
 ·obtain⟨c,h1,h2,h3⟩:=SS hl hlen a.l.length 0 (by omega);refine⟨c,?_,h2,h3.trans ⟨fun h=> ⟨hl,h⟩,fun h=>h.2⟩⟩;have hl':(a.l.length:Int)=(b.l.length:Int):=by omega
  rw [aQ,e250,auS,dS,if_pos,oJ]
  ·simp only [List.map,bK,aW,Nat.reduceLT,aN,aO,fin];exact h1
  ·simp only [iQ,iE,aW,Nat.reduceLT,aN,aO,aG,iU];exact hl'
 ·refine⟨0,?_,.inl rfl,fun h=>absurd h (by omega),fun h=>absurd h.1 hl⟩;have hl': ¬(a.l.length:Int)=(b.l.length:Int):=by omega
  rw [aQ,e250,auS,dS,if_neg]
  ·simp only [jQ,List.map,bK,fin]
  ·simp only [iQ,iE,aW,Nat.reduceLT,aN,aO,aG,iU];exact hl'
theorem QN (x y:D) (hle:x.l.length=y.l.length) (hlen:x.l.length≤140737488351232) (x0 x1 x2:Int) (i:Nat) (hi:i < 9223372036854775807) (c:Int) (hc:c=0∨c=1) (h:L 201 [x0,x1,x2,((i+1:Nat):Int)]=some [c]) (x6 x7 x8 x9 x10 x12 x13 x14 x15 x16:Int) :
 ∀(j k:Nat),k+j=x.l.length→∃e:Int,L 202 [x0,x1,x2,(i:Int),(x.l.length:Int),(k:Int),x6,x7,x8,x9,x10,enc x,x12,x13,x14,x15,x16,enc y]=some [e]∧(e=0∨e=1)∧(e=1↔EqI x y k∧c=1)
 | 0,k,hk=>by
   have c1: ¬(k:Int) < (x.l.length:Int):=by omega
   have w:=aZ (n:=i) (by omega);refine⟨c,?_,hc,fun h=> ⟨EqI.end' (by omega),h⟩,fun h=>h.2⟩;rw [aQ,axV];simp only [akU,zz,c1,w,fin,h]
 | j+1,k,hk=>by
   have hil:k < x.l.length:=by omega
   have hib:k < y.l.length:=by omega
   have c1:(k:Int) < (x.l.length:Int):=by omega
   have c2: ¬((k:Int) < 0):=by omega
   have c3:(k:Int) < (y.l.length:Int):=by omega
   have w:=aZ (n:=k) (by omega);obtain⟨e,h1,h2,h3⟩:=QN x y hle hlen x0 x1 x2 i hi c hc h x6 x7 x8 x9 x10 x12 x13 x14 x15 x16 j (k+1) (by omega);by_cases he:(x.l[k]).n=(y.l[k]).n
   ·refine⟨e,?_,h2,h3.trans ⟨fun q=> ⟨(EqI.step hil hib he).2 q.1,q.2⟩,fun q=> ⟨(EqI.step hil hib he).1 q.1,q.2⟩⟩⟩;rw [aQ,axV];simp only [akU,zz,c1,c2,c3,w,aX hil,aX hib,he,fin,h1]
   ·refine⟨0,?_,.inl rfl,fun h=>absurd h (by omega),fun h=>absurd (h.1 k hil hib (Nat.le_refl k)) he⟩;rw [aQ,axV];simp only [akU,zz,c1,c2,c3,w,aX hil,aX hib,he,fin]
end Go.As.Try
end
section
namespace Go.As.Try
open Go hiding Stat Spec shape
open Go.As
set_option maxRecDepth 100000
theorem IC (ρ) (a b:SB):((SB.and a b).den ρ=true)=(a.den ρ=true∧b.den ρ=true):=by simp [SB.den]
structure aFA (x y:D):Prop where
 o:(x.hd 0).n=(y.hd 0).n
 c:(x.hd 1).n=(y.hd 1).n
 d:(x.hd 2).n=0↔(y.hd 2).n=0
 g:(x.hd 3).n=(y.hd 3).n
 r:atM (x.hd 4) (y.hd 4)
 v:atM (x.hd 5) (y.hd 5)
def YD (a b:D) (i:Nat):Prop:= ∀(k:Nat) (h1:k < a.l.length) (h2:k < b.l.length),i≤k→aFA a.l[k] b.l[k]
theorem bits {p q:Int}:((¬(¬p=0∧¬q=0))∧¬(¬¬p=0∧¬¬q=0))↔¬(p=0↔q=0):=by omega
def UN (s:D):Prop:= ∀x∈s.l,(x.hd 4).l.length≤140737488351232∧(x.hd 5).l.length≤140737488351232
section
variable {a b:D} (hle:a.l.length=b.l.length) (hlen:a.l.length≤140737488351232) (hr:UN a)
include hle hlen hr
theorem Rl: ∀(j i:Nat),i+j=a.l.length→∃c:Int,L 201 [enc a,enc b,(a.l.length:Int),(i:Int)]=some [c]∧(c=0∨c=1)∧(c=1↔YD a b i)
 | 0,i,hi=>by
   have c1: ¬(i:Int) < (a.l.length:Int):=by omega
   refine⟨1,?_,.inr rfl,fun _ k h1 _ h3=>absurd h1 (by omega),fun _=>rfl⟩;rw [aQ,VP];simp only [t201,zz,c1,fin]
 | j+1,i,hi=>by
   have hil:i < a.l.length:=by omega
   have hib:i < b.l.length:=by omega
   have c1:(i:Int) < (a.l.length:Int):=by omega
   have c2: ¬((i:Int) < 0):=by omega
   have c3:(i:Int) < (b.l.length:Int):=by omega
   obtain⟨c,h1,h2,h3⟩:=Rl j (i+1) (by omega);have hb:=hr _ (List.getElem_mem hil);by_cases b0:((a.l[i]).hd 0).n=((b.l[i]).hd 0).n
   case neg=>
    refine⟨0,?_,.inl rfl,fun h=>absurd h (by omega),fun h=>absurd (h i hil hib (Nat.le_refl i)).o b0⟩;rw [aQ,VP];simp only [t201,zz,c1,c2,c3,aX hil,aX hib,b0,fin]
   by_cases b1:((a.l[i]).hd 1).n=((b.l[i]).hd 1).n
   case neg=>
    refine⟨0,?_,.inl rfl,fun h=>absurd h (by omega),fun h=>absurd (h i hil hib (Nat.le_refl i)).c b1⟩;rw [aQ,VP];simp only [t201,zz,c1,c2,c3,aX hil,aX hib,b0,b1,fin]
   by_cases b2:(((a.l[i]).hd 2).n=0↔((b.l[i]).hd 2).n=0)
   case neg=>
    refine⟨0,?_,.inl rfl,fun h=>absurd h (by omega),fun h=>absurd (h i hil hib (Nat.le_refl i)).d b2⟩;rw [aQ,VP];have b2':=bits.2 b2;simp only [t201,zz,IC,Nj,c1,c2,c3,aX hil,aX hib,b0,b1,if_pos b2',fin]
   have b2': ¬_:=fun h=>bits.1 h b2;by_cases b3:((a.l[i]).hd 3).n=((b.l[i]).hd 3).n
   case neg=>
    refine⟨0,?_,.inl rfl,fun h=>absurd h (by omega),fun h=>absurd (h i hil hib (Nat.le_refl i)).g b3⟩;rw [aQ,VP];simp only [t201,zz,IC,Nj,c1,c2,c3,aX hil,aX hib,b0,b1,if_neg b2',b3,fin]
   obtain⟨e,g1,g2,g3⟩:=ahJ ((a.l[i]).hd 4) ((b.l[i]).hd 4) hb.1;by_cases b4:e=0
   ·subst b4;refine⟨0,?_,.inl rfl,fun h=>absurd h (by omega),fun h=>absurd (g3.2 (h i hil hib (Nat.le_refl i)).r) (by omega)⟩;rw [aQ,VP];simp only [t201,zz,IC,Nj,c1,c2,c3,aX hil,aX hib,b0,b1,if_neg b2',b3,g1,fin]
   have he:e=1:=by omega
   subst he;by_cases b5:((a.l[i]).hd 5).l.length=((b.l[i]).hd 5).l.length
   case neg=>
    have b5': ¬(((a.l[i]).hd 5).l.length:Int)=(((b.l[i]).hd 5).l.length:Int):=by omega
    refine⟨0,?_,.inl rfl,fun h=>absurd h (by omega),fun h=>absurd (h i hil hib (Nat.le_refl i)).v.1 b5⟩;rw [aQ,VP];simp only [t201,zz,IC,Nj,c1,c2,c3,aX hil,aX hib,b0,b1,if_neg b2',b3,g1,aC,b5',fin]
   have b5':(((a.l[i]).hd 5).l.length:Int)=(((b.l[i]).hd 5).l.length:Int):=by omega
   obtain⟨f,f1,f2,f3⟩:=QN ((a.l[i]).hd 5) ((b.l[i]).hd 5) b5 hb.2 (enc a) (enc b) (a.l.length:Int) i (by omega) c h2 h1 ((b.l[i]).hd 0).n ((b.l[i]).hd 1).n ((a.l[i]).hd 2).n ((b.l[i]).hd 3).n (enc ((a.l[i]).hd 4)) ((b.l[i]).hd 0).n ((b.l[i]).hd 1).n ((b.l[i]).hd 2).n ((b.l[i]).hd 3).n (enc ((b.l[i]).hd 4)) ((a.l[i]).hd 5).l.length 0 (by omega);refine⟨f,?_,f2,fun h k k1 k2 k3=>?_,fun h=>f3.2 ⟨(h i hil hib (Nat.le_refl i)).v.2,h3.2 fun k k1 k2 k3=>h k k1 k2 (by omega)⟩⟩
   ·rw [aQ,VP];rw [b5'] at f1;simp only [t201,zz,IC,Nj,c1,c2,c3,aX hil,aX hib,b0,b1,if_neg b2',b3,g1,aC,b5',fin];exact f1
   ·by_cases hk:k=i
    ·subst hk;exact⟨b0,b1,b2,b3,g3.1 rfl,b5,(f3.1 h).1⟩
    ·exact h3.1 (f3.1 h).2 k k1 k2 (by omega)
end
theorem Rk (a b:D) (hlen:a.l.length≤140737488351232) (hr:UN a): ∃c:Int,L 200 [enc a,enc b]=some [c]∧(c=0∨c=1)∧(c=1↔a.l.length=b.l.length∧YD a b 0):=by
 by_cases hl:a.l.length=b.l.length
 ·obtain⟨c,h1,h2,h3⟩:=Rl hl hlen hr a.l.length 0 (by omega);refine⟨c,?_,h2,h3.trans ⟨fun h=> ⟨hl,h⟩,fun h=>h.2⟩⟩;have hl':(a.l.length:Int)=(b.l.length:Int):=by omega
  rw [aQ,aC5,auT,dS,if_pos,oJ]
  ·simp only [List.map,bK,iE,iU,aW,Nat.reduceLT,aN,aO,aG,fin];exact h1
  ·simp only [iQ,iE,aW,Nat.reduceLT,aN,aO,aG,iU];exact hl'
 ·refine⟨0,?_,.inl rfl,fun h=>absurd h (by omega),fun h=>absurd h.1 hl⟩;have hl': ¬(a.l.length:Int)=(b.l.length:Int):=by omega
  rw [aQ,aC5,auT,dS,if_neg]
  ·simp only [jQ,List.map,bK,fin]
  ·simp only [iQ,iE,aW,Nat.reduceLT,aN,aO,aG,iU];exact hl'
end Go.As.Try
end
section
namespace Go.As.Try
open Go hiding Stat Spec shape
open Go.As
set_option maxRecDepth 100000
end Go.As.Try
end
section
namespace Go.As.Try
open Go hiding Stat Spec shape
open Go.As
set_option maxRecDepth 100000
theorem aiI {d0:D} (hl:d0.l.length≤64) (hn:0 < d0.l.length):L 301 [enc d0,(d0.l.length:Int)]=some [enc (dL (d0.l.map mQ))]:=by
 have e0:=PO d0 hl (d0.l.length - 1) 1 [mQ (d0.l[0]'hn)] (by omega) rfl
 have e1:[mQ (d0.l[0]'hn)]++(d0.l.drop 1).map mQ=d0.l.map mQ:=by
  conv=>rhs; rw [← List.drop_zero (l:=d0.l),List.drop_eq_getElem_cons hn]
  rfl
 rw [e1] at e0;have a0:d0.at 0=d0.l[0]'hn:=aX (i:=0) hn;have c1:(0:Int) < (d0.l.length:Int):=by omega
 have key: ∀q:Int,q=(if (((d0.l[0]'hn)).hd 0).n=3∨((d0.l[0]'hn).hd 0).n=9 then ((d0.l[0]'hn).hd 2).n else 0)→enc (dL [mQ (d0.l[0]'hn)])=enc (.p (.p (.i (-1)) (.p (.i q) (.p (.i 0) (.p (.i 0) (.p (.i 1) (.p (.i 1) (.i 0))))))) (.i 0)):=fun q hq=>by rw [hq]; rfl
 have k:eG (bM L (low [enc d0,(d0.l.length:Int)])) Y6= .jump 302 [enc (dL [mQ (d0.l[0]'hn)]),enc d0,(d0.l.length:Int),1]:=by
  by_cases h3:((d0.l[0]'hn).hd 0).n=3
  ·rw [key _ (by rw [if_pos (.inl h3)])];simp only [Y6,zz,c1,a0,rQ,List.nil_append,h3,dL]
  ·by_cases h9:((d0.l[0]'hn).hd 0).n=9
   ·rw [key _ (by rw [if_pos (.inr h9)])];simp only [Y6,zz,c1,a0,rQ,List.nil_append,if_neg h3,if_pos h9,dL]
   ·rw [key 0 (by rw [if_neg (by omega)])];simp only [Y6,zz,c1,a0,rQ,List.nil_append,if_neg h3,if_neg h9,dL]
 rw [aQ,e301];exact (congrArg (fin L) k).trans e0
theorem atC {d0 d1:D} (hc:L 450 [enc d0,enc d1]=some [0]) (hl:d0.l.length≤64) (hn:0 < d0.l.length):L 300 [enc d0,enc d1]=some [enc (dL (d0.l.map mQ))]:=by
 have k:eG (bM L (low [enc d0,enc d1])) akN= .jump 301 [enc d0,(d0.l.length:Int)]:=by refine bV [.eq (a0 450 [.aP 0,.aP 1]) (.lit 1),.eq (rr 450 [.aP 0,.aP 1] 0) (.lit 0)] [] (ju 301 [.aP 0,ln (.aP 0)]) (by simp only [zz,hc]) (by kernel_rfl) ?_;simp only [oJ,List.map,aW,iE,Nat.reduceLT,aN,aO,aG]
 rw [aQ,e300];exact (congrArg (fin L) k).trans (aiI hl hn)
theorem atB {d0 d1:D} {c:Int} (hc:L 450 [enc d0,enc d1]=some [c]) (h:c≠0∨d0.l.length=0):L 300 [enc d0,enc d1]=some [enc (.i 1)]:=by
 by_cases h0:c=0
 ·subst h0;have hz:d0.l.length=0:=h.resolve_left (fun h=>h rfl)
  have k:eG (bM L (low [enc d0,enc d1])) akN= .jump 301 [enc d0,0]:=by refine bV [.eq (a0 450 [.aP 0,.aP 1]) (.lit 1),.eq (rr 450 [.aP 0,.aP 1] 0) (.lit 0)] [] (ju 301 [.aP 0,ln (.aP 0)]) (by simp only [zz,hc]) (by kernel_rfl) ?_;simp only [oJ,List.map,aW,iE,Nat.reduceLT,aN,aO,aG,hz];rfl
  have k1:eG (bM L (low [enc d0,0])) Y6= .out [enc (.i 1)]:=by refine bV [] [.lt (.lit 0) (.aP 1)] (ou [.dat (.i 1)]) (by simp only [zz] <;> omega) (by kernel_rfl) rfl
  rw [aQ,e300];refine (congrArg (fin L) k).trans ?_;show L 301 [enc d0,0]=_;rw [aQ,e301];exact congrArg (fin L) k1
 ·have k:eG (bM L (low [enc d0,enc d1])) akN= .out [enc (.i 1)]:=by
   refine bV [.eq (a0 450 [.aP 0,.aP 1]) (.lit 1)] [.eq (rr 450 [.aP 0,.aP 1] 0) (.lit 0)] (ou [.dat (.i 1)]) (by simp only [zz,hc] <;> omega) (by kernel_rfl) rfl
  rw [aQ,e300];exact congrArg (fin L) k
structure Gs (s:D) (n:Nat):Prop where
 wd:Wd (.sl 7) s
 rows: ∀x∈s.l,(x.hd 4).l.length≤n∧(x.hd 5).l.length≤n
theorem Gs.few {s:D} {n:Nat} (h:Gs s n) (hn:n < 17592186044415):few s:=fun x hx=>by have:=h.rows x hx; omega
theorem Gs.mono {s:D} {n m:Nat} (h:Gs s n) (hm:n≤m):Gs s m:=⟨h.wd,fun x hx=>by have:=h.rows x hx; omega⟩
theorem Ip {l:List D} (h: ∀x∈l,DT x) (hn:l≠[]) (hl:l.length≤1759218604390):Wd (.sl 7) (dL l):=by
 have e:(l.map fun x=>x.l).map dL=l:=by
  rw [List.map_map]
  conv=>rhs; rw [← List.map_id l]
  apply List.map_congr_left;intro x hx;obtain⟨o,c,d,g,r,v,rfl,_⟩:=h x hx;rfl
 rw [← e];refine .many 7 [.int .i64,.int .i64,.bool,.int .i64,.sl 0,.sl 0] _ rfl (by simpa using hn) (by have:wG 7=80:=rfl; rw [this,List.length_map]; omega) (fun r hr=>?_) fun r hr j d c h1 h2=>?_
 ·obtain⟨x,hx,rfl⟩:=List.mem_map.1 hr;obtain⟨o,c,d,g,r,v,rfl,_⟩:=h x hx;rfl
 ·obtain⟨x,hx,rfl⟩:=List.mem_map.1 hr;obtain⟨o,c',d',g,r,v,rfl,ho,hc,hd,hg,hr,hv⟩:=h x hx;rw [aT] at h1
  match j with
  | 0=>simp at h1 h2; subst h1 h2; exact .int _ _ ho
  | 1=>simp at h1 h2; subst h1 h2; exact .int _ _ hc
  | 2=>
    simp at h1 h2; subst h1 h2;rcases hd with rfl | rfl
    ·exact .bool false
    ·exact .bool true
  | 3=>simp at h1 h2; subst h1 h2; exact .int _ _ hg
  | 4=>simp at h1 h2; subst h1 h2; exact hr
  | 5=>simp at h1 h2; subst h1 h2; exact hv
  | j+6=>simp at h1
theorem Tg.thing {x:D} {o c dn g:Int} {r v:D} (T:Tg x o c dn g r v):DT x:=⟨o,c,dn,g,r,v,T.is,T.ho,T.hc,T.hd,T.hg,T.hr,T.hv⟩
theorem yP {l:List D} {z:Int} {y x:D} (h:x∈eF l z y):x∈l∨x=y:=by
 unfold eF at h;split at h
 ·exact .inl h
 ·exact List.mem_or_eq_of_mem_set h
theorem qE {l:List D} {z:Int} {y:D} {k:Nat} (h:(k:Int)≠z):(eF l z y)[k]?=l[k]?:=by
 unfold eF;split
 ·rfl
 ·rw [List.getElem?_set,if_neg (by omega)]
theorem CJ {l:List D} {k:Nat} {y:D} (h:k < l.length):(eF l (k:Int) y)[k]?=some y:=by rw [yC,List.getElem?_set,if_pos rfl,if_pos h]
theorem Z4 {s:D} {n:Nat} (G:Gs s n) {z:Int} {y:D} (hy:DT y) (h4:(y.hd 4).l.length≤n) (h5:(y.hd 5).l.length≤n) (hn:0 < s.l.length):Gs (dL (eF s.l z y)) n:=by
 have ht:=FV G.wd hn;refine⟨Ip (fun x hx=>?_) (fun he=>?_) (by rw [fJ]; exact ht.few),fun x hx=>?_⟩
 ·rcases yP hx with h | rfl
  ·exact G.wd.thing x h
  ·exact hy
 ·have:=fJ s.l z y;rw [he] at this;simp at this;omega
 ·rw [aT] at hx;rcases yP hx with h | rfl
  ·exact G.rows x h
  ·exact⟨h4,h5⟩
theorem Xh (s:D) (obj M:Int) (A:Act):(Bz s obj M A).l.length=s.l.length:=by
 cases A with
 | blk=>rfl
 | mis=>rfl
 | res o c dn g r v m a oc=>
   unfold Bz;rw [aT,fJ]
   cases m with
   | none=>rfl
   | some q=>exact fJ _ _ _
theorem acZ {s:D} {n:Nat} (G:Gs s n) {obj M:Int} {A:Act} (hA:QA (n+1) A) (ho0:0≤obj) (ho1:obj < (s.l.length:Int)) (hM:NoM A∨0≤M∧M < (s.l.length:Int)):Gs (Bz s obj M A) (n+1):=by
 have G1:=G.mono (Nat.le_succ n)
 cases A with
 | blk=>exact G1
 | mis=>exact G1
 | res o c dn g r v m a oc=>
   obtain⟨h1,h2,h3,h4,h5,h6,h7,h8,h9,_⟩:=hA
   have hd:(if dn=0 then (0:Int) else 1)=dn:=by rcases h3 with rfl | rfl <;> rfl
   have hy:DT (dL [.i o,.i c,.i (if dn=0 then 0 else 1),.i g,r,v]):=⟨o,c,_,g,r,v,rfl,h1,h2,by rw [hd]; exact h3,h4,h5,h7⟩
   cases m with
   | none=>exact Z4 G1 hy h6 h8 (by omega)
   | some q=>
     have hM:0≤M∧M < (s.l.length:Int):=hM.resolve_left (fun h=>by simp [NoM] at h);obtain⟨k,rfl⟩ : ∃k:Nat,M=(k:Int):=⟨M.toNat,by omega⟩;have hk:k < s.l.length:=by omega
     obtain⟨o',c',d',g',r',v',he,q1,q2,q3,q4,q5,q6⟩:=G.wd.thing _ (List.getElem_mem hk);have hrw:=G1.rows _ (List.getElem_mem hk);rw [he] at hrw;have hz:dL (eF (s.at (k:Int)).l 0 (.i q))=dL [.i q,.i c',.i d',.i g',r',v']:=by rw [aX hk,he]; rfl
     have G2:Gs (dL (eF s.l (k:Int) (dL (eF (s.at (k:Int)).l 0 (.i q))))) (n+1):=by rw [hz];exact Z4 G1 ⟨q,c',d',g',r',v',rfl,h9 q rfl,q2,q3,q4,q5,q6⟩ hrw.1 hrw.2 (by omega)
     have:=Z4 (z:=obj) G2 hy h6 h8 (by rw [aT,fJ]; omega);rw [aT] at this;exact this
theorem amL {s:D} {obj M:Int} {A:Act} {k:Nat} (h:(k:Int)≠obj) (hM:NoM A∨(k:Int)≠M):(Bz s obj M A).l[k]?=s.l[k]?:=by
 cases A with
 | blk=>rfl
 | mis=>rfl
 | res o c dn g r v m a oc=>
   unfold Bz;rw [aT,qE h]
   cases m with
   | none=>rfl
   | some q=> have hM:(k:Int)≠M:=hM.resolve_left (fun h=>by simp [NoM] at h);exact qE hM
def evA (th op obj:Int):Act→List Int
 | .blk=>[0,0,0,0,0,0]
 | .mis=>[th,27,obj,IntKind.i64.wrap op,0,2]
 | .res _ _ _ _ _ _ _ a oc=>[th,op,obj,a,0,oc]
theorem Lj (s:D) (th op obj M:Int) (A:Act):outA s th op obj M A=enc (Bz s obj M A) :: evA th op obj A:=by cases A <;> rfl
end Go.As.Try
end
section
namespace Go.As.Try
open Go hiding Stat Spec shape
open Go.As
set_option maxRecDepth 100000
theorem z6:((2:Int)=1)=False∧((4:Int)=3)=False∧((5:Int)=3)=False∧((5:Int)=4)=False∧((6:Int)=3)=False∧((6:Int)=4)=False∧((6:Int)=5)=False∧((7:Int)=3)=False∧((7:Int)=4)=False∧((7:Int)=5)=False∧((7:Int)=6)=False:=by simp
structure KT where
 a:Int
 lc:D
 w:Int
 o:Int
 g:Int
 tr:Int
abbrev KT.d (x:KT):D:=dL [.i x.a,x.lc,.i x.w,.i x.o,.i x.g,.i x.tr]
structure Cd (d0 d1:D):Prop where
 h0:Wd (.sl 3) d0
 h1:Wd (.sl 4) d1
 ok:EY d0 d1
 ins: ∀x∈d1.l,aeE d0 x
theorem MR.code {d0 d1 s k:D} (h0:Wd (.sl 3) d0) (h1:Wd (.sl 4) d1) (hr:IJ s) (M:MR d0 d1 s k):Cd d0 d1∧s.l.length=d0.l.length:=by obtain⟨b,hb,_,hi⟩:=pK h0 h1 hr;rw [M.1] at hb;simp only [Option.some.injEq,List.cons.injEq,and_true] at hb;obtain⟨hC,hle,_⟩:=hi.1 hb.symm;obtain⟨ys,hC',c,rfl,_,hok⟩:=Ec h0 h1;rw [hC] at hC';simp only [Option.some.injEq,List.cons.injEq,and_true] at hC';have:=hok hC'.symm;exact⟨⟨h0,h1,this.1,this.2⟩,hle⟩
structure Rt (d0 d1:D) (t:Int) (x:KT):Prop where
 t0:0≤t
 t1:t < (d1.l.length:Int)
 ok:OkT d0 ((d1.at t).hd 1).l.length ((d1.at t).hd 2).l.length x.a x.lc.l.length x.w x.o x.g x.tr
 hl:Wd (.sl 0) x.lc
 hg:iI .i64 x.g
abbrev Ins (d1:D) (t:Int) (x:KT):D:=((d1.at t).hd 2).at x.a
abbrev Nc (d1:D) (t:Int):Nat:=((d1.at t).hd 2).l.length
structure InF (d0:D) (nl nc:Nat) (I:D):Prop where
 ok:OkI d0 nl nc (I.hd 0).n (I.hd 1).n (I.hd 2).n (I.hd 3).n (I.hd 4).n (I.hd 6).l.length
 op:iI .u8 (I.hd 1).n
 ob:iI .i64 (I.hd 2).n
 to:iI .i64 (I.hd 4).n
 nn:iI .i64 (I.hd 5).n
 ar:Wd (.sl 6) (I.hd 6)
theorem Cd.at {d0 d1:D} (C:Cd d0 d1) {t:Int} (t0:0≤t) (t1:t < (d1.l.length:Int)):d1.at t∈d1.l:=by obtain⟨i,rfl⟩ : ∃i:Nat,t=(i:Int):=⟨t.toNat,by omega⟩;rw [aX (by omega:i < d1.l.length)];exact List.getElem_mem _
theorem ZH {d:D} {i:Int} (h0:0≤i) (h1:i < (d.l.length:Int)):d.at i∈d.l:=by obtain⟨k,rfl⟩ : ∃k:Nat,i=(k:Int):=⟨i.toNat,by omega⟩;rw [aX (by omega:k < d.l.length)];exact List.getElem_mem _
theorem Cd.code {d0 d1:D} (C:Cd d0 d1) {t:Int} (t0:0≤t) (t1:t < (d1.l.length:Int)):Wd (.sl 5) ((d1.at t).hd 2):=by
 obtain⟨i,rfl⟩ : ∃i:Nat,t=(i:Int):=⟨t.toNat,by omega⟩;have hi:i < d1.l.length:=by omega
 obtain⟨nm',lc,cd,he,_,_,h⟩:=FW C.h1 hi;rw [aX hi,he];exact h
theorem Cd.inf {d0 d1:D} (C:Cd d0 d1) {t:Int} {x:KT} (R:Rt d0 d1 t x) (h:x.a < (Nc d1 t:Int)):InF d0 ((d1.at t).hd 1).l.length (Nc d1 t) (Ins d1 t x):=by
 have ha:=R.ok.1;have h1:=C.ins _ (C.at R.t0 R.t1) (Ins d1 t x) (ZH ha h);obtain⟨i,hi⟩ : ∃i:Nat,x.a=(i:Int):=⟨x.a.toNat,by omega⟩;have hil:i < ((d1.at t).hd 2).l.length:=by unfold Nc at h; omega
 obtain⟨a,b,c,e,f,g,QC,he,_,hb,hc,_,hf,hg,hw⟩:=ZU (C.code R.t0 R.t1) hil;have hI:Ins d1 t x=dL [.i a,.i b,.i c,.i e,.i f,.i g,QC]:=by unfold Ins; rw [hi,aX hil,he]
 refine⟨h1,?_,?_,?_,?_,?_⟩
 all_goals
  rw [hI];simp only [zg,Option.getD_some,n_i];assumption
theorem Rt.ints {d0 d1:D} {t:Int} {x:KT} (R:Rt d0 d1 t x):Ints x.lc:=fun y hy=>by obtain⟨n,rfl,hn⟩:=(R.hl.el1 rfl y hy).i;exact hn
section
variable {d0 d1 s k:D} {t:Int} {x:KT} (hk:k.at t=x.d) (ht:t < (k.l.length:Int)) (R:Rt d0 d1 t x)
include hk ht R
def kR (d1:D) (t:Int) (x:KT):Int:=if x.w=0 then (if x.a=(Nc d1 t:Int) then 1 else 0) else 0
theorem Le:L 1650 [enc d0,enc d1,enc s,enc k,t]=some [kR d1 t x]:=by
 have c1: ¬t < 0:=by have:=R.t0; omega
 have c2:=R.t1;unfold kR Nc;rw [aQ,aAL];simp only [akV,zz,hk,c1,ht,c2,zg];by_cases w0:x.w=0
 ·simp only [w0,if_true];by_cases a0:x.a=(((d1.at t).hd 2).l.length:Int)
  ·simp only [a0,if_true];rfl
  ·simp only [a0,if_false];rfl
 ·simp only [w0,if_false];rfl
end
noncomputable def ev (e lc:D):Int:=low ((L 1950 [(e.hd 0).n,enc (e.hd 1),(e.hd 2).n,enc (e.hd 3),enc lc]).getD []) 0
theorem XT {Jm lc:D} (ha:Wd (.sl 6) Jm) (hl:Ints lc) {i:Int} (i0:0≤i) (i1:i < (Jm.l.length:Int)):L 1950 [((Jm.at i).hd 0).n,enc ((Jm.at i).hd 1),((Jm.at i).hd 2).n,enc ((Jm.at i).hd 3),enc lc]=some [ev (Jm.at i) lc]∧iI .i64 (ev (Jm.at i) lc):=by
 obtain⟨j,rfl⟩ : ∃j:Nat,i=(j:Int):=⟨i.toNat,by omega⟩;have hj:j < Jm.l.length:=by omega
 obtain⟨k',s',n',ks',he,_,_,hn',h2⟩:=DZ ha hj;obtain⟨ys,hL,v,rfl,hv⟩:=XR _ ks' (Nat.le_refl _) h2 k' n' s' lc hn' hl;have e1:Jm.at (j:Int)=dL [.i k',s',.i n',ks']:=by rw [aX hj,he]
 unfold ev;rw [e1];simp only [zg,Option.getD_some,n_i,hL,aN];exact⟨trivial,hv⟩
noncomputable def Yw (Jm lc:D):Int:=if Jm.l.length=0 then 0 else ev (Jm.at ((Jm.l.length:Int) - 1)) lc
theorem ayQ {Jm lc:D} (ha:Wd (.sl 6) Jm) (hl:Ints lc):iI .i64 (Yw Jm lc):=by
 unfold Yw;split
 ·constructor <;> omega
 ·exact (XT ha hl (by omega) (by omega)).2
theorem Sr {Jm lc:D} (ha:Wd (.sl 6) Jm) (hl:Ints lc) (x3 x5 x6 x7 x8 x9 x10:Int): ∀(j i:Nat) (v:Int),i+j=Jm.l.length→L 1751 [enc Jm,(Jm.l.length:Int),(i:Int),x3,enc lc,x5,x6,x7,x8,x9,x10,v]=some [x9,x10,if j=0 then v else Yw Jm lc,x8,1]
 | 0,i,v,hi=>by
   have c1: ¬(i:Int) < (Jm.l.length:Int):=by omega
   rw [aQ,aqU];simp only [acN,zz,c1,bH,if_true]
 | j+1,i,v,hi=>by
   have hr:=ha.len;have c1:(i:Int) < (Jm.l.length:Int):=by omega
   have c2: ¬((i:Int) < 0):=by omega
   have w:=aZ (n:=i) (by omega);obtain⟨he,_⟩:=XT ha hl (i:=(i:Int)) (by omega) c1;have ih:=Sr ha hl x3 x5 x6 x7 x8 x9 x10 j (i+1) (ev (Jm.at (i:Int)) lc) (by omega);rw [aQ,aqU];simp only [acN,zz,c1,c2,w,he,aF];rw [ih,if_neg (Nat.succ_ne_zero j)];by_cases hj:j=0
   ·subst hj;rw [if_pos rfl];unfold Yw;rw [if_neg (by omega),show ((Jm.l.length:Int) - 1)=(i:Int) by omega]
   ·rw [if_neg hj]
noncomputable def rD (d1:D) (t:Int) (x:KT):List Int:=
 if x.w=0 then
  if x.a=(Nc d1 t:Int) then [0,0,0,0,0]
  else if ((Ins d1 t x).hd 0).n=1 then [((Ins d1 t x).hd 1).n,((Ins d1 t x).hd 2).n,Yw ((Ins d1 t x).hd 6) x.lc,x.tr,1]
  else if ((Ins d1 t x).hd 0).n=2 then [26,((Ins d1 t x).hd 2).n,0,0,1]
  else [0,0,0,0,0]
 else [x.w,x.o,x.g,0,1]
section
variable {d0 d1 s k:D} {t:Int} {x:KT} (C:Cd d0 d1) (hk:k.at t=x.d) (ht:t < (k.l.length:Int)) (R:Rt d0 d1 t x)
include C hk ht R
theorem adH:L 1750 [enc d0,enc d1,enc s,enc k,t]=some (rD d1 t x):=by
 have c1: ¬t < 0:=by have:=R.t0; omega
 have c2:=R.t1;have c3: ¬x.a < 0:=by have:=R.ok.1; omega
 have ho:=Le (s:=s) hk ht R;unfold rD;rw [aQ,aAK];by_cases w0:x.w=0
 ·by_cases a0:x.a=(Nc d1 t:Int)
  ·have e:kR d1 t x=1:=by unfold kR; rw [if_pos w0,if_pos a0]
   rw [e] at ho;rw [if_pos w0,if_pos a0];simp only [MI,zz,hk,c1,ht,c2,zg,w0,ho,aC,bH]
  ·have e:kR d1 t x=0:=by unfold kR; rw [if_pos w0,if_neg a0]
   rw [e] at ho;have hlt:x.a < (Nc d1 t:Int):=by have:=R.ok.2.1; unfold Nc at a0 ⊢; omega
   have F:=C.inf R hlt;rw [if_pos w0,if_neg a0];unfold Ins at F ⊢;unfold Nc at hlt;by_cases h1:((((d1.at t).hd 2).at x.a).hd 0).n=1
   ·rw [if_pos h1];have lp:=Sr F.ar R.ints x.a x.w x.o x.g x.tr ((((d1.at t).hd 2).at x.a).hd 1).n ((((d1.at t).hd 2).at x.a).hd 2).n ((((d1.at t).hd 2).at x.a).hd 6).l.length 0 0 (by omega)
    have e2:(if ((((d1.at t).hd 2).at x.a).hd 6).l.length=0 then 0 else Yw ((((d1.at t).hd 2).at x.a).hd 6) x.lc)=Yw ((((d1.at t).hd 2).at x.a).hd 6) x.lc:=by
     by_cases hz:((((d1.at t).hd 2).at x.a).hd 6).l.length=0
     ·rw [if_pos hz]; unfold Yw; rw [if_pos hz]
     ·rw [if_neg hz]
    rw [e2] at lp;simp only [MI,zz,hk,c1,ht,c2,c3,zg,w0,ho,hlt,h1,aF];rw [w0] at lp;exact lp
   ·by_cases h2:((((d1.at t).hd 2).at x.a).hd 0).n=2
    ·rw [if_neg h1,if_pos h2];simp only [MI,zz,hk,c1,ht,c2,c3,zg,w0,ho,hlt,h2,bH,if_false,z6]
    ·rw [if_neg h1,if_neg h2];simp only [MI,zz,hk,c1,ht,c2,c3,zg,w0,ho,hlt,h1,h2,bH]
 ·rw [if_neg w0];simp only [MI,zz,hk,c1,ht,zg,w0,bH]
end
noncomputable def Ac (I:D) (x:KT):KT:=
 if (I.hd 0).n=3 then { x with a:=x.a+1,lc:=dL (eF x.lc.l (I.hd 3).n (.i (ev ((I.hd 6).at 0) x.lc))) }
 else if (I.hd 0).n=4 then (if ev ((I.hd 6).at 0) x.lc=0 then { x with a:=(I.hd 4).n } else { x with a:=x.a+1 })
 else if (I.hd 0).n=5 then { x with a:=(I.hd 4).n }
 else if (I.hd 0).n=6 then { x with a:=x.a+1,lc:=dL (eF x.lc.l (I.hd 3).n (.i (I.hd 5).n)) }
 else if 0 < (x.lc.at (I.hd 3).n).n then { x with a:=x.a+1,lc:=dL (eF x.lc.l (I.hd 3).n (.i (IntKind.i64.wrap ((x.lc.at (I.hd 3).n).n - 1)))) }
 else { x with a:=(I.hd 4).n }
structure Loc (d1:D) (t:Int) (x:KT):Prop where
 w:x.w=0
 a:x.a < (Nc d1 t:Int)
 n1:((Ins d1 t x).hd 0).n≠1
 n2:((Ins d1 t x).hd 0).n≠2
theorem ZL {d0 d1:D} {t:Int} {x:KT} (R:Rt d0 d1 t x) (ho:kR d1 t x=0) (hn:low (rD d1 t x) 4=0):Loc d1 t x:=by
 unfold kR at ho;unfold rD at hn;have h2:=R.ok.2.1;by_cases w0:x.w=0
 ·rw [if_pos w0] at ho hn;by_cases a0:x.a=(Nc d1 t:Int)
  ·rw [if_pos a0] at ho;omega
  ·rw [if_neg a0] at hn;by_cases h1:((Ins d1 t x).hd 0).n=1
   ·rw [if_pos h1] at hn;simp only [aO,aN] at hn;omega
   ·by_cases h2':((Ins d1 t x).hd 0).n=2
    ·rw [if_neg h1,if_pos h2'] at hn;simp only [aO,aN] at hn;omega
    ·exact⟨w0,by unfold Nc at a0 ⊢; omega,h1,h2'⟩
 ·rw [if_neg w0] at hn;simp only [aO,aN] at hn;omega
section
variable {d0 d1 s k:D} {t:Int} {x:KT} (C:Cd d0 d1) (ht:t < (k.l.length:Int)) (R:Rt d0 d1 t x) (Lc:Loc d1 t x)
include C ht R Lc
theorem anN:L 14000 [enc d0,enc d1,t,enc s,enc k,x.a,enc x.lc,x.w,x.o,x.g,x.tr]=some [0,enc d0,enc d1,t,enc s,enc k,x.a,enc x.lc,x.w,x.o,x.g,x.tr,(Ac (Ins d1 t x) x).a,enc (Ac (Ins d1 t x) x).lc]:=by
 have c1: ¬t < 0:=by have:=R.t0; omega
 have c2:=R.t1;have c3: ¬x.a < 0:=by have:=R.ok.1; omega
 have c4:=Lc.a;have F:=C.inf R c4;have hln:(x.lc.l.length:Int)=(((d1.at t).hd 1).l.length:Int):=R.ok.2.2.1;have hnc:((d1.at t).hd 2).l.length≤140737488351232:=(C.code R.t0 R.t1).len;have n1:=Lc.n1;have n2:=Lc.n2
 have hw:IntKind.i64.wrap (x.a+1)=x.a+1:=by refine oQ (by omega) ?_;unfold Nc at c4;omega
 have E:=XT F.ar R.ints (i:=0);have ok:=F.ok;unfold Ins at n1 n2 ok E ⊢;unfold Nc at c4;rw [aQ,arC];unfold Ac;rcases ok with h | h | ⟨h,i0,i1,na⟩ | ⟨h,_,_,na⟩ | ⟨h,_⟩ | ⟨h,i0,i1⟩ | ⟨h,i0,i1,_⟩
 ·exact absurd h.1 n1
 ·exact absurd h.1 n2
 ·have c5: ¬(((((d1.at t).hd 2).at x.a).hd 3).n < 0):=by omega
  have c6:(((((d1.at t).hd 2).at x.a).hd 3).n < (x.lc.l.length:Int)):=by omega
  have c7:(0:Int) < (((((d1.at t).hd 2).at x.a).hd 6).l.length:Int):=by omega
  obtain⟨E,_⟩:=E (by omega) c7;simp only [zL,zz,c1,ht,c2,c3,c4,c5,c6,c7,h,E,hw,bH]
 ·have c7:(0:Int) < (((((d1.at t).hd 2).at x.a).hd 6).l.length:Int):=by omega
  obtain⟨E,_⟩:=E (by omega) c7;by_cases hz:ev (((((d1.at t).hd 2).at x.a).hd 6).at 0) x.lc=0
  ·simp only [zL,zz,c1,ht,c2,c3,c4,c7,h,E,hw,hz,bH,z6]
  ·simp only [zL,zz,c1,ht,c2,c3,c4,c7,h,E,hw,hz,bH,z6]
 ·simp only [zL,zz,c1,ht,c2,c3,c4,h,hw,bH,z6]
 ·have c5: ¬(((((d1.at t).hd 2).at x.a).hd 3).n < 0):=by omega
  have c6:(((((d1.at t).hd 2).at x.a).hd 3).n < (x.lc.l.length:Int)):=by omega
  simp only [zL,zz,c1,ht,c2,c3,c4,c5,c6,h,hw,bH,z6]
 ·have c5: ¬(((((d1.at t).hd 2).at x.a).hd 3).n < 0):=by omega
  have c6:(((((d1.at t).hd 2).at x.a).hd 3).n < (x.lc.l.length:Int)):=by omega
  by_cases hz:0 < (x.lc.at ((((d1.at t).hd 2).at x.a).hd 3).n).n
  ·simp only [zL,zz,c1,ht,c2,c3,c4,c5,c6,h,hw,hz,bH,z6]
  ·simp only [zL,zz,c1,ht,c2,c3,c4,c5,c6,h,hw,hz,bH,z6]
theorem anM (hz:x.lc.l.length=0):L 14050 [enc d0,enc d1,t,enc s,enc k,x.a,enc x.lc,x.w,x.o,x.g,x.tr]=some [0,enc d0,enc d1,t,enc s,enc k,x.a,enc x.lc,x.w,x.o,x.g,x.tr,(Ac (Ins d1 t x) x).a]∧(Ac (Ins d1 t x) x).lc=x.lc:=by
 have c1: ¬t < 0:=by have:=R.t0; omega
 have c2:=R.t1;have c3: ¬x.a < 0:=by have:=R.ok.1; omega
 have c4:=Lc.a;have F:=C.inf R c4;have hln:(x.lc.l.length:Int)=(((d1.at t).hd 1).l.length:Int):=R.ok.2.2.1;have hnc:((d1.at t).hd 2).l.length≤140737488351232:=(C.code R.t0 R.t1).len;have n1:=Lc.n1;have n2:=Lc.n2
 have hw:IntKind.i64.wrap (x.a+1)=x.a+1:=by refine oQ (by omega) ?_;unfold Nc at c4;omega
 have E:=XT F.ar R.ints (i:=0);have ok:=F.ok;unfold Ins at n1 n2 ok E ⊢;unfold Nc at c4;rw [aQ,arB];unfold Ac;rcases ok with h | h | ⟨h,i0,i1,na⟩ | ⟨h,_,_,na⟩ | ⟨h,_⟩ | ⟨h,i0,i1⟩ | ⟨h,i0,i1,_⟩
 ·exact absurd h.1 n1
 ·exact absurd h.1 n2
 ·omega
 ·have c7:(0:Int) < (((((d1.at t).hd 2).at x.a).hd 6).l.length:Int):=by omega
  obtain⟨E,_⟩:=E (by omega) c7;by_cases hz:ev (((((d1.at t).hd 2).at x.a).hd 6).at 0) x.lc=0
  ·simp only [MJ,zz,c1,ht,c2,c3,c4,c7,h,E,hw,hz,bH,z6]
  ·simp only [MJ,zz,c1,ht,c2,c3,c4,c7,h,E,hw,hz,bH,z6]
 ·simp only [MJ,zz,c1,ht,c2,c3,c4,h,hw,bH,z6]
 ·omega
 ·omega
theorem Xw:Rt d0 d1 t (Ac (Ins d1 t x) x)∧(Ac (Ins d1 t x) x).lc.l.length=x.lc.l.length:=by
 have c4:=Lc.a;have F:=C.inf R c4;obtain⟨a0,a1,hln,tr0,tr1,hw⟩:=R.ok;have n1:=Lc.n1;have n2:=Lc.n2;have ok:=F.ok;have hI:=R.ints
 have hwd: ∀{z v:Int},0≤z→z < (x.lc.l.length:Int)→iI .i64 v→Wd (.sl 0) (dL (eF x.lc.l z (.i v))):=fun {z v} h0 h1 hv=>by
  have:=R.hl.room;have h3:wG 0=8:=rfl;rw [h3] at this;have hs:=fJ x.lc.l z (.i v);refine Du (fun y hy=>?_) (fun he=>?_) (by rw [hs]; omega)
  ·rcases yP hy with h | rfl
   ·exact (R.hl.el1 rfl y h).i
   ·exact⟨v,rfl,hv⟩
  ·rw [he] at hs;simp only [List.length_nil] at hs;omega
 have hsl: ∀z v,(dL (eF x.lc.l z v)).l.length=x.lc.l.length:=fun z v=>by rw [aT,fJ]
 have T:=R.t0;have T':=R.t1;unfold Nc at c4 ok F;unfold Ac;have go: ∀{a:Int} {lc:D},0≤a→a≤(((d1.at t).hd 2).l.length:Int)→lc.l.length=x.lc.l.length→Wd (.sl 0) lc→Rt d0 d1 t { x with a:=a,lc:=lc }∧({ x with a:=a,lc:=lc }:KT).lc.l.length=x.lc.l.length:=fun h0 h1 h2 h3=> ⟨⟨T,T',⟨h0,h1,by rw [h2]; exact hln,tr0,tr1,hw⟩,h3,R.hg⟩,h2⟩;rcases ok with h | h | ⟨h,i0,i1,na⟩ | ⟨h,t0,t1,na⟩ | ⟨h,t0,t1⟩ | ⟨h,i0,i1⟩ | ⟨h,i0,i1,t0,t1⟩
 ·exact absurd h.1 n1
 ·exact absurd h.1 n2
 ·rw [if_pos h];exact go (by omega) (by omega) (hsl _ _) (hwd i0 (by omega) (XT F.ar hI (by omega) (by omega)).2)
 ·rw [if_neg (by omega),if_pos h];split
  ·exact go t0 t1 rfl R.hl
  ·exact go (by omega) (by omega) rfl R.hl
 ·rw [if_neg (by omega),if_neg (by omega),if_pos h];exact go t0 t1 rfl R.hl
 ·rw [if_neg (by omega),if_neg (by omega),if_neg (by omega),if_pos h];exact go (by omega) (by omega) (hsl _ _) (hwd i0 (by omega) F.nn)
 ·rw [if_neg (by omega),if_neg (by omega),if_neg (by omega),if_neg (by omega)];split
  ·exact go (by omega) (by omega) (hsl _ _) (hwd i0 (by omega) (wrap_in _))
  ·exact go t0 t1 rfl R.hl
end
end Go.As.Try
end
section
namespace Go.As.Try
open Go hiding Stat Spec shape
open Go.As
set_option maxRecDepth 100000
theorem z5:(∀p:Prop,(p∧False)=False)∧(∀p:Prop,(False∧p)=False)∧(¬True)=False∧(∀p:Prop,(p∧p)=p)∧(∀(a:Int) (l m:List Int),(a :: l)++m=a :: (l++m))∧(∀l:List Int,[]++l=l)∧((16:Int)=15)=False∧((3:Int)=0)=False∧((15:Int)=16)=False∧(∀ys:List Int,fin L (.out ys)=some ys):=
 ⟨and_false,false_and,not_true_eq_false,and_self,fun _ _ _=>rfl,fun _=>rfl,by simp,by simp,by simp,fun _=>rfl⟩
def aiQ:Act→Prop
 | .res _ _ _ _ _ _ _ a _=>iI .i64 a
 | _=>True
theorem aiQ.ite {p:Prop} [Decidable p] {a b:Act} (ha:aiQ a) (hb:aiQ b):aiQ (if p then a else b):=by
 split
 ·exact ha
 ·exact hb
theorem aDw {r:D} (h:Wd (.sl 0) r) (i:Nat):iI .i64 (r.at (i:Int)).n:=by
 by_cases hi:i < r.l.length
 ·rw [aX hi];obtain⟨n,hn,hk⟩:=(h.el1 rfl _ (List.getElem_mem hi)).i;rw [hn];exact hk
 ·rw [jT,List.getElem?_eq_none (by omega)];constructor <;> (simp only [Option.getD_none,n_i]; omega)
theorem aFz {y:D} {M mo th op arg tries o c dn g:Int} {r v:D} (T:Tg y o c dn g r v) (hr:r.l.length≤140737488351232) (ha:iI .i64 arg):aiQ (act M mo th op arg tries o c dn g r v):=by
 have hz:iI .i64 0:=⟨by omega,by omega⟩;have h1:iI .i64 1:=⟨by omega,by omega⟩;have w:=@wrap_in;have hv:=aDw T.hv 0;have hl:iI .i64 (r.l.length:Int):=⟨by omega,by omega⟩;unfold act
 repeat' refine aiQ.ite ?_ ?_
 all_goals first
  | trivial
  | exact hz
  | exact h1
  | exact w _
  | exact T.hc
  | exact ha
  | exact T.hg
  | exact hv
  | exact hl
def uI (I:D) (x:KT) (op e2 e3 e4 oc:Int):KT:=
 if oc=0 then (if op=4 then { x with tr:=if 4611686018427387904 < x.tr+1 then 4611686018427387904 else x.tr+1 } else x)
 else if x.w=0 then
  { a:=if (I.hd 0).n=1∧(I.hd 1).n=16∧¬(e2=16∧e4=1) then (I.hd 4).n else x.a+1,lc:=if (I.hd 0).n=1∧¬(I.hd 3).n < 0 then dL (eF x.lc.l (I.hd 3).n (.i e4)) else x.lc,w:=if oc=3 then (if e2=15 then 25 else 24) else 0,o:=if oc=3 then e3 else x.o,g:=if oc=3∧e2=15 then e4 else x.g,tr:=0 }
 else { x with w:=0,o:=0,g:=0,tr:=0 }
def evT (e1 e2 e3 e4 e5 oc:Int):List Int:=if oc=0 then [0,0,0,0,0] else [e1,e2,e3,e4,e5]
section
variable {d0 d1 s s' k:D} {t op obj arg tries e1 e2 e3 e4 e5 oc:Int} {x:KT} (C:Cd d0 d1) (ht:t < (k.l.length:Int)) (R:Rt d0 d1 t x)
 (hA:L 400 [enc d0,enc d1,enc s,t,op,obj,arg,tries]=some [enc s',e1,e2,e3,e4,e5,oc]) (h0:oc=0→s'=s) (hx:x.w=0→x.a < (Nc d1 t:Int))
include C ht R hA h0 hx
set_option maxHeartbeats 4000000 in
theorem ajG:L 14500 [enc d0,enc d1,t,op,obj,arg,tries,enc s,enc k,x.a,enc x.lc,x.w,x.o,x.g,x.tr]=some (0 :: enc d0 :: enc d1 :: t :: op :: obj :: arg :: tries :: enc s :: enc k :: x.a :: enc x.lc :: x.w :: x.o :: x.g :: x.tr :: (evT e1 e2 e3 e4 e5 oc++ [oc,enc s',(uI (Ins d1 t x) x op e2 e3 e4 oc).a,enc (uI (Ins d1 t x) x op e2 e3 e4 oc).lc,(uI (Ins d1 t x) x op e2 e3 e4 oc).w,(uI (Ins d1 t x) x op e2 e3 e4 oc).o,(uI (Ins d1 t x) x op e2 e3 e4 oc).g,(uI (Ins d1 t x) x op e2 e3 e4 oc).tr])):=by
 have c1: ¬t < 0:=by have:=R.t0; omega
 have c2:=R.t1;have c3: ¬x.a < 0:=by have:=R.ok.1; omega
 have q0:=R.ok.2.2.2.1;have q1:=R.ok.2.2.2.2.1;have wt:IntKind.i64.wrap (x.tr+1)=x.tr+1:=oQ (by omega) (by omega);rw [aQ,aqZ];unfold uI evT;by_cases o0:oc=0
 ·have hs:=h0 o0;subst hs;subst o0;by_cases p4:op=4
  ·subst p4;by_cases pt:4611686018427387904 < x.tr+1
   ·simp only [fH,zz,hA,c1,ht,wt,pt,bH,if_true,eq_self,List.cons_append,List.nil_append]
   ·simp only [fH,zz,hA,c1,ht,wt,pt,bH,if_true,eq_self,if_false,List.cons_append,List.nil_append]
  ·simp only [fH,zz,hA,c1,ht,p4,bH,if_true,if_false,List.cons_append,List.nil_append]
 ·by_cases w0:x.w=0
  ·have c4:=hx w0;have F:=C.inf R c4;have ok:=F.ok;have hln:(x.lc.l.length:Int)=(((d1.at t).hd 1).l.length:Int):=R.ok.2.2.1;have hnc:((d1.at t).hd 2).l.length≤140737488351232:=(C.code R.t0 R.t1).len;unfold Nc at c4;have hw:IntKind.i64.wrap (x.a+1)=x.a+1:=oQ (by omega) (by omega);unfold OkI Ins at ok;unfold Ins;by_cases n1:((((d1.at t).hd 2).at x.a).hd 0).n=1
   ·have hin:((((d1.at t).hd 2).at x.a).hd 3).n= -1∨0≤((((d1.at t).hd 2).at x.a).hd 3).n∧((((d1.at t).hd 2).at x.a).hd 3).n < (x.lc.l.length:Int):=by
     rw [hln];omega
    by_cases i0:((((d1.at t).hd 2).at x.a).hd 3).n < 0
    ·by_cases p16:((((d1.at t).hd 2).at x.a).hd 1).n=16
     ·by_cases q16:e2=16
      ·by_cases q4:e4=1
       ·by_cases q3:oc=3
        ·simp only [fH,zz,hA,c1,ht,c2,c3,c4,o0,w0,hw,n1,i0,p16,q16,q4,q3,z5]
        ·simp only [fH,zz,hA,c1,ht,c2,c3,c4,o0,w0,hw,n1,i0,p16,q16,q4,q3,z5]
       ·by_cases q3:oc=3
        ·simp only [fH,zz,hA,c1,ht,c2,c3,c4,o0,w0,hw,n1,i0,p16,q16,q4,q3,z5]
        ·simp only [fH,zz,hA,c1,ht,c2,c3,c4,o0,w0,hw,n1,i0,p16,q16,q4,q3,z5]
      ·by_cases zV:e2=15
       ·by_cases q3:oc=3
        ·simp only [fH,zz,hA,c1,ht,c2,c3,c4,o0,w0,hw,n1,i0,p16,q16,zV,q3,z5]
        ·simp only [fH,zz,hA,c1,ht,c2,c3,c4,o0,w0,hw,n1,i0,p16,q16,zV,q3,z5]
       ·by_cases q3:oc=3
        ·simp only [fH,zz,hA,c1,ht,c2,c3,c4,o0,w0,hw,n1,i0,p16,q16,zV,q3,z5]
        ·simp only [fH,zz,hA,c1,ht,c2,c3,c4,o0,w0,hw,n1,i0,p16,q16,zV,q3,z5]
     ·by_cases zV:e2=15
      ·by_cases q3:oc=3
       ·simp only [fH,zz,hA,c1,ht,c2,c3,c4,o0,w0,hw,n1,i0,p16,zV,q3,z5]
       ·simp only [fH,zz,hA,c1,ht,c2,c3,c4,o0,w0,hw,n1,i0,p16,zV,q3,z5]
      ·by_cases q3:oc=3
       ·simp only [fH,zz,hA,c1,ht,c2,c3,c4,o0,w0,hw,n1,i0,p16,zV,q3,z5]
       ·simp only [fH,zz,hA,c1,ht,c2,c3,c4,o0,w0,hw,n1,i0,p16,zV,q3,z5]
    ·have i1:((((d1.at t).hd 2).at x.a).hd 3).n < (x.lc.l.length:Int):=by omega
     by_cases p16:((((d1.at t).hd 2).at x.a).hd 1).n=16
     ·by_cases q16:e2=16
      ·by_cases q4:e4=1
       ·by_cases q3:oc=3
        ·simp only [fH,zz,hA,c1,ht,c2,c3,c4,o0,w0,hw,n1,i0,i1,p16,q16,q4,q3,z5]
        ·simp only [fH,zz,hA,c1,ht,c2,c3,c4,o0,w0,hw,n1,i0,i1,p16,q16,q4,q3,z5]
       ·by_cases q3:oc=3
        ·simp only [fH,zz,hA,c1,ht,c2,c3,c4,o0,w0,hw,n1,i0,i1,p16,q16,q4,q3,z5]
        ·simp only [fH,zz,hA,c1,ht,c2,c3,c4,o0,w0,hw,n1,i0,i1,p16,q16,q4,q3,z5]
      ·by_cases zV:e2=15
       ·by_cases q3:oc=3
        ·simp only [fH,zz,hA,c1,ht,c2,c3,c4,o0,w0,hw,n1,i0,i1,p16,q16,zV,q3,z5]
        ·simp only [fH,zz,hA,c1,ht,c2,c3,c4,o0,w0,hw,n1,i0,i1,p16,q16,zV,q3,z5]
       ·by_cases q3:oc=3
        ·simp only [fH,zz,hA,c1,ht,c2,c3,c4,o0,w0,hw,n1,i0,i1,p16,q16,zV,q3,z5]
        ·simp only [fH,zz,hA,c1,ht,c2,c3,c4,o0,w0,hw,n1,i0,i1,p16,q16,zV,q3,z5]
     ·by_cases zV:e2=15
      ·by_cases q3:oc=3
       ·simp only [fH,zz,hA,c1,ht,c2,c3,c4,o0,w0,hw,n1,i0,i1,p16,zV,q3,z5]
       ·simp only [fH,zz,hA,c1,ht,c2,c3,c4,o0,w0,hw,n1,i0,i1,p16,zV,q3,z5]
      ·by_cases q3:oc=3
       ·simp only [fH,zz,hA,c1,ht,c2,c3,c4,o0,w0,hw,n1,i0,i1,p16,zV,q3,z5]
       ·simp only [fH,zz,hA,c1,ht,c2,c3,c4,o0,w0,hw,n1,i0,i1,p16,zV,q3,z5]
   ·by_cases zV:e2=15
    ·by_cases q3:oc=3
     ·simp only [fH,zz,hA,c1,ht,c2,c3,c4,o0,w0,hw,n1,zV,q3,z5]
     ·simp only [fH,zz,hA,c1,ht,c2,c3,c4,o0,w0,hw,n1,zV,q3,z5]
    ·by_cases q3:oc=3
     ·simp only [fH,zz,hA,c1,ht,c2,c3,c4,o0,w0,hw,n1,zV,q3,z5]
     ·simp only [fH,zz,hA,c1,ht,c2,c3,c4,o0,w0,hw,n1,zV,q3,z5]
  ·simp only [fH,zz,hA,c1,ht,o0,w0,bH,if_true,if_false,List.cons_append,List.nil_append]
end
section
variable {d0 d1 s s' k:D} {t op obj arg tries e1 e2 e3 e4 e5 oc:Int} {x:KT} (C:Cd d0 d1) (ht:t < (k.l.length:Int)) (R:Rt d0 d1 t x)
 (hA:L 400 [enc d0,enc d1,enc s,t,op,obj,arg,tries]=some [enc s',e1,e2,e3,e4,e5,oc]) (h0:oc=0→s'=s) (hx:x.w=0→x.a < (Nc d1 t:Int)) (hz:x.lc.l.length=0)
include C ht R hA h0 hx hz
set_option maxHeartbeats 4000000 in
theorem ajF:L 14550 [enc d0,enc d1,t,op,obj,arg,tries,enc s,enc k,x.a,enc x.lc,x.w,x.o,x.g,x.tr]=some (0 :: enc d0 :: enc d1 :: t :: op :: obj :: arg :: tries :: enc s :: enc k :: x.a :: enc x.lc :: x.w :: x.o :: x.g :: x.tr :: (evT e1 e2 e3 e4 e5 oc++ [oc,enc s',(uI (Ins d1 t x) x op e2 e3 e4 oc).a,(uI (Ins d1 t x) x op e2 e3 e4 oc).w,(uI (Ins d1 t x) x op e2 e3 e4 oc).o,(uI (Ins d1 t x) x op e2 e3 e4 oc).g,(uI (Ins d1 t x) x op e2 e3 e4 oc).tr]))∧(uI (Ins d1 t x) x op e2 e3 e4 oc).lc=x.lc:=by
 have c1: ¬t < 0:=by have:=R.t0; omega
 have c2:=R.t1;have c3: ¬x.a < 0:=by have:=R.ok.1; omega
 have q0:=R.ok.2.2.2.1;have q1:=R.ok.2.2.2.2.1;have wt:IntKind.i64.wrap (x.tr+1)=x.tr+1:=oQ (by omega) (by omega);rw [aQ,aqW];unfold uI evT;by_cases o0:oc=0
 ·have hs:=h0 o0;subst hs;subst o0;by_cases p4:op=4
  ·subst p4;by_cases pt:4611686018427387904 < x.tr+1
   ·simp only [jP,zz,hA,c1,ht,wt,pt,bH,if_true,eq_self,List.cons_append,List.nil_append] <;> exact⟨rfl,rfl⟩
   ·simp only [jP,zz,hA,c1,ht,wt,pt,bH,if_true,eq_self,if_false,List.cons_append,List.nil_append] <;> exact⟨rfl,rfl⟩
  ·simp only [jP,zz,hA,c1,ht,p4,bH,if_true,if_false,List.cons_append,List.nil_append] <;> exact⟨rfl,rfl⟩
 ·by_cases w0:x.w=0
  ·have c4:=hx w0;have F:=C.inf R c4;have ok:=F.ok;have hln:(x.lc.l.length:Int)=(((d1.at t).hd 1).l.length:Int):=R.ok.2.2.1;have hnc:((d1.at t).hd 2).l.length≤140737488351232:=(C.code R.t0 R.t1).len;unfold Nc at c4;have hw:IntKind.i64.wrap (x.a+1)=x.a+1:=oQ (by omega) (by omega);unfold OkI Ins at ok;unfold Ins;by_cases n1:((((d1.at t).hd 2).at x.a).hd 0).n=1
   ·have hin:((((d1.at t).hd 2).at x.a).hd 3).n= -1∨0≤((((d1.at t).hd 2).at x.a).hd 3).n∧((((d1.at t).hd 2).at x.a).hd 3).n < (x.lc.l.length:Int):=by
     rw [hln];omega
    by_cases i0:((((d1.at t).hd 2).at x.a).hd 3).n < 0
    ·by_cases p16:((((d1.at t).hd 2).at x.a).hd 1).n=16
     ·by_cases q16:e2=16
      ·by_cases q4:e4=1
       ·by_cases q3:oc=3
        ·simp only [jP,zz,hA,c1,ht,c2,c3,c4,o0,w0,hw,n1,i0,p16,q16,q4,q3,z5] <;> exact⟨rfl,rfl⟩
        ·simp only [jP,zz,hA,c1,ht,c2,c3,c4,o0,w0,hw,n1,i0,p16,q16,q4,q3,z5] <;> exact⟨rfl,rfl⟩
       ·by_cases q3:oc=3
        ·simp only [jP,zz,hA,c1,ht,c2,c3,c4,o0,w0,hw,n1,i0,p16,q16,q4,q3,z5] <;> exact⟨rfl,rfl⟩
        ·simp only [jP,zz,hA,c1,ht,c2,c3,c4,o0,w0,hw,n1,i0,p16,q16,q4,q3,z5] <;> exact⟨rfl,rfl⟩
      ·by_cases zV:e2=15
       ·by_cases q3:oc=3
        ·simp only [jP,zz,hA,c1,ht,c2,c3,c4,o0,w0,hw,n1,i0,p16,q16,zV,q3,z5] <;> exact⟨rfl,rfl⟩
        ·simp only [jP,zz,hA,c1,ht,c2,c3,c4,o0,w0,hw,n1,i0,p16,q16,zV,q3,z5] <;> exact⟨rfl,rfl⟩
       ·by_cases q3:oc=3
        ·simp only [jP,zz,hA,c1,ht,c2,c3,c4,o0,w0,hw,n1,i0,p16,q16,zV,q3,z5] <;> exact⟨rfl,rfl⟩
        ·simp only [jP,zz,hA,c1,ht,c2,c3,c4,o0,w0,hw,n1,i0,p16,q16,zV,q3,z5] <;> exact⟨rfl,rfl⟩
     ·by_cases zV:e2=15
      ·by_cases q3:oc=3
       ·simp only [jP,zz,hA,c1,ht,c2,c3,c4,o0,w0,hw,n1,i0,p16,zV,q3,z5] <;> exact⟨rfl,rfl⟩
       ·simp only [jP,zz,hA,c1,ht,c2,c3,c4,o0,w0,hw,n1,i0,p16,zV,q3,z5] <;> exact⟨rfl,rfl⟩
      ·by_cases q3:oc=3
       ·simp only [jP,zz,hA,c1,ht,c2,c3,c4,o0,w0,hw,n1,i0,p16,zV,q3,z5] <;> exact⟨rfl,rfl⟩
       ·simp only [jP,zz,hA,c1,ht,c2,c3,c4,o0,w0,hw,n1,i0,p16,zV,q3,z5] <;> exact⟨rfl,rfl⟩
    ·omega
   ·by_cases zV:e2=15
    ·by_cases q3:oc=3
     ·simp only [jP,zz,hA,c1,ht,c2,c3,c4,o0,w0,hw,n1,zV,q3,z5] <;> exact⟨rfl,rfl⟩
     ·simp only [jP,zz,hA,c1,ht,c2,c3,c4,o0,w0,hw,n1,zV,q3,z5] <;> exact⟨rfl,rfl⟩
    ·by_cases q3:oc=3
     ·simp only [jP,zz,hA,c1,ht,c2,c3,c4,o0,w0,hw,n1,zV,q3,z5] <;> exact⟨rfl,rfl⟩
     ·simp only [jP,zz,hA,c1,ht,c2,c3,c4,o0,w0,hw,n1,zV,q3,z5] <;> exact⟨rfl,rfl⟩
  ·simp only [jP,zz,hA,c1,ht,o0,w0,bH,if_true,if_false,List.cons_append,List.nil_append] <;> exact⟨rfl,rfl⟩
end
end Go.As.Try
end
section
namespace Go.As.Try
open Go hiding Stat Spec shape
open Go.As
set_option maxRecDepth 100000
structure Sx (s k:D) (n:Nat):Prop where
 g:Gs s n
 wk:Wd (.sl 8) k
 n2s:s≠.i 2
 n2k:k≠.i 2
theorem Sx.st {s k:D} {n:Nat} (S:Sx s k n):Sk s k:=⟨S.g.wd,S.wk,S.n2s,S.n2k⟩
theorem Sx.mono {s k:D} {n m:Nat} (S:Sx s k n) (h:n≤m):Sx s k m:=⟨S.g.mono h,S.wk,S.n2s,S.n2k⟩
abbrev rH (k:D) (t:Int) (x:KT):D:=dL (eF k.l t x.d)
theorem dO (a:D) (l:List D):dL (a :: l)= .p a (dL l):=rfl
theorem eU:dL []= .i 0:=rfl
structure Tried (d0 d1 s:D) (t op obj arg tries:Int) (n:Nat) (s':D) (e1 e2 e3 e4 e5 oc:Int):Prop where
 eq:L 400 [enc d0,enc d1,enc s,t,op,obj,arg,tries]=some [enc s',e1,e2,e3,e4,e5,oc]
 no:oc=0→s'=s∧e1=0∧e2=0∧e3=0∧e4=0∧e5=0
 oc3:oc=0∨oc=2∨oc=3
 gs:Gs s' (n+1)
 len:s'.l.length=s.l.length
 n2:s≠.i 2→s'≠.i 2
 e3:iI .i64 e3
 e4:iI .i64 e4
theorem try_any {d0 d1 s:D} {t op obj arg tries:Int} {n:Nat} (h0:Wd (.sl 3) d0) (h1:Wd (.sl 4) d1) (G:Gs s n) (hn:n < 17592186043904) (ht:iI .i64 t) (hop:iI .u8 op) (hob:iI .i64 obj) (ha:iI .i64 arg) :
 ∃s' e1 e2 e3 e4 e5 oc,Tried d0 d1 s t op obj arg tries n s' e1 e2 e3 e4 e5 oc:=by
 have hf:=G.few (by omega:n < 17592186044415);have z:iI .i64 0:=⟨by omega,by omega⟩;by_cases A:Acc d0 d1 s t op obj
 ·obtain⟨_,o,c,dn,g,r,v,T,hL⟩:=KO (arg:=arg) (tries:=tries) h0 h1 G.wd hf hop A;rw [Lj] at hL;have o0:=A.o0;have o1:=A.o1;obtain⟨i,rfl⟩ : ∃i:Nat,obj=(i:Int):=⟨obj.toNat,by omega⟩;have hi:i < s.l.length:=by omega
  have hrow:=G.rows _ (List.getElem_mem hi);have e:s.l[i]=dL [.i o,.i c,.i dn,.i g,r,v]:=by rw [← aX hi]; exact T.is
  rw [e] at hrow;have hA:=atJ (M:=Mx d0 (i:Int)) (mo:=Mo d0 s (i:Int)) (op:=op) (tries:=tries) T (n:=n) hrow.1 hrow.2 (by omega) ht ha;have hE:=aFz (M:=Mx d0 (i:Int)) (mo:=Mo d0 s (i:Int)) (th:=t) (op:=op) (tries:=tries) T (by have:=hrow.1; have:r.l.length≤n:=this; omega) ha
  have hM:NoM (act (Mx d0 (i:Int)) (Mo d0 s (i:Int)) t op arg tries o c dn g r v)∨0≤Mx d0 (i:Int)∧Mx d0 (i:Int) < (s.l.length:Int):=by
   by_cases h:op=12∨op=24
   ·have:=PY h0 h1 G.wd hf hop A h;exact .inr ⟨this.1,this.2.1⟩
   ·exact .inl (TW (by omega) (by omega))
  have hg:=acZ G hA o0 o1 hM;have hl:=Xh s (i:Int) (Mx d0 (i:Int)) (act (Mx d0 (i:Int)) (Mo d0 s (i:Int)) t op arg tries o c dn g r v);generalize act (Mx d0 (i:Int)) (Mo d0 s (i:Int)) t op arg tries o c dn g r v=B at *
  have hn2:s≠.i 2→Bz s (i:Int) (Mx d0 (i:Int)) B≠.i 2:=fun _ he=>by rw [he] at hl;have:(D.i 2).l.length=0:=rfl;omega
  cases B with
  | blk=>exact⟨s,0,0,0,0,0,0,hL,fun _=> ⟨rfl,rfl,rfl,rfl,rfl,rfl⟩,.inl rfl,hg,rfl,fun h=>h,z,z⟩
  | mis=>exact⟨s,t,27,_,_,0,2,hL,fun h=>absurd h (by omega),.inr (.inl rfl),hg,rfl,fun h=>h,hob,wrap_in _⟩
  | res o' c' BD g' r' v' m a oc=>exact⟨_,t,op,_,a,0,oc,hL,fun h=>by have:=hA.2.2.2.2.2.2.2.2.2; omega,.inr hA.2.2.2.2.2.2.2.2.2,hg,hl,hn2,hob,hE⟩
 ·exact⟨s,0,0,0,0,0,0,Un h0 h1 G.wd hf hop A,fun _=> ⟨rfl,rfl,rfl,rfl,rfl,rfl⟩,.inl rfl,G.mono (Nat.le_succ n),rfl,fun h=>h,z,z⟩
noncomputable abbrev stE (d0 d1 s k:D) (t:Int):Nat→Int:=bM L (low [enc d0,enc d1,enc s,enc k,t])
theorem alU {k:D} {t:Int} {x:KT} (h:k=dL k.l) (t0:0≤t) (t1:t < (k.l.length:Int)) (hk:k.at t=x.d):rH k t x=k:=by
 obtain⟨i,rfl⟩ : ∃i:Nat,t=(i:Int):=⟨t.toNat,by omega⟩;have hi:i < k.l.length:=by omega
 rw [aX hi] at hk;unfold rH;rw [← hk];exact set_self h hi
section
variable {d0 d1 s k:D} {t:Int} {n:Nat} (S:Sx s k n)
include S
theorem KQ (hR:L 1550 [enc d0,enc d1,enc s,enc k,t]=some [0]):L 1850 [enc d0,enc d1,enc s,enc k,t]=some [enc s,enc k,0,0,0,0,0,0]:=by
 by_cases hr:t < 0∨(k.l.length:Int)≤t
 ·rcases aiH S.st hr with h | ⟨h,he⟩
  ·have K:eG (stE d0 d1 s k t) Jy= .out [enc s,enc k,0,0,0,0,0,0]:=by
    refine bV [.eq (a0 9050 Ue) Q0,.eq xE Qa,Qpj,Qpk] [] (ou [LX,Qpr,Qa,Qa,Qa,Qa,Qa,Qa]) (by simp only [zz,h,hR] <;> omega) (by kernel_rfl) ?_;simp only [zz,h]
   rw [aQ,O4];exact congrArg (fin L) K
  ·subst he
   have K:eG (stE d0 d1 s (.i 1) t) Jy= .out [enc s,enc (.i 1),0,0,0,0,0,0]:=by refine bV [.eq (a0 9050 Ue) Q0,.eq xE Q0,Qpj,Qpk] [.eq xE Qa] (ou [LX,Qh,Qa,Qa,Qa,Qa,Qa,Qa]) (by simp only [zz,h,hR] <;> omega) (by kernel_rfl) ?_;simp only [zz,h]
   rw [aQ,O4];exact congrArg (fin L) K
 ·obtain⟨i,rfl⟩ : ∃i:Nat,t=(i:Int):=⟨t.toNat,by omega⟩;have hi:i < k.l.length:=by omega
  obtain⟨a,lc,w,o,g,tr,T⟩:=lJ S.wk _ (List.getElem_mem hi);have h:=TS S.st hi T;have hs:rH k (i:Int) ⟨a,lc,w,o,g,tr⟩ = k:=alU (WJ S.wk (by omega)).sh (by omega) (by omega) (by rw [aX hi,T.is]);simp only [rH,KT.d,dO,eU] at hs;have ha:FI lc=3∨FI lc=4:=by unfold FI; split <;> simp
  have K:eG (stE d0 d1 s k (i:Int)) Jy= .out [enc s,enc k,0,0,0,0,0,0]:=by
   rcases ha with ha | ha
   ·rw [ha] at h;refine bV [.eq (a0 9050 Ue) Q0,.eq xE vK,Qpj,Qpk] [.eq xE Qa,.eq xE Q0,.eq xE mO] (ou [LX,Qp2,Qa,Qa,Qa,Qa,Qa,Qa]) (by simp only [zz,h,hR] <;> omega) (by kernel_rfl) ?_;simp only [zz,h,hs]
   ·rw [ha] at h;refine bV [.eq (a0 9050 Ue) Q0,.eq xE FK,Qpj,Qpk] [.eq xE Qa,.eq xE Q0,.eq xE mO,.eq xE vK] (ou [LX,Qp2,Qa,Qa,Qa,Qa,Qa,Qa]) (by simp only [zz,h,hR] <;> omega) (by kernel_rfl) ?_;simp only [zz,h,hs]
  rw [aQ,O4];exact congrArg (fin L) K
end
structure Rs (d0 d1 s k:D) (t:Int) (x:KT):Prop where
 c:Cd d0 d1
 r:Rt d0 d1 t x
 hk:k.at t=x.d
 ht:t < (k.l.length:Int)
 yes:L 1550 [enc d0,enc d1,enc s,enc k,t]=some [1]
theorem azT {d0 d1 s k:D} {t:Int} {n:Nat} (S:Sx s k n) (hn:n < 17592186043904) (h0:Wd (.sl 3) d0) (h1:Wd (.sl 4) d1):L 1550 [enc d0,enc d1,enc s,enc k,t]=some [0]∨∃x,Rs d0 d1 s k t x:=by
 obtain⟨ys,hL,b,rfl,hb⟩:=BP (k:=k) h0 h1 (S.g.few (by omega)).rows h1.len t;rcases hb with ⟨rfl,_⟩ | ⟨rfl,t0,t1,M⟩
 ·exact .inl hL
 ·refine .inr ?_;obtain⟨hle,hO⟩:=M.2;obtain⟨i,rfl⟩ : ∃i:Nat,t=(i:Int):=⟨t.toNat,by omega⟩;have hi:i < k.l.length:=by omega
  have hd:i < d1.l.length:=by omega
  obtain⟨a,lc,w,o,g,tr,T⟩:=lJ S.wk _ (List.getElem_mem hi);have ok:=hO i hi;unfold OkK at ok;rw [T.is] at ok;simp only [zg,Option.getD_some,n_i] at ok;refine⟨⟨a,lc,w,o,g,tr⟩,(MR.code h0 h1 (S.g.few (by omega)).rows M).1,⟨by omega,by omega,?_,T.hl,T.hg⟩,by rw [aX hi,T.is],by omega,hL⟩;rw [aX hd];exact ok
section
variable {d0 d1 s k:D} {t:Int} {n:Nat} {x:KT} (S:Sx s k n) (R:Rs d0 d1 s k t x)
include S R
theorem Rs.cp:L 9050 [t,enc s,enc k]=some [FI x.lc,t,enc s,enc k,x.a,enc x.lc,x.w,x.o,x.g,x.tr]:=by
 have t0:=R.r.t0;have ht:=R.ht;obtain⟨i,rfl⟩ : ∃i:Nat,t=(i:Int):=⟨t.toNat,by omega⟩;have hi:i < k.l.length:=by omega
 obtain⟨a,lc,w,o,g,tr,T⟩:=lJ S.wk _ (List.getElem_mem hi);have h:=TS S.st hi T;have e:=R.hk;rw [aX hi,T.is] at e;simp only [KT.d,dO,eU,D.p.injEq,D.i.injEq,and_true] at e;obtain⟨rfl,rfl,rfl,rfl,rfl,rfl⟩:=e;exact h
theorem Rs.self:dL (eF k.l t (.p (.i x.a) (.p x.lc (.p (.i x.w) (.p (.i x.o) (.p (.i x.g) (.p (.i x.tr) (.i 0))))))))=k:=by
 have hl:0 < k.l.length:=by have:=R.r.t0; have:=R.ht; omega
 exact alU (WJ S.wk hl).sh R.r.t0 R.ht R.hk
theorem QV (ho:kR d1 t x=1):L 1850 [enc d0,enc d1,enc s,enc k,t]=some [enc s,enc k,0,0,0,0,0,4]:=by
 have h:=R.cp S;have hs:=R.self S;have hR:=R.yes;have hO:=Le (s:=s) R.hk R.ht R.r;rw [ho] at hO;have ha:FI x.lc=3∨FI x.lc=4:=by unfold FI; split <;> simp
 have K:eG (stE d0 d1 s k t) Jy= .out [enc s,enc k,0,0,0,0,0,4]:=by
  rcases ha with ha | ha
  ·rw [ha] at h;refine bV [.eq (a0 9050 Ue) Q0,.eq xE vK,Qpj,.eq (a0 1650 Uf) Q0] [.eq xE Qa,.eq xE Q0,.eq xE mO,Qpk,Qp5] (ou [LX,Qp2,Qa,Qa,Qa,Qa,Qa,FK]) (by simp only [zz,h,hR,hs,hO] <;> omega) (by kernel_rfl) ?_;simp only [zz,h,hs]
  ·rw [ha] at h;refine bV [.eq (a0 9050 Ue) Q0,.eq xE FK,Qpj,.eq (a0 1650 Uf) Q0] [.eq xE Qa,.eq xE Q0,.eq xE mO,.eq xE vK,Qpk,Qp5] (ou [LX,Qp2,Qa,Qa,Qa,Qa,Qa,FK]) (by simp only [zz,h,hR,hs,hO] <;> omega) (by kernel_rfl) ?_;simp only [zz,h,hs]
 rw [aQ,O4];exact congrArg (fin L) K
theorem MX (ho:kR d1 t x=0) (hn:low (rD d1 t x) 4=0):L 1850 [enc d0,enc d1,enc s,enc k,t]=some [enc s,enc (rH k t (Ac (Ins d1 t x) x)),0,0,0,0,0,1]:=by
 have h:=R.cp S;have hs:=R.self S;have hR:=R.yes;have hO:=Le (s:=s) R.hk R.ht R.r;have hN:=adH (s:=s) R.c R.hk R.ht R.r;have Lc:=ZL R.r ho hn;rw [ho] at hO
 have K:eG (stE d0 d1 s k t) Jy= .out [enc s,enc (rH k t (Ac (Ins d1 t x) x)),0,0,0,0,0,1]:=by
  have hw:(Ac (Ins d1 t x) x).w=x.w∧(Ac (Ins d1 t x) x).o=x.o∧(Ac (Ins d1 t x) x).g=x.g∧(Ac (Ins d1 t x) x).tr=x.tr:=by
   unfold Ac
   repeat' split
   all_goals exact⟨rfl,rfl,rfl,rfl⟩
  by_cases hp:0 < x.lc.l.length
  ·have ha:FI x.lc=3:=if_pos hp;rw [ha] at h;have hl:=anN (s:=s) R.c R.ht R.r Lc;refine bV [.eq (a0 9050 Ue) Q0,.eq xE vK,Qpj,.eq (a0 1650 Uf) Q0,Qp5,.eq (a0 1750 Uf) Q0,Qp6,.eq (a0 14000 Qp7) Q0,.eq (rr 14000 Qp7 0) Qa] [.eq xE Qa,.eq xE Q0,.eq xE mO,Qpk] (ou [LX,.op .set Qpr (cn (mk bG) (cn (mk (rr 14000 Qp7 12)) (cn (rr 14000 Qp7 13) Qp1))),Qa,Qa,Qa,Qa,Qa,Q0]) (by simp only [zz,h,hR,hs,hO,hN,hn,hl] <;> omega) (by kernel_rfl) ?_;simp only [zz,h,hs,hl,rH,KT.d,dO,eU,hw]
  ·have ha:FI x.lc=4:=if_neg hp;rw [ha] at h;obtain⟨hl,hc⟩:=anM (s:=s) R.c R.ht R.r Lc (by omega);refine bV [.eq (a0 9050 Ue) Q0,.eq xE FK,Qpj,.eq (a0 1650 Uf) Q0,Qp5,.eq (a0 1750 Uf) Q0,Qp6,.eq (a0 14050 Qp7) Q0,.eq (rr 14050 Qp7 0) Qa] [.eq xE Qa,.eq xE Q0,.eq xE mO,.eq xE vK,Qpk] (ou [LX,.op .set Qpr (cn (mk bG) (cn (mk (rr 14050 Qp7 12)) (cn Qpw Qp1))),Qa,Qa,Qa,Qa,Qa,Q0]) (by simp only [zz,h,hR,hs,hO,hN,hn,hl] <;> omega) (by kernel_rfl) ?_;simp only [zz,h,hs,hl,rH,KT.d,dO,eU,hw,hc]
 rw [aQ,O4];exact congrArg (fin L) K
theorem MW {op obj arg tries e1 e2 e3 e4 e5 oc:Int} {s':D} (ho:kR d1 t x=0) (hn:rD d1 t x= [op,obj,arg,tries,1]) (A:Tried d0 d1 s t op obj arg tries n s' e1 e2 e3 e4 e5 oc) :
 L 1850 [enc d0,enc d1,enc s,enc k,t]=some [enc s',enc (rH k t (uI (Ins d1 t x) x op e2 e3 e4 oc)),e1,e2,e3,e4,e5,oc]:=by
 have h:=R.cp S;have hs:=R.self S;have hR:=R.yes;have hO:=Le (s:=s) R.hk R.ht R.r;have hN:=adH (s:=s) R.c R.hk R.ht R.r;rw [ho] at hO;rw [hn] at hN
 have hx:x.w=0→x.a < (Nc d1 t:Int):=fun w0=>by unfold kR at ho;rw [if_pos w0] at ho;have:=R.r.ok.2.1;unfold Nc at ho ⊢;split at ho <;> omega
 have hE:evT e1 e2 e3 e4 e5 oc= [e1,e2,e3,e4,e5]:=by
  unfold evT;split
  ·rename_i h0;obtain⟨_,rfl,rfl,rfl,rfl,rfl⟩:=A.no h0;rfl
  ·rfl
 have K:eG (stE d0 d1 s k t) Jy= .out [enc s',enc (rH k t (uI (Ins d1 t x) x op e2 e3 e4 oc)),e1,e2,e3,e4,e5,oc]:=by
  by_cases hp:0 < x.lc.l.length
  ·have ha:FI x.lc=3:=if_pos hp;rw [ha] at h;have hl:=ajG R.c R.ht R.r A.eq (fun h=>(A.no h).1) hx;rw [hE] at hl;simp only [List.cons_append,List.nil_append] at hl;refine bV [.eq (a0 9050 Ue) Q0,.eq xE vK,Qpj,.eq (a0 1650 Uf) Q0,Qp5,.eq (a0 1750 Uf) Q0,.eq (a0 14500 qZ) Q0,.eq (rr 14500 qZ 0) Qa] [.eq xE Qa,.eq xE Q0,.eq xE mO,Qpk,Qp6] (ou [rr 14500 qZ 22,.op .set Qpr (cn (mk bG) (cn (mk (rr 14500 qZ 23)) (cn (rr 14500 qZ 24) (cn (mk (rr 14500 qZ 25)) (cn (mk (rr 14500 qZ 26)) (cn (mk (rr 14500 qZ 27)) (cn (mk (rr 14500 qZ 28)) kN))))))),rr 14500 qZ 16,rr 14500 qZ 17,rr 14500 qZ 18,rr 14500 qZ 19,rr 14500 qZ 20,rr 14500 qZ 21]) (by simp only [zz,h,hR,hs,hO,hN,hl] <;> omega) (by kernel_rfl) ?_;simp only [zz,h,hs,hN,hl,rH,KT.d,dO,eU]
  ·have ha:FI x.lc=4:=if_neg hp;rw [ha] at h;obtain⟨hl,hc⟩:=ajF R.c R.ht R.r A.eq (fun h=>(A.no h).1) hx (by omega);rw [hE] at hl;simp only [List.cons_append,List.nil_append] at hl;refine bV [.eq (a0 9050 Ue) Q0,.eq xE FK,Qpj,.eq (a0 1650 Uf) Q0,Qp5,.eq (a0 1750 Uf) Q0,.eq (a0 14550 qZ) Q0,.eq (rr 14550 qZ 0) Qa] [.eq xE Qa,.eq xE Q0,.eq xE mO,.eq xE vK,Qpk,Qp6] (ou [rr 14550 qZ 22,.op .set Qpr (cn (mk bG) (cn (mk (rr 14550 qZ 23)) (cn Qpw (cn (mk (rr 14550 qZ 24)) (cn (mk (rr 14550 qZ 25)) (cn (mk (rr 14550 qZ 26)) (cn (mk (rr 14550 qZ 27)) kN))))))),rr 14550 qZ 16,rr 14550 qZ 17,rr 14550 qZ 18,rr 14550 qZ 19,rr 14550 qZ 20,rr 14550 qZ 21]) (by simp only [zz,h,hR,hs,hO,hN,hl] <;> omega) (by kernel_rfl) ?_;simp only [zz,h,hs,hN,hl,rH,KT.d,dO,eU,hc]
 rw [aQ,O4];exact congrArg (fin L) K
end
end Go.As.Try
end
section
namespace Go.As.Try
open Go hiding Stat Spec shape
open Go.As
set_option maxRecDepth 100000
theorem Tot.jmp {j k:Nat} {xs ys:List Int} {t:T Lf} {p:List Int→Prop} (e:S.tree j=t) (h:eG (bM L (low xs)) t= .jump k ys) (q:Tot k ys p):Tot j xs p:=by refine Tot.of ?_;rw [e,h];exact .jump q
theorem Tot.ret {j:Nat} {xs ys:List Int} {t:T Lf} {p:List Int→Prop} (e:S.tree j=t) (h:eG (bM L (low xs)) t= .out ys) (q:p ys):Tot j xs p:=by refine Tot.of ?_;rw [e,h];exact .out q
theorem QZ (m:Nat) (hm:m≤60) (ih: ∀(k n:Int) (s kids:D),Wd .str s→Wd (.sl 6) kids→Tot 150 [k,enc s,n,enc kids,(m:Int)] one) (x3 x4 x5:Int) (kids:D) (hk:Wd (.sl 6) kids) :
 ∀(j i:Nat) (x1:Int),i+j=kids.l.length→Tot 151 [((m+1:Nat):Int),x1,(i:Int),x3,x4,x5,enc kids] one
 | 0,i,x1,hi=>Tot.ret axW (ys:=[x1]) (bV [] [.lt Qo Qfb] (ou [Qb]) (by simp only [zz] <;> omega) (by kernel_rfl) (by simp only [zz])) ⟨x1,rfl⟩
 | j+1,i,x1,hi=>by
   have hl:=hk.len;have hil:i < kids.l.length:=by omega
   have hw:=aZ (n:=i) (by omega);obtain⟨k,s,n,ks,he,_,hs,_,hks⟩:=DZ hk hil;have ha:kids.at (i:Int)=dL [.i k,s,.i n,ks]:=by rw [aX hil]; exact he
   obtain⟨ys,ZY,z,rfl⟩:=ih k n s ks hs hks;have hw2:IntKind.i64.wrap (((m+1:Nat):Int) - 1)=(m:Int):=by rw [oQ (by omega) (by omega)]; omega
   by_cases hx:10000 < x1
   ·exact Tot.ret axW (ys:=[x1]) (bV [.lt Qo Qfb,.lt (.lit 10000) Qb] [] (ou [Qb]) (by simp only [zz] <;> omega) (by kernel_rfl) (by simp only [zz])) ⟨x1,rfl⟩
   ·exact Tot.jmp axW (bV [.lt Qo Qfb,.eq (a0 150 Qfd) Q0] [.lt (.lit 10000) Qb,uQ] (ju 151 [Qf,wr (.add Qb (rr 150 Qfd 0)),kS,Qm,bG,cZ,dR]) (by simp only [zz,ha,zg,hw2,ZY] <;> omega) (by kernel_rfl) (by simp only [zz,ha,zg,hw2,ZY,hw] <;> rfl)) (QZ m hm ih x3 x4 x5 kids hk j (i+1) (IntKind.i64.wrap (x1+z)) (by omega))
theorem Xa: ∀(m:Nat),m≤60→∀(k n:Int) (s kids:D),Wd .str s→Wd (.sl 6) kids→Tot 150 [k,enc s,n,enc kids,(m:Int)] one
 | 0,_,k,n,s,kids,_,_=>Tot.ret aC6 (ys:=[10000]) (bV [Qfa] [] (ou [.lit 10000]) (by simp only [zz] <;> omega) (by kernel_rfl) (by simp only [zz])) ⟨_,rfl⟩
 | m+1,hm,k,n,s,kids,hs,hk=>Tot.jmp aC6 (ys:=[((m+1:Nat):Int),_,(0:Nat),k,enc s,n,enc kids]) (bV [] [Qfa] (ju 151 [bG,wr (.add Q0 (wr (.quo Qc (.lit 100)))),Qa,Qf,Qb,Qo,Qm]) (by simp only [zz] <;> omega) (by kernel_rfl) (by simp only [oJ,List.map,aW,Nat.reduceLT,aN,aO] <;> rfl)) (QZ m (by omega) (Xa m (by omega)) k (enc s) n kids hk kids.l.length 0 _ (by omega))
section
variable {d0 d1:D} (h1:Wd (.sl 4) d1)
include h1
theorem Ov (x1 x2 x3:Int) (QC:D) (ha:Wd (.sl 6) QC) (q: ∀x0,Tot 102 [x0,x1,IntKind.i64.wrap (x2+1),x3,enc d0,enc d1] Fh): ∀(j i:Nat) (x0:Int),i+j=QC.l.length→Tot 103 [x0,x1,x2,x3,enc QC,(QC.l.length:Int),(i:Int),enc d0,enc d1] Fh
 | 0,i,x0,hi=>Tot.jmp aC7 (bV [] [.lt dR cZ] (ju 102 [Qf,Qb,kS,Qm,fF,gV]) (by simp only [zz] <;> omega) (by kernel_rfl) (by simp only [zz])) (q x0)
 | j+1,i,x0,hi=>by
   have hl:=ha.len;have hil:i < QC.l.length:=by omega
   have hw:=aZ (n:=i) (by omega);obtain⟨k,s,n,ks,he,_,hs,_,hks⟩:=DZ ha hil;have hat:QC.at (i:Int)=dL [.i k,s,.i n,ks]:=by rw [aX hil]; exact he
   obtain⟨ys,ZY,z,rfl⟩:=Xa 60 (by omega) k n s ks hs hks;have ZY:L 150 [k,enc s,n,enc ks,60]=some [z]:=ZY;exact Tot.jmp aC7 (bV [.lt dR cZ,.lt dR Qdi,.eq (a0 150 Qe9) Q0] [Qe7] (ju 103 [wr (.add Qf (rr 150 Qe9 0)),Qb,Qo,Qm,bG,cZ,wr (.add dR Q0),fF,gV]) (by simp only [zz,hat,zg,ZY] <;> omega) (by kernel_rfl) (by simp only [zz,hat,zg,ZY,hw] <;> rfl)) (Ov x1 x2 x3 QC ha q j (i+1) (IntKind.i64.wrap (x0+z)) (by omega))
theorem ahO (i:Nat) (hi:i < d1.l.length) (q: ∀x0,Tot 101 [x0,(d1.l.length:Int),((i+1:Nat):Int),enc d0,enc d1] Fh): ∀(j k:Nat) (x0:Int),(∀nm' lc cd,d1.l[i]=dL [nm',lc,cd]→k+j=cd.l.length)→Tot 102 [x0,(i:Int),(k:Int),(d1.l.length:Int),enc d0,enc d1] Fh:=by
 have hl:=h1.len;have hw:=aZ (n:=i) (by omega);obtain⟨nm',lc,cd,he,_,_,hcd⟩:=FW h1 hi;have hat:d1.at (i:Int)=dL [nm',lc,cd]:=by rw [aX hi]; exact he
 have hcl:=hcd.len;intro j
 induction j with
 | zero=> intro k x0 hk;have hk:=hk _ _ _ he;exact Tot.jmp axX (bV [.lt Qb (ln cZ)] [Qe2,.lt Qo (ln (ce 2 YH))] (ju 101 [Qf,Qm,Qe4,bG,cZ]) (by simp only [zz,hat,zg] <;> omega) (by kernel_rfl) (by simp only [zz,hw] <;> rfl)) (q x0)
 | succ j ih=>
   intro k x0 hk;have hk':=hk _ _ _ he;by_cases h6:6000 < x0
   ·exact Tot.jmp axX (bV [.lt Qb (ln cZ),.lt Qo (ln (ce 2 YH)),.lt (.lit 6000) Qf] [Qe2] (ju 101 [Qf,Qm,Qe4,bG,cZ]) (by simp only [zz,hat,zg] <;> omega) (by kernel_rfl) (by simp only [zz,hw] <;> rfl)) (q x0)
   ·have hkl:k < cd.l.length:=by omega
    have hw2:=aZ (n:=k) (by omega);obtain⟨a,b,c,e,f,g,QC,hin,_,_,_,_,_,_,has⟩:=ZU hcd hkl;have aGa:cd.at (k:Int)=dL [.i a,.i b,.i c,.i e,.i f,.i g,QC]:=by rw [aX hkl]; exact hin
    refine Tot.jmp axX (bV [.lt Qb (ln cZ),.lt Qo (ln (ce 2 YH))] [Qe2,.lt (.lit 6000) Qf,uQ] (ju 103 [Qf,Qb,Qo,Qm,Qe6,ln Qe6,Qa,bG,cZ]) (by simp only [zz,hat,zg] <;> omega) (by kernel_rfl) (by simp only [zz,hat,aGa,zg] <;> rfl)) (Ov h1 (i:Int) (k:Int) (d1.l.length:Int) QC has (fun x0=>?_) QC.l.length 0 x0 (by omega));rw [hw2];exact ih (k+1) x0 fun nm' lc cd he=>by have:=hk nm' lc cd he; omega
theorem Ou: ∀(j i:Nat) (x0:Int),i+j=d1.l.length→Tot 101 [x0,(d1.l.length:Int),(i:Int),enc d0,enc d1] Fh
 | 0,i,x0,hi=>by
   by_cases h6:6000 < x0
   ·exact Tot.ret axY (bV [.lt (.lit 6000) Qf] [xU] (ou [Q0]) (by simp only [zz] <;> omega) (by kernel_rfl) (by simp only [zz])) Ag
   ·exact Tot.ret axY (bV [] [xU,.lt (.lit 6000) Qf] (ou [Qa]) (by simp only [zz] <;> omega) (by kernel_rfl) (by simp only [zz])) Ah
 | j+1,i,x0,hi=>by
   have hil:i < d1.l.length:=by omega
   obtain⟨nm',lc,cd,he,_,_,hcd⟩:=FW h1 hil;refine Tot.jmp axY (ys:=[_,(i:Int),((0:Nat):Int),(d1.l.length:Int),enc d0,enc d1]) (bV [xU,Qdk] [uQ] (ju 102 [wr (.add Qf (wr (.add (ln Qdm) (ln (ce 2 Qdl))))),Qo,Qa,Qb,Qm,bG]) (by simp only [zz] <;> omega) (by kernel_rfl) (by simp only [zz] <;> rfl)) (ahO h1 i hil (fun x0=>Ou j (i+1) x0 (by omega)) cd.l.length 0 _ fun n' l' c' he'=>?_);rw [he] at he';have:=Po he';simp only [List.cons.injEq,and_true] at this;rw [this.2.2];omega
theorem ahN:Tot 100 [enc d0,enc d1] Fh:=
 Tot.jmp e100 (ys:=[_,(d1.l.length:Int),((0:Nat):Int),enc d0,enc d1]) (bV [] [] (ju 101 [wr (.add sK Qc),Qc,Qa,Qf,Qb]) (by simp only [zz] <;> omega) (by kernel_rfl) (by simp only [zz] <;> rfl)) (Ou h1 d1.l.length 0 _ (by omega))
end
end Go.As.Try
end
section
namespace Go.As.Try
open Go hiding Stat Spec shape
open Go.As
set_option maxRecDepth 100000
def nX (x:D):D:=dL [.i 0,if (x.hd 1).l.length=0 then .i 2 else dL (List.replicate (x.hd 1).l.length (.i 0)),.i 0,.i 0,.i 0,.i 0]
def rY (d0:D):D:=if d0.l.length=0 then .i 1 else dL (d0.l.map mQ)
def rG (d1:D):D:=if d1.l.length=0 then .i 1 else dL (d1.l.map nX)
theorem WE {l:List D} (h: ∀x∈l,∃a lc w o g tr,Kt x a lc w o g tr) (hn:l≠[]) (hl:l.length≤2199023255488):Wd (.sl 8) (dL l):=by
 have e:(l.map fun x=>x.l).map dL=l:=by
  rw [List.map_map]
  conv=>rhs; rw [← List.map_id l]
  apply List.map_congr_left;intro x hx;obtain⟨a,lc,w,o,g,tr,T⟩:=h x hx;rw [T.is];rfl
 rw [← e];refine .many 8 [.int .i64,.sl 0,.int .u8,.int .i64,.int .i64,.int .i64] _ rfl (by simpa using hn) (by have:wG 8=64:=rfl; rw [this,List.length_map]; omega) (fun r hr=>?_) fun r hr j d c h1 h2=>?_
 ·obtain⟨x,hx,rfl⟩:=List.mem_map.1 hr;obtain⟨a,lc,w,o,g,tr,T⟩:=h x hx;rw [T.is];rfl
 ·obtain⟨x,hx,rfl⟩:=List.mem_map.1 hr;obtain⟨a,lc,w,o,g,tr,T⟩:=h x hx;rw [T.is,aT] at h1
  match j with
  | 0=>simp at h1 h2; subst h1 h2; exact .int _ _ T.ha
  | 1=>simp at h1 h2; subst h1 h2; exact T.hl
  | 2=>simp at h1 h2; subst h1 h2; exact .int _ _ T.hw
  | 3=>simp at h1 h2; subst h1 h2; exact .int _ _ T.ho
  | 4=>simp at h1 h2; subst h1 h2; exact .int _ _ T.hg
  | 5=>simp at h1 h2; subst h1 h2; exact .int _ _ T.ht
  | j+6=>simp at h1
theorem ajN (x:D) (h:(x.hd 1).l.length≤17592186043904): ∃a lc w o g tr,Kt (nX x) a lc w o g tr:=by
 have z:iI .i64 0:=⟨by omega,by omega⟩;refine⟨0,_,0,0,0,0,rfl,z,?_,⟨by omega,by omega⟩,z,z,z⟩;split
 ·exact .non 0
 ·rename_i hn;refine Du (fun y hy=> ⟨0,(List.mem_replicate.1 hy).2,z⟩) (fun he=>?_) (by simpa using h);have:=congrArg List.length he;simp only [List.length_replicate,List.length_nil] at this;omega
theorem Fa {d1:D} (h1:Wd (.sl 4) d1): ∀x∈d1.l,(x.hd 1).l.length≤8796093021952:=by intro x hx;obtain⟨i,hi,rfl⟩:=List.getElem_of_mem hx;obtain⟨nm',lc,cd,he,_,hlc,_⟩:=FW h1 hi;rw [he];simp only [zg,Option.getD_some];have:=hlc.room;have h3:wG 2=16:=rfl;rw [h3] at this;omega
theorem alJ {d0 d1:D} (h0:Wd (.sl 3) d0) (h1:Wd (.sl 4) d1) (ok:EY d0 d1):Sx (rY d0) (rG d1) 0:=by
 refine⟨?_,?_,?_,?_⟩
 ·unfold rY;split
  ·exact⟨.nil 7,fun x hx=>by simp [D.l] at hx⟩
  ·refine⟨Ip (fun x hx=>?_) (fun he=>?_) (by rw [List.length_map]; have:=ok.1; omega),fun x hx=>?_⟩
   ·obtain⟨y,hy,rfl⟩:=List.mem_map.1 hx;obtain⟨kd,nm',ln,s1,s2,he,_,hnn,_⟩:=h0.decl y hy;rw [he];refine⟨-1,_,0,0,.i 1,.i 1,rfl,⟨by omega,by omega⟩,?_,.inl rfl,⟨by omega,by omega⟩,.nil 0,.nil 0⟩;split
    ·exact hnn
    ·exact⟨by omega,by omega⟩
   ·have:=congrArg List.length he;simp only [List.length_map,List.length_nil] at this;omega
   ·rw [aT] at hx;obtain⟨y,hy,rfl⟩:=List.mem_map.1 hx;exact⟨Nat.le_refl 0,Nat.le_refl 0⟩
 ·unfold rG;split
  ·exact .nil 8
  ·refine WE (fun x hx=>?_) (fun he=>?_) (by rw [List.length_map]; have:=ok.2.1; omega)
   ·obtain⟨y,hy,rfl⟩:=List.mem_map.1 hx;exact ajN y (by have:=Fa h1 y hy; omega)
   ·have:=congrArg List.length he;simp only [List.length_map,List.length_nil] at this;omega
 ·unfold rY;split
  ·intro h; cases h
  ·intro h;have:=congrArg (fun d=>d.l.length) h;simp only [aT,List.length_map,rQ,List.length_nil] at this;omega
 ·unfold rG;split
  ·intro h; cases h
  ·intro h;have:=congrArg (fun d=>d.l.length) h;simp only [aT,List.length_map,rQ,List.length_nil] at this;omega
theorem JM (d1:D) (h1:Wd (.sl 4) d1) (hlen:d1.l.length≤16) (s:D): ∀(k i:Nat) (acc:List D),i+k=d1.l.length→acc.length=i→
 L 1452 [enc d1,(d1.l.length:Int),(i:Int),enc s,enc (dL acc)]=some [enc s,enc (dL (acc++(d1.l.drop i).map nX)),0]
 | 0,i,acc,hi,ha=>by
   have c1: ¬(i:Int) < (d1.l.length:Int):=by omega
   rw [aQ,aqX,List.drop_of_length_le (by omega)];simp only [WU,zz,c1,bH,List.map_nil,List.append_nil]
 | k+1,i,acc,hi,ha=>by
   have hil:i < d1.l.length:=by omega
   have hd:d1.l.drop i=d1.l[i] :: d1.l.drop (i+1):=List.drop_eq_getElem_cons hil;have ih:=JM d1 h1 hlen s k (i+1) (acc++ [nX d1.l[i]]) (by omega) (by simp [ha]);have c1:(i:Int) < (d1.l.length:Int):=by omega
   have c2: ¬((i:Int) < 0):=by omega
   have w:=aZ (n:=i) (by omega);have c3:(acc.length:Int) < 2199023255551:=by omega
   have hb:=Fa h1 _ (List.getElem_mem hil);have c4:((((d1.l[i]).hd 1).l.length:Nat):Int) < 17592186044416:=by omega
   have e2:acc++(nX d1.l[i] :: (d1.l.drop (i+1)).map nX)=acc++ [nX d1.l[i]]++(d1.l.drop (i+1)).map nX:=by simp
   rw [hd,List.map_cons,e2,← ih,aQ,aqX];by_cases hz:((d1.l[i]).hd 1).l.length=0
   ·have hz':((((d1.l[i]).hd 1).l.length:Nat):Int)=0:=by omega
    have et:nX d1.l[i]= .p (.i 0) (.p (.i 2) (.p (.i 0) (.p (.i 0) (.p (.i 0) (.p (.i 0) (.i 0)))))):=by unfold nX; rw [if_pos hz]; rfl
    rw [et];simp only [WU,zz,c1,c2,w,aX hil,hz',c3,aT,aF]
   ·have hz': ¬((((d1.l[i]).hd 1).l.length:Nat):Int)=0:=by omega
    have et:nX d1.l[i]= .p (.i 0) (.p (dL (List.replicate ((d1.l[i]).hd 1).l.length (.i 0))) (.p (.i 0) (.p (.i 0) (.p (.i 0) (.p (.i 0) (.i 0)))))):=by unfold nX; rw [if_neg hz]; rfl
    rw [et];simp only [WU,zz,c1,c2,w,aX hil,hz',c3,c4,aT,Int.toNat_natCast,aF]
theorem Xv (d1:D) (h1:Wd (.sl 4) d1) (hlen:d1.l.length≤16) (s:D):L 1451 [enc d1,(d1.l.length:Int),enc s]=some [enc s,enc (rG d1),0]:=by
 by_cases hn:d1.l.length=0
 ·have c1: ¬(0:Int) < (d1.l.length:Int):=by omega
  have e:rG d1= .i 1:=by unfold rG; rw [if_pos hn]
  rw [aQ,aqY,e];simp only [WV,zz,c1,bH]
 ·have hp:0 < d1.l.length:=by omega
  have c1:(0:Int) < (d1.l.length:Int):=by omega
  have e:rG d1=dL (d1.l.map nX):=by unfold rG; rw [if_neg hn]
  have ih:=JM d1 h1 hlen s (d1.l.length - 1) 1 [nX (d1.l[0]'hp)] (by omega) rfl
  have e1:[nX (d1.l[0]'hp)]++(d1.l.drop 1).map nX=d1.l.map nX:=by
   conv=>rhs; rw [← List.drop_zero (l:=d1.l),List.drop_eq_getElem_cons hp]
   rfl
  rw [e1,← e] at ih;have a0:d1.at 0=d1.l[0]'hp:=aX (i:=0) hp;have hb:=Fa h1 _ (List.getElem_mem hp);have c4:((((d1.l[0]'hp).hd 1).l.length:Nat):Int) < 17592186044416:=by omega
  rw [← ih,aQ,aqY];by_cases hz:((d1.l[0]'hp).hd 1).l.length=0
  ·have hz':((((d1.l[0]'hp).hd 1).l.length:Nat):Int)=0:=by omega
   have et:dL [nX (d1.l[0]'hp)]= .p (.p (.i 0) (.p (.i 2) (.p (.i 0) (.p (.i 0) (.p (.i 0) (.p (.i 0) (.i 0))))))) (.i 0):=by unfold nX; rw [if_pos hz]; rfl
   rw [et];simp only [WV,zz,c1,a0,hz',rQ,List.nil_append,dO,eU,aF,Int.natCast_one]
  ·have hz': ¬((((d1.l[0]'hp).hd 1).l.length:Nat):Int)=0:=by omega
   have et:dL [nX (d1.l[0]'hp)]= .p (.p (.i 0) (.p (dL (List.replicate ((d1.l[0]'hp).hd 1).l.length (.i 0))) (.p (.i 0) (.p (.i 0) (.p (.i 0) (.p (.i 0) (.i 0))))))) (.i 0):=by unfold nX; rw [if_neg hz]; rfl
   rw [et];simp only [WV,zz,c1,a0,hz',c4,rQ,List.nil_append,dO,eU,Int.toNat_natCast,aF,Int.natCast_one]
theorem ahE {d0 d1:D} (h1:Wd (.sl 4) d1) (hc:L 450 [enc d0,enc d1]=some [0]) (ok:EY d0 d1):L 1450 [enc d0,enc d1]=some [enc (rY d0),enc (rG d1),0]:=by
 have h3:L 300 [enc d0,enc d1]=some [enc (rY d0)]:=by
  by_cases hn:d0.l.length=0
  ·have e:rY d0= .i 1:=by unfold rY; rw [if_pos hn]
   rw [e];exact atB hc (.inr hn)
  ·have e:rY d0=dL (d0.l.map mQ):=by unfold rY; rw [if_neg hn]
   rw [e];exact atC hc ok.1 (by omega)
 have K:eG (bM L (low [enc d0,enc d1])) acP= .jump 1451 [enc d1,(d1.l.length:Int),enc (rY d0)]:=by refine bV [Qf1,Qf2,.eq (a0 300 QD) Q0] [] (ju 1451 [Qb,Qc,rr 300 QD 0]) (by simp only [zz,hc,h3] <;> omega) (by kernel_rfl) ?_;simp only [zz,h3]
 rw [aQ,arA];exact (congrArg (fin L) K).trans (Xv d1 h1 ok.2.1 _)
theorem ahD {d0 d1:D} {c:Int} (hc:L 450 [enc d0,enc d1]=some [c]) (h:c≠0):L 1450 [enc d0,enc d1]=some [enc (.i 1),enc (.i 1),c]:=by
 have K:eG (bM L (low [enc d0,enc d1])) acP= .out [enc (.i 1),enc (.i 1),c]:=by refine bV [Qf1] [Qf2] (ou [Qh,Qh,rr 450 QD 0]) (by simp only [zz,hc] <;> omega) (by kernel_rfl) ?_;simp only [zz,hc]
 rw [aQ,arA];exact congrArg (fin L) K
theorem acT {k:D} {t:Int} (t0:0≤t) (ht:t < (k.l.length:Int)) (x:KT):(rH k t x).at t=x.d:=by obtain⟨i,rfl⟩ : ∃i:Nat,t=(i:Int):=⟨t.toNat,by omega⟩;rw [jT,aT,CJ (by omega)];rfl
theorem vT (k:D) (t:Int) (x:KT):(rH k t x).l.length=k.l.length:=by rw [aT,fJ]
theorem Sv {d1:D} {t:Int} {x:KT} (ho: ¬kR d1 t x=1) (h: ¬low (rD d1 t x) 4=0): ∃op obj arg tr,rD d1 t x= [op,obj,arg,tr,1]:=by
 unfold kR at ho;unfold rD at h ⊢;by_cases w0:x.w=0
 ·rw [if_pos w0] at ho h ⊢;by_cases a0:x.a=(Nc d1 t:Int)
  ·rw [if_pos a0] at ho;omega
  ·rw [if_neg a0] at h ⊢;by_cases h1:((Ins d1 t x).hd 0).n=1
   ·rw [if_pos h1];exact⟨_,_,_,_,rfl⟩
   ·rw [if_neg h1] at h ⊢;by_cases h2:((Ins d1 t x).hd 0).n=2
    ·rw [if_pos h2];exact⟨_,_,_,_,rfl⟩
    ·rw [if_neg h2] at h;exact absurd rfl h
 ·rw [if_neg w0];exact⟨_,_,_,_,rfl⟩
theorem adF (d1:D) (t:Int) (x:KT):kR d1 t x=0∨kR d1 t x=1:=by
 unfold kR;split
 ·split
  ·exact .inr rfl
  ·exact .inl rfl
 ·exact .inl rfl
theorem adI {d0 d1:D} {t:Int} {x:KT} (C:Cd d0 d1) (R:Rt d0 d1 t x) (hd0:d0.l.length≤64) {op obj arg tr b:Int} (hn:rD d1 t x= [op,obj,arg,tr,b]):iI .u8 op∧iI .i64 obj∧iI .i64 arg:=by
 have z8:iI .u8 0:=⟨by omega,by omega⟩;have z:iI .i64 0:=⟨by omega,by omega⟩;have ok:=R.ok;unfold rD at hn;by_cases w0:x.w=0
 ·rw [if_pos w0] at hn;by_cases a0:x.a=(Nc d1 t:Int)
  ·rw [if_pos a0] at hn;simp only [List.cons.injEq] at hn;obtain⟨rfl,rfl,rfl,_⟩:=hn;exact⟨z8,z,z⟩
  ·have hlt:x.a < (Nc d1 t:Int):=by have:=ok.2.1; unfold Nc at a0 ⊢; omega
   have F:=C.inf R hlt;rw [if_neg a0] at hn;by_cases h1:((Ins d1 t x).hd 0).n=1
   ·rw [if_pos h1] at hn;simp only [List.cons.injEq] at hn;obtain⟨rfl,rfl,rfl,_⟩:=hn;exact⟨F.op,F.ob,ayQ F.ar R.ints⟩
   ·rw [if_neg h1] at hn;by_cases h2:((Ins d1 t x).hd 0).n=2
    ·rw [if_pos h2] at hn;simp only [List.cons.injEq] at hn;obtain⟨rfl,rfl,rfl,_⟩:=hn;exact⟨⟨by omega,by omega⟩,F.ob,z⟩
    ·rw [if_neg h2] at hn;simp only [List.cons.injEq] at hn;obtain⟨rfl,rfl,rfl,_⟩:=hn;exact⟨z8,z,z⟩
 ·rw [if_neg w0] at hn;simp only [List.cons.injEq] at hn;obtain⟨rfl,rfl,rfl,_⟩:=hn;obtain⟨_,_,_,_,_,hw⟩:=ok;exact⟨⟨by omega,by omega⟩,⟨by omega,by omega⟩,R.hg⟩
end Go.As.Try
end
section
namespace Go.As.Try
open Go hiding Stat Spec shape
open Go.As
set_option maxRecDepth 100000
theorem atU {lc:D} (h:Wd (.sl 0) lc) {z v:Int} (h0:0≤z) (h1:z < (lc.l.length:Int)) (hv:iI .i64 v):Wd (.sl 0) (dL (eF lc.l z (.i v))):=by
 have:=h.room;have h3:wG 0=8:=rfl;rw [h3] at this;have hs:=fJ lc.l z (.i v);refine Du (fun y hy=>?_) (fun he=>?_) (by rw [hs]; omega)
 ·rcases yP hy with h' | rfl
  ·exact (h.el1 rfl y h').i
  ·exact⟨v,rfl,hv⟩
 ·rw [he] at hs;simp only [List.length_nil] at hs;omega
theorem abM {k:D} (hk:Wd (.sl 8) k) {t:Int} {x:KT} (h: ∃a lc w o g tr,Kt x.d a lc w o g tr) (hp:0 < k.l.length):Wd (.sl 8) (rH k t x):=by
 have hf:=hk.room;have h3:wG 8=64:=rfl;rw [h3] at hf;have hs:=fJ k.l t x.d;refine WE (fun y hy=>?_) (fun he=>?_) (by rw [hs]; omega)
 ·rcases yP hy with h' | rfl
  ·exact lJ hk y h'
  ·exact h
 ·rw [he] at hs;simp only [List.length_nil] at hs;omega
section
variable {d0 d1 s k:D} {t:Int} {n:Nat} {x:KT}
theorem Xy {x:KT} (ha:iI .i64 x.a) (hl:Wd (.sl 0) x.lc) (hw:iI .u8 x.w) (ho:iI .i64 x.o) (hg:iI .i64 x.g) (ht:iI .i64 x.tr): ∃a lc w o g tr,Kt x.d a lc w o g tr:=⟨_,_,_,_,_,_,rfl,ha,hl,hw,ho,hg,ht⟩
theorem Rt.kt (C:Cd d0 d1) (R:Rt d0 d1 t x): ∃a lc w o g tr,Kt x.d a lc w o g tr:=by obtain⟨a0,a1,_,t0,t1,hw⟩:=R.ok;have hd:=C.ok.1;have hnc:=(C.code R.t0 R.t1).len;exact Xy ⟨by omega,by omega⟩ R.hl ⟨by omega,by omega⟩ ⟨by omega,by omega⟩ R.hg ⟨by omega,by omega⟩
theorem ajJ (C:Cd d0 d1) (R:Rt d0 d1 t x) (hx:x.w=0→x.a < (Nc d1 t:Int)) {op e2 e3 e4 oc:Int} (h3:iI .i64 e3) (h4:iI .i64 e4): ∃a lc w o g tr,Kt (uI (Ins d1 t x) x op e2 e3 e4 oc).d a lc w o g tr:=by
 obtain⟨a0,a1,hln,t0,t1,hw⟩:=R.ok;have hd:=C.ok.1;have hnc:=(C.code R.t0 R.t1).len;have ka:iI .i64 x.a:=⟨by omega,by omega⟩;have kw:iI .u8 x.w:=⟨by omega,by omega⟩;have ko:iI .i64 x.o:=⟨by omega,by omega⟩;have kt:iI .i64 x.tr:=⟨by omega,by omega⟩;have z:iI .i64 0:=⟨by omega,by omega⟩;have z8: ∀v:Int,v=0∨v=24∨v=25→iI .u8 v:=fun v h=> ⟨by omega,by omega⟩;unfold uI;split
 ·split
  ·exact Xy ka R.hl kw ko R.hg (by
    show iI .i64 (if 4611686018427387904 < x.tr+1 then 4611686018427387904 else x.tr+1)
    split <;> exact⟨by omega,by omega⟩)
  ·exact Xy ka R.hl kw ko R.hg kt
 ·split
  ·rename_i w0;have F:=C.inf R (hx w0);have ok:=F.ok;have h1:=hx w0;unfold Nc at h1;unfold OkI at ok;have k1:iI .i64 (x.a+1):=⟨by omega,by omega⟩;refine Xy ?_ ?_ ?_ ?_ ?_ z
   ·show iI .i64 (if _ then _ else _);split
    ·exact F.to
    ·exact k1
   ·show Wd (.sl 0) (if _ then _ else _);split
    ·rename_i hc;refine atU R.hl (by omega) ?_ h4;have:=hc.1;omega
    ·exact R.hl
   ·show iI .u8 (if _ then _ else _);split
    ·split
     ·exact z8 _ (by omega)
     ·exact z8 _ (by omega)
    ·exact z8 _ (by omega)
   ·show iI .i64 (if _ then _ else _);split
    ·exact h3
    ·exact ko
   ·show iI .i64 (if _ then _ else _);split
    ·exact h4
    ·exact R.hg
  ·exact Xy ka R.hl (z8 _ (.inl rfl)) z z z
theorem acS {k:D} (hp:0 < k.l.length) (t:Int) (x:KT):rH k t x≠.i 2:=fun he=>by have:=vT k t x;rw [he] at this;have e:(D.i 2).l.length=0:=rfl;omega
theorem ajI (S:Sx s k n) (C:Cd d0 d1) (R:Rt d0 d1 t x) (ht:t < (k.l.length:Int)) (hx:x.w=0→x.a < (Nc d1 t:Int)) {op obj arg tries e1 e2 e3 e4 e5 oc:Int} {s':D} (A:Tried d0 d1 s t op obj arg tries n s' e1 e2 e3 e4 e5 oc) :
 Sx s' (rH k t (uI (Ins d1 t x) x op e2 e3 e4 oc)) (n+1):=by
 have hp:0 < k.l.length:=by have:=R.t0; omega
 exact⟨A.gs,abM S.wk (ajJ C R hx A.e3 A.e4) hp,A.n2 S.n2s,acS hp _ _⟩
theorem atE (R:Rt d0 d1 t x) (ho:kR d1 t x=0):x.w=0→x.a < (Nc d1 t:Int):=fun w0=>by unfold kR at ho;rw [if_pos w0] at ho;have:=R.ok.2.1;unfold Nc at ho ⊢;split at ho <;> omega
end
end Go.As.Try
end
section
namespace Go.As.Try
open Go hiding Stat Spec shape
open Go.As
set_option maxRecDepth 100000
theorem SG: ∀(l:List D) (k v k':D),oC (Cb l k v) k'=if k=k' then some v else oC l k'
 | [],k,v,k'=>by
   simp only [Cb,oC];by_cases h:k=k'
   ·rw [if_pos h]; exact if_pos h
   ·rw [if_neg h]; exact if_neg h
 | d :: l,k,v,k'=>by
   simp only [Cb];by_cases h:Yk d=k
   ·rw [if_pos h];simp only [oC];by_cases h2:k=k'
    ·rw [if_pos h2]; exact if_pos h2
    ·rw [if_neg h2,if_neg (fun h3=>h2 (h.symm.trans h3))]; exact if_neg h2
   ·rw [if_neg h];simp only [oC,SG l k v k'];by_cases h2:Yk d=k'
    ·rw [if_pos h2,if_neg (fun h3=>h (h2.trans h3.symm)),if_pos h2]
    ·rw [if_neg h2,if_neg h2]
def xC (m:Int) (l:List D):Prop:=(∀x∈l,0≤x.n∧x.n < m)∧(l.map D.n).Nodup
def Kq (N o dn:Int) (rl vl:Nat):Prop:=(N < 0→(vl:Int)=0)∧(0≤N→(vl:Int)≤N)∧(o < 0∨(rl:Int)=0∧dn=0)
def abK (s:D) (l:List D):Prop:= ∀n:Int,(oC s.l (.i n)=none∧n∉l.map D.n)∨(oC s.l (.i n)=some (.i 1)∧n∈l.map D.n)
theorem alX {s x:D} {l:List D} (h:abK s l):abK (dL (Cb s.l (.i x.n) (.i 1))) (l++ [x]):=fun n=>by
 rw [aT,SG,List.map_append];by_cases hn:x.n=n
 ·rw [if_pos (by rw [hn])];exact .inr ⟨rfl,List.mem_append_right _ (by simp [hn])⟩
 ·rw [if_neg (fun h=>hn (by simpa using h))];rcases h n with ⟨h1,h2⟩ | ⟨h1,h2⟩
  ·refine .inl ⟨h1,fun h3=>?_⟩;rcases List.mem_append.1 h3 with h3 | h3
   ·exact h2 h3
   ·simp only [List.map,List.mem_cons,List.not_mem_nil,or_false] at h3;exact hn h3.symm
  ·exact .inr ⟨h1,List.mem_append_left _ h2⟩
theorem Lu {P Q:Prop} {ys:List Int} (h:P) (hQ:isB Q ys):isB (P∧Q) ys:=by
 obtain⟨b,rfl,h1 | h1⟩:=hQ
 ·exact⟨b,rfl,.inl ⟨h1.1,fun q=>h1.2 q.2⟩⟩
 ·exact⟨b,rfl,.inr ⟨h1.1,h,h1.2⟩⟩
theorem Af {P Q:Prop} (h: ¬P):isB (P∧Q) [0]:=GH fun q=>h q.1
theorem Xe (m:Int) (r:D) (hl:r.l.length≤140737488351232) (k nm' N x7 x8 o c dn g:Int) (v:D): ∀(j i:Nat) (seen:D),i+j=r.l.length→abK seen (r.l.take i)→xC m (r.l.take i)→
 Tot 501 [m,enc r,(r.l.length:Int),(i:Int),k,nm',N,x7,x8,o,c,dn,g,enc v,enc seen] (isB (xC m r.l∧Kq N o dn r.l.length v.l.length))
 | 0,i,seen,hi,_,hR=>by
   have c1: ¬(i:Int) < (r.l.length:Int):=by omega
   rw [List.take_of_length_le (by omega)] at hR;refine Tot.of ?_;unfold Kq;rw [aqE];simp only [Y4,zz,c1]
   repeat' first
    | exact .out (Lu hR (GH (by omega)))
    | exact .out (Lu hR (aeC (by omega)))
    | refine .ite (fun _=>?_) (fun _=>?_)
 | j+1,i,seen,hi,hS,hR=>by
   have hil:i < r.l.length:=by omega
   have c1:(i:Int) < (r.l.length:Int):=by omega
   have c2: ¬((i:Int) < 0):=by omega
   have w:=aZ (n:=i) (by omega);have ht:r.l.take (i+1)=r.l.take i++ [r.l[i]]:=by rw [List.take_add_one,List.getElem?_eq_getElem hil]; rfl
   have hmem:r.l[i]∈r.l:=List.getElem_mem hil;have ih:=fun h=>Xe m r hl k nm' N x7 x8 o c dn g v j (i+1) (dL (Cb seen.l (.i (r.l[i]).n) (.i 1))) (by omega) (by rw [ht]; exact alX hS) h;refine Tot.of ?_;rw [aqE];rcases hS (r.l[i]).n with ⟨h1,h2⟩ | ⟨h1,h2⟩
   ·simp only [Y4,zz,c1,c2,w,aX hil,h1,Option.isSome_none,Bool.false_eq_true];refine .ite (fun q=> .out (Af fun R=>?_)) (fun q=> .ite (fun q2=>?_) (fun q2=> .out (Af fun R=>?_)))
    ·have:=R.1 _ hmem;omega
    ·refine .jump (ih ?_);rw [ht];refine⟨fun x hx=>?_,?_⟩
     ·rcases List.mem_append.1 hx with hx | hx
      ·exact hR.1 x hx
      ·simp only [List.mem_cons,List.not_mem_nil,or_false] at hx;subst hx;exact⟨by omega,q2⟩
     ·rw [List.map_append,List.nodup_append];refine⟨hR.2,by simp,fun a ha b hb=>?_⟩;simp only [List.map,List.mem_cons,List.not_mem_nil,or_false] at hb;subst hb;intro he;subst he;exact h2 ha
    ·have:=R.1 _ hmem;omega
   ·simp only [Y4,zz,c1,c2,w,aX hil,h1,aC]
    have nd: ¬xC m r.l:=fun R=>by
     have hn:=R.2;have e:r.l=r.l.take i++r.l[i] :: r.l.drop (i+1):=by rw [← List.drop_eq_getElem_cons hil,List.take_append_drop]
     rw [e,List.map_append,List.nodup_append] at hn;exact hn.2.2 _ h2 _ (by rw [List.map_cons]; exact List.mem_cons_self) rfl
    refine .ite (fun q=> .out (Af nd)) (fun q=> .ite (fun q2=> .out (Af nd)) (fun q2=> .out (Af nd)))
theorem agG (m:Int) (r:D) (hl:r.l.length≤140737488351232) (k nm' N x7 x8 o c dn g:Int) (v:D) :
 Tot 501 [m,enc r,(r.l.length:Int),0,k,nm',N,x7,x8,o,c,dn,g,enc v,enc (.i 0)] (isB (xC m r.l∧Kq N o dn r.l.length v.l.length)):=
 Xe m r hl k nm' N x7 x8 o c dn g v r.l.length 0 (.i 0) (by omega) (fun n=> .inl ⟨rfl,by simp⟩) ⟨by simp,by simp⟩
def wJ (k N c:Int):Prop:=k=9∨(k=3∧0≤c∧c≤N)∨(k=5∧0≤c∧c≤IntKind.i64.wrap (N - 1))∨(k=7∧0≤c∧c≤1099511627776)∨(k≠3∧k≠5∧k≠7∧k≠9∧c=0)
theorem avX (k x1 N x3 x4 c:Int): ∃a b:Int,L 650 [k,x1,N,x3,x4]=some [a,b]∧(b=0∧wJ k N c∨b=1∧(wJ k N c↔0≤c∧c≤a)):=by
 have:Tot 650 [k,x1,N,x3,x4] (fun ys=> ∃a b:Int,ys= [a,b]∧(b=0∧wJ k N c∨b=1∧(wJ k N c↔0≤c∧c≤a))):=by
  unfold wJ;refine Tot.of ?_;rw [aCV];simp only [auJ,zz]
  repeat' first
   | exact .out ⟨_,_,rfl,by omega⟩
   | refine .ite (fun _=>?_) (fun _=>?_)
 obtain⟨ys,h,a,b,rfl,h2⟩:=this;exact⟨a,b,h,h2⟩
def Ui (k N m o c dn g:Int) (rl vl:Nat):Prop:=
 wJ k N c∧-1≤o∧o < m∧0≤g∧g≤4611686018427387904∧(0≤o→k=1∨k=2∨k=6)∧(0 < (rl:Int)→k=4∨k=2)∧(0 < (vl:Int)→k=8)∧(dn≠0→k=6)∧(0 < g→k=5)
def YC (k N m o c dn g:Int) (r v:D):Prop:=Ui k N m o c dn g r.l.length v.l.length∧xC m r.l∧Kq N o dn r.l.length v.l.length
set_option maxHeartbeats 4000000 in
theorem alQ (k x1 N x3 x4 m o c dn g:Int) (r v:D) (hl:r.l.length≤140737488351232):Tot 500 [k,x1,N,x3,x4,o,c,dn,g,enc r,enc v,m] (isB (YC k N m o c dn g r v)):=by
 unfold YC Ui;obtain⟨a,b,hM,hb⟩:=avX k x1 N x3 x4 c;have ih:=agG m r hl k x1 N x3 x4 o c dn g v;refine Tot.of ?_;rw [aCX];generalize wJ k N c=H at *;by_cases b0:b=0
 ·subst b0
  have hH:H:=by
   rcases hb with h | h
   ·exact h.2
   ·omega
  simp only [akK,zz,hM]
  repeat' first
   | exact .out (Af (by omega))
   | exact .jump (let ⟨ys,hL,hB⟩:=ih; ⟨ys,hL,Lu ⟨hH,by omega,by omega,by omega,by omega,by omega,by omega,by omega,by omega,by omega⟩ hB⟩)
   | refine .ite (fun _=>?_) (fun _=>?_)
 ·have hH:H↔0≤c∧c≤a:=by
   rcases hb with h | h
   ·omega
   ·exact h.2
  simp only [akK,zz,hM,if_neg b0]
  repeat' first
   | exact .out (Af fun h=>by first | omega | (have:=hH.1 h.1; omega))
   | exact .jump (let ⟨ys,hL,hB⟩:=ih; ⟨ys,hL,Lu ⟨hH.2 ⟨by omega,by omega⟩,by omega,by omega,by omega,by omega,by omega,by omega,by omega,by omega,by omega⟩ hB⟩)
   | refine .ite (fun _=>?_) (fun _=>?_)
theorem awE {P:Prop} {j:Nat} {xs:List Int} (h:Tot j xs (isB P)):L j xs=some [1]↔P:=by
 obtain⟨ys,hL,b,rfl,hb⟩:=h;rw [hL];simp only [Option.some.injEq,List.cons.injEq,and_true];rcases hb with ⟨h1,h2⟩ | ⟨h1,h2⟩
 ·exact⟨fun h=>by omega,fun h=>absurd h h2⟩
 ·exact⟨fun _=>h2,fun _=>h1⟩
theorem alR {d x:D} {m:Nat} {o c dn g:Int} {r v:D} (T:Tg x o c dn g r v) (hl:r.l.length≤140737488351232):Snd d x m↔YC (d.hd 0).n (d.hd 2).n (m:Int) o c dn g r v:=by
 have h:=awE (alQ (d.hd 0).n (enc (d.hd 1)) (d.hd 2).n (enc (d.hd 3)) (d.hd 4).n (m:Int) o c dn g r v hl)
 have e:(if dn=0 then (0:Int) else 1)=dn:=by rcases T.hd with rfl | rfl <;> rfl
 unfold Snd auX;rw [T.is];simp only [zg,Option.getD_some,n_i,e];exact h
end Go.As.Try
end
section
namespace Go.As.Try
open Go hiding Stat Spec shape
open Go.As
set_option maxRecDepth 100000
theorem UO {m:Int} {l l':List D} (h:xC m l) (hs:l'.Sublist l):xC m l':=⟨fun x hx=>h.1 x (hs.subset hx),h.2.sublist (hs.map _)⟩
theorem avH (m:Int):xC m []:=⟨by simp,by simp⟩
theorem Xd {m t:Int} {l:List D} (h:xC m l) (hn: ∀x∈l,x.n≠t) (t0:0≤t) (t1:t < m):xC m (l++ [.i t]):=by
 refine⟨fun x hx=>?_,?_⟩
 ·rcases List.mem_append.1 hx with hx | hx
  ·exact h.1 x hx
  ·simp only [List.mem_cons,List.not_mem_nil,or_false] at hx;subst hx;exact⟨t0,t1⟩
 ·rw [List.map_append,List.nodup_append];refine⟨h.2,by simp,fun a ha b hb=>?_⟩;simp only [List.map,List.mem_cons,List.not_mem_nil,or_false,n_i] at hb;subst hb;obtain⟨x,hx,rfl⟩:=List.mem_map.1 ha;exact hn x hx
theorem aBB {m t:Int} {l:List D} (h:xC m l) (t0:0≤t) (t1:t < m):xC m (wo t l++ [.i t]):=
 Xd (UO h List.filter_sublist) (fun x hx=>by simpa using (List.mem_filter.1 hx).2) t0 t1
theorem avI {m:Int} {l:List D} (h:xC m l) (k:Nat):xC m (l.take k++l.drop (k+1)):=by rw [← List.eraseIdx_eq_take_drop_succ];exact UO h (List.eraseIdx_sublist _ _)
theorem Xk {r:D} {t:Int} (h:place r t < 0): ∀x∈r.l,x.n≠t:=by
 rcases sZ r t with ⟨_,h2⟩ | ⟨k,_,h1,_⟩
 ·exact h2
 ·omega
def aiO (k N m:Int):Act→Prop
 | .res o c dn g r v _ _ _=>YC k N m o c dn g r v
 | _=>True
theorem aiO.ite {k N m:Int} {p:Prop} [Decidable p] {a b:Act} (ha:p→aiO k N m a) (hb: ¬p→aiO k N m b):aiO k N m (if p then a else b):=by
 by_cases h:p
 ·rw [if_pos h]; exact ha h
 ·rw [if_neg h]; exact hb h
theorem ZN {op k:Int} (h0:0≤op) (hk:kindOf op=k) (h1:1≤k) :
 (op=1∨op=2∨op=3∨op=4)∧k=1∨(op=5∨op=6∨op=7∨op=8)∧k=2∨(op=9∨op=10∨op=11)∧k=3∨(op=12∨op=13∨op=14∨op=24)∧k=4∨(op=15∨op=25)∧k=5∨(op=16∨op=26)∧k=6∨(op=17∨op=18∨op=19)∧k=7∨(op=20∨op=21)∧k=8∨(op=22∨op=23)∧k=9:=by
 unfold kindOf at hk;by_cases h27:op < 27
 ·have:op=0∨op=1∨op=2∨op=3∨op=4∨op=5∨op=6∨op=7∨op=8∨op=9∨op=10∨op=11∨op=12∨op=13∨op=14∨op=15∨op=16∨op=17∨op=18∨op=19∨op=20∨op=21∨op=22∨op=23∨op=24∨op=25∨op=26:=by omega
  rcases this with rfl | rfl | rfl | rfl | rfl | rfl | rfl | rfl | rfl | rfl | rfl | rfl | rfl | rfl | rfl | rfl | rfl | rfl | rfl | rfl | rfl | rfl | rfl | rfl | rfl | rfl | rfl
  all_goals simp at hk
  all_goals subst hk
  all_goals first | omega | simp
 ·rw [if_neg h27] at hk;omega
section
variable {d0 x:D} {k N m mo th op arg tries o c dn g:Int} {r v:D}
set_option maxHeartbeats 8000000 in
theorem ayU (T:Tg x o c dn g r v) (S:YC k N m o c dn g r v) (hop:0≤op) (hk:kindOf op=k) (hO:OkO d0 k N) (t0:0≤th) (t1:th < m) (hm:m≤16):aiO k N m (act N mo th op arg tries o c dn g r v):=by
 obtain⟨P,R,E⟩:=S;have hc1:=T.hc.1;have hc2:=T.hc.2;have hg1:=T.hg.1;have hd:=T.hd;have pr:=iR r th;have pn:=fun h=>Xk (r:=r) (t:=th) h;have rs:=fun h=>Xd R (Xk (r:=r) (t:=th) h) t0 t1;have rw':=aBB R t0 t1
 have rd:=avI R (place r th).toNat
 have r1:=UO R (List.drop_sublist 1 r.l);obtain⟨k1,k2,_,kn,k5,_⟩:=hO;unfold Ui wJ at P;unfold Kq at E;have hcs:=ZN hop hk k1;rcases hcs with ⟨h | h | h | h,hk'⟩ | ⟨h | h | h | h,hk'⟩ | ⟨h | h | h,hk'⟩ | ⟨h | h | h | h,hk'⟩ | ⟨h | h,hk'⟩ | ⟨h | h,hk'⟩ | ⟨h | h | h,hk'⟩ | ⟨h | h,hk'⟩ | ⟨h | h,hk'⟩
 all_goals
  subst h;subst hk';simp only [act,Int.reduceEq,if_true,if_false,reduceIte]
  repeat' first
   | exact trivial
   | refine aiO.ite (fun _=>?_) (fun _=>?_)
 all_goals
  refine⟨?_,?_,?_⟩
  ·clear rs rw' rd r1 pn;unfold Ui wJ
   try simp only [aT,gJ,rQ,List.length_append,List.length_cons,List.length_nil,List.length_drop,IntKind.wrap_i64,true_or,or_true,true_and,and_true,implies_true,true_implies] at *
   omega
  ·try simp only [aT,gJ,rQ]
   first
    | exact R
    | exact rs (by omega)
    | exact rw'
    | exact rd
    | exact r1
    | exact avH _
  ·unfold Kq
   try simp only [aT,gJ,rQ,List.length_append,List.length_cons,List.length_nil,List.length_drop,List.length_take,IntKind.wrap_i64,true_or,or_true,true_and,and_true,implies_true,true_implies] at *
   omega
end
end Go.As.Try
end
section
namespace Go.As.Try
open Go hiding Stat Spec shape
open Go.As
set_option maxRecDepth 100000
structure aDi (d0 d1 s k:D) (t:Int) (n:Nat) (s' k':D) (e1 e2 e3 e4 e5 oc:Int):Prop where
 eq:L 1850 [enc d0,enc d1,enc s,enc k,t]=some [enc s',enc k',e1,e2,e3,e4,e5,oc]
 sx:Sx s' k' (n+1)
 ls:s'.l.length=s.l.length
 lk:k'.l.length=k.l.length
section
variable {d0 d1 s k:D} {n:Nat} (S:Sx s k n) (hn:n < 17592186043904) (h0:Wd (.sl 3) d0) (h1:Wd (.sl 4) d1)
include S hn h0 h1
theorem anO {t:Int} {x:KT} (R:Rs d0 d1 s k t x) (ho:kR d1 t x=0) (ha:low (rD d1 t x) 4=0):Sx s (rH k t (Ac (Ins d1 t x) x)) n:=by
 have hp:0 < k.l.length:=by have:=R.r.t0; have:=R.ht; omega
 exact⟨S.g,abM S.wk ((Xw R.c R.ht R.r (ZL R.r ho ha)).1.kt R.c) hp,S.n2s,acS hp _ _⟩
theorem alL (t:Int): ∃s' k' e1 e2 e3 e4 e5 oc,aDi d0 d1 s k t n s' k' e1 e2 e3 e4 e5 oc:=by
 rcases azT (t:=t) S hn h0 h1 with h | ⟨x,R⟩
 ·exact⟨s,k,0,0,0,0,0,0,KQ S h,S.mono (Nat.le_succ n),rfl,rfl⟩
 ·rcases adF d1 t x with ho | ho
  ·by_cases ha:low (rD d1 t x) 4=0
   ·exact⟨_,_,0,0,0,0,0,1,MX S R ho ha,(anO S hn h0 h1 R ho ha).mono (Nat.le_succ n),rfl,vT _ _ _⟩
   ·obtain⟨op,obj,arg,tr,hq⟩:=Sv (by omega) ha;obtain⟨k1,k2,k3⟩:=adI R.c R.r R.c.ok.1 hq
    have hti:iI .i64 t:=by have:=R.r.t0;have:=R.r.t1;have:=h1.len;exact⟨by omega,by omega⟩
    obtain⟨s',e1,e2,e3,e4,e5,oc,A⟩:=try_any (tries:=tr) h0 h1 S.g hn hti k1 k2 k3;exact⟨s',_,e1,e2,e3,e4,e5,oc,MW S R ho hq A,ajI S R.c R.r R.ht (atE R.r ho) A,A.len,vT _ _ _⟩
  ·exact⟨s,k,0,0,0,0,0,4,QV S R ho,S.mono (Nat.le_succ n),rfl,rfl⟩
end
def wQ (x n:Int):Int:=if x.tmod n < 0 then x.tmod n+n else x.tmod n
theorem WI {x n:Int} (h:0 < n): -n < x.tmod n∧x.tmod n < n:=by have h1:=Int.tmod_lt_of_pos x h;have h2:=Int.tmod_lt_of_pos (-x) h;rw [Int.neg_tmod] at h2;omega
theorem agQ {x n:Int} (h:0 < n):0≤wQ x n∧wQ x n < n:=by have:=WI (x:=x) h;unfold wQ;split <;> omega
theorem agP {x n:Int} (h:0 < n) (hb:n≤140737488351232):(IntKind.i64.wrap (x.tmod n+n)).tmod n=wQ x n:=by
 have h1:=WI (x:=x) h;rw [oQ (by omega) (by omega)];unfold wQ;split
 ·exact Int.tmod_eq_of_lt (by omega) (by omega)
 ·rw [Int.tmod_eq_emod_of_nonneg (by omega),Int.add_emod_right];exact Int.emod_eq_of_lt (by omega) (by omega)
end Go.As.Try
end
section
namespace Go.As.Try
open Go hiding Stat Spec shape
open Go.As
set_option maxRecDepth 100000
inductive aiJ (d0 d1 s:D) (t op obj arg tries:Int):D→Int→Int→Int→Int→Int→Int→Prop
 | no:aiJ d0 d1 s t op obj arg tries s 0 0 0 0 0 0
 | mis (A:Acc d0 d1 s t op obj):aiJ d0 d1 s t op obj arg tries s t 27 obj (IntKind.i64.wrap op) 0 2
 | res (A:Acc d0 d1 s t op obj) (o c dn g:Int) (r v:D) (o' c' BD g':Int) (r' v':D) (m:Option Int) (a oc:Int) (T:Tg (s.at obj) o c dn g r v)
  (h:act (Mx d0 obj) (Mo d0 s obj) t op arg tries o c dn g r v= .res o' c' BD g' r' v' m a oc):aiJ d0 d1 s t op obj arg tries (Bz s obj (Mx d0 obj) (.res o' c' BD g' r' v' m a oc)) t op obj a 0 oc
section
variable {d0 d1 s s':D} {t op obj arg tries e1 e2 e3 e4 e5 oc:Int} {n:Nat}
theorem Y1 (h0:Wd (.sl 3) d0) (h1:Wd (.sl 4) d1) (G:Gs s n) (hn:n < 17592186043904) (hop:iI .u8 op) (A:Tried d0 d1 s t op obj arg tries n s' e1 e2 e3 e4 e5 oc):aiJ d0 d1 s t op obj arg tries s' e1 e2 e3 e4 e5 oc:=by
 have hf:=G.few (by omega:n < 17592186044415);have hA:=A.eq;by_cases h:Acc d0 d1 s t op obj
 ·obtain⟨_,o,c,dn,g,r,v,T,hL⟩:=KO (arg:=arg) (tries:=tries) h0 h1 G.wd hf hop h;rw [Lj] at hL;rw [hA] at hL
  cases hB:act (Mx d0 obj) (Mo d0 s obj) t op arg tries o c dn g r v with
  | blk=> rw [hB] at hL;simp only [evA,Option.some.injEq,List.cons.injEq,and_true] at hL;obtain⟨q,rfl,rfl,rfl,rfl,rfl,rfl⟩:=hL;have q:=iD q;subst q;exact .no
  | mis=> rw [hB] at hL;simp only [evA,Option.some.injEq,List.cons.injEq,and_true] at hL;obtain⟨q,rfl,rfl,rfl,rfl,rfl,rfl⟩:=hL;have q:=iD q;subst q;exact .mis h
  | res o' c' BD g' r' v' m a oc'=> rw [hB] at hL;simp only [evA,Option.some.injEq,List.cons.injEq,and_true] at hL;obtain⟨q,rfl,rfl,rfl,rfl,rfl,rfl⟩:=hL;have q:=iD q;subst q;exact .res h o c dn g r v o' c' BD g' r' v' m _ _ T hB
 ·have hL:=Un (arg:=arg) (tries:=tries) h0 h1 G.wd hf hop h;rw [hA] at hL;simp only [Option.some.injEq,List.cons.injEq,and_true] at hL;obtain⟨q,rfl,rfl,rfl,rfl,rfl,rfl⟩:=hL;have q:=iD q;subst q;exact .no
end
section
variable {d0 d1 s:D} {n:Nat} (h0:Wd (.sl 3) d0) (h1:Wd (.sl 4) d1) (G:Gs s n) (hn:n < 17592186044000)
include h0 h1 G hn
theorem KW (R:L 350 [enc d0,enc d1,enc s]=some [1]):L 450 [enc d0,enc d1]=some [0]∧EY d0 d1∧s.l.length=d0.l.length:=by obtain⟨b,hb,_,hi⟩:=pK h0 h1 (G.few (by omega)).rows;rw [R] at hb;simp only [Option.some.injEq,List.cons.injEq,and_true] at hb;obtain⟨hC,hle,_⟩:=hi.1 hb.symm;exact⟨hC,Ns h0 h1 (G.few (by omega)) R⟩
theorem UM (R:L 350 [enc d0,enc d1,enc s]=some [1]) {i:Int} (i0:0≤i) (i1:i < (s.l.length:Int)) {o c dn g:Int} {r v:D} (T:Tg (s.at i) o c dn g r v):YC ((d0.at i).hd 0).n ((d0.at i).hd 2).n (d1.l.length:Int) o c dn g r v:=by
 obtain⟨b,hb,_,hi⟩:=pK h0 h1 (G.few (by omega)).rows;rw [R] at hb;simp only [Option.some.injEq,List.cons.injEq,and_true] at hb;obtain⟨_,hle,hs⟩:=hi.1 hb.symm;obtain⟨k,rfl⟩ : ∃k:Nat,i=(k:Int):=⟨i.toNat,by omega⟩;have hk:k < s.l.length:=by omega
 have h:=hs k hk;rw [aX hk] at T;have hrow:=G.rows _ (List.getElem_mem hk);rw [T.is] at hrow;have hl:r.l.length≤140737488351232:=by have:=hrow.1; have:r.l.length≤n:=this; omega
 rw [alR T hl] at h;rw [aX (by omega:k < d0.l.length)];exact h
theorem azS (hC:L 450 [enc d0,enc d1]=some [0]) (hle:s.l.length=d0.l.length) (h: ∀i:Nat,i < s.l.length→∃o c dn g r v,Tg (s.at (i:Int)) o c dn g r v∧YC ((d0.at (i:Int)).hd 0).n ((d0.at (i:Int)).hd 2).n (d1.l.length:Int) o c dn g r v):L 350 [enc d0,enc d1,enc s]=some [1]:=by
 obtain⟨b,hb,_,hi⟩:=pK h0 h1 (G.few (by omega)).rows;rw [hb,hi.2 ⟨hC,hle,fun k hk=>?_⟩];obtain⟨o,c,dn,g,r,v,T,P⟩:=h k hk;rw [aX hk] at T;rw [aX (by omega:k < d0.l.length)] at P;have hrow:=G.rows _ (List.getElem_mem hk);rw [T.is] at hrow;have hl:r.l.length≤140737488351232:=by have:=hrow.1; have:r.l.length≤n:=this; omega
 exact (alR T hl).2 P
end
theorem Ot {s:D} {n:Nat} (G:Gs s n) {i:Int} (i0:0≤i) (i1:i < (s.l.length:Int)): ∃o c dn g r v,Tg (s.at i) o c dn g r v∧r.l.length≤n∧v.l.length≤n:=by
 obtain⟨k,rfl⟩ : ∃k:Nat,i=(k:Int):=⟨i.toNat,by omega⟩;have hk:k < s.l.length:=by omega
 obtain⟨o,c,dn,g,r,v,T⟩:=FU (G.wd.thing _ (List.getElem_mem hk));have hrow:=G.rows _ (List.getElem_mem hk);rw [T.is] at hrow;exact⟨o,c,dn,g,r,v,by rw [aX hk]; exact T,hrow.1,hrow.2⟩
def aiP (th:Int):Act→Prop
 | .res _ _ _ _ _ _ m _ _=> ∀q,m=some q→q= -1∨q=th
 | _=>True
theorem aiP.ite {th:Int} {p:Prop} [Decidable p] {a b:Act} (ha:aiP th a) (hb:aiP th b):aiP th (if p then a else b):=by
 split
 ·exact ha
 ·exact hb
theorem aFy {M mo th op arg tries o c dn g:Int} {r v:D}:aiP th (act M mo th op arg tries o c dn g r v):=by
 have e1: ∀q:Int,(none:Option Int)=some q→q= -1∨q=th:=fun q h=>by simp at h
 have e2: ∀q:Int,some (-1:Int)=some q→q= -1∨q=th:=fun q h=>by simp only [Option.some.injEq] at h; exact .inl h.symm
 have e3: ∀q:Int,some th=some q→q= -1∨q=th:=fun q h=>by simp only [Option.some.injEq] at h; exact .inr h.symm
 unfold act
 repeat' refine aiP.ite ?_ ?_
 all_goals first
  | trivial
  | exact e1
  | exact e2
  | exact e3
theorem V9 {s:D} {i:Nat} {x:D} (h:s.l[i]?=some x):s.at (i:Int)=x:=by rw [jT,h]; rfl
section
variable {d0 d1 s:D} {t op obj arg tries:Int} {n:Nat} (h0:Wd (.sl 3) d0) (h1:Wd (.sl 4) d1) (G:Gs s n) (hn:n < 17592186043904) (hop:iI .u8 op) (ht:iI .i64 t) (ha:iI .i64 arg)
include h0 h1 G hn hop ht ha
theorem agJ (A:Acc d0 d1 s t op obj) {o c dn g:Int} {r v:D} (T:Tg (s.at obj) o c dn g r v) {o' c' BD g':Int} {r' v':D} {m:Option Int} {a oc:Int}
 (h:act (Mx d0 obj) (Mo d0 s obj) t op arg tries o c dn g r v= .res o' c' BD g' r' v' m a oc):L 350 [enc d0,enc d1,enc (Bz s obj (Mx d0 obj) (.res o' c' BD g' r' v' m a oc))]=some [1]:=by
 obtain⟨hC,ok,hle⟩:=KW h0 h1 G (by omega) A.r;have a0:=A.o0;have a1:=A.o1;obtain⟨i,rfl⟩ : ∃i:Nat,obj=(i:Int):=⟨obj.toNat,by omega⟩;have hi:i < s.l.length:=by omega
 have hO:=ok.2.2 _ (ZH (d:=d0) a0 (by omega))
 have hrv:r.l.length≤n∧v.l.length≤n:=by
  have hrow:=G.rows _ (List.getElem_mem hi);have e:s.l[i]=dL [.i o,.i c,.i dn,.i g,r,v]:=by rw [← aX hi]; exact T.is
  rw [e] at hrow;exact hrow
 have hS:=UM h0 h1 G (by omega) A.r a0 a1 T;have hS':=ayU (d0:=d0) (mo:=Mo d0 s (i:Int)) (tries:=tries) (arg:=arg) (th:=t) T hS hop.1 A.k hO A.t0 A.t1 (by have:=ok.2.1; omega);have hK:=atJ (M:=Mx d0 (i:Int)) (mo:=Mo d0 s (i:Int)) (op:=op) (tries:=tries) T (n:=n) hrv.1 hrv.2 (by omega) ht ha;have hQ:=aFy (M:=Mx d0 (i:Int)) (mo:=Mo d0 s (i:Int)) (th:=t) (op:=op) (arg:=arg) (tries:=tries) (o:=o) (c:=c) (dn:=dn) (g:=g) (r:=r) (v:=v)
 have hN:m=none∨op=12∨op=24:=by
  by_cases h2:op=12∨op=24
  ·exact .inr h2
  ·have:=TW (M:=Mx d0 (i:Int)) (mo:=Mo d0 s (i:Int)) (th:=t) (op:=op) (arg:=arg) (tries:=tries) (o:=o) (c:=c) (dn:=dn) (g:=g) (r:=r) (v:=v) (by omega) (by omega);rw [h] at this;exact .inl this
 rw [h] at hS' hK hQ
 have hM:NoM (.res o' c' BD g' r' v' m a oc)∨0≤Mx d0 (i:Int)∧Mx d0 (i:Int) < (s.l.length:Int)∧Mx d0 (i:Int)≠(i:Int):=by
  rcases hN with h2 | h2
  ·exact .inl h2
  ·exact .inr (PY h0 h1 G.wd (G.few (by omega)) hop A h2)
 have G':=acZ G hK a0 a1 (hM.imp id fun h=> ⟨h.1,h.2.1⟩);have hl:=Xh s (i:Int) (Mx d0 (i:Int)) (.res o' c' BD g' r' v' m a oc)
 have hd:(if BD=0 then (0:Int) else 1)=BD:=by rcases hK.2.2.1 with rfl | rfl <;> rfl
 refine azS h0 h1 G' (by omega) hC (by rw [hl]; exact hle) fun j hj=>?_;rw [hl] at hj;by_cases hji:j=i
 ·subst hji
  have e:(Bz s (j:Int) (Mx d0 (j:Int)) (.res o' c' BD g' r' v' m a oc)).at (j:Int)=dL [.i o',.i c',.i BD,.i g',r',v']:=by refine V9 ?_;unfold Bz;rw [aT,hd];exact CJ (by cases m with | none=>exact hj | some q=>rw [fJ]; exact hj)
  exact⟨o',c',BD,g',r',v',⟨e,hK.1,hK.2.1,hK.2.2.1,hK.2.2.2.1,hK.2.2.2.2.1,hK.2.2.2.2.2.2.1⟩,hS'⟩
 ·by_cases hjm:NoM (.res o' c' BD g' r' v' m a oc)∨(j:Int)≠Mx d0 (i:Int)
  ·have e:(Bz s (i:Int) (Mx d0 (i:Int)) (.res o' c' BD g' r' v' m a oc)).at (j:Int)=s.at (j:Int):=by
    rw [jT,jT,amL (by omega) hjm]
   obtain⟨o2,c2,dn2,g2,r2,v2,T2,_,_⟩:=Ot G (i:=(j:Int)) (by omega) (by omega);exact⟨o2,c2,dn2,g2,r2,v2,by rw [e]; exact T2,UM h0 h1 G (by omega) A.r (by omega) (by omega) T2⟩
  ·have hj1:(j:Int)=Mx d0 (i:Int):=Decidable.byContradiction fun hne=>hjm (.inr hne)
   cases m with
   | none=>exact absurd (.inl rfl) hjm
   | some q=>
     obtain⟨o2,c2,dn2,g2,r2,v2,T2,_,_⟩:=Ot G (i:=(j:Int)) (by omega) (by omega);have P2:=UM h0 h1 G (by omega) A.r (by omega) (by omega) T2
     have hk1:((d0.at (j:Int)).hd 0).n=1:=by
      have h4:((d0.at (i:Int)).hd 0).n=4:=by
       rw [← A.k];rcases hN with h2 | h2 | h2
       ·simp at h2
       ·rw [h2]; rfl
       ·rw [h2]; rfl
      obtain⟨_,_,m3⟩:=hO.2.2.2.2.2 h4;rw [hj1];exact m3
     have e:(Bz s (i:Int) (Mx d0 (i:Int)) (.res o' c' BD g' r' v' (some q) a oc)).at (j:Int)=dL [.i q,.i c2,.i dn2,.i g2,r2,v2]:=by refine V9 ?_;unfold Bz;rw [aT,qE (by omega),← hj1,CJ (by omega),T2.is];rfl
     refine⟨q,c2,dn2,g2,r2,v2,⟨e,hK.2.2.2.2.2.2.2.2.1 q rfl,T2.hc,T2.hd,T2.hg,T2.hr,T2.hv⟩,?_⟩;have t0:=A.t0;have t1:=A.t1;have hq:=hQ q rfl;rw [hk1] at P2 ⊢;obtain⟨p,q2,q3⟩:=P2;unfold Ui wJ at p;unfold Kq at q3;refine⟨?_,q2,?_⟩
     ·unfold Ui wJ;omega
     ·unfold Kq;omega
end
def aiN (op:Int):Act→Prop
 | .res _ _ _ _ _ _ _ _ oc=>oc=2∨oc=3∧(op=12∨op=15)
 | _=>True
theorem aiN.ite {op:Int} {p:Prop} [Decidable p] {a b:Act} (ha:p→aiN op a) (hb: ¬p→aiN op b):aiN op (if p then a else b):=by
 by_cases h:p
 ·rw [if_pos h]; exact ha h
 ·rw [if_neg h]; exact hb h
theorem aFx {M mo th op arg tries o c dn g:Int} {r v:D}:aiN op (act M mo th op arg tries o c dn g r v):=by
 unfold act
 repeat' first
  | trivial
  | exact .inl rfl
  | exact .inr ⟨rfl,.inl (by assumption)⟩
  | exact .inr ⟨rfl,.inr (by assumption)⟩
  | refine aiN.ite (fun _=>?_) (fun _=>?_)
section
variable {d0 d1 s s' k:D} {t op obj arg tries e1 e2 e3 e4 e5 oc:Int} {n:Nat} {x:KT}
theorem aBm (C:Cd d0 d1) (R:Rt d0 d1 t x) (hx:x.w=0→x.a < (Nc d1 t:Int)) (hle:s.l.length=d0.l.length) (h3:iI .i64 e3) (h4:iI .i64 e4) (T:aiJ d0 d1 s t op obj arg tries s' e1 e2 e3 e4 e5 oc):Rt d0 d1 t (uI (Ins d1 t x) x op e2 e3 e4 oc):=by
 obtain⟨a',lc',w',o',g',tr',hK⟩:=ajJ (op:=op) (e2:=e2) (oc:=oc) C R hx h3 h4;have hd:=hK.is;simp only [KT.d,dO,eU,D.p.injEq,D.i.injEq,and_true] at hd;obtain⟨e_a,e_l,e_w,e_o,e_g,e_t⟩:=hd
 have hw3:oc=3→0≤e3∧e3 < (d0.l.length:Int)∧(e2=15∧((d0.at e3).hd 0).n=5∨e2≠15∧((d0.at e3).hd 0).n=4):=by
  intro ho
  cases T with
  | no=>omega
  | mis A=>omega
  | res A o c dn g r v o' c' BD g' r' v' m a oc T h=>
    have hW:=aFx (M:=Mx d0 obj) (mo:=Mo d0 s obj) (th:=t) (op:=op) (arg:=arg) (tries:=tries) (o:=o) (c:=c) (dn:=dn) (g:=g) (r:=r) (v:=v);rw [h] at hW;have hk:=A.k;have:=A.o0;have:=A.o1;refine⟨A.o0,by omega,?_⟩;rcases hW with hW | ⟨_,hW | hW⟩
    ·omega
    ·subst hW;exact .inr ⟨by omega,by rw [← hk]; rfl⟩
    ·subst hW;exact .inl ⟨rfl,by rw [← hk]; rfl⟩
 refine⟨R.t0,R.t1,?_,by rw [e_l]; exact hK.hl,by rw [e_g]; exact hK.hg⟩;obtain⟨a0,a1,hln,tr0,tr1,hw⟩:=R.ok;unfold uI;by_cases o0:oc=0
 ·rw [if_pos o0];split
  ·refine⟨a0,a1,hln,?_,?_,hw⟩
   ·show 0≤(if 4611686018427387904 < x.tr+1 then (4611686018427387904:Int) else x.tr+1);split <;> omega
   ·show (if 4611686018427387904 < x.tr+1 then (4611686018427387904:Int) else x.tr+1)≤4611686018427387904;split <;> omega
  ·exact⟨a0,a1,hln,tr0,tr1,hw⟩
 ·rw [if_neg o0];by_cases w0:x.w=0
  ·rw [if_pos w0];have c4:=hx w0;have F:=C.inf R c4;have ok:=F.ok;unfold OkI at ok;unfold Nc at c4;have hxo:x.o=0∧x.g=0:=by omega
   refine⟨?_,?_,?_,Int.le_refl _,by show (0:Int)≤4611686018427387904; omega,?_⟩
   ·show (0:Int)≤(if ((Ins d1 t x).hd 0).n=1∧((Ins d1 t x).hd 1).n=16∧¬(e2=16∧e4=1) then ((Ins d1 t x).hd 4).n else x.a+1);split
    ·rename_i hc;obtain⟨c1,c2,_⟩:=hc;omega
    ·omega
   ·show (if ((Ins d1 t x).hd 0).n=1∧((Ins d1 t x).hd 1).n=16∧¬(e2=16∧e4=1) then ((Ins d1 t x).hd 4).n else x.a+1)≤(((d1.at t).hd 2).l.length:Int);split
    ·rename_i hc;obtain⟨c1,c2,_⟩:=hc;unfold Nc at ok;omega
    ·omega
   ·show ((if ((Ins d1 t x).hd 0).n=1∧¬((Ins d1 t x).hd 3).n < 0 then dL (eF x.lc.l ((Ins d1 t x).hd 3).n (.i e4)) else x.lc).l.length:Int)=_;split
    ·rw [aT,fJ]; exact hln
    ·exact hln
   ·show (if oc=3 then (if e2=15 then (25:Int) else 24) else 0)=0∧(if oc=3 then e3 else x.o)=0∧(if oc=3∧e2=15 then e4 else x.g)=0∨(if oc=3 then (if e2=15 then (25:Int) else 24) else 0)=24∧0≤(if oc=3 then e3 else x.o)∧(if oc=3 then e3 else x.o) < (d0.l.length:Int)∧((d0.at (if oc=3 then e3 else x.o)).hd 0).n=4∨(if oc=3 then (if e2=15 then (25:Int) else 24) else 0)=25∧0≤(if oc=3 then e3 else x.o)∧(if oc=3 then e3 else x.o) < (d0.l.length:Int)∧((d0.at (if oc=3 then e3 else x.o)).hd 0).n=5;by_cases ho:oc=3
    ·obtain⟨q0,q1,q2⟩:=hw3 ho;rcases q2 with ⟨q2,q3⟩ | ⟨q2,q3⟩
     ·simp only [ho,q2,if_true,true_and,and_self];exact .inr (.inr ⟨q0,q1,q3⟩)
     ·simp only [ho,q2,if_true,if_false,true_and,and_false];exact .inr (.inl ⟨q0,q1,q3⟩)
    ·simp only [ho,if_false,false_and,hxo,true_and,and_self,true_or]
  ·rw [if_neg w0];exact⟨a0,a1,hln,Int.le_refl _,by show (0:Int)≤4611686018427387904; omega,.inl ⟨rfl,rfl,rfl⟩⟩
end
inductive Dn (d0 d1 s k:D) (t:Int) (n:Nat):D→D→Int→Int→Int→Int→Int→Int→Prop
 | no (h:L 1550 [enc d0,enc d1,enc s,enc k,t]=some [0]):Dn d0 d1 s k t n s k 0 0 0 0 0 0
 | over (x:KT) (R:Rs d0 d1 s k t x) (ho:kR d1 t x=1):Dn d0 d1 s k t n s k 0 0 0 0 0 4
 | loc (x:KT) (R:Rs d0 d1 s k t x) (ho:kR d1 t x=0) (ha:low (rD d1 t x) 4=0):Dn d0 d1 s k t n s (rH k t (Ac (Ins d1 t x) x)) 0 0 0 0 0 1
 | tri (x:KT) (R:Rs d0 d1 s k t x) (ho:kR d1 t x=0) (op obj arg tr:Int) (hq:rD d1 t x= [op,obj,arg,tr,1]) (k1:iI .u8 op) (k2:iI .i64 obj) (k3:iI .i64 arg) (hti:iI .i64 t) (s':D) (e1 e2 e3 e4 e5 oc:Int)
  (A:Tried d0 d1 s t op obj arg tr n s' e1 e2 e3 e4 e5 oc) (T:aiJ d0 d1 s t op obj arg tr s' e1 e2 e3 e4 e5 oc):Dn d0 d1 s k t n s' (rH k t (uI (Ins d1 t x) x op e2 e3 e4 oc)) e1 e2 e3 e4 e5 oc
section
variable {d0 d1 s k:D} {n:Nat} (S:Sx s k n) (hn:n < 17592186043904) (h0:Wd (.sl 3) d0) (h1:Wd (.sl 4) d1)
include S hn h0 h1
theorem ER (t:Int): ∃s' k' e1 e2 e3 e4 e5 oc,L 1850 [enc d0,enc d1,enc s,enc k,t]=some [enc s',enc k',e1,e2,e3,e4,e5,oc]∧Dn d0 d1 s k t n s' k' e1 e2 e3 e4 e5 oc:=by
 rcases azT (t:=t) S hn h0 h1 with h | ⟨x,R⟩
 ·exact⟨s,k,0,0,0,0,0,0,KQ S h,.no h⟩
 ·rcases adF d1 t x with ho | ho
  ·by_cases ha:low (rD d1 t x) 4=0
   ·exact⟨_,_,0,0,0,0,0,1,MX S R ho ha,.loc x R ho ha⟩
   ·obtain⟨op,obj,arg,tr,hq⟩:=Sv (by omega) ha;obtain⟨k1,k2,k3⟩:=adI R.c R.r R.c.ok.1 hq
    have hti:iI .i64 t:=by have:=R.r.t0;have:=R.r.t1;have:=h1.len;exact⟨by omega,by omega⟩
    obtain⟨s',e1,e2,e3,e4,e5,oc,A⟩:=try_any (tries:=tr) h0 h1 S.g hn hti k1 k2 k3;exact⟨s',_,e1,e2,e3,e4,e5,oc,MW S R ho hq A,.tri x R ho op obj arg tr hq k1 k2 k3 hti s' e1 e2 e3 e4 e5 oc A (Y1 h0 h1 S.g hn k1 A)⟩
  ·exact⟨s,k,0,0,0,0,0,4,QV S R ho,.over x R ho⟩
theorem MZ {t:Int} {s' k':D} {e1 e2 e3 e4 e5 oc:Int} (H:Dn d0 d1 s k t n s' k' e1 e2 e3 e4 e5 oc):Sx s' k' (n+1)∧s'.l.length=s.l.length∧k'.l.length=k.l.length:=by
 cases H with
 | no h=>exact⟨S.mono (Nat.le_succ n),rfl,rfl⟩
 | over x R ho=>exact⟨S.mono (Nat.le_succ n),rfl,rfl⟩
 | loc x R ho ha=>exact⟨(anO S hn h0 h1 R ho ha).mono (Nat.le_succ n),rfl,vT _ _ _⟩
 | tri x R ho op obj arg tr hq k1 k2 k3 hti s' e1 e2 e3 e4 e5 oc A T=>exact⟨ajI S R.c R.r R.ht (atE R.r ho) A,A.len,vT _ _ _⟩
omit h0 h1 in
theorem anF {t:Int} {x:KT} {s':D} (M:MR d0 d1 s k) (R:Rt d0 d1 t x) (ht:t < (k.l.length:Int)) (hs:L 350 [enc d0,enc d1,enc s']=some [1]):MR d0 d1 s' (rH k t x):=by
 obtain⟨_,hle,hO⟩:=M;refine⟨hs,(vT k t x).trans hle,fun i hi=>?_⟩;have hi':i < k.l.length:=by rw [vT] at hi; exact hi
 have t0:=R.t0;obtain⟨j,rfl⟩ : ∃j:Nat,t=(j:Int):=⟨t.toNat,by omega⟩;by_cases hij:i=j
 ·subst hij
  have e:(rH k (i:Int) x).l[i]=x.d:=by rw [← aX hi];exact acT (by omega) ht x
  have ok:=R.ok;rw [aX (by omega:i < d1.l.length)] at ok;unfold OkK;rw [e];simp only [KT.d,zg,Option.getD_some,n_i];exact ok
 ·have e:(rH k (j:Int) x).l[i]=k.l[i]:=by
   have h:=qE (l:=k.l) (z:=(j:Int)) (y:=x.d) (k:=i) (by omega)
   have h2:(rH k (j:Int) x).l[i]?=k.l[i]?:=by show (dL (eF k.l (j:Int) x.d)).l[i]?=_;rw [aT];exact h
   rw [List.getElem?_eq_getElem hi,List.getElem?_eq_getElem hi'] at h2;simpa using h2
  rw [e];exact hO i hi'
theorem alN {t:Int} {s' k':D} {e1 e2 e3 e4 e5 oc:Int} (M:MR d0 d1 s k) (H:Dn d0 d1 s k t n s' k' e1 e2 e3 e4 e5 oc):MR d0 d1 s' k':=by
 cases H with
 | no h=>exact M
 | over x R ho=>exact M
 | loc x R ho ha=>exact anF S hn M (Xw R.c R.ht R.r (ZL R.r ho ha)).1 R.ht M.1
 | tri x R ho op obj arg tr hq k1 k2 k3 hti s' e1 e2 e3 e4 e5 oc A T=>
   have hle:=(KW h0 h1 S.g (by omega) M.1).2.2;have hR:=aBm R.c R.r (atE R.r ho) hle A.e3 A.e4 T;refine anF S hn M hR R.ht ?_
   cases T with
   | no=>exact M.1
   | mis A'=>exact M.1
   | res A' o c dn g r v o' c' BD g' r' v' m a oc T' h=>exact agJ h0 h1 S.g hn k1 hti k3 A' T' h
end
end Go.As.Try
end
section
namespace Go.As.Try
open Go hiding Stat Spec shape
open Go.As
set_option maxRecDepth 100000
def ayP (s:D) (t:Int) (x:KT):Int:=if x.w=24 then (if place ((s.at x.o).hd 4) t < 0 then 0 else 1) else if x.w=25 then (if x.g < ((s.at x.o).hd 3).n then 0 else 1) else 0
section
variable {d0 d1 s k:D} {t:Int} {n:Nat} {x:KT} (S:Sx s k n) (hn:n < 17592186043904) (R:Rs d0 d1 s k t x) (hle:s.l.length=d0.l.length)
include S hn R hle
end
noncomputable def aDe (d0 d1 s k:D) (u:Int):Int:=low ((L 2900 [enc d0,enc d1,enc s,enc k,u]).getD []) 0
def atK (cnt:Int→Int) (c:D) (t:Int):Prop:=cnt t≠0∧∀u:Nat,u < c.l.length→((c.at (u:Int)).n < (c.at t).n∨(c.at (u:Int)).n=(c.at t).n∧(u:Int) < t)→cnt (u:Int)=0
section
variable {d0 d1 s k c:D} {t:Int} (hc: ∀u:Int,0≤u→u < (c.l.length:Int)→∃z:Int,L 2900 [enc d0,enc d1,enc s,enc k,u]=some [z]) (t0:0≤t) (t1:t < (c.l.length:Int)) (hb:c.l.length≤140737488351232)
include hc t0 t1 hb
end
def KR (d0 d1 s k c:D):Prop:=c.l.length=d1.l.length∧(∀u:Nat,u < c.l.length→0≤(c.at (u:Int)).n)∧MR d0 d1 s k
end Go.As.Try
end
section
namespace Go.As.Try
open Go hiding Stat Spec shape
open Go.As
set_option maxRecDepth 100000
def EqN (a b:D):Prop:=a.l.length=b.l.length∧∀(i:Nat),(a.at (i:Int)).n=(b.at (i:Int)).n
structure KEq (x y:D):Prop where
 c0:(x.hd 0).n=(y.hd 0).n
 c1:EqN (x.hd 1) (y.hd 1)
 c2:(x.hd 2).n=(y.hd 2).n
 c3:(x.hd 3).n=(y.hd 3).n
 c4:(x.hd 4).n=(y.hd 4).n
 c5:(x.hd 5).n=(y.hd 5).n
theorem EqN.rfl' (a:D):EqN a a:=⟨rfl,fun _=>rfl⟩
theorem KEq.rfl' (a:D):KEq a a:=⟨rfl,EqN.rfl' _,rfl,rfl,rfl,rfl⟩
def anL (k:D):Prop:=k.l.length≤140737488351232∧∀i:Nat,((k.at (i:Int)).hd 1).l.length≤140737488351232
section
variable {s k s' k':D} (hl:k.l.length=k'.l.length) (hq: ∀i:Nat,KEq (k.at (i:Int)) (k'.at (i:Int))) (hb:anL k)
include hl hq hb
theorem F9: ∀(j i:Nat),i+j=k.l.length→L 2051 [(k.l.length:Int),(i:Int),enc s,enc k,enc s',enc k']=some [1]
 | 0,i,hi=>by
   have c1: ¬(i:Int) < (k.l.length:Int):=by omega
   rw [aQ,aqT];simp only [acM,zz,c1,bH]
 | j+1,i,hi=>by
   have c1:(i:Int) < (k.l.length:Int):=by omega
   have c2: ¬((i:Int) < 0):=by omega
   have c3:(i:Int) < (k'.l.length:Int):=by omega
   have b1:=hb.1;have w:=aZ (n:=i) (by omega);have ih:=F9 j (i+1) (by omega);have q:=hq i;obtain⟨q1,q2⟩:=q.c1;have b2:=hb.2 i
   have lp: ∀(j' i':Nat),i'+j'=((k.at (i:Int)).hd 1).l.length→L 2052 [(k.l.length:Int),(i:Int),(((k.at (i:Int)).hd 1).l.length:Int),(i':Int),enc s,enc k,enc s',enc k',((k.at (i:Int)).hd 0).n,enc ((k.at (i:Int)).hd 1),((k.at (i:Int)).hd 2).n,((k.at (i:Int)).hd 3).n,((k.at (i:Int)).hd 4).n,((k.at (i:Int)).hd 5).n,((k'.at (i:Int)).hd 0).n,enc ((k'.at (i:Int)).hd 1),((k'.at (i:Int)).hd 2).n,((k'.at (i:Int)).hd 3).n,((k'.at (i:Int)).hd 4).n,((k'.at (i:Int)).hd 5).n]=some [1]:=by
    intro j'
    induction j' with
    | zero=>
      intro i' hi';have d1: ¬(i':Int) < (((k.at (i:Int)).hd 1).l.length:Int):=by omega
      rw [aQ,aqS];simp only [acL,zz,d1,w,aF,ih]
    | succ j' ihj=>
      intro i' hi';have d1:(i':Int) < (((k.at (i:Int)).hd 1).l.length:Int):=by omega
      have d2: ¬((i':Int) < 0):=by omega
      have d3:(i':Int) < (((k'.at (i:Int)).hd 1).l.length:Int):=by omega
      have w':=aZ (n:=i') (by omega);have h':=ihj (i'+1) (by omega);have hn:=q2 i';rw [aQ,aqS];simp only [acL,zz,d1,d2,d3,w',hn,aF];exact h'
   have l0:=lp ((k.at (i:Int)).hd 1).l.length 0 (by omega);have q1':(((k.at (i:Int)).hd 1).l.length:Int)=(((k'.at (i:Int)).hd 1).l.length:Int):=by omega
   simp only [q.c0,q.c2,q.c3,q.c4,q.c5,q1',Int.natCast_zero] at l0;rw [aQ,aqT];simp only [acM,zz,c1,c2,c3,q.c0,q.c2,q.c3,q.c4,q.c5,q1',aF];exact l0
theorem Ro (hs:L 200 [enc s,enc s']=some [1]):L 2050 [enc s,enc k,enc s',enc k']=some [1]:=by
 have h:=F9 (s:=s) (s':=s') hl hq hb k.l.length 0 (by omega);have hl':(k.l.length:Int)=(k'.l.length:Int):=by omega
 rw [Int.natCast_zero] at h;rw [aQ,aAJ];simp only [akT,zz,hs,aC,hl',aF];rw [hl'] at h;exact h
end
theorem agE {s:D} (hlen:s.l.length≤140737488351232) (hr:UN s):L 200 [enc s,enc s]=some [1]:=by obtain⟨c,h1,_,h3⟩:=Rk s s hlen hr;rw [h1,h3.2 ⟨rfl,fun k h1 h2 _=> ⟨rfl,rfl,Iff.rfl,rfl,⟨rfl,fun _ _ _ _=>rfl⟩,⟨rfl,fun _ _ _ _=>rfl⟩⟩⟩]
theorem Sx.aEe {s k:D} {n:Nat} (S:Sx s k n):anL k:=by
 refine⟨S.wk.len,fun i=>?_⟩;by_cases hi:i < k.l.length
 ·obtain⟨a,lc,w,o,g,tr,T⟩:=lJ S.wk _ (List.getElem_mem hi);rw [aX hi,T.is,iT];exact T.hl.len
 ·rw [jT,List.getElem?_eq_none (by omega)];show ((D.i 0).hd 1).l.length≤_;simp [D.hd,D.l]
theorem Sx.same {s k:D} {n:Nat} (S:Sx s k n) (hn:n < 17592186043904):L 2050 [enc s,enc k,enc s,enc k]=some [1]:=
 Ro rfl (fun _=>KEq.rfl' _) S.aEe (agE S.g.wd.len (fun x hx=>by have:=S.g.rows x hx; omega))
end Go.As.Try
end
section
namespace Go.As.Try
open Go hiding Stat Spec shape
open Go.As
set_option maxRecDepth 100000
section
variable {k c:D} (hk:Tk k) (hc:Wd (.sl 0) c)
include hk hc
end
section
variable {k c:D} (hk0:k.l.length=0→k= .i 1) (hk1:0 < k.l.length→Tk k) (hc:Wd (.sl 0) c)
include hk0 hk1 hc
end
section
variable {s k c:D} (hs:Th s)
include hs
end
section
variable {s k c:D} (hs0:s.l.length=0→s= .i 1) (hs1:0 < s.l.length→Th s) (hk0:k.l.length=0→k= .i 1) (hk1:0 < k.l.length→Tk k) (hc:Wd (.sl 0) c)
include hs0 hs1 hk0 hk1 hc
end
end Go.As.Try
end
section
namespace Go.As.Try
open Go hiding Stat Spec shape
open Go.As
set_option maxRecDepth 100000
def bump (c:D) (u n:Int):D:=dL (eF c.l u (.i (if (c.at u).n < n then n else (c.at u).n)))
def wkB (n:Int):List D→D→D
 | [],c=>c
 | x :: l,c=>wkB n l (bump c x.n n)
def wkA (o g n:Int):List D→Nat→D→D
 | [],_,c=>c
 | x :: l,i,c=>wkA o g n l (i+1) (if (x.hd 2).n=25∧(x.hd 3).n=o∧(x.hd 4).n=g then bump c (i:Int) n else c)
def wkM (s s' k':D) (e2 e3 e4:Int) (c:D) (n:Int):D:=
 if e2=13 then (if 0 < e4 then bump c (IntKind.i64.wrap (e4 - 1)) n else c)
 else if e2=14 then wkB n ((s.at e3).hd 4).l c
 else if e2=15 then (if e4 < ((s'.at e3).hd 3).n then wkA e3 e4 n k'.l 0 c else c)
 else c
section
variable {x0 x1 x2 x3 x4 x5 x6 x7 x8 x9 n:Int} {m:Nat}
end
structure aGu (s s' k':D) (e2 e3 e4:Int) (m:Nat):Prop where
 sig:e2=13→0 < e4→0≤IntKind.i64.wrap (e4 - 1)∧IntKind.i64.wrap (e4 - 1) < (m:Int)
 brd:e2=14→0≤e3∧e3 < (s.l.length:Int)∧(∀x∈((s.at e3).hd 4).l,0≤x.n∧x.n < (m:Int))∧((s.at e3).hd 4).l.length≤140737488351232
 arr:e2=15→0≤e3∧e3 < (s'.l.length:Int)
 lk:k'.l.length≤m
 few:k'.l.length≤140737488351232
abbrev MAX:Int:=9223372036854775807
abbrev tick (c:D) (t:Int):D:=dL (eF c.l t (.i ((c.at t).n+1)))
inductive aiL (d0 d1 s k c:D) (t:Int) (n:Nat):D→D→D→Int→Int→Int→Int→Int→Int→Int→Prop
 | no (h: ¬(0≤t∧t < (d1.l.length:Int)∧KR d0 d1 s k c)):aiL d0 d1 s k c t n s k c 0 0 0 0 0 0 0
 | over (x:KT) (K:KR d0 d1 s k c) (R:Rs d0 d1 s k t x) (ho:kR d1 t x=1):aiL d0 d1 s k c t n s k c 0 0 0 0 0 4 0
 | asl (x:KT) (K:KR d0 d1 s k c) (R:Rs d0 d1 s k t x) (ho:kR d1 t x=0) (ha:ayP s t x≠0):aiL d0 d1 s k c t n s k c 0 0 0 0 0 0 0
 | wait (x:KT) (K:KR d0 d1 s k c) (R:Rs d0 d1 s k t x) (ho:kR d1 t x=0) (ha:ayP s t x=0) (hq:low (rD d1 t x) 4≠0∨(c.at t).n=MAX) (ht: ¬atK (aDe d0 d1 s k) c t):aiL d0 d1 s k c t n s k c 0 0 0 0 0 0 0
 | full (x:KT) (K:KR d0 d1 s k c) (R:Rs d0 d1 s k t x) (ho:kR d1 t x=0) (ha:ayP s t x=0) (ht:atK (aDe d0 d1 s k) c t) (hm:(c.at t).n=MAX):aiL d0 d1 s k c t n s k c 0 0 0 0 0 0 131
 | go (x:KT) (K:KR d0 d1 s k c) (R:Rs d0 d1 s k t x) (ho:kR d1 t x=0) (ha:ayP s t x=0) (hq:low (rD d1 t x) 4=0∨atK (aDe d0 d1 s k) c t) (hm:(c.at t).n≠MAX) (s' k':D) (e1 e2 e3 e4 e5 oc:Int)
  (hL:L 1850 [enc d0,enc d1,enc s,enc k,t]=some [enc s',enc k',e1,e2,e3,e4,e5,oc]) (H:Dn d0 d1 s k t n s' k' e1 e2 e3 e4 e5 oc) (W:aGu s s' k' e2 e3 e4 c.l.length):aiL d0 d1 s k c t n s' k' (wkM s s' k' e2 e3 e4 (tick c t) ((c.at t).n+1)) e1 e2 e3 e4 e5 oc 0
section
variable {d0 d1 s k:D} {n:Nat} (S:Sx s k n) (hn:n < 17592186043904) (h0:Wd (.sl 3) d0) (h1:Wd (.sl 4) d1)
include S hn h0 h1
end
end Go.As.Try
end
section
namespace Go.As.Try
open Go hiding Stat Spec shape
open Go.As
set_option maxRecDepth 100000
abbrev D6 (e1 e2 e3 e4 e5:Int):D:=dL [.i e1,.i e2,.i e3,.i e4,.i e5]
structure PS where
 s:D
 k:D
 l:List D
noncomputable def stA (d0 d1 s k:D) (t:Int):List Int:=(L 1850 [enc d0,enc d1,enc s,enc k,t]).getD []
noncomputable def stP (d0 d1:D) (p:PS) (t:Int):PS:=
 ⟨dec (low (stA d0 d1 p.s p.k t) 0),dec (low (stA d0 d1 p.s p.k t) 1),if low (stA d0 d1 p.s p.k t) 7=2∨low (stA d0 d1 p.s p.k t) 7=3 then p.l++ [D6 (low (stA d0 d1 p.s p.k t) 2) (low (stA d0 d1 p.s p.k t) 3) (low (stA d0 d1 p.s p.k t) 4) (low (stA d0 d1 p.s p.k t) 5) (low (stA d0 d1 p.s p.k t) 6)] else p.l⟩
noncomputable def gB (d0 d1:D):PS→List Int→PS
 | p,[]=>p
 | p,t :: ts=>gB d0 d1 (stP d0 d1 p t) ts
theorem sU (d0 d1:D): ∀(a b:List Int) (p:PS),gB d0 d1 p (a++b)=gB d0 d1 (gB d0 d1 p a) b
 | [],b,p=>rfl
 | t :: a,b,p=>by simp only [List.cons_append,gB];exact sU d0 d1 a b _
structure POk (d1:D) (p:PS) (n:Nat):Prop where
 sx:Sx p.s p.k n
 lk:p.k.l.length=d1.l.length
 ll:p.l.length≤n
theorem alP {d0 d1:D} {p:PS} {t:Int} {n:Nat} {s' k':D} {e1 e2 e3 e4 e5 oc:Int} (A:aDi d0 d1 p.s p.k t n s' k' e1 e2 e3 e4 e5 oc):stP d0 d1 p t=⟨s',k',if oc=2∨oc=3 then p.l++ [D6 e1 e2 e3 e4 e5] else p.l⟩:=by unfold stP stA;rw [A.eq];simp only [Option.getD_some,aN,aO,aG];rfl
theorem aBy {d0 d1:D} {p:PS} {t:Int} {n:Nat} (P:POk d1 p n) {s' k':D} {e1 e2 e3 e4 e5 oc:Int} (A:aDi d0 d1 p.s p.k t n s' k' e1 e2 e3 e4 e5 oc):POk d1 (stP d0 d1 p t) (n+1):=by
 rw [alP A];refine⟨A.sx,A.lk.trans P.lk,?_⟩;have:=P.ll;show (if oc=2∨oc=3 then p.l++ [D6 e1 e2 e3 e4 e5] else p.l).length≤n+1;split
 ·rw [List.length_append]; exact Nat.succ_le_succ this
 ·omega
def YQ (d1:D) (x:D):Int:=wQ x.n (d1.l.length:Int)
theorem dr {ρ:Nat→Int} (a b:SE):(SE.rem a b).den ρ=(a.den ρ).tmod (b.den ρ):=rfl
theorem agY:((3:Int)=2)=False:=by simp
theorem ahA:((1:Int)=2)=False:=by simp
theorem agZ:((1:Int)=3)=False:=by simp
section
variable {d0 d1:D} (h0:Wd (.sl 3) d0) (h1:Wd (.sl 4) d1)
include h0 h1
end
theorem Y3 (d1:D):(rG d1).l.length=d1.l.length:=by
 unfold rG;split
 ·rename_i h; rw [h]; rfl
 ·rw [aT,List.length_map]
section
variable {d0 d1:D} (h0:Wd (.sl 3) d0) (h1:Wd (.sl 4) d1)
include h0 h1
end
theorem Zm:Sx (.i 1) (.i 1) 0:=⟨⟨.nil 7,fun x hx=>by simp [D.l] at hx⟩,.nil 8,by simp,by simp⟩
end Go.As.Try
end
section
namespace Go.As.Try
open Go hiding Stat Spec shape
open Go.As
set_option maxRecDepth 100000
structure Ck (M:Int) (c:D):Prop where
 wd:Wd (.sl 0) c
 rng: ∀u:Nat,u < c.l.length→0≤(c.at (u:Int)).n∧(c.at (u:Int)).n≤M
structure Sh (B:Int) (c c':D):Prop where
 len:c'.l.length=c.l.length
 at': ∀u:Nat,u < c.l.length→(c'.at (u:Int)).n=(c.at (u:Int)).n+B
theorem Ck.mono {M M':Int} {c:D} (C:Ck M c) (h:M≤M'):Ck M' c:=⟨C.wd,fun u hu=>by have:=C.rng u hu; omega⟩
theorem Ck.at {M:Int} {c:D} (C:Ck M c) {t:Int} (t0:0≤t) (t1:t < (c.l.length:Int)):0≤(c.at t).n∧(c.at t).n≤M:=by obtain⟨i,rfl⟩ : ∃i:Nat,t=(i:Int):=⟨t.toNat,by omega⟩;exact C.rng i (by omega)
theorem Sh.at {B:Int} {c c':D} (h:Sh B c c') {t:Int} (t0:0≤t) (t1:t < (c.l.length:Int)):(c'.at t).n=(c.at t).n+B:=by obtain⟨i,rfl⟩ : ∃i:Nat,t=(i:Int):=⟨t.toNat,by omega⟩;exact h.at' i (by omega)
structure aGK (d0 d1 s k c c':D) (t:Int) (n:Nat) (B M M':Int) (s' k' cn cn':D) (e1 e2 e3 e4 e5 oc:Int):Prop where
 one:L 3100 [enc d0,enc d1,enc s,enc k,enc c,t]=some [enc s',enc k',enc cn,e1,e2,e3,e4,e5,oc,0]
 two:L 3100 [enc d0,enc d1,enc s,enc k,enc c',t]=some [enc s',enc k',enc cn',e1,e2,e3,e4,e5,oc,0]
 sh:Sh B cn cn'
 ck:Ck (M+1) cn
 ck':Ck (M'+1) cn'
 sx:Sx s' k' (n+1)
section
variable {d0 d1 s k:D} {n:Nat} (S:Sx s k n) (hn:n < 17592186043904) (h0:Wd (.sl 3) d0) (h1:Wd (.sl 4) d1)
include S hn h0 h1
end
end Go.As.Try
end
section
namespace Go.As.Try
open Go hiding Stat Spec shape
open Go.As
set_option maxRecDepth 100000
theorem Cc {x y:KT} (h:x.d=y.d):x=y:=by simp only [KT.d,dO,eU,D.p.injEq,D.i.injEq,and_true] at h;obtain⟨h1,h2,h3,h4,h5,h6⟩:=h;cases x; cases y;simp only at h1 h2 h3 h4 h5 h6;subst h1 h2 h3 h4 h5 h6;rfl
structure One (d0 d1 s k:D) (t:Int) (s' k':D) (e1 e2 e3 e4 e5 oc:Int) (x y:KT):Prop where
 hk:k.at t=x.d
 hk':k'=rH k t y
 how:(oc=0∧s'=s∧e1=0∧e2=0∧e3=0∧e4=0∧e5=0∧y= { x with tr:=y.tr }∧L 1700 [enc d0,enc d1,enc s,enc k,t]=some [0])∨
  (oc=4∧s'=s∧e1=0∧e2=0∧e3=0∧e4=0∧e5=0∧y=x∧L 1700 [enc d0,enc d1,enc s,enc k,t]=some [1])∨
  (oc=1∧s'=s∧e1=0∧e2=0∧e3=0∧e4=0∧e5=0∧L 1700 [enc d0,enc d1,enc s,enc k,t]=some [0])∨
  ((oc=2∨oc=3)∧e2≠0∧L 1700 [enc d0,enc d1,enc s,enc k,t]=some [0])
section
variable {d0 d1 s k:D} {n:Nat} (S:Sx s k n) (hn:n < 17592186043904) (h0:Wd (.sl 3) d0) (h1:Wd (.sl 4) d1)
include S hn h0 h1
end
section
variable {d0 d1 s k:D} {n:Nat} (S:Sx s k n) (hn:n < 17592186043900) (h0:Wd (.sl 3) d0) (h1:Wd (.sl 4) d1)
include S hn h0 h1
end
end Go.As.Try
end
section
namespace Go.As.Try
open Go hiding Stat Spec shape
open Go.As
set_option maxRecDepth 100000
section
variable {d0 d1 d:D} (h0:Wd (.sl 3) d0) (h1:Wd (.sl 4) d1) (hn:0 < d1.l.length) (hd:d.l.length≤1000)
include h0 h1 hn hd
end
section
variable {d0 d1 s k c:D} {n:Nat} (S:Sx s k n) (hn:n < 17592186043800) (h0:Wd (.sl 3) d0) (h1:Wd (.sl 4) d1)
include S hn h0 h1
end
section
variable {d0 d1 s k c:D} (S:Sx s k 1000) (h0:Wd (.sl 3) d0) (h1:Wd (.sl 4) d1) (C:Ck MAX c) (hl:c.l.length=d1.l.length)
include S h0 h1 C hl
end
end Go.As.Try
end
section
namespace Go.As.Try
open Go hiding Stat Spec shape
open Go.As
set_option maxRecDepth 100000
def Ge (c c':D):Prop:=c'.l.length=c.l.length∧∀v:Nat,v < c.l.length→(c.at (v:Int)).n≤(c'.at (v:Int)).n
theorem Ge.rfl' (c:D):Ge c c:=⟨rfl,fun _ _=>Int.le_refl _⟩
structure Up (s k c:D) (t:Int) (s' k' c':D) (e2 oc:Int):Prop where
 ge:Ge c c'
 eq:e2≠13→e2≠14→e2≠15→∀v:Nat,v < c.l.length→(v:Int)≠t→(c'.at (v:Int)).n=(c.at (v:Int)).n
 own:oc=1∨oc=2∨oc=3→(c.at t).n < (c'.at t).n
 over:oc=4→s'=s∧k'=k∧c'=c
theorem Up.same (s k c:D) (t e2:Int) {oc:Int} (h:oc=0∨oc=4):Up s k c t s k c e2 oc:=⟨.rfl' c,fun _ _ _ _ _ _=>rfl,fun q=>by omega,fun _=> ⟨rfl,rfl,rfl⟩⟩
section
variable {d0 d1 s k c:D} (S:Sx s k 1000) (h0:Wd (.sl 3) d0) (h1:Wd (.sl 4) d1) (C:Ck MAX c) (hl:c.l.length=d1.l.length)
include S h0 h1 C hl
end
end Go.As.Try
end
section
namespace Go.As.Try
open Go hiding Stat Spec shape
open Go.As
set_option maxRecDepth 100000
def nz (d:D):D:=if (d.l.length:Int)=0 then .i 2 else d
theorem aD8 (d:D):(nz d).l=d.l:=by
 unfold nz;split
 ·rename_i h;have:d.l= []:=List.eq_nil_of_length_eq_zero (by omega);rw [this]; simp [D.l]
 ·rfl
def nT (x:D):D:=dL [.i (x.hd 0).n,.i (x.hd 1).n,.i (if (x.hd 2).n=0 then 0 else 1),.i (x.hd 3).n,nz (x.hd 4),nz (x.hd 5)]
def nK (x:D):D:=dL [.i (x.hd 0).n,nz (x.hd 1),.i (x.hd 2).n,.i (x.hd 3).n,.i (x.hd 4).n,.i (x.hd 5).n]
section
variable {k:D} (hk:k.l.length < 2199023255551) (hl: ∀x∈k.l,((x.hd 1).l.length:Int) < 17592186044416)
include hk hl
theorem asL (sn:D): ∀(j i:Nat) (acc:List D),i+j=k.l.length→acc.length=i→L 3606 [enc k,(k.l.length:Int),(i:Int),enc sn,enc (dL acc)]=some [enc sn,enc (dL (acc++(k.l.drop i).map nK))]
 | 0,i,acc,hi,ha=>by
   have c1: ¬(i:Int) < (k.l.length:Int):=by omega
   rw [List.drop_of_length_le (by omega),List.map_nil,List.append_nil,aQ,aqF];simp only [WM,zz,c1,bH]
 | j+1,i,acc,hi,ha=>by
   have hil:i < k.l.length:=by omega
   have c1:(i:Int) < (k.l.length:Int):=by omega
   have c2: ¬((i:Int) < 0):=by omega
   have c3:(acc.length:Int) < 2199023255551:=by omega
   have c4:=hl _ (List.getElem_mem hil);have w:=aZ (n:=i) (by omega);have ih:=asL sn j (i+1) (acc++ [nK (k.l[i])]) (by omega) (by rw [List.length_append,ha]; rfl);rw [List.append_assoc,List.singleton_append,← List.map_cons,← List.drop_eq_getElem_cons hil] at ih;unfold nK nz at ih;rw [aQ,aqF];by_cases z:(((k.l[i]).hd 1).l.length:Int)=0
   ·rw [if_pos z] at ih;simp only [WM,zz,c1,c2,c3,z,aX hil,w,aF,aT];exact ih
   ·rw [if_neg z] at ih;simp only [WM,zz,c1,c2,c3,c4,if_neg z,aX hil,w,aF,aT];exact ih
theorem aDa (sn:D):L 3604 [enc k,(k.l.length:Int),enc sn]=some [enc sn,enc (if k.l= [] then .i 1 else dL (k.l.map nK))]:=by
 rw [aQ,aAB];by_cases hp:0 < k.l.length
 ·have c1:(0:Int) < (k.l.length:Int):=by omega
  have hne:k.l≠[]:=fun h=>by rw [h] at hp; simp at hp
  have c4:=hl _ (List.getElem_mem hp);have e0:k.at 0=k.l[0]:=by have:=aX hp; rwa [Int.natCast_zero] at this
  have ih:=asL hk hl sn (k.l.length - 1) 1 [nK (k.l[0])] (by omega) rfl;rw [List.singleton_append,← List.map_cons,← List.drop_eq_getElem_cons hp,List.drop_zero] at ih;rw [if_neg hne];unfold nK nz at ih ⊢;by_cases z:(((k.l[0]).hd 1).l.length:Int)=0
  ·rw [if_pos z] at ih;simp only [WQ,zz,c1,e0,z,aF,rQ,List.nil_append];exact ih
  ·rw [if_neg z] at ih;simp only [WQ,zz,c1,c4,e0,if_neg z,aF,rQ,List.nil_append];exact ih
 ·have hz:k.l= []:=List.eq_nil_of_length_eq_zero (by omega);have c1: ¬(0:Int) < (k.l.length:Int):=by omega
  rw [if_pos hz];simp only [WQ,zz,c1,bH]
theorem asM: ∀(j i:Nat) (acc:List D),i+j=k.l.length→acc.length=i→L 3605 [enc k,(k.l.length:Int),(i:Int),enc (dL acc)]=some [enc (.i 1),enc (dL (acc++(k.l.drop i).map nK))]
 | 0,i,acc,hi,ha=>by
   have c1: ¬(i:Int) < (k.l.length:Int):=by omega
   rw [List.drop_of_length_le (by omega),List.map_nil,List.append_nil,aQ,aqG];simp only [WO,zz,c1,bH]
 | j+1,i,acc,hi,ha=>by
   have hil:i < k.l.length:=by omega
   have c1:(i:Int) < (k.l.length:Int):=by omega
   have c2: ¬((i:Int) < 0):=by omega
   have c3:(acc.length:Int) < 2199023255551:=by omega
   have c4:=hl _ (List.getElem_mem hil);have w:=aZ (n:=i) (by omega);have ih:=asM j (i+1) (acc++ [nK (k.l[i])]) (by omega) (by rw [List.length_append,ha]; rfl);rw [List.append_assoc,List.singleton_append,← List.map_cons,← List.drop_eq_getElem_cons hil] at ih;unfold nK nz at ih;rw [aQ,aqG];by_cases z:(((k.l[i]).hd 1).l.length:Int)=0
   ·rw [if_pos z] at ih;simp only [WO,zz,c1,c2,c3,z,aX hil,w,aF,aT];exact ih
   ·rw [if_neg z] at ih;simp only [WO,zz,c1,c2,c3,c4,if_neg z,aX hil,w,aF,aT];exact ih
theorem aDb:L 3603 [enc k,(k.l.length:Int)]=some [enc (.i 1),enc (if k.l= [] then .i 1 else dL (k.l.map nK))]:=by
 rw [aQ,aAC];by_cases hp:0 < k.l.length
 ·have c1:(0:Int) < (k.l.length:Int):=by omega
  have hne:k.l≠[]:=fun h=>by rw [h] at hp; simp at hp
  have c4:=hl _ (List.getElem_mem hp);have e0:k.at 0=k.l[0]:=by have:=aX hp; rwa [Int.natCast_zero] at this
  have ih:=asM hk hl (k.l.length - 1) 1 [nK (k.l[0])] (by omega) rfl;rw [List.singleton_append,← List.map_cons,← List.drop_eq_getElem_cons hp,List.drop_zero] at ih;rw [if_neg hne];unfold nK nz at ih ⊢;by_cases z:(((k.l[0]).hd 1).l.length:Int)=0
  ·rw [if_pos z] at ih;simp only [WR,zz,c1,e0,z,aF,rQ,List.nil_append];exact ih
  ·rw [if_neg z] at ih;simp only [WR,zz,c1,c4,e0,if_neg z,aF,rQ,List.nil_append];exact ih
 ·have hz:k.l= []:=List.eq_nil_of_length_eq_zero (by omega);have c1: ¬(0:Int) < (k.l.length:Int):=by omega
  rw [if_pos hz];simp only [WR,zz,c1,bH]
end
section
variable {s:D} (hs:s.l.length < 1759218604440) (hr: ∀x∈s.l,((x.hd 4).l.length:Int) < 17592186044416∧((x.hd 5).l.length:Int) < 17592186044416)
include hs hr
theorem asN (k:D): ∀(j i:Nat) (acc:List D),i+j=s.l.length→acc.length=i→L 3602 [enc s,(s.l.length:Int),(i:Int),enc k,enc (dL acc)]=L 3604 [enc k,(k.l.length:Int),enc (dL (acc++(s.l.drop i).map nT))]
 | 0,i,acc,hi,ha=>by
   have c1: ¬(i:Int) < (s.l.length:Int):=by omega
   rw [List.drop_of_length_le (by omega),List.map_nil,List.append_nil,aQ,aqH];simp only [Me,zz,c1,aF]
 | j+1,i,acc,hi,ha=>by
   have hil:i < s.l.length:=by omega
   have c1:(i:Int) < (s.l.length:Int):=by omega
   have c2: ¬((i:Int) < 0):=by omega
   have c3:(acc.length:Int) < 1759218604440:=by omega
   obtain⟨c4,c5⟩:=hr _ (List.getElem_mem hil);have w:=aZ (n:=i) (by omega);have ih:=asN k j (i+1) (acc++ [nT (s.l[i])]) (by omega) (by rw [List.length_append,ha]; rfl);rw [List.append_assoc,List.singleton_append,← List.map_cons,← List.drop_eq_getElem_cons hil] at ih;unfold nT nz at ih;rw [aQ,aqH];by_cases z:(((s.l[i]).hd 4).l.length:Int)=0
   ·by_cases y:(((s.l[i]).hd 5).l.length:Int)=0
    ·rw [if_pos z,if_pos y] at ih;simp only [Me,zz,c1,c2,c3,z,y,aX hil,w,aF,aT];exact ih
    ·rw [if_pos z,if_neg y] at ih;simp only [Me,zz,c1,c2,c3,c5,z,if_neg y,aX hil,w,aF,aT];exact ih
   ·by_cases y:(((s.l[i]).hd 5).l.length:Int)=0
    ·rw [if_neg z,if_pos y] at ih;simp only [Me,zz,c1,c2,c3,c4,if_neg z,y,aX hil,w,aF,aT];exact ih
    ·rw [if_neg z,if_neg y] at ih;simp only [Me,zz,c1,c2,c3,c4,c5,if_neg z,if_neg y,aX hil,w,aF,aT];exact ih
theorem aDc {k:D} (hk:k.l.length < 2199023255551) (hl: ∀x∈k.l,((x.hd 1).l.length:Int) < 17592186044416):L 3600 [enc s,enc k]=some [enc (if s.l= [] then .i 1 else dL (s.l.map nT)),enc (if k.l= [] then .i 1 else dL (k.l.map nK))]:=by
 have g: ∀sn,L 3604 [enc k,(k.l.length:Int),enc sn]=some [enc sn,enc (if k.l= [] then .i 1 else dL (k.l.map nK))]:=fun sn=>aDa hk hl sn;have g3:=aDb hk hl;rw [aQ,aAE];simp only [akL,zz,aF];rw [aQ,aAD];by_cases hp:0 < s.l.length
 ·have c1:(0:Int) < (s.l.length:Int):=by omega
  have hne:s.l≠[]:=fun h=>by rw [h] at hp; simp at hp
  obtain⟨c4,c5⟩:=hr _ (List.getElem_mem hp);have e0:s.at 0=s.l[0]:=by have:=aX hp; rwa [Int.natCast_zero] at this
  have ih:=asN hs hr k (s.l.length - 1) 1 [nT (s.l[0])] (by omega) rfl;rw [List.singleton_append,← List.map_cons,← List.drop_eq_getElem_cons hp,List.drop_zero,g] at ih;rw [if_neg hne];unfold nT nz at ih ⊢;by_cases z:(((s.l[0]).hd 4).l.length:Int)=0
  ·by_cases y:(((s.l[0]).hd 5).l.length:Int)=0
   ·rw [if_pos z,if_pos y] at ih;simp only [MB,zz,c1,e0,z,y,aF,rQ,List.nil_append];exact ih
   ·rw [if_pos z,if_neg y] at ih;simp only [MB,zz,c1,c5,e0,z,if_neg y,aF,rQ,List.nil_append];exact ih
  ·by_cases y:(((s.l[0]).hd 5).l.length:Int)=0
   ·rw [if_neg z,if_pos y] at ih;simp only [MB,zz,c1,c4,e0,if_neg z,y,aF,rQ,List.nil_append];exact ih
   ·rw [if_neg z,if_neg y] at ih;simp only [MB,zz,c1,c4,c5,e0,if_neg z,if_neg y,aF,rQ,List.nil_append];exact ih
 ·have hz:s.l= []:=List.eq_nil_of_length_eq_zero (by omega);have c1: ¬(0:Int) < (s.l.length:Int):=by omega
  rw [if_pos hz];simp only [MB,zz,c1,aF];exact g3
end
end Go.As.Try
end
section
namespace Go.As.Try
open Go hiding Stat Spec shape
open Go.As
set_option maxRecDepth 100000
structure TEq (x y:D):Prop where
 c0:(x.hd 0).n=(y.hd 0).n
 c1:(x.hd 1).n=(y.hd 1).n
 c2:(x.hd 2).n=(y.hd 2).n
 c3:(x.hd 3).n=(y.hd 3).n
 c4:(x.hd 4).l=(y.hd 4).l
 c5:(x.hd 5).l=(y.hd 5).l
theorem TEq.rfl' (x:D):TEq x x:=⟨rfl,rfl,rfl,rfl,rfl,rfl⟩
structure Ua (s s':D):Prop where
 len:s'.l.length=s.l.length
 ats: ∀i:Nat,TEq (s.at (i:Int)) (s'.at (i:Int))
theorem Ua.rfl' (s:D):Ua s s:=⟨rfl,fun _=> .rfl' _⟩
theorem Ut {o c dn g:Int} {r v r' v':D} (hr:r.l=r'.l) (hv:v.l=v'.l):TEq (dL [.i o,.i c,.i dn,.i g,r,v]) (dL [.i o,.i c,.i dn,.i g,r',v']):=⟨rfl,rfl,rfl,rfl,hr,hv⟩
theorem Y2 {x y:D} {o c dn g o' c' BD g':Int} {r v r' v':D} (T:Tg x o c dn g r v) (T':Tg y o' c' BD g' r' v') (h:TEq x y):o'=o∧c'=c∧BD=dn∧g'=g∧r.l=r'.l∧v.l=v'.l:=by obtain⟨q0,q1,q2,q3,q4,q5⟩:=h;rw [T.is,T'.is] at q0 q1 q2 q3 q4 q5;exact⟨q0.symm,q1.symm,q2.symm,q3.symm,q4,q5⟩
theorem UK {s s':D} (h:Ua s s') (z:Int) {x y:D} (hx:TEq x y):Ua (dL (eF s.l z x)) (dL (eF s'.l z y)):=by
 refine⟨by rw [aT,aT,fJ,fJ]; exact h.len,fun i=>?_⟩;by_cases hz:(i:Int)=z
 ·subst hz;by_cases hi:i < s.l.length
  ·have e1:(dL (eF s.l (i:Int) x)).at (i:Int)=x:=V9 (by rw [aT]; exact CJ hi);have e2:(dL (eF s'.l (i:Int) y)).at (i:Int)=y:=V9 (by rw [aT]; exact CJ (by have:=h.len; omega));rw [e1,e2];exact hx
  ·have e1:(dL (eF s.l (i:Int) x)).at (i:Int)= .i 0:=by rw [jT,aT,List.getElem?_eq_none (by rw [fJ]; omega)]; rfl
   have e2:(dL (eF s'.l (i:Int) y)).at (i:Int)= .i 0:=by rw [jT,aT,List.getElem?_eq_none (by rw [fJ]; have:=h.len; omega)]; rfl
   rw [e1,e2];exact .rfl' _
 ·have e1:(dL (eF s.l z x)).at (i:Int)=s.at (i:Int):=by rw [jT,jT,aT,qE hz]
  have e2:(dL (eF s'.l z y)).at (i:Int)=s'.at (i:Int):=by rw [jT,jT,aT,qE hz]
  rw [e1,e2];exact h.ats i
inductive QK:Act→Act→Prop
 | blk:QK .blk .blk
 | mis:QK .mis .mis
 | res (o c dn g:Int) (r v r' v':D) (m:Option Int) (a oc:Int) (hr:r.l=r'.l) (hv:v.l=v'.l):QK (.res o c dn g r v m a oc) (.res o c dn g r' v' m a oc)
theorem QK.ite {p:Prop} [Decidable p] {a b a' b':Act} (h1:QK a a') (h2:QK b b'):QK (if p then a else b) (if p then a' else b'):=by
 by_cases h:p
 ·rw [if_pos h,if_pos h]; exact h1
 ·rw [if_neg h,if_neg h]; exact h2
theorem at_eq {d d':D} (h:d.l=d'.l) (z:Int):d.at z=d'.at z:=by unfold D.at; rw [h]
theorem amN {d d':D} (h:d.l=d'.l) (t:Int):place d t=place d' t:=by unfold place; rw [h]
theorem aDh {M mo th op arg tries o c dn g:Int} {r v r' v':D} (hr:r.l=r'.l) (hv:v.l=v'.l):QK (act M mo th op arg tries o c dn g r v) (act M mo th op arg tries o c dn g r' v'):=by
 unfold act;rw [amN hr th,at_eq hr 0,at_eq hv 0,hr,hv]
 repeat' first
  | exact .blk
  | exact .mis
  | refine QK.ite ?_ ?_
 all_goals
  refine .res _ _ _ _ _ _ _ _ _ _ _ ?_ ?_ <;> simp only [gJ,hr,hv]
theorem avM {s s':D} (h:Ua s s') (obj M:Int) {A B:Act} (hA:QK A B) (hT: ∀i:Nat,(s.at (i:Int)= .i 0∧s'.at (i:Int)= .i 0)∨∃o c dn g r v o' c' BD g' r' v',Tg (s.at (i:Int)) o c dn g r v∧Tg (s'.at (i:Int)) o' c' BD g' r' v'):Ua (Bz s obj M A) (Bz s' obj M B):=by
 cases hA with
 | blk=>exact h
 | mis=>exact h
 | res o c dn g r v r' v' m a oc hr hv=>
   unfold Bz
   cases m with
   | none=>exact UK h obj (Ut hr hv)
   | some q=>
     have key:Ua (dL (eF s.l M (dL (eF (s.at M).l 0 (.i q))))) (dL (eF s'.l M (dL (eF (s'.at M).l 0 (.i q))))):=by
      by_cases hM:M < 0
      ·have e: ∀(l:List D) (y:D),eF l M y=l:=fun l y=>by unfold eF; rw [if_pos hM]
       rw [e,e];refine⟨by rw [aT,aT]; exact h.len,fun i=>?_⟩;have q:=h.ats i;rw [jT,jT] at q;rw [jT,jT,aT,aT];exact q
      ·obtain⟨i,rfl⟩ : ∃i:Nat,M=(i:Int):=⟨M.toNat,by omega⟩;refine UK h (i:Int) ?_;rcases hT i with ⟨e1,e2⟩ | ⟨o,c,dn,g,r,v,o',c',BD,g',r',v',T,T'⟩
       ·rw [e1,e2];exact .rfl' _
       ·obtain⟨rfl,rfl,rfl,rfl,w1,w2⟩:=Y2 T T' (h.ats i);rw [T.is,T'.is];exact Ut w1 w2
     have:=UK key obj (Ut (o:=o) (c:=c) (dn:=if dn=0 then 0 else 1) (g:=g) hr hv);rw [aT,aT] at this;exact this
end Go.As.Try
end
section
namespace Go.As.Try
open Go hiding Stat Spec shape
open Go.As
set_option maxRecDepth 100000
theorem Zq {s s':D} {n:Nat} (h:Ua s s') (G:Gs s n) (G':Gs s' n) (i:Nat):(s.at (i:Int)= .i 0∧s'.at (i:Int)= .i 0)∨∃o c dn g r v o' c' BD g' r' v',Tg (s.at (i:Int)) o c dn g r v∧Tg (s'.at (i:Int)) o' c' BD g' r' v':=by
 have hl:=h.len;by_cases hi:i < s.l.length
 ·obtain⟨o,c,dn,g,r,v,T,_⟩:=Ot G (i:=(i:Int)) (by omega) (by omega);obtain⟨o',c',BD,g',r',v',T',_⟩:=Ot G' (i:=(i:Int)) (by omega) (by omega);exact .inr ⟨o,c,dn,g,r,v,o',c',BD,g',r',v',T,T'⟩
 ·exact .inl ⟨by rw [jT,List.getElem?_eq_none (by omega)]; rfl,by rw [jT,List.getElem?_eq_none (by omega)]; rfl⟩
section
variable {d0 d1 s s':D} {n:Nat} (h0:Wd (.sl 3) d0) (h1:Wd (.sl 4) d1) (h:Ua s s') (G:Gs s n) (G':Gs s' n) (hn:n < 17592186043904)
include h0 h1 h G G' hn
theorem right_eq (R:L 350 [enc d0,enc d1,enc s]=some [1]):L 350 [enc d0,enc d1,enc s']=some [1]:=by obtain⟨hC,ok,hle⟩:=KW h0 h1 G (by omega) R;have hl:=h.len;refine azS h0 h1 G' (by omega) hC (by omega) fun i hi=>?_;obtain⟨o,c,dn,g,r,v,T,_⟩:=Ot G (i:=(i:Int)) (by omega) (by omega);obtain⟨o',c',BD,g',r',v',T',_⟩:=Ot G' (i:=(i:Int)) (by omega) (by omega);obtain⟨rfl,rfl,rfl,rfl,q4,q5⟩:=Y2 T T' (h.ats i);have P:=UM h0 h1 G (by omega) R (i:=(i:Int)) (by omega) (by omega) T;refine⟨_,_,_,_,_,_,T',?_⟩;unfold YC at P ⊢;rw [← q4,← q5];exact P
theorem aBl {t op obj arg tr e1 e2 e3 e4 e5 oc f1 f2 f3 f4 f5 oc':Int} {a a':D} (hop:iI .u8 op) (R:L 350 [enc d0,enc d1,enc s]=some [1])
 (A:Tried d0 d1 s t op obj arg tr n a e1 e2 e3 e4 e5 oc) (A':Tried d0 d1 s' t op obj arg tr n a' f1 f2 f3 f4 f5 oc'):Ua a a'∧f1=e1∧f2=e2∧f3=e3∧f4=e4∧f5=e5∧oc'=oc:=by
 have R':=right_eq h0 h1 h G G' hn R;have hl:=h.len;have hA:=A.eq;have hA':=A'.eq;have hf:=G.few (by omega:n < 17592186044415);have hf':=G'.few (by omega:n < 17592186044415);by_cases C:Acc d0 d1 s t op obj
 ·have C':Acc d0 d1 s' t op obj:=⟨R',C.t0,C.t1,C.o0,by have:=C.o1; omega,C.k⟩;obtain⟨_,o,c,dn,g,r,v,T,hL⟩:=KO (arg:=arg) (tries:=tr) h0 h1 G.wd hf hop C;obtain⟨_,o',c',BD,g',r',v',T',hL'⟩:=KO (arg:=arg) (tries:=tr) h0 h1 G'.wd hf' hop C';have a0:=C.o0;obtain⟨i,rfl⟩ : ∃i:Nat,obj=(i:Int):=⟨obj.toNat,by omega⟩;obtain⟨rfl,rfl,rfl,rfl,q4,q5⟩:=Y2 T T' (h.ats i)
  have hMo:Mo d0 s' (i:Int)=Mo d0 s (i:Int):=by
   unfold Mo;by_cases hM:0≤((d0.at (i:Int)).hd 2).n
   ·obtain⟨m,hm⟩ : ∃m:Nat,((d0.at (i:Int)).hd 2).n=(m:Int):=⟨_,(Int.toNat_of_nonneg hM).symm⟩;rw [hm];exact (h.ats m).c0.symm
   ·have e: ∀(z:Int) (s:D),¬0≤z→s.at z=s.at ((0:Nat):Int):=fun z s hz=>by
     unfold D.at
     rw [show z.toNat=(((0:Nat):Int)).toNat by omega]
    rw [e _ _ hM,e _ _ hM];exact (h.ats 0).c0.symm
  rw [hMo] at hL';have hE:=aDh (M:=Mx d0 (i:Int)) (mo:=Mo d0 s (i:Int)) (th:=t) (op:=op) (arg:=arg) (tries:=tr) (o:=o') (c:=c') (dn:=BD) (g:=g') q4 q5;have hP:=avM h (i:Int) (Mx d0 (i:Int)) hE (Zq h G G');rw [Lj,hA] at hL;rw [Lj,hA'] at hL';obtain⟨X,hX⟩ : ∃X,act (Mx d0 (i:Int)) (Mo d0 s (i:Int)) t op arg tr o' c' BD g' r v=X:=⟨_,rfl⟩;obtain⟨Y,hY⟩ : ∃Y,act (Mx d0 (i:Int)) (Mo d0 s (i:Int)) t op arg tr o' c' BD g' r' v'=Y:=⟨_,rfl⟩;rw [hX] at hL hE hP;rw [hY] at hL' hE hP
  cases hE with
  | blk=> simp only [evA,Option.some.injEq,List.cons.injEq,and_true] at hL hL';obtain⟨p,rfl,rfl,rfl,rfl,rfl,rfl⟩:=hL;obtain⟨p',rfl,rfl,rfl,rfl,rfl,rfl⟩:=hL';rw [iD p,iD p'];exact⟨hP,rfl,rfl,rfl,rfl,rfl,rfl⟩
  | mis=> simp only [evA,Option.some.injEq,List.cons.injEq,and_true] at hL hL';obtain⟨p,rfl,rfl,rfl,rfl,rfl,rfl⟩:=hL;obtain⟨p',rfl,rfl,rfl,rfl,rfl,rfl⟩:=hL';rw [iD p,iD p'];exact⟨hP,rfl,rfl,rfl,rfl,rfl,rfl⟩
  | res o c dn g r v r' v' m a oc hr hv=> simp only [evA,Option.some.injEq,List.cons.injEq,and_true] at hL hL';obtain⟨p,rfl,rfl,rfl,rfl,rfl,rfl⟩:=hL;obtain⟨p',rfl,rfl,rfl,rfl,rfl,rfl⟩:=hL';rw [iD p,iD p'];exact⟨hP,rfl,rfl,rfl,rfl,rfl,rfl⟩
 ·have C': ¬Acc d0 d1 s' t op obj:=fun C'=>C ⟨R,C'.t0,C'.t1,C'.o0,by have:=C'.o1; omega,C'.k⟩;have hL:=Un (arg:=arg) (tries:=tr) h0 h1 G.wd hf hop C;have hL':=Un (arg:=arg) (tries:=tr) h0 h1 G'.wd hf' hop C';rw [hA] at hL;rw [hA'] at hL';simp only [Option.some.injEq,List.cons.injEq,and_true] at hL hL';obtain⟨p,rfl,rfl,rfl,rfl,rfl,rfl⟩:=hL;obtain⟨p',rfl,rfl,rfl,rfl,rfl,rfl⟩:=hL';rw [iD p,iD p'];exact⟨h,rfl,rfl,rfl,rfl,rfl,rfl⟩
end
theorem adJ {d0 d1 s s' k:D} {n:Nat} (h0:Wd (.sl 3) d0) (h1:Wd (.sl 4) d1) (h:Ua s s') (G:Gs s n) (G':Gs s' n) (hn:n < 17592186043904) (M:MR d0 d1 s k):MR d0 d1 s' k:=⟨right_eq h0 h1 h G G' hn M.1,M.2⟩
theorem step_eq {d0 d1 s s' k:D} {n:Nat} (h0:Wd (.sl 3) d0) (h1:Wd (.sl 4) d1) (h:Ua s s') (S:Sx s k n) (S':Sx s' k n) (hn:n < 17592186043800) (M:MR d0 d1 s k) (t:Int) :
 ∃a a' b e1 e2 e3 e4 e5 oc,L 1850 [enc d0,enc d1,enc s,enc k,t]=some [enc a,enc b,e1,e2,e3,e4,e5,oc]∧L 1850 [enc d0,enc d1,enc s',enc k,t]=some [enc a',enc b,e1,e2,e3,e4,e5,oc]∧Ua a a'∧Sx a b (n+1)∧Sx a' b (n+1)∧MR d0 d1 a b∧Dn d0 d1 s k t n a b e1 e2 e3 e4 e5 oc:=by
 have M':=adJ h0 h1 h S.g S'.g (by omega) M;obtain⟨a,b,e1,e2,e3,e4,e5,oc,hL,H⟩:=ER S (by omega) h0 h1 t;obtain⟨a',b',f1,f2,f3,f4,f5,oc',hL',H'⟩:=ER S' (by omega) h0 h1 t;have X:=(MZ S (by omega) h0 h1 H).1;have X':=(MZ S' (by omega) h0 h1 H').1;have Y:=alN S (by omega) h0 h1 M H
 have key:Ua a a'∧b'=b∧f1=e1∧f2=e2∧f3=e3∧f4=e4∧f5=e5∧oc'=oc:=by
  have no:L 1550 [enc d0,enc d1,enc s,enc k,t]=some [0]↔L 1550 [enc d0,enc d1,enc s',enc k,t]=some [0]:=by
   obtain⟨_,q,w,rfl,hw⟩:=BP (k:=k) h0 h1 (S.g.few (by omega)).rows h1.len t;obtain⟨_,q',w',rfl,hw'⟩:=BP (k:=k) h0 h1 (S'.g.few (by omega)).rows h1.len t;rw [q,q'];rcases hw with ⟨rfl,hw⟩ | ⟨rfl,hw⟩ <;> rcases hw' with ⟨rfl,hw'⟩ | ⟨rfl,hw'⟩
   ·exact Iff.rfl
   ·exact absurd ⟨hw'.1,hw'.2.1,M⟩ hw
   ·exact absurd ⟨hw.1,hw.2.1,M'⟩ hw'
   ·exact Iff.rfl
  have ne: ∀{x:KT} {s:D},Rs d0 d1 s k t x→¬L 1550 [enc d0,enc d1,enc s,enc k,t]=some [0]:=fun R q=>by rw [R.yes] at q;simp at q
  cases H with
  | no z=>
    cases H' with
    | no z'=>exact⟨h,rfl,rfl,rfl,rfl,rfl,rfl,rfl⟩
    | over x' R' ho'=>exact absurd (no.1 z) (ne R')
    | loc x' R' ho' ha'=>exact absurd (no.1 z) (ne R')
    | tri x' R' ho' op' aBJ arg' tr' hq' k1' k2' k3' aB2 s2 f1 f2 f3 f4 f5 oc' A' T'=>exact absurd (no.1 z) (ne R')
  | over x R ho=>
    cases H' with
    | no z'=>exact absurd (no.2 z') (ne R)
    | over x' R' ho'=>exact⟨h,rfl,rfl,rfl,rfl,rfl,rfl,rfl⟩
    | loc x' R' ho' ha'=>exfalso; rw [Cc (R'.hk.symm.trans R.hk)] at ho'; omega
    | tri x' R' ho' op' aBJ arg' tr' hq' k1' k2' k3' aB2 s2 f1 f2 f3 f4 f5 oc' A' T'=>exfalso; rw [Cc (R'.hk.symm.trans R.hk)] at ho'; omega
  | loc x R ho ha=>
    cases H' with
    | no z'=>exact absurd (no.2 z') (ne R)
    | over x' R' ho'=>exfalso; rw [Cc (R'.hk.symm.trans R.hk)] at ho'; omega
    | loc x' R' ho' ha'=>rw [Cc (R'.hk.symm.trans R.hk)]; exact⟨h,rfl,rfl,rfl,rfl,rfl,rfl,rfl⟩
    | tri x' R' ho' op' aBJ arg' tr' hq' k1' k2' k3' aB2 s2 f1 f2 f3 f4 f5 oc' A' T'=>exfalso; rw [Cc (R'.hk.symm.trans R.hk),] at hq'; rw [hq'] at ha; simp [low] at ha
  | tri x R ho op obj arg tr hq k1 k2 k3 hti s1 e1 e2 e3 e4 e5 oc A T=>
    cases H' with
    | no z'=>exact absurd (no.2 z') (ne R)
    | over x' R' ho'=>exfalso; rw [Cc (R'.hk.symm.trans R.hk)] at ho'; omega
    | loc x' R' ho' ha'=>exfalso; rw [Cc (R'.hk.symm.trans R.hk)] at ha'; rw [hq] at ha'; simp [low] at ha'
    | tri x' R' ho' op' aBJ arg' tr' hq' k1' k2' k3' aB2 s2 f1 f2 f3 f4 f5 oc' A' T'=> have ex:=Cc (R'.hk.symm.trans R.hk);subst ex;rw [hq] at hq';simp only [List.cons.injEq,and_true] at hq';obtain⟨rfl,rfl,rfl,rfl⟩:=hq';obtain⟨q,rfl,rfl,rfl,rfl,rfl,rfl⟩:=aBl h0 h1 h S.g S'.g (by omega) k1 M.1 A A';exact⟨q,rfl,rfl,rfl,rfl,rfl,rfl,rfl⟩
 obtain⟨q,rfl,rfl,rfl,rfl,rfl,rfl,rfl⟩:=key;exact⟨a,a',_,_,_,_,_,_,_,hL,hL',q,X,X',Y,H⟩
end Go.As.Try
end
section
namespace Go.As.Try
open Go hiding Stat Spec shape
open Go.As
set_option maxRecDepth 100000
def NK (k:D):Prop:= ∀x∈k.l,x.hd 1≠.i 1
theorem FB (l:List D):dL l≠.i 1:=by
 cases l with
 | nil=>intro h; simp [eU] at h
 | cons a l=>intro h; simp [dO] at h
theorem aD7 {d:D} (h:Wd (.sl 0) d) (hn:d≠.i 1):nz d=d:=by
 unfold nz;rcases bZ h with rfl | rfl | ⟨h1,_⟩
 ·exact absurd rfl hn
 ·simp [D.l]
 ·rw [if_neg (by omega)]
theorem aEc {s k:D} {n:Nat} (S:Sx s k n) (N:NK k): ∀x∈k.l,nK x=x:=fun x hx=>by obtain⟨a,lc,w,o,g,tr,T⟩:=lJ S.wk x hx;have hN:=N x hx;rw [T.is] at hN ⊢;have e:=aD7 T.hl hN;unfold nK;simp only [zg,Option.getD_some,n_i,e]
theorem anT {s k:D} {n:Nat} (S:Sx s k n) (N:NK k):(if k.l= [] then .i 1 else dL (k.l.map nK))=k:=by
 have e:k.l.map nK=k.l:=by
  conv=>rhs; rw [← List.map_id k.l]
  exact List.map_congr_left fun x hx=>aEc S N x hx
 rw [e];rcases S.wk.sh with h | h | ⟨h,hne⟩
 ·rw [h]; rfl
 ·exact absurd h S.n2k
 ·rw [if_neg hne]; exact h.symm
theorem anB {k:D} (N:NK k) (t:Int) {x:KT} (hx:x.lc≠.i 1):NK (rH k t x):=fun y hy=>by
 have hy':y∈eF k.l t x.d:=by have:(rH k t x).l=eF k.l t x.d:=aT _;rw [← this]; exact hy
 rcases yP hy' with h | rfl
 ·exact N y h
 ·exact hx
theorem alM {d0 d1 s k:D} {t:Int} {n:Nat} {a b:D} {e1 e2 e3 e4 e5 oc:Int} (N:NK k) (H:Dn d0 d1 s k t n a b e1 e2 e3 e4 e5 oc):NK b:=by
 have own: ∀x:KT,Rs d0 d1 s k t x→x.lc≠.i 1:=fun x R=>by have:=N _ (ZH R.r.t0 R.ht);rw [R.hk] at this;exact this
 cases H with
 | no h=>exact N
 | over x R ho=>exact N
 | loc x R ho ha=>
   refine anB N t ?_;have:=own x R;unfold Ac
   repeat' split
   all_goals first | exact this | exact FB _
 | tri x R ho op obj arg tr hq k1 k2 k3 hti s' e1 e2 e3 e4 e5 oc A T=>
   refine anB N t ?_;have:=own x R;unfold uI
   repeat' split
   all_goals first | exact this | exact FB _ | (simp only []; split <;> first | exact this | exact FB _)
theorem anC (d1:D):NK (rG d1):=fun x hx=>by
 unfold rG at hx;split at hx
 ·simp [D.l] at hx
 ·rw [aT] at hx;obtain⟨y,_,rfl⟩:=List.mem_map.1 hx;unfold nX;show (if (y.hd 1).l.length=0 then D.i 2 else dL (List.replicate (y.hd 1).l.length (.i 0)))≠.i 1;split
  ·simp
  ·exact FB _
abbrev AZ (s:D):D:=if s.l= [] then .i 1 else dL (s.l.map nT)
theorem ayY {d:D} (h:Wd (.sl 0) d):Wd (.sl 0) (nz d):=by
 unfold nz;split
 ·exact .non 0
 ·exact h
theorem azV {x:D} {o c dn g:Int} {r v:D} (T:Tg x o c dn g r v):Tg (nT x) o c dn g (nz r) (nz v):=by
 refine⟨?_,T.ho,T.hc,T.hd,T.hg,ayY T.hr,ayY T.hv⟩
 have e:(if dn=0 then (0:Int) else 1)=dn:=by rcases T.hd with rfl | rfl <;> rfl
 rw [T.is];unfold nT;simp only [zg,Option.getD_some,n_i,e]
theorem azW {x:D} {o c dn g:Int} {r v:D} (T:Tg x o c dn g r v):TEq x (nT x):=by
 rw [(azV T).is]
 conv=>lhs; rw [T.is]
 exact Ut (aD8 r).symm (aD8 v).symm
theorem aAZ (s:D):(AZ s).l=s.l.map nT:=by
 unfold AZ;split
 ·rename_i h; rw [h]; rfl
 ·rw [aT]
theorem Jj {s:D} {n:Nat} (G:Gs s n):Ua s (AZ s):=by
 have e:=aAZ s;refine⟨by rw [e,List.length_map],fun i=>?_⟩;by_cases hi:i < s.l.length
 ·obtain⟨o,c,dn,g,r,v,T,_⟩:=Ot G (i:=(i:Int)) (by omega) (by omega)
  have e2:(AZ s).at (i:Int)=nT (s.at (i:Int)):=by rw [jT,e,List.getElem?_map,List.getElem?_eq_getElem hi,aX hi]; rfl
  rw [e2];exact azW T
 ·have e1:s.at (i:Int)= .i 0:=by rw [jT,List.getElem?_eq_none (by omega)]; rfl
  have e2:(AZ s).at (i:Int)= .i 0:=by rw [jT,e,List.getElem?_eq_none (by rw [List.length_map]; omega)]; rfl
  rw [e1,e2];exact .rfl' _
theorem VX {s k:D} {n:Nat} (S:Sx s k n):Sx (AZ s) k n:=by
 have e:=aAZ s;have key: ∀x∈s.l,∃o c dn g r v,Tg x o c dn g r v:=fun x hx=>FU (S.g.wd.thing _ hx);refine⟨⟨?_,fun x hx=>?_⟩,S.wk,?_,S.n2k⟩
 ·unfold AZ;split
  ·exact .nil 7
  ·rename_i hne;refine Ip (fun y hy=>?_) (by simpa using hne) (by rw [List.length_map]; exact (FV S.g.wd (List.length_pos_iff.2 hne)).few);obtain⟨x,hx,rfl⟩:=List.mem_map.1 hy;obtain⟨o,c,dn,g,r,v,T⟩:=key x hx;have T':=azV T;exact⟨o,c,dn,g,nz r,nz v,T'.is,T'.ho,T'.hc,T'.hd,T'.hg,T'.hr,T'.hv⟩
 ·rw [e] at hx;obtain⟨y,hy,rfl⟩:=List.mem_map.1 hx;obtain⟨o,c,dn,g,r,v,T⟩:=key y hy;have q:=azW T;rw [← q.c4,← q.c5];exact S.g.rows y hy
 ·unfold AZ;split
  ·simp
  ·rename_i hne;intro h;have:=congrArg D.l h;rw [aT] at this;simp [D.l] at this;exact hne this
theorem JR {s k:D} {n:Nat} (S:Sx s k n) (N:NK k) (hn:n < 17592186043904):L 3600 [enc s,enc k]=some [enc (AZ s),enc k]:=by
 have hs:s.l.length < 1759218604440:=by have:=S.g.wd.room;have h3:wG 7=80:=rfl;rw [h3] at this;omega
 have hk:k.l.length < 2199023255551:=by have:=S.wk.room;have h3:wG 8=64:=rfl;rw [h3] at this;omega
 have h:=aDc hs (fun x hx=>by have:=S.g.rows x hx; omega) hk (fun x hx=>by
  obtain⟨a,lc,w,o,g,tr,T⟩:=lJ S.wk x hx;rw [T.is];show ((lc.l.length:Nat):Int) < _;have:=T.hl.room;have h3:wG 0=8:=rfl;rw [h3] at this
  omega)
 rw [h,anT S N]
end Go.As.Try
end

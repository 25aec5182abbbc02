import Derived.Test.YtmmdeeeifpepjacGreatDoorAsZF3
set_option linter.unusedSectionVars false
set_option linter.unusedVariables false
set_option linter.unusedSimpArgs false
section
namespace Go.As.Try
open Go hiding Stat Spec shape
open Go.As
set_option maxRecDepth 100000
def OkI (d0:D) (nl nc:Nat) (dx op ob into to:Int) (na:Nat):Prop:=
 (dx=1∧0≤ob∧ob < (d0.l.length:Int)∧(into= -1∨0≤into∧into < (nl:Int))∧(op=16→0≤to∧to≤(nc:Int)))∨
 (dx=2∧0≤ob∧ob < (d0.l.length:Int))∨(dx=3∧0≤into∧into < (nl:Int)∧(na:Int)=1)∨(dx=4∧0≤to∧to≤(nc:Int)∧(na:Int)=1)∨
 (dx=5∧0≤to∧to≤(nc:Int))∨(dx=6∧0≤into∧into < (nl:Int))∨(dx=7∧0≤into∧into < (nl:Int)∧0≤to∧to≤(nc:Int))
def isI (p:Prop) (ys:List Int):Prop:= ∃c:Int,ys= [c]∧(c=0∨c=1)∧(c=1→p)
theorem aDw {p:Prop}:isI p [0]:=⟨0,rfl,.inl rfl,fun h=>absurd h (by omega)⟩
theorem aDv {p:Prop} (h:p):isI p [1]:=⟨1,rfl,.inr rfl,fun _=>h⟩
set_option maxHeartbeats 2000000 in
theorem atY (d0 d1 d3 d4 d:D) (x2 x5 x6 x7 x8 x9 x10:Int) (hd:d.l.length≤2513169434915):Tot 750 [enc d0,enc d1,x2,enc d3,enc d4,x5,x6,x7,x8,x9,x10,enc d] (isI (OkI d0 d3.l.length d4.l.length x5 x6 x7 x8 x9 d.l.length)):=by
 unfold OkI;obtain⟨ys,h0,b0,rfl,_,f0⟩:=XH ((d0.at x7).hd 0).n x5 x6 x7 x8 x9 x10 0 d hd;obtain⟨ys,h1,b1,rfl,_,f1⟩:=XH ((d0.at x7).hd 0).n x5 x6 x7 x8 x9 x10 1 d hd;refine Tot.of ?_;rw [aEw];simp only [aAN,zz,h0,h1]
 repeat' first | exact .out aDw | exact .out (aDv (by omega)) | refine .ite (fun _=>?_) (fun _=>?_)
def OkO (d0:D) (k n:Int):Prop:=1≤k∧k≤9∧(k=1∨k=2∨k=6∨k=7→n=0)∧(k=3∨k=8→1≤n∧n≤1048576)∧(k=5→1≤n∧n≤16)∧(k=4→0≤n∧n < (d0.l.length:Int)∧((d0.at n).hd 0).n=1)
def acD (d0:D) (x:D):Prop:=OkO d0 (x.hd 0).n (x.hd 2).n
def aBh (d0:D) (k n:Int) (ys:List Int):Prop:= ∃b:Int,ys= [b]∧(b=0∨b=1)∧(b≠0→OkO d0 k n)
theorem afW (d0:D) (x1 x2 x3 x4 x5 x6:Int):Tot 700 [enc d0,x1,x2,x3,x4,x5,x6] (aBh d0 x2 x4):=by
 refine Tot.of ?_;rw [aEx];simp only [aAO,zz]
 repeat' first
  | exact .out ⟨0,rfl,.inl rfl,fun h=>absurd rfl h⟩
  | exact .out ⟨1,rfl,.inr rfl,fun _=> ⟨by omega,by omega,by omega,by omega,by omega,fun h4=>by first | omega | exact⟨by omega,by omega,by assumption⟩⟩⟩
  | refine .ite (fun _=>?_) (fun _=>?_)
def BG (d0 d1:D):Prop:=d0.l.length≤64∧d1.l.length≤16∧∀x∈d0.l,acD d0 x
def acW (d0 x:D):Prop:= ∀y∈(x.hd 2).l,OkI d0 (x.hd 1).l.length (x.hd 2).l.length (y.hd 0).n (y.hd 1).n (y.hd 2).n (y.hd 3).n (y.hd 4).n (y.hd 6).l.length
def Nr (d0 d1:D) (ys:List Int):Prop:= ∃b:Int,ys= [b]∧(b=0∨b=120)∧(b=0→BG d0 d1∧∀x∈d1.l,acW d0 x)
theorem FD {d:D} (h:Wd (.sl 4) d) {i:Nat} (hi:i < d.l.length): ∃nm' lc cd,d.l[i]=dL [nm',lc,cd]∧Wd .str nm'∧Wd (.sl 2) lc∧Wd (.sl 5) cd:=by
 obtain⟨r,h1,hl,hc⟩:=h.elN (cs:=[.str,.sl 2,.sl 5]) rfl _ (List.getElem_mem hi)
 match r,hl with
 | [a,b,c],_=>exact⟨a,b,c,h1,hc 0 _ _ rfl rfl,hc 1 _ _ rfl rfl,hc 2 _ _ rfl rfl⟩
theorem Zl {d:D} (h:Wd (.sl 5) d) {i:Nat} (hi:i < d.l.length): ∃a b c e f g Pj,d.l[i]=dL [.i a,.i b,.i c,.i e,.i f,.i g,Pj]∧iP .u8 a∧iP .u8 b∧iP .i64 c∧iP .i64 e∧iP .i64 f∧iP .i64 g∧Wd (.sl 6) Pj:=by
 obtain⟨r,h1,hl,hc⟩:=h.elN (cs:=[.int .u8,.int .u8,.int .i64,.int .i64,.int .i64,.int .i64,.sl 6]) rfl _ (List.getElem_mem hi)
 match r,hl with
 | [a,b,c,e,f,g,Pj],_=> obtain⟨a,rfl,ha⟩:=(hc 0 _ _ rfl rfl).i;obtain⟨b,rfl,hb⟩:=(hc 1 _ _ rfl rfl).i;obtain⟨c,rfl,hc'⟩:=(hc 2 _ _ rfl rfl).i;obtain⟨e,rfl,he⟩:=(hc 3 _ _ rfl rfl).i;obtain⟨f,rfl,hf⟩:=(hc 4 _ _ rfl rfl).i;obtain⟨g,rfl,hg⟩:=(hc 5 _ _ rfl rfl).i;exact⟨a,b,c,e,f,g,Pj,h1,ha,hb,hc',he,hf,hg,hc 6 _ _ rfl rfl⟩
section
variable {d0 d1:D} (h0:Wd (.sl 3) d0) (h1:Wd (.sl 4) d1)
include h1
theorem FC (hx: ∀x y:Int,x=y→True): ∀(j i:Nat),i+j=d1.l.length→Tot 453 [enc d1,(d1.l.length:Int),(i:Int),enc d0] (Nr d0 d1)
 | 0,i,hi=>by
   have c1: ¬(i:Int) < (d1.l.length:Int):=by omega
   refine Tot.of ?_;rw [aCm];simp only [asL,zz,c1];exact .out ⟨120,rfl,.inr rfl,fun h=>by omega⟩
 | j+1,i,hi=>by
   have hl:=h1.len;have c1:(i:Int) < (d1.l.length:Int):=by omega
   have c2: ¬((i:Int) < 0):=by omega
   have w:=bC (n:=i) (by omega);refine Tot.of ?_;rw [aCm];simp only [asL,zz,c1,c2];refine .jump (Tot.of ?_);rw [aCk];simp only [asJ,zz,w];exact .ite (fun _=> .jump (FC hx j (i+1) (by omega))) fun _=> .jump (FC hx j (i+1) (by omega))
theorem TM (i:Nat) (hi:i < d1.l.length) (j:Nat) (hj:i+1+j=d1.l.length) (x0 x5 x6 x7:Int):Tot 455 [x0,enc d1,(d1.l.length:Int),(i:Int),enc d0,x5,x6,x7] (Nr d0 d1):=by have hl:=h1.len;have w:=bC (n:=i) (by omega);refine Tot.of ?_;rw [aCk];simp only [asJ,zz,w];exact .ite (fun _=> .jump (FC h1 (fun _ _ _=>trivial) j (i+1) (by omega))) fun _=> .jump (FC h1 (fun _ _ _=>trivial) j (i+1) (by omega))
theorem VY (hg:BG d0 d1): ∀(j i:Nat),i+j=d1.l.length→(∀(n:Nat) (h:n < d1.l.length),n < i→acW d0 d1.l[n])→Tot 454 [enc d1,(d1.l.length:Int),(i:Int),enc d0] (Nr d0 d1)
 | 0,i,hi,hp=>by
   have c1: ¬(i:Int) < (d1.l.length:Int):=by omega
   refine Tot.of ?_;rw [aCl];simp only [asK,zz,c1];refine .out ⟨0,rfl,.inl rfl,fun _=> ⟨hg,fun x hx=>?_⟩⟩;obtain⟨n,hn,rfl⟩:=List.getElem_of_mem hx;exact hp n hn (by omega)
 | j+1,i,hi,hp=>by
   have hl:=h1.len;have hil:i < d1.l.length:=by omega
   have c1:(i:Int) < (d1.l.length:Int):=by omega
   have c2: ¬((i:Int) < 0):=by omega
   have w:=bC (n:=i) (by omega);obtain⟨nm',lc,cd,he,hn,hlc,hcd⟩:=FD h1 hil;have hcl:=hcd.len;have e1:(d1.l[i]).hd 1=lc:=by rw [he,gU]; rfl
   have e2:(d1.l[i]).hd 2=cd:=by rw [he,gU]; rfl
   have loop: ∀(m k:Nat),k+m=cd.l.length→(∀(n:Nat) (h:n < cd.l.length),n < k→OkI d0 lc.l.length cd.l.length ((cd.l[n]).hd 0).n ((cd.l[n]).hd 1).n ((cd.l[n]).hd 2).n ((cd.l[n]).hd 3).n ((cd.l[n]).hd 4).n ((cd.l[n]).hd 6).l.length)→Tot 456 [(k:Int),enc d1,(d1.l.length:Int),(i:Int),enc d0,enc nm',enc lc,enc cd] (Nr d0 d1):=by
    intro m
    induction m with
    | zero=>
      intro k hk hq;have c3: ¬(k:Int) < (cd.l.length:Int):=by omega
      have ih:=VY hg j (i+1) (by omega) fun n hn hni=>by
       by_cases hne:n=i
       ·subst hne;unfold acW;rw [e1,e2];intro y hy;obtain⟨z,hz,rfl⟩:=List.getElem_of_mem hy;exact hq z hz (by omega)
       ·exact hp n hn (by omega)
      refine Tot.of ?_;rw [aCj];simp only [asI,zz,c3,w];exact .jump ih
    | succ m ihm=>
      intro k hk hq;have hkl:k < cd.l.length:=by omega
      have c3:(k:Int) < (cd.l.length:Int):=by omega
      have c4: ¬((k:Int) < 0):=by omega
      have w2:=bC (n:=k) (by omega);obtain⟨a,b,c,e,f,g,Pj,hin,_,_,_,_,_,_,has⟩:=Zl hcd hkl;have hroom:=has.room
      have hal:Pj.l.length≤2513169434915:=by have:yV 6=56:=rfl;rw [this] at hroom;omega
      obtain⟨ys,hM,q,rfl,aF3,hqI⟩:=atY d0 d1 lc cd Pj (enc nm') a b c e f g hal;obtain⟨ys,hX,r,rfl,_⟩:=agS Pj lc (enc nm') (enc cd) has;refine Tot.of ?_;rw [aCj];simp only [asI,zz,c3,c4,aZ hkl,hin,zg,hM,hX,w2];refine .ite (fun _=> .jump (TM h1 i hil j (by omega) _ _ _ _)) fun hq0=> .ite (fun _=> .jump (ihm (k+1) (by omega) fun n hn hnk=>?_)) fun _=> .jump (TM h1 i hil j (by omega) _ _ _ _);by_cases hne:n=k
      ·subst hne;simp only [hin,zg];exact hqI (by omega)
      ·exact hq n hn (by omega)
   refine Tot.of ?_;rw [aCl];simp only [asK,zz,c1,c2,aZ hil,he,zg];exact .ite (fun _=> .jump (TM h1 i hil j (by omega) _ _ _ _)) fun _=> .ite (fun _=> .jump (TM h1 i hil j (by omega) _ _ _ _)) fun _=> .jump (loop cd.l.length 0 (by omega) fun n hn h=>absurd h (by omega))
include h0
theorem KC: ∀(j i:Nat),i+j=d0.l.length→Tot 451 [enc d0,(d0.l.length:Int),(i:Int),enc d1] (Nr d0 d1)
 | 0,i,hi=>by
   have c1: ¬(i:Int) < (d0.l.length:Int):=by omega
   refine Tot.of ?_;rw [aCo];simp only [asN,zz,c1];exact .jump (FC h1 (fun _ _ _=>trivial) d1.l.length 0 (by omega))
 | j+1,i,hi=>by
   have hl:=h0.len;have c1:(i:Int) < (d0.l.length:Int):=by omega
   have c2: ¬((i:Int) < 0):=by omega
   have w:=bC (n:=i) (by omega);refine Tot.of ?_;rw [aCo];simp only [asN,zz,c1,c2,w];exact .jump (KC j (i+1) (by omega))
theorem WI (hs:d0.l.length≤64) (ht:d1.l.length≤16): ∀(j i:Nat),i+j=d0.l.length→(∀(k:Nat) (h:k < d0.l.length),k < i→acD d0 d0.l[k])→Tot 452 [enc d0,(d0.l.length:Int),(i:Int),enc d1] (Nr d0 d1)
 | 0,i,hi,hp=>by
   have c1: ¬(i:Int) < (d0.l.length:Int):=by omega
   refine Tot.of ?_;rw [aCn];simp only [asM,zz,c1];refine .jump (VY h1 ⟨hs,ht,fun x hx=>?_⟩ d1.l.length 0 (by omega) fun n hn h=>absurd h (by omega));obtain⟨k,hk,rfl⟩:=List.getElem_of_mem hx;exact hp k hk (by omega)
 | j+1,i,hi,hp=>by
   have hil:i < d0.l.length:=by omega
   have c1:(i:Int) < (d0.l.length:Int):=by omega
   have c2: ¬((i:Int) < 0):=by omega
   have w:=bC (n:=i) (by omega);obtain⟨ys,hO,b,rfl,_,hob⟩:=afW d0 (enc d1) ((d0.l[i]).hd 0).n (enc ((d0.l[i]).hd 1)) ((d0.l[i]).hd 2).n (enc ((d0.l[i]).hd 3)) ((d0.l[i]).hd 4).n;refine Tot.of ?_;rw [aCn];simp only [asM,zz,c1,c2,w,aZ hil,hO];refine .ite (fun _=> .jump (KC h0 h1 j (i+1) (by omega))) fun hb=> .jump (WI hs ht j (i+1) (by omega) fun k hk hki=>?_);by_cases hke:k=i
   ·subst hke;exact hob hb
   ·exact hp k hk (by omega)
theorem yT:Tot 450 [enc d0,enc d1] (Nr d0 d1):=by
 refine Tot.of ?_;rw [aEE];simp only [aAQ,zz]
 exact .ite (fun _=> .jump (KC h0 h1 d0.l.length 0 (by omega))) fun ha=> .ite (fun _=> .jump (KC h0 h1 d0.l.length 0 (by omega))) fun hb=>
  .jump (WI h0 h1 (by omega) (by omega) d0.l.length 0 (by omega) fun k hk hki=>by omega)
end
end Go.As.Try
end
section
namespace Go.As.Try
open Go hiding Stat Spec shape
open Go.As
set_option maxRecDepth 100000
def one (ys:List Int):Prop:= ∃k:Int,ys= [k]
theorem aCM {o:Int} (h:iP .u8 o):IntKind.i64.wrap o=o:=qE (by have:=h.1; omega) (by have:=h.2; omega)
theorem alV (a b c d e:Int):Tot 650 [a,b,c,d,e] (fun ys=> ∃k l:Int,ys= [k,l]∧(l=0∨l=1)):=by
 refine Tot.of ?_;rw [avR];simp only [aiT,zz]
 repeat' first | exact .out ⟨_,_,rfl,.inl rfl⟩ | exact .out ⟨_,_,rfl,.inr rfl⟩ | refine .ite (fun _=>?_) (fun _=>?_)
theorem P5 (r:D) (hl:r.l.length≤140737488351232) (x0 x4 x5 x6 x7 x8 x9 x10 x11 x12:Int) (v:D): ∀(j i:Nat) (x14:Int),i+j=r.l.length→
 Tot 501 [x0,enc r,(r.l.length:Int),(i:Int),x4,x5,x6,x7,x8,x9,x10,x11,x12,enc v,x14] E5
 | 0,i,x14,hi=>by
   have c1: ¬(i:Int) < (r.l.length:Int):=by omega
   refine Tot.of ?_;rw [ahC];simp only [VZ,zz,c1]
   repeat' first | exact .out zV | exact .out zT | refine .ite (fun _=>?_) (fun _=>?_)
 | j+1,i,x14,hi=>by
   have c1:(i:Int) < (r.l.length:Int):=by omega
   have c2: ¬((i:Int) < 0):=by omega
   have w:=bC (n:=i) (by omega);have ih:=fun x=>P5 r hl x0 x4 x5 x6 x7 x8 x9 x10 x11 x12 v j (i+1) x (by omega);refine Tot.of ?_;rw [ahC];simp only [VZ,zz,c1,c2,w]
   repeat' first | exact .out zV | exact .out zT | exact .jump (ih _) | refine .ite (fun _=>?_) (fun _=>?_)
theorem YU (x0 x1 x2 x3 x4 x5 x6 x7 x8 x11:Int) (r v:D) (hl:r.l.length≤140737488351232):Tot 500 [x0,x1,x2,x3,x4,x5,x6,x7,x8,enc r,enc v,x11] E5:=by
 obtain⟨ys,hM,a,b,rfl,hb⟩:=alV x0 x1 x2 x3 x4;have ih:=P5 r hl x11 x0 x1 x2 x3 x4 x5 x6 x7 x8 v r.l.length 0 (enc (.i 0)) (by omega);refine Tot.of ?_;rw [avS];simp only [aeT,zz,hM]
 repeat' first | exact .out zV | exact .out zT | exact .jump ih | refine .ite (fun _=>?_) (fun _=>?_)
end Go.As.Try
end
section
namespace Go.As.Try
open Go hiding Stat Spec shape
open Go.As
set_option maxRecDepth 100000
theorem set_self {d:D} (hd:d=dL d.l) {i:Nat} (hi:i < d.l.length):dL (dY d.l (i:Int) d.l[i])=d:=by rw [yB,List.set_getElem_self,← hd]
theorem LZ (a b c d e f x:D):dY [a,b,c,d,e,f] 4 x= [a,b,c,d,x,f]:=rfl
theorem LY (a b c d e f x:D):dY [a,b,c,d,e,f] 5 x= [a,b,c,d,e,x]:=rfl
theorem oG: ¬(enc (.i 2)=enc (.i 1)):=fun h=>by have:=lV h; simp at this
theorem len1:(((D.i 1).l.length:Nat):Int)=0:=rfl
theorem len2:(((D.i 2).l.length:Nat):Int)=0:=rfl
theorem uY: ¬((0:Int) < 0):=by omega
theorem bK {r:D} (h:Wd (.sl 0) r):r= .i 1∨r= .i 2∨((0:Int) < (r.l.length:Int)∧(r.l.length:Int) < 17592186044416):=by
 rcases h.sh with h1 | h1 | ⟨h1,h2⟩
 ·exact .inl h1
 ·exact .inr (.inl h1)
 ·have hr:=h.room;have h3:yV 0=8:=rfl;rw [h3] at hr;have:=List.length_pos_iff.2 h2;exact .inr (.inr ⟨by omega,by omega⟩)
structure Th (d:D):Prop where
 wd:Wd (.sl 7) d
 sh:d=dL d.l
 few:d.l.length≤1759218604390
theorem Ee {d:D} (h:Wd (.sl 7) d) (hn:0 < d.l.length):Th d:=by
 refine⟨h,?_,?_⟩
 ·rcases h.sh with rfl | rfl | ⟨h1,_⟩
  ·simp [D.l] at hn
  ·simp [D.l] at hn
  ·exact h1
 ·have hr:=h.room;have h3:yV 7=80:=rfl;rw [h3] at hr;omega
theorem SQ (d:D) (h:Th d): ∀(j i:Nat),i+j=d.l.length→L 551 [enc d,(d.l.length:Int),(i:Int)]=some [enc d]
 | 0,i,hi=>by
   have c1: ¬(i:Int) < (d.l.length:Int):=by omega
   rw [aQ,aCi];simp only [asH,zz,c1,fin]
 | j+1,i,hi=>by
   have hl:=h.few;have hil:i < d.l.length:=by omega
   have c1:(i:Int) < (d.l.length:Int):=by omega
   have c2: ¬((i:Int) < 0):=by omega
   have w:=bC (n:=i) (by omega);have ih:=SQ d h j (i+1) (by omega);obtain⟨o,c,dn,g,r,v,he,_,_,_,_,hr,hv⟩:=h.wd.thing _ (List.getElem_mem hil);have hs:=set_self h.sh hil;rw [he] at hs;rw [aQ,aCi];rcases bK hr with rfl | rfl | ⟨r1,r2⟩ <;> rcases bK hv with rfl | rfl | ⟨v1,v2⟩
   all_goals
    simp only [asH,zz,c1,c2,w,aZ hil,he,gU,aT,List.getElem?_cons_zero,List.getElem?_cons_succ,LZ,LY,hs,len1,len2,uY,oG]
    try simp only [r1,r2,zz]
    try simp only [v1,v2,zz]
    try simp only [fin]
    exact ih
theorem aqS (d:D) (h:Wd (.sl 7) d):L 550 [enc d]=some [enc d]:=by
 rw [aQ,aED];rcases h.sh with rfl | rfl | ⟨h1,h2⟩
 ·simp only [aiY,zz,len1,uY,fin];rw [aQ,aEC];rfl
 ·simp only [aiY,zz,len2,uY,oG,fin];rw [aQ,aEB];rfl
 ·have hp:=List.length_pos_iff.2 h2;have ht:=Ee h hp;have hl:=ht.few;have c1:(0:Int) < (d.l.length:Int):=by omega
  have c2:(d.l.length:Int) < 1759218604441:=by omega
  simp only [aiY,zz,c1,c2,fin];exact SQ d ht d.l.length 0 (by omega)
theorem SY (d:D) (h:Th d) (gi:Nat) (x4 x5 x6 x7 x8 x9:Int): ∀(j i:Nat),gi < i→i+j=d.l.length→L 9004 [(gi:Int),enc d,(d.l.length:Int),(i:Int),x4,x5,x6,x7,x8,x9]=some [3,(gi:Int),enc d,x4,x5,x6,x7,x8,x9]
 | 0,i,hg,hi=>by
   have c1: ¬(i:Int) < (d.l.length:Int):=by omega
   have c0: ¬((i:Int)=(gi:Int)):=by omega
   rw [aQ,aoJ];simp only [aaX,zz,c0,c1,fin]
 | j+1,i,hg,hi=>by
   have hl:=h.few;have hil:i < d.l.length:=by omega
   have c1:(i:Int) < (d.l.length:Int):=by omega
   have c2: ¬((i:Int) < 0):=by omega
   have c0: ¬((i:Int)=(gi:Int)):=by omega
   have w:=bC (n:=i) (by omega);have ih:=SY d h gi x4 x5 x6 x7 x8 x9 j (i+1) (by omega) (by omega);obtain⟨o,c,dn,g,r,v,he,_,_,_,_,hr,hv⟩:=h.wd.thing _ (List.getElem_mem hil);have hs:=set_self h.sh hil;rw [he] at hs;rw [aQ,aoJ];rcases bK hr with rfl | rfl | ⟨r1,r2⟩ <;> rcases bK hv with rfl | rfl | ⟨v1,v2⟩
   all_goals
    simp only [aaX,zz,c0,c1,c2,w,aZ hil,he,gU,aT,List.getElem?_cons_zero,List.getElem?_cons_succ,LZ,LY,hs,len1,len2,uY,oG]
    try simp only [r1,r2,zz]
    try simp only [v1,v2,zz]
    try simp only [fin]
    exact ih
theorem SX (d:D) (h:Th d) (gi:Nat) (x4 x5 x6 x7 x8 x9:Int): ∀(j i:Nat),gi < i→i+j=d.l.length→L 9005 [(gi:Int),enc d,(d.l.length:Int),(i:Int),x4,x5,x6,x7,x8,x9]=some [4,(gi:Int),enc d,x4,x5,x6,x7,x8,x9]
 | 0,i,hg,hi=>by
   have c1: ¬(i:Int) < (d.l.length:Int):=by omega
   have c0: ¬((i:Int)=(gi:Int)):=by omega
   rw [aQ,aoI];simp only [aaW,zz,c0,c1,fin]
 | j+1,i,hg,hi=>by
   have hl:=h.few;have hil:i < d.l.length:=by omega
   have c1:(i:Int) < (d.l.length:Int):=by omega
   have c2: ¬((i:Int) < 0):=by omega
   have c0: ¬((i:Int)=(gi:Int)):=by omega
   have w:=bC (n:=i) (by omega);have ih:=SX d h gi x4 x5 x6 x7 x8 x9 j (i+1) (by omega) (by omega);obtain⟨o,c,dn,g,r,v,he,_,_,_,_,hr,hv⟩:=h.wd.thing _ (List.getElem_mem hil);have hs:=set_self h.sh hil;rw [he] at hs;rw [aQ,aoI];rcases bK hr with rfl | rfl | ⟨r1,r2⟩ <;> rcases bK hv with rfl | rfl | ⟨v1,v2⟩
   all_goals
    simp only [aaW,zz,c0,c1,c2,w,aZ hil,he,gU,aT,List.getElem?_cons_zero,List.getElem?_cons_succ,LZ,LY,hs,len1,len2,uY,oG]
    try simp only [r1,r2,zz]
    try simp only [v1,v2,zz]
    try simp only [fin]
    exact ih
theorem SV (d:D) (h:Th d) (gi:Nat) (x4 x5 x6 x7 x8 x9:Int): ∀(j i:Nat),gi < i→i+j=d.l.length→L 9006 [(gi:Int),enc d,(d.l.length:Int),(i:Int),x4,x5,x6,x7,x8,x9]=some [5,(gi:Int),enc d,x4,x5,x6,x7,x8,x9]
 | 0,i,hg,hi=>by
   have c1: ¬(i:Int) < (d.l.length:Int):=by omega
   have c0: ¬((i:Int)=(gi:Int)):=by omega
   rw [aQ,aoH];simp only [aaV,zz,c0,c1,fin]
 | j+1,i,hg,hi=>by
   have hl:=h.few;have hil:i < d.l.length:=by omega
   have c1:(i:Int) < (d.l.length:Int):=by omega
   have c2: ¬((i:Int) < 0):=by omega
   have c0: ¬((i:Int)=(gi:Int)):=by omega
   have w:=bC (n:=i) (by omega);have ih:=SV d h gi x4 x5 x6 x7 x8 x9 j (i+1) (by omega) (by omega);obtain⟨o,c,dn,g,r,v,he,_,_,_,_,hr,hv⟩:=h.wd.thing _ (List.getElem_mem hil);have hs:=set_self h.sh hil;rw [he] at hs;rw [aQ,aoH];rcases bK hr with rfl | rfl | ⟨r1,r2⟩ <;> rcases bK hv with rfl | rfl | ⟨v1,v2⟩
   all_goals
    simp only [aaV,zz,c0,c1,c2,w,aZ hil,he,gU,aT,List.getElem?_cons_zero,List.getElem?_cons_succ,LZ,LY,hs,len1,len2,uY,oG]
    try simp only [r1,r2,zz]
    try simp only [v1,v2,zz]
    try simp only [fin]
    exact ih
theorem SS (d:D) (h:Th d) (gi:Nat) (x4 x5 x6 x7 x8 x9:Int): ∀(j i:Nat),gi < i→i+j=d.l.length→L 9007 [(gi:Int),enc d,(d.l.length:Int),(i:Int),x4,x5,x6,x7,x8,x9]=some [6,(gi:Int),enc d,x4,x5,x6,x7,x8,x9]
 | 0,i,hg,hi=>by
   have c1: ¬(i:Int) < (d.l.length:Int):=by omega
   have c0: ¬((i:Int)=(gi:Int)):=by omega
   rw [aQ,aoG];simp only [aaU,zz,c0,c1,fin]
 | j+1,i,hg,hi=>by
   have hl:=h.few;have hil:i < d.l.length:=by omega
   have c1:(i:Int) < (d.l.length:Int):=by omega
   have c2: ¬((i:Int) < 0):=by omega
   have c0: ¬((i:Int)=(gi:Int)):=by omega
   have w:=bC (n:=i) (by omega);have ih:=SS d h gi x4 x5 x6 x7 x8 x9 j (i+1) (by omega) (by omega);obtain⟨o,c,dn,g,r,v,he,_,_,_,_,hr,hv⟩:=h.wd.thing _ (List.getElem_mem hil);have hs:=set_self h.sh hil;rw [he] at hs;rw [aQ,aoG];rcases bK hr with rfl | rfl | ⟨r1,r2⟩ <;> rcases bK hv with rfl | rfl | ⟨v1,v2⟩
   all_goals
    simp only [aaU,zz,c0,c1,c2,w,aZ hil,he,gU,aT,List.getElem?_cons_zero,List.getElem?_cons_succ,LZ,LY,hs,len1,len2,uY,oG]
    try simp only [r1,r2,zz]
    try simp only [v1,v2,zz]
    try simp only [fin]
    exact ih
def pW (r v:D):Int:=if 0 < r.l.length then (if 0 < v.l.length then 3 else 4) else (if 0 < v.l.length then 5 else 6)
theorem aAm (d:D) (h:Th d) (gi:Nat) (hgi:gi < d.l.length) (o c dn g:Int) (r v:D) (he':d.l[gi]=dL [.i o,.i c,.i dn,.i g,r,v]): ∀(j i:Nat),i≤gi→i+j=gi→
 L 9001 [(gi:Int),enc d,(d.l.length:Int),(i:Int)]=some [pW r v,(gi:Int),enc d,o,c,dn,g,enc r,enc v]
 | 0,i,hg,hi=>by
   obtain rfl:i=gi:=by omega
   have hl:=h.few;have c1:(i:Int) < (d.l.length:Int):=by omega
   have c2: ¬((i:Int) < 0):=by omega
   have w:=bC (n:=i) (by omega);obtain⟨o',c',I4,g',r',v',he,_,_,_,_,hr,hv⟩:=h.wd.thing _ (List.getElem_mem hgi);rw [he'] at he;have he:=OA he;simp only [List.cons.injEq,D.i.injEq,and_true] at he;obtain⟨rfl,rfl,rfl,rfl,rfl,rfl⟩:=he;have b4:=fun a b=>SY d h i o c dn g a b (d.l.length - (i+1)) (i+1) (by omega) (by omega);have b5:=fun a b=>SX d h i o c dn g a b (d.l.length - (i+1)) (i+1) (by omega) (by omega);have b6:=fun a b=>SV d h i o c dn g a b (d.l.length - (i+1)) (i+1) (by omega) (by omega);have b7:=fun a b=>SS d h i o c dn g a b (d.l.length - (i+1)) (i+1) (by omega) (by omega);rw [aQ,XG];rcases bK hr with rfl | rfl | ⟨r1,r2⟩
   ·rcases bK hv with rfl | rfl | ⟨v1,v2⟩
    ·simp only [vV,zz,c1,c2,w,aZ hgi,he',gU,aT,List.getElem?_cons_zero,List.getElem?_cons_succ,len1,uY,fin,b7];rw [pW,if_neg (by simp [D.l]),if_neg (by simp [D.l])]
    ·simp only [vV,zz,c1,c2,w,aZ hgi,he',gU,aT,List.getElem?_cons_zero,List.getElem?_cons_succ,len1,uY,len2,oG,fin,b7];rw [pW,if_neg (by simp [D.l]),if_neg (by simp [D.l])]
    ·simp only [vV,zz,c1,c2,w,aZ hgi,he',gU,aT,List.getElem?_cons_zero,List.getElem?_cons_succ,len1,uY,v1,v2,fin,b6];rw [pW,if_neg (by simp [D.l]),if_pos (by omega)]
   ·rcases bK hv with rfl | rfl | ⟨v1,v2⟩
    ·simp only [vV,zz,c1,c2,w,aZ hgi,he',gU,aT,List.getElem?_cons_zero,List.getElem?_cons_succ,len2,uY,oG,len1,fin,b7];rw [pW,if_neg (by simp [D.l]),if_neg (by simp [D.l])]
    ·simp only [vV,zz,c1,c2,w,aZ hgi,he',gU,aT,List.getElem?_cons_zero,List.getElem?_cons_succ,len2,uY,oG,fin,b7];rw [pW,if_neg (by simp [D.l]),if_neg (by simp [D.l])]
    ·simp only [vV,zz,c1,c2,w,aZ hgi,he',gU,aT,List.getElem?_cons_zero,List.getElem?_cons_succ,len2,uY,oG,v1,v2,fin,b6];rw [pW,if_neg (by simp [D.l]),if_pos (by omega)]
   ·rcases bK hv with rfl | rfl | ⟨v1,v2⟩
    ·simp only [vV,zz,c1,c2,w,aZ hgi,he',gU,aT,List.getElem?_cons_zero,List.getElem?_cons_succ,r1,r2,len1,uY,fin,b5];rw [pW,if_pos (by omega),if_neg (by simp [D.l])]
    ·simp only [vV,zz,c1,c2,w,aZ hgi,he',gU,aT,List.getElem?_cons_zero,List.getElem?_cons_succ,r1,r2,len2,uY,oG,fin,b5];rw [pW,if_pos (by omega),if_neg (by simp [D.l])]
    ·simp only [vV,zz,c1,c2,w,aZ hgi,he',gU,aT,List.getElem?_cons_zero,List.getElem?_cons_succ,r1,r2,v1,v2,fin,b4];rw [pW,if_pos (by omega),if_pos (by omega)]
 | j+1,i,hg,hi=>by
   have hl:=h.few;have hil:i < d.l.length:=by omega
   have c1:(i:Int) < (d.l.length:Int):=by omega
   have c2: ¬((i:Int) < 0):=by omega
   have c0: ¬((i:Int)=(gi:Int)):=by omega
   have w:=bC (n:=i) (by omega);have ih:=aAm d h gi hgi o c dn g r v he' j (i+1) (by omega) (by omega);clear he';obtain⟨o2,c2',dn2,g2,r2',v2',he,_,_,_,_,hr,hv⟩:=h.wd.thing _ (List.getElem_mem hil);have hs:=set_self h.sh hil;rw [he] at hs;rw [aQ,XG];rcases bK hr with rfl | rfl | ⟨r1,r2⟩ <;> rcases bK hv with rfl | rfl | ⟨v1,v2⟩
   all_goals
    simp only [vV,zz,c0,c1,c2,w,aZ hil,he,gU,aT,List.getElem?_cons_zero,List.getElem?_cons_succ,LZ,LY,hs,len1,len2,uY,oG]
    try simp only [r1,r2,zz]
    try simp only [v1,v2,zz]
    try simp only [fin]
    exact ih
theorem aAl (d:D) (h:Th d) (gi:Nat) (hgi:gi < d.l.length) (o c dn g:Int) (r v:D) (he':d.l[gi]=dL [.i o,.i c,.i dn,.i g,r,v]) :
 L 9000 [(gi:Int),enc d]=some [pW r v,(gi:Int),enc d,o,c,dn,g,enc r,enc v]:=by
 have hl:=h.few;have c1:(0:Int) < (d.l.length:Int):=by omega
 have c2:(d.l.length:Int) < 1759218604441:=by omega
 rw [aQ,aoK];simp only [PN,zz,c1,c2,fin];exact aAm d h gi hgi o c dn g r v he' gi 0 (by omega) (by omega)
theorem OD (d:D) (h:Th d) (x:Int) (hx:x < 0∨(d.l.length:Int)≤x): ∀(j i:Nat),i+j=d.l.length→L 9001 [x,enc d,(d.l.length:Int),(i:Int)]=some [0,x,enc d]
 | 0,i,hi=>by
   have c1: ¬(i:Int) < (d.l.length:Int):=by omega
   rw [aQ,XG];by_cases c0:(i:Int)=x
   ·simp only [vV,zz,c0,fin];have c1: ¬x < (d.l.length:Int):=by omega
    simp only [if_neg c1]
   ·simp only [vV,zz,c0,c1,fin]
 | j+1,i,hi=>by
   have hl:=h.few;have hil:i < d.l.length:=by omega
   have c1:(i:Int) < (d.l.length:Int):=by omega
   have c2: ¬((i:Int) < 0):=by omega
   have c0: ¬((i:Int)=x):=by omega
   have w:=bC (n:=i) (by omega);have ih:=OD d h x hx j (i+1) (by omega);obtain⟨o,c,dn,g,r,v,he,_,_,_,_,hr,hv⟩:=h.wd.thing _ (List.getElem_mem hil);have hs:=set_self h.sh hil;rw [he] at hs;rw [aQ,XG];rcases bK hr with rfl | rfl | ⟨r1,r2⟩ <;> rcases bK hv with rfl | rfl | ⟨v1,v2⟩
   all_goals
    simp only [vV,zz,c0,c1,c2,w,aZ hil,he,gU,aT,List.getElem?_cons_zero,List.getElem?_cons_succ,LZ,LY,hs,len1,len2,uY,oG]
    try simp only [r1,r2,zz]
    try simp only [v1,v2,zz]
    try simp only [fin]
    exact ih
theorem copyN (d:D) (h:Wd (.sl 7) d) (x:Int) (hx:x < 0∨(d.l.length:Int)≤x):Tot 9000 [x,enc d] (fun ys=>ys= [0,x,enc d]∨(ys= [1,x]∧d= .i 1)∨(ys= [2,x]∧d= .i 2)):=by
 refine Tot.of ?_;rw [aoK];rcases h.sh with rfl | rfl | ⟨h1,h2⟩
 ·simp only [PN,zz,len1,uY];refine .jump (Tot.of ?_);rw [ayV];simp only [aiR,zz];exact .ite (fun _=> .out (.inr (.inl rfl))) fun _=> .out (.inr (.inl rfl))
 ·simp only [PN,zz,len2,uY,oG];refine .jump (Tot.of ?_);rw [ayU];simp only [aiQ,zz];exact .ite (fun _=> .out (.inr (.inr rfl))) fun _=> .out (.inr (.inr rfl))
 ·have hp:=List.length_pos_iff.2 h2;have ht:=Ee h hp;have hl:=ht.few;have c1:(0:Int) < (d.l.length:Int):=by omega
  have c2:(d.l.length:Int) < 1759218604441:=by omega
  simp only [PN,zz,c1,c2];exact .jump ⟨_,OD d ht x hx d.l.length 0 (by omega),.inl rfl⟩
end Go.As.Try
end
section
namespace Go.As.Try
open Go hiding Stat Spec shape
open Go.As
set_option maxRecDepth 100000
def asW (d x:D) (m:Nat):List Int:=[(d.hd 0).n,enc (d.hd 1),(d.hd 2).n,enc (d.hd 3),(d.hd 4).n,(x.hd 0).n,(x.hd 1).n,(if (x.hd 2).n=0 then 0 else 1),(x.hd 3).n,enc (x.hd 4),enc (x.hd 5),(m:Int)]
def Snd (d x:D) (m:Nat):Prop:=L 500 (asW d x m)=some [1]
theorem asV (d x:D) (m:Nat) (h:(x.hd 4).l.length≤140737488351232): ∃c,L 500 (asW d x m)=some [c]∧(c=0∨c=1):=by obtain⟨ys,h1,c,rfl,hc⟩:=YU (d.hd 0).n (enc (d.hd 1)) (d.hd 2).n (enc (d.hd 3)) (d.hd 4).n (x.hd 0).n (x.hd 1).n (if (x.hd 2).n=0 then 0 else 1) (x.hd 3).n (m:Int) (x.hd 4) (x.hd 5) h;exact⟨c,h1,hc⟩
theorem aG:((1:Int)=0)=False:=by simp
def Iq (s:D):Prop:= ∀x∈s.l,(x.hd 4).l.length≤140737488351232
section
variable {d0 d1 s:D} (hr:Iq s) (hle:s.l.length=d0.l.length) (hlen:d0.l.length≤140737488351232)
include hr hle hlen
theorem Me: ∀(j i:Nat),i+j=s.l.length→∃b:Int,L 351 [enc s,(s.l.length:Int),(i:Int),enc d0,enc d1]=some [b]∧(b=0∨b=1)∧
 (b=1↔∀(k:Nat) (hk:k < s.l.length),i≤k→Snd (d0.l[k]'(hle▸hk)) s.l[k] d1.l.length)
 | 0,i,hi=>by
   have c1: ¬(i:Int) < (s.l.length:Int):=by omega
   refine⟨1,?_,.inr rfl,fun _ k hk h=>absurd hk (by omega),fun _=>rfl⟩;rw [aQ,avT];simp only [Yw,zz,c1,fin]
 | j+1,i,hi=>by
   have hil:i < s.l.length:=by omega
   have hid:i < d0.l.length:=by omega
   have c1:(i:Int) < (s.l.length:Int):=by omega
   have c2: ¬((i:Int) < 0):=by omega
   have c3:(i:Int) < (d0.l.length:Int):=by omega
   have w:=bC (n:=i) (by omega);obtain⟨c,hS,hc⟩:=asV d0.l[i] s.l[i] d1.l.length (hr _ (List.getElem_mem hil));obtain⟨b,hb1,hb2,ih⟩:=Me j (i+1) (by omega);have hS':=hS;unfold asW at hS;by_cases hc0:c=0
   ·subst hc0;refine⟨0,?_,.inl rfl,fun h=>absurd h (by omega),fun h=>?_⟩
    ·rw [aQ,avT];by_cases hn:((s.l[i]).hd 2).n=0
     ·rw [if_pos hn] at hS;simp only [Yw,zz,c1,c2,c3,w,aZ hil,aZ hid,hn,hS,fin]
     ·rw [if_neg hn] at hS;simp only [Yw,zz,c1,c2,c3,w,aZ hil,aZ hid,hn,hS,fin]
    ·have:=h i hil (Nat.le_refl i);unfold Snd at this;rw [hS'] at this;simp at this
   ·have hc1:c=1:=by omega
    subst hc1;refine⟨b,?_,hb2,fun h k hk hik=>?_,fun h=>ih.2 fun k hk hik=>h k hk (by omega)⟩
    ·rw [aQ,avT];by_cases hn:((s.l[i]).hd 2).n=0
     ·rw [if_pos hn] at hS;simp only [Yw,zz,c1,c2,c3,w,aZ hil,aZ hid,hn,hS,fin,aG,hb1]
     ·rw [if_neg hn] at hS;simp only [Yw,zz,c1,c2,c3,w,aZ hil,aZ hid,hn,hS,fin,aG,hb1]
    ·by_cases hke:k=i
     ·subst hke;exact hS'
     ·exact ih.1 h k hk (by omega)
end
theorem nH {d0 d1 s:D} (h0:Wd (.sl 3) d0) (h1:Wd (.sl 4) d1) (hr:Iq s): ∃b:Int,L 350 [enc d0,enc d1,enc s]=some [b]∧(b=0∨b=1)∧
 (b=1↔L 450 [enc d0,enc d1]=some [0]∧∃hle:s.l.length=d0.l.length,∀(k:Nat) (hk:k < s.l.length),Snd (d0.l[k]'(hle▸hk)) s.l[k] d1.l.length):=by
 obtain⟨ys,hC,c,rfl,hc,hok⟩:=yT h0 h1;by_cases hc0:c=0
 ·subst hc0;by_cases hl:s.l.length=d0.l.length
  ·have hlen:=h0.len;obtain⟨b,hb1,hb2,hb3⟩:=Me (d1:=d1) hr hl hlen s.l.length 0 (by omega);refine⟨b,?_,hb2,fun h=> ⟨hC,hl,fun k hk=>hb3.1 h k hk (by omega)⟩,fun⟨_,_,h⟩=>hb3.2 fun k hk _=>h k hk⟩;have hl':(s.l.length:Int)=(d0.l.length:Int):=by omega
   rw [aQ,avU,ajK,dP,if_pos,dP,if_pos,dP,if_pos,pF]
   ·simp only [List.map,bP,iC,iU,aP,Nat.reduceLT,aN,aO,aC,fin];exact hb1
   ·simp only [iO,oM,bP,gQ,iK,iC,List.map,iU,aP,Nat.reduceLT,aN,aO,aC];exact hl'
   ·simp only [iO,oM,bP,gQ,iK,iC,List.map,iU,aP,Nat.reduceLT,aN,aO,aC];rw [hC];simp only [aN,aO,Option.isSome_some,Option.getD_some,if_true]
   ·simp only [iO,oM,bP,gQ,iK,iC,List.map,iU,aP,Nat.reduceLT,aN,aO,aC];rw [hC];simp only [aN,aO,Option.isSome_some,Option.getD_some,if_true]
  ·refine⟨0,?_,.inl rfl,fun h=>absurd h (by omega),fun⟨_,h,_⟩=>absurd h hl⟩;have hl': ¬(s.l.length:Int)=(d0.l.length:Int):=by omega
   rw [aQ,avU,ajK,dP,if_pos,dP,if_pos,dP,if_neg]
   ·simp only [jU,List.map,bP,fin]
   ·simp only [iO,oM,bP,gQ,iK,iC,List.map,iU,aP,Nat.reduceLT,aN,aO,aC];exact hl'
   ·simp only [iO,oM,bP,gQ,iK,iC,List.map,iU,aP,Nat.reduceLT,aN,aO,aC];rw [hC];simp only [aN,aO,Option.isSome_some,Option.getD_some,if_true]
   ·simp only [iO,oM,bP,gQ,iK,iC,List.map,iU,aP,Nat.reduceLT,aN,aO,aC];rw [hC];simp only [aN,aO,Option.isSome_some,Option.getD_some,if_true]
 ·refine⟨0,?_,.inl rfl,fun h=>absurd h (by omega),fun⟨h,_⟩=>?_⟩
  ·rw [aQ,avU,ajK,dP,if_pos,dP,if_neg]
   ·simp only [jU,List.map,bP,fin]
   ·simp only [iO,oM,bP,gQ,iK,iC,List.map,iU,aP,Nat.reduceLT,aN,aO,aC];rw [hC];simp only [aN,aO,Option.isSome_some,Option.getD_some,if_true];exact hc0
   ·simp only [iO,oM,bP,gQ,iK,iC,List.map,iU,aP,Nat.reduceLT,aN,aO,aC];rw [hC];simp only [aN,aO,Option.isSome_some,Option.getD_some,if_true]
  ·rw [hC] at h;simp at h;exact absurd h hc0
end Go.As.Try
end
section
namespace Go.As.Try
open Go hiding Stat Spec shape
open Go.As
set_option maxRecDepth 100000
def OkT (d0:D) (nl nc:Nat) (a:Int) (ll:Nat) (w o g t:Int):Prop:=
 0≤a∧a≤(nc:Int)∧(ll:Int)=(nl:Int)∧0≤t∧t≤4611686018427387904∧
  (w=0∧o=0∧g=0∨w=24∧0≤o∧o < (d0.l.length:Int)∧((d0.at o).hd 0).n=4∨w=25∧0≤o∧o < (d0.l.length:Int)∧((d0.at o).hd 0).n=5)
def isB (p:Prop) (ys:List Int):Prop:= ∃b:Int,ys= [b]∧(b=0∧¬p∨b=1∧p)
theorem Gm {p:Prop} (h: ¬p):isB p [0]:=⟨0,rfl,.inl ⟨rfl,h⟩⟩
theorem acU {p:Prop} (h:p):isB p [1]:=⟨1,rfl,.inr ⟨rfl,h⟩⟩
theorem asB (d0 d3 d4 d6:D) (x1 x2 x5 x7 x8 x9 x10:Int):Tot 1600 [enc d0,x1,x2,enc d3,enc d4,x5,enc d6,x7,x8,x9,x10] (isB (OkT d0 d3.l.length d4.l.length x5 d6.l.length x7 x8 x9 x10)):=by
 unfold OkT;refine Tot.of ?_;rw [azX];simp only [ajR,zz]
 repeat' first
  | exact .out (Gm (by omega))
  | exact .out (acU (by omega))
  | refine .ite (fun _=>?_) (fun _=>?_)
def OkK (d0 x k:D):Prop:=OkT d0 (x.hd 1).l.length (x.hd 2).l.length (k.hd 0).n (k.hd 1).l.length (k.hd 2).n (k.hd 3).n (k.hd 4).n (k.hd 5).n
section
variable {d0 d1 k:D} (hle:k.l.length=d1.l.length) (hlen:d1.l.length≤140737488351232)
include hle hlen
theorem Js: ∀(j i:Nat),i+j=k.l.length→Tot 1501 [enc k,(k.l.length:Int),(i:Int),enc d0,enc d1] (isB (∀(n:Nat) (hn:n < k.l.length),i≤n→OkK d0 (d1.l[n]'(hle▸hn)) k.l[n]))
 | 0,i,hi=>by
   have c1: ¬(i:Int) < (k.l.length:Int):=by omega
   refine Tot.of ?_;rw [apB];simp only [abO,zz,c1];exact .out (acU fun n hn h=>by omega)
 | j+1,i,hi=>by
   have hil:i < k.l.length:=by omega
   have hid:i < d1.l.length:=by omega
   have c1:(i:Int) < (k.l.length:Int):=by omega
   have c2: ¬((i:Int) < 0):=by omega
   have c3:(i:Int) < (d1.l.length:Int):=by omega
   have w:=bC (n:=i) (by omega);obtain⟨ys,hT,b,rfl,hb⟩:=asB d0 ((d1.l[i]).hd 1) ((d1.l[i]).hd 2) ((k.l[i]).hd 1) (enc d1) (enc ((d1.l[i]).hd 0)) ((k.l[i]).hd 0).n ((k.l[i]).hd 2).n ((k.l[i]).hd 3).n ((k.l[i]).hd 4).n ((k.l[i]).hd 5).n;obtain⟨ys,ih,b',rfl,hb'⟩:=Js j (i+1) (by omega);refine Tot.of ?_;rw [apB];simp only [abO,zz,c1,c2,c3,aZ hil,aZ hid,w,hT];refine .ite (fun h0=> .out (Gm fun h=>?_)) (fun h0=> .jump ⟨_,ih,b',rfl,?_⟩)
   ·rcases hb with ⟨_,hb⟩ | ⟨hb,_⟩
    ·exact hb (h i hil (Nat.le_refl _))
    ·omega
   ·rcases hb with ⟨hb,_⟩ | ⟨_,hb⟩
    ·exact absurd hb h0
    ·rcases hb' with ⟨q,hb'⟩ | ⟨q,hb'⟩
     ·exact .inl ⟨q,fun h=>hb' fun n hn hni=>h n hn (by omega)⟩
     ·refine .inr ⟨q,fun n hn hni=>?_⟩;by_cases he:n=i
      ·subst he; exact hb
      ·exact hb' n hn (by omega)
end
def MR (d0 d1 s k:D):Prop:=L 350 [enc d0,enc d1,enc s]=some [1]∧∃hle:k.l.length=d1.l.length,∀(n:Nat) (hn:n < k.l.length),OkK d0 (d1.l[n]'(hle▸hn)) k.l[n]
theorem Rl {d0 d1 s k:D} (h0:Wd (.sl 3) d0) (h1:Wd (.sl 4) d1) (hr:Iq s) (hlen:d1.l.length≤140737488351232):Tot 1500 [enc d0,enc d1,enc s,enc k] (isB (MR d0 d1 s k)):=by
 obtain⟨b,hb,hb1,_⟩:=nH h0 h1 hr;refine Tot.of ?_;rw [azZ];simp only [ajT,zz,hb];refine .ite (fun h=> .out (Gm fun q=>?_)) (fun h=> .ite (fun hl=>?_) (fun hl=> .out (Gm fun q=>?_)))
 ·have:=q.1;rw [hb] at this;simp at this;omega
 ·have hle:k.l.length=d1.l.length:=by omega
  obtain⟨ys,hL,b',rfl,hb'⟩:=Js (d0:=d0) hle hlen k.l.length 0 (by omega);refine .jump ⟨_,hL,b',rfl,?_⟩;have hone:b=1:=by omega
  subst hone;rcases hb' with ⟨q,hb'⟩ | ⟨q,hb'⟩
  ·exact .inl ⟨q,fun h=>hb' fun n hn _=>h.2.2 n hn⟩
  ·exact .inr ⟨q,hb,hle,fun n hn=>hb' n hn (Nat.zero_le _)⟩
 ·have:=q.2.1;omega
theorem Ws {d0 d1 s k:D} (h0:Wd (.sl 3) d0) (h1:Wd (.sl 4) d1) (hr:Iq s) (hlen:d1.l.length≤140737488351232) (t:Int):Tot 1550 [enc d0,enc d1,enc s,enc k,t] (isB (0≤t∧t < (d1.l.length:Int)∧MR d0 d1 s k)):=by
 obtain⟨ys,hM,b,rfl,hb⟩:=Rl h0 h1 hr hlen (k:=k);refine Tot.of ?_;rw [azY];simp only [ajS,zz,hM];refine .ite (fun h=> .out (Gm fun q=>by omega)) (fun h=> .ite (fun h2=> .ite (fun h3=> .out (Gm fun q=>?_)) (fun h3=> .out (acU ?_))) (fun h2=> .out (Gm fun q=>by omega)))
 ·rcases hb with ⟨_,hb⟩ | ⟨hb,_⟩
  ·exact hb q.2.2
  ·omega
 ·rcases hb with ⟨hb,_⟩ | ⟨_,hb⟩
  ·exact absurd hb h3
  ·exact⟨by omega,h2,hb⟩
end Go.As.Try
end
section
namespace Go.As.Try
open Go hiding Stat Spec shape
open Go.As
set_option maxRecDepth 100000
def firstAt (t:Int):List D→Nat→Int
 | [],_=> -1
 | x :: l,i=>if x.n=t then (i:Int) else firstAt t l (i+1)
def place (r:D) (t:Int):Int:=firstAt t r.l 0
def wo (t:Int) (l:List D):List D:=l.filter fun x=>decide (x.n≠t)
theorem Et (t:Int): ∀(l:List D) (i:Nat),(firstAt t l i= -1∧∀x∈l,x.n≠t)∨∃(k:Nat) (h:k < l.length),firstAt t l i=((i+k:Nat):Int)∧(l[k]).n=t∧∀x∈l.take k,x.n≠t
 | [],_=> .inl ⟨rfl,fun x h=>absurd h (by simp)⟩
 | x :: l,i=>by
   unfold firstAt;by_cases hx:x.n=t
   ·rw [if_pos hx];exact .inr ⟨0,by simp,by simp,hx,by simp⟩
   ·rw [if_neg hx];rcases Et t l (i+1) with ⟨h1,h2⟩ | ⟨k,hk,h1,h2,h3⟩
    ·exact .inl ⟨h1,fun y hy=>by rcases List.mem_cons.1 hy with rfl | hy; exact hx; exact h2 y hy⟩
    ·refine .inr ⟨k+1,by simp; omega,by rw [h1]; congr 1; omega,by simpa using h2,fun y hy=>?_⟩;rw [List.take_succ_cons] at hy;rcases List.mem_cons.1 hy with rfl | hy
     ·exact hx
     ·exact h3 y hy
theorem tC (r:D) (t:Int):(place r t= -1∧∀x∈r.l,x.n≠t)∨∃(k:Nat) (h:k < r.l.length),place r t=(k:Int)∧(r.l[k]).n=t∧∀x∈r.l.take k,x.n≠t:=by have:=Et t r.l 0;simp only [Nat.zero_add] at this;exact this
theorem iR (r:D) (t:Int): -1≤place r t∧place r t < (r.l.length:Int):=by rcases tC r t with ⟨h,_⟩ | ⟨k,hk,h,_⟩ <;> rw [h] <;> omega
theorem J8 {t:Int} {l:List D} (h: ∀x∈l,x.n≠t):wo t l=l:=List.filter_eq_self.2 fun x hx=>by simpa using h x hx
theorem Ag {r:D} {t:Int} {i:Nat} (h:i < r.l.length):firstAt t (r.l.drop i) i=if (r.at (i:Int)).n=t then (i:Int) else firstAt t (r.l.drop (i+1)) (i+1):=by rw [List.drop_eq_getElem_cons h,aZ h];rfl
theorem amP (r:D) (t:Int) (hl:r.l.length≤140737488351232): ∀(j i:Nat),i+j=r.l.length→L 851 [enc r,t,(r.l.length:Int),(i:Int)]=some [firstAt t (r.l.drop i) i]
 | 0,i,hi=>by
   have c1: ¬(i:Int) < (r.l.length:Int):=by omega
   rw [List.drop_of_length_le (by omega),aQ,aCh];simp only [aiS,zz,c1,fin,firstAt]
 | j+1,i,hi=>by
   have c1:(i:Int) < (r.l.length:Int):=by omega
   have c2: ¬((i:Int) < 0):=by omega
   have w:=bC (n:=i) (by omega);have ih:=amP r t hl j (i+1) (by omega);rw [Ag (by omega),aQ,aCh];by_cases he:(r.at (i:Int)).n=t
   ·simp only [aiS,zz,c1,c2,he,fin]
   ·have he': ¬t=(r.at (i:Int)).n:=fun h=>he h.symm;simp only [aiS,zz,c1,c2,if_neg he,if_neg he',w,fin,ih]
theorem dK (r:D) (t:Int) (hl:r.l.length≤140737488351232):L 850 [enc r,t]=some [place r t]:=by have h:=amP r t hl r.l.length 0 (by omega);rw [aQ,aEu];simp only [aAL,zz,fin];exact h
theorem has_is (r:D) (t:Int) (hl:r.l.length≤140737488351232):L 900 [enc r,t]=some [if place r t < 0 then 0 else 1]:=by rw [aQ,aEt];simp only [aAK,zz,dK r t hl];split <;> rfl
theorem Gj (r:D) (t:Int) (hl:r.l.length≤140737488351232) (y2 y3 y4 y5 y6 y7 y8 y9 qW qV qU:Int): ∀(j i:Nat),i+j=r.l.length→
 L 12051 [enc r,t,y2,y3,y4,y5,y6,y7,y8,y9,qW,qV,qU,(r.l.length:Int),(i:Int)]=some [0,enc r,t,y2,y3,y4,y5,y6,y7,y8,y9,qW,qV,qU,firstAt t (r.l.drop i) i]
 | 0,i,hi=>by
   have c1: ¬(i:Int) < (r.l.length:Int):=by omega
   rw [List.drop_of_length_le (by omega),aQ,ZX];simp only [LH,zz,c1,fin,firstAt]
 | j+1,i,hi=>by
   have c1:(i:Int) < (r.l.length:Int):=by omega
   have c2: ¬((i:Int) < 0):=by omega
   have w:=bC (n:=i) (by omega);have ih:=Gj r t hl y2 y3 y4 y5 y6 y7 y8 y9 qW qV qU j (i+1) (by omega);rw [Ag (by omega),aQ,ZX];by_cases he:(r.at (i:Int)).n=t
   ·simp only [LH,zz,c1,c2,he,fin]
   ·simp only [LH,zz,c1,c2,if_neg he,w,fin,ih]
theorem auA (r:D) (t:Int) (hl:r.l.length≤140737488351232) (y2 y3 y4 y5 y6 y7 y8 y9 qW qV qU:Int):L 12050 [enc r,t,y2,y3,y4,y5,y6,y7,y8,y9,qW,qV,qU]=some [0,enc r,t,y2,y3,y4,y5,y6,y7,y8,y9,qW,qV,qU,place r t]:=by have h:=Gj r t hl y2 y3 y4 y5 y6 y7 y8 y9 qW qV qU r.l.length 0 (by omega);rw [aQ,aqD];simp only [YO,zz,fin];exact h
theorem Gi (r:D) (t:Int) (hl:r.l.length≤140737488351232) (y2 y3 y4 y5 y6 y7 y8 y9 qW qV qU:Int): ∀(j i:Nat),i+j=r.l.length→
 L 12151 [enc r,t,y2,y3,y4,y5,y6,y7,y8,y9,qW,qV,qU,(r.l.length:Int),(i:Int)]=some [0,enc r,t,y2,y3,y4,y5,y6,y7,y8,y9,qW,qV,qU,firstAt t (r.l.drop i) i]
 | 0,i,hi=>by
   have c1: ¬(i:Int) < (r.l.length:Int):=by omega
   rw [List.drop_of_length_le (by omega),aQ,ZV];simp only [LD,zz,c1,fin,firstAt]
 | j+1,i,hi=>by
   have c1:(i:Int) < (r.l.length:Int):=by omega
   have c2: ¬((i:Int) < 0):=by omega
   have w:=bC (n:=i) (by omega);have ih:=Gi r t hl y2 y3 y4 y5 y6 y7 y8 y9 qW qV qU j (i+1) (by omega);rw [Ag (by omega),aQ,ZV];by_cases he:(r.at (i:Int)).n=t
   ·simp only [LD,zz,c1,c2,he,fin]
   ·simp only [LD,zz,c1,c2,if_neg he,w,fin,ih]
theorem atZ (r:D) (t:Int) (hl:r.l.length≤140737488351232) (y2 y3 y4 y5 y6 y7 y8 y9 qW qV qU:Int):L 12150 [enc r,t,y2,y3,y4,y5,y6,y7,y8,y9,qW,qV,qU]=some [0,enc r,t,y2,y3,y4,y5,y6,y7,y8,y9,qW,qV,qU,place r t]:=by have h:=Gi r t hl y2 y3 y4 y5 y6 y7 y8 y9 qW qV qU r.l.length 0 (by omega);rw [aQ,aqC];simp only [YN,zz,fin];exact h
theorem CX {t:Int} {l:List D} {j:Nat} (h:j < l.length):wo t (l.take (j+1))=if (l[j]).n=t then wo t (l.take j) else wo t (l.take j)++ [l[j]]:=by
 unfold wo;rw [List.take_succ_eq_append_getElem h,List.filter_append];by_cases he:(l[j]).n=t
 ·simp [he]
 ·simp [he]
theorem ahZ (t:Int) (l:List D):(wo t l).length≤l.length:=List.length_filter_le _ _
theorem Aq (r0:D) (t:Int) (l0:List D) (hl:l0.length≤140737488351232) (hn: ∀x∈l0,x= .i x.n) (y2 y3 y4 y5 y6 y7 y8 y9 qW qV qU:Int): ∀(m i j:Nat) (r:D),r.l.length=l0.length→i < j→j+m=l0.length→r.l.drop j=l0.drop j→r.l.take i=wo t (l0.take j)→
 ∃(n:Nat) (r':D),n < l0.length∧r'.l.length=l0.length∧r'.l.take n=wo t l0∧L 12001 [enc r0,t,y2,y3,y4,y5,y6,y7,y8,y9,qW,qV,qU,enc r,(i:Int),(j:Int)]=some [1,enc r0,t,y2,y3,y4,y5,y6,y7,y8,y9,qW,qV,qU,(n:Int),enc r',(l0.length:Int)]
 | 0,i,j,r,hr,h1,h2,h3,h4=>by
   have c1: ¬(j:Int) < (l0.length:Int):=by omega
   have c2: ¬((i:Int) < 0):=by omega
   have c3: ¬((l0.length:Int) < (i:Int)):=by omega
   have c4: ¬((l0.length:Int) - (i:Int) < 0):=by omega
   have c5:(i:Int)+((l0.length:Int) - (i:Int))=(l0.length:Int):=by omega
   refine⟨i,dL (r.l.take i++List.replicate (r.l.length - i) (.i 0)),by omega,by rw [aT]; simp only [List.length_append,List.length_take,List.length_replicate]; omega,?_,?_⟩
   ·rw [aT,List.take_append_of_le_length (by rw [List.length_take]; omega),List.take_take,Nat.min_self,h4,List.take_of_length_le (by omega)]
   ·rw [aQ,Vj];simp only [LJ,zz,c1,c2,c3,c4,c5,Int.toNat_natCast,fin,hr]
 | m+1,i,j,r,hr,h1,h2,h3,h4=>by
   have c1:(j:Int) < (l0.length:Int):=by omega
   have c2: ¬((j:Int) < 0):=by omega
   have w:=bC (n:=j) (by omega);have hj:j < r.l.length:=by omega
   have hj0:j < l0.length:=by omega
   have hx:r.at (j:Int)=l0[j]:=by rw [aZ hj];rw [List.drop_eq_getElem_cons hj,List.drop_eq_getElem_cons hj0] at h3;exact (List.cons.inj h3).1
   have h3':r.l.drop (j+1)=l0.drop (j+1):=by rw [List.drop_eq_getElem_cons hj,List.drop_eq_getElem_cons hj0] at h3;exact (List.cons.inj h3).2
   by_cases he:(r.at (j:Int)).n=t
   ·obtain⟨n,r',q1,q2,q3,ih⟩:=Aq r0 t l0 hl hn y2 y3 y4 y5 y6 y7 y8 y9 qW qV qU m i (j+1) r hr (by omega) (by omega) h3' (by rw [CX hj0,← hx,if_pos he,h4]);refine⟨n,r',q1,q2,q3,?_⟩;rw [aQ,Vj];simp only [LJ,zz,c1,c2,he,w,hr,fin,ih]
   ·have c3: ¬((i:Int) < 0):=by omega
    have c4:(i:Int) < (l0.length:Int):=by omega
    have w2:=bC (n:=i) (by omega);have hs:dY r.l (i:Int) (.i (r.at (j:Int)).n)=r.l.set i l0[j]:=by rw [yB,hx,← hn _ (List.getElem_mem hj0)]
    obtain⟨n,r',q1,q2,q3,ih⟩:=Aq r0 t l0 hl hn y2 y3 y4 y5 y6 y7 y8 y9 qW qV qU m (i+1) (j+1) (dL (dY r.l (i:Int) (.i (r.at (j:Int)).n))) (by rw [aT,fU,hr]) (by omega) (by omega)
     (by rw [aT,hs,List.drop_set_of_lt (by omega),h3'])
     (by rw [aT,hs,List.take_succ_eq_append_getElem (by rw [List.length_set]; omega),List.take_set_of_le (Nat.le_refl _),List.getElem_set_self,h4,CX hj0,← hx,if_neg he])
    refine⟨n,r',q1,q2,q3,?_⟩;rw [aQ,Vj];simp only [LJ,zz,c1,c2,c3,c4,if_neg he,w,w2,hr,fin,ih]
theorem awI (r:D) (t:Int) (hl:r.l.length≤140737488351232) (hn: ∀x∈r.l,x= .i x.n):(wo t r.l=r.l∧∀y2 y3 y4 y5 y6 y7 y8 y9 qW qV qU:Int,L 12000 [enc r,t,y2,y3,y4,y5,y6,y7,y8,y9,qW,qV,qU]=some [0,enc r,t,y2,y3,y4,y5,y6,y7,y8,y9,qW,qV,qU])∨
 ∀y2 y3 y4 y5 y6 y7 y8 y9 qW qV qU:Int,∃(n:Nat) (r':D),n < r.l.length∧r'.l.length=r.l.length∧r'.l.take n=wo t r.l∧L 12000 [enc r,t,y2,y3,y4,y5,y6,y7,y8,y9,qW,qV,qU]=some [1,enc r,t,y2,y3,y4,y5,y6,y7,y8,y9,qW,qV,qU,(n:Int),enc r',(r.l.length:Int)]:=by
 have h:=auA r t hl;rcases tC r t with ⟨hp,hno⟩ | ⟨i,hi,hp,hat,hno⟩
 ·refine .inl ⟨J8 hno,fun y2 y3 y4 y5 y6 y7 y8 y9 qW qV qU=>?_⟩;have h':=h y2 y3 y4 y5 y6 y7 y8 y9 qW qV qU;clear h;rw [hp] at h';rw [aQ,ZY,TY,dP,if_pos,dP,if_pos,dP,if_pos]
  ·simp only [jU,List.map,bP,aP,aN,aO,Nat.reduceLT,fin]
  ·simp only [Qm3,iO,bP,gQ,iK,List.map,aP,Nat.reduceLT,aN,aO];rw [h'];simp only [aN,aO,Option.isSome_some,Option.getD_some,if_true]
  ·simp only [iO,bP,gQ,iK,List.map,aP,Nat.reduceLT,aN,aO];rw [h'];simp only [aN,aO,Option.isSome_some,Option.getD_some,if_true]
  ·simp only [iO,bP,gQ,iK,List.map,aP,Nat.reduceLT,aN,aO];rw [h'];simp only [aN,aO,Option.isSome_some,Option.getD_some,if_true]
 ·refine .inr fun y2 y3 y4 y5 y6 y7 y8 y9 qW qV qU=>?_;have h':=h y2 y3 y4 y5 y6 y7 y8 y9 qW qV qU;clear h;rw [hp] at h';have w:=bC (n:=i) (by omega);have h0:r.l.take i=wo t (r.l.take (i+1)):=by rw [CX hi,if_pos hat,J8 hno]
  obtain⟨n,r',q1,q2,q3,ih⟩:=Aq r t r.l hl hn y2 y3 y4 y5 y6 y7 y8 y9 qW qV qU (r.l.length - (i+1)) i (i+1) r rfl (by omega) (by omega) rfl h0;refine⟨n,r',q1,q2,q3,?_⟩;rw [aQ,ZY,TY,dP,if_pos,dP,if_pos,dP,if_neg]
  ·simp only [pF,List.map,Qm3,bP,gQ,Ci,den_add,aP,aN,aO,Nat.reduceLT];rw [h'];simp only [aN,aO,Option.getD_some,w,fin];rw [ih]
  ·simp only [Qm3,iO,bP,gQ,iK,List.map,aP,Nat.reduceLT,aN,aO];rw [h'];simp only [aN,aO,Option.isSome_some,Option.getD_some,if_true];omega
  ·simp only [iO,bP,gQ,iK,List.map,aP,Nat.reduceLT,aN,aO];rw [h'];simp only [aN,aO,Option.isSome_some,Option.getD_some,if_true]
  ·simp only [iO,bP,gQ,iK,List.map,aP,Nat.reduceLT,aN,aO];rw [h'];simp only [aN,aO,Option.isSome_some,Option.getD_some,if_true]
theorem Ap (r0:D) (t:Int) (l0:List D) (hl:l0.length≤140737488351232) (hn: ∀x∈l0,x= .i x.n) (y2 y3 y4 y5 y6 y7 y8 y9 qW qV qU:Int): ∀(m i j:Nat) (r:D),r.l.length=l0.length→i < j→j+m=l0.length→r.l.drop j=l0.drop j→r.l.take i=wo t (l0.take j)→
 ∃(n:Nat) (r':D),n < l0.length∧r'.l.length=l0.length∧r'.l.take n=wo t l0∧L 12101 [enc r0,t,y2,y3,y4,y5,y6,y7,y8,y9,qW,qV,qU,enc r,(i:Int),(j:Int)]=some [1,enc r0,t,y2,y3,y4,y5,y6,y7,y8,y9,qW,qV,qU,(n:Int),enc r',(l0.length:Int)]
 | 0,i,j,r,hr,h1,h2,h3,h4=>by
   have c1: ¬(j:Int) < (l0.length:Int):=by omega
   have c2: ¬((i:Int) < 0):=by omega
   have c3: ¬((l0.length:Int) < (i:Int)):=by omega
   have c4: ¬((l0.length:Int) - (i:Int) < 0):=by omega
   have c5:(i:Int)+((l0.length:Int) - (i:Int))=(l0.length:Int):=by omega
   refine⟨i,dL (r.l.take i++List.replicate (r.l.length - i) (.i 0)),by omega,by rw [aT]; simp only [List.length_append,List.length_take,List.length_replicate]; omega,?_,?_⟩
   ·rw [aT,List.take_append_of_le_length (by rw [List.length_take]; omega),List.take_take,Nat.min_self,h4,List.take_of_length_le (by omega)]
   ·rw [aQ,Vh];simp only [LG,zz,c1,c2,c3,c4,c5,Int.toNat_natCast,fin,hr]
 | m+1,i,j,r,hr,h1,h2,h3,h4=>by
   have c1:(j:Int) < (l0.length:Int):=by omega
   have c2: ¬((j:Int) < 0):=by omega
   have w:=bC (n:=j) (by omega);have hj:j < r.l.length:=by omega
   have hj0:j < l0.length:=by omega
   have hx:r.at (j:Int)=l0[j]:=by rw [aZ hj];rw [List.drop_eq_getElem_cons hj,List.drop_eq_getElem_cons hj0] at h3;exact (List.cons.inj h3).1
   have h3':r.l.drop (j+1)=l0.drop (j+1):=by rw [List.drop_eq_getElem_cons hj,List.drop_eq_getElem_cons hj0] at h3;exact (List.cons.inj h3).2
   by_cases he:(r.at (j:Int)).n=t
   ·obtain⟨n,r',q1,q2,q3,ih⟩:=Ap r0 t l0 hl hn y2 y3 y4 y5 y6 y7 y8 y9 qW qV qU m i (j+1) r hr (by omega) (by omega) h3' (by rw [CX hj0,← hx,if_pos he,h4]);refine⟨n,r',q1,q2,q3,?_⟩;rw [aQ,Vh];simp only [LG,zz,c1,c2,he,w,hr,fin,ih]
   ·have c3: ¬((i:Int) < 0):=by omega
    have c4:(i:Int) < (l0.length:Int):=by omega
    have w2:=bC (n:=i) (by omega);have hs:dY r.l (i:Int) (.i (r.at (j:Int)).n)=r.l.set i l0[j]:=by rw [yB,hx,← hn _ (List.getElem_mem hj0)]
    obtain⟨n,r',q1,q2,q3,ih⟩:=Ap r0 t l0 hl hn y2 y3 y4 y5 y6 y7 y8 y9 qW qV qU m (i+1) (j+1) (dL (dY r.l (i:Int) (.i (r.at (j:Int)).n))) (by rw [aT,fU,hr]) (by omega) (by omega)
     (by rw [aT,hs,List.drop_set_of_lt (by omega),h3'])
     (by rw [aT,hs,List.take_succ_eq_append_getElem (by rw [List.length_set]; omega),List.take_set_of_le (Nat.le_refl _),List.getElem_set_self,h4,CX hj0,← hx,if_neg he])
    refine⟨n,r',q1,q2,q3,?_⟩;rw [aQ,Vh];simp only [LG,zz,c1,c2,c3,c4,if_neg he,w,w2,hr,fin,ih]
theorem awH (r:D) (t:Int) (hl:r.l.length≤140737488351232) (hn: ∀x∈r.l,x= .i x.n):(wo t r.l=r.l∧∀y2 y3 y4 y5 y6 y7 y8 y9 qW qV qU:Int,L 12100 [enc r,t,y2,y3,y4,y5,y6,y7,y8,y9,qW,qV,qU]=some [0,enc r,t,y2,y3,y4,y5,y6,y7,y8,y9,qW,qV,qU])∨
 ∀y2 y3 y4 y5 y6 y7 y8 y9 qW qV qU:Int,∃(n:Nat) (r':D),n < r.l.length∧r'.l.length=r.l.length∧r'.l.take n=wo t r.l∧L 12100 [enc r,t,y2,y3,y4,y5,y6,y7,y8,y9,qW,qV,qU]=some [1,enc r,t,y2,y3,y4,y5,y6,y7,y8,y9,qW,qV,qU,(n:Int),enc r',(r.l.length:Int)]:=by
 have h:=atZ r t hl;rcases tC r t with ⟨hp,hno⟩ | ⟨i,hi,hp,hat,hno⟩
 ·refine .inl ⟨J8 hno,fun y2 y3 y4 y5 y6 y7 y8 y9 qW qV qU=>?_⟩;have h':=h y2 y3 y4 y5 y6 y7 y8 y9 qW qV qU;clear h;rw [hp] at h';rw [aQ,ZW,TW,dP,if_pos,dP,if_pos,dP,if_pos]
  ·simp only [jU,List.map,bP,aP,aN,aO,Nat.reduceLT,fin]
  ·simp only [Qnf,iO,bP,gQ,iK,List.map,aP,Nat.reduceLT,aN,aO];rw [h'];simp only [aN,aO,Option.isSome_some,Option.getD_some,if_true]
  ·simp only [iO,bP,gQ,iK,List.map,aP,Nat.reduceLT,aN,aO];rw [h'];simp only [aN,aO,Option.isSome_some,Option.getD_some,if_true]
  ·simp only [iO,bP,gQ,iK,List.map,aP,Nat.reduceLT,aN,aO];rw [h'];simp only [aN,aO,Option.isSome_some,Option.getD_some,if_true]
 ·refine .inr fun y2 y3 y4 y5 y6 y7 y8 y9 qW qV qU=>?_;have h':=h y2 y3 y4 y5 y6 y7 y8 y9 qW qV qU;clear h;rw [hp] at h';have w:=bC (n:=i) (by omega);have h0:r.l.take i=wo t (r.l.take (i+1)):=by rw [CX hi,if_pos hat,J8 hno]
  obtain⟨n,r',q1,q2,q3,ih⟩:=Ap r t r.l hl hn y2 y3 y4 y5 y6 y7 y8 y9 qW qV qU (r.l.length - (i+1)) i (i+1) r rfl (by omega) (by omega) rfl h0;refine⟨n,r',q1,q2,q3,?_⟩;rw [aQ,ZW,TW,dP,if_pos,dP,if_pos,dP,if_neg]
  ·simp only [pF,List.map,Qnf,bP,gQ,Ci,den_add,aP,aN,aO,Nat.reduceLT];rw [h'];simp only [aN,aO,Option.getD_some,w,fin];rw [ih]
  ·simp only [Qnf,iO,bP,gQ,iK,List.map,aP,Nat.reduceLT,aN,aO];rw [h'];simp only [aN,aO,Option.isSome_some,Option.getD_some,if_true];omega
  ·simp only [iO,bP,gQ,iK,List.map,aP,Nat.reduceLT,aN,aO];rw [h'];simp only [aN,aO,Option.isSome_some,Option.getD_some,if_true]
  ·simp only [iO,bP,gQ,iK,List.map,aP,Nat.reduceLT,aN,aO];rw [h'];simp only [aN,aO,Option.isSome_some,Option.getD_some,if_true]
theorem awG (r:D) (t:Int): ∀y2 y3 y4 y5 y6 y7 y8 y9 qW qV qU:Int,L 12200 [enc r,t,y2,y3,y4,y5,y6,y7,y8,y9,qW,qV,qU]=some [0,enc r,t,y2,y3,y4,y5,y6,y7,y8,y9,qW,qV,qU]:=by
 intro y2 y3 y4 y5 y6 y7 y8 y9 qW qV qU
 have h:L 12250 [enc r,t,y2,y3,y4,y5,y6,y7,y8,y9,qW,qV,qU]=some [0,enc r,t,y2,y3,y4,y5,y6,y7,y8,y9,qW,qV,qU]:=by rw [aQ,aqA];simp only [YK,zz,fin];rw [aQ,apZ];simp only [YJ,zz,fin]
 have h':=h;clear h;rw [aQ,aqB,YL,dP,if_pos,dP,if_pos]
 ·simp only [jU,List.map,bP,aP,aN,aO,Nat.reduceLT,fin]
 ·simp only [iO,bP,gQ,iK,List.map,aP,Nat.reduceLT,aN,aO];rw [h'];simp only [aN,aO,Option.isSome_some,Option.getD_some,if_true]
 ·simp only [iO,bP,gQ,iK,List.map,aP,Nat.reduceLT,aN,aO];rw [h'];simp only [aN,aO,Option.isSome_some,Option.getD_some,if_true]
theorem awF (r:D) (t:Int): ∀y2 y3 y4 y5 y6 y7 y8 y9 qW qV qU:Int,L 12300 [enc r,t,y2,y3,y4,y5,y6,y7,y8,y9,qW,qV,qU]=some [0,enc r,t,y2,y3,y4,y5,y6,y7,y8,y9,qW,qV,qU]:=by
 intro y2 y3 y4 y5 y6 y7 y8 y9 qW qV qU
 have h:L 12350 [enc r,t,y2,y3,y4,y5,y6,y7,y8,y9,qW,qV,qU]=some [0,enc r,t,y2,y3,y4,y5,y6,y7,y8,y9,qW,qV,qU]:=by rw [aQ,apX];simp only [YH,zz,fin];rw [aQ,apW];simp only [YF,zz,fin]
 have h':=h;clear h;rw [aQ,apY,YI,dP,if_pos,dP,if_pos]
 ·simp only [jU,List.map,bP,aP,aN,aO,Nat.reduceLT,fin]
 ·simp only [iO,bP,gQ,iK,List.map,aP,Nat.reduceLT,aN,aO];rw [h'];simp only [aN,aO,Option.isSome_some,Option.getD_some,if_true]
 ·simp only [iO,bP,gQ,iK,List.map,aP,Nat.reduceLT,aN,aO];rw [h'];simp only [aN,aO,Option.isSome_some,Option.getD_some,if_true]
end Go.As.Try
end
section
namespace Go.As.Try
open Go hiding Stat Spec shape
open Go.As
set_option maxRecDepth 100000
abbrev Mx (d0:D) (obj:Int):Int:=((d0.at obj).hd 2).n
abbrev Mo (d0 s:D) (obj:Int):Int:=((s.at ((d0.at obj).hd 2).n).hd 0).n
inductive Act where
 | blk
 | mis
 | res (o c dn g:Int) (r v:D) (m:Option Int) (a oc:Int)
def act (M mo th op arg tries o c dn g:Int) (r v:D):Act:=
 if op=1 then (if o=th then .mis else if place r th < 0 then (if o < 0 then .res th c dn g r v none 0 2 else .blk) else .mis)
 else if op=2 then (if o=th then .res (-1) c dn g r v none 0 2 else .mis)
 else if op=8 then (if o=th then .res (-1) c dn g r v none 0 2 else .mis)
 else if op=3 then (if o < 0 then .res th c dn g r v none 1 2 else .res o c dn g r v none 0 2)
 else if op=4 then (if o < 0 then .res th c dn g r v none 1 2 else if tries < arg then .blk else .res o c dn g r v none 0 2)
 else if op=5 then (if o=th then .mis else if place r th < 0 then (if o < 0 then .res o c dn g (dL (r.l++ [.i th])) v none 0 2 else .blk) else .mis)
 else if op=6 then (if place r th < 0 then .mis else .res o c dn g (iQ (.i 2) (r.l.take (place r th).toNat++r.l.drop ((place r th).toNat+1))) v none 0 2)
 else if op=7 then (if o=th then .mis else if place r th < 0 then (if (r.l.length:Int)=0 then (if o < 0 then .res th c dn g r v none 0 2 else .blk) else .blk) else .mis)
 else if op=9 then (if 0 < c then .res o (IntKind.i64.wrap (c - 1)) dn g r v none 0 2 else .blk)
 else if op=11 then (if 0 < c then .res o (IntKind.i64.wrap (c - 1)) dn g r v none 1 2 else .res o c dn g r v none 0 2)
 else if op=10 then (if c < M then .res o (IntKind.i64.wrap (c+1)) dn g r v none 0 2 else .mis)
 else if op=17 then (if arg < IntKind.i64.wrap (0 - c) then .mis else if IntKind.i64.wrap (1099511627776 - c) < arg then .mis else .res o (IntKind.i64.wrap (c+arg)) dn g r v none (IntKind.i64.wrap (c+arg)) 2)
 else if op=18 then (if 0 < c then .res o (IntKind.i64.wrap (c - 1)) dn g r v none (IntKind.i64.wrap (c - 1)) 2 else .mis)
 else if op=19 then (if c=0 then .res o c dn g r v none 0 2 else .blk)
 else if op=22 then .res o c dn g r v none c 2
 else if op=23 then .res o arg dn g r v none arg 2
 else if op=20 then (if (v.l.length:Int) < M then .res o c dn g r (dL (v.l++ [.i arg])) none arg 2 else .blk)
 else if op=21 then (if (v.l.length:Int)=0 then .blk else .res o c dn g r (iQ v (v.l.drop 1)) none (v.at 0).n 2)
 else if op=12 then (if mo=th then .res o c dn g (dL (wo th r.l++ [.i th])) v (some (-1)) 0 3 else .mis)
 else if op=13 then (if (r.l.length:Int)=0 then .res o c dn g r v none 0 2 else .res o c dn g (iQ r (r.l.drop 1)) v none (IntKind.i64.wrap ((r.at 0).n+1)) 2)
 else if op=14 then .res o c dn g (.i 1) v none (r.l.length:Int) 2
 else if op=24 then (if place r th < 0 then (if mo < 0 then .res o c dn g r v (some th) 0 2 else .blk) else .blk)
 else if op=15 then (if g < 4611686018427387904 then (if IntKind.i64.wrap (c+1)=M then .res o 0 dn (IntKind.i64.wrap (g+1)) r v none g 3 else .res o (IntKind.i64.wrap (c+1)) dn g r v none g 3) else .mis)
 else if op=25 then (if arg < g then .res o c dn g r v none arg 2 else .blk)
 else if op=16 then (if dn=0 then (if o=th then .mis else if o < 0 then .res th c dn g r v none 1 2 else .blk) else .res o c dn g r v none 0 2)
 else (if o=th then .res (-1) c 1 g r v none 0 2 else .mis)
def EO (s:D) (obj M:Int):Act→D
 | .res o c dn g r v m _ _=>dL (dY (match m with | none=>s.l | some q=>dY s.l M (dL (dY (s.at M).l 0 (.i q)))) obj (dL [.i o,.i c,.i (if dn=0 then 0 else 1),.i g,r,v]))
 | _=>s
def outA (s:D) (th op obj M:Int):Act→List Int
 | .blk=>[enc s,0,0,0,0,0,0]
 | .mis=>[enc s,th,27,obj,IntKind.i64.wrap op,0,2]
 | .res o c dn g r v m a oc=>[enc (EO s obj M (.res o c dn g r v m a oc)),th,op,obj,a,0,oc]
structure TH (d0 d1 s:D) (th op obj arg tries o c dn g:Int) (r v:D):Prop where
 hcp:L 9000 [obj,enc s]=some [pW r v,obj,enc s,o,c,dn,g,enc r,enc v]
 jD:L 550 [enc s]=some [enc s]
 hR:L 350 [enc d0,enc d1,enc s]=some [1]
 Gu:0≤th
 Gt:th < (d1.l.length:Int)
 BP:0≤obj
 BO:obj < (s.l.length:Int)
 hlen:s.l.length=d0.l.length
 hk:L 600 [op]=some [((d0.at obj).hd 0).n]
 hr:(r.l.length:Int) < 17592186044415
 hv:(v.l.length:Int) < 17592186044415
 hn: ∀x∈r.l,x= .i x.n
 hM:op=12∨op=24→0≤((d0.at obj).hd 2).n∧((d0.at obj).hd 2).n < (s.l.length:Int)∧((d0.at obj).hd 2).n≠obj
theorem TH.hb {d0 d1 s:D} {th op obj arg tries o c dn g:Int} {r v:D} (H:TH d0 d1 s th op obj arg tries o c dn g r v):r.l.length≤140737488351232:=by have:=H.hr; omega
noncomputable abbrev dH (d0 d1 s:D) (th op obj arg tries:Int):Nat→Int:=bM L (low [enc d0,enc d1,enc s,th,op,obj,arg,tries])
abbrev bF (k:Nat):SE:=rr 9000 [.aK 5,.aK 2] k
abbrev Za:SE:=nm (ce 2 (el (.aK 0) (.aK 5)))
abbrev kK:SE:=rr 850 [bF 7,.aK 3] 0
abbrev afA (q:SE):SE:=.op .set (bF 2) (cn (mk Za) (.op .set (el (bF 2) Za) (cn (.dat (.i 0)) q)))
abbrev xW:List SE:=[bF 7,.aK 3,.aK 5,Za,afA (.dat (.i (-1))),.aK 4,.aK 6,.aK 7,bF 3,bF 4,bF 5,bF 6,bF 8]
abbrev thg (o c d g r v:SE):SE:=cn (mk (.aK 5)) (cn o (cn c (cn d (cn g (cn r (cn v (.dat (.i 0))))))))
abbrev xI:T Lf:=ou [rr 550 [.aK 2] 0,.aK 3,.lit 27,.aK 5,wr (.aK 4),.lit 0,.lit 2]
abbrev D6:T Lf:=ou [rr 550 [.aK 2] 0,.lit 0,.lit 0,.lit 0,.lit 0,.lit 0,.lit 0]
abbrev mF (z o c d g r v a:SE) (oc:Int):T Lf:=ou [.op .set z (thg o c d g r v),.aK 3,.aK 4,.aK 5,a,.lit 0,.lit oc]
theorem Dn {r:D} (h:r.l= []) (t:Int):place r t= -1:=by unfold place; rw [h]; rfl
theorem aAE {r:D} (h:r.l= []) (t:Int):wo t r.l= []:=by rw [h]; rfl
theorem alt3 {r v:D} (h:0 < r.l.length) (h':0 < v.l.length):pW r v=3:=by simp [pW,h,h']
theorem aFN {r v:D} (h:0 < r.l.length) (h':v.l= []):pW r v=4:=by simp [pW,h,h']
theorem aFM {r v:D} (h:r.l= []) (h':0 < v.l.length):pW r v=5:=by simp [pW,h,h']
theorem aFL {r v:D} (h:r.l= []) (h':v.l= []):pW r v=6:=by simp [pW,h,h']
abbrev Gl (d0 s:D) (th op obj arg tries o c dn g:Int) (r v:D):RS:=.out (outA s th op obj (Mx d0 obj) (act (Mx d0 obj) (Mo d0 s obj) th op arg tries o c dn g r v))
theorem dG (s:D) (th op obj M:Int):outA s th op obj M .blk= [enc s,0,0,0,0,0,0]:=rfl
theorem dF (s:D) (th op obj M:Int):outA s th op obj M .mis= [enc s,th,27,obj,IntKind.i64.wrap op,0,2]:=rfl
theorem bT (s:D) (th op obj M o c dn g:Int) (r v:D) (a oc:Int):outA s th op obj M (.res o c dn g r v none a oc)= [enc (dL (dY s.l obj (dL [.i o,.i c,.i (if dn=0 then 0 else 1),.i g,r,v]))),th,op,obj,a,0,oc]:=rfl
theorem bQ (s:D) (th op obj M o c dn g:Int) (r v:D) (q a oc:Int):outA s th op obj M (.res o c dn g r v (some q) a oc)= [enc (dL (dY (dY s.l M (dL (dY (s.at M).l 0 (.i q)))) obj (dL [.i o,.i c,.i (if dn=0 then 0 else 1),.i g,r,v]))),th,op,obj,a,0,oc]:=rfl
section
variable {s:D} {th op obj M:Int}
theorem fA {c:Prop} [Decidable c] {a b:Act}:RS.out (outA s th op obj M (if c then a else b))=if c then RS.out (outA s th op obj M a) else RS.out (outA s th op obj M b):=by split <;> rfl
end
theorem Bc {p:Prop} [Decidable p]:((if p then (0:Int) else 1)=0)=p:=by by_cases h:p <;> simp [h]
theorem lC (l:List D):l= []∨0 < l.length:=by cases l <;> simp
theorem z2 {ρ:Nat→Int} {a b c d:List SB} (h:zY ρ a∧zW ρ b) (h':zY ρ c∧zW ρ d):zY ρ (a++c)∧zW ρ (b++d):=⟨ahU h.1 h'.1,ahX h.2 h'.2⟩
end Go.As.Try
end
section
namespace Go.As.Try
open Go hiding Stat Spec shape
open Go.As
set_option maxRecDepth 100000
abbrev bt:SE:=.op .bit (mk (bF 5)) (.lit 0)
abbrev kW:SE:=wr (.add kK (.lit 1))
abbrev kL:SE:=.sub (ln (bF 7)) kW
abbrev kD:SE:=.add kK kL
abbrev kC:SE:=.op .cat (.op .cat (.op .take (bF 7) kK) (.op .drop (.op .take (bF 7) (.add kW kL)) kW)) (.op .drop (bF 7) kD)
abbrev kF:SE:=.op .fill kC (cn (mk kD) (.dat (.i 0)))
section
variable {d0 d1 s r v:D} {th op obj arg tries o c dn g:Int}
abbrev YG:List SB:=[.eq (a0 9000 [.aK 5,.aK 2]) (.lit 1),.eq (a0 350 [.aK 0,.aK 1,.aK 2]) (.lit 1),.eq (a0 600 [.aK 4]) (.lit 1),.eq (a0 550 [.aK 2]) (.lit 1),.eq (a0 900 [bF 7,.aK 3]) (.lit 1),.eq (a0 850 [bF 7,.aK 3]) (.lit 1),.lt (.aK 3) (ln (.aK 1)),.lt (.aK 5) (ln (.aK 0)),.lt (.aK 5) (ln (bF 2)),.eq (rr 600 [.aK 4] 0) (nm (ce 0 (el (.aK 0) (.aK 5)))),.lt (ln (bF 7)) (.lit 17592186044415),.lt (ln (bF 8)) (.lit 17592186044415)]
abbrev NG:List SB:=[.lt (.aK 5) (.lit 0),.eq (rr 350 [.aK 0,.aK 1,.aK 2] 0) (.lit 0),.lt (.aK 3) (.lit 0),.lt (ln (bF 7)) (ln (bF 7)),.lt (ln (bF 8)) (.add (.lit 1) (.sub (ln (bF 8)) (.lit 1))),.lt (ln (bF 7)) (.add (.lit 1) (.sub (ln (bF 7)) (.lit 1)))]
theorem fG (H:TH d0 d1 s th op obj arg tries o c dn g r v):zY (dH d0 d1 s th op obj arg tries) YG∧zW (dH d0 d1 s th op obj arg tries) NG:=by have hb:=H.hb;have h1:=H.Gu; have h2:=H.Gt; have h3:=H.BP; have h4:=H.BO; have h5:=H.hlen; have h6:=H.hr; have h7:=H.hv; have hp:=iR r th;simp only [zz,H.hcp,H.jD,H.hR,H.hk,has_is r th hb,dK r th hb] <;> omega
abbrev YA3:List SB:=[.eq (bF 0) (.lit 3)]
abbrev NA3:List SB:=[.eq (bF 0) (.lit 0),.eq (bF 0) (.lit 1),.eq (bF 0) (.lit 2),.eq (bF 0) (.lit 4),.eq (bF 0) (.lit 5),.eq (bF 0) (.lit 6),.lt (.sub (ln (bF 7)) (.lit 1)) (.lit 0),.lt (.sub (ln (bF 8)) (.lit 1)) (.lit 0)]
theorem fA3 (H:TH d0 d1 s th op obj arg tries o c dn g r v) (hr:0 < r.l.length) (hv:0 < v.l.length):zY (dH d0 d1 s th op obj arg tries) YA3∧zW (dH d0 d1 s th op obj arg tries) NA3:=by have hb:=H.hb;have h1:=H.Gu; have h2:=H.Gt; have h3:=H.BP; have h4:=H.BO; have h5:=H.hlen; have h6:=H.hr; have h7:=H.hv; have hp:=iR r th;simp only [zz,H.hcp,H.jD,H.hR,H.hk,has_is r th hb,dK r th hb,alt3 hr hv] <;> omega
abbrev YA4:List SB:=[.eq (bF 0) (.lit 4)]
abbrev NA4:List SB:=[.eq (bF 0) (.lit 0),.eq (bF 0) (.lit 1),.eq (bF 0) (.lit 2),.eq (bF 0) (.lit 3),.eq (bF 0) (.lit 5),.eq (bF 0) (.lit 6),.lt (.sub (ln (bF 7)) (.lit 1)) (.lit 0)]
theorem fA4 (H:TH d0 d1 s th op obj arg tries o c dn g r v) (hr:0 < r.l.length) (hv:v.l= []):zY (dH d0 d1 s th op obj arg tries) YA4∧zW (dH d0 d1 s th op obj arg tries) NA4:=by have hb:=H.hb;have h1:=H.Gu; have h2:=H.Gt; have h3:=H.BP; have h4:=H.BO; have h5:=H.hlen; have h6:=H.hr; have h7:=H.hv; have hp:=iR r th;simp only [zz,H.hcp,H.jD,H.hR,H.hk,has_is r th hb,dK r th hb,aFN hr hv] <;> omega
abbrev YA5:List SB:=[.eq (bF 0) (.lit 5),.lt kK (.lit 0)]
abbrev NA5:List SB:=[.eq (bF 0) (.lit 0),.eq (bF 0) (.lit 1),.eq (bF 0) (.lit 2),.eq (bF 0) (.lit 3),.eq (bF 0) (.lit 4),.eq (bF 0) (.lit 6),.lt (.sub (ln (bF 8)) (.lit 1)) (.lit 0)]
theorem fA5 (H:TH d0 d1 s th op obj arg tries o c dn g r v) (hr:r.l= []) (hv:0 < v.l.length):zY (dH d0 d1 s th op obj arg tries) YA5∧zW (dH d0 d1 s th op obj arg tries) NA5:=by have hb:=H.hb;have h1:=H.Gu; have h2:=H.Gt; have h3:=H.BP; have h4:=H.BO; have h5:=H.hlen; have h6:=H.hr; have h7:=H.hv; have hp:=iR r th;simp only [zz,H.hcp,H.jD,H.hR,H.hk,has_is r th hb,dK r th hb,aFM hr hv,Dn hr] <;> omega
abbrev YA6:List SB:=[.eq (bF 0) (.lit 6),.lt kK (.lit 0)]
abbrev NA6:List SB:=[.eq (bF 0) (.lit 0),.eq (bF 0) (.lit 1),.eq (bF 0) (.lit 2),.eq (bF 0) (.lit 3),.eq (bF 0) (.lit 4),.eq (bF 0) (.lit 5)]
theorem fA6 (H:TH d0 d1 s th op obj arg tries o c dn g r v) (hr:r.l= []) (hv:v.l= []):zY (dH d0 d1 s th op obj arg tries) YA6∧zW (dH d0 d1 s th op obj arg tries) NA6:=by have hb:=H.hb;have h1:=H.Gu; have h2:=H.Gt; have h3:=H.BP; have h4:=H.BO; have h5:=H.hlen; have h6:=H.hr; have h7:=H.hv; have hp:=iR r th;simp only [zz,H.hcp,H.jD,H.hR,H.hk,has_is r th hb,dK r th hb,aFL hr hv,Dn hr] <;> omega
abbrev YM:List SB:=[.lt Za (ln (bF 2))]
abbrev NM:List SB:=[.lt Za (.lit 0),.eq Za (.aK 5)]
theorem fM (H:TH d0 d1 s th op obj arg tries o c dn g r v) (ho:op=12∨op=24):zY (dH d0 d1 s th op obj arg tries) YM∧zW (dH d0 d1 s th op obj arg tries) NM:=by have hb:=H.hb;have h1:=H.Gu; have h2:=H.Gt; have h3:=H.BP; have h4:=H.BO; have h5:=H.hlen; have h6:=H.hr; have h7:=H.hv; have hp:=iR r th; have hm:=H.hM ho;simp only [zz,H.hcp,H.jD,H.hR,H.hk,has_is r th hb,dK r th hb] <;> omega
abbrev YK0:List SB:=[.lt kK (.lit 0)]
abbrev NK0:List SB:=[]
theorem fK0 (H:TH d0 d1 s th op obj arg tries o c dn g r v) (hk:place r th < 0):zY (dH d0 d1 s th op obj arg tries) YK0∧zW (dH d0 d1 s th op obj arg tries) NK0:=by have hb:=H.hb;have h1:=H.Gu; have h2:=H.Gt; have h3:=H.BP; have h4:=H.BO; have h5:=H.hlen; have h6:=H.hr; have h7:=H.hv; have hp:=iR r th;simp only [zz,H.hcp,H.jD,H.hR,H.hk,has_is r th hb,dK r th hb] <;> omega
abbrev YK1:List SB:=[.lt kD (ln (bF 7)),.eq (.add kD (.sub (ln (bF 7)) kD)) (ln kC)]
abbrev NK1:List SB:=[.lt kK (.lit 0),.lt kW kK,.lt (ln (bF 7)) kW,.eq kK kW,.lt (ln (bF 7)) kK,.lt kW (.lit 0),.lt kL (.lit 0),.lt (ln (bF 7)) (.add kW kL),.lt (ln (bF 7)) kD,.lt kD (.lit 0),.lt (ln kC) (ln (bF 7)),.lt (.sub (ln (bF 7)) kD) (.lit 0),.lt (ln kF) kD]
theorem fK1 (H:TH d0 d1 s th op obj arg tries o c dn g r v) (hk: ¬place r th < 0):zY (dH d0 d1 s th op obj arg tries) YK1∧zW (dH d0 d1 s th op obj arg tries) NK1:=by have hb:=H.hb;have h1:=H.Gu; have h2:=H.Gt; have h3:=H.BP; have h4:=H.BO; have h5:=H.hlen; have h6:=H.hr; have h7:=H.hv; have hp:=iR r th; have hw:IntKind.i64.wrap (place r th+1)=place r th+1:=qE (by omega) (by omega);simp only [zz,H.hcp,H.jD,H.hR,H.hk,has_is r th hb,dK r th hb,kJ,aT,List.length_append,List.length_take,List.length_drop,List.length_replicate,hw] <;> omega
abbrev dA (d0 s r v:D) (th op obj arg tries o c dn g:Int):List Int:=[enc r,th,obj,Mx d0 obj,enc (dL (dY s.l (Mx d0 obj) (dL (dY (s.at (Mx d0 obj)).l 0 (.i (-1)))))),op,arg,tries,o,c,dn,g,enc v]
abbrev aFS:List SB:=[.eq (a0 12000 xW) (.lit 1),.eq (rr 12000 xW 0) (.lit 0)]
abbrev aFY:List SB:=[]
theorem aFI (H:TH d0 d1 s th op obj arg tries o c dn g r v) (hd:L 12000 (dA d0 s r v th op obj arg tries o c dn g)=some (0 :: (dA d0 s r v th op obj arg tries o c dn g))):zY (dH d0 d1 s th op obj arg tries) aFS∧zW (dH d0 d1 s th op obj arg tries) aFY:=by have hb:=H.hb;have h1:=H.Gu; have h2:=H.Gt; have h3:=H.BP; have h4:=H.BO; have h5:=H.hlen; have h6:=H.hr; have h7:=H.hv; have hp:=iR r th;simp only [zz,H.hcp,H.jD,H.hR,H.hk,has_is r th hb,dK r th hb,hd] <;> omega
abbrev aFT:List SB:=[.eq (a0 12000 xW) (.lit 1),.eq (rr 12000 xW 0) (.lit 1)]
abbrev aFZ:List SB:=[.eq (rr 12000 xW 0) (.lit 0),.lt (rr 12000 xW 14) (.lit 0),.lt (ln (rr 12000 xW 15)) (.add (rr 12000 xW 14) (.lit 1)),.lt (.add (rr 12000 xW 14) (.lit 1)) (.lit 0),.lt (ln (.op .cat (.op .cat (.op .take (rr 12000 xW 15) (rr 12000 xW 14)) (.op .snoc (.dat (.i 0)) (mk (.aK 3)))) (.op .drop (rr 12000 xW 15) (.add (rr 12000 xW 14) (.lit 1))))) (.add (rr 12000 xW 14) (.lit 1))]
theorem aFJ (H:TH d0 d1 s th op obj arg tries o c dn g r v) {n:Nat} {r1:D} (hn:n < r.l.length) (hl:r1.l.length=r.l.length) (hd:L 12000 (dA d0 s r v th op obj arg tries o c dn g)=some (1 :: ((dA d0 s r v th op obj arg tries o c dn g)++ [(n:Int),enc r1,(r.l.length:Int)]))):zY (dH d0 d1 s th op obj arg tries) aFT∧zW (dH d0 d1 s th op obj arg tries) aFZ:=by have hb:=H.hb;have h1:=H.Gu; have h2:=H.Gt; have h3:=H.BP; have h4:=H.BO; have h5:=H.hlen; have h6:=H.hr; have h7:=H.hv; have hp:=iR r th;simp only [zz,H.hcp,H.jD,H.hR,H.hk,has_is r th hb,dK r th hb,hd,kJ,aT,Ba,List.cons_append,List.nil_append,List.length_append,List.length_take,List.length_drop,List.length_cons,List.length_nil] <;> omega
abbrev aFQ:List SB:=[.eq (a0 12100 xW) (.lit 1),.eq (rr 12100 xW 0) (.lit 0)]
abbrev aFW:List SB:=[]
theorem aFG (H:TH d0 d1 s th op obj arg tries o c dn g r v) (hd:L 12100 (dA d0 s r v th op obj arg tries o c dn g)=some (0 :: (dA d0 s r v th op obj arg tries o c dn g))):zY (dH d0 d1 s th op obj arg tries) aFQ∧zW (dH d0 d1 s th op obj arg tries) aFW:=by have hb:=H.hb;have h1:=H.Gu; have h2:=H.Gt; have h3:=H.BP; have h4:=H.BO; have h5:=H.hlen; have h6:=H.hr; have h7:=H.hv; have hp:=iR r th;simp only [zz,H.hcp,H.jD,H.hR,H.hk,has_is r th hb,dK r th hb,hd] <;> omega
abbrev aFR:List SB:=[.eq (a0 12100 xW) (.lit 1),.eq (rr 12100 xW 0) (.lit 1)]
abbrev aFX:List SB:=[.eq (rr 12100 xW 0) (.lit 0),.lt (rr 12100 xW 14) (.lit 0),.lt (ln (rr 12100 xW 15)) (.add (rr 12100 xW 14) (.lit 1)),.lt (.add (rr 12100 xW 14) (.lit 1)) (.lit 0),.lt (ln (.op .cat (.op .cat (.op .take (rr 12100 xW 15) (rr 12100 xW 14)) (.op .snoc (.dat (.i 0)) (mk (.aK 3)))) (.op .drop (rr 12100 xW 15) (.add (rr 12100 xW 14) (.lit 1))))) (.add (rr 12100 xW 14) (.lit 1))]
theorem aFH (H:TH d0 d1 s th op obj arg tries o c dn g r v) {n:Nat} {r1:D} (hn:n < r.l.length) (hl:r1.l.length=r.l.length) (hd:L 12100 (dA d0 s r v th op obj arg tries o c dn g)=some (1 :: ((dA d0 s r v th op obj arg tries o c dn g)++ [(n:Int),enc r1,(r.l.length:Int)]))):zY (dH d0 d1 s th op obj arg tries) aFR∧zW (dH d0 d1 s th op obj arg tries) aFX:=by have hb:=H.hb;have h1:=H.Gu; have h2:=H.Gt; have h3:=H.BP; have h4:=H.BO; have h5:=H.hlen; have h6:=H.hr; have h7:=H.hv; have hp:=iR r th;simp only [zz,H.hcp,H.jD,H.hR,H.hk,has_is r th hb,dK r th hb,hd,kJ,aT,Ba,List.cons_append,List.nil_append,List.length_append,List.length_take,List.length_drop,List.length_cons,List.length_nil] <;> omega
abbrev aFP:List SB:=[.eq (a0 12200 xW) (.lit 1),.eq (rr 12200 xW 0) (.lit 0)]
abbrev aFV:List SB:=[]
theorem aFF (H:TH d0 d1 s th op obj arg tries o c dn g r v) (hd:L 12200 (dA d0 s r v th op obj arg tries o c dn g)=some (0 :: (dA d0 s r v th op obj arg tries o c dn g))):zY (dH d0 d1 s th op obj arg tries) aFP∧zW (dH d0 d1 s th op obj arg tries) aFV:=by have hb:=H.hb;have h1:=H.Gu; have h2:=H.Gt; have h3:=H.BP; have h4:=H.BO; have h5:=H.hlen; have h6:=H.hr; have h7:=H.hv; have hp:=iR r th;simp only [zz,H.hcp,H.jD,H.hR,H.hk,has_is r th hb,dK r th hb,hd] <;> omega
abbrev aFO:List SB:=[.eq (a0 12300 xW) (.lit 1),.eq (rr 12300 xW 0) (.lit 0)]
abbrev aFU:List SB:=[]
theorem aFE (H:TH d0 d1 s th op obj arg tries o c dn g r v) (hd:L 12300 (dA d0 s r v th op obj arg tries o c dn g)=some (0 :: (dA d0 s r v th op obj arg tries o c dn g))):zY (dH d0 d1 s th op obj arg tries) aFO∧zW (dH d0 d1 s th op obj arg tries) aFU:=by have hb:=H.hb;have h1:=H.Gu; have h2:=H.Gt; have h3:=H.BP; have h4:=H.BO; have h5:=H.hlen; have h6:=H.hr; have h7:=H.hv; have hp:=iR r th;simp only [zz,H.hcp,H.jD,H.hR,H.hk,has_is r th hb,dK r th hb,hd] <;> omega
end
end Go.As.Try
end
section
namespace Go.As.Try
open Go hiding Stat Spec shape
open Go.As
set_option maxRecDepth 100000
theorem Oy (l m:List D):iQ (dL l) m=iQ (.i 2) m:=by
 cases m with
 | cons a m=>rfl
 | nil=>cases l <;> rfl
theorem aaN (d:D) (h:0 < d.l.length):iQ (iQ d (d.l.take (1+((d.l.length:Int) - 1)).toNat)) ((iQ d (d.l.take (1+((d.l.length:Int) - 1)).toNat)).l.drop (1:Int).toNat)=iQ d (d.l.drop 1):=by rw [Fe (fun e=>by rw [e]; rfl),kJ,List.take_of_length_le (by omega)];rfl
theorem aCu (l:List D) (k:Nat) (hk:k < l.length) (R B:List D):((l.take k++(l.take l.length).drop (k+1)++B).take (l.length - 1)++R).take (l.length - 1)=l.take k++l.drop (k+1)∨B.length=0:=by
 by_cases hB:B.length=0
 ·exact .inr hB
 ·left;have e:(l.take k++(l.take l.length).drop (k+1)).length=l.length - 1:=by simp only [List.length_append,List.length_take,List.length_drop]; omega
  rw [List.take_append_of_le_length (by rw [List.length_take,List.length_append,e]; omega),List.take_take,Nat.min_self,List.take_append_of_le_length (by omega),List.take_of_length_le (by omega),List.take_length]
section
variable {d0 d1 s r v:D} {th op obj arg tries o c dn g:Int}
abbrev zt0:T Lf:=(sp (.eq (bF 3) (.aK 3)) xI (sp (.eq (rr 900 [bF 7,.aK 3] 0) (.lit 0)) (sp (.lt (bF 3) (.lit 0)) (mF (bF 2) (mk (.aK 3)) (mk (bF 4)) bt (mk (bF 6)) (bF 7) (bF 8) (.lit 0) 2) D6) xI))
theorem sm0 (H:TH d0 d1 s th 1 obj arg tries o c dn g r v):dX (dH d0 d1 s th 1 obj arg tries) zt0=Gl d0 s th 1 obj arg tries o c dn g r v:=by
 have hb:=H.hb;simp only [zz,H.hcp,H.jD,H.hR,H.hk,has_is r th hb,dK r th hb,aG,Bc,fA,dG,dF,bT,bQ,dL,act,Int.reduceEq,Gl] <;> (repeat' split) <;> first | rfl | (exfalso; omega)
abbrev zt1:T Lf:=(sp (.eq (bF 3) (.aK 3)) (mF (bF 2) (.dat (.i (-1))) (mk (bF 4)) bt (mk (bF 6)) (bF 7) (bF 8) (.lit 0) 2) xI)
theorem sm1 (H:TH d0 d1 s th 2 obj arg tries o c dn g r v):dX (dH d0 d1 s th 2 obj arg tries) zt1=Gl d0 s th 2 obj arg tries o c dn g r v:=by
 have hb:=H.hb;simp only [zz,H.hcp,H.jD,H.hR,H.hk,has_is r th hb,dK r th hb,aG,Bc,fA,dG,dF,bT,bQ,dL,act,Int.reduceEq,Gl] <;> (repeat' split) <;> first | rfl | (exfalso; omega)
theorem sm2 (H:TH d0 d1 s th 8 obj arg tries o c dn g r v):dX (dH d0 d1 s th 8 obj arg tries) zt1=Gl d0 s th 8 obj arg tries o c dn g r v:=by
 have hb:=H.hb;simp only [zz,H.hcp,H.jD,H.hR,H.hk,has_is r th hb,dK r th hb,aG,Bc,fA,dG,dF,bT,bQ,dL,act,Int.reduceEq,Gl] <;> (repeat' split) <;> first | rfl | (exfalso; omega)
abbrev zt2:T Lf:=(sp (.lt (bF 3) (.lit 0)) (mF (bF 2) (mk (.aK 3)) (mk (bF 4)) bt (mk (bF 6)) (bF 7) (bF 8) (.lit 1) 2) (mF (bF 2) (mk (bF 3)) (mk (bF 4)) bt (mk (bF 6)) (bF 7) (bF 8) (.lit 0) 2))
theorem sm3 (H:TH d0 d1 s th 3 obj arg tries o c dn g r v):dX (dH d0 d1 s th 3 obj arg tries) zt2=Gl d0 s th 3 obj arg tries o c dn g r v:=by
 have hb:=H.hb;simp only [zz,H.hcp,H.jD,H.hR,H.hk,has_is r th hb,dK r th hb,aG,Bc,fA,dG,dF,bT,bQ,dL,act,Int.reduceEq,Gl] <;> (repeat' split) <;> first | rfl | (exfalso; omega)
abbrev zt3:T Lf:=(sp (.lt (bF 3) (.lit 0)) (mF (bF 2) (mk (.aK 3)) (mk (bF 4)) bt (mk (bF 6)) (bF 7) (bF 8) (.lit 1) 2) (sp (.lt (.aK 7) (.aK 6)) D6 (mF (bF 2) (mk (bF 3)) (mk (bF 4)) bt (mk (bF 6)) (bF 7) (bF 8) (.lit 0) 2)))
theorem sm4 (H:TH d0 d1 s th 4 obj arg tries o c dn g r v):dX (dH d0 d1 s th 4 obj arg tries) zt3=Gl d0 s th 4 obj arg tries o c dn g r v:=by
 have hb:=H.hb;simp only [zz,H.hcp,H.jD,H.hR,H.hk,has_is r th hb,dK r th hb,aG,Bc,fA,dG,dF,bT,bQ,dL,act,Int.reduceEq,Gl] <;> (repeat' split) <;> first | rfl | (exfalso; omega)
abbrev zt4:T Lf:=(sp (.eq (bF 3) (.aK 3)) xI (sp (.eq (rr 900 [bF 7,.aK 3] 0) (.lit 0)) (sp (.lt (bF 3) (.lit 0)) (mF (bF 2) (mk (bF 3)) (mk (bF 4)) bt (mk (bF 6)) (.op .snoc (bF 7) (mk (.aK 3))) (bF 8) (.lit 0) 2) D6) xI))
theorem sm5 (H:TH d0 d1 s th 5 obj arg tries o c dn g r v) (hr:0 < r.l.length):dX (dH d0 d1 s th 5 obj arg tries) zt4=Gl d0 s th 5 obj arg tries o c dn g r v:=by
 have hb:=H.hb;simp only [zz,H.hcp,H.jD,H.hR,H.hk,has_is r th hb,dK r th hb,Ba,List.nil_append,aG,Bc,fA,dG,dF,bT,bQ,dL,act,Int.reduceEq,Gl] <;> (repeat' split) <;> first | rfl | (exfalso; omega)
abbrev zt5:T Lf:=xI
theorem sm6 (H:TH d0 d1 s th 6 obj arg tries o c dn g r v) (hk:place r th < 0):dX (dH d0 d1 s th 6 obj arg tries) zt5=Gl d0 s th 6 obj arg tries o c dn g r v:=by
 have hb:=H.hb;simp only [zz,H.hcp,H.jD,H.hR,H.hk,has_is r th hb,dK r th hb,hk,aG,Bc,fA,dG,dF,bT,bQ,dL,act,Int.reduceEq,Gl] <;> (repeat' split) <;> first | rfl | (exfalso; omega)
abbrev zt6:T Lf:=(mF (bF 2) (mk (bF 3)) (mk (bF 4)) bt (mk (bF 6)) (.op .take kF kD) (bF 8) (.lit 0) 2)
theorem sm7 (H:TH d0 d1 s th 6 obj arg tries o c dn g r v) (hr:0 < r.l.length) (hk: ¬place r th < 0):dX (dH d0 d1 s th 6 obj arg tries) zt6=Gl d0 s th 6 obj arg tries o c dn g r v:=by
 have hb:=H.hb;rcases tC r th with ⟨hp,_⟩ | ⟨k,hkl,hp,_⟩
 ·exact absurd hk (by rw [hp]; omega)
 have hw:IntKind.i64.wrap ((k:Int)+1)=(k:Int)+1:=qE (by omega) (by omega);have e1:((k:Int)+1+((r.l.length:Int) - ((k:Int)+1))).toNat=r.l.length:=by omega
 have e2:((k:Int)+((r.l.length:Int) - ((k:Int)+1))).toNat=r.l.length - 1:=by omega
 have e3:((k:Int)+1).toNat=k+1:=by omega
 have h0: ¬((k:Int) < 0):=by omega
 have hd:=fun R=>(aCu r.l k hkl R (r.l.drop (r.l.length - 1))).resolve_right (by rw [List.length_drop]; omega);simp only [zz,H.hcp,H.jD,H.hR,H.hk,has_is r th hb,dK r th hb,hp,hw,e1,e2,e3,h0,kJ,aT,Int.toNat_natCast,hd,Oy,aG,Bc,fA,dG,dF,bT,bQ,dL,act,Int.reduceEq,Gl] <;> (repeat' split) <;> first | rfl | (exfalso; omega)
abbrev zt7:T Lf:=(sp (.eq (bF 3) (.aK 3)) xI (sp (.eq (rr 900 [bF 7,.aK 3] 0) (.lit 0)) (sp (.eq (ln (bF 7)) (.lit 0)) (sp (.lt (bF 3) (.lit 0)) (mF (bF 2) (mk (.aK 3)) (mk (bF 4)) bt (mk (bF 6)) (bF 7) (bF 8) (.lit 0) 2) D6) D6) xI))
theorem sm8 (H:TH d0 d1 s th 7 obj arg tries o c dn g r v) (hr:0 < r.l.length):dX (dH d0 d1 s th 7 obj arg tries) zt7=Gl d0 s th 7 obj arg tries o c dn g r v:=by
 have hb:=H.hb;simp only [zz,H.hcp,H.jD,H.hR,H.hk,has_is r th hb,dK r th hb,aG,Bc,fA,dG,dF,bT,bQ,dL,act,Int.reduceEq,Gl] <;> (repeat' split) <;> first | rfl | (exfalso; omega)
abbrev zt8:T Lf:=(sp (.lt (.lit 0) (bF 4)) (mF (bF 2) (mk (bF 3)) (mk (wr (.sub (bF 4) (.lit 1)))) bt (mk (bF 6)) (bF 7) (bF 8) (.lit 0) 2) D6)
theorem sm9 (H:TH d0 d1 s th 9 obj arg tries o c dn g r v):dX (dH d0 d1 s th 9 obj arg tries) zt8=Gl d0 s th 9 obj arg tries o c dn g r v:=by
 have hb:=H.hb;simp only [zz,H.hcp,H.jD,H.hR,H.hk,has_is r th hb,dK r th hb,aG,Bc,fA,dG,dF,bT,bQ,dL,act,Int.reduceEq,Gl] <;> (repeat' split) <;> first | rfl | (exfalso; omega)
abbrev zt9:T Lf:=(sp (.lt (.lit 0) (bF 4)) (mF (bF 2) (mk (bF 3)) (mk (wr (.sub (bF 4) (.lit 1)))) bt (mk (bF 6)) (bF 7) (bF 8) (.lit 1) 2) (mF (bF 2) (mk (bF 3)) (mk (bF 4)) bt (mk (bF 6)) (bF 7) (bF 8) (.lit 0) 2))
theorem aFb (H:TH d0 d1 s th 11 obj arg tries o c dn g r v):dX (dH d0 d1 s th 11 obj arg tries) zt9=Gl d0 s th 11 obj arg tries o c dn g r v:=by
 have hb:=H.hb;simp only [zz,H.hcp,H.jD,H.hR,H.hk,has_is r th hb,dK r th hb,aG,Bc,fA,dG,dF,bT,bQ,dL,act,Int.reduceEq,Gl] <;> (repeat' split) <;> first | rfl | (exfalso; omega)
abbrev aCJ:T Lf:=(sp (.lt (bF 4) Za) (mF (bF 2) (mk (bF 3)) (mk (wr (.add (bF 4) (.lit 1)))) bt (mk (bF 6)) (bF 7) (bF 8) (.lit 0) 2) xI)
theorem aFa (H:TH d0 d1 s th 10 obj arg tries o c dn g r v):dX (dH d0 d1 s th 10 obj arg tries) aCJ=Gl d0 s th 10 obj arg tries o c dn g r v:=by
 have hb:=H.hb;simp only [zz,H.hcp,H.jD,H.hR,H.hk,has_is r th hb,dK r th hb,aG,Bc,fA,dG,dF,bT,bQ,dL,act,Int.reduceEq,Gl] <;> (repeat' split) <;> first | rfl | (exfalso; omega)
abbrev aCI:T Lf:=(sp (.lt (.aK 6) (wr (.sub (.lit 0) (bF 4)))) xI (sp (.lt (wr (.sub (.lit 1099511627776) (bF 4))) (.aK 6)) xI (mF (bF 2) (mk (bF 3)) (mk (wr (.add (bF 4) (.aK 6)))) bt (mk (bF 6)) (bF 7) (bF 8) (wr (.add (bF 4) (.aK 6))) 2)))
theorem aE9 (H:TH d0 d1 s th 17 obj arg tries o c dn g r v):dX (dH d0 d1 s th 17 obj arg tries) aCI=Gl d0 s th 17 obj arg tries o c dn g r v:=by
 have hb:=H.hb;simp only [zz,H.hcp,H.jD,H.hR,H.hk,has_is r th hb,dK r th hb,aG,Bc,fA,dG,dF,bT,bQ,dL,act,Int.reduceEq,Gl] <;> (repeat' split) <;> first | rfl | (exfalso; omega)
abbrev aCH:T Lf:=(sp (.lt (.lit 0) (bF 4)) (mF (bF 2) (mk (bF 3)) (mk (wr (.sub (bF 4) (.lit 1)))) bt (mk (bF 6)) (bF 7) (bF 8) (wr (.sub (bF 4) (.lit 1))) 2) xI)
theorem aE8 (H:TH d0 d1 s th 18 obj arg tries o c dn g r v):dX (dH d0 d1 s th 18 obj arg tries) aCH=Gl d0 s th 18 obj arg tries o c dn g r v:=by
 have hb:=H.hb;simp only [zz,H.hcp,H.jD,H.hR,H.hk,has_is r th hb,dK r th hb,aG,Bc,fA,dG,dF,bT,bQ,dL,act,Int.reduceEq,Gl] <;> (repeat' split) <;> first | rfl | (exfalso; omega)
abbrev aCG:T Lf:=(sp (.eq (bF 4) (.lit 0)) (mF (bF 2) (mk (bF 3)) (mk (bF 4)) bt (mk (bF 6)) (bF 7) (bF 8) (.lit 0) 2) D6)
theorem aE7 (H:TH d0 d1 s th 19 obj arg tries o c dn g r v):dX (dH d0 d1 s th 19 obj arg tries) aCG=Gl d0 s th 19 obj arg tries o c dn g r v:=by
 have hb:=H.hb;simp only [zz,H.hcp,H.jD,H.hR,H.hk,has_is r th hb,dK r th hb,aG,Bc,fA,dG,dF,bT,bQ,dL,act,Int.reduceEq,Gl] <;> (repeat' split) <;> first | rfl | (exfalso; omega)
abbrev aCF:T Lf:=(mF (bF 2) (mk (bF 3)) (mk (bF 4)) bt (mk (bF 6)) (bF 7) (bF 8) (bF 4) 2)
theorem aE6 (H:TH d0 d1 s th 22 obj arg tries o c dn g r v):dX (dH d0 d1 s th 22 obj arg tries) aCF=Gl d0 s th 22 obj arg tries o c dn g r v:=by
 have hb:=H.hb;simp only [zz,H.hcp,H.jD,H.hR,H.hk,has_is r th hb,dK r th hb,aG,Bc,fA,dG,dF,bT,bQ,dL,act,Int.reduceEq,Gl] <;> (repeat' split) <;> first | rfl | (exfalso; omega)
abbrev aCE:T Lf:=(mF (bF 2) (mk (bF 3)) (mk (.aK 6)) bt (mk (bF 6)) (bF 7) (bF 8) (.aK 6) 2)
theorem aE5 (H:TH d0 d1 s th 23 obj arg tries o c dn g r v):dX (dH d0 d1 s th 23 obj arg tries) aCE=Gl d0 s th 23 obj arg tries o c dn g r v:=by
 have hb:=H.hb;simp only [zz,H.hcp,H.jD,H.hR,H.hk,has_is r th hb,dK r th hb,aG,Bc,fA,dG,dF,bT,bQ,dL,act,Int.reduceEq,Gl] <;> (repeat' split) <;> first | rfl | (exfalso; omega)
abbrev aAD:T Lf:=(sp (.lt (ln (bF 8)) Za) (mF (bF 2) (mk (bF 3)) (mk (bF 4)) bt (mk (bF 6)) (bF 7) (.op .snoc (bF 8) (mk (.aK 6))) (.aK 6) 2) D6)
theorem aC9 (H:TH d0 d1 s th 20 obj arg tries o c dn g r v) (hv:0 < v.l.length):dX (dH d0 d1 s th 20 obj arg tries) aAD=Gl d0 s th 20 obj arg tries o c dn g r v:=by
 have hb:=H.hb;simp only [zz,H.hcp,H.jD,H.hR,H.hk,has_is r th hb,dK r th hb,Ba,List.nil_append,aG,Bc,fA,dG,dF,bT,bQ,dL,act,Int.reduceEq,Gl] <;> (repeat' split) <;> first | rfl | (exfalso; omega)
abbrev aAC:T Lf:=(sp (.eq (ln (bF 8)) (.lit 0)) D6 (mF (bF 2) (mk (bF 3)) (mk (bF 4)) bt (mk (bF 6)) (bF 7) (.op .drop (.op .take (bF 8) (.add (.lit 1) (.sub (ln (bF 8)) (.lit 1)))) (.lit 1)) (nm (el (bF 8) (.lit 0))) 2))
theorem aC8 (H:TH d0 d1 s th 21 obj arg tries o c dn g r v) (hv:0 < v.l.length):dX (dH d0 d1 s th 21 obj arg tries) aAC=Gl d0 s th 21 obj arg tries o c dn g r v:=by
 have hb:=H.hb;simp only [zz,H.hcp,H.jD,H.hR,H.hk,has_is r th hb,dK r th hb,aaN v hv,aG,Bc,fA,dG,dF,bT,bQ,dL,act,Int.reduceEq,Gl] <;> (repeat' split) <;> first | rfl | (exfalso; omega)
abbrev aAB:T Lf:=(sp (.eq (nm (ce 0 (el (bF 2) Za))) (.aK 3)) (mF (afA (.dat (.i (-1)))) (mk (bF 3)) (mk (bF 4)) bt (mk (bF 6)) (.op .snoc (bF 7) (mk (.aK 3))) (bF 8) (.lit 0) 3) xI)
theorem aC7 (H:TH d0 d1 s th 12 obj arg tries o c dn g r v) (hr:0 < r.l.length) (hw:wo th r.l=r.l):dX (dH d0 d1 s th 12 obj arg tries) aAB=Gl d0 s th 12 obj arg tries o c dn g r v:=by
 have hb:=H.hb;simp only [zz,H.hcp,H.jD,H.hR,H.hk,has_is r th hb,dK r th hb,hw,aT,Ba,List.nil_append,aG,Bc,fA,dG,dF,bT,bQ,dL,act,Int.reduceEq,Gl] <;> (repeat' split) <;> first | rfl | (exfalso; omega)
abbrev aCD:T Lf:=(sp (.eq (nm (ce 0 (el (bF 2) Za))) (.aK 3)) (mF (afA (.dat (.i (-1)))) (mk (bF 3)) (mk (bF 4)) bt (mk (bF 6)) (.op .take (.op .cat (.op .cat (.op .take (rr 12000 xW 15) (rr 12000 xW 14)) (.op .snoc (.dat (.i 0)) (mk (.aK 3)))) (.op .drop (rr 12000 xW 15) (.add (rr 12000 xW 14) (.lit 1)))) (.add (rr 12000 xW 14) (.lit 1))) (bF 8) (.lit 0) 3) xI)
theorem aE4 (H:TH d0 d1 s th 12 obj arg tries o c dn g r v) (hr:0 < r.l.length) (hv:0 < v.l.length) {n:Nat} {r1:D} (hn:n < r.l.length) (hl:r1.l.length=r.l.length) (hw:r1.l.take n=wo th r.l) (hd:L 12000 (dA d0 s r v th 12 obj arg tries o c dn g)=some (1 :: ((dA d0 s r v th 12 obj arg tries o c dn g)++ [(n:Int),enc r1,(r.l.length:Int)]))):dX (dH d0 d1 s th 12 obj arg tries) aCD=Gl d0 s th 12 obj arg tries o c dn g r v:=by
 have hb:=H.hb;have e3:((n:Int)+1).toNat=n+1:=by omega
 have hA: ∀B,(wo th r.l++ [D.i th]++B).take (n+1)=wo th r.l++ [.i th]:=fun B=>by
  have:(wo th r.l++ [D.i th]).length=n+1:=by rw [← hw]; simp only [List.length_append,List.length_take,List.length_cons,List.length_nil]; omega
  rw [List.take_append_of_le_length (by omega),List.take_of_length_le (by omega)]
 have hB:wo th r.l++ [D.i th]≠[]:=by simp
 simp only [zz,H.hcp,H.jD,H.hR,H.hk,has_is r th hb,dK r th hb,hd,List.cons_append,e3,l_p,kJ,aT,Ba,List.nil_append,Int.toNat_natCast,hw,hA,Oy,G7 hB,aG,Bc,fA,dG,dF,bT,bQ,dL,act,Int.reduceEq,Gl] <;> (repeat' split) <;> first | rfl | (exfalso; omega)
abbrev aAA:T Lf:=(sp (.eq (ln (bF 7)) (.lit 0)) (mF (bF 2) (mk (bF 3)) (mk (bF 4)) bt (mk (bF 6)) (bF 7) (bF 8) (.lit 0) 2) (mF (bF 2) (mk (bF 3)) (mk (bF 4)) bt (mk (bF 6)) (.op .drop (.op .take (bF 7) (.add (.lit 1) (.sub (ln (bF 7)) (.lit 1)))) (.lit 1)) (bF 8) (wr (.add (nm (el (bF 7) (.lit 0))) (.lit 1))) 2))
theorem aC6 (H:TH d0 d1 s th 13 obj arg tries o c dn g r v) (hr:0 < r.l.length):dX (dH d0 d1 s th 13 obj arg tries) aAA=Gl d0 s th 13 obj arg tries o c dn g r v:=by
 have hb:=H.hb;simp only [zz,H.hcp,H.jD,H.hR,H.hk,has_is r th hb,dK r th hb,aaN r hr,Ba,List.nil_append,aG,Bc,fA,dG,dF,bT,bQ,dL,act,Int.reduceEq,Gl] <;> (repeat' split) <;> first | rfl | (exfalso; omega)
abbrev aAz:T Lf:=(mF (bF 2) (mk (bF 3)) (mk (bF 4)) bt (mk (bF 6)) (.dat (.i 1)) (bF 8) (ln (bF 7)) 2)
theorem aC5 (H:TH d0 d1 s th 14 obj arg tries o c dn g r v) (hr:0 < r.l.length):dX (dH d0 d1 s th 14 obj arg tries) aAz=Gl d0 s th 14 obj arg tries o c dn g r v:=by
 have hb:=H.hb;simp only [zz,H.hcp,H.jD,H.hR,H.hk,has_is r th hb,dK r th hb,Ba,List.nil_append,aG,Bc,fA,dG,dF,bT,bQ,dL,act,Int.reduceEq,Gl] <;> (repeat' split) <;> first | rfl | (exfalso; omega)
abbrev ahS:T Lf:=(sp (.eq (rr 900 [bF 7,.aK 3] 0) (.lit 0)) (sp (.lt (nm (ce 0 (el (bF 2) Za))) (.lit 0)) (mF (afA (mk (.aK 3))) (mk (bF 3)) (mk (bF 4)) bt (mk (bF 6)) (bF 7) (bF 8) (.lit 0) 2) D6) D6)
theorem asX (H:TH d0 d1 s th 24 obj arg tries o c dn g r v):dX (dH d0 d1 s th 24 obj arg tries) ahS=Gl d0 s th 24 obj arg tries o c dn g r v:=by
 have hb:=H.hb;simp only [zz,H.hcp,H.jD,H.hR,H.hk,has_is r th hb,dK r th hb,aT,Ba,List.nil_append,aG,Bc,fA,dG,dF,bT,bQ,dL,act,Int.reduceEq,Gl] <;> (repeat' split) <;> first | rfl | (exfalso; omega)
abbrev aCC:T Lf:=(sp (.lt (bF 6) (.lit 4611686018427387904)) (sp (.eq (wr (.add (bF 4) (.lit 1))) Za) (mF (bF 2) (mk (bF 3)) (.dat (.i 0)) bt (mk (wr (.add (bF 6) (.lit 1)))) (bF 7) (bF 8) (bF 6) 3) (mF (bF 2) (mk (bF 3)) (mk (wr (.add (bF 4) (.lit 1)))) bt (mk (bF 6)) (bF 7) (bF 8) (bF 6) 3)) xI)
theorem aE3 (H:TH d0 d1 s th 15 obj arg tries o c dn g r v):dX (dH d0 d1 s th 15 obj arg tries) aCC=Gl d0 s th 15 obj arg tries o c dn g r v:=by
 have hb:=H.hb;simp only [zz,H.hcp,H.jD,H.hR,H.hk,has_is r th hb,dK r th hb,aG,Bc,fA,dG,dF,bT,bQ,dL,act,Int.reduceEq,Gl] <;> (repeat' split) <;> first | rfl | (exfalso; omega)
abbrev aCB:T Lf:=(sp (.lt (.aK 6) (bF 6)) (mF (bF 2) (mk (bF 3)) (mk (bF 4)) bt (mk (bF 6)) (bF 7) (bF 8) (.aK 6) 2) D6)
theorem aE2 (H:TH d0 d1 s th 25 obj arg tries o c dn g r v):dX (dH d0 d1 s th 25 obj arg tries) aCB=Gl d0 s th 25 obj arg tries o c dn g r v:=by
 have hb:=H.hb;simp only [zz,H.hcp,H.jD,H.hR,H.hk,has_is r th hb,dK r th hb,aG,Bc,fA,dG,dF,bT,bQ,dL,act,Int.reduceEq,Gl] <;> (repeat' split) <;> first | rfl | (exfalso; omega)
abbrev aCA:T Lf:=(sp (.eq (bF 5) (.lit 0)) (sp (.eq (bF 3) (.aK 3)) xI (sp (.lt (bF 3) (.lit 0)) (mF (bF 2) (mk (.aK 3)) (mk (bF 4)) bt (mk (bF 6)) (bF 7) (bF 8) (.lit 1) 2) D6)) (mF (bF 2) (mk (bF 3)) (mk (bF 4)) bt (mk (bF 6)) (bF 7) (bF 8) (.lit 0) 2))
theorem aE1 (H:TH d0 d1 s th 16 obj arg tries o c dn g r v):dX (dH d0 d1 s th 16 obj arg tries) aCA=Gl d0 s th 16 obj arg tries o c dn g r v:=by
 have hb:=H.hb;simp only [zz,H.hcp,H.jD,H.hR,H.hk,has_is r th hb,dK r th hb,aG,Bc,fA,dG,dF,bT,bQ,dL,act,Int.reduceEq,Gl] <;> (repeat' split) <;> first | rfl | (exfalso; omega)
abbrev aCz:T Lf:=(sp (.eq (bF 3) (.aK 3)) (mF (bF 2) (.dat (.i (-1))) (mk (bF 4)) (.dat (.i 1)) (mk (bF 6)) (bF 7) (bF 8) (.lit 0) 2) xI)
theorem aE0 (H:TH d0 d1 s th 26 obj arg tries o c dn g r v):dX (dH d0 d1 s th 26 obj arg tries) aCz=Gl d0 s th 26 obj arg tries o c dn g r v:=by
 have hb:=H.hb;simp only [zz,H.hcp,H.jD,H.hR,H.hk,has_is r th hb,dK r th hb,aG,Bc,fA,dG,dF,bT,bQ,dL,act,Int.reduceEq,Gl] <;> (repeat' split) <;> first | rfl | (exfalso; omega)
abbrev aAy:T Lf:=(sp (.lt (.lit 0) Za) (mF (bF 2) (mk (bF 3)) (mk (bF 4)) bt (mk (bF 6)) (bF 7) (.op .snoc (.dat (.i 0)) (mk (.aK 6))) (.aK 6) 2) D6)
theorem aC4 (H:TH d0 d1 s th 20 obj arg tries o c dn g r v) (hv:v.l= []):dX (dH d0 d1 s th 20 obj arg tries) aAy=Gl d0 s th 20 obj arg tries o c dn g r v:=by
 have hb:=H.hb;have hz2:((0:Nat):Int)=0:=rfl;simp only [zz,H.hcp,H.jD,H.hR,H.hk,has_is r th hb,dK r th hb,hv,List.length_nil,List.nil_append,hz2,Ba,aG,Bc,fA,dG,dF,bT,bQ,dL,act,Int.reduceEq,Gl] <;> (repeat' split) <;> first | rfl | (exfalso; omega)
abbrev aAx:T Lf:=D6
theorem aC3 (H:TH d0 d1 s th 21 obj arg tries o c dn g r v) (hv:v.l= []):dX (dH d0 d1 s th 21 obj arg tries) aAx=Gl d0 s th 21 obj arg tries o c dn g r v:=by
 have hb:=H.hb;have hz2:((0:Nat):Int)=0:=rfl;simp only [zz,H.hcp,H.jD,H.hR,H.hk,has_is r th hb,dK r th hb,hv,List.length_nil,List.nil_append,hz2,aG,Bc,fA,dG,dF,bT,bQ,dL,act,Int.reduceEq,Gl] <;> (repeat' split) <;> first | rfl | (exfalso; omega)
abbrev aCy:T Lf:=(sp (.eq (nm (ce 0 (el (bF 2) Za))) (.aK 3)) (mF (afA (.dat (.i (-1)))) (mk (bF 3)) (mk (bF 4)) bt (mk (bF 6)) (.op .take (.op .cat (.op .cat (.op .take (rr 12100 xW 15) (rr 12100 xW 14)) (.op .snoc (.dat (.i 0)) (mk (.aK 3)))) (.op .drop (rr 12100 xW 15) (.add (rr 12100 xW 14) (.lit 1)))) (.add (rr 12100 xW 14) (.lit 1))) (bF 8) (.lit 0) 3) xI)
theorem aEZ (H:TH d0 d1 s th 12 obj arg tries o c dn g r v) (hr:0 < r.l.length) (hv:v.l= []) {n:Nat} {r1:D} (hn:n < r.l.length) (hl:r1.l.length=r.l.length) (hw:r1.l.take n=wo th r.l) (hd:L 12100 (dA d0 s r v th 12 obj arg tries o c dn g)=some (1 :: ((dA d0 s r v th 12 obj arg tries o c dn g)++ [(n:Int),enc r1,(r.l.length:Int)]))):dX (dH d0 d1 s th 12 obj arg tries) aCy=Gl d0 s th 12 obj arg tries o c dn g r v:=by
 have hb:=H.hb;have hz2:((0:Nat):Int)=0:=rfl;have e3:((n:Int)+1).toNat=n+1:=by omega
 have hA: ∀B,(wo th r.l++ [D.i th]++B).take (n+1)=wo th r.l++ [.i th]:=fun B=>by
  have:(wo th r.l++ [D.i th]).length=n+1:=by rw [← hw]; simp only [List.length_append,List.length_take,List.length_cons,List.length_nil]; omega
  rw [List.take_append_of_le_length (by omega),List.take_of_length_le (by omega)]
 have hB:wo th r.l++ [D.i th]≠[]:=by simp
 simp only [zz,H.hcp,H.jD,H.hR,H.hk,has_is r th hb,dK r th hb,hv,List.length_nil,List.nil_append,hz2,hd,List.cons_append,e3,l_p,kJ,aT,Ba,Int.toNat_natCast,hw,hA,Oy,G7 hB,aG,Bc,fA,dG,dF,bT,bQ,dL,act,Int.reduceEq,Gl] <;> (repeat' split) <;> first | rfl | (exfalso; omega)
abbrev aAw:T Lf:=(sp (.eq (bF 3) (.aK 3)) xI (sp (.eq (rr 900 [bF 7,.aK 3] 0) (.lit 0)) (sp (.lt (bF 3) (.lit 0)) (mF (bF 2) (mk (bF 3)) (mk (bF 4)) bt (mk (bF 6)) (.op .snoc (.dat (.i 0)) (mk (.aK 3))) (bF 8) (.lit 0) 2) D6) xI))
theorem aC2 (H:TH d0 d1 s th 5 obj arg tries o c dn g r v) (hr:r.l= []):dX (dH d0 d1 s th 5 obj arg tries) aAw=Gl d0 s th 5 obj arg tries o c dn g r v:=by
 have hb:=H.hb;have hz:((0:Nat):Int)=0:=rfl;simp only [zz,H.hcp,H.jD,H.hR,H.hk,has_is r th hb,dK r th hb,hr,List.length_nil,List.nil_append,hz,Ba,aG,Bc,fA,dG,dF,bT,bQ,dL,act,Int.reduceEq,Gl] <;> (repeat' split) <;> first | rfl | (exfalso; omega)
theorem aC1 (H:TH d0 d1 s th 7 obj arg tries o c dn g r v) (hr:r.l= []):dX (dH d0 d1 s th 7 obj arg tries) zt0=Gl d0 s th 7 obj arg tries o c dn g r v:=by
 have hb:=H.hb;have hz:((0:Nat):Int)=0:=rfl;simp only [zz,H.hcp,H.jD,H.hR,H.hk,has_is r th hb,dK r th hb,hr,List.length_nil,List.nil_append,hz,aG,Bc,fA,dG,dF,bT,bQ,dL,act,Int.reduceEq,Gl] <;> (repeat' split) <;> first | rfl | (exfalso; omega)
abbrev aAv:T Lf:=(sp (.eq (nm (ce 0 (el (bF 2) Za))) (.aK 3)) (mF (afA (.dat (.i (-1)))) (mk (bF 3)) (mk (bF 4)) bt (mk (bF 6)) (.op .snoc (.dat (.i 0)) (mk (.aK 3))) (bF 8) (.lit 0) 3) xI)
theorem aC0 (H:TH d0 d1 s th 12 obj arg tries o c dn g r v) (hr:r.l= []):dX (dH d0 d1 s th 12 obj arg tries) aAv=Gl d0 s th 12 obj arg tries o c dn g r v:=by
 have hb:=H.hb;have hz:((0:Nat):Int)=0:=rfl;simp only [zz,H.hcp,H.jD,H.hR,H.hk,has_is r th hb,dK r th hb,hr,List.length_nil,List.nil_append,hz,aAE hr,aT,Ba,aG,Bc,fA,dG,dF,bT,bQ,dL,act,Int.reduceEq,Gl] <;> (repeat' split) <;> first | rfl | (exfalso; omega)
abbrev aAu:T Lf:=(mF (bF 2) (mk (bF 3)) (mk (bF 4)) bt (mk (bF 6)) (bF 7) (bF 8) (.lit 0) 2)
theorem aCZ (H:TH d0 d1 s th 13 obj arg tries o c dn g r v) (hr:r.l= []):dX (dH d0 d1 s th 13 obj arg tries) aAu=Gl d0 s th 13 obj arg tries o c dn g r v:=by
 have hb:=H.hb;have hz:((0:Nat):Int)=0:=rfl;simp only [zz,H.hcp,H.jD,H.hR,H.hk,has_is r th hb,dK r th hb,hr,List.length_nil,List.nil_append,hz,Ba,aG,Bc,fA,dG,dF,bT,bQ,dL,act,Int.reduceEq,Gl] <;> (repeat' split) <;> first | rfl | (exfalso; omega)
abbrev aAt:T Lf:=(mF (bF 2) (mk (bF 3)) (mk (bF 4)) bt (mk (bF 6)) (.dat (.i 1)) (bF 8) (.lit 0) 2)
theorem aCY (H:TH d0 d1 s th 14 obj arg tries o c dn g r v) (hr:r.l= []):dX (dH d0 d1 s th 14 obj arg tries) aAt=Gl d0 s th 14 obj arg tries o c dn g r v:=by
 have hb:=H.hb;have hz:((0:Nat):Int)=0:=rfl;simp only [zz,H.hcp,H.jD,H.hR,H.hk,has_is r th hb,dK r th hb,hr,List.length_nil,List.nil_append,hz,Ba,aG,Bc,fA,dG,dF,bT,bQ,dL,act,Int.reduceEq,Gl] <;> (repeat' split) <;> first | rfl | (exfalso; omega)
end
end Go.As.Try
end
section
namespace Go.As.Try
open Go hiding Stat Spec shape
open Go.As
set_option maxRecDepth 100000
def ops:List Int:=[1,2,8,3,4,5,6,7,9,11,10,17,18,19,22,23,20,21,12,13,14,24,15,25,16,26]
abbrev Yo (k:Int):List SB:=[.eq (.aK 4) (.lit k)]
abbrev No (k:Int):List SB:=(ops.filter fun j=>!(j == k)).map fun j=> .eq (.aK 4) (.lit j)
abbrev p3:T Lf:=prune (YG++YA3) (NG++NA3) kR
abbrev p4:T Lf:=prune (YG++YA4) (NG++NA4) kR
abbrev p5:T Lf:=prune (YG++YA5) (NG++NA5) kR
abbrev p6:T Lf:=prune (YG++YA6) (NG++NA6) kR
section
variable {d0 d1 s r v:D} {th op obj arg tries o c dn g:Int}
theorem ahV {ρ:Nat→Int}: ∀{l:List SB},(∀c∈l,¬c.den ρ=true)→zW ρ l
 | [],_=>trivial
 | c :: l,h=> ⟨h c (by simp),ahV fun x hx=>h x (List.mem_cons_of_mem _ hx)⟩
theorem fO (k:Int):zY (dH d0 d1 s th k obj arg tries) (Yo k)∧zW (dH d0 d1 s th k obj arg tries) (No k):=by refine⟨by simp only [zz],ahV fun c hc=>?_⟩;obtain⟨j,hj,rfl⟩:=List.mem_map.1 hc;have:=(List.mem_filter.1 hj).2;simp only [zz];intro h;subst h;simp at this
theorem sp3 (H:TH d0 d1 s th op obj arg tries o c dn g r v) (hr:0 < r.l.length) (hv:0 < v.l.length):dX (dH d0 d1 s th op obj arg tries) p3=dX (dH d0 d1 s th op obj arg tries) kR:=dJ (z2 (fG H) (fA3 H hr hv)) kR
theorem sp4 (H:TH d0 d1 s th op obj arg tries o c dn g r v) (hr:0 < r.l.length) (hv:v.l= []):dX (dH d0 d1 s th op obj arg tries) p4=dX (dH d0 d1 s th op obj arg tries) kR:=dJ (z2 (fG H) (fA4 H hr hv)) kR
theorem sp5 (H:TH d0 d1 s th op obj arg tries o c dn g r v) (hr:r.l= []) (hv:0 < v.l.length):dX (dH d0 d1 s th op obj arg tries) p5=dX (dH d0 d1 s th op obj arg tries) kR:=dJ (z2 (fG H) (fA5 H hr hv)) kR
theorem sp6 (H:TH d0 d1 s th op obj arg tries o c dn g r v) (hr:r.l= []) (hv:v.l= []):dX (dH d0 d1 s th op obj arg tries) p6=dX (dH d0 d1 s th op obj arg tries) kR:=dJ (z2 (fG H) (fA6 H hr hv)) kR
theorem kM {k:Int} {t u:T Lf} {Q:RS} (e:prune (Yo k) (No k) t=u) (h:dX (dH d0 d1 s th k obj arg tries) u=Q):dX (dH d0 d1 s th k obj arg tries) t=Q:=by rw [← dJ (fO k) t,e,h]
theorem kN (H:TH d0 d1 s th op obj arg tries o c dn g r v) {u:T Lf} {Q:RS} (e3:prune (Yo op) (No op) p3=u) (e4:prune (Yo op) (No op) p4=u) (e5:prune (Yo op) (No op) p5=u) (e6:prune (Yo op) (No op) p6=u) (h:dX (dH d0 d1 s th op obj arg tries) u=Q):dX (dH d0 d1 s th op obj arg tries) kR=Q:=by
 rcases lC r.l with hr | hr <;> rcases lC v.l with hv | hv
 ·exact (sp6 H hr hv).symm.trans (kM e6 h)
 ·exact (sp5 H hr hv).symm.trans (kM e5 h)
 ·exact (sp4 H hr hv).symm.trans (kM e4 h)
 ·exact (sp3 H hr hv).symm.trans (kM e3 h)
theorem o1 (H:TH d0 d1 s th 1 obj arg tries o c dn g r v):dX (dH d0 d1 s th 1 obj arg tries) kR=Gl d0 s th 1 obj arg tries o c dn g r v:=kN H (u:=zt0) (by kernel_rfl) (by kernel_rfl) (by kernel_rfl) (by kernel_rfl) (sm0 H)
theorem o2 (H:TH d0 d1 s th 2 obj arg tries o c dn g r v):dX (dH d0 d1 s th 2 obj arg tries) kR=Gl d0 s th 2 obj arg tries o c dn g r v:=kN H (u:=zt1) (by kernel_rfl) (by kernel_rfl) (by kernel_rfl) (by kernel_rfl) (sm1 H)
theorem o8 (H:TH d0 d1 s th 8 obj arg tries o c dn g r v):dX (dH d0 d1 s th 8 obj arg tries) kR=Gl d0 s th 8 obj arg tries o c dn g r v:=kN H (u:=zt1) (by kernel_rfl) (by kernel_rfl) (by kernel_rfl) (by kernel_rfl) (sm2 H)
theorem o3 (H:TH d0 d1 s th 3 obj arg tries o c dn g r v):dX (dH d0 d1 s th 3 obj arg tries) kR=Gl d0 s th 3 obj arg tries o c dn g r v:=kN H (u:=zt2) (by kernel_rfl) (by kernel_rfl) (by kernel_rfl) (by kernel_rfl) (sm3 H)
theorem o4 (H:TH d0 d1 s th 4 obj arg tries o c dn g r v):dX (dH d0 d1 s th 4 obj arg tries) kR=Gl d0 s th 4 obj arg tries o c dn g r v:=kN H (u:=zt3) (by kernel_rfl) (by kernel_rfl) (by kernel_rfl) (by kernel_rfl) (sm4 H)
theorem o5 (H:TH d0 d1 s th 5 obj arg tries o c dn g r v):dX (dH d0 d1 s th 5 obj arg tries) kR=Gl d0 s th 5 obj arg tries o c dn g r v:=by
 rcases lC r.l with hr | hr <;> rcases lC v.l with hv | hv
 ·exact (sp6 H hr hv).symm.trans (kM (u:=aAw) (by kernel_rfl) (aC2 H hr))
 ·exact (sp5 H hr hv).symm.trans (kM (u:=aAw) (by kernel_rfl) (aC2 H hr))
 ·exact (sp4 H hr hv).symm.trans (kM (u:=zt4) (by kernel_rfl) (sm5 H hr))
 ·exact (sp3 H hr hv).symm.trans (kM (u:=zt4) (by kernel_rfl) (sm5 H hr))
theorem o6 (H:TH d0 d1 s th 6 obj arg tries o c dn g r v):dX (dH d0 d1 s th 6 obj arg tries) kR=Gl d0 s th 6 obj arg tries o c dn g r v:=by
 rcases lC r.l with hr | hr <;> rcases lC v.l with hv | hv
 ·exact (sp6 H hr hv).symm.trans (kM (u:=zt5) (by kernel_rfl) (sm6 H (by rw [Dn hr]; omega)))
 ·exact (sp5 H hr hv).symm.trans (kM (u:=zt5) (by kernel_rfl) (sm6 H (by rw [Dn hr]; omega)))
 ·by_cases hk:place r th < 0
  ·exact (sp4 H hr hv).symm.trans ((dJ (fK0 H hk) _).symm.trans (kM (u:=zt5) (by kernel_rfl) (sm6 H hk)))
  ·exact (sp4 H hr hv).symm.trans ((dJ (fK1 H hk) _).symm.trans (kM (u:=zt6) (by kernel_rfl) (sm7 H hr hk)))
 ·by_cases hk:place r th < 0
  ·exact (sp3 H hr hv).symm.trans ((dJ (fK0 H hk) _).symm.trans (kM (u:=zt5) (by kernel_rfl) (sm6 H hk)))
  ·exact (sp3 H hr hv).symm.trans ((dJ (fK1 H hk) _).symm.trans (kM (u:=zt6) (by kernel_rfl) (sm7 H hr hk)))
theorem o7 (H:TH d0 d1 s th 7 obj arg tries o c dn g r v):dX (dH d0 d1 s th 7 obj arg tries) kR=Gl d0 s th 7 obj arg tries o c dn g r v:=by
 rcases lC r.l with hr | hr <;> rcases lC v.l with hv | hv
 ·exact (sp6 H hr hv).symm.trans (kM (u:=zt0) (by kernel_rfl) (aC1 H hr))
 ·exact (sp5 H hr hv).symm.trans (kM (u:=zt0) (by kernel_rfl) (aC1 H hr))
 ·exact (sp4 H hr hv).symm.trans (kM (u:=zt7) (by kernel_rfl) (sm8 H hr))
 ·exact (sp3 H hr hv).symm.trans (kM (u:=zt7) (by kernel_rfl) (sm8 H hr))
theorem o9 (H:TH d0 d1 s th 9 obj arg tries o c dn g r v):dX (dH d0 d1 s th 9 obj arg tries) kR=Gl d0 s th 9 obj arg tries o c dn g r v:=kN H (u:=zt8) (by kernel_rfl) (by kernel_rfl) (by kernel_rfl) (by kernel_rfl) (sm9 H)
theorem o11 (H:TH d0 d1 s th 11 obj arg tries o c dn g r v):dX (dH d0 d1 s th 11 obj arg tries) kR=Gl d0 s th 11 obj arg tries o c dn g r v:=kN H (u:=zt9) (by kernel_rfl) (by kernel_rfl) (by kernel_rfl) (by kernel_rfl) (aFb H)
theorem o10 (H:TH d0 d1 s th 10 obj arg tries o c dn g r v):dX (dH d0 d1 s th 10 obj arg tries) kR=Gl d0 s th 10 obj arg tries o c dn g r v:=kN H (u:=aCJ) (by kernel_rfl) (by kernel_rfl) (by kernel_rfl) (by kernel_rfl) (aFa H)
theorem o17 (H:TH d0 d1 s th 17 obj arg tries o c dn g r v):dX (dH d0 d1 s th 17 obj arg tries) kR=Gl d0 s th 17 obj arg tries o c dn g r v:=kN H (u:=aCI) (by kernel_rfl) (by kernel_rfl) (by kernel_rfl) (by kernel_rfl) (aE9 H)
theorem o18 (H:TH d0 d1 s th 18 obj arg tries o c dn g r v):dX (dH d0 d1 s th 18 obj arg tries) kR=Gl d0 s th 18 obj arg tries o c dn g r v:=kN H (u:=aCH) (by kernel_rfl) (by kernel_rfl) (by kernel_rfl) (by kernel_rfl) (aE8 H)
theorem o19 (H:TH d0 d1 s th 19 obj arg tries o c dn g r v):dX (dH d0 d1 s th 19 obj arg tries) kR=Gl d0 s th 19 obj arg tries o c dn g r v:=kN H (u:=aCG) (by kernel_rfl) (by kernel_rfl) (by kernel_rfl) (by kernel_rfl) (aE7 H)
theorem o22 (H:TH d0 d1 s th 22 obj arg tries o c dn g r v):dX (dH d0 d1 s th 22 obj arg tries) kR=Gl d0 s th 22 obj arg tries o c dn g r v:=kN H (u:=aCF) (by kernel_rfl) (by kernel_rfl) (by kernel_rfl) (by kernel_rfl) (aE6 H)
theorem o23 (H:TH d0 d1 s th 23 obj arg tries o c dn g r v):dX (dH d0 d1 s th 23 obj arg tries) kR=Gl d0 s th 23 obj arg tries o c dn g r v:=kN H (u:=aCE) (by kernel_rfl) (by kernel_rfl) (by kernel_rfl) (by kernel_rfl) (aE5 H)
theorem o20 (H:TH d0 d1 s th 20 obj arg tries o c dn g r v):dX (dH d0 d1 s th 20 obj arg tries) kR=Gl d0 s th 20 obj arg tries o c dn g r v:=by
 rcases lC r.l with hr | hr <;> rcases lC v.l with hv | hv
 ·exact (sp6 H hr hv).symm.trans (kM (u:=aAy) (by kernel_rfl) (aC4 H hv))
 ·exact (sp5 H hr hv).symm.trans (kM (u:=aAD) (by kernel_rfl) (aC9 H hv))
 ·exact (sp4 H hr hv).symm.trans (kM (u:=aAy) (by kernel_rfl) (aC4 H hv))
 ·exact (sp3 H hr hv).symm.trans (kM (u:=aAD) (by kernel_rfl) (aC9 H hv))
theorem o21 (H:TH d0 d1 s th 21 obj arg tries o c dn g r v):dX (dH d0 d1 s th 21 obj arg tries) kR=Gl d0 s th 21 obj arg tries o c dn g r v:=by
 rcases lC r.l with hr | hr <;> rcases lC v.l with hv | hv
 ·exact (sp6 H hr hv).symm.trans (kM (u:=aAx) (by kernel_rfl) (aC3 H hv))
 ·exact (sp5 H hr hv).symm.trans (kM (u:=aAC) (by kernel_rfl) (aC8 H hv))
 ·exact (sp4 H hr hv).symm.trans (kM (u:=aAx) (by kernel_rfl) (aC3 H hv))
 ·exact (sp3 H hr hv).symm.trans (kM (u:=aAC) (by kernel_rfl) (aC8 H hv))
theorem o12 (H:TH d0 d1 s th 12 obj arg tries o c dn g r v):dX (dH d0 d1 s th 12 obj arg tries) kR=Gl d0 s th 12 obj arg tries o c dn g r v:=by
 rcases lC r.l with hr | hr <;> rcases lC v.l with hv | hv
 ·have hd:=awF r th obj (Mx d0 obj) (enc (dL (dY s.l (Mx d0 obj) (dL (dY (s.at (Mx d0 obj)).l 0 (.i (-1))))))) 12 arg tries o c dn g (enc v);exact (sp6 H hr hv).symm.trans ((dJ (fM H (by omega)) _).symm.trans ((dJ (aFE H hd) _).symm.trans (kM (u:=aAv) (by kernel_rfl) (aC0 H hr))))
 ·have hd:=awG r th obj (Mx d0 obj) (enc (dL (dY s.l (Mx d0 obj) (dL (dY (s.at (Mx d0 obj)).l 0 (.i (-1))))))) 12 arg tries o c dn g (enc v);exact (sp5 H hr hv).symm.trans ((dJ (fM H (by omega)) _).symm.trans ((dJ (aFF H hd) _).symm.trans (kM (u:=aAv) (by kernel_rfl) (aC0 H hr))))
 ·rcases awH r th (by have:=H.hr; omega) H.hn with ⟨hw,hd⟩ | hd
  ·have hd:=hd obj (Mx d0 obj) (enc (dL (dY s.l (Mx d0 obj) (dL (dY (s.at (Mx d0 obj)).l 0 (.i (-1))))))) 12 arg tries o c dn g (enc v);exact (sp4 H hr hv).symm.trans ((dJ (fM H (by omega)) _).symm.trans ((dJ (aFG H hd) _).symm.trans (kM (u:=aAB) (by kernel_rfl) (aC7 H hr hw))))
  ·obtain⟨n,r1,hn,hl,hw,hd⟩:=hd obj (Mx d0 obj) (enc (dL (dY s.l (Mx d0 obj) (dL (dY (s.at (Mx d0 obj)).l 0 (.i (-1))))))) 12 arg tries o c dn g (enc v);exact (sp4 H hr hv).symm.trans ((dJ (fM H (by omega)) _).symm.trans ((dJ (aFH H hn hl hd) _).symm.trans (kM (u:=aCy) (by kernel_rfl) (aEZ H hr hv hn hl hw hd))))
 ·rcases awI r th (by have:=H.hr; omega) H.hn with ⟨hw,hd⟩ | hd
  ·have hd:=hd obj (Mx d0 obj) (enc (dL (dY s.l (Mx d0 obj) (dL (dY (s.at (Mx d0 obj)).l 0 (.i (-1))))))) 12 arg tries o c dn g (enc v);exact (sp3 H hr hv).symm.trans ((dJ (fM H (by omega)) _).symm.trans ((dJ (aFI H hd) _).symm.trans (kM (u:=aAB) (by kernel_rfl) (aC7 H hr hw))))
  ·obtain⟨n,r1,hn,hl,hw,hd⟩:=hd obj (Mx d0 obj) (enc (dL (dY s.l (Mx d0 obj) (dL (dY (s.at (Mx d0 obj)).l 0 (.i (-1))))))) 12 arg tries o c dn g (enc v);exact (sp3 H hr hv).symm.trans ((dJ (fM H (by omega)) _).symm.trans ((dJ (aFJ H hn hl hd) _).symm.trans (kM (u:=aCD) (by kernel_rfl) (aE4 H hr hv hn hl hw hd))))
theorem o13 (H:TH d0 d1 s th 13 obj arg tries o c dn g r v):dX (dH d0 d1 s th 13 obj arg tries) kR=Gl d0 s th 13 obj arg tries o c dn g r v:=by
 rcases lC r.l with hr | hr <;> rcases lC v.l with hv | hv
 ·exact (sp6 H hr hv).symm.trans (kM (u:=aAu) (by kernel_rfl) (aCZ H hr))
 ·exact (sp5 H hr hv).symm.trans (kM (u:=aAu) (by kernel_rfl) (aCZ H hr))
 ·exact (sp4 H hr hv).symm.trans (kM (u:=aAA) (by kernel_rfl) (aC6 H hr))
 ·exact (sp3 H hr hv).symm.trans (kM (u:=aAA) (by kernel_rfl) (aC6 H hr))
theorem o14 (H:TH d0 d1 s th 14 obj arg tries o c dn g r v):dX (dH d0 d1 s th 14 obj arg tries) kR=Gl d0 s th 14 obj arg tries o c dn g r v:=by
 rcases lC r.l with hr | hr <;> rcases lC v.l with hv | hv
 ·exact (sp6 H hr hv).symm.trans (kM (u:=aAt) (by kernel_rfl) (aCY H hr))
 ·exact (sp5 H hr hv).symm.trans (kM (u:=aAt) (by kernel_rfl) (aCY H hr))
 ·exact (sp4 H hr hv).symm.trans (kM (u:=aAz) (by kernel_rfl) (aC5 H hr))
 ·exact (sp3 H hr hv).symm.trans (kM (u:=aAz) (by kernel_rfl) (aC5 H hr))
theorem o24 (H:TH d0 d1 s th 24 obj arg tries o c dn g r v):dX (dH d0 d1 s th 24 obj arg tries) kR=Gl d0 s th 24 obj arg tries o c dn g r v:=by
 rcases lC r.l with hr | hr <;> rcases lC v.l with hv | hv
 ·exact (sp6 H hr hv).symm.trans ((dJ (fM H (by omega)) _).symm.trans (kM (u:=ahS) (by kernel_rfl) (asX H)))
 ·exact (sp5 H hr hv).symm.trans ((dJ (fM H (by omega)) _).symm.trans (kM (u:=ahS) (by kernel_rfl) (asX H)))
 ·exact (sp4 H hr hv).symm.trans ((dJ (fM H (by omega)) _).symm.trans (kM (u:=ahS) (by kernel_rfl) (asX H)))
 ·exact (sp3 H hr hv).symm.trans ((dJ (fM H (by omega)) _).symm.trans (kM (u:=ahS) (by kernel_rfl) (asX H)))
theorem o15 (H:TH d0 d1 s th 15 obj arg tries o c dn g r v):dX (dH d0 d1 s th 15 obj arg tries) kR=Gl d0 s th 15 obj arg tries o c dn g r v:=kN H (u:=aCC) (by kernel_rfl) (by kernel_rfl) (by kernel_rfl) (by kernel_rfl) (aE3 H)
theorem o25 (H:TH d0 d1 s th 25 obj arg tries o c dn g r v):dX (dH d0 d1 s th 25 obj arg tries) kR=Gl d0 s th 25 obj arg tries o c dn g r v:=kN H (u:=aCB) (by kernel_rfl) (by kernel_rfl) (by kernel_rfl) (by kernel_rfl) (aE2 H)
theorem o16 (H:TH d0 d1 s th 16 obj arg tries o c dn g r v):dX (dH d0 d1 s th 16 obj arg tries) kR=Gl d0 s th 16 obj arg tries o c dn g r v:=kN H (u:=aCA) (by kernel_rfl) (by kernel_rfl) (by kernel_rfl) (by kernel_rfl) (aE1 H)
theorem o26 (H:TH d0 d1 s th 26 obj arg tries o c dn g r v):dX (dH d0 d1 s th 26 obj arg tries) kR=Gl d0 s th 26 obj arg tries o c dn g r v:=kN H (u:=aCz) (by kernel_rfl) (by kernel_rfl) (by kernel_rfl) (by kernel_rfl) (aE0 H)
theorem arW (H:TH d0 d1 s th op obj arg tries o c dn g r v) (hop:op∈ops):L 400 [enc d0,enc d1,enc s,th,op,obj,arg,tries]=some (outA s th op obj (Mx d0 obj) (act (Mx d0 obj) (Mo d0 s obj) th op arg tries o c dn g r v)):=by
 rw [aQ,aCp]
 suffices h:dX (dH d0 d1 s th op obj arg tries) kR=Gl d0 s th op obj arg tries o c dn g r v by rw [h]; rfl
 unfold ops at hop;simp only [List.mem_cons,List.not_mem_nil,or_false] at hop;rcases hop with rfl | rfl | rfl | rfl | rfl | rfl | rfl | rfl | rfl | rfl | rfl | rfl | rfl | rfl | rfl | rfl | rfl | rfl | rfl | rfl | rfl | rfl | rfl | rfl | rfl | rfl
 ·exact o1 H
 ·exact o2 H
 ·exact o8 H
 ·exact o3 H
 ·exact o4 H
 ·exact o5 H
 ·exact o6 H
 ·exact o7 H
 ·exact o9 H
 ·exact o11 H
 ·exact o10 H
 ·exact o17 H
 ·exact o18 H
 ·exact o19 H
 ·exact o22 H
 ·exact o23 H
 ·exact o20 H
 ·exact o21 H
 ·exact o12 H
 ·exact o13 H
 ·exact o14 H
 ·exact o24 H
 ·exact o15 H
 ·exact o25 H
 ·exact o16 H
 ·exact o26 H
end
end Go.As.Try
end
section
namespace Go.As.Try
open Go hiding Stat Spec shape
open Go.As
set_option maxRecDepth 100000
abbrev alN:T Lf:=ou [.op .set (bF 2) (thg (mk (bF 3)) (mk (bF 4)) bt (mk (bF 6)) (bF 7) (bF 8)),.lit 0,.lit 0,.lit 0,.lit 0,.lit 0,.lit 0]
abbrev Ya (a:Int):List SB:=[.eq (a0 9000 [.aK 5,.aK 2]) (.lit 1),.eq (bF 0) (.lit a),.eq (a0 350 [.aK 0,.aK 1,.aK 2]) (.lit 1)]
abbrev Na (a:Int):List SB:=([0,1,2,3,4,5].filter fun j=>!(j == a)).map fun j=> .eq (bF 0) (.lit j)
abbrev r3:SB:=.eq (rr 350 [.aK 0,.aK 1,.aK 2] 0) (.lit 0)
abbrev t3:SB:=.lt (.aK 3) (.lit 0)
abbrev u3:SB:=.lt (.aK 3) (ln (.aK 1))
section
variable {d0 d1 s r v:D} {th op obj arg tries o c dn g b kop a:Int} (hR:L 350 [enc d0,enc d1,enc s]=some [b])
include hR
theorem fa {l:List Int} (hc:L 9000 [obj,enc s]=some (a :: l)):zY (dH d0 d1 s th op obj arg tries) (Ya a)∧zW (dH d0 d1 s th op obj arg tries) (Na a):=by refine⟨by simp only [zz,hc,hR],ahV fun c hc'=>?_⟩;obtain⟨j,hj,rfl⟩:=List.mem_map.1 hc';have:=(List.mem_filter.1 hj).2;simp only [zz,hc];intro h;subst h;simp at this
theorem xO (k:dX (dH d0 d1 s th op obj arg tries) kR= .out [enc s,0,0,0,0,0,0]):L 400 [enc d0,enc d1,enc s,th,op,obj,arg,tries]=some [enc s,0,0,0,0,0,0]:=by rw [aQ,aCp];exact congrArg (fin L) k
section
variable (ha:a=3∨a=4∨a=5∨a=6) (hcp:L 9000 [obj,enc s]=some [a,obj,enc s,o,c,dn,g,enc r,enc v]) (BP:0≤obj) (BO:obj < (s.l.length:Int)) (hd:dn=0∨dn=1) (hs:s=dL (dY s.l obj (dL [.i o,.i c,.i dn,.i g,r,v])))
include ha hcp BP BO hd hs
omit ha hR BP BO in
theorem Kv:dX (dH d0 d1 s th op obj arg tries) alN= .out [enc s,0,0,0,0,0,0]:=by
 have e:(if dn=0 then (0:Int) else 1)=dn:=by rcases hd with rfl | rfl <;> rfl
 simp only [dL] at hs;simp only [zz,hcp,e,← hs]
theorem aFf (h:b=0):L 400 [enc d0,enc d1,enc s,th,op,obj,arg,tries]=some [enc s,0,0,0,0,0,0]:=
 xO hR (aW (Ya a++ [r3]) (Na a++ []) alN (z2 (fa hR hcp) (by simp only [zz,hcp,hR] <;> omega)) (by rcases ha with rfl | rfl | rfl | rfl <;> kernel_rfl) (Kv hcp hd hs))
theorem aFe (hb:b≠0) (h:th < 0):L 400 [enc d0,enc d1,enc s,th,op,obj,arg,tries]=some [enc s,0,0,0,0,0,0]:=
 xO hR (aW (Ya a++ [t3]) (Na a++ [r3]) alN (z2 (fa hR hcp) (by simp only [zz,hcp,hR] <;> omega)) (by rcases ha with rfl | rfl | rfl | rfl <;> kernel_rfl) (Kv hcp hd hs))
theorem aFd (hb:b≠0) (h0:0≤th) (h: ¬th < (d1.l.length:Int)):L 400 [enc d0,enc d1,enc s,th,op,obj,arg,tries]=some [enc s,0,0,0,0,0,0]:=
 xO hR (aW (Ya a++ []) (Na a++ [r3,t3,u3]) alN (z2 (fa hR hcp) (by simp only [zz,hcp,hR] <;> omega)) (by rcases ha with rfl | rfl | rfl | rfl <;> kernel_rfl) (Kv hcp hd hs))
theorem aFg (hb:b≠0) (h0:0≤th) (h:th < (d1.l.length:Int)) (hk:L 600 [op]=some [kop]) (hlen:s.l.length=d0.l.length) (hne: ¬kop=((d0.at obj).hd 0).n):L 400 [enc d0,enc d1,enc s,th,op,obj,arg,tries]=some [enc s,0,0,0,0,0,0]:=
 xO hR (aW (Ya a++ [u3,.lt (.aK 5) (ln (bF 2)),.eq (a0 600 [.aK 4]) (.lit 1),.lt (.aK 5) (ln (.aK 0))]) (Na a++ [r3,t3,.lt (.aK 5) (.lit 0),.eq (rr 600 [.aK 4] 0) (nm (ce 0 (el (.aK 0) (.aK 5))))]) alN (z2 (fa hR hcp) (by simp only [zz,hcp,hR,hk] <;> omega)) (by rcases ha with rfl | rfl | rfl | rfl <;> kernel_rfl) (Kv hcp hd hs))
end
theorem aDk (hcp:L 9000 [obj,enc s]=some [0,obj,enc s]) (h:obj < 0):L 400 [enc d0,enc d1,enc s,th,op,obj,arg,tries]=some [enc s,0,0,0,0,0,0]:=
 xO hR (aW (Ya 0++ [.lt (.aK 5) (.lit 0)]) (Na 0++ []) (sp r3 (ou [bF 2,.lit 0,.lit 0,.lit 0,.lit 0,.lit 0,.lit 0]) (sp t3 (ou [bF 2,.lit 0,.lit 0,.lit 0,.lit 0,.lit 0,.lit 0]) (sp u3 (ou [bF 2,.lit 0,.lit 0,.lit 0,.lit 0,.lit 0,.lit 0]) (ou [bF 2,.lit 0,.lit 0,.lit 0,.lit 0,.lit 0,.lit 0])))) (z2 (fa hR hcp) (by simp only [zz,hcp] <;> omega)) (by kernel_rfl) (by simp only [zz,hcp,hR,ite_self]))
theorem aDj (hcp:L 9000 [obj,enc s]=some [0,obj,enc s]) (h0:0≤obj) (h: ¬obj < (s.l.length:Int)):L 400 [enc d0,enc d1,enc s,th,op,obj,arg,tries]=some [enc s,0,0,0,0,0,0]:=
 xO hR (aW (Ya 0++ []) (Na 0++ [.lt (.aK 5) (.lit 0),.lt (.aK 5) (ln (bF 2))]) (sp r3 (ou [bF 2,.lit 0,.lit 0,.lit 0,.lit 0,.lit 0,.lit 0]) (sp t3 (ou [bF 2,.lit 0,.lit 0,.lit 0,.lit 0,.lit 0,.lit 0]) (sp u3 (ou [bF 2,.lit 0,.lit 0,.lit 0,.lit 0,.lit 0,.lit 0]) (ou [bF 2,.lit 0,.lit 0,.lit 0,.lit 0,.lit 0,.lit 0])))) (z2 (fa hR hcp) (by simp only [zz,hcp] <;> omega)) (by kernel_rfl) (by simp only [zz,hcp,hR,ite_self]))
theorem aDi (hcp:L 9000 [obj,enc s]=some [1,obj]) (h:obj < 0) (hs:s= .i 1):L 400 [enc d0,enc d1,enc s,th,op,obj,arg,tries]=some [enc s,0,0,0,0,0,0]:=
 xO hR (aW (Ya 1++ [.lt (.aK 5) (.lit 0)]) (Na 1++ []) (sp r3 (ou [.dat (.i 1),.lit 0,.lit 0,.lit 0,.lit 0,.lit 0,.lit 0]) (sp t3 (ou [.dat (.i 1),.lit 0,.lit 0,.lit 0,.lit 0,.lit 0,.lit 0]) (sp u3 (ou [.dat (.i 1),.lit 0,.lit 0,.lit 0,.lit 0,.lit 0,.lit 0]) (ou [.dat (.i 1),.lit 0,.lit 0,.lit 0,.lit 0,.lit 0,.lit 0])))) (z2 (fa hR hcp) (by simp only [zz,hcp] <;> omega)) (by kernel_rfl) (by simp only [zz,hcp,hR,hs,ite_self]))
theorem aDh (hcp:L 9000 [obj,enc s]=some [1,obj]) (h0:0≤obj) (h: ¬obj < (s.l.length:Int)) (hs:s= .i 1):L 400 [enc d0,enc d1,enc s,th,op,obj,arg,tries]=some [enc s,0,0,0,0,0,0]:=
 xO hR (aW (Ya 1++ []) (Na 1++ [.lt (.aK 5) (.lit 0)]) (sp r3 (ou [.dat (.i 1),.lit 0,.lit 0,.lit 0,.lit 0,.lit 0,.lit 0]) (sp t3 (ou [.dat (.i 1),.lit 0,.lit 0,.lit 0,.lit 0,.lit 0,.lit 0]) (sp u3 (ou [.dat (.i 1),.lit 0,.lit 0,.lit 0,.lit 0,.lit 0,.lit 0]) (ou [.dat (.i 1),.lit 0,.lit 0,.lit 0,.lit 0,.lit 0,.lit 0])))) (z2 (fa hR hcp) (by simp only [zz,hcp] <;> omega)) (by kernel_rfl) (by simp only [zz,hcp,hR,hs,ite_self]))
theorem aDg (hcp:L 9000 [obj,enc s]=some [2,obj]) (h:obj < 0) (hs:s= .i 2):L 400 [enc d0,enc d1,enc s,th,op,obj,arg,tries]=some [enc s,0,0,0,0,0,0]:=
 xO hR (aW (Ya 2++ [.lt (.aK 5) (.lit 0)]) (Na 2++ []) (sp r3 (ou [.dat (.i 2),.lit 0,.lit 0,.lit 0,.lit 0,.lit 0,.lit 0]) (sp t3 (ou [.dat (.i 2),.lit 0,.lit 0,.lit 0,.lit 0,.lit 0,.lit 0]) (sp u3 (ou [.dat (.i 2),.lit 0,.lit 0,.lit 0,.lit 0,.lit 0,.lit 0]) (ou [.dat (.i 2),.lit 0,.lit 0,.lit 0,.lit 0,.lit 0,.lit 0])))) (z2 (fa hR hcp) (by simp only [zz,hcp] <;> omega)) (by kernel_rfl) (by simp only [zz,hcp,hR,hs,ite_self]))
theorem aDf (hcp:L 9000 [obj,enc s]=some [2,obj]) (h0:0≤obj) (h: ¬obj < (s.l.length:Int)) (hs:s= .i 2):L 400 [enc d0,enc d1,enc s,th,op,obj,arg,tries]=some [enc s,0,0,0,0,0,0]:=
 xO hR (aW (Ya 2++ []) (Na 2++ [.lt (.aK 5) (.lit 0)]) (sp r3 (ou [.dat (.i 2),.lit 0,.lit 0,.lit 0,.lit 0,.lit 0,.lit 0]) (sp t3 (ou [.dat (.i 2),.lit 0,.lit 0,.lit 0,.lit 0,.lit 0,.lit 0]) (sp u3 (ou [.dat (.i 2),.lit 0,.lit 0,.lit 0,.lit 0,.lit 0,.lit 0]) (ou [.dat (.i 2),.lit 0,.lit 0,.lit 0,.lit 0,.lit 0,.lit 0])))) (z2 (fa hR hcp) (by simp only [zz,hcp] <;> omega)) (by kernel_rfl) (by simp only [zz,hcp,hR,hs,ite_self]))
end
end Go.As.Try
end
section
namespace Go.As.Try
open Go hiding Stat Spec shape
open Go.As
set_option maxRecDepth 100000
def kindOf (o:Int):Int:=if o < 27 then (if o=0 then 0 else if o=1 then 1 else if o=2 then 1 else if o=3 then 1 else if o=4 then 1 else if o=5 then 2 else if o=6 then 2 else if o=7 then 2 else if o=8 then 2 else if o=9 then 3 else if o=10 then 3 else if o=11 then 3 else if o=12 then 4 else if o=13 then 4 else if o=14 then 4 else if o=15 then 5 else if o=16 then 6 else if o=17 then 7 else if o=18 then 7 else if o=19 then 7 else if o=20 then 8 else if o=21 then 8 else if o=22 then 9 else if o=23 then 9 else if o=24 then 4 else if o=25 then 5 else 6) else 0
theorem WW (o:Int) (h:iP .u8 o):L 600 [o]=some [kindOf o]:=by
 have h1:=h.1;have w:=aCM h;have c1: ¬(o < 0):=by omega
 rw [aQ,aEy];simp only [aAP,zz,w,c1];by_cases h27:o < 27
 ·simp only [if_pos h27];have:o=0∨o=1∨o=2∨o=3∨o=4∨o=5∨o=6∨o=7∨o=8∨o=9∨o=10∨o=11∨o=12∨o=13∨o=14∨o=15∨o=16∨o=17∨o=18∨o=19∨o=20∨o=21∨o=22∨o=23∨o=24∨o=25∨o=26:=by omega
  rcases this with rfl | rfl | rfl | rfl | rfl | rfl | rfl | rfl | rfl | rfl | rfl | rfl | rfl | rfl | rfl | rfl | rfl | rfl | rfl | rfl | rfl | rfl | rfl | rfl | rfl | rfl | rfl
  all_goals rfl
 ·simp only [if_neg h27];unfold kindOf;rw [if_neg h27];rfl
theorem amF {o:Int} (h0:0≤o) (h:kindOf o≠0):o∈ops:=by
 have h27:o < 27:=by refine Decidable.byContradiction fun hn=>h ?_;unfold kindOf;rw [if_neg hn]
 have:o=0∨o=1∨o=2∨o=3∨o=4∨o=5∨o=6∨o=7∨o=8∨o=9∨o=10∨o=11∨o=12∨o=13∨o=14∨o=15∨o=16∨o=17∨o=18∨o=19∨o=20∨o=21∨o=22∨o=23∨o=24∨o=25∨o=26:=by omega
 rcases this with rfl | rfl | rfl | rfl | rfl | rfl | rfl | rfl | rfl | rfl | rfl | rfl | rfl | rfl | rfl | rfl | rfl | rfl | rfl | rfl | rfl | rfl | rfl | rfl | rfl | rfl | rfl
 all_goals first | exact absurd rfl h | decide
structure Acc (d0 d1 s:D) (th op obj:Int):Prop where
 r:L 350 [enc d0,enc d1,enc s]=some [1]
 t0:0≤th
 t1:th < (d1.l.length:Int)
 o0:0≤obj
 o1:obj < (s.l.length:Int)
 k:kindOf op=((d0.at obj).hd 0).n
structure Tg (x:D) (o c dn g:Int) (r v:D):Prop where
 is:x=dL [.i o,.i c,.i dn,.i g,r,v]
 ho:iP .i64 o
 hc:iP .i64 c
 hd:dn=0∨dn=1
 hg:iP .i64 g
 hr:Wd (.sl 0) r
 hv:Wd (.sl 0) v
theorem Lm {x:D} (h:Dx x): ∃o c dn g r v,Tg x o c dn g r v:=by obtain⟨o,c,d,g,r,v,h1,h2,h3,h4,h5,h6,h7⟩:=h;exact⟨o,c,d,g,r,v,h1,h2,h3,h4,h5,h6,h7⟩
theorem arT {r:D} (h:Wd (.sl 0) r): ∀x∈r.l,x= .i x.n:=by intro x hx;obtain⟨n,rfl,_⟩:=(h.el1 rfl x hx).i;rfl
def few (s:D):Prop:= ∀x∈s.l,(x.hd 4).l.length < 17592186044415∧(x.hd 5).l.length < 17592186044415
theorem few.rows {s:D} (h:few s):Iq s:=fun x hx=>by have:=(h x hx).1; omega
section
variable {d0 d1 s:D} {th op obj arg tries:Int} (h0:Wd (.sl 3) d0) (h1:Wd (.sl 4) d1) (hs:Wd (.sl 7) s) (hf:few s) (hop:iP .u8 op)
include h0 h1 hf in
theorem Md (h:L 350 [enc d0,enc d1,enc s]=some [1]):BG d0 d1∧s.l.length=d0.l.length:=by obtain⟨b,hb,_,hi⟩:=nH h0 h1 hf.rows;rw [h] at hb;simp only [Option.some.injEq,List.cons.injEq,and_true] at hb;obtain⟨hC,hle,_⟩:=hi.1 hb.symm;obtain⟨ys,hC',c,rfl,_,hok⟩:=yT h0 h1;rw [hC] at hC';simp only [Option.some.injEq,List.cons.injEq,and_true] at hC';exact⟨(hok hC'.symm).1,hle⟩
include h0 h1 hf in
theorem Vz (A:Acc d0 d1 s th op obj):acD d0 (d0.at obj)∧s.l.length=d0.l.length:=by
 obtain⟨hok,hle⟩:=Md h0 h1 hf A.r;refine⟨?_,hle⟩;have a1:=A.o0; have a2:=A.o1;obtain⟨i,rfl⟩ : ∃i:Nat,obj=(i:Int):=⟨obj.toNat,by omega⟩;have hi:i < d0.l.length:=by omega
 rw [aZ hi];exact hok.2.2 _ (List.getElem_mem hi)
include h0 h1 hs hf hop
theorem OV (A:Acc d0 d1 s th op obj) (h:op=12∨op=24):0≤Mx d0 obj∧Mx d0 obj < (s.l.length:Int)∧Mx d0 obj≠obj:=by
 obtain⟨ho,hle⟩:=Vz h0 h1 hf A
 have h4:((d0.at obj).hd 0).n=4:=by rw [← A.k];rcases h with rfl | rfl <;> rfl
 obtain⟨m1,m2,m3⟩:=ho.2.2.2.2.2 h4;refine⟨m1,by rw [hle]; exact m2,fun he=>?_⟩;have he:((d0.at obj).hd 2).n=obj:=he;rw [he,h4] at m3;omega
theorem Dc (A:Acc d0 d1 s th op obj):op∈ops∧∃o c dn g r v,Tg (s.at obj) o c dn g r v∧
 L 400 [enc d0,enc d1,enc s,th,op,obj,arg,tries]=some (outA s th op obj (Mx d0 obj) (act (Mx d0 obj) (Mo d0 s obj) th op arg tries o c dn g r v)):=by
 obtain⟨ho,hle⟩:=Vz h0 h1 hf A;have hin:op∈ops:=amF hop.1 (by rw [A.k]; have:=ho.1; omega);have a1:=A.o0; have a2:=A.o1;obtain⟨i,rfl⟩ : ∃i:Nat,obj=(i:Int):=⟨obj.toNat,by omega⟩;have hi:i < s.l.length:=by omega
 have ht:=Ee hs (by omega);obtain⟨o,c,dn,g,r,v,T⟩:=Lm (hs.thing _ (List.getElem_mem hi));have hfx:=hf _ (List.getElem_mem hi);rw [T.is] at hfx;have hkk:L 600 [op]=some [((d0.at (i:Int)).hd 0).n]:=by rw [WW op hop,A.k]
 refine⟨hin,o,c,dn,g,r,v,by rw [aZ hi]; exact T,?_⟩;refine arW ⟨aAl s ht i hi o c dn g r v T.is,aqS s hs,A.r,A.t0,A.t1,A.o0,A.o1,hle,hkk,?_,?_,(arT T.hr),fun h=>OV h0 h1 hs hf hop A h⟩ hin
 ·have:(r.l.length:Int) < 17592186044415:=Int.ofNat_lt.2 hfx.1;exact this
 ·have:(v.l.length:Int) < 17592186044415:=Int.ofNat_lt.2 hfx.2;exact this
theorem Lj (A: ¬Acc d0 d1 s th op obj):L 400 [enc d0,enc d1,enc s,th,op,obj,arg,tries]=some [enc s,0,0,0,0,0,0]:=by
 obtain⟨b,hb,hb2,_⟩:=nH h0 h1 hf.rows;by_cases ho:0≤obj∧obj < (s.l.length:Int)
 ·obtain⟨i,rfl⟩ : ∃i:Nat,obj=(i:Int):=⟨obj.toNat,by omega⟩;have hi:i < s.l.length:=by omega
  have ht:=Ee hs (by omega);obtain⟨o,c,dn,g,r,v,T⟩:=Lm (hs.thing _ (List.getElem_mem hi));have hcp:=aAl s ht i hi o c dn g r v T.is
  have hss:s=dL (dY s.l (i:Int) (dL [.i o,.i c,.i dn,.i g,r,v])):=by have:=set_self ht.sh hi;rw [T.is] at this;exact this.symm
  have hkk:=WW op hop
  have key: ∀alt:Int,(alt=3∨alt=4∨alt=5∨alt=6)→L 9000 [(i:Int),enc s]=some [alt,(i:Int),enc s,o,c,dn,g,enc r,enc v]→L 400 [enc d0,enc d1,enc s,th,op,(i:Int),arg,tries]=some [enc s,0,0,0,0,0,0]:=by
   intro alt ha hcp;by_cases hb0:b=0
   ·exact aFf hb ha hcp ho.1 ho.2 T.hd hss hb0
   ·have hb1:b=1:=by omega
    by_cases t0:th < 0
    ·exact aFe hb ha hcp ho.1 ho.2 T.hd hss hb0 t0
    ·by_cases t1:th < (d1.l.length:Int)
     ·have hne: ¬kindOf op=((d0.at (i:Int)).hd 0).n:=fun hk=>A ⟨by rw [hb,hb1],by omega,t1,ho.1,ho.2,hk⟩;obtain⟨_,hle⟩:=Md h0 h1 hf (by rw [hb,hb1]);exact aFg hb ha hcp ho.1 ho.2 T.hd hss hb0 (by omega) t1 hkk hle hne
     ·exact aFd hb ha hcp ho.1 ho.2 T.hd hss hb0 (by omega) t1
  refine key _ ?_ hcp;unfold pW;split <;> split <;> simp
 ·obtain⟨ys,hc,hys⟩:=copyN s hs obj (by omega);by_cases hn:obj < 0
  ·rcases hys with rfl | ⟨rfl,he⟩ | ⟨rfl,he⟩
   ·exact aDk hb hc hn
   ·exact aDi hb hc hn he
   ·exact aDg hb hc hn he
  ·rcases hys with rfl | ⟨rfl,he⟩ | ⟨rfl,he⟩
   ·exact aDj hb hc (by omega) (by omega)
   ·exact aDh hb hc (by omega) (by omega) he
   ·exact aDf hb hc (by omega) (by omega) he
end
end Go.As.Try
end
section
namespace Go.As.Try
open Go hiding Stat Spec shape
open Go.As
set_option maxRecDepth 100000
theorem J9 {d:D} {l:List D} (h: ∀x∈l,∃n,x= .i n∧iP .i64 n) (hl:l.length≤17592186043904):Wd (.sl 0) (iQ d l):=by
 cases l with
 | nil=>
   show Wd (.sl 0) (if d= .i 1 then .i 1 else .i 2);split
   ·exact .nil 0
   ·exact .non 0
 | cons a l=> refine .one 0 (.int .i64) (a :: l) rfl (by simp) (by have:yV 0=8:=rfl; rw [this]; omega) fun x hx=>?_;obtain⟨n,rfl,hn⟩:=h x hx;exact .int _ _ hn
theorem CZ {l:List D} (h: ∀x∈l,∃n,x= .i n∧iP .i64 n) (hn:l≠[]) (hl:l.length≤17592186043904):Wd (.sl 0) (dL l):=by rw [← G7 (d:=.i 2) hn];exact J9 h hl
theorem zA {r:D} (h:Wd (.sl 0) r): ∀x∈r.l,∃n,x= .i n∧iP .i64 n:=fun x hx=>(h.el1 rfl x hx).i
theorem wrap_in (z:Int):iP .i64 (IntKind.i64.wrap z):=by constructor <;> (rw [IntKind.wrap_i64]; omega)
def Pg (n:Nat):Act→Prop
 | .res o c dn g r v m _ oc=>iP .i64 o∧iP .i64 c∧(dn=0∨dn=1)∧iP .i64 g∧Wd (.sl 0) r∧r.l.length≤n∧Wd (.sl 0) v∧v.l.length≤n∧(∀q,m=some q→iP .i64 q)∧(oc=2∨oc=3)
 | _=>True
theorem Pg.ite {n:Nat} {p:Prop} [Decidable p] {a b:Act} (ha:Pg n a) (hb:Pg n b):Pg n (if p then a else b):=by
 split
 ·exact ha
 ·exact hb
def NoM:Act→Prop
 | .res _ _ _ _ _ _ m _ _=>m=none
 | _=>True
theorem NoM.ite {p:Prop} [Decidable p] {a b:Act} (ha:NoM a) (hb:NoM b):NoM (if p then a else b):=by
 split
 ·exact ha
 ·exact hb
section
variable {x:D} {M mo th op arg tries o c dn g:Int} {r v:D}
theorem arK (T:Tg x o c dn g r v) {n:Nat} (hr:r.l.length≤n) (hv:v.l.length≤n) (hn:n < 17592186043904) (ht:iP .i64 th) (ha:iP .i64 arg):Pg (n+1) (act M mo th op arg tries o c dn g r v):=by
 have hm:iP .i64 (-1):=⟨by omega,by omega⟩;have hz:iP .i64 0:=⟨by omega,by omega⟩;have e1: ∀q:Int,(none:Option Int)=some q→iP .i64 q:=fun q h=>by simp at h
 have e2: ∀{p:Int},iP .i64 p→∀q:Int,some p=some q→iP .i64 q:=fun hp q h=>by simp only [Option.some.injEq] at h; exact h▸hp
 have hr1:r.l.length≤n+1:=by omega
 have hv1:v.l.length≤n+1:=by omega
 have w:=@wrap_in
 have sn: ∀{l:List D} {t:Int},(∀x∈l,∃n,x= .i n∧iP .i64 n)→iP .i64 t→∀x∈l++ [.i t],∃n,x= .i n∧iP .i64 n:=fun h ht x hx=>by
  rcases List.mem_append.1 hx with hx | hx
  ·exact h x hx
  ·simp only [List.mem_cons,List.not_mem_nil,or_false] at hx;exact⟨_,hx,ht⟩
 have r5:Wd (.sl 0) (dL (r.l++ [.i th])):=CZ (sn (zA T.hr) ht) (by simp) (by simp; omega);have l5:(dL (r.l++ [.i th])).l.length≤n+1:=by rw [aT]; simp; omega
 have r20:Wd (.sl 0) (dL (v.l++ [.i arg])):=CZ (sn (zA T.hv) ha) (by simp) (by simp; omega);have l20:(dL (v.l++ [.i arg])).l.length≤n+1:=by rw [aT]; simp; omega
 have r12:Wd (.sl 0) (dL (wo th r.l++ [.i th])):=CZ (sn (fun x hx=>(zA T.hr) x (List.mem_filter.1 hx).1) ht) (by simp) (by have:=ahZ th r.l; simp; omega);have l12:(dL (wo th r.l++ [.i th])).l.length≤n+1:=by have:=ahZ th r.l; rw [aT]; simp; omega
 have r6: ∀k,Wd (.sl 0) (iQ (.i 2) (r.l.take k++r.l.drop (k+1))):=fun k=>J9 (fun x hx=>by
  rcases List.mem_append.1 hx with hx | hx
  ·exact (zA T.hr) x (List.mem_of_mem_take hx)
  ·exact (zA T.hr) x (List.mem_of_mem_drop hx)) (by simp only [List.length_append,List.length_take,List.length_drop]; omega)
 have l6: ∀k,(iQ (.i 2) (r.l.take k++r.l.drop (k+1))).l.length≤n+1:=fun k=>by rw [kJ]; simp only [List.length_append,List.length_take,List.length_drop]; omega
 have r21:Wd (.sl 0) (iQ v (v.l.drop 1)):=J9 (fun x hx=>(zA T.hv) x (List.mem_of_mem_drop hx)) (by simp; omega);have l21:(iQ v (v.l.drop 1)).l.length≤n+1:=by rw [kJ]; simp; omega
 have r13:Wd (.sl 0) (iQ r (r.l.drop 1)):=J9 (fun x hx=>(zA T.hr) x (List.mem_of_mem_drop hx)) (by simp; omega);have l13:(iQ r (r.l.drop 1)).l.length≤n+1:=by rw [kJ]; simp; omega
 have r14:Wd (.sl 0) (.i 1):=.nil 0;have l14:(D.i 1).l.length≤n+1:=by simp [D.l]
 unfold act
 repeat' refine Pg.ite ?_ ?_
 all_goals first
  | trivial
  | exact⟨by first | exact T.ho | exact ht | exact hm,by first | exact T.hc | exact w _ | exact ha | exact hz,by first | exact T.hd | exact .inr rfl,by first | exact T.hg | exact w _,by first | exact T.hr | exact r5 | exact r6 _ | exact r12 | exact r13 | exact r14,by first | exact hr1 | exact l5 | exact l6 _ | exact l12 | exact l13 | exact l14,by first | exact T.hv | exact r20 | exact r21,by first | exact hv1 | exact l20 | exact l21,by first | exact e1 | exact e2 hm | exact e2 ht,by first | exact .inl rfl | exact .inr rfl⟩
theorem Ti (h12:op≠12) (h24:op≠24):NoM (act M mo th op arg tries o c dn g r v):=by
 unfold act;rw [if_neg h12,if_neg h24]
 repeat' refine NoM.ite ?_ ?_
 all_goals first
  | exact rfl
  | trivial
end
end Go.As.Try
end
section
namespace Go.As.Try
open Go hiding Stat Spec shape
open Go.As
set_option maxRecDepth 100000
def isN (ys:List Int):Prop:= ∃v:Int,ys= [v]∧iP .i64 v
theorem amK:isN [0]:=⟨0,rfl,by constructor <;> omega⟩
theorem amJ:isN [1]:=⟨1,rfl,by constructor <;> omega⟩
theorem ayJ (z:Int):isN [IntKind.i64.wrap z]:=⟨_,rfl,wrap_in z⟩
theorem LW: ∀{d x:D},x∈d.l→SizeOf.sizeOf x < SizeOf.sizeOf d
 | .i _,x,h=>by simp [D.l] at h
 | .p a b,x,h=>by
   simp only [D.l,List.mem_cons] at h;rcases h with rfl | h
   ·simp only [D.p.sizeOf_spec]; omega
   ·have:=LW (d:=b) h;simp only [D.p.sizeOf_spec]; omega
def Nums (l:List D):Prop:= ∀y∈l,iP .i64 (aqK y).n
theorem alO:Nums []:=fun y h=>by simp at h
theorem F9: ∀{l:List D} {k v:D},Nums l→iP .i64 v.n→Nums (BK l k v)
 | [],k,v,_,hv=>by intro y hy;simp only [BK,List.mem_cons,List.not_mem_nil,or_false] at hy;subst hy;exact hv
 | d :: l,k,v,hl,hv=>by
   intro y hy;simp only [BK] at hy;split at hy
   ·simp only [List.mem_cons] at hy;rcases hy with rfl | hy
    ·exact hv
    ·exact hl y (by simp [hy])
   ·simp only [List.mem_cons] at hy;rcases hy with rfl | hy
    ·exact hl _ (by simp)
    ·exact F9 (fun z hz=>hl z (by simp [hz])) hv y hy
theorem WJ: ∀{l:List D} {k:D},Nums l→iP .i64 ((oO l k).getD (.i 0)).n
 | [],k,_=>by constructor <;> simp [oO,D.n]
 | d :: l,k,hl=>by
   simp only [oO];split
   ·exact hl d (by simp)
   ·exact WJ fun y hy=>hl y (by simp [hy])
theorem auB {l:List D} {k:D} (h:Nums l):isN [((oO l k).getD (.i 0)).n]:=⟨_,rfl,WJ h⟩
def Ints (d:D):Prop:= ∀x∈d.l,iP .i64 x.n
theorem ints_at {d:D} (h:Ints d) {i:Int} (h0: ¬i < 0) (h1:i < (d.l.length:Int)):iP .i64 (d.at i).n:=by obtain⟨k,rfl⟩ : ∃k:Nat,i=(k:Int):=⟨i.toNat,by omega⟩;rw [aZ (by omega:k < d.l.length)];exact h _ (List.getElem_mem _)
set_option maxHeartbeats 4000000 in
theorem Xn: ∀(N:Nat) (kids:D),SizeOf.sizeOf kids≤N→Wd (.sl 6) kids→∀(k n:Int) (s loc:D),iP .i64 n→Ints loc→Tot 1950 [k,enc s,n,enc kids,enc loc] isN
 | 0,kids,hN,_,_,_,_,_,_,_=>by exfalso;cases kids <;> simp at hN
 | N+1,kids,hN,hk,k,n,s,loc,hn,hi=>by
   have sub: ∀i:Nat,∃v:Int,iP .i64 v∧(i < kids.l.length→L 1950 [((kids.at (i:Int)).hd 0).n,enc ((kids.at (i:Int)).hd 1),((kids.at (i:Int)).hd 2).n,enc ((kids.at (i:Int)).hd 3),enc loc]=some [v]):=by
    intro i;by_cases hil:i < kids.l.length
    ·obtain⟨k',s',n',ks',he,_,_,hn',h2⟩:=DJ hk hil
     have hsz:SizeOf.sizeOf ks' < SizeOf.sizeOf kids.l[i]:=by rw [he];exact LW (by rw [aT]; simp)
     have hsz2:=LW (List.getElem_mem hil);obtain⟨ys,hL,v,rfl,hv⟩:=Xn N ks' (by omega) h2 k' n' s' loc hn' hi;refine⟨v,hv,fun _=>?_⟩;rw [aZ hil,he];simp only [zg,Option.getD_some];exact hL
    ·exact⟨0,by constructor <;> omega,fun h=>absurd h hil⟩
   obtain⟨v0,hv0,h0⟩:=sub 0;obtain⟨v1,hv1,h1⟩:=sub 1;by_cases l1:(kids.l.length:Int)=1
   ·have h0:=h0 (by omega);simp only [Int.natCast_zero] at h0;refine Tot.of ?_;rw [adN];simp only [V3,zz,l1,h0]
    repeat' first | exact .out ⟨_,rfl,hn⟩ | exact .out amK | exact .out amJ | exact .out (ayJ _) | exact .out ⟨_,rfl,ints_at hi ‹_› ‹_›⟩ | refine .ite (fun _=>?_) (fun _=>?_)
   ·by_cases l2:(kids.l.length:Int)=2
    ·have h0:=h0 (by omega);have h1:=h1 (by omega);simp only [Int.natCast_zero,Int.natCast_one] at h0 h1;refine Tot.of ?_;rw [adN];simp only [V3,zz,l1,l2,h0,h1]
     repeat' first | exact .out ⟨_,rfl,hn⟩ | exact .out amK | exact .out amJ | exact .out (ayJ _) | exact .out ⟨_,rfl,ints_at hi ‹_› ‹_›⟩ | (simp only [aT]; exact .out (auB (F9 (F9 (F9 alO (wrap_in _)) (wrap_in _)) (wrap_in _)))) | refine .ite (fun _=>?_) (fun _=>?_)
    ·refine Tot.of ?_;rw [adN];simp only [V3,zz,l1,l2]
     repeat' first | exact .out ⟨_,rfl,hn⟩ | exact .out amK | exact .out amJ | exact .out ⟨_,rfl,ints_at hi ‹_› ‹_›⟩ | refine .ite (fun _=>?_) (fun _=>?_)
end Go.As.Try
end
section
namespace Go.As.Try
open Go hiding Stat Spec shape
open Go.As
set_option maxRecDepth 100000
structure Kt (x:D) (a:Int) (lc:D) (w o g tr:Int):Prop where
 is:x=dL [.i a,lc,.i w,.i o,.i g,.i tr]
 ha:iP .i64 a
 hl:Wd (.sl 0) lc
 hw:iP .u8 w
 ho:iP .i64 o
 hg:iP .i64 g
 ht:iP .i64 tr
theorem kV {d:D} (h:Wd (.sl 8) d): ∀x∈d.l,∃a lc w o g tr,Kt x a lc w o g tr:=by intro x hx;obtain⟨r,rfl,hl,hc⟩:=h.elN (cs:=[.int .i64,.sl 0,.int .u8,.int .i64,.int .i64,.int .i64]) rfl x hx;obtain⟨a,b,c,d,e,f,rfl⟩:=six hl;obtain⟨a,rfl,ha⟩:=(hc 0 _ _ rfl rfl).i;obtain⟨w,rfl,hw⟩:=(hc 2 _ _ rfl rfl).i;obtain⟨o,rfl,ho⟩:=(hc 3 _ _ rfl rfl).i;obtain⟨g,rfl,hg⟩:=(hc 4 _ _ rfl rfl).i;obtain⟨t,rfl,ht⟩:=(hc 5 _ _ rfl rfl).i;exact⟨a,b,w,o,g,t,rfl,ha,hc 1 _ _ rfl rfl,hw,ho,hg,ht⟩
structure Tk (d:D):Prop where
 wd:Wd (.sl 8) d
 sh:d=dL d.l
 few:d.l.length≤2199023255500
theorem Ed {d:D} (h:Wd (.sl 8) d) (hn:0 < d.l.length):Tk d:=by
 refine⟨h,?_,?_⟩
 ·rcases h.sh with rfl | rfl | ⟨h1,_⟩
  ·simp [D.l] at hn
  ·simp [D.l] at hn
  ·exact h1
 ·have hr:=h.room;have h3:yV 8=64:=rfl;rw [h3] at hr;omega
theorem Eh (a b c d e f x:D):dY [a,b,c,d,e,f] 1 x= [a,x,c,d,e,f]:=rfl
theorem aX (j:Nat) (xs:List Int):fin L (.jump j xs)=L j xs:=rfl
theorem cO (ys:List Int):fin L (.out ys)=some ys:=rfl
def CU (lc:D):Int:=if 0 < lc.l.length then 3 else 4
theorem X3 {lc:D} (h:(0:Int) < (lc.l.length:Int)):CU lc=3:=if_pos (by omega)
theorem adY (d:D) (h:Th d) (k:D): ∀(j i:Nat),i+j=d.l.length→L 1901 [(d.l.length:Int),(i:Int),enc d,enc k]=L 1910 [(k.l.length:Int),0,enc d,enc k]
 | 0,i,hi=>by
   have c1: ¬(i:Int) < (d.l.length:Int):=by omega
   rw [aQ,aoY];simp only [abM,zz,c1,aX,Int.natCast_zero]
 | j+1,i,hi=>by
   have hl:=h.few;have hil:i < d.l.length:=by omega
   have c1:(i:Int) < (d.l.length:Int):=by omega
   have c2: ¬((i:Int) < 0):=by omega
   have w:=bC (n:=i) (by omega);have ih:=adY d h k j (i+1) (by omega);obtain⟨o,c,dn,g,r,v,he,_,_,_,_,hr,hv⟩:=h.wd.thing _ (List.getElem_mem hil);have hs:=set_self h.sh hil;rw [he] at hs;rw [aQ,aoY];rcases bK hr with rfl | rfl | ⟨r1,r2⟩ <;> rcases bK hv with rfl | rfl | ⟨v1,v2⟩
   all_goals
    simp only [abM,zz,c1,c2,w,aZ hil,he,gU,aT,List.getElem?_cons_zero,List.getElem?_cons_succ,LZ,LY,hs,len1,len2,uY,oG]
    try simp only [r1,r2,zz]
    try simp only [v1,v2,zz]
    try simp only [aX]
    exact ih
theorem adX (d:D) (h:Th d): ∀(j i:Nat),i+j=d.l.length→L 1902 [(d.l.length:Int),(i:Int),enc d]=L 1911 [enc d]
 | 0,i,hi=>by
   have c1: ¬(i:Int) < (d.l.length:Int):=by omega
   rw [aQ,aoX];simp only [abL,zz,c1,aX,Int.natCast_zero]
 | j+1,i,hi=>by
   have hl:=h.few;have hil:i < d.l.length:=by omega
   have c1:(i:Int) < (d.l.length:Int):=by omega
   have c2: ¬((i:Int) < 0):=by omega
   have w:=bC (n:=i) (by omega);have ih:=adX d h j (i+1) (by omega);obtain⟨o,c,dn,g,r,v,he,_,_,_,_,hr,hv⟩:=h.wd.thing _ (List.getElem_mem hil);have hs:=set_self h.sh hil;rw [he] at hs;rw [aQ,aoX];rcases bK hr with rfl | rfl | ⟨r1,r2⟩ <;> rcases bK hv with rfl | rfl | ⟨v1,v2⟩
   all_goals
    simp only [abL,zz,c1,c2,w,aZ hil,he,gU,aT,List.getElem?_cons_zero,List.getElem?_cons_succ,LZ,LY,hs,len1,len2,uY,oG]
    try simp only [r1,r2,zz]
    try simp only [v1,v2,zz]
    try simp only [aX]
    exact ih
theorem Vm (d:D) (h:Th d) (x0:Int) (k:D): ∀(j i:Nat),i+j=d.l.length→L 9051 [x0,(d.l.length:Int),(i:Int),enc d,enc k]=L 9060 [x0,(k.l.length:Int),0,enc d,enc k]
 | 0,i,hi=>by
   have c1: ¬(i:Int) < (d.l.length:Int):=by omega
   rw [aQ,aoE];simp only [aaT,zz,c1,aX,Int.natCast_zero]
 | j+1,i,hi=>by
   have hl:=h.few;have hil:i < d.l.length:=by omega
   have c1:(i:Int) < (d.l.length:Int):=by omega
   have c2: ¬((i:Int) < 0):=by omega
   have w:=bC (n:=i) (by omega);have ih:=Vm d h x0 k j (i+1) (by omega);obtain⟨o,c,dn,g,r,v,he,_,_,_,_,hr,hv⟩:=h.wd.thing _ (List.getElem_mem hil);have hs:=set_self h.sh hil;rw [he] at hs;rw [aQ,aoE];rcases bK hr with rfl | rfl | ⟨r1,r2⟩ <;> rcases bK hv with rfl | rfl | ⟨v1,v2⟩
   all_goals
    simp only [aaT,zz,c1,c2,w,aZ hil,he,gU,aT,List.getElem?_cons_zero,List.getElem?_cons_succ,LZ,LY,hs,len1,len2,uY,oG]
    try simp only [r1,r2,zz]
    try simp only [v1,v2,zz]
    try simp only [aX]
    exact ih
theorem adW (d:D) (h:Th d) (x0:Int): ∀(j i:Nat),i+j=d.l.length→L 9052 [x0,(d.l.length:Int),(i:Int),enc d]=L 9061 [x0,enc d]
 | 0,i,hi=>by
   have c1: ¬(i:Int) < (d.l.length:Int):=by omega
   rw [aQ,aoD];simp only [aaS,zz,c1,aX,Int.natCast_zero]
 | j+1,i,hi=>by
   have hl:=h.few;have hil:i < d.l.length:=by omega
   have c1:(i:Int) < (d.l.length:Int):=by omega
   have c2: ¬((i:Int) < 0):=by omega
   have w:=bC (n:=i) (by omega);have ih:=adW d h x0 j (i+1) (by omega);obtain⟨o,c,dn,g,r,v,he,_,_,_,_,hr,hv⟩:=h.wd.thing _ (List.getElem_mem hil);have hs:=set_self h.sh hil;rw [he] at hs;rw [aQ,aoD];rcases bK hr with rfl | rfl | ⟨r1,r2⟩ <;> rcases bK hv with rfl | rfl | ⟨v1,v2⟩
   all_goals
    simp only [aaS,zz,c1,c2,w,aZ hil,he,gU,aT,List.getElem?_cons_zero,List.getElem?_cons_succ,LZ,LY,hs,len1,len2,uY,oG]
    try simp only [r1,r2,zz]
    try simp only [v1,v2,zz]
    try simp only [aX]
    exact ih
theorem aeG (k:D) (h:Tk k) (s:D): ∀(j i:Nat),i+j=k.l.length→L 1910 [(k.l.length:Int),(i:Int),enc s,enc k]=some [enc s,enc k]
 | 0,i,hi=>by
   have c1: ¬(i:Int) < (k.l.length:Int):=by omega
   rw [aQ,aoW];simp only [abK,zz,c1,cO]
 | j+1,i,hi=>by
   have hl:=h.few;have hil:i < k.l.length:=by omega
   have c1:(i:Int) < (k.l.length:Int):=by omega
   have c2: ¬((i:Int) < 0):=by omega
   have w:=bC (n:=i) (by omega);have ih:=aeG k h s j (i+1) (by omega);obtain⟨a,lc,w',o,g,tr,T⟩:=kV h.wd _ (List.getElem_mem hil);have hs:=set_self h.sh hil;rw [T.is] at hs;rw [aQ,aoW];rcases bK T.hl with rfl | rfl | ⟨r1,r2⟩
   all_goals
    simp only [abK,zz,c1,c2,w,aZ hil,T.is,gU,aT,List.getElem?_cons_zero,List.getElem?_cons_succ,Eh,hs,len1,len2,uY,oG]
    try simp only [r1,r2,zz]
    try simp only [aX]
    exact ih
theorem aeF (k:D) (h:Tk k): ∀(j i:Nat),i+j=k.l.length→L 1913 [(k.l.length:Int),(i:Int),enc k]=some [enc (.i 1),enc k]
 | 0,i,hi=>by
   have c1: ¬(i:Int) < (k.l.length:Int):=by omega
   rw [aQ,aoV];simp only [abJ,zz,c1,cO]
 | j+1,i,hi=>by
   have hl:=h.few;have hil:i < k.l.length:=by omega
   have c1:(i:Int) < (k.l.length:Int):=by omega
   have c2: ¬((i:Int) < 0):=by omega
   have w:=bC (n:=i) (by omega);have ih:=aeF k h j (i+1) (by omega);obtain⟨a,lc,w',o,g,tr,T⟩:=kV h.wd _ (List.getElem_mem hil);have hs:=set_self h.sh hil;rw [T.is] at hs;rw [aQ,aoV];rcases bK T.hl with rfl | rfl | ⟨r1,r2⟩
   all_goals
    simp only [abJ,zz,c1,c2,w,aZ hil,T.is,gU,aT,List.getElem?_cons_zero,List.getElem?_cons_succ,Eh,hs,len1,len2,uY,oG]
    try simp only [r1,r2,zz]
    try simp only [aX]
    exact ih
theorem aeE (k:D) (h:Tk k) (x0:Int) (s:D): ∀(j i:Nat),(hx:x0 < 0∨(k.l.length:Int)≤x0)→i+j=k.l.length→L 9060 [x0,(k.l.length:Int),(i:Int),enc s,enc k]=some [0,x0,enc s,enc k]
 | 0,i,hx,hi=>by
   have c1: ¬(i:Int) < (k.l.length:Int):=by omega
   rw [aQ,XF];by_cases c0:(i:Int)=x0
   ·subst c0;simp only [FI,zz,c1,cO]
   ·simp only [FI,zz,c0,c1,cO]
 | j+1,i,hx,hi=>by
   have hl:=h.few;have hil:i < k.l.length:=by omega
   have c1:(i:Int) < (k.l.length:Int):=by omega
   have c2: ¬((i:Int) < 0):=by omega
   have c0: ¬((i:Int)=x0):=by omega
   have w:=bC (n:=i) (by omega);have ih:=aeE k h x0 s j (i+1) hx (by omega);obtain⟨a,lc,w',o,g,tr,T⟩:=kV h.wd _ (List.getElem_mem hil);have hs:=set_self h.sh hil;rw [T.is] at hs;rw [aQ,XF];rcases bK T.hl with rfl | rfl | ⟨r1,r2⟩
   all_goals
    simp only [FI,zz,c0,c1,c2,w,aZ hil,T.is,gU,aT,List.getElem?_cons_zero,List.getElem?_cons_succ,Eh,hs,len1,len2,uY,oG]
    try simp only [r1,r2,zz]
    try simp only [aX]
    exact ih
theorem aeD (k:D) (h:Tk k) (x0:Int): ∀(j i:Nat),(hx:x0 < 0∨(k.l.length:Int)≤x0)→i+j=k.l.length→L 9063 [x0,(k.l.length:Int),(i:Int),enc k]=some [0,x0,enc (.i 1),enc k]
 | 0,i,hx,hi=>by
   have c1: ¬(i:Int) < (k.l.length:Int):=by omega
   rw [aQ,XE];by_cases c0:(i:Int)=x0
   ·subst c0;simp only [FH,zz,c1,cO]
   ·simp only [FH,zz,c0,c1,cO]
 | j+1,i,hx,hi=>by
   have hl:=h.few;have hil:i < k.l.length:=by omega
   have c1:(i:Int) < (k.l.length:Int):=by omega
   have c2: ¬((i:Int) < 0):=by omega
   have c0: ¬((i:Int)=x0):=by omega
   have w:=bC (n:=i) (by omega);have ih:=aeD k h x0 j (i+1) hx (by omega);obtain⟨a,lc,w',o,g,tr,T⟩:=kV h.wd _ (List.getElem_mem hil);have hs:=set_self h.sh hil;rw [T.is] at hs;rw [aQ,XE];rcases bK T.hl with rfl | rfl | ⟨r1,r2⟩
   all_goals
    simp only [FH,zz,c0,c1,c2,w,aZ hil,T.is,gU,aT,List.getElem?_cons_zero,List.getElem?_cons_succ,Eh,hs,len1,len2,uY,oG]
    try simp only [r1,r2,zz]
    try simp only [aX]
    exact ih
theorem aeC (k:D) (h:Tk k) (gi:Nat) (x4 x5 x6 x7 x8 x9:Int) (s:D): ∀(j i:Nat),gi < i→i+j=k.l.length→L 9069 [(gi:Int),(k.l.length:Int),(i:Int),enc s,enc k,x4,x5,x6,x7,x8,x9]=some [3,(gi:Int),enc s,enc k,x4,x5,x6,x7,x8,x9]
 | 0,i,hg,hi=>by
   have c1: ¬(i:Int) < (k.l.length:Int):=by omega
   have c0: ¬((i:Int)=(gi:Int)):=by omega
   rw [aQ,aoC];simp only [aaR,zz,c0,c1,cO]
 | j+1,i,hg,hi=>by
   have hl:=h.few;have hil:i < k.l.length:=by omega
   have c1:(i:Int) < (k.l.length:Int):=by omega
   have c2: ¬((i:Int) < 0):=by omega
   have c0: ¬((i:Int)=(gi:Int)):=by omega
   have w:=bC (n:=i) (by omega);have ih:=aeC k h gi x4 x5 x6 x7 x8 x9 s j (i+1) (by omega) (by omega);obtain⟨a,lc,w',o,g,tr,T⟩:=kV h.wd _ (List.getElem_mem hil);have hs:=set_self h.sh hil;rw [T.is] at hs;rw [aQ,aoC];rcases bK T.hl with rfl | rfl | ⟨r1,r2⟩
   all_goals
    simp only [aaR,zz,c0,c1,c2,w,aZ hil,T.is,gU,aT,List.getElem?_cons_zero,List.getElem?_cons_succ,Eh,hs,len1,len2,uY,oG]
    try simp only [r1,r2,zz]
    try simp only [aX]
    exact ih
theorem Vp (k:D) (h:Tk k) (gi:Nat) (x4 x5 x6 x7 x8 x9:Int) (s:D): ∀(j i:Nat),gi < i→i+j=k.l.length→L 9070 [(gi:Int),(k.l.length:Int),(i:Int),enc s,enc k,x4,x5,x6,x7,x8,x9]=some [4,(gi:Int),enc s,enc k,x4,x5,x6,x7,x8,x9]
 | 0,i,hg,hi=>by
   have c1: ¬(i:Int) < (k.l.length:Int):=by omega
   have c0: ¬((i:Int)=(gi:Int)):=by omega
   rw [aQ,aoB];simp only [aaQ,zz,c0,c1,cO]
 | j+1,i,hg,hi=>by
   have hl:=h.few;have hil:i < k.l.length:=by omega
   have c1:(i:Int) < (k.l.length:Int):=by omega
   have c2: ¬((i:Int) < 0):=by omega
   have c0: ¬((i:Int)=(gi:Int)):=by omega
   have w:=bC (n:=i) (by omega);have ih:=Vp k h gi x4 x5 x6 x7 x8 x9 s j (i+1) (by omega) (by omega);obtain⟨a,lc,w',o,g,tr,T⟩:=kV h.wd _ (List.getElem_mem hil);have hs:=set_self h.sh hil;rw [T.is] at hs;rw [aQ,aoB];rcases bK T.hl with rfl | rfl | ⟨r1,r2⟩
   all_goals
    simp only [aaQ,zz,c0,c1,c2,w,aZ hil,T.is,gU,aT,List.getElem?_cons_zero,List.getElem?_cons_succ,Eh,hs,len1,len2,uY,oG]
    try simp only [r1,r2,zz]
    try simp only [aX]
    exact ih
theorem aeB (k:D) (h:Tk k) (gi:Nat) (x4 x5 x6 x7 x8 x9:Int): ∀(j i:Nat),gi < i→i+j=k.l.length→L 9071 [(gi:Int),(k.l.length:Int),(i:Int),enc k,x4,x5,x6,x7,x8,x9]=some [3,(gi:Int),enc (.i 1),enc k,x4,x5,x6,x7,x8,x9]
 | 0,i,hg,hi=>by
   have c1: ¬(i:Int) < (k.l.length:Int):=by omega
   have c0: ¬((i:Int)=(gi:Int)):=by omega
   rw [aQ,aoA];simp only [aaP,zz,c0,c1,cO]
 | j+1,i,hg,hi=>by
   have hl:=h.few;have hil:i < k.l.length:=by omega
   have c1:(i:Int) < (k.l.length:Int):=by omega
   have c2: ¬((i:Int) < 0):=by omega
   have c0: ¬((i:Int)=(gi:Int)):=by omega
   have w:=bC (n:=i) (by omega);have ih:=aeB k h gi x4 x5 x6 x7 x8 x9 j (i+1) (by omega) (by omega);obtain⟨a,lc,w',o,g,tr,T⟩:=kV h.wd _ (List.getElem_mem hil);have hs:=set_self h.sh hil;rw [T.is] at hs;rw [aQ,aoA];rcases bK T.hl with rfl | rfl | ⟨r1,r2⟩
   all_goals
    simp only [aaP,zz,c0,c1,c2,w,aZ hil,T.is,gU,aT,List.getElem?_cons_zero,List.getElem?_cons_succ,Eh,hs,len1,len2,uY,oG]
    try simp only [r1,r2,zz]
    try simp only [aX]
    exact ih
theorem Vo (k:D) (h:Tk k) (gi:Nat) (x4 x5 x6 x7 x8 x9:Int): ∀(j i:Nat),gi < i→i+j=k.l.length→L 9072 [(gi:Int),(k.l.length:Int),(i:Int),enc k,x4,x5,x6,x7,x8,x9]=some [4,(gi:Int),enc (.i 1),enc k,x4,x5,x6,x7,x8,x9]
 | 0,i,hg,hi=>by
   have c1: ¬(i:Int) < (k.l.length:Int):=by omega
   have c0: ¬((i:Int)=(gi:Int)):=by omega
   rw [aQ,anZ];simp only [aaO,zz,c0,c1,cO]
 | j+1,i,hg,hi=>by
   have hl:=h.few;have hil:i < k.l.length:=by omega
   have c1:(i:Int) < (k.l.length:Int):=by omega
   have c2: ¬((i:Int) < 0):=by omega
   have c0: ¬((i:Int)=(gi:Int)):=by omega
   have w:=bC (n:=i) (by omega);have ih:=Vo k h gi x4 x5 x6 x7 x8 x9 j (i+1) (by omega) (by omega);obtain⟨a,lc,w',o,g,tr,T⟩:=kV h.wd _ (List.getElem_mem hil);have hs:=set_self h.sh hil;rw [T.is] at hs;rw [aQ,anZ];rcases bK T.hl with rfl | rfl | ⟨r1,r2⟩
   all_goals
    simp only [aaO,zz,c0,c1,c2,w,aZ hil,T.is,gU,aT,List.getElem?_cons_zero,List.getElem?_cons_succ,Eh,hs,len1,len2,uY,oG]
    try simp only [r1,r2,zz]
    try simp only [aX]
    exact ih
theorem aeA (k:D) (h:Tk k) (s:D) (gi:Nat) (hgi:gi < k.l.length) (a:Int) (lc:D) (w o g tr:Int) (T:Kt k.l[gi] a lc w o g tr): ∀(j i:Nat),i+j=gi→L 9060 [(gi:Int),(k.l.length:Int),(i:Int),enc s,enc k]=some [CU lc,(gi:Int),enc s,enc k,a,enc lc,w,o,g,tr]
 | 0,i,hi=>by
   have hl:=h.few;have he:i=gi:=by omega
   subst he;have c1:(i:Int) < (k.l.length:Int):=by omega
   have c2: ¬((i:Int) < 0):=by omega
   have w':=bC (n:=i) (by omega);rw [aQ,XF];rcases bK T.hl with rfl | rfl | ⟨r1,r2⟩
   ·have ih:=Vp k h i a (enc (.i 1)) w o g tr s (k.l.length - (i+1)) (i+1) (by omega) (by omega);simp only [FI,zz,c1,c2,w',aZ hgi,T.is,gU,aT,List.getElem?_cons_zero,List.getElem?_cons_succ,List.getElem?_nil,Option.getD_none,len1,len2,uY,oG,aX];exact ih
   ·have ih:=Vp k h i a (enc (.i 2)) w o g tr s (k.l.length - (i+1)) (i+1) (by omega) (by omega);simp only [FI,zz,c1,c2,w',aZ hgi,T.is,gU,aT,List.getElem?_cons_zero,List.getElem?_cons_succ,List.getElem?_nil,Option.getD_none,len1,len2,uY,oG,aX];exact ih
   ·have ih:=aeC k h i a (enc lc) w o g tr s (k.l.length - (i+1)) (i+1) (by omega) (by omega);simp only [FI,zz,c1,c2,w',aZ hgi,T.is,gU,aT,List.getElem?_cons_zero,List.getElem?_cons_succ,len1,len2,uY,oG];simp only [r1,r2,zz,aX];rw [X3 r1];exact ih
 | j+1,i,hi=>by
   have hl:=h.few;have hil:i < k.l.length:=by omega
   have c1:(i:Int) < (k.l.length:Int):=by omega
   have c2: ¬((i:Int) < 0):=by omega
   have c0: ¬((i:Int)=(gi:Int)):=by omega
   have w1:=bC (n:=i) (by omega);have ih:=aeA k h s gi hgi a lc w o g tr T j (i+1) (by omega);obtain⟨a',lc',w',o',g',tr',T'⟩:=kV h.wd _ (List.getElem_mem hil);have hs:=set_self h.sh hil;rw [T'.is] at hs;rw [aQ,XF];rcases bK T'.hl with rfl | rfl | ⟨r1,r2⟩
   all_goals
    simp only [FI,zz,c0,c1,c2,w1,aZ hil,T'.is,gU,aT,List.getElem?_cons_zero,List.getElem?_cons_succ,Eh,hs,len1,len2,uY,oG]
    try simp only [r1,r2,zz]
    try simp only [aX]
    exact ih
theorem adZ (k:D) (h:Tk k) (gi:Nat) (hgi:gi < k.l.length) (a:Int) (lc:D) (w o g tr:Int) (T:Kt k.l[gi] a lc w o g tr): ∀(j i:Nat),i+j=gi→L 9063 [(gi:Int),(k.l.length:Int),(i:Int),enc k]=some [CU lc,(gi:Int),enc (.i 1),enc k,a,enc lc,w,o,g,tr]
 | 0,i,hi=>by
   have hl:=h.few;have he:i=gi:=by omega
   subst he;have c1:(i:Int) < (k.l.length:Int):=by omega
   have c2: ¬((i:Int) < 0):=by omega
   have w':=bC (n:=i) (by omega);rw [aQ,XE];rcases bK T.hl with rfl | rfl | ⟨r1,r2⟩
   ·have ih:=Vo k h i a (enc (.i 1)) w o g tr (k.l.length - (i+1)) (i+1) (by omega) (by omega);simp only [FH,zz,c1,c2,w',aZ hgi,T.is,gU,aT,List.getElem?_cons_zero,List.getElem?_cons_succ,List.getElem?_nil,Option.getD_none,len1,len2,uY,oG,aX];exact ih
   ·have ih:=Vo k h i a (enc (.i 2)) w o g tr (k.l.length - (i+1)) (i+1) (by omega) (by omega);simp only [FH,zz,c1,c2,w',aZ hgi,T.is,gU,aT,List.getElem?_cons_zero,List.getElem?_cons_succ,List.getElem?_nil,Option.getD_none,len1,len2,uY,oG,aX];exact ih
   ·have ih:=aeB k h i a (enc lc) w o g tr (k.l.length - (i+1)) (i+1) (by omega) (by omega);simp only [FH,zz,c1,c2,w',aZ hgi,T.is,gU,aT,List.getElem?_cons_zero,List.getElem?_cons_succ,len1,len2,uY,oG];simp only [r1,r2,zz,aX];rw [X3 r1];exact ih
 | j+1,i,hi=>by
   have hl:=h.few;have hil:i < k.l.length:=by omega
   have c1:(i:Int) < (k.l.length:Int):=by omega
   have c2: ¬((i:Int) < 0):=by omega
   have c0: ¬((i:Int)=(gi:Int)):=by omega
   have w1:=bC (n:=i) (by omega);have ih:=adZ k h gi hgi a lc w o g tr T j (i+1) (by omega);obtain⟨a',lc',w',o',g',tr',T'⟩:=kV h.wd _ (List.getElem_mem hil);have hs:=set_self h.sh hil;rw [T'.is] at hs;rw [aQ,XE];rcases bK T'.hl with rfl | rfl | ⟨r1,r2⟩
   all_goals
    simp only [FH,zz,c0,c1,c2,w1,aZ hil,T'.is,gU,aT,List.getElem?_cons_zero,List.getElem?_cons_succ,Eh,hs,len1,len2,uY,oG]
    try simp only [r1,r2,zz]
    try simp only [aX]
    exact ih
structure Sk (s k:D):Prop where
 ws:Wd (.sl 7) s
 wk:Wd (.sl 8) k
 n2s:s≠.i 2
 n2k:k≠.i 2
theorem MQ {t:Nat} {d:D} (h:Wd (.sl t) d) (h2:d≠.i 2):d= .i 1∨0 < d.l.length:=by
 rcases h.sh with h1 | h1 | ⟨_,h1⟩
 ·exact .inl h1
 ·exact absurd h1 h2
 ·exact .inr (List.length_pos_iff.2 h1)
theorem atQ (x0:Int) (s:D):L 9061 [x0,enc s]=some [1,x0,enc s]:=by rw [aQ,ayR];simp only [aiO,zz];split <;> rfl
theorem atP (x0:Int):L 9064 [x0]=some [1,x0,enc (.i 1)]:=by rw [aQ,ayQ];simp only [aiN,zz];split <;> rfl
theorem atT (s:D):L 1911 [enc s]=some [enc s,enc (.i 1)]:=by rw [aQ,azR];rfl
theorem atS:L 1914 []=some [enc (.i 1),enc (.i 1)]:=by rw [aQ,azQ];rfl
theorem anE (x0:Int) (k:D):L 9054 [x0,enc k]=L 9063 [x0,(k.l.length:Int),0,enc k]:=by rw [aQ,ayT];simp only [aiP,zz,aX]
theorem aBu (x0:Int):L 9055 [x0]=L 9064 [x0]:=by rw [aQ,ayS];rfl
theorem aBw (k:D):L 1904 [enc k]=L 1913 [(k.l.length:Int),0,enc k]:=by rw [aQ,azT];simp only [ajP,zz,aX]
theorem aBv:L 1905 []=L 1914 []:=by rw [aQ,azS];rfl
section
variable {s k:D} (h:Sk s k)
include h
theorem S9:L 1900 [enc s,enc k]=some [enc s,enc k]:=by
 rw [aQ,azU];rcases MQ h.ws h.n2s with rfl | hs <;> rcases MQ h.wk h.n2k with rfl | hk
 ·simp only [PU,zz,len1,uY,aX];exact aBv.trans atS
 ·have hK:=Ed h.wk hk;have hl:=hK.few;have c1:(0:Int) < (k.l.length:Int):=by omega
  have c2:(k.l.length:Int) < 2199023255552:=by omega
  simp only [PU,zz,len1,uY,c1,c2,aX];exact (aBw k).trans (aeF k hK k.l.length 0 (by omega))
 ·have hT:=Ee h.ws hs;have hl:=hT.few;have c1:(0:Int) < (s.l.length:Int):=by omega
  have c2:(s.l.length:Int) < 1759218604441:=by omega
  simp only [PU,zz,len1,uY,c1,c2,aX];exact (adX s hT s.l.length 0 (by omega)).trans (atT s)
 ·have hT:=Ee h.ws hs;have hl:=hT.few;have c1:(0:Int) < (s.l.length:Int):=by omega
  have c2:(s.l.length:Int) < 1759218604441:=by omega
  have hK:=Ed h.wk hk;have hl':=hK.few;have c1':(0:Int) < (k.l.length:Int):=by omega
  have c2':(k.l.length:Int) < 2199023255552:=by omega
  simp only [PU,zz,uY,c1,c2,c1',c2',aX];exact (adY s hT k s.l.length 0 (by omega)).trans (aeG k hK s k.l.length 0 (by omega))
theorem Tc {gi:Nat} (hgi:gi < k.l.length) {a:Int} {lc:D} {w o g tr:Int} (T:Kt k.l[gi] a lc w o g tr):L 9050 [(gi:Int),enc s,enc k]=some [CU lc,(gi:Int),enc s,enc k,a,enc lc,w,o,g,tr]:=by
 have hk:0 < k.l.length:=by omega
 have hK:=Ed h.wk hk;have hl':=hK.few;have c1':(0:Int) < (k.l.length:Int):=by omega
 have c2':(k.l.length:Int) < 2199023255552:=by omega
 rw [aQ,aoF];rcases MQ h.ws h.n2s with rfl | hs
 ·simp only [Je,zz,len1,uY,c1',c2',aX];exact (anE _ k).trans (adZ k hK gi hgi a lc w o g tr T gi 0 (by omega))
 ·have hT:=Ee h.ws hs;have hl:=hT.few;have c1:(0:Int) < (s.l.length:Int):=by omega
  have c2:(s.l.length:Int) < 1759218604441:=by omega
  simp only [Je,zz,uY,c1,c2,c1',c2',aX];exact (Vm s hT _ k s.l.length 0 (by omega)).trans (aeA k hK s gi hgi a lc w o g tr T gi 0 (by omega))
theorem ahI {x:Int} (hx:x < 0∨(k.l.length:Int)≤x):L 9050 [x,enc s,enc k]=some [0,x,enc s,enc k]∨L 9050 [x,enc s,enc k]=some [1,x,enc s]∧k= .i 1:=by
 rw [aQ,aoF];rcases MQ h.ws h.n2s with rfl | hs <;> rcases MQ h.wk h.n2k with rfl | hk
 ·refine .inr ⟨?_,rfl⟩;simp only [Je,zz,len1,uY,aX];exact (aBu _).trans (atP _)
 ·have hK:=Ed h.wk hk;have hl:=hK.few;have c1:(0:Int) < (k.l.length:Int):=by omega
  have c2:(k.l.length:Int) < 2199023255552:=by omega
  refine .inl ?_;simp only [Je,zz,len1,uY,c1,c2,aX];exact (anE _ k).trans (aeD k hK _ k.l.length 0 hx (by omega))
 ·have hT:=Ee h.ws hs;have hl:=hT.few;have c1:(0:Int) < (s.l.length:Int):=by omega
  have c2:(s.l.length:Int) < 1759218604441:=by omega
  refine .inr ⟨?_,rfl⟩;simp only [Je,zz,len1,uY,c1,c2,aX];exact (adW s hT _ s.l.length 0 (by omega)).trans (atQ _ s)
 ·have hT:=Ee h.ws hs;have hl:=hT.few;have c1:(0:Int) < (s.l.length:Int):=by omega
  have c2:(s.l.length:Int) < 1759218604441:=by omega
  have hK:=Ed h.wk hk;have hl':=hK.few;have c1':(0:Int) < (k.l.length:Int):=by omega
  have c2':(k.l.length:Int) < 2199023255552:=by omega
  refine .inl ?_;simp only [Je,zz,uY,c1,c2,c1',c2',aX];exact (Vm s hT _ k s.l.length 0 (by omega)).trans (aeE k hK _ s k.l.length 0 hx (by omega))
end
end Go.As.Try
end
section
namespace Go.As.Try
open Go hiding Stat Spec shape
open Go.As
set_option maxRecDepth 100000
def EqI (a b:D) (i:Nat):Prop:= ∀(k:Nat) (h1:k < a.l.length) (h2:k < b.l.length),i≤k→(a.l[k]).n=(b.l[k]).n
theorem EqI.step {a b:D} {i:Nat} (h1:i < a.l.length) (h2:i < b.l.length) (h:(a.l[i]).n=(b.l[i]).n):EqI a b i↔EqI a b (i+1):=by
 constructor
 ·intro q k x y z;exact q k x y (by omega)
 ·intro q k x y z;by_cases hk:k=i
  ·subst hk;exact h
  ·exact q k x y (by omega)
theorem EqI.end' {a b:D} {i:Nat} (h:a.l.length≤i):EqI a b i:=fun k h1 _ h3=>absurd h1 (by omega)
section
variable {a b:D} (hle:a.l.length=b.l.length) (hlen:a.l.length≤140737488351232)
include hle hlen
theorem RN: ∀(j i:Nat),i+j=a.l.length→∃c:Int,L 251 [enc a,enc b,(i:Int)]=some [c]∧(c=0∨c=1)∧(c=1↔EqI a b i)
 | 0,i,hi=>by
   have c1: ¬(i:Int) < (a.l.length:Int):=by omega
   refine⟨1,?_,.inr rfl,fun _=>EqI.end' (by omega),fun _=>rfl⟩;rw [aQ,e251];simp only [ajM,zz,c1,fin]
 | j+1,i,hi=>by
   have hil:i < a.l.length:=by omega
   have hib:i < b.l.length:=by omega
   have c1:(i:Int) < (a.l.length:Int):=by omega
   have c2: ¬((i:Int) < 0):=by omega
   have c3:(i:Int) < (b.l.length:Int):=by omega
   have w:=bC (n:=i) (by omega);obtain⟨c,h1,h2,h3⟩:=RN j (i+1) (by omega);by_cases he:(a.l[i]).n=(b.l[i]).n
   ·refine⟨c,?_,h2,h3.trans (EqI.step hil hib he).symm⟩;rw [aQ,e251];simp only [ajM,zz,c1,c2,c3,w,aZ hil,aZ hib,he,fin,h1]
   ·refine⟨0,?_,.inl rfl,fun h=>absurd h (by omega),fun h=>absurd (h i hil hib (Nat.le_refl i)) he⟩;rw [aQ,e251];simp only [ajM,zz,c1,c2,c3,w,aZ hil,aZ hib,he,fin]
end
def arM (a b:D):Prop:=a.l.length=b.l.length∧EqI a b 0
theorem agF (a b:D) (hlen:a.l.length≤140737488351232): ∃c:Int,L 250 [enc a,enc b]=some [c]∧(c=0∨c=1)∧(c=1↔arM a b):=by
 by_cases hl:a.l.length=b.l.length
 ·obtain⟨c,h1,h2,h3⟩:=RN hl hlen a.l.length 0 (by omega);refine⟨c,?_,h2,h3.trans ⟨fun h=> ⟨hl,h⟩,fun h=>h.2⟩⟩;have hl':(a.l.length:Int)=(b.l.length:Int):=by omega
  rw [aQ,e250,asP,dP,if_pos,pF]
  ·simp only [List.map,bP,aP,Nat.reduceLT,aN,aO,fin];exact h1
  ·simp only [iO,iC,aP,Nat.reduceLT,aN,aO,aC,iU];exact hl'
 ·refine⟨0,?_,.inl rfl,fun h=>absurd h (by omega),fun h=>absurd h.1 hl⟩;have hl': ¬(a.l.length:Int)=(b.l.length:Int):=by omega
  rw [aQ,e250,asP,dP,if_neg]
  ·simp only [jU,List.map,bP,fin]
  ·simp only [iO,iC,aP,Nat.reduceLT,aN,aO,aC,iU];exact hl'
theorem PI (x y:D) (hle:x.l.length=y.l.length) (hlen:x.l.length≤140737488351232) (x0 x1 x2:Int) (i:Nat) (hi:i < 9223372036854775807) (c:Int) (hc:c=0∨c=1) (h:L 201 [x0,x1,x2,((i+1:Nat):Int)]=some [c]) (x6 x7 x8 x9 x10 x12 x13 x14 x15 x16:Int) :
 ∀(j k:Nat),k+j=x.l.length→∃e:Int,L 202 [x0,x1,x2,(i:Int),(x.l.length:Int),(k:Int),x6,x7,x8,x9,x10,enc x,x12,x13,x14,x15,x16,enc y]=some [e]∧(e=0∨e=1)∧(e=1↔EqI x y k∧c=1)
 | 0,k,hk=>by
   have c1: ¬(k:Int) < (x.l.length:Int):=by omega
   have w:=bC (n:=i) (by omega);refine⟨c,?_,hc,fun h=> ⟨EqI.end' (by omega),h⟩,fun h=>h.2⟩;rw [aQ,avV];simp only [ajO,zz,c1,w,fin,h]
 | j+1,k,hk=>by
   have hil:k < x.l.length:=by omega
   have hib:k < y.l.length:=by omega
   have c1:(k:Int) < (x.l.length:Int):=by omega
   have c2: ¬((k:Int) < 0):=by omega
   have c3:(k:Int) < (y.l.length:Int):=by omega
   have w:=bC (n:=k) (by omega);obtain⟨e,h1,h2,h3⟩:=PI x y hle hlen x0 x1 x2 i hi c hc h x6 x7 x8 x9 x10 x12 x13 x14 x15 x16 j (k+1) (by omega);by_cases he:(x.l[k]).n=(y.l[k]).n
   ·refine⟨e,?_,h2,h3.trans ⟨fun q=> ⟨(EqI.step hil hib he).2 q.1,q.2⟩,fun q=> ⟨(EqI.step hil hib he).1 q.1,q.2⟩⟩⟩;rw [aQ,avV];simp only [ajO,zz,c1,c2,c3,w,aZ hil,aZ hib,he,fin,h1]
   ·refine⟨0,?_,.inl rfl,fun h=>absurd h (by omega),fun h=>absurd (h.1 k hil hib (Nat.le_refl k)) he⟩;rw [aQ,avV];simp only [ajO,zz,c1,c2,c3,w,aZ hil,aZ hib,he,fin]
end Go.As.Try
end
section
namespace Go.As.Try
open Go hiding Stat Spec shape
open Go.As
set_option maxRecDepth 100000
theorem kS (ρ) (a b:SB):((SB.and a b).den ρ=true)=(a.den ρ=true∧b.den ρ=true):=by simp [SB.den]
structure aEX (x y:D):Prop where
 o:(x.hd 0).n=(y.hd 0).n
 c:(x.hd 1).n=(y.hd 1).n
 d:(x.hd 2).n=0↔(y.hd 2).n=0
 g:(x.hd 3).n=(y.hd 3).n
 r:arM (x.hd 4) (y.hd 4)
 v:arM (x.hd 5) (y.hd 5)
def X6 (a b:D) (i:Nat):Prop:= ∀(k:Nat) (h1:k < a.l.length) (h2:k < b.l.length),i≤k→aEX a.l[k] b.l[k]
theorem bits {p q:Int}:((¬(¬p=0∧¬q=0))∧¬(¬¬p=0∧¬¬q=0))↔¬(p=0↔q=0):=by omega
def Ue (s:D):Prop:= ∀x∈s.l,(x.hd 4).l.length≤140737488351232∧(x.hd 5).l.length≤140737488351232
section
variable {a b:D} (hle:a.l.length=b.l.length) (hlen:a.l.length≤140737488351232) (hr:Ue a)
include hle hlen hr
theorem P9: ∀(j i:Nat),i+j=a.l.length→∃c:Int,L 201 [enc a,enc b,(a.l.length:Int),(i:Int)]=some [c]∧(c=0∨c=1)∧(c=1↔X6 a b i)
 | 0,i,hi=>by
   have c1: ¬(i:Int) < (a.l.length:Int):=by omega
   refine⟨1,?_,.inr rfl,fun _ k h1 _ h3=>absurd h1 (by omega),fun _=>rfl⟩;rw [aQ,Vg];simp only [t201,zz,c1,fin]
 | j+1,i,hi=>by
   have hil:i < a.l.length:=by omega
   have hib:i < b.l.length:=by omega
   have c1:(i:Int) < (a.l.length:Int):=by omega
   have c2: ¬((i:Int) < 0):=by omega
   have c3:(i:Int) < (b.l.length:Int):=by omega
   obtain⟨c,h1,h2,h3⟩:=P9 j (i+1) (by omega);have hb:=hr _ (List.getElem_mem hil);by_cases b0:((a.l[i]).hd 0).n=((b.l[i]).hd 0).n
   case neg=>
    refine⟨0,?_,.inl rfl,fun h=>absurd h (by omega),fun h=>absurd (h i hil hib (Nat.le_refl i)).o b0⟩;rw [aQ,Vg];simp only [t201,zz,c1,c2,c3,aZ hil,aZ hib,b0,fin]
   by_cases b1:((a.l[i]).hd 1).n=((b.l[i]).hd 1).n
   case neg=>
    refine⟨0,?_,.inl rfl,fun h=>absurd h (by omega),fun h=>absurd (h i hil hib (Nat.le_refl i)).c b1⟩;rw [aQ,Vg];simp only [t201,zz,c1,c2,c3,aZ hil,aZ hib,b0,b1,fin]
   by_cases b2:(((a.l[i]).hd 2).n=0↔((b.l[i]).hd 2).n=0)
   case neg=>
    refine⟨0,?_,.inl rfl,fun h=>absurd h (by omega),fun h=>absurd (h i hil hib (Nat.le_refl i)).d b2⟩;rw [aQ,Vg];have b2':=bits.2 b2;simp only [t201,zz,kS,L6,c1,c2,c3,aZ hil,aZ hib,b0,b1,if_pos b2',fin]
   have b2': ¬_:=fun h=>bits.1 h b2;by_cases b3:((a.l[i]).hd 3).n=((b.l[i]).hd 3).n
   case neg=>
    refine⟨0,?_,.inl rfl,fun h=>absurd h (by omega),fun h=>absurd (h i hil hib (Nat.le_refl i)).g b3⟩;rw [aQ,Vg];simp only [t201,zz,kS,L6,c1,c2,c3,aZ hil,aZ hib,b0,b1,if_neg b2',b3,fin]
   obtain⟨e,g1,g2,g3⟩:=agF ((a.l[i]).hd 4) ((b.l[i]).hd 4) hb.1;by_cases b4:e=0
   ·subst b4;refine⟨0,?_,.inl rfl,fun h=>absurd h (by omega),fun h=>absurd (g3.2 (h i hil hib (Nat.le_refl i)).r) (by omega)⟩;rw [aQ,Vg];simp only [t201,zz,kS,L6,c1,c2,c3,aZ hil,aZ hib,b0,b1,if_neg b2',b3,g1,fin]
   have he:e=1:=by omega
   subst he;by_cases b5:((a.l[i]).hd 5).l.length=((b.l[i]).hd 5).l.length
   case neg=>
    have b5': ¬(((a.l[i]).hd 5).l.length:Int)=(((b.l[i]).hd 5).l.length:Int):=by omega
    refine⟨0,?_,.inl rfl,fun h=>absurd h (by omega),fun h=>absurd (h i hil hib (Nat.le_refl i)).v.1 b5⟩;rw [aQ,Vg];simp only [t201,zz,kS,L6,c1,c2,c3,aZ hil,aZ hib,b0,b1,if_neg b2',b3,g1,aG,b5',fin]
   have b5':(((a.l[i]).hd 5).l.length:Int)=(((b.l[i]).hd 5).l.length:Int):=by omega
   obtain⟨f,f1,f2,f3⟩:=PI ((a.l[i]).hd 5) ((b.l[i]).hd 5) b5 hb.2 (enc a) (enc b) (a.l.length:Int) i (by omega) c h2 h1 ((b.l[i]).hd 0).n ((b.l[i]).hd 1).n ((a.l[i]).hd 2).n ((b.l[i]).hd 3).n (enc ((a.l[i]).hd 4)) ((b.l[i]).hd 0).n ((b.l[i]).hd 1).n ((b.l[i]).hd 2).n ((b.l[i]).hd 3).n (enc ((b.l[i]).hd 4)) ((a.l[i]).hd 5).l.length 0 (by omega);refine⟨f,?_,f2,fun h k k1 k2 k3=>?_,fun h=>f3.2 ⟨(h i hil hib (Nat.le_refl i)).v.2,h3.2 fun k k1 k2 k3=>h k k1 k2 (by omega)⟩⟩
   ·rw [aQ,Vg];rw [b5'] at f1;simp only [t201,zz,kS,L6,c1,c2,c3,aZ hil,aZ hib,b0,b1,if_neg b2',b3,g1,aG,b5',fin];exact f1
   ·by_cases hk:k=i
    ·subst hk;exact⟨b0,b1,b2,b3,g3.1 rfl,b5,(f3.1 h).1⟩
    ·exact h3.1 (f3.1 h).2 k k1 k2 (by omega)
end
theorem afE (a b:D) (hlen:a.l.length≤140737488351232) (hr:Ue a): ∃c:Int,L 200 [enc a,enc b]=some [c]∧(c=0∨c=1)∧(c=1↔a.l.length=b.l.length∧X6 a b 0):=by
 by_cases hl:a.l.length=b.l.length
 ·obtain⟨c,h1,h2,h3⟩:=P9 hl hlen hr a.l.length 0 (by omega);refine⟨c,?_,h2,h3.trans ⟨fun h=> ⟨hl,h⟩,fun h=>h.2⟩⟩;have hl':(a.l.length:Int)=(b.l.length:Int):=by omega
  rw [aQ,aCq,asQ,dP,if_pos,pF]
  ·simp only [List.map,bP,iC,iU,aP,Nat.reduceLT,aN,aO,aC,fin];exact h1
  ·simp only [iO,iC,aP,Nat.reduceLT,aN,aO,aC,iU];exact hl'
 ·refine⟨0,?_,.inl rfl,fun h=>absurd h (by omega),fun h=>absurd h.1 hl⟩;have hl': ¬(a.l.length:Int)=(b.l.length:Int):=by omega
  rw [aQ,aCq,asQ,dP,if_neg]
  ·simp only [jU,List.map,bP,fin]
  ·simp only [iO,iC,aP,Nat.reduceLT,aN,aO,aC,iU];exact hl'
end Go.As.Try
end
section
namespace Go.As.Try
open Go hiding Stat Spec shape
open Go.As
set_option maxRecDepth 100000
theorem anY (x0 x4 x5 x6 x7 x8 x10 x11 x12 x14:Int):Tot 501 [x0,enc (.i 1),0,0,x4,x5,x6,x7,x8,-1,x10,x11,x12,enc (.i 1),x14] (fun ys=>ys= [1]):=by
 refine Tot.of ?_;rw [ahC,VZ,dP,if_neg]
 ·simp only [zz,Ba,List.length_nil]
  repeat' first
   | exact .out rfl
   | (exfalso; omega)
   | refine .ite (fun _=>?_) (fun _=>?_)
 ·simp only [oM,aP,Nat.reduceLT,aN,aO];omega
theorem aeY (k n x1 x3 x4:Int) (m:Nat) (h3:k=3→1≤n) (h5:k=5→1≤n∧n≤16) :
 Tot 500 [k,x1,n,x3,x4,-1,(if k=3∨k=9 then n else 0),0,0,enc (.i 1),enc (.i 1),(m:Int)] (fun ys=>ys= [1]):=by
 have w:k=5→IntKind.i64.wrap (n - 1)=n - 1:=fun h=>qE (by have:=h5 h; omega) (by have:=h5 h; omega)
 have aFB: ∃a b:Int,L 650 [k,x1,n,x3,x4]=some [a,b]∧(b=0∨b=1)∧(b≠0→k≠9∧0≤(if k=3∨k=9 then n else 0)∧(if k=3∨k=9 then n else 0)≤a):=by
  have:Tot 650 [k,x1,n,x3,x4] (fun ys=> ∃a b:Int,ys= [a,b]∧(b=0∨b=1)∧(b≠0→k≠9∧0≤(if k=3∨k=9 then n else 0)∧(if k=3∨k=9 then n else 0)≤a)):=by
   refine Tot.of ?_;rw [avR];simp only [aiT,zz]
   repeat' first
    | exact .out ⟨_,_,rfl,by omega,fun h=> ⟨by omega,by split <;> omega,by split <;> omega⟩⟩
    | refine .ite (fun _=>?_) (fun _=>?_)
   all_goals exact .out ⟨_,_,rfl,by omega,fun h=> ⟨by omega,by split <;> omega,by rw [w (by assumption)]; have:=h5 (by assumption); split <;> omega⟩⟩
  obtain⟨ys,h,a,b,rfl,h2⟩:=this;exact⟨a,b,h,h2⟩
 obtain⟨a,b,hm,hb,hr⟩:=aFB;refine Tot.of ?_;rw [avS];simp only [aeT,zz,hm,Ba,List.length_nil]
 repeat' first
  | exact .out rfl
  | exact .jump (anY _ _ _ _ _ _ _ _ _ _)
  | (exfalso; omega)
  | refine .ite (fun _=>?_) (fun _=>?_)
end Go.As.Try
end
section
namespace Go.As.Try
open Go hiding Stat Spec shape
open Go.As
set_option maxRecDepth 100000
theorem ahJ {d0:D} (hl:d0.l.length≤64) (hn:0 < d0.l.length):L 301 [enc d0,(d0.l.length:Int)]=some [enc (dL (d0.l.map kY))]:=by
 have e0:=OT d0 hl (d0.l.length - 1) 1 [kY (d0.l[0]'hn)] (by omega) rfl
 have e1:[kY (d0.l[0]'hn)]++(d0.l.drop 1).map kY=d0.l.map kY:=by
  conv=>rhs; rw [← List.drop_zero (l:=d0.l),List.drop_eq_getElem_cons hn]
  rfl
 rw [e1] at e0;have a0:d0.at 0=d0.l[0]'hn:=aZ (i:=0) hn;have c1:(0:Int) < (d0.l.length:Int):=by omega
 have key: ∀q:Int,q=(if (((d0.l[0]'hn)).hd 0).n=3∨((d0.l[0]'hn).hd 0).n=9 then ((d0.l[0]'hn).hd 2).n else 0)→enc (dL [kY (d0.l[0]'hn)])=enc (.p (.p (.i (-1)) (.p (.i q) (.p (.i 0) (.p (.i 0) (.p (.i 1) (.p (.i 1) (.i 0))))))) (.i 0)):=fun q hq=>by rw [hq]; rfl
 have k:dX (bM L (low [enc d0,(d0.l.length:Int)])) Yx= .jump 302 [enc (dL [kY (d0.l[0]'hn)]),enc d0,(d0.l.length:Int),1]:=by
  by_cases h3:((d0.l[0]'hn).hd 0).n=3
  ·rw [key _ (by rw [if_pos (.inl h3)])];simp only [Yx,zz,c1,a0,Ba,List.nil_append,h3,dL]
  ·by_cases h9:((d0.l[0]'hn).hd 0).n=9
   ·rw [key _ (by rw [if_pos (.inr h9)])];simp only [Yx,zz,c1,a0,Ba,List.nil_append,if_neg h3,if_pos h9,dL]
   ·rw [key 0 (by rw [if_neg (by omega)])];simp only [Yx,zz,c1,a0,Ba,List.nil_append,if_neg h3,if_neg h9,dL]
 rw [aQ,e301];exact (congrArg (fin L) k).trans e0
theorem arE {d0 d1:D} (hc:L 450 [enc d0,enc d1]=some [0]) (hl:d0.l.length≤64) (hn:0 < d0.l.length):L 300 [enc d0,enc d1]=some [enc (dL (d0.l.map kY))]:=by
 have k:dX (bM L (low [enc d0,enc d1])) ajL= .jump 301 [enc d0,(d0.l.length:Int)]:=by refine aW [.eq (a0 450 [.aK 0,.aK 1]) (.lit 1),.eq (rr 450 [.aK 0,.aK 1] 0) (.lit 0)] [] (ju 301 [.aK 0,ln (.aK 0)]) (by simp only [zz,hc]) (by kernel_rfl) ?_;simp only [pF,List.map,aP,iC,Nat.reduceLT,aN,aO,aC]
 rw [aQ,e300];exact (congrArg (fin L) k).trans (ahJ hl hn)
theorem arD {d0 d1:D} {c:Int} (hc:L 450 [enc d0,enc d1]=some [c]) (h:c≠0∨d0.l.length=0):L 300 [enc d0,enc d1]=some [enc (.i 1)]:=by
 by_cases h0:c=0
 ·subst h0;have hz:d0.l.length=0:=h.resolve_left (fun h=>h rfl)
  have k:dX (bM L (low [enc d0,enc d1])) ajL= .jump 301 [enc d0,0]:=by refine aW [.eq (a0 450 [.aK 0,.aK 1]) (.lit 1),.eq (rr 450 [.aK 0,.aK 1] 0) (.lit 0)] [] (ju 301 [.aK 0,ln (.aK 0)]) (by simp only [zz,hc]) (by kernel_rfl) ?_;simp only [pF,List.map,aP,iC,Nat.reduceLT,aN,aO,aC,hz];rfl
  have k1:dX (bM L (low [enc d0,0])) Yx= .out [enc (.i 1)]:=by refine aW [] [.lt (.lit 0) (.aK 1)] (ou [.dat (.i 1)]) (by simp only [zz] <;> omega) (by kernel_rfl) rfl
  rw [aQ,e300];refine (congrArg (fin L) k).trans ?_;show L 301 [enc d0,0]=_;rw [aQ,e301];exact congrArg (fin L) k1
 ·have k:dX (bM L (low [enc d0,enc d1])) ajL= .out [enc (.i 1)]:=by
   refine aW [.eq (a0 450 [.aK 0,.aK 1]) (.lit 1)] [.eq (rr 450 [.aK 0,.aK 1] 0) (.lit 0)] (ou [.dat (.i 1)]) (by simp only [zz,hc] <;> omega) (by kernel_rfl) rfl
  rw [aQ,e300];exact congrArg (fin L) k
structure Gs (s:D) (n:Nat):Prop where
 wd:Wd (.sl 7) s
 rows: ∀x∈s.l,(x.hd 4).l.length≤n∧(x.hd 5).l.length≤n
theorem Gs.few {s:D} {n:Nat} (h:Gs s n) (hn:n < 17592186044415):few s:=fun x hx=>by have:=h.rows x hx; omega
theorem Gs.mono {s:D} {n m:Nat} (h:Gs s n) (hm:n≤m):Gs s m:=⟨h.wd,fun x hx=>by have:=h.rows x hx; omega⟩
theorem PE {l:List D} (h: ∀x∈l,Dx x) (hn:l≠[]) (hl:l.length≤1759218604390):Wd (.sl 7) (dL l):=by
 have e:(l.map fun x=>x.l).map dL=l:=by
  rw [List.map_map]
  conv=>rhs; rw [← List.map_id l]
  apply List.map_congr_left;intro x hx;obtain⟨o,c,d,g,r,v,rfl,_⟩:=h x hx;rfl
 rw [← e];refine .many 7 [.int .i64,.int .i64,.bool,.int .i64,.sl 0,.sl 0] _ rfl (by simpa using hn) (by have:yV 7=80:=rfl; rw [this,List.length_map]; omega) (fun r hr=>?_) fun r hr j d c h1 h2=>?_
 ·obtain⟨x,hx,rfl⟩:=List.mem_map.1 hr;obtain⟨o,c,d,g,r,v,rfl,_⟩:=h x hx;rfl
 ·obtain⟨x,hx,rfl⟩:=List.mem_map.1 hr;obtain⟨o,c',d',g,r,v,rfl,ho,hc,hd,hg,hr,hv⟩:=h x hx;rw [aT] at h1
  match j with
  | 0=>simp at h1 h2; subst h1 h2; exact .int _ _ ho
  | 1=>simp at h1 h2; subst h1 h2; exact .int _ _ hc
  | 2=>
    simp at h1 h2; subst h1 h2;rcases hd with rfl | rfl
    ·exact .bool false
    ·exact .bool true
  | 3=>simp at h1 h2; subst h1 h2; exact .int _ _ hg
  | 4=>simp at h1 h2; subst h1 h2; exact hr
  | 5=>simp at h1 h2; subst h1 h2; exact hv
  | j+6=>simp at h1
theorem Tg.thing {x:D} {o c dn g:Int} {r v:D} (T:Tg x o c dn g r v):Dx x:=⟨o,c,dn,g,r,v,T.is,T.ho,T.hc,T.hd,T.hg,T.hr,T.hv⟩
theorem BJ {l:List D} {z:Int} {y x:D} (h:x∈dY l z y):x∈l∨x=y:=by
 unfold dY at h;split at h
 ·exact .inl h
 ·exact List.mem_or_eq_of_mem_set h
theorem qK {l:List D} {z:Int} {y:D} {k:Nat} (h:(k:Int)≠z):(dY l z y)[k]?=l[k]?:=by
 unfold dY;split
 ·rfl
 ·rw [List.getElem?_set,if_neg (by omega)]
theorem Gy {l:List D} {k:Nat} {y:D} (h:k < l.length):(dY l (k:Int) y)[k]?=some y:=by rw [yB,List.getElem?_set,if_pos rfl,if_pos h]
theorem Zq {s:D} {n:Nat} (G:Gs s n) {z:Int} {y:D} (hy:Dx y) (h4:(y.hd 4).l.length≤n) (h5:(y.hd 5).l.length≤n) (hn:0 < s.l.length):Gs (dL (dY s.l z y)) n:=by
 have ht:=Ee G.wd hn;refine⟨PE (fun x hx=>?_) (fun he=>?_) (by rw [fU]; exact ht.few),fun x hx=>?_⟩
 ·rcases BJ hx with h | rfl
  ·exact G.wd.thing x h
  ·exact hy
 ·have:=fU s.l z y;rw [he] at this;simp at this;omega
 ·rw [aT] at hx;rcases BJ hx with h | rfl
  ·exact G.rows x h
  ·exact⟨h4,h5⟩
theorem Wx (s:D) (obj M:Int) (A:Act):(EO s obj M A).l.length=s.l.length:=by
 cases A with
 | blk=>rfl
 | mis=>rfl
 | res o c dn g r v m a oc=>
   unfold EO;rw [aT,fU]
   cases m with
   | none=>rfl
   | some q=>exact fU _ _ _
theorem abY {s:D} {n:Nat} (G:Gs s n) {obj M:Int} {A:Act} (hA:Pg (n+1) A) (ho0:0≤obj) (ho1:obj < (s.l.length:Int)) (hM:NoM A∨0≤M∧M < (s.l.length:Int)):Gs (EO s obj M A) (n+1):=by
 have G1:=G.mono (Nat.le_succ n)
 cases A with
 | blk=>exact G1
 | mis=>exact G1
 | res o c dn g r v m a oc=>
   obtain⟨h1,h2,h3,h4,h5,h6,h7,h8,h9,_⟩:=hA
   have hd:(if dn=0 then (0:Int) else 1)=dn:=by rcases h3 with rfl | rfl <;> rfl
   have hy:Dx (dL [.i o,.i c,.i (if dn=0 then 0 else 1),.i g,r,v]):=⟨o,c,_,g,r,v,rfl,h1,h2,by rw [hd]; exact h3,h4,h5,h7⟩
   cases m with
   | none=>exact Zq G1 hy h6 h8 (by omega)
   | some q=>
     have hM:0≤M∧M < (s.l.length:Int):=hM.resolve_left (fun h=>by simp [NoM] at h);obtain⟨k,rfl⟩ : ∃k:Nat,M=(k:Int):=⟨M.toNat,by omega⟩;have hk:k < s.l.length:=by omega
     obtain⟨o',c',d',g',r',v',he,q1,q2,q3,q4,q5,q6⟩:=G.wd.thing _ (List.getElem_mem hk);have hrw:=G1.rows _ (List.getElem_mem hk);rw [he] at hrw;have hz:dL (dY (s.at (k:Int)).l 0 (.i q))=dL [.i q,.i c',.i d',.i g',r',v']:=by rw [aZ hk,he]; rfl
     have G2:Gs (dL (dY s.l (k:Int) (dL (dY (s.at (k:Int)).l 0 (.i q))))) (n+1):=by rw [hz];exact Zq G1 ⟨q,c',d',g',r',v',rfl,h9 q rfl,q2,q3,q4,q5,q6⟩ hrw.1 hrw.2 (by omega)
     have:=Zq (z:=obj) G2 hy h6 h8 (by rw [aT,fU]; omega);rw [aT] at this;exact this
theorem alE {s:D} {obj M:Int} {A:Act} {k:Nat} (h:(k:Int)≠obj) (hM:NoM A∨(k:Int)≠M):(EO s obj M A).l[k]?=s.l[k]?:=by
 cases A with
 | blk=>rfl
 | mis=>rfl
 | res o c dn g r v m a oc=>
   unfold EO;rw [aT,qK h]
   cases m with
   | none=>rfl
   | some q=> have hM:(k:Int)≠M:=hM.resolve_left (fun h=>by simp [NoM] at h);exact qK hM
def evA (th op obj:Int):Act→List Int
 | .blk=>[0,0,0,0,0,0]
 | .mis=>[th,27,obj,IntKind.i64.wrap op,0,2]
 | .res _ _ _ _ _ _ _ a oc=>[th,op,obj,a,0,oc]
theorem Kz (s:D) (th op obj M:Int) (A:Act):outA s th op obj M A=enc (EO s obj M A) :: evA th op obj A:=by cases A <;> rfl
end Go.As.Try
end
section
namespace Go.As.Try
open Go hiding Stat Spec shape
open Go.As
set_option maxRecDepth 100000
theorem z6:((2:Int)=1)=False∧((4:Int)=3)=False∧((5:Int)=3)=False∧((5:Int)=4)=False∧((6:Int)=3)=False∧((6:Int)=4)=False∧((6:Int)=5)=False∧((7:Int)=3)=False∧((7:Int)=4)=False∧((7:Int)=5)=False∧((7:Int)=6)=False:=by simp
structure KT where
 a:Int
 lc:D
 w:Int
 o:Int
 g:Int
 tr:Int
abbrev KT.d (x:KT):D:=dL [.i x.a,x.lc,.i x.w,.i x.o,.i x.g,.i x.tr]
structure Cd (d0 d1:D):Prop where
 h0:Wd (.sl 3) d0
 h1:Wd (.sl 4) d1
 ok:BG d0 d1
 ins: ∀x∈d1.l,acW d0 x
theorem MR.code {d0 d1 s k:D} (h0:Wd (.sl 3) d0) (h1:Wd (.sl 4) d1) (hr:Iq s) (M:MR d0 d1 s k):Cd d0 d1∧s.l.length=d0.l.length:=by obtain⟨b,hb,_,hi⟩:=nH h0 h1 hr;rw [M.1] at hb;simp only [Option.some.injEq,List.cons.injEq,and_true] at hb;obtain⟨hC,hle,_⟩:=hi.1 hb.symm;obtain⟨ys,hC',c,rfl,_,hok⟩:=yT h0 h1;rw [hC] at hC';simp only [Option.some.injEq,List.cons.injEq,and_true] at hC';have:=hok hC'.symm;exact⟨⟨h0,h1,this.1,this.2⟩,hle⟩
structure Rt (d0 d1:D) (t:Int) (x:KT):Prop where
 t0:0≤t
 t1:t < (d1.l.length:Int)
 ok:OkT d0 ((d1.at t).hd 1).l.length ((d1.at t).hd 2).l.length x.a x.lc.l.length x.w x.o x.g x.tr
 hl:Wd (.sl 0) x.lc
 hg:iP .i64 x.g
abbrev Ins (d1:D) (t:Int) (x:KT):D:=((d1.at t).hd 2).at x.a
abbrev Nc (d1:D) (t:Int):Nat:=((d1.at t).hd 2).l.length
structure InF (d0:D) (nl nc:Nat) (I:D):Prop where
 ok:OkI d0 nl nc (I.hd 0).n (I.hd 1).n (I.hd 2).n (I.hd 3).n (I.hd 4).n (I.hd 6).l.length
 op:iP .u8 (I.hd 1).n
 ob:iP .i64 (I.hd 2).n
 to:iP .i64 (I.hd 4).n
 nn:iP .i64 (I.hd 5).n
 ar:Wd (.sl 6) (I.hd 6)
theorem Cd.at {d0 d1:D} (C:Cd d0 d1) {t:Int} (t0:0≤t) (t1:t < (d1.l.length:Int)):d1.at t∈d1.l:=by obtain⟨i,rfl⟩ : ∃i:Nat,t=(i:Int):=⟨t.toNat,by omega⟩;rw [aZ (by omega:i < d1.l.length)];exact List.getElem_mem _
theorem alX {d:D} {i:Int} (h0:0≤i) (h1:i < (d.l.length:Int)):d.at i∈d.l:=by obtain⟨k,rfl⟩ : ∃k:Nat,i=(k:Int):=⟨i.toNat,by omega⟩;rw [aZ (by omega:k < d.l.length)];exact List.getElem_mem _
theorem Cd.code {d0 d1:D} (C:Cd d0 d1) {t:Int} (t0:0≤t) (t1:t < (d1.l.length:Int)):Wd (.sl 5) ((d1.at t).hd 2):=by
 obtain⟨i,rfl⟩ : ∃i:Nat,t=(i:Int):=⟨t.toNat,by omega⟩;have hi:i < d1.l.length:=by omega
 obtain⟨nm',lc,cd,he,_,_,h⟩:=FD C.h1 hi;rw [aZ hi,he];exact h
theorem Cd.inf {d0 d1:D} (C:Cd d0 d1) {t:Int} {x:KT} (R:Rt d0 d1 t x) (h:x.a < (Nc d1 t:Int)):InF d0 ((d1.at t).hd 1).l.length (Nc d1 t) (Ins d1 t x):=by
 have ha:=R.ok.1;have h1:=C.ins _ (C.at R.t0 R.t1) (Ins d1 t x) (alX ha h);obtain⟨i,hi⟩ : ∃i:Nat,x.a=(i:Int):=⟨x.a.toNat,by omega⟩;have hil:i < ((d1.at t).hd 2).l.length:=by unfold Nc at h; omega
 obtain⟨a,b,c,e,f,g,Pj,he,_,hb,hc,_,hf,hg,hw⟩:=Zl (C.code R.t0 R.t1) hil;have hI:Ins d1 t x=dL [.i a,.i b,.i c,.i e,.i f,.i g,Pj]:=by unfold Ins; rw [hi,aZ hil,he]
 refine⟨h1,?_,?_,?_,?_,?_⟩
 all_goals
  rw [hI];simp only [zg,Option.getD_some,WO];assumption
theorem Rt.ints {d0 d1:D} {t:Int} {x:KT} (R:Rt d0 d1 t x):Ints x.lc:=fun y hy=>by obtain⟨n,rfl,hn⟩:=(R.hl.el1 rfl y hy).i;exact hn
section
variable {d0 d1 s k:D} {t:Int} {x:KT} (hk:k.at t=x.d) (ht:t < (k.l.length:Int)) (R:Rt d0 d1 t x)
include hk ht R
def jA (d1:D) (t:Int) (x:KT):Int:=if x.w=0 then (if x.a=(Nc d1 t:Int) then 1 else 0) else 0
theorem uX:L 1650 [enc d0,enc d1,enc s,enc k,t]=some [jA d1 t x]:=by
 have c1: ¬t < 0:=by have:=R.t0; omega
 have c2:=R.t1;unfold jA Nc;rw [aQ,azW];simp only [ajQ,zz,hk,c1,ht,c2,zg];by_cases w0:x.w=0
 ·simp only [w0,if_true];by_cases a0:x.a=(((d1.at t).hd 2).l.length:Int)
  ·simp only [a0,if_true];rfl
  ·simp only [a0,if_false];rfl
 ·simp only [w0,if_false];rfl
end
noncomputable def ev (e lc:D):Int:=low ((L 1950 [(e.hd 0).n,enc (e.hd 1),(e.hd 2).n,enc (e.hd 3),enc lc]).getD []) 0
theorem Xo {Ja lc:D} (ha:Wd (.sl 6) Ja) (hl:Ints lc) {i:Int} (i0:0≤i) (i1:i < (Ja.l.length:Int)):L 1950 [((Ja.at i).hd 0).n,enc ((Ja.at i).hd 1),((Ja.at i).hd 2).n,enc ((Ja.at i).hd 3),enc lc]=some [ev (Ja.at i) lc]∧iP .i64 (ev (Ja.at i) lc):=by
 obtain⟨j,rfl⟩ : ∃j:Nat,i=(j:Int):=⟨i.toNat,by omega⟩;have hj:j < Ja.l.length:=by omega
 obtain⟨k',s',n',ks',he,_,_,hn',h2⟩:=DJ ha hj;obtain⟨ys,hL,v,rfl,hv⟩:=Xn _ ks' (Nat.le_refl _) h2 k' n' s' lc hn' hl;have e1:Ja.at (j:Int)=dL [.i k',s',.i n',ks']:=by rw [aZ hj,he]
 unfold ev;rw [e1];simp only [zg,Option.getD_some,WO,hL,aN];exact⟨trivial,hv⟩
noncomputable def XW (Ja lc:D):Int:=if Ja.l.length=0 then 0 else ev (Ja.at ((Ja.l.length:Int) - 1)) lc
theorem awQ {Ja lc:D} (ha:Wd (.sl 6) Ja) (hl:Ints lc):iP .i64 (XW Ja lc):=by
 unfold XW;split
 ·constructor <;> omega
 ·exact (Xo ha hl (by omega) (by omega)).2
theorem Rk {Ja lc:D} (ha:Wd (.sl 6) Ja) (hl:Ints lc) (x3 x5 x6 x7 x8 x9 x10:Int): ∀(j i:Nat) (v:Int),i+j=Ja.l.length→L 1751 [enc Ja,(Ja.l.length:Int),(i:Int),x3,enc lc,x5,x6,x7,x8,x9,x10,v]=some [x9,x10,if j=0 then v else XW Ja lc,x8,1]
 | 0,i,v,hi=>by
   have c1: ¬(i:Int) < (Ja.l.length:Int):=by omega
   rw [aQ,aoZ];simp only [abN,zz,c1,cO,if_true]
 | j+1,i,v,hi=>by
   have hr:=ha.len;have c1:(i:Int) < (Ja.l.length:Int):=by omega
   have c2: ¬((i:Int) < 0):=by omega
   have w:=bC (n:=i) (by omega);obtain⟨he,_⟩:=Xo ha hl (i:=(i:Int)) (by omega) c1;have ih:=Rk ha hl x3 x5 x6 x7 x8 x9 x10 j (i+1) (ev (Ja.at (i:Int)) lc) (by omega);rw [aQ,aoZ];simp only [abN,zz,c1,c2,w,he,aX];rw [ih,if_neg (Nat.succ_ne_zero j)];by_cases hj:j=0
   ·subst hj;rw [if_pos rfl];unfold XW;rw [if_neg (by omega),show ((Ja.l.length:Int) - 1)=(i:Int) by omega]
   ·rw [if_neg hj]
noncomputable def mV (d1:D) (t:Int) (x:KT):List Int:=
 if x.w=0 then
  if x.a=(Nc d1 t:Int) then [0,0,0,0,0]
  else if ((Ins d1 t x).hd 0).n=1 then [((Ins d1 t x).hd 1).n,((Ins d1 t x).hd 2).n,XW ((Ins d1 t x).hd 6) x.lc,x.tr,1]
  else if ((Ins d1 t x).hd 0).n=2 then [26,((Ins d1 t x).hd 2).n,0,0,1]
  else [0,0,0,0,0]
 else [x.w,x.o,x.g,0,1]
section
variable {d0 d1 s k:D} {t:Int} {x:KT} (C:Cd d0 d1) (hk:k.at t=x.d) (ht:t < (k.l.length:Int)) (R:Rt d0 d1 t x)
include C hk ht R
theorem Dt:L 1750 [enc d0,enc d1,enc s,enc k,t]=some (mV d1 t x):=by
 have c1: ¬t < 0:=by have:=R.t0; omega
 have c2:=R.t1;have c3: ¬x.a < 0:=by have:=R.ok.1; omega
 have ho:=uX (s:=s) hk ht R;unfold mV;rw [aQ,azV];by_cases w0:x.w=0
 ·by_cases a0:x.a=(Nc d1 t:Int)
  ·have e:jA d1 t x=1:=by unfold jA; rw [if_pos w0,if_pos a0]
   rw [e] at ho;rw [if_pos w0,if_pos a0];simp only [Lu,zz,hk,c1,ht,c2,zg,w0,ho,aG,cO]
  ·have e:jA d1 t x=0:=by unfold jA; rw [if_pos w0,if_neg a0]
   rw [e] at ho;have hlt:x.a < (Nc d1 t:Int):=by have:=R.ok.2.1; unfold Nc at a0 ⊢; omega
   have F:=C.inf R hlt;rw [if_pos w0,if_neg a0];unfold Ins at F ⊢;unfold Nc at hlt;by_cases h1:((((d1.at t).hd 2).at x.a).hd 0).n=1
   ·rw [if_pos h1];have lp:=Rk F.ar R.ints x.a x.w x.o x.g x.tr ((((d1.at t).hd 2).at x.a).hd 1).n ((((d1.at t).hd 2).at x.a).hd 2).n ((((d1.at t).hd 2).at x.a).hd 6).l.length 0 0 (by omega)
    have e2:(if ((((d1.at t).hd 2).at x.a).hd 6).l.length=0 then 0 else XW ((((d1.at t).hd 2).at x.a).hd 6) x.lc)=XW ((((d1.at t).hd 2).at x.a).hd 6) x.lc:=by
     by_cases hz:((((d1.at t).hd 2).at x.a).hd 6).l.length=0
     ·rw [if_pos hz]; unfold XW; rw [if_pos hz]
     ·rw [if_neg hz]
    rw [e2] at lp;simp only [Lu,zz,hk,c1,ht,c2,c3,zg,w0,ho,hlt,h1,aX];rw [w0] at lp;exact lp
   ·by_cases h2:((((d1.at t).hd 2).at x.a).hd 0).n=2
    ·rw [if_neg h1,if_pos h2];simp only [Lu,zz,hk,c1,ht,c2,c3,zg,w0,ho,hlt,h2,cO,if_false,z6]
    ·rw [if_neg h1,if_neg h2];simp only [Lu,zz,hk,c1,ht,c2,c3,zg,w0,ho,hlt,h1,h2,cO]
 ·rw [if_neg w0];simp only [Lu,zz,hk,c1,ht,zg,w0,cO]
end
noncomputable def iT (I:D) (x:KT):KT:=
 if (I.hd 0).n=3 then { x with a:=x.a+1,lc:=dL (dY x.lc.l (I.hd 3).n (.i (ev ((I.hd 6).at 0) x.lc))) }
 else if (I.hd 0).n=4 then (if ev ((I.hd 6).at 0) x.lc=0 then { x with a:=(I.hd 4).n } else { x with a:=x.a+1 })
 else if (I.hd 0).n=5 then { x with a:=(I.hd 4).n }
 else if (I.hd 0).n=6 then { x with a:=x.a+1,lc:=dL (dY x.lc.l (I.hd 3).n (.i (I.hd 5).n)) }
 else if 0 < (x.lc.at (I.hd 3).n).n then { x with a:=x.a+1,lc:=dL (dY x.lc.l (I.hd 3).n (.i (IntKind.i64.wrap ((x.lc.at (I.hd 3).n).n - 1)))) }
 else { x with a:=(I.hd 4).n }
structure Loc (d1:D) (t:Int) (x:KT):Prop where
 w:x.w=0
 a:x.a < (Nc d1 t:Int)
 n1:((Ins d1 t x).hd 0).n≠1
 n2:((Ins d1 t x).hd 0).n≠2
theorem EW {d0 d1:D} {t:Int} {x:KT} (R:Rt d0 d1 t x) (ho:jA d1 t x=0) (hn:low (mV d1 t x) 4=0):Loc d1 t x:=by
 unfold jA at ho;unfold mV at hn;have h2:=R.ok.2.1;by_cases w0:x.w=0
 ·rw [if_pos w0] at ho hn;by_cases a0:x.a=(Nc d1 t:Int)
  ·rw [if_pos a0] at ho;omega
  ·rw [if_neg a0] at hn;by_cases h1:((Ins d1 t x).hd 0).n=1
   ·rw [if_pos h1] at hn;simp only [aO,aN] at hn;omega
   ·by_cases h2':((Ins d1 t x).hd 0).n=2
    ·rw [if_neg h1,if_pos h2'] at hn;simp only [aO,aN] at hn;omega
    ·exact⟨w0,by unfold Nc at a0 ⊢; omega,h1,h2'⟩
 ·rw [if_neg w0] at hn;simp only [aO,aN] at hn;omega
section
variable {d0 d1 s k:D} {t:Int} {x:KT} (C:Cd d0 d1) (ht:t < (k.l.length:Int)) (R:Rt d0 d1 t x) (Lc:Loc d1 t x)
include C ht R Lc
theorem WT:L 14000 [enc d0,enc d1,t,enc s,enc k,x.a,enc x.lc,x.w,x.o,x.g,x.tr]=some [0,enc d0,enc d1,t,enc s,enc k,x.a,enc x.lc,x.w,x.o,x.g,x.tr,(iT (Ins d1 t x) x).a,enc (iT (Ins d1 t x) x).lc]:=by
 have c1: ¬t < 0:=by have:=R.t0; omega
 have c2:=R.t1;have c3: ¬x.a < 0:=by have:=R.ok.1; omega
 have c4:=Lc.a;have F:=C.inf R c4;have hln:(x.lc.l.length:Int)=(((d1.at t).hd 1).l.length:Int):=R.ok.2.2.1;have hnc:((d1.at t).hd 2).l.length≤140737488351232:=(C.code R.t0 R.t1).len;have n1:=Lc.n1;have n2:=Lc.n2
 have hw:IntKind.i64.wrap (x.a+1)=x.a+1:=by refine qE (by omega) ?_;unfold Nc at c4;omega
 have E:=Xo F.ar R.ints (i:=0);have ok:=F.ok;unfold Ins at n1 n2 ok E ⊢;unfold Nc at c4;rw [aQ,apI];unfold iT;rcases ok with h | h | ⟨h,i0,i1,na⟩ | ⟨h,_,_,na⟩ | ⟨h,_⟩ | ⟨h,i0,i1⟩ | ⟨h,i0,i1,_⟩
 ·exact absurd h.1 n1
 ·exact absurd h.1 n2
 ·have c5: ¬(((((d1.at t).hd 2).at x.a).hd 3).n < 0):=by omega
  have c6:(((((d1.at t).hd 2).at x.a).hd 3).n < (x.lc.l.length:Int)):=by omega
  have c7:(0:Int) < (((((d1.at t).hd 2).at x.a).hd 6).l.length:Int):=by omega
  obtain⟨E,_⟩:=E (by omega) c7;simp only [zC,zz,c1,ht,c2,c3,c4,c5,c6,c7,h,E,hw,cO]
 ·have c7:(0:Int) < (((((d1.at t).hd 2).at x.a).hd 6).l.length:Int):=by omega
  obtain⟨E,_⟩:=E (by omega) c7;by_cases hz:ev (((((d1.at t).hd 2).at x.a).hd 6).at 0) x.lc=0
  ·simp only [zC,zz,c1,ht,c2,c3,c4,c7,h,E,hw,hz,cO,z6]
  ·simp only [zC,zz,c1,ht,c2,c3,c4,c7,h,E,hw,hz,cO,z6]
 ·simp only [zC,zz,c1,ht,c2,c3,c4,h,hw,cO,z6]
 ·have c5: ¬(((((d1.at t).hd 2).at x.a).hd 3).n < 0):=by omega
  have c6:(((((d1.at t).hd 2).at x.a).hd 3).n < (x.lc.l.length:Int)):=by omega
  simp only [zC,zz,c1,ht,c2,c3,c4,c5,c6,h,hw,cO,z6]
 ·have c5: ¬(((((d1.at t).hd 2).at x.a).hd 3).n < 0):=by omega
  have c6:(((((d1.at t).hd 2).at x.a).hd 3).n < (x.lc.l.length:Int)):=by omega
  by_cases hz:0 < (x.lc.at ((((d1.at t).hd 2).at x.a).hd 3).n).n
  ·simp only [zC,zz,c1,ht,c2,c3,c4,c5,c6,h,hw,hz,cO,z6]
  ·simp only [zC,zz,c1,ht,c2,c3,c4,c5,c6,h,hw,hz,cO,z6]
theorem WS (hz:x.lc.l.length=0):L 14050 [enc d0,enc d1,t,enc s,enc k,x.a,enc x.lc,x.w,x.o,x.g,x.tr]=some [0,enc d0,enc d1,t,enc s,enc k,x.a,enc x.lc,x.w,x.o,x.g,x.tr,(iT (Ins d1 t x) x).a]∧(iT (Ins d1 t x) x).lc=x.lc:=by
 have c1: ¬t < 0:=by have:=R.t0; omega
 have c2:=R.t1;have c3: ¬x.a < 0:=by have:=R.ok.1; omega
 have c4:=Lc.a;have F:=C.inf R c4;have hln:(x.lc.l.length:Int)=(((d1.at t).hd 1).l.length:Int):=R.ok.2.2.1;have hnc:((d1.at t).hd 2).l.length≤140737488351232:=(C.code R.t0 R.t1).len;have n1:=Lc.n1;have n2:=Lc.n2
 have hw:IntKind.i64.wrap (x.a+1)=x.a+1:=by refine qE (by omega) ?_;unfold Nc at c4;omega
 have E:=Xo F.ar R.ints (i:=0);have ok:=F.ok;unfold Ins at n1 n2 ok E ⊢;unfold Nc at c4;rw [aQ,apH];unfold iT;rcases ok with h | h | ⟨h,i0,i1,na⟩ | ⟨h,_,_,na⟩ | ⟨h,_⟩ | ⟨h,i0,i1⟩ | ⟨h,i0,i1,_⟩
 ·exact absurd h.1 n1
 ·exact absurd h.1 n2
 ·omega
 ·have c7:(0:Int) < (((((d1.at t).hd 2).at x.a).hd 6).l.length:Int):=by omega
  obtain⟨E,_⟩:=E (by omega) c7;by_cases hz:ev (((((d1.at t).hd 2).at x.a).hd 6).at 0) x.lc=0
  ·simp only [LC,zz,c1,ht,c2,c3,c4,c7,h,E,hw,hz,cO,z6]
  ·simp only [LC,zz,c1,ht,c2,c3,c4,c7,h,E,hw,hz,cO,z6]
 ·simp only [LC,zz,c1,ht,c2,c3,c4,h,hw,cO,z6]
 ·omega
 ·omega
theorem Gh:Rt d0 d1 t (iT (Ins d1 t x) x)∧(iT (Ins d1 t x) x).lc.l.length=x.lc.l.length:=by
 have c4:=Lc.a;have F:=C.inf R c4;obtain⟨a0,a1,hln,tr0,tr1,hw⟩:=R.ok;have n1:=Lc.n1;have n2:=Lc.n2;have ok:=F.ok;have hI:=R.ints
 have hwd: ∀{z v:Int},0≤z→z < (x.lc.l.length:Int)→iP .i64 v→Wd (.sl 0) (dL (dY x.lc.l z (.i v))):=fun {z v} h0 h1 hv=>by
  have:=R.hl.room;have h3:yV 0=8:=rfl;rw [h3] at this;have hs:=fU x.lc.l z (.i v);refine CZ (fun y hy=>?_) (fun he=>?_) (by rw [hs]; omega)
  ·rcases BJ hy with h | rfl
   ·exact (R.hl.el1 rfl y h).i
   ·exact⟨v,rfl,hv⟩
  ·rw [he] at hs;simp only [List.length_nil] at hs;omega
 have hsl: ∀z v,(dL (dY x.lc.l z v)).l.length=x.lc.l.length:=fun z v=>by rw [aT,fU]
 have T:=R.t0;have T':=R.t1;unfold Nc at c4 ok F;unfold iT;have go: ∀{a:Int} {lc:D},0≤a→a≤(((d1.at t).hd 2).l.length:Int)→lc.l.length=x.lc.l.length→Wd (.sl 0) lc→Rt d0 d1 t { x with a:=a,lc:=lc }∧({ x with a:=a,lc:=lc }:KT).lc.l.length=x.lc.l.length:=fun h0 h1 h2 h3=> ⟨⟨T,T',⟨h0,h1,by rw [h2]; exact hln,tr0,tr1,hw⟩,h3,R.hg⟩,h2⟩;rcases ok with h | h | ⟨h,i0,i1,na⟩ | ⟨h,t0,t1,na⟩ | ⟨h,t0,t1⟩ | ⟨h,i0,i1⟩ | ⟨h,i0,i1,t0,t1⟩
 ·exact absurd h.1 n1
 ·exact absurd h.1 n2
 ·rw [if_pos h];exact go (by omega) (by omega) (hsl _ _) (hwd i0 (by omega) (Xo F.ar hI (by omega) (by omega)).2)
 ·rw [if_neg (by omega),if_pos h];split
  ·exact go t0 t1 rfl R.hl
  ·exact go (by omega) (by omega) rfl R.hl
 ·rw [if_neg (by omega),if_neg (by omega),if_pos h];exact go t0 t1 rfl R.hl
 ·rw [if_neg (by omega),if_neg (by omega),if_neg (by omega),if_pos h];exact go (by omega) (by omega) (hsl _ _) (hwd i0 (by omega) F.nn)
 ·rw [if_neg (by omega),if_neg (by omega),if_neg (by omega),if_neg (by omega)];split
  ·exact go (by omega) (by omega) (hsl _ _) (hwd i0 (by omega) (wrap_in _))
  ·exact go t0 t1 rfl R.hl
end
end Go.As.Try
end
section
namespace Go.As.Try
open Go hiding Stat Spec shape
open Go.As
set_option maxRecDepth 100000
theorem z5:(∀p:Prop,(p∧False)=False)∧(∀p:Prop,(False∧p)=False)∧(¬True)=False∧(∀p:Prop,(p∧p)=p)∧(∀(a:Int) (l m:List Int),(a :: l)++m=a :: (l++m))∧(∀l:List Int,[]++l=l)∧((16:Int)=15)=False∧((3:Int)=0)=False∧((15:Int)=16)=False∧(∀ys:List Int,fin L (.out ys)=some ys):=
 ⟨and_false,false_and,not_true_eq_false,and_self,fun _ _ _=>rfl,fun _=>rfl,by simp,by simp,by simp,fun _=>rfl⟩
def ahR:Act→Prop
 | .res _ _ _ _ _ _ _ a _=>iP .i64 a
 | _=>True
theorem ahR.ite {p:Prop} [Decidable p] {a b:Act} (ha:ahR a) (hb:ahR b):ahR (if p then a else b):=by
 split
 ·exact ha
 ·exact hb
theorem aCL {r:D} (h:Wd (.sl 0) r) (i:Nat):iP .i64 (r.at (i:Int)).n:=by
 by_cases hi:i < r.l.length
 ·rw [aZ hi];obtain⟨n,hn,hk⟩:=(h.el1 rfl _ (List.getElem_mem hi)).i;rw [hn];exact hk
 ·rw [rG,List.getElem?_eq_none (by omega)];constructor <;> (simp only [Option.getD_none,WO]; omega)
theorem aEW {y:D} {M mo th op arg tries o c dn g:Int} {r v:D} (T:Tg y o c dn g r v) (hr:r.l.length≤140737488351232) (ha:iP .i64 arg):ahR (act M mo th op arg tries o c dn g r v):=by
 have hz:iP .i64 0:=⟨by omega,by omega⟩;have h1:iP .i64 1:=⟨by omega,by omega⟩;have w:=@wrap_in;have hv:=aCL T.hv 0;have hl:iP .i64 (r.l.length:Int):=⟨by omega,by omega⟩;unfold act
 repeat' refine ahR.ite ?_ ?_
 all_goals first
  | trivial
  | exact hz
  | exact h1
  | exact w _
  | exact T.hc
  | exact ha
  | exact T.hg
  | exact hv
  | exact hl
def qO (I:D) (x:KT) (op e2 e3 e4 oc:Int):KT:=
 if oc=0 then (if op=4 then { x with tr:=if 4611686018427387904 < x.tr+1 then 4611686018427387904 else x.tr+1 } else x)
 else if x.w=0 then
  { a:=if (I.hd 0).n=1∧(I.hd 1).n=16∧¬(e2=16∧e4=1) then (I.hd 4).n else x.a+1,lc:=if (I.hd 0).n=1∧¬(I.hd 3).n < 0 then dL (dY x.lc.l (I.hd 3).n (.i e4)) else x.lc,w:=if oc=3 then (if e2=15 then 25 else 24) else 0,o:=if oc=3 then e3 else x.o,g:=if oc=3∧e2=15 then e4 else x.g,tr:=0 }
 else { x with w:=0,o:=0,g:=0,tr:=0 }
def evT (e1 e2 e3 e4 e5 oc:Int):List Int:=if oc=0 then [0,0,0,0,0] else [e1,e2,e3,e4,e5]
section
variable {d0 d1 s s' k:D} {t op obj arg tries e1 e2 e3 e4 e5 oc:Int} {x:KT} (C:Cd d0 d1) (ht:t < (k.l.length:Int)) (R:Rt d0 d1 t x)
 (hA:L 400 [enc d0,enc d1,enc s,t,op,obj,arg,tries]=some [enc s',e1,e2,e3,e4,e5,oc]) (h0:oc=0→s'=s) (hx:x.w=0→x.a < (Nc d1 t:Int))
include C ht R hA h0 hx
set_option maxHeartbeats 4000000 in
theorem VU:L 14500 [enc d0,enc d1,t,op,obj,arg,tries,enc s,enc k,x.a,enc x.lc,x.w,x.o,x.g,x.tr]=some (0 :: enc d0 :: enc d1 :: t :: op :: obj :: arg :: tries :: enc s :: enc k :: x.a :: enc x.lc :: x.w :: x.o :: x.g :: x.tr :: (evT e1 e2 e3 e4 e5 oc++ [oc,enc s',(qO (Ins d1 t x) x op e2 e3 e4 oc).a,enc (qO (Ins d1 t x) x op e2 e3 e4 oc).lc,(qO (Ins d1 t x) x op e2 e3 e4 oc).w,(qO (Ins d1 t x) x op e2 e3 e4 oc).o,(qO (Ins d1 t x) x op e2 e3 e4 oc).g,(qO (Ins d1 t x) x op e2 e3 e4 oc).tr])):=by
 have c1: ¬t < 0:=by have:=R.t0; omega
 have c2:=R.t1;have c3: ¬x.a < 0:=by have:=R.ok.1; omega
 have q0:=R.ok.2.2.2.1;have q1:=R.ok.2.2.2.2.1;have wt:IntKind.i64.wrap (x.tr+1)=x.tr+1:=qE (by omega) (by omega);rw [aQ,apF];unfold qO evT;by_cases o0:oc=0
 ·have hs:=h0 o0;subst hs;subst o0;by_cases p4:op=4
  ·subst p4;by_cases pt:4611686018427387904 < x.tr+1
   ·simp only [fE,zz,hA,c1,ht,wt,pt,cO,if_true,eq_self,List.cons_append,List.nil_append]
   ·simp only [fE,zz,hA,c1,ht,wt,pt,cO,if_true,eq_self,if_false,List.cons_append,List.nil_append]
  ·simp only [fE,zz,hA,c1,ht,p4,cO,if_true,if_false,List.cons_append,List.nil_append]
 ·by_cases w0:x.w=0
  ·have c4:=hx w0;have F:=C.inf R c4;have ok:=F.ok;have hln:(x.lc.l.length:Int)=(((d1.at t).hd 1).l.length:Int):=R.ok.2.2.1;have hnc:((d1.at t).hd 2).l.length≤140737488351232:=(C.code R.t0 R.t1).len;unfold Nc at c4;have hw:IntKind.i64.wrap (x.a+1)=x.a+1:=qE (by omega) (by omega);unfold OkI Ins at ok;unfold Ins;by_cases n1:((((d1.at t).hd 2).at x.a).hd 0).n=1
   ·have hin:((((d1.at t).hd 2).at x.a).hd 3).n= -1∨0≤((((d1.at t).hd 2).at x.a).hd 3).n∧((((d1.at t).hd 2).at x.a).hd 3).n < (x.lc.l.length:Int):=by
     rw [hln];omega
    by_cases i0:((((d1.at t).hd 2).at x.a).hd 3).n < 0
    ·by_cases p16:((((d1.at t).hd 2).at x.a).hd 1).n=16
     ·by_cases q16:e2=16
      ·by_cases q4:e4=1
       ·by_cases q3:oc=3
        ·simp only [fE,zz,hA,c1,ht,c2,c3,c4,o0,w0,hw,n1,i0,p16,q16,q4,q3,z5]
        ·simp only [fE,zz,hA,c1,ht,c2,c3,c4,o0,w0,hw,n1,i0,p16,q16,q4,q3,z5]
       ·by_cases q3:oc=3
        ·simp only [fE,zz,hA,c1,ht,c2,c3,c4,o0,w0,hw,n1,i0,p16,q16,q4,q3,z5]
        ·simp only [fE,zz,hA,c1,ht,c2,c3,c4,o0,w0,hw,n1,i0,p16,q16,q4,q3,z5]
      ·by_cases zK:e2=15
       ·by_cases q3:oc=3
        ·simp only [fE,zz,hA,c1,ht,c2,c3,c4,o0,w0,hw,n1,i0,p16,q16,zK,q3,z5]
        ·simp only [fE,zz,hA,c1,ht,c2,c3,c4,o0,w0,hw,n1,i0,p16,q16,zK,q3,z5]
       ·by_cases q3:oc=3
        ·simp only [fE,zz,hA,c1,ht,c2,c3,c4,o0,w0,hw,n1,i0,p16,q16,zK,q3,z5]
        ·simp only [fE,zz,hA,c1,ht,c2,c3,c4,o0,w0,hw,n1,i0,p16,q16,zK,q3,z5]
     ·by_cases zK:e2=15
      ·by_cases q3:oc=3
       ·simp only [fE,zz,hA,c1,ht,c2,c3,c4,o0,w0,hw,n1,i0,p16,zK,q3,z5]
       ·simp only [fE,zz,hA,c1,ht,c2,c3,c4,o0,w0,hw,n1,i0,p16,zK,q3,z5]
      ·by_cases q3:oc=3
       ·simp only [fE,zz,hA,c1,ht,c2,c3,c4,o0,w0,hw,n1,i0,p16,zK,q3,z5]
       ·simp only [fE,zz,hA,c1,ht,c2,c3,c4,o0,w0,hw,n1,i0,p16,zK,q3,z5]
    ·have i1:((((d1.at t).hd 2).at x.a).hd 3).n < (x.lc.l.length:Int):=by omega
     by_cases p16:((((d1.at t).hd 2).at x.a).hd 1).n=16
     ·by_cases q16:e2=16
      ·by_cases q4:e4=1
       ·by_cases q3:oc=3
        ·simp only [fE,zz,hA,c1,ht,c2,c3,c4,o0,w0,hw,n1,i0,i1,p16,q16,q4,q3,z5]
        ·simp only [fE,zz,hA,c1,ht,c2,c3,c4,o0,w0,hw,n1,i0,i1,p16,q16,q4,q3,z5]
       ·by_cases q3:oc=3
        ·simp only [fE,zz,hA,c1,ht,c2,c3,c4,o0,w0,hw,n1,i0,i1,p16,q16,q4,q3,z5]
        ·simp only [fE,zz,hA,c1,ht,c2,c3,c4,o0,w0,hw,n1,i0,i1,p16,q16,q4,q3,z5]
      ·by_cases zK:e2=15
       ·by_cases q3:oc=3
        ·simp only [fE,zz,hA,c1,ht,c2,c3,c4,o0,w0,hw,n1,i0,i1,p16,q16,zK,q3,z5]
        ·simp only [fE,zz,hA,c1,ht,c2,c3,c4,o0,w0,hw,n1,i0,i1,p16,q16,zK,q3,z5]
       ·by_cases q3:oc=3
        ·simp only [fE,zz,hA,c1,ht,c2,c3,c4,o0,w0,hw,n1,i0,i1,p16,q16,zK,q3,z5]
        ·simp only [fE,zz,hA,c1,ht,c2,c3,c4,o0,w0,hw,n1,i0,i1,p16,q16,zK,q3,z5]
     ·by_cases zK:e2=15
      ·by_cases q3:oc=3
       ·simp only [fE,zz,hA,c1,ht,c2,c3,c4,o0,w0,hw,n1,i0,i1,p16,zK,q3,z5]
       ·simp only [fE,zz,hA,c1,ht,c2,c3,c4,o0,w0,hw,n1,i0,i1,p16,zK,q3,z5]
      ·by_cases q3:oc=3
       ·simp only [fE,zz,hA,c1,ht,c2,c3,c4,o0,w0,hw,n1,i0,i1,p16,zK,q3,z5]
       ·simp only [fE,zz,hA,c1,ht,c2,c3,c4,o0,w0,hw,n1,i0,i1,p16,zK,q3,z5]
   ·by_cases zK:e2=15
    ·by_cases q3:oc=3
     ·simp only [fE,zz,hA,c1,ht,c2,c3,c4,o0,w0,hw,n1,zK,q3,z5]
     ·simp only [fE,zz,hA,c1,ht,c2,c3,c4,o0,w0,hw,n1,zK,q3,z5]
    ·by_cases q3:oc=3
     ·simp only [fE,zz,hA,c1,ht,c2,c3,c4,o0,w0,hw,n1,zK,q3,z5]
     ·simp only [fE,zz,hA,c1,ht,c2,c3,c4,o0,w0,hw,n1,zK,q3,z5]
  ·simp only [fE,zz,hA,c1,ht,o0,w0,cO,if_true,if_false,List.cons_append,List.nil_append]
end
section
variable {d0 d1 s s' k:D} {t op obj arg tries e1 e2 e3 e4 e5 oc:Int} {x:KT} (C:Cd d0 d1) (ht:t < (k.l.length:Int)) (R:Rt d0 d1 t x)
 (hA:L 400 [enc d0,enc d1,enc s,t,op,obj,arg,tries]=some [enc s',e1,e2,e3,e4,e5,oc]) (h0:oc=0→s'=s) (hx:x.w=0→x.a < (Nc d1 t:Int)) (hz:x.lc.l.length=0)
include C ht R hA h0 hx hz
set_option maxHeartbeats 4000000 in
theorem VT:L 14550 [enc d0,enc d1,t,op,obj,arg,tries,enc s,enc k,x.a,enc x.lc,x.w,x.o,x.g,x.tr]=some (0 :: enc d0 :: enc d1 :: t :: op :: obj :: arg :: tries :: enc s :: enc k :: x.a :: enc x.lc :: x.w :: x.o :: x.g :: x.tr :: (evT e1 e2 e3 e4 e5 oc++ [oc,enc s',(qO (Ins d1 t x) x op e2 e3 e4 oc).a,(qO (Ins d1 t x) x op e2 e3 e4 oc).w,(qO (Ins d1 t x) x op e2 e3 e4 oc).o,(qO (Ins d1 t x) x op e2 e3 e4 oc).g,(qO (Ins d1 t x) x op e2 e3 e4 oc).tr]))∧(qO (Ins d1 t x) x op e2 e3 e4 oc).lc=x.lc:=by
 have c1: ¬t < 0:=by have:=R.t0; omega
 have c2:=R.t1;have c3: ¬x.a < 0:=by have:=R.ok.1; omega
 have q0:=R.ok.2.2.2.1;have q1:=R.ok.2.2.2.2.1;have wt:IntKind.i64.wrap (x.tr+1)=x.tr+1:=qE (by omega) (by omega);rw [aQ,apC];unfold qO evT;by_cases o0:oc=0
 ·have hs:=h0 o0;subst hs;subst o0;by_cases p4:op=4
  ·subst p4;by_cases pt:4611686018427387904 < x.tr+1
   ·simp only [jT,zz,hA,c1,ht,wt,pt,cO,if_true,eq_self,List.cons_append,List.nil_append] <;> exact⟨rfl,rfl⟩
   ·simp only [jT,zz,hA,c1,ht,wt,pt,cO,if_true,eq_self,if_false,List.cons_append,List.nil_append] <;> exact⟨rfl,rfl⟩
  ·simp only [jT,zz,hA,c1,ht,p4,cO,if_true,if_false,List.cons_append,List.nil_append] <;> exact⟨rfl,rfl⟩
 ·by_cases w0:x.w=0
  ·have c4:=hx w0;have F:=C.inf R c4;have ok:=F.ok;have hln:(x.lc.l.length:Int)=(((d1.at t).hd 1).l.length:Int):=R.ok.2.2.1;have hnc:((d1.at t).hd 2).l.length≤140737488351232:=(C.code R.t0 R.t1).len;unfold Nc at c4;have hw:IntKind.i64.wrap (x.a+1)=x.a+1:=qE (by omega) (by omega);unfold OkI Ins at ok;unfold Ins;by_cases n1:((((d1.at t).hd 2).at x.a).hd 0).n=1
   ·have hin:((((d1.at t).hd 2).at x.a).hd 3).n= -1∨0≤((((d1.at t).hd 2).at x.a).hd 3).n∧((((d1.at t).hd 2).at x.a).hd 3).n < (x.lc.l.length:Int):=by
     rw [hln];omega
    by_cases i0:((((d1.at t).hd 2).at x.a).hd 3).n < 0
    ·by_cases p16:((((d1.at t).hd 2).at x.a).hd 1).n=16
     ·by_cases q16:e2=16
      ·by_cases q4:e4=1
       ·by_cases q3:oc=3
        ·simp only [jT,zz,hA,c1,ht,c2,c3,c4,o0,w0,hw,n1,i0,p16,q16,q4,q3,z5] <;> exact⟨rfl,rfl⟩
        ·simp only [jT,zz,hA,c1,ht,c2,c3,c4,o0,w0,hw,n1,i0,p16,q16,q4,q3,z5] <;> exact⟨rfl,rfl⟩
       ·by_cases q3:oc=3
        ·simp only [jT,zz,hA,c1,ht,c2,c3,c4,o0,w0,hw,n1,i0,p16,q16,q4,q3,z5] <;> exact⟨rfl,rfl⟩
        ·simp only [jT,zz,hA,c1,ht,c2,c3,c4,o0,w0,hw,n1,i0,p16,q16,q4,q3,z5] <;> exact⟨rfl,rfl⟩
      ·by_cases zK:e2=15
       ·by_cases q3:oc=3
        ·simp only [jT,zz,hA,c1,ht,c2,c3,c4,o0,w0,hw,n1,i0,p16,q16,zK,q3,z5] <;> exact⟨rfl,rfl⟩
        ·simp only [jT,zz,hA,c1,ht,c2,c3,c4,o0,w0,hw,n1,i0,p16,q16,zK,q3,z5] <;> exact⟨rfl,rfl⟩
       ·by_cases q3:oc=3
        ·simp only [jT,zz,hA,c1,ht,c2,c3,c4,o0,w0,hw,n1,i0,p16,q16,zK,q3,z5] <;> exact⟨rfl,rfl⟩
        ·simp only [jT,zz,hA,c1,ht,c2,c3,c4,o0,w0,hw,n1,i0,p16,q16,zK,q3,z5] <;> exact⟨rfl,rfl⟩
     ·by_cases zK:e2=15
      ·by_cases q3:oc=3
       ·simp only [jT,zz,hA,c1,ht,c2,c3,c4,o0,w0,hw,n1,i0,p16,zK,q3,z5] <;> exact⟨rfl,rfl⟩
       ·simp only [jT,zz,hA,c1,ht,c2,c3,c4,o0,w0,hw,n1,i0,p16,zK,q3,z5] <;> exact⟨rfl,rfl⟩
      ·by_cases q3:oc=3
       ·simp only [jT,zz,hA,c1,ht,c2,c3,c4,o0,w0,hw,n1,i0,p16,zK,q3,z5] <;> exact⟨rfl,rfl⟩
       ·simp only [jT,zz,hA,c1,ht,c2,c3,c4,o0,w0,hw,n1,i0,p16,zK,q3,z5] <;> exact⟨rfl,rfl⟩
    ·omega
   ·by_cases zK:e2=15
    ·by_cases q3:oc=3
     ·simp only [jT,zz,hA,c1,ht,c2,c3,c4,o0,w0,hw,n1,zK,q3,z5] <;> exact⟨rfl,rfl⟩
     ·simp only [jT,zz,hA,c1,ht,c2,c3,c4,o0,w0,hw,n1,zK,q3,z5] <;> exact⟨rfl,rfl⟩
    ·by_cases q3:oc=3
     ·simp only [jT,zz,hA,c1,ht,c2,c3,c4,o0,w0,hw,n1,zK,q3,z5] <;> exact⟨rfl,rfl⟩
     ·simp only [jT,zz,hA,c1,ht,c2,c3,c4,o0,w0,hw,n1,zK,q3,z5] <;> exact⟨rfl,rfl⟩
  ·simp only [jT,zz,hA,c1,ht,o0,w0,cO,if_true,if_false,List.cons_append,List.nil_append] <;> exact⟨rfl,rfl⟩
end
end Go.As.Try
end
section
namespace Go.As.Try
open Go hiding Stat Spec shape
open Go.As
set_option maxRecDepth 100000
structure Sx (s k:D) (n:Nat):Prop where
 g:Gs s n
 wk:Wd (.sl 8) k
 n2s:s≠.i 2
 n2k:k≠.i 2
theorem Sx.st {s k:D} {n:Nat} (S:Sx s k n):Sk s k:=⟨S.g.wd,S.wk,S.n2s,S.n2k⟩
theorem Sx.mono {s k:D} {n m:Nat} (S:Sx s k n) (h:n≤m):Sx s k m:=⟨S.g.mono h,S.wk,S.n2s,S.n2k⟩
abbrev iH (k:D) (t:Int) (x:KT):D:=dL (dY k.l t x.d)
theorem fK (a:D) (l:List D):dL (a :: l)= .p a (dL l):=rfl
theorem iY:dL []= .i 0:=rfl
structure Tried (d0 d1 s:D) (t op obj arg tries:Int) (n:Nat) (s':D) (e1 e2 e3 e4 e5 oc:Int):Prop where
 eq:L 400 [enc d0,enc d1,enc s,t,op,obj,arg,tries]=some [enc s',e1,e2,e3,e4,e5,oc]
 no:oc=0→s'=s∧e1=0∧e2=0∧e3=0∧e4=0∧e5=0
 oc3:oc=0∨oc=2∨oc=3
 gs:Gs s' (n+1)
 len:s'.l.length=s.l.length
 n2:s≠.i 2→s'≠.i 2
 e3:iP .i64 e3
 e4:iP .i64 e4
theorem try_any {d0 d1 s:D} {t op obj arg tries:Int} {n:Nat} (h0:Wd (.sl 3) d0) (h1:Wd (.sl 4) d1) (G:Gs s n) (hn:n < 17592186043904) (ht:iP .i64 t) (hop:iP .u8 op) (hob:iP .i64 obj) (ha:iP .i64 arg) :
 ∃s' e1 e2 e3 e4 e5 oc,Tried d0 d1 s t op obj arg tries n s' e1 e2 e3 e4 e5 oc:=by
 have hf:=G.few (by omega:n < 17592186044415);have z:iP .i64 0:=⟨by omega,by omega⟩;by_cases A:Acc d0 d1 s t op obj
 ·obtain⟨_,o,c,dn,g,r,v,T,hL⟩:=Dc (arg:=arg) (tries:=tries) h0 h1 G.wd hf hop A;rw [Kz] at hL;have o0:=A.o0;have o1:=A.o1;obtain⟨i,rfl⟩ : ∃i:Nat,obj=(i:Int):=⟨obj.toNat,by omega⟩;have hi:i < s.l.length:=by omega
  have hrow:=G.rows _ (List.getElem_mem hi);have e:s.l[i]=dL [.i o,.i c,.i dn,.i g,r,v]:=by rw [← aZ hi]; exact T.is
  rw [e] at hrow;have hA:=arK (M:=Mx d0 (i:Int)) (mo:=Mo d0 s (i:Int)) (op:=op) (tries:=tries) T (n:=n) hrow.1 hrow.2 (by omega) ht ha;have hE:=aEW (M:=Mx d0 (i:Int)) (mo:=Mo d0 s (i:Int)) (th:=t) (op:=op) (tries:=tries) T (by have:=hrow.1; have:r.l.length≤n:=this; omega) ha
  have hM:NoM (act (Mx d0 (i:Int)) (Mo d0 s (i:Int)) t op arg tries o c dn g r v)∨0≤Mx d0 (i:Int)∧Mx d0 (i:Int) < (s.l.length:Int):=by
   by_cases h:op=12∨op=24
   ·have:=OV h0 h1 G.wd hf hop A h;exact .inr ⟨this.1,this.2.1⟩
   ·exact .inl (Ti (by omega) (by omega))
  have hg:=abY G hA o0 o1 hM;have hl:=Wx s (i:Int) (Mx d0 (i:Int)) (act (Mx d0 (i:Int)) (Mo d0 s (i:Int)) t op arg tries o c dn g r v);generalize act (Mx d0 (i:Int)) (Mo d0 s (i:Int)) t op arg tries o c dn g r v=B at *
  have hn2:s≠.i 2→EO s (i:Int) (Mx d0 (i:Int)) B≠.i 2:=fun _ he=>by rw [he] at hl;have:(D.i 2).l.length=0:=rfl;omega
  cases B with
  | blk=>exact⟨s,0,0,0,0,0,0,hL,fun _=> ⟨rfl,rfl,rfl,rfl,rfl,rfl⟩,.inl rfl,hg,rfl,fun h=>h,z,z⟩
  | mis=>exact⟨s,t,27,_,_,0,2,hL,fun h=>absurd h (by omega),.inr (.inl rfl),hg,rfl,fun h=>h,hob,wrap_in _⟩
  | res o' c' I4 g' r' v' m a oc=>exact⟨_,t,op,_,a,0,oc,hL,fun h=>by have:=hA.2.2.2.2.2.2.2.2.2; omega,.inr hA.2.2.2.2.2.2.2.2.2,hg,hl,hn2,hob,hE⟩
 ·exact⟨s,0,0,0,0,0,0,Lj h0 h1 G.wd hf hop A,fun _=> ⟨rfl,rfl,rfl,rfl,rfl,rfl⟩,.inl rfl,G.mono (Nat.le_succ n),rfl,fun h=>h,z,z⟩
noncomputable abbrev stE (d0 d1 s k:D) (t:Int):Nat→Int:=bM L (low [enc d0,enc d1,enc s,enc k,t])
theorem LX {k:D} {t:Int} {x:KT} (h:k=dL k.l) (t0:0≤t) (t1:t < (k.l.length:Int)) (hk:k.at t=x.d):iH k t x=k:=by
 obtain⟨i,rfl⟩ : ∃i:Nat,t=(i:Int):=⟨t.toNat,by omega⟩;have hi:i < k.l.length:=by omega
 rw [aZ hi] at hk;unfold iH;rw [← hk];exact set_self h hi
section
variable {d0 d1 s k:D} {t:Int} {n:Nat} (S:Sx s k n)
include S
theorem asT (hR:L 1550 [enc d0,enc d1,enc s,enc k,t]=some [0]):L 1850 [enc d0,enc d1,enc s,enc k,t]=some [enc s,enc k,0,0,0,0,0,0]:=by
 by_cases hr:t < 0∨(k.l.length:Int)≤t
 ·rcases ahI S.st hr with h | ⟨h,he⟩
  ·have K:dX (stE d0 d1 s k t) Jf= .out [enc s,enc k,0,0,0,0,0,0]:=by
    refine aW [.eq (a0 9050 OZ) Q0,.eq rO Qa,O4,O1] [] (ou [ED,VG,Qa,Qa,Qa,Qa,Qa,Qa]) (by simp only [zz,h,hR] <;> omega) (by kernel_rfl) ?_;simp only [zz,h]
   rw [aQ,Oj];exact congrArg (fin L) K
  ·subst he
   have K:dX (stE d0 d1 s (.i 1) t) Jf= .out [enc s,enc (.i 1),0,0,0,0,0,0]:=by refine aW [.eq (a0 9050 OZ) Q0,.eq rO Q0,O4,O1] [.eq rO Qa] (ou [ED,Qh,Qa,Qa,Qa,Qa,Qa,Qa]) (by simp only [zz,h,hR] <;> omega) (by kernel_rfl) ?_;simp only [zz,h]
   rw [aQ,Oj];exact congrArg (fin L) K
 ·obtain⟨i,rfl⟩ : ∃i:Nat,t=(i:Int):=⟨t.toNat,by omega⟩;have hi:i < k.l.length:=by omega
  obtain⟨a,lc,w,o,g,tr,T⟩:=kV S.wk _ (List.getElem_mem hi);have h:=Tc S.st hi T;have hs:iH k (i:Int) ⟨a,lc,w,o,g,tr⟩ = k:=LX (Ed S.wk (by omega)).sh (by omega) (by omega) (by rw [aZ hi,T.is]);simp only [iH,KT.d,fK,iY] at hs;have ha:CU lc=3∨CU lc=4:=by unfold CU; split <;> simp
  have K:dX (stE d0 d1 s k (i:Int)) Jf= .out [enc s,enc k,0,0,0,0,0,0]:=by
   rcases ha with ha | ha
   ·rw [ha] at h;refine aW [.eq (a0 9050 OZ) Q0,.eq rO wR,O4,O1] [.eq rO Qa,.eq rO Q0,.eq rO nV] (ou [ED,Qpz,Qa,Qa,Qa,Qa,Qa,Qa]) (by simp only [zz,h,hR] <;> omega) (by kernel_rfl) ?_;simp only [zz,h,hs]
   ·rw [ha] at h;refine aW [.eq (a0 9050 OZ) Q0,.eq rO sF,O4,O1] [.eq rO Qa,.eq rO Q0,.eq rO nV,.eq rO wR] (ou [ED,Qpz,Qa,Qa,Qa,Qa,Qa,Qa]) (by simp only [zz,h,hR] <;> omega) (by kernel_rfl) ?_;simp only [zz,h,hs]
  rw [aQ,Oj];exact congrArg (fin L) K
end
structure Rs (d0 d1 s k:D) (t:Int) (x:KT):Prop where
 c:Cd d0 d1
 r:Rt d0 d1 t x
 hk:k.at t=x.d
 ht:t < (k.l.length:Int)
 yes:L 1550 [enc d0,enc d1,enc s,enc k,t]=some [1]
theorem ayH {d0 d1 s k:D} {t:Int} {n:Nat} (S:Sx s k n) (hn:n < 17592186043904) (h0:Wd (.sl 3) d0) (h1:Wd (.sl 4) d1):L 1550 [enc d0,enc d1,enc s,enc k,t]=some [0]∨∃x,Rs d0 d1 s k t x:=by
 obtain⟨ys,hL,b,rfl,hb⟩:=Ws (k:=k) h0 h1 (S.g.few (by omega)).rows h1.len t;rcases hb with ⟨rfl,_⟩ | ⟨rfl,t0,t1,M⟩
 ·exact .inl hL
 ·refine .inr ?_;obtain⟨hle,hO⟩:=M.2;obtain⟨i,rfl⟩ : ∃i:Nat,t=(i:Int):=⟨t.toNat,by omega⟩;have hi:i < k.l.length:=by omega
  have hd:i < d1.l.length:=by omega
  obtain⟨a,lc,w,o,g,tr,T⟩:=kV S.wk _ (List.getElem_mem hi);have ok:=hO i hi;unfold OkK at ok;rw [T.is] at ok;simp only [zg,Option.getD_some,WO] at ok;refine⟨⟨a,lc,w,o,g,tr⟩,(MR.code h0 h1 (S.g.few (by omega)).rows M).1,⟨by omega,by omega,?_,T.hl,T.hg⟩,by rw [aZ hi,T.is],by omega,hL⟩;rw [aZ hd];exact ok
section
variable {d0 d1 s k:D} {t:Int} {n:Nat} {x:KT} (S:Sx s k n) (R:Rs d0 d1 s k t x)
include S R
theorem Rs.cp:L 9050 [t,enc s,enc k]=some [CU x.lc,t,enc s,enc k,x.a,enc x.lc,x.w,x.o,x.g,x.tr]:=by
 have t0:=R.r.t0;have ht:=R.ht;obtain⟨i,rfl⟩ : ∃i:Nat,t=(i:Int):=⟨t.toNat,by omega⟩;have hi:i < k.l.length:=by omega
 obtain⟨a,lc,w,o,g,tr,T⟩:=kV S.wk _ (List.getElem_mem hi);have h:=Tc S.st hi T;have e:=R.hk;rw [aZ hi,T.is] at e;simp only [KT.d,fK,iY,D.p.injEq,D.i.injEq,and_true] at e;obtain⟨rfl,rfl,rfl,rfl,rfl,rfl⟩:=e;exact h
theorem Rs.self:dL (dY k.l t (.p (.i x.a) (.p x.lc (.p (.i x.w) (.p (.i x.o) (.p (.i x.g) (.p (.i x.tr) (.i 0))))))))=k:=by
 have hl:0 < k.l.length:=by have:=R.r.t0; have:=R.ht; omega
 exact LX (Ed S.wk hl).sh R.r.t0 R.ht R.hk
theorem aeV (ho:jA d1 t x=1):L 1850 [enc d0,enc d1,enc s,enc k,t]=some [enc s,enc k,0,0,0,0,0,4]:=by
 have h:=R.cp S;have hs:=R.self S;have hR:=R.yes;have hO:=uX (s:=s) R.hk R.ht R.r;rw [ho] at hO;have ha:CU x.lc=3∨CU x.lc=4:=by unfold CU; split <;> simp
 have K:dX (stE d0 d1 s k t) Jf= .out [enc s,enc k,0,0,0,0,0,4]:=by
  rcases ha with ha | ha
  ·rw [ha] at h;refine aW [.eq (a0 9050 OZ) Q0,.eq rO wR,O4,.eq (a0 1650 Tv) Q0] [.eq rO Qa,.eq rO Q0,.eq rO nV,O1,Qp2] (ou [ED,Qpz,Qa,Qa,Qa,Qa,Qa,sF]) (by simp only [zz,h,hR,hs,hO] <;> omega) (by kernel_rfl) ?_;simp only [zz,h,hs]
  ·rw [ha] at h;refine aW [.eq (a0 9050 OZ) Q0,.eq rO sF,O4,.eq (a0 1650 Tv) Q0] [.eq rO Qa,.eq rO Q0,.eq rO nV,.eq rO wR,O1,Qp2] (ou [ED,Qpz,Qa,Qa,Qa,Qa,Qa,sF]) (by simp only [zz,h,hR,hs,hO] <;> omega) (by kernel_rfl) ?_;simp only [zz,h,hs]
 rw [aQ,Oj];exact congrArg (fin L) K
theorem YQ (ho:jA d1 t x=0) (hn:low (mV d1 t x) 4=0):L 1850 [enc d0,enc d1,enc s,enc k,t]=some [enc s,enc (iH k t (iT (Ins d1 t x) x)),0,0,0,0,0,1]:=by
 have h:=R.cp S;have hs:=R.self S;have hR:=R.yes;have hO:=uX (s:=s) R.hk R.ht R.r;have hN:=Dt (s:=s) R.c R.hk R.ht R.r;have Lc:=EW R.r ho hn;rw [ho] at hO
 have K:dX (stE d0 d1 s k t) Jf= .out [enc s,enc (iH k t (iT (Ins d1 t x) x)),0,0,0,0,0,1]:=by
  have hw:(iT (Ins d1 t x) x).w=x.w∧(iT (Ins d1 t x) x).o=x.o∧(iT (Ins d1 t x) x).g=x.g∧(iT (Ins d1 t x) x).tr=x.tr:=by
   unfold iT
   repeat' split
   all_goals exact⟨rfl,rfl,rfl,rfl⟩
  by_cases hp:0 < x.lc.l.length
  ·have ha:CU x.lc=3:=if_pos hp;rw [ha] at h;have hl:=WT (s:=s) R.c R.ht R.r Lc;refine aW [.eq (a0 9050 OZ) Q0,.eq rO wR,O4,.eq (a0 1650 Tv) Q0,Qp2,.eq (a0 1750 Tv) Q0,Qp3,.eq (a0 14000 Qp4) Q0,.eq (rr 14000 Qp4 0) Qa] [.eq rO Qa,.eq rO Q0,.eq rO nV,O1] (ou [ED,.op .set VG (cn Qpr (cn (mk (rr 14000 Qp4 12)) (cn (rr 14000 Qp4 13) Qpy))),Qa,Qa,Qa,Qa,Qa,Q0]) (by simp only [zz,h,hR,hs,hO,hN,hn,hl] <;> omega) (by kernel_rfl) ?_;simp only [zz,h,hs,hl,iH,KT.d,fK,iY,hw]
  ·have ha:CU x.lc=4:=if_neg hp;rw [ha] at h;obtain⟨hl,hc⟩:=WS (s:=s) R.c R.ht R.r Lc (by omega);refine aW [.eq (a0 9050 OZ) Q0,.eq rO sF,O4,.eq (a0 1650 Tv) Q0,Qp2,.eq (a0 1750 Tv) Q0,Qp3,.eq (a0 14050 Qp4) Q0,.eq (rr 14050 Qp4 0) Qa] [.eq rO Qa,.eq rO Q0,.eq rO nV,.eq rO wR,O1] (ou [ED,.op .set VG (cn Qpr (cn (mk (rr 14050 Qp4 12)) (cn Qpt Qpy))),Qa,Qa,Qa,Qa,Qa,Q0]) (by simp only [zz,h,hR,hs,hO,hN,hn,hl] <;> omega) (by kernel_rfl) ?_;simp only [zz,h,hs,hl,iH,KT.d,fK,iY,hw,hc]
 rw [aQ,Oj];exact congrArg (fin L) K
theorem YP {op obj arg tries e1 e2 e3 e4 e5 oc:Int} {s':D} (ho:jA d1 t x=0) (hn:mV d1 t x= [op,obj,arg,tries,1]) (A:Tried d0 d1 s t op obj arg tries n s' e1 e2 e3 e4 e5 oc) :
 L 1850 [enc d0,enc d1,enc s,enc k,t]=some [enc s',enc (iH k t (qO (Ins d1 t x) x op e2 e3 e4 oc)),e1,e2,e3,e4,e5,oc]:=by
 have h:=R.cp S;have hs:=R.self S;have hR:=R.yes;have hO:=uX (s:=s) R.hk R.ht R.r;have hN:=Dt (s:=s) R.c R.hk R.ht R.r;rw [ho] at hO;rw [hn] at hN
 have hx:x.w=0→x.a < (Nc d1 t:Int):=fun w0=>by unfold jA at ho;rw [if_pos w0] at ho;have:=R.r.ok.2.1;unfold Nc at ho ⊢;split at ho <;> omega
 have hE:evT e1 e2 e3 e4 e5 oc= [e1,e2,e3,e4,e5]:=by
  unfold evT;split
  ·rename_i h0;obtain⟨_,rfl,rfl,rfl,rfl,rfl⟩:=A.no h0;rfl
  ·rfl
 have K:dX (stE d0 d1 s k t) Jf= .out [enc s',enc (iH k t (qO (Ins d1 t x) x op e2 e3 e4 oc)),e1,e2,e3,e4,e5,oc]:=by
  by_cases hp:0 < x.lc.l.length
  ·have ha:CU x.lc=3:=if_pos hp;rw [ha] at h;have hl:=VU R.c R.ht R.r A.eq (fun h=>(A.no h).1) hx;rw [hE] at hl;simp only [List.cons_append,List.nil_append] at hl;refine aW [.eq (a0 9050 OZ) Q0,.eq rO wR,O4,.eq (a0 1650 Tv) Q0,Qp2,.eq (a0 1750 Tv) Q0,.eq (a0 14500 rP) Q0,.eq (rr 14500 rP 0) Qa] [.eq rO Qa,.eq rO Q0,.eq rO nV,O1,Qp3] (ou [rr 14500 rP 22,.op .set VG (cn Qpr (cn (mk (rr 14500 rP 23)) (cn (rr 14500 rP 24) (cn (mk (rr 14500 rP 25)) (cn (mk (rr 14500 rP 26)) (cn (mk (rr 14500 rP 27)) (cn (mk (rr 14500 rP 28)) lI))))))),rr 14500 rP 16,rr 14500 rP 17,rr 14500 rP 18,rr 14500 rP 19,rr 14500 rP 20,rr 14500 rP 21]) (by simp only [zz,h,hR,hs,hO,hN,hl] <;> omega) (by kernel_rfl) ?_;simp only [zz,h,hs,hN,hl,iH,KT.d,fK,iY]
  ·have ha:CU x.lc=4:=if_neg hp;rw [ha] at h;obtain⟨hl,hc⟩:=VT R.c R.ht R.r A.eq (fun h=>(A.no h).1) hx (by omega);rw [hE] at hl;simp only [List.cons_append,List.nil_append] at hl;refine aW [.eq (a0 9050 OZ) Q0,.eq rO sF,O4,.eq (a0 1650 Tv) Q0,Qp2,.eq (a0 1750 Tv) Q0,.eq (a0 14550 rP) Q0,.eq (rr 14550 rP 0) Qa] [.eq rO Qa,.eq rO Q0,.eq rO nV,.eq rO wR,O1,Qp3] (ou [rr 14550 rP 22,.op .set VG (cn Qpr (cn (mk (rr 14550 rP 23)) (cn Qpt (cn (mk (rr 14550 rP 24)) (cn (mk (rr 14550 rP 25)) (cn (mk (rr 14550 rP 26)) (cn (mk (rr 14550 rP 27)) lI))))))),rr 14550 rP 16,rr 14550 rP 17,rr 14550 rP 18,rr 14550 rP 19,rr 14550 rP 20,rr 14550 rP 21]) (by simp only [zz,h,hR,hs,hO,hN,hl] <;> omega) (by kernel_rfl) ?_;simp only [zz,h,hs,hN,hl,iH,KT.d,fK,iY,hc]
 rw [aQ,Oj];exact congrArg (fin L) K
end
end Go.As.Try
end
section
namespace Go.As.Try
open Go hiding Stat Spec shape
open Go.As
set_option maxRecDepth 100000
theorem Tot.jmp {j k:Nat} {xs ys:List Int} {t:T Lf} {p:List Int→Prop} (e:S.tree j=t) (h:dX (bM L (low xs)) t= .jump k ys) (q:Tot k ys p):Tot j xs p:=by refine Tot.of ?_;rw [e,h];exact .jump q
theorem Tot.ret {j:Nat} {xs ys:List Int} {t:T Lf} {p:List Int→Prop} (e:S.tree j=t) (h:dX (bM L (low xs)) t= .out ys) (q:p ys):Tot j xs p:=by refine Tot.of ?_;rw [e,h];exact .out q
theorem PZ (m:Nat) (hm:m≤60) (ih: ∀(k n:Int) (s kids:D),Wd .str s→Wd (.sl 6) kids→Tot 150 [k,enc s,n,enc kids,(m:Int)] one) (x3 x4 x5:Int) (kids:D) (hk:Wd (.sl 6) kids) :
 ∀(j i:Nat) (x1:Int),i+j=kids.l.length→Tot 151 [((m+1:Nat):Int),x1,(i:Int),x3,x4,x5,enc kids] one
 | 0,i,x1,hi=>Tot.ret avW (ys:=[x1]) (aW [] [.lt Qo Qfc] (ou [Qb]) (by simp only [zz] <;> omega) (by kernel_rfl) (by simp only [zz])) ⟨x1,rfl⟩
 | j+1,i,x1,hi=>by
   have hl:=hk.len;have hil:i < kids.l.length:=by omega
   have hw:=bC (n:=i) (by omega);obtain⟨k,s,n,ks,he,_,hs,_,hks⟩:=DJ hk hil;have ha:kids.at (i:Int)=dL [.i k,s,.i n,ks]:=by rw [aZ hil]; exact he
   obtain⟨ys,Zp,z,rfl⟩:=ih k n s ks hs hks;have hw2:IntKind.i64.wrap (((m+1:Nat):Int) - 1)=(m:Int):=by rw [qE (by omega) (by omega)]; omega
   by_cases hx:10000 < x1
   ·exact Tot.ret avW (ys:=[x1]) (aW [.lt Qo Qfc,.lt (.lit 10000) Qb] [] (ou [Qb]) (by simp only [zz] <;> omega) (by kernel_rfl) (by simp only [zz])) ⟨x1,rfl⟩
   ·exact Tot.jmp avW (aW [.lt Qo Qfc,.eq (a0 150 Qfe) Q0] [.lt (.lit 10000) Qb,wQ] (ju 151 [Qf,wr (.add Qb (rr 150 Qfe 0)),mZ,Qm,bD,bU,dN]) (by simp only [zz,ha,zg,hw2,Zp] <;> omega) (by kernel_rfl) (by simp only [zz,ha,zg,hw2,Zp,hw] <;> rfl)) (PZ m hm ih x3 x4 x5 kids hk j (i+1) (IntKind.i64.wrap (x1+z)) (by omega))
theorem Wh: ∀(m:Nat),m≤60→∀(k n:Int) (s kids:D),Wd .str s→Wd (.sl 6) kids→Tot 150 [k,enc s,n,enc kids,(m:Int)] one
 | 0,_,k,n,s,kids,_,_=>Tot.ret aCr (ys:=[10000]) (aW [Qfb] [] (ou [.lit 10000]) (by simp only [zz] <;> omega) (by kernel_rfl) (by simp only [zz])) ⟨_,rfl⟩
 | m+1,hm,k,n,s,kids,hs,hk=>Tot.jmp aCr (ys:=[((m+1:Nat):Int),_,(0:Nat),k,enc s,n,enc kids]) (aW [] [Qfb] (ju 151 [bD,wr (.add Q0 (wr (.quo Qc (.lit 100)))),Qa,Qf,Qb,Qo,Qm]) (by simp only [zz] <;> omega) (by kernel_rfl) (by simp only [pF,List.map,aP,Nat.reduceLT,aN,aO] <;> rfl)) (PZ m (by omega) (Wh m (by omega)) k (enc s) n kids hk kids.l.length 0 _ (by omega))
section
variable {d0 d1:D} (h1:Wd (.sl 4) d1)
include h1
theorem NI (x1 x2 x3:Int) (Pj:D) (ha:Wd (.sl 6) Pj) (q: ∀x0,Tot 102 [x0,x1,IntKind.i64.wrap (x2+1),x3,enc d0,enc d1] E5): ∀(j i:Nat) (x0:Int),i+j=Pj.l.length→Tot 103 [x0,x1,x2,x3,enc Pj,(Pj.l.length:Int),(i:Int),enc d0,enc d1] E5
 | 0,i,x0,hi=>Tot.jmp aCs (aW [] [.lt dN bU] (ju 102 [Qf,Qb,mZ,Qm,eF,fB]) (by simp only [zz] <;> omega) (by kernel_rfl) (by simp only [zz])) (q x0)
 | j+1,i,x0,hi=>by
   have hl:=ha.len;have hil:i < Pj.l.length:=by omega
   have hw:=bC (n:=i) (by omega);obtain⟨k,s,n,ks,he,_,hs,_,hks⟩:=DJ ha hil;have hat:Pj.at (i:Int)=dL [.i k,s,.i n,ks]:=by rw [aZ hil]; exact he
   obtain⟨ys,Zp,z,rfl⟩:=Wh 60 (by omega) k n s ks hs hks;have Zp:L 150 [k,enc s,n,enc ks,60]=some [z]:=Zp;exact Tot.jmp aCs (aW [.lt dN bU,.lt dN Qdi,.eq (a0 150 Qfa) Q0] [Qe8] (ju 103 [wr (.add Qf (rr 150 Qfa 0)),Qb,Qo,Qm,bD,bU,wr (.add dN Q0),eF,fB]) (by simp only [zz,hat,zg,Zp] <;> omega) (by kernel_rfl) (by simp only [zz,hat,zg,Zp,hw] <;> rfl)) (NI x1 x2 x3 Pj ha q j (i+1) (IntKind.i64.wrap (x0+z)) (by omega))
theorem agK (i:Nat) (hi:i < d1.l.length) (q: ∀x0,Tot 101 [x0,(d1.l.length:Int),((i+1:Nat):Int),enc d0,enc d1] E5): ∀(j k:Nat) (x0:Int),(∀nm' lc cd,d1.l[i]=dL [nm',lc,cd]→k+j=cd.l.length)→Tot 102 [x0,(i:Int),(k:Int),(d1.l.length:Int),enc d0,enc d1] E5:=by
 have hl:=h1.len;have hw:=bC (n:=i) (by omega);obtain⟨nm',lc,cd,he,_,_,hcd⟩:=FD h1 hi;have hat:d1.at (i:Int)=dL [nm',lc,cd]:=by rw [aZ hi]; exact he
 have hcl:=hcd.len;intro j
 induction j with
 | zero=> intro k x0 hk;have hk:=hk _ _ _ he;exact Tot.jmp avX (aW [.lt Qb Qe3] [Qe2,.lt Qo (ln (ce 2 X9))] (ju 101 [Qf,Qm,wL,bD,bU]) (by simp only [zz,hat,zg] <;> omega) (by kernel_rfl) (by simp only [zz,hw] <;> rfl)) (q x0)
 | succ j ih=>
   intro k x0 hk;have hk':=hk _ _ _ he;by_cases h6:6000 < x0
   ·exact Tot.jmp avX (aW [.lt Qb Qe3,.lt Qo (ln (ce 2 X9)),.lt (.lit 6000) Qf] [Qe2] (ju 101 [Qf,Qm,wL,bD,bU]) (by simp only [zz,hat,zg] <;> omega) (by kernel_rfl) (by simp only [zz,hw] <;> rfl)) (q x0)
   ·have hkl:k < cd.l.length:=by omega
    have hw2:=bC (n:=k) (by omega);obtain⟨a,b,c,e,f,g,Pj,hin,_,_,_,_,_,_,has⟩:=Zl hcd hkl;have aFz:cd.at (k:Int)=dL [.i a,.i b,.i c,.i e,.i f,.i g,Pj]:=by rw [aZ hkl]; exact hin
    refine Tot.jmp avX (aW [.lt Qb Qe3,.lt Qo (ln (ce 2 X9))] [Qe2,.lt (.lit 6000) Qf,wQ] (ju 103 [Qf,Qb,Qo,Qm,Qe7,ln Qe7,Qa,bD,bU]) (by simp only [zz,hat,zg] <;> omega) (by kernel_rfl) (by simp only [zz,hat,aFz,zg] <;> rfl)) (NI h1 (i:Int) (k:Int) (d1.l.length:Int) Pj has (fun x0=>?_) Pj.l.length 0 x0 (by omega));rw [hw2];exact ih (k+1) x0 fun nm' lc cd he=>by have:=hk nm' lc cd he; omega
theorem NH: ∀(j i:Nat) (x0:Int),i+j=d1.l.length→Tot 101 [x0,(d1.l.length:Int),(i:Int),enc d0,enc d1] E5
 | 0,i,x0,hi=>by
   by_cases h6:6000 < x0
   ·exact Tot.ret avY (aW [.lt (.lit 6000) Qf] [yZ] (ou [Q0]) (by simp only [zz] <;> omega) (by kernel_rfl) (by simp only [zz])) zT
   ·exact Tot.ret avY (aW [] [yZ,.lt (.lit 6000) Qf] (ou [Qa]) (by simp only [zz] <;> omega) (by kernel_rfl) (by simp only [zz])) zV
 | j+1,i,x0,hi=>by
   have hil:i < d1.l.length:=by omega
   obtain⟨nm',lc,cd,he,_,_,hcd⟩:=FD h1 hil;refine Tot.jmp avY (ys:=[_,(i:Int),((0:Nat):Int),(d1.l.length:Int),enc d0,enc d1]) (aW [yZ,Qdk] [wQ] (ju 102 [wr (.add Qf (wr (.add (ln Qdm) (ln (ce 2 Qdl))))),Qo,Qa,Qb,Qm,bD]) (by simp only [zz] <;> omega) (by kernel_rfl) (by simp only [zz] <;> rfl)) (agK h1 i hil (fun x0=>NH j (i+1) x0 (by omega)) cd.l.length 0 _ fun n' l' c' he'=>?_);rw [he] at he';have:=OA he';simp only [List.cons.injEq,and_true] at this;rw [this.2.2];omega
theorem agJ:Tot 100 [enc d0,enc d1] E5:=
 Tot.jmp e100 (ys:=[_,(d1.l.length:Int),((0:Nat):Int),enc d0,enc d1]) (aW [] [] (ju 101 [wr (.add vP Qc),Qc,Qa,Qf,Qb]) (by simp only [zz] <;> omega) (by kernel_rfl) (by simp only [zz] <;> rfl)) (NH h1 d1.l.length 0 _ (by omega))
end
end Go.As.Try
end
section
namespace Go.As.Try
open Go hiding Stat Spec shape
open Go.As
set_option maxRecDepth 100000
def nD (x:D):D:=dL [.i 0,if (x.hd 1).l.length=0 then .i 2 else dL (List.replicate (x.hd 1).l.length (.i 0)),.i 0,.i 0,.i 0,.i 0]
def lN (d0:D):D:=if d0.l.length=0 then .i 1 else dL (d0.l.map kY)
def oZ (d1:D):D:=if d1.l.length=0 then .i 1 else dL (d1.l.map nD)
theorem VO {l:List D} (h: ∀x∈l,∃a lc w o g tr,Kt x a lc w o g tr) (hn:l≠[]) (hl:l.length≤2199023255488):Wd (.sl 8) (dL l):=by
 have e:(l.map fun x=>x.l).map dL=l:=by
  rw [List.map_map]
  conv=>rhs; rw [← List.map_id l]
  apply List.map_congr_left;intro x hx;obtain⟨a,lc,w,o,g,tr,T⟩:=h x hx;rw [T.is];rfl
 rw [← e];refine .many 8 [.int .i64,.sl 0,.int .u8,.int .i64,.int .i64,.int .i64] _ rfl (by simpa using hn) (by have:yV 8=64:=rfl; rw [this,List.length_map]; omega) (fun r hr=>?_) fun r hr j d c h1 h2=>?_
 ·obtain⟨x,hx,rfl⟩:=List.mem_map.1 hr;obtain⟨a,lc,w,o,g,tr,T⟩:=h x hx;rw [T.is];rfl
 ·obtain⟨x,hx,rfl⟩:=List.mem_map.1 hr;obtain⟨a,lc,w,o,g,tr,T⟩:=h x hx;rw [T.is,aT] at h1
  match j with
  | 0=>simp at h1 h2; subst h1 h2; exact .int _ _ T.ha
  | 1=>simp at h1 h2; subst h1 h2; exact T.hl
  | 2=>simp at h1 h2; subst h1 h2; exact .int _ _ T.hw
  | 3=>simp at h1 h2; subst h1 h2; exact .int _ _ T.ho
  | 4=>simp at h1 h2; subst h1 h2; exact .int _ _ T.hg
  | 5=>simp at h1 h2; subst h1 h2; exact .int _ _ T.ht
  | j+6=>simp at h1
theorem aiM (x:D) (h:(x.hd 1).l.length≤17592186043904): ∃a lc w o g tr,Kt (nD x) a lc w o g tr:=by
 have z:iP .i64 0:=⟨by omega,by omega⟩;refine⟨0,_,0,0,0,0,rfl,z,?_,⟨by omega,by omega⟩,z,z,z⟩;split
 ·exact .non 0
 ·rename_i hn;refine CZ (fun y hy=> ⟨0,(List.mem_replicate.1 hy).2,z⟩) (fun he=>?_) (by simpa using h);have:=congrArg List.length he;simp only [List.length_replicate,List.length_nil] at this;omega
theorem EU {d1:D} (h1:Wd (.sl 4) d1): ∀x∈d1.l,(x.hd 1).l.length≤8796093021952:=by intro x hx;obtain⟨i,hi,rfl⟩:=List.getElem_of_mem hx;obtain⟨nm',lc,cd,he,_,hlc,_⟩:=FD h1 hi;rw [he];simp only [zg,Option.getD_some];have:=hlc.room;have h3:yV 2=16:=rfl;rw [h3] at this;omega
theorem LK {d0 d1:D} (h0:Wd (.sl 3) d0) (h1:Wd (.sl 4) d1) (ok:BG d0 d1):Sx (lN d0) (oZ d1) 0:=by
 refine⟨?_,?_,?_,?_⟩
 ·unfold lN;split
  ·exact⟨.nil 7,fun x hx=>by simp [D.l] at hx⟩
  ·refine⟨PE (fun x hx=>?_) (fun he=>?_) (by rw [List.length_map]; have:=ok.1; omega),fun x hx=>?_⟩
   ·obtain⟨y,hy,rfl⟩:=List.mem_map.1 hx;obtain⟨kd,nm',ln,s1,s2,he,_,hnn,_⟩:=h0.decl y hy;rw [he];refine⟨-1,_,0,0,.i 1,.i 1,rfl,⟨by omega,by omega⟩,?_,.inl rfl,⟨by omega,by omega⟩,.nil 0,.nil 0⟩;split
    ·exact hnn
    ·exact⟨by omega,by omega⟩
   ·have:=congrArg List.length he;simp only [List.length_map,List.length_nil] at this;omega
   ·rw [aT] at hx;obtain⟨y,hy,rfl⟩:=List.mem_map.1 hx;exact⟨Nat.le_refl 0,Nat.le_refl 0⟩
 ·unfold oZ;split
  ·exact .nil 8
  ·refine VO (fun x hx=>?_) (fun he=>?_) (by rw [List.length_map]; have:=ok.2.1; omega)
   ·obtain⟨y,hy,rfl⟩:=List.mem_map.1 hx;exact aiM y (by have:=EU h1 y hy; omega)
   ·have:=congrArg List.length he;simp only [List.length_map,List.length_nil] at this;omega
 ·unfold lN;split
  ·intro h; cases h
  ·intro h;have:=congrArg (fun d=>d.l.length) h;simp only [aT,List.length_map,Ba,List.length_nil] at this;omega
 ·unfold oZ;split
  ·intro h; cases h
  ·intro h;have:=congrArg (fun d=>d.l.length) h;simp only [aT,List.length_map,Ba,List.length_nil] at this;omega
theorem Jt (d1:D) (h1:Wd (.sl 4) d1) (hlen:d1.l.length≤16) (s:D): ∀(k i:Nat) (acc:List D),i+k=d1.l.length→acc.length=i→
 L 1452 [enc d1,(d1.l.length:Int),(i:Int),enc s,enc (dL acc)]=some [enc s,enc (dL (acc++(d1.l.drop i).map nD)),0]
 | 0,i,acc,hi,ha=>by
   have c1: ¬(i:Int) < (d1.l.length:Int):=by omega
   rw [aQ,apD,List.drop_of_length_le (by omega)];simp only [V5,zz,c1,cO,List.map_nil,List.append_nil]
 | k+1,i,acc,hi,ha=>by
   have hil:i < d1.l.length:=by omega
   have hd:d1.l.drop i=d1.l[i] :: d1.l.drop (i+1):=List.drop_eq_getElem_cons hil;have ih:=Jt d1 h1 hlen s k (i+1) (acc++ [nD d1.l[i]]) (by omega) (by simp [ha]);have c1:(i:Int) < (d1.l.length:Int):=by omega
   have c2: ¬((i:Int) < 0):=by omega
   have w:=bC (n:=i) (by omega);have c3:(acc.length:Int) < 2199023255551:=by omega
   have hb:=EU h1 _ (List.getElem_mem hil);have c4:((((d1.l[i]).hd 1).l.length:Nat):Int) < 17592186044416:=by omega
   have e2:acc++(nD d1.l[i] :: (d1.l.drop (i+1)).map nD)=acc++ [nD d1.l[i]]++(d1.l.drop (i+1)).map nD:=by simp
   rw [hd,List.map_cons,e2,← ih,aQ,apD];by_cases hz:((d1.l[i]).hd 1).l.length=0
   ·have hz':((((d1.l[i]).hd 1).l.length:Nat):Int)=0:=by omega
    have et:nD d1.l[i]= .p (.i 0) (.p (.i 2) (.p (.i 0) (.p (.i 0) (.p (.i 0) (.p (.i 0) (.i 0)))))):=by unfold nD; rw [if_pos hz]; rfl
    rw [et];simp only [V5,zz,c1,c2,w,aZ hil,hz',c3,aT,aX]
   ·have hz': ¬((((d1.l[i]).hd 1).l.length:Nat):Int)=0:=by omega
    have et:nD d1.l[i]= .p (.i 0) (.p (dL (List.replicate ((d1.l[i]).hd 1).l.length (.i 0))) (.p (.i 0) (.p (.i 0) (.p (.i 0) (.p (.i 0) (.i 0)))))):=by unfold nD; rw [if_neg hz]; rfl
    rw [et];simp only [V5,zz,c1,c2,w,aZ hil,hz',c3,c4,aT,Int.toNat_natCast,aX]
theorem WR (d1:D) (h1:Wd (.sl 4) d1) (hlen:d1.l.length≤16) (s:D):L 1451 [enc d1,(d1.l.length:Int),enc s]=some [enc s,enc (oZ d1),0]:=by
 by_cases hn:d1.l.length=0
 ·have c1: ¬(0:Int) < (d1.l.length:Int):=by omega
  have e:oZ d1= .i 1:=by unfold oZ; rw [if_pos hn]
  rw [aQ,apE,e];simp only [V6,zz,c1,cO]
 ·have hp:0 < d1.l.length:=by omega
  have c1:(0:Int) < (d1.l.length:Int):=by omega
  have e:oZ d1=dL (d1.l.map nD):=by unfold oZ; rw [if_neg hn]
  have ih:=Jt d1 h1 hlen s (d1.l.length - 1) 1 [nD (d1.l[0]'hp)] (by omega) rfl
  have e1:[nD (d1.l[0]'hp)]++(d1.l.drop 1).map nD=d1.l.map nD:=by
   conv=>rhs; rw [← List.drop_zero (l:=d1.l),List.drop_eq_getElem_cons hp]
   rfl
  rw [e1,← e] at ih;have a0:d1.at 0=d1.l[0]'hp:=aZ (i:=0) hp;have hb:=EU h1 _ (List.getElem_mem hp);have c4:((((d1.l[0]'hp).hd 1).l.length:Nat):Int) < 17592186044416:=by omega
  rw [← ih,aQ,apE];by_cases hz:((d1.l[0]'hp).hd 1).l.length=0
  ·have hz':((((d1.l[0]'hp).hd 1).l.length:Nat):Int)=0:=by omega
   have et:dL [nD (d1.l[0]'hp)]= .p (.p (.i 0) (.p (.i 2) (.p (.i 0) (.p (.i 0) (.p (.i 0) (.p (.i 0) (.i 0))))))) (.i 0):=by unfold nD; rw [if_pos hz]; rfl
   rw [et];simp only [V6,zz,c1,a0,hz',Ba,List.nil_append,fK,iY,aX,Int.natCast_one]
  ·have hz': ¬((((d1.l[0]'hp).hd 1).l.length:Nat):Int)=0:=by omega
   have et:dL [nD (d1.l[0]'hp)]= .p (.p (.i 0) (.p (dL (List.replicate ((d1.l[0]'hp).hd 1).l.length (.i 0))) (.p (.i 0) (.p (.i 0) (.p (.i 0) (.p (.i 0) (.i 0))))))) (.i 0):=by unfold nD; rw [if_neg hz]; rfl
   rw [et];simp only [V6,zz,c1,a0,hz',c4,Ba,List.nil_append,fK,iY,Int.toNat_natCast,aX,Int.natCast_one]
theorem Rq {d0 d1:D} (h1:Wd (.sl 4) d1) (hc:L 450 [enc d0,enc d1]=some [0]) (ok:BG d0 d1):L 1450 [enc d0,enc d1]=some [enc (lN d0),enc (oZ d1),0]:=by
 have h3:L 300 [enc d0,enc d1]=some [enc (lN d0)]:=by
  by_cases hn:d0.l.length=0
  ·have e:lN d0= .i 1:=by unfold lN; rw [if_pos hn]
   rw [e];exact arD hc (.inr hn)
  ·have e:lN d0=dL (d0.l.map kY):=by unfold lN; rw [if_neg hn]
   rw [e];exact arE hc ok.1 (by omega)
 have K:dX (bM L (low [enc d0,enc d1])) abP= .jump 1451 [enc d1,(d1.l.length:Int),enc (lN d0)]:=by refine aW [Qf4,Qf5,.eq (a0 300 Po) Q0] [] (ju 1451 [Qb,Qc,rr 300 Po 0]) (by simp only [zz,hc,h3] <;> omega) (by kernel_rfl) ?_;simp only [zz,h3]
 rw [aQ,apG];exact (congrArg (fin L) K).trans (WR d1 h1 ok.2.1 _)
theorem Ro {d0 d1:D} {c:Int} (hc:L 450 [enc d0,enc d1]=some [c]) (h:c≠0):L 1450 [enc d0,enc d1]=some [enc (.i 1),enc (.i 1),c]:=by
 have K:dX (bM L (low [enc d0,enc d1])) abP= .out [enc (.i 1),enc (.i 1),c]:=by refine aW [Qf4] [Qf5] (ou [Qh,Qh,rr 450 Po 0]) (by simp only [zz,hc] <;> omega) (by kernel_rfl) ?_;simp only [zz,hc]
 rw [aQ,apG];exact congrArg (fin L) K
theorem qX {k:D} {t:Int} (t0:0≤t) (ht:t < (k.l.length:Int)) (x:KT):(iH k t x).at t=x.d:=by obtain⟨i,rfl⟩ : ∃i:Nat,t=(i:Int):=⟨t.toNat,by omega⟩;rw [rG,aT,Gy (by omega)];rfl
theorem kZ (k:D) (t:Int) (x:KT):(iH k t x).l.length=k.l.length:=by rw [aT,fU]
theorem afY {d1:D} {t:Int} {x:KT} (ho: ¬jA d1 t x=1) (h: ¬low (mV d1 t x) 4=0): ∃op obj arg tr,mV d1 t x= [op,obj,arg,tr,1]:=by
 unfold jA at ho;unfold mV at h ⊢;by_cases w0:x.w=0
 ·rw [if_pos w0] at ho h ⊢;by_cases a0:x.a=(Nc d1 t:Int)
  ·rw [if_pos a0] at ho;omega
  ·rw [if_neg a0] at h ⊢;by_cases h1:((Ins d1 t x).hd 0).n=1
   ·rw [if_pos h1];exact⟨_,_,_,_,rfl⟩
   ·rw [if_neg h1] at h ⊢;by_cases h2:((Ins d1 t x).hd 0).n=2
    ·rw [if_pos h2];exact⟨_,_,_,_,rfl⟩
    ·rw [if_neg h2] at h;exact absurd rfl h
 ·rw [if_neg w0];exact⟨_,_,_,_,rfl⟩
theorem acC (d1:D) (t:Int) (x:KT):jA d1 t x=0∨jA d1 t x=1:=by
 unfold jA;split
 ·split
  ·exact .inr rfl
  ·exact .inl rfl
 ·exact .inl rfl
theorem atV {d0 d1:D} {t:Int} {x:KT} (C:Cd d0 d1) (R:Rt d0 d1 t x) (hd0:d0.l.length≤64) {op obj arg tr b:Int} (hn:mV d1 t x= [op,obj,arg,tr,b]):iP .u8 op∧iP .i64 obj∧iP .i64 arg:=by
 have z8:iP .u8 0:=⟨by omega,by omega⟩;have z:iP .i64 0:=⟨by omega,by omega⟩;have ok:=R.ok;unfold mV at hn;by_cases w0:x.w=0
 ·rw [if_pos w0] at hn;by_cases a0:x.a=(Nc d1 t:Int)
  ·rw [if_pos a0] at hn;simp only [List.cons.injEq] at hn;obtain⟨rfl,rfl,rfl,_⟩:=hn;exact⟨z8,z,z⟩
  ·have hlt:x.a < (Nc d1 t:Int):=by have:=ok.2.1; unfold Nc at a0 ⊢; omega
   have F:=C.inf R hlt;rw [if_neg a0] at hn;by_cases h1:((Ins d1 t x).hd 0).n=1
   ·rw [if_pos h1] at hn;simp only [List.cons.injEq] at hn;obtain⟨rfl,rfl,rfl,_⟩:=hn;exact⟨F.op,F.ob,awQ F.ar R.ints⟩
   ·rw [if_neg h1] at hn;by_cases h2:((Ins d1 t x).hd 0).n=2
    ·rw [if_pos h2] at hn;simp only [List.cons.injEq] at hn;obtain⟨rfl,rfl,rfl,_⟩:=hn;exact⟨⟨by omega,by omega⟩,F.ob,z⟩
    ·rw [if_neg h2] at hn;simp only [List.cons.injEq] at hn;obtain⟨rfl,rfl,rfl,_⟩:=hn;exact⟨z8,z,z⟩
 ·rw [if_neg w0] at hn;simp only [List.cons.injEq] at hn;obtain⟨rfl,rfl,rfl,_⟩:=hn;obtain⟨_,_,_,_,_,hw⟩:=ok;exact⟨⟨by omega,by omega⟩,⟨by omega,by omega⟩,R.hg⟩
end Go.As.Try
end
section
namespace Go.As.Try
open Go hiding Stat Spec shape
open Go.As
set_option maxRecDepth 100000
theorem arS {lc:D} (h:Wd (.sl 0) lc) {z v:Int} (h0:0≤z) (h1:z < (lc.l.length:Int)) (hv:iP .i64 v):Wd (.sl 0) (dL (dY lc.l z (.i v))):=by
 have:=h.room;have h3:yV 0=8:=rfl;rw [h3] at this;have hs:=fU lc.l z (.i v);refine CZ (fun y hy=>?_) (fun he=>?_) (by rw [hs]; omega)
 ·rcases BJ hy with h' | rfl
  ·exact (h.el1 rfl y h').i
  ·exact⟨v,rfl,hv⟩
 ·rw [he] at hs;simp only [List.length_nil] at hs;omega
theorem aaJ {k:D} (hk:Wd (.sl 8) k) {t:Int} {x:KT} (h: ∃a lc w o g tr,Kt x.d a lc w o g tr) (hp:0 < k.l.length):Wd (.sl 8) (iH k t x):=by
 have hf:=hk.room;have h3:yV 8=64:=rfl;rw [h3] at hf;have hs:=fU k.l t x.d;refine VO (fun y hy=>?_) (fun he=>?_) (by rw [hs]; omega)
 ·rcases BJ hy with h' | rfl
  ·exact kV hk y h'
  ·exact h
 ·rw [he] at hs;simp only [List.length_nil] at hs;omega
section
variable {d0 d1 s k:D} {t:Int} {n:Nat} {x:KT}
theorem WV {x:KT} (ha:iP .i64 x.a) (hl:Wd (.sl 0) x.lc) (hw:iP .u8 x.w) (ho:iP .i64 x.o) (hg:iP .i64 x.g) (ht:iP .i64 x.tr): ∃a lc w o g tr,Kt x.d a lc w o g tr:=⟨_,_,_,_,_,_,rfl,ha,hl,hw,ho,hg,ht⟩
theorem Rt.kt (C:Cd d0 d1) (R:Rt d0 d1 t x): ∃a lc w o g tr,Kt x.d a lc w o g tr:=by obtain⟨a0,a1,_,t0,t1,hw⟩:=R.ok;have hd:=C.ok.1;have hnc:=(C.code R.t0 R.t1).len;exact WV ⟨by omega,by omega⟩ R.hl ⟨by omega,by omega⟩ ⟨by omega,by omega⟩ R.hg ⟨by omega,by omega⟩
theorem aiH (C:Cd d0 d1) (R:Rt d0 d1 t x) (hx:x.w=0→x.a < (Nc d1 t:Int)) {op e2 e3 e4 oc:Int} (h3:iP .i64 e3) (h4:iP .i64 e4): ∃a lc w o g tr,Kt (qO (Ins d1 t x) x op e2 e3 e4 oc).d a lc w o g tr:=by
 obtain⟨a0,a1,hln,t0,t1,hw⟩:=R.ok;have hd:=C.ok.1;have hnc:=(C.code R.t0 R.t1).len;have ka:iP .i64 x.a:=⟨by omega,by omega⟩;have kw:iP .u8 x.w:=⟨by omega,by omega⟩;have ko:iP .i64 x.o:=⟨by omega,by omega⟩;have kt:iP .i64 x.tr:=⟨by omega,by omega⟩;have z:iP .i64 0:=⟨by omega,by omega⟩;have z8: ∀v:Int,v=0∨v=24∨v=25→iP .u8 v:=fun v h=> ⟨by omega,by omega⟩;unfold qO;split
 ·split
  ·exact WV ka R.hl kw ko R.hg (by
    show iP .i64 (if 4611686018427387904 < x.tr+1 then 4611686018427387904 else x.tr+1)
    split <;> exact⟨by omega,by omega⟩)
  ·exact WV ka R.hl kw ko R.hg kt
 ·split
  ·rename_i w0;have F:=C.inf R (hx w0);have ok:=F.ok;have h1:=hx w0;unfold Nc at h1;unfold OkI at ok;have k1:iP .i64 (x.a+1):=⟨by omega,by omega⟩;refine WV ?_ ?_ ?_ ?_ ?_ z
   ·show iP .i64 (if _ then _ else _);split
    ·exact F.to
    ·exact k1
   ·show Wd (.sl 0) (if _ then _ else _);split
    ·rename_i hc;refine arS R.hl (by omega) ?_ h4;have:=hc.1;omega
    ·exact R.hl
   ·show iP .u8 (if _ then _ else _);split
    ·split
     ·exact z8 _ (by omega)
     ·exact z8 _ (by omega)
    ·exact z8 _ (by omega)
   ·show iP .i64 (if _ then _ else _);split
    ·exact h3
    ·exact ko
   ·show iP .i64 (if _ then _ else _);split
    ·exact h4
    ·exact R.hg
  ·exact WV ka R.hl (z8 _ (.inl rfl)) z z z
theorem abS {k:D} (hp:0 < k.l.length) (t:Int) (x:KT):iH k t x≠.i 2:=fun he=>by have:=kZ k t x;rw [he] at this;have e:(D.i 2).l.length=0:=rfl;omega
theorem aAG (S:Sx s k n) (C:Cd d0 d1) (R:Rt d0 d1 t x) (ht:t < (k.l.length:Int)) (hx:x.w=0→x.a < (Nc d1 t:Int)) {op obj arg tries e1 e2 e3 e4 e5 oc:Int} {s':D} (A:Tried d0 d1 s t op obj arg tries n s' e1 e2 e3 e4 e5 oc) :
 Sx s' (iH k t (qO (Ins d1 t x) x op e2 e3 e4 oc)) (n+1):=by
 have hp:0 < k.l.length:=by have:=R.t0; omega
 exact⟨A.gs,aaJ S.wk (aiH C R hx A.e3 A.e4) hp,A.n2 S.n2s,abS hp _ _⟩
theorem aAo (R:Rt d0 d1 t x) (ho:jA d1 t x=0):x.w=0→x.a < (Nc d1 t:Int):=fun w0=>by unfold jA at ho;rw [if_pos w0] at ho;have:=R.ok.2.1;unfold Nc at ho ⊢;split at ho <;> omega
end
end Go.As.Try
end
section
namespace Go.As.Try
open Go hiding Stat Spec shape
open Go.As
set_option maxRecDepth 100000
theorem Rx: ∀(l:List D) (k v k':D),oO (BK l k v) k'=if k=k' then some v else oO l k'
 | [],k,v,k'=>by
   simp only [BK,oO];by_cases h:k=k'
   ·rw [if_pos h]; exact if_pos h
   ·rw [if_neg h]; exact if_neg h
 | d :: l,k,v,k'=>by
   simp only [BK];by_cases h:XL d=k
   ·rw [if_pos h];simp only [oO];by_cases h2:k=k'
    ·rw [if_pos h2]; exact if_pos h2
    ·rw [if_neg h2,if_neg (fun h3=>h2 (h.symm.trans h3))]; exact if_neg h2
   ·rw [if_neg h];simp only [oO,Rx l k v k'];by_cases h2:XL d=k'
    ·rw [if_pos h2,if_neg (fun h3=>h (h2.trans h3.symm)),if_pos h2]
    ·rw [if_neg h2,if_neg h2]
def xG (m:Int) (l:List D):Prop:=(∀x∈l,0≤x.n∧x.n < m)∧(l.map D.n).Nodup
def JQ (N o dn:Int) (rl vl:Nat):Prop:=(N < 0→(vl:Int)=0)∧(0≤N→(vl:Int)≤N)∧(o < 0∨(rl:Int)=0∧dn=0)
def aaH (s:D) (l:List D):Prop:= ∀n:Int,(oO s.l (.i n)=none∧n∉l.map D.n)∨(oO s.l (.i n)=some (.i 1)∧n∈l.map D.n)
theorem akQ {s x:D} {l:List D} (h:aaH s l):aaH (dL (BK s.l (.i x.n) (.i 1))) (l++ [x]):=fun n=>by
 rw [aT,Rx,List.map_append];by_cases hn:x.n=n
 ·rw [if_pos (by rw [hn])];exact .inr ⟨rfl,List.mem_append_right _ (by simp [hn])⟩
 ·rw [if_neg (fun h=>hn (by simpa using h))];rcases h n with ⟨h1,h2⟩ | ⟨h1,h2⟩
  ·refine .inl ⟨h1,fun h3=>?_⟩;rcases List.mem_append.1 h3 with h3 | h3
   ·exact h2 h3
   ·simp only [List.map,List.mem_cons,List.not_mem_nil,or_false] at h3;exact hn h3.symm
  ·exact .inr ⟨h1,List.mem_append_left _ h2⟩
theorem KH {P Q:Prop} {ys:List Int} (h:P) (hQ:isB Q ys):isB (P∧Q) ys:=by
 obtain⟨b,rfl,h1 | h1⟩:=hQ
 ·exact⟨b,rfl,.inl ⟨h1.1,fun q=>h1.2 q.2⟩⟩
 ·exact⟨b,rfl,.inr ⟨h1.1,h,h1.2⟩⟩
theorem zS {P Q:Prop} (h: ¬P):isB (P∧Q) [0]:=Gm fun q=>h q.1
theorem Wq (m:Int) (r:D) (hl:r.l.length≤140737488351232) (k nm' N x7 x8 o c dn g:Int) (v:D): ∀(j i:Nat) (seen:D),i+j=r.l.length→aaH seen (r.l.take i)→xG m (r.l.take i)→
 Tot 501 [m,enc r,(r.l.length:Int),(i:Int),k,nm',N,x7,x8,o,c,dn,g,enc v,enc seen] (isB (xG m r.l∧JQ N o dn r.l.length v.l.length))
 | 0,i,seen,hi,_,hR=>by
   have c1: ¬(i:Int) < (r.l.length:Int):=by omega
   rw [List.take_of_length_le (by omega)] at hR;refine Tot.of ?_;unfold JQ;rw [ahC];simp only [VZ,zz,c1]
   repeat' first
    | exact .out (KH hR (Gm (by omega)))
    | exact .out (KH hR (acU (by omega)))
    | refine .ite (fun _=>?_) (fun _=>?_)
 | j+1,i,seen,hi,hS,hR=>by
   have hil:i < r.l.length:=by omega
   have c1:(i:Int) < (r.l.length:Int):=by omega
   have c2: ¬((i:Int) < 0):=by omega
   have w:=bC (n:=i) (by omega);have ht:r.l.take (i+1)=r.l.take i++ [r.l[i]]:=by rw [List.take_add_one,List.getElem?_eq_getElem hil]; rfl
   have hmem:r.l[i]∈r.l:=List.getElem_mem hil;have ih:=fun h=>Wq m r hl k nm' N x7 x8 o c dn g v j (i+1) (dL (BK seen.l (.i (r.l[i]).n) (.i 1))) (by omega) (by rw [ht]; exact akQ hS) h;refine Tot.of ?_;rw [ahC];rcases hS (r.l[i]).n with ⟨h1,h2⟩ | ⟨h1,h2⟩
   ·simp only [VZ,zz,c1,c2,w,aZ hil,h1,Option.isSome_none,Bool.false_eq_true];refine .ite (fun q=> .out (zS fun R=>?_)) (fun q=> .ite (fun q2=>?_) (fun q2=> .out (zS fun R=>?_)))
    ·have:=R.1 _ hmem;omega
    ·refine .jump (ih ?_);rw [ht];refine⟨fun x hx=>?_,?_⟩
     ·rcases List.mem_append.1 hx with hx | hx
      ·exact hR.1 x hx
      ·simp only [List.mem_cons,List.not_mem_nil,or_false] at hx;subst hx;exact⟨by omega,q2⟩
     ·rw [List.map_append,List.nodup_append];refine⟨hR.2,by simp,fun a ha b hb=>?_⟩;simp only [List.map,List.mem_cons,List.not_mem_nil,or_false] at hb;subst hb;intro he;subst he;exact h2 ha
    ·have:=R.1 _ hmem;omega
   ·simp only [VZ,zz,c1,c2,w,aZ hil,h1,aG]
    have nd: ¬xG m r.l:=fun R=>by
     have hn:=R.2;have e:r.l=r.l.take i++r.l[i] :: r.l.drop (i+1):=by rw [← List.drop_eq_getElem_cons hil,List.take_append_drop]
     rw [e,List.map_append,List.nodup_append] at hn;exact hn.2.2 _ h2 _ (by rw [List.map_cons]; exact List.mem_cons_self) rfl
    refine .ite (fun q=> .out (zS nd)) (fun q=> .ite (fun q2=> .out (zS nd)) (fun q2=> .out (zS nd)))
theorem afI (m:Int) (r:D) (hl:r.l.length≤140737488351232) (k nm' N x7 x8 o c dn g:Int) (v:D) :
 Tot 501 [m,enc r,(r.l.length:Int),0,k,nm',N,x7,x8,o,c,dn,g,enc v,enc (.i 0)] (isB (xG m r.l∧JQ N o dn r.l.length v.l.length)):=
 Wq m r hl k nm' N x7 x8 o c dn g v r.l.length 0 (.i 0) (by omega) (fun n=> .inl ⟨rfl,by simp⟩) ⟨by simp,by simp⟩
def wM (k N c:Int):Prop:=k=9∨(k=3∧0≤c∧c≤N)∨(k=5∧0≤c∧c≤IntKind.i64.wrap (N - 1))∨(k=7∧0≤c∧c≤1099511627776)∨(k≠3∧k≠5∧k≠7∧k≠9∧c=0)
theorem atX (k x1 N x3 x4 c:Int): ∃a b:Int,L 650 [k,x1,N,x3,x4]=some [a,b]∧(b=0∧wM k N c∨b=1∧(wM k N c↔0≤c∧c≤a)):=by
 have:Tot 650 [k,x1,N,x3,x4] (fun ys=> ∃a b:Int,ys= [a,b]∧(b=0∧wM k N c∨b=1∧(wM k N c↔0≤c∧c≤a))):=by
  unfold wM;refine Tot.of ?_;rw [avR];simp only [aiT,zz]
  repeat' first
   | exact .out ⟨_,_,rfl,by omega⟩
   | refine .ite (fun _=>?_) (fun _=>?_)
 obtain⟨ys,h,a,b,rfl,h2⟩:=this;exact⟨a,b,h,h2⟩
def TA (k N m o c dn g:Int) (rl vl:Nat):Prop:=
 wM k N c∧-1≤o∧o < m∧0≤g∧g≤4611686018427387904∧(0≤o→k=1∨k=2∨k=6)∧(0 < (rl:Int)→k=4∨k=2)∧(0 < (vl:Int)→k=8)∧(dn≠0→k=6)∧(0 < g→k=5)
def aaG (k N m o c dn g:Int) (r v:D):Prop:=TA k N m o c dn g r.l.length v.l.length∧xG m r.l∧JQ N o dn r.l.length v.l.length
set_option maxHeartbeats 4000000 in
theorem akI (k x1 N x3 x4 m o c dn g:Int) (r v:D) (hl:r.l.length≤140737488351232):Tot 500 [k,x1,N,x3,x4,o,c,dn,g,enc r,enc v,m] (isB (aaG k N m o c dn g r v)):=by
 unfold aaG TA;obtain⟨a,b,hM,hb⟩:=atX k x1 N x3 x4 c;have ih:=afI m r hl k x1 N x3 x4 o c dn g v;refine Tot.of ?_;rw [avS];generalize wM k N c=H at *;by_cases b0:b=0
 ·subst b0
  have hH:H:=by
   rcases hb with h | h
   ·exact h.2
   ·omega
  simp only [aeT,zz,hM]
  repeat' first
   | exact .out (zS (by omega))
   | exact .jump (let ⟨ys,hL,hB⟩:=ih; ⟨ys,hL,KH ⟨hH,by omega,by omega,by omega,by omega,by omega,by omega,by omega,by omega,by omega⟩ hB⟩)
   | refine .ite (fun _=>?_) (fun _=>?_)
 ·have hH:H↔0≤c∧c≤a:=by
   rcases hb with h | h
   ·omega
   ·exact h.2
  simp only [aeT,zz,hM,if_neg b0]
  repeat' first
   | exact .out (zS fun h=>by first | omega | (have:=hH.1 h.1; omega))
   | exact .jump (let ⟨ys,hL,hB⟩:=ih; ⟨ys,hL,KH ⟨hH.2 ⟨by omega,by omega⟩,by omega,by omega,by omega,by omega,by omega,by omega,by omega,by omega,by omega⟩ hB⟩)
   | refine .ite (fun _=>?_) (fun _=>?_)
theorem acT {P:Prop} {j:Nat} {xs:List Int} (h:Tot j xs (isB P)):L j xs=some [1]↔P:=by
 obtain⟨ys,hL,b,rfl,hb⟩:=h;rw [hL];simp only [Option.some.injEq,List.cons.injEq,and_true];rcases hb with ⟨h1,h2⟩ | ⟨h1,h2⟩
 ·exact⟨fun h=>by omega,fun h=>absurd h h2⟩
 ·exact⟨fun _=>h2,fun _=>h1⟩
theorem akJ {d x:D} {m:Nat} {o c dn g:Int} {r v:D} (T:Tg x o c dn g r v) (hl:r.l.length≤140737488351232):Snd d x m↔aaG (d.hd 0).n (d.hd 2).n (m:Int) o c dn g r v:=by
 have h:=acT (akI (d.hd 0).n (enc (d.hd 1)) (d.hd 2).n (enc (d.hd 3)) (d.hd 4).n (m:Int) o c dn g r v hl)
 have e:(if dn=0 then (0:Int) else 1)=dn:=by rcases T.hd with rfl | rfl <;> rfl
 unfold Snd asW;rw [T.is];simp only [zg,Option.getD_some,WO,e];exact h
end Go.As.Try
end
section
namespace Go.As.Try
open Go hiding Stat Spec shape
open Go.As
set_option maxRecDepth 100000
theorem Uf {m:Int} {l l':List D} (h:xG m l) (hs:l'.Sublist l):xG m l':=⟨fun x hx=>h.1 x (hs.subset hx),h.2.sublist (hs.map _)⟩
theorem atF (m:Int):xG m []:=⟨by simp,by simp⟩
theorem Wp {m t:Int} {l:List D} (h:xG m l) (hn: ∀x∈l,x.n≠t) (t0:0≤t) (t1:t < m):xG m (l++ [.i t]):=by
 refine⟨fun x hx=>?_,?_⟩
 ·rcases List.mem_append.1 hx with hx | hx
  ·exact h.1 x hx
  ·simp only [List.mem_cons,List.not_mem_nil,or_false] at hx;subst hx;exact⟨t0,t1⟩
 ·rw [List.map_append,List.nodup_append];refine⟨h.2,by simp,fun a ha b hb=>?_⟩;simp only [List.map,List.mem_cons,List.not_mem_nil,or_false,WO] at hb;subst hb;obtain⟨x,hx,rfl⟩:=List.mem_map.1 ha;exact hn x hx
theorem aAU {m t:Int} {l:List D} (h:xG m l) (t0:0≤t) (t1:t < m):xG m (wo t l++ [.i t]):=
 Wp (Uf h List.filter_sublist) (fun x hx=>by simpa using (List.mem_filter.1 hx).2) t0 t1
theorem atG {m:Int} {l:List D} (h:xG m l) (k:Nat):xG m (l.take k++l.drop (k+1)):=by rw [← List.eraseIdx_eq_take_drop_succ];exact Uf h (List.eraseIdx_sublist _ _)
theorem WB {r:D} {t:Int} (h:place r t < 0): ∀x∈r.l,x.n≠t:=by
 rcases tC r t with ⟨_,h2⟩ | ⟨k,_,h1,_⟩
 ·exact h2
 ·omega
def ahP (k N m:Int):Act→Prop
 | .res o c dn g r v _ _ _=>aaG k N m o c dn g r v
 | _=>True
theorem ahP.ite {k N m:Int} {p:Prop} [Decidable p] {a b:Act} (ha:p→ahP k N m a) (hb: ¬p→ahP k N m b):ahP k N m (if p then a else b):=by
 by_cases h:p
 ·rw [if_pos h]; exact ha h
 ·rw [if_neg h]; exact hb h
theorem Zf {op k:Int} (h0:0≤op) (hk:kindOf op=k) (h1:1≤k) :
 (op=1∨op=2∨op=3∨op=4)∧k=1∨(op=5∨op=6∨op=7∨op=8)∧k=2∨(op=9∨op=10∨op=11)∧k=3∨(op=12∨op=13∨op=14∨op=24)∧k=4∨(op=15∨op=25)∧k=5∨(op=16∨op=26)∧k=6∨(op=17∨op=18∨op=19)∧k=7∨(op=20∨op=21)∧k=8∨(op=22∨op=23)∧k=9:=by
 unfold kindOf at hk;by_cases h27:op < 27
 ·have:op=0∨op=1∨op=2∨op=3∨op=4∨op=5∨op=6∨op=7∨op=8∨op=9∨op=10∨op=11∨op=12∨op=13∨op=14∨op=15∨op=16∨op=17∨op=18∨op=19∨op=20∨op=21∨op=22∨op=23∨op=24∨op=25∨op=26:=by omega
  rcases this with rfl | rfl | rfl | rfl | rfl | rfl | rfl | rfl | rfl | rfl | rfl | rfl | rfl | rfl | rfl | rfl | rfl | rfl | rfl | rfl | rfl | rfl | rfl | rfl | rfl | rfl | rfl
  all_goals simp at hk
  all_goals subst hk
  all_goals first | omega | simp
 ·rw [if_neg h27] at hk;omega
section
variable {d0 x:D} {k N m mo th op arg tries o c dn g:Int} {r v:D}
set_option maxHeartbeats 8000000 in
theorem awU (T:Tg x o c dn g r v) (S:aaG k N m o c dn g r v) (hop:0≤op) (hk:kindOf op=k) (hO:OkO d0 k N) (t0:0≤th) (t1:th < m) (hm:m≤16):ahP k N m (act N mo th op arg tries o c dn g r v):=by
 obtain⟨P,R,E⟩:=S;have hc1:=T.hc.1;have hc2:=T.hc.2;have hg1:=T.hg.1;have hd:=T.hd;have pr:=iR r th;have pn:=fun h=>WB (r:=r) (t:=th) h;have rs:=fun h=>Wp R (WB (r:=r) (t:=th) h) t0 t1;have rw':=aAU R t0 t1
 have rd:=atG R (place r th).toNat
 have r1:=Uf R (List.drop_sublist 1 r.l);obtain⟨k1,k2,_,kn,k5,_⟩:=hO;unfold TA wM at P;unfold JQ at E;have hcs:=Zf hop hk k1;rcases hcs with ⟨h | h | h | h,hk'⟩ | ⟨h | h | h | h,hk'⟩ | ⟨h | h | h,hk'⟩ | ⟨h | h | h | h,hk'⟩ | ⟨h | h,hk'⟩ | ⟨h | h,hk'⟩ | ⟨h | h | h,hk'⟩ | ⟨h | h,hk'⟩ | ⟨h | h,hk'⟩
 all_goals
  subst h;subst hk';simp only [act,Int.reduceEq,if_true,if_false,reduceIte]
  repeat' first
   | exact trivial
   | refine ahP.ite (fun _=>?_) (fun _=>?_)
 all_goals
  refine⟨?_,?_,?_⟩
  ·clear rs rw' rd r1 pn;unfold TA wM
   try simp only [aT,kJ,Ba,List.length_append,List.length_cons,List.length_nil,List.length_drop,IntKind.wrap_i64,true_or,or_true,true_and,and_true,implies_true,true_implies] at *
   omega
  ·try simp only [aT,kJ,Ba]
   first
    | exact R
    | exact rs (by omega)
    | exact rw'
    | exact rd
    | exact r1
    | exact atF _
  ·unfold JQ
   try simp only [aT,kJ,Ba,List.length_append,List.length_cons,List.length_nil,List.length_drop,List.length_take,IntKind.wrap_i64,true_or,or_true,true_and,and_true,implies_true,true_implies] at *
   omega
end
end Go.As.Try
end
section
namespace Go.As.Try
open Go hiding Stat Spec shape
open Go.As
set_option maxRecDepth 100000
structure aF8 (d0 d1 s k:D) (t:Int) (n:Nat) (s' k':D) (e1 e2 e3 e4 e5 oc:Int):Prop where
 eq:L 1850 [enc d0,enc d1,enc s,enc k,t]=some [enc s',enc k',e1,e2,e3,e4,e5,oc]
 sx:Sx s' k' (n+1)
 ls:s'.l.length=s.l.length
 lk:k'.l.length=k.l.length
section
variable {d0 d1 s k:D} {n:Nat} (S:Sx s k n) (hn:n < 17592186043904) (h0:Wd (.sl 3) d0) (h1:Wd (.sl 4) d1)
include S hn h0 h1
theorem aBa {t:Int} {x:KT} (R:Rs d0 d1 s k t x) (ho:jA d1 t x=0) (ha:low (mV d1 t x) 4=0):Sx s (iH k t (iT (Ins d1 t x) x)) n:=by
 have hp:0 < k.l.length:=by have:=R.r.t0; have:=R.ht; omega
 exact⟨S.g,aaJ S.wk ((Gh R.c R.ht R.r (EW R.r ho ha)).1.kt R.c) hp,S.n2s,abS hp _ _⟩
end
def QN (x n:Int):Int:=if x.tmod n < 0 then x.tmod n+n else x.tmod n
theorem VX {x n:Int} (h:0 < n): -n < x.tmod n∧x.tmod n < n:=by have h1:=Int.tmod_lt_of_pos x h;have h2:=Int.tmod_lt_of_pos (-x) h;rw [Int.neg_tmod] at h2;omega
theorem afQ {x n:Int} (h:0 < n):0≤QN x n∧QN x n < n:=by have:=VX (x:=x) h;unfold QN;split <;> omega
theorem afP {x n:Int} (h:0 < n) (hb:n≤140737488351232):(IntKind.i64.wrap (x.tmod n+n)).tmod n=QN x n:=by
 have h1:=VX (x:=x) h;rw [qE (by omega) (by omega)];unfold QN;split
 ·exact Int.tmod_eq_of_lt (by omega) (by omega)
 ·rw [Int.tmod_eq_emod_of_nonneg (by omega),Int.add_emod_right];exact Int.emod_eq_of_lt (by omega) (by omega)
end Go.As.Try
end
section
namespace Go.As.Try
open Go hiding Stat Spec shape
open Go.As
set_option maxRecDepth 100000
inductive aaE (d0 d1 s:D) (t op obj arg tries:Int):D→Int→Int→Int→Int→Int→Int→Prop
 | no:aaE d0 d1 s t op obj arg tries s 0 0 0 0 0 0
 | mis (A:Acc d0 d1 s t op obj):aaE d0 d1 s t op obj arg tries s t 27 obj (IntKind.i64.wrap op) 0 2
 | res (A:Acc d0 d1 s t op obj) (o c dn g:Int) (r v:D) (o' c' I4 g':Int) (r' v':D) (m:Option Int) (a oc:Int) (T:Tg (s.at obj) o c dn g r v)
  (h:act (Mx d0 obj) (Mo d0 s obj) t op arg tries o c dn g r v= .res o' c' I4 g' r' v' m a oc):aaE d0 d1 s t op obj arg tries (EO s obj (Mx d0 obj) (.res o' c' I4 g' r' v' m a oc)) t op obj a 0 oc
section
variable {d0 d1 s s':D} {t op obj arg tries e1 e2 e3 e4 e5 oc:Int} {n:Nat}
theorem Yu (h0:Wd (.sl 3) d0) (h1:Wd (.sl 4) d1) (G:Gs s n) (hn:n < 17592186043904) (hop:iP .u8 op) (A:Tried d0 d1 s t op obj arg tries n s' e1 e2 e3 e4 e5 oc):aaE d0 d1 s t op obj arg tries s' e1 e2 e3 e4 e5 oc:=by
 have hf:=G.few (by omega:n < 17592186044415);have hA:=A.eq;by_cases h:Acc d0 d1 s t op obj
 ·obtain⟨_,o,c,dn,g,r,v,T,hL⟩:=Dc (arg:=arg) (tries:=tries) h0 h1 G.wd hf hop h;rw [Kz] at hL;rw [hA] at hL
  cases hB:act (Mx d0 obj) (Mo d0 s obj) t op arg tries o c dn g r v with
  | blk=> rw [hB] at hL;simp only [evA,Option.some.injEq,List.cons.injEq,and_true] at hL;obtain⟨q,rfl,rfl,rfl,rfl,rfl,rfl⟩:=hL;have q:=lV q;subst q;exact .no
  | mis=> rw [hB] at hL;simp only [evA,Option.some.injEq,List.cons.injEq,and_true] at hL;obtain⟨q,rfl,rfl,rfl,rfl,rfl,rfl⟩:=hL;have q:=lV q;subst q;exact .mis h
  | res o' c' I4 g' r' v' m a oc'=> rw [hB] at hL;simp only [evA,Option.some.injEq,List.cons.injEq,and_true] at hL;obtain⟨q,rfl,rfl,rfl,rfl,rfl,rfl⟩:=hL;have q:=lV q;subst q;exact .res h o c dn g r v o' c' I4 g' r' v' m _ _ T hB
 ·have hL:=Lj (arg:=arg) (tries:=tries) h0 h1 G.wd hf hop h;rw [hA] at hL;simp only [Option.some.injEq,List.cons.injEq,and_true] at hL;obtain⟨q,rfl,rfl,rfl,rfl,rfl,rfl⟩:=hL;have q:=lV q;subst q;exact .no
end
section
variable {d0 d1 s:D} {n:Nat} (h0:Wd (.sl 3) d0) (h1:Wd (.sl 4) d1) (G:Gs s n) (hn:n < 17592186044000)
include h0 h1 G hn
theorem abW (R:L 350 [enc d0,enc d1,enc s]=some [1]):L 450 [enc d0,enc d1]=some [0]∧BG d0 d1∧s.l.length=d0.l.length:=by obtain⟨b,hb,_,hi⟩:=nH h0 h1 (G.few (by omega)).rows;rw [R] at hb;simp only [Option.some.injEq,List.cons.injEq,and_true] at hb;obtain⟨hC,hle,_⟩:=hi.1 hb.symm;exact⟨hC,Md h0 h1 (G.few (by omega)) R⟩
theorem YZ (R:L 350 [enc d0,enc d1,enc s]=some [1]) {i:Int} (i0:0≤i) (i1:i < (s.l.length:Int)) {o c dn g:Int} {r v:D} (T:Tg (s.at i) o c dn g r v):aaG ((d0.at i).hd 0).n ((d0.at i).hd 2).n (d1.l.length:Int) o c dn g r v:=by
 obtain⟨b,hb,_,hi⟩:=nH h0 h1 (G.few (by omega)).rows;rw [R] at hb;simp only [Option.some.injEq,List.cons.injEq,and_true] at hb;obtain⟨_,hle,hs⟩:=hi.1 hb.symm;obtain⟨k,rfl⟩ : ∃k:Nat,i=(k:Int):=⟨i.toNat,by omega⟩;have hk:k < s.l.length:=by omega
 have h:=hs k hk;rw [aZ hk] at T;have hrow:=G.rows _ (List.getElem_mem hk);rw [T.is] at hrow;have hl:r.l.length≤140737488351232:=by have:=hrow.1; have:r.l.length≤n:=this; omega
 rw [akJ T hl] at h;rw [aZ (by omega:k < d0.l.length)];exact h
theorem aDc (hC:L 450 [enc d0,enc d1]=some [0]) (hle:s.l.length=d0.l.length) (h: ∀i:Nat,i < s.l.length→∃o c dn g r v,Tg (s.at (i:Int)) o c dn g r v∧aaG ((d0.at (i:Int)).hd 0).n ((d0.at (i:Int)).hd 2).n (d1.l.length:Int) o c dn g r v):L 350 [enc d0,enc d1,enc s]=some [1]:=by
 obtain⟨b,hb,_,hi⟩:=nH h0 h1 (G.few (by omega)).rows;rw [hb,hi.2 ⟨hC,hle,fun k hk=>?_⟩];obtain⟨o,c,dn,g,r,v,T,P⟩:=h k hk;rw [aZ hk] at T;rw [aZ (by omega:k < d0.l.length)] at P;have hrow:=G.rows _ (List.getElem_mem hk);rw [T.is] at hrow;have hl:r.l.length≤140737488351232:=by have:=hrow.1; have:r.l.length≤n:=this; omega
 exact (akJ T hl).2 P
end
theorem ayO {s:D} {n:Nat} (G:Gs s n) {i:Int} (i0:0≤i) (i1:i < (s.l.length:Int)): ∃o c dn g r v,Tg (s.at i) o c dn g r v∧r.l.length≤n∧v.l.length≤n:=by
 obtain⟨k,rfl⟩ : ∃k:Nat,i=(k:Int):=⟨i.toNat,by omega⟩;have hk:k < s.l.length:=by omega
 obtain⟨o,c,dn,g,r,v,T⟩:=Lm (G.wd.thing _ (List.getElem_mem hk));have hrow:=G.rows _ (List.getElem_mem hk);rw [T.is] at hrow;exact⟨o,c,dn,g,r,v,by rw [aZ hk]; exact T,hrow.1,hrow.2⟩
def ahQ (th:Int):Act→Prop
 | .res _ _ _ _ _ _ m _ _=> ∀q,m=some q→q= -1∨q=th
 | _=>True
theorem ahQ.ite {th:Int} {p:Prop} [Decidable p] {a b:Act} (ha:ahQ th a) (hb:ahQ th b):ahQ th (if p then a else b):=by
 split
 ·exact ha
 ·exact hb
theorem aEV {M mo th op arg tries o c dn g:Int} {r v:D}:ahQ th (act M mo th op arg tries o c dn g r v):=by
 have e1: ∀q:Int,(none:Option Int)=some q→q= -1∨q=th:=fun q h=>by simp at h
 have e2: ∀q:Int,some (-1:Int)=some q→q= -1∨q=th:=fun q h=>by simp only [Option.some.injEq] at h; exact .inl h.symm
 have e3: ∀q:Int,some th=some q→q= -1∨q=th:=fun q h=>by simp only [Option.some.injEq] at h; exact .inr h.symm
 unfold act
 repeat' refine ahQ.ite ?_ ?_
 all_goals first
  | trivial
  | exact e1
  | exact e2
  | exact e3
theorem arG {s:D} {i:Nat} {x:D} (h:s.l[i]?=some x):s.at (i:Int)=x:=by rw [rG,h]; rfl
section
variable {d0 d1 s:D} {t op obj arg tries:Int} {n:Nat} (h0:Wd (.sl 3) d0) (h1:Wd (.sl 4) d1) (G:Gs s n) (hn:n < 17592186043904) (hop:iP .u8 op) (ht:iP .i64 t) (ha:iP .i64 arg)
include h0 h1 G hn hop ht ha
theorem afJ (A:Acc d0 d1 s t op obj) {o c dn g:Int} {r v:D} (T:Tg (s.at obj) o c dn g r v) {o' c' I4 g':Int} {r' v':D} {m:Option Int} {a oc:Int}
 (h:act (Mx d0 obj) (Mo d0 s obj) t op arg tries o c dn g r v= .res o' c' I4 g' r' v' m a oc):L 350 [enc d0,enc d1,enc (EO s obj (Mx d0 obj) (.res o' c' I4 g' r' v' m a oc))]=some [1]:=by
 obtain⟨hC,ok,hle⟩:=abW h0 h1 G (by omega) A.r;have a0:=A.o0;have a1:=A.o1;obtain⟨i,rfl⟩ : ∃i:Nat,obj=(i:Int):=⟨obj.toNat,by omega⟩;have hi:i < s.l.length:=by omega
 have hO:=ok.2.2 _ (alX (d:=d0) a0 (by omega))
 have hrv:r.l.length≤n∧v.l.length≤n:=by
  have hrow:=G.rows _ (List.getElem_mem hi);have e:s.l[i]=dL [.i o,.i c,.i dn,.i g,r,v]:=by rw [← aZ hi]; exact T.is
  rw [e] at hrow;exact hrow
 have hS:=YZ h0 h1 G (by omega) A.r a0 a1 T;have hS':=awU (d0:=d0) (mo:=Mo d0 s (i:Int)) (tries:=tries) (arg:=arg) (th:=t) T hS hop.1 A.k hO A.t0 A.t1 (by have:=ok.2.1; omega);have hK:=arK (M:=Mx d0 (i:Int)) (mo:=Mo d0 s (i:Int)) (op:=op) (tries:=tries) T (n:=n) hrv.1 hrv.2 (by omega) ht ha;have hQ:=aEV (M:=Mx d0 (i:Int)) (mo:=Mo d0 s (i:Int)) (th:=t) (op:=op) (arg:=arg) (tries:=tries) (o:=o) (c:=c) (dn:=dn) (g:=g) (r:=r) (v:=v)
 have hN:m=none∨op=12∨op=24:=by
  by_cases h2:op=12∨op=24
  ·exact .inr h2
  ·have:=Ti (M:=Mx d0 (i:Int)) (mo:=Mo d0 s (i:Int)) (th:=t) (op:=op) (arg:=arg) (tries:=tries) (o:=o) (c:=c) (dn:=dn) (g:=g) (r:=r) (v:=v) (by omega) (by omega);rw [h] at this;exact .inl this
 rw [h] at hS' hK hQ
 have hM:NoM (.res o' c' I4 g' r' v' m a oc)∨0≤Mx d0 (i:Int)∧Mx d0 (i:Int) < (s.l.length:Int)∧Mx d0 (i:Int)≠(i:Int):=by
  rcases hN with h2 | h2
  ·exact .inl h2
  ·exact .inr (OV h0 h1 G.wd (G.few (by omega)) hop A h2)
 have G':=abY G hK a0 a1 (hM.imp id fun h=> ⟨h.1,h.2.1⟩);have hl:=Wx s (i:Int) (Mx d0 (i:Int)) (.res o' c' I4 g' r' v' m a oc)
 have hd:(if I4=0 then (0:Int) else 1)=I4:=by rcases hK.2.2.1 with rfl | rfl <;> rfl
 refine aDc h0 h1 G' (by omega) hC (by rw [hl]; exact hle) fun j hj=>?_;rw [hl] at hj;by_cases hji:j=i
 ·subst hji
  have e:(EO s (j:Int) (Mx d0 (j:Int)) (.res o' c' I4 g' r' v' m a oc)).at (j:Int)=dL [.i o',.i c',.i I4,.i g',r',v']:=by refine arG ?_;unfold EO;rw [aT,hd];exact Gy (by cases m with | none=>exact hj | some q=>rw [fU]; exact hj)
  exact⟨o',c',I4,g',r',v',⟨e,hK.1,hK.2.1,hK.2.2.1,hK.2.2.2.1,hK.2.2.2.2.1,hK.2.2.2.2.2.2.1⟩,hS'⟩
 ·by_cases hjm:NoM (.res o' c' I4 g' r' v' m a oc)∨(j:Int)≠Mx d0 (i:Int)
  ·have e:(EO s (i:Int) (Mx d0 (i:Int)) (.res o' c' I4 g' r' v' m a oc)).at (j:Int)=s.at (j:Int):=by
    rw [rG,rG,alE (by omega) hjm]
   obtain⟨o2,c2,dn2,g2,r2,v2,T2,_,_⟩:=ayO G (i:=(j:Int)) (by omega) (by omega);exact⟨o2,c2,dn2,g2,r2,v2,by rw [e]; exact T2,YZ h0 h1 G (by omega) A.r (by omega) (by omega) T2⟩
  ·have hj1:(j:Int)=Mx d0 (i:Int):=Decidable.byContradiction fun hne=>hjm (.inr hne)
   cases m with
   | none=>exact absurd (.inl rfl) hjm
   | some q=>
     obtain⟨o2,c2,dn2,g2,r2,v2,T2,_,_⟩:=ayO G (i:=(j:Int)) (by omega) (by omega);have P2:=YZ h0 h1 G (by omega) A.r (by omega) (by omega) T2
     have hk1:((d0.at (j:Int)).hd 0).n=1:=by
      have h4:((d0.at (i:Int)).hd 0).n=4:=by
       rw [← A.k];rcases hN with h2 | h2 | h2
       ·simp at h2
       ·rw [h2]; rfl
       ·rw [h2]; rfl
      obtain⟨_,_,m3⟩:=hO.2.2.2.2.2 h4;rw [hj1];exact m3
     have e:(EO s (i:Int) (Mx d0 (i:Int)) (.res o' c' I4 g' r' v' (some q) a oc)).at (j:Int)=dL [.i q,.i c2,.i dn2,.i g2,r2,v2]:=by refine arG ?_;unfold EO;rw [aT,qK (by omega),← hj1,Gy (by omega),T2.is];rfl
     refine⟨q,c2,dn2,g2,r2,v2,⟨e,hK.2.2.2.2.2.2.2.2.1 q rfl,T2.hc,T2.hd,T2.hg,T2.hr,T2.hv⟩,?_⟩;have t0:=A.t0;have t1:=A.t1;have hq:=hQ q rfl;rw [hk1] at P2 ⊢;obtain⟨p,q2,q3⟩:=P2;unfold TA wM at p;unfold JQ at q3;refine⟨?_,q2,?_⟩
     ·unfold TA wM;omega
     ·unfold JQ;omega
end
def ahO (op:Int):Act→Prop
 | .res _ _ _ _ _ _ _ _ oc=>oc=2∨oc=3∧(op=12∨op=15)
 | _=>True
theorem ahO.ite {op:Int} {p:Prop} [Decidable p] {a b:Act} (ha:p→ahO op a) (hb: ¬p→ahO op b):ahO op (if p then a else b):=by
 by_cases h:p
 ·rw [if_pos h]; exact ha h
 ·rw [if_neg h]; exact hb h
theorem aEU {M mo th op arg tries o c dn g:Int} {r v:D}:ahO op (act M mo th op arg tries o c dn g r v):=by
 unfold act
 repeat' first
  | trivial
  | exact .inl rfl
  | exact .inr ⟨rfl,.inl (by assumption)⟩
  | exact .inr ⟨rfl,.inr (by assumption)⟩
  | refine ahO.ite (fun _=>?_) (fun _=>?_)
section
variable {d0 d1 s s' k:D} {t op obj arg tries e1 e2 e3 e4 e5 oc:Int} {n:Nat} {x:KT}
theorem aAH (C:Cd d0 d1) (R:Rt d0 d1 t x) (hx:x.w=0→x.a < (Nc d1 t:Int)) (hle:s.l.length=d0.l.length) (h3:iP .i64 e3) (h4:iP .i64 e4) (T:aaE d0 d1 s t op obj arg tries s' e1 e2 e3 e4 e5 oc):Rt d0 d1 t (qO (Ins d1 t x) x op e2 e3 e4 oc):=by
 obtain⟨a',lc',w',o',g',tr',hK⟩:=aiH (op:=op) (e2:=e2) (oc:=oc) C R hx h3 h4;have hd:=hK.is;simp only [KT.d,fK,iY,D.p.injEq,D.i.injEq,and_true] at hd;obtain⟨e_a,e_l,e_w,e_o,e_g,e_t⟩:=hd
 have hw3:oc=3→0≤e3∧e3 < (d0.l.length:Int)∧(e2=15∧((d0.at e3).hd 0).n=5∨e2≠15∧((d0.at e3).hd 0).n=4):=by
  intro ho
  cases T with
  | no=>omega
  | mis A=>omega
  | res A o c dn g r v o' c' I4 g' r' v' m a oc T h=>
    have hW:=aEU (M:=Mx d0 obj) (mo:=Mo d0 s obj) (th:=t) (op:=op) (arg:=arg) (tries:=tries) (o:=o) (c:=c) (dn:=dn) (g:=g) (r:=r) (v:=v);rw [h] at hW;have hk:=A.k;have:=A.o0;have:=A.o1;refine⟨A.o0,by omega,?_⟩;rcases hW with hW | ⟨_,hW | hW⟩
    ·omega
    ·subst hW;exact .inr ⟨by omega,by rw [← hk]; rfl⟩
    ·subst hW;exact .inl ⟨rfl,by rw [← hk]; rfl⟩
 refine⟨R.t0,R.t1,?_,by rw [e_l]; exact hK.hl,by rw [e_g]; exact hK.hg⟩;obtain⟨a0,a1,hln,tr0,tr1,hw⟩:=R.ok;unfold qO;by_cases o0:oc=0
 ·rw [if_pos o0];split
  ·refine⟨a0,a1,hln,?_,?_,hw⟩
   ·show 0≤(if 4611686018427387904 < x.tr+1 then (4611686018427387904:Int) else x.tr+1);split <;> omega
   ·show (if 4611686018427387904 < x.tr+1 then (4611686018427387904:Int) else x.tr+1)≤4611686018427387904;split <;> omega
  ·exact⟨a0,a1,hln,tr0,tr1,hw⟩
 ·rw [if_neg o0];by_cases w0:x.w=0
  ·rw [if_pos w0];have c4:=hx w0;have F:=C.inf R c4;have ok:=F.ok;unfold OkI at ok;unfold Nc at c4;have hxo:x.o=0∧x.g=0:=by omega
   refine⟨?_,?_,?_,Int.le_refl _,by show (0:Int)≤4611686018427387904; omega,?_⟩
   ·show (0:Int)≤(if ((Ins d1 t x).hd 0).n=1∧((Ins d1 t x).hd 1).n=16∧¬(e2=16∧e4=1) then ((Ins d1 t x).hd 4).n else x.a+1);split
    ·rename_i hc;obtain⟨c1,c2,_⟩:=hc;omega
    ·omega
   ·show (if ((Ins d1 t x).hd 0).n=1∧((Ins d1 t x).hd 1).n=16∧¬(e2=16∧e4=1) then ((Ins d1 t x).hd 4).n else x.a+1)≤(((d1.at t).hd 2).l.length:Int);split
    ·rename_i hc;obtain⟨c1,c2,_⟩:=hc;unfold Nc at ok;omega
    ·omega
   ·show ((if ((Ins d1 t x).hd 0).n=1∧¬((Ins d1 t x).hd 3).n < 0 then dL (dY x.lc.l ((Ins d1 t x).hd 3).n (.i e4)) else x.lc).l.length:Int)=_;split
    ·rw [aT,fU]; exact hln
    ·exact hln
   ·show (if oc=3 then (if e2=15 then (25:Int) else 24) else 0)=0∧(if oc=3 then e3 else x.o)=0∧(if oc=3∧e2=15 then e4 else x.g)=0∨(if oc=3 then (if e2=15 then (25:Int) else 24) else 0)=24∧0≤(if oc=3 then e3 else x.o)∧(if oc=3 then e3 else x.o) < (d0.l.length:Int)∧((d0.at (if oc=3 then e3 else x.o)).hd 0).n=4∨(if oc=3 then (if e2=15 then (25:Int) else 24) else 0)=25∧0≤(if oc=3 then e3 else x.o)∧(if oc=3 then e3 else x.o) < (d0.l.length:Int)∧((d0.at (if oc=3 then e3 else x.o)).hd 0).n=5;by_cases ho:oc=3
    ·obtain⟨q0,q1,q2⟩:=hw3 ho;rcases q2 with ⟨q2,q3⟩ | ⟨q2,q3⟩
     ·simp only [ho,q2,if_true,true_and,and_self];exact .inr (.inr ⟨q0,q1,q3⟩)
     ·simp only [ho,q2,if_true,if_false,true_and,and_false];exact .inr (.inl ⟨q0,q1,q3⟩)
    ·simp only [ho,if_false,false_and,hxo,true_and,and_self,true_or]
  ·rw [if_neg w0];exact⟨a0,a1,hln,Int.le_refl _,by show (0:Int)≤4611686018427387904; omega,.inl ⟨rfl,rfl,rfl⟩⟩
end
inductive JM (d0 d1 s k:D) (t:Int) (n:Nat):D→D→Int→Int→Int→Int→Int→Int→Prop
 | no (h:L 1550 [enc d0,enc d1,enc s,enc k,t]=some [0]):JM d0 d1 s k t n s k 0 0 0 0 0 0
 | over (x:KT) (R:Rs d0 d1 s k t x) (ho:jA d1 t x=1):JM d0 d1 s k t n s k 0 0 0 0 0 4
 | loc (x:KT) (R:Rs d0 d1 s k t x) (ho:jA d1 t x=0) (ha:low (mV d1 t x) 4=0):JM d0 d1 s k t n s (iH k t (iT (Ins d1 t x) x)) 0 0 0 0 0 1
 | tri (x:KT) (R:Rs d0 d1 s k t x) (ho:jA d1 t x=0) (op obj arg tr:Int) (hq:mV d1 t x= [op,obj,arg,tr,1]) (k1:iP .u8 op) (k2:iP .i64 obj) (k3:iP .i64 arg) (hti:iP .i64 t) (s':D) (e1 e2 e3 e4 e5 oc:Int)
  (A:Tried d0 d1 s t op obj arg tr n s' e1 e2 e3 e4 e5 oc) (T:aaE d0 d1 s t op obj arg tr s' e1 e2 e3 e4 e5 oc):JM d0 d1 s k t n s' (iH k t (qO (Ins d1 t x) x op e2 e3 e4 oc)) e1 e2 e3 e4 e5 oc
section
variable {d0 d1 s k:D} {n:Nat} (S:Sx s k n) (hn:n < 17592186043904) (h0:Wd (.sl 3) d0) (h1:Wd (.sl 4) d1)
include S hn h0 h1
theorem YR (t:Int): ∃s' k' e1 e2 e3 e4 e5 oc,L 1850 [enc d0,enc d1,enc s,enc k,t]=some [enc s',enc k',e1,e2,e3,e4,e5,oc]∧JM d0 d1 s k t n s' k' e1 e2 e3 e4 e5 oc:=by
 rcases ayH (t:=t) S hn h0 h1 with h | ⟨x,R⟩
 ·exact⟨s,k,0,0,0,0,0,0,asT S h,.no h⟩
 ·rcases acC d1 t x with ho | ho
  ·by_cases ha:low (mV d1 t x) 4=0
   ·exact⟨_,_,0,0,0,0,0,1,YQ S R ho ha,.loc x R ho ha⟩
   ·obtain⟨op,obj,arg,tr,hq⟩:=afY (by omega) ha;obtain⟨k1,k2,k3⟩:=atV R.c R.r R.c.ok.1 hq
    have hti:iP .i64 t:=by have:=R.r.t0;have:=R.r.t1;have:=h1.len;exact⟨by omega,by omega⟩
    obtain⟨s',e1,e2,e3,e4,e5,oc,A⟩:=try_any (tries:=tr) h0 h1 S.g hn hti k1 k2 k3;exact⟨s',_,e1,e2,e3,e4,e5,oc,YP S R ho hq A,.tri x R ho op obj arg tr hq k1 k2 k3 hti s' e1 e2 e3 e4 e5 oc A (Yu h0 h1 S.g hn k1 A)⟩
  ·exact⟨s,k,0,0,0,0,0,4,aeV S R ho,.over x R ho⟩
theorem akF {t:Int} {s' k':D} {e1 e2 e3 e4 e5 oc:Int} (H:JM d0 d1 s k t n s' k' e1 e2 e3 e4 e5 oc):Sx s' k' (n+1)∧s'.l.length=s.l.length∧k'.l.length=k.l.length:=by
 cases H with
 | no h=>exact⟨S.mono (Nat.le_succ n),rfl,rfl⟩
 | over x R ho=>exact⟨S.mono (Nat.le_succ n),rfl,rfl⟩
 | loc x R ho ha=>exact⟨(aBa S hn h0 h1 R ho ha).mono (Nat.le_succ n),rfl,kZ _ _ _⟩
 | tri x R ho op obj arg tr hq k1 k2 k3 hti s' e1 e2 e3 e4 e5 oc A T=>exact⟨aAG S R.c R.r R.ht (aAo R.r ho) A,A.len,kZ _ _ _⟩
omit h0 h1 in
theorem alT {t:Int} {x:KT} {s':D} (M:MR d0 d1 s k) (R:Rt d0 d1 t x) (ht:t < (k.l.length:Int)) (hs:L 350 [enc d0,enc d1,enc s']=some [1]):MR d0 d1 s' (iH k t x):=by
 obtain⟨_,hle,hO⟩:=M;refine⟨hs,(kZ k t x).trans hle,fun i hi=>?_⟩;have hi':i < k.l.length:=by rw [kZ] at hi; exact hi
 have t0:=R.t0;obtain⟨j,rfl⟩ : ∃j:Nat,t=(j:Int):=⟨t.toNat,by omega⟩;by_cases hij:i=j
 ·subst hij
  have e:(iH k (i:Int) x).l[i]=x.d:=by rw [← aZ hi];exact qX (by omega) ht x
  have ok:=R.ok;rw [aZ (by omega:i < d1.l.length)] at ok;unfold OkK;rw [e];simp only [KT.d,zg,Option.getD_some,WO];exact ok
 ·have e:(iH k (j:Int) x).l[i]=k.l[i]:=by
   have h:=qK (l:=k.l) (z:=(j:Int)) (y:=x.d) (k:=i) (by omega)
   have h2:(iH k (j:Int) x).l[i]?=k.l[i]?:=by show (dL (dY k.l (j:Int) x.d)).l[i]?=_;rw [aT];exact h
   rw [List.getElem?_eq_getElem hi,List.getElem?_eq_getElem hi'] at h2;simpa using h2
  rw [e];exact hO i hi'
theorem akG {t:Int} {s' k':D} {e1 e2 e3 e4 e5 oc:Int} (M:MR d0 d1 s k) (H:JM d0 d1 s k t n s' k' e1 e2 e3 e4 e5 oc):MR d0 d1 s' k':=by
 cases H with
 | no h=>exact M
 | over x R ho=>exact M
 | loc x R ho ha=>exact alT S hn M (Gh R.c R.ht R.r (EW R.r ho ha)).1 R.ht M.1
 | tri x R ho op obj arg tr hq k1 k2 k3 hti s' e1 e2 e3 e4 e5 oc A T=>
   have hle:=(abW h0 h1 S.g (by omega) M.1).2.2;have hR:=aAH R.c R.r (aAo R.r ho) hle A.e3 A.e4 T;refine alT S hn M hR R.ht ?_
   cases T with
   | no=>exact M.1
   | mis A'=>exact M.1
   | res A' o c dn g r v o' c' I4 g' r' v' m a oc T' h=>exact afJ h0 h1 S.g hn k1 hti k3 A' T' h
end
theorem MR.thr {d0 d1 s k:D} {n:Nat} (S:Sx s k n) (hn:n < 17592186043904) (h0:Wd (.sl 3) d0) (h1:Wd (.sl 4) d1) (M:MR d0 d1 s k) {t:Int} (t0:0≤t) (t1:t < (d1.l.length:Int)): ∃x,Rs d0 d1 s k t x:=by
 obtain⟨ys,hL,b,rfl,hb⟩:=Ws (k:=k) h0 h1 (S.g.few (by omega)).rows h1.len t;rcases hb with ⟨_,hb⟩ | ⟨rfl,_⟩
 ·exact absurd ⟨t0,t1,M⟩ hb
 ·rcases ayH (t:=t) S hn h0 h1 with h | h
  ·rw [hL] at h;simp at h
  ·exact h
end Go.As.Try
end
section
namespace Go.As.Try
open Go hiding Stat Spec shape
open Go.As
set_option maxRecDepth 100000
def EqN (a b:D):Prop:=a.l.length=b.l.length∧∀(i:Nat),(a.at (i:Int)).n=(b.at (i:Int)).n
structure KEq (x y:D):Prop where
 c0:(x.hd 0).n=(y.hd 0).n
 c1:EqN (x.hd 1) (y.hd 1)
 c2:(x.hd 2).n=(y.hd 2).n
 c3:(x.hd 3).n=(y.hd 3).n
 c4:(x.hd 4).n=(y.hd 4).n
 c5:(x.hd 5).n=(y.hd 5).n
theorem EqN.rfl' (a:D):EqN a a:=⟨rfl,fun _=>rfl⟩
theorem KEq.rfl' (a:D):KEq a a:=⟨rfl,EqN.rfl' _,rfl,rfl,rfl,rfl⟩
def amB (k:D):Prop:=k.l.length≤140737488351232∧∀i:Nat,((k.at (i:Int)).hd 1).l.length≤140737488351232
section
variable {s k s' k':D} (hl:k.l.length=k'.l.length) (hq: ∀i:Nat,KEq (k.at (i:Int)) (k'.at (i:Int))) (hb:amB k)
include hl hq hb
theorem FT: ∀(j i:Nat),i+j=k.l.length→L 2051 [(k.l.length:Int),(i:Int),enc s,enc k,enc s',enc k']=some [1]
 | 0,i,hi=>by
   have c1: ¬(i:Int) < (k.l.length:Int):=by omega
   rw [aQ,aoR];simp only [abE,zz,c1,cO]
 | j+1,i,hi=>by
   have c1:(i:Int) < (k.l.length:Int):=by omega
   have c2: ¬((i:Int) < 0):=by omega
   have c3:(i:Int) < (k'.l.length:Int):=by omega
   have b1:=hb.1;have w:=bC (n:=i) (by omega);have ih:=FT j (i+1) (by omega);have q:=hq i;obtain⟨q1,q2⟩:=q.c1;have b2:=hb.2 i
   have lp: ∀(j' i':Nat),i'+j'=((k.at (i:Int)).hd 1).l.length→L 2052 [(k.l.length:Int),(i:Int),(((k.at (i:Int)).hd 1).l.length:Int),(i':Int),enc s,enc k,enc s',enc k',((k.at (i:Int)).hd 0).n,enc ((k.at (i:Int)).hd 1),((k.at (i:Int)).hd 2).n,((k.at (i:Int)).hd 3).n,((k.at (i:Int)).hd 4).n,((k.at (i:Int)).hd 5).n,((k'.at (i:Int)).hd 0).n,enc ((k'.at (i:Int)).hd 1),((k'.at (i:Int)).hd 2).n,((k'.at (i:Int)).hd 3).n,((k'.at (i:Int)).hd 4).n,((k'.at (i:Int)).hd 5).n]=some [1]:=by
    intro j'
    induction j' with
    | zero=>
      intro i' hi';have d1: ¬(i':Int) < (((k.at (i:Int)).hd 1).l.length:Int):=by omega
      rw [aQ,aoQ];simp only [abD,zz,d1,w,aX,ih]
    | succ j' ihj=>
      intro i' hi';have d1:(i':Int) < (((k.at (i:Int)).hd 1).l.length:Int):=by omega
      have d2: ¬((i':Int) < 0):=by omega
      have d3:(i':Int) < (((k'.at (i:Int)).hd 1).l.length:Int):=by omega
      have w':=bC (n:=i') (by omega);have h':=ihj (i'+1) (by omega);have hn:=q2 i';rw [aQ,aoQ];simp only [abD,zz,d1,d2,d3,w',hn,aX];exact h'
   have l0:=lp ((k.at (i:Int)).hd 1).l.length 0 (by omega);have q1':(((k.at (i:Int)).hd 1).l.length:Int)=(((k'.at (i:Int)).hd 1).l.length:Int):=by omega
   simp only [q.c0,q.c2,q.c3,q.c4,q.c5,q1',Int.natCast_zero] at l0;rw [aQ,aoR];simp only [abE,zz,c1,c2,c3,q.c0,q.c2,q.c3,q.c4,q.c5,q1',aX];exact l0
theorem afG (hs:L 200 [enc s,enc s']=some [1]):L 2050 [enc s,enc k,enc s',enc k']=some [1]:=by
 have h:=FT (s:=s) (s':=s') hl hq hb k.l.length 0 (by omega);have hl':(k.l.length:Int)=(k'.l.length:Int):=by omega
 rw [Int.natCast_zero] at h;rw [aQ,azP];simp only [ajN,zz,hs,aG,hl',aX];rw [hl'] at h;exact h
end
theorem afF {s:D} (hlen:s.l.length≤140737488351232) (hr:Ue s):L 200 [enc s,enc s]=some [1]:=by obtain⟨c,h1,_,h3⟩:=afE s s hlen hr;rw [h1,h3.2 ⟨rfl,fun k h1 h2 _=> ⟨rfl,rfl,Iff.rfl,rfl,⟨rfl,fun _ _ _ _=>rfl⟩,⟨rfl,fun _ _ _ _=>rfl⟩⟩⟩]
theorem Sx.aFh {s k:D} {n:Nat} (S:Sx s k n):amB k:=by
 refine⟨S.wk.len,fun i=>?_⟩;by_cases hi:i < k.l.length
 ·obtain⟨a,lc,w,o,g,tr,T⟩:=kV S.wk _ (List.getElem_mem hi);rw [aZ hi,T.is,gU];exact T.hl.len
 ·rw [rG,List.getElem?_eq_none (by omega)];show ((D.i 0).hd 1).l.length≤_;simp [D.hd,D.l]
theorem Sx.same {s k:D} {n:Nat} (S:Sx s k n) (hn:n < 17592186043904):L 2050 [enc s,enc k,enc s,enc k]=some [1]:=
 afG rfl (fun _=>KEq.rfl' _) S.aFh (afF S.g.wd.len (fun x hx=>by have:=S.g.rows x hx; omega))
end Go.As.Try
end
section
namespace Go.As.Try
open Go hiding Stat Spec shape
open Go.As
set_option maxRecDepth 100000
structure PS where
 s:D
 k:D
 l:List D
structure POk (d1:D) (p:PS) (n:Nat):Prop where
 sx:Sx p.s p.k n
 lk:p.k.l.length=d1.l.length
 ll:p.l.length≤n
theorem dr {ρ:Nat→Int} (a b:SE):(SE.rem a b).den ρ=(a.den ρ).tmod (b.den ρ):=rfl
section
variable {d0 d1:D} (h0:Wd (.sl 3) d0) (h1:Wd (.sl 4) d1)
include h0 h1
end
theorem EJ (d1:D):(oZ d1).l.length=d1.l.length:=by
 unfold oZ;split
 ·rename_i h; rw [h]; rfl
 ·rw [aT,List.length_map]
section
variable {d0 d1:D} (h0:Wd (.sl 3) d0) (h1:Wd (.sl 4) d1)
include h0 h1
theorem begins:(∃s k:D,L 1450 [enc d0,enc d1]=some [enc s,enc k,0]∧POk d1 ⟨s,k,[]⟩ 0)∨(∃c:Int,c≠0∧L 1450 [enc d0,enc d1]=some [enc (.i 1),enc (.i 1),c]):=by
 obtain⟨ys,hC,c,rfl,_,hok⟩:=yT h0 h1;by_cases hc:c=0
 ·subst hc;have ok:=(hok rfl).1;exact .inl ⟨_,_,Rq h1 hC ok,LK h0 h1 ok,EJ d1,Nat.le_refl _⟩
 ·exact .inr ⟨c,hc,Ro hC hc⟩
end
end Go.As.Try
end
section
namespace Go.As.Try
open Go hiding Stat Spec shape
open Go.As
set_option maxRecDepth 100000
theorem amE {x y:KT} (h:x.d=y.d):x=y:=by simp only [KT.d,fK,iY,D.p.injEq,D.i.injEq,and_true] at h;obtain⟨h1,h2,h3,h4,h5,h6⟩:=h;cases x; cases y;simp only at h1 h2 h3 h4 h5 h6;subst h1 h2 h3 h4 h5 h6;rfl
structure One (d0 d1 s k:D) (t:Int) (s' k':D) (e1 e2 e3 e4 e5 oc:Int) (x y:KT):Prop where
 hk:k.at t=x.d
 hk':k'=iH k t y
 how:(oc=0∧s'=s∧e1=0∧e2=0∧e3=0∧e4=0∧e5=0∧y= { x with tr:=y.tr }∧L 1700 [enc d0,enc d1,enc s,enc k,t]=some [0])∨
  (oc=4∧s'=s∧e1=0∧e2=0∧e3=0∧e4=0∧e5=0∧y=x∧L 1700 [enc d0,enc d1,enc s,enc k,t]=some [1])∨
  (oc=1∧s'=s∧e1=0∧e2=0∧e3=0∧e4=0∧e5=0∧L 1700 [enc d0,enc d1,enc s,enc k,t]=some [0])∨
  ((oc=2∨oc=3)∧e2≠0∧L 1700 [enc d0,enc d1,enc s,enc k,t]=some [0])
section
variable {d0 d1 s k:D} {n:Nat} (S:Sx s k n) (hn:n < 17592186043904) (h0:Wd (.sl 3) d0) (h1:Wd (.sl 4) d1)
include S hn h0 h1
omit hn h0 h1 in
theorem aDr {t:Int} (t0:0≤t) (t1:t < (k.l.length:Int)): ∃x:KT,k.at t=x.d∧iH k t x=k:=by
 obtain⟨i,rfl⟩ : ∃i:Nat,t=(i:Int):=⟨t.toNat,by omega⟩;have hi:i < k.l.length:=by omega
 obtain⟨a,lc,w,o,g,tr,T⟩:=kV S.wk _ (List.getElem_mem hi);exact⟨⟨a,lc,w,o,g,tr⟩,by rw [aZ hi,T.is],LX (Ed S.wk (by omega)).sh t0 t1 (by rw [aZ hi,T.is])⟩
omit S h0 h1 in
theorem aBB {t:Int} (h:L 1550 [enc d0,enc d1,enc s,enc k,t]=some [0]):L 1700 [enc d0,enc d1,enc s,enc k,t]=some [0]:=by rw [aQ,apA];simp only [V4,zz,h,cO]
omit S h0 h1 in
theorem Zu {t:Int} {x:KT} (R:Rs d0 d1 s k t x):L 1700 [enc d0,enc d1,enc s,enc k,t]=some [jA d1 t x]:=by
 have hO:=uX (s:=s) R.hk R.ht R.r;have h:=R.yes;rw [aQ,apA];rcases acC d1 t x with ho | ho
 ·rw [ho] at hO ⊢;simp only [V4,zz,h,hO,aG,cO]
 ·rw [ho] at hO ⊢;simp only [V4,zz,h,hO,aG,cO]
theorem aeW {t:Int} (t0:0≤t) (t1:t < (k.l.length:Int)) {s' k':D} {e1 e2 e3 e4 e5 oc:Int} (H:JM d0 d1 s k t n s' k' e1 e2 e3 e4 e5 oc): ∃x y,One d0 d1 s k t s' k' e1 e2 e3 e4 e5 oc x y:=by
 obtain⟨x,hx,hs⟩:=aDr S t0 t1
 cases H with
 | no h=>exact⟨x,x,hx,hs.symm,.inl ⟨rfl,rfl,rfl,rfl,rfl,rfl,rfl,rfl,aBB hn h⟩⟩
 | over y R ho=> have hf:=Zu hn R;rw [ho] at hf;exact⟨x,x,hx,hs.symm,.inr (.inl ⟨rfl,rfl,rfl,rfl,rfl,rfl,rfl,rfl,hf⟩)⟩
 | loc y R ho ha=> have hf:=Zu hn R;rw [ho] at hf;exact⟨y,_,R.hk,rfl,.inr (.inr (.inl ⟨rfl,rfl,rfl,rfl,rfl,rfl,rfl,hf⟩))⟩
 | tri y R ho op obj arg tr hq k1 k2 k3 hti s' e1 e2 e3 e4 e5 oc A T=>
   have hf:=Zu hn R;rw [ho] at hf;refine⟨y,_,R.hk,rfl,?_⟩;rcases A.oc3 with h | h
   ·obtain⟨q,q1,q2,q3,q4,q5⟩:=A.no h;refine .inl ⟨h,q,q1,q2,q3,q4,q5,?_,hf⟩;unfold qO;rw [if_pos h];split <;> rfl
   ·refine .inr (.inr (.inr ⟨h,?_,hf⟩))
    cases T with
    | no=>omega
    | mis A'=>omega
    | res A' o c dn g r v o' c' I4 g' r' v' m a oc T' hB=> intro he;subst he;have hO:=(Vz h0 h1 (S.g.few (by omega)) A').1.1;rw [← A'.k] at hO;exact absurd hO (by decide)
end
theorem set_set (l:List D) (z:Int) (x y:D):dY (dY l z x) z y=dY l z y:=by
 unfold dY;split
 ·rfl
 ·exact List.set_set ..
theorem YV (k:D) {t u:Int} (u0:0≤u) (h:u≠t) (x:KT):(iH k t x).at u=k.at u:=by obtain⟨i,rfl⟩ : ∃i:Nat,u=(i:Int):=⟨u.toNat,by omega⟩;show (dL (dY k.l t x.d)).at (i:Int)=k.at (i:Int);rw [rG,rG,aT,qK h]
section
variable {d0 d1 s k:D} {n:Nat} (S:Sx s k n) (hn:n < 17592186043900) (h0:Wd (.sl 3) d0) (h1:Wd (.sl 4) d1)
include S hn h0 h1
end
end Go.As.Try
end
section
namespace Go.As.Try
open Go hiding Stat Spec shape
open Go.As
set_option maxRecDepth 100000
noncomputable abbrev foE (d0 d1 s k:D) (t n rM uO ea eb:Int) (x:KT):Nat→Int:=bM L (low [t,n,enc d0,enc d1,enc s,enc k,rM,uO,ea,eb,enc s,enc k,x.a,enc x.lc,x.w,x.o,x.g,x.tr])
section
variable {d0 d1 s k:D} {t:Int} {n:Nat} {rM uO ea eb m:Int} {x:KT} (S:Sx s k n) (C:Cd d0 d1) (ht:t < (k.l.length:Int))
include S C ht
theorem agR (R:Rt d0 d1 t x) (hn: ¬20000 < m) (ho:jA d1 t x=0) (ha:low (mV d1 t x) 4=0):L 2004 [t,m,enc d0,enc d1,enc s,enc k,rM,uO,ea,eb,enc s,enc k,x.a,enc x.lc,x.w,x.o,x.g,x.tr]=L 2004 [t,IntKind.i64.wrap (m+1),enc d0,enc d1,enc s,enc k,rM,uO,ea,eb,enc s,enc k,(iT (Ins d1 t x) x).a,enc (iT (Ins d1 t x) x).lc,(iT (Ins d1 t x) x).w,(iT (Ins d1 t x) x).o,(iT (Ins d1 t x) x).g,(iT (Ins d1 t x) x).tr]:=by
 have hO:=uX (s:=s) (k:=iH k t x) (qX R.t0 ht x) (by rw [kZ]; exact ht) R;have hN:=Dt (s:=s) (k:=iH k t x) C (qX R.t0 ht x) (by rw [kZ]; exact ht) R;have Lc:=EW R ho ha;rw [ho] at hO;simp only [iH,KT.d,fK,iY] at hO hN
 have hw:(iT (Ins d1 t x) x).w=x.w∧(iT (Ins d1 t x) x).o=x.o∧(iT (Ins d1 t x) x).g=x.g∧(iT (Ins d1 t x) x).tr=x.tr:=by
  unfold iT
  repeat' split
  all_goals exact⟨rfl,rfl,rfl,rfl⟩
 have hl:=WT (s:=s) (k:=k) C ht R Lc
 have K:dX (foE d0 d1 s k t m rM uO ea eb x) abH= .jump 2004 [t,IntKind.i64.wrap (m+1),enc d0,enc d1,enc s,enc k,rM,uO,ea,eb,enc s,enc k,(iT (Ins d1 t x) x).a,enc (iT (Ins d1 t x) x).lc,(iT (Ins d1 t x) x).w,(iT (Ins d1 t x) x).o,(iT (Ins d1 t x) x).g,(iT (Ins d1 t x) x).tr]:=by refine aW [.eq (a0 1650 uK) Q0,Pn,.eq (a0 1750 uK) Q0,Pm,.eq (a0 14000 Qrm) Q0,.eq (rr 14000 Qrm 0) Qa] [.lt (.lit 20000) Qb] (ju 2004 [Qf,wL,Qo,Qm,bD,bU,dN,eF,fB,fF,jQ,jP,rr 14000 Qrm 12,rr 14000 Qrm 13,oK,Fv,O5,O6]) (by simp only [zz,hn,hO,hN,ha,hl] <;> omega) (by kernel_rfl) ?_;simp only [zz,hl,hw]
 rw [aQ,aoT];exact congrArg (fin L) K
theorem agQ (R:Rt d0 d1 t x) (hn: ¬20000 < m) (ho:jA d1 t x=0) {op obj arg tr trs e1 e2 e3 e4 e5 oc:Int} {s':D} (ha:mV d1 t x= [op,obj,arg,tr,1]) (htr:trs=if rM=4∧ea=0 then 4611686018427387904 else 0)
 (A:Tried d0 d1 s t op obj arg trs n s' e1 e2 e3 e4 e5 oc):L 2004 [t,m,enc d0,enc d1,enc s,enc k,rM,uO,ea,eb,enc s,enc k,x.a,enc x.lc,x.w,x.o,x.g,x.tr]=some (if oc≠0∧e1=t∧e2=rM∧e3=uO∧e4=ea∧e5=eb then [enc s',enc (iH k t (qO (Ins d1 t x) x op e2 e3 e4 oc)),1] else [enc s,enc k,0]):=by
 have hcp:=S9 S.st;have hO:=uX (s:=s) (k:=iH k t x) (qX R.t0 ht x) (by rw [kZ]; exact ht) R;have hN:=Dt (s:=s) (k:=iH k t x) C (qX R.t0 ht x) (by rw [kZ]; exact ht) R;rw [ho] at hO;rw [ha] at hN;simp only [iH,KT.d,fK,iY] at hO hN
 have hx:x.w=0→x.a < (Nc d1 t:Int):=fun w0=>by unfold jA at ho;rw [if_pos w0] at ho;have:=R.ok.2.1;unfold Nc at ho ⊢;split at ho <;> omega
 have hE:evT e1 e2 e3 e4 e5 oc= [e1,e2,e3,e4,e5]:=by
  unfold evT;split
  ·rename_i h0;obtain⟨_,rfl,rfl,rfl,rfl,rfl⟩:=A.no h0;rfl
  ·rfl
 have hl:=VU (k:=k) C ht R A.eq (fun h=>(A.no h).1) hx;rw [hE] at hl;simp only [List.cons_append,List.nil_append] at hl
 have K:dX (foE d0 d1 s k t m rM uO ea eb x) abH= .out (if oc≠0∧e1=t∧e2=rM∧e3=uO∧e4=ea∧e5=eb then [enc s',enc (iH k t (qO (Ins d1 t x) x op e2 e3 e4 oc)),1] else [enc s,enc k,0]):=by
  by_cases q4:rM=4
  ·by_cases qa:ea=0
   ·have et:trs=4611686018427387904:=by rw [htr,if_pos ⟨q4,qa⟩]
    rw [et] at hl;by_cases o0:oc=0
    ·rw [if_neg (fun h=>h.1 o0)];refine aW [.eq (a0 1650 uK) Q0,Pn,.eq (a0 1750 uK) Q0,.eq dN sF,X7,.eq (a0 14500 lM) Q0,.eq (rr 14500 lM 0) Qa,.eq (rr 14500 lM 21) Qa,.eq (a0 1900 [bD,bU]) Q0] [.lt (.lit 20000) Qb,Pm] (ou [rr 1900 [bD,bU] 0,rr 1900 [bD,bU] 1,Qa]) (by simp only [zz,hn,hO,hN,hl,q4,qa,o0,hcp] <;> omega) (by kernel_rfl) ?_;simp only [zz,hcp]
    ·by_cases qe:e1=t∧e2=rM∧e3=uO∧e4=ea∧e5=eb
     ·rw [if_pos ⟨o0,qe⟩];refine aW [.eq (a0 1650 uK) Q0,Pn,.eq (a0 1750 uK) Q0,.eq dN sF,X7,.eq (a0 14500 lM) Q0,.eq (rr 14500 lM 0) Qa,.and (.eq (rr 14500 lM 16) Qf) (.and (.eq (rr 14500 lM 17) dN) (.and (.eq (rr 14500 lM 18) eF) (.and (.eq (rr 14500 lM 19) fB) (.eq (rr 14500 lM 20) fF))))] [.lt (.lit 20000) Qb,Pm,.eq (rr 14500 lM 21) Qa] (ou [rr 14500 lM 22,.op .set jP (cn (mk Qf) (cn (mk (rr 14500 lM 23)) (cn (rr 14500 lM 24) (cn (mk (rr 14500 lM 25)) (cn (mk (rr 14500 lM 26)) (cn (mk (rr 14500 lM 27)) (cn (mk (rr 14500 lM 28)) lI))))))),Q0]) (by simp only [zz,hn,hO,hN,hl,q4,qa,o0,kS,qe,and_self,hcp] <;> omega) (by kernel_rfl) ?_;simp only [zz,hN,hl,iH,KT.d,fK,iY]
     ·rw [if_neg (fun h=>qe h.2)];refine aW [.eq (a0 1650 uK) Q0,Pn,.eq (a0 1750 uK) Q0,.eq dN sF,X7,.eq (a0 14500 lM) Q0,.eq (rr 14500 lM 0) Qa,.eq (a0 1900 [bD,bU]) Q0] [.lt (.lit 20000) Qb,Pm,.eq (rr 14500 lM 21) Qa,.and (.eq (rr 14500 lM 16) Qf) (.and (.eq (rr 14500 lM 17) dN) (.and (.eq (rr 14500 lM 18) eF) (.and (.eq (rr 14500 lM 19) fB) (.eq (rr 14500 lM 20) fF))))] (ou [rr 1900 [bD,bU] 0,rr 1900 [bD,bU] 1,Qa]) (by simp only [zz,hn,hO,hN,hl,q4,qa,o0,kS,qe,hcp] <;> omega) (by kernel_rfl) ?_;simp only [zz,hcp]
   ·have et:trs=0:=by rw [htr,if_neg (fun h=>qa h.2)]
    rw [et] at hl;by_cases o0:oc=0
    ·rw [if_neg (fun h=>h.1 o0)];refine aW [.eq (a0 1650 uK) Q0,Pn,.eq (a0 1750 uK) Q0,.eq dN sF,.eq (a0 14500 fZ) Q0,.eq (rr 14500 fZ 0) Qa,.eq (rr 14500 fZ 21) Qa,.eq (a0 1900 [bD,bU]) Q0] [.lt (.lit 20000) Qb,Pm,X7] (ou [rr 1900 [bD,bU] 0,rr 1900 [bD,bU] 1,Qa]) (by simp only [zz,hn,hO,hN,hl,q4,qa,o0,hcp] <;> omega) (by kernel_rfl) ?_;simp only [zz,hcp]
    ·by_cases qe:e1=t∧e2=rM∧e3=uO∧e4=ea∧e5=eb
     ·rw [if_pos ⟨o0,qe⟩];refine aW [.eq (a0 1650 uK) Q0,Pn,.eq (a0 1750 uK) Q0,.eq dN sF,.eq (a0 14500 fZ) Q0,.eq (rr 14500 fZ 0) Qa,.and (.eq (rr 14500 fZ 16) Qf) (.and (.eq (rr 14500 fZ 17) dN) (.and (.eq (rr 14500 fZ 18) eF) (.and (.eq (rr 14500 fZ 19) fB) (.eq (rr 14500 fZ 20) fF))))] [.lt (.lit 20000) Qb,Pm,X7,.eq (rr 14500 fZ 21) Qa] (ou [rr 14500 fZ 22,.op .set jP (cn (mk Qf) (cn (mk (rr 14500 fZ 23)) (cn (rr 14500 fZ 24) (cn (mk (rr 14500 fZ 25)) (cn (mk (rr 14500 fZ 26)) (cn (mk (rr 14500 fZ 27)) (cn (mk (rr 14500 fZ 28)) lI))))))),Q0]) (by simp only [zz,hn,hO,hN,hl,q4,qa,o0,kS,qe,and_self,hcp] <;> omega) (by kernel_rfl) ?_;simp only [zz,hN,hl,iH,KT.d,fK,iY]
     ·rw [if_neg (fun h=>qe h.2)];refine aW [.eq (a0 1650 uK) Q0,Pn,.eq (a0 1750 uK) Q0,.eq dN sF,.eq (a0 14500 fZ) Q0,.eq (rr 14500 fZ 0) Qa,.eq (a0 1900 [bD,bU]) Q0] [.lt (.lit 20000) Qb,Pm,X7,.eq (rr 14500 fZ 21) Qa,.and (.eq (rr 14500 fZ 16) Qf) (.and (.eq (rr 14500 fZ 17) dN) (.and (.eq (rr 14500 fZ 18) eF) (.and (.eq (rr 14500 fZ 19) fB) (.eq (rr 14500 fZ 20) fF))))] (ou [rr 1900 [bD,bU] 0,rr 1900 [bD,bU] 1,Qa]) (by simp only [zz,hn,hO,hN,hl,q4,qa,o0,kS,qe,hcp] <;> omega) (by kernel_rfl) ?_;simp only [zz,hcp]
  ·have et:trs=0:=by rw [htr,if_neg (fun h=>q4 h.1)]
   rw [et] at hl;by_cases o0:oc=0
   ·rw [if_neg (fun h=>h.1 o0)];refine aW [.eq (a0 1650 uK) Q0,Pn,.eq (a0 1750 uK) Q0,.eq (a0 14500 fZ) Q0,.eq (rr 14500 fZ 0) Qa,.eq (rr 14500 fZ 21) Qa,.eq (a0 1900 [bD,bU]) Q0] [.lt (.lit 20000) Qb,Pm,.eq dN sF] (ou [rr 1900 [bD,bU] 0,rr 1900 [bD,bU] 1,Qa]) (by simp only [zz,hn,hO,hN,hl,q4,o0,hcp] <;> omega) (by kernel_rfl) ?_;simp only [zz,hcp]
   ·by_cases qe:e1=t∧e2=rM∧e3=uO∧e4=ea∧e5=eb
    ·rw [if_pos ⟨o0,qe⟩];refine aW [.eq (a0 1650 uK) Q0,Pn,.eq (a0 1750 uK) Q0,.eq (a0 14500 fZ) Q0,.eq (rr 14500 fZ 0) Qa,.and (.eq (rr 14500 fZ 16) Qf) (.and (.eq (rr 14500 fZ 17) dN) (.and (.eq (rr 14500 fZ 18) eF) (.and (.eq (rr 14500 fZ 19) fB) (.eq (rr 14500 fZ 20) fF))))] [.lt (.lit 20000) Qb,Pm,.eq dN sF,.eq (rr 14500 fZ 21) Qa] (ou [rr 14500 fZ 22,.op .set jP (cn (mk Qf) (cn (mk (rr 14500 fZ 23)) (cn (rr 14500 fZ 24) (cn (mk (rr 14500 fZ 25)) (cn (mk (rr 14500 fZ 26)) (cn (mk (rr 14500 fZ 27)) (cn (mk (rr 14500 fZ 28)) lI))))))),Q0]) (by simp only [zz,hn,hO,hN,hl,q4,o0,kS,qe,and_self,hcp] <;> omega) (by kernel_rfl) ?_;simp only [zz,hN,hl,iH,KT.d,fK,iY]
    ·rw [if_neg (fun h=>qe h.2)];refine aW [.eq (a0 1650 uK) Q0,Pn,.eq (a0 1750 uK) Q0,.eq (a0 14500 fZ) Q0,.eq (rr 14500 fZ 0) Qa,.eq (a0 1900 [bD,bU]) Q0] [.lt (.lit 20000) Qb,Pm,.eq dN sF,.eq (rr 14500 fZ 21) Qa,.and (.eq (rr 14500 fZ 16) Qf) (.and (.eq (rr 14500 fZ 17) dN) (.and (.eq (rr 14500 fZ 18) eF) (.and (.eq (rr 14500 fZ 19) fB) (.eq (rr 14500 fZ 20) fF))))] (ou [rr 1900 [bD,bU] 0,rr 1900 [bD,bU] 1,Qa]) (by simp only [zz,hn,hO,hN,hl,q4,o0,kS,qe,hcp] <;> omega) (by kernel_rfl) ?_;simp only [zz,hcp]
 rw [aQ,aoT];exact congrArg (fin L) K
theorem agP (R:Rt d0 d1 t x) (hz:x.lc.l.length=0) (hn: ¬20000 < m) (ho:jA d1 t x=0) (ha:low (mV d1 t x) 4=0):L 2005 [t,m,enc d0,enc d1,enc s,enc k,rM,uO,ea,eb,enc s,enc k,x.a,enc x.lc,x.w,x.o,x.g,x.tr]=L 2005 [t,IntKind.i64.wrap (m+1),enc d0,enc d1,enc s,enc k,rM,uO,ea,eb,enc s,enc k,(iT (Ins d1 t x) x).a,enc (iT (Ins d1 t x) x).lc,(iT (Ins d1 t x) x).w,(iT (Ins d1 t x) x).o,(iT (Ins d1 t x) x).g,(iT (Ins d1 t x) x).tr]:=by
 have hO:=uX (s:=s) (k:=iH k t x) (qX R.t0 ht x) (by rw [kZ]; exact ht) R;have hN:=Dt (s:=s) (k:=iH k t x) C (qX R.t0 ht x) (by rw [kZ]; exact ht) R;have Lc:=EW R ho ha;rw [ho] at hO;simp only [iH,KT.d,fK,iY] at hO hN
 have hw:(iT (Ins d1 t x) x).w=x.w∧(iT (Ins d1 t x) x).o=x.o∧(iT (Ins d1 t x) x).g=x.g∧(iT (Ins d1 t x) x).tr=x.tr:=by
  unfold iT
  repeat' split
  all_goals exact⟨rfl,rfl,rfl,rfl⟩
 obtain⟨hl,hc⟩:=WS (s:=s) (k:=k) C ht R Lc hz
 have K:dX (foE d0 d1 s k t m rM uO ea eb x) abG= .jump 2005 [t,IntKind.i64.wrap (m+1),enc d0,enc d1,enc s,enc k,rM,uO,ea,eb,enc s,enc k,(iT (Ins d1 t x) x).a,enc (iT (Ins d1 t x) x).lc,(iT (Ins d1 t x) x).w,(iT (Ins d1 t x) x).o,(iT (Ins d1 t x) x).g,(iT (Ins d1 t x) x).tr]:=by refine aW [.eq (a0 1650 uK) Q0,Pn,.eq (a0 1750 uK) Q0,Pm,.eq (a0 14050 Qrm) Q0,.eq (rr 14050 Qrm 0) Qa] [.lt (.lit 20000) Qb] (ju 2005 [Qf,wL,Qo,Qm,bD,bU,dN,eF,fB,fF,jQ,jP,rr 14050 Qrm 12,mG,oK,Fv,O5,O6]) (by simp only [zz,hn,hO,hN,ha,hl] <;> omega) (by kernel_rfl) ?_;simp only [zz,hl,hw,hc]
 rw [aQ,aoS];exact congrArg (fin L) K
theorem agO (R:Rt d0 d1 t x) (hz:x.lc.l.length=0) (hn: ¬20000 < m) (ho:jA d1 t x=0) {op obj arg tr trs e1 e2 e3 e4 e5 oc:Int} {s':D} (ha:mV d1 t x= [op,obj,arg,tr,1]) (htr:trs=if rM=4∧ea=0 then 4611686018427387904 else 0)
 (A:Tried d0 d1 s t op obj arg trs n s' e1 e2 e3 e4 e5 oc):L 2005 [t,m,enc d0,enc d1,enc s,enc k,rM,uO,ea,eb,enc s,enc k,x.a,enc x.lc,x.w,x.o,x.g,x.tr]=some (if oc≠0∧e1=t∧e2=rM∧e3=uO∧e4=ea∧e5=eb then [enc s',enc (iH k t (qO (Ins d1 t x) x op e2 e3 e4 oc)),1] else [enc s,enc k,0]):=by
 have hcp:=S9 S.st;have hO:=uX (s:=s) (k:=iH k t x) (qX R.t0 ht x) (by rw [kZ]; exact ht) R;have hN:=Dt (s:=s) (k:=iH k t x) C (qX R.t0 ht x) (by rw [kZ]; exact ht) R;rw [ho] at hO;rw [ha] at hN;simp only [iH,KT.d,fK,iY] at hO hN
 have hx:x.w=0→x.a < (Nc d1 t:Int):=fun w0=>by unfold jA at ho;rw [if_pos w0] at ho;have:=R.ok.2.1;unfold Nc at ho ⊢;split at ho <;> omega
 have hE:evT e1 e2 e3 e4 e5 oc= [e1,e2,e3,e4,e5]:=by
  unfold evT;split
  ·rename_i h0;obtain⟨_,rfl,rfl,rfl,rfl,rfl⟩:=A.no h0;rfl
  ·rfl
 obtain⟨hl,hc⟩:=VT (k:=k) C ht R A.eq (fun h=>(A.no h).1) hx hz;rw [hE] at hl;simp only [List.cons_append,List.nil_append] at hl
 have K:dX (foE d0 d1 s k t m rM uO ea eb x) abG= .out (if oc≠0∧e1=t∧e2=rM∧e3=uO∧e4=ea∧e5=eb then [enc s',enc (iH k t (qO (Ins d1 t x) x op e2 e3 e4 oc)),1] else [enc s,enc k,0]):=by
  by_cases q4:rM=4
  ·by_cases qa:ea=0
   ·have et:trs=4611686018427387904:=by rw [htr,if_pos ⟨q4,qa⟩]
    rw [et] at hl;by_cases o0:oc=0
    ·rw [if_neg (fun h=>h.1 o0)];refine aW [.eq (a0 1650 uK) Q0,Pn,.eq (a0 1750 uK) Q0,.eq dN sF,X7,.eq (a0 14550 lM) Q0,.eq (rr 14550 lM 0) Qa,.eq (rr 14550 lM 21) Qa,.eq (a0 1900 [bD,bU]) Q0] [.lt (.lit 20000) Qb,Pm] (ou [rr 1900 [bD,bU] 0,rr 1900 [bD,bU] 1,Qa]) (by simp only [zz,hn,hO,hN,hl,q4,qa,o0,hcp] <;> omega) (by kernel_rfl) ?_;simp only [zz,hcp]
    ·by_cases qe:e1=t∧e2=rM∧e3=uO∧e4=ea∧e5=eb
     ·rw [if_pos ⟨o0,qe⟩];refine aW [.eq (a0 1650 uK) Q0,Pn,.eq (a0 1750 uK) Q0,.eq dN sF,X7,.eq (a0 14550 lM) Q0,.eq (rr 14550 lM 0) Qa,.and (.eq (rr 14550 lM 16) Qf) (.and (.eq (rr 14550 lM 17) dN) (.and (.eq (rr 14550 lM 18) eF) (.and (.eq (rr 14550 lM 19) fB) (.eq (rr 14550 lM 20) fF))))] [.lt (.lit 20000) Qb,Pm,.eq (rr 14550 lM 21) Qa] (ou [rr 14550 lM 22,.op .set jP (cn (mk Qf) (cn (mk (rr 14550 lM 23)) (cn mG (cn (mk (rr 14550 lM 24)) (cn (mk (rr 14550 lM 25)) (cn (mk (rr 14550 lM 26)) (cn (mk (rr 14550 lM 27)) lI))))))),Q0]) (by simp only [zz,hn,hO,hN,hl,q4,qa,o0,kS,qe,and_self,hcp] <;> omega) (by kernel_rfl) ?_;simp only [zz,hN,hl,iH,KT.d,fK,iY,hc]
     ·rw [if_neg (fun h=>qe h.2)];refine aW [.eq (a0 1650 uK) Q0,Pn,.eq (a0 1750 uK) Q0,.eq dN sF,X7,.eq (a0 14550 lM) Q0,.eq (rr 14550 lM 0) Qa,.eq (a0 1900 [bD,bU]) Q0] [.lt (.lit 20000) Qb,Pm,.eq (rr 14550 lM 21) Qa,.and (.eq (rr 14550 lM 16) Qf) (.and (.eq (rr 14550 lM 17) dN) (.and (.eq (rr 14550 lM 18) eF) (.and (.eq (rr 14550 lM 19) fB) (.eq (rr 14550 lM 20) fF))))] (ou [rr 1900 [bD,bU] 0,rr 1900 [bD,bU] 1,Qa]) (by simp only [zz,hn,hO,hN,hl,q4,qa,o0,kS,qe,hcp] <;> omega) (by kernel_rfl) ?_;simp only [zz,hcp]
   ·have et:trs=0:=by rw [htr,if_neg (fun h=>qa h.2)]
    rw [et] at hl;by_cases o0:oc=0
    ·rw [if_neg (fun h=>h.1 o0)];refine aW [.eq (a0 1650 uK) Q0,Pn,.eq (a0 1750 uK) Q0,.eq dN sF,.eq (a0 14550 fZ) Q0,.eq (rr 14550 fZ 0) Qa,.eq (rr 14550 fZ 21) Qa,.eq (a0 1900 [bD,bU]) Q0] [.lt (.lit 20000) Qb,Pm,X7] (ou [rr 1900 [bD,bU] 0,rr 1900 [bD,bU] 1,Qa]) (by simp only [zz,hn,hO,hN,hl,q4,qa,o0,hcp] <;> omega) (by kernel_rfl) ?_;simp only [zz,hcp]
    ·by_cases qe:e1=t∧e2=rM∧e3=uO∧e4=ea∧e5=eb
     ·rw [if_pos ⟨o0,qe⟩];refine aW [.eq (a0 1650 uK) Q0,Pn,.eq (a0 1750 uK) Q0,.eq dN sF,.eq (a0 14550 fZ) Q0,.eq (rr 14550 fZ 0) Qa,.and (.eq (rr 14550 fZ 16) Qf) (.and (.eq (rr 14550 fZ 17) dN) (.and (.eq (rr 14550 fZ 18) eF) (.and (.eq (rr 14550 fZ 19) fB) (.eq (rr 14550 fZ 20) fF))))] [.lt (.lit 20000) Qb,Pm,X7,.eq (rr 14550 fZ 21) Qa] (ou [rr 14550 fZ 22,.op .set jP (cn (mk Qf) (cn (mk (rr 14550 fZ 23)) (cn mG (cn (mk (rr 14550 fZ 24)) (cn (mk (rr 14550 fZ 25)) (cn (mk (rr 14550 fZ 26)) (cn (mk (rr 14550 fZ 27)) lI))))))),Q0]) (by simp only [zz,hn,hO,hN,hl,q4,qa,o0,kS,qe,and_self,hcp] <;> omega) (by kernel_rfl) ?_;simp only [zz,hN,hl,iH,KT.d,fK,iY,hc]
     ·rw [if_neg (fun h=>qe h.2)];refine aW [.eq (a0 1650 uK) Q0,Pn,.eq (a0 1750 uK) Q0,.eq dN sF,.eq (a0 14550 fZ) Q0,.eq (rr 14550 fZ 0) Qa,.eq (a0 1900 [bD,bU]) Q0] [.lt (.lit 20000) Qb,Pm,X7,.eq (rr 14550 fZ 21) Qa,.and (.eq (rr 14550 fZ 16) Qf) (.and (.eq (rr 14550 fZ 17) dN) (.and (.eq (rr 14550 fZ 18) eF) (.and (.eq (rr 14550 fZ 19) fB) (.eq (rr 14550 fZ 20) fF))))] (ou [rr 1900 [bD,bU] 0,rr 1900 [bD,bU] 1,Qa]) (by simp only [zz,hn,hO,hN,hl,q4,qa,o0,kS,qe,hcp] <;> omega) (by kernel_rfl) ?_;simp only [zz,hcp]
  ·have et:trs=0:=by rw [htr,if_neg (fun h=>q4 h.1)]
   rw [et] at hl;by_cases o0:oc=0
   ·rw [if_neg (fun h=>h.1 o0)];refine aW [.eq (a0 1650 uK) Q0,Pn,.eq (a0 1750 uK) Q0,.eq (a0 14550 fZ) Q0,.eq (rr 14550 fZ 0) Qa,.eq (rr 14550 fZ 21) Qa,.eq (a0 1900 [bD,bU]) Q0] [.lt (.lit 20000) Qb,Pm,.eq dN sF] (ou [rr 1900 [bD,bU] 0,rr 1900 [bD,bU] 1,Qa]) (by simp only [zz,hn,hO,hN,hl,q4,o0,hcp] <;> omega) (by kernel_rfl) ?_;simp only [zz,hcp]
   ·by_cases qe:e1=t∧e2=rM∧e3=uO∧e4=ea∧e5=eb
    ·rw [if_pos ⟨o0,qe⟩];refine aW [.eq (a0 1650 uK) Q0,Pn,.eq (a0 1750 uK) Q0,.eq (a0 14550 fZ) Q0,.eq (rr 14550 fZ 0) Qa,.and (.eq (rr 14550 fZ 16) Qf) (.and (.eq (rr 14550 fZ 17) dN) (.and (.eq (rr 14550 fZ 18) eF) (.and (.eq (rr 14550 fZ 19) fB) (.eq (rr 14550 fZ 20) fF))))] [.lt (.lit 20000) Qb,Pm,.eq dN sF,.eq (rr 14550 fZ 21) Qa] (ou [rr 14550 fZ 22,.op .set jP (cn (mk Qf) (cn (mk (rr 14550 fZ 23)) (cn mG (cn (mk (rr 14550 fZ 24)) (cn (mk (rr 14550 fZ 25)) (cn (mk (rr 14550 fZ 26)) (cn (mk (rr 14550 fZ 27)) lI))))))),Q0]) (by simp only [zz,hn,hO,hN,hl,q4,o0,kS,qe,and_self,hcp] <;> omega) (by kernel_rfl) ?_;simp only [zz,hN,hl,iH,KT.d,fK,iY,hc]
    ·rw [if_neg (fun h=>qe h.2)];refine aW [.eq (a0 1650 uK) Q0,Pn,.eq (a0 1750 uK) Q0,.eq (a0 14550 fZ) Q0,.eq (rr 14550 fZ 0) Qa,.eq (a0 1900 [bD,bU]) Q0] [.lt (.lit 20000) Qb,Pm,.eq dN sF,.eq (rr 14550 fZ 21) Qa,.and (.eq (rr 14550 fZ 16) Qf) (.and (.eq (rr 14550 fZ 17) dN) (.and (.eq (rr 14550 fZ 18) eF) (.and (.eq (rr 14550 fZ 19) fB) (.eq (rr 14550 fZ 20) fF))))] (ou [rr 1900 [bD,bU] 0,rr 1900 [bD,bU] 1,Qa]) (by simp only [zz,hn,hO,hN,hl,q4,o0,kS,qe,hcp] <;> omega) (by kernel_rfl) ?_;simp only [zz,hcp]
 rw [aQ,aoS];exact congrArg (fin L) K
end
end Go.As.Try
end
section
namespace Go.As.Try
open Go hiding Stat Spec shape
open Go.As
set_option maxRecDepth 100000
section
variable {d0 d1 s k:D} {t:Int} {n:Nat} {rM uO ea eb:Int} (S:Sx s k n) (hn:n < 17592186043904) (C:Cd d0 d1) (ht:t < (k.l.length:Int))
include S hn C ht
end
section
variable {d0 d1 s k:D} {t:Int} {n:Nat} {rM uO ea eb:Int} (S:Sx s k n) (hn:n < 17592186043904) (h0:Wd (.sl 3) d0) (h1:Wd (.sl 4) d1)
noncomputable abbrev fcE (d0 d1 s k:D) (t rM uO ea eb:Int):Nat→Int:=bM L (low [enc d0,enc d1,enc s,enc k,t,rM,uO,ea,eb])
include S
include hn h0 h1
end
section
variable {d0 d1:D} (h0:Wd (.sl 3) d0) (h1:Wd (.sl 4) d1)
include h0 h1
end
end Go.As.Try
end
section
namespace Go.As.Try
open Go hiding Stat Spec shape
open Go.As
set_option maxRecDepth 100000
theorem ahL {M mo th op arg tries aAF o c dn g:Int} {r v:D} (h:op≠4):act M mo th op arg tries o c dn g r v=act M mo th op arg aAF o c dn g r v:=by unfold act;simp only [if_neg h]
theorem X5 {M mo th arg tries o c dn g:Int} {r v:D}:act M mo th 4 arg tries o c dn g r v=if o < 0 then .res th c dn g r v none 1 2 else if tries < arg then .blk else .res o c dn g r v none 0 2:=rfl
theorem aiL {x:D} {o c dn g o' c' I4 g':Int} {r v r' v':D} (T:Tg x o c dn g r v) (T':Tg x o' c' I4 g' r' v'):o=o'∧c=c'∧dn=I4∧g=g'∧r=r'∧v=v':=by have h:=T.is.symm.trans T'.is;simp only [fK,iY,D.p.injEq,D.i.injEq,and_true] at h;exact h
abbrev frT (rM ea:Int):Int:=if rM=4∧ea=0 then 4611686018427387904 else 0
section
variable {d0 d1 s s':D} {t op obj arg tr e1 e2 e3 e4 e5 oc:Int} {n:Nat} (h0:Wd (.sl 3) d0) (h1:Wd (.sl 4) d1) (G:Gs s n) (hn:n < 17592186043904) (hop:iP .u8 op) (A:Tried d0 d1 s t op obj arg tr n s' e1 e2 e3 e4 e5 oc)
include h0 h1 G hn hop A
theorem PK (h:op≠4) (tries:Int):Tried d0 d1 s t op obj arg tries n s' e1 e2 e3 e4 e5 oc:=by
 refine⟨?_,A.no,A.oc3,A.gs,A.len,A.n2,A.e3,A.e4⟩;have hf:=G.few (by omega:n < 17592186044415)
 have e:L 400 [enc d0,enc d1,enc s,t,op,obj,arg,tries]=L 400 [enc d0,enc d1,enc s,t,op,obj,arg,tr]:=by
  by_cases hA:Acc d0 d1 s t op obj
  ·obtain⟨_,o,c,dn,g,r,v,T,hL⟩:=Dc (arg:=arg) (tries:=tries) h0 h1 G.wd hf hop hA;obtain⟨_,o',c',I4,g',r',v',T',hL'⟩:=Dc (arg:=arg) (tries:=tr) h0 h1 G.wd hf hop hA;obtain⟨rfl,rfl,rfl,rfl,rfl,rfl⟩:=aiL T T';rw [hL,hL',ahL h]
  ·rw [Lj h0 h1 G.wd hf hop hA,Lj h0 h1 G.wd hf hop hA]
 rw [e];exact A.eq
theorem Ll (h:op=4) (hoc:oc≠0) (hr:tr≤4611686018427387904):e2=4∧Tried d0 d1 s t op obj arg (frT e2 e4) n s' e1 e2 e3 e4 e5 oc:=by
 subst h;have hf:=G.few (by omega:n < 17592186044415);have hE:=A.eq;by_cases hA:Acc d0 d1 s t 4 obj
 ·obtain⟨_,o,c,dn,g,r,v,T,hL⟩:=Dc (arg:=arg) (tries:=tr) h0 h1 G.wd hf hop hA;obtain⟨_,o',c',I4,g',r',v',T',hL'⟩:=Dc (arg:=arg) (tries:=frT e2 e4) h0 h1 G.wd hf hop hA;obtain⟨rfl,rfl,rfl,rfl,rfl,rfl⟩:=aiL T T';rw [hE,Kz,X5] at hL;rw [Kz,X5] at hL';by_cases ho:o < 0
  ·rw [if_pos ho] at hL hL';rw [← hL] at hL';simp only [evA,Option.some.injEq,List.cons.injEq,and_true] at hL;obtain⟨_,_,rfl,_⟩:=hL;exact⟨rfl,hL',A.no,A.oc3,A.gs,A.len,A.n2,A.e3,A.e4⟩
  ·rw [if_neg ho] at hL hL';by_cases hta:tr < arg
   ·rw [if_pos hta] at hL;simp only [evA,Option.some.injEq,List.cons.injEq,and_true] at hL;exact absurd hL.2.2.2.2.2.2 hoc
   ·rw [if_neg hta] at hL;have hL2:=hL;simp only [evA,Option.some.injEq,List.cons.injEq,and_true] at hL;obtain⟨_,_,rfl,_,rfl,_⟩:=hL
    have hq: ¬(frT 4 0) < arg:=by have:frT 4 0=4611686018427387904:=rfl;omega
    rw [if_neg hq,← hL2] at hL';exact⟨rfl,hL',A.no,A.oc3,A.gs,A.len,A.n2,A.e3,A.e4⟩
 ·rw [Lj h0 h1 G.wd hf hop hA] at hE;simp only [Option.some.injEq,List.cons.injEq,and_true] at hE;exact absurd hE.2.2.2.2.2.2.symm hoc
theorem VW (hoc:oc≠0) (hr:tr≤4611686018427387904):Tried d0 d1 s t op obj arg (frT e2 e4) n s' e1 e2 e3 e4 e5 oc:=by
 by_cases h:op=4
 ·exact (Ll h0 h1 G hn hop A h hoc hr).2
 ·exact PK h0 h1 G hn hop A h _
end
inductive O8 (d1:D) (t:Int):Nat→KT→KT→Prop
 | zero (x:KT):O8 d1 t 0 x x
 | succ (j:Nat) (x y:KT) (ho:jA d1 t x=0) (ha:low (mV d1 t x) 4=0) (h:O8 d1 t j (iT (Ins d1 t x) x) y):O8 d1 t (j+1) x y
theorem O8.snoc {d1:D} {t:Int} {j:Nat} {x y:KT} (h:O8 d1 t j x y) (ho:jA d1 t y=0) (ha:low (mV d1 t y) 4=0):O8 d1 t (j+1) x (iT (Ins d1 t y) y):=by
 induction h with
 | zero x=>exact .succ 0 x _ ho ha (.zero _)
 | succ j x y ho' ha' _ ih=>exact .succ _ x _ ho' ha' (ih ho ha)
section
variable {d0 d1 s k:D} {t:Int} {n:Nat} {rM uO ea eb:Int} (S:Sx s k n) (C:Cd d0 d1) (ht:t < (k.l.length:Int))
include S C ht
theorem aA9 {j:Nat} {x y:KT} (h:O8 d1 t j x y): ∀m:Nat,m+j≤20000→Rt d0 d1 t x→L 2004 [t,(m:Int),enc d0,enc d1,enc s,enc k,rM,uO,ea,eb,enc s,enc k,x.a,enc x.lc,x.w,x.o,x.g,x.tr]=L 2004 [t,((m+j:Nat):Int),enc d0,enc d1,enc s,enc k,rM,uO,ea,eb,enc s,enc k,y.a,enc y.lc,y.w,y.o,y.g,y.tr]∧Rt d0 d1 t y:=by
 induction h with
 | zero x=>exact fun m _ R=> ⟨rfl,R⟩
 | succ j x y ho ha _ ih=> intro m hm R;have R':=(Gh C ht R (EW R ho ha)).1;obtain⟨q1,q2⟩:=ih (m+1) (by omega) R';rw [agR S C ht R (by omega) ho ha,bC (n:=m) (by omega),q1,show m+1+j=m+(j+1) by omega];exact⟨rfl,q2⟩
theorem aA8 {j:Nat} {x y:KT} (h:O8 d1 t j x y): ∀m:Nat,m+j≤20000→Rt d0 d1 t x→x.lc.l.length=0→L 2005 [t,(m:Int),enc d0,enc d1,enc s,enc k,rM,uO,ea,eb,enc s,enc k,x.a,enc x.lc,x.w,x.o,x.g,x.tr]=L 2005 [t,((m+j:Nat):Int),enc d0,enc d1,enc s,enc k,rM,uO,ea,eb,enc s,enc k,y.a,enc y.lc,y.w,y.o,y.g,y.tr]∧Rt d0 d1 t y∧y.lc.l.length=0:=by
 induction h with
 | zero x=>exact fun m _ R hz=> ⟨rfl,R,hz⟩
 | succ j x y ho ha _ ih=> intro m hm R hz;obtain⟨R',hl⟩:=Gh C ht R (EW R ho ha);obtain⟨q1,q2,q3⟩:=ih (m+1) (by omega) R' (by omega);rw [agP S C ht R hz (by omega) ho ha,bC (n:=m) (by omega),q1,show m+1+j=m+(j+1) by omega];exact⟨rfl,q2,q3⟩
end
section
variable {d0 d1 s k:D} {t:Int} {n:Nat} {rM uO ea eb:Int} {x:KT} (S:Sx s k n) (R:Rs d0 d1 s k t x)
include S R
theorem auK (hp:0 < x.lc.l.length):L 2000 [enc d0,enc d1,enc s,enc k,t,rM,uO,ea,eb]=L 2004 [t,0,enc d0,enc d1,enc s,enc k,rM,uO,ea,eb,enc s,enc k,x.a,enc x.lc,x.w,x.o,x.g,x.tr]:=by
 have h:=R.cp S;have hR:=R.yes;have ha:CU x.lc=3:=if_pos hp;rw [ha] at h
 have K:dX (fcE d0 d1 s k t rM uO ea eb) abI= .jump 2004 [t,0,enc d0,enc d1,enc s,enc k,rM,uO,ea,eb,enc s,enc k,x.a,enc x.lc,x.w,x.o,x.g,x.tr]:=by refine aW [.eq (a0 9050 OZ) Q0,.eq rO wR,O4] [.eq rO Qa,.eq rO Q0,.eq rO nV,O1] (ju 2004 Qrc) (by simp only [zz,h,hR] <;> omega) (by kernel_rfl) ?_;simp only [zz,h]
 rw [aQ,aoU];exact congrArg (fin L) K
theorem auJ (hp:x.lc.l.length=0):L 2000 [enc d0,enc d1,enc s,enc k,t,rM,uO,ea,eb]=L 2005 [t,0,enc d0,enc d1,enc s,enc k,rM,uO,ea,eb,enc s,enc k,x.a,enc x.lc,x.w,x.o,x.g,x.tr]:=by
 have h:=R.cp S;have hR:=R.yes;have ha:CU x.lc=4:=if_neg (by omega);rw [ha] at h
 have K:dX (fcE d0 d1 s k t rM uO ea eb) abI= .jump 2005 [t,0,enc d0,enc d1,enc s,enc k,rM,uO,ea,eb,enc s,enc k,x.a,enc x.lc,x.w,x.o,x.g,x.tr]:=by refine aW [.eq (a0 9050 OZ) Q0,.eq rO sF,O4] [.eq rO Qa,.eq rO Q0,.eq rO nV,.eq rO wR,O1] (ju 2005 Qrc) (by simp only [zz,h,hR] <;> omega) (by kernel_rfl) ?_;simp only [zz,h]
 rw [aQ,aoU];exact congrArg (fin L) K
theorem NP {j:Nat} {y:KT} (hj:j≤20000) (hl:O8 d1 t j x y) (ho:jA d1 t y=0) {op obj arg tr e1 e2 e3 e4 e5 oc:Int} {s':D} (ha:mV d1 t y= [op,obj,arg,tr,1]) (A:Tried d0 d1 s t op obj arg (frT rM ea) n s' e1 e2 e3 e4 e5 oc) :
 L 2000 [enc d0,enc d1,enc s,enc k,t,rM,uO,ea,eb]=some (if oc≠0∧e1=t∧e2=rM∧e3=uO∧e4=ea∧e5=eb then [enc s',enc (iH k t (qO (Ins d1 t y) y op e2 e3 e4 oc)),1] else [enc s,enc k,0]):=by
 by_cases hp:0 < x.lc.l.length
 ·obtain⟨q1,q2⟩:=aA9 (rM:=rM) (uO:=uO) (ea:=ea) (eb:=eb) S R.c R.ht hl 0 (by omega) R.r;rw [Int.natCast_zero] at q1;rw [auK S R hp,q1];exact agQ S R.c R.ht q2 (by omega) ho ha rfl A
 ·obtain⟨q1,q2,q3⟩:=aA8 (rM:=rM) (uO:=uO) (ea:=ea) (eb:=eb) S R.c R.ht hl 0 (by omega) R.r (by omega);rw [Int.natCast_zero] at q1;rw [auJ S R (by omega),q1];exact agO S R.c R.ht q2 q3 (by omega) ho ha rfl A
end
end Go.As.Try
end

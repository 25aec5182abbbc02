import Derived.IntWalk
import Derived.ChangeArms
import Derived.DataReads
import GoSem.ClaimJoined
import Derived.OpenShut
import Derived.Test.YtdcafdkkpdadbaaGreatDoorAsZJ4
set_option linter.unusedSectionVars false
set_option linter.unusedVariables false
set_option linter.unusedSimpArgs false
section
namespace Go.As
open Go.RowKit
def Am (ro:Nat→Prop) (h:Array Obj) (c:CK) (n:Int) (u:Value):Prop:=match c with
 | .int k=>u= .int k n
 | .bool=>u= .bool (!(n == 0))
 | c=>Rd ro h c (dec n) u
def jG (ro:Nat→Prop) (h:Array Obj):List CK→List Int→List Value→Prop
 | [],ns,us=>ns= []∧us= []
 | c :: cs,ns,us=> ∃n ns' u us',ns=n :: ns'∧us=u :: us'∧Am ro h c n u∧jG ro h cs ns' us'
theorem Xd {E:En} {h:Array Obj} {c:CK} {t:SE} {u:Value}:VR E h (adG c t) u↔Am E.ro h c (t.den E.ρ) u:=by
 cases c <;> simp only [adG,Am,VR,SB.den,SE.den]
theorem akJ {E:En} {h:Array Obj} {c:CK} {v:AV} {u:Value} {e:SE} (hv:VR E h v u) (hn:akK c v=some e):Am E.ro h c (e.den E.ρ) u:=by
 unfold akK at hn
 split at hn
 ·split at hn
  ·split at hn
   ·rename_i hk
    subst hk
    simp only [Option.some.injEq] at hn
    subst hn
    simpa only [Am,VR] using hv
   ·simp at hn
  ·simp at hn
 ·simp at hn
 ·obtain⟨s,rfl,hs⟩:=E8 hv hn
  simp only [Am,hs]
  exact .str s
 ·exact pR hv hn
theorem jG.length {ro:Nat→Prop} {h:Array Obj}: ∀{cs:List CK} {ns:List Int} {us:List Value},jG ro h cs ns us→ns.length=cs.length∧us.length=cs.length
 | [],ns,us,hh=>by simp only [jG] at hh; simp [hh.1,hh.2]
 | c :: cs,ns,us,hh=>by
   obtain⟨n,ns',u,us',rfl,rfl,_,h2⟩:=hh
   have:=h2.length
   simp [this.1,this.2]
theorem Am.keep {ro ro':Nat→Prop} {h h':Array Obj} (k1: ∀b,ro b→ro' b) (k2: ∀b,ro b→h'[b]?=h[b]?) {c:CK} {n:Int} {u:Value} (r:Am ro h c n u):Am ro' h' c n u:=by
 cases c with
 | int k=>exact r
 | bool=>exact r
 | str=>exact Rd.keep k1 k2 r
 | sl t=>exact Rd.keep k1 k2 r
theorem Oj {E:En} {h:Array Obj} {f:Nat→SE}: ∀{cs:List CK} {i:Nat} {ns:List Int} {us:List Value},jG E.ro h cs ns us→(∀k n,ns[k]?=some n→(f (i+k)).den E.ρ=n)→bJ E h (Ol cs f i) us
 | [],_,_,us,hh,_=>by simp only [jG] at hh; rw [hh.2]; simp [Ol,bJ]
 | c :: cs,i,ns,us,hh,hf=>by
   obtain⟨n,ns',u,us',rfl,rfl,h1,h2⟩:=hh
   simp only [Ol,aW]
   refine⟨u,us',rfl,?_,Oj h2 fun k m hk=>?_⟩
   ·rw [Xd]
    have:=hf 0 n rfl
    rw [Nat.add_zero] at this
    rw [this]
    exact h1
   ·have:=hf (k+1) m (by simpa using hk)
    rw [show i+1+k=i+(k+1) by omega]
    exact this
inductive Shape:List RK→List Value→List Value→Prop where
 | nil:Shape [] [] []
 | one (c:CK) {rs:List RK} {us fl:List Value} (u:Value):Shape rs us fl→Shape (.one c :: rs) (u :: us) (u :: fl)
 | agg (cs:List CK) {rs:List RK} {us fl:List Value} (xs:List Value) (h:xs.length=cs.length):Shape rs us fl→Shape (.agg cs :: rs) (.agg xs.toArray :: us) (xs++fl)
theorem rM {E:En} {h:Array Obj}: ∀{oH:List RK} {vs cells:List AV} {us:List Value},bJ E h vs us→cellsOf oH vs=some cells→∃fl,Shape oH us fl∧bJ E h cells fl
 | [],[],cells,us,hv,hc=>by
   simp only [cellsOf,Option.some.injEq] at hc
   subst hc
   simp only [bJ] at hv
   subst hv
   exact⟨[],.nil,by simp [bJ]⟩
 | [],_ :: _,cells,us,hv,hc=>by simp [cellsOf] at hc
 | .one _ :: _,[],cells,us,hv,hc=>by simp [cellsOf] at hc
 | .agg _ :: _,[],cells,us,hv,hc=>by simp [cellsOf] at hc
 | .one c :: rs,v :: vs,cells,us,hv,hc=>by
   rw [aW] at hv
   obtain⟨u,us',rfl,h1,h2⟩:=hv
   simp only [cellsOf] at hc
   split at hc
   ·split at hc
    ·rename_i l hl
     simp only [Option.some.injEq] at hc
     subst hc
     obtain⟨fl,s,v2⟩:=rM h2 hl
     exact⟨u :: fl,.one c u s,by rw [aW]; exact⟨u,fl,rfl,h1,v2⟩⟩
    ·simp at hc
   ·simp at hc
 | .agg cs :: rs,v :: vs,cells,us,hv,hc=>by
   rw [aW] at hv
   obtain⟨u,us',rfl,h1,h2⟩:=hv
   simp only [cellsOf] at hc
   split at hc
   ·rename_i xs
    split at hc
    ·rename_i hlen
     have hlen:=Nat.eq_of_beq_eq_true hlen
     split at hc
     ·rename_i l hl
      simp only [Option.some.injEq] at hc
      subst hc
      obtain⟨fl,s,v2⟩:=rM h2 hl
      simp only [VR] at h1
      obtain⟨ws,rfl,h3⟩:=h1
      exact⟨ws++fl,.agg cs ws (by rw [h3.length,hlen]) s,h3.append v2⟩
     ·simp at hc
    ·simp at hc
   ·simp at hc
theorem DZ {ro:Nat→Prop} {h:Array Obj}: ∀{cs ds:List CK} {ns:List Int} {us vs:List Value},us.length=cs.length→jG ro h (cs++ds) ns (us++vs)→∃a b,ns=a++b∧jG ro h cs a us∧jG ro h ds b vs
 | [],ds,ns,us,vs,hl,hh=>by
   have:us= []:=List.eq_nil_of_length_eq_zero hl
   subst this
   exact⟨[],ns,rfl,by simp [jG],hh⟩
 | c :: cs,ds,ns,us,vs,hl,hh=>by
   simp only [List.cons_append,jG] at hh
   obtain⟨n,ns',u,us',rfl,he,h1,h2⟩:=hh
   cases us with
   | nil=>simp at hl
   | cons x us=>
     simp only [List.cons_append,List.cons.injEq] at he
     obtain⟨rfl,rfl⟩:=he
     obtain⟨a,b,rfl,h3,h4⟩:=DZ (by simpa using hl) h2
     exact⟨n :: a,b,rfl,⟨n,a,x,us,rfl,rfl,h1,h3⟩,h4⟩
theorem xO {E:En} {h:Array Obj} {f:Nat→SE}: ∀{oH:List RK} {us fl:List Value} {ns:List Int} {i:Nat},Shape oH us fl→jG E.ro h (sW oH) ns fl→(∀k n,ns[k]?=some n→(f (i+k)).den E.ρ=n)→bJ E h (uU oH f i) us
 | [],us,fl,ns,i,s,_,_=>by cases s; simp [uU,bJ]
 | .one c :: rs,us,fl,ns,i,s,hc,hf=>by
   cases s with
   | one _ u s=>
     simp only [sW,RK.flat,List.cons_append,List.nil_append,jG] at hc
     obtain⟨n,ns',u',us',rfl,he,h1,h2⟩:=hc
     simp only [List.cons.injEq] at he
     obtain⟨rfl,rfl⟩:=he
     simp only [uU,aW]
     refine⟨_,_,rfl,?_,xO s h2 fun k m hk=>?_⟩
     ·rw [Xd]
      have:=hf 0 n rfl
      rw [Nat.add_zero] at this
      rw [this]; exact h1
     ·have:=hf (k+1) m (by simpa using hk)
      rw [show i+1+k=i+(k+1) by omega]
      exact this
 | .agg cs :: rs,us,fl,ns,i,s,hc,hf=>by
   cases s with
   | agg _ xs hl s=>
     simp only [sW,RK.flat] at hc
     obtain⟨a,b,rfl,h1,h2⟩:=DZ hl hc
     have hal:=h1.length.1
     simp only [uU,aW,VR]
     refine⟨_,_,rfl,⟨xs,rfl,Oj h1 fun k m hk=>hf k m ?_⟩,xO s h2 fun k m hk=>?_⟩
     ·rw [List.getElem?_append_left (List.getElem?_eq_some_iff.1 hk).1]; exact hk
     ·have:=hf (cs.length+k) m (by rw [List.getElem?_append_right (by omega),show cs.length+k - a.length=k by omega]; exact hk)
      rw [show i+cs.length+k=i+(cs.length+k) by omega]
      exact this
section
variable {P:Program} {E:En} {w:World}
theorem J3 {α:Type} {r:α} {h:Array Obj}: ∀{cs:List CK} {vs:List AV} {s:St} {k:List SE→St→T α} {us:List Value},bI E.ρ s.pc→bJ E h vs us→(outs cs vs s k).leaf E.ρ=some r→
 ∃es pc',bI E.ρ pc'∧jG E.ro h cs (es.map (SE.den E.ρ)) us∧(k es { s with pc:=pc' }).leaf E.ρ=some r
 | [],[],s,k,us,hp,hv,hl=>by
   simp only [outs] at hl
   simp only [bJ] at hv
   exact⟨[],s.pc,hp,by simp [jG,hv],hl⟩
 | [],_ :: _,s,k,us,hp,hv,hl=>by simp [outs,T.leaf] at hl
 | _ :: _,[],s,k,us,hp,hv,hl=>by simp [outs,T.leaf] at hl
 | c :: cs,v :: vs,s,k,us,hp,hv,hl=>by
   rw [aW] at hv
   obtain⟨u,us',rfl,h1,h2⟩:=hv
   simp only [outs] at hl
   split at hl
   ·split at hl
    ·rename_i b
     obtain⟨pc1,hp1,hl1⟩:=cO hp hl
     obtain⟨es,pc2,hp2,q1,q2⟩:=J3 (s:={ s with pc:=pc1 }) hp1 h2 hl1
     refine⟨_ :: es,pc2,hp2,?_,q2⟩
     simp only [List.map_cons,jG]
     refine⟨_,_,u,us',rfl,rfl,?_,q1⟩
     simp only [VR] at h1
     subst h1
     simp only [Am,SE.den]
     cases b.den E.ρ <;> rfl
    ·simp [T.leaf] at hl
   ·split at hl
    ·rename_i e he
     obtain⟨es,pc2,hp2,q1,q2⟩:=J3 hp h2 hl
     refine⟨_ :: es,pc2,hp2,?_,q2⟩
     simp only [List.map_cons,jG]
     exact⟨_,_,u,us',rfl,rfl,akJ h1 he,q1⟩
    ·simp [T.leaf] at hl
theorem Ef (ρ:Nat→Int): ∀es:List SE,dec ((iG es).den ρ)=dL ((es.map (SE.den ρ)).map .i)
 | []=>by simp only [iG,SE.den,aC]; rfl
 | e :: es=>by
   simp only [iG,gQ,SE.den,aG.den,aC,oK,Ef ρ es,List.map_cons,dL]
theorem kZ (ρ:Nat→Int): ∀es:List SE,(iG es).den ρ=pX (es.map (SE.den ρ))
 | []=>rfl
 | e :: es=>by
   have:=Ef ρ (e :: es)
   simp only [iG,gQ,SE.den,aG.den,aC,oK,Ef ρ es,List.map_cons,pX,dL]
theorem CB {ρ:Nat→Int} {r:SE} {ys:List Int} (h:r.den ρ=pX ys) {i:Nat} {y:Int} (hi:ys[i]?=some y):(sU r i).den ρ=y:=by
 simp only [sU,SE.den,aG.den,h,pX,aC,D.hd,aX,List.getElem?_map,hi,Option.map_some,Option.getD_some,D.n]
def avP (oH:List RK) (ys:List Int) (ro:Nat→Prop) (h:Array Obj) (u:Value):Prop:= ∃us fl,Shape oH us fl∧jG ro h (sW oH) ys fl∧u=if hh:us.toArray.size=1 then us.toArray[0] else .tuple us.toArray
def aqH (P:Program) (GB:(Nat→Prop)→Array Obj→Prop) (g:FuncId) (Oy oH:List RK) (f:List Int→Option (List Int)):Prop:=
 ∀xs ys,f xs=some ys→∀(ro:Nat→Prop) (w:World) (vals fl:List Value),(∀b,ro b→b < w.heap.size)→GB ro w.heap→Shape Oy vals fl→jG ro w.heap (sW Oy) xs fl→
  Calls P g vals.toArray w fun e w'=> ∃u,e= .returned u∧Below w.heap.size w w'∧∃ro':Nat→Prop,(∀b,ro b→ro' b)∧(∀b,ro' b→ro b∨w.heap.size≤b)∧(∀b,ro' b→b < w'.heap.size)∧avP oH ys ro' w'.heap u
theorem jG.azY {ro ro':Nat→Prop} {h h':Array Obj}: ∀{cs:List CK} {ns:List Int} {us:List Value},jG ro h cs ns us→Pj cs=true→jG ro' h' cs ns us
 | [],ns,us,hh,_=>hh
 | c :: cs,ns,us,hh,hs=>by
   obtain⟨n,ns',u,us',rfl,rfl,h1,h2⟩:=hh
   simp only [Pj] at hs
   split at hs
   ·exact⟨n,ns',u,us',rfl,rfl,h1,h2.azY hs⟩
   ·exact⟨n,ns',u,us',rfl,rfl,h1,h2.azY hs⟩
   ·simp at hs
theorem alR [Glob] {GB:(Nat→Prop)→Array Obj→Prop} (hgb: ∀ρ ro h,Glob.ok ρ ro h→GB ro h) {F:Hf} (hgood: ∀ρ ro h,Glob.ok ρ ro h→Good F ρ) {g:FuncId} {j:Nat} {Oy oH:List RK} (hs:aqH P GB g Oy oH (F j))
 (hrun: ∀(args:Array Value) (w:World),(callFunc g args).run P w= .ok (.enter g args) w):mJ P g (alS j Oy oH):=by
 intro aFG s E w vals v s' r hv hp hl
 unfold alS at hl
 split at hl
 ·simp [T.leaf] at hl
 ·rename_i cells hc
  obtain⟨fl,sh,hv2⟩:=rM hv hc
  obtain⟨cells',h1,pcF,E1,hpF,f,hfr,hl⟩:=xX rfl r hp hl
  have hv3:=hfr _ hv2
  have s1:=f.eF
  have r1:=f.rel
  have hρ:=f.ρ
  rw [← hρ] at hl hpF
  obtain⟨es,pc1,hp1,q1,q2⟩:=J3 (s:={ s with h:=h1,pc:=pcF }) hpF hv3 hl
  obtain⟨pc2,hp2,q3⟩:=cO (s:={ s with h:=h1,pc:=pc1 }) hp1 q2
  split at q3
  ·rename_i ht
   have hg:=hgood _ _ _ r1.glob
   have hg1:=(hg j (es.map (SE.den E1.ρ))).1
   have hg2:=(hg j (es.map (SE.den E1.ρ))).2
   simp only [SB.den,SE.den,kZ,hg1,beq_iff_eq] at ht
   have hsome:(F j (es.map (SE.den E1.ρ))).isSome=true:=by
    cases hh:(F j (es.map (SE.den E1.ρ))).isSome with
    | true=>rfl
    | false=>rw [hh] at ht; simp at ht
   obtain⟨ys,hys⟩:=Option.isSome_iff_exists.1 hsome
   have hres:=aF q3
   simp only [Prod.mk.injEq] at hres
   obtain⟨rfl,hs'⟩:=hres
   have hrun':=hs _ ys hys E1.ro w vals fl r1.AZ (hgb _ _ _ r1.glob) sh q1
   have hval: ∀(E2:En) (h2:Array Obj) (us fl':List Value),E2.ρ=E1.ρ→Shape oH us fl'→jG E2.ro h2 (sW oH) ys fl'→
    VR E2 h2 (match uU oH (sU (.ap (2*j+1) (iG es))) 0 with | [v]=>v | vs=> .tuple vs) (if hh:us.toArray.size=1 then us.toArray[0] else .tuple us.toArray):=by
    intro E2 h2 us fl' hE2 sh' c1
    have hvr:bJ E2 h2 (uU oH (sU (.ap (2*j+1) (iG es))) 0) us:=by
     refine xO sh' c1 fun k n hk=>?_
     rw [Nat.zero_add]
     refine CB (ys:=ys) ?_ hk
     show E2.ρ _=_
     rw [hE2,kZ,hg2,hys]
     rfl
    have:=JV hvr
    unfold resV at this
    exact this
   cases hsc:Pj (sW oH) with
   | true=>
     rw [hsc] at hs'
     simp only at hs'
     subst hs'
     refine⟨rfl,by rw [← hρ]; exact hp2,?_⟩
     unfold tC sZ
     rw [hrun]
     refine Calls.mono hrun' fun e w' ⟨u,he,hb,ro',k1,k2,k3,k4⟩=> ⟨u,he,?_⟩
     have hkeep:Keeps E w.heap E w'.heap:=⟨rfl,fun _ h=>h,fun _ _=>rfl,fun _ _=>rfl,fun _ h=>h,fun b hbr=>hb.block b (r.AZ b hbr)⟩
     have st2:Stp E s.h w E s.h w':=
      ⟨rfl,fun _ h=>h,fun _ _=>rfl,fun _ _=>rfl,fun _ h=>h,fun b hbr=> .inl hbr,Nat.le_refl _,.inr rfl,fun _ h=> .inl h,hb.os,hb.tape,hb.output,hb.size,fun b hbl _=>hb.block b hbl,fun id o h _=> ⟨id,o,h,rfl⟩⟩
     have r2:bG E s.h w':=by
      refine⟨r.fresh,r.res,fun id o h=>?_,r.inj,fun b hbr=>Nat.lt_of_lt_of_le (r.AZ b hbr) hb.size,Glob.keep r.glob (fun _ h=>h) hkeep.Lu⟩
      obtain⟨g1,g2,g3⟩:=r.live id o h
      exact⟨g1,g2.keep hkeep g1 (hb.block _ (jE r h)),g3⟩
     obtain⟨us,fl',sh',c1,rfl⟩:=k4
     exact⟨E,st2,r2,hval E w'.heap us fl' hρ.symm sh' (c1.azY hsc)⟩
   | false=>
     rw [hsc] at hs'
     simp only at hs'
     subst hs'
     refine⟨rfl,by rw [← hρ]; exact hp2,?_⟩
     unfold tC sZ
     rw [hrun]
     refine Calls.mono hrun' fun e w' ⟨u,he,hb,ro',k1,k2,k3,k4⟩=> ⟨u,he,?_⟩
     have hkeep:Keeps E1 w.heap { E1 with ro:=ro' } w'.heap:=⟨rfl,fun _ h=>h,fun _ _=>rfl,fun _ _=>rfl,k1,fun b hbr=>hb.block b (r1.AZ b hbr)⟩
     have st2:Stp E1 h1 w { E1 with ro:=ro' } h1 w':=
      ⟨rfl,fun _ h=>h,fun _ _=>rfl,fun _ _=>rfl,k1,fun b hbr=>(k2 b hbr).imp id .inr,Nat.le_refl _,.inr rfl,fun _ h=> .inl h,hb.os,hb.tape,hb.output,hb.size,fun b hbl _=>hb.block b hbl,fun id o h _=> ⟨id,o,h,rfl⟩⟩
     have r2:bG { E1 with ro:=ro' } h1 w':=by
      refine⟨r1.fresh,r1.res,fun id o h=>?_,r1.inj,k3,Glob.keep r1.glob k1 hkeep.Lu⟩
      obtain⟨g1,g2,g3⟩:=r1.live id o h
      refine⟨g1,g2.keep hkeep g1 (hb.block _ (jE r1 h)),fun hr=>?_⟩
      rcases k2 _ hr with hr | hr
      ·exact g3 hr
      ·have hlt:(E1.θ id).1 < w.heap.size:=jE r1 h
       have hge:w.heap.size≤(E1.θ id).1:=hr
       omega
     obtain⟨us,fl',sh',c1,rfl⟩:=k4
     exact⟨{ E1 with ro:=ro' },s1.trans st2,r2,hval { E1 with ro:=ro' } w'.heap us fl' rfl sh' c1⟩
  ·simp [T.leaf] at q3
end
end Go.As
end
section
namespace Go.As
open Go.RowKit
structure qN where
 w0:World
 ro:Nat→Prop
 m:Nat
 θ:Nat→Nat×Nat
 κ:Nat→Nat
def qN.fp (B:qN) (b:Nat):Prop:= ∃i,i < B.m∧(B.θ i).1=b
structure Bel (B:qN) (w:World):Prop where
 os:w.os=B.w0.os
 tape:w.tape=B.w0.tape
 output:w.output=B.w0.output
 size:B.w0.heap.size≤w.heap.size
 blk: ∀k,k < B.w0.heap.size→¬B.fp k→w.heap[k]?=B.w0.heap[k]?
structure qM (B:qN) (E:En) (s:St) (a:Act) (w:World):Prop where
 fit:G5 E s a w
 ro: ∀b,B.ro b→E.ro b
 Ja: ∀b,E.ro b→B.ro b∨B.w0.heap.size≤b∨B.fp b
 bel:Bel B w
 own: ∀id o,s.h.get id=some o→B.w0.heap.size≤(E.θ id).1∨B.fp (E.θ id).1
 inx: ∀i,i < B.m→E.dm i∧E.θ i=B.θ i∧E.κ i=B.κ i
section
variable {P:Program} {B:qN}
theorem qM.step [Glob] {E E':En} {s s':St} {a a':Act} {w w':World} (t:qM B E s a w) (st:Stp E s.h w E' s'.h w') (f':Fit E' s' a' w'):qM B E' s' a' w':=by
 have hown: ∀id o,s'.h.get id=some o→B.w0.heap.size≤(E'.θ id).1∨B.fp (E'.θ id).1:=by
  intro id o ho
  rcases Nat.lt_or_ge (E'.θ id).1 w.heap.size with h | h
  ·obtain⟨Dy,o0,h0,he⟩:=st.own id o ho h
   rw [← he]
   exact t.own Dy o0 h0
  ·exact .inl (Nat.le_trans t.bel.size h)
 refine⟨f'.x,fun b hb=>st.ro b (t.ro b hb),fun b hb=>?_,⟨st.os.trans t.bel.os,st.tape.trans t.bel.tape,st.output.trans t.bel.output,Nat.le_trans t.bel.size st.size,fun k hk hn=>?_⟩,hown,fun i hi=>?_⟩
 ·rcases st.Ja b hb with h | ⟨id,o,h1,h2⟩ | h
  ·exact t.Ja b h
  ·rw [← h2]; exact .inr (t.own id o h1)
  ·exact .inr (.inl (Nat.le_trans t.bel.size h))
 ·rw [← t.bel.blk k hk hn]
  refine st.keep k (Nat.lt_of_lt_of_le hk t.bel.size) fun id o ho he=>?_
  rcases t.own id o ho with h | h
  ·omega
  ·rw [he] at h; exact hn h
 ·obtain⟨h1,h2,h3⟩:=t.inx i hi
  exact⟨st.dm i h1,by rw [st.θ i h1]; exact h2,by rw [st.κ i h1]; exact h3⟩
theorem qM.then [Glob] {E:En} {s s':St} {a a':Act} {w w':World} (t:qM B E s a w) (h:Then E s a w s' a' w'): ∃E',qM B E' s' a' w'∧E'.ρ=E.ρ∧Glob.ok E'.ρ E'.ro w'.heap:=by
 obtain⟨_,_,E',st,f'⟩:=h
 exact⟨E',t.step st f',st.ρ,f'.rel.glob⟩
theorem qM.pc {E:En} {s:St} {a:Act} {w:World} {pc:List (SB×Bool)} (t:qM B E s a w) (hp:bI E.ρ pc):qM B E { s with pc:=pc } a w:=
 ⟨⟨t.fit.fresh,t.fit.res,t.fit.live,t.fit.inj,t.fit.AZ,t.fit.sr,hp⟩,t.ro,t.Ja,t.bel,t.own,t.inx⟩
theorem MQ {r:Ren}: ∀{m:Nat},MS m r=true→∀i,i < m→i < r.bl.length∧r.id i=i∧r.Ar i=0
 | 0,_,i,hi=>by omega
 | n+1,h,i,hi=>by
   simp only [MS,Bool.and_eq_true] at h
   obtain⟨⟨h1,h2⟩,h3⟩:=h
   by_cases he:i=n
   ·subst he
    split at h1
    ·rename_i j hj
     have h1:=Nat.eq_of_beq_eq_true h1
     subst h1
     refine⟨?_,?_,Nat.eq_of_beq_eq_true h2⟩
     ·rw [dB] at hj
      exact (List.getElem?_eq_some_iff.1 hj).1
     ·unfold Ren.id; rw [hj]
    ·simp at h1
   ·exact MQ h3 i (by omega)
theorem qM.fits [Glob] {E:En} {c:CS} {s:St} {r:Ren} {a:Act} {w:World} (t:qM B E s a w) (hg:Glob.ok E.ρ E.ro w.heap) (h:c.fits prv s r=true) (hid:MS B.m r=true):r.ns.length≤900∧qM B (E.ren r) c.st a w:=by
 obtain⟨hl,f,ho⟩:=F8 Yq (t.fit.fit hg) h
 refine⟨hl,f.x,t.ro,t.Ja,t.bel,fun id o hid=>?_,fun i hi=>?_⟩
 ·obtain⟨o',h'⟩:=ho id o hid
  exact t.own _ _ h'
 ·obtain⟨q1,q2,q3⟩:=MQ hid i hi
  obtain⟨h1,h2,h3⟩:=t.inx i hi
  refine⟨⟨q1,by rw [q2]; exact h1⟩,?_,?_⟩
  ·show ((E.θ (r.id i)).1,(E.θ (r.id i)).2+r.Ar i)=_
   rw [q2,q3,Nat.add_zero]
   exact h2
  ·show E.κ (r.id i) - r.Ar i=_
   rw [q2,q3,Nat.sub_zero]
   exact h3
theorem qM.low {K:Nat} {E:En} {c:CS} {a:Act} {w:World} {ρ':Nat→Int} (hc:BL K c=true) (hρ: ∀i,i < K→ρ' i=E.ρ i) (t:qM B E c.st a w):qM B { E with ρ:=ρ' } c.st a w:=
 ⟨t.fit.low hc hρ,t.ro,t.Ja,t.bel,t.own,t.inx⟩
def qN.out (B:qN) (ys:List Int) (ro:Nat→Prop):En:={ ρ:=low ys,θ:=B.θ,κ:=B.κ,dm:=fun i=>i < B.m,ro:=ro }
def QE (B:qN) (oH:List RK) (dY:List dW) (ko:Nat) (ys:List Int) (e:Ending) (w':World):Prop:=
 ∃u,e= .returned u∧Bel B w'∧∃ro':Nat→Prop,(∀b,B.ro b→ro' b)∧(∀b,ro' b→B.ro b∨B.w0.heap.size≤b)∧(∀b,ro' b→b < w'.heap.size)∧(∀i,i < B.m→¬ro' (B.θ i).1)∧
  (∀i o,dY[i]?=some o→OR (B.out ys ro') w'.heap i o)∧avP oH (ys.drop ko) ro' w'.heap u
def aeE (us:List Value):Value:=if h:us.toArray.size=1 then us.toArray[0] else .tuple us.toArray
def QR (B:qN) (vK:List CS) (ys:List Int) (e:Ending) (w':World):Prop:=
 ∃(us:List Value) (i:Nat) (c:CS) (E':En),e= .returned (aeE us)∧Bel B w'∧vK[i]?=some c∧ys[0]?=some (i:Int)∧ys.length=c.k+1∧(∀a x,ys[a+1]?=some x→E'.ρ a=x)∧us.length=c.slots.length∧
  G5 E' c.st { tmps:=us.toArray,defers:=[] } w'∧(∀b,B.ro b→E'.ro b)∧(∀b,E'.ro b→B.ro b∨B.w0.heap.size≤b)∧(∀i,i < B.m→i < c.objs.length∧E'.dm i∧E'.θ i=B.θ i∧E'.κ i=B.κ i)∧(∀id o,c.st.h.get id=some o→B.m≤id→B.w0.heap.size≤(E'.θ id).1)
def QX (B:qN) (oH:List RK) (dY:List dW) (ko:Nat) (vK:List CS) (ys:List Int):Ending→World→Prop:=match vK with
 | []=>QE B oH dY ko ys
 | c :: l=>QR B (c :: l) ys
structure ZP [Glob] (P:Program) (g:IQ) (chk:Nat→List Oper→Bool):Prop where
 tt:eG P g.tt
 call:jR P g.call
 draw:BZ P chk g.draw
theorem yA {chk:Nat→List Oper→Bool} {N:Nat} {body:Code} (h:mD chk N body=true): ∀(p:List Nat) {c:Code} {fr:List FrE},tJ body p=some (c,fr)→mD chk N c=true
 | [],c,fr,hl=>by
   simp only [tJ,Option.some.injEq,Prod.mk.injEq] at hl
   rw [← hl.1]; exact h
 | d :: p,c,fr,hl=>by
   simp only [tJ] at hl
   split at hl
   ·rename_i a b fr' hp
    have:=yA h p hp
    simp only [mD,Bool.and_eq_true] at this
    split at hl
    ·simp only [Option.some.injEq,Prod.mk.injEq] at hl; rw [← hl.1]; exact this.1
    ·simp only [Option.some.injEq,Prod.mk.injEq] at hl; rw [← hl.1]; exact this.2
   ·rename_i id b fr' hp
    have:=yA h p hp
    simp only [mD] at this
    simp only [Option.some.injEq,Prod.mk.injEq] at hl; rw [← hl.1]; exact this
   ·rename_i v a b fr' hp
    have:=yA h p hp
    simp only [mD,Bool.and_eq_true] at this
    split at hl
    ·simp only [Option.some.injEq,Prod.mk.injEq] at hl; rw [← hl.1]; exact this.1
    ·simp only [Option.some.injEq,Prod.mk.injEq] at hl; rw [← hl.1]; exact this.2
   ·rename_i b fr' hp
    have:=yA h p hp
    simp only [mD] at this
    simp only [Option.some.injEq,Prod.mk.injEq] at hl; rw [← hl.1]; exact this
   ·rename_i b fr' hp
    have:=yA h p hp
    simp only [mD] at this
    simp only [Option.some.injEq,Prod.mk.injEq] at hl; rw [← hl.1]; exact this
   ·simp at hl
theorem CU {body:Code}: ∀(p:List Nat) {c:Code} {fr:List FrE},tJ body p=some (c,fr)→OD body fr
 | [],c,fr,h=>by
   simp only [tJ,Option.some.injEq,Prod.mk.injEq] at h
   rw [← h.2]; trivial
 | d :: p,c,fr,h=>by
   have h0:=h
   simp only [tJ] at h
   split at h
   ·rename_i a b fr' hp
    have ih:=CU p hp
    split at h
    ·simp only [Option.some.injEq,Prod.mk.injEq] at h
     obtain⟨rfl,rfl⟩:=h
     refine⟨?_,ih⟩
     simp only [tJ,hp]
    ·simp only [Option.some.injEq,Prod.mk.injEq] at h
     rw [← h.2]; exact ih
   ·rename_i id b fr' hp
    have ih:=CU p hp
    simp only [Option.some.injEq,Prod.mk.injEq] at h
    rw [← h.2]; exact ih
   ·rename_i v a b fr' hp
    have ih:=CU p hp
    split at h
    ·simp only [Option.some.injEq,Prod.mk.injEq] at h; rw [← h.2]; exact ih
    ·simp only [Option.some.injEq,Prod.mk.injEq] at h; rw [← h.2]; exact ih
   ·rename_i b fr' hp
    have ih:=CU p hp
    simp only [Option.some.injEq,Prod.mk.injEq] at h
    rw [← h.2]
    exact⟨hp,ih⟩
   ·rename_i b fr' hp
    have ih:=CU p hp
    simp only [Option.some.injEq,Prod.mk.injEq] at h
    rw [← h.2]; exact ih
   ·simp at h
def Xp (F:Hf) (ρ:Nat→Int) (ys:List Int):Lf→Prop
 | .out es=>es.map (SE.den ρ)=ys
 | .jump j es=>F j (es.map (SE.den ρ))=some ys
def aqM [Glob] (P:Program) (body:Code) (N:Nat) (B:qN) (Q:Exit→Act→World→Prop) (F:Hf) (ys:List Int) (tabs:JI):Prop:=
 ∀p l,tabs p=some l→∃b fr,tJ body p=some (.loop b,fr)∧∀j c,(j,c)∈l→∀E a w,qM B E c.st a w→Glob.ok E.ρ E.ro w.heap→(∃xs:List Int,(∀i x,xs[i]?=some x→E.ρ i=x)∧xs.length=c.k∧c.k≤900∧F j xs=some ys)→N≤a.tmps.size→a.defers= []→OC P b (KE P Q fr) a w
theorem rG (g:Tr SE): ∀(n i:Nat),(Ey g n i).length=n
 | 0,_=>rfl
 | n+1,i=>by
   simp only [Ey]
   split <;> simp [rG g n (i+1)]
theorem zG (m:Nat) (c:CS) (s:St):(c.lG m s).ns.length=c.k:=by
 unfold CS.lG
 split
 exact rG _ _ _
theorem F7: ∀(n i:Nat) (ns:List SE),(Jl n i ns).length=ns.length
 | 0,_,_=>rfl
 | _+1,_,[]=>rfl
 | n+1,i,_ :: ns=>by simp only [Jl,List.length_cons,F7 n (i+1) ns]
theorem BD (jS:Nat) (r:Ren):(wL jS r).ns.length=r.ns.length:=by
 unfold wL
 split
 ·rfl
 ·exact F7 _ _ _
theorem Sl {α:Type} {k:St→T α} {E:En} {a:Act} {w:World} {x:α}: ∀{ts:List (Nat×Nat)} {s:St},(XL k ts s).leaf E.ρ=some x→qM B E s a w→∃s',qM B E s' a w∧(k s').leaf E.ρ=some x
 | [],s,h,t=> ⟨s,t,h⟩
 | (i,g) :: ts,s,h,t=>by
   simp only [XL] at h
   split at h
   ·obtain⟨pc',hp',h1⟩:=cO t.fit.pc h
    exact Sl h1 (t.pc hp')
   ·exact Sl h t
theorem CW [Glob] {jS:Nat} {F:Hf} {ys:List Int} {body:Code} {N:Nat} {Q:Exit→Act→World→Prop} {tabs:JI} (hj:aqM P body N B Q F ys tabs) {p:List Nat} {l0:List (Nat×CS)} (hp:tabs p=some l0) {b:Code} {fr:List FrE} (hl:tJ body p=some (.loop b,fr)) :
 ∀{l:List (Nat×CS)} {s:St} {lf:Lf} {E:En} {a:Act} {w:World},(∀x∈l,x∈l0)→(wJ B.m jS s l).leaf E.ρ=some lf→Xp F E.ρ ys lf→qM B E s a w→Glob.ok E.ρ E.ro w.heap→N≤a.tmps.size→a.defers= []→OC P b (KE P Q fr) a w
 | [],s,lf,E,a,w,_,h,_,_,_,_,_=>by simp [wJ,T.leaf] at h
 | (j,c) :: l,s,lf,E,a,w,hsub,h,hlf,t,hg,hN,hd=>by
   simp only [wJ] at h
   split at h
   ·exact CW hj hp hl (fun x hx=>hsub x (by simp [hx])) h hlf t hg hN hd
   ·split at h
    ·rename_i hf
     have:=aF h
     subst this
     simp only [Bool.and_eq_true] at hf
     obtain⟨hle,t'⟩:=t.fits hg hf.1 hf.2
     obtain⟨b',fr',hl',hh⟩:=hj p l0 hp
     rw [hl] at hl'
     simp only [Option.some.injEq,Prod.mk.injEq,Code.loop.injEq] at hl'
     obtain⟨rfl,rfl⟩:=hl'
     have hgl:(wL jS (c.lG B.m s)).ns.length=c.k:=by rw [BD,zG]
     refine hh j c (hsub _ (by simp)) (E.ren (wL jS (c.lG B.m s))) a w t' (Glob.ren hg fun i hi=>Ren.oN hle hi) ⟨(wL jS (c.lG B.m s)).ns.map (SE.den E.ρ),fun i x hi=>?_,by simp [hgl],by rw [← hgl]; exact hle,hlf⟩ hN hd
     rw [List.getElem?_map,Option.map_eq_some_iff] at hi
     obtain⟨e,he,rfl⟩:=hi
     show (wL jS (c.lG B.m s)).env E.ρ i=_
     unfold Ren.env
     rw [dB,he]
    ·exact CW hj hp hl (fun x hx=>hsub x (by simp [hx])) h hlf t hg hN hd
theorem Dt {α:Type} {k:St→T α} {E:En} {a:Act} {w:World} {x:α}: ∀{ts:List Nat} {s:St},(BO k ts s).leaf E.ρ=some x→qM B E s a w→∃s',qM B E s' a w∧(k s').leaf E.ρ=some x
 | [],s,h,t=> ⟨s,t,h⟩
 | i :: ts,s,h,t=>by
   simp only [BO] at h
   split at h
   ·rename_i c hc
    obtain⟨pc',hp',h1⟩:=cO t.fit.pc h
    refine Dt h1 ⟨⟨t.fit.fresh,t.fit.res,t.fit.live,t.fit.inj,t.fit.AZ,fun j v hj=>?_,hp'⟩,t.ro,t.Ja,t.bel,t.own,t.inx⟩
    simp only at hj
    rw [Tr.get_put] at hj
    split at hj
    ·rename_i he
     subst he
     simp only [Option.some.injEq] at hj
     subst hj
     obtain⟨u,h2,h3⟩:=t.fit.sr _ _ hc
     refine⟨u,h2,?_⟩
     simp only [VR] at h3 ⊢
     rw [h3]
     rfl
    ·exact t.fit.sr j v hj
   ·exact Dt h t
theorem aeO (g:IQ) (h:Hp):(jC g h).ns.length=g.ko∧(jC g h).bl=List.range g.dY.length∧(jC g h).sh= []:=by
 unfold jC
 split
 exact⟨rG _ _ _,rfl,rfl⟩
def qI (K:Nat):List dW→Bool
 | []=>true
 | o :: l=>FI K o && qI K l
theorem yT {K:Nat}: ∀{l:List dW},qI K l=true→∀{i:Nat} {o:dW},l[i]?=some o→FI K o=true
 | [],_,_,_,h=>by simp at h
 | o0 :: l,hs,i,o,h=>by
   simp only [qI,Bool.and_eq_true] at hs
   cases i with
   | zero=>simp at h; rw [← h]; exact hs.1
   | succ i=>exact yT hs.2 (by simpa using h)
theorem KA {n m jS:Nat} {s:St} {ρ:Nat→Int} {lf:Lf}: ∀{l:List CS} {k:Nat},(WS n m jS s l k).leaf ρ=some lf→∃i c,l[i - k]?=some c∧(c.fits prv s (wL jS (c.lG m s))=true∧MS m (wL jS (c.lG m s))=true)∧n=c.slots.length∧lf= .out (.lit (i:Int) :: (wL jS (c.lG m s)).ns)∧k≤i
 | [],k,h=>by simp [WS,T.leaf] at h
 | c :: l,k,h=>by
   simp only [WS] at h
   split at h
   ·obtain⟨i,c',q1,q2,q3,q4,q5⟩:=KA h
    refine⟨i,c',?_,q2,q3,q4,by omega⟩
    rw [show i - k=(i - (k+1))+1 by omega,List.getElem?_cons_succ]
    exact q1
   ·rename_i hq
    simp only [Bool.and_eq_true] at hq
    split at h
    ·rename_i hf
     have:=aF h
     simp only [Bool.and_eq_true] at hf
     exact⟨k,c,by simp,hf,Nat.eq_of_beq_eq_true hq.2,this.symm,Nat.le_refl _⟩
    ·obtain⟨i,c',q1,q2,q3,q4,q5⟩:=KA h
     refine⟨i,c',?_,q2,q3,q4,by omega⟩
     rw [show i - k=(i - (k+1))+1 by omega,List.getElem?_cons_succ]
     exact q1
theorem U2 {E E':En} {h h':Array Obj} (kp:Keeps E h E' h'): ∀{xs:List AV} {us:List Value} {i:Nat} {x:AV},bJ E h xs us→xs[i]?=some x→∃u,VR E h x u∧∀x',VR E' h' x' u→bJ E' h' (xs.set i x') us
 | [],us,i,x,_,hx=>by simp at hx
 | y :: ys,us,0,x,hv,hx=>by
   rw [aW] at hv
   obtain⟨u,vs,rfl,a,b⟩:=hv
   simp only [List.getElem?_cons_zero,Option.some.injEq] at hx
   subst hx
   refine⟨u,a,fun x' hx'=>?_⟩
   rw [List.set_cons_zero,aW]
   exact⟨u,vs,rfl,hx',bJ.keep kp _ _ b⟩
 | y :: ys,us,i+1,x,hv,hx=>by
   rw [aW] at hv
   obtain⟨u,vs,rfl,a,b⟩:=hv
   rw [List.getElem?_cons_succ] at hx
   obtain⟨u',h1,h2⟩:=U2 kp b hx
   refine⟨u',h1,fun x' hx'=>?_⟩
   rw [List.set_cons_succ,aW]
   exact⟨u,vs,rfl,VR.keep kp _ _ a,h2 x' hx'⟩
theorem acG [Glob] {α:Type} {ρ:Nat→Int} {w:World} {us:List Value} {k:List AV→St→T α} {x:α}: ∀{fz:List (Nat×Nat×Nat)} {vs:List AV} {s:St} {E:En},E.ρ=ρ→bG E s.h w→bI ρ s.pc→bJ E w.heap vs us→(YQ fz vs s k).leaf ρ=some x→
 ∃vs' h' pc' E',bI ρ pc'∧Xt E w s.h E' h'∧bJ E' w.heap vs' us∧(k vs' { s with h:=h',pc:=pc' }).leaf ρ=some x
 | [],vs,s,E,hρ,r,hp,hv,h=> ⟨vs,s.h,s.pc,E,hp,Xt.refl r,hv,h⟩
 | (i,f,t) :: l,vs,s,E,hρ,r,hp,hv,h=>by
   simp only [YQ] at h
   split at h
   ·rename_i xs hi
    split at h
    ·rename_i y hy
     rw [dB] at hi hy
     obtain⟨y',h1,pc1,E1,hp1,f1,q1,g1⟩:=acF hρ r hp h
     have kp:=f1.eF.keeps r
     obtain⟨u,a,b⟩:=U2 kp hv hi
     simp only [VR] at a
     obtain⟨ws,rfl,a⟩:=a
     obtain⟨u2,a2,b2⟩:=U2 kp a hy
     split at g1
     ·rename_i e he
      have hc:=pR (q1 _ a2) he
      have hv1:bJ E1 w.heap (vs.set i (.agg (xs.set f (.dat e t)))) us:=by
       refine b _ ?_
       simp only [VR]
       exact⟨ws,rfl,b2 _ (by simp only [VR]; exact hc)⟩
      obtain⟨vs2,h2,pc2,E2,hp2,f2,q2,g2⟩:=acG (s:={ s with h:=h1,pc:=pc1 }) (f1.ρ.trans hρ) f1.rel hp1 hv1 g1
      exact⟨vs2,h2,pc2,E2,hp2,f1.trans f2,q2,g2⟩
     ·simp [T.leaf] at g1
    ·simp [T.leaf] at h
   ·simp [T.leaf] at h
theorem auL [Glob] {g:IQ} {chk:Nat→List Oper→Bool} (hg:ZP P g chk) {fn:Func} (hres:g.res=fn.results.toList) (hm:g.dY.length=B.m) (hlo:qI g.ko g.dY=true) (hko:g.ko≤900) {e:Ex} {s:St} {lf:Lf} {E:En} {a:Act} {w:World} {F:Hf} {ys:List Int} (h:(amW g e s).leaf E.ρ=some lf) (hlf:Xp F E.ρ ys lf)
 (t:qM B E s a w) (hgl:Glob.ok E.ρ E.ro w.heap) (hd:a.defers= []):bodyPost P fn (QX B g.oH g.dY g.ko g.vK ys) (D9 e) a w:=by
 have fit:=t.fit.fit hgl
 have key: ∀{x:T Lf},x=(match nN g.tt s g.res with
  | none=>T.fail
  | some vs=>match g.vK with
    | []=>match cellsOf g.oH vs with
      | none=> .fail
      | some cells=>F6 cells s fun cells s=>match Ie (jC g s.h) g.dY.length s.h g.dY 0 with
        | true=>outs (sW g.oH) cells s fun es _=> .ret (.out ((jC g s.h).ns++es))
        | false=> .fail
    | c :: l=>YQ g.fz vs s fun vs s=>WS vs.length g.dY.length g.jS ⟨bD vs 0 .nil,s.h,s.pc⟩ (c :: l) 0)→x.leaf E.ρ=some lf→∃v,(results fn a.tmps).run P w= .ok v w∧QX B g.oH g.dY g.ko g.vK ys (.returned v) w:=by
  intro x hx hl
  subst hx
  split at hl
  ·simp [T.leaf] at hl
  ·rename_i vs hr
   rw [hres] at hr
   obtain⟨us,g1,g2⟩:=zM hg.tt fit hr
   have hrun:(results fn a.tmps).run P w= .ok (aeE us) w:=by
    have hm:(fn.results.mapM (A8 a)).run P w= .ok us.toArray w:=by
     rw [Array.mapM_eq_mapM_toList]
     rw [map_eq_pure_bind]
     simp only [Sem.run_bind,g1]
     rfl
    have hr2:results fn a.tmps=(do let vs ← fn.results.mapM (A8 a); pure (if h:vs.size=1 then vs[0] else .tuple vs)):=rfl
    rw [hr2]
    simp only [Sem.run_bind,hm]
    rfl
   split at hl
   ·rename_i JC
    split at hl
    ·simp [T.leaf] at hl
    ·rename_i cells hc
     rw [JC]
     show ∃v,_∧QE B g.oH g.dY g.ko ys (.returned v) w
     obtain⟨fl,sh,hv2⟩:=rM g2 hc
     obtain⟨cells',h1,pcF,E1,hpF,f,hfr,hl⟩:=xX rfl fit.rel fit.pc hl
     have hv3:=hfr _ hv2
     have s1:=f.eF
     have r1:=f.rel
     split at hl
     ·rename_i hob
      have hρ:=f.ρ
      rw [← hρ] at hl hlf hpF
      obtain⟨es,pc1,hp1,q1,q2⟩:=J3 (s:={ s with h:=h1,pc:=pcF }) hpF hv3 hl
      have:=aF q2
      subst this
      simp only [Xp] at hlf
      obtain⟨n1,n2,n3⟩:=aeO g h1
      have hdrop:ys.drop g.ko=es.map (SE.den E1.ρ):=by
       rw [← hlf,List.map_append,List.drop_append_of_le_length (by simp [n1])]
       rw [List.drop_of_length_le (by simp [n1]),List.nil_append]
      have aE5: ∀i,i < g.ko→low ys i=(jC g h1).env E1.ρ i:=by
       intro i hi
       have hlt:i < (jC g h1).ns.length:=by omega
       unfold low Ren.env
       rw [dB,List.getElem?_eq_getElem hlt,← hlf,List.getD_eq_getElem?_getD,List.map_append,List.getElem?_append_left (by simpa using hlt),List.getElem?_map,List.getElem?_eq_getElem hlt]
       rfl
      have asZ: ∀i,i < B.m→E1.dm i∧E1.θ i=B.θ i∧E1.κ i=B.κ i:=by
       intro i hi
       obtain⟨h1,h2,h3⟩:=t.inx i hi
       exact⟨s1.dm i h1,by rw [s1.θ i h1]; exact h2,by rw [s1.κ i h1]; exact h3⟩
      have atA: ∀i,i < g.dY.length→(jC g h1).id i=i:=by
       intro i hi
       unfold Ren.id
       rw [n2,dB,List.getElem?_range hi]
      have V7: ∀i,(jC g h1).Ar i=0:=by
       intro i
       unfold Ren.Ar
       rw [n3]
       rfl
      have hlive: ∀i,i < B.m→¬E1.ro (B.θ i).1:=by
       intro i hi
       have hlt:i < g.dY.length:=by omega
       obtain⟨o',q3,_,_⟩:=lF hob (List.getElem?_eq_getElem hlt)
       rw [Nat.zero_add,atA i hlt] at q3
       have:=(r1.live i o' q3).2.2
       rw [(asZ i hi).2.1] at this
       exact this
      refine⟨aeE us,hrun,_,rfl,t.bel,E1.ro,fun b hb=>s1.ro b (t.ro b hb),fun b hb=>?_,r1.AZ,hlive,fun i o hi=>?_,us,fl,sh,by rw [hdrop]; exact q1,rfl⟩
      ·have key:B.ro b∨B.w0.heap.size≤b∨B.fp b:=by
        rcases s1.Ja b hb with h | ⟨id,o,h1,h2⟩ | h
        ·exact t.Ja b h
        ·rw [← h2]; exact .inr (t.own id o h1)
        ·exact .inr (.inl (Nat.le_trans t.bel.size h))
       rcases key with h | h | ⟨i,hi,he⟩
       ·exact .inl h
       ·exact .inr h
       ·exact absurd hb (by rw [← he]; exact hlive i hi)
      ·have hil:=(List.getElem?_eq_some_iff.1 hi).1
       obtain⟨o',q3,q4,q5⟩:=lF hob hi
       rw [Nat.zero_add] at q3 q5
       have ho:=(r1.live _ o' q3).2.1
       have ho2:=OR.ren (E:=E1) (r:=jC g h1) (by omega) (id:=i) (by rw [n2,List.length_range]; exact q4) q5 ho
       have kp:Keeps (E1.ren (jC g h1)) w.heap { ρ:=(jC g h1).env E1.ρ,θ:=B.θ,κ:=B.κ,dm:=fun i=>i < B.m,ro:=E1.ro } w.heap:=by
        have hd: ∀id,(E1.ren (jC g h1)).dm id→id < g.dY.length:=by
         intro id hh
         have:=hh.1
         rw [n2,List.length_range] at this
         exact this
        refine⟨rfl,fun id hh=>by have:=hd id hh; show id < B.m; omega,fun id hh=>?_,fun id hh=>?_,fun _ h=>h,fun _ _=>rfl⟩
        ·have:=hd id hh
         show B.θ id=((E1.θ ((jC g h1).id id)).1,(E1.θ ((jC g h1).id id)).2+(jC g h1).Ar id)
         rw [atA id this,V7,Nat.add_zero,(asZ id (by omega)).2.1]
        ·have:=hd id hh
         show B.κ id=E1.κ ((jC g h1).id id) - (jC g h1).Ar id
         rw [atA id this,V7,Nat.sub_zero,(asZ id (by omega)).2.2]
       have aDi:(E1.ren (jC g h1)).dm i:=by
        refine⟨by rw [n2,List.length_range]; exact hil,?_⟩
        rw [atA i hil]
        exact (asZ i (by omega)).1
       have hθi:(E1.ren (jC g h1)).θ i=B.θ i:=(kp.θ i aDi).symm
       have ho3:=OR.keep kp aDi rfl ho2
       exact OR.low (K:=g.ko) (E:={ ρ:=(jC g h1).env E1.ρ,θ:=B.θ,κ:=B.κ,dm:=fun i=>i < B.m,ro:=E1.ro }) (E':=B.out ys E1.ro) aE5 rfl rfl rfl rfl (yT hlo hi) ho3
     ·simp [T.leaf] at hl
   ·rename_i c0 l0 JC
    have hq:QR B (c0 :: l0) ys (.returned (aeE us)) w:=by
     obtain⟨vs1,h1,pc1,E1,hp1,f1,g2,hl⟩:=acG rfl fit.rel fit.pc g2 hl
     have hgl:=f1.rel.glob
     have t0:qM B E1 ⟨bD vs1 0 .nil,h1,pc1⟩ { tmps:=us.toArray,defers:=[] } w:=by
      have sr1:=FU g2 0
      exact t.step (s':=⟨bD vs1 0 .nil,h1,pc1⟩) f1.eF ⟨f1.rel,by simpa using sr1,by rw [f1.ρ]; exact hp1⟩
     rw [← f1.ρ] at hl hlf
     obtain⟨i,c,q1,⟨q2,q2'⟩,q3,q4,_⟩:=KA hl
     rw [hm] at q2 q2' q4
     obtain⟨hle,t1⟩:=t0.fits hgl q2 q2'
     rw [q4] at hlf
     simp only [Xp,List.map_cons] at hlf
     subst hlf
     have hbl:(wL g.jS (c.lG B.m ⟨bD vs1 0 .nil,h1,pc1⟩)).bl.length=c.objs.length:=by
      have:=q2
      unfold CS.fits at this
      simp only [Bool.and_eq_true] at this
      exact Nat.eq_of_beq_eq_true this.1.1.1.1.2
     have hin: ∀i,i < B.m→i < c.objs.length:=fun i hi=>by rw [← hbl]; exact (MQ q2' i hi).1
     have hlive: ∀i,i < B.m→∃o,c.st.h.get i=some o:=by
      intro i hi
      have hi2:=hin i hi
      refine⟨c.objs[i],?_⟩
      show (uT c.objs 0 .nil).get i=_
      rw [mW,if_pos (by omega)]
      simp
     have hfp: ∀b,B.fp b→¬(E1.ren (wL g.jS (c.lG B.m ⟨bD vs1 0 .nil,h1,pc1⟩))).ro b:=by
      rintro b ⟨i,hi,rfl⟩ hb
      obtain⟨o,ho⟩:=hlive i hi
      have:=(t1.fit.live i o ho).2.2
      rw [(t1.inx i hi).2.1] at this
      exact this hb
     refine⟨us,i,c,E1.ren (wL g.jS (c.lG B.m ⟨bD vs1 0 .nil,h1,pc1⟩)),rfl,t.bel,by simpa using q1,by simp [SE.den],by simp [BD,zG],fun a x ha=>?_,by rw [← q3,g2.length],t1.fit,t1.ro,fun b hb=>?_,fun i hi=> ⟨hin i hi,t1.inx i hi⟩,fun id o ho hid=>?_⟩
     ·simp only [List.getElem?_cons_succ,List.getElem?_map,Option.map_eq_some_iff] at ha
      obtain⟨e,he,rfl⟩:=ha
      show (wL g.jS (c.lG B.m ⟨bD vs1 0 .nil,h1,pc1⟩)).env E1.ρ a=_
      unfold Ren.env
      rw [dB,he]
     ·rcases t1.Ja b hb with h | h | h
      ·exact .inl h
      ·exact .inr h
      ·exact absurd hb (hfp b h)
     ·rcases t1.own id o ho with h | ⟨i,hi,he⟩
      ·exact h
      ·obtain⟨o',ho'⟩:=hlive i hi
       rw [← (t1.inx i hi).2.1] at he
       have:=t1.fit.inj i id o' o ho' ho he
       omega
    exact⟨aeE us,hrun,by rw [JC]; exact hq⟩
 unfold amW at h
 cases e with
 | exit id=>simp [T.leaf] at h
 | normal=>exact⟨hd,key rfl h⟩
 | ret=>exact⟨hd,key rfl h⟩
theorem OL {P:Program} {Q:Exit→Act→World→Prop} {e:Ex} {a:Act} {w:World} (h:Q (D9 e) a w):Exit.noGoto Q (D9 e) a w:=by
 cases e <;> exact h
theorem Ub [Glob] {g:IQ} {chk:Nat→List Oper→Bool} (hg:ZP P g chk) {body:Code} {N:Nat} (hd:mD chk N body=true) {fn:Func} (hres:g.res=fn.results.toList) (hm:g.dY.length=B.m) (hlo:qI g.ko g.dY=true) (hko:g.ko≤900) {F:Hf} {ys:List Int} {tabs:JI}
 (hj:aqM P body N B (bodyPost P fn (QX B g.oH g.dY g.ko g.vK ys)) F ys tabs): ∀n:Nat,
 (∀p c fr s lf E a w,tJ body p=some (c,fr)→(Dz g tabs n p c fr s).leaf E.ρ=some lf→Xp F E.ρ ys lf→qM B E s a w→Glob.ok E.ρ E.ro w.heap→N≤a.tmps.size→a.defers= []→c.wp P (KE P (bodyPost P fn (QX B g.oH g.dY g.ko g.vK ys)) fr) a w)∧
 (∀fr e s lf E a w,OD body fr→(zH g tabs n fr e s).leaf E.ρ=some lf→Xp F E.ρ ys lf→qM B E s a w→Glob.ok E.ρ E.ro w.heap→N≤a.tmps.size→a.defers= []→KE P (bodyPost P fn (QX B g.oH g.dY g.ko g.vK ys)) fr (D9 e) a w)
 | 0=> ⟨fun _ _ _ _ _ _ _ _ _ h=>by simp [Dz,T.leaf] at h,fun _ _ _ _ _ _ _ _ h=>by simp [zH,T.leaf] at h⟩
 | n+1=>by
   obtain⟨ih1,ih2⟩:=Ub hg hd hres hm hlo hko hj n
   have leaf: ∀p c fr s lf E a w,tJ body p=some (c,fr)→((g.ev c s).bind fun (e,s')=>zH g tabs n fr e s').leaf E.ρ=some lf→Xp F E.ρ ys lf→qM B E s a w→Glob.ok E.ρ E.ro w.heap→N≤a.tmps.size→a.defers= []→c.wp P (KE P (bodyPost P fn (QX B g.oH g.dY g.ko g.vK ys)) fr) a w:=by
    intro p c fr s lf E a w hl h hlf t hgl hN hdf
    obtain⟨⟨e,s'⟩,h1,h2⟩:=T.fP h
    refine wp_mono (nO hg.tt hg.call hg.draw c (yA hd p hl) E s s' e a w hN (t.fit.fit hgl) h1) fun x a' w' ⟨hx,ht⟩=>?_
    subst hx
    obtain⟨E',t',hρ,hg'⟩:=t.then ht
    exact ih2 fr e s' lf E' a' w' (CU p hl) (by rw [hρ]; exact h2) (by rw [hρ]; exact hlf) t' hg' (by rw [ht.size]; exact hN) (by rw [ht.defers,hdf])
   constructor
   ·intro p c fr s lf E a w hl h hlf t hgl hN hdf
    simp only [Dz] at h
    split at h
    ·rename_i l hcs
     obtain⟨b,fr',hl',_⟩:=hj p l hcs
     rw [hl] at hl'
     simp only [Option.some.injEq,Prod.mk.injEq] at hl'
     obtain⟨rfl,rfl⟩:=hl'
     obtain⟨s',t',h'⟩:=Dt h t
     exact YB (CW hj hcs hl (fun _ hx=>hx) (by rw [← hm]; exact h') hlf t' hgl hN hdf)
    ·cases c with
     | seq x y=>
       simp only at h
       refine wp_seq ?_
       exact ih1 (0 :: p) x (.seq (1 :: p) y :: fr) s lf E a w (by simp only [tJ,hl]) h hlf t hgl hN hdf
     | block id b=>
       simp only at h
       refine wp_block ?_
       exact ih1 (0 :: p) b (.block id :: fr) s lf E a w (by simp only [tJ,hl]) h hlf t hgl hN hdf
     | scope b=>
       simp only at h
       refine wp_scope_straight ?_
       exact ih1 (0 :: p) b (.scope :: fr) s lf E a w (by simp only [tJ,hl]) h hlf t hgl hN hdf
     | cond v x y=>
       simp only at h
       split at h
       ·rename_i c hv
        obtain⟨pc',hp',h1⟩:=cO t.fit.pc h
        have hvr:=jI t.fit.sr hv
        simp only [VR] at hvr
        refine wp_cond hvr ?_
        cases hcd:c.den E.ρ with
        | true=>
          rw [hcd] at h1
          simp only at h1
          exact ih1 (0 :: p) x fr _ lf E a w (by simp only [tJ,hl]) h1 hlf (t.pc hp') hgl hN hdf
        | false=>
          rw [hcd] at h1
          simp only at h1
          exact ih1 (1 :: p) y fr _ lf E a w (by simp only [tJ,hl]) h1 hlf (t.pc hp') hgl hN hdf
       ·simp [T.leaf] at h
     | _=>simp only at h; exact leaf p _ fr s lf E a w hl h hlf t hgl hN hdf
   ·intro fr e s lf E a w hf h hlf t hgl hN hdf
    cases fr with
    | nil=>
      simp only [zH] at h
      exact auL hg hres hm hlo hko h hlf t hgl hdf
    | cons f fr=>
      cases f with
      | seq p c=>
        simp only [zH] at h
        obtain⟨hl,hf'⟩:=hf
        cases e with
        | normal=>exact ih1 p c fr s lf E a w hl h hlf t hgl hN hdf
        | exit id=>exact ih2 fr (.exit id) s lf E a w hf' h hlf t hgl hN hdf
        | ret=>exact ih2 fr .ret s lf E a w hf' h hlf t hgl hN hdf
      | block id=>
        simp only [zH] at h
        have hf':OD body fr:=hf
        cases e with
        | normal=>exact ih2 fr .normal s lf E a w hf' h hlf t hgl hN hdf
        | ret=>exact ih2 fr .ret s lf E a w hf' h hlf t hgl hN hdf
        | exit j=>
          simp only at h
          show (if j=id then _ else _)
          split at h
          ·rename_i hj'
           rw [if_pos (Nat.eq_of_beq_eq_true hj')]
           exact ih2 fr .normal s lf E a w hf' h hlf t hgl hN hdf
          ·rename_i hj'
           rw [if_neg (Nat.ne_of_beq_eq_false hj')]
           exact ih2 fr (.exit j) s lf E a w hf' h hlf t hgl hN hdf
      | loop p b=>
        simp only [zH] at h
        obtain⟨hl,hf'⟩:=hf
        cases e with
        | normal=>
          simp only at h
          split at h
          ·rename_i l hcs
           obtain⟨s',t',h'⟩:=Dt h t
           exact CW hj hcs hl (fun _ hx=>hx) (by rw [← hm]; exact h') hlf t' hgl hN hdf
          ·simp [T.leaf] at h
        | exit id=>exact ih2 fr (.exit id) s lf E a w hf' h hlf t hgl hN hdf
        | ret=>exact ih2 fr .ret s lf E a w hf' h hlf t hgl hN hdf
      | scope=>
        simp only [zH] at h
        exact OL (P:=P) (ih2 fr e s lf E a w hf h hlf t hgl hN hdf)
end
end Go.As
end
section
namespace Go.As
open Go.RowKit
def Ren.ents (r:Ren):List (AV×AV×Nat)→List (AV×AV×Nat)
 | []=>[]
 | (k,v,n) :: l=>(r.av k,r.av v,n) :: r.ents l
def Ren.ovs (r:Ren):List (SE×List AV)→List (SE×List AV)
 | []=>[]
 | (i,cs) :: l=>(r.se i,r.JH cs) :: r.ovs l
def Ren.ob (r:Ren):dW→dW
 | .cells cs e=> .cells (r.JH cs) e
 | .map es n=> .map (r.ents es) n
 | .nS s p=> .nS s p
 | .vec e t ty ov=> .vec (r.se e) t ty (r.ovs ov)
 | .iR e t=> .iR (r.se e) t
noncomputable def mQ (r:Ren):List dW→Nat→Hp→Hp
 | [],_,h=>h
 | o :: os,i,h=>mQ r os (i+1) (h.put (r.id i) (r.ob o))
def P9 (r:Ren):Bool:=r.sh.all fun i=>Nat.beq i 0
def aaW (r:SE) (n:Nat):List SE:=(List.range n).map (sU r)
noncomputable def alQ (j:Nat) (c:CS) (oH:List RK) (dY:List dW) (ko:Nat):List AV→St→T (AV×St):=fun args s=>
 match Nat.beq args.length c.slots.length && c.fits prv ⟨bD args 0 .nil,s.h,s.pc⟩ (c.guess ⟨bD args 0 .nil,s.h,s.pc⟩) && P9 (c.guess ⟨bD args 0 .nil,s.h,s.pc⟩) with
 | true=>pV s (.eq (.ap (2*j) (iG (c.guess ⟨bD args 0 .nil,s.h,s.pc⟩).ns)) (.lit 1)) fun s' b=>match b with
   | true=> .ret (match uU oH (sU (.ap (2*j+1) (iG (c.guess ⟨bD args 0 .nil,s.h,s.pc⟩).ns))) ko with | [v]=>v | vs=> .tuple vs,
    { s' with h:=mQ ⟨aaW (.ap (2*j+1) (iG (c.guess ⟨bD args 0 .nil,s.h,s.pc⟩).ns)) ko,(c.guess ⟨bD args 0 .nil,s.h,s.pc⟩).bl,[]⟩ dY 0 s'.h })
   | false=> .fail
 | false=> .fail
noncomputable def aDu (s:St) (t c:Nat):SE:=match s.slots.get t with
 | some v=>match v with
   | .int _ e=>e
   | .agg cs=>match gI cs c with
     | some v=>match v with
       | .int _ e=>e
       | _=> .lit 0
     | none=> .lit 0
   | _=> .lit 0
 | none=> .lit 0
noncomputable def amD (s:St):List (Nat×Nat)→List SE→List SE
 | [],ns=>ns
 | _ :: _,[]=>[]
 | (t,c) :: l,_ :: ns=>aDu s t c :: amD s l ns
noncomputable def ghR (s:St) (gh:List (Nat×Nat)) (r:Ren):Ren:={ r with ns:=amD s gh r.ns }
noncomputable def aDt (s:St) (gh:List (Nat×Nat)):Option SE:=match gh with
 | (t,c) :: _=>some (aDu s t c)
 | []=>none
noncomputable def wP (q:SE) (jS:Nat) (ns:List SE) (c:CS) (bl:List Nat) (s:St):Ren:=⟨(List.range c.k).map fun a=>match Nat.blt a jS with | true=>(match gI ns a with | some e=>e | none=> .lit 0) | false=>sU q (a+1),(List.range c.objs.length).map fun i=>match gI bl i with | some j=>j | none=>s.h.next+(i - bl.length),[]⟩
noncomputable def amC (g n:SE) (s:St) (k:St→T (AV×St)):T (AV×St):=pV s (kM g (.lit 0)) fun s b=>match b with
 | true=>k s
 | false=>pV s (kM g n) fun s b=>match b with
   | true=> .fail
   | false=>k s
noncomputable def ghT (q:SE) (jS:Nat) (ns:List SE) (g:Option SE) (c:CS) (bl:List Nat) (s:St) (k:St→T (AV×St)):T (AV×St):=match g with
 | none=>k s
 | some g=>match c.m with
   | .aQ _=>k s
   | _=>match c.slots with
     | []=>k s
     | (_,v) :: _=>match v with
       | .uK _ n _=>amC g ((wP q jS ns c bl s).se n) s k
       | _=>k s
noncomputable def aqF (q:SE) (jS:Nat) (ns:List SE) (g:Option SE) (bl:List Nat):List CS→Nat→St→T (AV×St)
 | [],_,_=> .fail
 | c :: l,i,s=>pV s (Dv (sU q 0) (.lit (Int.ofNat i))) fun s b=>match b with
   | true=>ghT q jS ns g c bl s fun s=> .ret (resV ((wP q jS ns c bl s).JH (c.slots.map fun p=>p.2)),
    { s with h:=⟨(mQ (wP q jS ns c bl s) c.objs 0 s.h).m,s.h.next+(c.objs.length - bl.length),s.h.res⟩ })
   | false=>aqF q jS ns g bl l (i+1) s
noncomputable def alO (j jS:Nat) (c:CS) (gh:List (Nat×Nat)) (vK:List CS):List AV→St→T (AV×St):=fun args s=>
 match Nat.beq args.length c.slots.length && c.fits prv ⟨bD args 0 .nil,s.h,s.pc⟩ (ghR s gh (c.guess ⟨bD args 0 .nil,s.h,s.pc⟩)) && P9 (ghR s gh (c.guess ⟨bD args 0 .nil,s.h,s.pc⟩)) with
 | true=>pV s (.eq (.ap (2*j) (iG (ghR s gh (c.guess ⟨bD args 0 .nil,s.h,s.pc⟩)).ns)) (.lit 1)) fun s' b=>match b with
   | true=>aqF (.ap (2*j+1) (iG (ghR s gh (c.guess ⟨bD args 0 .nil,s.h,s.pc⟩)).ns)) jS (ghR s gh (c.guess ⟨bD args 0 .nil,s.h,s.pc⟩)).ns (aDt s gh) (ghR s gh (c.guess ⟨bD args 0 .nil,s.h,s.pc⟩)).bl vK 0 s'
   | false=> .fail
 | false=> .fail
section
variable {Eo E2:En} {r:Ren} {h:Array Obj} (hl:r.ns.length≤900) (hsh:r.sh= []) (hρ:Eo.ρ=r.env E2.ρ) (hid: ∀i,Eo.dm i→E2.dm (r.id i)∧E2.θ (r.id i)=Eo.θ i∧E2.κ (r.id i)=Eo.κ i) (hro:Eo.ro=E2.ro)
include hl hsh hρ hid hro
theorem ajE (i:Nat):r.Ar i=0:=by unfold Ren.Ar; rw [hsh]; rfl
theorem fJ.back {id off len:Nat} {a:Addr} {cap:Nat} {c:Xv} (hd:Eo.dm id) (hc:fJ Eo id off len a cap c):fJ E2 (r.id id) off len a cap c:=by
 obtain⟨_,h2,h3⟩:=hid id hd
 cases c <;> simp only [fJ] at* <;> rw [h2]
 ·exact hc
 ·rw [h3]; exact hc
mutual
theorem VR.back: ∀(x:AV) (u:Value),VR Eo h x u→VR E2 h (r.av x) u
 | .bool b,u,hv=>by simp only [VR,Ren.av] at *; rw [Ren.Hy hl,← hρ]; exact hv
 | .int _ e,u,hv=>by simp only [VR,Ren.av] at *; rw [Ren.dZ hl,← hρ]; exact hv
 | .str s,u,hv=>by simp only [VR,Ren.av] at *; exact hv
 | .ptr id off,u,hv=>by
   simp only [VR,Ren.av,ajE hl hsh hρ hid hro,Nat.zero_add] at *
   obtain⟨h1,h2,_⟩:=hid id hv.2
   rw [h2]; exact⟨hv.1,h1⟩
 | .jJ,u,hv=>by simp only [VR,Ren.av] at *; exact hv
 | .qU cs,u,hv=>by
   simp only [VR,Ren.av] at *
   obtain⟨b,o,us,h1,h2,h3,h4,h5⟩:=hv
   exact⟨b,o,us,h1,by rw [← hro]; exact h2,bJ.back cs us h3,h4,h5⟩
 | .slice id off len c,u,hv=>by
   simp only [VR,Ren.av,ajE hl hsh hρ hid hro,Nat.zero_add] at *
   obtain⟨h1,a,cap,h2,h3,h4⟩:=hv
   exact⟨(hid id h1).1,a,cap,h2,h3,fJ.back hl hsh hρ hid hro h1 h4⟩
 | .aA,u,hv=>by simp only [VR,Ren.av] at *; exact hv
 | .ro cs n full,u,hv=>by
   simp only [VR,Ren.av] at *
   obtain⟨b,o,cap,us,h1,h2,h3,h4,h5,h6,h7⟩:=hv
   exact⟨b,o,cap,us,h1,h2,h3,by rw [← hro]; exact h4,bJ.back cs us h5,h6,h7⟩
 | .map id,u,hv=>by
   simp only [VR,Ren.av] at *
   obtain⟨h1,h2,_⟩:=hid id hv.2
   rw [h2]; exact⟨hv.1,h1⟩
 | .lW,u,hv=>by simp only [VR,Ren.av] at *; exact hv
 | .func fn fs cs,u,hv=>by
   simp only [VR,Ren.av] at *
   obtain⟨us,ws,h1,h2,h3⟩:=hv
   exact⟨us,ws,h1,bJ.back fs us h2,bJ.back cs ws h3⟩
 | .yU,u,hv=>by simp only [VR,Ren.av] at *; exact hv
 | .iface t x,u,hv=>by
   simp only [VR,Ren.av] at *
   obtain⟨y,h1,h2⟩:=hv
   exact⟨y,h1,VR.back x y h2⟩
 | .Es,u,hv=>by simp only [VR,Ren.av] at *; exact hv
 | .agg cs,u,hv=>by
   simp only [VR,Ren.av] at *
   obtain⟨us,h1,h2⟩:=hv
   exact⟨us,h1,bJ.back cs us h2⟩
 | .tuple cs,u,hv=>by
   simp only [VR,Ren.av] at *
   obtain⟨us,h1,h2⟩:=hv
   exact⟨us,h1,bJ.back cs us h2⟩
 | .opq _,u,hv=>by simp only [VR] at hv
 | .inp k ks,u,hv=>by
   simp only [VR,Ren.av] at *
   rw [hρ,Ren.oN hl (by omega),hro] at hv
   rcases hv with hv | ⟨b,o,n,cap,h1,h2,h3,h4,h5⟩
   ·exact .inl hv
   ·refine .inr ⟨b,o,n,cap,h1,h2,h3,h4,fun i j kd hi hj=>?_⟩
    have:=h5 i j kd hi hj
    first
     | exact this
     | (rw [Ren.oN hl (by omega)] at this; exact this)
     | (rw [hρ,Ren.oN hl (by omega)] at this; exact this)
 | .emp,u,hv=>by simp only [VR,Ren.av] at *; exact hv
 | .dat e t,u,hv=>by simp only [VR,Ren.av] at *; rw [Ren.dZ hl,← hρ,← hro]; exact hv
 | .lX e,u,hv=>by simp only [VR,Ren.av] at *; rw [Ren.dZ hl,← hρ,← hro]; exact hv
 | .uK id n t,u,hv=>by
   simp only [Ren.av,ajE hl hsh hρ hid hro]
   simp only [VR] at *
   obtain⟨h1,k,a,cap,h2,h3,h4,h5⟩:=hv
   exact⟨(hid id h1).1,k,a,cap,by rw [Ren.dZ hl,← hρ]; exact h2,h3,h4,fJ.back hl hsh hρ hid hro h1 h5⟩
 | .pY id es i off,u,hv=>by
   simp only [Ren.av,ajE hl hsh hρ hid hro]
   simp only [VR] at *
   obtain⟨h1,k,h2,h3⟩:=hv
   obtain⟨g1,g2,_⟩:=hid id h1
   exact⟨g1,k,by rw [Ren.dZ hl,← hρ]; exact h2,by rw [g2]; exact h3⟩
 | .any,u,_=>by simp only [VR,Ren.av]
 | .G9 z t,u,hv=>by simp only [VR,Ren.av] at *; rw [Ren.dZ hl,← hρ,← hro]; exact hv
 | .Ap id lo n t,u,hv=>by
   simp only [Ren.av,ajE hl hsh hρ hid hro]
   simp only [VR] at *
   obtain⟨h1,l,k,a,cap,h2,h3,h4,h5,h6⟩:=hv
   exact⟨(hid id h1).1,l,k,a,cap,by rw [Ren.dZ hl,← hρ]; exact h2,by rw [Ren.dZ hl,← hρ]; exact h3,h4,h5,fJ.back hl hsh hρ hid hro h1 h6⟩
theorem bJ.back: ∀(xs:List AV) (us:List Value),bJ Eo h xs us→bJ E2 h (r.JH xs) us
 | [],us,hv=>by simp only [bJ,Ren.JH] at *; exact hv
 | x :: xs,us,hv=>by
   simp only [bJ,Ren.JH] at *
   obtain⟨u,vs,h1,h2,h3⟩:=hv
   exact⟨u,vs,h1,VR.back x u h2,bJ.back xs vs h3⟩
end
theorem fA.back: ∀{es:List (AV×AV×Nat)} {ents:List MapEntry},fA Eo h es ents→fA E2 h (r.ents es) ents
 | [],_,hv=>by simp only [fA,Ren.ents] at *; exact hv
 | (k,v,b) :: es,ents,hv=>by
   simp only [fA,Ren.ents] at *
   obtain⟨e,rr,h1,h2,h3,h4,h5⟩:=hv
   exact⟨e,rr,h1,VR.back hl hsh hρ hid hro k _ h2,VR.back hl hsh hρ hid hro v _ h3,h4,fA.back h5⟩
theorem LV {i:Nat}: ∀{ov:List (SE×List AV)},dQ E2.ρ i (r.ovs ov)=(dQ Eo.ρ i ov).map r.JH
 | []=>rfl
 | (j,cs) :: l=>by
   simp only [dQ,Ren.ovs]
   rw [Ren.dZ hl,← hρ,LV]
   split <;> rfl
theorem DX {row:Row} {ov:List (SE×List AV)}: ∀(ds:List D) (i:Nat) {us:List Value},bJ Eo h (aK Eo.ρ row ov ds i) us→bJ E2 h (aK E2.ρ row (r.ovs ov) ds i) us
 | [],_,us,hv=>by simp only [aK,bJ] at *; exact hv
 | d :: ds,i,us,hv=>by
   simp only [aK] at *
   obtain⟨a,b,rfl,h1,h2⟩:=hv.split
   refine bJ.append ?_ (DX ds (i+1) h2)
   rw [LV hl hsh hρ hid hro]
   cases ho:dQ Eo.ρ i ov with
   | none=>
     rw [ho] at h1
     simp only [Option.map_none]
     rw [gV] at h1 ⊢
     rw [← hro]
     exact h1
   | some cs=>
     rw [ho] at h1
     exact bJ.back hl hsh hρ hid hro cs a h1
theorem PZ {row:Row}: ∀{ov:List (SE×List AV)},FB row ov→FB row (r.ovs ov)
 | [],h=>h
 | (i,cs) :: l,h=>by
   intro p hp
   simp only [Ren.ovs] at hp
   rcases List.mem_cons.1 hp with rfl | hp
   ·simp only [vH]; exact h (i,cs) (by simp)
   ·exact PZ (fun q hq=>h q (by simp [hq])) p hp
theorem OR.back {id:Nat} {o:dW} (hd:Eo.dm id) (ho:OR Eo h id o):OR E2 h (r.id id) (r.ob o):=by
 obtain⟨_,h2,h3⟩:=hid id hd
 cases o with
 | cells cs e=>
   simp only [OR,Ren.ob] at *
   obtain⟨arr,lo,hi,us,q1,q2,q3,q4,q5,q6,q7⟩:=ho
   rw [h2,h3]
   exact⟨arr,lo,hi,us,q1,bJ.back hl hsh hρ hid hro cs us q2,q3,by rw [vH]; exact q4,q5,q6,q7⟩
 | map es c=>
   simp only [OR,Ren.ob] at *
   obtain⟨ents,c',q1,q2⟩:=ho
   rw [h2]
   exact⟨ents,c',q1,fA.back hl hsh hρ hid hro q2⟩
 | nS s p=>simp only [OR,Ren.ob] at *; rw [h2]; exact ho
 | iR e t=>
   simp only [OR,Ren.ob] at *
   obtain⟨ents,c',q1,q2⟩:=ho
   have he:(r.se e).den E2.ρ=e.den Eo.ρ:=by rw [Ren.dZ hl,← hρ]
   rw [h2,he,← hro]
   exact⟨ents,c',q1,q2⟩
 | vec e t ty ov=>
   simp only [OR,Ren.ob] at *
   obtain⟨⟨q0,qw⟩,arr,lo,hi,us,q1,q2,q3,q4,q5,q6,q7⟩:=ho
   have he:(r.se e).den E2.ρ=e.den Eo.ρ:=by rw [Ren.dZ hl,← hρ]
   have q0':=PZ hl hsh hρ hid hro q0
   rw [h2,h3,he]
   refine⟨⟨q0',qw⟩,arr,lo,hi,us,q1,DX hl hsh hρ hid hro _ _ q2,q3,?_,q5,q6,q7⟩
   rw [bU q0']
   rw [bU q0] at q4
   exact q4
end
theorem Ej {r:Ren}: ∀{os:List dW} {i:Nat} {h:Hp},(∀a b,i≤a→a < i+os.length→i≤b→b < i+os.length→r.id a=r.id b→a=b)→
 (∀k o,os[k]?=some o→(mQ r os i h).get (r.id (i+k))=some (r.ob o))∧(∀id,(∀k,k < os.length→r.id (i+k)≠id)→(mQ r os i h).get id=h.get id)∧(mQ r os i h).next=h.next∧(mQ r os i h).res=h.res
 | [],i,h,_=> ⟨fun k o hk=>by simp at hk,fun _ _=>rfl,rfl,rfl⟩
 | o :: os,i,h,hinj=>by
   obtain⟨h1,h2,h3,h4⟩:=Ej (r:=r) (os:=os) (i:=i+1) (h:=h.put (r.id i) (r.ob o)) fun a b h1 h2 h3 h4=>hinj a b (by omega) (by simp only [List.length_cons]; omega) (by omega) (by simp only [List.length_cons]; omega)
   refine⟨fun k x hk=>?_,fun id hn=>?_,h3,h4⟩
   ·cases k with
    | zero=>
      simp at hk
      subst hk
      simp only [mQ]
      show (mQ r os (i+1) (h.put (r.id i) (r.ob o))).get (r.id i)=some (r.ob o)
      rw [h2 (r.id i) fun k hk he=>?_,Hp.get_put,if_pos rfl]
      have:=hinj (i+1+k) i (by omega) (by simp only [List.length_cons]; omega) (by omega) (by simp) he
      omega
    | succ k=>
      simp only [mQ]
      have:=h1 k x (by simpa using hk)
      rw [show i+(k+1)=i+1+k by omega]
      exact this
   ·simp only [mQ]
    rw [h2 id fun k hk=>?_,Hp.get_put,if_neg ?_]
    ·have:=hn 0 (by simp)
     rw [Nat.add_zero] at this
     exact fun q=>this q.symm
    ·have:=hn (k+1) (by simp only [List.length_cons]; omega)
     rw [show i+(k+1)=i+1+k by omega] at this
     exact this
theorem DT (c:CS) (s:St):(c.guess s).ns.length=c.k:=by
 unfold CS.guess
 split
 exact rG _ _ _
section
variable {P:Program}
def ayV (P:Program) (GB:(Nat→Prop)→Array Obj→Prop) (g:FuncId) (c:CS) (oH:List RK) (dY:List dW) (ko:Nat) (f:List Int→Option (List Int)):Prop:=
 ∀xs ys,f xs=some ys→∀(E:En) (w:World) (vals:List Value),(∀i x,xs[i]?=some x→E.ρ i=x)→xs.length=c.k→G5 E c.st { tmps:=vals.toArray,defers:=[] } w→GB E.ro w.heap→
  Calls P g vals.toArray w (QE ⟨w,E.ro,c.objs.length,E.θ,E.κ⟩ oH dY ko ys)
theorem alP [Glob] {GB:(Nat→Prop)→Array Obj→Prop} (hgb: ∀ρ ro h,Glob.ok ρ ro h→GB ro h) {F:Hf} (hgood: ∀ρ ro h,Glob.ok ρ ro h→Good F ρ) {g:FuncId} {j:Nat} {c:CS} {oH:List RK} {dY:List dW} {ko:Nat} (hlo:qI ko dY=true) (hko:ko≤900) (hom:dY.length=c.objs.length)
 (hs:ayV P GB g c oH dY ko (F j)) (hrun: ∀(args:Array Value) (w:World),(callFunc g args).run P w= .ok (.enter g args) w):mJ P g (alQ j c oH dY ko):=by
 intro aFG s E w vals v s' r hv hp hl
 unfold alQ at hl
 split at hl
 ·rename_i hcond
  simp only [Bool.and_eq_true] at hcond
  obtain⟨⟨_,hfit⟩,hns⟩:=hcond
  have hlen:=DT c ⟨bD aFG 0 .nil,s.h,s.pc⟩
  generalize hr:c.guess ⟨bD aFG 0 .nil,s.h,s.pc⟩ = rn at hl hfit hns hlen
  have f0:Fit E ⟨bD aFG 0 .nil,s.h,s.pc⟩ { tmps:=vals.toArray,defers:=[] } w:=by
   refine⟨r,?_,hp⟩
   have:=FU hv 0
   simpa using this
  obtain⟨hle,f1,ho⟩:=F8 Yq f0 hfit
  obtain⟨pc1,hp1,q1⟩:=cO hp hl
  split at q1
  ·rename_i ht
   have hg:=hgood _ _ _ r.glob
   have hg1:=(hg j (rn.ns.map (SE.den E.ρ))).1
   have hg2:=(hg j (rn.ns.map (SE.den E.ρ))).2
   simp only [SB.den,SE.den,kZ,hg1,beq_iff_eq] at ht
   have hsome:(F j (rn.ns.map (SE.den E.ρ))).isSome=true:=by
    cases hh:(F j (rn.ns.map (SE.den E.ρ))).isSome with
    | true=>rfl
    | false=>rw [hh] at ht; simp at ht
   obtain⟨ys,hys⟩:=Option.isSome_iff_exists.1 hsome
   have hrd:(SE.ap (2*j+1) (iG rn.ns)).den E.ρ=pX ys:=by
    show E.ρ _=_
    rw [kZ,hg2,hys]
    rfl
   have:=aF q1
   simp only [Prod.mk.injEq] at this
   obtain⟨rfl,rfl⟩:=this
   refine⟨rfl,hp1,?_⟩
   unfold tC sZ
   rw [hrun]
   have hxs: ∀i x,(rn.ns.map (SE.den E.ρ))[i]?=some x→(E.ren rn).ρ i=x:=by
    intro i x hi
    rw [List.getElem?_map,Option.map_eq_some_iff] at hi
    obtain⟨e,he,rfl⟩:=hi
    show rn.env E.ρ i=_
    unfold Ren.env
    rw [dB,he]
   refine Calls.mono (hs _ ys hys (E.ren rn) w vals hxs (by simpa using hlen) f1.x (hgb _ _ _ f1.rel.glob)) fun e w' ⟨u,he,hb,ro',k1,k2,k3,k4,k5,k6⟩=> ⟨u,he,?_⟩
   have zB:=hfit
   unfold CS.fits at zB
   simp only [Bool.and_eq_true] at zB
   obtain⟨⟨⟨⟨⟨_,hbl⟩,hdis⟩,_⟩,aAF⟩,_⟩:=zB
   have hbl:=Nat.eq_of_beq_eq_true hbl
   have V7: ∀i,rn.Ar i=0:=by
    intro i
    unfold Ren.Ar
    split
    ·rename_i x hx
     rw [dB] at hx
     unfold P9 at hns
     rw [List.all_eq_true] at hns
     exact Nat.eq_of_beq_eq_true (hns x (List.mem_of_getElem? hx))
    ·rfl
   have JD: ∀i,i < c.objs.length→∃o,s.h.get (rn.id i)=some o:=by
    intro i hi
    obtain⟨o',g1,_⟩:=lF aAF (List.getElem?_eq_getElem hi)
    rw [Nat.zero_add] at g1
    exact⟨o',g1⟩
   have hinj: ∀a b,a < c.objs.length→b < c.objs.length→rn.id a=rn.id b→a=b:=by
    intro a b ha hb he
    have hla:a < rn.bl.length:=by omega
    have hlb:b < rn.bl.length:=by omega
    unfold Ren.id at he
    rw [dB,dB,List.getElem?_eq_getElem hla,List.getElem?_eq_getElem hlb] at he
    simp only at he
    exact tN hdis (i:=a) (j:=b) (x:=rn.bl[a]) (by rw [dB,List.getElem?_eq_getElem hla]) (by rw [dB,List.getElem?_eq_getElem hlb,he])
   generalize hR:(⟨aaW (.ap (2*j+1) (iG rn.ns)) ko,rn.bl,[]⟩ : Ren)=R
   have Ua: ∀i,R.id i=rn.id i:=by intro i; rw [← hR]; rfl
   have hRl:R.ns.length=ko:=by rw [← hR]; simp [aaW]
   obtain⟨p1,p2,p3,p4⟩:=Ej (r:=R) (os:=dY) (i:=0) (h:=s.h) fun a b _ h2 _ h4 he=>by
    rw [Ua,Ua] at he
    exact hinj a b (by omega) (by omega) he
   have hfp: ∀b,(qN.mk w (E.ren rn).ro c.objs.length (E.ren rn).θ (E.ren rn).κ).fp b→∃id o,s.h.get id=some o∧(E.θ id).1=b:=by
    rintro b ⟨i,hi,he⟩
    obtain⟨o,h1⟩:=JD i hi
    exact⟨_,o,h1,he⟩
   have asX: ∀b,E.ro b→w'.heap[b]?=w.heap[b]?:=by
    intro b hbr
    refine hb.blk b (r.AZ b hbr) fun hf=>?_
    obtain⟨id,o,h1,h2⟩:=hfp b hf
    exact (r.live id o h1).2.2 (by rw [h2]; exact hbr)
   have hkeep:Keeps E w.heap { E with ro:=ro' } w'.heap:=⟨rfl,fun _ h=>h,fun _ _=>rfl,fun _ _=>rfl,k1,asX⟩
   have YK: ∀id o,(mQ R dY 0 s.h).get id=some o→∃o',s.h.get id=some o':=by
    intro id o hg
    by_cases hex: ∃k,k < dY.length∧R.id (0+k)=id
    ·obtain⟨k,hk,rfl⟩:=hex
     rw [Nat.zero_add,Ua]
     exact JD k (by omega)
    ·rw [p2 id fun k hk he=>hex ⟨k,hk,he⟩] at hg
     exact⟨o,hg⟩
   have st2:Stp E s.h w { E with ro:=ro' } (mQ R dY 0 s.h) w':=by
    refine⟨rfl,fun _ h=>h,fun _ _=>rfl,fun _ _=>rfl,k1,fun b hbr=>(k2 b hbr).imp id .inr,by rw [p3]; exact Nat.le_refl _,by rw [p4]; exact .inr rfl,fun _ h=> .inl h,hb.os,hb.tape,hb.output,hb.size,fun b hbl hn=>hb.blk b hbl fun hf=>?_,fun id o hg _=>?_⟩
    ·obtain⟨id,o,h1,h2⟩:=hfp b hf
     exact hn id o h1 h2
    ·obtain⟨o',h1⟩:=YK id o hg
     exact⟨id,o',h1,rfl⟩
   have acC: ∀i,i < ko→R.env E.ρ i=low ys i:=by
    intro i hi
    unfold Ren.env low
    have hn:gI R.ns i=some (sU (.ap (2*j+1) (iG rn.ns)) i):=by
     rw [← hR,dB]
     simp [aaW,hi]
    rw [hn]
    simp only
    rw [List.getD_eq_getElem?_getD]
    simp only [sU,SE.den,aG.den,aC]
    have aDf:(SE.ap (2*j+1) (iG rn.ns)).den E.ρ=pX ys:=hrd
    simp only [SE.den] at aDf
    rw [aDf]
    simp only [pX,aC,D.hd,aX,List.getElem?_map]
    cases ys[i]? <;> rfl
   have r2:bG { E with ro:=ro' } (mQ R dY 0 s.h) w':=by
    refine⟨fun id hid=>r.fresh id (by rw [← p3]; exact hid),fun q hq=>by rw [p3]; exact r.res q (by rw [← p4]; exact hq),fun id o hg=>?_,fun i1 i2 o1 o2 h1 h2 he=>?_,k3,Glob.keep r.glob k1 asX⟩
    ·by_cases hex: ∃k,k < dY.length∧R.id (0+k)=id
     ·obtain⟨k,hk,rfl⟩:=hex
      rw [Nat.zero_add]
      have hx:=List.getElem?_eq_getElem hk
      have:=p1 k _ hx
      rw [hg] at this
      simp only [Option.some.injEq] at this
      subst this
      obtain⟨o',h1⟩:=JD k (by omega)
      obtain⟨d1,d2,d3⟩:=r.live _ _ h1
      refine⟨by rw [Ua]; exact d1,?_,?_⟩
      ·have ho2:=k5 k _ hx
       have ho3:=OR.low (K:=ko) (E:=(qN.mk w (E.ren rn).ro c.objs.length (E.ren rn).θ (E.ren rn).κ).out ys ro') (E':={ ρ:=R.env E.ρ,θ:=(E.ren rn).θ,κ:=(E.ren rn).κ,dm:=fun i=>i < c.objs.length,ro:=ro' })
        (fun i hi=>acC i hi) rfl rfl rfl rfl (yT hlo hx) ho2
       refine OR.back (Eo:={ ρ:=R.env E.ρ,θ:=(E.ren rn).θ,κ:=(E.ren rn).κ,dm:=fun i=>i < c.objs.length,ro:=ro' }) (E2:={ E with ro:=ro' }) (r:=R) (by rw [hRl]; exact hko) (by rw [← hR]) rfl (fun i hi=>?_) rfl (show k < c.objs.length by omega) ho3
       obtain⟨o2,h2⟩:=JD i hi
       refine⟨by rw [Ua]; exact (r.live _ _ h2).1,?_,?_⟩
       ·show E.θ (R.id i)=((E.θ (rn.id i)).1,(E.θ (rn.id i)).2+rn.Ar i)
        rw [Ua,V7,Nat.add_zero]
       ·show E.κ (R.id i)=E.κ (rn.id i) - rn.Ar i
        rw [Ua,V7,Nat.sub_zero]
      ·rw [Ua]
       exact k4 k (by show k < c.objs.length; omega)
     ·rw [p2 id fun k hk he=>hex ⟨k,hk,he⟩] at hg
      obtain⟨d1,d2,d3⟩:=r.live id o hg
      have hblk:w'.heap[(E.θ id).1]?=w.heap[(E.θ id).1]?:=by
       refine hb.blk _ (jE r hg) ?_
       rintro⟨i,hi,he⟩
       obtain⟨o',h1⟩:=JD i hi
       have:=r.inj _ id o' o h1 hg he
       exact hex ⟨i,by show i < dY.length; rw [hom]; exact hi,by rw [Nat.zero_add,Ua]; exact this⟩
      refine⟨d1,d2.keep hkeep d1 hblk,fun hr=>?_⟩
      rcases k2 _ hr with hr | hr
      ·exact d3 hr
      ·have hlt:(E.θ id).1 < w.heap.size:=jE r hg
       have hge:w.heap.size≤(E.θ id).1:=hr
       omega
    ·obtain⟨a1,b1⟩:=YK _ _ h1
     obtain⟨a2,b2⟩:=YK _ _ h2
     exact r.inj _ _ _ _ b1 b2 he
   refine⟨{ E with ro:=ro' },st2,r2,?_⟩
   obtain⟨us,fl',sh',c1,rfl⟩:=k6
   have hvr:bJ { E with ro:=ro' } w'.heap (uU oH (sU (.ap (2*j+1) (iG rn.ns))) ko) us:=by
    refine xO sh' c1 fun k n hk=>?_
    rw [List.getElem?_drop] at hk
    exact CB (ys:=ys) hrd hk
   have:=JV hvr
   unfold resV at this
   exact this
  ·simp [T.leaf] at q1
 ·simp [T.leaf] at hl
theorem Jk (s:St): ∀(gh:List (Nat×Nat)) (ns:List SE),(amD s gh ns).length=ns.length
 | [],_=>rfl
 | _ :: _,[]=>rfl
 | (t,c) :: l,_ :: ns=>by simp only [amD,List.length_cons,Jk s l ns]
theorem amB {g n:SE} {ρ:Nat→Int} {s:St} {k:St→T (AV×St)} {r:AV×St} (hp:bI ρ s.pc) (h:(amC g n s k).leaf ρ=some r): ∃pc,bI ρ pc∧(k { s with pc:=pc }).leaf ρ=some r:=by
 unfold amC at h
 obtain⟨pc1,hp1,h1⟩:=cO hp h
 split at h1
 ·exact⟨pc1,hp1,h1⟩
 ·obtain⟨pc2,hp2,h2⟩:=cO (s:={ s with pc:=pc1 }) hp1 h1
  split at h2
  ·simp [T.leaf] at h2
  ·exact⟨pc2,hp2,h2⟩
theorem aAK {q:SE} {jS:Nat} {ns:List SE} {g:Option SE} {c:CS} {bl:List Nat} {ρ:Nat→Int} {s:St} {k:St→T (AV×St)} {r:AV×St} (hp:bI ρ s.pc) (h:(ghT q jS ns g c bl s k).leaf ρ=some r): ∃pc,bI ρ pc∧(k { s with pc:=pc }).leaf ρ=some r:=by
 unfold ghT at h
 split at h
 ·exact⟨s.pc,hp,h⟩
 ·split at h
  ·exact⟨s.pc,hp,h⟩
  ·split at h
   ·exact⟨s.pc,hp,h⟩
   ·split at h
    ·exact amB hp h
    ·exact⟨s.pc,hp,h⟩
theorem adM {q:SE} {jS:Nat} {ns:List SE} {g:Option SE} {bl:List Nat} {ρ:Nat→Int} {v:AV} {s':St}: ∀{l:List CS} {k:Nat} {s:St},bI ρ s.pc→(aqF q jS ns g bl l k s).leaf ρ=some (v,s')→
 ∃i c pc',l[i - k]?=some c∧k≤i∧(sU q 0).den ρ=(i:Int)∧bI ρ pc'∧v=resV ((wP q jS ns c bl s).JH (c.slots.map fun p=>p.2))∧s'= { s with h:=⟨(mQ (wP q jS ns c bl s) c.objs 0 s.h).m,s.h.next+(c.objs.length - bl.length),s.h.res⟩,pc:=pc' }
 | [],k,s,_,h=>by simp [aqF,T.leaf] at h
 | c :: l,k,s,hp,h=>by
   simp only [aqF] at h
   obtain⟨pc',hp',h1⟩:=cO hp h
   split at h1
   ·rename_i hb
    rw [lN,beq_iff_eq] at hb
    obtain⟨pc2,hp2,h2⟩:=aAK (s:={ s with pc:=pc' }) hp' h1
    have:=aF h2
    simp only [Prod.mk.injEq] at this
    exact⟨k,c,pc2,by simp,Nat.le_refl _,hb,hp2,this.1.symm,this.2.symm⟩
   ·obtain⟨i,c',pc2,q1,q2,q3,q4,q5,q6⟩:=adM (s:={ s with pc:=pc' }) hp' h1
    refine⟨i,c',pc2,?_,by omega,q3,q4,q5,q6⟩
    rw [show i - k=(i - (k+1))+1 by omega,List.getElem?_cons_succ]
    exact q1
def Ez:List (Nat×AV)→Nat→Bool
 | [],_=>true
 | (t,_) :: l,i=>Nat.beq t i && Ez l (i+1)
theorem IZ: ∀{l:List (Nat×AV)} {i t:Nat} {tr:Tr AV},Ez l i=true→t < i→(rE l tr).get t=tr.get t
 | [],_,_,_,_,_=>rfl
 | (j,v) :: l,i,t,tr,h,ht=>by
   simp only [Ez,Bool.and_eq_true] at h
   have hj:=Nat.eq_of_beq_eq_true h.1
   simp only [rE]
   rw [IZ h.2 (by omega),Tr.get_put,if_neg (by omega)]
theorem Fb: ∀{l:List (Nat×AV)} {i:Nat} {tr:Tr AV},Ez l i=true→∀k v,(l.map fun p=>p.2)[k]?=some v→(rE l tr).get (i+k)=some v
 | [],_,_,_,k,v,hk=>by simp at hk
 | (j,x) :: l,i,tr,h,k,v,hk=>by
   simp only [Ez,Bool.and_eq_true] at h
   have hj:=Nat.eq_of_beq_eq_true h.1
   subst hj
   simp only [rE]
   cases k with
   | zero=>
     simp only [List.map_cons,List.getElem?_cons_zero,Option.some.injEq] at hk
     subst hk
     rw [Nat.add_zero,IZ h.2 (by omega),Tr.get_put,if_pos rfl]
   | succ k=>
     have:=Fb (tr:=tr.put j (some x)) h.2 k v (by simpa using hk)
     rw [show j+(k+1)=j+1+k by omega]
     exact this
theorem bJ.of {E:En} {h:Array Obj}: ∀{vs:List AV} {us:List Value},us.length=vs.length→(∀(k:Nat) (v:AV),vs[k]?=some v→∃u,us[k]?=some u∧VR E h v u)→bJ E h vs us
 | [],us,hl,_=>by rw [kG]; exact List.eq_nil_of_length_eq_zero hl
 | v :: vs,[],hl,_=>by simp at hl
 | v :: vs,u :: us,hl,hh=>by
   rw [aW]
   refine⟨u,us,rfl,?_,bJ.of (by simpa using hl) fun k x hk=>?_⟩
   ·obtain⟨y,h1,h2⟩:=hh 0 v rfl
    simp at h1
    subst h1
    exact h2
   ·exact hh (k+1) x (by simpa using hk)
def ayU (P:Program) (GB:(Nat→Prop)→Array Obj→Prop) (g:FuncId) (c:CS) (vK:List CS) (f:List Int→Option (List Int)):Prop:=
 ∀xs ys,f xs=some ys→∀(E:En) (w:World) (vals:List Value),(∀i x,xs[i]?=some x→E.ρ i=x)→xs.length=c.k→G5 E c.st { tmps:=vals.toArray,defers:=[] } w→GB E.ro w.heap→
  Calls P g vals.toArray w (QR ⟨w,E.ro,c.objs.length,E.θ,E.κ⟩ vK ys)
def Px:List CS→Bool
 | []=>true
 | c :: l=>BL c.k c && Ez c.slots 0 && Nat.ble c.k 900 && Px l
theorem Pv: ∀{l:List CS},Px l=true→∀{i:Nat} {c:CS},l[i]?=some c→BL c.k c=true∧Ez c.slots 0=true∧c.k≤900
 | [],_,i,c,h=>by simp at h
 | c0 :: l,hs,i,c,h=>by
   simp only [Px,Bool.and_eq_true] at hs
   cases i with
   | zero=>simp at h; subst h; exact⟨hs.1.1.1,hs.1.1.2,Nat.le_of_ble_eq_true hs.1.2⟩
   | succ i=>exact Pv hs.2 (by simpa using h)
theorem alN [Glob] {GB:(Nat→Prop)→Array Obj→Prop} (hgb: ∀ρ ro h,Glob.ok ρ ro h→GB ro h) {F:Hf} (hgood: ∀ρ ro h,Glob.ok ρ ro h→Good F ρ) {g:FuncId} {j:Nat} {c:CS} {gh:List (Nat×Nat)} {jS:Nat} {vK:List CS} (hrp:Px vK=true) (hgat: ∀xs ys,F j xs=some ys→∀a y,a < jS→ys[a+1]?=some y→y=low xs a)
 (hs:ayU P GB g c vK (F j)) (hrun: ∀(args:Array Value) (w:World),(callFunc g args).run P w= .ok (.enter g args) w):mJ P g (alO j jS c gh vK):=by
 intro aFG s E w vals v s' r hv hp hl
 unfold alO at hl
 split at hl
 ·rename_i hcond
  simp only [Bool.and_eq_true] at hcond
  obtain⟨⟨_,hfit⟩,hns⟩:=hcond
  have hlen:=DT c ⟨bD aFG 0 .nil,s.h,s.pc⟩
  have hlen2:(ghR s gh (c.guess ⟨bD aFG 0 .nil,s.h,s.pc⟩)).ns.length=c.k:=by
   show (amD s gh _).length=c.k
   rw [Jk,hlen]
  generalize hr:ghR s gh (c.guess ⟨bD aFG 0 .nil,s.h,s.pc⟩)=rn at hl hfit hlen2 hns
  have f0:Fit E ⟨bD aFG 0 .nil,s.h,s.pc⟩ { tmps:=vals.toArray,defers:=[] } w:=by
   refine⟨r,?_,hp⟩
   have:=FU hv 0
   simpa using this
  obtain⟨hle,f1,ho⟩:=F8 Yq f0 hfit
  obtain⟨pc1,hp1,q1⟩:=cO hp hl
  split at q1
  ·rename_i ht
   have hg:=hgood _ _ _ r.glob
   have hg1:=(hg j (rn.ns.map (SE.den E.ρ))).1
   have hg2:=(hg j (rn.ns.map (SE.den E.ρ))).2
   simp only [SB.den,SE.den,kZ,hg1,beq_iff_eq] at ht
   have hsome:(F j (rn.ns.map (SE.den E.ρ))).isSome=true:=by
    cases hh:(F j (rn.ns.map (SE.den E.ρ))).isSome with
    | true=>rfl
    | false=>rw [hh] at ht; simp at ht
   obtain⟨ys,hys⟩:=Option.isSome_iff_exists.1 hsome
   have hrd:(SE.ap (2*j+1) (iG rn.ns)).den E.ρ=pX ys:=by
    show E.ρ _=_
    rw [kZ,hg2,hys]
    rfl
   obtain⟨i,c',pc2,a1,_,a3,a4,rfl,rfl⟩:=adM (s:={ s with pc:=pc1 }) hp1 q1
   rw [Nat.sub_zero] at a1
   refine⟨rfl,a4,?_⟩
   unfold tC sZ
   rw [hrun]
   have hxs: ∀i x,(rn.ns.map (SE.den E.ρ))[i]?=some x→(E.ren rn).ρ i=x:=by
    intro i x hi
    rw [List.getElem?_map,Option.map_eq_some_iff] at hi
    obtain⟨e,he,rfl⟩:=hi
    show rn.env E.ρ i=_
    unfold Ren.env
    rw [dB,he]
   refine Calls.mono (hs _ ys hys (E.ren rn) w vals hxs (by simpa using hlen2) f1.x (hgb _ _ _ f1.rel.glob)) fun e w' ⟨us,i2,c2,E',he,hb,b1,b2,b3,b4,b5,b6,b7,b8,avH,b9⟩=> ⟨aeE us,he,?_⟩
   have hi:i2=i:=by
    have:=CB hrd b2
    rw [a3] at this
    omega
   subst hi
   rw [b1] at a1
   simp only [Option.some.injEq] at a1
   subst a1
   obtain⟨k1,k2,k3⟩:=Pv hrp b1
   have zB:=hfit
   unfold CS.fits at zB
   simp only [Bool.and_eq_true] at zB
   obtain⟨⟨⟨⟨⟨_,hbl⟩,hdis⟩,_⟩,aAF⟩,_⟩:=zB
   have hbl:=Nat.eq_of_beq_eq_true hbl
   have V7: ∀i,rn.Ar i=0:=by
    intro i
    unfold Ren.Ar
    split
    ·rename_i x hx
     rw [dB] at hx
     unfold P9 at hns
     rw [List.all_eq_true] at hns
     exact Nat.eq_of_beq_eq_true (hns x (List.mem_of_getElem? hx))
    ·rfl
   have JD: ∀i,i < c.objs.length→∃o,s.h.get (rn.id i)=some o:=by
    intro i hi
    obtain⟨o',g1,_⟩:=lF aAF (List.getElem?_eq_getElem hi)
    rw [Nat.zero_add] at g1
    exact⟨o',g1⟩
   have hinj: ∀a b,a < c.objs.length→b < c.objs.length→rn.id a=rn.id b→a=b:=by
    intro a b ha hb he
    have hla:a < rn.bl.length:=by omega
    have hlb:b < rn.bl.length:=by omega
    unfold Ren.id at he
    rw [dB,dB,List.getElem?_eq_getElem hla,List.getElem?_eq_getElem hlb] at he
    simp only at he
    exact tN hdis (i:=a) (j:=b) (x:=rn.bl[a]) (by rw [dB,List.getElem?_eq_getElem hla]) (by rw [dB,List.getElem?_eq_getElem hlb,he])
   have MZ: ∀id,E.dm id→id < s.h.next:=by
    intro id hd
    rcases Nat.lt_or_ge id s.h.next with h | h
    ·exact h
    ·exact absurd hd (r.fresh id h)
   have Wh: ∀i,i < c.objs.length→rn.id i < s.h.next:=by
    intro i hi
    obtain⟨o,h1⟩:=JD i hi
    exact MZ _ (r.live _ _ h1).1
   have hθr: ∀i,(E.ren rn).θ i=E.θ (rn.id i):=by
    intro i
    show ((E.θ (rn.id i)).1,(E.θ (rn.id i)).2+rn.Ar i)=_
    rw [V7,Nat.add_zero]
   have hκr: ∀i,(E.ren rn).κ i=E.κ (rn.id i):=by
    intro i
    show E.κ (rn.id i) - rn.Ar i=_
    rw [V7,Nat.sub_zero]
   have hm2:c.objs.length≤c2.objs.length:=by
    rcases Nat.eq_zero_or_pos c.objs.length with h | h
    ·omega
    ·have:=(avH (c.objs.length - 1) (by show c.objs.length - 1 < c.objs.length; omega)).1
     omega
   have hfp: ∀b,(qN.mk w (E.ren rn).ro c.objs.length (E.ren rn).θ (E.ren rn).κ).fp b→∃id o,s.h.get id=some o∧(E.θ id).1=b:=by
    rintro b ⟨i,hi,he⟩
    obtain⟨o,h1⟩:=JD i hi
    refine⟨_,o,h1,?_⟩
    have he':((E.ren rn).θ i).1=b:=he
    rw [hθr] at he'
    exact he'
   have asX: ∀b,E.ro b→w'.heap[b]?=w.heap[b]?:=by
    intro b hbr
    refine hb.blk b (r.AZ b hbr) fun hf=>?_
    obtain⟨id,o,h1,h2⟩:=hfp b hf
    exact (r.live id o h1).2.2 (by rw [h2]; exact hbr)
   generalize hR:wP (.ap (2*j+1) (iG rn.ns)) jS rn.ns c2 rn.bl { s with pc:=pc1 }=R
   have OM: ∀i,i < c.objs.length→R.id i=rn.id i:=by
    intro i hi
    have hla:i < rn.bl.length:=by omega
    rw [← hR]
    unfold wP Ren.id
    simp only [dB,List.getElem?_map,List.getElem?_range (show i < c2.objs.length by omega),Option.map_some,List.getElem?_eq_getElem hla]
   have YN: ∀i,i < c2.objs.length→c.objs.length≤i→R.id i=s.h.next+(i - c.objs.length):=by
    intro i hi hge
    have hla:rn.bl.length≤i:=by omega
    rw [← hR]
    unfold wP Ren.id
    simp only [dB,List.getElem?_map,List.getElem?_range hi,Option.map_some,List.getElem?_eq_none hla]
    rw [hbl]
   have aDo: ∀a b,a < c2.objs.length→b < c2.objs.length→R.id a=R.id b→a=b:=by
    intro a b ha hb he
    rcases Nat.lt_or_ge a c.objs.length with h1 | h1 <;> rcases Nat.lt_or_ge b c.objs.length with h2 | h2
    ·rw [OM a h1,OM b h2] at he
     exact hinj a b h1 h2 he
    ·rw [OM a h1,YN b hb h2] at he
     have:=Wh a h1
     omega
    ·rw [YN a ha h1,OM b h2] at he
     have:=Wh b h2
     omega
    ·rw [YN a ha h1,YN b hb h2] at he
     omega
   have hRl:R.ns.length=c2.k:=by rw [← hR]; simp [wP]
   have aDn:R.sh= []:=by rw [← hR]; rfl
   have acC: ∀a,a < c2.k→R.env E.ρ a=E'.ρ a:=by
    intro a ha
    unfold Ren.env
    have hn:gI R.ns a=some (match Nat.blt a jS with | true=>(match gI rn.ns a with | some e=>e | none=> .lit 0) | false=>sU (.ap (2*j+1) (iG rn.ns)) (a+1)):=by
     rw [← hR,dB]
     simp [wP,ha]
    rw [hn]
    simp only
    have hy:ys[a+1]?=some ys[a+1]:=List.getElem?_eq_getElem (by omega)
    rw [b4 a _ hy]
    split
    ·rename_i hb
     have hlt:a < jS:=Nat.lt_of_succ_le (by simpa [Nat.blt] using hb)
     rw [hgat _ _ hys a _ hlt hy]
     unfold low
     rw [List.getD_eq_getElem?_getD,List.getElem?_map,dB]
     cases rn.ns[a]? <;> rfl
    ·exact CB hrd hy
   have aE4: ∀id o,c2.st.h.get id=some o→id < c2.objs.length∧c2.objs[id]?=some o:=by
    intro id o ho
    have:(uT c2.objs 0 .nil).get id=some o:=ho
    rw [mW] at this
    split at this
    ·exact⟨by omega,this⟩
    ·simp [Tr.get] at this
   have MX: ∀id o,c2.objs[id]?=some o→c2.st.h.get id=some o:=by
    intro id o ho
    show (uT c2.objs 0 .nil).get id=_
    have hlt:=(List.getElem?_eq_some_iff.1 ho).1
    rw [mW,if_pos (by omega)]
    exact ho
   have aDh: ∀i,E'.dm i→i < c2.objs.length:=by
    intro i hd
    rcases Nat.lt_or_ge i c2.objs.length with h | h
    ·exact h
    ·exact absurd hd (b6.fresh i h)
   obtain⟨p1,p2,p3,p4⟩:=Ej (r:=R) (os:=c2.objs) (i:=0) (h:=s.h) fun a b _ h2 _ h4 he=>aDo a b (by omega) (by omega) he
   generalize hH2:(⟨(mQ R c2.objs 0 s.h).m,s.h.next+(c2.objs.length - rn.bl.length),s.h.res⟩ : Hp)=H2
   have aDq: ∀id,H2.get id=(mQ R c2.objs 0 s.h).get id:=by intro id; rw [← hH2]; rfl
   have atB:H2.next=s.h.next+(c2.objs.length - c.objs.length):=by rw [← hH2,hbl]
   have aDp:H2.res=s.h.res:=by rw [← hH2]
   have hnew: ∀k o,c2.objs[k]?=some o→H2.get (R.id k)=some (R.ob o):=by
    intro k o hk
    have:=p1 k o hk
    rw [Nat.zero_add] at this
    rw [aDq]; exact this
   have hold: ∀id,(∀k,k < c2.objs.length→R.id k≠id)→H2.get id=s.h.get id:=by
    intro id hid
    rw [aDq]
    exact p2 id fun k hk he=>by rw [Nat.zero_add] at he; exact hid k hk he
   have hcase: ∀id o,H2.get id=some o→(∃k o',id=R.id k∧c2.objs[k]?=some o'∧o=R.ob o')∨(s.h.get id=some o∧∀k,k < c2.objs.length→R.id k≠id):=by
    intro id o hg
    by_cases hex: ∃k,k < c2.objs.length∧R.id k=id
    ·obtain⟨k,hk,rfl⟩:=hex
     have hx:=List.getElem?_eq_getElem hk
     have:=hnew k _ hx
     rw [hg] at this
     simp only [Option.some.injEq] at this
     exact .inl ⟨k,_,rfl,hx,this⟩
    ·have hne: ∀k,k < c2.objs.length→R.id k≠id:=fun k hk he=>hex ⟨k,hk,he⟩
     rw [hold id hne] at hg
     exact .inr ⟨hg,hne⟩
   let E2:En:={ ρ:=E.ρ,θ:=fun id=>if id < s.h.next then E.θ id else E'.θ (id - s.h.next+c.objs.length),κ:=fun id=>if id < s.h.next then E.κ id else E'.κ (id - s.h.next+c.objs.length),dm:=fun id=>E.dm id∨(s.h.next≤id∧id < s.h.next+(c2.objs.length - c.objs.length)),ro:=E'.ro }
   have hθo: ∀id,id < s.h.next→E2.θ id=E.θ id:=fun id h=>by show (if id < s.h.next then _ else _)=_; rw [if_pos h]
   have hκo: ∀id,id < s.h.next→E2.κ id=E.κ id:=fun id h=>by show (if id < s.h.next then _ else _)=_; rw [if_pos h]
   have hθn: ∀k,k < c2.objs.length→E2.θ (R.id k)=E'.θ k:=by
    intro k hk
    rcases Nat.lt_or_ge k c.objs.length with h | h
    ·rw [OM k h,hθo _ (Wh k h),← hθr,(avH k h).2.2.1]
    ·rw [YN k hk h]
     show (if s.h.next+(k - c.objs.length) < s.h.next then _ else _)=_
     rw [if_neg (by omega),Nat.add_sub_cancel_left,Nat.sub_add_cancel h]
   have hκn: ∀k,k < c2.objs.length→E2.κ (R.id k)=E'.κ k:=by
    intro k hk
    rcases Nat.lt_or_ge k c.objs.length with h | h
    ·rw [OM k h,hκo _ (Wh k h),← hκr,(avH k h).2.2.2]
    ·rw [YN k hk h]
     show (if s.h.next+(k - c.objs.length) < s.h.next then _ else _)=_
     rw [if_neg (by omega),Nat.add_sub_cancel_left,Nat.sub_add_cancel h]
   have aDj: ∀k,k < c2.objs.length→E2.dm (R.id k):=by
    intro k hk
    rcases Nat.lt_or_ge k c.objs.length with h | h
    ·obtain⟨o,h1⟩:=JD k h
     rw [OM k h]
     exact .inl (r.live _ _ h1).1
    ·rw [YN k hk h]
     exact .inr ⟨by omega,by omega⟩
   have hkeep:Keeps E w.heap E2 w'.heap:=⟨rfl,fun _ h=> .inl h,fun id h=>hθo id (MZ id h),fun id h=>hκo id (MZ id h),b7,asX⟩
   have alW: ∀i,E'.dm i→E2.dm (R.id i)∧E2.θ (R.id i)=E'.θ i∧E2.κ (R.id i)=E'.κ i:=by
    intro i hd
    have hi:=aDh i hd
    exact⟨aDj i hi,hθn i hi,hκn i hi⟩
   unfold BL at k1
   simp only [Bool.and_eq_true] at k1
   obtain⟨⟨ks,ko⟩,_⟩:=k1
   have st2:Stp E s.h w E2 H2 w':=by
    refine⟨rfl,fun _ h=> .inl h,fun id h=>hθo id (MZ id h),fun id h=>hκo id (MZ id h),b7,fun b hbr=>(b8 b hbr).imp id .inr,by rw [atB]; omega,by rw [aDp]; exact .inr rfl,fun id h=>?_,hb.os,hb.tape,hb.output,hb.size,fun b aAI hn=>hb.blk b aAI fun hf=>?_,fun id o hg hlt=>?_⟩
    ·rcases h with h | h
     ·exact .inl h
     ·exact .inr (.inl ⟨h.1,by rw [atB]; exact h.2⟩)
    ·obtain⟨id,o,h1,h2⟩:=hfp b hf
     exact hn id o h1 h2
    ·rcases hcase id o hg with ⟨k,o',rfl,hk,_⟩ | ⟨h1,_⟩
     ·have hkl:=(List.getElem?_eq_some_iff.1 hk).1
      rcases Nat.lt_or_ge k c.objs.length with h | h
      ·obtain⟨o2,h2⟩:=JD k h
       exact⟨_,o2,h2,by rw [OM k h,hθo _ (Wh k h)]⟩
      ·rw [hθn k hkl] at hlt
       have hh:w.heap.size≤(E'.θ k).1:=b9 k o' (MX k o' hk) h
       omega
     ·exact⟨id,o,h1,(by rw [hθo id (MZ id (r.live _ _ h1).1)])⟩
   have r2:bG E2 H2 w':=by
    refine⟨fun id hid=>?_,fun q hq=>?_,fun id o hg=>?_,fun i1 i2 o1 o2 h1 h2 he=>?_,b6.AZ,Glob.keep r.glob b7 hkeep.Lu⟩
    ·rw [atB] at hid
     rintro (h | h)
     ·exact r.fresh id (by omega) h
     ·omega
    ·rw [aDp] at hq
     obtain⟨g1,g2⟩:=r.res q hq
     refine⟨by rw [atB]; omega,?_⟩
     rintro (h | h)
     ·exact g2 h
     ·omega
    ·rcases hcase id o hg with ⟨k,o',rfl,hk,rfl⟩ | ⟨h2,hne⟩
     ·have hkl:=(List.getElem?_eq_some_iff.1 hk).1
      obtain⟨g1,g2,g3⟩:=b6.live k o' (MX k o' hk)
      refine⟨aDj k hkl,?_,by rw [hθn k hkl]; exact g3⟩
      have ho3:=OR.low (K:=c2.k) (E:=E') (E':={ E' with ρ:=R.env E.ρ }) (fun a ha=>acC a ha) rfl rfl rfl rfl (Bf ko hk) g2
      exact OR.back (Eo:={ E' with ρ:=R.env E.ρ }) (E2:=E2) (r:=R) (by rw [hRl]; exact k3) aDn rfl (fun i hd=>alW i hd) rfl (id:=k) g1 ho3
     ·obtain⟨g1,g2,g3⟩:=r.live id o h2
      have h1:=MZ id g1
      refine⟨.inl g1,g2.keep hkeep g1 (hb.blk _ (jE r h2) ?_),?_⟩
      ·rintro⟨i,hi,he⟩
       obtain⟨o',h3⟩:=JD i hi
       have he':((E.ren rn).θ i).1=(E.θ id).1:=he
       rw [hθr] at he'
       have:=r.inj _ id o' o h3 h2 he'
       have hi':i < c.objs.length:=hi
       exact hne i (by omega) (by rw [OM i hi']; exact this)
      ·rw [hθo id h1]
       intro hr
       rcases b8 _ hr with hr | hr
       ·exact g3 hr
       ·have hlt:(E.θ id).1 < w.heap.size:=jE r h2
        have hge:w.heap.size≤(E.θ id).1:=hr
        omega
    ·have mix: ∀(k:Nat) (o':dW) (id:Nat) (o:dW),c2.objs[k]?=some o'→s.h.get id=some o→(∀k,k < c2.objs.length→R.id k≠id)→(E'.θ k).1=(E.θ id).1→False:=by
      intro k o' id o hk h2 hne he
      have hkl:=(List.getElem?_eq_some_iff.1 hk).1
      rcases Nat.lt_or_ge k c.objs.length with h | h
      ·obtain⟨o3,h3⟩:=JD k h
       have hb3:E'.θ k=(E.ren rn).θ k:=(avH k h).2.2.1
       rw [hb3,hθr] at he
       have:=r.inj _ id o3 o h3 h2 he
       exact hne k hkl (by rw [OM k h]; exact this)
      ·have h3:=jE r h2
       have h4:w.heap.size≤(E'.θ k).1:=b9 k o' (MX k o' hk) h
       omega
     rcases hcase i1 o1 h1 with ⟨m1,y1,rfl,z1,_⟩ | ⟨x2,x3⟩
     ·have hm1:=(List.getElem?_eq_some_iff.1 z1).1
      rcases hcase i2 o2 h2 with ⟨m2,y2,rfl,z2,_⟩ | ⟨x4,x5⟩
      ·have hm2:=(List.getElem?_eq_some_iff.1 z2).1
       rw [hθn m1 hm1,hθn m2 hm2] at he
       have:=b6.inj _ _ _ _ (MX m1 y1 z1) (MX m2 y2 z2) he
       rw [this]
      ·rw [hθn m1 hm1,hθo _ (MZ _ (r.live _ _ x4).1)] at he
       exact (mix m1 y1 i2 o2 z1 x4 x5 he).elim
     ·rcases hcase i2 o2 h2 with ⟨m2,y2,rfl,z2,_⟩ | ⟨x4,x5⟩
      ·have hm2:=(List.getElem?_eq_some_iff.1 z2).1
       rw [hθn m2 hm2,hθo _ (MZ _ (r.live _ _ x2).1)] at he
       exact (mix m2 y2 i1 o1 z2 x2 x3 he.symm).elim
      ·rw [hθo _ (MZ _ (r.live _ _ x2).1),hθo _ (MZ _ (r.live _ _ x4).1)] at he
       exact r.inj _ _ _ _ x2 x4 he
   refine⟨E2,st2,r2,?_⟩
   have hvs:bJ E' w'.heap (c2.slots.map fun p=>p.2) us:=by
    refine bJ.of (by rw [b5]; simp) fun k x hk=>?_
    have:=Fb (tr:=.nil) k2 k x hk
    rw [Nat.zero_add] at this
    obtain⟨u,h1,h2⟩:=b6.sr k x this
    exact⟨u,by simpa using h1,h2⟩
   have aDg:oW c2.k (c2.slots.map fun p=>p.2)=true:=by
    have: ∀{l:List (Nat×AV)},wY c2.k l=true→oW c2.k (l.map fun p=>p.2)=true:=by
     intro l
     induction l with
     | nil=>intro _; rfl
     | cons p l ih=>
       intro h
       simp only [wY,Bool.and_eq_true] at h
       simp only [List.map_cons,oW,Bool.and_eq_true]
       exact⟨h.1,ih h.2⟩
    exact this ks
   have aEW:=bJ.low (K:=c2.k) (E:=E') (E':={ E' with ρ:=R.env E.ρ }) (fun a ha=>acC a ha) rfl rfl rfl rfl _ _ aDg hvs
   have aEV:=bJ.back (Eo:={ E' with ρ:=R.env E.ρ }) (E2:=E2) (r:=R) (by rw [hRl]; exact k3) aDn rfl (fun i hd=>alW i hd) rfl _ _ aEW
   exact JV aEV
  ·simp [T.leaf] at q1
 ·simp [T.leaf] at hl
end
end Go.As
end
section
namespace Go.As
open Go.RowKit
structure Xr where
 ok:(Nat→Prop)→Array Obj→Prop
 keep: ∀{ro ro':Nat→Prop} {h h':Array Obj},ok ro h→(∀b,ro b→ro' b)→(∀b,ro b→h'[b]?=h[b]?)→ok ro' h'
@[reducible] def Xr.glob (G:Xr) (F:Hf):Glob where
 ok ρ ro h:=G.ok ro h∧Good F ρ
 keep h1 h2 h3:=⟨G.keep h1.1 h2 h3,h1.2⟩
 ren h1 h2:=⟨h1.1,h1.2.ren h2⟩
structure Hg where
 g:Nat
 Oy:List RK
 oH:List RK
 tabs:JI
 pos:Option (List Nat×CS)
 pat:Option (CS×List dW×Nat):=none
 vK:List CS:=[]
 gh:List (Nat×Nat):=[]
 wh:List Nat:=[]
 jS:Nat:=0
 tst:List (Nat×Nat):=[]
 fz:List (Nat×Nat×Nat):=[]
def Hg.dY (e:Hg):List dW:=match e.pat with
 | none=>[]
 | some (_,o,_)=>o
def Hg.ko (e:Hg):Nat:=match e.pat with
 | none=>0
 | some (_,_,k)=>k
structure Sys where
 P:Program
 G:Xr
 tt:TT
 ft:Nat→Option Func
 chk:Nat→Nat→List Oper→Bool
 draw:dU→Nat→Nat→List Oper→St→T St
 DR:Nat→Option (List AV→St→T (AV×St))
 lf:Nat
 depth:Nat
 nums:Nat→List Nat
 ents:Nat→Option Hg
noncomputable section
def asF (c:CS) (args:List AV) (s:St):Bool:=match quick (bD args 0 .nil) c.slots with
 | false=>false
 | true=>Nat.beq args.length c.slots.length && c.fits prv ⟨bD args 0 .nil,s.h,s.pc⟩ (c.guess ⟨bD args 0 .nil,s.h,s.pc⟩) && P9 (c.guess ⟨bD args 0 .nil,s.h,s.pc⟩)
def unset (s:St):List Nat→Bool
 | []=>true
 | t :: l=>match s.slots.get t with
   | some _=>false
   | none=>unset s l
def aDr (s:St):List (Nat×Nat)→Bool
 | []=>true
 | (t,_) :: l=>match s.slots.get t with
   | some _=>aDr s l
   | none=>false
def ajY (c:CS) (gh:List (Nat×Nat)) (wh:List Nat) (args:List AV) (s:St):Bool:=match quick (bD args 0 .nil) c.slots with
 | false=>false
 | true=>unset s wh && aDr s gh && Nat.beq args.length c.slots.length && c.fits prv ⟨bD args 0 .nil,s.h,s.pc⟩ (ghR s gh (c.guess ⟨bD args 0 .nil,s.h,s.pc⟩)) && P9 (ghR s gh (c.guess ⟨bD args 0 .nil,s.h,s.pc⟩))
def Sys.MV (S:Sys):List Nat→List AV→St→T (AV×St)
 | [],_,_=> .fail
 | j :: l,args,s=>match S.ents j with
   | none=> .fail
   | some e=>match e.pat with
     | none=>alS j e.Oy e.oH args s
     | some (c,dY,ko)=>match e.vK with
       | []=>match asF c args s with
         | true=>alQ j c e.oH dY ko args s
         | false=>S.MV l args s
       | r :: rs=>match ajY c e.gh e.wh args s with
         | true=>alO j e.jS c e.gh (r :: rs) args s
         | false=>S.MV l args s
def Sys.hook (S:Sys) (g:Nat):Option (List AV→St→T (AV×St)):=match S.nums g with
 | []=>S.DR g
 | j :: l=>some (match S.DR g with
   | none=>S.MV (j :: l)
   | some h=>orElse h (S.MV (j :: l)))
def Sys.call (S:Sys):dU:=Ur S.tt S.ft S.hook S.draw S.lf S.depth
def Sys.cfg (S:Sys) (e:Hg) (fn:Func):IQ:=⟨S.tt,S.call,S.draw S.call e.g,S.lf,fn.results.toList,e.oH,e.dY,e.ko,e.vK,e.jS,e.fz⟩
def rJ (S:Sys) (e:Hg):T Lf:=match S.ft e.g with
 | none=> .fail
 | some fn=>match fn.body with
   | none=> .fail
   | some body=>match e.pos with
     | none=>match e.pat with
       | none=>Dz (S.cfg e fn) e.tabs 1000 [] body [] ⟨bD (uU e.Oy .aQ 0) 0 .nil,Hp.zero,[]⟩
       | some (c,_,_)=>Dz (S.cfg e fn) e.tabs 1000 [] body [] c.st
     | some (p,c)=>match tJ body p with
       | some (b,fr)=>match b with
         | .loop b=>XL (fun s=>Dz (S.cfg e fn) e.tabs 1000 (0 :: p) b (.loop p b :: fr) s) e.tst c.st
         | _=> .fail
       | none=> .fail
def Sys.tree (S:Sys) (j:Nat):T Lf:=match S.ents j with
 | none=> .fail
 | some e=>rJ S e
end
def arA (S:Sys) (e:Hg) (body:Code):Prop:= ∀p l,e.tabs p=some l→(∃b fr,tJ body p=some (.loop b,fr))∧∀j c,(j,c)∈l→S.ents j=some { e with pos:=some (p,c) }∧BL c.k c=true∧c.k≤900∧e.jS≤c.k
structure Oz (S:Sys):Prop where
 tt:eG S.P S.tt
 ft:agI S.P S.chk S.ft
 draw: ∀(I:Glob) call,@jR I S.P call→∀g,@BZ I S.P (S.chk g) (S.draw call g)
 DR: ∀(I:Glob),(∀ρ ro h,I.ok ρ ro h→S.G.ok ro h)→∀g h,S.DR g=some h→@mJ I S.P g h
 run: ∀g j,j∈S.nums g→∀(args:Array Value) (w:World),(callFunc g args).run S.P w= .ok (.enter g args) w
 num: ∀g j e,j∈S.nums g→S.ents j=some e→e.g=g∧e.pos=none∧(match e.pat with
  | none=>(sW e.Oy).length≤900∧e.vK= []
  | some (c,dY,_)=>BL c.k c=true∧c.k≤900∧dY.length=c.objs.length∧(e.vK≠[]→Px e.vK=true))
 outs: ∀j e,S.ents j=some e→qI e.ko e.dY=true∧e.ko≤900∧e.jS≤900
 ents: ∀j e,S.ents j=some e→∀fn body,S.ft e.g=some fn→fn.body=some body→arA S e body
section
variable {S:Sys}
def ayW (S:Sys) (n:Nat):Prop:= ∀g j e,j∈S.nums g→S.ents j=some e→match e.pat with
 | none=>aqH S.P S.G.ok g e.Oy e.oH (eX S.tree n j)
 | some (c,dY,ko)=>match e.vK with
   | []=>ayV S.P S.G.ok g c e.oH dY ko (eX S.tree n j)
   | r :: rs=>ayU S.P S.G.ok g c (r :: rs) (eX S.tree n j)
def LoopN (S:Sys) (n:Nat):Prop:= ∀j e p c,S.ents j=some e→e.pos=some (p,c)→BL c.k c=true→c.k≤900→∀fn body b fr,S.ft e.g=some fn→fn.body=some body→tJ body p=some (.loop b,fr)→
 ∀(B:qN) (E:En) (a:Act) (w:World) (xs ys:List Int),e.dY.length=B.m→eX S.tree n j xs=some ys→(∀i x,xs[i]?=some x→E.ρ i=x)→xs.length=c.k→qM B E c.st a w→S.G.ok E.ro w.heap→fn.ntmps≤a.tmps.size→a.defers= []→
  OC S.P b (KE S.P (bodyPost S.P fn (QX B e.oH e.dY e.ko e.vK ys)) fr) a w
def LfG (jS:Nat) (tabs:JI):Lf→Prop
 | .out es=> ∀a e,a < jS→es[a+1]?=some e→e= .aQ a
 | .jump j es=>(∃p l c,tabs p=some l∧(j,c)∈l∧es.length=c.k)∧∀a e,a < jS→es[a]?=some e→e= .aQ a
theorem QW: ∀{n i:Nat} {ns:List SE} {a:Nat} {e:SE},a < n→(Jl n i ns)[a]?=some e→e= .aQ (i+a)
 | 0,_,_,a,_,h,_=>by omega
 | n+1,i,[],a,e,_,h=>by simp [Jl] at h
 | n+1,i,x :: ns,0,e,_,h=>by simp [Jl] at h; rw [← h]; rfl
 | n+1,i,x :: ns,a+1,e,ha,h=>by
   simp only [Jl,List.getElem?_cons_succ] at h
   rw [QW (n:=n) (by omega) h]
   congr 1; omega
theorem Wq {jS:Nat} {r:Ren} {a:Nat} {e:SE} (ha:a < jS) (h:(wL jS r).ns[a]?=some e):e= .aQ a:=by
 unfold wL at h
 split at h
 ·omega
 ·have:=QW ha h
  rw [this,Nat.zero_add]
theorem amU {n m jS:Nat} {s:St} {ρ:Nat→Int} {lf:Lf} {tabs:JI} {l:List CS} {k:Nat} (h:(WS n m jS s l k).leaf ρ=some lf):LfG jS tabs lf:=by
 obtain⟨i,c,_,_,_,rfl,_⟩:=KA h
 intro a e ha he
 rw [List.getElem?_cons_succ] at he
 exact Wq ha he
theorem yX {m jS:Nat} {s:St} {ρ:Nat→Int} {lf:Lf} {tabs:JI} {p:List Nat} {l0:List (Nat×CS)} (hp:tabs p=some l0): ∀{l:List (Nat×CS)},(∀x∈l,x∈l0)→(wJ m jS s l).leaf ρ=some lf→LfG jS tabs lf
 | [],_,h=>by simp [wJ,T.leaf] at h
 | (j,c) :: l,hsub,h=>by
   simp only [wJ] at h
   split at h
   ·exact yX hp (fun x hx=>hsub x (by simp [hx])) h
   ·split at h
    ·have:=aF h
     subst this
     exact⟨⟨p,l0,c,hp,hsub _ (by simp),by rw [BD,zG]⟩,fun a e ha he=>Wq ha he⟩
    ·exact yX hp (fun x hx=>hsub x (by simp [hx])) h
theorem wE {α:Type} {k:St→T α} {ρ:Nat→Int} {x:α}: ∀{ts:List Nat} {s:St},(BO k ts s).leaf ρ=some x→∃s',(k s').leaf ρ=some x
 | [],s,h=> ⟨s,h⟩
 | i :: ts,s,h=>by
   simp only [BO] at h
   split at h
   ·obtain⟨pc,b,h1⟩:=lS h
    exact wE h1
   ·exact wE h
theorem Ht {α:Type} {k:St→T α} {ρ:Nat→Int} {x:α}: ∀{ts:List (Nat×Nat)} {s:St},(XL k ts s).leaf ρ=some x→∃s',(k s').leaf ρ=some x
 | [],s,h=> ⟨s,h⟩
 | (t,g) :: ts,s,h=>by
   simp only [XL] at h
   split at h
   ·obtain⟨pc,b,h1⟩:=lS h
    exact Ht h1
   ·exact Ht h
theorem QU {α:Type} {ρ:Nat→Int} {v:AV} {s:St} {k:AV→St→T α} {x:α} (h:(afN v s k).leaf ρ=some x): ∃v s,(k v s).leaf ρ=some x:=by
 unfold afN at h
 split at h
 ·split at h
  ·unfold Ib at h
   obtain⟨_,b1,h⟩:=lS h
   cases b1 with
   | true=>simp [T.leaf] at h
   | false=>
     obtain⟨_,b2,h⟩:=lS h
     cases b2 with
     | true=>simp [T.leaf] at h
     | false=>
       obtain⟨_,b3,h⟩:=lS h
       cases b3 with
       | true=>simp [T.leaf] at h
       | false=>exact⟨_,_,h⟩
  ·exact⟨_,_,h⟩
 ·exact⟨_,_,h⟩
theorem Nk {α:Type} {ρ:Nat→Int} {x:α}: ∀{vs:List AV} {s:St} {k:List AV→St→T α},(QT vs s k).leaf ρ=some x→∃vs s,(k vs s).leaf ρ=some x
 | [],s,k,h=> ⟨_,_,h⟩
 | v :: vs,s,k,h=>by
   simp only [QT] at h
   obtain⟨_,_,h⟩:=QU h
   obtain⟨_,_,h⟩:=Nk h
   exact⟨_,_,h⟩
theorem LU {α:Type} {ρ:Nat→Int} {x:α} {t:Nat}: ∀{ov:List (SE×List AV)} {e:SE} {s:St} {k:SE→St→T α},(PV t ov e s k).leaf ρ=some x→∃e s,(k e s).leaf ρ=some x
 | [],e,s,k,h=> ⟨_,_,h⟩
 | (j,cs) :: ov,e,s,k,h=>by
   simp only [PV] at h
   obtain⟨_,_,h⟩:=LU h
   obtain⟨_,_,h⟩:=Nk h
   split at h
   ·exact⟨_,_,h⟩
   ·simp [T.leaf] at h
theorem afL {α:Type} {ρ:Nat→Int} {v:AV} {s:St} {k:AV→St→T α} {x:α} (h:(afM v s k).leaf ρ=some x): ∃v s,(k v s).leaf ρ=some x:=by
 unfold afM at h
 split at h
 ·obtain⟨_,_,h⟩:=LU h
  split at h
  ·exact⟨_,_,h⟩
  ·simp [T.leaf] at h
 ·exact QU h
theorem QS {α:Type} {ρ:Nat→Int} {x:α} {k:List AV→St→T α}: ∀{fz:List (Nat×Nat×Nat)} {vs:List AV} {s:St},(YQ fz vs s k).leaf ρ=some x→∃vs s,(k vs s).leaf ρ=some x
 | [],vs,s,h=> ⟨_,_,h⟩
 | (i,f,t) :: l,vs,s,h=>by
   simp only [YQ] at h
   split at h
   ·split at h
    ·obtain⟨_,_,h⟩:=afL h
     split at h
     ·exact QS h
     ·simp [T.leaf] at h
    ·simp [T.leaf] at h
   ·simp [T.leaf] at h
theorem amV {g:IQ} {tabs:JI} {e:Ex} {s:St} {ρ:Nat→Int} {lf:Lf} (hr:g.vK≠[]) (h:(amW g e s).leaf ρ=some lf):LfG g.jS tabs lf:=by
 unfold amW at h
 split at h
 ·simp [T.leaf] at h
 ·split at h
  ·simp [T.leaf] at h
  ·split at h
   ·rename_i h0; exact absurd h0 hr
   ·obtain⟨_,_,h⟩:=QS h
    exact amU h
theorem acD {g:IQ} {tabs:JI} {ρ:Nat→Int} (hr:g.vK≠[]): ∀n:Nat,
 (∀p c fr s lf,(Dz g tabs n p c fr s).leaf ρ=some lf→LfG g.jS tabs lf)∧
 (∀fr e s lf,(zH g tabs n fr e s).leaf ρ=some lf→LfG g.jS tabs lf)
 | 0=> ⟨fun _ _ _ _ _ h=>by simp [Dz,T.leaf] at h,fun _ _ _ _ h=>by simp [zH,T.leaf] at h⟩
 | n+1=>by
   obtain⟨ih1,ih2⟩:=acD hr n
   have lfc: ∀(c:Code) fr s lf,((g.ev c s).bind fun (e,s')=>zH g tabs n fr e s').leaf ρ=some lf→LfG g.jS tabs lf:=by
    intro c fr s lf h
    obtain⟨⟨e,s'⟩,_,h2⟩:=T.fP h
    exact ih2 _ _ _ _ h2
   constructor
   ·intro p c fr s lf h
    unfold Dz at h
    split at h
    ·rename_i l hl
     obtain⟨s',h1⟩:=wE h
     exact yX hl (fun _ h=>h) h1
    ·split at h
     ·exact ih1 _ _ _ _ _ h
     ·exact ih1 _ _ _ _ _ h
     ·exact ih1 _ _ _ _ _ h
     ·split at h
      ·obtain⟨pc,b,h1⟩:=lS h
       split at h1
       ·exact ih1 _ _ _ _ _ h1
       ·exact ih1 _ _ _ _ _ h1
      ·simp [T.leaf] at h
     ·exact lfc _ _ _ _ h
   ·intro fr e s lf h
    unfold zH at h
    split at h
    ·exact amV hr h
    ·split at h
     ·exact ih1 _ _ _ _ _ h
     ·exact ih2 _ _ _ _ h
    ·split at h
     ·split at h
      ·exact ih2 _ _ _ _ h
      ·exact ih2 _ _ _ _ h
     ·exact ih2 _ _ _ _ h
    ·split at h
     ·split at h
      ·rename_i l hl
       obtain⟨s',h1⟩:=wE h
       exact yX hl (fun _ h=>h) h1
      ·simp [T.leaf] at h
     ·exact ih2 _ _ _ _ h
    ·exact ih2 _ _ _ _ h
theorem Jr {e:Hg} {ρ:Nat→Int} {lf:Lf} (hr:e.vK≠[]) (h:(rJ S e).leaf ρ=some lf): ∃fn body,S.ft e.g=some fn∧fn.body=some body∧LfG e.jS e.tabs lf:=by
 unfold rJ at h
 split at h
 ·simp [T.leaf] at h
 ·rename_i fn hfn
  split at h
  ·simp [T.leaf] at h
  ·rename_i body hb
   refine⟨fn,body,hfn,hb,?_⟩
   have key: ∀n p c fr s,(Dz (S.cfg e fn) e.tabs n p c fr s).leaf ρ=some lf→LfG e.jS e.tabs lf:=fun n p c fr s h=>(acD (g:=S.cfg e fn) hr n).1 _ _ _ _ _ h
   split at h
   ·split at h
    ·exact key _ _ _ _ _ h
    ·exact key _ _ _ _ _ h
   ·split at h
    ·split at h
     ·obtain⟨s',h1⟩:=Ht h
      exact key _ _ _ _ _ h1
     ·simp [T.leaf] at h
    ·simp [T.leaf] at h
theorem aaX (hs:Oz S): ∀(n j:Nat) (e:Hg) (xs ys:List Int),S.ents j=some e→e.vK≠[]→eX S.tree n j xs=some ys→∀a y,a < e.jS→ys[a+1]?=some y→y=low xs a
 | 0,_,_,_,_,_,_,h=>by simp [eX] at h
 | n+1,j,e,xs,ys,he,hr,h=>by
   intro a y ha hy
   obtain⟨_,_,hg⟩:=hs.outs j e he
   have QO:S.tree j=rJ S e:=by unfold Sys.tree; rw [he]
   simp only [eX,QO] at h
   split at h
   ·simp at h
   ·rename_i es hl
    obtain⟨_,_,_,_,hlf⟩:=Jr hr hl
    simp only [Option.some.injEq] at h
    subst h
    rw [List.getElem?_map,Option.map_eq_some_iff] at hy
    obtain⟨x,hx,rfl⟩:=hy
    rw [hlf a x ha hx]
    show dK _ _ a=_
    rw [vC (by omega)]
   ·rename_i j' es hl
    obtain⟨fn,body,hfn,hb,⟨p,l,c,hp,hc,hlen⟩,hlf⟩:=Jr hr hl
    obtain⟨_,hh⟩:=hs.ents j e he fn body hfn hb p l hp
    obtain⟨q1,_,_,q4⟩:=hh j' c hc
    have:=aaX hs n j' _ _ ys q1 hr h a y ha hy
    rw [this]
    have hal:a < es.length:=by omega
    have hx:=List.getElem?_eq_getElem hal
    unfold low
    rw [List.getD_eq_getElem?_getD,List.getElem?_map,hx]
    show (es[a]).den _=_
    rw [hlf a _ ha hx]
    show dK _ _ a=_
    rw [vC (by omega)]
theorem avF (hs:Oz S) {n:Nat} (h:ayW S n):@jR (S.G.glob (eX S.tree n)) S.P S.call:=by
 letI I:=S.G.glob (eX S.tree n)
 have a1: ∀ρ ro h,I.ok ρ ro h→S.G.ok ro h:=fun _ _ _ h=>h.1
 have a2: ∀ρ ro h,I.ok ρ ro h→Good (eX S.tree n) ρ:=fun _ _ _ h=>h.2
 refine Gm hs.tt hs.ft (hook:=S.hook) ?_ (fun call hc g=>hs.draw I call hc g) S.lf S.depth
 have hL: ∀g l,(∀j∈l,j∈S.nums g)→@mJ I S.P g (S.MV l):=by
  intro g l
  induction l with
  | nil=>
    intro _ aFG s E w vals v s' r hv hp hl
    simp [Sys.MV,T.leaf] at hl
  | cons j l ih=>
    intro hsub aFG s E w vals v s' r hv hp hl
    have hj:=hsub j (by simp)
    simp only [Sys.MV] at hl
    split at hl
    ·simp [T.leaf] at hl
    ·rename_i e he
     have hspec:=h g j e hj he
     obtain⟨_,_,hnum⟩:=hs.num g j e hj he
     obtain⟨ho1,ho2,_⟩:=hs.outs j e he
     cases hpat:e.pat with
     | none=>
       rw [hpat] at hl hspec
       exact @alR S.P I S.G.ok a1 (eX S.tree n) a2 g j e.Oy e.oH hspec (hs.run g j hj) aFG s E w vals v s' r hv hp hl
     | some q=>
       obtain⟨c,dY,ko⟩:=q
       rw [hpat] at hl hspec hnum
       simp only at hl hspec hnum
       unfold Hg.dY Hg.ko at ho1
       unfold Hg.ko at ho2
       rw [hpat] at ho1 ho2
       cases JC:e.vK with
       | nil=>
         rw [JC] at hl hspec
         simp only at hl hspec
         split at hl
         ·exact @alP S.P I S.G.ok a1 (eX S.tree n) a2 g j c e.oH dY ko ho1 ho2 hnum.2.2.1 hspec (hs.run g j hj) aFG s E w vals v s' r hv hp hl
         ·exact ih (fun j hj=>hsub j (by simp [hj])) aFG s E w vals v s' r hv hp hl
       | cons r0 rs=>
         rw [JC] at hl hspec
         simp only at hl hspec
         have hrp:=hnum.2.2.2 (by rw [JC]; simp)
         rw [JC] at hrp
         split at hl
         ·exact @alN S.P I S.G.ok a1 (eX S.tree n) a2 g j c e.gh e.jS (r0 :: rs) hrp (fun xs ys h=>aaX hs n j e xs ys he (by rw [JC]; simp) h) hspec (hs.run g j hj) aFG s E w vals v s' r hv hp hl
         ·exact ih (fun j hj=>hsub j (by simp [hj])) aFG s E w vals v s' r hv hp hl
 intro g f hf
 unfold Sys.hook at hf
 split at hf
 ·exact hs.DR I a1 g f hf
 ·rename_i j l hj
  simp only [Option.some.injEq] at hf
  subst hf
  have h2:=hL g (j :: l) (by rw [hj]; exact fun _ h=>h)
  split
  ·exact h2
  ·rename_i h0 hh
   exact xI (hs.DR I a1 g h0 hh) h2
theorem YF (hs:Oz S) {n:Nat} (h:LoopN S n) {j:Nat} {e:Hg} (he:S.ents j=some e) {fn:Func} {body:Code} (hfn:S.ft e.g=some fn) (hb:fn.body=some body) (B:qN) (hm:e.dY.length=B.m) (ys:List Int) :
 @aqM (S.G.glob (eX S.tree n)) S.P body fn.ntmps B (bodyPost S.P fn (QX B e.oH e.dY e.ko e.vK ys)) (eX S.tree n) ys e.tabs:=by
 intro p l hp
 obtain⟨⟨b,fr,hl⟩,hh⟩:=hs.ents j e he fn body hfn hb p l hp
 refine⟨b,fr,hl,fun j' c hc E a w t hg ⟨xs,h1,h2,h3,h4⟩ hN hd=>?_⟩
 obtain⟨q1,q2,q3,_⟩:=hh j' c hc
 exact h j' { e with pos:=some (p,c) } p c q1 rfl q2 q3 fn body b fr hfn hb hl B E a w xs ys hm h4 h1 h2 t hg.1 hN hd
theorem akS {F:Hf} {E:En} {xs:List Int} {k:Nat} (h: ∀i x,xs[i]?=some x→E.ρ i=x) (hk:xs.length=k) (h9:k≤900): ∀i,i < k→dK F (low xs) i=E.ρ i:=by
 intro i hi
 rw [vC (by omega)]
 have hx:xs[i]?=some xs[i]:=List.getElem?_eq_getElem (by omega)
 unfold low
 rw [h i _ hx,List.getD_eq_getElem?_getD,hx]
 rfl
theorem TU {tree:Nat→T Lf} {n j:Nat} {xs ys:List Int} (h:eX tree (n+1) j xs=some ys): ∃lf,(tree j).leaf (dK (eX tree n) (low xs))=some lf∧Xp (eX tree n) (dK (eX tree n) (low xs)) ys lf:=by
 simp only [eX] at h
 split at h
 ·simp at h
 ·rename_i es hl
  simp only [Option.some.injEq] at h
  exact⟨_,hl,h⟩
 ·rename_i j' es hl
  exact⟨_,hl,h⟩
theorem QE.spec {w:World} {ro:Nat→Prop} {θ:Nat→Nat×Nat} {κ:Nat→Nat} {oH:List RK} {ys:List Int} {e:Ending} {w':World} (h:QE ⟨w,ro,0,θ,κ⟩ oH [] 0 ys e w') :
 ∃u,e= .returned u∧Below w.heap.size w w'∧∃ro':Nat→Prop,(∀b,ro b→ro' b)∧(∀b,ro' b→ro b∨w.heap.size≤b)∧(∀b,ro' b→b < w'.heap.size)∧avP oH ys ro' w'.heap u:=by
 obtain⟨u,q1,q2,ro',q3,q4,q5,_,_,q6⟩:=h
 exact⟨u,q1,⟨q2.os,q2.tape,q2.output,q2.size,fun k hk=>q2.blk k hk fun⟨i,hi,_⟩=>absurd hi (by show ¬i < 0; omega)⟩,ro',q3,q4,q5,q6⟩
theorem Bel.refl {B:qN}:Bel B B.w0:=⟨rfl,rfl,rfl,Nat.le_refl _,fun _ _ _=>rfl⟩
theorem G5.grow {E:En} {s:St} {w:World} {vals:List Value} (f:G5 E s { tmps:=vals.toArray,defers:=[] } w) (n:Nat):G5 E s { tmps:=vals.toArray++Array.replicate n undef,defers:=[] } w:=by
 refine⟨f.fresh,f.res,f.live,f.inj,f.AZ,fun t v ht=>?_,f.pc⟩
 obtain⟨u,h1,h2⟩:=f.sr t v ht
 refine⟨u,?_,h2⟩
 have hlt:=(Array.getElem?_eq_some_iff.1 h1).1
 show (vals.toArray++Array.replicate n undef)[t]?=some u
 rw [Array.getElem?_append_left hlt]
 exact h1
theorem aiZ (hs:Oz S): ∀n:Nat,ayW S n∧LoopN S n
 | 0=> ⟨fun g j e _ _=>by
  cases e.pat with
  | none=>exact fun xs ys h=>by simp [eX] at h
  | some q=>
    obtain⟨c,dY,ko⟩:=q
    cases e.vK with
    | nil=>exact fun xs ys h=>by simp [eX] at h
    | cons r rs=>exact fun xs ys h=>by simp [eX] at h,fun j e p c _ _ _ _ fn body b fr _ _ _ B E a w xs ys _ h=>by simp [eX] at h⟩
 | n+1=>by
   obtain⟨ih1,ih2⟩:=aiZ hs n
   letI I:=S.G.glob (eX S.tree n)
   have hcall:=avF hs ih1
   have apT: ∀(e:Hg) (fn:Func),ZP S.P (S.cfg e fn) (S.chk e.g):=fun e fn=> ⟨hs.tt,hcall,hs.draw I S.call hcall e.g⟩
   constructor
   ·intro g j e hn he
    obtain⟨hg,hpos,hnum⟩:=hs.num g j e hn he
    obtain⟨hlo,hko,_⟩:=hs.outs j e he
    have QO:S.tree j=rJ S e:=by unfold Sys.tree; rw [he]
    cases hpat:e.pat with
    | none=>
      rw [hpat] at hnum
      simp only at hnum ⊢
      intro xs ys hx ro w vals fl hro hgb sh hc
      obtain⟨lf,h1,h2⟩:=TU hx
      rw [QO] at h1
      unfold rJ at h1
      cases hfn:S.ft e.g with
      | none=>rw [hfn] at h1; simp [T.leaf] at h1
      | some fn=>
        rw [hfn] at h1
        cases hb:fn.body with
        | none=>simp only [hb] at h1; simp [T.leaf] at h1
        | some body=>
          simp only [hb,hpos,hpat] at h1
          obtain⟨hf,_,hd⟩:=hs.ft e.g fn hfn
          rw [hg] at hf
          have hdst:=hd body hb
          have hlx:=hc.length.1
          have hob:e.dY= []:=by unfold Hg.dY; rw [hpat]
          have hk0:e.ko=0:=by unfold Hg.ko; rw [hpat]
          have hvr:bJ (En.zero (dK (eX S.tree n) (low xs)) ro) w.heap (uU e.Oy .aQ 0) vals:=by
           refine xO sh hc fun k x hk=>?_
           have hkl:=(List.getElem?_eq_some_iff.1 hk).1
           rw [Nat.zero_add]
           show dK _ _ k=x
           rw [vC (by omega)]
           unfold low
           rw [List.getD_eq_getElem?_getD,hk]
           rfl
          have hgl:I.ok (dK (eX S.tree n) (low xs)) ro w.heap:=⟨hgb,nP _ _⟩
          let B:qN:=⟨w,ro,0,fun _=>(0,0),fun _=>0⟩
          have t0:qM B (En.zero (dK (eX S.tree n) (low xs)) ro) ⟨bD (uU e.Oy .aQ 0) 0 .nil,Hp.zero,[]⟩ { tmps:=vals.toArray++Array.replicate (fn.ntmps - vals.toArray.size) undef,defers:=[] } w:=by
           have fit:Fit (En.zero (dK (eX S.tree n) (low xs)) ro) ⟨bD (uU e.Oy .aQ 0) 0 .nil,Hp.zero,[]⟩ { tmps:=vals.toArray++Array.replicate (fn.ntmps - vals.toArray.size) undef,defers:=[] } w:=
            ⟨Va _ ro w hro hgl,FU hvr _,by intro c b h; simp at h⟩
           exact⟨fit.x,fun _ h=>h,fun _ h=> .inl h,Bel.refl,fun id o h=>by simp [Hp.zero,Hp.get,Tr.get] at h,fun i hi=>absurd hi (by show ¬i < 0; omega)⟩
          refine Calls.mono (calls_of_wp (R:=QX B e.oH e.dY e.ko e.vK ys) hf hb ?_) fun e' w' hq=>QE.spec (w:=w) (ro:=ro) (θ:=fun _=>(0,0)) (κ:=fun _=>0) (by rw [hob,hk0,hnum.2] at hq; exact hq)
          exact (Ub (B:=B) (apT e fn) hdst rfl (by show e.dY.length=0; rw [hob]; rfl) hlo hko (YF hs ih2 he hfn hb B (by show e.dY.length=0; rw [hob]; rfl) ys) 1000).1 [] body [] _ lf _ _ w rfl h1 h2 t0 hgl (by simp; omega) rfl
    | some q=>
      obtain⟨c,dY,ko⟩:=q
      rw [hpat] at hnum
      simp only at hnum ⊢
      obtain⟨aDl,hc9,hom,hrp⟩:=hnum
      have main: ∀xs ys,eX S.tree (n+1) j xs=some ys→∀(E:En) (w:World) (vals:List Value),(∀i x,xs[i]?=some x→E.ρ i=x)→xs.length=c.k→G5 E c.st { tmps:=vals.toArray,defers:=[] } w→S.G.ok E.ro w.heap→
       Calls S.P g vals.toArray w (QX ⟨w,E.ro,c.objs.length,E.θ,E.κ⟩ e.oH dY ko e.vK ys):=?_
      ·cases JC:e.vK with
       | nil=>
         simp only
         intro xs ys hx E w vals hxs hlen fx hgb
         have:=main xs ys hx E w vals hxs hlen fx hgb
         rw [JC] at this
         exact this
       | cons r0 rs=>
         simp only
         intro xs ys hx E w vals hxs hlen fx hgb
         have:=main xs ys hx E w vals hxs hlen fx hgb
         rw [JC] at this
         exact this
      intro xs ys hx E w vals hxs hlen fx hgb
      obtain⟨lf,h1,h2⟩:=TU hx
      rw [QO] at h1
      unfold rJ at h1
      cases hfn:S.ft e.g with
      | none=>rw [hfn] at h1; simp [T.leaf] at h1
      | some fn=>
        rw [hfn] at h1
        cases hb:fn.body with
        | none=>simp only [hb] at h1; simp [T.leaf] at h1
        | some body=>
          simp only [hb,hpos,hpat] at h1
          obtain⟨hf,_,hd⟩:=hs.ft e.g fn hfn
          rw [hg] at hf
          have hdst:=hd body hb
          have hob:e.dY=dY:=by unfold Hg.dY; rw [hpat]
          have hk0:e.ko=ko:=by unfold Hg.ko; rw [hpat]
          let B:qN:=⟨w,E.ro,c.objs.length,E.θ,E.κ⟩
          have aE3: ∀id o,c.st.h.get id=some o→id < c.objs.length:=by
           intro id o ho
           have:(uT c.objs 0 .nil).get id=some o:=ho
           rw [mW] at this
           split at this
           ·omega
           ·simp [Tr.get] at this
          have aE1: ∀id,id < c.objs.length→∃o,c.st.h.get id=some o:=by
           intro id hid
           refine⟨c.objs[id],?_⟩
           show (uT c.objs 0 .nil).get id=_
           rw [mW,if_pos (by omega)]
           simp
          have t1:qM B E c.st { tmps:=vals.toArray++Array.replicate (fn.ntmps - vals.toArray.size) undef,defers:=[] } w:=by
           refine⟨fx.grow _,fun _ h=>h,fun _ h=> .inl h,Bel.refl,fun id o h=> .inr ⟨id,aE3 id o h,rfl⟩,fun i hi=>?_⟩
           obtain⟨o,ho⟩:=aE1 i hi
           exact⟨(fx.live i o ho).1,rfl,rfl⟩
          have t0:=t1.low (ρ':=dK (eX S.tree n) (low xs)) aDl (akS hxs hlen hc9)
          have hgl:I.ok (dK (eX S.tree n) (low xs)) E.ro w.heap:=⟨hgb,nP _ _⟩
          have hm:e.dY.length=B.m:=by rw [hob]; exact hom
          have hw:=(Ub (B:=B) (apT e fn) hdst rfl hm hlo hko (YF hs ih2 he hfn hb B hm ys) 1000).1 [] body [] _ lf { E with ρ:=dK (eX S.tree n) (low xs) } _ w rfl h1 h2 t0 hgl (by simp; omega) rfl
          have hw':=calls_of_wp (R:=QX B e.oH e.dY e.ko e.vK ys) hf hb hw
          rw [hob,hk0] at hw'
          exact hw'
   ·intro j e p c he hpos hlow h9 fn body b fr hfn hb hl B E a w xs ys hm hx hxs hlen t hgb hN hdf
    obtain⟨hlo,hko,_⟩:=hs.outs j e he
    obtain⟨lf,h1,h2⟩:=TU hx
    have QO:S.tree j=rJ S e:=by unfold Sys.tree; rw [he]
    rw [QO] at h1
    unfold rJ at h1
    simp only [hfn,hb,hpos,hl] at h1
    obtain⟨hf,_,hd⟩:=hs.ft e.g fn hfn
    have hdst:=hd body hb
    have t':=t.low (ρ':=dK (eX S.tree n) (low xs)) hlow (akS hxs hlen h9)
    have hgl:I.ok (dK (eX S.tree n) (low xs)) E.ro w.heap:=⟨hgb,nP _ _⟩
    refine YA ?_
    obtain⟨s2,t2,h1'⟩:=Sl (E:={ E with ρ:=dK (eX S.tree n) (low xs) }) h1 t'
    exact (Ub (B:=B) (apT e fn) hdst rfl hm hlo hko (YF hs ih2 he hfn hb B hm ys) 1000).1 (0 :: p) b (.loop p b :: fr) s2 lf { E with ρ:=dK (eX S.tree n) (low xs) } a w (by simp only [tJ,hl]) h1' h2 t2 hgl hN hdf
theorem aiY (hs:Oz S) {g j:Nat} {e:Hg} (hn:j∈S.nums g) (he:S.ents j=some e) (hp:e.pat=none) (n:Nat):aqH S.P S.G.ok g e.Oy e.oH (eX S.tree n j):=by
 have:=(aiZ hs n).1 g j e hn he
 rw [hp] at this
 exact this
end
end Go.As
end
section
namespace Go.As
open Go.RowKit
def Jm:List (Nat×Nat)→Nat→Option Nat
 | [],_=>none
 | (t,k) :: l,x=>match Nat.beq t x with
   | true=>some k
   | false=>Jm l x
def VF (l:List (Nat×Nat)) (tt:TT):TT:=fun t=>match tt t with
 | some i=>some { i with own:=Jm l t }
 | none=>none
section
variable {P:Program}
theorem asG {l:List (Nat×Nat)} {tt:TT} (h:eG P tt):eG P (VF l tt):=by
 intro t i hi
 unfold VF at hi
 split at hi
 ·rename_i j hj
  simp only [Option.some.injEq] at hi
  subst hi
  obtain⟨h1,h2⟩:=h t j hj
  exact⟨h1,h2⟩
 ·simp at hi
theorem YD (l:List (Nat×Nat)) (tt:TT):kindOf (VF l tt)=kindOf tt:=by
 funext op
 cases op
 case convert t u x=>
  simp only [kindOf,VF]
  cases ht:tt t with
  | none=>rfl
  | some i=>
    simp only
    cases i.kind with
    | slice e=>
      simp only
      cases hu:tt u with
      | none=>rfl
      | some j=>rfl
    | _=>rfl
 all_goals rfl
theorem QK (l:List (Nat×Nat)) (tt:TT) (all:List Oper) (ms:List Nat): ∀(os:List Oper) (i n:Nat),items (VF l tt) all ms os i n=items tt all ms os i n
 | [],_,_=>rfl
 | o :: os,i,n=>by simp only [items,YD,QK l tt all ms os]
theorem ajC (l:List (Nat×Nat)) (tt:TT) (all:List Oper):stat (VF l tt) all=stat tt all:=by
 unfold stat
 simp only [QK]
theorem apS (l:List (Nat×Nat)) (tt:TT) (H:Nat→Nat→Option RY):UU (VF l tt) H=UU tt H:=by
 funext g id all
 unfold UU
 simp only [Bz,ajC]
end
end Go.As
end
section
namespace Go.As
open Go.RowKit
structure FE where
 no:Nat
 g:Nat
 Oy:List RK
 oH:List RK
 pat:Option (CS×List dW×Nat):=none
 vK:List CS:=[]
 gh:List (Nat×Nat):=[]
 wh:List Nat:=[]
 jS:Nat:=0
 tst:List (Nat×Nat):=[]
 fz:List (Nat×Nat×Nat):=[]
 loops:List (List Nat×CS):=[]
def idxs (p:List Nat):List (List Nat×CS)→Nat→List (Nat×CS)
 | [],_=>[]
 | (q,c) :: l,j=>match jF q p with
   | true=>(j,c) :: idxs p l (j+1)
   | false=>idxs p l (j+1)
def FE.tabs (f:FE):JI:=fun p=>match idxs p f.loops (f.no+1) with
 | []=>none
 | x :: l=>some (x :: l)
def FE.ent (f:FE):Hg:=⟨f.g,f.Oy,f.oH,f.tabs,none,f.pat,f.vK,f.gh,f.wh,f.jS,f.tst,f.fz⟩
def Aj (t:Nat→Option FE) (j:Nat):Option Hg:=match t (j / 50) with
 | none=>none
 | some f=>match j % 50 with
   | 0=>some f.ent
   | i+1=>match gI f.loops i with
     | some x=>some { f.ent with pos:=some x }
     | none=>none
def alG:Option (Code×List FrE)→Bool
 | some (c,_)=>match c with
   | .loop _=>true
   | _=>false
 | none=>false
def TP (jS:Nat) (body:Code) (x:List Nat×CS):Bool:=alG (tJ body x.1) && BL x.2.k x.2 && Nat.ble x.2.k 900 && Nat.ble jS x.2.k
def aCY {α:Type}:List α→Bool
 | []=>true
 | _=>false
def amH (ft:Nat→Option Func) (k:Nat) (f:FE):Bool:=Nat.beq f.no (50*k) && Nat.blt f.loops.length 50 && Nat.ble f.jS 900 &&
 (match f.pat with
  | none=>Nat.ble (sW f.Oy).length 900 && aCY f.vK
  | some (c,dY,ko)=>BL c.k c && Nat.ble c.k 900 && Nat.beq dY.length c.objs.length && Px f.vK && qI ko dY && Nat.ble ko 900) &&
 (match ft f.g with
  | some fn=>match fn.body with
    | some body=>f.loops.all (TP f.jS body)
    | none=>false
  | none=>false)
def VJ (ft:Nat→Option Func) (t:Nat→Option FE) (g:Nat) (l:List Nat):Bool:=
 l.all fun j=>Nat.beq (j % 50) 0 && match t (j / 50) with
  | some f=>Nat.beq f.g g && (match ft g with
    | some fn=>fn.body.isSome
    | none=>false)
  | none=>false
theorem NP: ∀{a b:List Nat},jF a b=true→a=b
 | [],[],_=>rfl
 | [],_ :: _,h=>by simp [jF] at h
 | _ :: _,[],h=>by simp [jF] at h
 | a :: x,b :: y,h=>by
   simp only [jF] at h
   split at h
   ·rename_i h1
    rw [Nat.eq_of_beq_eq_true h1,NP h]
   ·simp at h
theorem FV {p:List Nat}: ∀{l:List (List Nat×CS)} {n j:Nat} {c:CS},(j,c)∈idxs p l n→∃i,l[i]?=some (p,c)∧j=n+i
 | [],n,j,c,h=>by simp [idxs] at h
 | (q,c0) :: l,n,j,c,h=>by
   simp only [idxs] at h
   split at h
   ·rename_i hq
    rcases List.mem_cons.1 h with h | h
    ·simp only [Prod.mk.injEq] at h
     obtain⟨rfl,rfl⟩:=h
     exact⟨0,by rw [NP hq]; rfl,rfl⟩
    ·obtain⟨i,h1,h2⟩:=FV h
     exact⟨i+1,by simpa using h1,by omega⟩
   ·obtain⟨i,h1,h2⟩:=FV h
    exact⟨i+1,by simpa using h1,by omega⟩
structure agH where
 P:Program
 G:Xr
 tt:TT
 ft:Nat→Option Func
 chk:Nat→Nat→List Oper→Bool
 draw:dU→Nat→Nat→List Oper→St→T St
 DR:Nat→Option (List AV→St→T (AV×St))
 t:Nat→Option FE
 nums:Nat→List Nat
noncomputable def agH.sys (S:agH):Sys:=⟨S.P,S.G,S.tt,S.ft,S.chk,S.draw,S.DR,40,60,S.nums,Aj S.t⟩
theorem NQ {t:Nat→Option FE} {j:Nat} {e:Hg} (h:Aj t j=some e): ∃f pos,t (j / 50)=some f∧e= { f.ent with pos:=pos }:=by
 unfold Aj at h
 split at h
 ·simp at h
 ·rename_i f hf
  split at h
  ·simp only [Option.some.injEq] at h
   exact⟨f,none,hf,h.symm⟩
  ·split at h
   ·rename_i x hx
    simp only [Option.some.injEq] at h
    exact⟨f,some x,hf,h.symm⟩
   ·simp at h
theorem arP {S:agH} (h1:eG S.P S.tt) (h2:agI S.P S.chk S.ft) (h3: ∀(I:Glob) call,@jR I S.P call→∀g,@BZ I S.P (S.chk g) (S.draw call g)) (h4: ∀(I:Glob),(∀ρ ro h,I.ok ρ ro h→S.G.ok ro h)→∀g h,S.DR g=some h→@mJ I S.P g h)
 (h5: ∀k f,S.t k=some f→amH S.ft k f=true) (h6: ∀g,VJ S.ft S.t g (S.nums g)=true):Oz S.sys where
 tt:=h1
 ft:=h2
 draw:=h3
 DR:=h4
 run:=by
  intro g j hj args w
  have hn:=h6 g
  unfold VJ at hn
  have:=List.all_eq_true.1 hn j hj
  simp only [Bool.and_eq_true] at this
  obtain⟨_,h⟩:=this
  split at h
  ·simp only [Bool.and_eq_true] at h
   obtain⟨_,h⟩:=h
   split at h
   ·rename_i fn hfn
    obtain⟨q1,q2,_⟩:=h2 g fn hfn
    obtain⟨c,hb⟩:=Option.isSome_iff_exists.1 h
    unfold callFunc
    simp [agH.sys,q1,hb,by simpa using q2]
   ·simp at h
  ·simp at h
 num:=by
  intro g j e hj he
  have hn:=h6 g
  unfold VJ at hn
  have:=List.all_eq_true.1 hn j hj
  simp only [Bool.and_eq_true] at this
  obtain⟨hm,h⟩:=this
  have hm:=Nat.eq_of_beq_eq_true hm
  have he':Aj S.t j=some e:=he
  unfold Aj at he'
  split at h
  ·rename_i f hf
   rw [hf,hm] at he'
   simp only [Option.some.injEq] at he'
   subst he'
   simp only [Bool.and_eq_true] at h
   have hok:=h5 _ _ hf
   unfold amH at hok
   simp only [Bool.and_eq_true] at hok
   obtain⟨⟨_,hp⟩,_⟩:=hok
   refine⟨Nat.eq_of_beq_eq_true h.1,rfl,?_⟩
   show (match f.pat with
    | none=>_
    | some (c,dY,_)=>_)
   cases hpat:f.pat with
   | none=>
     rw [hpat] at hp
     simp only [Bool.and_eq_true] at hp
     refine⟨Nat.le_of_ble_eq_true hp.1,?_⟩
     show f.vK= []
     cases hr:f.vK with
     | nil=>rfl
     | cons a l=>rw [hr] at hp; simp [aCY] at hp
   | some q=>
     obtain⟨c,dY,ko⟩:=q
     rw [hpat] at hp
     simp only [Bool.and_eq_true] at hp
     obtain⟨⟨⟨⟨⟨p1,p2⟩,p3⟩,p4⟩,_⟩,_⟩:=hp
     exact⟨p1,Nat.le_of_ble_eq_true p2,Nat.eq_of_beq_eq_true p3,fun _=>p4⟩
  ·simp at h
 outs:=by
  intro j e he
  obtain⟨f,pos,hf,rfl⟩:=NQ he
  have hok:=h5 _ _ hf
  unfold amH at hok
  simp only [Bool.and_eq_true] at hok
  obtain⟨⟨⟨_,hg⟩,hp⟩,_⟩:=hok
  refine⟨?_,?_,Nat.le_of_ble_eq_true hg⟩
  ·unfold Hg.dY Hg.ko
   show qI (match f.pat with | none=>0 | some (_,_,k)=>k) (match f.pat with | none=>[] | some (_,o,_)=>o)=true
   cases hpat:f.pat with
   | none=>rfl
   | some q=>
     obtain⟨c,dY,ko⟩:=q
     rw [hpat] at hp
     simp only [Bool.and_eq_true] at hp
     exact hp.1.2
  ·unfold Hg.ko
   show (match f.pat with | none=>0 | some (_,_,k)=>k)≤900
   cases hpat:f.pat with
   | none=>exact Nat.zero_le _
   | some q=>
     obtain⟨c,dY,ko⟩:=q
     rw [hpat] at hp
     simp only [Bool.and_eq_true] at hp
     exact Nat.le_of_ble_eq_true hp.2
 ents:=by
  intro j e he fn body hfn hb
  obtain⟨f,pos,hf,rfl⟩:=NQ he
  have hok:=h5 _ _ hf
  unfold amH at hok
  simp only [Bool.and_eq_true] at hok
  obtain⟨⟨⟨⟨hno,hlen⟩,_⟩,_⟩,hl⟩:=hok
  have hno:=Nat.eq_of_beq_eq_true hno
  have hlen:f.loops.length < 50:=Nat.lt_of_succ_le (by simpa [Nat.blt] using hlen)
  have hfn':S.ft f.g=some fn:=hfn
  rw [hfn'] at hl
  simp only [hb] at hl
  intro p l hp
  have hp':f.tabs p=some l:=hp
  have hl0:l=idxs p f.loops (f.no+1)∧l≠[]:=by
   unfold FE.tabs at hp'
   split at hp'
   ·simp at hp'
   ·rename_i x l' hx
    simp only [Option.some.injEq] at hp'
    rw [hx,hp']
    exact⟨rfl,by rw [← hp']; simp⟩
  have hat: ∀i c,f.loops[i]?=some (p,c)→TP f.jS body (p,c)=true:=fun i c hi=>List.all_eq_true.1 hl _ (List.mem_of_getElem? hi)
  constructor
  ·obtain⟨hl1,hl2⟩:=hl0
   cases hc:l with
   | nil=>exact absurd hc hl2
   | cons x l'=>
     obtain⟨j',c⟩:=x
     have:(j',c)∈idxs p f.loops (f.no+1):=by rw [← hl1,hc]; simp
     obtain⟨i,hi,_⟩:=FV this
     have:=hat i c hi
     unfold TP at this
     simp only [Bool.and_eq_true] at this
     have hi:=this.1.1.1
     unfold alG at hi
     split at hi
     ·rename_i c' fr heq
      split at hi
      ·rename_i b
       exact⟨b,fr,heq⟩
      ·simp at hi
     ·simp at hi
  ·intro j' c hc
   rw [hl0.1] at hc
   obtain⟨i,hi,rfl⟩:=FV hc
   have hil:=(List.getElem?_eq_some_iff.1 hi).1
   have:=hat i c hi
   unfold TP at this
   simp only [Bool.and_eq_true] at this
   obtain⟨⟨⟨_,q1⟩,q2⟩,q3⟩:=this
   refine⟨?_,q1,Nat.le_of_ble_eq_true q2,Nat.le_of_ble_eq_true q3⟩
   show Aj S.t (f.no+1+i)=_
   have hd:(f.no+1+i) / 50=j / 50:=by rw [hno]; omega
   have hm:(f.no+1+i) % 50=i+1:=by rw [hno]; omega
   unfold Aj
   rw [hd,hf,hm]
   simp only
   rw [dB,hi]
end Go.As
end
section
namespace Go.As
open Go.RowKit
def u8L (l:List Int):List AV:=l.map fun n=> .int .u8 (.lit n)
noncomputable section
def a0 (j:Nat) (l:List SE):SE:=.ap (2*j) (iG l)
def a1 (j:Nat) (l:List SE):SE:=.ap (2*j+1) (iG l)
def rr (j:Nat) (l:List SE) (i:Nat):SE:=sU (.ap (2*j+1) (iG l)) i
def nm (x:SE):SE:=.op .num x (.lit 0)
def mk (x:SE):SE:=.op .mk x (.lit 0)
def ln (x:SE):SE:=.op .len x (.lit 0)
def ce (j:Nat) (x:SE):SE:=.op (.cell j) x (.lit 0)
def el (x y:SE):SE:=.op .at x y
def cn (x y:SE):SE:=.op .cons x y
def wr (x:SE):SE:=.wrap .i64 x
def sp (c:SB) (a b:T Lf):T Lf:=.split c a b
def ou (l:List SE):T Lf:=.ret (.out l)
def ju (j:Nat) (l:List SE):T Lf:=.ret (.jump j l)
def fl:T Lf:=.fail
end
end Go.As
end
section
namespace Go.As
open Go.RowKit
def Dw (kn:List (Nat×SE)):SE→Bool
 | .ap f a=>Dw kn a && kn.any fun p=>Nat.beq f (2*p.1+1) && gB a p.2
 | .op _ a b=>Dw kn a && Dw kn b
 | .add a b=>Dw kn a && Dw kn b
 | .sub a b=>Dw kn a && Dw kn b
 | .mul a b=>Dw kn a && Dw kn b
 | .quo a b=>Dw kn a && Dw kn b
 | .rem a b=>Dw kn a && Dw kn b
 | .wrap _ a=>Dw kn a
 | .inp _ _=>false
 | .lit _=>true
 | .dat _=>true
 | .aQ i=>Nat.blt i 900
def okC (kn:List (Nat×SE)):SB→Bool
 | .lit _=>true
 | .lt a b=>Dw kn a && Dw kn b
 | .le a b=>Dw kn a && Dw kn b
 | .eq a b=>Dw kn a && Dw kn b
 | .not a=>okC kn a
 | .and a b=>okC kn a && okC kn b
def callOf:SB→Option (Nat×SE)
 | .eq x y=>match x with
   | .ap f a=>match y with
     | .lit n=>match Bl n 1 && Nat.beq (f % 2) 0 with
       | true=>some (f / 2,a)
       | false=>none
     | _=>none
   | _=>none
 | _=>none
def aAx:T Lf→Bool
 | .fail=>true
 | _=>false
def akB (kn:List (Nat×SE)):List SE→Bool
 | []=>true
 | e :: l=>Dw kn e && akB kn l
def Xy (kn:List (Nat×SE)):T Lf→Bool
 | .fail=>true
 | .ret l=>match l with
   | .out es=>akB kn es
   | .jump _ es=>akB kn es
 | .split c x y=>match callOf c with
   | some p=>Dw kn p.2 && Xy (p :: kn) x && aAx y
   | none=>okC kn c && Xy kn x && Xy kn y
inductive RS where
 | no
 | out (ys:List Int)
 | jump (j:Nat) (xs:List Int)
noncomputable def eF (ρ:Nat→Int):T Lf→RS
 | .fail=> .no
 | .ret l=>match l with
   | .out es=> .out (es.map (SE.den ρ))
   | .jump j es=> .jump j (es.map (SE.den ρ))
 | .split c x y=>if c.den ρ=true then eF ρ x else eF ρ y
theorem Fp {tree:Nat→T Lf} {n j:Nat} {xs:List Int}:eX tree (n+1) j xs=match eF (dK (eX tree n) (low xs)) (tree j) with
 | .no=>none
 | .out ys=>some ys
 | .jump j' xs'=>eX tree n j' xs':=by
 have: ∀t:T Lf,(match t.leaf (dK (eX tree n) (low xs)) with
  | none=>none
  | some (.out es)=>some (es.map (SE.den (dK (eX tree n) (low xs))))
  | some (.jump j' es)=>eX tree n j' (es.map (SE.den (dK (eX tree n) (low xs)))))=match eF (dK (eX tree n) (low xs)) t with
  | .no=>none
  | .out ys=>some ys
  | .jump j' xs'=>eX tree n j' xs':=by
  intro t
  induction t with
  | fail=>rfl
  | ret l=>cases l <;> rfl
  | split c x y ihx ihy=>
    simp only [T.leaf,eF]
    cases hc:c.den (dK (eX tree n) (low xs)) with
    | true=>simpa [hc] using ihx
    | false=>simpa [hc] using ihy
 exact this (tree j)
def Fle (F F':Hf):Prop:= ∀j xs ys,F j xs=some ys→F' j xs=some ys
def Kn (F F':Hf) (lo:Nat→Int) (kn:List (Nat×SE)):Prop:= ∀p∈kn,p.2.den (dK F lo)=p.2.den (dK F' lo)∧∃xs ys,p.2.den (dK F lo)=pX xs∧F p.1 xs=some ys
theorem Rl {F:Hf} {lo:Nat→Int} {j:Nat} {z:Int} (h:dK F lo (kE (2*j) z)=1): ∃xs ys,z=pX xs∧F j xs=some ys:=by
 have h1:=BU (2*j) z
 unfold dK at h
 rw [if_neg (by omega)] at h
 split at h
 ·rename_i hp
  obtain⟨q1,q2⟩:=yE hp.choose_spec
  have q1:hp.choose.1=j:=by omega
  split at h
  ·rename_i hs
   obtain⟨ys,hy⟩:=Option.isSome_iff_exists.1 hs
   refine⟨hp.choose.2,ys,q2,?_⟩
   generalize hp.choose=q at q1 hy
   subst q1
   exact hy
  ·omega
 ·split at h
  ·rename_i hp
   have:=(yE hp.choose_spec).1
   omega
  ·omega
section
variable {F F':Hf} {lo:Nat→Int}
theorem gX (hF:Fle F F') {kn:List (Nat×SE)} (hk:Kn F F' lo kn): ∀{e:SE},Dw kn e=true→e.den (dK F lo)=e.den (dK F' lo)
 | .ap f a,h=>by
   simp only [Dw,Bool.and_eq_true] at h
   have ha:=gX hF hk h.1
   obtain⟨p,hp,hq⟩:=List.any_eq_true.1 h.2
   simp only [Bool.and_eq_true] at hq
   have h1:=Nat.eq_of_beq_eq_true hq.1
   have h2:=bW _ _ hq.2
   subst h2
   obtain⟨k1,xs,ys,k2,k3⟩:=hk p hp
   simp only [SE.den]
   rw [← k1,k2,h1,(nP F lo p.1 xs).2,(nP F' lo p.1 xs).2,k3,hF _ _ _ k3]
 | .op o a b,h=>by simp only [Dw,Bool.and_eq_true] at h; simp only [SE.den,gX hF hk h.1,gX hF hk h.2]
 | .add a b,h=>by simp only [Dw,Bool.and_eq_true] at h; simp only [SE.den,gX hF hk h.1,gX hF hk h.2]
 | .sub a b,h=>by simp only [Dw,Bool.and_eq_true] at h; simp only [SE.den,gX hF hk h.1,gX hF hk h.2]
 | .mul a b,h=>by simp only [Dw,Bool.and_eq_true] at h; simp only [SE.den,gX hF hk h.1,gX hF hk h.2]
 | .quo a b,h=>by simp only [Dw,Bool.and_eq_true] at h; simp only [SE.den,gX hF hk h.1,gX hF hk h.2]
 | .rem a b,h=>by simp only [Dw,Bool.and_eq_true] at h; simp only [SE.den,gX hF hk h.1,gX hF hk h.2]
 | .wrap k a,h=>by simp only [Dw] at h; simp only [SE.den,gX hF hk h]
 | .inp _ _,h=>by simp [Dw] at h
 | .lit _,_=>rfl
 | .dat _,_=>rfl
 | .aQ i,h=>by
   have hi:i < 900:=Nat.lt_of_succ_le (by simpa [Dw,Nat.blt] using h)
   simp only [SE.den]
   rw [vC hi,vC hi]
theorem FH (hF:Fle F F') {kn:List (Nat×SE)} (hk:Kn F F' lo kn): ∀{c:SB},okC kn c=true→c.den (dK F lo)=c.den (dK F' lo)
 | .lit _,_=>rfl
 | .lt a b,h=>by simp only [okC,Bool.and_eq_true] at h; simp only [SB.den,gX hF hk h.1,gX hF hk h.2]
 | .le a b,h=>by simp only [okC,Bool.and_eq_true] at h; simp only [SB.den,gX hF hk h.1,gX hF hk h.2]
 | .eq a b,h=>by simp only [okC,Bool.and_eq_true] at h; simp only [SB.den,gX hF hk h.1,gX hF hk h.2]
 | .not a,h=>by simp only [okC] at h; simp only [SB.den,FH hF hk h]
 | .and a b,h=>by simp only [okC,Bool.and_eq_true] at h; simp only [SB.den,FH hF hk h.1,FH hF hk h.2]
theorem Bd (hF:Fle F F') {kn:List (Nat×SE)} (hk:Kn F F' lo kn): ∀{es:List SE},akB kn es=true→es.map (SE.den (dK F lo))=es.map (SE.den (dK F' lo))
 | [],_=>rfl
 | e :: l,h=>by
   simp only [akB,Bool.and_eq_true] at h
   simp only [List.map_cons,gX hF hk h.1,Bd hF hk h.2]
theorem Jt {c:SB} {p:Nat×SE} (h:callOf c=some p):c= .eq (.ap (2*p.1) p.2) (.lit 1):=by
 cases c with
 | eq x y=>
   cases x with
   | ap f a=>
     cases y with
     | lit n=>
       simp only [callOf] at h
       split at h
       ·rename_i hb
        simp only [Option.some.injEq] at h
        simp only [Bool.and_eq_true] at hb
        have h1:=CY hb.1
        have h2:=Nat.eq_of_beq_eq_true hb.2
        subst h
        show SB.eq (.ap f a) (.lit n)= .eq (.ap (2*(f / 2)) a) (.lit 1)
        rw [show 2*(f / 2)=f by omega,h1]
       ·simp at h
     | _=>simp [callOf] at h
   | _=>simp [callOf] at h
 | _=>simp [callOf] at h
theorem Fa (hF:Fle F F'): ∀{t:T Lf} {kn:List (Nat×SE)},Kn F F' lo kn→Xy kn t=true→eF (dK F lo) t≠.no→eF (dK F' lo) t=eF (dK F lo) t
 | .fail,_,_,_,h=>absurd rfl h
 | .ret (.out es),_,hk,ho,_=>by simp only [Xy] at ho; simp only [eF,Bd hF hk ho]
 | .ret (.jump j es),_,hk,ho,_=>by simp only [Xy] at ho; simp only [eF,Bd hF hk ho]
 | .split c x y,kn,hk,ho,h=>by
   simp only [Xy] at ho
   split at ho
   ·rename_i p hp
    simp only [Bool.and_eq_true] at ho
    obtain⟨⟨h1,h2⟩,h3⟩:=ho
    have hc:=Jt hp
    subst hc
    have hy:y= .fail:=by
     cases y <;> simp [aAx] at h3 <;> rfl
    subst hy
    have hd:=gX hF hk h1
    simp only [eF,SB.den,SE.den] at h ⊢
    by_cases h4:dK F lo (kE (2*p.1) (p.2.den (dK F lo)))=1
    ·obtain⟨xs,ys,e1,e2⟩:=Rl h4
     have e3:=hF _ _ _ e2
     have h5:dK F' lo (kE (2*p.1) (p.2.den (dK F' lo)))=1:=by
      rw [← hd,e1,(nP F' lo p.1 xs).1,e3]
      rfl
     have c4:(dK F lo (kE (2*p.1) (p.2.den (dK F lo))) == 1)=true:=by rw [h4]; rfl
     have c5:(dK F' lo (kE (2*p.1) (p.2.den (dK F' lo))) == 1)=true:=by rw [h5]; rfl
     simp only [c4,c5,if_true] at h ⊢
     refine Fa hF (kn:=p :: kn) ?_ h2 h
     intro q hq
     rcases List.mem_cons.1 hq with rfl | hq
     ·exact⟨hd,xs,ys,e1,e2⟩
     ·exact hk q hq
    ·have c4:(dK F lo (kE (2*p.1) (p.2.den (dK F lo))) == 1)=false:=by simpa using h4
     simp only [c4,Bool.false_eq_true,if_false] at h
     exact absurd rfl h
   ·simp only [Bool.and_eq_true] at ho
    obtain⟨⟨h1,h2⟩,h3⟩:=ho
    have hc:=FH hF hk h1
    simp only [eF] at h ⊢
    rw [← hc]
    by_cases h4:c.den (dK F lo)=true
    ·rw [if_pos h4] at h ⊢
     rw [if_pos h4]
     exact Fa hF hk h2 h
    ·rw [if_neg h4] at h ⊢
     rw [if_neg h4]
     exact Fa hF hk h3 h
end
section
variable {tree:Nat→T Lf} (hok: ∀j,Xy [] (tree j)=true)
include hok
theorem Po {n:Nat} {F':Hf} (hF:Fle (eX tree n) F') {j:Nat} {xs ys:List Int} (h:eX tree (n+1) j xs=some ys) :
 (match eF (dK F' (low xs)) (tree j) with
 | .no=>none
 | .out ys=>some ys
 | .jump j' xs'=>F' j' xs')=some ys:=by
 rw [Fp] at h
 have hne:eF (dK (eX tree n) (low xs)) (tree j)≠.no:=by
  intro he
  rw [he] at h
  simp at h
 rw [Fa hF (kn:=[]) (by intro p hp; simp at hp) (hok j) hne]
 split at h
 ·simp at h
 ·rename_i heq; exact h
 ·rename_i heq; exact hF _ _ _ h
theorem Pq: ∀n,Fle (eX tree n) (eX tree (n+1))
 | 0=>fun j xs ys h=>by simp [eX] at h
 | n+1=>fun j xs ys h=>by
   rw [Fp (n:=n+1)]
   exact Po hok (Pq n) h
theorem Fq {n m:Nat} (h:n≤m):Fle (eX tree n) (eX tree m):=by
 induction h with
 | refl=>exact fun _ _ _ h=>h
 | step _ ih=>exact fun j xs ys h=>Pq hok _ _ _ _ (ih _ _ _ h)
end
open Classical in
noncomputable def lim' (tree:Nat→T Lf):Hf:=fun j xs=>if h: ∃n ys,eX tree n j xs=some ys then some h.choose_spec.choose else none
section
variable {tree:Nat→T Lf} (hok: ∀j,Xy [] (tree j)=true)
include hok
theorem YC {n j:Nat} {xs ys:List Int} (h:eX tree n j xs=some ys):lim' tree j xs=some ys:=by
 unfold lim'
 have he: ∃n ys,eX tree n j xs=some ys:=⟨n,ys,h⟩
 rw [dif_pos he]
 have h2:=he.choose_spec.choose_spec
 have h3:=Fq hok (Nat.le_max_left n he.choose) _ _ _ h
 have h4:=Fq hok (Nat.le_max_right n he.choose) _ _ _ h2
 rw [h3] at h4
 exact h4.symm
omit hok in
theorem TS {j:Nat} {xs ys:List Int} (h:lim' tree j xs=some ys): ∃n,eX tree n j xs=some ys:=by
 unfold lim' at h
 split at h
 ·rename_i he
  simp only [Option.some.injEq] at h
  exact⟨he.choose,by rw [← h]; exact he.choose_spec.choose_spec⟩
 ·simp at h
theorem MH (n:Nat):Fle (eX tree n) (lim' tree):=fun _ _ _ h=>YC hok h
def KnS (tree:Nat→T Lf) (n0:Nat) (lo:Nat→Int) (kn:List (Nat×SE)):Prop:= ∀m,n0≤m→Kn (eX tree m) (lim' tree) lo kn
theorem AA {lo:Nat→Int}: ∀{t:T Lf} {kn:List (Nat×SE)} (n0:Nat),KnS tree n0 lo kn→Xy kn t=true→eF (dK (lim' tree) lo) t≠.no→∃n,∀m,n≤m→eF (dK (eX tree m) lo) t=eF (dK (lim' tree) lo) t
 | .fail,_,_,_,_,h=>absurd rfl h
 | .ret (.out es),_,n0,hk,ho,_=> ⟨n0,fun m hm=>by simp only [Xy] at ho; simp only [eF,Bd (MH hok m) (hk m hm) ho]⟩
 | .ret (.jump j es),_,n0,hk,ho,_=> ⟨n0,fun m hm=>by simp only [Xy] at ho; simp only [eF,Bd (MH hok m) (hk m hm) ho]⟩
 | .split c x y,kn,n0,hk,ho,h=>by
   simp only [Xy] at ho
   split at ho
   ·rename_i p hp
    simp only [Bool.and_eq_true] at ho
    obtain⟨⟨h1,h2⟩,h3⟩:=ho
    have hc:=Jt hp
    subst hc
    have hy:y= .fail:=by
     cases y <;> simp [aAx] at h3 <;> rfl
    subst hy
    have hd: ∀m,n0≤m→p.2.den (dK (eX tree m) lo)=p.2.den (dK (lim' tree) lo):=fun m hm=>gX (MH hok m) (hk m hm) h1
    simp only [eF,SB.den,SE.den] at h ⊢
    by_cases h4:dK (lim' tree) lo (kE (2*p.1) (p.2.den (dK (lim' tree) lo)))=1
    ·have c4:(dK (lim' tree) lo (kE (2*p.1) (p.2.den (dK (lim' tree) lo))) == 1)=true:=by rw [h4]; rfl
     obtain⟨xs,ys,e1,e2⟩:=Rl h4
     obtain⟨n1,e3⟩:=TS e2
     simp only [c4,if_true] at h ⊢
     have hk2:KnS tree (max n0 n1) lo (p :: kn):=by
      intro m hm q hq
      rcases List.mem_cons.1 hq with rfl | hq
      ·refine⟨hd m (by omega),xs,ys,by rw [hd m (by omega)]; exact e1,Fq hok (show n1≤m by omega) _ _ _ e3⟩
      ·exact hk m (by omega) q hq
     obtain⟨n2,h5⟩:=AA (max n0 n1) hk2 h2 h
     refine⟨max (max n0 n1) n2,fun m hm=>?_⟩
     have c5:(dK (eX tree m) lo (kE (2*p.1) (p.2.den (dK (eX tree m) lo))) == 1)=true:=by
      rw [hd m (by omega),e1,(nP (eX tree m) lo p.1 xs).1,Fq hok (show n1≤m by omega) _ _ _ e3]
      rfl
     simp only [c5,if_true]
     exact h5 m (by omega)
    ·have c4:(dK (lim' tree) lo (kE (2*p.1) (p.2.den (dK (lim' tree) lo))) == 1)=false:=by simpa using h4
     simp only [c4,Bool.false_eq_true,if_false] at h
     exact absurd rfl h
   ·simp only [Bool.and_eq_true] at ho
    obtain⟨⟨h1,h2⟩,h3⟩:=ho
    have hc: ∀m,n0≤m→c.den (dK (eX tree m) lo)=c.den (dK (lim' tree) lo):=fun m hm=>FH (MH hok m) (hk m hm) h1
    simp only [eF] at h ⊢
    by_cases h4:c.den (dK (lim' tree) lo)=true
    ·rw [if_pos h4] at h
     obtain⟨n2,h5⟩:=AA n0 hk h2 h
     refine⟨max n0 n2,fun m hm=>?_⟩
     rw [hc m (by omega),if_pos h4,if_pos h4]
     exact h5 m (by omega)
    ·rw [if_neg h4] at h
     obtain⟨n2,h5⟩:=AA n0 hk h3 h
     refine⟨max n0 n2,fun m hm=>?_⟩
     rw [hc m (by omega),if_neg h4,if_neg h4]
     exact h5 m (by omega)
noncomputable def fin (F:Hf):RS→Option (List Int)
 | .no=>none
 | .out ys=>some ys
 | .jump j xs=>F j xs
theorem aAs (j:Nat) (xs:List Int):lim' tree j xs=fin (lim' tree) (eF (dK (lim' tree) (low xs)) (tree j)):=by
 cases h:lim' tree j xs with
 | some ys=>
   obtain⟨n,hn⟩:=TS h
   cases n with
   | zero=>simp [eX] at hn
   | succ n=>
     have:=Po hok (MH hok n) hn
     rw [← this]
     cases eF (dK (lim' tree) (low xs)) (tree j) <;> rfl
 | none=>
   cases hs:eF (dK (lim' tree) (low xs)) (tree j) with
   | no=>rfl
   | out ys=>
     exfalso
     obtain⟨n,hn⟩:=AA hok (lo:=low xs) (t:=tree j) (kn:=[]) 0 (by intro m _ p hp; simp at hp) (hok j) (by rw [hs]; simp)
     have:eX tree (n+1) j xs=some ys:=by rw [Fp,hn n (Nat.le_refl _),hs]
     rw [YC hok this] at h
     simp at h
   | jump j' xs'=>
     show none=lim' tree j' xs'
     cases h2:lim' tree j' xs' with
     | none=>rfl
     | some ys=>
       exfalso
       obtain⟨n,hn⟩:=AA hok (lo:=low xs) (t:=tree j) (kn:=[]) 0 (by intro m _ p hp; simp at hp) (hok j) (by rw [hs]; simp)
       obtain⟨n2,h3⟩:=TS h2
       have:eX tree (max n n2+1) j xs=some ys:=by
        rw [Fp,hn _ (Nat.le_max_left _ _),hs]
        exact Fq hok (Nat.le_max_right n n2) _ _ _ h3
       rw [YC hok this] at h
       simp at h
end
end Go.As
end
section
namespace Go.As
open Go.RowKit
theorem adO {S:agH} {j:Nat} (h:Aj S.t j=none):Xy [] (S.sys.tree j)=true:=by
 have:S.sys.tree j= .fail:=by
  unfold Sys.tree
  show (match Aj S.t j with | none=>T.fail | some e=>rJ S.sys e)=_
  rw [h]
 rw [this]
 rfl
def alK (j:Nat):List Nat→Bool
 | []=>false
 | i :: l=>match Nat.beq i j with
   | true=>true
   | false=>alK j l
theorem V6 {j:Nat}: ∀{l:List Nat},alK j l=true→j∈l
 | [],h=>by simp [alK] at h
 | i :: l,h=>by
   simp only [alK] at h
   split at h
   ·rename_i hb
    rw [Nat.eq_of_beq_eq_true hb]
    simp
   ·exact List.mem_cons_of_mem _ (V6 h)
def ayP (t:Nat→Option FE) (N:Nat) (l:List Nat):Bool:=(List.range N).all fun k=>match t k with
 | none=>true
 | some f=>(List.range (f.loops.length+1)).all fun i=>alK (50*k+i) l
theorem cov {t:Nat→Option FE} {N:Nat} {l:List Nat} (h:ayP t N l=true) (hN: ∀k,N≤k→t k=none) {j:Nat} {e:Hg} (he:Aj t j=some e):j∈l:=by
 unfold Aj at he
 split at he
 ·simp at he
 ·rename_i f hf
  have hk:j / 50 < N:=by
   rcases Nat.lt_or_ge (j / 50) N with h1 | h1
   ·exact h1
   ·rw [hN _ h1] at hf; simp at hf
  have:=List.all_eq_true.1 h _ (List.mem_range.2 hk)
  rw [hf] at this
  have hm:j % 50 < f.loops.length+1:=by
   split at he
   ·omega
   ·rename_i i hi
    split at he
    ·rename_i x hx
     rw [dB] at hx
     have:=(List.getElem?_eq_some_iff.1 hx).1
     omega
    ·simp at he
  have:=V6 (List.all_eq_true.1 this _ (List.mem_range.2 hm))
  rwa [show 50*(j / 50)+j % 50=j by omega] at this
theorem akZ {α:Type} {n:Nat} {t:Tr α} {k:Nat} (h:n≤k):lim n t k=none:=by
 unfold lim
 rw [Nat.ble_eq_true_of_le h]
section
variable {F:Hf} {lo:Nat→Int} {ρ:Nat→Int} {xs:List Int}
theorem dS (c:SB) (a b:T Lf):eF ρ (sp c a b)=if c.den ρ=true then eF ρ a else eF ρ b:=rfl
theorem jP (l:List SE):eF ρ (ou l)= .out (l.map (SE.den ρ)):=rfl
theorem nZ (j:Nat) (l:List SE):eF ρ (ju j l)= .jump j (l.map (SE.den ρ)):=rfl
theorem yN:eF ρ fl= .no:=rfl
theorem bH {i:Nat} (h:i < 900):(SE.aQ i).den (dK F lo)=lo i:=vC h
theorem aN (x:Int):low (x :: xs) 0=x:=rfl
theorem aO (x:Int) (i:Nat):low (x :: xs) (i+1)=low xs i:=rfl
theorem bP (n:Int):(SE.lit n).den ρ=n:=rfl
theorem iP (d:D):(SE.dat d).den ρ=enc d:=rfl
theorem den_add (a b:SE):(SE.add a b).den ρ=a.den ρ+b.den ρ:=rfl
theorem avA (a b:SE):(SE.sub a b).den ρ=a.den ρ - b.den ρ:=rfl
theorem BK (a:SE):(wr a).den ρ=IntKind.i64.wrap (a.den ρ):=rfl
theorem IE (a:SE):(nm a).den ρ=(dec (a.den ρ)).n:=rfl
theorem NY (a:SE):(mk a).den ρ=enc (.i (a.den ρ)):=rfl
theorem gY (a:SE):(ln a).den ρ=((dec (a.den ρ)).l.length:Int):=rfl
theorem apF (j:Nat) (a:SE):(ce j a).den ρ=enc ((dec (a.den ρ)).hd j):=rfl
theorem IG (a b:SE):(el a b).den ρ=enc ((dec (a.den ρ)).at (b.den ρ)):=rfl
theorem NZ (a b:SE):(cn a b).den ρ=enc (.p (dec (a.den ρ)) (dec (b.den ρ))):=rfl
theorem NW (o:aG) (a b:SE):(SE.op o a b).den ρ=o.den (a.den ρ) (b.den ρ):=rfl
theorem iI (j:Nat) (l:List SE):(a0 j l).den (dK F lo)=if (F j (l.map (SE.den (dK F lo)))).isSome=true then 1 else 0:=by
 unfold a0
 show dK F lo (kE (2*j) ((iG l).den (dK F lo)))=_
 rw [kZ,(nP F lo j _).1]
theorem gJ (j:Nat) (l:List SE) (i:Nat):(rr j l i).den (dK F lo)=low ((F j (l.map (SE.den (dK F lo)))).getD []) i:=by
 unfold rr sU
 show (dec (enc ((dec (dK F lo (kE (2*j+1) ((iG l).den (dK F lo))))).hd i))).n=_
 rw [kZ,(nP F lo j _).2,aC]
 simp only [pX,aC,D.hd,aX,List.getElem?_map]
 unfold low
 rw [List.getD_eq_getElem?_getD]
 cases ((F j (l.map (SE.den (dK F lo)))).getD [])[i]? <;> rfl
theorem iL (a b:SE):((SB.eq a b).den ρ=true)=(a.den ρ=b.den ρ):=by simp [SB.den]
theorem oL (a b:SE):((SB.lt a b).den ρ=true)=(a.den ρ < b.den ρ):=by simp [SB.den]
theorem Lm (a:SB):((SB.not a).den ρ=true)= ¬(a.den ρ=true):=by simp [SB.den]
end
end Go.As
end
section
namespace Go.As
open Go.RowKit
def iT:IntKind→Int→Prop
 | .i64,n=> -9223372036854775808≤n∧n≤9223372036854775807
 | .u8,n=>0≤n∧n≤255
 | _,_=>True
def yD:Nat→Nat
 | 0=>8
 | 1=>8
 | 2=>16
 | 3=>56
 | 4=>64
 | 5=>64
 | 6=>56
 | 7=>80
 | 8=>64
 | 9=>40
 | 10=>24
 | 11=>24
 | 12=>16
 | 13=>40
 | 14=>1
 | 15=>24
 | _=>1
theorem apW (t:Nat):1≤yD t:=by
 unfold yD
 split <;> omega
inductive Wd:CK→D→Prop where
 | int (k:IntKind) (n:Int) (h:iT k n):Wd (.int k) (.i n)
 | bool (b:Bool):Wd .bool (.i (if b then 1 else 0))
 | str (s:ByteArray) (h:s.size≤140737488351232):Wd .str (Aa s)
 | nil (t:Nat):Wd (.sl t) (.i 1)
 | non (t:Nat):Wd (.sl t) (.i 2)
 | one (t:Nat) (c:CK) (ds:List D) (hr:rowOf t= .one c) (hn:ds≠[]) (hm:ds.length*yD t≤140737488351232) (h: ∀d∈ds,Wd c d):Wd (.sl t) (dL ds)
 | many (t:Nat) (cs:List CK) (rows:List (List D)) (hr:rowOf t= .many cs) (hn:rows≠[]) (hm:rows.length*yD t≤140737488351232) (hl: ∀r∈rows,r.length=cs.length)
  (h: ∀r∈rows,∀(j:Nat) (d:D) (c:CK),r[j]?=some d→cs[j]?=some c→Wd c d):Wd (.sl t) (dL (rows.map dL))
def Sh (d:D):Prop:=d= .i 1∨d= .i 2∨(d=dL d.l∧d.l≠[])
theorem Wd.sh {t:Nat} {d:D} (h:Wd (.sl t) d):Sh d:=by
 cases h with
 | nil=>exact .inl rfl
 | non=>exact .inr (.inl rfl)
 | one _ c ds hr hn hm h=>exact .inr (.inr ⟨by rw [aX],by rw [aX]; exact hn⟩)
 | many _ cs rows hr hn hm hl h=>exact .inr (.inr ⟨by rw [aX],by rw [aX]; simpa using hn⟩)
theorem Wd.i {k:IntKind} {d:D} (h:Wd (.int k) d): ∃n,d= .i n∧iT k n:=by
 cases h with
 | int _ n h=>exact⟨n,rfl,h⟩
theorem Wd.b {d:D} (h:Wd .bool d):d= .i 0∨d= .i 1:=by
 cases h with
 | bool b=>cases b <;> simp
theorem Wd.s {d:D} (h:Wd .str d): ∃s,d=Aa s:=by
 cases h with
 | str s=>exact⟨s,rfl⟩
theorem Wd.room {t:Nat} {d:D} (h:Wd (.sl t) d):d.l.length*yD t≤140737488351232:=by
 cases h with
 | nil=>simp [D.l]
 | non=>simp [D.l]
 | one _ c ds hr hn hm h=>rw [aX]; exact hm
 | many _ cs rows hr hn hm hl h=>rw [aX,List.length_map]; exact hm
theorem Wd.len {t:Nat} {d:D} (h:Wd (.sl t) d):d.l.length≤140737488351232:=
 Nat.le_trans (Nat.le_mul_of_pos_right _ (apW t)) h.room
theorem Wd.el1 {t:Nat} {c:CK} {d:D} (h:Wd (.sl t) d) (hr:rowOf t= .one c): ∀x∈d.l,Wd c x:=by
 cases h with
 | nil=>intro x hx; simp [D.l] at hx
 | non=>intro x hx; simp [D.l] at hx
 | one _ c' ds hr' hn hm h=>
   rw [hr] at hr'
   simp only [Row.one.injEq] at hr'
   subst hr'
   intro x hx
   rw [aX] at hx
   exact h x hx
 | many _ cs rows hr' hn hm hl h=>rw [hr] at hr'; simp at hr'
theorem Wd.elN {t:Nat} {cs:List CK} {d:D} (h:Wd (.sl t) d) (hr:rowOf t= .many cs): ∀x∈d.l,∃r,x=dL r∧r.length=cs.length∧∀(j:Nat) (y:D) (c:CK),r[j]?=some y→cs[j]?=some c→Wd c y:=by
 cases h with
 | nil=>intro x hx; simp [D.l] at hx
 | non=>intro x hx; simp [D.l] at hx
 | one _ c' ds hr' hn hm h=>rw [hr] at hr'; simp at hr'
 | many _ cs' rows hr' hn hm hl h=>
   rw [hr] at hr'
   simp only [Row.many.injEq] at hr'
   subst hr'
   intro x hx
   rw [aX] at hx
   obtain⟨r,h1,rfl⟩:=List.mem_map.1 hx
   exact⟨r,rfl,hl r h1,fun j y c h2 h3=>h r h1 j y c h2 h3⟩
def isDecl (x:D):Prop:= ∃(k n ln:Int) (s s':ByteArray),x=dL [.i k,Aa s,.i n,Aa s',.i ln]∧iT .u8 k∧iT .i64 n∧iT .i64 ln
def CX (x:D):Prop:= ∃(o c d g:Int) (r v:D),x=dL [.i o,.i c,.i d,.i g,r,v]∧iT .i64 o∧iT .i64 c∧(d=0∨d=1)∧iT .i64 g∧Wd (.sl 0) r∧Wd (.sl 0) v
theorem five {α:Type} {r:List α} (h:r.length=5): ∃a b c d e,r= [a,b,c,d,e]:=by
 match r,h with
 | [a,b,c,d,e],_=>exact⟨a,b,c,d,e,rfl⟩
theorem six {α:Type} {r:List α} (h:r.length=6): ∃a b c d e f,r= [a,b,c,d,e,f]:=by
 match r,h with
 | [a,b,c,d,e,f],_=>exact⟨a,b,c,d,e,f,rfl⟩
theorem Wd.decl {d:D} (h:Wd (.sl 3) d): ∀x∈d.l,isDecl x:=by
 intro x hx
 obtain⟨r,rfl,hl,hc⟩:=h.elN (cs:=[.int .u8,.str,.int .i64,.str,.int .i64]) rfl x hx
 obtain⟨a,b,c,d,e,rfl⟩:=five hl
 obtain⟨k,rfl,hk⟩:=(hc 0 _ _ rfl rfl).i
 obtain⟨s,rfl⟩:=(hc 1 _ _ rfl rfl).s
 obtain⟨n,rfl,hn⟩:=(hc 2 _ _ rfl rfl).i
 obtain⟨s',rfl⟩:=(hc 3 _ _ rfl rfl).s
 obtain⟨ln,rfl,hln⟩:=(hc 4 _ _ rfl rfl).i
 exact⟨k,n,ln,s,s',rfl,hk,hn,hln⟩
theorem Wd.thing {d:D} (h:Wd (.sl 7) d): ∀x∈d.l,CX x:=by
 intro x hx
 obtain⟨r,rfl,hl,hc⟩:=h.elN (cs:=[.int .i64,.int .i64,.bool,.int .i64,.sl 0,.sl 0]) rfl x hx
 obtain⟨a,b,c,d,e,f,rfl⟩:=six hl
 obtain⟨o,rfl,ho⟩:=(hc 0 _ _ rfl rfl).i
 obtain⟨k,rfl,hk⟩:=(hc 1 _ _ rfl rfl).i
 obtain⟨g,rfl,hg⟩:=(hc 3 _ _ rfl rfl).i
 rcases (hc 2 _ _ rfl rfl).b with rfl | rfl
 ·exact⟨o,k,0,g,e,f,rfl,ho,hk,.inl rfl,hg,hc 4 _ _ rfl rfl,hc 5 _ _ rfl rfl⟩
 ·exact⟨o,k,1,g,e,f,rfl,ho,hk,.inr rfl,hg,hc 4 _ _ rfl rfl,hc 5 _ _ rfl rfl⟩
theorem mM {z:Int} (h1: -9223372036854775808≤z) (h2:z≤9223372036854775807):IntKind.i64.wrap z=z:=IntWalk.i64_in z ⟨h1,h2⟩
theorem aY {n:Nat} (h:n < 9223372036854775807):IntKind.i64.wrap ((n:Int)+1)=((n+1:Nat):Int):=by rw [mM (by omega) (by omega)]; omega
theorem n_i (n:Int):(D.i n).n=n:=rfl
theorem l_p (a b:D):(D.p a b).l=a :: b.l:=rfl
theorem yG (n:Int):(D.i n).l= []:=rfl
theorem dR (l:List D) (j:Nat):(dL l).hd j=(l[j]?).getD (.i 0):=by unfold D.hd; rw [aX]
theorem ZB (d:D) (i:Nat):d.at (i:Int)=(d.l[i]?).getD (.i 0):=rfl
theorem bC {d:D} {i:Nat} (h:i < d.l.length):d.at (i:Int)=d.l[i]:=by
 rw [ZB,List.getElem?_eq_getElem h]
 rfl
end Go.As
end

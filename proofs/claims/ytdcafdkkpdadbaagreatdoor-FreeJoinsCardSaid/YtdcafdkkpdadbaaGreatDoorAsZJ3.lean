import Derived.Test.YtdcafdkkpdadbaaGreatDoorAsZJ2
set_option linter.unusedSectionVars false
set_option linter.unusedVariables false
set_option linter.unusedSimpArgs false
section
namespace Go.As
theorem pO (l:List Nat):(nV l).l.length=l.length:=by simp [nV]
theorem agA {a b:List Nat} (h:nV a=nV b):a=b:=by
 have:=Ob h
 induction a generalizing b with
 | nil=>cases b with
   | nil=>rfl
   | cons y b=>simp at this
 | cons x a ih=>cases b with
   | nil=>simp at this
   | cons y b=>
     simp only [List.map_cons,List.cons.injEq,D.i.injEq,Int.ofNat_eq_natCast,Int.ofNat_inj] at this
     rw [this.1,ih (b:=b) (by unfold nV; exact congrArg dL (by simpa using this.2)) (by simpa using this.2)]
theorem Oa: ∀(x y:List Nat),acU (x.map fun b=>D.i (Int.ofNat b)) (y.map fun b=>D.i (Int.ofNat b))=bytesLess x y
 | [],[]=>rfl
 | [],_ :: _=>rfl
 | _ :: _,[]=>rfl
 | a :: x,b :: y=>by
   simp only [List.map_cons,acU,bytesLess,D.n,Oa x y]
   have i1:(Int.ofNat a < Int.ofNat b)=(a < b):=propext Int.ofNat_lt
   have i2:(Int.ofNat b < Int.ofNat a)=(b < a):=propext Int.ofNat_lt
   simp only [i1,i2]
   rcases Nat.lt_trichotomy a b with h | h | h
   ·have h1:a.blt b=true:=by simp [Nat.blt]; omega
    simp [h,h1]
   ·subst h
    have h1:a.blt a=false:=by rw [Bool.eq_false_iff]; simp [Nat.blt]
    simp [h1]
   ·have h2:a.blt b=false:=by rw [Bool.eq_false_iff]; simp [Nat.blt]; omega
    have h3:a.beq b=false:=by rw [Bool.eq_false_iff]; simp; omega
    have h4: ¬a < b:=by omega
    simp [h,h2,h3,h4]
section
variable {P:Program} {E:En} {w:World}
theorem VR.asR {h:Array Obj} {e:SE} {v:Value} (hv:VR E h (.lX e) v): ∃l:List Nat,v= .string (bZ l)∧(∀b∈l,b < 256)∧dec (e.den E.ρ)=nV l:=by
 simp only [VR] at hv
 obtain⟨s,rfl,hs⟩:=hv.string
 refine⟨bytesOf s,by rw [nI],EK s,?_⟩
 rw [hs,Gu _ (EK s)]
 conv=>lhs; rw [← nI s]
 simp [Aa,bZ]
theorem VR.akG {h:Array Obj} {e:SE} {l:List Nat} (hl: ∀b∈l,b < 256) (he:dec (e.den E.ρ)=nV l):VR E h (.lX e) (.string (bZ l)):=by
 simp only [VR]
 rw [he,Gu _ hl]
 have:=Rd.str (ro:=E.ro) (h:=h) (bZ l)
 simpa [Aa,bZ] using this
theorem KZ {h:Array Obj} {x:AV} {u:Value} {e:SE} (hx:VR E h x u) (hs:Ah x=some e): ∃l:List Nat,u= .string (bZ l)∧(∀b∈l,b < 256)∧dec (e.den E.ρ)=nV l:=by
 unfold Ah at hs
 split at hs
 ·simp only [Option.some.injEq] at hs
  subst hs
  simp only [VR] at hx
  exact⟨_,hx.1,hx.2,by simp only [SE.den,aC]⟩
 ·simp only [Option.some.injEq] at hs
  subst hs
  exact hx.asR
 ·simp at hs
theorem YV {tt:TT} (htt:eG P tt) {s s':St} (hp:bI E.ρ s.pc) {ty:Nat} {e:SE} {ix v:AV} {u ui:Value} (hx:VR E w.heap (.lX e) u) (hix:VR E w.heap ix ui) (h:(Uh tt s ty e ix).leaf E.ρ=some (v,s')) :
 s'.slots=s.slots∧s'.h=s.h∧bI E.ρ s'.pc∧∃r,(Instr.index ty u ui).run P w= .ok r w∧VR E w.heap v r:=by
 unfold Uh at h
 split at h
 ·rename_i kd i
  split at h
  ·rename_i ti hti
   split at h
   ·rename_i hk
    obtain⟨pc',hp',h1,h2,h3⟩:=rF hp h
    have:=aF h3
    simp only [Prod.mk.injEq] at this
    obtain⟨rfl,rfl⟩:=this
    refine⟨rfl,rfl,hp',?_⟩
    obtain⟨l,rfl,hb,hd⟩:=hx.asR
    simp only [VR] at hix
    subst hix
    rw [dD,hd,pO] at h2
    obtain⟨k,hk2⟩ : ∃k:Nat,i.den E.ρ=(k:Int):=⟨(i.den E.ρ).toNat,by omega⟩
    have hlt:k < l.length:=by omega
    have hg:(bZ l)[k]?=some (UInt8.ofNat l[k]):=by rw [Ld,List.getElem?_eq_getElem hlt]; rfl
    have h256:=hb l[k] (List.getElem_mem hlt)
    rw [hk2]
    refine⟨_,by simp [Instr.index,asIntOf,run_underlying (gK (htt ty ti hti) hk),hg]; rfl,?_⟩
    have hdk:(dec (e.den E.ρ)).l[k]?=some (.i (Int.ofNat l[k])):=by
     rw [hd]
     simp only [nV,aX,List.getElem?_map,List.getElem?_eq_getElem hlt,Option.map_some]
    simp only [VR,Hu,IJ E.ρ e i hk2 hdk,D.n]
    congr 1
    simp
    omega
   ·simp [T.leaf] at h
  ·simp [T.leaf] at h
 ·simp [T.leaf] at h
theorem YU {tt:TT} (htt:eG P tt) {s s':St} (hp:bI E.ρ s.pc) {ty:Nat} {e:SE} {lo hi mx:Option AV} {lo' hi' mx':Option Value} {v:AV} {u:Value} (hx:VR E w.heap (.lX e) u)
 (hlo:iU E w.heap lo lo') (hhi:iU E w.heap hi hi') (hmx:iU E w.heap mx mx') (h:(Ug tt s ty e lo hi mx).leaf E.ρ=some (v,s')) :
 s'.slots=s.slots∧s'.h=s.h∧bI E.ρ s'.pc∧∃r,(Instr.sliceAt ty u lo' hi' mx').run P w= .ok r w∧VR E w.heap v r:=by
 unfold Ug at h
 split at h
 ·simp [T.leaf] at h
 ·simp only [iU] at hmx
  subst hmx
  split at h
  ·simp [T.leaf] at h
  ·rename_i ti hti
   split at h
   ·rename_i hk
    have hu:=gK (htt ty ti hti) hk
    split at h
    ·simp [T.leaf] at h
    ·rename_i ql hql
     split at h
     ·simp [T.leaf] at h
     ·rename_i qh hqh
      obtain⟨pc1,hp1,h1⟩:=cO hp h
      split at h1
      ·simp [T.leaf] at h1
      ·rename_i t1
       obtain⟨pc2,hp2,h2⟩:=cO (s:={ s with pc:=pc1 }) hp1 h1
       split at h2
       ·simp [T.leaf] at h2
       ·rename_i t2
        obtain⟨pc3,hp3,h3⟩:=cO (s:={ s with pc:=pc2 }) hp2 h2
        split at h3
        ·simp [T.leaf] at h3
        ·rename_i t3
         have:=aF h3
         simp only [Prod.mk.injEq] at this
         obtain⟨rfl,rfl⟩:=this
         refine⟨rfl,rfl,hp3,?_⟩
         obtain⟨l,rfl,hb,hd⟩:=hx.asR
         rw [dV,decide_eq_false_iff_not] at t1 t2 t3
         rw [dD,hd,pO] at t3
         simp only [SE.den,Int.not_lt] at t1
         obtain⟨a,ha⟩ : ∃a:Nat,ql.den E.ρ=(a:Int):=⟨(ql.den E.ρ).toNat,by omega⟩
         obtain⟨b,hbb⟩ : ∃b:Nat,qh.den E.ρ=(b:Int):=⟨(qh.den E.ρ).toNat,by omega⟩
         have hle:b≤l.length:=by omega
         have hab:a≤b:=by omega
         obtain⟨lo2,hlo2,hbl⟩:=akY hql hlo ha
         have hhi2: ∃hi2,iU E w.heap hi2 hi'∧bnd hi2 l.length l.length=some b:=by
          unfold hiE at hqh
          split at hqh
          ·simp only [Option.some.injEq] at hqh
           subst hqh
           rw [dD,hd,pO] at hbb
           have:b=l.length:=by omega
           subst this
           exact⟨none,hhi,by simp [bnd]⟩
          ·split at hqh
           ·simp only [Option.some.injEq] at hqh
            subst hqh
            exact⟨_,J9 hbb hhi,KD hle⟩
           ·simp at hqh
         obtain⟨hi2,hhi2,G8⟩:=hhi2
         obtain⟨e1,e2⟩:=iD (P:=P) (w:=w) (isSlice:=false) (len:=l.length) (cap:=l.length) (m0:=l.length) (d:=0) hlo2 hhi2 (mx:=none) (mx':=none) rfl (by simp) (.inl ⟨rfl,rfl,Nat.le_refl _⟩) G8 ⟨fun _=>Nat.le_refl _,by simp⟩ (hbl b hab)
         refine⟨.string ((bZ l).extract a b),?_,?_⟩
         ·rw [← nH] at e1
          simp [Instr.sliceAt,run_underlying hu,Instr.slice,e1]
         ·rw [yM]
          refine VR.akG (fun c hc=>hb c (List.mem_of_mem_take (List.mem_of_mem_drop hc))) ?_
          simp only [gQ,SE.den,aG.den,aC,oK,D.hd,D.l,List.getElem?_cons_zero,List.getElem?_cons_succ,Option.getD_some,D.n,ha,hbb,Int.toNat_natCast,hd]
          simp only [nV,aX,List.map_take,List.map_drop]
   ·simp [T.leaf] at h
theorem SV {x y:AV} {a b:SE} (h:JR x y=some (a,b)):Ah x=some a∧Ah y=some b:=by
 unfold JR at h
 split at h
 ·simp at h
 ·split at h
  ·simp at h
  ·rename_i c hc
   split at h
   ·simp at h
   ·rename_i d hd
    simp only [Option.some.injEq,Prod.mk.injEq] at h
    exact⟨by rw [hc,h.1],by rw [hd,h.2]⟩
theorem O5 (ρ:Nat→Int) {a b:SE} {x y:List Nat} (ha:dec (a.den ρ)=nV x) (hb:dec (b.den ρ)=nV y):(O6 a b).den ρ=bytesLess x y:=by
 simp only [O6,SB.den,SE.den,aG.den,ha,hb,nV,aX]
 have:=Oa x y
 rw [this]
 cases bytesLess x y <;> rfl
theorem GK: ∀(x y:List Nat),(bytesLess x y || jF x y)=!(bytesLess y x)
 | [],[]=>rfl
 | [],_ :: _=>rfl
 | _ :: _,[]=>rfl
 | a :: x,b :: y=>by
   have ih:=GK x y
   simp only [bytesLess,jF]
   rcases Nat.lt_trichotomy a b with h | h | h
   ·have h1:a.blt b=true:=by simp [Nat.blt]; omega
    have h2:b.blt a=false:=by rw [Bool.eq_false_iff]; simp [Nat.blt]; omega
    have h3:b.beq a=false:=by rw [Bool.eq_false_iff]; simp; omega
    simp [h1,h2,h3]
   ·subst h
    have h1:a.blt a=false:=by rw [Bool.eq_false_iff]; simp [Nat.blt]
    simp [h1,ih]
   ·have h1:b.blt a=true:=by simp [Nat.blt]; omega
    have h2:a.blt b=false:=by rw [Bool.eq_false_iff]; simp [Nat.blt]; omega
    have h3:a.beq b=false:=by rw [Bool.eq_false_iff]; simp; omega
    simp [h1,h2,h3]
theorem afQ {s s':St} (hp:bI E.ρ s.pc) {t:Nat} {op:BinOp} {x y v:AV} {a b:SE} {u u':Value} (hx:VR E w.heap x u) (hy:VR E w.heap y u') (hs:JR x y=some (a,b)) (h:(YW op a b s).leaf E.ρ=some (v,s')) :
 s'.slots=s.slots∧s'.h=s.h∧bI E.ρ s'.pc∧(∃r,(binOp op t u u').run P w= .ok r w∧VR E w.heap v r)∧(∀cs ds,¬(u= .agg cs∧u'= .agg ds))∧¬(u= .nilIface∧u'= .nilIface):=by
 obtain⟨hsx,hsy⟩:=SV hs
 obtain⟨l,rfl,hbl,hdl⟩:=KZ hx hsx
 obtain⟨m,rfl,hbm,hdm⟩:=KZ hy hsy
 have heq:((AY (qQ a) (qQ b)).den E.ρ)=jF l m:=by
  rw [pG,oQ,oQ,hdl,hdm,Bool.eq_iff_iff,beq_iff_eq,oV]
  exact⟨fun q=>agA (qK q),fun q=>by rw [q]⟩
 have hne:(∀cs ds,¬(Value.string (bZ l)= .agg cs∧Value.string (bZ m)= .agg ds))∧¬(Value.string (bZ l)= .nilIface∧Value.string (bZ m)= .nilIface):=⟨by simp,by simp⟩
 have fin: ∀(c:AV) (o:BinOp),Vr o l m=some c→(∀q,VR E w.heap c q→VR E w.heap v q)→(∀q,(Op.stringOp o (bZ l) (bZ m)).run P w= .ok q w→(binOp o t (.string (bZ l)) (.string (bZ m))).run P w= .ok q w)→
  ∃r,(binOp o t (.string (bZ l)) (.string (bZ m))).run P w= .ok r w∧VR E w.heap v r:=by
  intro c o ho hc hq
  obtain⟨r,h1,h2⟩:=Vq (P:=P) (E:=E) (w:=w) hbl hbm ho
  exact⟨r,hq _ h1,hc r h2⟩
 unfold YW at h
 split at h
 ·obtain⟨pc1,hp1,h1⟩:=cO hp h
  split at h1
  ·simp [T.leaf] at h1
  ·rename_i t1
   obtain⟨pc2,hp2,h2⟩:=cO (s:={ s with pc:=pc1 }) hp1 h1
   split at h2
   ·simp [T.leaf] at h2
   ·rename_i t2
    have:=aF h2
    simp only [Prod.mk.injEq] at this
    obtain⟨rfl,rfl⟩:=this
    rw [dV,decide_eq_true_eq,dD,hdl,pO] at t1
    rw [dV,decide_eq_true_eq,dD,hdm,pO] at t2
    simp only [SE.den] at t1 t2
    refine⟨rfl,rfl,hp2,⟨.string (bZ (l++m)),?_,?_⟩,hne⟩
    ·have hm:IntKind.i64.max=9223372036854775807:=by decide
     have:(Op.stringOp .add (bZ l) (bZ m)).run P w= .ok (.string (bZ l++bZ m)) w:=by
      simp only [Op.stringOp,nH,hm]
      rw [if_neg (by omega)]
      rfl
     have e:bZ l++bZ m=bZ (l++m):=by
      apply ByteArray.ext
      simp [bZ]
     rw [e] at this
     simpa [binOp] using this
    ·refine VR.akG (fun c hc=>?_) ?_
     ·rcases List.mem_append.1 hc with hc | hc
      ·exact hbl c hc
      ·exact hbm c hc
     ·simp only [SE.den,aG.den,aC,hdl,hdm]
      simp only [nV,aX,List.map_append]
 all_goals first
  | (simp [T.leaf] at h; done)
  | (have:=aF h
     simp only [Prod.mk.injEq] at this
     obtain⟨rfl,rfl⟩:=this
     refine⟨rfl,rfl,hp,?_,hne⟩
     refine fin _ _ rfl (fun q hq=>?_) (fun q hq=>by simpa [binOp] using hq)
     simp only [VR,SB.den,qR] at hq ⊢
     first
      | (rw [heq]; exact hq)
      | (rw [O5 E.ρ hdl hdm]; exact hq)
      | (rw [O5 E.ρ hdm hdl]; rw [GK] at hq; simpa using hq))
theorem Zd [Glob] {tt:TT} (htt:eG P tt) {s s':St} (r:bG E s.h w) (hp:bI E.ρ s.pc) {sT dT:Nat} {e:SE} {v:AV} {u:Value} (hx:VR E w.heap (.lX e) u) (h:(Kw tt sT dT e s).leaf E.ρ=some (v,s')) :
 s'.slots=s.slots∧bI E.ρ s'.pc∧∃y w' E',(convert sT dT u).run P w= .ok y w'∧Stp E s.h w E' s'.h w'∧bG E' s'.h w'∧VR E' w'.heap v y:=by
 unfold Kw at h
 split at h
 ·simp [T.leaf] at h
 ·rename_i j hj
  split at h
  ·rename_i hjk
   split at h
   ·simp [T.leaf] at h
   ·rename_i i hi
    split at h
    ·rename_i el hik
     split at h
     ·rename_i ie hie
      split at h
      ·rename_i k aE2
       split at h
       ·obtain⟨l,rfl,hb,hd⟩:=hx.asR
        have hcv:uF tt sT dT (.str l) s.h=some (.slice s.h.fresh 0 l.length (.rest 1),s.h.new (.cells (l.map fun c=> .int .u8 (.lit (Int.ofNat c))) el)):=by
         unfold uF
         simp only [hj,hi,hik,hie,aE2,hjk]
         simp
        obtain⟨y,w',E',g1,g2,g3,g4⟩:=Gn (P:=P) htt r (x:=.str l) (u:=.string (bZ l)) (by simp only [VR]; exact⟨trivial,hb⟩) hcv
        obtain⟨pc1,hp1,h1⟩:=cO hp h
        rw [pG,dD,hd,pO] at h1
        split at h1
        ·rename_i hz
         have:=aF h1
         simp only [Prod.mk.injEq] at this
         obtain⟨rfl,rfl⟩:=this
         simp only [SE.den,beq_iff_eq] at hz
         have hl0:l= []:=List.eq_nil_of_length_eq_zero (by omega)
         subst hl0
         exact⟨rfl,hp1,y,w',E',g1,g2,g3,g4⟩
        ·rename_i hz
         have:=aF h1
         simp only [Prod.mk.injEq] at this
         obtain⟨rfl,rfl⟩:=this
         simp only [SE.den,beq_eq_false_iff_ne,ne_eq] at hz
         have hd':dec (e.den E'.ρ)=nV l:=by rw [g2.ρ]; exact hd
         have hcc:dN E'.ρ e 14 []=l.map fun c=>AV.int .u8 (.lit (Int.ofNat c)):=by
          unfold dN
          rw [hd']
          simp only [nV,aX]
          have: ∀(l:List Nat) (i:Nat),aK E'.ρ (rowOf 14) [] (l.map fun b=>D.i (Int.ofNat b)) i=l.map fun c=>AV.int .u8 (.lit (Int.ofNat c)):=by
           intro l
           induction l with
           | nil=>intro i; rfl
           | cons a l ih=>
             intro i
             simp only [List.map_cons,aK,dQ,ih]
             rfl
          exact this l 0
         have r2:=J6 (e1:=e) (t:=14) g3 (by
          rw [hd']
          refine⟨by simp only [nV,aX],fun x hx=>?_,fun q=>?_⟩
          ·simp only [nV,aX,List.mem_map] at hx
           obtain⟨b,_,rfl⟩:=hx
           rfl
          ·have:=congrArg List.length q
           rw [pO] at this
           exact hz (by simp at this; simp [this])) (by rw [hcc]) (fun us hu=>by rw [hcc]; exact hu)
         refine⟨rfl,hp1,y,w',E',g1,g2.right (J7 rfl rfl fun _=>rfl),r2,?_⟩
         simp only [VR] at g4 ⊢
         obtain⟨q1,a,cap,q2,q3,q4⟩:=g4
         exact⟨q1,l.length,a,cap,by rw [dD,hd',pO],q2,q3,q4⟩
       ·simp [T.leaf] at h
      ·simp [T.leaf] at h
     ·simp [T.leaf] at h
    ·simp [T.leaf] at h
  ·simp [T.leaf] at h
end
end Go.As
end
section
namespace Go.As
section
variable {P:Program} {E:En} {w:World}
def abV (c:CK):Prop:=(∃k,c= .int k)∨c= .str
theorem QF (t:Nat):abV (mapOf t).1:=by
 unfold mapOf
 split <;> first | exact .inl ⟨_,rfl⟩ | exact .inr rfl
theorem bytes_beq (p q:ByteArray):(p == q)=decide (p=q):=by
 rw [Bool.eq_iff_iff,decide_eq_true_eq]
 have e:(p == q)=(p.data == q.data):=rfl
 rw [e,beq_iff_eq]
 constructor
 ·intro h; cases p; cases q; simp only at h; rw [h]
 ·intro h; rw [h]
theorem alB {ro:Nat→Prop} {h:Array Obj} {c:CK} (hc:abV c) {dt:TypeDesc} (hd:IL dt (Jj c)) {d d':D} {u u':Value} (r:Rd ro h c d u) (r':Rd ro h c d' u') :
 Instr.sameNow dt u u'=some (decide (d=d'))∧(d=d'→∀n,Instr.sameBits (n+1) u' u=true):=by
 rcases hc with ⟨k,rfl⟩ | rfl
 ·simp only [Jj] at hd
  obtain⟨k',rfl⟩:=hd
  cases r with
  | int _ n=>
    cases r' with
    | int _ m=>
      refine⟨?_,fun hh n=>?_⟩
      ·simp only [Instr.sameNow,D.i.injEq]
       first
        | rfl
        | (congr 1; rw [Bool.eq_iff_iff]; simp)
      ·simp only [D.i.injEq] at hh
       subst hh
       simp [Instr.sameBits]
 ·simp only [Jj] at hd
  simp only [IL] at hd
  subst hd
  obtain⟨a,rfl,rfl⟩:=r.string
  obtain⟨b,rfl,rfl⟩:=r'.string
  refine⟨?_,fun hh n=>?_⟩
  ·simp only [Instr.sameNow,bytes_beq]
   congr 1
   rw [decide_eq_decide]
   exact⟨fun q=>by rw [q],fun q=>N8 q⟩
  ·have:=N8 hh
   subst this
   simp [Instr.sameBits,bytes_beq]
theorem F9 {ro:Nat→Prop} {h:Array Obj} {t:Nat} {dt:TypeDesc} (hd:IL dt (Jj (mapOf t).1)) {kd:D} {u:Value} (hk:Rd ro h (mapOf t).1 kd u): ∀{ds:List D} {ents:List MapEntry} {i:Nat},
 oG ro h t ds ents→
 (xQ ds kd=none∧Instr.findNow dt u ents i=some none∧(∀v,Me ds kd v=ds++ [.p kd v])∧VQ ds kd=ds)∨
 (∃j x e,xQ ds kd=some x∧ents[j]?=some e∧Rd ro h (mapOf t).2 x e.val∧Instr.findNow dt u ents i=some (some (i+j,e.val))∧(∀n,Instr.sameBits (n+1) e.key u=true)∧(∀v,Me ds kd v=ds.set j (.p kd v))∧VQ ds kd=ds.eraseIdx j)
 | [],ents,i,he=>by
   simp only [oG] at he
   subst he
   exact .inl ⟨rfl,by simp [Instr.findNow],fun _=>rfl,rfl⟩
 | d :: ds,ents,i,he=>by
   obtain⟨e,r,rfl,h1,h2,h3,h4⟩:=he
   obtain⟨g1,g2⟩:=alB (QF t) hd hk h2
   by_cases hkd:agB d=kd
   ·have g1':Instr.sameNow dt u e.key=some true:=by rw [g1,decide_eq_true hkd.symm]
    refine .inr ⟨0,apI d,e,by simp only [xQ,if_pos hkd],rfl,h3,by simp [Instr.findNow,g1'],g2 hkd.symm,fun v=>by simp only [Me,if_pos hkd,List.set_cons_zero],by simp only [VQ,if_pos hkd,List.eraseIdx_cons_zero]⟩
   ·have g1':Instr.sameNow dt u e.key=some false:=by rw [g1,decide_eq_false (fun q=>hkd q.symm)]
    rcases F9 (i:=i+1) hd hk h4 with ⟨q1,q2,q3,q4⟩ | ⟨j,x,e',q1,q2,q3,q4,q5,q6,q7⟩
    ·exact .inl ⟨by simp only [xQ,if_neg hkd,q1],by simp [Instr.findNow,g1',q2],fun v=>by simp only [Me,if_neg hkd,q3,List.cons_append],by simp only [VQ,if_neg hkd,q4]⟩
    ·refine .inr ⟨j+1,x,e',by simp only [xQ,if_neg hkd,q1],by simpa using q2,q3,?_,q5,fun v=>by simp only [Me,if_neg hkd,q6,List.set_cons_succ],by simp only [VQ,if_neg hkd,q7,List.eraseIdx_cons_succ]⟩
     simp only [Instr.findNow,g1',q4]; congr 3; omega
theorem oG.set {ro:Nat→Prop} {h:Array Obj} {t:Nat} {kd vd:D} {uk uv:Value} (hk:Rd ro h (mapOf t).1 kd uk) (hv:Rd ro h (mapOf t).2 vd uv): ∀{ds:List D} {ents:List MapEntry} {i:Nat} {e:MapEntry},oG ro h t ds ents→ents[i]?=some e→
 oG ro h t (ds.set i (.p kd vd)) (ents.set i { e with key:=uk,val:=uv })
 | [],ents,i,e,he,hi=>by simp only [oG] at he; subst he; simp at hi
 | d :: ds,ents,0,e,he,hi=>by
   obtain⟨e0,r,rfl,h1,h2,h3,h4⟩:=he
   simp at hi
   subst hi
   simp only [List.set_cons_zero]
   exact⟨_,r,rfl,rfl,hk,hv,h4⟩
 | d :: ds,ents,i+1,e,he,hi=>by
   obtain⟨e0,r,rfl,h1,h2,h3,h4⟩:=he
   simp only [List.set_cons_succ]
   exact⟨e0,_,rfl,h1,h2,h3,oG.set hk hv h4 (by simpa using hi)⟩
theorem oG.push {ro:Nat→Prop} {h:Array Obj} {t:Nat} {kd vd:D} {uk uv:Value} {c:Nat} (hk:Rd ro h (mapOf t).1 kd uk) (hv:Rd ro h (mapOf t).2 vd uv): ∀{ds:List D} {ents:List MapEntry},oG ro h t ds ents→
 oG ro h t (ds++ [.p kd vd]) (ents++ [{ key:=uk,val:=uv,born:=c }])
 | [],ents,he=>by
   simp only [oG] at he
   subst he
   exact⟨_,[],rfl,rfl,hk,hv,rfl⟩
 | d :: ds,ents,he=>by
   obtain⟨e0,r,rfl,h1,h2,h3,h4⟩:=he
   simp only [List.cons_append]
   exact⟨e0,_,rfl,h1,h2,h3,oG.push hk hv h4⟩
theorem oG.erase {ro:Nat→Prop} {h:Array Obj} {t:Nat}: ∀{ds:List D} {ents:List MapEntry} {i:Nat},oG ro h t ds ents→oG ro h t (ds.eraseIdx i) (ents.eraseIdx i)
 | [],ents,i,he=>by simp only [oG] at he; subst he; simp [oG]
 | d :: ds,ents,0,he=>by
   obtain⟨e0,r,rfl,h1,h2,h3,h4⟩:=he
   simpa using h4
 | d :: ds,ents,i+1,he=>by
   obtain⟨e0,r,rfl,h1,h2,h3,h4⟩:=he
   simp only [List.eraseIdx_cons_succ]
   exact⟨e0,_,rfl,h1,h2,h3,oG.erase h4⟩
theorem Eu {m:AV} {h:Hp} {id t:Nat} {e:SE} (hm:DN m h=some (id,e,t)):m= .map id∧h.get id=some (.iR e t):=by
 unfold DN at hm
 split at hm
 ·split at hm
  ·rename_i o ho
   split at hm
   ·simp only [Option.some.injEq,Prod.mk.injEq] at hm
    obtain⟨rfl,rfl,rfl⟩:=hm
    exact⟨rfl,ho⟩
   ·simp at hm
  ·simp at hm
 ·simp at hm
theorem Ij {tt:TT} (htt:eG P tt) {h:Array Obj} {ty t:Nat} {k:AV} {uk:Value} {a:SE} {ie:TI} (hk:VR E h k uk) (hm:mapKey tt ty t k=some (a,ie)) :
 ∃kt et dt,P.underlying ty=some (.map kt et)∧P.underlying kt=some dt∧IL dt (Jj (mapOf t).1)∧tX P et ie∧Rd E.ro h (mapOf t).1 (dec (a.den E.ρ)) uk:=by
 unfold mapKey at hm
 split at hm
 ·simp at hm
 ·rename_i ti hti
  split at hm
  ·rename_i kt et hkind
   split at hm
   ·simp at hm
   ·rename_i ki hki
    split at hm
    ·rename_i hkk
     split at hm
     ·simp at hm
     ·rename_i ie' hie
      split at hm
      ·simp at hm
      ·rename_i a0 ha0
       simp only [Option.some.injEq,Prod.mk.injEq] at hm
       obtain⟨rfl,rfl⟩:=hm
       have hu:=ET (htt ty ti hti) hkind
       have hkd: ∃dt,P.underlying kt=some dt∧IL dt (Jj (mapOf t).1):=by
        rcases QF t with ⟨q,hq⟩ | hq
        ·rw [hq] at hkk ⊢
         exact⟨_,Ci (htt kt ki hki) hkk,q,rfl⟩
        ·rw [hq] at hkk ⊢
         exact⟨_,gK (htt kt ki hki) hkk,rfl⟩
       obtain⟨dt,h1,h2⟩:=hkd
       refine⟨kt,et,dt,hu,h1,h2,htt et ie' hie,?_⟩
       rw [oQ,aC]
       exact (pR hk ha0).rd (uH ha0)
    ·simp at hm
  ·simp at hm
theorem Ii [Glob] {H:Hp} (r:bG E H w) {id t:Nat} {e:SE} (hl:H.get id=some (.iR e t)): ∃ents c',w.heap[(E.θ id).1]?=some (.map ents c')∧oG E.ro w.heap t (dec (e.den E.ρ)).l ents.toList:=
 (r.live id _ hl).2.1
theorem pU {t:Nat} {c:CK} {d:TypeDesc} (hu:P.underlying t=some d) (hd:IL d (Jj c)) (b:Bool) (v:Value):(Instr.checkKey b 10000 t v).run P w= .ok () w:=iQ hu hd b v
theorem afI {ρ:Nat→Int} (e a:SE):(alX e a).den ρ=((SE.op .L8 e a).den ρ == (SE.lit 0).den ρ):=by
 unfold alX
 split
 ·split
  ·simp only [SB.den,SE.den,aG.den,aC]
   split <;> rename_i hq <;> simp [hq]
  ·rfl
 ·rfl
theorem Y4 [Glob] {tt:TT} (htt:eG P tt) {s s':St} (r:bG E s.h w) (hp:bI E.ρ s.pc) {ty id t:Nat} {m k v:AV} {e:SE} {um uk:Value} {ok:Bool} (hm:VR E w.heap m um) (hk:VR E w.heap k uk) (hat:DN m s.h=some (id,e,t)) (h:(Gh tt ty k ok e t s).leaf E.ρ=some (v,s')) :
 s'.slots=s.slots∧s'.h=s.h∧bI E.ρ s'.pc∧∃x,(Instr.lookup ty um uk ok).run P w= .ok x w∧VR E w.heap v x:=by
 obtain⟨rfl,hl⟩:=Eu hat
 unfold Gh at h
 split at h
 ·simp [T.leaf] at h
 ·rename_i a ie hmk
  obtain⟨kt,et,dt,hu,hd1,hd2,hie,hrk⟩:=Ij htt hk hmk
  split at h
  ·simp [T.leaf] at h
  ·rename_i z hz
   obtain⟨u0,z1,z2⟩:=OU (P:=P) (w:=w) (E:=E) hie hz
   obtain⟨ents,c',g1,g2⟩:=Ii r hl
   have hg:=lH (P:=P) g1 (by simp)
   simp only [VR] at hm
   obtain⟨rfl,hid⟩:=hm
   have hf:=F9 (i:=0) hd2 hrk g2
   obtain⟨pc1,hp1,h1⟩:=cO hp h
   rw [afI] at h1
   simp only [SE.den,aG.den] at h1
   rcases hf with ⟨q1,q2,_,_⟩ | ⟨j,x,en,q1,q2,q3,q4,q5,_,_⟩
   ·rw [q1] at h1
    have:=aF h1
    simp only [Prod.mk.injEq] at this
    obtain⟨rfl,rfl⟩:=this
    refine⟨rfl,rfl,hp1,(if ok then .tuple #[u0,.bool false] else u0),?_,?_⟩
    ·cases ok <;> simp [Instr.lookup,run_underlying hu,hg,pU hd1 hd2,iF hd1 q2,z1]
    ·cases ok
     ·exact z2
     ·simp only [if_true,VR,bJ]
      exact⟨[u0,.bool false],rfl,_,_,rfl,z2,_,_,rfl,by simp [SB.den],rfl⟩
   ·rw [q1] at h1
    have:=aF h1
    simp only [Prod.mk.injEq] at this
    obtain⟨rfl,rfl⟩:=this
    have hval:VR E w.heap (Ae (mapOf t).2 (.op .L9 e a)) en.val:=by
     rw [uI]
     simp only [SE.den,aG.den,aC,q1,Option.getD_some]
     exact q3.cell
    refine⟨rfl,rfl,hp1,(if ok then .tuple #[en.val,.bool true] else en.val),?_,?_⟩
    ·cases ok <;> simp [Instr.lookup,run_underlying hu,hg,pU hd1 hd2,iF hd1 q4]
    ·cases ok
     ·exact hval
     ·simp only [if_true,VR,bJ]
      exact⟨[en.val,.bool true],rfl,_,_,rfl,hval,_,_,rfl,by simp [SB.den],rfl⟩
theorem afR [Glob] {tt:TT} (htt:eG P tt) {s s':St} (r:bG E s.h w) {ty id t:Nat} {m k x v:AV} {e:SE} {um uk ux:Value} (hm:VR E w.heap m um) (hk:VR E w.heap k uk) (hx:VR E w.heap x ux) (hat:DN m s.h=some (id,e,t)) (h:(Y1 tt ty id k x e t s).leaf E.ρ=some (v,s')) :
 s'.slots=s.slots∧s'.pc=s.pc∧v=AV.undef∧∃w',(Instr.mapUpdate ty um uk ux).run P w= .ok () w'∧Stp E s.h w E s'.h w'∧bG E s'.h w':=by
 obtain⟨rfl,hl⟩:=Eu hat
 unfold Y1 at h
 split at h
 ·simp [T.leaf] at h
 ·rename_i a ie hmk
  obtain⟨kt,et,dt,hu,hd1,hd2,hie,hrk⟩:=Ij htt hk hmk
  split at h
  ·simp [T.leaf] at h
  ·rename_i b hb
   have:=aF h
   simp only [Prod.mk.injEq] at this
   obtain⟨rfl,rfl⟩:=this
   have hrx:=(pR hx hb).rd (uH hb)
   obtain⟨ents,c',g1,g2⟩:=Ii r hl
   have hg:=lH (P:=P) g1 (by simp)
   simp only [VR] at hm
   obtain⟨rfl,hid⟩:=hm
   refine⟨rfl,rfl,rfl,?_⟩
   have hden:dec ((SE.op .Et e (gQ a b)).den E.ρ)=dL (Me (dec (e.den E.ρ)).l (dec (a.den E.ρ)) (dec (b.den E.ρ))):=by
    simp only [gQ,SE.den,aG.den,aC]
   rcases F9 (i:=0) hd2 hrk g2 with ⟨q1,q2,q3,_⟩ | ⟨j,y,en,q1,q2,q3,q4,q5,q6,_⟩
   ·refine⟨_,?_,jV r hl (.iR (.op .Et e (gQ a b)) t) (.map (ents.push { key:=uk,val:=ux,born:=c' }) (c'+1)) ?_⟩
    ·simp [Instr.mapUpdate,run_underlying hu,hg,pU hd1 hd2,iF hd1 q2,lD (P:=P) g1]
    ·intro h' hh kp
     simp only [OR]
     refine⟨_,_,hh,?_⟩
     rw [hden,aX,q3,Array.toList_push]
     exact oG.push (hrk.keep kp.ro kp.Lu) (hrx.keep kp.ro kp.Lu) (g2.keep kp.ro kp.Lu)
   ·simp only [Nat.zero_add] at q4
    have hkt:(Instr.keyThatStays (((ents[j]?).map (·.key)).getD uk) uk).run P w= .ok uk w:=by
     have q2':=q2
     rw [Array.getElem?_toList] at q2'
     simp only [q2',Option.map_some,Option.getD_some,Instr.keyThatStays]
     rw [if_pos (q5 9999)]
     rfl
    refine⟨_,?_,jV r hl (.iR (.op .Et e (gQ a b)) t) (.map (ents.modify j fun e=>{ e with key:=uk,val:=ux }) c') ?_⟩
    ·simp [Instr.mapUpdate,run_underlying hu,hg,pU hd1 hd2,iF hd1 q4,hkt,lD (P:=P) g1]
    ·intro h' hh kp
     simp only [OR]
     refine⟨_,_,hh,?_⟩
     rw [hden,aX,q6,L6 ents j en _ q2]
     exact oG.set (hrk.keep kp.ro kp.Lu) (hrx.keep kp.ro kp.Lu) (g2.keep kp.ro kp.Lu) q2
theorem Ri [Glob] {tt:TT} (htt:eG P tt) {s s':St} (r:bG E s.h w) (hp:bI E.ρ s.pc) {ty:Nat} {m k x v:AV} {um uk ux:Value} (hm:VR E w.heap m um) (hk:VR E w.heap k uk) (hx:VR E w.heap x ux) (h:(Ul tt ty m k x s).leaf E.ρ=some (v,s')) :
 s'.slots=s.slots∧bI E.ρ s'.pc∧v=AV.undef∧∃w' E',(Instr.mapUpdate ty um uk ux).run P w= .ok () w'∧Stp E s.h w E' s'.h w'∧bG E' s'.h w':=by
 unfold Ul at h
 obtain⟨vs,h1,pc1,E1,hp1,f,q,g⟩:=xX rfl r hp h
 have hρ:=f.ρ
 rw [← hρ] at hp1 g
 have hv:=q [ux] (by simp only [bJ]; exact⟨ux,[],rfl,hx,rfl⟩)
 split at g
 ·rename_i x1
  simp only [bJ] at hv
  obtain⟨u1,us1,e1,hx1,e2⟩:=hv
  subst e2
  simp only [List.cons.injEq,and_true] at e1
  subst e1
  split at g
  ·rename_i id e t hat
   obtain⟨a1,a2,a3,w',a4,a5,a6⟩:=afR htt (s:={ s with h:=h1,pc:=pc1 }) f.rel (VR.keep (f.eF.keeps r) _ _ hm) (VR.keep (f.eF.keeps r) _ _ hk) hx1 hat g
   exact⟨a1,by rw [a2,← hρ]; exact hp1,a3,w',E1,a4,f.eF.trans a5,a6⟩
  ·simp [T.leaf] at g
 ·simp [T.leaf] at g
theorem afV [Glob] {tt:TT} (htt:eG P tt) {s s':St} (r:bG E s.h w) {ty id t ts:Nat} {m k v:AV} {e:SE} {um uk:Value} (hm:VR E w.heap m um) (hk:VR E w.heap k uk) (hat:DN m s.h=some (id,e,t)) (h:(Y9 tt ty id k e t s).leaf E.ρ=some (v,s')) (tr:Nat) :
 s'.slots=s.slots∧s'.pc=s.pc∧v=AV.undef∧∃w',(Builtin.delete_ #[ty,ts] tr #[um,uk]).run P w= .ok (.tuple #[]) w'∧Stp E s.h w E s'.h w'∧bG E s'.h w':=by
 obtain⟨rfl,hl⟩:=Eu hat
 unfold Y9 at h
 split at h
 ·simp [T.leaf] at h
 ·rename_i a ie hmk
  obtain⟨kt,et,dt,hu,hd1,hd2,hie,hrk⟩:=Ij htt hk hmk
  have:=aF h
  simp only [Prod.mk.injEq] at this
  obtain⟨rfl,rfl⟩:=this
  obtain⟨ents,c',g1,g2⟩:=Ii r hl
  have hg:=lH (P:=P) g1 (by simp)
  simp only [VR] at hm
  obtain⟨rfl,hid⟩:=hm
  refine⟨rfl,rfl,rfl,?_⟩
  have hden:dec ((SE.op .aeX e a).den E.ρ)=dL (VQ (dec (e.den E.ρ)).l (dec (a.den E.ρ))):=by
   simp only [SE.den,aG.den,aC]
  rcases F9 (i:=0) hd2 hrk g2 with ⟨q1,q2,_,q3⟩ | ⟨j,y,en,q1,q2,q3,q4,q5,_,q6⟩
  ·refine⟨_,?_,jV r hl (.iR (.op .aeX e a) t) (.map ents c') ?_⟩
   ·simp [Builtin.delete_,run_underlying hu,hg,pU hd1 hd2,iF hd1 q2,lD (P:=P) g1]
   ·intro h' hh kp
    simp only [OR]
    refine⟨_,_,hh,?_⟩
    rw [hden,aX,q3]
    exact g2.keep kp.ro kp.Lu
  ·simp only [Nat.zero_add] at q4
   refine⟨_,?_,jV r hl (.iR (.op .aeX e a) t) (.map (ents.eraseIdxIfInBounds j) c') ?_⟩
   ·simp [Builtin.delete_,run_underlying hu,hg,pU hd1 hd2,iF hd1 q4,lD (P:=P) g1]
   ·intro h' hh kp
    simp only [OR]
    refine⟨_,_,hh,?_⟩
    have hil:j < ents.size:=by have:=(List.getElem?_eq_some_iff.1 q2).1; simpa using this
    have:(ents.eraseIdxIfInBounds j).toList=ents.toList.eraseIdx j:=by
     simp [Array.eraseIdxIfInBounds,hil]
    rw [this,hden,aX,q6]
    exact oG.erase (g2.keep kp.ro kp.Lu)
end
end Go.As
end
section
namespace Go.As
section
variable {P:Program} {E:En} {w:World}
theorem akR [Glob] {tt:TT} (htt:eG P tt) {H:Hp} (r:bG E H w) {t e k:Nat} {i ie:TI} {k1 k2:IntKind} (hi:tt t=some i) (hk:i.kind= .slice e) (hie:tt e=some ie) (hz0:ie.zero.length=ie.size) (hs0:0 < ie.size) (hb0:ie.bytes≠0) (hbm:ie.bytes*k≤140737488355328) (hpos:0 < k) :
 ∃x w' E',(Instr.makeSlice t (.int k1 k) (.int k2 k)).run P w= .ok x w'∧Stp E H w E' (H.new (.cells (repeatL ie.zero k) e)) w'∧bG E' (H.new (.cells (repeatL ie.zero k) e)) w'∧VR E' w'.heap (.slice H.fresh 0 k (.rest ie.size)) x:=by
 have hti:=htt t i hi
 have htie:=htt e ie hie
 obtain⟨inf,z,g1,g2,g3,g4,g5⟩:=CZ htie
 have hz:=fD (E:=E) (h:=w.heap) g5
 have hzl:z.cells.size=ie.size:=by have:=hz.1.length; simp only [Array.length_toList] at this; omega
 have hkb:k≤140737488355328:=by
  refine Nat.le_trans ?_ hbm
  exact Nat.le_mul_of_pos_left _ (by omega)
 have wn:IntKind.i64.wrap (k:Int)=(k:Int):=by
  rw [← oM]; simp only [Ai]; rw [if_pos (by constructor <;> omega)]
 have ai: ∀(q:IntKind) (x:Int) (w:World),(asInt (Value.int q x)).run P w= .ok x w:=fun _ _ _=>rfl
 have hne:z.cells.toList≠[]:=by
  intro hx
  have hx':z.cells.size=0:=by have:=congrArg List.length hx; simpa using this
  omega
 have hzz:=Aw z.cells hne k
 rw [hzl] at hzz
 obtain⟨us',e1⟩ : ∃us':Array Value,((Array.range (k*inf.size)).map (z.cells[·% z.cells.size]!))=us':=⟨_,rfl⟩
 have e1':us'.toList=repeatL z.cells.toList k:=by
  rw [← e1,g2,hzl,hzz]
 have e2:bJ E w.heap (repeatL ie.zero k) us'.toList:=by rw [e1']; exact pJ hz.1 k
 have e3: ∀u∈us'.toList,u.oneCell'=true:=by rw [e1']; intro u hu; exact hz.2 u (pI hu)
 have hsz:us'.size=k*ie.size:=by rw [← Array.length_toList,e1',repeatL_length,Array.length_toList,hzl]
 refine⟨.slice (some ⟨w.heap.size,0,none⟩) k k,{ w with heap:=w.heap.push (.cells us' e) },E.ext H.fresh (w.heap.size,0) us'.size,?_,?_⟩
 ·have t1: ¬((k:Int) < 0):=by omega
  have t2: ¬((inf.bytes:Int)*(k:Int) > 2 ^ 48):=by
   have h1:((inf.bytes*k:Nat):Int)≤((140737488355328:Nat):Int):=Int.ofNat_le.2 (by rw [g3]; exact hbm)
   rw [Int.natCast_mul] at h1
   omega
  have t4: ¬((k:Int) > (k:Int)):=by omega
  have t5:(askRoom (k*inf.bytes)).run P w= .ok () w:=by
   have: ¬(k*inf.bytes > roomBytes):=by
    unfold roomBytes
    rw [Nat.mul_comm,g3]
    omega
   unfold askRoom
   rw [if_neg this]
   rfl
  have t6:(k:Int).toNat=k:=rfl
  have h0: ¬(k*inf.size=0):=by
   rw [g2]
   have:=Nat.mul_pos hpos hs0
   omega
  simp only [Instr.makeSlice,Sem.run_bind,run_underlying (fK hti hk),Result.andThen_ok,ai,sizeOf,typeInfo,zeroValue,run_program,g1,g4,Sem.run_pure,newRow,Sem.run_ite,wn,t1,t2,t4,t6,h0,decide_false,Bool.or_false,Bool.false_eq_true,if_false]
  rw [t5,Result.andThen_ok,e1]
  rfl
 ·obtain⟨s1,s2⟩:=kJ r us' 0 0 e e2 e3 (fun i u hu=>by rw [← Array.getElem?_toList]; exact hu) (by omega) (w':={ w with heap:=w.heap.push (.cells us' e) }) rfl ⟨rfl,rfl,rfl⟩
  refine⟨s1,s2,?_⟩
  simp only [VR]
  refine⟨En.jK _ _ _ _,⟨w.heap.size,0,none⟩,k,rfl,Nat.le_refl _,?_⟩
  simp only [fJ,En.ext_θ_new,En.ext_κ_new]
  left
  exact⟨trivial,by rw [hsz,Nat.zero_add]⟩
theorem Y3 [Glob] {tt:TT} (htt:eG P tt) {s s':St} (r:bG E s.h w) (hp:bI E.ρ s.pc) {t:Nat} {l c v:AV} {lu cu:Value} (hl:VR E w.heap l lu) (hc:VR E w.heap c cu) (h:(Un tt t l c s).leaf E.ρ=some (v,s')) :
 s'.slots=s.slots∧bI E.ρ s'.pc∧∃x w' E',(Instr.makeSlice t lu cu).run P w= .ok x w'∧Stp E s.h w E' s'.h w'∧bG E' s'.h w'∧VR E' w'.heap v x:=by
 unfold Un at h
 split at h
 ·rename_i k n
  split at h
  ·rename_i k2 n2
   split at h
   ·simp [T.leaf] at h
   ·rename_i hnn
    have hnn:=bW _ _ hnn
    subst hnn
    simp only [VR] at hl hc
    subst hl hc
    split at h
    ·simp [T.leaf] at h
    ·rename_i i hi
     split at h
     ·simp [T.leaf] at h
     ·rename_i o ho
      split at h
      ·rename_i e hk
       split at h
       ·simp [T.leaf] at h
       ·rename_i ie hie
        split at h
        ·simp [T.leaf] at h
        ·rename_i z hz
         split at h
         ·rename_i hcond
          obtain⟨hes,hs0,hb0,hzl⟩:=hcond
          obtain⟨pc1,hp1,h1⟩:=cO hp h
          split at h1
          ·simp [T.leaf] at h1
          ·rename_i t1
           obtain⟨pc2,hp2,h2⟩:=cO (s:={ s with pc:=pc1 }) hp1 h1
           split at h2
           ·rename_i t2
            split at h2
            ·rename_i v0 h0 hm
             have:=aF h2
             simp only [Prod.mk.injEq] at this
             obtain⟨rfl,rfl⟩:=this
             rw [pG,beq_iff_eq] at t2
             simp only [SE.den] at t2
             rw [t2]
             obtain⟨x,w',E',q1,q2,q3,q4⟩:=BG (P:=P) htt r (lu:=.int k 0) (cu:=.int k2 0) (by simp only [VR,SE.den]) (by simp only [VR,SE.den]) hm
             exact⟨rfl,hp2,x,w',E',q1,q2,q3,q4⟩
            ·simp [T.leaf] at h2
           ·rename_i t2
            obtain⟨pc3,hp3,h3⟩:=cO (s:={ s with pc:=pc2 }) hp2 h2
            split at h3
            ·rename_i t3
             have:=aF h3
             simp only [Prod.mk.injEq] at this
             obtain⟨rfl,rfl⟩:=this
             rw [dV,decide_eq_false_iff_not] at t1
             rw [pG,beq_eq_false_iff_ne] at t2
             rw [dV,decide_eq_true_eq] at t3
             simp only [SE.den] at t1 t2 t3
             obtain⟨m,hm⟩ : ∃m:Nat,n.den E.ρ=(m:Int):=⟨(n.den E.ρ).toNat,by omega⟩
             rw [hm] at t2 t3 ⊢
             have hpos:0 < m:=by omega
             have hbm:ie.bytes*m≤140737488355328:=by
              unfold roomOf at t3
              have h1:m≤140737488355328 / ie.bytes:=by
               rw [Nat.sub_zero] at t3
               exact Nat.le_of_lt (Int.ofNat_lt.1 t3)
              exact Nat.le_trans (Nat.mul_le_mul_left _ h1) (Nat.mul_div_le _ _)
             obtain⟨x,w',E',q1,q2,q3,q4⟩:=akR (P:=P) (k1:=k) (k2:=k2) htt r hi hk hie hzl hs0 hb0 hbm hpos
             have hρ:=q2.ρ
             have hd:dec ((SE.op .rep n z).den E'.ρ)=dL (List.replicate m (dec (z.den E'.ρ))):=by
              have:n.den E'.ρ=(m:Int):=by rw [hρ]; exact hm
              simp only [SE.den,aG.den,aC,this,Int.toNat_natCast]
             have hlen:(dec ((SE.op .rep n z).den E'.ρ)).l.length=m:=by rw [hd,aX,List.length_replicate]
             have hwz:wF (rowOf o) (dec (z.den E'.ρ)):=Ac hz
             have hcl:(dN E'.ρ (.op .rep n z) o []).length=(repeatL ie.zero m).length:=by
              unfold dN
              rw [bU (mV _),hlen,repeatL_length,hzl,hes]
             have hrep: ∀(q:Nat) (us:List Value),bJ E' w'.heap (repeatL ie.zero q) us→bJ E' w'.heap (aK E'.ρ (rowOf o) [] (List.replicate q (dec (z.den E'.ρ))) 0) us:=by
              intro q
              induction q with
              | zero=>intro us h; exact h
              | succ q ih=>
                intro us h
                simp only [repeatL] at h
                obtain⟨us1,us2,rfl,a,b⟩:=bJ.split h
                simp only [List.replicate_succ,aK,dQ]
                rw [mZ _ 1 0]
                refine bJ.append ?_ (ih _ b)
                rw [gV]
                simp only [SE.den,aC]
                exact Ad a hz
             have r2:=J6 (e1:=.op .rep n z) (t:=o) q3 ⟨by rw [hd,aX],fun d hd'=>by
              rw [hd,aX] at hd'
              rw [List.eq_of_mem_replicate hd']
              exact hwz,fun hq=>by rw [hq] at hlen; simp at hlen; omega⟩ hcl (fun us hu=>by
              unfold dN
              rw [hd,aX]
              exact hrep m us hu)
             refine⟨rfl,hp3,x,w',E',q1,q2.right (J7 rfl rfl fun _=>rfl),r2,?_⟩
             simp only [VR] at q4 ⊢
             obtain⟨p1,a,cap,p2,p3,p4⟩:=q4
             refine⟨p1,m,a,cap,by rw [dD,hlen],p2,p3,?_⟩
             rw [← hes]
             exact p4
            ·simp [T.leaf] at h3
         ·simp [T.leaf] at h
      ·simp [T.leaf] at h
  ·simp [T.leaf] at h
 ·simp [T.leaf] at h
end
end Go.As
end
section
namespace Go.As
theorem UZ {α β:Type} (f:α→β) (xs:Array α):xs.map f=(xs.toList.map f).toArray:=by
 apply Array.ext'
 simp
def sZ (P:Program) (R:Value→World→Prop):Result Next→Prop
 | .ok (.value u) w'=>R u w'
 | .ok (.enter f args) w'=>Calls P f args w' fun e w''=> ∃u,e= .returned u∧R u w''
 | _=>False
def tC (P:Program) (g:FuncId) (vals:Array Value) (w:World) (R:Value→World→Prop):Prop:=sZ P R ((callFunc g vals).run P w)
def mJ [Glob] (P:Program) (g:FuncId) (f:List AV→St→T (AV×St)):Prop:=
 ∀(args:List AV) (s:St) (E:En) (w:World) (vals:List Value) (v:AV) (s':St),bG E s.h w→bJ E w.heap args vals→bI E.ρ s.pc→(f args s).leaf E.ρ=some (v,s')→
  s'.slots=s.slots∧bI E.ρ s'.pc∧tC P g vals.toArray w (After E s w v s')
theorem FT {E:En} {h:Array Obj} {k:Nat} {e:SE} {i:Nat} (he:e.den E.ρ=(i:Int)): ∀(ks:List IntKind) (j:Nat),
 bJ E h (Bo k e ks j) ((ks.zipIdx j).map fun p=> .int p.1 (E.ρ (1000+i*64+(k*8+p.2))))
 | [],j=>by simp [Bo,bJ]
 | kd :: ks,j=>by
   simp only [Bo,List.zipIdx_cons,List.map_cons]
   rw [aW]
   refine⟨_,_,rfl,?_,FT he ks (j+1)⟩
   simp only [VR,SE.den,he,Int.toNat_natCast]
theorem Y6 {P:Program} {E:En} {w:World} {tt:TT} (htt:eG P tt) {pc:List (SB×Bool)} (hp:bI E.ρ pc) {t k:Nat} {ks:List IntKind} {ix v:AV} {u ui:Value} (hx:VR E w.heap (.inp k ks) u) (hix:VR E w.heap ix ui)
 (h:Uo tt pc t k ks ix=some v): ∃r,(Instr.indexAt t u ui).run P w= .ok r w∧VR E w.heap v r:=by
 unfold Uo at h
 split at h
 ·rename_i kd e
  split at h
  ·rename_i ti hti
   split at h
   ·rename_i el hk
    have hu:=fK (htt t ti hti) hk
    split at h
    ·rename_i s hs
     simp only [jU,Option.map_eq_some_iff] at hs
     obtain⟨ie,hie,rfl⟩:=hs
     split at h
     ·rename_i hc
      split at h
      ·rename_i h1 h2
       simp at h
       subst h
       have h1:=iW hp h1
       have h2:=iW hp h2
       rw [dV,decide_eq_false_iff_not] at h1
       rw [dV,decide_eq_true_eq] at h2
       simp only [SE.den,Int.not_lt] at h1 h2
       simp only [VR] at hx hix
       subst hix
       rcases hx with ⟨⟨x,cap,rfl⟩,h0⟩ | ⟨b,o,n,cap,rfl,g1,g2,g3,g4⟩
       ·omega
       ·obtain⟨i,hi⟩ : ∃i:Nat,e.den E.ρ=(i:Int):=⟨(e.den E.ρ).toNat,by omega⟩
        have hin:i < n:=by omega
        refine⟨.pointer (some ⟨b,o+i*ie.size,none⟩),?_,?_⟩
        ·rw [hi]
         simp [Instr.indexAt,asIntOf,run_underlying hu,dX (htt el ie hie),hin,fH]
        ·simp only [VR]
         refine⟨b,_,_,rfl,g3,FT hi ks 0,?_,?_⟩
         ·intro j u hj
          rw [List.getElem?_map,List.getElem?_zipIdx,Option.map_map,Option.map_eq_some_iff] at hj
          obtain⟨kd',h3,rfl⟩:=hj
          rw [hc.1,g4 i j kd' hin h3]
          simp
         ·intro u hu'
          rw [List.mem_map] at hu'
          obtain⟨p,_,rfl⟩:=hu'
          rfl
      ·simp at h
     ·simp at h
    ·simp at h
   ·simp at h
  ·simp at h
 ·simp at h
theorem asB {E:En} {s s':St} {k:IntKind} {e d:SE} {v:AV} (hp:bI E.ρ s.pc) (h:(aAb s k e d).leaf E.ρ=some (v,s')) :
 s'.slots=s.slots∧s'.h=s.h∧bI E.ρ s'.pc∧d.den E.ρ≠0∧∀h,VR E h v (.int k ((e.den E.ρ).tmod (d.den E.ρ))):=by
 unfold aAb at h
 obtain⟨pc',hp',h3⟩:=cO hp h
 rw [lN] at h3
 split at h3
 ·simp [T.leaf] at h3
 ·rename_i he
  simp only [T.leaf,Option.some.injEq,Prod.mk.injEq] at h3
  obtain⟨rfl,rfl⟩:=h3
  simp only [SE.den,beq_eq_false_iff_ne,ne_eq] at he
  exact⟨rfl,rfl,hp',he,fun h=>by simp only [VR,SE.den]⟩
theorem aeF {E:En} {h:Array Obj} {op:BinOp} {a b:AV} {k:IntKind} {e d:SE} (hr:Yp op a b=some (k,e,d)) {u u':Value} (ha:VR E h a u) (hb:VR E h b u') :
 op= .rem∧u= .int k (e.den E.ρ)∧u'= .int k (d.den E.ρ):=by
 unfold Yp at hr
 split at hr
 ·split at hr
  ·split at hr
   ·split at hr
    ·simp at hr
    ·split at hr
     ·rename_i hc
      simp only [Option.some.injEq,Prod.mk.injEq] at hr
      obtain⟨rfl,rfl,rfl⟩:=hr
      simp only [VR] at ha hb
      exact⟨rfl,ha,by rw [hb,hc]⟩
     ·simp at hr
   ·simp at hr
  ·simp at hr
 ·simp at hr
def jR [Glob] (P:Program) (call:dU):Prop:= ∀g,mJ P g (call g)
theorem wR.next {P:Program} {o:Oper} {a:Act} {w:World} {R:Value→World→Prop} (h:sZ P R ((execOp a.eval o).run P w)):wR P o a w R:=by
 intro K Q hk
 unfold Oper.wp
 generalize (execOp a.eval o).run P w=r at h
 cases r with
 | halt x w'=>exact h.elim
 | ok n w'=>
   cases n <;> first
    | exact h.elim
    | exact hk _ _ h
    | (exact Calls.mono h fun e w'' ⟨u,he,hr⟩=>by subst he; exact hk _ _ hr)
theorem Ou {tt:TT} {t n:Nat} {ix:AV} {e:SE} (h:adI tt t ix=some (n,e)): ∃k ti el ie,ix= .int k e∧tt t=some ti∧ti.kind= .array n el∧tt el=some ie∧ie.size=1∧ie.agg=false:=by
 unfold adI at h
 split at h
 ·simp at h
 ·split at h
  ·split at h
   ·rename_i ti hti
    split at h
    ·rename_i n' el hk
     split at h
     ·split at h
      ·rename_i ie hie
       split at h
       ·rename_i hc
        simp only [Option.some.injEq,Prod.mk.injEq] at h
        obtain⟨rfl,rfl⟩:=h
        exact⟨_,ti,el,ie,rfl,hti,hk,hie,hc.1,hc.2⟩
       ·simp at h
      ·simp at h
     ·simp at h
    ·simp at h
   ·simp at h
  ·simp at h
section
variable {P:Program} {E:En} {w:World} {s s':St} {o:Oper} {a:Act} {v:AV}
theorem Uz [Glob] {tt:TT} (htt:eG P tt) (r:bG E s.h w) (hp:bI E.ρ s.pc) {b:Builtin} {ts:List Nat} {args:List AV} {vals:List Value} (hv:bJ E w.heap args vals) (ty:Nat) (cs:Array Bool)
 (h:(Dj tt s b ts args).leaf E.ρ=some (v,s')):s'.slots=s.slots∧bI E.ρ s'.pc∧∃u w',(builtin b ts.toArray ty cs vals.toArray).run P w= .ok (.value u) w'∧After E s w v s' u w':=by
 unfold Dj at h
 split at h
 ·rename_i t x
  obtain⟨e1,rfl⟩:=kN h
  rw [aW] at hv
  obtain⟨u,vs,rfl,hx,hxs⟩:=hv
  rw [kG] at hxs
  subst hxs
  obtain⟨y,h1,h2⟩:=amJ (ty:=ty) htt r hx e1
  exact⟨rfl,hp,y,w,by simp [builtin,h1],E,Stp.refl _ _ _,r,h2⟩
 ·rename_i t t2 id lo n t' y
  rw [aW] at hv
  obtain⟨u,vs,rfl,hx,hxs⟩:=hv
  rw [aW] at hxs
  obtain⟨u2,vs,rfl,hy,hys⟩:=hxs
  rw [kG] at hys
  subst hys
  split at h
  ·rename_i hz
   obtain⟨q1,q2,z,w',E',h1,h2,h3,h4⟩:=WM (ty:=ty) htt r hp hz hx hy h
   exact⟨q1,q2,z,w',by simp [builtin,h1],E',h2,h3,h4⟩
  ·simp [T.leaf] at h
 ·rename_i t t2 x y _
  rw [aW] at hv
  obtain⟨u,vs,rfl,hx,hxs⟩:=hv
  rw [aW] at hxs
  obtain⟨u2,vs,rfl,hy,hys⟩:=hxs
  rw [kG] at hys
  subst hys
  split at h
  ·rename_i hown
   obtain⟨q1,q2,z,w',E',h1,h2,h3,h4⟩:=UC (ty:=ty) htt r hp hx hy (fun hd=>by rw [hd,Bool.or_false] at hown; exact VZ hx hown) h
   exact⟨q1,q2,z,w',by simp [builtin,h1],E',h2,h3,h4⟩
  obtain⟨H,e1,rfl⟩:=uS h
  obtain⟨z,w',E',h1,h2,h3,h4⟩:=WL (ty:=ty) htt r hx hy e1
  exact⟨rfl,hp,z,w',by simp [builtin,h1],E',h2,h3,h4⟩
 ·rename_i t ts' m k
  rw [aW] at hv
  obtain⟨u,vs,rfl,hx,hxs⟩:=hv
  rw [aW] at hxs
  obtain⟨u2,vs,rfl,hy,hys⟩:=hxs
  rw [kG] at hys
  subst hys
  split at h
  ·rename_i id e t' hat
   obtain⟨q1,q2,rfl,w',h1,h2,h3⟩:=afV (ts:=ts') htt r hx hy hat h ty
   exact⟨q1,by rw [q2]; exact hp,.tuple #[],w',by simp [builtin,h1],E,h2,h3,by simp only [AV.undef,VR,bJ]; exact⟨[],rfl,rfl⟩⟩
  obtain⟨pc',hp',h⟩:=vO hp h
  obtain⟨H,e1,rfl,rfl⟩:=Fv h
  obtain⟨w',h1,h2,h3⟩:=WJ (ts:=ts') htt hp' r hx hy e1 ty
  exact⟨rfl,hp',.tuple #[],w',by simp [builtin,h1],E,h2,h3,by simp only [AV.undef,VR,bJ]; exact⟨[],rfl,rfl⟩⟩
 ·rename_i t id n t'
  rw [aW] at hv
  obtain⟨u,vs,rfl,hx,hxs⟩:=hv
  rw [kG] at hxs
  subst hxs
  obtain⟨q1,q2,rfl,w',E',h1,h2,h3⟩:=Jp (ty:=ty) htt r hp (ZT hx) h
  exact⟨q1,q2,.tuple #[],w',by simp [builtin,h1],E',h2,h3,by simp only [AV.undef,VR,bJ]; exact⟨[],rfl,rfl⟩⟩
 ·rename_i t id lo n t'
  rw [aW] at hv
  obtain⟨u,vs,rfl,hx,hxs⟩:=hv
  rw [kG] at hxs
  subst hxs
  obtain⟨q1,q2,rfl,w',E',h1,h2,h3⟩:=Jp (ty:=ty) htt r hp hx h
  exact⟨q1,q2,.tuple #[],w',by simp [builtin,h1],E',h2,h3,by simp only [AV.undef,VR,bJ]; exact⟨[],rfl,rfl⟩⟩
 ·rename_i t x _ _
  obtain⟨H,e1,rfl,rfl⟩:=Fv h
  rw [aW] at hv
  obtain⟨u,vs,rfl,hx,hxs⟩:=hv
  rw [kG] at hxs
  subst hxs
  obtain⟨w',h1,h2,h3⟩:=Zc (ty:=ty) htt r hx e1
  exact⟨rfl,hp,.tuple #[],w',by simp [builtin,h1],E,h2,h3,by simp only [AV.undef,VR,bJ]; exact⟨[],rfl,rfl⟩⟩
 ·rename_i k e xs
  rw [aW] at hv
  obtain⟨u,vs,rfl,hx,hxs⟩:=hv
  simp only [VR] at hx
  subst hx
  obtain⟨q1,q2,q3,u,q4,q5⟩:=qW (P:=P) (w:=w) hp hxs h
  refine⟨q2,q3,u,w,?_,E,by rw [q1]; exact Stp.refl _ _ _,by rw [q1]; exact r,q5⟩
  simp only [Bool.false_eq_true,if_false] at q4
  simp [builtin,Builtin.min_,q4]
 ·rename_i k e xs
  rw [aW] at hv
  obtain⟨u,vs,rfl,hx,hxs⟩:=hv
  simp only [VR] at hx
  subst hx
  obtain⟨q1,q2,q3,u,q4,q5⟩:=qW (P:=P) (w:=w) hp hxs h
  refine⟨q2,q3,u,w,?_,E,by rw [q1]; exact Stp.refl _ _ _,by rw [q1]; exact r,q5⟩
  simp only [if_true] at q4
  simp [builtin,Builtin.max_,q4]
 ·simp [T.leaf] at h
theorem afW [Glob] {tt:TT} (htt:eG P tt) {call:dU} (hc:jR P call) (r:bG E s.h w) (sr:SR E w.heap s.slots a) (hp:bI E.ρ s.pc) {c:Call} (ho:o.op= .call c)
 (h:(Uy tt call s c).leaf E.ρ=some (v,s')):oD P E s o a w v s':=by
 unfold Uy at h
 split at h
 ·simp [T.leaf] at h
 ·rename_i args hargs
  have hv:=Ud sr hargs
  have hmap:c.args.map a.eval=(c.args.toList.map a.eval).toArray:=UZ _ _
  split at h
  ·rename_i b aAH
   obtain⟨q1,q2,u,w',q3,q4⟩:=Uz htt r hp hv o.type (c.args.map fun | .const _=>true | _=>false) h
   refine⟨q1,q2,wR.value ?_ q4⟩
   simp only [execOp,ho,resolve,aAH,Sem.run_bind,Sem.run_pure,Result.andThen_ok,invoke,hmap]
   exact q3
  ·rename_i f aAH
   split at h
   ·rename_i g fs cs hf
    have hfv:=jI sr hf
    simp only [VR] at hfv
    obtain⟨us,ws,he,h1,h2⟩:=hfv
    obtain⟨q1,q2,q3⟩:=hc g _ s E w _ v s' r ((h1.append hv).append h2) hp h
    refine⟨q1,q2,wR.next ?_⟩
    unfold tC at q3
    simp only [execOp,ho,resolve,aAH,Sem.run_bind,he,Deferred.ofValue,Sem.run_pure,Result.andThen_ok,invoke,hmap]
    simpa using q3
   ·simp [T.leaf] at h
  ·simp [T.leaf] at h
theorem apX [Glob] {α:Type} {E:En} {h:Array Obj} {v:AV} {u:Value} {s:St} {k:AV→St→T α} {r:α} (hp:bI E.ρ s.pc) (hv:VR E h v u) (hl:(apY v s k).leaf E.ρ=some r) :
 ∃v' pc',bI E.ρ pc'∧VR E h v' u∧(k v' { s with pc:=pc' }).leaf E.ρ=some r:=by
 unfold apY at hl
 split at hl
 ·split at hl
  ·exact⟨_,s.pc,hp,hv,hl⟩
  ·obtain⟨pc1,hp1,h1⟩:=cO hp hl
   refine⟨_,pc1,hp1,?_,h1⟩
   simp only [VR,SB.den] at *
   exact hv
 ·exact⟨_,s.pc,hp,hv,hl⟩
theorem acJ [Glob] {tt:TT} (htt:eG P tt) {call:dU} (hc:jR P call) (r:bG E s.h w) (sr:SR E w.heap s.slots a) (hp:bI E.ρ s.pc) (h:(Um tt call s o.op).leaf E.ρ=some (v,s')):oD P E s o a w v s':=by
 obtain⟨dst,op,type,pos,after,guard⟩:=o
 simp only at h
 cases op <;> simp only [Um] at h <;> first | (simp [T.leaf] at h; done) | skip
 case move x=>
  obtain⟨u,h1,h2⟩:=jD sr h
  have:=aF h2
  simp only [Prod.mk.injEq] at this
  obtain⟨rfl,rfl⟩:=this
  exact oD.pure hp r (u:=a.eval x) rfl h1
 case assign x=>
  obtain⟨u,h1,h2⟩:=jD sr h
  have:=aF h2
  simp only [Prod.mk.injEq] at this
  obtain⟨rfl,rfl⟩:=this
  exact oD.pure hp r (u:=a.eval x) rfl h1
 case pick c x y=>
  obtain⟨cv,h1,h2⟩:=jD sr h
  split at h2
  ·rename_i cb
   obtain⟨pc',hp',h3⟩:=cO hp h2
   simp only [VR] at h1
   cases hcd:cb.den E.ρ <;> rw [hcd] at h1 h3
   ·simp only [Bool.false_eq_true,if_false] at h3
    obtain⟨u,h4,h5⟩:=jD (s:={ s with pc:=pc' }) sr h3
    have:=aF h5
    simp only [Prod.mk.injEq] at this
    obtain⟨rfl,rfl⟩:=this
    exact⟨rfl,hp',wR.value (u:=a.eval y) (by simp [execOp,h1,asBool]) ⟨E,Stp.refl _ _ _,r,h4⟩⟩
   ·simp only [if_true] at h3
    obtain⟨u,h4,h5⟩:=jD (s:={ s with pc:=pc' }) sr h3
    have:=aF h5
    simp only [Prod.mk.injEq] at this
    obtain⟨rfl,rfl⟩:=this
    exact⟨rfl,hp',wR.value (u:=a.eval x) (by simp [execOp,h1,asBool]) ⟨E,Stp.refl _ _ _,r,h4⟩⟩
  ·simp [T.leaf] at h2
 case alloc t=>
  split at h
  ·rename_i i hi
   have:=aF h
   simp only [Prod.mk.injEq] at this
   obtain⟨rfl,rfl⟩:=this
   obtain⟨inf,z,g1,g2,g3,g4,g5⟩:=CZ (htt t i hi)
   have hz:=fD (E:=E) (h:=w.heap) g5
   obtain⟨s1,s2⟩:=kJ r z.cells 0 0 t hz.1 hz.2 (fun i u hu=>by rw [← Array.getElem?_toList]; exact hu) (by omega) (w':={ w with heap:=w.heap.push (.cells z.cells t) }) rfl ⟨rfl,rfl,rfl⟩
   exact oD.heap hp (u:=.pointer (some ⟨w.heap.size,0,none⟩)) (by simp [execOp,Instr.alloc,zeroValue,typeInfo,g1,g4,newVar,newRow]) s1 s2 (Tt r _ _ 0)
  ·simp [T.leaf] at h
 case box t x=>
  obtain⟨u,h1,h2⟩:=jD sr h
  split at h2
  ·rename_i hone
   have:=aF h2
   simp only [Prod.mk.injEq] at this
   obtain⟨rfl,rfl⟩:=this
   have hcv:=h1.cells hone
   obtain⟨s1,s2⟩:=kJ r (a.eval x).cells 0 0 t hcv (hcv.ones hone) (fun i u hu=>by rw [← Array.getElem?_toList]; exact hu) (by omega) (w':={ w with heap:=w.heap.push (.cells (a.eval x).cells t) }) rfl ⟨rfl,rfl,rfl⟩
   exact oD.heap hp (u:=.pointer (some ⟨w.heap.size,0,none⟩)) (by simp [execOp,Instr.box,newVar,newRow]) s1 s2 (Tt r _ _ 0)
  ·simp [T.leaf] at h2
 case build t parts=>
  split at h
  ·rename_i ps hps
   obtain⟨e1,rfl⟩:=kN h
   have hpr:=EG sr hps
   obtain⟨x,h1,h2⟩:=Ze (w:=w) (ps:=parts.map fun p=>(p.1,a.eval p.2)) htt (by simpa using hpr) e1
   exact oD.pure hp r (u:=x) (by simp [execOp,h1]) h2
  ·simp [T.leaf] at h
 case buildSlice t len parts=>
  split at h
  ·rename_i ps hps
   obtain⟨H,e1,rfl⟩:=uS h
   have hpr:=EG sr hps
   obtain⟨x,w',E',h1,h2,h3,h4⟩:=JE (ps:=parts.map fun p=>(p.1,a.eval p.2)) htt r (by simpa using hpr) e1
   exact oD.heap hp (u:=x) (by simp [execOp,h1]) h2 h3 h4
  ·simp [T.leaf] at h
 case makeSlice t l c=>
  obtain⟨u,h1,h2⟩:=jD sr h
  split at h2
  ·rename_i cv hc
   split at h2
   ·rename_i q hq
    obtain⟨H,e1,rfl⟩:=uS h2
    simp only [Option.some.injEq] at e1
    subst e1
    obtain⟨x,w',E',g1,g2,g3,g4⟩:=BG htt r h1 (jI sr hc) hq
    exact oD.heap hp (u:=x) (by simp [execOp,g1]) g2 g3 g4
   ·obtain⟨q1,q2,x,w',E',g1,g2,g3,g4⟩:=Y3 htt r hp h1 (jI sr hc) h2
    exact⟨q1,q2,wR.value (by simp [execOp,g1]) ⟨E',g2,g3,g4⟩⟩
  ·simp [T.leaf] at h2
 case insert t m k x=>
  obtain⟨u,h1,h2⟩:=jD sr h
  split at h2
  ·rename_i kv xv hk hx
   split at h2
   ·obtain⟨q1,q2,rfl,w',E',g1,g2,g3⟩:=Ri (P:=P) htt r hp h1 (jI sr hk) (jI sr hx) h2
    exact⟨q1,q2,wR.skip (by simp [execOp,g1]) ⟨E',g2,g3,rP⟩⟩
   obtain⟨pc',hp',h2⟩:=vO hp h2
   obtain⟨H,e1,rfl,rfl⟩:=Fv h2
   obtain⟨w',g1,g2,g3⟩:=BF htt hp' r h1 (jI sr hk) (jI sr hx) e1
   exact⟨rfl,hp',wR.skip (by simp [execOp,g1]) ⟨E,g2,g3,rP⟩⟩
  ·simp [T.leaf] at h2
 case load t x=>
  obtain⟨u,h1,h2⟩:=jD sr h
  split at h2
  ·obtain⟨q1,q2,q3,y,b,off,g1,g2,g3⟩:=Y5 htt r hp h1 h2
   exact⟨q1,q3,wR.value (u:=y) (by simp [execOp,Instr.loadAt,g1,Instr.sureAddr,g2]) ⟨E,by rw [q2]; exact Stp.refl _ _ _,by rw [q2]; exact r,g3⟩⟩
  obtain⟨e1,rfl⟩:=kN h2
  obtain⟨y,b,off,g1,g2,g3⟩:=Iy htt r h1 e1
  exact oD.pure hp r (u:=y) (by simp [execOp,Instr.loadAt,g1,Instr.sureAddr,g2]) g3
 case store t x y=>
  obtain⟨u,h1,h2⟩:=jD sr h
  split at h2
  ·rename_i yv hy
   obtain⟨yv',pc',hp',hyv,h2⟩:=apX hp (jI sr hy) h2
   split at h2
   ·obtain⟨q1,q2,rfl,w',E',g1,g2,g3⟩:=WC htt (s:={ s with pc:=pc' }) r hp' h1 hyv h2
    exact⟨q1,q2,wR.skip (by simp [execOp,g1]) ⟨E',g2,g3,rP⟩⟩
   obtain⟨H,e1,rfl,rfl⟩:=Fv h2
   obtain⟨w',g1,g2,g3⟩:=YX htt r h1 hyv e1
   exact⟨rfl,hp',wR.skip (by simp [execOp,g1]) ⟨E,g2,g3,rP⟩⟩
  ·simp [T.leaf] at h2
 case nilCheck x=>
  obtain⟨u,h1,h2⟩:=jD sr h
  split at h2
  ·have:=aF h2
   simp only [Prod.mk.injEq] at this
   obtain⟨rfl,rfl⟩:=this
   have h1':=h1
   simp only [VR] at h1
   exact oD.pure hp r (u:=a.eval x) (by simp [execOp,h1.1]) h1'
  ·have:=aF h2
   simp only [Prod.mk.injEq] at this
   obtain⟨rfl,rfl⟩:=this
   have h1':=h1
   simp only [VR] at h1
   obtain⟨b,off,us,hu,_⟩:=h1
   exact oD.pure hp r (u:=a.eval x) (by simp [execOp,hu]) h1'
  ·have:=aF h2
   simp only [Prod.mk.injEq] at this
   obtain⟨rfl,rfl⟩:=this
   have h1':=h1
   simp only [VR] at h1
   obtain⟨_,k,_,hu⟩:=h1
   exact oD.pure hp r (u:=a.eval x) (by simp [execOp,hu]) h1'
  ·simp [T.leaf] at h2
 case binOp bop t x y yt=>
  obtain⟨u,h1,h2⟩:=jD sr h
  split at h2
  ·rename_i yv hy
   have hyv:=jI sr hy
   split at h2
   ·rename_i xs
    simp only [VR] at h1
    obtain⟨us,hus,h1⟩:=h1
    split at h2
    ·rename_i ys
     simp only [VR] at hyv
     obtain⟨vs,hvs,hyv⟩:=hyv
     split at h2
     ·rename_i c hcc
      have:=aF h2
      simp only [Prod.mk.injEq] at this
      obtain⟨rfl,rfl⟩:=this
      obtain⟨g1,g2,g3⟩:=NH (w:=w) htt h1 hyv hcc .eql x y
      exact oD.pure hp r (u:=.bool (c.den E.ρ)) (by simp [execOp,hus,hvs,g1,g2]) (by simp only [VR])
     ·simp [T.leaf] at h2
    ·rename_i ys
     simp only [VR] at hyv
     obtain⟨vs,hvs,hyv⟩:=hyv
     split at h2
     ·rename_i c hcc
      have:=aF h2
      simp only [Prod.mk.injEq] at this
      obtain⟨rfl,rfl⟩:=this
      obtain⟨g1,g2,g3⟩:=NH (w:=w) htt h1 hyv hcc .neq x y
      exact oD.pure hp r (u:=.bool (!(c.den E.ρ))) (by simp [execOp,hus,hvs,g1,g3]) (by simp only [VR,qR])
     ·simp [T.leaf] at h2
    ·simp [T.leaf] at h2
   ·split at h2
    ·rename_i e hna
     obtain⟨q1,q2,q3,y',g1,g2,g3,g4⟩:=asN (P:=P) (w:=w) htt hna h1 hyv hp h2
     exact⟨q1,q3,wR.value (u:=y') (by simp [execOp,BJ (P:=P) (w:=w) g3 g4,g1]) ⟨E,by rw [q2]; exact Stp.refl _ _ _,by rw [q2]; exact r,g2⟩⟩
    split at h2
    ·rename_i k e d hrl
     obtain⟨rfl,hu1,hu2⟩:=aeF hrl h1 hyv
     obtain⟨q1,q2,q3,hne,q4⟩:=asB hp h2
     refine⟨q1,q3,wR.value (u:=.int k ((e.den E.ρ).tmod (d.den E.ρ))) (w':=w) ?_ ⟨E,by rw [q2]; exact Stp.refl _ _ _,by rw [q2]; exact r,q4 _⟩⟩
     simp [execOp,hu1,hu2,binOp,Op.intDiv,hne,eqGuard]
    split at h2
    ·rename_i x' y' hsp
     obtain⟨q1,q2,q3,⟨y'',g1,g2⟩,g3,g4⟩:=afQ (P:=P) (w:=w) (t:=t) hp h1 hyv hsp h2
     exact⟨q1,q3,wR.value (u:=y'') (by simp [execOp,BJ (P:=P) (w:=w) g3 g4,g1]) ⟨E,by rw [q2]; exact Stp.refl _ _ _,by rw [q2]; exact r,g2⟩⟩
    ·obtain⟨e1,rfl⟩:=kN h2
     obtain⟨⟨y',g1,g2⟩,g3,g4⟩:=amL (w:=w) htt h1 hyv e1
     exact oD.pure hp r (u:=y') (by simp [execOp,BJ (P:=P) (w:=w) g3 g4,g1]) g2
  ·simp [T.leaf] at h2
 case unOp uop t x=>
  obtain⟨u,h1,h2⟩:=jD sr h
  obtain⟨e1,rfl⟩:=kN h2
  obtain⟨y,g1,g2⟩:=auJ (P:=P) (w:=w) h1 e1
  exact oD.pure hp r (u:=y) (by simp [execOp,g1]) g2
 case convert sT dT x=>
  obtain⟨u,h1,h2⟩:=jD sr h
  split at h2
  ·obtain⟨q1,q2,y,w',E',g1,g2,g3,g4⟩:=Zd (P:=P) htt r hp h1 h2
   exact⟨q1,q2,wR.value (u:=y) (by simp [execOp,g1]) ⟨E',g2,g3,g4⟩⟩
  obtain⟨H,e1,rfl⟩:=uS h2
  obtain⟨y,w',E',g1,g2,g3,g4⟩:=Gn htt r h1 e1
  exact oD.heap hp (u:=y) (by simp [execOp,g1]) g2 g3 g4
 case makeFunc fn fs cs=>
  split at h
  ·rename_i f c hf hcs
   have:=aF h
   simp only [Prod.mk.injEq] at this
   obtain⟨rfl,rfl⟩:=this
   have h1:=Ud sr hf
   have h2:=Ud sr hcs
   refine oD.pure hp r (u:=.func fn (fs.map a.eval) (cs.map a.eval)) (by simp [execOp,Instr.makeFunc]) ?_
   simp only [VR]
   have m1:fs.map a.eval=(fs.toList.map a.eval).toArray:=UZ _ _
   have m2:cs.map a.eval=(cs.toList.map a.eval).toArray:=UZ _ _
   exact⟨_,_,by rw [m1,m2],h1,h2⟩
  ·simp [T.leaf] at h
 case makeMap t res=>
  split at h
  ·split at h
   ·rename_i m hm
    have:=aF h
    simp only [Prod.mk.injEq] at this
    obtain⟨rfl,rfl⟩:=this
    obtain⟨s1,s2⟩:=FM r (.map #[] 0) (.iR (.dat (.i 0)) m) 0 (w':={ w with heap:=w.heap.push (.map #[] 0) }) rfl ⟨rfl,rfl,rfl⟩ (by
     simp only [OR,En.ext_θ_new]
     exact⟨#[],0,by simp,by simp [oG,SE.den,aC,D.l]⟩)
    exact oD.heap hp (u:=.map (some w.heap.size)) (by simp [execOp,Instr.makeMap]) s1 s2 (by simp only [VR,En.ext_θ_new]; exact⟨trivial,En.jK _ _ _ _⟩)
   have:=aF h
   simp only [Prod.mk.injEq] at this
   obtain⟨rfl,rfl⟩:=this
   obtain⟨s1,s2⟩:=FM r (.map #[] 0) (.map [] 0) 0 (w':={ w with heap:=w.heap.push (.map #[] 0) }) rfl ⟨rfl,rfl,rfl⟩ (by
    simp only [OR,En.ext_θ_new]
    exact⟨#[],0,by simp,by simp [fA]⟩)
   exact oD.heap hp (u:=.map (some w.heap.size)) (by simp [execOp,Instr.makeMap]) s1 s2 (by simp only [VR,En.ext_θ_new]; exact⟨trivial,En.jK _ _ _ _⟩)
  ·simp [T.leaf] at h
 case slice t x lo hi mx=>
  obtain⟨u,h1,h2⟩:=jD sr h
  split at h2
  ·rename_i l hh m hl hhh hm
   split at h2
   ·obtain⟨q1,q2,q3,y,g1,g2⟩:=Za (w:=w) htt hp h1 (fQ sr hl) (fQ sr hhh) (fQ sr hm) h2
    exact⟨q1,q3,wR.value (u:=y) (by simp [execOp,g1]) ⟨E,by rw [q2]; exact Stp.refl _ _ _,by rw [q2]; exact r,g2⟩⟩
   ·obtain⟨q1,q2,q3,y,g1,g2⟩:=Nr htt r hp (ZT h1) (fQ sr hl) (fQ sr hhh) (fQ sr hm) h2
    exact⟨q1,q3,wR.value (u:=y) (by simp [execOp,g1]) ⟨E,by rw [q2]; exact Stp.refl _ _ _,by rw [q2]; exact r,g2⟩⟩
   ·obtain⟨q1,q2,q3,y,g1,g2⟩:=Nr htt r hp h1 (fQ sr hl) (fQ sr hhh) (fQ sr hm) h2
    exact⟨q1,q3,wR.value (u:=y) (by simp [execOp,g1]) ⟨E,by rw [q2]; exact Stp.refl _ _ _,by rw [q2]; exact r,g2⟩⟩
   ·obtain⟨q1,q2,q3,y,g1,g2⟩:=YU (w:=w) htt hp h1 (fQ sr hl) (fQ sr hhh) (fQ sr hm) h2
    exact⟨q1,q3,wR.value (u:=y) (by simp [execOp,g1]) ⟨E,by rw [q2]; exact Stp.refl _ _ _,by rw [q2]; exact r,g2⟩⟩
   ·obtain⟨q1,q2,q3,y,g1,g2⟩:=Y8 (w:=w) htt hp h1 (fQ sr hl) (fQ sr hhh) (fQ sr hm) h2
    exact⟨q1,q3,wR.value (u:=y) (by simp [execOp,g1]) ⟨E,by rw [q2]; exact Stp.refl _ _ _,by rw [q2]; exact r,g2⟩⟩
   split at h2
   ·rename_i v' e1
    have:=aF h2
    simp only [Prod.mk.injEq] at this
    obtain⟨rfl,rfl⟩:=this
    obtain⟨y,g1,g2⟩:=YZ (w:=w) htt h1 (fQ sr hl) (fQ sr hhh) (fQ sr hm) e1
    exact oD.pure hp r (u:=y) (by simp [execOp,g1]) g2
   ·obtain⟨e1,rfl⟩:=kN h2
    obtain⟨y,g1,g2⟩:=WE (w:=w) htt r h1 (fQ sr hl) (fQ sr hhh) (fQ sr hm) e1
    exact oD.pure hp r (u:=y) (by simp [execOp,g1]) g2
  ·simp [T.leaf] at h2
 case fieldAddr t x f=>
  obtain⟨u,h1,h2⟩:=jD sr h
  obtain⟨e1,rfl⟩:=kN h2
  obtain⟨y,g1,g2⟩:=ND (w:=w) htt h1 e1
  exact oD.pure hp r (u:=y) (by simp [execOp,g1]) g2
 case field t x f=>
  obtain⟨u,h1,h2⟩:=jD sr h
  obtain⟨e1,rfl⟩:=kN h2
  obtain⟨y,g1,g2⟩:=Y7 (w:=w) htt h1 e1
  exact oD.pure hp r (u:=y) (by simp [execOp,g1]) g2
 case indexAddr t x i=>
  obtain⟨u,h1,h2⟩:=jD sr h
  split at h2
  ·rename_i iv hi
   split at h2
   ·obtain⟨e1,rfl⟩:=kN h2
    obtain⟨y,g1,g2⟩:=Y6 (w:=w) htt hp h1 (jI sr hi) e1
    exact oD.pure hp r (u:=y) (by simp [execOp,g1]) g2
   ·obtain⟨q1,q2,q3,y,g1,g2⟩:=Zb (w:=w) htt hp h1 (jI sr hi) h2
    exact⟨q1,q3,wR.value (u:=y) (by simp [execOp,g1]) ⟨E,by rw [q2]; exact Stp.refl _ _ _,by rw [q2]; exact r,g2⟩⟩
   ·obtain⟨q1,q2,q3,y,g1,g2⟩:=YT (w:=w) htt hp h1 (jI sr hi) h2
    exact⟨q1,q3,wR.value (u:=y) (by simp [execOp,g1]) ⟨E,by rw [q2]; exact Stp.refl _ _ _,by rw [q2]; exact r,g2⟩⟩
   ·obtain⟨q1,q2,q3,y,g1,g2⟩:=YS (w:=w) htt hp h1 (jI sr hi) h2
    exact⟨q1,q3,wR.value (u:=y) (by simp [execOp,g1]) ⟨E,by rw [q2]; exact Stp.refl _ _ _,by rw [q2]; exact r,g2⟩⟩
   ·rename_i pid po
    split at h2
    ·rename_i n e hb
     split at h2
     ·rename_i ho
      subst ho
      obtain⟨kd,ti,el,ie,rfl,b1,b2,b3,b4,b5⟩:=Ou hb
      obtain⟨pc',hp',t1,t2,h3⟩:=rF hp h2
      have:=aF h3
      simp only [Prod.mk.injEq] at this
      obtain⟨rfl,rfl⟩:=this
      have hiv:=jI sr hi
      simp only [VR] at hiv
      simp only [SE.den] at t2
      obtain⟨k,hk⟩ : ∃k:Nat,e.den E.ρ=(k:Int):=⟨(e.den E.ρ).toNat,by omega⟩
      have hlt:k < n:=by simp at t2; omega
      rw [hk] at hiv
      obtain⟨y,g1,g2⟩:=uY (P:=P) (w:=w) htt (t:=t) (ix:=.int kd (.lit (Int.ofNat k))) h1 (by simp only [VR,SE.den]; exact hiv) (v:=.ptr pid (0+k*ie.size)) (by
       unfold sF
       simp only [mY,b1,b2,jU,b3,Option.map_some]
       rw [if_pos hlt]
       rfl)
      refine⟨rfl,hp',wR.value (u:=y) (by simp [execOp,g1]) ⟨E,Stp.refl _ _ _,r,?_⟩⟩
      simp only [VR] at g2 ⊢
      exact⟨g2.2,k,hk,by rw [g2.1,b4]; congr 3; omega⟩
     ·simp [T.leaf] at h2
    ·obtain⟨ix',pc',hp',hix,h2⟩:=GV hp (jI sr hi) h2
     obtain⟨e1,rfl⟩:=kN h2
     obtain⟨y,g1,g2⟩:=uY (w:=w) htt h1 hix e1
     exact⟨rfl,hp',wR.value (u:=y) (by simp [execOp,g1]) ⟨E,Stp.refl _ _ _,r,g2⟩⟩
   ·obtain⟨ix',pc',hp',hix,h2⟩:=GV hp (jI sr hi) h2
    obtain⟨e1,rfl⟩:=kN h2
    obtain⟨y,g1,g2⟩:=uY (w:=w) htt h1 hix e1
    exact⟨rfl,hp',wR.value (u:=y) (by simp [execOp,g1]) ⟨E,Stp.refl _ _ _,r,g2⟩⟩
  ·simp [T.leaf] at h2
 case index t x i=>
  obtain⟨u,h1,h2⟩:=jD sr h
  split at h2
  ·rename_i iv hi
   split at h2
   ·obtain⟨q1,q2,q3,y,g1,g2⟩:=YV (w:=w) htt hp h1 (jI sr hi) h2
    exact⟨q1,q3,wR.value (u:=y) (by simp [execOp,g1]) ⟨E,by rw [q2]; exact Stp.refl _ _ _,by rw [q2]; exact r,g2⟩⟩
   ·rename_i cs
    split at h2
    ·rename_i n e hb
     split at h2
     ·rename_i hn
      have hn:=Nat.eq_of_beq_eq_true hn
      obtain⟨kd,ti,el,ie,rfl,b1,b2,b3,b4,b5⟩:=Ou hb
      obtain⟨q1,q2,q3,k,kk,z,x',c1,c2,c3,rfl,c5⟩:=Wy hp h2
      have hiv:=jI sr hi
      simp only [VR] at hiv
      rw [c1] at hiv
      obtain⟨l,hd⟩:=IC c3
      obtain⟨y,g1,g2⟩:=EH (P:=P) (w:=w) htt (t:=t) (ix:=.int kd (.lit (Int.ofNat k))) h1 (by simp only [VR,SE.den]; exact hiv) (v:=.int kk (.lit z)) (by
       unfold Gj
       simp only [mY,b1,b2,b3]
       rw [if_pos (by omega),b4,Nat.mul_one,hd]
       simp [partOf,b5])
      refine⟨q1,q3,wR.value (u:=y) (w':=w) (by simp [execOp,g1]) ⟨E,by rw [q2]; exact Stp.refl _ _ _,by rw [q2]; exact r,?_⟩⟩
      simp only [VR,SE.den] at g2 ⊢
      rw [g2,c5]
     ·simp [T.leaf] at h2
    ·obtain⟨ix',pc',hp',hix,h2⟩:=GV hp (jI sr hi) h2
     obtain⟨e1,rfl⟩:=kN h2
     obtain⟨y,g1,g2⟩:=EH (w:=w) htt h1 hix e1
     exact⟨rfl,hp',wR.value (u:=y) (by simp [execOp,g1]) ⟨E,Stp.refl _ _ _,r,g2⟩⟩
   obtain⟨ix',pc',hp',hix,h2⟩:=GV hp (jI sr hi) h2
   obtain⟨e1,rfl⟩:=kN h2
   obtain⟨y,g1,g2⟩:=EH (w:=w) htt h1 hix e1
   exact⟨rfl,hp',wR.value (u:=y) (by simp [execOp,g1]) ⟨E,Stp.refl _ _ _,r,g2⟩⟩
  ·simp [T.leaf] at h2
 case lookup t m k ok=>
  obtain⟨u,h1,h2⟩:=jD sr h
  split at h2
  ·rename_i kv hk
   split at h2
   ·rename_i id e t' hat
    obtain⟨q1,q2,q3,y,g1,g2⟩:=Y4 (P:=P) htt r hp h1 (jI sr hk) hat h2
    exact⟨q1,q3,wR.value (u:=y) (by simp [execOp,g1]) ⟨E,by rw [q2]; exact Stp.refl _ _ _,by rw [q2]; exact r,g2⟩⟩
   obtain⟨pc',hp',h2⟩:=vO hp h2
   obtain⟨e1,rfl⟩:=kN h2
   obtain⟨y,g1,g2⟩:=WI htt hp' r h1 (jI sr hk) e1
   exact⟨rfl,hp',wR.value (u:=y) (by simp [execOp,g1]) ⟨E,Stp.refl _ _ _,r,g2⟩⟩
  ·simp [T.leaf] at h2
 case mapUpdate t m k x=>
  obtain⟨u,h1,h2⟩:=jD sr h
  split at h2
  ·rename_i kv xv hk hx
   split at h2
   ·obtain⟨q1,q2,rfl,w',E',g1,g2,g3⟩:=Ri (P:=P) htt r hp h1 (jI sr hk) (jI sr hx) h2
    exact⟨q1,q2,wR.skip (by simp [execOp,g1]) ⟨E',g2,g3,rP⟩⟩
   obtain⟨pc',hp',h2⟩:=vO hp h2
   obtain⟨H,e1,rfl,rfl⟩:=Fv h2
   obtain⟨w',g1,g2,g3⟩:=BF htt hp' r h1 (jI sr hk) (jI sr hx) e1
   exact⟨rfl,hp',wR.skip (by simp [execOp,g1]) ⟨E,g2,g3,rP⟩⟩
  ·simp [T.leaf] at h2
 case range t x=>
  obtain⟨u,h1,h2⟩:=jD sr h
  obtain⟨H,e1,rfl⟩:=uS h2
  obtain⟨y,w',E',g1,g2,g3,g4⟩:=Y0 htt r h1 e1
  exact oD.heap hp (u:=y) (by simp [execOp,g1]) g2 g3 g4
 case next x isS=>
  obtain⟨u,h1,h2⟩:=jD sr h
  obtain⟨H,e1,rfl⟩:=uS h2
  obtain⟨y,w',g1,g2,g3,g4⟩:=afS (P:=P) r h1 e1 type
  exact oD.heap hp (u:=y) (by simp [execOp,g1]) g2 g3 g4
 case extract x i=>
  obtain⟨u,h1,h2⟩:=jD sr h
  split at h2
  ·rename_i vs
   obtain⟨e1,rfl⟩:=kN h2
   simp only [VR] at h1
   obtain⟨us,hus,h1⟩:=h1
   obtain⟨y,g1,g2⟩:=h1.nth e1
   exact oD.pure hp r (u:=y) (by simp [execOp,Instr.extract,hus,g1]) g2
  ·simp [T.leaf] at h2
 case call c=>exact afW htt hc r sr hp rfl h
end
end Go.As
end
section
namespace Go.As
section
variable {P:Program}
structure Fit [Glob] (E:En) (s:St) (a:Act) (w:World):Prop where
 rel:bG E s.h w
 sr:SR E w.heap s.slots a
 pc:bI E.ρ s.pc
structure Then [Glob] (E:En) (s:St) (a:Act) (w:World) (s':St) (a':Act) (w':World):Prop where
 defers:a'.defers=a.defers
 size:a'.tmps.size=a.tmps.size
 step: ∃E',Stp E s.h w E' s'.h w'∧Fit E' s' a' w'
theorem Then.refl [Glob] {E:En} {s:St} {a:Act} {w:World} (f:Fit E s a w):Then E s a w s a w:=⟨rfl,rfl,E,Stp.refl _ _ _,f⟩
theorem SR.keep {E E':En} {h h':Array Obj} (k:Keeps E h E' h') {slots:Tr AV} {a:Act} (sr:SR E h slots a):SR E' h' slots a:=by
 intro t v ht
 obtain⟨u,h1,h2⟩:=sr t v ht
 exact⟨u,h1,VR.keep k v u h2⟩
theorem SR.put {E:En} {h:Array Obj} {slots:Tr AV} {a:Act} (sr:SR E h slots a) {d:Nat} {v:AV} {u:Value} (hd:d < a.tmps.size) (hv:VR E h v u):SR E h (slots.put d (some v)) (a.put (some d) u):=by
 intro t x ht
 rw [Tr.get_put] at ht
 simp only [Act.put]
 split at ht
 ·rename_i e
  subst e
  simp at ht
  subst ht
  exact⟨u,by simp [hd],hv⟩
 ·rename_i e
  obtain⟨y,h1,h2⟩:=sr t x ht
  exact⟨y,by rw [Array.getElem?_setIfInBounds_ne (fun q=>e q.symm)]; exact h1,h2⟩
theorem SR.aEM {E:En} {h:Array Obj} {s:St} {a:Act} (sr:SR E h s.slots a) {d:Option Nat} {v:AV} {u:Value} (hd: ∀t,d=some t→t < a.tmps.size) (hv:VR E h v u):SR E h (s.Vu d v).slots (a.put d u):=by
 cases d with
 | none=>exact sr
 | some t=>exact sr.put (hd t rfl) hv
theorem LJ (a:Act) (d:Option Nat) (u:Value):(a.put d u).tmps.size=a.tmps.size:=by cases d <;> simp [Act.put]
theorem put_defers (a:Act) (d:Option Nat) (u:Value):(a.put d u).defers=a.defers:=by cases d <;> rfl
theorem ajG (s:St) (d:Option Nat) (v:AV):(s.Vu d v).h=s.h:=by cases d <;> rfl
theorem arW (s:St) (d:Option Nat) (v:AV):(s.Vu d v).pc=s.pc:=by cases d <;> rfl
theorem QY [Glob] {E:En} {s s':St} {a:Act} {w w':World} {v:AV} {u:Value} {d:Option Nat} (f:Fit E s a w) (hs:s'.slots=s.slots) (hp:bI E.ρ s'.pc) (h:After E s w v s' u w') (hd: ∀t,d=some t→t < a.tmps.size) :
 Then E s a w (s'.Vu d v) (a.put d u) w':=by
 obtain⟨E',h1,h2,h3⟩:=h
 refine⟨put_defers _ _ _,LJ _ _ _,E',by rw [ajG]; exact h1,⟨by rw [ajG]; exact h2,?_,by rw [arW,h1.ρ]; exact hp⟩⟩
 refine SR.aEM ?_ hd h3
 rw [hs]
 exact f.sr.keep (h1.keeps f.rel)
theorem Then.trans [Glob] {E:En} {s s1 s2:St} {a a1 a2:Act} {w w1 w2:World} (h1:Then E s a w s1 a1 w1) (h2: ∀E1,Stp E s.h w E1 s1.h w1→Fit E1 s1 a1 w1→Then E1 s1 a1 w1 s2 a2 w2):Then E s a w s2 a2 w2:=by
 obtain⟨d1,z1,E1,st1,f1⟩:=h1
 obtain⟨d2,z2,E2,st2,f2⟩:=h2 E1 st1 f1
 exact⟨d2.trans d1,z2.trans z1,E2,st1.trans st2,f2⟩
theorem LY [Glob] {α:Type} {E:En} {w:World} {s:St} {a:Act} {ops:Array Oper} {o:Oper} {f:St→Bool→T α} {r:α} (fit:Fit E s a w) (h:(CQ ops.toList s o f).leaf E.ρ=some r) :
 ∃pc',bI E.ρ pc'∧(f { s with pc:=pc' } (Region.wanted o (yielded ops a.tmps))).leaf E.ρ=some r:=by
 unfold CQ at h
 unfold Region.wanted
 split at h
 ·rename_i hg
  rw [hg]
  exact⟨s.pc,fit.pc,h⟩
 ·rename_i j want hg
  rw [hg]
  split at h
  ·rename_i oj hj
   rw [dB,Array.getElem?_toList] at hj
   split at h
   ·rename_i d hd
    split at h
    ·rename_i c hc
     obtain⟨u,h1,h2⟩:=fit.sr d _ hc
     simp only [VR] at h2
     subst h2
     obtain⟨pc',hp',h3⟩:=cO fit.pc h
     refine⟨pc',hp',?_⟩
     have:yielded ops a.tmps j=some (c.den E.ρ):=by simp [yielded,hj,hd,h1]
     simp only [this]
     simpa using h3
    ·rename_i vs hc
     obtain⟨u,h1,h2⟩:=fit.sr d _ hc
     simp only [VR] at h2
     obtain⟨us,rfl,_⟩:=h2
     refine⟨s.pc,fit.pc,?_⟩
     have:yielded ops a.tmps j=none:=by simp [yielded,hj,hd,h1]
     simp only [this]
     simpa using h
    ·simp [T.leaf] at h
   ·simp [T.leaf] at h
  ·simp [T.leaf] at h
def aB3 (n:Nat) (ops:List Oper):Bool:=ops.all fun o=>match o.dst with | some d=>d < n | none=>true
theorem Ny [Glob] {tt:TT} (htt:eG P tt) {call:dU} (hc:jR P call) {ops:Array Oper} {Q:Exit→Act→World→Prop}: ∀(rest:List Oper) (i:Nat) {E:En} {s s':St} {a:Act} {w:World},ops.toList.drop i=rest→
 (∀o∈rest,∀d,o.dst=some d→d < a.tmps.size)→Fit E s a w→(WH tt call ops.toList rest s).leaf E.ρ=some s'→
 (∀a' w',Then E s a w s' a' w'→Q .normal a' w')→wpOps P ops Q (List.range' i rest.length) a w
 | [],i,E,s,s',a,w,_,_,fit,h,hq=>by
   have:=aF h
   subst this
   exact hq a w (Then.refl fit)
 | o :: rest,i,E,s,s',a,w,hi,hd,fit,h,hq=>by
   simp only [WH] at h
   obtain⟨pc',hp',h1⟩:=LY fit h
   have hoi:ops[i]?=some o:=by
    have:=congrArg (·[0]?) hi
    simpa using this
   have hrest:ops.toList.drop (i+1)=rest:=by
    have:=congrArg List.tail hi
    simpa using this
   have fit':Fit E { s with pc:=pc' } a w:=⟨fit.rel,fit.sr,hp'⟩
   simp only [List.length_cons,List.range'_succ]
   show wpOps P ops Q (i :: List.range' (i+1) rest.length) a w
   simp only [wpOps,hoi]
   cases hw:Region.wanted o (yielded ops a.tmps) <;> rw [hw] at h1
   ·simp only [Bool.false_eq_true,if_false] at h1 ⊢
    have hstep:Then E s a w (St.Vu { s with pc:=pc' } o.dst AV.undef) (a.put o.dst undef) w:=
     QY (s':={ s with pc:=pc' }) fit rfl hp' ⟨E,Stp.refl _ _ _,fit.rel,rP⟩ (hd o (by simp))
    obtain⟨d1,z1,E1,st1,f1⟩:=hstep
    refine Ny htt hc rest (i+1) hrest (fun o' ho' d hd'=>by rw [z1]; exact hd o' (by simp [ho']) d hd') f1 (by rw [st1.ρ]; exact h1) fun a' w' ht=>?_
    exact hq a' w' ⟨ht.defers.trans d1,ht.size.trans z1,by obtain⟨E2,st2,f2⟩:=ht.step; exact⟨E2,st1.trans st2,f2⟩⟩
   ·simp only [if_true] at h1 ⊢
    left
    obtain⟨⟨v,s1⟩,h2,h3⟩:=T.fP h1
    obtain⟨q1,q2,q3⟩:=acJ htt hc (o:=o) fit'.rel fit'.sr fit'.pc h2
    refine q3 _ _ fun u w1 hu=>?_
    have hstep:Then E s a w (s1.Vu o.dst v) (a.put o.dst u) w1:=QY (s:=s) (s':=s1) fit q1 q2 hu (hd o (by simp))
    obtain⟨d1,z1,E1,st1,f1⟩:=hstep
    refine Ny htt hc rest (i+1) hrest (fun o' ho' d hd'=>by rw [z1]; exact hd o' (by simp [ho']) d hd') f1 (by rw [st1.ρ]; exact h3) fun a' w' ht=>?_
    exact hq a' w' ⟨ht.defers.trans d1,ht.size.trans z1,by obtain⟨E2,st2,f2⟩:=ht.step; exact⟨E2,st1.trans st2,f2⟩⟩
def avO [Glob] (P:Program) (draw:List Oper→St→T St):Prop:=
 ∀(id:Nat) (ops:Array Oper) (E:En) (s s':St) (a:Act) (w:World) (Q:Exit→Act→World→Prop),(∀o∈ops.toList,∀d,o.dst=some d→d < a.tmps.size)→Fit E s a w→(draw ops.toList s).leaf E.ρ=some s'→
  (∀a' w',Then E s a w s' a' w'→Q .normal a' w')→(Code.region id ops true).wp P Q a w
def BZ [Glob] (P:Program) (chk:Nat→List Oper→Bool) (draw:Nat→List Oper→St→T St):Prop:=
 ∀(id:Nat) (ops:Array Oper),chk id ops.toList=true→∀(E:En) (s s':St) (a:Act) (w:World) (Q:Exit→Act→World→Prop),(∀o∈ops.toList,∀d,o.dst=some d→d < a.tmps.size)→Fit E s a w→(draw id ops.toList s).leaf E.ρ=some s'→
  (∀a' w',Then E s a w s' a' w'→Q .normal a' w')→(Code.region id ops true).wp P Q a w
def mD (chk:Nat→List Oper→Bool) (n:Nat):Code→Bool
 | .region id ops d=>aB3 n ops.toList && (!d || chk id ops.toList)
 | .seq a b=>mD chk n a && mD chk n b
 | .cond _ a b=>mD chk n a && mD chk n b
 | .block _ b=>mD chk n b
 | .loop b=>mD chk n b
 | .scope b=>mD chk n b
 | _=>true
theorem auS {n m:Nat} {ops:List Oper} (h:aB3 n ops=true) (hm:n≤m): ∀o∈ops,∀d,o.dst=some d→d < m:=by
 intro o ho d hd
 unfold aB3 at h
 rw [List.all_eq_true] at h
 have:=h o ho
 rw [hd] at this
 simp at this
 exact Nat.lt_of_lt_of_le this hm
def D9:Ex→Exit
 | .normal=> .normal
 | .exit id=> .exit id
 | .ret=> .ret
def Post [Glob] (E:En) (s:St) (a:Act) (w:World) (e:Ex) (s':St) (x:Exit) (a':Act) (w':World):Prop:=x=D9 e∧Then E s a w s' a' w'
theorem Then.comp [Glob] {E E1:En} {s s1 s2:St} {a a1 a2:Act} {w w1 w2:World} (d1:a1.defers=a.defers) (z1:a1.tmps.size=a.tmps.size) (st1:Stp E s.h w E1 s1.h w1) (h2:Then E1 s1 a1 w1 s2 a2 w2):Then E s a w s2 a2 w2:=by
 obtain⟨d2,z2,E2,st2,f2⟩:=h2
 exact⟨d2.trans d1,z2.trans z1,E2,st1.trans st2,f2⟩
def aqN [Glob] (P:Program) (c:Code) (n:Nat) (f:St→T (Ex×St)):Prop:=
 ∀(E:En) (s s':St) (e:Ex) (a:Act) (w:World),n≤a.tmps.size→Fit E s a w→(f s).leaf E.ρ=some (e,s')→c.wp P (Post E s a w e s') a w
theorem Nz {ρ:Nat→Int} {f:St→T (Ex×St)}: ∀(k:Nat) {s s':St} {e:Ex},(BH f k s).leaf ρ=some (e,s')→e≠.normal
 | 0,s,s',e,h=>by simp [BH,T.leaf] at h
 | k+1,s,s',e,h=>by
   simp only [BH] at h
   obtain⟨⟨e1,s1⟩,h1,h2⟩:=T.fP h
   cases e1 with
   | normal=>exact Nz k h2
   | exit id=>have:=aF h2; simp only [Prod.mk.injEq] at this; rw [← this.1]; simp
   | ret=>have:=aF h2; simp only [Prod.mk.injEq] at this; rw [← this.1]; simp
theorem Rk [Glob] {c:Code} {n:Nat} {f:St→T (Ex×St)} (hf:aqN P c n f): ∀(k:Nat) {E:En} {s s':St} {e:Ex} {a:Act} {w:World},n≤a.tmps.size→Fit E s a w→(BH f k s).leaf E.ρ=some (e,s')→
 ∀(Q:Exit→Act→World→Prop),(∀a' w',Then E s a w s' a' w'→Q (D9 e) a' w')→e≠.normal∧Code.rounds P c Q k a w
 | 0,E,s,s',e,a,w,_,_,h,_,_=>by simp [BH,T.leaf] at h
 | k+1,E,s,s',e,a,w,hn,fit,h,Q,hq=>by
   simp only [BH] at h
   obtain⟨⟨e1,s1⟩,h1,h2⟩:=T.fP h
   have hw:=hf E s s1 e1 a w hn fit h1
   rw [rounds_succ]
   cases e1 with
   | normal=>
     simp only at h2
     constructor
     ·exact Nz k h2
     ·refine wp_mono hw fun x a1 w1 ⟨hx,ht⟩=>?_
      subst hx
      obtain⟨d1,z1,E1,st1,f1⟩:=ht
      exact (Rk hf k (by rw [z1]; exact hn) f1 (by rw [st1.ρ]; exact h2) Q fun a' w' ht'=>hq a' w' (ht'.comp d1 z1 st1)).2
   | exit id=>
     have:=aF h2
     simp only [Prod.mk.injEq] at this
     obtain⟨rfl,rfl⟩:=this
     refine⟨by simp,wp_mono hw fun x a1 w1 ⟨hx,ht⟩=>?_⟩
     subst hx
     exact hq a1 w1 ht
   | ret=>
     have:=aF h2
     simp only [Prod.mk.injEq] at this
     obtain⟨rfl,rfl⟩:=this
     refine⟨by simp,wp_mono hw fun x a1 w1 ⟨hx,ht⟩=>?_⟩
     subst hx
     exact hq a1 w1 ht
theorem nO [Glob] {tt:TT} (htt:eG P tt) {call:dU} (hc:jR P call) {draw:Nat→List Oper→St→T St} {chk:Nat→List Oper→Bool} (hdr:BZ P chk draw) {lf n:Nat}: ∀(c:Code),mD chk n c=true→aqN P c n (kT tt call draw lf c)
 | .skip,_,E,s,s',e,a,w,_,fit,h=>by
   have:=aF h
   simp only [Prod.mk.injEq] at this
   obtain⟨rfl,rfl⟩:=this
   exact wp_skip ⟨rfl,Then.refl fit⟩
 | .region id ops d,hdst,E,s,s',e,a,w,hn,fit,h=>by
   simp only [kT] at h
   simp only [mD,Bool.and_eq_true] at hdst
   have hd:=auS hdst.1 hn
   cases d
   ·simp only [Bool.false_eq_true,if_false] at h
    obtain⟨s1,h1,h2⟩:=T.fP h
    have:=aF h2
    simp only [Prod.mk.injEq] at this
    obtain⟨rfl,rfl⟩:=this
    refine wp_region ?_
    have:=Ny (Q:=Post E s a w .normal s1) htt hc ops.toList 0 (by simp) hd fit h1 (fun a' w' ht=> ⟨rfl,ht⟩)
    rw [List.range_eq_range']
    simpa using this
   ·simp only [if_true] at h
    obtain⟨s1,h1,h2⟩:=T.fP h
    have:=aF h2
    simp only [Prod.mk.injEq] at this
    obtain⟨rfl,rfl⟩:=this
    exact hdr id ops (by simpa using hdst.2) E s s1 a w _ hd fit h1 (fun a' w' ht=> ⟨rfl,ht⟩)
 | .seq x y,hdst,E,s,s',e,a,w,hn,fit,h=>by
   simp only [mD,Bool.and_eq_true] at hdst
   simp only [kT] at h
   obtain⟨⟨e1,s1⟩,h1,h2⟩:=T.fP h
   refine wp_seq (wp_mono (nO htt hc hdr x hdst.1 E s s1 e1 a w hn fit h1) fun q a1 w1 ⟨hx,ht⟩=>?_)
   subst hx
   cases e1 with
   | normal=>
     simp only at h2
     obtain⟨d1,z1,E1,st1,f1⟩:=ht
     refine wp_mono (nO htt hc hdr y hdst.2 E1 s1 s' e a1 w1 (by rw [z1]; exact hn) f1 (by rw [st1.ρ]; exact h2)) fun q a2 w2 ⟨hx,ht'⟩=>?_
     exact⟨hx,ht'.comp d1 z1 st1⟩
   | exit id=>
     have:=aF h2
     simp only [Prod.mk.injEq] at this
     obtain⟨rfl,rfl⟩:=this
     exact⟨rfl,ht⟩
   | ret=>
     have:=aF h2
     simp only [Prod.mk.injEq] at this
     obtain⟨rfl,rfl⟩:=this
     exact⟨rfl,ht⟩
 | .cond c x y,hdst,E,s,s',e,a,w,hn,fit,h=>by
   simp only [mD,Bool.and_eq_true] at hdst
   simp only [kT] at h
   split at h
   ·rename_i cb hcb
    have hv:=jI fit.sr hcb
    simp only [VR] at hv
    obtain⟨pc',hp',h1⟩:=cO fit.pc h
    have fit':Fit E { s with pc:=pc' } a w:=⟨fit.rel,fit.sr,hp'⟩
    refine wp_cond hv ?_
    cases hcd:cb.den E.ρ <;> rw [hcd] at h1
    ·simp only [Bool.false_eq_true,if_false] at h1 ⊢
     exact wp_mono (nO htt hc hdr y hdst.2 E _ s' e a w hn fit' h1) fun q a2 w2 ⟨hx,ht⟩=> ⟨hx,ht.defers,ht.size,ht.step⟩
    ·simp only [if_true] at h1 ⊢
     exact wp_mono (nO htt hc hdr x hdst.1 E _ s' e a w hn fit' h1) fun q a2 w2 ⟨hx,ht⟩=> ⟨hx,ht.defers,ht.size,ht.step⟩
   ·simp [T.leaf] at h
 | .block id b,hdst,E,s,s',e,a,w,hn,fit,h=>by
   simp only [mD] at hdst
   simp only [kT] at h
   obtain⟨⟨e1,s1⟩,h1,h2⟩:=T.fP h
   refine wp_block (wp_mono (nO htt hc hdr b hdst E s s1 e1 a w hn fit h1) fun q a1 w1 ⟨hx,ht⟩=>?_)
   subst hx
   cases e1 with
   | normal=>
     have:=aF h2
     simp only [Prod.mk.injEq] at this
     obtain⟨rfl,rfl⟩:=this
     exact⟨rfl,ht⟩
   | exit j=>
     have:=aF h2
     simp only [Prod.mk.injEq] at this
     obtain⟨rfl,rfl⟩:=this
     simp only [D9,Exit.inBlock]
     by_cases hj:j=id
     ·rw [if_pos hj,if_pos hj]; exact⟨rfl,ht⟩
     ·rw [if_neg hj,if_neg hj]; exact⟨rfl,ht⟩
   | ret=>
     have:=aF h2
     simp only [Prod.mk.injEq] at this
     obtain⟨rfl,rfl⟩:=this
     exact⟨rfl,ht⟩
 | .loop b,hdst,E,s,s',e,a,w,hn,fit,h=>by
   simp only [mD] at hdst
   simp only [kT] at h
   exact wp_loop_rounds lf (Rk (nO htt hc hdr b hdst) lf hn fit h (Post E s a w e s') (fun a' w' ht=> ⟨rfl,ht⟩)).2
 | .exit id,_,E,s,s',e,a,w,_,fit,h=>by
   have:=aF h
   simp only [Prod.mk.injEq] at this
   obtain⟨rfl,rfl⟩:=this
   exact wp_exit ⟨rfl,Then.refl fit⟩
 | .scope b,hdst,E,s,s',e,a,w,hn,fit,h=>by
   simp only [mD] at hdst
   simp only [kT] at h
   refine wp_scope_straight (wp_mono (nO htt hc hdr b hdst E s s' e a w hn fit h) fun q a1 w1 ⟨hx,ht⟩=>?_)
   subst hx
   cases e <;> exact⟨rfl,ht⟩
 | .label l,_,E,s,s',e,a,w,_,fit,h=>by
   have:=aF h
   simp only [Prod.mk.injEq] at this
   obtain⟨rfl,rfl⟩:=this
   exact wp_label ⟨rfl,Then.refl fit⟩
 | .ret,_,E,s,s',e,a,w,_,fit,h=>by
   have:=aF h
   simp only [Prod.mk.injEq] at this
   obtain⟨rfl,rfl⟩:=this
   exact wp_ret ⟨rfl,Then.refl fit⟩
 | .rangeFunc _ _ _ _,_,E,s,s',e,a,w,_,fit,h=>by simp [kT,T.leaf] at h
 | .goto _,_,E,s,s',e,a,w,_,fit,h=>by simp [kT,T.leaf] at h
 | .refuse _,_,E,s,s',e,a,w,_,fit,h=>by simp [kT,T.leaf] at h
end
end Go.As
end
section
namespace Go.As
section
variable {P:Program}
theorem V5: ∀(args:List AV) (i:Nat) (t:Tr AV) (k:Nat),(bD args i t).get k=if i≤k∧k < i+args.length then args[k - i]? else t.get k
 | [],i,t,k=>by
   have: ¬(i≤k∧k < i+([]:List AV).length):=by simp
   rw [if_neg this]
   rfl
 | v :: vs,i,t,k=>by
   simp only [bD,V5 vs (i+1),Tr.get_put,List.length_cons]
   by_cases h1:i+1≤k∧k < i+1+vs.length
   ·have h2:i≤k∧k < i+(vs.length+1):=by omega
    rw [if_pos h1,if_pos h2]
    have:k - i=(k - (i+1))+1:=by omega
    rw [this,List.getElem?_cons_succ]
   ·rw [if_neg h1]
    by_cases h3:k=i
    ·subst h3
     have h2:k≤k∧k < k+(vs.length+1):=by omega
     rw [if_pos h2]
     simp
    ·have h2: ¬(i≤k∧k < i+(vs.length+1)):=by omega
     rw [if_neg h2]
     first
      | rw [if_neg h3]
      | rw [if_neg (fun q=>h3 q.symm)]
theorem bJ.get {E:En} {h:Array Obj}: ∀{vs:List AV} {us:List Value},bJ E h vs us→∀(i:Nat) (v:AV),vs[i]?=some v→∃u,us[i]?=some u∧VR E h v u
 | [],us,hv,i,v,hi=>by simp at hi
 | x :: xs,us,hv,i,v,hi=>by
   cases us with
   | nil=>simp [bJ] at hv
   | cons y ys=>
     simp only [bJ] at hv
     obtain⟨u',us',he,h1,h2⟩:=hv
     simp only [List.cons.injEq] at he
     obtain⟨rfl,rfl⟩:=he
     cases i with
     | zero=>simp at hi; subst hi; exact⟨y,by simp,h1⟩
     | succ i=>simpa using bJ.get h2 i v (by simpa using hi)
theorem FU {E:En} {h:Array Obj} {args:List AV} {vals:List Value} (hv:bJ E h args vals) (n:Nat) :
 SR E h (bD args 0 .nil) { tmps:=vals.toArray++Array.replicate n undef,defers:=[] }:=by
 intro t v ht
 rw [V5] at ht
 split at ht
 ·rename_i hk
  obtain⟨u,h1,h2⟩:=bJ.get hv t v (by simpa using ht)
  refine⟨u,?_,h2⟩
  have:t < vals.length:=by
   rcases Nat.lt_or_ge t vals.length with h | h
   ·exact h
   ·rw [List.getElem?_eq_none h] at h1; simp at h1
  rw [Array.getElem?_append_left (by simpa using this)]
  simpa using h1
 ·simp [Tr.get] at ht
def A8 (a:Act):ResultVar→Sem Value
 | .tmp t=>pure (a.tmps.getD t undef)
 | .cell b t=>do loadVar t (← asAddr (a.tmps.getD b undef))
def resV (vs:List AV):AV:=match vs with | [x]=>x | vs=> .tuple vs
theorem Pz {vs:List AV} (h: ∀v,vs= [v]→False):resV vs= .tuple vs:=by
 unfold resV
 split
 ·exact absurd rfl (h _)
 ·rfl
theorem JV {E:En} {h:Array Obj} {vs:List AV} {us:List Value} (g2:bJ E h vs us):VR E h (resV vs) (if h:us.toArray.size=1 then us.toArray[0] else .tuple us.toArray):=by
 cases vs with
 | nil=>
   simp only [bJ] at g2
   subst g2
   simp [resV,VR,bJ]
 | cons x xs=>
   cases xs with
   | nil=>
     simp only [bJ] at g2
     obtain⟨u,us',rfl,h1,rfl⟩:=g2
     simpa [resV] using h1
   | cons x2 xs=>
     have g3:=g2
     simp only [bJ] at g2
     obtain⟨u,us',rfl,h1,u2,us2,rfl,h2,h3⟩:=g2
     have: ¬((u :: u2 :: us2).toArray.size=1):=by simp
     rw [dif_neg this]
     simp only [resV,VR]
     exact⟨_,rfl,g3⟩
theorem WG [Glob] {tt:TT} (htt:eG P tt) {E:En} {s:St} {a:Act} {w:World} (fit:Fit E s a w) {r:ResultVar} {v:AV} (h:Gg tt s r=some v) :
 ∃u,(A8 a r).run P w= .ok u w∧VR E w.heap v u:=by
 cases r with
 | tmp t=>
   simp only [Gg] at h
   obtain⟨u,h1,h2⟩:=fit.sr t v h
   exact⟨u,by simp [A8,h1,Array.getD_eq_getD_getElem?],h2⟩
 | cell b t=>
   simp only [Gg] at h
   split at h
   ·rename_i p hp
    obtain⟨u,h1,h2⟩:=fit.sr b p hp
    obtain⟨x,bb,o,rfl,h3,h4⟩:=Iy htt fit.rel h2 h
    exact⟨x,by simp [A8,h1,Array.getD_eq_getD_getElem?,asAddr,h3],h4⟩
   ·simp at h
theorem zM [Glob] {tt:TT} (htt:eG P tt) {E:En} {s:St} {a:Act} {w:World} (fit:Fit E s a w): ∀{rs:List ResultVar} {vs:List AV},nN tt s rs=some vs→
 ∃us,(rs.mapM (A8 a)).run P w= .ok us w∧bJ E w.heap vs us
 | [],vs,h=>by
   simp [nN] at h
   subst h
   exact⟨[],by simp,by simp [bJ]⟩
 | r :: rs,vs,h=>by
   simp only [nN] at h
   split at h
   ·simp at h
   ·rename_i v hv
    split at h
    ·simp at h
    ·rename_i vs' hvs
     simp at h
     subst h
     obtain⟨u,h1,h2⟩:=WG htt fit hv
     obtain⟨us,h3,h4⟩:=zM htt fit hvs
     refine⟨u :: us,?_,by simp only [bJ]; exact⟨u,us,rfl,h2,h4⟩⟩
     rw [List.mapM_cons]
     simp [Sem.run_bind,h1,h3]
def agI (P:Program) (chk:Nat→Nat→List Oper→Bool) (ft:Nat→Option Func):Prop:= ∀g fn,ft g=some fn→P.funcs[g]?=some fn∧(fn.name == "runtime.NumGoroutine")=false∧∀c,fn.body=some c→mD (chk g) fn.ntmps c=true
theorem Gm [Glob] {tt:TT} (htt:eG P tt) {chk:Nat→Nat→List Oper→Bool} {ft:Nat→Option Func} (hft:agI P chk ft) {hook:Nat→Option (List AV→St→T (AV×St))} (hh: ∀g h,hook g=some h→mJ P g h)
 {draw:dU→Nat→Nat→List Oper→St→T St} (hdr: ∀call,jR P call→∀g,BZ P (chk g) (draw call g)) (lf:Nat): ∀(n:Nat),jR P (Ur tt ft hook draw lf n)
 | 0=>by
   intro g args s E w vals v s' _ _ _ h
   simp [Ur,T.leaf] at h
 | n+1=>by
   have ih:=Gm htt hft hh hdr lf n
   intro g args s E w vals v s' r hv hp h
   simp only [Ur] at h
   split at h
   ·rename_i f hf
    exact hh g f hf args s E w vals v s' r hv hp h
   ·split at h
    ·simp [T.leaf] at h
    ·rename_i fn hfn
     obtain⟨hf,hname,hdst⟩:=hft g fn hfn
     split at h
     ·simp [T.leaf] at h
     ·rename_i c hb
      obtain⟨⟨e,s1⟩,h1,h2⟩:=T.fP h
      have fit:Fit E { s with slots:=bD args 0 .nil } { tmps:=vals.toArray++Array.replicate (fn.ntmps - vals.toArray.size) undef,defers:=[] } w:=
       ⟨r,FU hv _,hp⟩
      have hwp:=nO htt ih (hdr _ ih g) (lf:=lf) c (hdst c hb) E _ s1 e _ w (by simp; omega) fit h1
      have hout: ∃vs,nN tt s1 fn.results.toList=some vs∧(e= .normal∨e= .ret)∧s'= { s1 with slots:=s.slots }∧v=resV vs:=by
       cases e with
       | exit id=>simp [T.leaf] at h2
       | normal=>
         simp only at h2
         split at h2
         ·rename_i x hx
          have:=aF h2
          simp only [Prod.mk.injEq] at this
          exact⟨_,hx,.inl rfl,this.2.symm,this.1.symm⟩
         ·rename_i vs hn hx
          have:=aF h2
          simp only [Prod.mk.injEq] at this
          refine⟨_,hx,.inl rfl,this.2.symm,?_⟩
          rw [← this.1]
          exact (Pz hn).symm
         ·simp [T.leaf] at h2
       | ret=>
         simp only at h2
         split at h2
         ·rename_i x hx
          have:=aF h2
          simp only [Prod.mk.injEq] at this
          exact⟨_,hx,.inr rfl,this.2.symm,this.1.symm⟩
         ·rename_i vs hn hx
          have:=aF h2
          simp only [Prod.mk.injEq] at this
          refine⟨_,hx,.inr rfl,this.2.symm,?_⟩
          rw [← this.1]
          exact (Pz hn).symm
         ·simp [T.leaf] at h2
      obtain⟨vs,hr,he,rfl,rfl⟩:=hout
      have hpc:bI E.ρ s1.pc:=by
       obtain⟨_,_,_,⟨_,ht⟩,_⟩:=hwp default [] []
       obtain⟨E1,st1,f1⟩:=ht.step
       have:=f1.pc
       rw [st1.ρ] at this
       exact this
      refine⟨rfl,hpc,?_⟩
      have aAG:Calls P g vals.toArray w fun e w''=> ∃u,e= .returned u∧After E s w (resV vs) { s1 with slots:=s.slots } u w'':=by
       refine calls_of_wp hf hb (wp_mono hwp fun x a1 w1 ⟨hx,ht⟩=>?_)
       subst hx
       obtain⟨d1,z1,E1,st1,f1⟩:=ht
       obtain⟨us,g1,g2⟩:=zM htt f1 hr
       have: ∃u,(results fn a1.tmps).run P w1= .ok u w1∧VR E1 w1.heap (resV vs) u:=by
        refine⟨if h:us.toArray.size=1 then us.toArray[0] else .tuple us.toArray,?_,?_⟩
        ·have hm:(fn.results.mapM (A8 a1)).run P w1= .ok us.toArray w1:=by
          rw [Array.mapM_eq_mapM_toList]
          rw [map_eq_pure_bind]
          simp only [Sem.run_bind,g1]
          rfl
         have hres:results fn a1.tmps=(do let vs ← fn.results.mapM (A8 a1); pure (if h:vs.size=1 then vs[0] else .tuple vs)):=rfl
         rw [hres]
         simp only [Sem.run_bind,hm]
         rfl
        ·exact JV g2
       obtain⟨u,g3,g4⟩:=this
       rcases he with rfl | rfl
       ·exact⟨d1,u,g3,u,rfl,E1,st1,f1.rel,g4⟩
       ·exact⟨d1,u,g3,u,rfl,E1,st1,f1.rel,g4⟩
      have hrun:(callFunc g vals.toArray).run P w= .ok (.enter g vals.toArray) w:=by
       unfold callFunc
       simp [hf,hb,by simpa using hname]
      unfold tC sZ
      rw [hrun]
      exact aAG
end
end Go.As
end
section
namespace Go.As
def Tr.over {α:Type}:Tr α→Tr α→Tr α
 | .nil,b=>b
 | .node v l r,b=> .node (match v with | some x=>some x | none=>b.val) (Tr.over l b.left) (Tr.over r b.right)
def Tr.minus {α:Type}:Tr α→Tr α→Tr α
 | .nil,b=>b
 | .node v l r,b=> .node (match v with | some _=>none | none=>b.val) (Tr.minus l b.left) (Tr.minus r b.right)
theorem Tr.Nj {α:Type}: ∀(a b:Tr α) (k:Nat),(Tr.over a b).get k=match a.get k with | some x=>some x | none=>b.get k
 | .nil,b,k=>by simp [Tr.over,Tr.get]
 | .node v l r,b,k=>by
   simp only [Tr.over]
   rw [Tr.sD,Tr.sD,Tr.C9 b k]
   by_cases h0:k=0
   ·simp only [if_pos h0]
   ·simp only [if_neg h0]
    by_cases h1:(k - 1) % 2=0
    ·simp only [if_pos h1]; exact Tr.Nj l b.left _
    ·simp only [if_neg h1]; exact Tr.Nj r b.right _
theorem Tr.Iw {α:Type}: ∀(a b:Tr α) (k:Nat),(Tr.minus a b).get k=match a.get k with | some _=>none | none=>b.get k
 | .nil,b,k=>by simp [Tr.minus,Tr.get]
 | .node v l r,b,k=>by
   simp only [Tr.minus]
   rw [Tr.sD,Tr.sD,Tr.C9 b k]
   by_cases h0:k=0
   ·simp only [if_pos h0]
   ·simp only [if_neg h0]
    by_cases h1:(k - 1) % 2=0
    ·simp only [if_pos h1]; exact Tr.Iw l b.left _
    ·simp only [if_neg h1]; exact Tr.Iw r b.right _
structure Stw (E:En) (H:Hp) (w:World) (E':En) (H':Hp) (w':World):Prop where
 ρ:E'.ρ=E.ρ
 dm: ∀id,E.dm id→E'.dm id
 θ: ∀id,E.dm id→E'.θ id=E.θ id
 κ: ∀id,E.dm id→E'.κ id=E.κ id
 ro: ∀b,E.ro b→E'.ro b
 Ja: ∀b,E'.ro b→E.ro b∨(∃id o,H.get id=some o∧(E.θ id).1=b)∨w.heap.size≤b
 os:w'.os=w.os
 tape:w'.tape=w.tape
 output:w'.output=w.output
 size:w.heap.size≤w'.heap.size
 keep: ∀b,b < w.heap.size→(∀id o,H.get id=some o→(E.θ id).1≠b)→w'.heap[b]?=w.heap[b]?
 own: ∀id o,H'.get id=some o→(E'.θ id).1 < w.heap.size→∃Dy o0,H.get Dy=some o0∧(E.θ Dy).1=(E'.θ id).1
section
variable {E E' E'':En} {H H' H'':Hp} {w w' w'':World}
theorem Stp.weak (s:Stp E H w E' H' w'):Stw E H w E' H' w':=⟨s.ρ,s.dm,s.θ,s.κ,s.ro,s.Ja,s.os,s.tape,s.output,s.size,s.keep,s.own⟩
theorem Stw.strong (s:Stw E H w E' H' w') (h1:H.next≤H'.next) (h2:H'.res=none) (h3: ∀id,E'.dm id→E.dm id∨(H.next≤id∧id < H'.next)):Stp E H w E' H' w':=
 ⟨s.ρ,s.dm,s.θ,s.κ,s.ro,s.Ja,h1,.inl h2,fun id h=>(h3 id h).elim .inl fun h=> .inr (.inl h),s.os,s.tape,s.output,s.size,s.keep,s.own⟩
theorem Stw.trans (a:Stw E H w E' H' w') (b:Stw E' H' w' E'' H'' w''):Stw E H w E'' H'' w'' where
 ρ:=b.ρ.trans a.ρ
 dm:=fun id h=>b.dm id (a.dm id h)
 θ:=fun id h=>(b.θ id (a.dm id h)).trans (a.θ id h)
 κ:=fun id h=>(b.κ id (a.dm id h)).trans (a.κ id h)
 ro:=fun x h=>b.ro x (a.ro x h)
 Ja:=fun x h=>by
  rcases b.Ja x h with h | ⟨id,o,h1,h2⟩ | h
  ·exact a.Ja x h
  ·rcases Nat.lt_or_ge x w.heap.size with hx | hx
   ·obtain⟨Dy,o0,h3,h4⟩:=a.own id o h1 (by rw [h2]; exact hx)
    exact .inr (.inl ⟨Dy,o0,h3,h4.trans h2⟩)
   ·exact .inr (.inr hx)
  ·exact .inr (.inr (Nat.le_trans a.size h))
 os:=b.os.trans a.os
 tape:=b.tape.trans a.tape
 output:=b.output.trans a.output
 size:=Nat.le_trans a.size b.size
 keep:=fun x hx hn=>by
  rw [b.keep x (Nat.lt_of_lt_of_le hx a.size) ?_,a.keep x hx hn]
  intro id o ho he
  obtain⟨Dy,o0,h0,he0⟩:=a.own id o ho (by rw [he]; exact hx)
  exact hn Dy o0 h0 (he0.trans he)
 own:=fun id o ho hlt=>by
  obtain⟨id1,o1,h1,he1⟩:=b.own id o ho (Nat.lt_of_lt_of_le hlt a.size)
  obtain⟨Dy,o0,h0,he0⟩:=a.own id1 o1 h1 (by rw [he1]; exact hlt)
  exact⟨Dy,o0,h0,he0.trans he1⟩
theorem Stw.keeps [Glob] (s:Stw E H w E' H' w') (r:bG E H w):Keeps E w.heap E' w'.heap:=
 ⟨s.ρ,s.dm,s.θ,s.κ,s.ro,fun b hb=>s.keep b (r.AZ b hb) fun id o ho he=>(r.live id o ho).2.2 (by rw [he]; exact hb)⟩
theorem bG.part [Glob] {H1:Hp} (r:bG E H w) (sub: ∀id o,H1.get id=some o→H.get id=some o) (hn:H.next≤H1.next) (hr: ∀q,H1.res=some q→q < H1.next∧¬E.dm q):bG E H1 w:=
 ⟨fun id h=>r.fresh id (Nat.le_trans hn h),hr,fun id o h=>r.live id o (sub id o h),fun i j o o' h h' e=>r.inj i j o o' (sub _ _ h) (sub _ _ h') e,r.AZ,r.glob⟩
theorem amG [Glob] {H1 Xq:Hp} (r:bG E H w) (sub: ∀id o,H1.get id=some o→H.get id=some o) (st:Stp E H1 w E' Xq w') (r':bG E' Xq w') (n:Nat) (hn: ∀id,n≤id→¬E'.dm id) :
 ∃H':Hp,H'=⟨Tr.over Xq.m (Tr.minus H1.m H.m),n,none⟩∧(∀id o,Xq.get id=some o→H'.get id=some o)∧(∀id o,H.get id=some o→H1.get id=none→H'.get id=some o)∧bG E' H' w'∧Stw E H w E' H' w':=by
 have hnot: ∀id o,H.get id=some o→H1.get id=none→Xq.get id=none:=by
  intro id o h h1
  cases h2:Xq.get id with
  | none=>rfl
  | some o'=>
    exfalso
    have hd:=(r.live id o h).1
    have hθ:=st.θ id hd
    obtain⟨Dy,o0,g1,g2⟩:=st.own id o' h2 (by rw [hθ]; exact jE r h)
    have:=r.inj Dy id o0 o (sub _ _ g1) h (by rw [g2,hθ])
    subst this
    rw [h1] at g1
    simp at g1
 have hget: ∀id,(⟨Tr.over Xq.m (Tr.minus H1.m H.m),n,none⟩ : Hp).get id=match Xq.get id with | some x=>some x | none=>match H1.get id with | some _=>none | none=>H.get id:=by
  intro id
  simp only [Hp.get,Tr.Nj,Tr.Iw]
  cases Xq.m.get id with
  | some x=>rfl
  | none=>cases H1.m.get id <;> rfl
 have hcase: ∀id o,(⟨Tr.over Xq.m (Tr.minus H1.m H.m),n,none⟩ : Hp).get id=some o→Xq.get id=some o∨(Xq.get id=none∧H1.get id=none∧H.get id=some o):=by
  intro id o h
  rw [hget] at h
  cases h1:Xq.get id with
  | some x=>rw [h1] at h; exact .inl h
  | none=>
    rw [h1] at h
    cases h2:H1.get id with
    | some x=>rw [h2] at h; simp at h
    | none=>rw [h2] at h; exact .inr ⟨rfl,rfl,h⟩
 have hkeep: ∀id o,H1.get id=none→H.get id=some o→w'.heap[(E.θ id).1]?=w.heap[(E.θ id).1]?:=by
  intro id o h1 h
  refine st.keep _ (jE r h) fun Dy o0 h0 he=>?_
  have:=r.inj Dy id o0 o (sub _ _ h0) h he
  subst this
  rw [h1] at h0
  simp at h0
 have k:Keeps E w.heap E' w'.heap:=⟨st.ρ,st.dm,st.θ,st.κ,st.ro,fun b hb=>st.keep b (r.AZ b hb) fun id o ho he=>(r.live id o (sub _ _ ho)).2.2 (by rw [he]; exact hb)⟩
 refine⟨_,rfl,fun id o h=>by rw [hget,h],fun id o h h1=>by rw [hget,hnot id o h h1,h1]; exact h,⟨hn,by simp,?_,?_,r'.AZ,r'.glob⟩,⟨st.ρ,st.dm,st.θ,st.κ,st.ro,fun b hb=>(st.Ja b hb).imp id (Or.imp (fun⟨i,o,h1,h2⟩=> ⟨i,o,sub _ _ h1,h2⟩) id),st.os,st.tape,st.output,st.size,?_,?_⟩⟩
 ·intro id o h
  rcases hcase id o h with h1 | ⟨h1,h2,h3⟩
  ·exact r'.live id o h1
  ·obtain⟨g1,g2,g3⟩:=r.live id o h3
   refine⟨st.dm id g1,g2.keep k g1 (hkeep id o h2 h3),?_⟩
   rw [st.θ id g1]
   intro hr
   rcases st.Ja _ hr with hr | ⟨Dy,o0,f1,f2⟩ | hr
   ·exact g3 hr
   ·have:=r.inj Dy id o0 o (sub _ _ f1) h3 f2
    subst this
    rw [h2] at f1
    simp at f1
   ·have:=jE r h3
    omega
 ·intro i j o o' h h' he
  rcases hcase i o h with h1 | ⟨h1,h2,h3⟩ <;> rcases hcase j o' h' with g1 | ⟨g1,g2,g3⟩
  ·exact r'.inj i j o o' h1 g1 he
  ·exfalso
   rw [st.θ j (r.live j o' g3).1] at he
   obtain⟨Dy,o0,f1,f2⟩:=st.own i o h1 (by rw [he]; exact jE r g3)
   have:=r.inj Dy j o0 o' (sub _ _ f1) g3 (f2.trans he)
   subst this
   rw [g2] at f1
   simp at f1
  ·exfalso
   rw [st.θ i (r.live i o h3).1] at he
   obtain⟨Dy,o0,f1,f2⟩:=st.own j o' g1 (by rw [← he]; exact jE r h3)
   have:=r.inj Dy i o0 o (sub _ _ f1) h3 (f2.trans he.symm)
   subst this
   rw [h2] at f1
   simp at f1
  ·rw [st.θ i (r.live i o h3).1,st.θ j (r.live j o' g3).1] at he
   exact r.inj i j o o' h3 g3 he
 ·intro b hb hno
  exact st.keep b hb fun id o h=>hno id o (sub _ _ h)
 ·intro id o h hlt
  rcases hcase id o h with h1 | ⟨h1,h2,h3⟩
  ·obtain⟨Dy,o0,f1,f2⟩:=st.own id o h1 hlt
   exact⟨Dy,o0,sub _ _ f1,f2⟩
  ·exact⟨id,o,h3,by rw [st.θ id (r.live id o h3).1]⟩
theorem frame [Glob] {H1 Xq:Hp} (r:bG E H w) (sub: ∀id o,H1.get id=some o→H.get id=some o) (st:Stp E H1 w E' Xq w') (r':bG E' Xq w') (n:Nat) (hn: ∀id,n≤id→¬E'.dm id) :
 ∃H':Hp,H'.next=n∧H'.res=none∧(∀id o,Xq.get id=some o→H'.get id=some o)∧(∀id o,H.get id=some o→H1.get id=none→H'.get id=some o)∧bG E' H' w'∧Stw E H w E' H' w':=by
 obtain⟨H',h0,h1,h2,h3,h4⟩:=amG r sub st r' n hn
 exact⟨H',by rw [h0],by rw [h0],h1,h2,h3,h4⟩
end
end Go.As
end
section
namespace Go.As
section
variable {P:Program}
def OG [Glob] (P:Program) (ρ:Nat→Int) (ops:Array Oper) (o:Oper) (S:Tr AV) (H:Hp) (v:AV) (H':Hp):Prop:=
 ∀(E:En) (a:Act) (w:World),E.ρ=ρ→bG E H w→SR E w.heap S a→
  (Region.wanted o (yielded ops a.tmps)=false∧v=AV.undef∧H'=H)∨
  (Region.wanted o (yielded ops a.tmps)=true∧wR P o a w (fun u w'=> ∃E',Stp E H w E' H' w'∧bG E' H' w'∧VR E' w'.heap v u))
theorem OG.wpOp [Glob] {ρ:Nat→Int} {ops:Array Oper} {o:Oper} {S:Tr AV} {H H':Hp} {v:AV} (h:OG P ρ ops o S H v H') {E:En} {a:Act} {w:World} (hρ:E.ρ=ρ) (r:bG E H w) (sr:SR E w.heap S a)
 {i:Nat} (ho:ops[i]?=some o) {K:Act→World→Prop} {Q:Exit→Act→World→Prop}
 (hk: ∀(u:Value) (E':En) (w':World),Stp E H w E' H' w'→bG E' H' w'→VR E' w'.heap v u→K (a.put o.dst u) w'):wpOp P ops Q i K a w:=by
 unfold Go.wpOp
 simp only [ho]
 rcases h E a w hρ r sr with ⟨h1,rfl,rfl⟩ | ⟨h1,h2⟩
 ·rw [h1]
  simp only [Bool.false_eq_true,if_false]
  exact hk undef E w (Stp.refl _ _ _) r rP
 ·rw [h1]
  simp only [if_true]
  exact .inl (h2 _ _ fun u w' ⟨E',q1,q2,q3⟩=>hk u E' w' q1 q2 q3)
inductive Kind where
 | pa
 | e
 | r
 deriving DecidableEq
structure Plan [Glob] (P:Program) (ρ:Nat→Int) (ops:Array Oper) (uQ:Tr AV) (H0:Hp) where
 base:Nat
 bf:Nat→Nat→Bool
 kd:Nat→Kind
 S:Nat→Tr AV
 val:Nat→AV
 st:Nat→Nat
 nE:Nat
 hp:Nat→Hp
 un:Nat→Nat→Bool
 blk:Nat→Option dW
 gen: ∀i j,bf i j=true→∃(o:Oper) (e:Edge),ops[j]?=some o∧e∈o.after∧Region.binds .any e=true∧(e.on=i∨bf i e.on=true)
 back: ∀(j:Nat) (o:Oper),ops[j]?=some o→∀e∈o.after,Region.binds .any e=true→e.on < j
 dst: ∀(i j:Nat) (oi oj:Oper) (d:Nat),ops[i]?=some oi→ops[j]?=some oj→oi.dst=some d→oj.dst=some d→i=j
 slots: ∀(i:Nat) (o:Oper),ops[i]?=some o→∀t x,(S i).get t=some x→(∃(j:Nat) (oj:Oper),bf j i=true∧ops[j]?=some oj∧oj.dst=some t∧val j=x)∨(uQ.get t=some x∧∀(j:Nat) (oj:Oper),ops[j]?=some oj→oj.dst=some t→bf i j=true)
 stl: ∀(j:Nat) (o:Oper),ops[j]?=some o→kd j= .e→st j < nE
 inj: ∀i j,kd i= .e→kd j= .e→st i=st j→i=j
 aCz: ∀(j:Nat) (o:Oper),ops[j]?=some o→kd j= .e→∀m,m < st j→∃i,kd i= .e∧st i=m∧bf i j=true
 pa: ∀(i:Nat) (o:Oper),ops[i]?=some o→kd i= .pa→∃HA N,OG P ρ ops o (S i) ⟨.nil,N,some (base+i)⟩ (val i) HA∧HA.next=N∧blk i=HA.get (base+i)∧∀k,k≤nE→(hp k).next≤N
 ev: ∀(j:Nat) (o:Oper),ops[j]?=some o→kd j= .e→∃U8,OG P ρ ops o (S j) U8 (val j) (hp (st j+1))∧U8.next=(hp (st j)).next∧U8.res=none∧
  (∀id x,U8.get id=some x→(hp (st j)).get id=some x∨∃a,bf a j=true∧un (st j) a=true∧id=base+a∧blk a=some x)∧
  (∀a,un (st j+1) a=true→un (st j) a=true∧bf a j=false)
 rd: ∀(i:Nat) (o:Oper),ops[i]?=some o→kd i= .r→∀k,k≤nE→(∀j,kd j= .e→bf j i=true→st j < k)→(∀(j:Nat) (oj:Oper),ops[j]?=some oj→kd j= .e→bf i j=true→k≤st j)→
  ∃U8,OG P ρ ops o (S i) U8 (val i) U8∧U8.next=(hp k).next∧U8.res=none∧
   (∀id x,U8.get id=some x→(hp k).get id=some x∨∃a,bf a i=true∧un k a=true∧id=base+a∧blk a=some x)
 unm: ∀k a x,k≤nE→blk a=some x→un k a=true→(hp k).get (base+a)=none
 nob: ∀i,kd i≠.pa→blk i=none
 first:base=H0.next∧base+ops.size≤(hp 0).next∧∀id x,(hp 0).get id=some x→H0.get id=some x
section
variable {gl:Glob} {ρ:Nat→Int} {ops:Array Oper} {uQ:Tr AV} {H0:Hp} (p:Plan P ρ ops uQ H0)
structure Plan.Inv (E0:En) (a0:Act) (w0:World) (L:Nat→Prop) (a:Act) (w:World):Prop where
 defers:a.defers=a0.defers
 size:a.tmps.size=a0.tmps.size
 closed: ∀i j,p.bf i j=true→L j→L i
 ex: ∃(E:En) (Hc:Hp) (k:Nat),k≤p.nE∧(∀(j:Nat) (o:Oper),ops[j]?=some o→p.kd j= .e→(L j↔p.st j < k))∧E.ρ=ρ∧Stw E0 H0 w0 E Hc w∧bG E Hc w∧Hc.next=(p.hp k).next∧Hc.res=none∧
  p.base+ops.size≤Hc.next∧(∀id,E.dm id→E0.dm id∨H0.next≤id)∧(∀(i:Nat) (o:Oper),ops[i]?=some o→¬L i→¬E.dm (p.base+i))∧
  (∀id x,(p.hp k).get id=some x→Hc.get id=some x)∧(∀b x,L b→p.un k b=true→p.blk b=some x→Hc.get (p.base+b)=some x)∧
  (∀t x,uQ.get t=some x→(∀(j:Nat) (oj:Oper),ops[j]?=some oj→oj.dst=some t→¬L j)→∃u,a.tmps[t]?=some u∧VR E w.heap x u)∧
  (∀(j:Nat) (oj:Oper) (t:Nat),L j→ops[j]?=some oj→oj.dst=some t→∃u,a.tmps[t]?=some u∧VR E w.heap (p.val j) u)
theorem LK {a:Act} {d:Option Nat} {u:Value} {t:Nat} (h:d≠some t):(a.put d u).tmps[t]?=a.tmps[t]?:=by
 cases d with
 | none=>rfl
 | some x=>
   simp only [Act.put]
   rw [Array.getElem?_setIfInBounds_ne]
   intro e
   exact h (by rw [e])
theorem asC {a:Act} {u:Value} {t:Nat} (h:t < a.tmps.size):(a.put (some t) u).tmps[t]?=some u:=by
 simp [Act.put,h]
theorem Plan.aEu: ∀(j i:Nat),p.bf i j=true→i < j∧j < ops.size:=by
 intro j
 induction j using Nat.strongRecOn with
 | _ j ih=>
   intro i h
   obtain⟨o,e,g1,g2,g3,g4⟩:=p.gen i j h
   have hlt:=p.back j o g1 e g2 g3
   have hj:=(Array.getElem?_eq_some_iff.1 g1).1
   rcases g4 with rfl | g4
   ·exact⟨hlt,hj⟩
   ·have:=ih e.on hlt i g4
    exact⟨by omega,hj⟩
theorem Plan.ayS {i j:Nat} (h:p.bf i j=true): ∃o:Oper,ops[i]?=some o:=by
 have:=p.aEu j i h
 exact⟨ops[i]'(by omega),by simp⟩
theorem Plan.step {E0:En} {a0:Act} {w0:World} {L:Nat→Prop} {a:Act} {w:World} (hd: ∀o∈ops.toList,∀d,o.dst=some d→d < a0.tmps.size) (inv:p.Inv E0 a0 w0 L a w) {i:Nat} {o:Oper} (ho:ops[i]?=some o) (hL: ¬L i)
 (hr: ∀e∈o.after,Region.binds .any e=true→L e.on) {K:Act→World→Prop} {Q:Exit→Act→World→Prop} (hk: ∀a' w',p.Inv E0 a0 w0 (fun j=>j=i∨L j) a' w'→K a' w'):wpOp P ops Q i K a w:=by
 obtain⟨h1,h2,hcl,E,Hc,k,hkn,hst,hρ,Xw,rel,hnx,hres,hroom,hdm,hun,hhp,hbl,hs0,hs1⟩:=inv
 have hbf: ∀j,p.bf j i=true→L j:=by
  intro j hj
  obtain⟨o',e,g1,g2,g3,g4⟩:=p.gen j i hj
  rw [ho] at g1
  simp at g1
  subst g1
  have:=hr e g2 g3
  rcases g4 with rfl | g4
  ·exact this
  ·exact hcl j e.on g4 this
 have hii:p.bf i i≠true:=fun h=>hL (hbf i h)
 have hin:i < ops.size:=(Array.getElem?_eq_some_iff.1 ho).1
 have sr:SR E w.heap (p.S i) a:=by
  intro t x ht
  rcases p.slots i o ho t x ht with ⟨j,oj,g1,g2,g3,g4⟩ | ⟨g1,g2⟩
  ·subst g4
   exact hs1 j oj t (hbf j g1) g2 g3
  ·exact hs0 t x g1 fun j oj hj hjt hLj=>hL (hcl i j (g2 j oj hj hjt) hLj)
 have hcl': ∀x j,p.bf x j=true→(j=i∨L j)→(x=i∨L x):=by
  intro x j hx hj
  rcases hj with rfl | hj
  ·exact .inr (hbf x hx)
  ·exact .inr (hcl x j hx hj)
 have fin: ∀(u:Value) (E':En) (XJ:Hp) (w':World) (k':Nat),Stw E Hc w E' XJ w'→bG E' XJ w'→VR E' w'.heap (p.val i) u→k'≤p.nE→(∀(j:Nat) (o:Oper),ops[j]?=some o→p.kd j= .e→((j=i∨L j)↔p.st j < k'))→
  XJ.next=(p.hp k').next→XJ.res=none→Hc.next≤XJ.next→(∀id,E'.dm id→E.dm id∨Hc.next≤id∨id=p.base+i)→(∀id x,(p.hp k').get id=some x→XJ.get id=some x)→
  (∀b x,(b=i∨L b)→p.un k' b=true→p.blk b=some x→XJ.get (p.base+b)=some x)→K (a.put o.dst u) w':=by
  intro u E' XJ w' k' q1 q2 q3 q4 q5 q6 q7 q8 q9 q10 q11
  have kp:=q1.keeps rel
  refine hk _ _ ⟨by rw [As.put_defers]; exact h1,by rw [LJ]; exact h2,hcl',E',XJ,k',q4,q5,q1.ρ.trans hρ,Xw.trans q1,q2,q6,q7,Nat.le_trans hroom q8,?_,?_,q10,q11,?_,?_⟩
  ·intro id h
   rcases q9 id h with h | h | h
   ·exact hdm id h
   ·right
    have:=p.first.1
    omega
   ·right
    have:=p.first.1
    omega
  ·intro j oj hj hn hdj
   have hj2:=(Array.getElem?_eq_some_iff.1 hj).1
   rcases q9 _ hdj with h | h | h
   ·exact hun j oj hj (fun h'=>hn (.inr h')) h
   ·omega
   ·exact hn (.inl (by omega))
  ·intro t x ht hno
   obtain⟨y,g1,g2⟩:=hs0 t x ht fun j oj hj hjt h'=>hno j oj hj hjt (.inr h')
   exact⟨y,by rw [LK (fun e=>hno i o ho e (.inl rfl))]; exact g1,VR.keep kp _ _ g2⟩
  ·intro j oj t hj hoj ht
   by_cases hji:j=i
   ·subst hji
    rw [ho] at hoj
    simp at hoj
    subst hoj
    rw [ht]
    exact⟨u,asC (by rw [h2]; exact hd o (Array.mem_toList_iff.2 (Array.mem_of_getElem? ho)) t ht),q3⟩
   ·obtain⟨y,g1,g2⟩:=hs1 j oj t (hj.resolve_left hji) hoj ht
    refine⟨y,?_,VR.keep kp _ _ g2⟩
    rw [LK]
    ·exact g1
    ·intro h
     exact hji (p.dst j i oj o t hoj ho ht h)
 cases hkd:p.kd i with
 | pa=>
   obtain⟨HA,N,g1,g2,g3,g4⟩:=p.pa i o ho hkd
   have hN:=g4 k hkn
   have aEX:=hun i o ho hL
   have r1:bG E ⟨.nil,N,some (p.base+i)⟩ w:=rel.part (by intro id x h; simp [Hp.get,Tr.get] at h) (by show Hc.next≤N; omega) (by
    intro q hq
    simp at hq
    subst hq
    exact⟨by show p.base+i < N; omega,aEX⟩)
   refine g1.wpOp hρ r1 sr ho fun u E' w' st r' hv=>?_
   have hdn: ∀id,E'.dm id→E.dm id∨id=p.base+i:=by
    intro id h
    rcases st.dmn id h with h | h | h
    ·exact .inl h
    ·have h':N≤id∧id < HA.next:=h
     omega
    ·have h':some (p.base+i)=some id:=h
     simp at h'
     exact .inr h'.symm
   obtain⟨XJ,f1,f2,f3,f4,f5,f6⟩:=frame rel (by intro id x h; simp [Hp.get,Tr.get] at h) st r' Hc.next (fun id hid h=>by
    rcases hdn id h with h | h
    ·exact rel.fresh id hid h
    ·omega)
   refine fin u E' XJ w' k f6 f5 hv hkn ?_ (by rw [f1,hnx]) f2 (by omega) (fun id h=>(hdn id h).elim .inl fun h=> .inr (.inr h)) ?_ ?_
   ·intro j oj hoj hj
    rw [← hst j oj hoj hj]
    constructor
    ·intro h
     rcases h with rfl | h
     ·rw [hkd] at hj; simp at hj
     ·exact h
    ·exact .inr
   ·intro id x h
    exact f4 id x (hhp id x h) (by simp [Hp.get,Tr.get])
   ·intro b x hb hu hx
    by_cases hbi:b=i
    ·subst hbi
     rw [hx] at g3
     exact f3 _ _ g3.symm
    ·exact f4 _ x (hbl b x (hb.resolve_left hbi) hu hx) (by simp [Hp.get,Tr.get])
 | e=>
   obtain⟨U8,g1,g2,g3,g4,g5⟩:=p.ev i o ho hkd
   have hge:k≤p.st i:=by
    rcases Nat.lt_or_ge (p.st i) k with h | h
    ·exact absurd ((hst i o ho hkd).2 h) hL
    ·exact h
   have hsk:p.st i=k:=by
    rcases Nat.lt_or_ge k (p.st i) with h | h
    ·obtain⟨j,e1,e2,e3⟩:=p.aCz i o ho hkd k h
     have hj:=hbf j e3
     obtain⟨oj,hoj⟩:=p.ayS e3
     have:=(hst j oj hoj e1).1 hj
     omega
    ·omega
   rw [hsk] at g1 g2 g4 g5
   have hkE:=p.stl i o ho hkd
   have hsub: ∀id x,U8.get id=some x→Hc.get id=some x:=by
    intro id x h
    rcases g4 id x h with h | ⟨b,e1,e2,rfl,e4⟩
    ·exact hhp id x h
    ·exact hbl b x (hbf b e1) e2 e4
   have r1:bG E U8 w:=rel.part hsub (by omega) (by rw [g3]; simp)
   refine g1.wpOp hρ r1 sr ho fun u E' w' st r' hv=>?_
   have hdn: ∀id,E'.dm id→E.dm id∨Hc.next≤id:=by
    intro id h
    rcases st.dmn id h with h | h | h
    ·exact .inl h
    ·right; omega
    ·rw [g3] at h; simp at h
   obtain⟨XJ,f1,f2,f3,f4,f5,f6⟩:=frame rel hsub st r' (p.hp (k+1)).next (fun id hid h=>r'.fresh id hid h)
   have hmono:=st.nxm
   refine fin u E' XJ w' (k+1) f6 f5 hv (by omega) ?_ f1 f2 (by omega) (fun id h=>(hdn id h).elim .inl fun h=> .inr (.inl h)) f3 ?_
   ·intro j oj hoj hj
    constructor
    ·intro h
     rcases h with rfl | h
     ·omega
     ·have:=(hst j oj hoj hj).1 h
      omega
    ·intro h
     rcases Nat.lt_or_ge (p.st j) k with h' | h'
     ·exact .inr ((hst j oj hoj hj).2 h')
     ·exact .inl (p.inj j i hj hkd (by omega))
   ·intro b x hb hu hx
    obtain⟨e1,e2⟩:=g5 b hu
    by_cases hbi:b=i
    ·subst hbi
     rw [p.nob b (by rw [hkd]; simp)] at hx
     simp at hx
    ·refine f4 _ x (hbl b x (hb.resolve_left hbi) e1 hx) ?_
     cases hy:U8.get (p.base+b) with
     | none=>rfl
     | some y=>
       exfalso
       rcases g4 _ y hy with h | ⟨c,c1,c2,c3,c4⟩
       ·rw [p.unm k b x hkn hx e1] at h
        simp at h
       ·have:c=b:=by omega
        subst this
        rw [e2] at c1
        simp at c1
 | r=>
   have hk1: ∀j,p.kd j= .e→p.bf j i=true→p.st j < k:=by
    intro j hj hb
    obtain⟨oj,hoj⟩:=p.ayS hb
    exact (hst j oj hoj hj).1 (hbf j hb)
   have hk2: ∀(j:Nat) (oj:Oper),ops[j]?=some oj→p.kd j= .e→p.bf i j=true→k≤p.st j:=by
    intro j oj hoj hj hb
    rcases Nat.lt_or_ge (p.st j) k with h | h
    ·exact absurd (hcl i j hb ((hst j oj hoj hj).2 h)) hL
    ·exact h
   obtain⟨U8,g1,g2,g3,g4⟩:=p.rd i o ho hkd k hkn hk1 hk2
   have hsub: ∀id x,U8.get id=some x→Hc.get id=some x:=by
    intro id x h
    rcases g4 id x h with h | ⟨b,e1,e2,rfl,e4⟩
    ·exact hhp id x h
    ·exact hbl b x (hbf b e1) e2 e4
   have r1:bG E U8 w:=rel.part hsub (by omega) (by rw [g3]; simp)
   refine g1.wpOp hρ r1 sr ho fun u E' w' st r' hv=>?_
   have hdn: ∀id,E'.dm id→E.dm id:=by
    intro id h
    rcases st.dmn id h with h | h | h
    ·exact h
    ·omega
    ·rw [g3] at h; simp at h
   obtain⟨XJ,f1,f2,f3,f4,f5,f6⟩:=frame rel hsub st r' Hc.next (fun id hid h=>rel.fresh id hid (hdn id h))
   have hall: ∀id x,Hc.get id=some x→XJ.get id=some x:=by
    intro id x h
    cases h':U8.get id with
    | none=>exact f4 id x h h'
    | some y=>
      have:=hsub id y h'
      rw [h] at this
      simp at this
      subst this
      exact f3 id x h'
   refine fin u E' XJ w' k f6 f5 hv hkn ?_ (by rw [f1,hnx]) f2 (by omega) (fun id h=> .inl (hdn id h)) (fun id x h=>hall id x (hhp id x h)) ?_
   ·intro j oj hoj hj
    rw [← hst j oj hoj hj]
    constructor
    ·intro h
     rcases h with rfl | h
     ·rw [hkd] at hj; simp at hj
     ·exact h
    ·exact .inr
   ·intro b x hb hu hx
    by_cases hbi:b=i
    ·subst hbi
     rw [p.nob b (by rw [hkd]; simp)] at hx
     simp at hx
    ·exact hall _ x (hbl b x (hb.resolve_left hbi) hu hx)
def left (l:Nat→Bool):Nat→Nat
 | 0=>0
 | n+1=>left l n+(if l n then 0 else 1)
theorem left_le {l l':Nat→Bool} (h: ∀j,l j=true→l' j=true): ∀n,left l' n≤left l n
 | 0=>Nat.le_refl _
 | n+1=>by
   have:=left_le h n
   simp only [left]
   cases h1:l n with
   | true=>simp [h n h1]; exact this
   | false=>cases l' n <;> simp <;> omega
theorem abL {l l':Nat→Bool} (h: ∀j,l j=true→l' j=true) {i:Nat} (h1:l i=false) (h2:l' i=true): ∀n,i < n→left l' n < left l n
 | 0,hi=>by omega
 | n+1,hi=>by
   have hle:=left_le h n
   simp only [left]
   by_cases hin:i=n
   ·subst hin
    simp [h1,h2]
    omega
   ·have:=abL h h1 h2 n (by omega)
    cases h3:l n with
    | true=>simp [h n h3]; exact this
    | false=>cases l' n <;> simp <;> omega
theorem Il {l:Nat→Bool}: ∀n,left l n=0→∀i,i < n→l i=true
 | 0,_,i,hi=>by omega
 | n+1,h,i,hi=>by
   simp only [left] at h
   by_cases hin:i=n
   ·subst hin
    cases h3:l i with
    | true=>rfl
    | false=>rw [h3] at h; simp at h
   ·exact Il n (by omega) i (by omega)
theorem Plan.ready_nil (q:Plan P ρ ops uQ H0) {listed:Array Bool} (hsz:listed.size=ops.size) (h:Region.ready .any ops listed= []): ∀i,i < ops.size→listed[i]?=some true:=by
 intro i
 induction i using Nat.strongRecOn with
 | _ i ih=>
   intro hi
   cases hl:listed[i]? with
   | none=>rw [Array.getElem?_eq_none_iff] at hl; omega
   | some b=>
     cases b with
     | true=>rfl
     | false=>
       exfalso
       have ho:ops[i]?=some ops[i]:=by simp [hi]
       have:i∈Region.ready .any ops listed:=by
        rw [mem_ready]
        refine⟨by simp [hl],ops[i],ho,fun e he hb=>?_⟩
        have hlt:=q.back i _ ho e he hb
        simp [ih e.on hlt (by omega)]
       rw [h] at this
       simp at this
theorem Plan.any {E0:En} {a0:Act} {w0:World} (hd: ∀o∈ops.toList,∀d,o.dst=some d→d < a0.tmps.size) {Q:Exit→Act→World→Prop} (hq: ∀a w,p.Inv E0 a0 w0 (fun i=>i < ops.size) a w→Q .normal a w) :
 ∀(fuel:Nat) (listed:Array Bool) (a:Act) (w:World),listed.size=ops.size→left (fun i=>listed.getD i true) ops.size≤fuel→p.Inv E0 a0 w0 (fun i=>listed[i]?=some true) a w→wpAny P .any ops Q fuel listed a w:=by
 have hend: ∀(listed:Array Bool) (a:Act) (w:World),listed.size=ops.size→p.Inv E0 a0 w0 (fun i=>listed[i]?=some true) a w→Region.ready .any ops listed= []→Q .normal a w:=by
  intro listed a w hsz inv hnil
  have hall:=p.ready_nil hsz hnil
  refine hq a w ?_
  have:(fun i=>listed[i]?=some true)=(fun i=>i < ops.size):=by
   funext i
   apply propext
   constructor
   ·intro h
    have:=(Array.getElem?_eq_some_iff.1 h).1
    omega
   ·exact hall i
  rw [← this]
  exact inv
 intro fuel
 induction fuel with
 | zero=>
   intro listed a w hsz hleft inv
   have hall:=Il (l:=fun i=>listed.getD i true) ops.size (by omega)
   have hnil:Region.ready .any ops listed= []:=by
    rw [List.eq_nil_iff_forall_not_mem]
    intro i hi
    rw [mem_ready] at hi
    obtain⟨h1,o,h2,_⟩:=hi
    have:=hall i (Array.getElem?_eq_some_iff.1 h2).1
    rw [h1] at this
    simp at this
   exact⟨hnil,hend listed a w hsz inv hnil⟩
 | succ fuel ih=>
   intro listed a w hsz hleft inv
   refine⟨hend listed a w hsz inv,fun i hi=>?_⟩
   rw [mem_ready] at hi
   obtain⟨h1,o,h2,h3⟩:=hi
   have hin:=(Array.getElem?_eq_some_iff.1 h2).1
   have hlf:listed[i]?=some false:=by
    have:listed[i]?=some (listed[i]'(by omega)):=by simp
    rw [this]
    simp only [Array.getD_eq_getD_getElem?,this,Option.getD_some] at h1
    rw [h1]
   refine p.step hd inv h2 (by rw [hlf]; simp) (fun e he hb=>?_) fun a' w' aES=>?_
   ·have:=h3 e he hb
    cases hc:listed[e.on]? with
    | none=>simp [hc] at this
    | some b=>simp [hc] at this; rw [this]
   ·refine ih _ a' w' (by simpa using hsz) ?_ ?_
    ·have:=abL (l:=fun j=>listed.getD j true) (l':=fun j=>(listed.setIfInBounds i true).getD j true) (i:=i) (fun j hj=>?_) h1 ?_ ops.size hin
     ·omega
     ·by_cases hij:i=j
      ·subst hij
       simp only [Array.getD_eq_getD_getElem?,Array.getElem?_setIfInBounds_self]
       split <;> rfl
      ·rw [getD_set_ne true hij]; exact hj
     ·simp only [Array.getD_eq_getD_getElem?,Array.getElem?_setIfInBounds_self]
      split <;> rfl
    ·have:(fun j=>(listed.setIfInBounds i true)[j]?=some true)=(fun j=>j=i∨listed[j]?=some true):=by
      funext j
      apply propext
      by_cases hij:i=j
      ·subst hij
       simp [hsz,hin]
      ·rw [Array.getElem?_setIfInBounds_ne hij]
       constructor
       ·exact .inr
       ·rintro (rfl | h)
        ·exact absurd rfl hij
        ·exact h
     rw [this]
     exact aES
theorem Plan.start {E0:En} {s0:St} {a0:Act} {w0:World} (hs:s0.slots=uQ) (hh:s0.h=H0) (hρ:E0.ρ=ρ) (fit:Fit E0 s0 a0 w0) (listed:Array Bool) (hl: ∀(i:Nat),listed[i]?≠some true):p.Inv E0 a0 w0 (fun i=>listed[i]?=some true) a0 w0:=by
 subst hs hh
 obtain⟨h1,h2,h3⟩:=p.first
 have rel:=fit.rel
 have r1:bG E0 ⟨s0.h.m,(p.hp 0).next,none⟩ w0:=rel.part (fun id x h=>h) (by show s0.h.next≤(p.hp 0).next; omega) (by simp)
 refine⟨rfl,rfl,fun i j _ h=>absurd h (hl j),E0,⟨s0.h.m,(p.hp 0).next,none⟩,0,Nat.zero_le _,fun j o _ _=> ⟨fun h=>absurd h (hl j),fun h=>by omega⟩,hρ,?_,r1,rfl,rfl,h2,fun id h=> .inl h,?_,fun id x h=>h3 id x h,fun b x h=>absurd h (hl b),?_,fun j oj t h=>absurd h (hl j)⟩
 ·have:=(Stp.refl E0 s0.h w0).weak
  exact⟨this.ρ,this.dm,this.θ,this.κ,this.ro,this.Ja,this.os,this.tape,this.output,this.size,this.keep,this.own⟩
 ·intro i o _ _ hdm
  exact rel.fresh _ (by omega) hdm
 ·intro t x ht _
  exact fit.sr t x ht
theorem Plan.finish {E0:En} {s0 s':St} {a0 a:Act} {w0 w:World} (hh:s0.h=H0) (inv:p.Inv E0 a0 w0 (fun i=>i < ops.size) a w) (hpc:bI ρ s'.pc)
 (aAE: ∀t x,s'.slots.get t=some x→(∃(j:Nat) (oj:Oper),ops[j]?=some oj∧oj.dst=some t∧p.val j=x)∨(uQ.get t=some x∧∀(j:Nat) (oj:Oper),ops[j]?=some oj→oj.dst≠some t))
 (hheap: ∀id x,s'.h.get id=some x→(p.hp p.nE).get id=some x∨∃b,b < ops.size∧p.un p.nE b=true∧id=p.base+b∧p.blk b=some x)
 (hnext:(p.hp p.nE).next=s'.h.next) (hres:s'.h.res=none) (hall: ∀(m:Nat),m < p.nE→∃(j:Nat) (o:Oper),ops[j]?=some o∧p.kd j= .e∧p.st j=m):Then E0 s0 a0 w0 s' a w:=by
 subst hh
 obtain⟨h1,h2,hcl,E,Hc,k,hkn,hst,hρ,Xw,rel,hnx,hrs,hroom,hdm,hun,hhp,hbl,hs0,hs1⟩:=inv
 have hk:k=p.nE:=by
  rcases Nat.lt_or_ge k p.nE with h | h
  ·obtain⟨j,o,g1,g2,g3⟩:=hall k h
   have:=(hst j o g1 g2).1 (Array.getElem?_eq_some_iff.1 g1).1
   omega
  ·omega
 subst hk
 have hsub: ∀id x,s'.h.get id=some x→Hc.get id=some x:=by
  intro id x h
  rcases hheap id x h with h | ⟨b,e1,e2,rfl,e4⟩
  ·exact hhp id x h
  ·exact hbl b x e1 e2 e4
 have hf:=p.first.1
 refine⟨h1,h2,E,?_,rel.part hsub (by omega) (by rw [hres]; simp),?_,by rw [hρ]; exact hpc⟩
 ·refine Stw.strong ⟨Xw.ρ,Xw.dm,Xw.θ,Xw.κ,Xw.ro,Xw.Ja,Xw.os,Xw.tape,Xw.output,Xw.size,Xw.keep,fun id o h=>Xw.own id o (hsub id o h)⟩ (by omega) hres fun id h=>?_
  rcases hdm id h with g | g
  ·exact .inl g
  ·right
   refine⟨g,?_⟩
   rcases Nat.lt_or_ge id s'.h.next with g' | g'
   ·exact g'
   ·exact absurd h (rel.fresh id (by omega))
 ·intro t x ht
  rcases aAE t x ht with ⟨j,oj,g1,g2,rfl⟩ | ⟨g1,g2⟩
  ·exact hs1 j oj t (Array.getElem?_eq_some_iff.1 g1).1 g1 g2
  ·exact hs0 t x g1 fun j oj hj hjt _=>g2 j oj hj hjt
end
end
end Go.As
end
section
namespace Go.As
noncomputable section
mutual
def eU:AV→AV→Bool
 | .bool a,.bool b=>sQ a b
 | .int k a,.int l b=>decide (k=l) && gB a b
 | .str a,.str b=>decide (a=b)
 | .ptr i o,.ptr j p=>decide (i=j) && decide (o=p)
 | .jJ,.jJ=>true
 | .qU a,.qU b=>jW a b
 | .slice i o l c,.slice j p m d=>decide (i=j) && decide (o=p) && decide (l=m) && decide (c=d)
 | .aA,.aA=>true
 | .ro a n f,.ro b m g=>jW a b && decide (n=m) && decide (f=g)
 | .map i,.map j=>decide (i=j)
 | .lW,.lW=>true
 | .func f a b,.func g c d=>decide (f=g) && jW a c && jW b d
 | .yU,.yU=>true
 | .iface t v,.iface u x=>decide (t=u) && eU v x
 | .Es,.Es=>true
 | .agg a,.agg b=>jW a b
 | .tuple a,.tuple b=>jW a b
 | .opq i,.opq j=>decide (i=j)
 | .inp i a,.inp j b=>decide (i=j) && decide (a=b)
 | .emp,.emp=>true
 | .dat a t,.dat b u=>gB a b && Nat.beq t u
 | .lX a,.lX b=>gB a b
 | .uK i n t,.uK j m u=>Nat.beq i j && gB n m && Nat.beq t u
 | .pY i a x o,.pY j b y p=>Nat.beq i j && Nat.beq a b && gB x y && Nat.beq o p
 | .Ap i l n t,.Ap j k m u=>Nat.beq i j && gB l k && gB n m && Nat.beq t u
 | .any,.any=>true
 | .G9 a t,.G9 b u=>gB a b && Nat.beq t u
 | _,_=>false
def jW:List AV→List AV→Bool
 | [],[]=>true
 | x :: xs,y :: ys=>eU x y && jW xs ys
 | _,_=>false
end
mutual
theorem nJ: ∀(x y:AV),eU x y=true→x=y
 | .bool a,y,h=>by cases y <;> simp [eU] at h <;> rw [xA _ _ h]
 | .int k a,y,h=>by cases y <;> simp [eU] at h <;> rw [h.1,bW _ _ h.2]
 | .str a,y,h=>by cases y <;> simp [eU] at h <;> simp [h]
 | .ptr i o,y,h=>by cases y <;> simp [eU] at h <;> simp [h]
 | .jJ,y,h=>by cases y <;> simp [eU] at h <;> rfl
 | .qU a,y,h=>by cases y <;> simp [eU] at h; rw [gU _ _ h]
 | .slice i o l c,y,h=>by cases y <;> simp [eU] at h <;> simp [h]
 | .aA,y,h=>by cases y <;> simp [eU] at h <;> rfl
 | .ro a n f,y,h=>by cases y <;> simp [eU] at h; rw [gU _ _ h.1.1,h.1.2,h.2]
 | .map i,y,h=>by cases y <;> simp [eU] at h <;> simp [h]
 | .lW,y,h=>by cases y <;> simp [eU] at h <;> rfl
 | .func f a b,y,h=>by cases y <;> simp [eU] at h; rw [h.1.1,gU _ _ h.1.2,gU _ _ h.2]
 | .yU,y,h=>by cases y <;> simp [eU] at h <;> rfl
 | .iface t v,y,h=>by cases y <;> simp [eU] at h; rw [h.1,nJ _ _ h.2]
 | .Es,y,h=>by cases y <;> simp [eU] at h <;> rfl
 | .agg a,y,h=>by cases y <;> simp [eU] at h; rw [gU _ _ h]
 | .tuple a,y,h=>by cases y <;> simp [eU] at h; rw [gU _ _ h]
 | .opq i,y,h=>by cases y <;> simp [eU] at h <;> simp [h]
 | .inp i a,y,h=>by cases y <;> simp [eU] at h <;> simp [h]
 | .emp,y,h=>by cases y <;> simp [eU] at h <;> rfl
 | .dat a t,y,h=>by cases y <;> simp [eU] at h <;> rw [h.2,bW _ _ h.1]
 | .lX a,y,h=>by cases y <;> simp [eU] at h <;> rw [bW _ _ h]
 | .uK i n t,y,h=>by cases y <;> simp [eU] at h <;> rw [h.1.1,bW _ _ h.1.2,h.2]
 | .pY i a x o,y,h=>by cases y <;> simp [eU] at h <;> rw [h.1.1.1,h.1.1.2,bW _ _ h.1.2,h.2]
 | .Ap i l n t,y,h=>by cases y <;> simp [eU] at h <;> rw [h.1.1.1,bW _ _ h.1.1.2,bW _ _ h.1.2,h.2]
 | .any,y,h=>by cases y <;> simp [eU] at h <;> rfl
 | .G9 a t,y,h=>by cases y <;> simp [eU] at h <;> rw [h.2,bW _ _ h.1]
theorem gU: ∀(xs ys:List AV),jW xs ys=true→xs=ys
 | [],ys,h=>by cases ys <;> simp [jW] at h; rfl
 | x :: xs,ys,h=>by
   cases ys with
   | nil=>simp [jW] at h
   | cons y ys=>simp [jW] at h; rw [nJ _ _ h.1,gU _ _ h.2]
end
def LX (o:Op):List Nat:=o.operands.toList.filterMap fun
 | .tmp t=>some t
 | _=>none
def reads (all:List Oper) (o:Oper):List Nat:=match o.guard with
 | none=>LX o.op
 | some (j,_)=>match gI all j with
   | some oj=>match oj.dst with
     | some d=>d :: LX o.op
     | none=>LX o.op
   | none=>LX o.op
def kindOf (tt:TT):Op→Kind
 | .load _ _=> .r
 | .lookup _ _ _ _=> .r
 | .call c=>match c.callee with
   | .builtin b=>match b with
     | .len=> .r
     | .min=> .pa
     | .max=> .pa
     | _=> .e
   | _=> .e
 | .store _ _ _=> .e
 | .insert _ _ _ _=> .e
 | .mapUpdate _ _ _ _=> .e
 | .next _ _=> .e
 | .range _ _=> .e
 | .convert t u _=>match tt t with
   | some i=>match i.kind with
     | .slice _=>match tt u with
       | some j=>match j.kind with
         | .string=> .r
         | _=> .e
       | none=> .e
     | _=> .pa
   | none=> .e
 | .panic _=> .e
 | _=> .pa
def sG (ms:List Nat):List Edge→Nat
 | []=>0
 | e :: es=>if Region.binds .any e then ((1 <<< e.on) ||| ms.getD e.on 0) ||| sG ms es else sG ms es
def vX:List Oper→List Nat→List Nat
 | [],ms=>ms
 | o :: os,ms=>vX os (ms++ [sG ms o.after.toList])
structure Item where
 i:Nat
 o:Oper
 m:Nat
 k:Kind
 st:Nat
 rd:List Nat
def items (tt:TT) (all:List Oper) (ms:List Nat):List Oper→Nat→Nat→List Item
 | [],_,_=>[]
 | o :: os,i,n=> ⟨i,o,ms.getD i 0,kindOf tt o.op,n,reads all o⟩ :: items tt all ms os (i+1) (match kindOf tt o.op with | .e=>n+1 | _=>n)
def Kind.isE:Kind→Bool
 | .e=>true
 | _=>false
def Kind.YH:Kind→Bool
 | .r=>true
 | _=>false
def Em (ms:List Nat) (is:List Item) (x:Item):Bool:=
 x.o.after.toList.all (fun e=>!Region.binds .any e || decide (e.on < x.i)) &&
 decide (x.m=sG ms x.o.after.toList) &&
 x.rd.all (fun t=>is.all fun y=>decide (y.o.dst≠some t) || x.m.testBit y.i || (!x.k.YH && y.m.testBit x.i)) &&
 is.all (fun y=>decide (y.i=x.i) || (match y.o.dst with | some d=>decide (x.o.dst≠some d) | none=>true)) &&
 (!x.k.isE || is.all fun y=>!y.k.isE || !decide (y.i < x.i) || x.m.testBit y.i)
def stages (is:List Item) (n:Nat) (x:Item):List Nat:=
 (List.range (n+1)).filter fun k=>is.all fun y=>!y.k.isE || ((!x.m.testBit y.i || decide (y.st < k)) && (!y.m.testBit x.i || decide (k≤y.st)))
structure Stat where
 is:List Item
 nE:Nat
 rs:List (Item×List Nat)
def lY:List Item→Nat
 | []=>0
 | x :: xs=>match x.k with | .e=>lY xs+1 | _=>lY xs
def stat (tt:TT) (all:List Oper):Option Stat:=
 let ms:=vX all []
 let is:=items tt all ms all 0 0
 if is.all (Em ms is) then
  some ⟨is,lY is,(is.filter (·.k.YH)).map fun x=>(x,stages is (lY is) x)⟩
 else none
def only (slots:Tr AV):List Nat→Tr AV
 | []=> .nil
 | t :: ts=>match slots.get t with
   | some v=>(only slots ts).put t (some v)
   | none=>only slots ts
structure ZO where
 slots:Tr AV
 pF:List (Hp×Nat)
 blks:List (Nat×dW)
 obs:List (Option dW)
 vs:List AV
def gG (base bm mm:Nat):List (Nat×dW)→Hp→Hp
 | [],h=>h
 | (a,x) :: r,h=>if bm.testBit a && !mm.testBit a then (gG base bm mm r h).put (base+a) x else gG base bm mm r h
def ev1 (tt:TT) (call:dU) (all:List Oper) (o:Oper) (s:St):T (AV×St):=
 CQ all s o fun s b=>if b then Um tt call s o.op else .ret (AV.undef,s)
def AO (slots:Tr AV) (d:Option Nat) (v:AV):Tr AV:=match d with
 | some t=>slots.put t (some v)
 | none=>slots
def apL (tt:TT) (call:dU) (all:List Oper) (base N:Nat) (pc:List (SB×Bool)) (x:Item) (d:ZO):T ZO:=
 match d.pF with
 | []=> .fail
 | (h,mm) :: rest=>
   match x.k with
   | .pa=>(ev1 tt call all x.o ⟨only d.slots x.rd,⟨.nil,N,some (base+x.i)⟩,pc⟩).bind fun (v,s')=>
     if s'.h.next=N then
      .ret ⟨AO d.slots x.o.dst v,d.pF,match s'.h.get (base+x.i) with | some b=>(x.i,b) :: d.blks | none=>d.blks,s'.h.get (base+x.i) :: d.obs,v :: d.vs⟩
     else .fail
   | .e=>(ev1 tt call all x.o ⟨only d.slots x.rd,gG base x.m mm d.blks h,pc⟩).bind fun (v,s')=>
     if s'.h.next≤N∧s'.h.res=none then
      .ret ⟨AO d.slots x.o.dst v,(s'.h,mm ||| x.m) :: (h,mm) :: rest,d.blks,none :: d.obs,v :: d.vs⟩
     else .fail
   | .r=>(ev1 tt call all x.o ⟨only d.slots x.rd,gG base x.m mm d.blks h,pc⟩).bind fun (v,_)=>
     .ret ⟨AO d.slots x.o.dst v,d.pF,d.blks,none :: d.obs,v :: d.vs⟩
def T.GU {α β:Type} (pc:List (SB×Bool)) (f:List (SB×Bool)→α→T β):T α→T β
 | .fail=> .fail
 | .ret a=>f pc a
 | .split c x y=>match mF pc c with
   | some true=>T.GU pc f x
   | some false=>T.GU pc f y
   | none=> .split c (T.GU ((c,true) :: pc) f x) (T.GU ((c,false) :: pc) f y)
def afY (tt:TT) (call:dU) (all:List Oper) (base N:Nat):List Item→List (SB×Bool)→ZO→T (List (SB×Bool)×ZO)
 | [],pc,d=> .ret (pc,d)
 | x :: xs,pc,d=>(apL tt call all base N pc x d).GU pc (afY tt call all base N xs)
def JW (tt:TT) (call:dU) (all:List Oper) (base:Nat) (pc:List (SB×Bool)) (x:Item) (v:AV) (S:Tr AV) (blks:List (Nat×dW)) (pF:List (Hp×Nat)):List Nat→T Unit
 | []=> .ret ()
 | k :: ks=>match gI pF k with
   | some (h,mm)=>(ev1 tt call all x.o ⟨S,gG base x.m mm blks h,pc⟩).bind fun (u,_)=>
     if eU u v then JW tt call all base pc x v S blks pF ks else .fail
   | none=> .fail
def Tm (tt:TT) (call:dU) (all:List Oper) (base:Nat) (d:ZO) (pF:List (Hp×Nat)) (vs:List AV):List (Item×List Nat)→List (SB×Bool)→T (List (SB×Bool))
 | [],pc=> .ret pc
 | (x,ks) :: r,pc=>match gI vs x.i with
   | some v=>(JW tt call all base pc x v (only d.slots x.rd) d.blks pF ks).GU pc fun pc _=>Tm tt call all base d pF vs r pc
   | none=> .fail
def Sj (base:Nat) (blks:List (Nat×dW)) (pF:List (Hp×Nat)):Bool:=
 blks.all fun (a,_)=>pF.all fun (h,mm)=>mm.testBit a || (h.get (base+a)).isNone
def NV (tt:TT) (call:dU) (all:List Oper) (q:Stat) (s:St):T St:=
 match s.h.res with
 | some _=> .fail
 | none=>
 let base:=s.h.next
 let n:=all.length
 let N:=base+n+1099511627776
 (afY tt call all base N q.is s.pc ⟨s.slots,[(⟨s.h.m,base+n,none⟩,0)],[],[],[]⟩).bind fun (pc,d)=>
  match d.pF with
  | []=> .fail
  | (h,mm) :: _=>
    (Tm tt call all base d d.pF.reverse d.vs.reverse q.rs pc).bind fun pc=>
     if Sj base d.blks d.pF then .ret ⟨d.slots,gG base ((1 <<< n) - 1) mm d.blks h,pc⟩ else .fail
def draw (tt:TT) (call:dU) (all:List Oper) (s:St):T St:=
 match stat tt all with
 | none=> .fail
 | some q=>NV tt call all q s
end
end Go.As
end
section
namespace Go.As
section
variable {P:Program}
theorem UD [Glob] {tt:TT} (htt:eG P tt) {call:dU} (hc:jR P call) {ops:Array Oper} {o:Oper} {s s':St} {v:AV} {ρ:Nat→Int} (hp:bI ρ s.pc) (h:(ev1 tt call ops.toList o s).leaf ρ=some (v,s')) :
 OG P ρ ops o s.slots s.h v s'.h:=by
 intro E a w hρ r sr
 subst hρ
 unfold ev1 at h
 obtain⟨pc',hp',h1⟩:=LY ⟨r,sr,hp⟩ h
 cases hw:Region.wanted o (yielded ops a.tmps) <;> rw [hw] at h1
 ·simp only [Bool.false_eq_true,if_false] at h1
  have:=aF h1
  simp only [Prod.mk.injEq] at this
  obtain⟨rfl,rfl⟩:=this
  exact .inl ⟨rfl,rfl,rfl⟩
 ·simp only [if_true] at h1
  obtain⟨_,_,q3⟩:=acJ htt hc (s:={ s with pc:=pc' }) (o:=o) r sr hp' h1
  exact .inr ⟨rfl,q3⟩
theorem lS {α:Type} {ρ:Nat→Int} {s:St} {c:SB} {f:St→Bool→T α} {r:α} (h:(pV s c f).leaf ρ=some r): ∃pc' b,(f { s with pc:=pc' } b).leaf ρ=some r:=by
 unfold pV at h
 split at h
 ·rename_i b _; exact⟨s.pc,b,h⟩
 ·split at h <;> simp only [T.leaf] at h <;> split at h <;> exact⟨_,_,h⟩
theorem TB {α:Type} {ρ:Nat→Int} {s:St} {all:List Oper} {o:Oper} {f:St→Bool→T α} {r:α} (h:(CQ all s o f).leaf ρ=some r): ∃pc' b,(f { s with pc:=pc' } b).leaf ρ=some r:=by
 unfold CQ at h
 split at h
 ·exact⟨s.pc,true,h⟩
 ·split at h
  ·split at h
   ·split at h
    ·obtain⟨pc',b,h1⟩:=lS h; exact⟨pc',_,h1⟩
    ·exact⟨s.pc,_,h⟩
    ·simp [T.leaf] at h
   ·simp [T.leaf] at h
  ·simp [T.leaf] at h
theorem LZ {ρ:Nat→Int} {s:St} {x:Operand} {f:AV→T (AV×St)} {r:AV×St} (h:(G6 s x f).leaf ρ=some r): ∃v,(f v).leaf ρ=some r:=by
 unfold G6 at h
 split at h
 ·exact⟨_,h⟩
 ·simp [T.leaf] at h
theorem CG {ρ:Nat→Int} {s s':St} {x:Option AV} {v:AV} (h:(xG s x).leaf ρ=some (v,s')):s'=s:=by
 unfold xG at h
 split at h
 ·have:=aF h
  simp only [Prod.mk.injEq] at this
  exact this.2.symm
 ·simp [T.leaf] at h
theorem aAu {tt:TT} {op:Op} (h:kindOf tt op= .r):(∃t x,op= .load t x)∨(∃t x i ok,op= .lookup t x i ok)∨(∃c:Call,op= .call c∧c.callee= .builtin .len)∨∃t u x i j e,op= .convert t u x∧tt t=some i∧i.kind= .slice e∧tt u=some j∧j.kind= .string:=by
 unfold kindOf at h
 split at h <;> try (simp at h; done)
 ·exact .inl ⟨_,_,rfl⟩
 ·exact .inr (.inl ⟨_,_,_,_,rfl⟩)
 ·rename_i c
  split at h
  ·rename_i b hb
   split at h <;> simp at h
   exact .inr (.inr (.inl ⟨c,rfl,hb⟩))
  ·simp at h
 ·split at h
  ·rename_i i hi
   split at h
   ·rename_i e he
    split at h
    ·rename_i j hj
     split at h
     ·rename_i hs
      exact .inr (.inr (.inr ⟨_,_,_,i,j,e,rfl,hi,he,hj,hs⟩))
     ·simp at h
    ·simp at h
   ·simp at h
  ·simp at h
theorem P6 {α:Type} {ρ:Nat→Int} {s:St} {i n:SE} {f:St→T α} {r:α} (h:(FD s i n f).leaf ρ=some r): ∃pc',(f { s with pc:=pc' }).leaf ρ=some r:=by
 unfold FD at h
 obtain⟨pc1,b1,h1⟩:=lS h
 split at h1
 ·simp [T.leaf] at h1
 ·obtain⟨pc2,b2,h2⟩:=lS h1
  split at h2
  ·exact⟨pc2,h2⟩
  ·simp [T.leaf] at h2
theorem zX {α:Type} {ρ:Nat→Int} {kk:TK} {k:AV} {r:α} {f:St→T α}: ∀{es:List (AV×AV×Nat)} {s:St},(zZ kk k es s f).leaf ρ=some r→∃pc',(f { s with pc:=pc' }).leaf ρ=some r
 | [],s,h=> ⟨s.pc,h⟩
 | (k',v,b) :: es,s,h=>by
   simp only [zZ] at h
   split at h
   ·split at h
    ·exact⟨s.pc,h⟩
    ·exact zX h
   ·split at h
    ·obtain⟨pc1,b1,h1⟩:=lS h
     split at h1
     ·exact⟨pc1,h1⟩
     ·obtain⟨pc2,h2⟩:=zX h1
      exact⟨pc2,h2⟩
    ·exact⟨s.pc,h⟩
theorem OJ {α:Type} {ρ:Nat→Int} {tt:TT} {t:Nat} {m k:AV} {r:α} {f:St→T α} {s:St} (h:(rO tt t m k s f).leaf ρ=some r): ∃pc',(f { s with pc:=pc' }).leaf ρ=some r:=by
 unfold rO at h
 split at h
 ·split at h
  ·split at h
   ·split at h
    ·exact zX h
    ·exact⟨s.pc,h⟩
   ·exact⟨s.pc,h⟩
  ·exact⟨s.pc,h⟩
 ·exact⟨s.pc,h⟩
theorem auK {s s':St} {cs:List AV} {e:SE} {v:AV} {ρ:Nat→Int} (h:(Rh s cs e).leaf ρ=some (v,s')):s'.h=s.h:=by
 unfold Rh at h
 split at h
 ·simp [T.leaf] at h
 ·split at h
  ·simp [T.leaf] at h
  ·obtain⟨pc',h1⟩:=P6 h
   have:=aF h1
   simp only [Prod.mk.injEq] at this
   rw [← this.2]
theorem afT {tt:TT} {s s':St} {ty t:Nat} {k:AV} {ok:Bool} {e:SE} {v:AV} {ρ:Nat→Int} (h:(Gh tt ty k ok e t s).leaf ρ=some (v,s')):s'.h=s.h:=by
 unfold Gh at h
 split at h
 ·simp [T.leaf] at h
 ·split at h
  ·simp [T.leaf] at h
  ·obtain⟨pc',b,h1⟩:=lS h
   split at h1 <;>
   ·have:=aF h1
    simp only [Prod.mk.injEq] at this
    rw [← this.2]
theorem IU {α:Type} {ρ:Nat→Int} {i:SE} {r:α}: ∀{ov:List (SE×List AV)} {s:St} {k:St→T α},(Az i ov s k).leaf ρ=some r→∃pc',(k { s with pc:=pc' }).leaf ρ=some r
 | [],s,k,h=> ⟨s.pc,h⟩
 | (j,c) :: l,s,k,h=>by
   simp only [Az] at h
   split at h
   ·exact⟨s.pc,h⟩
   ·obtain⟨pc1,b1,h1⟩:=lS h
    split at h1
    ·exact⟨pc1,h1⟩
    ·obtain⟨pc2,h2⟩:=IU h1
     exact⟨pc2,h2⟩
theorem afU {tt:TT} {s s':St} {ty id es off:Nat} {i:SE} {v:AV} {ρ:Nat→Int} (h:(Gi tt s ty id es i off).leaf ρ=some (v,s')):s'.h=s.h:=by
 unfold Gi at h
 split at h
 ·split at h
  ·split at h
   ·split at h
    ·simp [T.leaf] at h
    ·exact auK h
   ·simp [T.leaf] at h
  ·split at h
   ·split at h
    ·obtain⟨pc',h1⟩:=P6 h
     obtain⟨pc2,h1⟩:=IU h1
     split at h1
     ·split at h1
      ·rw [CG h1]
      ·simp [T.leaf] at h1
     ·simp [T.leaf] at h1
    ·simp [T.leaf] at h
   ·simp [T.leaf] at h
  ·simp [T.leaf] at h
 ·simp [T.leaf] at h
theorem aBM {tt:TT} {call:dU} {op:Op} {s s':St} {v:AV} {ρ:Nat→Int} (hk:kindOf tt op= .r) (h:(Um tt call s op).leaf ρ=some (v,s')):s'.h=s.h:=by
 rcases aAu hk with ⟨t,x,rfl⟩ | ⟨t,x,i,ok,rfl⟩ | ⟨c,rfl,hc⟩ | ⟨t,u,x,i,j,e,rfl,hi,he,hj,hs⟩
 ·simp only [Um] at h
  obtain⟨p,h1⟩:=LZ h
  split at h1
  ·exact afU h1
  ·rw [CG h1]
 ·simp only [Um] at h
  obtain⟨p,h1⟩:=LZ h
  split at h1
  ·split at h1
   ·exact afT h1
   obtain⟨pc',h1⟩:=OJ h1
   rw [CG h1]
  ·simp [T.leaf] at h1
 ·simp only [Um,Uy] at h
  split at h
  ·simp [T.leaf] at h
  ·rw [hc] at h
   simp only [Dj] at h
   split at h
   all_goals first
    | (rw [CG h]; done)
    | (simp [T.leaf] at h; done)
    | (rename_i e _ _; simp at e; done)
    | skip
   all_goals simp_all
 ·simp only [Um] at h
  obtain⟨p,h1⟩:=LZ h
  split at h1
  ·unfold Kw at h1
   rw [hi] at h1
   simp only [he] at h1
   simp [T.leaf] at h1
  obtain⟨H,e1,rfl⟩:=uS h1
  unfold uF at e1
  rw [hi,hj] at e1
  simp only [hs,he] at e1
  split at e1
  ·simp at e1
  ·split at e1
   ·split at e1
    ·simp only [Option.some.injEq,Prod.mk.injEq] at e1
     exact e1.2.symm
    ·split at e1
     ·rw [Option.map_eq_some_iff] at e1
      obtain⟨l,_,e2⟩:=e1
      simp only [Prod.mk.injEq] at e2
      exact e2.2.symm
     ·simp at e1
    ·simp at e1
   ·simp at e1
theorem aD0 {tt:TT} {call:dU} {all:List Oper} {o:Oper} {s s':St} {v:AV} {ρ:Nat→Int} (hk:kindOf tt o.op= .r) (h:(ev1 tt call all o s).leaf ρ=some (v,s')):s'.h=s.h:=by
 unfold ev1 at h
 obtain⟨pc',b,h1⟩:=TB h
 cases b
 ·simp only [Bool.false_eq_true,if_false] at h1
  have:=aF h1
  simp only [Prod.mk.injEq] at this
  rw [← this.2]
 ·simp only [if_true] at h1
  exact aBM (s:={ s with pc:=pc' }) hk h1
theorem sO {base bm mm:Nat}: ∀{l:List (Nat×dW)} {h:Hp} {id:Nat} {x:dW},(gG base bm mm l h).get id=some x→h.get id=some x∨∃a,(a,x)∈l∧bm.testBit a=true∧mm.testBit a=false∧id=base+a
 | [],h,id,x,hh=> .inl hh
 | (a,y) :: r,h,id,x,hh=>by
   simp only [gG] at hh
   split at hh
   ·rename_i hb
    rw [Hp.get_put] at hh
    split at hh
    ·rename_i e
     simp at hh
     subst hh
     simp at hb
     exact .inr ⟨a,by simp,hb.1,hb.2,e⟩
    ·rcases sO hh with h1 | ⟨b,h1,h2⟩
     ·exact .inl h1
     ·exact .inr ⟨b,by simp [h1],h2⟩
   ·rcases sO hh with h1 | ⟨b,h1,h2⟩
    ·exact .inl h1
    ·exact .inr ⟨b,by simp [h1],h2⟩
theorem lK {base bm mm:Nat}: ∀(l:List (Nat×dW)) (h:Hp),(gG base bm mm l h).next=h.next∧(gG base bm mm l h).res=h.res
 | [],h=> ⟨rfl,rfl⟩
 | (a,y) :: r,h=>by
   have:=lK (base:=base) (bm:=bm) (mm:=mm) r h
   simp only [gG]
   split
   ·exact this
   ·exact this
theorem FC {slots:Tr AV}: ∀{ts:List Nat} {t:Nat} {x:AV},(only slots ts).get t=some x→t∈ts∧slots.get t=some x
 | [],t,x,h=>by simp [only,Tr.get] at h
 | u :: us,t,x,h=>by
   simp only [only] at h
   split at h
   ·rename_i v hv
    rw [Tr.get_put] at h
    split at h
    ·rename_i e
     subst e
     exact⟨by simp,by rw [hv]; exact h⟩
    ·have:=FC h
     exact⟨by simp [this.1],this.2⟩
   ·have:=FC h
    exact⟨by simp [this.1],this.2⟩
theorem Cm {slots:Tr AV} {d:Option Nat} {v:AV} {t:Nat}:(AO slots d v).get t=if d=some t then some v else slots.get t:=by
 cases d with
 | none=>simp [AO]
 | some u=>
   simp only [AO,Tr.get_put,Option.some.injEq]
   by_cases h:t=u
   ·subst h; simp
   ·rw [if_neg h,if_neg (fun e=>h e.symm)]
theorem tK {ms:List Nat} {i:Nat}: ∀{es:List Edge},(sG ms es).testBit i=true→∃e∈es,Region.binds .any e=true∧(e.on=i∨(ms.getD e.on 0).testBit i=true)
 | [],h=>by simp [sG] at h
 | e :: es,h=>by
   simp only [sG] at h
   split at h
   ·rename_i hb
    simp only [Nat.testBit_or,Bool.or_eq_true] at h
    rcases h with (h | h) | h
    ·rw [Nat.shiftLeft_eq,Nat.one_mul,Nat.testBit_two_pow] at h
     exact⟨e,by simp,hb,.inl (by simpa using h)⟩
    ·exact⟨e,by simp,hb,.inr h⟩
    ·obtain⟨e',h1,h2⟩:=tK h
     exact⟨e',by simp [h1],h2⟩
   ·obtain⟨e',h1,h2⟩:=tK h
    exact⟨e',by simp [h1],h2⟩
def lJ (tt:TT):List Oper→Nat
 | []=>0
 | o :: os=>(match kindOf tt o.op with | .e=>1 | _=>0)+lJ tt os
theorem lV {tt:TT} {all:List Oper} {ms:List Nat}: ∀(os:List Oper) (i n j:Nat),(items tt all ms os i n)[j]?=(os[j]?).map fun o=> ⟨i+j,o,ms.getD (i+j) 0,kindOf tt o.op,n+lJ tt (os.take j),reads all o⟩
 | [],i,n,j=>by simp [items]
 | o :: os,i,n,j=>by
   simp only [items]
   cases j with
   | zero=>simp [lJ]
   | succ j=>
     rw [List.getElem?_cons_succ,lV os]
     simp only [List.getElem?_cons_succ,List.take_succ_cons,lJ]
     congr 1
     funext o'
     have:i+1+j=i+(j+1):=by omega
     rw [this]
     congr 1
     cases kindOf tt o.op <;> simp <;> omega
theorem yY {tt:TT} {all:List Oper} {ms:List Nat}: ∀(os:List Oper) (i n:Nat),(items tt all ms os i n).length=os.length
 | [],i,n=>rfl
 | o :: os,i,n=>by simp [items,yY os]
theorem qL {tt:TT} {all:List Oper} {ms:List Nat}: ∀(os:List Oper) (i n:Nat),lY (items tt all ms os i n)=lJ tt os
 | [],i,n=>rfl
 | o :: os,i,n=>by
   simp only [items,lY,lJ,qL os]
   cases kindOf tt o.op <;> simp <;> omega
end
end Go.As
end
section
namespace Go.As
section
variable {P:Program}
def OA [Glob] (P:Program) (ρ:Nat→Int) (ops:Array Oper) (base N:Nat) (x:Item) (d:ZO) (v:AV) (ob:Option dW) (d1:ZO):Prop:=
 ∃h mm rest,d.pF=(h,mm) :: rest∧match x.k with
  | .pa=>d1.pF=d.pF∧∃HA,OG P ρ ops x.o (only d.slots x.rd) ⟨.nil,N,some (base+x.i)⟩ v HA∧HA.next=N∧ob=HA.get (base+x.i)
  | .e=>ob=none∧∃hn,d1.pF=(hn,mm ||| x.m) :: d.pF∧hn.next≤N∧hn.res=none∧OG P ρ ops x.o (only d.slots x.rd) (gG base x.m mm d.blks h) v hn
  | .r=>ob=none∧d1.pF=d.pF
theorem apK [Glob] {tt:TT} (htt:eG P tt) {call:dU} (hc:jR P call) {ops:Array Oper} {base N:Nat} {pc:List (SB×Bool)} {ρ:Nat→Int} (hp:bI ρ pc) {x:Item} {d d1:ZO} (h:(apL tt call ops.toList base N pc x d).leaf ρ=some d1) :
 ∃v ob,d1.slots=AO d.slots x.o.dst v∧d1.vs=v :: d.vs∧d1.obs=ob :: d.obs∧d1.blks=(match ob with | some b=>(x.i,b) :: d.blks | none=>d.blks)∧OA P ρ ops base N x d v ob d1:=by
 unfold apL at h
 split at h
 ·simp [T.leaf] at h
 ·rename_i h0 mm rest hs
  split at h
  ·rename_i hk
   obtain⟨⟨v,s'⟩,h1,h2⟩:=T.fP h
   have ha:=UD htt hc (s:=⟨only d.slots x.rd,⟨.nil,N,some (base+x.i)⟩,pc⟩) hp h1
   simp only at h2
   split at h2
   ·rename_i hn
    have:=aF h2
    subst this
    refine⟨v,s'.h.get (base+x.i),rfl,rfl,rfl,?_,h0,mm,rest,hs,?_⟩
    ·cases s'.h.get (base+x.i) <;> rfl
    ·rw [hk]
     exact⟨rfl,s'.h,ha,hn,rfl⟩
   ·simp [T.leaf] at h2
  ·rename_i hk
   obtain⟨⟨v,s'⟩,h1,h2⟩:=T.fP h
   have ha:=UD htt hc (s:=⟨only d.slots x.rd,gG base x.m mm d.blks h0,pc⟩) hp h1
   simp only at h2
   split at h2
   ·rename_i hn
    have:=aF h2
    subst this
    refine⟨v,none,rfl,rfl,rfl,rfl,h0,mm,rest,hs,?_⟩
    rw [hk]
    exact⟨rfl,s'.h,by rw [hs],hn.1,hn.2,ha⟩
   ·simp [T.leaf] at h2
  ·rename_i hk
   obtain⟨⟨v,s'⟩,h1,h2⟩:=T.fP h
   have:=aF h2
   subst this
   refine⟨v,none,rfl,rfl,rfl,rfl,h0,mm,rest,hs,?_⟩
   rw [hk]
   exact⟨rfl,rfl⟩
theorem OA.pF [Glob] {ρ:Nat→Int} {ops:Array Oper} {base N:Nat} {x:Item} {d d1:ZO} {v:AV} {ob:Option dW} (h:OA P ρ ops base N x d v ob d1): ∃pre,d1.pF=pre++d.pF∧pre.length=lY [x]:=by
 obtain⟨h0,mm,rest,hs,h1⟩:=h
 cases hk:x.k <;> rw [hk] at h1
 ·exact⟨[],by rw [h1.1]; rfl,by simp [lY,hk]⟩
 ·obtain⟨_,hn,h2,_⟩:=h1
  exact⟨[(hn,mm ||| x.m)],by rw [h2]; rfl,by simp [lY,hk]⟩
 ·exact⟨[],by rw [h1.2]; rfl,by simp [lY,hk]⟩
theorem OA.nxt [Glob] {ρ:Nat→Int} {ops:Array Oper} {base N:Nat} {x:Item} {d d1:ZO} {v:AV} {ob:Option dW} (h:OA P ρ ops base N x d v ob d1) (hh: ∀q∈d.pF,q.1.next≤N∧q.1.res=none): ∀q∈d1.pF,q.1.next≤N∧q.1.res=none:=by
 obtain⟨h0,mm,rest,hs,h1⟩:=h
 cases hk:x.k <;> rw [hk] at h1
 ·rw [h1.1]; exact hh
 ·obtain⟨_,hn,h2,h3,h4,_⟩:=h1
  rw [h2]
  intro q hq
  rcases List.mem_cons.1 hq with rfl | hq
  ·exact⟨h3,h4⟩
  ·exact hh q hq
 ·rw [h1.2]; exact hh
structure aEy [Glob] (P:Program) (ρ:Nat→Int) (ops:Array Oper) (base N:Nat) (xs:List Item) (d d':ZO):Prop where
 vs: ∃pre,d'.vs=pre++d.vs∧pre.length=xs.length
 obs: ∃pre,d'.obs=pre++d.obs∧pre.length=xs.length
 pF: ∃pre,d'.pF=pre++d.pF∧pre.length=lY xs
 blk: ∀a b,(a,b)∈d'.blks→(a,b)∈d.blks∨∃p x,xs[p]?=some x∧x.i=a∧d'.obs.reverse[d.obs.length+p]?=some (some b)
 aFh: ∀p x b,xs[p]?=some x→d'.obs.reverse[d.obs.length+p]?=some (some b)→(x.i,b)∈d'.blks
 aFF: ∀q,q∈d.blks→q∈d'.blks
 slot: ∀t x,d'.slots.get t=some x→(∃p y,xs[p]?=some y∧y.o.dst=some t∧d'.vs.reverse[d.vs.length+p]?=some x)∨(d.slots.get t=some x∧∀y∈xs,y.o.dst≠some t)
 same: ∀t,(∀y∈xs,y.o.dst≠some t)→d'.slots.get t=d.slots.get t
 nxt:(∀q∈d.pF,q.1.next≤N∧q.1.res=none)→∀q∈d'.pF,q.1.next≤N∧q.1.res=none
 at_: ∀p x,xs[p]?=some x→∃dp dp1 v ob pre,OA P ρ ops base N x dp v ob dp1∧d'.vs.reverse[d.vs.length+p]?=some v∧d'.obs.reverse[d.obs.length+p]?=some ob∧d'.pF=pre++dp1.pF∧dp.pF.length=d.pF.length+lY (xs.take p)∧
  (∀q,q∈dp.blks→q∈d'.blks)∧(∀t,(∀y∈xs.drop p,y.o.dst≠some t)→d'.slots.get t=dp.slots.get t)∧
  (∀t z,dp.slots.get t=some z→(∃p' y,p' < p∧xs[p']?=some y∧y.o.dst=some t∧d'.vs.reverse[d.vs.length+p']?=some z)∨(d.slots.get t=some z∧∀y∈xs.take p,y.o.dst≠some t))
theorem rev_at {α:Type} {l pre l0:List α} {v:α} (h:l=pre++v :: l0):l.reverse[l0.length]?=some v:=by
 subst h
 simp
theorem Js (x:Item) (xs:List Item):lY (x :: xs)=lY [x]+lY xs:=by
 simp only [lY]
 cases x.k <;> simp <;> omega
theorem T.oU {α β:Type} {ρ:Nat→Int} {f:List (SB×Bool)→α→T β} {r:β}: ∀{x:T α} {pc:List (SB×Bool)},bI ρ pc→(x.GU pc f).leaf ρ=some r→∃a pc',x.leaf ρ=some a∧bI ρ pc'∧(f pc' a).leaf ρ=some r
 | .fail,pc,_,h=>by simp [T.GU,T.leaf] at h
 | .ret a,pc,hp,h=> ⟨a,pc,rfl,hp,h⟩
 | .split c x y,pc,hp,h=>by
   simp only [T.GU] at h
   cases hd:mF pc c with
   | some b=>
     rw [hd] at h
     have hb:=iW hp hd
     simp only [T.leaf,hb]
     cases b with
     | true=>exact T.oU hp h
     | false=>exact T.oU hp h
   | none=>
     rw [hd] at h
     simp only [T.leaf] at h ⊢
     cases hb:c.den ρ with
     | true=>
       rw [hb] at h
       exact T.oU (x:=x) (pc:=(c,true) :: pc) (fun c' b' hm=>by
        rcases List.mem_cons.1 hm with he | hm
        ·simp only [Prod.mk.injEq] at he; rw [he.1,he.2]; exact hb
        ·exact hp c' b' hm) h
     | false=>
       rw [hb] at h
       exact T.oU (x:=y) (pc:=(c,false) :: pc) (fun c' b' hm=>by
        rcases List.mem_cons.1 hm with he | hm
        ·simp only [Prod.mk.injEq] at he; rw [he.1,he.2]; exact hb
        ·exact hp c' b' hm) h
theorem acR {tt:TT} {call:dU} {all:List Oper} {base N:Nat} {ρ:Nat→Int}: ∀(xs:List Item) {pc pc':List (SB×Bool)} {d d':ZO},bI ρ pc→(afY tt call all base N xs pc d).leaf ρ=some (pc',d')→bI ρ pc'
 | [],pc,pc',d,d',hp,h=>by
   have:=aF h
   simp only [Prod.mk.injEq] at this
   rw [← this.1]; exact hp
 | x :: xs,pc,pc',d,d',hp,h=>by
   simp only [afY] at h
   obtain⟨d1,pc1,_,hp1,h2⟩:=T.oU hp h
   exact acR xs hp1 h2
theorem acS [Glob] {tt:TT} (htt:eG P tt) {call:dU} (hc:jR P call) {ops:Array Oper} {base N:Nat} {ρ:Nat→Int}: ∀(xs:List Item) {pc pc':List (SB×Bool)} {d d':ZO},bI ρ pc→(afY tt call ops.toList base N xs pc d).leaf ρ=some (pc',d')→aEy P ρ ops base N xs d d'
 | [],pc,pc',d,d',hp,h=>by
   have:=aF h
   simp only [Prod.mk.injEq] at this
   obtain⟨_,rfl⟩:=this
   exact⟨⟨[],rfl,rfl⟩,⟨[],rfl,rfl⟩,⟨[],rfl,rfl⟩,fun a b h=> .inl h,fun p x b hh=>by simp at hh,fun q h=>h,fun t x h=> .inr ⟨h,by simp⟩,fun t _=>rfl,fun h=>h,fun p x hh=>by simp at hh⟩
 | x :: xs,pc,pc',d,d',hp,h=>by
   simp only [afY] at h
   obtain⟨d1,pc1,h1,hp1,h2⟩:=T.oU hp h
   obtain⟨v,ob,e1,e2,e3,e4,hF⟩:=apK htt hc hp h1
   obtain⟨⟨pv,v1,v2⟩,⟨po,o1,o2⟩,⟨ps,s1,s2⟩,b1,b2,b3,sl,sm,nx,hat⟩:=acS htt hc xs hp1 h2
   obtain⟨qs,t1,t2⟩:=hF.pF
   have hv0:d'.vs.reverse[d.vs.length]?=some v:=rev_at (by rw [v1,e2])
   have ho0:d'.obs.reverse[d.obs.length]?=some ob:=rev_at (by rw [o1,e3])
   have hvl:d1.vs.length=d.vs.length+1:=by rw [e2]; rfl
   have hol:d1.obs.length=d.obs.length+1:=by rw [e3]; rfl
   have hb0: ∀q,q∈d.blks→q∈d1.blks:=by
    intro q hq
    rw [e4]
    cases ob with
    | none=>exact hq
    | some b=>exact List.mem_cons_of_mem _ hq
   have hsh: ∀(p n:Nat),n+1+p=n+(p+1):=by intro p n; omega
   refine⟨⟨pv++ [v],by rw [v1,e2]; simp,by simp [v2]⟩,⟨po++ [ob],by rw [o1,e3]; simp,by simp [o2]⟩,⟨ps++qs,by rw [s1,t1]; simp,by rw [List.length_append,Js,s2,t2]; omega⟩,?_,?_,fun q hq=>b3 q (hb0 q hq),?_,?_,fun hh=>nx (hF.nxt hh),?_⟩
   ·intro a b hab
    rcases b1 a b hab with hh | ⟨p,y,g1,g2,g3⟩
    ·rw [e4] at hh
     cases ob with
     | none=>exact .inl hh
     | some c=>
       simp only [List.mem_cons,Prod.mk.injEq] at hh
       rcases hh with ⟨rfl,rfl⟩ | hh
       ·exact .inr ⟨0,x,rfl,rfl,ho0⟩
       ·exact .inl hh
    ·exact .inr ⟨p+1,y,by simpa using g1,g2,by rw [← hsh,← hol]; exact g3⟩
   ·intro p y b hy hb
    cases p with
    | zero=>
      simp at hy
      subst hy
      rw [Nat.add_zero,ho0] at hb
      simp at hb
      subst hb
      exact b3 _ (by rw [e4]; simp)
    | succ p=>
      refine b2 p y b (by simpa using hy) ?_
      rw [hol,hsh]
      exact hb
   ·intro t y hy
    rcases sl t y hy with ⟨p,z,g1,g2,g3⟩ | ⟨g1,g2⟩
    ·exact .inl ⟨p+1,z,by simpa using g1,g2,by rw [← hsh,← hvl]; exact g3⟩
    ·rw [e1,Cm] at g1
     split at g1
     ·rename_i hd
      simp at g1
      subst g1
      exact .inl ⟨0,x,rfl,hd,hv0⟩
     ·rename_i hd
      refine .inr ⟨g1,fun z hz=>?_⟩
      rcases List.mem_cons.1 hz with rfl | hz
      ·exact hd
      ·exact g2 z hz
   ·intro t ht
    rw [sm t fun y hy=>ht y (by simp [hy]),e1,Cm,if_neg (ht x (by simp))]
   ·intro p y hy
    cases p with
    | zero=>
      simp at hy
      subst hy
      refine⟨d,d1,v,ob,ps,hF,hv0,ho0,s1,by simp [lY],fun q hq=>b3 q (hb0 q hq),fun t ht=>?_,fun t z hz=> .inr ⟨hz,by simp⟩⟩
      rw [sm t fun y hy=>ht y (by simp [hy]),e1,Cm,if_neg (ht x (by simp))]
    | succ p=>
      obtain⟨dp,dp1,v',ob',pre,g1,g2,g3,g4,g5,g6,g7,g8⟩:=hat p y (by simpa using hy)
      refine⟨dp,dp1,v',ob',pre,g1,by rw [← hsh,← hvl]; exact g2,by rw [← hsh,← hol]; exact g3,g4,?_,g6,fun t ht=>g7 t (by simpa using ht),fun t z hz=>?_⟩
      ·rw [g5,List.take_succ_cons,Js,t1,List.length_append,t2]
       omega
      ·rcases g8 t z hz with ⟨p',y',q1,q2,q3,q4⟩ | ⟨q1,q2⟩
       ·exact .inl ⟨p'+1,y',by omega,by simpa using q2,q3,by rw [← hsh,← hvl]; exact q4⟩
       ·rw [e1,Cm] at q1
        split at q1
        ·rename_i hd
         simp at q1
         subst q1
         exact .inl ⟨0,x,by omega,rfl,hd,hv0⟩
        ·rename_i hd
         refine .inr ⟨q1,fun u hu=>?_⟩
         rw [List.take_succ_cons] at hu
         rcases List.mem_cons.1 hu with rfl | hu
         ·exact hd
         ·exact q2 u hu
end
end Go.As
end

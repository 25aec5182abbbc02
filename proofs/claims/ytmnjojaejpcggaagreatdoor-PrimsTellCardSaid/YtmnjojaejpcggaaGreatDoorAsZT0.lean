import GoSem.Claim
import Derived.Orders
import Derived.Scope
import Derived.LoopN
import Derived.Below
import GoSem.Core.View
import GoSem.Core.Layout
import GoSem.Op.Equal
import Derived.WalkKit
import Derived.Lib.Strings
import Derived.Laws.IdiomStrings
import Derived.Laws.RangeString
import Derived.Laws.StructEq
set_option linter.unusedSectionVars false
set_option linter.unusedVariables false
set_option linter.unusedSimpArgs false
abbrev aHc:=@if_neg
abbrev aHd:=@if_pos
abbrev aHe:=@Option.some.injEq
abbrev aHf:=@Prod.mk.injEq
abbrev aHg:=@Bool.and_eq_true
abbrev aHh:=@Nat.le_refl
abbrev aHi:=@Int.lt_irrefl
abbrev aHj:=@Nat.eq_of_beq_eq_true
abbrev aHk:=@List.getElem_mem
abbrev aHl:=@Option.getD_some
abbrev aHm:=@List.mem_cons
abbrev aHn:=@Nat.zero_add
abbrev aHo:=@List.map_cons
abbrev aHp:=@List.getElem?_cons_succ
abbrev aHq:=@List.length_cons
abbrev aHr:=@List.length_take
abbrev aHs:=@Int.natCast_one
abbrev aHt:=@List.drop_eq_getElem_cons
abbrev aHu:=@List.getElem?_eq_getElem
abbrev aHv:=@Bool.false_eq_true
abbrev aHw:=@Nat.lt_or_ge
abbrev aHx:=@List.nil_append
abbrev aHy:=@Option.map_eq_some_iff
abbrev aHz:=@List.all_eq_true
abbrev aHA:=@List.getElem?_cons_zero
abbrev aHB:=@List.getElem?_eq_some_iff
abbrev aHC:=@List.length_append
abbrev aHD:=@List.length_nil
abbrev aHE:=@List.drop_of_length_le
abbrev aHF:=@List.mem_map
abbrev aHG:=@List.getElem?_map
abbrev aHH:=@Int.toNat_natCast
abbrev aHI:=@List.length_drop
abbrev aHJ:=@Nat.add_zero
abbrev aHK:=@List.mem_of_getElem?
abbrev aHL:=@Array.length_toList
abbrev aHM:=@List.cons_append
abbrev aHN:=@Array.getElem?_eq_some_iff
abbrev aHO:=@Option.isSome_some
abbrev aHP:=@Nat.le_trans
abbrev aHQ:=@List.mem_of_mem_drop
abbrev aHR:=@Nat.add_assoc
abbrev aHS:=@List.mem_of_mem_take
abbrev aHT:=@Array.getElem?_toList
abbrev aHU:=@List.append_nil
abbrev aHV:=@Option.map_some
abbrev aHW:=@Nat.le_of_ble_eq_true
abbrev aHX:=@List.mem_cons_self
abbrev aHY:=@Bool.eq_iff_iff
abbrev aHZ:=@Array.getD_eq_getD_getElem?
abbrev aH0:=@List.length_map
abbrev aH1:=@List.mem_append
abbrev aH2:=@List.getElem?_eq_none
abbrev aH3:=@List.append_assoc
abbrev aH4:=@List.drop_zero
abbrev aH5:=@List.mem_range
abbrev aH6:=@List.eq_nil_of_length_eq_zero
abbrev aH7:=@Nat.zero_mul
abbrev aH8:=@List.mem_cons_of_mem
abbrev aH9:=@List.singleton_append
abbrev aIa:=@Nat.add_mul
abbrev aIb:=@List.take_of_length_le
abbrev aIc:=@List.take_succ_cons
abbrev aId:=@List.not_mem_nil
abbrev aIe:=@Nat.lt_of_lt_of_le
abbrev aIf:=@Nat.sub_zero
abbrev aIg:=@Array.getElem?_setIfInBounds_ne
abbrev aIh:=@Bool.or_eq_true
abbrev aIi:=@List.length_pos_iff
abbrev aIj:=@Bool.not_eq_true'
abbrev aIk:=@List.length_eq_zero_iff
abbrev aIl:=@List.map_nil
abbrev aIm:=@Nat.mod_eq_of_lt
abbrev aIn:=@List.getElem?_take
abbrev aIo:=@List.mem_filter
abbrev aIp:=@Nat.blt_eq
abbrev aIq:=@List.getElem?_drop
abbrev aIr:=@UInt8.toNat_ofNat'
abbrev aIs:=@List.take_append_drop
abbrev aIt:=@Nat.eq_zero_or_pos
abbrev aIu:=@Option.isSome_iff_exists
abbrev aIv:=@Bool.eq_false_iff
abbrev aIw:=@List.map_append
abbrev aIx:=@Nat.mul_comm
abbrev aIy:=@List.map_map
abbrev aIz:=@Nat.zero_le
abbrev aIA:=@Nat.mul_le_mul_right
abbrev aIB:=@Int.not_lt
abbrev aIC:=@List.getElem?_range
abbrev aID:=@List.getD_eq_getElem?_getD
abbrev aIE:=@Nat.one_mul
abbrev aIF:=@List.take_length
abbrev aIG:=@List.mem_singleton
abbrev aIH:=@List.length_replicate
abbrev aII:=@Bool.false_or
abbrev aIJ:=@Array.getElem?_eq_none
abbrev aIK:=@Array.getElem?_replicate
abbrev aIL:=@List.take_append_of_le_length
abbrev aIM:=@Nat.mul_assoc
abbrev aIN:=@Int.ofNat_inj
abbrev aIO:=@List.length_set
abbrev aIP:=@List.mem_iff_getElem?
abbrev aIQ:=@Nat.ne_of_beq_eq_false
abbrev aIR:=@List.mapM_cons
abbrev aIS:=@List.map_take
abbrev aIT:=@Nat.mul_one
abbrev aIU:=@List.getElem?_eq_none_iff
abbrev aIV:=@Nat.mul_pos
abbrev aIW:=@List.take_take
abbrev aIX:=@Int.ofNat_lt
abbrev aIY:=@Bool.not_true
abbrev aIZ:=@List.getElem?_toArray
abbrev aI0:=@Array.getElem?_setIfInBounds
abbrev aI1:=@Nat.ble_eq_true_of_le
abbrev aI2:=@Int.toNat_zero
abbrev aI3:=@List.sum_cons
abbrev aI4:=@List.mem_append_right
abbrev aI5:=@Nat.pow_succ
abbrev aI6:=@List.map_congr_left
abbrev aI7:=@List.map_id
abbrev aI8:=@List.ext_getElem?
abbrev aI9:=@Option.bind_eq_some_iff
abbrev aJa:=@Bool.or_false
abbrev aJb:=@List.map_drop
abbrev aJc:=@Array.getElem?_append_left
abbrev aJd:=@List.set_cons_zero
abbrev aJe:=@List.set_cons_succ
abbrev aJf:=@List.getElem?_set
abbrev aJg:=@List.foldlM_cons
abbrev aJh:=@List.getElem?_append_right
abbrev aJi:=@List.getElem?_append_left
abbrev aJj:=@Array.mem_of_getElem?
abbrev aJk:=@List.eq_nil_iff_forall_not_mem
abbrev aJl:=@Array.getElem?_setIfInBounds_self
abbrev aJm:=@List.any_eq_true
abbrev aJn:=@List.all_append
abbrev aJo:=@List.mem_map_of_mem
abbrev aJp:=@List.contains_iff_mem
abbrev aJq:=@List.take_succ_eq_append_getElem
abbrev aJr:=@List.mem_append_left
abbrev aJs:=@List.nodup_append
abbrev aJt:=@Nat.pow_zero
abbrev aJu:=@Array.getElem?_modify
abbrev aJv:=@Int.tmod_lt_of_pos
abbrev aJw:=@Option.bind_eq_bind
abbrev aJx:=@List.getElem?_append
abbrev aJy:=@Array.getElem?_map
abbrev aJz:=@Array.getElem?_range
abbrev aJA:=@Array.getElem?_eq_getElem
abbrev aJB:=@Nat.mul_le_mul
abbrev aJC:=@Array.size_map
abbrev aJD:=@List.eraseIdx_cons_succ
abbrev aJE:=@Array.toList_map
abbrev aJF:=@Nat.le_of_mul_le_mul_right
abbrev aJG:=@List.take_zero
abbrev aJH:=@List.take_set_of_le
abbrev aJI:=@List.drop_set_of_lt
abbrev aJJ:=@Nat.div_mul_le_self
abbrev aJK:=@List.drop_drop
abbrev aJL:=@List.replicate_succ
abbrev aJM:=@Nat.lt_trichotomy
abbrev aJN:=@List.length_reverse
abbrev aJO:=@List.getElem_of_mem
abbrev aJP:=@List.length_range
abbrev aJQ:=@Nat.lt_of_succ_le
abbrev aJR:=@Bool.true_or
abbrev aJS:=@Nat.min_self
abbrev aJT:=@List.drop_eq_nil_of_le
abbrev aJU:=@List.getElem?_set_self
abbrev aJV:=@List.mem_or_eq_of_mem_set
abbrev aJW:=@List.eq_of_mem_replicate
abbrev aJX:=@Array.mapM_eq_mapM_toList
abbrev aJY:=@Array.getElem?_eq_none_iff
abbrev aJZ:=@Array.all_eq_true_iff_forall_mem
abbrev aJ0:=@Nat.add_sub_cancel_left
abbrev aJ1:=@List.set_getElem_self
abbrev aJ2:=@List.getElem_set_self
section
namespace Go.As
inductive Tr (α:Type) where
 |nil
 |node (v:Option α) (l r:Tr α)
 deriving Inhabited
noncomputable def Tr.get {α:Type} (t:Tr α) (k:Nat):Option α:=
 Tr.rec (motive:=fun _=>Nat->Option α) (fun _=>none)
  (fun v _ _ il ir k=>Nat.rec (motive:=fun _=>Option α) v (fun k' _=>Bool.rec (motive:=fun _=>Option α) (ir (Nat.div k' 2)) (il (Nat.div k' 2)) (Nat.beq (Nat.mod k' 2) 0)) k) t k
def Tr.val {α:Type}:Tr α->Option α
 | .nil=>none
 | .node v _ _=>v
def Tr.left {α:Type}:Tr α->Tr α
 | .nil=> .nil
 | .node _ l _=>l
def Tr.right {α:Type}:Tr α->Tr α
 | .nil=> .nil
 | .node _ _ r=>r
noncomputable def Tr.mkL {α:Type} (v:Option α) (x r:Tr α):Tr α:=Tr.rec (motive:=fun _=>Tr α) (.node v .nil r) (fun a b c _ _=> .node v (.node a b c) r) x
noncomputable def Tr.mkR {α:Type} (v:Option α) (l x:Tr α):Tr α:=Tr.rec (motive:=fun _=>Tr α) (.node v l .nil) (fun a b c _ _=> .node v l (.node a b c)) x
noncomputable def Tr.agY {α:Type} (f:Nat):Tr α->Nat->Option α->Tr α:=
 Nat.rec (motive:=fun _=>Tr α->Nat->Option α->Tr α) (fun t _ _=>t)
  (fun _ ih t k x=>Tr.rec (motive:=fun _=>Tr α)
   (Nat.rec (motive:=fun _=>Tr α) (.node x .nil .nil) (fun k' _=>Bool.rec (motive:=fun _=>Tr α) (Tr.mkR none .nil (ih .nil (Nat.div k' 2) x)) (Tr.mkL none (ih .nil (Nat.div k' 2) x) .nil) (Nat.beq (Nat.mod k' 2) 0)) k)
   (fun v l r _ _=>Nat.rec (motive:=fun _=>Tr α) (.node x l r) (fun k' _=>Bool.rec (motive:=fun _=>Tr α) (Tr.mkR v l (ih r (Nat.div k' 2) x)) (Tr.mkL v (ih l (Nat.div k' 2) x) r) (Nat.beq (Nat.mod k' 2) 0)) k) t) f
noncomputable def Tr.put {α:Type} (t:Tr α) (k:Nat) (v:Option α):Tr α:=Tr.agY (Nat.succ k) t k v
theorem axV (a b:Nat):Nat.beq a b=decide (a=b):=by rw [aHY];simp
theorem Ko {β:Sort _} (a b:β) (c:Nat):Bool.rec (motive:=fun _=>β) a b (Nat.beq c 0)=if c=0 then b else a:=by
 by_cases h:c=0
 ·subst h; rfl
 ·rw [aHc h];have:Nat.beq c 0=false:=by rw [axV]; simpa using h
  rw [this]
theorem Tr.uF {α:Type} (v:Option α) (l r:Tr α) (k:Nat) :
 (Tr.node v l r).get k=if k=0 then v else if (k-1) % 2=0 then l.get ((k-1) / 2) else r.get ((k-1) / 2):=by
 cases k with
 |zero=>rfl
 |succ k=> simp only [Nat.add_sub_cancel,Nat.succ_ne_zero,if_false];exact Ko _ _ _
theorem Tr.DY {α:Type} (t:Tr α) (k:Nat) :
 t.get k=if k=0 then t.val else if (k-1) % 2=0 then t.left.get ((k-1) / 2) else t.right.get ((k-1) / 2):=by
 cases t with
 |nil=> have h: ∀j,(Tr.nil:Tr α).get j=none:=fun _=>rfl;simp [h,Tr.val,Tr.left,Tr.right]
 |node v l r=>rw [Tr.uF]; rfl
theorem Tr.aBP {α:Type} (v:Option α) (x r:Tr α):Tr.mkL v x r= .node v x r:=by cases x<;>rfl
theorem Tr.aBO {α:Type} (v:Option α) (l x:Tr α):Tr.mkR v l x= .node v l x:=by cases x<;>rfl
theorem Tr.agW {α:Type} (f:Nat) (t:Tr α) (v:Option α):Tr.agY (f+1) t 0 v= .node v t.left t.right:=by cases t<;>rfl
theorem Tr.agX {α:Type} (f:Nat) (t:Tr α) (k:Nat) (v:Option α):Tr.agY (f+1) t (k+1) v=if k % 2=0 then .node t.val (Tr.agY f t.left (k / 2) v) t.right else .node t.val t.left (Tr.agY f t.right (k / 2) v):=by rw [<- Tr.aBP,<- Tr.aBO];cases t<;>exact Ko _ _ _
theorem Tr.aoQ {α:Type}: ∀(f:Nat) (t:Tr α) (k:Nat) (v:Option α) (j:Nat),k<f->(Tr.agY f t k v).get j=if j=k then v else t.get j:=by
 intro f
 induction f with
 |zero=>intro t k v j hk; omega
 |succ f ih=>
  intro t k v j hk
  cases k with
  |zero=> rw [Tr.agW,Tr.uF,Tr.DY t];split<;>simp_all
  |succ k=>
   rw [Tr.agX,Tr.DY t j];split
   ·rename_i h;rw [Tr.uF];by_cases hj:j=0
    ·subst hj; simp
    ·rw [aHc hj,aHc hj];by_cases h2:(j-1) % 2=0
     ·rw [aHd h2,aHd h2,ih _ _ _ _ (by omega)];by_cases h3:j=k+1
      ·subst h3; simp
      ·rw [aHc h3,aHc (by omega)]
     ·rw [aHc h2,aHc h2,aHc (by intro h3; subst h3; simp at h2; omega)]
   ·rename_i h;rw [Tr.uF];by_cases hj:j=0
    ·subst hj; simp
    ·rw [aHc hj,aHc hj];by_cases h2:(j-1) % 2=0
     ·rw [aHd h2,aHd h2,aHc (by intro h3; subst h3; simp at h2; omega)]
     ·rw [aHc h2,aHc h2,ih _ _ _ _ (by omega)];by_cases h3:j=k+1
      ·subst h3; simp
      ·rw [aHc h3,aHc (by omega)]
theorem Tr.get_put {α:Type} (t:Tr α) (k:Nat) (v:Option α) (j:Nat):(t.put k v).get j=if j=k then v else t.get j:=
 Tr.aoQ (Nat.succ k) t k v j (Nat.lt_succ_self _)
inductive D where
 |i (n:Int)
 |p (a b:D)
 deriving DecidableEq,Inhabited
def zN:Int->Nat
 | .ofNat n=>2*n
 | .negSucc n=>2*n+1
theorem aiY {a b:Int} (h:zN a=zN b):a=b:=by
 cases a<;>cases b<;>simp only [zN] at h
 ·congr 1; omega
 ·omega
 ·omega
 ·congr 1; omega
def uT (a b:Nat):Nat:=2 ^ a*(2*b+1)
theorem I5: ∀{a a' b b':Nat},uT a b=uT a' b'->a=a'/\b=b'
 |0,0,b,b',h=>by simp only [uT,aJt,aIE] at h; omega
 |0,a'+1,b,b',h=>by
  simp only [uT,aJt,aIE,aI5] at h;have:2 ^ a'*2*(2*b'+1)=2*(2 ^ a'*(2*b'+1)):=by rw [aIx (2 ^ a') 2,aIM]
  omega
 |a+1,0,b,b',h=>by
  simp only [uT,aJt,aIE,aI5] at h;have:2 ^ a*2*(2*b+1)=2*(2 ^ a*(2*b+1)):=by rw [aIx (2 ^ a) 2,aIM]
  omega
 |a+1,a'+1,b,b',h=>by
  have h1:2 ^ (a+1)*(2*b+1)=2*uT a b:=by unfold uT; rw [aI5,aIx (2 ^ a) 2,aIM]
  have h2:2 ^ (a'+1)*(2*b'+1)=2*uT a' b':=by unfold uT; rw [aI5,aIx (2 ^ a') 2,aIM]
  have h3:uT a b=uT a' b':=by have:uT (a+1) b=uT (a'+1) b':=h;unfold uT at this;rw [h1,h2] at this;omega
  obtain⟨e1,e2⟩:=I5 h3;exact⟨by omega,e2⟩
def D.enc:D->Nat
 | .i n=>2*zN n
 | .p a b=>2*uT a.enc b.enc+1
theorem D.gI: ∀{a b:D},a.enc=b.enc->a=b
 | .i n,.i m,h=>by simp only [D.enc] at h;rw [aiY (a:=n) (b:=m) (by omega)]
 | .i n,.p a b,h=>by simp only [D.enc] at h; omega
 | .p a b,.i n,h=>by simp only [D.enc] at h; omega
 | .p a b,.p c d,h=>by simp only [D.enc] at h;obtain⟨h1,h2⟩:=I5 (a:=a.enc) (b:=b.enc) (a':=c.enc) (b':=d.enc) (by omega);rw [D.gI h1,D.gI h2]
open Classical in
noncomputable def dec (z:Int):D:=if h: ∃d:D,(d.enc:Int)=z then h.choose else .i 0
def enc (d:D):Int:=(d.enc:Int)
theorem aC (d:D):dec (enc d)=d:=by unfold dec;have h: ∃d':D,(d'.enc:Int)=enc d:=⟨d,rfl⟩;rw [dif_pos h];have:=h.choose_spec;apply D.gI;unfold enc at this;exact Int.ofNat.inj this
theorem gI {a b:D} (h:enc a=enc b):a=b:=by rw [<- aC a,h,aC]
def D.n:D->Int
 | .i n=>n
 | .p _ _=>0
def D.l:D->List D
 | .i _=>[]
 | .p a b=>a::b.l
def dL:List D->D
 |[]=> .i 0
 |a::l=> .p a (dL l)
@[simp] theorem aA: ∀l:List D,(dL l).l=l
 |[]=>rfl
 |a::l=>by simp [dL,D.l,aA l]
theorem O6 {a b:List D} (h:dL a=dL b):a=b:=by rw [<- aA a,h,aA]
def D.at (d:D) (i:Int):D:=(d.l[i.toNat]?).getD (.i 0)
def D.hd (d:D) (j:Nat):D:=(d.l[j]?).getD (.i 0)
def wK (l:List UInt8):D:=dL (l.map fun b=> .i (b.toNat:Int))
def Bd (s:ByteArray):D:=wK s.data.toList
def oW (l:List Nat):D:=dL (l.map fun b=> .i (Int.ofNat b))
theorem abG {a b:List UInt8} (h:wK a=wK b):a=b:=by
 have:=O6 h
 have hinj: ∀{x y:UInt8},(D.i (x.toNat:Int))= .i (y.toNat:Int)->x=y:=by intro x y h;simp only [D.i.injEq,aIN] at h;exact UInt8.toNat_inj.1 h
 induction a generalizing b with
 |nil=>cases b with
  |nil=>rfl
  |cons y b=>simp at this
 |cons x a ih=>cases b with
  |nil=>simp at this
  |cons y b=> simp only [aHo,List.cons.injEq] at this;rw [hinj this.1,ih (by unfold wK; rw [this.2]) this.2]
theorem O1 {a b:ByteArray} (h:Bd a=Bd b):a=b:=by
 have:=abG h
 cases a with
 |mk x=>cases b with
  |mk y=>simp only [ByteArray.mk.injEq] at *; exact Array.toList_inj.1 this
theorem Hq (l:List Nat) (h: ∀b∈l,b<256):oW l=wK (l.map UInt8.ofNat):=by unfold oW wK;congr 1;rw [aIy];apply aI6;intro b hb;have:=h b hb;simp [aIm this]
theorem arW (s:ByteArray):(Bd s).l.length=s.size:=by unfold Bd wK;rw [aA,aH0];rfl
inductive jC where
 |len
 |at
 |cell (j:Nat)
 |num
 |mk
 |cons
 |snoc
 |cat
 |take
 |drop
 |set
 |bit
 |norm
 |sub
 |fill
 |idx
 |cnt
 |con
 |slt
 |NK
 |NP
 |I9
 |ZL
 |rep
 deriving DecidableEq,Inhabited
def iR (d:D) (l:List D):D:=match l with
 |[]=>if d= .i 1 then .i 1 else .i 2
 |l=>dL l
theorem aH (d:D) (l:List D):(iR d l).l=l:=by
 cases l with
 |nil=>simp only [iR]; split<;>rfl
 |cons a l=>simp [iR]
theorem Ho {d:D} {l:List D} (h:l≠[]):iR d l=dL l:=by
 cases l with
 |nil=>exact absurd rfl h
 |cons a l=>rfl
theorem vO {d:D} (h:d≠.i 1):iR d []= .i 2:=by show (if d= .i 1 then D.i 1 else D.i 2)= .i 2;rw [aHc h]
theorem aiI {d:D} (h:d≠.i 1) (l:List D):iR d l≠.i 1:=by
 cases l with
 |nil=>rw [vO h]; simp
 |cons a l=>simp [iR,dL]
theorem FC {d:D} {l m:List D} (h:d= .i 1->l= []):iR (iR d l) m=iR d m:=by
 cases m with
 |cons a m=>rfl
 |nil=>
  by_cases h1:d= .i 1
  ·rw [h h1,h1]; rfl
  ·rw [vO h1,vO (aiI h1 l)]
def xK (z:Int):List D->Int->Int
 |[],_=> -1
 |d::l,i=>match d with
  | .i n=>if n=z then i else xK z l (i+1)
  |_=>xK z l (i+1)
def O7 (l:List D) (z:Int):Int:=xK z l 0
def Jr:List D->List D->Bool
 |[],_=>true
 |_::_,[]=>false
 |a::x,b::y=>decide (a=b)&&Jr x y
def Hr (l x:List D):Bool:=match l with
 |[]=>Jr x []
 |a::l=>Jr x (a::l)||Hr l x
def asB (l:List D) (z:Int):Int:=match l with
 |[]=>0
 |d::l=>(if d= .i z then 1 else 0)+asB l z
def X8:List D->List D->Bool
 |[],[]=>false
 |[],_::_=>true
 |_::_,[]=>false
 |a::x,b::y=>if a.n<b.n then true else if b.n<a.n then false else X8 x y
def dV (ds:List D) (z:Int) (x:D):List D:=if z<0 then ds else ds.set z.toNat x
theorem gK (ds:List D) (z:Int) (x:D):(dV ds z x).length=ds.length:=by
 unfold dV; split
 ·rfl
 ·exact aIO
theorem vY (ds:List D) (k:Nat) (x:D):dV ds (k:Int) x=ds.set k x:=by unfold dV; rw [aHc (by omega)]; rfl
def X9:D->D
 | .p k _=>k
 |d=>d
def axN:D->D
 | .p _ v=>v
 |d=>d
def rV:List D->D->Option D
 |[],_=>none
 |d::l,k=>if X9 d=k then some (axN d) else rV l k
def Fa:List D->D->D->List D
 |[],k,v=>[.p k v]
 |d::l,k,v=>if X9 d=k then .p k v::l else d::Fa l k v
def UO:List D->D->List D
 |[],_=>[]
 |d::l,k=>if X9 d=k then l else d::UO l k
noncomputable def jC.den (o:jC) (x y:Int):Int:=match o with
 | .len=>((dec x).l.length:Int)
 | .at=>enc ((dec x).at y)
 | .cell j=>enc ((dec x).hd j)
 | .num=>(dec x).n
 | .mk=>enc (.i x)
 | .cons=>enc (.p (dec x) (dec y))
 | .snoc=>enc (dL ((dec x).l++ [dec y]))
 | .cat=>enc (dL ((dec x).l++(dec y).l))
 | .take=>enc (iR (dec x) ((dec x).l.take y.toNat))
 | .drop=>enc (iR (dec x) ((dec x).l.drop y.toNat))
 | .set=>match dec y with
   | .p q v=>enc (dL (dV (dec x).l q.n v))
   |_=>x
 | .bit=>enc (.i (if (dec x).n=0 then 0 else 1))
 | .norm=>enc (dec x)
 | .sub=>enc (dL (((dec x).l.take ((dec y).hd 1).n.toNat).drop ((dec y).hd 0).n.toNat))
 | .fill=>match dec y with
   | .p q v=>enc (dL ((dec x).l.take q.n.toNat++List.replicate ((dec x).l.length-q.n.toNat) v))
   |_=>x
 | .idx=>O7 (dec x).l y
 | .cnt=>asB (dec x).l y
 | .con=>if Hr (dec x).l (dec y).l then 1 else 0
 | .slt=>if X8 (dec x).l (dec y).l then 1 else 0
 | .NK=>if (rV (dec x).l (dec y)).isSome then 1 else 0
 | .NP=>enc ((rV (dec x).l (dec y)).getD (.i 0))
 | .I9=>match dec y with
   | .p k v=>enc (dL (Fa (dec x).l k v))
   |_=>x
 | .ZL=>enc (dL (UO (dec x).l (dec y)))
 | .rep=>enc (dL (List.replicate x.toNat (dec y)))
def jC.tag:jC->Nat
 | .len=>0
 | .at=>1
 | .cell j=>j+23
 | .num=>2
 | .mk=>3
 | .cons=>4
 | .snoc=>5
 | .cat=>6
 | .take=>7
 | .drop=>8
 | .set=>9
 | .bit=>10
 | .norm=>11
 | .sub=>12
 | .fill=>13
 | .idx=>14
 | .cnt=>15
 | .con=>16
 | .slt=>17
 | .NK=>18
 | .NP=>19
 | .I9=>20
 | .ZL=>21
 | .rep=>22
theorem jC.atN {a b:jC} (h:a.tag=b.tag):a=b:=by
 cases a<;>cases b<;>simp only [jC.tag] at h<;>first |rfl|(congr 1; omega)|omega
inductive CK where
 |int (k:IntKind)
 |bool
 |str
 |sl (t:Nat)
 deriving DecidableEq,Inhabited
inductive Row where
 |one (c:CK)
 |many (cs:List CK)
 deriving DecidableEq,Inhabited
def Row.es:Row->Nat
 | .one _=>1
 | .many cs=>cs.length
def rowOf (t:Nat):Row:=match t with
 |0=> .one (.int .i64)
 |1=> .one (.int .i64)
 |2=> .one .str
 |3=> .many [.int .u8,.str,.int .i64,.str,.int .i64]
 |4=> .many [.str,.sl 2,.sl 5]
 |5=> .many [.int .u8,.int .u8,.int .i64,.int .i64,.int .i64,.int .i64,.sl 6]
 |6=> .many [.int .u8,.str,.int .i64,.sl 6]
 |7=> .many [.int .i64,.int .i64,.bool,.int .i64,.sl 0,.sl 0]
 |8=> .many [.int .i64,.sl 0,.int .u8,.int .i64,.int .i64,.int .i64]
 |9=> .many [.int .i64,.int .u8,.int .i64,.int .i64,.int .i64]
 |10=> .one (.sl 0)
 |11=> .many [.int .i64,.int .i64,.int .i64]
 |12=> .many [.int .i64,.int .i64]
 |13=> .many [.int .i64,.int .u8,.int .i64,.int .i64,.int .i64]
 |14=> .one (.int .u8)
 |15=> .one (.sl 0)
 |16=> .many [.sl 7,.sl 8]
 |_=> .one .bool
def mapOf (t:Nat):CK×CK:=match t with
 |0=>(.int .i64,.int .i64)
 |1=>(.str,.int .i64)
 |2=>(.int .i64,.sl 0)
 |_=>(.int .i64,.bool)
def wV (c:CK) (d:D):Prop:=match c with
 | .int _=>d= .i d.n
 | .bool=>d= .i 0\/d= .i 1
 |_=>True
def Wh (cs:List CK) (d:D):Prop:=d=dL d.l/\d.l.length=cs.length/\∀(j:Nat) (c:CK) (x:D),cs[j]?=some c->d.l[j]?=some x->wV c x
def wU (r:Row) (d:D):Prop:=match r with
 | .one c=>wV c d
 | .many cs=>Wh cs d
def Dl (r:Row) (d:D):Prop:=d=dL d.l/\(∀x∈d.l,wU r x)/\d.l≠[]
end Go.As
end
section
namespace Go.As
noncomputable section
inductive SE where
 |lit (n:Int)
 |aO (i:Nat)
 |add (a b:SE)
 |sub (a b:SE)
 |mul (a b:SE)
 |quo (a b:SE)
 |rem (a b:SE)
 |wrap (k:IntKind) (a:SE)
 |inp (b:Nat) (e:SE)
 |dat (d:D)
 |op (o:jC) (a b:SE)
 |ap (f:Nat) (a:SE)
 deriving DecidableEq,Inhabited
def kZ (f:Nat) (z:Int):Nat:=1000+uT f (zN z)*64+63
noncomputable def SE.den (ρ:Nat->Int):SE->Int
 | .lit n=>n
 | .aO i=>ρ i
 | .add a b=>a.den ρ+b.den ρ
 | .sub a b=>a.den ρ-b.den ρ
 | .mul a b=>a.den ρ*b.den ρ
 | .quo a b=>(a.den ρ).tdiv (b.den ρ)
 | .rem a b=>(a.den ρ).tmod (b.den ρ)
 | .wrap k a=>k.wrap (a.den ρ)
 | .inp b e=>ρ (1000+(e.den ρ).toNat*64+b)
 | .dat d=>enc d
 | .op o a b=>o.den (a.den ρ) (b.den ρ)
 | .ap f a=>ρ (kZ f (a.den ρ))
def Ce:Int->Int->Bool
 | .ofNat a,.ofNat b=>Nat.beq a b
 | .negSucc a,.negSucc b=>Nat.beq a b
 |_,_=>false
def D.eqb:D->D->Bool
 | .i a,.i b=>Ce a b
 | .p a b,.p c d=>match D.eqb a c with |true=>D.eqb b d|false=>false
 |_,_=>false
theorem DW {a b:Int} (h:Ce a b=true):a=b:=by cases a<;>cases b<;>simp [Ce] at h<;>rw [h]
theorem D.aaT: ∀{a b:D},D.eqb a b=true->a=b
 | .i a,.i b,h=>by simp only [D.eqb] at h; rw [DW h]
 | .p a b,.p c d,h=>by
   simp only [D.eqb] at h;split at h
   ·rename_i h1; rw [D.aaT h1,D.aaT h]
   ·simp at h
 | .i _,.p _ _,h=>by simp [D.eqb] at h
 | .p _ _,.i _,h=>by simp [D.eqb] at h
def iE:SE->SE->Bool
 | .lit a,.lit b=>a == b
 | .aO i,.aO j=>Nat.beq i j
 | .add a b,.add c d=>match iE a c with |true=>iE b d|false=>false
 | .sub a b,.sub c d=>match iE a c with |true=>iE b d|false=>false
 | .mul a b,.mul c d=>match iE a c with |true=>iE b d|false=>false
 | .quo a b,.quo c d=>match iE a c with |true=>iE b d|false=>false
 | .rem a b,.rem c d=>match iE a c with |true=>iE b d|false=>false
 | .wrap k a,.wrap l b=>match iE a b with |true=>decide (k=l)|false=>false
 | .inp i a,.inp j b=>match Nat.beq i j with |true=>iE a b|false=>false
 | .dat a,.dat b=>D.eqb a b
 | .op o a b,.op q c d=>match Nat.beq o.tag q.tag with
   |true=>match iE a c with |true=>iE b d|false=>false
   |false=>false
 | .ap f a,.ap g b=>match Nat.beq f g with |true=>iE a b|false=>false
 |_,_=>false
theorem dD: ∀(a b:SE),iE a b=true->a=b
 | .lit a,b,h=>by cases b<;>simp [iE] at h; rw [h]
 | .aO i,b,h=>by cases b<;>simp [iE] at h; rw [h]
 | .add a b,c,h=>by cases c<;>simp only [iE,aHv] at h; split at h<;>first |(rename_i h1; rw [dD _ _ h1,dD _ _ h]; done)|simp at h
 | .sub a b,c,h=>by cases c<;>simp only [iE,aHv] at h; split at h<;>first |(rename_i h1; rw [dD _ _ h1,dD _ _ h]; done)|simp at h
 | .mul a b,c,h=>by cases c<;>simp only [iE,aHv] at h; split at h<;>first |(rename_i h1; rw [dD _ _ h1,dD _ _ h]; done)|simp at h
 | .quo a b,c,h=>by cases c<;>simp only [iE,aHv] at h; split at h<;>first |(rename_i h1; rw [dD _ _ h1,dD _ _ h]; done)|simp at h
 | .rem a b,c,h=>by cases c<;>simp only [iE,aHv] at h; split at h<;>first |(rename_i h1; rw [dD _ _ h1,dD _ _ h]; done)|simp at h
 | .wrap k a,c,h=>by cases c<;>simp only [iE,aHv] at h; split at h<;>first |(rename_i h1; rw [dD _ _ h1,of_decide_eq_true h]; done)|simp at h
 | .inp i a,c,h=>by cases c<;>simp only [iE,aHv] at h; split at h<;>first |(rename_i h1; rw [aHj h1,dD _ _ h]; done)|simp at h
 | .dat a,c,h=>by cases c<;>simp only [iE,aHv] at h; rw [D.aaT h]
 | .op o a b,c,h=>by
   cases c<;>simp only [iE,aHv] at h;split at h
   ·rename_i h0;split at h
    ·rename_i h1;rw [jC.atN (aHj h0),dD _ _ h1,dD _ _ h]
    ·simp at h
   ·simp at h
 | .ap f a,c,h=>by cases c<;>simp only [iE,aHv] at h; split at h<;>first |(rename_i h1; rw [aHj h1,dD _ _ h]; done)|simp at h
inductive SB where
 |lit (b:Bool)
 |lt (a b:SE)
 |le (a b:SE)
 |eq (a b:SE)
 |not (s:SB)
 |and (a b:SB)
 deriving DecidableEq,Inhabited
noncomputable def SB.den (ρ:Nat->Int):SB->Bool
 | .lit b=>b
 | .lt a b=>decide (a.den ρ<b.den ρ)
 | .le a b=>decide (a.den ρ<=b.den ρ)
 | .eq a b=>a.den ρ == b.den ρ
 | .not s=>!(s.den ρ)
 | .and a b=>a.den ρ&&b.den ρ
def AY (k:IntKind) (n:Int):Int:=
 match k with
 | .i64=>if -9223372036854775808<=n/\n<=9223372036854775807 then n else k.wrap n
 | .u8=>if 0<=n/\n<=255 then n else k.wrap n
 |_=>k.wrap n
inductive YI where
 |exact (c:Nat)
 |rest (es:Nat)
 deriving DecidableEq,Inhabited
inductive AV where
 |bool (b:SB)
 |int (k:IntKind) (e:SE)
 |str (s:List Nat)
 |ptr (id off:Nat)
 |lH
 |rY (cells:List AV)
 |slice (id off len:Nat) (c:YI)
 |aY
 |ro (cells:List AV) (n:Nat) (full:Bool)
 |map (id:Nat)
 |rO
 |func (fn:Fn) (fs cs:List AV)
 |Cb
 |iface (t:Nat) (v:AV)
 |E5
 |agg (cs:List AV)
 |tuple (vs:List AV)
 |opq (i:Nat)
 |inp (k:Nat) (ks:List IntKind)
 |dat (e:SE) (t:Nat)
 |nC (e:SE)
 |sN (id:Nat) (n:SE) (t:Nat)
 |qV (id es:Nat) (i:SE) (off:Nat)
 |emp
 |A8 (id:Nat) (lo n:SE) (t:Nat)
 |any
 |FP (z:SE) (t:Nat)
 deriving Inhabited
def AV.undef:AV:=.tuple []
def AV.cells:AV->List AV
 | .agg cs=>cs
 |v=>[v]
def AV.one:AV->Bool
 | .agg _=>false
 | .tuple _=>false
 | .opq _=>false
 | .any=>false
 |_=>true
inductive eP where
 |cells (cs:List AV) (e:TypeId)
 |map (es:List (AV×AV×Nat)) (clock:Nat)
 |oQ (s:List Nat) (pos:Nat)
 |vec (e:SE) (t:Nat) (ty:TypeId) (ov:List (SE×List AV))
 |jF (e:SE) (t:Nat)
 deriving Inhabited
structure Hp where
 m:Tr eP
 next:Nat
 res:Option Nat:=none
 deriving Inhabited
def Hp.get (h:Hp) (i:Nat):Option eP:=h.m.get i
def Hp.put (h:Hp) (i:Nat) (o:eP):Hp:=⟨h.m.put i (some o),h.next,h.res⟩
def Hp.drop (h:Hp) (i:Nat):Hp:=⟨h.m.put i none,h.next,h.res⟩
def Hp.fresh (h:Hp):Nat:=match h.res with
 |none=>h.next
 |some r=>r
def Hp.new (h:Hp) (o:eP):Hp:=match h.res with
 |none=> ⟨h.m.put h.next (some o),h.next+1,none⟩
 |some r=> ⟨h.m.put r (some o),h.next,none⟩
inductive T (α:Type) where
 |fail
 |ret (a:α)
 |split (c:SB) (t f:T α)
 deriving Inhabited
def T.bind {α β:Type}:T α->(α->T β)->T β
 | .fail,_=> .fail
 | .ret a,f=>f a
 | .split c x y,f=> .split c (x.bind f) (y.bind f)
def T.leaf {α:Type} (ρ:Nat->Int):T α->Option α
 | .fail=>none
 | .ret a=>some a
 | .split c x y=>match c.den ρ with
   |true=>x.leaf ρ
   |false=>y.leaf ρ
inductive TK where
 |bool
 |int (k:IntKind)
 |string
 |pointer (e:Nat)
 |slice (e:Nat)
 |array (n e:Nat)
 |map (k e:Nat)
 |struct (fs:List (Nat×Nat×Nat))
 |func
 |iface (plain:Bool)
 |tuple
 deriving DecidableEq,Inhabited
structure TI where
 kind:TK
 size:Nat
 bytes:Nat
 zero:List AV
 eqs:Bool
 own:Option Nat:=none
 deriving Inhabited
def TK.agg (k:TK):Bool:=match k with | .struct _=>true| .array _ _=>true|_=>false
def TI.agg (i:TI):Bool:=i.kind.agg
abbrev TT:=Nat->Option TI
def bytesOf (s:ByteArray):List Nat:=s.data.toList.map (·.toNat)
def jM:Value->Option AV
 | .bool b=>some (.bool (.lit b))
 | .int k n=>some (.int k (.lit n))
 | .string s=>some (.str (bytesOf s))
 | .pointer none=>some .lH
 | .slice none 0 0=>some .aY
 | .map none=>some .rO
 | .nilFunc=>some .Cb
 | .nilIface=>some .E5
 | .func fn f c=>if f.isEmpty&&c.isEmpty then some (.func fn [] []) else none
 |_=>none
def oL:List Value->Option (List AV)
 |[]=>some []
 |v::vs=>match jM v with
  |none=>none
  |some a=>match oL vs with
   |none=>none
   |some aHb=>some (a::aHb)
def ofConst:Value->Option AV
 | .agg cs=>(oL cs.toList).map .agg
 | .tuple vs=>(oL vs.toList).map .tuple
 |v=>jM v
def BL (a b:SE):SB:=match iE a b with
 |true=> .lit true
 |false=>match a with
  | .dat _=> .eq b a
  |_=> .eq a b
def Rf (x:SE):SE:=match x with
 | .op o a _=>match o with
   | .mk=>a
   |_=> .op .num x (.lit 0)
 | .dat d=>match d with
   | .i n=> .lit n
   |_=> .op .num x (.lit 0)
 |_=> .op .num x (.lit 0)
def II (x:SE):SE:=match x with
 | .lit n=> .dat (.i n)
 |x=> .op .mk x (.lit 0)
def nR (j:Nat) (x:SE):SE:=match x with
 | .op o a b=>match o with
   | .cons=>match j with
     |0=>a
     |j+1=>nR j b
   |_=> .op (.cell j) x (.lit 0)
 |_=> .op (.cell j) x (.lit 0)
def dY (x:SE):SE:=match x with
 | .op o a _=>match o with
   | .set=>dY a
   |_=> .op .len x (.lit 0)
 | .dat d=> .lit (Int.ofNat d.l.length)
 |_=> .op .len x (.lit 0)
def iL (a b:SE):SE:=.op .cons a b
def ZT (x:SE):Bool:=match x with
 | .dat d=>match d with
   | .i n=>Ce n 0
   |_=>false
 |_=>false
def AP (c:CK) (x:SE):AV:=match c with
 | .int k=> .int k (Rf x)
 | .bool=> .bool (.not (.eq (Rf x) (.lit 0)))
 | .str=> .nC x
 | .sl t=> .dat x t
def lU:List CK->Nat->SE->List AV
 |[],_,_=>[]
 |c::cs,j,x=>AP c (nR j x)::lU cs (j+1) x
def jP (r:Row) (x:SE):List AV:=match r with
 | .one c=>[AP c x]
 | .many cs=>lU cs 0 x
def rW (x:SE):SE:=match x with
 | .dat d=> .dat d
 | .op o a b=>match o with
   | .cell j=> .op (.cell j) a b
   | .at=> .op .at a b
   |o=> .op .norm (.op o a b) (.lit 0)
 |x=> .op .norm x (.lit 0)
def AU:AV->Option SE
 | .str l=>some (.dat (oW l))
 | .nC e=>some e
 |_=>none
def strEq (x y:AV):Option SB:=match AU x with
 |none=>none
 |some a=>match AU y with
  |none=>none
  |some b=>some (BL (rW a) (rW b))
def sJ (c:CK) (v:AV):Option SE:=match c with
 | .int k=>match v with
   | .int k' e=>if k=k' then some (II e) else none
   |_=>none
 | .bool=>match v with
   | .bool c=>match c with
     | .lit b=>some (.dat (.i (if b then 1 else 0)))
     | .not d=>match d with
       | .eq x z=>match z with
         | .lit n=>if n=0 then some (.op .bit (II x) (.lit 0)) else none
         |_=>none
       |_=>none
     |_=>none
   |_=>none
 | .str=>AU v
 | .sl t=>match v with
   | .dat e t'=>if t=t' then some e else none
   | .aY=>some (.dat (.i 1))
   | .FP z t'=>if t=t' then some z else none
   | .slice _ _ n _=>match n with
     |0=>some (.dat (.i 2))
     |_=>none
   |_=>none
def codeCells:List CK->List AV->Option SE
 |[],[]=>some (.dat (.i 0))
 |c::cs,v::vs=>match sJ c v with
  |none=>none
  |some a=>match codeCells cs vs with
   |none=>none
   |some b=>some (iL a b)
 |_,_=>none
def codeRow (r:Row) (cs:List AV):Option SE:=match r with
 | .one c=>match cs with
   |[v]=>sJ c v
   |_=>none
 | .many ks=>codeCells ks cs
def pY (r:Row) (e:SE):Nat->List AV->Option SE
 |0,[]=>some e
 |0,_::_=>none
 |m+1,cs=>match codeRow r (cs.take r.es) with
  |none=>none
  |some x=>pY r (.op .snoc e x) m (cs.drop r.es)
structure St where
 slots:Tr AV
 h:Hp
 pc:List (SB×Bool)
 deriving Inhabited
def St.set (s:St) (t:Nat) (v:AV):St:={ s with slots:=s.slots.put t (some v) }
def St.WW (s:St) (d:Option Nat) (v:AV):St:=match d with |some t=>s.set t v|none=>s
def ev (s:St):Operand->Option AV
 | .tmp t=>s.slots.get t
 | .const v=>ofConst v
 | .func f=>some (.func (.func f) [] [])
 | .global _=>none
def evs (s:St):List Operand->Option (List AV)
 |[]=>some []
 |x::xs=>match ev s x with
  |none=>none
  |some a=>match evs s xs with
   |none=>none
   |some aHb=>some (a::aHb)
def uO:SB->SB->Bool
 | .lit a,.lit b=>a == b
 | .lt a b,.lt c d=>match iE a c with |true=>iE b d|false=>false
 | .le a b,.le c d=>match iE a c with |true=>iE b d|false=>false
 | .eq a b,.eq c d=>match iE a c with |true=>iE b d|false=>false
 | .not a,.not b=>uO a b
 | .and a b,.and c d=>match uO a c with |true=>uO b d|false=>false
 |_,_=>false
theorem yK: ∀(a b:SB),uO a b=true->a=b
 | .lit a,b,h=>by cases b<;>simp [uO] at h; rw [h]
 | .lt a b,c,h=>by cases c<;>simp only [uO,aHv] at h; split at h<;>first |(rename_i h1; rw [dD _ _ h1,dD _ _ h]; done)|simp at h
 | .le a b,c,h=>by cases c<;>simp only [uO,aHv] at h; split at h<;>first |(rename_i h1; rw [dD _ _ h1,dD _ _ h]; done)|simp at h
 | .eq a b,c,h=>by cases c<;>simp only [uO,aHv] at h; split at h<;>first |(rename_i h1; rw [dD _ _ h1,dD _ _ h]; done)|simp at h
 | .not a,c,h=>by cases c<;>simp only [uO,aHv] at h; rw [yK _ _ h]
 | .and a b,c,h=>by cases c<;>simp only [uO,aHv] at h; split at h<;>first |(rename_i h1; rw [yK _ _ h1,yK _ _ h]; done)|simp at h
def sD (c:SB):List (SB×Bool)->Option Bool
 |[]=>none
 |(d,b)::l=>match uO c d with
  |true=>some b
  |false=>sD c l
def anC (a:Option Int) (z:Int):Option Int:=match a with
 |none=>some z
 |some y=>some (if y<z then z else y)
def anB (a:Option Int) (z:Int):Option Int:=match a with
 |none=>some z
 |some y=>some (if z<y then z else y)
def amP (a:Option Int) (z:Int):Option Int:=match a with
 |none=>none
 |some y=>some (if y=z then z+1 else y)
def amR (a:Option Int) (z:Int):Option Int:=match a with
 |none=>none
 |some y=>some (if y=z then z-1 else y)
def agB (e:SE):Option Int×Option Int:=match e with
 | .rem a c=>match c with
   | .lit k=>match a with
     | .add b d=>match d with
       | .lit m=>match b with
         | .rem _ f=>match f with
           | .lit n=>if 0<n/\n=m/\m=k then (some 0,some (n-1)) else (none,none)
           |_=>(none,none)
         |_=>(none,none)
       |_=>(none,none)
     |_=>(none,none)
   |_=>(none,none)
 | .op o _ _=>match o with
   | .len=>(some 0,none)
   |_=>(none,none)
 |_=>(none,none)
def bounds (e:SE):List (SB×Bool)->Option Int×Option Int
 |[]=>agB e
 |(c,v)::l=>match c with
  | .lt x y=>match x with
    | .lit z=>match iE y e with
      |false=>bounds e l
      |true=>match bounds e l with
       |(lo,hi)=>match v with
        |true=>(anC lo (z+1),hi)
        |false=>(lo,anB hi z)
    |x=>match y with
     | .lit z=>match iE x e with
       |false=>bounds e l
       |true=>match bounds e l with
        |(lo,hi)=>match v with
         |true=>(lo,anB hi (z-1))
         |false=>(anC lo z,hi)
     |_=>bounds e l
  | .eq x y=>match y with
    | .lit z=>match v with
      |false=>match iE x e with
       |false=>bounds e l
       |true=>match bounds e l with
        |(lo,hi)=>(amP lo z,amR hi z)
      |true=>match iE x e with
       |false=>bounds e l
       |true=>(some z,some z)
    |_=>bounds e l
  |_=>bounds e l
def vH (e:SE) (pc:List (SB×Bool)):Option Int×Option Int:=match e with
 | .wrap k s=>match k with
   | .i64=>match s with
     | .add b d=>match d with
       | .lit c=>match bounds b pc with
         |(some lo,some hi)=>if -9223372036854775808<=lo+c/\hi+c<=9223372036854775807 then (match bounds e pc with
          |(l2,h2)=>(anC l2 (lo+c),anB h2 (hi+c))) else bounds e pc
         |_=>bounds e pc
       |_=>bounds e pc
     |_=>bounds e pc
   |_=>bounds e pc
 |_=>bounds e pc
def adX (a b:SE) (pc:List (SB×Bool)):Option Bool:=match sD (.eq a b) pc with
 |some v=>some v
 |none=>sD (.eq b a) pc
def decLt (pc:List (SB×Bool)) (a b:SE):Option Bool:=match sD (.lt a b) pc with
 |some v=>some v
 |none=>match a with
  | .lit z=>match vH b pc with
    |(lo,hi)=>match lo with
     |some l=>if z<l then some true else match hi with
      |some h=>if h<=z then some false else none
      |none=>none
     |none=>match hi with
      |some h=>if h<=z then some false else none
      |none=>none
  |a=>match b with
   | .lit z=>match vH a pc with
     |(lo,hi)=>match hi with
      |some h=>if h<z then some true else match lo with
       |some l=>if z<=l then some false else none
       |none=>none
      |none=>match lo with
       |some l=>if z<=l then some false else none
       |none=>none
   |b=>match adX a b pc with
    |some true=>some false
    |some false=>match sD (.lt b a) pc with
     |some v=>some !v
     |none=>none
    |none=>match sD (.lt b a) pc with
     |some true=>some false
     |_=>none
def decEq (pc:List (SB×Bool)) (a b:SE):Option Bool:=match adX a b pc with
 |some v=>some v
 |none=>match b with
  | .lit z=>match vH a pc with
    |(lo,hi)=>match lo with
     |some l=>if z<l then some false else match hi with
      |some h=>if h<z then some false else if l=z/\h=z then some true else none
      |none=>none
     |none=>match hi with
      |some h=>if h<z then some false else none
      |none=>none
  |b=>match sD (.lt a b) pc with
   |some true=>some false
   |some false=>match sD (.lt b a) pc with
    |some v=>some !v
    |none=>none
   |none=>match sD (.lt b a) pc with
    |some true=>some false
    |_=>none
def LK (pc:List (SB×Bool)) (c:SB):Option Bool:=
 match c with
 | .lit b=>some b
 | .lt a b=>decLt pc a b
 | .eq a b=>decEq pc a b
 |c=>sD c pc
def nI (pc:List (SB×Bool)) (c:SB):Option Bool:=
 match c with
 | .not s=>(LK pc s).map (!·)
 |c=>LK pc c
def pV {α:Type} (s:St) (c:SB) (f:St->Bool->T α):T α:=
 match nI s.pc c with
 |some b=>f s b
 |none=>match c with
  | .not d=> .split d (f { s with pc:=(d,true)::s.pc } false) (f { s with pc:=(d,false)::s.pc } true)
  |c=> .split c (f { s with pc:=(c,true)::s.pc } true) (f { s with pc:=(c,false)::s.pc } false)
def alY (k:IntKind):SE->SE->SE
 | .lit x,.lit y=> .lit (AY k (x+y))
 |a,b=> .wrap k (.add a b)
def adH (k:IntKind):SE->SE->SE
 | .lit x,.lit y=> .lit (AY k (x-y))
 |a,b=> .wrap k (.sub a b)
def alX (k:IntKind):SE->SE->SE
 | .lit x,.lit y=> .lit (AY k (x*y))
 |a,b=> .wrap k (.mul a b)
def kM:SE->SE->SB
 | .lit x,.lit y=> .lit (decide (x<y))
 |a,b=> .lt a b
def auL:SE->SE->SB
 | .lit x,.lit y=> .lit (decide (x<=y))
 |a,b=> .not (.lt b a)
def BM:SE->SE->SB
 | .lit x,.lit y=> .lit (x == y)
 | .lit x,b=> .eq b (.lit x)
 |a,b=>match iE a b with
  |true=> .lit true
  |false=> .eq a b
def Et:SB->SB
 | .lit b=> .lit !b
 | .not s=>s
 |s=> .not s
def amA:SB->SB->SB
 | .lit true,b=>b
 | .lit false,_=> .lit false
 |a,.lit true=>a
 |_,.lit false=> .lit false
 |a,b=> .and a b
def bytesLess:List Nat->List Nat->Bool
 |_,[]=>false
 |[],_::_=>true
 |a::x,b::y=>if a.blt b then true else if a.beq b then bytesLess x y else false
def jT:List Nat->List Nat->Bool
 |[],[]=>true
 |a::x,b::y=>if a.beq b then jT x y else false
 |_,_=>false
def WT (op:BinOp) (x y:List Nat):Option AV:=
 match op with
 | .add=>if x.length+y.length<=1000000 then some (.str (x++y)) else none
 | .eql=>some (.bool (.lit (jT x y)))
 | .neq=>some (.bool (.lit !(jT x y)))
 | .lss=>some (.bool (.lit (bytesLess x y)))
 | .leq=>some (.bool (.lit (bytesLess x y||jT x y)))
 | .gtr=>some (.bool (.lit !(bytesLess x y||jT x y)))
 | .geq=>some (.bool (.lit !(bytesLess x y)))
 |_=>none
def aeJ (op:BinOp) (k:IntKind) (a b:SE):Option AV:=
 match op with
 | .add=>some (.int k (alY k a b))
 | .sub=>some (.int k (adH k a b))
 | .mul=>some (.int k (alX k a b))
 | .quo=>match a,b with
   | .lit x,.lit y=>if y=0 then none else some (.int k (.lit (AY k (x.tdiv y))))
   |a,.lit y=>if y=0 then none else some (.int k (.wrap k (.quo a (.lit y))))
   |_,_=>none
 | .rem=>match a,b with
   | .lit x,.lit y=>if y=0 then none else some (.int k (.lit (x.tmod y)))
   |a,.lit y=>if y=0 then none else some (.int k (.rem a (.lit y)))
   |_,_=>none
 | .shr=>match a,b with
   | .lit x,.lit y=>if y<0 then none else some (.int k (.lit (x.fdiv (2 ^ (min y.toNat k.bits)))))
   |_,_=>none
 | .eql=>some (.bool (BM a b))
 | .neq=>some (.bool (Et (BM a b)))
 | .lss=>some (.bool (kM a b))
 | .leq=>some (.bool (auL a b))
 | .gtr=>some (.bool (kM b a))
 | .geq=>some (.bool (auL b a))
 |_=>none
def iH {α:Type}:List α->Nat->Option α
 |[],_=>none
 |x::_,0=>some x
 |_::xs,n+1=>iH xs n
def LG (a b:SB):Option SB:=
 match a,b with
 | .lit x,.lit y=>some (.lit (x == y))
 | .lit x,b=>some (if x then b else Et b)
 |a,.lit y=>some (if y then a else Et a)
 |a,b=>some (.not (.and (.not (.and a b)) (.not (.and (.not a) (.not b)))))
def aaU (k:TK) (x y:AV):Option SB:=
 match k with
 | .int _=>match x,y with
   | .int k a,.int k' b=>if k=k' then some (BM a b) else none
   |_,_=>none
 | .string=>match x,y with
   | .str a,.str b=>some (.lit (jT a b))
   |x,y=>strEq x y
 | .bool=>match x,y with
   | .bool a,.bool b=>LG a b
   |_,_=>none
 |_=>none
def apB (tt:TT) (xs ys:List AV):List (Nat×Nat×Nat)->Option SB
 |[]=>some (.lit true)
 |(off,ft,_)::fs=>match tt ft with
  |none=>none
  |some i=>match iH xs off,iH ys off with
   |some x,some y=>match aaU i.kind x y with
    |none=>none
    |some c=>match apB tt xs ys fs with
     |none=>none
     |some d=>some (amA c d)
   |_,_=>none
def LC (tt:TT) (t:Nat) (xs ys:List AV):Option SB:=
 match tt t with
 |none=>none
 |some i=>match i.kind with
  | .struct fs=>if i.eqs then apB tt xs ys fs else none
  |_=>none
def nY:AV->Option Int
 | .int _ (.lit n)=>some n
 |_=>none
def isNil (k:TK) (x:AV):Option Bool:=
 match k with
 | .slice _=>match x with
   | .aY=>some true
   | .slice _ _ _ _=>some false
   | .ro _ _ _=>some false
   | .sN _ _ _=>some false
   |_=>none
 | .pointer _=>match x with
   | .lH=>some true
   | .ptr _ _=>some false
   | .rY _=>some false
   |_=>none
 | .map _ _=>match x with
   | .rO=>some true
   | .map _=>some false
   |_=>none
 |_=>none
def aC4 (k:TK) (x y:AV):Option SB:=
 match k with
 | .bool=>match x,y with
   | .bool a,.bool b=>LG a b
   |_,_=>none
 |k=>match isNil k x,isNil k y with
  |some true,some b=>some (.lit b)
  |some false,some true=>some (.lit false)
  |_,_=>none
def Ut (op:BinOp) (c:Option SB):Option AV:=match c with
 |none=>none
 |some c=>match op with
  | .eql=>some (.bool c)
  | .neq=>some (.bool (.not c))
  |_=>none
def aoZ (tt:TT) (t:Nat) (op:BinOp) (x y:AV):Option AV:=
 match x with
 | .int k a=>match y with
   | .int k' b=>match op with
     | .shr=>aeJ op k a b
     | .shl=>none
     |_=>if k=k' then aeJ op k a b else none
   |_=>none
 | .str a=>match y with
   | .str b=>WT op a b
   | .nC e=>Ut op (strEq (.str a) (.nC e))
   |_=>none
 | .nC e=>Ut op (strEq (.nC e) y)
 |_=>match tt t with
  |none=>none
  |some i=>match op,aC4 i.kind x y with
   | .eql,some c=>some (.bool c)
   | .neq,some c=>some (.bool (Et c))
   |_,_=>none
def aC2 (op:UnOp) (x:AV):Option AV:=
 match op,x with
 | .not,.bool b=>some (.bool (Et b))
 | .neg,.int k e=>some (.int k (adH k (.lit 0) e))
 |_,_=>none
def kR {α:Type}:Nat->List α->Option (List α)
 |0,_=>some []
 |_+1,[]=>none
 |n+1,x::xs=>match kR n xs with
  |some l=>some (x::l)
  |none=>none
def fZ {α:Type}:Nat->List α->Option (List α)
 |0,l=>some l
 |_+1,[]=>none
 |n+1,_::xs=>fZ n xs
def splice:List AV->Nat->List AV->Option (List AV)
 |cs,0,[]=>some cs
 |[],0,_::_=>none
 |_::cs,0,v::vs=>match splice cs 0 vs with
  |some l=>some (v::l)
  |none=>none
 |[],_+1,_=>none
 |c::cs,n+1,vs=>match splice cs n vs with
  |some l=>some (c::l)
  |none=>none
def yA:List AV->Bool
 |[]=>true
 |v::vs=>v.one&&yA vs
def rD (h:Hp) (p:AV) (n:Nat):Option (List AV):=
 match p with
 | .ptr id off=>match h.get id with
   |some (.cells cs _)=>match fZ off cs with
    |some l=>kR n l
    |none=>none
   |_=>none
 | .rY cs=>kR n cs
 |_=>none
def Jl (tt:TT) (t:Nat) (p:AV) (h:Hp):Option AV:=
 match tt t with
 |none=>none
 |some i=>match i.agg with
  |true=>(rD h p i.size).map .agg
  |false=>match rD h p 1 with
   |some (v::_)=>some v
   |_=>none
def Vh (tt:TT) (t:Nat) (p v:AV) (h:Hp):Option Hp:=
 match tt t with
 |none=>none
 |some i=>
  if v.cells.length=i.size&&yA v.cells then
   match p with
   | .ptr id off=>match h.get id with
     |some (.cells cs e)=>match splice cs off v.cells with
      |some cs'=>some (h.put id (.cells cs' e))
      |none=>none
     |_=>none
   |_=>none
  else none
def Ak (place:Nat->Option (Nat×Nat)) (cs:List AV):List (Nat×AV)->Option (List AV)
 |[]=>some cs
 |(i,v)::rest=>match place i with
  |none=>none
  |some (off,size)=>
   if v.cells.length=size&&yA v.cells then
    match splice cs off v.cells with
    |some cs'=>Ak place cs' rest
    |none=>none
   else none
def kS (tt:TT) (t:Nat):Option Nat:=(tt t).map (·.size)
def Vz (tt:TT) (t:Nat) (parts:List (Nat×AV)):Option AV:=
 match tt t with
 |some i=>match i.kind with
  | .struct fs=>(Ak (fun j=>(iH fs j).map fun f=>(f.1,f.2.2)) i.zero parts).map .agg
  | .array _ e=>match kS tt e with
    |some s=>(Ak (fun j=>some (j*s,s)) i.zero parts).map .agg
    |none=>none
  |_=>none
 |none=>none
def repeatL {α:Type} (l:List α):Nat->List α
 |0=>[]
 |n+1=>l++repeatL l n
def Ap (tt:TT) (t len:Nat) (parts:List (Nat×AV)) (h:Hp):Option (AV×Hp):=
 match tt t with
 |some i=>match i.kind with
  | .slice e=>match tt e with
    |some ie=>
     if len<=1000/\ie.size<=1000/\ie.zero.length=ie.size then
      match Ak (fun j=>some (j*ie.size,ie.size)) (repeatL ie.zero len) parts with
      |some cs=>some (.slice h.fresh 0 len (.exact len),h.new (.cells cs e))
      |none=>none
     else none
    |none=>none
  |_=>none
 |none=>none
def xJ (tt:TT) (t:Nat) (l c:AV) (h:Hp):Option (AV×Hp):=
 match nY l with
 |some (.ofNat n)=>match nY c with
  |some (.ofNat m)=>match tt t with
   |some i=>match i.kind with
    | .slice e=>match tt e with
      |some ie=>
       if n<=m/\m<=1000/\ie.size<=1000/\ie.bytes<=1000000/\ie.zero.length=ie.size then
        some (.slice h.fresh 0 n (.exact m),h.new (.cells (repeatL ie.zero m) e))
       else none
      |none=>none
    |_=>none
   |none=>none
  |_=>none
 |_=>none
def adU (off:Nat) (x:AV):Option AV:=match x with
 | .ptr id o=>some (.ptr id (o+off))
 | .qV id es i o=>some (.qV id es i (o+off))
 | .rY cs=>(fZ off cs).map .rY
 |_=>none
def partOf (i:TI) (l:List AV):Option AV:=match i.agg with
 |true=>(kR i.size l).map .agg
 |false=>match l with
  |v::_=>some v
  |[]=>none
def CQ (tt:TT) (t:Nat) (p:AV) (f:Nat):Option AV:=
 match tt t with
 |some i=>match i.kind with
  | .struct fs=>match iH fs f with
    |some (off,_,size)=>match size with
     |0=>none
     |_=>adU off p
    |none=>none
  |_=>none
 |none=>none
def Vr (tt:TT) (t:Nat) (x:AV) (f:Nat):Option AV:=
 match tt t with
 |some i=>match i.kind with
  | .struct fs=>match iH fs f with
    |some (off,ft,_)=>match tt ft,x with
     |some fi,.agg cs=>match fZ off cs with
      |some l=>partOf fi l
      |none=>none
     |_,_=>none
    |none=>none
  |_=>none
 |none=>none
def uH (tt:TT) (t:Nat) (x ix:AV):Option AV:=
 match nY ix with
 |some (.ofNat i)=>match tt t with
  |some ti=>match ti.kind with
   | .array n e=>if i<n then match kS tt e with
    |some s=>adU (i*s) x
    |none=>none
    else none
   | .slice e=>match kS tt e with
     |some s=>match x with
      | .slice id o len _=>if i<len then some (.ptr id (o+i*s)) else none
      | .ro cs n _=>if i<n then (fZ (i*s) cs).map .rY else none
      |_=>none
     |none=>none
   |_=>none
  |none=>none
 |_=>none
def Ci (k:Nat) (e:SE):List IntKind->Nat->List AV
 |[],_=>[]
 |kd::ks,j=> .int kd (.inp (k*8+j) e)::Ci k e ks (j+1)
def Vp (tt:TT) (pc:List (SB×Bool)) (t k:Nat) (ks:List IntKind) (ix:AV):Option AV:=
 match ix with
 | .int _ e=>match tt t with
   |some ti=>match ti.kind with
    | .slice el=>match kS tt el with
      |some s=>if s=ks.length/\k<8/\s<=8 then match nI pc (kM e (.lit 0)),nI pc (kM e (.aO (900+k))) with
       |some false,some true=>some (.rY (Ci k e ks 0))
       |_,_=>none
       else none
      |none=>none
    |_=>none
   |none=>none
 |_=>none
def G7 (tt:TT) (t:Nat) (x ix:AV):Option AV:=
 match nY ix with
 |some (.ofNat i)=>match tt t with
  |some ti=>match ti.kind,x with
   | .string,.str s=>(iH s i).map fun b=> .int .u8 (.lit (Int.ofNat b))
   | .array n e,.agg cs=>if i<n then match tt e with
    |some ie=>match fZ (i*ie.size) cs with
     |some l=>partOf ie l
     |none=>none
    |none=>none
    else none
   |_,_=>none
  |none=>none
 |_=>none
def bnd (x:Option AV) (d:Nat) (y:Nat):Option Nat:=
 match x with
 |none=>if d<=y then some d else none
 |some v=>match nY v with
  |some (.ofNat i)=>if i<=y then some i else none
  |_=>none
def Vj (tt:TT) (t:Nat) (x:AV) (lo hi mx:Option AV):Option AV:=
 match tt t with
 |none=>none
 |some ti=>match ti.kind with
  | .string=>match x,mx with
    | .str s,none=>match bnd hi s.length s.length with
      |some h=>match bnd lo 0 h with
       |some l=>some (.str ((s.take h).drop l))
       |none=>none
      |none=>none
    |_,_=>none
  | .slice e=>match kS tt e with
    |none=>none
    |some s=>match x with
     | .aY=>if mx.isSome&&hi.isNone then none else match bnd hi 0 0,bnd lo 0 0,bnd mx 0 0 with
       |some _,some _,some _=>some .aY
       |_,_,_=>none
     | .slice id o len (.exact c)=>if mx.isSome&&hi.isNone then none else match bnd mx c c with
       |none=>none
       |some m=>match bnd hi len m with
        |none=>none
        |some h=>match bnd lo 0 h with
         |none=>none
         |some l=>some (.slice id (o+l*s) (h-l) (.exact (m-l)))
     | .slice id o len (.rest es)=>match mx with
       |none=>match bnd hi len len with
        |none=>none
        |some h=>match bnd lo 0 h with
         |none=>none
         |some l=>if es=s then some (.slice id (o+l*s) (h-l) (.rest es)) else none
       |some _=>match hi,bnd mx 0 len with
        |none,_=>none
        |_,none=>none
        |some _,some m=>match bnd hi 0 m with
         |none=>none
         |some h=>match bnd lo 0 h with
          |none=>none
          |some l=>some (.slice id (o+l*s) (h-l) (.exact (m-l)))
     | .ro cs n full=>match mx with
       |none=>match bnd hi n n with
        |none=>none
        |some h=>match bnd lo 0 h with
         |none=>none
         |some l=>match fZ (l*s) cs with
          |none=>none
          |some d=>match kR ((h-l)*s) d with
           |none=>none
           |some d'=>some (.ro d' (h-l) (full&&h == n))
       |some _=>match hi,bnd mx 0 n with
        |none,_=>none
        |_,none=>none
        |some _,some m=>match bnd hi 0 m with
         |none=>none
         |some h=>match bnd lo 0 h with
          |none=>none
          |some l=>match fZ (l*s) cs with
           |none=>none
           |some d=>match kR ((h-l)*s) d with
            |none=>none
            |some d'=>some (.ro d' (h-l) (h == m))
     |_=>none
  | .array n e=>match kS tt e with
    |none=>none
    |some s=>match x with
     | .ptr id o=>if mx.isSome&&hi.isNone then none else match bnd mx n n with
       |none=>none
       |some m=>match bnd hi n m with
        |none=>none
        |some h=>match bnd lo 0 h with
         |none=>none
         |some l=>some (.slice id (o+l*s) (h-l) (.exact (m-l)))
     |_=>none
  |_=>none
def OC (tt:TT) (t:Nat) (x:AV) (lo hi mx:Option AV) (h:Hp):Option AV:=
 match mx with
 |some _=>none
 |none=>match tt t with
  |none=>none
  |some ti=>match ti.kind with
   | .slice e=>match kS tt e with
     |none=>none
     |some s=>match x with
      | .slice id o len (.rest es)=>if es=s/\0<s then match h.get id with
       |some (.cells cs _)=>match bnd hi len ((cs.length-o) / s) with
        |none=>none
        |some hh=>match bnd lo 0 hh with
         |none=>none
         |some l=>some (.slice id (o+l*s) (hh-l) (.rest es))
       |_=>none
       else none
      |_=>none
   |_=>none
def CY:List AV->Option (List Nat)
 |[]=>some []
 | .int .u8 (.lit (.ofNat b))::xs=>if b<256 then match CY xs with
  |some l=>some (b::l)
  |none=>none
  else none
 |_::_=>none
def vN (tt:TT) (sT dT:Nat) (x:AV) (h:Hp):Option (AV×Hp):=
 match tt sT with
 |none=>none
 |some j=>match tt dT with
 |some i=>match i.kind with
  | .int k=>match x with
    | .int _ (.lit n)=>some (.int k (.lit (AY k n)),h)
    | .int _ e=>some (.int k (.wrap k e),h)
    |_=>none
  | .string=>match j.kind with
   | .string=>match x with
     | .str s=>some (.str s,h)
     |_=>none
   | .slice e=>match tt e with
     |none=>none
     |some ie=>if ie.kind= .int .u8/\ie.size=1 then match x with
      | .aY=>some (.str [],h)
      | .slice id o len _=>match rD h (.ptr id o) len with
        |some cs=>(CY cs).map fun l=>(.str l,h)
        |none=>none
      |_=>none
      else none
   |_=>none
  | .slice e=>match tt e with
    |none=>none
    |some ie=>if ie.kind= .int .u8/\j.kind= .string then match x with
     | .str s=>some (.slice h.fresh 0 s.length (.rest 1),h.new (.cells (s.map fun c=> .int .u8 (.lit (Int.ofNat c))) e))
     |_=>none
     else none
  |_=>none
 |none=>none
def aeE (pc:List (SB×Bool)) (kk:TK) (a b:AV):Option Bool:=
 match kk with
 | .int _=>match a,b with
   | .int k x,.int k' y=>if k=k' then nI pc (BM x y) else none
   |_,_=>none
 | .string=>match a,b with
   | .str x,.str y=>some (jT x y)
   |x,y=>match strEq x y with
    |some c=>nI pc c
    |none=>none
 | .bool=>match a,b with
   | .bool (.lit x),.bool (.lit y)=>some (x == y)
   |_,_=>none
 |_=>none
def JY (pc:List (SB×Bool)) (kk:TK) (k:AV):List (AV×AV×Nat)->Nat->Option (Option (Nat×AV))
 |[],_=>some none
 |(k',v,_)::es,i=>match aeE pc kk k k' with
  |some true=>some (some (i,v))
  |some false=>JY pc kk k es (i+1)
  |none=>none
def yJ (k v:AV):List (AV×AV×Nat)->Nat->List (AV×AV×Nat)
 |[],_=>[]
 |(_,_,b)::es,0=>(k,v,b)::es
 |e::es,n+1=>e::yJ k v es n
def wI {α:Type}:List α->Nat->List α
 |[],_=>[]
 |_::xs,0=>xs
 |x::xs,n+1=>x::wI xs n
def DU (tt:TT) (t:Nat):Option TK:=match tt t with
 |some i=>match i.kind with
  | .int k=>some (.int k)
  | .string=>some .string
  | .bool=>some .bool
  |_=>none
 |none=>none
def zeroOf (i:TI):Option AV:=
 match i.agg with
 |true=>some (.agg i.zero)
 |false=>match i.zero with
  |[v]=>some v
  |_=>none
def UN (m:AV) (h:Hp):Option (List (AV×AV×Nat)):=match m with
 | .rO=>some []
 | .map id=>match h.get id with
   |some (.map es _)=>some es
   |_=>none
 |_=>none
def OG (tt:TT) (pc:List (SB×Bool)) (t:Nat) (m k:AV) (ok:Bool) (h:Hp):Option AV:=
 match tt t with
 |some ti=>match ti.kind with
  | .map kt et=>
    match DU tt kt with
    |none=>none
    |some kk=>
     match tt et with
     |none=>none
     |some ie=>
      match UN m h with
      |none=>none
      |some es=>match JY pc kk k es 0 with
       |none=>none
       |some (some (_,v))=>some (if ok then .tuple [v,.bool (.lit true)] else v)
       |some none=>match zeroOf ie with
        |none=>none
        |some z=>some (if ok then .tuple [z,.bool (.lit false)] else z)
  |_=>none
 |none=>none
def xI (tt:TT) (pc:List (SB×Bool)) (t:Nat) (m k v:AV) (h:Hp):Option Hp:=
 match tt t with
 |some ti=>match ti.kind with
  | .map kt _=>
    match DU tt kt with
    |none=>none
    |some kk=>match m with
     | .map id=>match h.get id with
       |some (.map es c)=>match JY pc kk k es 0 with
        |none=>none
        |some (some (i,_))=>some (h.put id (.map (yJ k v es i) c))
        |some none=>some (h.put id (.map (es++ [(k,v,c)]) (c+1)))
       |_=>none
     |_=>none
  |_=>none
 |none=>none
def OJ (tt:TT) (pc:List (SB×Bool)) (t:Nat) (m k:AV) (h:Hp):Option Hp:=
 match tt t with
 |some ti=>match ti.kind with
  | .map kt _=>
    match DU tt kt with
    |none=>none
    |some kk=>match m with
     | .rO=>some h
     | .map id=>match h.get id with
       |some (.map es c)=>match JY pc kk k es 0 with
        |none=>none
        |some (some (i,_))=>some (h.put id (.map (wI es i) c))
        |some none=>some (h.put id (.map es c))
       |_=>none
     |_=>none
  |_=>none
 |none=>none
def aoX (tt:TT) (t:Nat) (x:AV) (h:Hp):Option AV:=
 let n (k:Nat):Option AV:=some (.int .i64 (.lit (Int.ofNat k)))
 match tt t with
 |some ti=>match ti.kind with
  | .string=>match x with
    | .str s=>n s.length
    | .nC e=>some (.int .i64 (dY e))
    |_=>none
  | .slice _=>match x with
    | .aY=>n 0
    | .emp=>n 0
    | .FP _ _=>n 0
    | .slice _ _ len _=>n len
    | .ro _ k _=>n k
    | .dat e _=>some (.int .i64 (dY e))
    | .sN _ e _=>some (.int .i64 e)
    | .A8 _ _ e _=>some (.int .i64 e)
    | .inp k _=>some (.int .i64 (.aO (900+k)))
    |_=>none
  | .array k _=>n k
  | .map _ _=>match x with
    | .rO=>n 0
    | .map id=>match h.get id with
      |some (.map es _)=>n es.length
      |some (.jF e _)=>some (.int .i64 (dY e))
      |_=>none
    |_=>none
  |_=>none
 |none=>none
def yG (s:Nat) (x:AV) (h:Hp):Option (Nat×List AV):=
 match x with
 | .aY=>some (0,[])
 | .slice id o len _=>(rD h (.ptr id o) (len*s)).map fun l=>(len,l)
 | .ro cs n _=>(kR (n*s) cs).map fun l=>(n,l)
 | .str b=>if s=1 then some (b.length,b.map fun c=> .int .u8 (.lit (Int.ofNat c))) else none
 |_=>none
def sF (ie:TI) (e len m:Nat) (cs:List AV) (h:Hp):Option (AV×Hp):=
 if (len+m)*ie.bytes<=140737488355328 then some (.slice h.fresh 0 (len+m) (.rest ie.size),h.new (.cells cs e)) else none
def wR (ie:TI) (e m:Nat) (news:List AV) (x:AV) (h:Hp):Option (AV×Hp):=
 match x with
 | .aY=>if m=0 then some (.aY,h) else sF ie e 0 m news h
 | .slice id o len (.exact c)=>
   if len+m<=c then
    match h.get id with
    |some (.cells cs e')=>match splice cs (o+len*ie.size) news with
     |some cs'=>some (.slice id o (len+m) (.exact c),h.put id (.cells cs' e'))
     |none=>none
    |_=>none
   else match rD h (.ptr id o) (len*ie.size) with
    |some old=>sF ie e len m (old++news) h
    |none=>none
 | .slice id o len (.rest es)=>
   if es=ie.size then
    match h.get id with
    |some (.cells cs e')=>
     if o+(len+m)*ie.size<=cs.length then
      match splice cs (o+len*ie.size) news with
      |some cs'=>some (.slice id o (len+m) (.rest es),h.put id (.cells cs' e'))
      |none=>none
     else if o+len*ie.size=cs.length/\e'=e then
      match fZ o cs with
      |some old=>sF ie e len m (old++news) (h.drop id)
      |none=>none
     else none
    |_=>none
   else none
 | .ro cs n full=>
   if m=0 then some (.ro cs n full,h)
   else if full then match kR (n*ie.size) cs with
    |some old=>sF ie e n m (old++news) h
    |none=>none
   else none
 |_=>none
def OL (tt:TT) (t t2:Nat) (x y:AV) (h:Hp):Option (AV×Hp):=
 match tt t with
 |some ti=>match ti.kind with
  | .slice e=>match tt e with
    |some ie=>match tt t2 with
     |none=>none
     |some ti2=>match ti2.kind with
      | .int _=>none
      |_=>
       if ie.size=0\/ie.bytes=0\/¬ie.zero.length=ie.size then none else
       match yG ie.size y h with
       |none=>none
       |some (m,news)=>wR ie e m news x h
    |none=>none
  |_=>none
 |none=>none
def Vw (tt:TT) (t:Nat) (x:AV) (h:Hp):Option Hp:=
 match tt t with
 |some ti=>match ti.kind with
  | .slice e=>match tt e with
    |some ie=>match x with
     | .aY=>some h
     | .FP _ _=>some h
     | .slice id o len _=>match len with
       |0=>some h
       |_=>match ie.zero with
        |[]=>none
        |_=>match h.get id with
         |some (.cells cs e')=>match splice cs o (repeatL ie.zero len) with
          |some cs'=>some (h.put id (.cells cs' e'))
          |none=>none
         |_=>none
     |_=>none
    |none=>none
  |_=>none
 |none=>none
def Vk (tt:TT) (t:Nat) (x:AV) (h:Hp):Option (AV×Hp):=
 match tt t with
 |some ti=>match ti.kind with
  | .string=>match x with
    | .str b=>some (.ptr h.fresh 0,h.new (.oQ b 0))
    |_=>none
  |_=>none
 |none=>none
def aaG (x:AV) (isS:Bool) (h:Hp):Option (AV×Hp):=
 match isS with
 |false=>none
 |true=>match x with
  | .ptr id 0=>match h.get id with
    |some (.oQ b p)=>match iH b p with
     |none=>some (.tuple [.bool (.lit false)],h)
     |some c=>if c<128 then some (.tuple [.bool (.lit true),.int .i64 (.lit (Int.ofNat p)),.int .i32 (.lit (Int.ofNat c))],h.put id (.oQ b (p+1))) else none
    |_=>none
  |_=>none
def Ai (mx:Bool):List AV->SE->IntKind->St->T (AV×St)
 |[],a,k,s=> .ret (.int k a,s)
 | .int _ b::xs,a,k,s=>pV s (if mx then kM a b else kM b a) fun s c=>if c then Ai mx xs b k s else Ai mx xs a k s
 |_,_,_,_=> .fail
def aBD (s:St) (k:IntKind) (e d:SE):T (AV×St):=pV s (BM d (.lit 0)) fun s c=>match c with
 |true=> .fail
 |false=> .ret (.int k (.rem e d),s)
def Zy (op:BinOp) (a b:AV):Option (IntKind×SE×SE):=
 match op with
 | .rem=>match a with
   | .int k e=>match b with
     | .int k' d=>match d with
       | .lit _=>none
       |d=>if k=k' then some (k,e,d) else none
     |_=>none
   |_=>none
 |_=>none
def yO (s:St) (v:Option AV):T (AV×St):=match v with |some v=> .ret (v,s)|none=> .fail
def Zv (s:St) (h:Option Hp):T (AV×St):=match h with |some h=> .ret (AV.undef,{ s with h:=h })|none=> .fail
def JH (s:St) (r:Option (AV×Hp)):T (AV×St):=match r with |some (v,h)=> .ret (v,{ s with h:=h })|none=> .fail
def Ti (s:St):Option Operand->Option (Option AV)
 |none=>some none
 |some x=>(ev s x).map some
def D6 (s:St):List (Nat×Operand)->Option (List (Nat×AV))
 |[]=>some []
 |(i,x)::xs=>match ev s x with
  |none=>none
  |some a=>match D6 s xs with
   |none=>none
   |some aHb=>some ((i,a)::aHb)
def Gj {α:Type} (s:St) (i n:SE) (f:St->T α):T α:=
 pV s (kM i (.lit 0)) fun s b=>match b with
  |true=> .fail
  |false=>pV s (kM i n) fun s b=>match b with
   |true=>f s
   |false=> .fail
def ZH (tt:TT) (t:Nat) (a b:AV):Option SE:=match a with
 | .dat e _=>match b with
   | .aY=>match tt t with
     |some ti=>match ti.kind with
      | .slice _=>some e
      |_=>none
     |none=>none
   |_=>none
 |_=>none
def amY (s:St) (op:BinOp) (r:Bool):T (AV×St):=match op with
 | .eql=> .ret (.bool (.lit r),s)
 | .neq=> .ret (.bool (.lit (!r)),s)
 |_=> .fail
def aBL (s:St) (e:SE) (op:BinOp):T (AV×St):=pV s (kM (.lit 0) (dY e)) fun s b=>match b with
 |true=>amY s op false
 |false=>pV s (BL (rW e) (.dat (.i 1))) fun s b=>match b with
  |true=>amY s op true
  |false=>pV s (BL (rW e) (.dat (.i 2))) fun s b=>match b with
   |true=>amY s op false
   |false=> .fail
def aEx (kk:TK) (a b:AV):Option SB:=match kk with
 | .int _=>match a with
   | .int k x=>match b with
     | .int k' y=>if k=k' then some (BM x y) else none
     |_=>none
   |_=>none
 | .string=>strEq a b
 |_=>none
def AB {α:Type} (kk:TK) (k:AV):List (AV×AV×Nat)->St->(St->T α)->T α
 |[],s,f=>f s
 |(k',_,_)::es,s,f=>match aeE s.pc kk k k' with
  |some b=>match b with
   |true=>f s
   |false=>AB kk k es s f
  |none=>match aEx kk k k' with
   |some c=>pV s c fun s b=>match b with
    |true=>f s
    |false=>AB kk k es s f
   |none=>f s
def tC {α:Type} (tt:TT) (t:Nat) (m k:AV) (s:St) (f:St->T α):T α:=match tt t with
 |some ti=>match ti.kind with
  | .map kt _=>match DU tt kt with
    |some kk=>match UN m s.h with
     |some es=>AB kk k es s f
     |none=>f s
    |none=>f s
  |_=>f s
 |none=>f s
def X3 (k:IntKind) (e:SE) (f:AV->St->T (AV×St)):Nat->Nat->St->T (AV×St)
 |0,_,_=> .fail
 |n+1,j,s=>match n with
  |0=>f (.int k (.lit (Int.ofNat j))) s
  |_=>pV s (BM e (.lit (Int.ofNat j))) fun s b=>match b with
   |true=>f (.int k (.lit (Int.ofNat j))) s
   |false=>X3 k e f n (j+1) s
def aE8 (tt:TT) (t:Nat) (x:AV):Option Nat:=match tt t with
 |some ti=>match ti.kind with
  | .array n _=>if n<=64 then some n else none
  | .slice _=>match x with
    | .slice _ _ len _=>if len<=64 then some len else none
    |_=>none
  |_=>none
 |none=>none
def TQ (tt:TT) (t:Nat) (x ix:AV) (s:St) (f:AV->St->T (AV×St)):T (AV×St):=match nY ix with
 |some _=>f ix s
 |none=>match ix with
  | .int k e=>match aE8 tt t x with
    |some n=>Gj s e (.lit (Int.ofNat n)) fun s=>X3 k e f n 0 s
    |none=> .fail
  |_=> .fail
def Ar (tt:TT) (ty:Nat):Option Nat:=match tt ty with
 |some ti=>match ti.kind with
  | .slice el=>kS tt el
  |_=>none
 |none=>none
def Vu (tt:TT) (s:St) (ty t:Nat) (e:SE) (ix:AV):T (AV×St):=match ix with
 | .int _ i=>match Ar tt ty with
   |some z=>if z=(rowOf t).es then Gj s i (dY e) fun s=> .ret (.rY (jP (rowOf t) (.op .at e i)),s) else .fail
   |none=> .fail
 |_=> .fail
def Ve (tt:TT) (s:St) (ty id t:Nat) (n:SE) (ix:AV):T (AV×St):=match ix with
 | .int _ i=>match Ar tt ty with
   |some z=>if z=(rowOf t).es then Gj s i n fun s=> .ret (.qV id z i 0,s) else .fail
   |none=> .fail
 |_=> .fail
def tX (pc:List (SB×Bool)) (dflt:List AV) (i:SE):List (SE×List AV)->Option (List AV)
 |[]=>some dflt
 |(j,cs)::l=>match iE i j with
  |true=>some cs
  |false=>match nI pc (BM i j) with
   |some b=>match b with
    |true=>some cs
    |false=>tX pc dflt i l
   |none=>none
def Rw (pc:List (SB×Bool)) (i:SE) (cs':List AV):List (SE×List AV)->Option (List (SE×List AV))
 |[]=>none
 |(j,cs)::l=>match iE i j with
  |true=>some ((j,cs')::l)
  |false=>match nI pc (BM i j) with
   |some b=>match b with
    |true=>some ((j,cs')::l)
    |false=>match Rw pc i cs' l with
     |some l'=>some ((j,cs)::l')
     |none=>none
   |none=>none
def Dk (pc:List (SB×Bool)) (i:SE):List (SE×List AV)->Bool
 |[]=>true
 |(j,_)::l=>match nI pc (BM i j) with
  |some false=>Dk pc i l
  |_=>false
def Bz {α:Type} (i:SE):List (SE×List AV)->St->(St->T α)->T α
 |[],s,k=>k s
 |(j,_)::l,s,k=>match iE i j with
  |true=>k s
  |false=>pV s (BM i j) fun s b=>match b with
   |true=>k s
   |false=>Bz i l s k
def NW (k:IntKind):List AV->Option (List D)
 |[]=>some []
 |v::vs=>match v with
  | .int k' e=>match e with
    | .lit n=>if k=k' then match NW k vs with
     |some ds=>some (.i n::ds)
     |none=>none
     else none
    |_=>none
  |_=>none
def atP:List AV->Option IntKind
 |v::_=>match v with
  | .int k _=>some k
  |_=>none
 |[]=>none
def agA (tt:TT) (t:Nat) (ix:AV):Option (Nat×SE):=match nY ix with
 |some _=>none
 |none=>match ix with
  | .int _ e=>match tt t with
    |some ti=>match ti.kind with
     | .array n el=>if 64<n then match tt el with
      |some ie=>if ie.size=1/\ie.agg=false then some (n,e) else none
      |none=>none
      else none
     |_=>none
    |none=>none
  |_=>none
def Td (s:St) (cs:List AV) (e:SE):T (AV×St):=match atP cs with
 |none=> .fail
 |some k=>match NW k cs with
  |none=> .fail
  |some ds=>Gj s e (.lit (Int.ofNat ds.length)) fun s=> .ret (.int k (Rf (.op .at (.dat (dL ds)) e)),s)
def G6 (tt:TT) (s:St) (ty id es:Nat) (i:SE) (off:Nat):T (AV×St):=match s.h.get id with
 |some o=>match o with
  | .cells cs _=>match tt ty with
    |some ti=>match ti.agg||!(Nat.beq es 1)||!(Nat.beq off 0) with
     |true=> .fail
     |false=>Td s cs i
    |none=> .fail
  | .vec e t _ ov=>match tt ty with
    |some ti=>if (rowOf t).es=es then Gj s i (dY e) fun s=>Bz i ov s fun s=>match tX s.pc (jP (rowOf t) (.op .at e i)) i ov with
     |some cs=>match fZ off cs with
      |some l=>yO s (partOf ti l)
      |none=> .fail
     |none=> .fail
     else .fail
    |none=> .fail
  |_=> .fail
 |none=> .fail
def frz (v:AV) (h:Hp):AV×Hp:=match v with
 | .sN id n t=>match h.get id with
   |some o=>match o with
    | .vec e t' _ ov=>match ov with
      |[]=>match Nat.beq t t' with
       |true=>match iE n (dY e) with
        |true=>(.dat e t,h.drop id)
        |false=>(v,h)
       |false=>(v,h)
      |_=>(v,h)
    |_=>(v,h)
   |none=>(v,h)
 | .FP z t=>(.dat z t,h)
 |v=>(v,h)
def isZ (e:SE):Bool:=match e with
 | .lit n=>Ce n 0
 |_=>false
def zB (a b:SE):SE:=match isZ a with
 |true=>b
 |false=> .add a b
def MK (a b:SE):SE:=match isZ b with
 |true=>a
 |false=> .sub a b
def UF (e lo n:SE):SE:=match isZ lo with
 |true=> .op .take e n
 |false=> .op .drop (.op .take e (.add lo n)) lo
def IY {α:Type} (e lo n:SE) (s:St) (k:St->T α):T α:=
 pV s (kM lo (.lit 0)) fun s b=>match b with
  |true=> .fail
  |false=>pV s (kM n (.lit 0)) fun s b=>match b with
   |true=> .fail
   |false=>pV s (kM (dY e) (zB lo n)) fun s b=>match b with
    |true=> .fail
    |false=>k s
def QF (h:Hp) (id t:Nat):Option (SE×TypeId):=match h.get id with
 |some o=>match o with
  | .vec e t' ty ov=>match ov with
    |[]=>match Nat.beq t t' with
     |true=>some (e,ty)
     |false=>none
    |_=>none
  |_=>none
 |none=>none
def ahX {α:Type} (v:AV) (s:St) (k:AV->St->T α):T α:=match v with
 | .A8 id lo n t=>match QF s.h id t with
   |some (e,_)=>IY e lo n s fun s=>k (.dat (UF e lo n) t) { s with h:=s.h.drop id }
   |none=>k v s
 |v=>match frz v s.h with
  |(v',h')=>k v' { s with h:=h' }
def SQ {α:Type}:List AV->St->(List AV->St->T α)->T α
 |[],s,k=>k [] s
 |v::vs,s,k=>ahX v s fun v' s=>SQ vs s fun vs' s=>k (v'::vs') s
def RF {α:Type} (t:Nat):List (SE×List AV)->SE->St->(SE->St->T α)->T α
 |[],e,s,k=>k e s
 |(j,cs)::ov,e,s,k=>RF t ov e s fun e s=>SQ cs s fun cs s=>match codeRow (rowOf t) cs with
  |some x=>k (.op .set e (iL (II j) x)) s
  |none=> .fail
def aBG (v:AV) (h:Hp):Option (Nat×SE×Nat×List (SE×List AV)):=match v with
 | .sN id n t=>match h.get id with
   |some o=>match o with
    | .vec e t' _ ov=>match ov with
      |[]=>none
      |_=>match Nat.beq t t' with
       |true=>match iE n (dY e) with
        |true=>some (id,e,t,ov)
        |false=>none
       |false=>none
    |_=>none
   |none=>none
 |_=>none
def ahW {α:Type} (v:AV) (s:St) (k:AV->St->T α):T α:=match aBG v s.h with
 |some (id,e,t,ov)=>RF t ov e s fun e' s=>match s.h.get id with
  |some _=>k (.dat e' t) { s with h:=s.h.drop id }
  |none=> .fail
 |none=>ahX v s k
def ED {α:Type}:List AV->St->(List AV->St->T α)->T α
 |[],s,k=>k [] s
 |v::vs,s,k=>ahW v s fun v' s=>ED vs s fun vs' s=>k (v'::vs') s
def setCells:List CK->Nat->List AV->SE->Option SE
 |_,_,[],x=>some x
 |ks,off,v::vs,x=>match iH ks off with
  |some c=>match sJ c v with
   |some a=>setCells ks (off+1) vs (.op .set x (iL (.dat (.i (Int.ofNat off))) a))
   |none=>none
  |none=>none
def VU (r:Row) (e i:SE) (off:Nat) (vs:List AV):Option SE:=match r with
 | .one c=>match off with
   |0=>match vs with
    |[v]=>match sJ c v with
     |some a=>some (.op .set e (iL (II i) a))
     |none=>none
    |_=>none
   |_=>none
 | .many ks=>match setCells ks off vs (.op .at e i) with
   |some x=>some (.op .set e (iL (II i) x))
   |none=>none
def OA (tt:TT) (s:St) (ty id es:Nat) (i:SE) (off:Nat) (one:Bool) (vs:List AV):T (AV×St):=
 match s.h.get id with
  |some o=>match o with
   | .vec e t Iu ov=>match tt ty with
     |some ti=>if (rowOf t).es=es/\vs.length=ti.size/\one=true then Gj s i (dY e) fun s=>Bz i ov s fun s=>match tX s.pc (jP (rowOf t) (.op .at e i)) i ov with
      |some cs=>match splice cs off vs with
       |some cs'=>match Rw s.pc i cs' ov with
        |some wY=> .ret (AV.undef,{ s with h:=s.h.put id (.vec e t Iu wY) })
        |none=>match Dk s.pc i ov with
         |true=>match VU (rowOf t) e i off vs with
          |some e'=> .ret (AV.undef,{ s with h:=s.h.put id (.vec e' t Iu ov) })
          |none=> .ret (AV.undef,{ s with h:=s.h.put id (.vec e t Iu ((i,cs')::ov)) })
         |false=> .fail
       |none=> .fail
      |none=> .fail
      else .fail
     |none=> .fail
   |_=> .fail
  |none=> .fail
def aEB:AV->Bool
 | .sN _ _ _=>true
 | .aY=>true
 | .FP _ _=>true
 | .slice _ _ n c=>match n with
   |0=>match c with
    | .exact k=>match k with
      |0=>true
      |_=>false
    |_=>false
   |_=>false
 |_=>false
def aCe (c:CK) (v:AV):AV:=match c with
 | .sl t=>match v with
   | .aY=> .FP (.dat (.i 1)) t
   | .slice i o n k=>match n with
     |0=>match k with
      | .exact m=>match m with
        |0=> .FP (.dat (.i 2)) t
        |m+1=> .slice i o 0 (.exact (m+1))
      |k=> .slice i o 0 k
     |n+1=> .slice i o (n+1) k
   |v=>v
 |_=>v
def XJ:List CK->List AV->List AV
 |[],vs=>vs
 |_::_,[]=>[]
 |c::cs,v::vs=>aCe c v::XJ cs vs
def Zt (r:Row):List CK:=match r with
 | .one c=>[c]
 | .many cs=>cs
def afC (i:SE):List (SB×Bool)->Option SE
 |[]=>none
 |(c,b)::l=>match c with
  | .eq x y=>match b with
    |true=>match iE x i with
     |true=>some y
     |false=>afC i l
    |false=>afC i l
  |_=>afC i l
def Oz (tt:TT) (s:St) (ty id es:Nat) (i j:SE) (off:Nat) (one:Bool) (vs:List AV):T (AV×St):=
 match s.h.get id with
  |some o=>match o with
   | .vec e t Iu ov=>match tt ty with
     |some ti=>if (rowOf t).es=es/\vs.length=ti.size/\one=true then Gj s i (dY e) fun s=>Bz j ov s fun s=>match nI s.pc (.eq i j) with
      |some true=>match tX s.pc (jP (rowOf t) (.op .at e j)) j ov with
       |some cs=>match splice cs off (XJ ((Zt (rowOf t)).drop off) vs) with
        |some cs'=>match Rw s.pc j cs' ov with
         |some wY=> .ret (AV.undef,{ s with h:=s.h.put id (.vec e t Iu wY) })
         |none=>match Dk s.pc j ov with
          |true=> .ret (AV.undef,{ s with h:=s.h.put id (.vec e t Iu ((j,cs')::ov)) })
          |false=> .fail
        |none=> .fail
       |none=> .fail
      |_=> .fail
      else .fail
     |none=> .fail
   |_=> .fail
  |none=> .fail
def OB (tt:TT) (s:St) (ty id es:Nat) (i:SE) (off:Nat) (v:AV):T (AV×St):=
 match (if aEB v then afC i s.pc else none) with
 |some j=>Oz tt s ty id es i j off (yA v.cells) v.cells
 |none=>ED v.cells s fun vs s=>OA tt s ty id es i off (yA v.cells) vs
def wP (e:Nat) (own:Option Nat) (x:AV) (h:Hp):Option (SE×Nat×Hp):=match x with
 | .sN id n t=>match h.get id with
   |some o=>match o with
    | .vec e0 t0 ty ov=>match ov with
      |[]=>match Nat.beq t t0 with
       |true=>match Nat.beq ty e with
        |true=>match iE n (dY e0) with
         |true=>some (e0,t,h.drop id)
         |false=>none
        |false=>none
       |false=>none
      |_=>none
    |_=>none
   |none=>none
 | .aY=>match own with
   |some t=>some (.dat (.i 0),t,h)
   |none=>none
 | .emp=>match own with
   |some t=>some (.dat (.i 0),t,h)
   |none=>none
 | .FP _ _=>match own with
   |some t=>some (.dat (.i 0),t,h)
   |none=>none
 | .slice _ _ n c=>match n with
   |0=>match c with
    | .exact k=>match k with
      |0=>match own with
       |some t=>some (.dat (.i 0),t,h)
       |none=>none
      |_=>none
    |_=>none
   |_=>none
 |_=>none
def ayO:AV->Bool
 | .dat _ _=>true
 |_=>false
def anO (own:Option Nat):AV->Bool
 | .sN _ _ _=>true
 | .A8 _ _ _ _=>true
 | .aY=>own.isSome
 | .emp=>own.isSome
 | .FP _ _=>own.isSome
 | .slice _ _ n c=>match n with
   |0=>match c with
    | .exact k=>match k with
      |0=>own.isSome
      |_=>false
    |_=>false
   |_=>false
 |_=>false
def agC (id t:Nat) (ty:TypeId) (e0 n1 m sd:SE) (s:St):T (AV×St):=
 IY e0 n1 m s fun s=> .ret (.A8 id (.lit 0) (zB n1 m) t,{ s with h:=s.h.put id (.vec (.op .cat (.op .cat (.op .take e0 n1) sd) (.op .drop e0 (zB n1 m))) t ty []) })
def OM (tt:TT) (t t2 id:Nat) (n1:SE) (t':Nat) (y:AV) (s:St):T (AV×St):=
 match tt t with
 |some ti=>match ti.kind with
  | .slice e=>match tt e with
    |some ie=>match tt t2 with
     |none=> .fail
     |some ti2=>match ti2.kind with
      | .int _=> .fail
      |_=>
       if ie.size=0\/ie.bytes=0\/¬ie.zero.length=ie.size\/¬(rowOf t').es=ie.size then .fail else
       match QF s.h id t' with
       |none=> .fail
       |some (e0,ty)=>match y with
        | .A8 id2 lo2 n2 t2'=>match Nat.beq id2 id with
          |true=>match Nat.beq t2' t' with
           |true=>IY e0 lo2 n2 s fun s=>agC id t' ty e0 n1 n2 (UF e0 lo2 n2) s
           |false=> .fail
          |false=> .fail
        |y=>match yG ie.size y s.h with
         |none=> .fail
         |some (m,news)=>match m with
          |0=> .fail
          |m+1=>if m<1000 then match pY (rowOf t') (.dat (.i 0)) (m+1) news with
           |some sd=>agC id t' ty e0 n1 (.lit (Int.ofNat (m+1))) sd s
           |none=> .fail
           else .fail
    |none=> .fail
  |_=> .fail
 |none=> .fail
def He (tt:TT) (ty id:Nat) (lo n:SE) (t:Nat) (s:St):T (AV×St):=
 match tt ty with
 |some ti=>match ti.kind with
  | .slice e=>match tt e with
    |some ie=>if (rowOf t).es=ie.size/\0<ie.size then match QF s.h id t with
     |none=> .fail
     |some (e0,Iu)=>match codeRow (rowOf t) ie.zero with
      |none=> .fail
      |some z=>pV s (kM lo (.lit 0)) fun s b=>match b with
       |true=> .fail
       |false=>pV s (kM n (.lit 0)) fun s b=>match b with
        |true=> .fail
        |false=>pV s (BM (zB lo n) (dY e0)) fun s b=>match b with
         |false=> .fail
         |true=> .ret (AV.undef,{ s with h:=s.h.put id (.vec (.op .fill e0 (iL (II lo) z)) t Iu []) })
     else .fail
    |none=> .fail
  |_=> .fail
 |none=> .fail
def roomOf (bytes k:Nat):Int:=Int.ofNat (140737488355328 / bytes-k)
def amC (e0:SE) (bytes:Nat):Int:=match ZT e0 with
 |true=>roomOf bytes 0
 |false=>roomOf bytes 1000000
def avA:AV->Bool
 | .sN _ _ _=>true
 | .FP _ _=>true
 | .slice _ _ n _=>match n with
   |0=>true
   |_=>false
 |_=>false
def GN:List (SB×Bool)->Bool
 |[]=>false
 |(b,v)::l=>match b with
  | .eq _ x=>match x with
    | .aO i=>match i with
      |0=>match v with
       |true=>true
       |false=>GN l
      |_=>GN l
    |_=>GN l
  |_=>GN l
def atJ (m:Nat) (news:List AV) (pc:List (SB×Bool)):Bool:=match m with
 |0=>match news.any avA with
  |true=>GN pc
  |false=>false
 |_=>false
def IW (e:Nat) (x:AV) (h:Hp):Option (SE×Nat×SE×List AV×Hp):=match x with
 | .sN id n t=>match h.get id with
   |some o=>match o with
    | .vec e0 t0 ty ov=>match ov with
      |[]=>none
      |p::l=>match l with
       |[]=>match Nat.beq t t0 with
        |true=>match Nat.beq ty e with
         |true=>match iE n (dY e0) with
          |true=>some (e0,t,p.1,p.2,h.drop id)
          |false=>none
         |false=>none
        |false=>none
       |_=>none
    |_=>none
   |none=>none
 |_=>none
def Hf (e:Nat) (own:Option Nat) (x:AV) (ie:TI) (m:Nat) (news:List AV) (s:St):T (AV×St):=
 ED news s fun news' s=>match wP e own x s.h with
  |some (e0,t',h0)=>if (rowOf t').es=ie.size/\m<1000 then
   pV s (kM (dY e0) (.lit (roomOf ie.bytes (m+1)))) fun s b=>match b with
    |true=>match pY (rowOf t') e0 (m+1) news' with
     |some e1=> .ret (.sN h0.fresh (dY e1) t',{ s with h:=h0.new (.vec e1 t' e []) })
     |none=> .fail
    |false=> .fail
   else .fail
  |none=> .fail
def Jp (e:Nat) (x:AV) (ie:TI) (m:Nat) (news:List AV) (s:St):T (AV×St):=
 ED news s fun news' s=>match IW e x s.h with
  |some (e0,t',p,cs,h0)=>if (rowOf t').es=ie.size/\m<1000 then
   pV s (kM (dY e0) (.lit (roomOf ie.bytes (m+1)))) fun s b=>match b with
    |true=>pV s (kM p (dY e0)) fun s b=>match b with
     |true=>match pY (rowOf t') e0 (m+1) news' with
      |some e1=> .ret (.sN h0.fresh (dY e1) t',{ s with h:=h0.new (.vec e1 t' e [(p,cs)]) })
      |none=> .fail
     |false=> .fail
    |false=> .fail
   else .fail
  |none=> .fail
def Jo (e:Nat) (own:Option Nat) (x:AV) (ie:TI) (m:Nat) (news:List AV) (s:St):T (AV×St):=
 match wP e own x s.h with
 |some (e0,t',h0)=>if (rowOf t').es=ie.size/\m=0 then
  pV s (BM (dY e0) (.aO 0)) fun s b=>match b with
   |true=>pV s (kM (dY e0) (.lit (roomOf ie.bytes 1))) fun s b=>match b with
    |true=>match pY (rowOf t') e0 1 ie.zero with
     |some e1=> .ret (.sN h0.fresh (dY e1) t',{ s with h:=h0.new (.vec e1 t' e [(.aO 0,news)]) })
     |none=> .fail
    |false=> .fail
   |false=>Hf e own x ie m news s
  else .fail
 |none=> .fail
def Jm (tt:TT) (t t2:Nat) (x y:AV) (s:St):T (AV×St):=
 match tt t with
 |some ti=>match ti.kind with
  | .slice e=>match tt e with
    |some ie=>match tt t2 with
     |none=> .fail
     |some ti2=>match ti2.kind with
      | .int _=> .fail
      |_=>
       if ie.size=0\/ie.bytes=0\/¬ie.zero.length=ie.size\/¬ie.bytes<=400 then .fail else
       match y with
       | .dat e2 ty2=>match wP e ti.own x s.h with
         |some (e0,t',h0)=>if (rowOf t').es=ie.size/\rowOf ty2=rowOf t' then
          pV s (BL (dY e2) (.lit 0)) fun s b=>match b with
           |true=> .ret (x,s)
           |false=>pV s (kM (dY e2) (.lit (amC e0 ie.bytes))) fun s b=>match b with
            |true=>pV s (kM (dY e0) (.lit 1000000)) fun s b=>match b with
             |true=>match ZT e0 with
              |true=> .ret (.sN h0.fresh (dY e2) t',{ s with h:=h0.new (.vec e2 t' e []) })
              |false=> .ret (.sN h0.fresh (dY (.op .cat e0 e2)) t',{ s with h:=h0.new (.vec (.op .cat e0 e2) t' e []) })
             |false=> .fail
            |false=> .fail
          else .fail
         |none=> .fail
       |y=>match yG ie.size y s.h with
        |some (m,news)=>match m with
         |0=> .ret (x,s)
         |m+1=>match IW e x s.h with
          |some _=>Jp e x ie m news s
          |none=>match atJ m news s.pc with
           |true=>Jo e ti.own x ie m news s
           |false=>Hf e ti.own x ie m news s
        |none=> .fail
    |none=> .fail
  |_=> .fail
 |none=> .fail
def Vo (tt:TT) (t:Nat) (l c:AV) (s:St):T (AV×St):=match l with
 | .int k n=>match c with
   | .int k2 n2=>match iE n n2 with
     |false=> .fail
     |true=>match tt t with
      |none=> .fail
      |some i=>match i.own with
       |none=> .fail
       |some o=>match i.kind with
        | .slice e=>match tt e with
          |none=> .fail
          |some ie=>match codeRow (rowOf o) ie.zero with
           |none=> .fail
           |some z=>if ie.size=(rowOf o).es/\0<ie.size/\ie.bytes≠0/\ie.zero.length=ie.size then
            pV s (kM n (.lit 0)) fun s b=>match b with
             |true=> .fail
             |false=>pV s (BL n (.lit 0)) fun s b=>match b with
              |true=>match xJ tt t (.int k (.lit 0)) (.int k2 (.lit 0)) s.h with
               |some (v,h)=> .ret (v,{ s with h:=h })
               |none=> .fail
              |false=>pV s (kM n (.lit (roomOf ie.bytes 0))) fun s b=>match b with
               |true=> .ret (.sN s.h.fresh (dY (.op .rep n z)) o,{ s with h:=s.h.new (.vec (.op .rep n z) o e []) })
               |false=> .fail
            else .fail
        |_=> .fail
   |_=> .fail
 |_=> .fail
def KO (v:AV):Bool:=match nY v with
 |some n=>Ce n 0
 |none=>false
def Vt (tt:TT) (s:St) (ty t:Nat) (e:SE) (lo hi:Option AV) (mx:Option AV):T (AV×St):=match mx with
 |some m=>match KO m with
  |true=>match Ar tt ty with
   |none=> .fail
   |some _=>match lo with
    |none=>match hi with
     |some hv=>match KO hv with
      |true=> .ret (.FP (.op .take e (.lit 0)) t,s)
      |false=> .fail
     |none=> .fail
    |some _=> .fail
  |false=> .fail
 |none=>match Ar tt ty with
  |none=> .fail
  |some z=>if z=(rowOf t).es then
   (match hi with
   |none=>match lo with
    |some (.int _ l)=>pV s (kM l (.lit 0)) fun s b=>match b with
     |true=> .fail
     |false=>pV s (kM (dY e) l) fun s b=>match b with
      |true=> .fail
      |false=> .ret (.dat (.op .drop e l) t,s)
    |_=> .fail
   |some (.int _ h)=>pV s (kM (dY e) h) fun s b=>match b with
    |true=> .fail
    |false=>match lo with
     |none=>pV s (kM h (.lit 0)) fun s b=>match b with
      |true=> .fail
      |false=> .ret (.dat (.op .take e h) t,s)
     |some (.int _ l)=>pV s (kM l (.lit 0)) fun s b=>match b with
      |true=> .fail
      |false=>pV s (kM h l) fun s b=>match b with
       |true=> .fail
       |false=> .ret (.dat (.op .drop (.op .take e h) l) t,s)
     |_=> .fail
   |_=> .fail)
   else .fail
def loE (lo:Option AV):Option SE:=match lo with
 |none=>some (.lit 0)
 |some v=>match v with
  | .int _ l=>some l
  |_=>none
def Lu (tt:TT) (s:St) (ty id t:Nat) (lo0 n0:SE) (lo hi mx:Option AV):T (AV×St):=
 match Ar tt ty with
 |none=> .fail
 |some z=>if z=(rowOf t).es/\z≠0 then match loE lo with
  |none=> .fail
  |some l=>pV s (kM l (.lit 0)) fun s b=>match b with
   |true=> .fail
   |false=>match hi with
    |none=>match mx with
     |some _=> .fail
     |none=>pV s (kM n0 l) fun s b=>match b with
      |true=> .fail
      |false=> .ret (.A8 id (zB lo0 l) (MK n0 l) t,s)
    |some hv=>match hv with
     | .int _ h=>pV s (kM h l) fun s b=>match b with
       |true=> .fail
       |false=>match mx with
        |some mv=>match mv with
         | .int _ m=>pV s (kM m h) fun s b=>match b with
           |true=> .fail
           |false=>pV s (kM n0 m) fun s b=>match b with
            |true=> .fail
            |false=> .ret (.any,s)
         |_=> .fail
        |none=>pV s (kM n0 h) fun s b=>match b with
         |false=> .ret (.A8 id (zB lo0 l) (MK h l) t,s)
         |true=>match isZ lo0 with
          |false=> .fail
          |true=>match QF s.h id t with
           |none=> .fail
           |some (e,_)=>pV s (kM (dY e) h) fun s b=>match b with
            |true=> .fail
            |false=> .ret (.A8 id (zB lo0 l) (MK h l) t,s)
     |_=> .fail
  else .fail
def Vs (tt:TT) (s:St) (ty:Nat) (z:SE) (t:Nat) (lo hi mx:Option AV):T (AV×St):=
 match mx with
 |some _=> .fail
 |none=>match Ar tt ty with
  |none=> .fail
  |some _=>match bnd hi 0 0 with
   |some 0=>match bnd lo 0 0 with
    |some 0=> .ret (.FP z t,s)
    |_=> .fail
   |_=> .fail
def Vd (tt:TT) (s:St) (ty id t:Nat) (lo n:SE) (ix:AV):T (AV×St):=match ix with
 | .int _ i=>match Ar tt ty with
   |some z=>if z=(rowOf t).es then Gj s i n fun s=> .ret (.qV id z (zB lo i) 0,s) else .fail
   |none=> .fail
 |_=> .fail
def anQ:AV->Bool
 | .nC _=>true
 |_=>false
def Vg (tt:TT) (s:St) (ty:Nat) (e:SE) (ix:AV):T (AV×St):=match ix with
 | .int _ i=>match tt ty with
   |some ti=>match ti.kind with
    | .string=>Gj s i (dY e) fun s=> .ret (.int .u8 (Rf (.op .at e i)),s)
    |_=> .fail
   |none=> .fail
 |_=> .fail
def hiE (e:SE) (hi:Option AV):Option SE:=match hi with
 |none=>some (dY e)
 |some v=>match v with
  | .int _ h=>some h
  |_=>none
def Vf (tt:TT) (s:St) (ty:Nat) (e:SE) (lo hi mx:Option AV):T (AV×St):=match mx with
 |some _=> .fail
 |none=>match tt ty with
  |none=> .fail
  |some ti=>match ti.kind with
   | .string=>match loE lo with
     |none=> .fail
     |some l=>match hiE e hi with
      |none=> .fail
      |some h=>pV s (kM l (.lit 0)) fun s b=>match b with
       |true=> .fail
       |false=>pV s (kM h l) fun s b=>match b with
        |true=> .fail
        |false=>pV s (kM (dY e) h) fun s b=>match b with
         |true=> .fail
         |false=> .ret (.nC (.op .sub e (iL (II l) (iL (II h) (.dat (.i 0))))),s)
   |_=> .fail
def KT (x y:AV):Option (SE×SE):=match anQ x||anQ y with
 |false=>none
 |true=>match AU x with
  |none=>none
  |some a=>match AU y with
   |none=>none
   |some b=>some (a,b)
def QV (a b:SE):SB:=.not (.eq (.op .slt a b) (.lit 0))
def aaB (op:BinOp) (a b:SE) (s:St):T (AV×St):=match op with
 | .add=>pV s (kM (dY a) (.lit 1000000000)) fun s c=>match c with
   |false=> .fail
   |true=>pV s (kM (dY b) (.lit 1000000000)) fun s c=>match c with
    |false=> .fail
    |true=> .ret (.nC (.op .cat a b),s)
 | .eql=> .ret (.bool (BL (rW a) (rW b)),s)
 | .neq=> .ret (.bool (.not (BL (rW a) (rW b))),s)
 | .lss=> .ret (.bool (QV a b),s)
 | .gtr=> .ret (.bool (QV b a),s)
 | .leq=> .ret (.bool (Et (QV b a)),s)
 | .geq=> .ret (.bool (Et (QV a b)),s)
 |_=> .fail
def LD (tt:TT) (sT dT:Nat) (e:SE) (s:St):T (AV×St):=match tt sT with
 |none=> .fail
 |some j=>match j.kind with
  | .string=>match tt dT with
    |none=> .fail
    |some i=>match i.kind with
     | .slice el=>match tt el with
       |some ie=>match ie.kind with
        | .int k=>match k with
          | .u8=>pV s (BL (dY e) (.lit 0)) fun s c=>match c with
            |true=> .ret (.slice s.h.fresh 0 0 (.rest 1),{ s with h:=s.h.new (.cells [] el) })
            |false=> .ret (.sN s.h.fresh (dY e) 14,{ s with h:=s.h.new (.vec e 14 el []) })
          |_=> .fail
        |_=> .fail
       |none=> .fail
     |_=> .fail
  |_=> .fail
def JU (c:CK):TK:=match c with
 | .int k=> .int k
 |_=> .string
def Ew (m:AV) (h:Hp):Option (Nat×SE×Nat):=match m with
 | .map id=>match h.get id with
   |some o=>match o with
    | .jF e t=>some (id,e,t)
    |_=>none
   |none=>none
 |_=>none
def mapKey (tt:TT) (ty t:Nat) (k:AV):Option (SE×TI):=match tt ty with
 |none=>none
 |some ti=>match ti.kind with
  | .map kt et=>match tt kt with
    |none=>none
    |some ki=>if ki.kind=JU (mapOf t).1 then match tt et with
     |none=>none
     |some ie=>match sJ (mapOf t).1 k with
      |none=>none
      |some a=>some (rW a,ie)
     else none
  |_=>none
def aoK (e a:SE):SB:=match e with
 | .dat d=>match a with
   | .dat k=> .lit (!(rV d.l k).isSome)
   |a=> .eq (.op .NK (.dat d) a) (.lit 0)
 |e=> .eq (.op .NK e a) (.lit 0)
def G5 (tt:TT) (ty:Nat) (k:AV) (ok:Bool) (e:SE) (t:Nat) (s:St):T (AV×St):=match mapKey tt ty t k with
 |none=> .fail
 |some (a,ie)=>match zeroOf ie with
  |none=> .fail
  |some z=>pV s (aoK e a) fun s b=>match b with
   |true=> .ret (if ok then .tuple [z,.bool (.lit false)] else z,s)
   |false=> .ret (if ok then .tuple [AP (mapOf t).2 (.op .NP e a),.bool (.lit true)] else AP (mapOf t).2 (.op .NP e a),s)
def aaF (tt:TT) (ty id:Nat) (k x:AV) (e:SE) (t:Nat) (s:St):T (AV×St):=match mapKey tt ty t k with
 |none=> .fail
 |some (a,_)=>match sJ (mapOf t).2 x with
  |none=> .fail
  |some b=> .ret (AV.undef,{ s with h:=s.h.put id (.jF (.op .I9 e (iL a b)) t) })
def Vl (tt:TT) (ty:Nat) (m k x:AV) (s:St):T (AV×St):=ED [x] s fun xs s=>match xs with
 |[x]=>match Ew m s.h with
  |some (id,e,t)=>aaF tt ty id k x e t s
  |none=> .fail
 |_=> .fail
def aaN (tt:TT) (ty id:Nat) (k:AV) (e:SE) (t:Nat) (s:St):T (AV×St):=match mapKey tt ty t k with
 |none=> .fail
 |some (a,_)=> .ret (AV.undef,{ s with h:=s.h.put id (.jF (.op .ZL e a) t) })
abbrev eF:=Nat->List AV->St->T (AV×St)
def Ii (s:St) (x:Operand) (f:AV->T (AV×St)):T (AV×St):=match ev s x with |some v=>f v|none=> .fail
def ayM (tt:TT) (t:Nat):Option Nat:=match tt t with
 |some ti=>ti.own
 |none=>none
def D7 (tt:TT) (s:St) (b:Builtin) (ts:List Nat) (args:List AV):T (AV×St):=
 match b,ts,args with
 | .len,[t],[x]=>yO s (aoX tt t x s.h)
 | .append,[t,t2],[.A8 id lo n t',y]=>match isZ lo with
   |true=>OM tt t t2 id n t' y s
   |false=> .fail
 | .append,[t,t2],[x,y]=>match anO (ayM tt t) x||ayO y with
   |true=>Jm tt t t2 x y s
   |false=>JH s (OL tt t t2 x y s.h)
 | .delete,[t,_],[m,k]=>match Ew m s.h with
   |some (id,e,t')=>aaN tt t id k e t' s
   |none=>tC tt t m k s fun s=>Zv s (OJ tt s.pc t m k s.h)
 | .clear,[t],[.sN id n t']=>He tt t id (.lit 0) n t' s
 | .clear,[t],[.A8 id lo n t']=>He tt t id lo n t' s
 | .clear,[t],[x]=>Zv s (Vw tt t x s.h)
 | .min,_,.int k a::xs=>Ai false xs a k s
 | .max,_,.int k a::xs=>Ai true xs a k s
 |_,_,_=> .fail
def Vx (tt:TT) (call:eF) (s:St) (c:Call):T (AV×St):=
 match evs s c.args.toList with
 |none=> .fail
 |some args=>match c.callee with
  | .builtin b=>D7 tt s b c.argTypes.toList args
  | .value f=>match ev s f with
    |some (.func (.func g) fs cs)=>call g (fs++args++cs) s
    |_=> .fail
  | .invoke _ _=> .fail
def aDK:SB->Bool
 | .lit _=>true
 | .not c=>match c with
   | .eq _ z=>match z with
     | .lit n=>Ce n 0
     |_=>false
   |_=>false
 |_=>false
def asP {α:Type} (v:AV) (s:St) (k:AV->St->T α):T α:=match v with
 | .bool c=>match aDK c with
   |true=>k (.bool c) s
   |false=>pV s c fun s b=>k (.bool (.lit b)) s
 |v=>k v s
def Vm (tt:TT) (call:eF) (s:St) (op:Op):T (AV×St):=
 match op with
 | .move x=>Ii s x fun v=> .ret (v,s)
 | .assign x=>Ii s x fun v=> .ret (v,s)
 | .pick c a b=>Ii s c fun c=>match c with
   | .bool c=>pV s c fun s b'=>if b' then Ii s a fun v=> .ret (v,s) else Ii s b fun v=> .ret (v,s)
   |_=> .fail
 | .alloc t=>match tt t with
   |some i=> .ret (.ptr s.h.fresh 0,{ s with h:=s.h.new (.cells i.zero t) })
   |none=> .fail
 | .box t x=>Ii s x fun v=>if yA v.cells then .ret (.ptr s.h.fresh 0,{ s with h:=s.h.new (.cells v.cells t) }) else .fail
 | .build t parts=>match D6 s parts.toList with
   |some ps=>yO s (Vz tt t ps)
   |none=> .fail
 | .buildSlice t n parts=>match D6 s parts.toList with
   |some ps=>JH s (Ap tt t n ps s.h)
   |none=> .fail
 | .makeSlice t l c=>Ii s l fun lv=>match ev s c with
   |some cv=>match xJ tt t lv cv s.h with
    |some r=>JH s (some r)
    |none=>Vo tt t lv cv s
   |none=> .fail
 | .load t x=>Ii s x fun p=>match p with
   | .qV id es i off=>G6 tt s t id es i off
   |p=>yO s (Jl tt t p s.h)
 | .store t x y=>Ii s x fun p=>match ev s y with
   |some v=>asP v s fun v s=>match p with
    | .qV id es i off=>OB tt s t id es i off v
    |p=>Zv s (Vh tt t p v s.h)
   |none=> .fail
 | .nilCheck x=>Ii s x fun v=>match v with
   | .ptr _ _=> .ret (v,s)
   | .rY _=> .ret (v,s)
   | .qV _ _ _ _=> .ret (v,s)
   |_=> .fail
 | .binOp op t x y _=>Ii s x fun a=>match ev s y with
   |some b=>match a with
    | .agg xs=>match b,op with
      | .agg ys,.eql=>match LC tt t xs ys with
        |some c=> .ret (.bool c,s)
        |none=> .fail
      | .agg ys,.neq=>match LC tt t xs ys with
        |some c=> .ret (.bool (Et c),s)
        |none=> .fail
      |_,_=> .fail
    |a=>match ZH tt t a b with
     |some e=>aBL s e op
     |none=>match Zy op a b with
      |some (k,e,d)=>aBD s k e d
      |none=>match KT a b with
       |some (x,y)=>aaB op x y s
       |none=>yO s (aoZ tt t op a b)
   |none=> .fail
 | .unOp op _ x=>Ii s x fun v=>yO s (aC2 op v)
 | .convert sT dT x=>Ii s x fun v=>match v with
   | .nC e=>LD tt sT dT e s
   |v=>JH s (vN tt sT dT v s.h)
 | .makeFunc fn fs cs=>match evs s fs.toList,evs s cs.toList with
   |some f,some c=> .ret (.func fn f c,s)
   |_,_=> .fail
 | .makeMap t r=>match r with
   |none=>match ayM tt t with
    |some m=> .ret (.map s.h.fresh,{ s with h:=s.h.new (.jF (.dat (.i 0)) m) })
    |none=> .ret (.map s.h.fresh,{ s with h:=s.h.new (.map [] 0) })
   |some _=> .fail
 | .slice t x lo hi mx=>Ii s x fun v=>match Ti s lo,Ti s hi,Ti s mx with
   |some l,some h,some m=>match v with
    | .dat e t'=>Vt tt s t t' e l h m
    | .sN id n t'=>Lu tt s t id t' (.lit 0) n l h m
    | .A8 id lo n t'=>Lu tt s t id t' lo n l h m
    | .nC e=>Vf tt s t e l h m
    | .FP z t'=>Vs tt s t z t' l h m
    |v=>match Vj tt t v l h m with
    |some v=> .ret (v,s)
    |none=>yO s (OC tt t v l h m s.h)
   |_,_,_=> .fail
 | .fieldAddr t x f=>Ii s x fun v=>yO s (CQ tt t v f)
 | .field t x f=>Ii s x fun v=>yO s (Vr tt t v f)
 | .indexAddr t x i=>Ii s x fun v=>match ev s i with
   |some i=>match v with
    | .inp k ks=>yO s (Vp tt s.pc t k ks i)
    | .dat e t'=>Vu tt s t t' e i
    | .sN id n t'=>Ve tt s t id t' n i
    | .A8 id lo n t'=>Vd tt s t id t' lo n i
    | .ptr id o=>match agA tt t i with
      |some (n,e)=>if o=0 then Gj s e (.lit (Int.ofNat n)) fun s=> .ret (.qV id 1 e 0,s) else .fail
      |none=>TQ tt t (.ptr id o) i s fun i s=>yO s (uH tt t (.ptr id o) i)
    |v=>TQ tt t v i s fun i s=>yO s (uH tt t v i)
   |none=> .fail
 | .index t x i=>Ii s x fun v=>match ev s i with
   |some i=>match v with
    | .nC e=>Vg tt s t e i
    | .agg cs=>match agA tt t i with
      |some (n,e)=>match Nat.beq cs.length n with
       |true=>Td s cs e
       |false=> .fail
      |none=>TQ tt t (.agg cs) i s fun i s=>yO s (G7 tt t (.agg cs) i)
    |v=>TQ tt t v i s fun i s=>yO s (G7 tt t v i)
   |none=> .fail
 | .lookup t m k ok=>Ii s m fun v=>match ev s k with
   |some k=>match Ew v s.h with
    |some (_,e,t')=>G5 tt t k ok e t' s
    |none=>tC tt t v k s fun s=>yO s (OG tt s.pc t v k ok s.h)
   |none=> .fail
 | .mapUpdate t m k x=>Ii s m fun v=>match ev s k,ev s x with
   |some k,some x=>match Ew v s.h with
    |some _=>Vl tt t v k x s
    |none=>tC tt t v k s fun s=>Zv s (xI tt s.pc t v k x s.h)
   |_,_=> .fail
 | .insert t m k x=>Ii s m fun v=>match ev s k,ev s x with
   |some k,some x=>match Ew v s.h with
    |some _=>Vl tt t v k x s
    |none=>tC tt t v k s fun s=>Zv s (xI tt s.pc t v k x s.h)
   |_,_=> .fail
 | .range t x=>Ii s x fun v=>JH s (Vk tt t v s.h)
 | .next x isS=>Ii s x fun v=>JH s (aaG v isS s.h)
 | .extract x i=>Ii s x fun v=>match v with
   | .tuple vs=>yO s (iH vs i)
   |_=> .fail
 | .call c=>Vx tt call s c
 |_=> .fail
def DN {α:Type} (ops:List Oper) (s:St) (o:Oper) (f:St->Bool->T α):T α:=
 match o.guard with
 |none=>f s true
 |some (j,want)=>match iH ops j with
  |some oj=>match oj.dst with
   |some d=>match s.slots.get d with
    |some (.bool c)=>pV s c fun s b=>f s (b == want)
    |some (.tuple _)=>f s false
    |_=> .fail
   |none=> .fail
  |none=> .fail
def XU (tt:TT) (call:eF) (all:List Oper):List Oper->St->T St
 |[],s=> .ret s
 |o::rest,s=>DN all s o fun s b=>
  if b then (Vm tt call s o.op).bind fun (v,s')=>XU tt call all rest (s'.WW o.dst v)
  else XU tt call all rest (s.WW o.dst AV.undef)
inductive Ex where
 |normal
 |exit (id:Nat)
 |ret
 deriving DecidableEq,Inhabited
def CP (body:St->T (Ex×St)):Nat->St->T (Ex×St)
 |0,_=> .fail
 |n+1,s=>(body s).bind fun (e,s')=>match e with
  | .normal=>CP body n s'
  |e=> .ret (e,s')
def lT (tt:TT) (call:eF) (draw:Nat->List Oper->St->T St) (lf:Nat):Code->St->T (Ex×St)
 | .skip,s=> .ret (.normal,s)
 | .region id ops d,s=>
   if d then (draw id ops.toList s).bind fun s'=> .ret (.normal,s')
   else (XU tt call ops.toList ops.toList s).bind fun s'=> .ret (.normal,s')
 | .seq a b,s=>(lT tt call draw lf a s).bind fun (e,s')=>match e with
   | .normal=>lT tt call draw lf b s'
   |e=> .ret (e,s')
 | .cond c x y,s=>match ev s c with
   |some (.bool c)=>pV s c fun s b=>if b then lT tt call draw lf x s else lT tt call draw lf y s
   |_=> .fail
 | .block id b,s=>(lT tt call draw lf b s).bind fun (e,s')=>match e with
   | .exit j=> .ret (if j=id then .normal else .exit j,s')
   |e=> .ret (e,s')
 | .loop b,s=>CP (lT tt call draw lf b) lf s
 | .exit id,s=> .ret (.exit id,s)
 | .scope b,s=>lT tt call draw lf b s
 | .label _,s=> .ret (.normal,s)
 | .ret,s=> .ret (.ret,s)
 |_,_=> .fail
def bI:List AV->Nat->Tr AV->Tr AV
 |[],_,t=>t
 |v::vs,i,t=>bI vs (i+1) (t.put i (some v))
def GZ (tt:TT) (s:St):ResultVar->Option AV
 | .tmp t=>s.slots.get t
 | .cell a t=>match s.slots.get a with
   |some p=>Jl tt t p s.h
   |none=>none
def oN (tt:TT) (s:St):List ResultVar->Option (List AV)
 |[]=>some []
 |r::rs=>match GZ tt s r with
  |none=>none
  |some v=>match oN tt s rs with
   |none=>none
   |some vs=>some (v::vs)
def Vq (tt:TT) (ft:Nat->Option Func) (hook:Nat->Option (List AV->St->T (AV×St))) (draw:eF->Nat->Nat->List Oper->St->T St) (lf:Nat):Nat->eF
 |0,_,_,_=> .fail
 |n+1,g,args,s=>
  match hook g with
  |some h=>h args s
  |none=>match ft g with
   |none=> .fail
   |some fn=>match fn.body with
    |none=> .fail
    |some c=>
     (lT tt (Vq tt ft hook draw lf n) (draw (Vq tt ft hook draw lf n) g) lf c { s with slots:=bI args 0 .nil }).bind fun (e,s')=>
      match e with
      | .exit _=> .fail
      |_=>match oN tt s' fn.results.toList with
       |some [v]=> .ret (v,{ s' with slots:=s.slots })
       |some vs=> .ret (.tuple vs,{ s' with slots:=s.slots })
       |none=> .fail
end
end Go.As
end
section
namespace Go.As
structure En where
 ρ:Nat->Int
 θ:Nat->Nat×Nat
 κ:Nat->Nat
 dm:Nat->Prop
 ro:Nat->Prop
def dH (s:List Nat):ByteArray:=⟨(s.map UInt8.ofNat).toArray⟩
def hcell (h:Array Obj) (b o:Nat):Option Value:=
 match h[b]? with
 |some (.cells c _ _)=>c[o]?
 |_=>none
theorem uK (w:World) (b o:Nat):w.cell? ⟨b,o,none⟩ = hcell w.heap b o:=by
 unfold World.cell? hcell;simp only [Option.isSome_none,aHv,if_false]
 cases w.heap[b]? with
 |none=>rfl
 |some o=>cases o<;>rfl
def iT (h:Array Obj) (b o:Nat) (us:List Value):Prop:= ∀i u,us[i]?=some u->hcell h b (o+i)=some u
inductive Rd (ro:Nat->Prop) (h:Array Obj):CK->D->Value->Prop where
 |int (k:IntKind) (n:Int):Rd ro h (.int k) (.i n) (.int k n)
 |bool (b:Bool):Rd ro h .bool (.i (if b then 1 else 0)) (.bool b)
 |str (s:ByteArray):Rd ro h .str (Bd s) (.string s)
 |nil (t:Nat):Rd ro h (.sl t) (.i 1) (.slice none 0 0)
 |non (t:Nat) (a:Addr) (cap:Nat):Rd ro h (.sl t) (.i 2) (.slice (some a) 0 cap)
 |one (t:Nat) (c:CK) (b o cap:Nat) (ds:List D) (f:Nat->Value) (hr:rowOf t= .one c) (hc:ds.length<=cap) (hb:ro b)
  (h1: ∀i d,ds[i]?=some d->hcell h b (o+i)=some (f i)) (h2: ∀i d,ds[i]?=some d->Rd ro h c d (f i)):Rd ro h (.sl t) (dL ds) (.slice (some ⟨b,o,none⟩) ds.length cap)
 |many (t:Nat) (cs:List CK) (b o cap:Nat) (rows:List (List D)) (f:Nat->Nat->Value) (hr:rowOf t= .many cs) (hc:rows.length<=cap) (hb:ro b) (hl: ∀r∈rows,r.length=cs.length)
  (h1: ∀i r j d,rows[i]?=some r->r[j]?=some d->hcell h b (o+i*cs.length+j)=some (f i j))
  (h2: ∀i r j d c,rows[i]?=some r->r[j]?=some d->cs[j]?=some c->Rd ro h c d (f i j)):Rd ro h (.sl t) (dL (rows.map dL)) (.slice (some ⟨b,o,none⟩) rows.length cap)
theorem Rd.one' {ro:Nat->Prop} {h:Array Obj} {c:CK} {d:D} {v:Value} (r:Rd ro h c d v):v.oneCell'=true:=by cases r<;>rfl
theorem Rd.keep {ro ro':Nat->Prop} {h h':Array Obj} (k1: ∀b,ro b->ro' b) (k2: ∀b,ro b->h'[b]?=h[b]?) {c:CK} {d:D} {v:Value} (r:Rd ro h c d v):Rd ro' h' c d v:=by
 have hk: ∀b o u,ro b->hcell h b o=some u->hcell h' b o=some u:=by intro b o u hb hu;unfold hcell at *;rw [k2 b hb];exact hu
 induction r with
 |int k n=>exact .int k n
 |bool b=>exact .bool b
 |str s=>exact .str s
 |nil t=>exact .nil t
 |non t a cap=>exact .non t a cap
 |one t c b o cap ds f hr hc hb h1 h2 ih=>exact .one t c b o cap ds f hr hc (k1 b hb) (fun i d hi=>hk _ _ _ hb (h1 i d hi)) ih
 |many t cs b o cap rows f hr hc hb hl h1 h2 ih=>exact .many t cs b o cap rows f hr hc (k1 b hb) hl (fun i r j d hi hj=>hk _ _ _ hb (h1 i r j d hi hj)) ih
def gJ (E:En) (id off len:Nat) (a:Addr) (cap:Nat):YI->Prop
 | .exact c=>cap=c/\((a=⟨(E.θ id).1,(E.θ id).2+off,none⟩)\/c=0)
 | .rest es=>(a=⟨(E.θ id).1,(E.θ id).2+off,none⟩/\off+cap*es=E.κ id)\/(cap=0/\len=0/\off=E.κ id)
mutual
def VR (E:En) (h:Array Obj):AV->Value->Prop
 | .bool b,v=>v= .bool (b.den E.ρ)
 | .int k e,v=>v= .int k (e.den E.ρ)
 | .str s,v=>v= .string (dH s)/\∀b∈s,b<256
 | .ptr id off,v=>v= .pointer (some ⟨(E.θ id).1,(E.θ id).2+off,none⟩)/\E.dm id
 | .lH,v=>v= .pointer none
 | .rY cs,v=> ∃b o us,v= .pointer (some ⟨b,o,none⟩)/\E.ro b/\bT E h cs us/\iT h b o us/\∀u∈us,u.oneCell'=true
 | .slice id off len c,v=>E.dm id/\∃a cap,v= .slice (some a) len cap/\len<=cap/\gJ E id off len a cap c
 | .aY,v=>v= .slice none 0 0
 | .ro cs n full,v=> ∃b o cap us,v= .slice (some ⟨b,o,none⟩) n cap/\n<=cap/\(full=true->cap=n)/\E.ro b/\bT E h cs us/\iT h b o us/\∀u∈us,u.oneCell'=true
 | .map id,v=>v= .map (some (E.θ id).1)/\E.dm id
 | .rO,v=>v= .map none
 | .func fn fs cs,v=> ∃us ws,v= .func fn us.toArray ws.toArray/\bT E h fs us/\bT E h cs ws
 | .Cb,v=>v= .nilFunc
 | .iface t x,v=> ∃u,v= .iface t u/\VR E h x u
 | .E5,v=>v= .nilIface
 | .agg cs,v=> ∃us,v= .agg us.toArray/\bT E h cs us
 | .tuple cs,v=> ∃us,v= .tuple us.toArray/\bT E h cs us
 | .opq _,_=>False
 | .emp,v=> ∃x,v= .slice x 0 0
 | .dat e t,v=>Rd E.ro h (.sl t) (dec (e.den E.ρ)) v
 | .nC e,v=>Rd E.ro h .str (dec (e.den E.ρ)) v
 | .sN id n t,v=>E.dm id/\∃(k:Nat) (a:Addr) (cap:Nat),n.den E.ρ=(k:Int)/\v= .slice (some a) k cap/\k<=cap/\gJ E id 0 k a cap (.rest (rowOf t).es)
 | .qV id es i off,v=>E.dm id/\∃k:Nat,i.den E.ρ=(k:Int)/\v= .pointer (some ⟨(E.θ id).1,(E.θ id).2+(k*es+off),none⟩)
 | .any,_=>True
 | .FP z t,v=>(∃x,v= .slice x 0 0)/\Rd E.ro h (.sl t) (dec (z.den E.ρ)) v
 | .A8 id lo n t,v=>E.dm id/\∃(l k:Nat) (a:Addr) (cap:Nat),lo.den E.ρ=(l:Int)/\n.den E.ρ=(k:Int)/\v= .slice (some a) k cap/\k<=cap/\gJ E id (l*(rowOf t).es) k a cap (.rest (rowOf t).es)
 | .inp k ks,v=>((∃x cap,v= .slice x 0 cap)/\E.ρ (900+k)=0)\/∃b o n cap,v= .slice (some ⟨b,o,none⟩) n cap/\n<=cap/\E.ρ (900+k)=(n:Int)/\E.ro b/\
  ∀i j kd,i<n->ks[j]?=some kd->hcell h b (o+i*ks.length+j)=some (.int kd (E.ρ (1000+i*64+(k*8+j))))
def bT (E:En) (h:Array Obj):List AV->List Value->Prop
 |[],us=>us= []
 |x::xs,us=> ∃u vs,us=u::vs/\VR E h x u/\bT E h xs vs
end
theorem lC {E:En} {h:Array Obj} {us:List Value}:bT E h [] us↔us= []:=by simp [bT]
theorem bC {E:En} {h:Array Obj} {x:AV} {xs:List AV} {us:List Value}:bT E h (x::xs) us↔∃u vs,us=u::vs/\VR E h x u/\bT E h xs vs:=by simp [bT]
theorem bT.length {E:En} {h:Array Obj}: ∀{xs:List AV} {us:List Value},bT E h xs us->us.length=xs.length
 |[],us,hh=>by rw [lC] at hh; simp [hh]
 |x::xs,us,hh=>by rw [bC] at hh;obtain⟨u,vs,rfl,_,h2⟩:=hh;simp [h2.length]
theorem bT.append {E:En} {h:Array Obj}: ∀{xs ys:List AV} {us vs:List Value},bT E h xs us->bT E h ys vs->bT E h (xs++ys) (us++vs)
 |[],_,us,vs,h1,h2=>by rw [lC] at h1; subst h1; simpa using h2
 |x::xs,ys,us,vs,h1,h2=>by rw [bC] at h1;obtain⟨u,us',rfl,hx,hxs⟩:=h1;simp only [aHM];rw [bC];exact⟨u,us'++vs,rfl,hx,hxs.append h2⟩
theorem bT.kR {E:En} {h:Array Obj}: ∀{n:Nat} {xs ys:List AV} {us:List Value},bT E h xs us->As.kR n xs=some ys->bT E h ys (us.take n)/\n<=xs.length
 |0,xs,ys,us,_,h2=>by simp [As.kR] at h2; subst h2; simp [bT]
 |n+1,[],ys,us,_,h2=>by simp [As.kR] at h2
 |n+1,x::xs,ys,us,h1,h2=>by
  rw [bC] at h1;obtain⟨u,vs,rfl,hx,hxs⟩:=h1;simp only [As.kR] at h2;split at h2
  ·rename_i l hl;simp at h2;subst h2;have:=hxs.kR hl;rw [aIc,bC];exact⟨⟨u,_,rfl,hx,this.1⟩,by simp; exact this.2⟩
  ·simp at h2
theorem bT.fZ {E:En} {h:Array Obj}: ∀{n:Nat} {xs ys:List AV} {us:List Value},bT E h xs us->As.fZ n xs=some ys->bT E h ys (us.drop n)/\n<=xs.length/\ys.length=xs.length-n
 |0,xs,ys,us,h1,h2=>by simp [As.fZ] at h2; subst h2; simpa using h1
 |n+1,[],ys,us,_,h2=>by simp [As.fZ] at h2
 |n+1,x::xs,ys,us,h1,h2=>by rw [bC] at h1;obtain⟨u,vs,rfl,hx,hxs⟩:=h1;simp only [As.fZ] at h2;have:=hxs.fZ h2;refine⟨by simpa using this.1,by simp; exact this.2.1,by simp; exact this.2.2⟩
theorem bT.nth {E:En} {h:Array Obj}: ∀{i:Nat} {xs:List AV} {x:AV} {us:List Value},bT E h xs us->iH xs i=some x->∃u,us[i]?=some u/\VR E h x u
 |_,[],_,us,_,h2=>by simp [iH] at h2
 |0,x::xs,y,us,h1,h2=>by rw [bC] at h1;obtain⟨u,vs,rfl,hx,hxs⟩:=h1;simp [iH] at h2;subst h2;exact⟨u,by simp,hx⟩
 |i+1,x::xs,y,us,h1,h2=>by rw [bC] at h1;obtain⟨u,vs,rfl,hx,hxs⟩:=h1;simp only [iH] at h2;obtain⟨v,h3,h4⟩:=hxs.nth h2;exact⟨v,by simpa using h3,h4⟩
def fQ (E:En) (h:Array Obj):List (AV×AV×Nat)->List MapEntry->Prop
 |[],es=>es= []
 |(k,v,b)::xs,es=> ∃e r,es=e::r/\VR E h k e.key/\VR E h v e.val/\b=b/\fQ E h xs r
def pJ (ro:Nat->Prop) (h:Array Obj) (t:Nat):List D->List MapEntry->Prop
 |[],es=>es= []
 |d::ds,es=> ∃e r,es=e::r/\d= .p (X9 d) (axN d)/\Rd ro h (mapOf t).1 (X9 d) e.key/\Rd ro h (mapOf t).2 (axN d) e.val/\pJ ro h t ds r
theorem pJ.keep {ro ro':Nat->Prop} {h h':Array Obj} (k1: ∀b,ro b->ro' b) (k2: ∀b,ro b->h'[b]?=h[b]?) {t:Nat}: ∀{ds:List D} {es:List MapEntry},pJ ro h t ds es->pJ ro' h' t ds es
 |[],_,hh=>hh
 |_::_,_,hh=>by obtain⟨e,r,h1,h2,h3,h4,h5⟩:=hh;exact⟨e,r,h1,h2,h3.keep k1 k2,h4.keep k1 k2,pJ.keep k1 k2 h5⟩
theorem pJ.length {ro:Nat->Prop} {h:Array Obj} {t:Nat}: ∀{ds:List D} {es:List MapEntry},pJ ro h t ds es->es.length=ds.length
 |[],_,hh=>by simp only [pJ] at hh; rw [hh]; rfl
 |_::_,_,hh=>by obtain⟨e,r,h1,_,_,_,h5⟩:=hh;rw [h1,aHq,aHq,pJ.length h5]
noncomputable def dX (ρ:Nat->Int) (i:Nat):List (SE×List AV)->Option (List AV)
 |[]=>none
 |(j,cs)::l=>if j.den ρ=(i:Int) then some cs else dX ρ i l
noncomputable def aK (ρ:Nat->Int) (r:Row) (ov:List (SE×List AV)):List D->Nat->List AV
 |[],_=>[]
 |d::ds,i=>(match dX ρ i ov with |some cs=>cs|none=>jP r (.dat d))++aK ρ r ov ds (i+1)
def BR (r:Row) (ov:List (SE×List AV)):Prop:= ∀p∈ov,p.2.length=r.es
def OR (E:En) (h:Array Obj) (id:Nat):eP->Prop
 | .cells cs e=> ∃arr lo hi us,h[(E.θ id).1]?=some (.cells arr e (lo,hi))/\bT E h cs us/\(∀i u,us[i]?=some u->arr[(E.θ id).2+i]?=some u)/\
  cs.length<=E.κ id/\(E.θ id).2+E.κ id=arr.size/\(∀o,lo<=o->o<hi->arr.size<=o)/\(∀u∈us,u.oneCell'=true)
 | .map es _=> ∃ents c,h[(E.θ id).1]?=some (.map ents c)/\fQ E h es ents.toList
 | .vec e t ty ov=>(BR (rowOf t) ov/\Dl (rowOf t) (dec (e.den E.ρ)))/\∃arr lo hi us,h[(E.θ id).1]?=some (.cells arr ty (lo,hi))/\bT E h (aK E.ρ (rowOf t) ov (dec (e.den E.ρ)).l 0) us/\(∀i u,us[i]?=some u->arr[(E.θ id).2+i]?=some u)/\
  (aK E.ρ (rowOf t) ov (dec (e.den E.ρ)).l 0).length<=E.κ id/\(E.θ id).2+E.κ id=arr.size/\(∀o,lo<=o->o<hi->arr.size<=o)/\(∀u∈us,u.oneCell'=true)
 | .oQ s p=>h[(E.θ id).1]?=some (.stringIter (dH s) p)/\(E.θ id).2=0/\∀b∈s,b<256
 | .jF e t=> ∃ents c,h[(E.θ id).1]?=some (.map ents c)/\pJ E.ro h t (dec (e.den E.ρ)).l ents.toList
class Glob where
 ok:(Nat->Int)->(Nat->Prop)->Array Obj->Prop
 keep: ∀{ρ:Nat->Int} {ro ro':Nat->Prop} {h h':Array Obj},ok ρ ro h->(∀b,ro b->ro' b)->(∀b,ro b->h'[b]?=h[b]?)->ok ρ ro' h'
 ren: ∀{ρ ρ':Nat->Int} {ro:Nat->Prop} {h:Array Obj},ok ρ ro h->(∀i,900<=i->ρ' i=ρ i)->ok ρ' ro h
structure bG [Glob] (E:En) (H:Hp) (w:World):Prop where
 fresh: ∀id,H.next<=id->¬E.dm id
 res: ∀r,H.res=some r->r<H.next/\¬E.dm r
 live: ∀id o,H.get id=some o->E.dm id/\OR E w.heap id o/\¬E.ro (E.θ id).1
 inj: ∀id id' o o',H.get id=some o->H.get id'=some o'->(E.θ id).1=(E.θ id').1->id=id'
 BO: ∀b,E.ro b->b<w.heap.size
 glob:Glob.ok E.ρ E.ro w.heap
structure Stp (E:En) (H:Hp) (w:World) (E':En) (H':Hp) (w':World):Prop where
 ρ:E'.ρ=E.ρ
 dm: ∀id,E.dm id->E'.dm id
 θ: ∀id,E.dm id->E'.θ id=E.θ id
 κ: ∀id,E.dm id->E'.κ id=E.κ id
 ro: ∀b,E.ro b->E'.ro b
 JF: ∀b,E'.ro b->E.ro b\/(∃id o,H.get id=some o/\(E.θ id).1=b)\/w.heap.size<=b
 nxm:H.next<=H'.next
 rsm:H'.res=none\/H'.res=H.res
 dmn: ∀id,E'.dm id->E.dm id\/(H.next<=id/\id<H'.next)\/H.res=some id
 os:w'.os=w.os
 tape:w'.tape=w.tape
 output:w'.output=w.output
 size:w.heap.size<=w'.heap.size
 keep: ∀b,b<w.heap.size->(∀id o,H.get id=some o->(E.θ id).1≠b)->w'.heap[b]?=w.heap[b]?
 own: ∀id o,H'.get id=some o->(E'.θ id).1<w.heap.size->∃Ej o0,H.get Ej=some o0/\(E.θ Ej).1=(E'.θ id).1
theorem Stp.refl (E:En) (H:Hp) (w:World):Stp E H w E H w:=
 ⟨rfl,fun _ h=>h,fun _ _=>rfl,fun _ _=>rfl,fun _ h=>h,fun _ h=> .inl h,aHh _,.inr rfl,fun _ h=> .inl h,rfl,rfl,rfl,aHh _,fun _ _ _=>rfl,fun id o h _=> ⟨id,o,h,rfl⟩⟩
theorem Stp.trans {E E1 E2:En} {H H1 H2:Hp} {w w1 w2:World} (a:Stp E H w E1 H1 w1) (b:Stp E1 H1 w1 E2 H2 w2):Stp E H w E2 H2 w2 where
 ρ:=b.ρ.trans a.ρ
 dm:=fun id h=>b.dm id (a.dm id h)
 θ:=fun id h=>(b.θ id (a.dm id h)).trans (a.θ id h)
 κ:=fun id h=>(b.κ id (a.dm id h)).trans (a.κ id h)
 ro:=fun x h=>b.ro x (a.ro x h)
 JF:=fun x h=>by
  rcases b.JF x h with h|⟨id,o,h1,h2⟩|h
  ·exact a.JF x h
  ·rcases aHw x w.heap.size with hx|hx
   ·obtain⟨Ej,o0,h3,h4⟩:=a.own id o h1 (by rw [h2]; exact hx);exact .inr (.inl ⟨Ej,o0,h3,h4.trans h2⟩)
   ·exact .inr (.inr hx)
  ·exact .inr (.inr (aHP a.size h))
 nxm:=aHP a.nxm b.nxm
 rsm:=by
  rcases b.rsm with h|h
  ·exact .inl h
  ·rw [h]; exact a.rsm
 dmn:=fun id h=>by
  rcases b.dmn id h with h|h|h
  ·rcases a.dmn id h with h|h|h
   ·exact .inl h
   ·exact .inr (.inl ⟨h.1,aIe h.2 b.nxm⟩)
   ·exact .inr (.inr h)
  ·exact .inr (.inl ⟨aHP a.nxm h.1,h.2⟩)
  ·rcases a.rsm with h'|h'
   ·rw [h'] at h; simp at h
   ·exact .inr (.inr (h'.symm.trans h))
 os:=b.os.trans a.os
 tape:=b.tape.trans a.tape
 output:=b.output.trans a.output
 size:=aHP a.size b.size
 keep:=fun x hx hn=>by rw [b.keep x (aIe hx a.size) ?_,a.keep x hx hn];intro id o ho he;obtain⟨Ej,o0,h0,he0⟩:=a.own id o ho (by rw [he]; exact hx);exact hn Ej o0 h0 (he0.trans he)
 own:=fun id o ho hlt=>by obtain⟨id1,o1,h1,he1⟩:=b.own id o ho (aIe hlt a.size);obtain⟨Ej,o0,h0,he0⟩:=a.own id1 o1 h1 (by rw [he1]; exact hlt);exact⟨Ej,o0,h0,he0.trans he1⟩
structure Keeps (E:En) (h:Array Obj) (E':En) (h':Array Obj):Prop where
 ρ:E'.ρ=E.ρ
 dm: ∀id,E.dm id->E'.dm id
 θ: ∀id,E.dm id->E'.θ id=E.θ id
 κ: ∀id,E.dm id->E'.κ id=E.κ id
 ro: ∀b,E.ro b->E'.ro b
 MW: ∀b,E.ro b->h'[b]?=h[b]?
theorem Stp.keeps [Glob] {E E':En} {H H':Hp} {w w':World} (s:Stp E H w E' H' w') (r:bG E H w):Keeps E w.heap E' w'.heap:=
 ⟨s.ρ,s.dm,s.θ,s.κ,s.ro,fun b hb=>s.keep b (r.BO b hb) fun id o ho he=>(r.live id o ho).2.2 (by rw [he]; exact hb)⟩
theorem iT.keep {E E':En} {h h':Array Obj} (k:Keeps E h E' h') {b o:Nat} {us:List Value} (hb:E.ro b) (hc:iT h b o us):iT h' b o us:=by intro i u hu;have:=hc i u hu;unfold hcell at *;rw [k.MW b hb];exact this
theorem gJ.keep {E E':En} {h h':Array Obj} (k:Keeps E h E' h') {id off len:Nat} {a:Addr} {cap:Nat} {c:YI} (hid:E.dm id) (hc:gJ E id off len a cap c):gJ E' id off len a cap c:=by
 cases c<;>simp only [gJ] at*<;>rw [k.θ id hid]
 ·exact hc
 ·rw [k.κ id hid]; exact hc
mutual
theorem VR.keep {E E':En} {h h':Array Obj} (k:Keeps E h E' h'): ∀(x:AV) (v:Value),VR E h x v->VR E' h' x v
 | .bool b,v,hv=>by simp only [VR] at *; rw [k.ρ]; exact hv
 | .int _ e,v,hv=>by simp only [VR] at *; rw [k.ρ]; exact hv
 | .str s,v,hv=>by simp only [VR] at *; exact hv
 | .ptr id off,v,hv=>by simp only [VR] at *; rw [k.θ id hv.2]; exact⟨hv.1,k.dm _ hv.2⟩
 | .lH,v,hv=>by simp only [VR] at *; exact hv
 | .rY cs,v,hv=>by simp only [VR] at *;obtain⟨b,o,us,h1,h2,h3,h4,h5⟩:=hv;exact⟨b,o,us,h1,k.ro b h2,bT.keep k cs us h3,h4.keep k h2,h5⟩
 | .slice id off len c,v,hv=>by simp only [VR] at *;obtain⟨h1,a,cap,h2,h3,h4⟩:=hv;exact⟨k.dm _ h1,a,cap,h2,h3,h4.keep k h1⟩
 | .aY,v,hv=>by simp only [VR] at *; exact hv
 | .ro cs n full,v,hv=>by simp only [VR] at *;obtain⟨b,o,cap,us,h1,h2,h3,h4,h5,h6,h7⟩:=hv;exact⟨b,o,cap,us,h1,h2,h3,k.ro b h4,bT.keep k cs us h5,h6.keep k h4,h7⟩
 | .map id,v,hv=>by simp only [VR] at *; rw [k.θ id hv.2]; exact⟨hv.1,k.dm _ hv.2⟩
 | .rO,v,hv=>by simp only [VR] at *; exact hv
 | .func fn fs cs,v,hv=>by simp only [VR] at *;obtain⟨us,ws,h1,h2,h3⟩:=hv;exact⟨us,ws,h1,bT.keep k fs us h2,bT.keep k cs ws h3⟩
 | .Cb,v,hv=>by simp only [VR] at *; exact hv
 | .iface t x,v,hv=>by simp only [VR] at *;obtain⟨u,h1,h2⟩:=hv;exact⟨u,h1,VR.keep k x u h2⟩
 | .E5,v,hv=>by simp only [VR] at *; exact hv
 | .agg cs,v,hv=>by simp only [VR] at *;obtain⟨us,h1,h2⟩:=hv;exact⟨us,h1,bT.keep k cs us h2⟩
 | .tuple cs,v,hv=>by simp only [VR] at *;obtain⟨us,h1,h2⟩:=hv;exact⟨us,h1,bT.keep k cs us h2⟩
 | .opq _,v,hv=>by simp only [VR] at hv
 | .emp,v,hv=>by simp only [VR] at *; exact hv
 | .dat e t,v,hv=>by simp only [VR] at *; rw [k.ρ]; exact hv.keep k.ro k.MW
 | .nC e,v,hv=>by simp only [VR] at *; rw [k.ρ]; exact hv.keep k.ro k.MW
 | .sN id n t,v,hv=>by simp only [VR] at *;obtain⟨h1,m,a,cap,h2,h3,h4,h5⟩:=hv;exact⟨k.dm _ h1,m,a,cap,by rw [k.ρ]; exact h2,h3,h4,h5.keep k h1⟩
 | .any,_,_=>by simp only [VR]
 | .FP z t,v,hv=>by simp only [VR] at *; rw [k.ρ]; exact⟨hv.1,hv.2.keep k.ro k.MW⟩
 | .A8 id lo n t,v,hv=>by simp only [VR] at *;obtain⟨h1,l,m,a,cap,h2,h3,h4,h5,h6⟩:=hv;exact⟨k.dm _ h1,l,m,a,cap,by rw [k.ρ]; exact h2,by rw [k.ρ]; exact h3,h4,h5,h6.keep k h1⟩
 | .qV id es i off,v,hv=>by simp only [VR] at *;obtain⟨h1,m,h2,h3⟩:=hv;exact⟨k.dm _ h1,m,by rw [k.ρ]; exact h2,by rw [k.θ id h1]; exact h3⟩
 | .inp kk ks,v,hv=>by
   simp only [VR] at *;rw [k.ρ];rcases hv with hv|⟨b,o,n,cap,h1,h2,h3,h4,h5⟩
   ·exact .inl hv
   ·refine .inr ⟨b,o,n,cap,h1,h2,h3,k.ro b h4,fun i j kd hi hj=>?_⟩;have:=h5 i j kd hi hj;unfold hcell at *;rw [k.MW b h4];exact this
theorem bT.keep {E E':En} {h h':Array Obj} (k:Keeps E h E' h'): ∀(xs:List AV) (us:List Value),bT E h xs us->bT E' h' xs us
 |[],us,hv=>by simp only [bT] at *; exact hv
 |x::xs,us,hv=>by simp only [bT] at *;obtain⟨u,vs,h1,h2,h3⟩:=hv;exact⟨u,vs,h1,VR.keep k x u h2,bT.keep k xs vs h3⟩
end
theorem fQ.keep {E E':En} {h h':Array Obj} (k:Keeps E h E' h'): ∀(xs:List (AV×AV×Nat)) (es:List MapEntry),fQ E h xs es->fQ E' h' xs es
 |[],es,hv=>by simp only [fQ] at *; exact hv
 |(a,b,c)::xs,es,hv=>by simp only [fQ] at *;obtain⟨e,r,h1,h2,h3,h4,h5⟩:=hv;exact⟨e,r,h1,VR.keep k _ _ h2,VR.keep k _ _ h3,h4,fQ.keep k xs r h5⟩
theorem OR.keep {E E':En} {h h':Array Obj} (k:Keeps E h E' h') {id:Nat} {o:eP} (hid:E.dm id) (hb:h'[(E.θ id).1]?=h[(E.θ id).1]?) (ho:OR E h id o):OR E' h' id o:=by
 cases o with
 |cells cs e=> simp only [OR] at *;obtain⟨arr,lo,hi,us,h1,h2,h3,h4,h5,h6,h7⟩:=ho;rw [k.θ id hid,k.κ id hid,hb];exact⟨arr,lo,hi,us,h1,bT.keep k cs us h2,h3,h4,h5,h6,h7⟩
 |map es c=> simp only [OR] at *;obtain⟨ents,c,h1,h2⟩:=ho;rw [k.θ id hid,hb];exact⟨ents,c,h1,fQ.keep k es _ h2⟩
 |oQ s p=> simp only [OR] at *;rw [k.θ id hid,hb];exact ho
 |jF e t=> simp only [OR] at *;obtain⟨ents,c,h1,h2⟩:=ho;rw [k.θ id hid,hb,k.ρ];exact⟨ents,c,h1,h2.keep k.ro k.MW⟩
 |vec e t ty ov=> simp only [OR] at *;obtain⟨h0,arr,lo,hi,us,h1,h2,h3,h4,h5,h6,h7⟩:=ho;rw [k.θ id hid,k.κ id hid,hb,k.ρ];exact⟨h0,arr,lo,hi,us,h1,bT.keep k _ us h2,h3,h4,h5,h6,h7⟩
end Go.As
end
section
namespace Go.As
theorem Hp.get_put (h:Hp) (i:Nat) (o:eP) (j:Nat):(h.put i o).get j=if j=i then some o else h.get j:=by simp [Hp.get,Hp.put,Tr.get_put]
theorem Hp.jB (h:Hp) (o:eP) (j:Nat):(h.new o).get j=if j=h.fresh then some o else h.get j:=by unfold Hp.new Hp.fresh;cases h.res<;>simp [Hp.get,Tr.get_put]
theorem bG.atF [Glob] {E:En} {H:Hp} {w:World} (r:bG E H w): ¬E.dm H.fresh:=by
 unfold Hp.fresh
 cases hr:H.res with
 |none=>exact r.fresh _ (aHh _)
 |some x=>exact (r.res x hr).2
theorem bG.Ba [Glob] {E:En} {H:Hp} {w:World} (r:bG E H w) {i:Nat} (h:E.dm i):i≠H.fresh:=fun e=>r.atF (e▸h)
theorem Hp.uG (h:Hp) (i j:Nat):(h.drop i).get j=if j=i then none else h.get j:=by simp [Hp.get,Hp.drop,Tr.get_put]
def En.ext (E:En) (n:Nat) (p:Nat×Nat) (c:Nat):En:=
 { E with θ:=fun i=>if i=n then p else E.θ i,κ:=fun i=>if i=n then c else E.κ i,dm:=fun i=>i=n\/E.dm i }
theorem En.ext_θ_new (E:En) (n:Nat) (p:Nat×Nat) (c:Nat):(E.ext n p c).θ n=p:=by simp [En.ext]
theorem En.ext_κ_new (E:En) (n:Nat) (p:Nat×Nat) (c:Nat):(E.ext n p c).κ n=c:=by simp [En.ext]
theorem En.jZ (E:En) (n:Nat) (p:Nat×Nat) (c:Nat):(E.ext n p c).dm n:=.inl rfl
theorem En.ext_θ (E:En) (n:Nat) (p:Nat×Nat) (c:Nat) {i:Nat} (h:i≠n):(E.ext n p c).θ i=E.θ i:=by simp [En.ext,h]
theorem En.ext_κ (E:En) (n:Nat) (p:Nat×Nat) (c:Nat) {i:Nat} (h:i≠n):(E.ext n p c).κ i=E.κ i:=by simp [En.ext,h]
theorem Tc [Glob] {E:En} {H:Hp} {w:World} (r:bG E H w) (p:Nat×Nat) (c:Nat) (o:eP):(∀id,(H.new o).next<=id->¬(E.ext H.fresh p c).dm id)/\∀q,(H.new o).res=some q->q<(H.new o).next/\¬(E.ext H.fresh p c).dm q:=by
 have h1:=r.fresh;have h2:=r.res;unfold Hp.new Hp.fresh
 cases hr:H.res with
 |none=>
  refine⟨fun id hid hd=>?_,by simp⟩;simp at hid;rcases hd with hd|hd
  ·have hd:id=H.next:=hd;omega
  ·exact h1 id (by omega) hd
 |some q=>
  refine⟨fun id hid hd=>?_,by simp⟩;simp at hid;have:=h2 q hr;rcases hd with hd|hd
  ·have hd:id=q:=hd;omega
  ·exact h1 id (by omega) hd
theorem yR (H:Hp) (o:eP):H.next<=(H.new o).next/\((H.new o).res=none\/(H.new o).res=H.res)/\∀id,id=H.fresh->(H.next<=id/\id<(H.new o).next)\/H.res=some id:=by
 unfold Hp.new Hp.fresh
 cases hr:H.res with
 |none=>exact⟨Nat.le_succ _,.inl rfl,fun id e=> .inl ⟨by have e:id=H.next:=e; omega,by have e:id=H.next:=e; show id<H.next+1; omega⟩⟩
 |some q=>exact⟨aHh _,.inl rfl,fun id e=> .inr (by have e:id=q:=e; rw [e])⟩
structure Alike (w w':World):Prop where
 os:w'.os=w.os
 tape:w'.tape=w.tape
 output:w'.output=w.output
theorem Nr {h:Array Obj} {o:Obj} {b:Nat} (hb:b<h.size):(h.push o)[b]?=h[b]?:=by rw [Array.getElem?_push,aHc (by omega)]
theorem N7 [Glob] {E:En} {H:Hp} {w:World} (r:bG E H w) (p:Nat×Nat) (c:Nat) (o:Obj):Keeps E w.heap (E.ext H.fresh p c) (w.heap.push o):=
 ⟨rfl,fun _ h=> .inr h,fun _ h=>En.ext_θ E _ p c (r.Ba h),fun _ h=>En.ext_κ E _ p c (r.Ba h),fun _ h=>h,fun b hb=>Nr (r.BO b hb)⟩
theorem jS [Glob] {E:En} {H:Hp} {w:World} (r:bG E H w) {id:Nat} {o:eP} (h:H.get id=some o):(E.θ id).1<w.heap.size:=by
 have h2:=(r.live id o h).2.1
 cases o with
 |cells cs e=> obtain⟨arr,lo,hi,us,h1,_⟩:=h2;exact (aHN.1 h1).1
 |map es c=> obtain⟨ents,c',h1,_⟩:=h2;exact (aHN.1 h1).1
 |oQ s p=>exact (aHN.1 h2.1).1
 |jF e t=> obtain⟨ents,c',h1,_⟩:=h2;exact (aHN.1 h1).1
 |vec e t ty ov=> obtain⟨_,arr,lo,hi,us,h1,_⟩:=h2;exact (aHN.1 h1).1
theorem Gp [Glob] {E:En} {H:Hp} {w w':World} (r:bG E H w) (o:Obj) (ao:eP) (c:Nat) (hw:w'.heap=w.heap.push o) (al:Alike w w')
 (ho:OR (E.ext H.fresh (w.heap.size,0) c) w'.heap H.fresh ao) :
 Stp E H w (E.ext H.fresh (w.heap.size,0) c) (H.new ao) w'/\bG (E.ext H.fresh (w.heap.size,0) c) (H.new ao) w':=by
 have k:=N7 r (w.heap.size,0) c o;rw [<- hw] at k;have hf:=Tc r (w.heap.size,0) c ao;refine⟨⟨k.ρ,k.dm,k.θ,k.κ,k.ro,fun _ h=> .inl h,(yR H ao).1,(yR H ao).2.1,fun id h=>h.elim (fun e=> .inr ((yR H ao).2.2 id e)) .inl,al.os,al.tape,al.output,by rw [hw]; simp,fun b hb _=>by rw [hw,Nr hb],?_⟩,⟨hf.1,hf.2,?_,?_,?_,Glob.keep r.glob k.ro k.MW⟩⟩
 ·intro id o2 h2 hlt;rw [Hp.jB] at h2;split at h2
  ·rename_i he;rw [he,En.ext_θ_new] at hlt;simp at hlt
  ·have h3:=(r.live id o2 h2).1;exact⟨id,o2,h2,by rw [En.ext_θ _ _ _ _ (r.Ba h3)]⟩
 ·intro id o2 h2;rw [Hp.jB] at h2;split at h2
  ·rename_i he;simp at h2;subst h2;rw [he,En.ext_θ_new];refine⟨En.jZ _ _ _ _,ho,fun hr=>?_⟩;have:=r.BO _ hr;simp at this
  ·obtain⟨h3,h4,h5⟩:=r.live id o2 h2;refine⟨.inr h3,h4.keep k h3 ?_,?_⟩
   ·rw [hw,Nr (jS r h2)]
   ·rw [En.ext_θ _ _ _ _ (r.Ba h3)]; exact h5
 ·intro id id' o1 o2 h1 h2 he;rw [Hp.jB] at h1 h2;split at h1<;>split at h2
  ·omega
  ·rename_i e1 _;have h3:=(r.live id' o2 h2).1;rw [e1,En.ext_θ_new,En.ext_θ _ _ _ _ (r.Ba h3)] at he;have:=jS r h2;simp only at he;omega
  ·rename_i _ e1;have h3:=(r.live id o1 h1).1;rw [e1,En.ext_θ_new,En.ext_θ _ _ _ _ (r.Ba h3)] at he;have:=jS r h1;simp only at he;omega
  ·have h3:=(r.live id o1 h1).1;have h4:=(r.live id' o2 h2).1;rw [En.ext_θ _ _ _ _ (r.Ba h3),En.ext_θ _ _ _ _ (r.Ba h4)] at he;exact r.inj id id' o1 o2 h1 h2 he
 ·intro b hb;have:=r.BO b hb;rw [hw];simp;omega
theorem tZ [Glob] {E:En} {H:Hp} {w w':World} (r:bG E H w) {id:Nat} {o:eP} (hl:H.get id=some o)
 (hother: ∀b,b≠(E.θ id).1->w'.heap[b]?=w.heap[b]?):Keeps E w.heap E w'.heap:=
 ⟨rfl,fun _ h=>h,fun _ _=>rfl,fun _ _=>rfl,fun _ h=>h,fun b hb=>hother b fun e=>(r.live id o hl).2.2 (by rw [<- e]; exact hb)⟩
theorem Xb [Glob] {E:En} {H:Hp} {w w':World} (r:bG E H w) {id:Nat} {o:eP} (hl:H.get id=some o) (ao:eP)
 (hsize:w'.heap.size=w.heap.size) (hother: ∀b,b≠(E.θ id).1->w'.heap[b]?=w.heap[b]?) (al:Alike w w') (ho:OR E w'.heap id ao) :
 Stp E H w E (H.put id ao) w'/\bG E (H.put id ao) w':=by
 have k:=tZ r hl hother;refine⟨⟨rfl,fun _ h=>h,fun _ _=>rfl,fun _ _=>rfl,fun _ h=>h,fun _ h=> .inl h,aHh _,.inr rfl,fun _ h=> .inl h,al.os,al.tape,al.output,by omega,?_,?_⟩,⟨r.fresh,r.res,?_,?_,?_,Glob.keep r.glob k.ro k.MW⟩⟩
 ·intro b _ hn;exact hother b fun e=>hn id o hl e.symm
 ·intro j o2 h2 _;rw [Hp.get_put] at h2;split at h2
  ·rename_i e; subst e; exact⟨j,o,hl,rfl⟩
  ·exact⟨j,o2,h2,rfl⟩
 ·intro j o2 h2;rw [Hp.get_put] at h2;split at h2
  ·rename_i e;subst e;simp at h2;subst h2;exact⟨(r.live j o hl).1,ho,(r.live j o hl).2.2⟩
  ·rename_i e;obtain⟨h3,h4,h5⟩:=r.live j o2 h2;refine⟨h3,h4.keep k h3 (hother _ fun e2=>e (r.inj j id o2 o h2 hl e2)),h5⟩
 ·intro i j o1 o2 h1 h2 he;rw [Hp.get_put] at h1 h2;split at h1<;>split at h2
  ·omega
  ·rename_i e1 _; subst e1; exact r.inj i j o o2 hl h2 he
  ·rename_i _ e1; subst e1; exact r.inj i j o1 o h1 hl he
  ·exact r.inj i j o1 o2 h1 h2 he
 ·intro b hb;rw [hsize];exact r.BO b hb
theorem drop_step [Glob] {E:En} {H:Hp} {w:World} (r:bG E H w) (id:Nat):Stp E H w E (H.drop id) w/\bG E (H.drop id) w:=by
 have hg: ∀j o,(H.drop id).get j=some o->H.get j=some o:=by
  intro j o h;rw [Hp.uG] at h;split at h
  ·simp at h
  ·exact h
 exact⟨⟨rfl,fun _ h=>h,fun _ _=>rfl,fun _ _=>rfl,fun _ h=>h,fun _ h=> .inl h,aHh _,.inr rfl,fun _ h=> .inl h,rfl,rfl,rfl,aHh _,fun _ _ _=>rfl,fun j o h _=> ⟨j,o,hg j o h,rfl⟩⟩,
  ⟨r.fresh,r.res,fun j o h=>r.live j o (hg j o h),fun i j o1 o2 h1 h2 he=>r.inj i j o1 o2 (hg _ _ h1) (hg _ _ h2) he,r.BO,r.glob⟩⟩
theorem Zx [Glob] {E:En} {H:Hp} {w w':World} (r:bG E H w) {id:Nat} {o:eP} (hl:H.get id=some o) (ao:eP) (off c:Nat)
 (hsize:w'.heap.size=w.heap.size) (hother: ∀b,b≠(E.θ id).1->w'.heap[b]?=w.heap[b]?) (al:Alike w w')
 (ho:OR (E.ext H.fresh ((E.θ id).1,(E.θ id).2+off) c) w'.heap H.fresh ao) :
 Stp E H w (E.ext H.fresh ((E.θ id).1,(E.θ id).2+off) c) ((H.drop id).new ao) w'/\bG (E.ext H.fresh ((E.θ id).1,(E.θ id).2+off) c) ((H.drop id).new ao) w':=by
 have hdn:(H.drop id).fresh=H.fresh:=rfl;have hf:=Tc (drop_step r id).2 ((E.θ id).1,(E.θ id).2+off) c ao;rw [hdn] at hf
 have k:Keeps E w.heap (E.ext H.fresh ((E.θ id).1,(E.θ id).2+off) c) w'.heap:=
  ⟨rfl,fun _ h=> .inr h,fun _ h=>En.ext_θ E _ _ c (r.Ba h),fun _ h=>En.ext_κ E _ _ c (r.Ba h),fun _ h=>h,(tZ r hl hother).MW⟩
 have hg: ∀j o2,((H.drop id).new ao).get j=some o2->(j=H.fresh/\o2=ao)\/(j≠id/\H.get j=some o2):=by
  intro j o2 h;rw [Hp.jB,hdn] at h;split at h
  ·rename_i e; simp at h; exact .inl ⟨e,h.symm⟩
  ·rw [Hp.uG] at h;split at h
   ·simp at h
   ·rename_i e; exact .inr ⟨e,h⟩
 refine⟨⟨rfl,k.dm,k.θ,k.κ,k.ro,fun _ h=> .inl h,(yR (H.drop id) ao).1,(yR (H.drop id) ao).2.1,fun j h=>h.elim (fun e=> .inr ((yR (H.drop id) ao).2.2 j e)) .inl,al.os,al.tape,al.output,by omega,?_,?_⟩,⟨hf.1,hf.2,?_,?_,?_,Glob.keep r.glob k.ro k.MW⟩⟩
 ·intro b _ hn;exact hother b fun e=>hn id o hl e.symm
 ·intro j o2 h2 hlt;rcases hg j o2 h2 with ⟨rfl,rfl⟩|⟨_,h3⟩
  ·exact⟨id,o,hl,by rw [En.ext_θ_new]⟩
  ·have:=(r.live j o2 h3).1;exact⟨j,o2,h3,by rw [En.ext_θ _ _ _ _ (r.Ba this)]⟩
 ·intro j o2 h2;rcases hg j o2 h2 with ⟨rfl,rfl⟩|⟨hne,h3⟩
  ·rw [En.ext_θ_new];exact⟨En.jZ _ _ _ _,ho,(r.live id o hl).2.2⟩
  ·obtain⟨h4,h5,h6⟩:=r.live j o2 h3;refine⟨.inr h4,h5.keep k h4 (hother _ fun e=>hne (r.inj j id o2 o h3 hl e)),?_⟩;rw [En.ext_θ _ _ _ _ (r.Ba h4)]; exact h6
 ·intro i j o1 o2 h1 h2 he;rcases hg i o1 h1 with ⟨e1,_⟩|⟨e1,h3⟩ <;>rcases hg j o2 h2 with ⟨e2,_⟩|⟨e2,h4⟩
  ·omega
  ·have:=(r.live j o2 h4).1;rw [e1,En.ext_θ_new,En.ext_θ _ _ _ _ (r.Ba this)] at he;exact absurd (r.inj id j o o2 hl h4 he).symm e2
  ·have:=(r.live i o1 h3).1;rw [e2,En.ext_θ_new,En.ext_θ _ _ _ _ (r.Ba this)] at he;exact absurd (r.inj i id o1 o h3 hl he) e1
  ·have h5:=(r.live i o1 h3).1;have h6:=(r.live j o2 h4).1;rw [En.ext_θ _ _ _ _ (r.Ba h5),En.ext_θ _ _ _ _ (r.Ba h6)] at he;exact r.inj i j o1 o2 h3 h4 he
 ·intro b hb;rw [hsize];exact r.BO b hb
def U4:Value->Bool
 | .agg _=>true
 |_=>false
def ajO (P:Program):TypeDesc->Option TK
 | .bool=>some .bool
 | .int k=>some (.int k)
 | .string=>some .string
 | .pointer e=>some (.pointer e)
 | .slice e=>some (.slice e)
 | .array n e=>some (.array n e)
 | .map k e=>some (.map k e)
 | .struct fs=>(fs.toList.mapM fun f=>(P.info? f.type).map fun i=>(f.offset,f.type,i.size)).map .struct
 | .func _ _ _=>some .func
 | .interface ms=>some (.iface ms.isEmpty)
 | .tuple _=>some .tuple
 |_=>none
def apA (P:Program) (t:Nat):Bool:=
 match P.underlying t with
 |some (.struct fs)=>!P.stoodInHeld t&&!P.eqGuardType P.depth t&&fs.toList.all fun f=>f.name != "_"&&(match P.underlying f.type with |some .bool|some .string|some (.int _)=>true|_=>false)
 |_=>false
def aDJ (i:TypeInfo) (z:Value) (k:TK) (q:Bool):Option TI:=
 match oL z.cells.toList with
 |some zs=>if U4 z=k.agg then some { kind:=k,size:=i.size,bytes:=i.bytes,zero:=zs,eqs:=q } else none
 |none=>none
def atM (P:Program) (t:Nat):Option TI:=
 match P.info? t with
 |none=>none
 |some i=>match P.underlying t with
  |none=>none
  |some d=>match ajO P d with
   |none=>none
   |some k=>match i.zero with
    |none=>none
    |some z=>aDJ i z k (apA P t)
theorem gQ (b o n:Nat):(⟨b,o,none⟩ : Addr).add n=⟨b,o+n,none⟩:=by unfold Addr.add; split<;>simp_all
def TV (P:Program):TypeDesc->TK->Prop
 | .bool,.bool=>True
 | .int k,.int k'=>k=k'
 | .string,.string=>True
 | .pointer e,.pointer e'=>e=e'
 | .slice e,.slice e'=>e=e'
 | .array n e,.array n' e'=>n=n'/\e=e'
 | .map k e,.map k' e'=>k=k'/\e=e'
 | .struct fs,.struct l=>(fs.toList.mapM fun f=>(P.info? f.type).map fun i=>(f.offset,f.type,i.size))=some l
 | .func _ _ _,.func=>True
 | .interface _,.iface _=>True
 | .tuple _,.tuple=>True
 |_,_=>False
structure rQ (P:Program) (t:Nat) (i:TI):Prop where
 eqs:i.eqs=true->apA P t=true
 all: ∃inf d z,P.info? t=some inf/\P.underlying t=some d/\inf.zero=some z/\oL z.cells.toList=some i.zero/\inf.size=i.size/\inf.bytes=i.bytes/\TV P d i.kind/\U4 z=i.agg
def fE (P:Program) (tt:TT):Prop:= ∀t i,tt t=some i->rQ P t i
theorem atK {P:Program} {d:TypeDesc} {k:TK} (h:ajO P d=some k):TV P d k:=by
 cases d
 case struct fs=>
  simp only [ajO,aHy] at h;obtain⟨l,h1,rfl⟩:=h;exact h1
 all_goals first
  |(simp only [ajO,aHe] at h; subst h; simp [TV]; done)
  |(simp [ajO] at h; done)
theorem atL {P:Program} {t:Nat} {i:TI} (h:atM P t=some i):rQ P t i:=by
 unfold atM at h;split at h
 ·simp at h
 ·rename_i inf h1;split at h
  ·simp at h
  ·rename_i d h2;split at h
   ·simp at h
   ·rename_i k hk;split at h
    ·simp at h
    ·rename_i z h3;unfold aDJ at h;split at h
     ·rename_i zs h4;split at h
      ·rename_i ha;simp only [aHe] at h;subst h;exact⟨fun hq=>hq,inf,d,z,h1,h2,h3,h4,rfl,rfl,atK hk,ha⟩
      ·simp at h
     ·simp at h
theorem oI (s:ByteArray):dH (bytesOf s)=s:=by
 unfold dH bytesOf
 have:(List.map UInt8.ofNat (List.map (fun x=>x.toNat) s.data.toList))=s.data.toList:=by
  rw [aIy]
  conv=>rhs; rw [<- aI7 s.data.toList]
  apply aI6;intro b _;simp
 rw [this]
theorem FH (s:ByteArray): ∀b∈bytesOf s,b<256:=by intro b hb;unfold bytesOf at hb;rw [aHF] at hb;obtain⟨c,_,rfl⟩:=hb;exact c.toNat_lt
theorem JO {E:En} {h:Array Obj} {v:Value} {a:AV} (hv:jM v=some a):VR E h a v/\v.oneCell'=true:=by
 cases v with
 |bool b=>simp [jM] at hv; subst hv; simp [VR,SB.den,Value.oneCell']
 |int k n=>simp [jM] at hv; subst hv; simp [VR,SE.den,Value.oneCell']
 |string s=>simp [jM] at hv; subst hv; exact⟨by simp only [VR]; exact⟨by rw [oI],FH s⟩,rfl⟩
 |pointer a=>cases a<;>simp [jM] at hv; subst hv; simp [VR,Value.oneCell']
 |slice a l c=>
  cases a with
  |some a=>simp [jM] at hv
  |none=>
   cases l with
   |succ l=>simp [jM] at hv
   |zero=>cases c with
    |succ c=>simp [jM] at hv
    |zero=>simp [jM] at hv; subst hv; simp [VR,Value.oneCell']
 |map r=>cases r<;>simp [jM] at hv; subst hv; simp [VR,Value.oneCell']
 |nilFunc=>simp [jM] at hv; subst hv; simp [VR,Value.oneCell']
 |nilIface=>simp [jM] at hv; subst hv; simp [VR,Value.oneCell']
 |func fn f c=>
  simp only [jM] at hv;split at hv
  ·rename_i hx;simp at hx hv;subst hv;obtain⟨rfl,rfl⟩:=hx;exact⟨by simp only [VR]; exact⟨[],[],rfl,rfl,rfl⟩,rfl⟩
  ·simp at hv
 |_=>simp [jM] at hv
theorem gB {E:En} {h:Array Obj}: ∀{vs:List Value} {aHb:List AV},oL vs=some aHb->bT E h aHb vs/\∀v∈vs,v.oneCell'=true
 |[],aHb,hv=>by simp [oL] at hv; subst hv; simp [bT]
 |v::vs,aHb,hv=>by
  simp only [oL] at hv;split at hv
  ·simp at hv
  ·rename_i a ha;split at hv
   ·simp at hv
   ·rename_i as' has;simp at hv;subst hv;have h1:=JO (E:=E) (h:=h) ha;have h2:=gB (E:=E) (h:=h) has;refine⟨by rw [bC]; exact⟨v,vs,rfl,h1.1,h2.1⟩,?_⟩;intro u hu;rcases aHm.1 hu with rfl|hu
    ·exact h1.2
    ·exact h2.2 u hu
theorem ZF {E:En} {h:Array Obj} {v:Value} {a:AV} (hv:ofConst v=some a):VR E h a v:=by
 cases v with
 |agg cs=> simp only [ofConst,aHy] at hv;obtain⟨l,h1,rfl⟩:=hv;simp only [VR];exact⟨cs.toList,by simp,(gB h1).1⟩
 |tuple cs=> simp only [ofConst,aHy] at hv;obtain⟨l,h1,rfl⟩:=hv;simp only [VR];exact⟨cs.toList,by simp,(gB h1).1⟩
 |_=>exact (JO (by simpa [ofConst] using hv)).1
theorem VR.one {E:En} {h:Array Obj} {x:AV} {v:Value} (hv:VR E h x v) (h1:x.one=true):v.oneCell'=true:=by
 cases x with
 |agg cs=>simp [AV.one] at h1
 |tuple cs=>simp [AV.one] at h1
 |opq i=>simp [AV.one] at h1
 |inp k ks=>simp only [VR] at hv; rcases hv with ⟨⟨x,cap,rfl⟩,_⟩|⟨b,o,n,cap,rfl,_⟩ <;>rfl
 |slice id off len c=>simp only [VR] at hv; obtain⟨_,a,cap,rfl,_⟩:=hv; rfl
 |ro cs n full=>simp only [VR] at hv; obtain⟨b,o,cap,us,rfl,_⟩:=hv; rfl
 |rY cs=>simp only [VR] at hv; obtain⟨b,o,us,rfl,_⟩:=hv; rfl
 |func fn fs cs=>simp only [VR] at hv; obtain⟨us,ws,rfl,_⟩:=hv; rfl
 |iface t x=>simp only [VR] at hv; obtain⟨u,rfl,_⟩:=hv; rfl
 |str s=>simp only [VR] at hv; rw [hv.1]; rfl
 |ptr id off=>simp only [VR] at hv; rw [hv.1]; rfl
 |map id=>simp only [VR] at hv; rw [hv.1]; rfl
 |emp=>simp only [VR] at hv; obtain⟨x,rfl⟩:=hv; rfl
 |dat e t=>simp only [VR] at hv; exact hv.one'
 |nC e=>simp only [VR] at hv; exact hv.one'
 |sN id n t=>simp only [VR] at hv; obtain⟨_,k,a,cap,_,rfl,_⟩:=hv; rfl
 |A8 id lo n t=>simp only [VR] at hv; obtain⟨_,l,k,a,cap,_,_,rfl,_⟩:=hv; rfl
 |any=>simp [AV.one] at h1
 |FP z t=>simp only [VR] at hv; obtain⟨⟨x,rfl⟩,_⟩:=hv; rfl
 |qV id es i off=>simp only [VR] at hv; obtain⟨_,k,_,rfl⟩:=hv; rfl
 |_=>simp only [VR] at hv; rw [hv]; rfl
theorem bT.ones {E:En} {h:Array Obj}: ∀{xs:List AV} {us:List Value},bT E h xs us->yA xs=true->∀u∈us,u.oneCell'=true
 |[],us,hv,_=>by rw [lC] at hv; subst hv; simp
 |x::xs,us,hv,h1=>by
  rw [bC] at hv;obtain⟨u,vs,rfl,h2,h3⟩:=hv;simp [yA] at h1;intro y hy;rcases aHm.1 hy with rfl|hy
  ·exact h2.one h1.1
  ·exact h3.ones h1.2 y hy
theorem VR.cells {E:En} {h:Array Obj} {x:AV} {v:Value} (hv:VR E h x v) (h1:yA x.cells=true):bT E h x.cells v.cells.toList:=by
 cases x with
 |agg cs=> simp only [VR] at hv;obtain⟨us,rfl,h2⟩:=hv;simpa [AV.cells,Value.cells] using h2
 |_=>
  all_goals
   simp only [AV.cells] at h1 ⊢;have h2:=hv.one (by simpa [yA] using h1);rw [bC];refine⟨v,[],?_,hv,rfl⟩;cases v<;>first |rfl|simp [Value.oneCell'] at h2
theorem yN {P:Program} {w:World} {b o n:Nat} {us:List Value} (hn:us.length=n) (h:iT w.heap b o us) :
 (loadCells ⟨b,o,none⟩ n).run P w= .ok us.toArray w:=by
 subst hn;refine run_loadCells_list w _ us fun j v hj=>?_;rw [gQ,uK];exact h j v hj
theorem iT.drop {h:Array Obj} {b o:Nat} {us:List Value} (hc:iT h b o us) (k:Nat):iT h b (o+k) (us.drop k):=by intro i u hu;rw [aIq] at hu;have:=hc (k+i) u hu;rwa [show o+k+i=o+(k+i) from by omega]
theorem iT.take {h:Array Obj} {b o:Nat} {us:List Value} (hc:iT h b o us) (k:Nat):iT h b o (us.take k):=by
 intro i u hu;rw [aIn] at hu;split at hu
 ·exact hc i u hu
 ·simp at hu
theorem EJ {E:En} {h:Array Obj} {id:Nat} {cs:List AV} {e:TypeId} (ho:OR E h id (.cells cs e)) :
 ∃us,bT E h cs us/\iT h (E.θ id).1 (E.θ id).2 us/\∀u∈us,u.oneCell'=true:=by
 obtain⟨arr,lo,hi,us,h1,h2,h3,h4,h5,h6,h7⟩:=ho;refine⟨us,h2,fun i u hu=>?_,h7⟩;simp only [hcell,h1];exact h3 i u hu
theorem DK [Glob] {E:En} {H:Hp} {w:World} (r:bG E H w) {p:AV} {u:Value} {n:Nat} {l:List AV} (hp:VR E w.heap p u) (h:rD H p n=some l) :
 ∃b o us,u= .pointer (some ⟨b,o,none⟩)/\us.length=n/\bT E w.heap l us/\iT w.heap b o us/\∀u∈us,u.oneCell'=true:=by
 cases p with
 |ptr id off=>
  simp only [rD] at h;split at h
  ·rename_i cs e hl;split at h
   ·rename_i l' hd;obtain⟨us,h2,h3,h4⟩:=EJ (r.live id _ hl).2.1;obtain⟨h5,h6,h7⟩:=h2.fZ hd;obtain⟨h8,h9⟩:=h5.kR h;simp only [VR] at hp;refine⟨_,_,_,hp.1,?_,h8,(h3.drop off).take n,fun x hx=>h4 x (aHQ (aHS hx))⟩;have:=h5.length;rw [aHr];omega
   ·simp at h
  ·simp at h
 |rY cs=> simp only [rD] at h;simp only [VR] at hp;obtain⟨b,o,us,rfl,_,h2,h3,h4⟩:=hp;obtain⟨h5,h6⟩:=h2.kR h;refine⟨b,o,_,rfl,?_,h5,h3.take n,fun x hx=>h4 x (aHS hx)⟩;have:=h2.length;rw [aHr];omega
 |_=>simp [rD] at h
theorem Dy {E:En} {h:Array Obj}: ∀{cs:List AV} {o:Nat} {vs cs':List AV} {us ws:List Value},splice cs o vs=some cs'->bT E h cs us->bT E h vs ws->
 cs'.length=cs.length/\o+vs.length<=cs.length/\∃us',bT E h cs' us'/\∀i,us'[i]?=if o<=i/\i<o+ws.length then ws[i-o]? else us[i]?
 |cs,0,[],cs',us,ws,h1,h2,h3=>by cases cs<;>simp [splice] at h1<;>subst h1<;>rw [lC] at h3<;>subst h3<;>exact⟨rfl,by simp,us,h2,fun i=>by simp⟩
 |[],0,_::_,cs',us,ws,h1,h2,h3=>by simp [splice] at h1
 |c::cs,0,v::vs,cs',us,ws,h1,h2,h3=>by
  simp only [splice] at h1;split at h1
  ·rename_i l hl;simp at h1;subst h1;rw [bC] at h2 h3;obtain⟨u,us',rfl,ha,hb⟩:=h2;obtain⟨x,ws',rfl,hc,hd⟩:=h3;obtain⟨e1,e2,ajI,e3,e4⟩:=Dy hl hb hd;refine⟨by simp [e1],by simp at e2 ⊢; omega,x::ajI,by rw [bC]; exact⟨x,ajI,rfl,hc,e3⟩,?_⟩;intro i
   cases i with
   |zero=>simp
   |succ i=> have:=e4 i;simp only [aIz,true_and,aHn,aIf,aHp,aHq,Nat.add_lt_add_iff_right] at this ⊢;exact this
  ·simp at h1
 |[],_+1,vs,cs',us,ws,h1,h2,h3=>by cases vs<;>simp [splice] at h1
 |c::cs,o+1,vs,cs',us,ws,h1,h2,h3=>by
  have h1':(match splice cs o vs with |some l=>some (c::l)|none=>none)=some cs':=by cases vs<;>exact h1
  split at h1'
  ·rename_i l hl;simp at h1';subst h1';rw [bC] at h2;obtain⟨u,us',rfl,ha,hb⟩:=h2;obtain⟨e1,e2,ajI,e3,e4⟩:=Dy hl hb h3;refine⟨by simp [e1],by simp; omega,u::ajI,by rw [bC]; exact⟨u,ajI,rfl,ha,e3⟩,?_⟩;intro i
   cases i with
   |zero=>simp
   |succ i=>
    have:=e4 i;simp only [aHp];rw [this];by_cases hh:o<=i/\i<o+ws.length
    ·rw [aHd hh,aHd (by omega)];congr 1;omega
    ·rw [aHc hh,aHc (by omega)]
  ·simp at h1'
theorem rC {P:Program} (b o:Nat) (e:TypeId) (lo hi:Nat): ∀(vs:List Value) (i:Nat) (arr:Array Value) (w:World),
 w.heap[b]?=some (.cells arr e (lo,hi))->(∀x,lo<=x->x<hi->arr.size<=x)->o+i+vs.length<=arr.size->(∀v∈vs,v.oneCell'=true)->
 ∃w' arr',(storeCells ⟨b,o,none⟩ vs i).run P w= .ok () w'/\Alike w w'/\w'.heap.size=w.heap.size/\(∀j,j≠b->w'.heap[j]?=w.heap[j]?)/\
  w'.heap[b]?=some (.cells arr' e (lo,hi))/\arr'.size=arr.size/\∀j,arr'[j]?=if o+i<=j/\j<o+i+vs.length then vs[j-(o+i)]? else arr[j]?
 |[],i,arr,w,hb,_,_,_=> ⟨w,arr,rfl,⟨rfl,rfl,rfl⟩,rfl,fun _ _=>rfl,hb,rfl,fun j=>by rw [aHc (by simp)]⟩
 |v::vs,i,arr,w,hb,hf,hl,h1=>by
  have hin:o+i<arr.size:=by simp at hl; omega
  have hcell:w.cell? ⟨b,o+i,none⟩ = some arr[o+i]:=by simp [World.cell?,hb,hin]
  have hfro:w.frozen? ⟨b,o+i,none⟩ = false:=by
   simp only [World.frozen?,hb,Bool.and_eq_false_iff,decide_eq_false_iff_not];by_cases hx:lo<=o+i
   ·right;intro hy;have:=hf _ hx hy;omega
   ·left; exact hx
  have hst:(store ((⟨b,o,none⟩ : Addr).add i) v).run P w= .ok () (w.setCell ⟨b,o+i,none⟩ v):=by rw [gQ,run_store P w _ v _ (h1 v (by simp)),hcell];simp [hfro]
  have hb2:(w.setCell ⟨b,o+i,none⟩ v).heap[b]?=some (.cells (arr.setIfInBounds (o+i) v) e (lo,hi)):=by simp [World.setCell,aJu,hb]
  have hsz:(w.setCell ⟨b,o+i,none⟩ v).heap.size=w.heap.size:=by simp [World.setCell]
  have hot: ∀j,j≠b->(w.setCell ⟨b,o+i,none⟩ v).heap[j]?=w.heap[j]?:=by intro j hj;simp only [World.setCell,aJu];rw [aHc (fun e=>hj e.symm)]
  obtain⟨w',arr',e1,e2,e3,e4,e5,e6,e7⟩:=rC (P:=P) b o e lo hi vs (i+1) _ _ hb2 (by simpa using hf) (by simp at hl ⊢; omega) (fun x hx=>h1 x (by simp [hx]));refine⟨w',arr',?_,⟨e2.os,e2.tape,e2.output⟩,e3.trans hsz,fun j hj=>(e4 j hj).trans (hot j hj),e5,by simpa using e6,?_⟩
  ·simp only [storeCells,Sem.run_bind,hst,Result.andThen_ok];exact e1
  ·intro j;rw [e7 j];simp only [aHq];by_cases hj:o+i=j
   ·rw [aHc (by omega),aHd (by omega)];subst hj;simp [hin]
   ·by_cases hj2:o+(i+1)<=j/\j<o+(i+1)+vs.length
    ·rw [aHd hj2,aHd (by omega)];rw [show j-(o+i)=(j-(o+(i+1)))+1 from by omega];simp
    ·rw [aHc hj2,aHc (by omega)];rw [aIg hj]
theorem qE [Glob] {P:Program} {E:En} {H:Hp} {w:World} (r:bG E H w) {id off:Nat} {cs vs cs':List AV} {e:TypeId} {ws:List Value} (hl:H.get id=some (.cells cs e))
 (hs:splice cs off vs=some cs') (hv:bT E w.heap vs ws) (h1: ∀u∈ws,u.oneCell'=true) :
 ∃w',(storeCells ⟨(E.θ id).1,(E.θ id).2+off,none⟩ ws).run P w= .ok () w'/\Stp E H w E (H.put id (.cells cs' e)) w'/\bG E (H.put id (.cells cs' e)) w':=by
 obtain⟨arr,lo,hi,us,g1,g2,g3,g4,g5,g6,g7⟩:=(r.live id _ hl).2.1;obtain⟨s1,s2,us',s3,s4⟩:=Dy hs g2 hv;have hlen:=hv.length;have hlu:=g2.length;obtain⟨w',arr',e1,e2,e3,e4,e5,e6,e7⟩:=rC (P:=P) (E.θ id).1 ((E.θ id).2+off) e lo hi ws 0 arr w g1 g6 (by omega) h1;refine⟨w',e1,Xb r hl _ e3 e4 e2 ?_⟩;have k:=tZ r hl e4;refine⟨arr',lo,hi,us',e5,bT.keep k _ _ s3,?_,by omega,by rw [e6]; exact g5,by rw [e6]; exact g6,?_⟩
 ·intro i u hu;rw [s4 i] at hu;rw [e7];split at hu
  ·rename_i hh;rw [aHd (by omega),show (E.θ id).2+i-((E.θ id).2+off+0)=i-off from by omega];exact hu
  ·rename_i hh;rw [aHc (by omega)];exact g3 i u hu
 ·intro u hu;rw [aIP] at hu;obtain⟨i,hi'⟩:=hu;rw [s4 i] at hi';split at hi'
  ·exact h1 u (aHK hi')
  ·exact g7 u (aHK hi')
def bK (ρ:Nat->Int) (pc:List (SB×Bool)):Prop:= ∀c b,(c,b)∈pc->c.den ρ=b
def SR (E:En) (h:Array Obj) (slots:Tr AV) (a:Act):Prop:= ∀t v,slots.get t=some v->∃u,a.tmps[t]?=some u/\VR E h v u
def yB (P:Program) (o:Oper) (a:Act) (w:World) (R:Value->World->Prop):Prop:=
 ∀(K:Act->World->Prop) (Q:Exit->Act->World->Prop),(∀u w',R u w'->K (a.put o.dst u) w')->o.wp P a w K Q
theorem yB.value {P:Program} {o:Oper} {a:Act} {w w':World} {R:Value->World->Prop} {u:Value} (h:(execOp a.eval o).run P w= .ok (.value u) w') (hr:R u w'):yB P o a w R:=
 fun K Q hk=>by unfold Oper.wp; rw [h]; exact hk u w' hr
theorem yB.skip {P:Program} {o:Oper} {a:Act} {w w':World} {R:Value->World->Prop} (h:(execOp a.eval o).run P w= .ok .skip w') (hr:R undef w'):yB P o a w R:=
 fun K Q hk=>by unfold Oper.wp; rw [h]; exact hk _ w' hr
theorem jW {E:En} {w:World} {s:St} {a:Act} (sr:SR E w.heap s.slots a) {x:Operand} {v:AV} (h:ev s x=some v):VR E w.heap v (a.eval x):=by
 cases x with
 |tmp t=> obtain⟨u,h1,h2⟩:=sr t v h;simp only [Act.eval,aHZ,h1,aHl];exact h2
 |const c=>exact ZF h
 |func f=> simp [ev] at h;subst h;simp only [VR,Act.eval];exact⟨[],[],rfl,rfl,rfl⟩
 |global g=>simp [ev] at h
theorem Vb {E:En} {w:World} {s:St} {a:Act} (sr:SR E w.heap s.slots a): ∀{xs:List Operand} {vs:List AV},evs s xs=some vs->bT E w.heap vs (xs.map a.eval)
 |[],vs,h=>by simp [evs] at h; subst h; simp [bT]
 |x::xs,vs,h=>by
  simp only [evs] at h;split at h
  ·simp at h
  ·rename_i b hb;split at h
   ·simp at h
   ·rename_i bs hbs;simp at h;subst h;rw [aHo,bC];exact⟨_,_,rfl,jW sr hb,Vb sr hbs⟩
section
variable {P:Program} {t:Nat} {i:TI}
theorem vJ (h:rQ P t i) (w:World):(isAgg t).run P w= .ok i.agg w:=by obtain⟨inf,d,z,h1,h2,h3,h4,h5,h6,h7,_⟩:=h.all;unfold isAgg;simp only [Sem.run_bind,run_underlying h2,Result.andThen_ok];cases d<;>cases hk:i.kind<;>simp only [hk,TV] at h7<;>simp [TI.agg,TK.agg,hk]
theorem eU (h:rQ P t i) (w:World):(sizeOf t).run P w= .ok i.size w:=by obtain⟨inf,d,z,h1,h2,h3,h4,h5,h6,h7,_⟩:=h.all;simp [sizeOf,typeInfo,h1,h5]
theorem gX (h:rQ P t i) {e:Nat} (hk:i.kind= .slice e):P.underlying t=some (.slice e):=by obtain⟨inf,d,z,h1,h2,h3,h4,h5,h6,h7,_⟩:=h.all;rw [h2];cases d<;>simp [hk,TV] at h7;rw [h7]
theorem yF (h:rQ P t i) {n e:Nat} (hk:i.kind= .array n e):P.underlying t=some (.array n e):=by obtain⟨inf,d,z,h1,h2,h3,h4,h5,h6,h7,_⟩:=h.all;rw [h2];cases d<;>simp [hk,TV] at h7;rw [h7.1,h7.2]
theorem FV (h:rQ P t i) {k e:Nat} (hk:i.kind= .map k e):P.underlying t=some (.map k e):=by obtain⟨inf,d,z,h1,h2,h3,h4,h5,h6,h7,_⟩:=h.all;rw [h2];cases d<;>simp [hk,TV] at h7;rw [h7.1,h7.2]
theorem Dx (h:rQ P t i) {k:IntKind} (hk:i.kind= .int k):P.underlying t=some (.int k):=by obtain⟨inf,d,z,h1,h2,h3,h4,h5,h6,h7,_⟩:=h.all;rw [h2];cases d<;>simp [hk,TV] at h7;rw [h7]
theorem iK (h:rQ P t i) (hk:i.kind= .string):P.underlying t=some .string:=by obtain⟨inf,d,z,h1,h2,h3,h4,h5,h6,h7,_⟩:=h.all;rw [h2];cases d<;>simp [hk,TV] at h7;rfl
theorem WG (h:rQ P t i) (hk:i.kind= .bool):P.underlying t=some .bool:=by obtain⟨inf,d,z,h1,h2,h3,h4,h5,h6,h7,_⟩:=h.all;rw [h2];cases d<;>simp [hk,TV] at h7;rfl
theorem EM (h:rQ P t i) {l:List (Nat×Nat×Nat)} (hk:i.kind= .struct l): ∃fs:Array Field,P.underlying t=some (.struct fs)/\(fs.toList.mapM fun f=>(P.info? f.type).map fun i=>(f.offset,f.type,i.size))=some l:=by obtain⟨inf,d,z,h1,h2,h3,h4,h5,h6,h7,_⟩:=h.all;rw [h2];cases d<;>simp [hk,TV] at h7;exact⟨_,rfl,h7⟩
theorem DX (h:rQ P t i): ∃inf z,P.info? t=some inf/\inf.size=i.size/\inf.bytes=i.bytes/\inf.zero=some z/\oL z.cells.toList=some i.zero:=by obtain⟨inf,d,z,h1,h2,h3,h4,h5,h6,h7,_⟩:=h.all;exact⟨inf,z,h1,h5,h6,h3,h4⟩
end
theorem Jk [Glob] {P:Program} {tt:TT} (htt:fE P tt) {E:En} {H:Hp} {w:World} (r:bG E H w) {t:Nat} {p v:AV} {u:Value} (hp:VR E w.heap p u) (h:Jl tt t p H=some v) :
 ∃x b o,u= .pointer (some ⟨b,o,none⟩)/\(loadVar t ⟨b,o,none⟩).run P w= .ok x w/\VR E w.heap v x:=by
 unfold Jl at h;split at h
 ·simp at h
 ·rename_i i hi;have hti:=htt t i hi;split at h
  ·rename_i hagg;rw [aHy] at h;obtain⟨l,hl,rfl⟩:=h;obtain⟨b,o,us,rfl,h2,h3,h4,_⟩:=DK r hp hl;refine⟨.agg us.toArray,b,o,rfl,?_,by simp only [VR]; exact⟨us,rfl,h3⟩⟩;simp [loadVar,vJ hti,hagg,eU hti,yN h2 h4]
  ·rename_i hagg;split at h
   ·rename_i v' l hl;simp at h;subst h;obtain⟨b,o,us,rfl,h2,h3,h4,_⟩:=DK r hp hl;rw [bC] at h3;obtain⟨x,vs,rfl,h5,_⟩:=h3;refine⟨x,b,o,rfl,?_,h5⟩;have hc:w.cell? ⟨b,o,none⟩ = some x:=by rw [uK]; exact h4 0 x rfl
    simp [loadVar,vJ hti,hagg,hc]
   ·simp at h
theorem pW (k:IntKind) (n:Int):AY k n=k.wrap n:=by
 unfold AY;split
 ·split
  ·rename_i h; exact (IntWalk.i64_in n h).symm
  ·rfl
 ·split
  ·rename_i h; exact (IntWalk.u8_in n h).symm
  ·rfl
 ·rfl
theorem agN (ρ:Nat->Int) (k:IntKind) (a b:SE):(alY k a b).den ρ=k.wrap (a.den ρ+b.den ρ):=by unfold alY;split<;>simp [SE.den,pW]
theorem QZ (ρ:Nat->Int) (k:IntKind) (a b:SE):(adH k a b).den ρ=k.wrap (a.den ρ-b.den ρ):=by unfold adH;split<;>simp [SE.den,pW]
theorem agM (ρ:Nat->Int) (k:IntKind) (a b:SE):(alX k a b).den ρ=k.wrap (a.den ρ*b.den ρ):=by unfold alX;split<;>simp [SE.den,pW]
theorem dU (ρ:Nat->Int) (a b:SE):(kM a b).den ρ=decide (a.den ρ<b.den ρ):=by
 unfold kM;split
 ·rfl
 ·simp [SB.den]
theorem alZ (ρ:Nat->Int) (a b:SE):(auL a b).den ρ=decide (a.den ρ<=b.den ρ):=by
 unfold auL;split
 ·rfl
 ·simp only [SB.den];rw [aHY];simp
theorem lM (ρ:Nat->Int) (a b:SE):(BM a b).den ρ=(a.den ρ == b.den ρ):=by
 unfold BM;split
 ·simp [SB.den,SE.den]
 ·simp only [SB.den,SE.den];rw [aHY];simp;exact eq_comm
 ·split
  ·rename_i h; have h:=dD _ _ h; subst h; simp [SB.den]
  ·simp [SB.den]
theorem rX (ρ:Nat->Int) (s:SB):(Et s).den ρ=!(s.den ρ):=by unfold Et;split<;>simp [SB.den]
theorem qH: ∀(x y:List Nat),jT x y=true↔x=y
 |[],[]=>by simp [jT]
 |[],_::_=>by simp [jT]
 |_::_,[]=>by simp [jT]
 |a::x,b::y=>by
  simp only [jT]
  cases h:a.beq b with
  |true=>have:=aHj h; subst this; simp [qH x y]
  |false=>have:=aIQ h; simp [this]
theorem tK (s:List Nat):(dH s).toList=s.map UInt8.ofNat:=by rw [Go.ByteArray.toList_eq];simp [dH]
theorem oH (s:List Nat):(dH s).size=s.length:=by show (List.map UInt8.ofNat s).toArray.size=_;simp
theorem ofNat_inj {a b:Nat} (ha:a<256) (hb:b<256) (h:UInt8.ofNat a=UInt8.ofNat b):a=b:=by have:=congrArg UInt8.toNat h;simpa [aIr,aIm ha,aIm hb] using this
theorem map_inj: ∀{x y:List Nat},(∀b∈x,b<256)->(∀b∈y,b<256)->x.map UInt8.ofNat=y.map UInt8.ofNat->x=y
 |[],[],_,_,_=>rfl
 |[],_::_,_,_,h=>by simp at h
 |_::_,[],_,_,h=>by simp at h
 |a::x,b::y,hx,hy,h=>by simp only [aHo,List.cons.injEq] at h;rw [ofNat_inj (hx a (by simp)) (hy b (by simp)) h.1,map_inj (fun c hc=>hx c (by simp [hc])) (fun c hc=>hy c (by simp [hc])) h.2]
theorem adG {x y:List Nat} (hx: ∀b∈x,b<256) (hy: ∀b∈y,b<256):((dH x).toList == (dH y).toList)=jT x y:=by rw [tK,tK,aHY,beq_iff_eq,qH];exact⟨map_inj hx hy,fun h=>by rw [h]⟩
theorem QT: ∀{x y:List Nat},(∀b∈x,b<256)->(∀b∈y,b<256)->Op.bytesLess (x.map UInt8.ofNat) (y.map UInt8.ofNat)=bytesLess x y
 |[],[],_,_=>by simp [Op.bytesLess,bytesLess]
 |[],_::_,_,_=>by simp [Op.bytesLess,bytesLess]
 |_::_,[],_,_=>by simp [Op.bytesLess,bytesLess]
 |a::x,b::y,hx,hy=>by
  have ha:=hx a (by simp);have hb:=hy b (by simp);have ih:=QT (x:=x) (y:=y) (fun c hc=>hx c (by simp [hc])) (fun c hc=>hy c (by simp [hc]));simp only [aHo,Op.bytesLess,bytesLess,ih]
  have h1:decide (UInt8.ofNat a<UInt8.ofNat b)=a.blt b:=by rw [aHY,decide_eq_true_iff,UInt8.lt_iff_toNat_lt,aIr,aIr,aIm ha,aIm hb];simp [Nat.blt];omega
  have h2:(UInt8.ofNat a == UInt8.ofNat b)=a.beq b:=by rw [aHY,beq_iff_eq];exact⟨fun h=>by rw [ofNat_inj ha hb h]; simp,fun h=>by rw [aHj h]⟩
  rw [h1,h2];cases a.blt b<;>cases a.beq b<;>simp
theorem WS {P:Program} {E:En} {w:World} {op:BinOp} {x y:List Nat} {v:AV} (hx: ∀b∈x,b<256) (hy: ∀b∈y,b<256) (h:WT op x y=some v) :
 ∃u,(Op.stringOp op (dH x) (dH y)).run P w= .ok u w/\VR E w.heap v u:=by
 have he:=adG hx hy;have hl:Op.bytesLess (dH x).toList (dH y).toList=bytesLess x y:=by rw [tK,tK]; exact QT hx hy
 unfold WT at h;cases op<;>simp only [aHe,reduceCtorEq] at h
 case add=>
  split at h
  ·rename_i hh;simp at h;subst h;have hm:IntKind.i64.max=9223372036854775807:=by decide
   refine⟨.string (dH x++dH y),?_,?_⟩
   ·simp only [Op.stringOp,oH,hm];rw [aHc (by omega)];rfl
   ·simp only [VR];refine⟨?_,?_⟩
    ·congr 1;apply ByteArray.ext;simp [dH]
    ·intro b hb;rcases aH1.1 hb with hb|hb
     ·exact hx b hb
     ·exact hy b hb
  ·simp at h
 all_goals
  subst h;exact⟨_,rfl,by simp only [VR,SB.den,he,hl]⟩
theorem lS {ρ:Nat->Int} {c:SB} {b:Bool}: ∀{pc:List (SB×Bool)},bK ρ pc->sD c pc=some b->c.den ρ=b
 |[],_,h=>by simp [sD] at h
 |(d,x)::l,hp,h=>by
  simp only [sD] at h;split at h
  ·rename_i he;have he:=yK _ _ he;simp at h;subst he h;exact hp _ _ (by simp)
  ·exact lS (fun c b hm=>hp c b (by simp [hm])) h
def Within (lo hi:Option Int) (x:Int):Prop:=(∀l,lo=some l->l<=x)/\∀h,hi=some h->x<=h
theorem UM {lo:Option Int} {z x:Int} (h: ∀l,lo=some l->l<=x) (hz:z<=x): ∀l,anC lo z=some l->l<=x:=by
 intro l hl;unfold anC at hl;split at hl
 ·simp at hl; omega
 ·have:=h _ rfl;simp at hl;split at hl<;>omega
theorem UL {hi:Option Int} {z x:Int} (h: ∀l,hi=some l->x<=l) (hz:x<=z): ∀l,anB hi z=some l->x<=l:=by
 intro l hl;unfold anB at hl;split at hl
 ·simp at hl; omega
 ·have:=h _ rfl;simp at hl;split at hl<;>omega
theorem amO {lo:Option Int} {z x:Int} (h: ∀l,lo=some l->l<=x) (hz:x≠z): ∀l,amP lo z=some l->l<=x:=by
 intro l hl;unfold amP at hl;split at hl
 ·simp at hl
 ·have:=h _ rfl;simp at hl;split at hl<;>omega
theorem amQ {hi:Option Int} {z x:Int} (h: ∀l,hi=some l->x<=l) (hz:x≠z): ∀l,amR hi z=some l->x<=l:=by
 intro l hl;unfold amR at hl;split at hl
 ·simp at hl
 ·have:=h _ rfl;simp at hl;split at hl<;>omega
theorem xG {ρ:Nat->Int} {x y:SE} {v:Bool} (h:(SB.lt x y).den ρ=v):(x.den ρ<y.den ρ)↔v=true:=by subst h; simp [SB.den]
theorem afH {ρ:Nat->Int} {x y:SE} {v:Bool} (h:(SB.eq x y).den ρ=v):(x.den ρ=y.den ρ)↔v=true:=by subst h; simp [SB.den]
theorem asU {ρ:Nat->Int} (e:SE):Within (agB e).1 (agB e).2 (e.den ρ):=by
 have h0:Within none none (e.den ρ):=⟨by simp,by simp⟩;unfold agB;split
 ·split
  ·split
   ·split
    ·split
     ·split
      ·split
       ·rename_i k m x n hn;obtain⟨hn,rfl,rfl⟩:=hn;simp only [SE.den];have h1:=aJv (m.den ρ) (b:=n) (by omega)
        have h2: -n<(m.den ρ).tmod n:=by have h1:=aJv (-(m.den ρ)) (b:=n) (by omega);rw [Int.neg_tmod] at h1;omega
        have h3:=Int.tmod_nonneg n (a:=(m.den ρ).tmod n+n) (by omega);have h4:=aJv ((m.den ρ).tmod n+n) (b:=n) (by omega);constructor<;>intro l hl<;>simp at hl<;>omega
       ·exact h0
      ·exact h0
     ·exact h0
    ·exact h0
   ·exact h0
  ·exact h0
 ·rename_i o a b
  cases o with
  |len=> refine⟨fun l hl=>?_,by simp⟩;simp only [aHe] at hl;subst hl;simp only [SE.den,jC.den];omega
  |_=>exact h0
 ·exact h0
theorem qJ {ρ:Nat->Int} {e:SE}: ∀{pc:List (SB×Bool)},bK ρ pc->Within (bounds e pc).1 (bounds e pc).2 (e.den ρ)
 |[],_=>asU e
 |(c,v)::l,hp=>by
  have ih:=qJ (e:=e) (pc:=l) (fun c b hm=>hp c b (by simp [hm]));have hc:=hp c v (by simp);unfold bounds;split
  ·have hc:=xG hc;split
   ·split
    ·exact ih
    ·rename_i he;have he:=dD _ _ he;subst he;revert ih;split;rename_i lo hi hb;rw [hb];intro ih;simp only [SE.den] at hc;cases v
     ·exact⟨ih.1,UL ih.2 (by simp at hc; omega)⟩
     ·exact⟨UM ih.1 (by simp at hc; omega),ih.2⟩
   ·split
    ·split
     ·exact ih
     ·rename_i he;have he:=dD _ _ he;subst he;revert ih;split;rename_i lo hi hb;rw [hb];intro ih;simp only [SE.den] at hc;cases v
      ·exact⟨UM ih.1 (by simp at hc; omega),ih.2⟩
      ·exact⟨ih.1,UL ih.2 (by simp at hc; omega)⟩
    ·exact ih
  ·split
   ·split
    ·split
     ·exact ih
     ·rename_i he;have he:=dD _ _ he;subst he;revert ih;split;rename_i lo hi hb;rw [hb];intro ih;simp only [SB.den,SE.den,beq_eq_false_iff_ne] at hc;exact⟨amO ih.1 hc,amQ ih.2 hc⟩
    ·split
     ·exact ih
     ·rename_i he;have he:=dD _ _ he;subst he;simp only [SB.den,SE.den,beq_iff_eq] at hc;exact⟨fun l hl=>by simp at hl; omega,fun l hl=>by simp at hl; omega⟩
   ·exact ih
  ·exact ih
theorem EL {ρ:Nat->Int} {e:SE} {pc:List (SB×Bool)} (hp:bK ρ pc):Within (vH e pc).1 (vH e pc).2 (e.den ρ):=by
 have h0:=qJ (e:=e) hp;unfold vH;split
 ·split
  ·split
   ·split
    ·rename_i b _ c;have hb:=qJ (e:=b) hp;split
     ·rename_i lo hi hbb;rw [hbb] at hb;have b1:=hb.1 lo rfl;have b2:=hb.2 hi rfl;split
      ·rename_i hr;revert h0;split;rename_i l2 h2 hee;rw [hee];intro h0
       have hw:(SE.wrap .i64 (.add b (.lit c))).den ρ=b.den ρ+c:=by simp only [SE.den];rw [<- pW];simp only [AY];rw [aHd (by omega)]
       exact⟨UM h0.1 (by rw [hw]; omega),UL h0.2 (by rw [hw]; omega)⟩
      ·exact h0
     ·exact h0
    ·exact h0
   ·exact h0
  ·exact h0
 ·exact h0
theorem NU {ρ:Nat->Int} {pc:List (SB×Bool)} (hp:bK ρ pc) {a b:SE} {v:Bool} (h:adX a b pc=some v):a.den ρ=b.den ρ↔v=true:=by
 unfold adX at h;split at h
 ·rename_i h1;simp at h;subst h;exact afH (lS hp h1)
 ·rw [<- afH (lS hp h)];exact eq_comm
theorem arU {ρ:Nat->Int} {pc:List (SB×Bool)} (hp:bK ρ pc) {a b:SE} {v:Bool} (h:decLt pc a b=some v):a.den ρ<b.den ρ↔v=true:=by
 unfold decLt at h;split at h
 ·rename_i h1;simp at h;subst h;exact xG (lS hp h1)
 ·split at h
  ·have hb:=EL (e:=b) hp;have hz: ∀z,(SE.lit z).den ρ=z:=fun _=>rfl;simp only [hz] at *;generalize hbb:vH _ pc=p at h hb;obtain⟨lo,hi⟩:=p;simp only [Within] at h hb;split at h
   ·rename_i l;have:=hb.1 l rfl;split at h
    ·simp at h; subst h; simp; omega
    ·split at h
     ·rename_i hh;have:=hb.2 hh rfl;split at h
      ·simp at h; subst h; simp; omega
      ·simp at h
     ·simp at h
   ·split at h
    ·rename_i hh;have:=hb.2 hh rfl;split at h
     ·simp at h; subst h; simp; omega
     ·simp at h
    ·simp at h
  ·split at h
   ·have hb:=EL (e:=a) hp;have hz: ∀z,(SE.lit z).den ρ=z:=fun _=>rfl;simp only [hz] at *;generalize hbb:vH _ pc=p at h hb;obtain⟨lo,hi⟩:=p;simp only [Within] at h hb;split at h
    ·rename_i hh;have:=hb.2 hh rfl;split at h
     ·simp at h; subst h; simp; omega
     ·split at h
      ·rename_i l;have:=hb.1 l rfl;split at h
       ·simp at h; subst h; simp; omega
       ·simp at h
      ·simp at h
    ·split at h
     ·rename_i l;have:=hb.1 l rfl;split at h
      ·simp at h; subst h; simp; omega
      ·simp at h
     ·simp at h
   ·split at h
    ·rename_i h1;have h1:=NU hp h1;simp at h h1;subst h;simp; omega
    ·rename_i h1;have h1:=NU hp h1;simp at h1;split at h
     ·rename_i h2;have h2:=xG (lS hp h2);simp at h;subst h;cases v<;>simp at h2<;>simp<;>omega
     ·simp at h
    ·split at h
     ·rename_i h2;have h2:=xG (lS hp h2);simp at h h2;subst h;simp; omega
     ·simp at h
theorem arV {ρ:Nat->Int} {pc:List (SB×Bool)} (hp:bK ρ pc) {a b:SE} {v:Bool} (h:decEq pc a b=some v):a.den ρ=b.den ρ↔v=true:=by
 unfold decEq at h;split at h
 ·rename_i h1;simp at h;subst h;exact NU hp h1
 ·split at h
  ·have hb:=EL (e:=a) hp;have hz: ∀z,(SE.lit z).den ρ=z:=fun _=>rfl;simp only [hz] at *;generalize hbb:vH _ pc=p at h hb;obtain⟨lo,hi⟩:=p;simp only [Within] at h hb;split at h
   ·rename_i l;have:=hb.1 l rfl;split at h
    ·simp at h; subst h; simp; omega
    ·split at h
     ·rename_i hh;have:=hb.2 hh rfl;split at h
      ·simp at h; subst h; simp; omega
      ·split at h
       ·simp at h; subst h; simp; omega
       ·simp at h
     ·simp at h
   ·split at h
    ·rename_i hh;have:=hb.2 hh rfl;split at h
     ·simp at h; subst h; simp; omega
     ·simp at h
    ·simp at h
  ·split at h
   ·rename_i h2;have h2:=xG (lS hp h2);simp at h h2;subst h;simp; omega
   ·rename_i h2;have h2:=xG (lS hp h2);simp at h2;split at h
    ·rename_i h3;have h3:=xG (lS hp h3);simp at h;subst h;cases v<;>simp at h3<;>simp<;>omega
    ·simp at h
   ·split at h
    ·rename_i h2;have h2:=xG (lS hp h2);simp at h h2;subst h;simp; omega
    ·simp at h
theorem OZ {ρ:Nat->Int} {pc:List (SB×Bool)} (hp:bK ρ pc) {c:SB} {b:Bool} (h:LK pc c=some b):c.den ρ=b:=by
 unfold LK at h;split at h
 ·simp at h; simp [SB.den,h]
 ·have:=arU hp h;simp only [SB.den];cases b<;>simp at this ⊢<;>omega
 ·have:=arV hp h;simp only [SB.den];cases b<;>simp at this ⊢<;>omega
 ·exact lS hp h
theorem jL {ρ:Nat->Int} {pc:List (SB×Bool)} (hp:bK ρ pc) {c:SB} {b:Bool} (h:nI pc c=some b):c.den ρ=b:=by
 unfold nI at h;split at h
 ·rw [aHy] at h;obtain⟨x,h1,rfl⟩:=h;simp only [SB.den,OZ hp h1]
 ·exact OZ hp h
section
variable {P:Program} {E:En} {w:World}
theorem Xz {op:BinOp} {t:Nat} {k k':IntKind} {a b:SE} {v:AV} (hk:op= .shr\/k=k') (h:aeJ op k a b=some v) :
 ∃u,(binOp op t (.int k (a.den E.ρ)) (.int k' (b.den E.ρ))).run P w= .ok u w/\VR E w.heap v u:=by
 unfold aeJ at h;cases op<;>simp only [aHe,reduceCtorEq] at h
 case add=>obtain rfl:k=k':=by simpa using hk
           subst h; exact⟨_,by simp [binOp,Op.intArith]; rfl,by simp only [VR,agN]⟩
 case sub=>obtain rfl:k=k':=by simpa using hk
           subst h; exact⟨_,by simp [binOp,Op.intArith]; rfl,by simp only [VR,QZ]⟩
 case mul=>obtain rfl:k=k':=by simpa using hk
           subst h; exact⟨_,by simp [binOp,Op.intArith]; rfl,by simp only [VR,agM]⟩
 case quo=>
  obtain rfl:k=k':=by simpa using hk
  split at h
  ·split at h
   ·simp at h
   ·rename_i hy;simp at h;subst h;exact⟨_,by simp [binOp,Op.intDiv,SE.den,hy]; rfl,by simp only [VR,SE.den,pW]⟩
  ·split at h
   ·simp at h
   ·rename_i hy;simp at h;subst h;exact⟨_,by simp [binOp,Op.intDiv,SE.den,hy]; rfl,by simp only [VR,SE.den]⟩
  ·simp at h
 case rem=>
  obtain rfl:k=k':=by simpa using hk
  split at h
  ·split at h
   ·simp at h
   ·rename_i hy;simp at h;subst h;exact⟨_,by simp [binOp,Op.intDiv,SE.den,hy]; rfl,by simp only [VR,SE.den]⟩
  ·split at h
   ·simp at h
   ·rename_i hy;simp at h;subst h;exact⟨_,by simp [binOp,Op.intDiv,SE.den,hy]; rfl,by simp only [VR,SE.den]⟩
  ·simp at h
 case shr=>
  split at h
  ·split at h
   ·simp at h
   ·rename_i hy;simp at h;subst h;exact⟨_,by simp [binOp,Op.shift,SE.den,hy]; rfl,by simp only [VR,SE.den]⟩
  ·simp at h
 all_goals
  obtain rfl:k=k':=by simpa using hk
  subst h;refine⟨_,by simp [binOp,Op.intCmp]; rfl,?_⟩;simp only [VR,lM,rX,dU,alZ]
  first |rfl|(congr 1; simp [bne]; done)|(congr 1; rw [aHY]; simp; done)|skip
theorem CU {op:BinOp} {t:Nat} {x y:Operand} {a b:Value} (h1: ∀cs ds,¬(a= .agg cs/\b= .agg ds)) (h2: ¬(a= .nilIface/\b= .nilIface)) :
 (eqGuard op t x y a b).run P w= .ok () w:=by
 cases op
 case eql=>
  cases a<;>first
   |(cases b<;>first |(exact absurd ⟨rfl,rfl⟩ (h1 _ _))|(exact absurd ⟨rfl,rfl⟩ h2)|rfl)
   |rfl
 case neq=>
  cases a<;>first
   |(cases b<;>first |(exact absurd ⟨rfl,rfl⟩ (h1 _ _))|(exact absurd ⟨rfl,rfl⟩ h2)|rfl)
   |rfl
 all_goals rfl
theorem J4 {ρ:Nat->Int} {a b c:SB} (h:LG a b=some c):c.den ρ=(a.den ρ == b.den ρ):=by
 unfold LG at h;split at h<;>simp only [aHe,reduceCtorEq] at h<;>subst h
 ·simp [SB.den]
 ·rename Bool=>q
  cases q<;>simp [SB.den,rX]
 ·rename Bool=>q
  cases q<;>simp [SB.den,rX]
 ·simp only [SB.den];cases a.den ρ<;>cases b.den ρ<;>rfl
theorem F8 {d:TypeDesc} {t:Nat} (h:P.underlying t=some d) (w:World):(underlying t).run P w= .ok d w:=run_underlying h w
theorem yU {i:TI} {t:Nat} (h:rQ P t i): ∃d,P.underlying t=some d/\TV P d i.kind:=by obtain⟨inf,d,z,h1,h2,h3,h4,h5,h6,h7,_⟩:=h.all;exact⟨d,h2,h7⟩
theorem afG {i:TI} {t:Nat} (ht:rQ P t i) {x y:AV} {u u':Value} (hx:VR E w.heap x u) (hy:VR E w.heap y u') {c:SB} (h:aC4 i.kind x y=some c) :
 (Op.equal t u u').run P w= .ok (c.den E.ρ) w/\(∀cs ds,¬(u= .agg cs/\u'= .agg ds))/\¬(u= .nilIface/\u'= .nilIface)/\(∀k n,u≠.int k n)/\(∀s,u≠.string s)/\(∀k n,u≠.float k n)/\(∀k n m,u≠.complex k n m):=by
 obtain⟨d,h1,h2⟩:=yU ht;have hm: ∀a b,Op.equal t a b=Op.equalIn (9999+1) t a b:=fun _ _=>rfl;rw [hm];clear hm;generalize (9999:Nat)=n;unfold aC4 at h;split at h
 ·rename_i hk;rw [hk] at h2;cases d<;>simp only [TV] at h2;split at h
  ·simp only [VR] at hx hy;subst hx hy;refine⟨?_,by simp,by simp,by simp,by simp,by simp,by simp⟩;rw [J4 h];simp [Op.equalIn,F8 h1]
  ·simp at h
 ·rename_i k hk;cases hkk:i.kind<;>rw [hkk] at h h2<;>simp only [isNil,reduceCtorEq] at h
  case pointer e=>
   cases d<;>simp only [TV] at h2;cases x<;>simp only [reduceCtorEq] at h<;>cases y<;>simp only [reduceCtorEq,aHe] at h<;>subst h<;>simp only [VR] at hx hy
   all_goals
    first |(obtain⟨b,o,us,rfl,_⟩:=hx)|(obtain⟨rfl,_⟩:=hx)|subst hx
    first |(obtain⟨b',o',us',rfl,_⟩:=hy)|(obtain⟨rfl,_⟩:=hy)|subst hy
    exact⟨by simp [Op.equalIn,F8 h1,SB.den],by simp,by simp,by simp,by simp,by simp,by simp⟩
  case slice e=>
   cases d<;>simp only [TV] at h2;cases x<;>simp only [reduceCtorEq] at h<;>cases y<;>simp only [reduceCtorEq,aHe] at h<;>subst h<;>simp only [VR] at hx hy
   all_goals
    first |(obtain⟨b,o,cap,us,rfl,_⟩:=hx)|(obtain⟨_,b,cap,rfl,_⟩:=hx)|(obtain⟨_,k,b,cap,_,rfl,_⟩:=hx)|subst hx
    first |(obtain⟨b',o',cap',us',rfl,_⟩:=hy)|(obtain⟨_,b',cap',rfl,_⟩:=hy)|(obtain⟨_,k',b',cap',_,rfl,_⟩:=hy)|subst hy
    exact⟨by simp [Op.equalIn,F8 h1,SB.den],by simp,by simp,by simp,by simp,by simp,by simp⟩
  case map k' e=>
   cases d<;>simp only [TV] at h2;cases x<;>simp only [reduceCtorEq] at h<;>cases y<;>simp only [reduceCtorEq,aHe] at h<;>subst h<;>simp only [VR] at hx hy
   all_goals
    first |(obtain⟨rfl,_⟩:=hx)|subst hx
    first |(obtain⟨rfl,_⟩:=hy)|subst hy
    exact⟨by simp [Op.equalIn,F8 h1,SB.den],by simp,by simp,by simp,by simp,by simp,by simp⟩
theorem binOp_eql {t:Nat} {u u':Value} {b:Bool} (h:(Op.equal t u u').run P w= .ok b w) (h1: ∀k n,u≠.int k n) (h2: ∀s,u≠.string s) (h3: ∀k n,u≠.float k n) (h4: ∀k n m,u≠.complex k n m) :
 (binOp .eql t u u').run P w= .ok (.bool b) w/\(binOp .neq t u u').run P w= .ok (.bool (!b)) w:=by
 cases u<;>first
  |exact absurd rfl (h1 _ _)
  |exact absurd rfl (h2 _)
  |exact absurd rfl (h3 _ _)
  |exact absurd rfl (h4 _ _ _)
  |(constructor<;>(cases u'<;>simp [binOp,h]))
theorem qL (ρ:Nat->Int) (a b:SE):(BL a b).den ρ=(a.den ρ == b.den ρ):=by
 unfold BL;split
 ·rename_i h;rw [dD _ _ h];simp [SB.den]
 ·split
  ·simp only [SB.den];exact BEq.comm
  ·simp only [SB.den]
theorem qF (ρ:Nat->Int) (x:SE):(rW x).den ρ=enc (dec (x.den ρ)):=by
 unfold rW;split
 ·simp only [SE.den,aC]
 ·split
  ·simp only [SE.den,jC.den,aC]
  ·simp only [SE.den,jC.den,aC]
  ·simp only [SE.den,jC.den]
 ·simp only [SE.den,jC.den]
theorem FX {E:En} {h:Array Obj} {x:AV} {u:Value} {e:SE} (hx:VR E h x u) (hs:AU x=some e): ∃s,u= .string s/\dec (e.den E.ρ)=Bd s:=by
 unfold AU at hs;split at hs
 ·simp only [aHe] at hs;subst hs;simp only [VR] at hx;obtain⟨rfl,hb⟩:=hx;refine⟨_,rfl,?_⟩;simp only [SE.den,aC];rw [Hq _ hb];simp [Bd,dH]
 ·simp only [aHe] at hs;subst hs;simp only [VR] at hx;generalize dec (SE.den E.ρ _)=d at hx ⊢
  cases hx with
  |str s=>exact⟨s,rfl,rfl⟩
 ·simp at hs
theorem MN {E:En} {h:Array Obj} {x y:AV} {u v:Value} {c:SB} (hx:VR E h x u) (hy:VR E h y v) (hs:strEq x y=some c): ∃a b:ByteArray,u= .string a/\v= .string b/\c.den E.ρ=decide (a=b):=by
 unfold strEq at hs;split at hs
 ·simp at hs
 ·rename_i e he;split at hs
  ·simp at hs
  ·rename_i f hf;simp only [aHe] at hs;subst hs;obtain⟨a,rfl,ha⟩:=FX hx he;obtain⟨b,rfl,hb⟩:=FX hy hf;refine⟨a,b,rfl,rfl,?_⟩;rw [qL,qF,qF,ha,hb,aHY,beq_iff_eq,decide_eq_true_eq];exact⟨fun q=>O1 (gI q),fun q=>by rw [q]⟩
theorem EO (a b:ByteArray):(a.toList == b.toList)=decide (a=b):=by
 rw [aHY,beq_iff_eq,decide_eq_true_eq];constructor
 ·intro h;rw [<- oI a,<- oI b]
  have e: ∀x:ByteArray,x.toList=x.data.toList:=by
   intro x;have:=tK (bytesOf x);rw [oI] at this;rw [this]
   have e2:(UInt8.ofNat ∘ fun b:UInt8=>b.toNat)=id:=by funext b;simp
   rw [bytesOf,aIy,e2,aI7]
  rw [e,e] at h;unfold bytesOf;rw [h]
 ·intro h; rw [h]
theorem QS {E:En} {op:BinOp} {x y v:AV} {u u':Value} {t:Nat} (hx:VR E w.heap x u) (hy:VR E w.heap y u') (h:Ut op (strEq x y)=some v) :
 (∃r,(binOp op t u u').run P w= .ok r w/\VR E w.heap v r)/\(∀cs ds,¬(u= .agg cs/\u'= .agg ds))/\¬(u= .nilIface/\u'= .nilIface):=by
 unfold Ut at h;split at h
 ·simp at h
 ·rename_i c hc;obtain⟨a,b,rfl,rfl,hd⟩:=MN hx hy hc;refine⟨?_,by simp,by simp⟩;split at h
  ·simp only [aHe] at h;subst h;refine⟨.bool (decide (a=b)),?_,by simp only [VR,hd]⟩;rw [<- EO];rfl
  ·simp only [aHe] at h;subst h;refine⟨.bool (!decide (a=b)),?_,by simp only [VR,SB.den,hd]⟩;rw [<- EO];rfl
  ·simp at h
theorem aoY {tt:TT} (htt:fE P tt) {t:Nat} {op:BinOp} {x y v:AV} {u u':Value} (hx:VR E w.heap x u) (hy:VR E w.heap y u') (h:aoZ tt t op x y=some v) :
 (∃r,(binOp op t u u').run P w= .ok r w/\VR E w.heap v r)/\(∀cs ds,¬(u= .agg cs/\u'= .agg ds))/\¬(u= .nilIface/\u'= .nilIface):=by
 unfold aoZ at h;split at h
 ·split at h
  ·simp only [VR] at hx hy;subst hx hy;refine⟨?_,by simp,by simp⟩;split at h
   ·exact Xz (.inl rfl) h
   ·simp at h
   ·split at h
    ·rename_i hk; exact Xz (.inr hk) h
    ·simp at h
  ·simp at h
 ·split at h
  ·simp only [VR] at hx hy;obtain⟨rfl,hx⟩:=hx;obtain⟨rfl,hy⟩:=hy;refine⟨?_,by simp,by simp⟩;obtain⟨r,h1,h2⟩:=WS (P:=P) (E:=E) (w:=w) hx hy h;refine⟨r,?_,h2⟩;cases op<;>first |(simp [WT] at h; done)|(simpa [binOp] using h1)
  ·exact QS hx hy h
  ·simp at h
 ·exact QS hx hy h
 ·split at h
  ·simp at h
  ·rename_i i hi;split at h
   ·rename_i c hc;simp at h;subst h;obtain⟨e1,e2,e3,e4,e5,e6,e7⟩:=afG (w:=w) (htt t i hi) hx hy hc;exact⟨⟨_,(binOp_eql e1 e4 e5 e6 e7).1,by simp only [VR]⟩,e2,e3⟩
   ·rename_i c hc;simp at h;subst h;obtain⟨e1,e2,e3,e4,e5,e6,e7⟩:=afG (w:=w) (htt t i hi) hx hy hc;exact⟨⟨_,(binOp_eql e1 e4 e5 e6 e7).2,by simp only [VR,rX]⟩,e2,e3⟩
   ·simp at h
theorem awW {op:UnOp} {x v:AV} {u:Value} (hx:VR E w.heap x u) (h:aC2 op x=some v): ∃r,(Op.unary op u).run P w= .ok r w/\VR E w.heap v r:=by
 unfold aC2 at h;split at h
 ·simp at h; subst h;simp only [VR] at hx; subst hx;exact⟨_,rfl,by simp only [VR,rX]⟩
 ·simp at h; subst h;simp only [VR] at hx; subst hx;exact⟨_,rfl,by simp only [VR,QZ,SE.den]⟩
 ·simp at h
end
section
variable {P:Program} {E:En} {w:World}
theorem lG [Glob] {H:Hp} {w':World} (r:bG E H w) {cs:List AV} {us:List Value} (arr:Array Value) (lo hi:Nat) (e:TypeId) (hv:bT E w.heap cs us) (h1: ∀u∈us,u.oneCell'=true)
 (ha: ∀(i:Nat) (u:Value),us[i]?=some u->arr[i]?=some u) (hf: ∀o:Nat,lo<=o->o<hi->arr.size<=o) (hw:w'.heap=w.heap.push (.cells arr e (lo,hi))) (al:Alike w w') :
 Stp E H w (E.ext H.fresh (w.heap.size,0) arr.size) (H.new (.cells cs e)) w'/\bG (E.ext H.fresh (w.heap.size,0) arr.size) (H.new (.cells cs e)) w':=by
 refine Gp r _ _ _ hw al ?_;have k:=N7 r (w.heap.size,0) arr.size (.cells arr e (lo,hi));rw [<- hw] at k;have hlen:=hv.length;simp only [OR,En.ext_θ_new,En.ext_κ_new];refine⟨arr,lo,hi,us,by rw [hw]; simp,bT.keep k _ _ hv,fun i u hu=>by rw [aHn]; exact ha i u hu,?_,by omega,hf,h1⟩;rw [<- hlen];rcases aHw arr.size us.length with hh|hh
 ·have:=ha arr.size us[arr.size] (by simp [hh]);simp at this
 ·exact hh
theorem UC [Glob] {H:Hp} (_:bG E H w) (c:Nat) (h:Array Obj) (off:Nat):VR (E.ext H.fresh (w.heap.size,0) c) h (.ptr H.fresh off) (.pointer (some ⟨w.heap.size,off,none⟩)):=by simp only [VR,En.ext_θ_new];exact⟨by simp,En.jZ _ _ _ _⟩
theorem aaC [Glob] {tt:TT} (htt:fE P tt) {H H':Hp} (r:bG E H w) {t:Nat} {p v:AV} {u x:Value} (hp:VR E w.heap p u) (hx:VR E w.heap v x) (h:Vh tt t p v H=some H') :
 ∃w',(Instr.storeAt t u x).run P w= .ok () w'/\Stp E H w E H' w'/\bG E H' w':=by
 unfold Vh at h;split at h
 ·simp at h
 ·rename_i i hi;split at h
  ·rename_i hc;simp only [aHg,decide_eq_true_eq] at hc;split at h
   ·split at h
    ·rename_i id off cs e hl;split at h
     ·rename_i cs' hs;simp at h;subst h;simp only [VR] at hp;obtain⟨rfl,_⟩:=hp;have hcv:=hx.cells hc.2;have hlen:x.cells.size=i.size:=by have:=hcv.length; simp only [aHL] at this; omega
      obtain⟨w',h1,h2,h3⟩:=qE (P:=P) r hl hs hcv (hcv.ones hc.2);refine⟨w',?_,h2,h3⟩;simp [Instr.storeAt,Instr.sureAddr,storeVar,eU (htt t i hi),hlen,h1]
     ·simp at h
    ·simp at h
   ·simp at h
  ·simp at h
theorem foldl_set: ∀(vs:List Value) (off k:Nat) (arr:Array Value),off+k+vs.length<=arr.size->
 ((vs.zipIdx k).foldl (fun cs p=>cs.setIfInBounds (off+p.2) p.1) arr).size=arr.size/\
 ∀i,((vs.zipIdx k).foldl (fun cs p=>cs.setIfInBounds (off+p.2) p.1) arr)[i]?=if off+k<=i/\i<off+k+vs.length then vs[i-(off+k)]? else arr[i]?
 |[],off,k,arr,_=> ⟨rfl,fun i=>by rw [aHc (by simp)]; rfl⟩
 |v::vs,off,k,arr,h=>by
  simp only [List.zipIdx_cons,List.foldl_cons];obtain⟨h1,h2⟩:=foldl_set vs off (k+1) (arr.setIfInBounds (off+k) v) (by simp at h ⊢; omega);refine⟨by rw [h1]; simp,fun i=>?_⟩;rw [h2 i];simp only [aHq] at h ⊢;by_cases hi:off+k=i
  ·rw [aHc (by omega),aHd (by omega)];subst hi;have hlt:off+k<arr.size:=by omega
   simp [hlt]
  ·by_cases hj:off+(k+1)<=i/\i<off+(k+1)+vs.length
   ·rw [aHd hj,aHd (by omega),show i-(off+k)=(i-(off+(k+1)))+1 from by omega];simp
   ·rw [aHc hj,aHc (by omega),aIg hi]
def AQ (E:En) (h:Array Obj):List (Nat×AV)->List (Nat×Value)->Prop
 |[],ps=>ps= []
 |(i,v)::xs,ps=> ∃x r,ps=(i,x)::r/\VR E h v x/\AQ E h xs r
theorem wG {place:Nat->Option (Nat×Nat)} {h:Array Obj}: ∀{parts:List (Nat×AV)} {cs cs':List AV} {us:Array Value} {ps:List (Nat×Value)},
 Ak place cs parts=some cs'->bT E h cs us.toList->AQ E h parts ps->(∀u∈us.toList,u.oneCell'=true)->
 ∃us':Array Value,Instr.fill place us ps=some us'/\bT E h cs' us'.toList/\∀u∈us'.toList,u.oneCell'=true
 |[],cs,cs',us,ps,h1,h2,h3,h4=>by simp only [AQ] at h3;subst h3;simp [Ak] at h1;subst h1;exact⟨us,rfl,h2,h4⟩
 |(i,v)::parts,cs,cs',us,ps,h1,h2,h3,h4=>by
  simp only [AQ] at h3;obtain⟨x,ps',rfl,hx,hb⟩:=h3;simp only [Ak] at h1;split at h1
  ·simp at h1
  ·rename_i off size hp;split at h1
   ·rename_i hc;simp only [aHg,decide_eq_true_eq] at hc;split at h1
    ·rename_i cs2 hs;have hcv:=hx.cells hc.2;have hlen:=hcv.length;simp only [aHL] at hlen;obtain⟨e1,e2,us',e3,e4⟩:=Dy hs h2 hcv;have hul:=h2.length;simp only [aHL] at hul;have hfold:=foldl_set x.cells.toList off 0 us (by simp; omega)
     have heq:(x.cells.zipIdx.foldl (fun cs (c,j)=>cs.setIfInBounds (off+j) c) us).toList=us':=by apply aI8;intro k;rw [e4 k];have h5:=hfold.2 k;simp only [aHJ,aHL] at h5;rw [aHT,<- Array.foldl_toList,Array.toList_zipIdx];rw [h5];simp only [aHL,aHT]
     have h6: ∀u∈(x.cells.zipIdx.foldl (fun cs (c,j)=>cs.setIfInBounds (off+j) c) us).toList,u.oneCell'=true:=by
      rw [heq];intro u hu;rw [aIP] at hu;obtain⟨k,hk⟩:=hu;rw [e4 k] at hk;split at hk
      ·exact hcv.ones hc.2 u (aHK hk)
      ·exact h4 u (aHK hk)
     obtain⟨us2,g1,g2,g3⟩:=wG (us:=x.cells.zipIdx.foldl (fun cs (c,j)=>cs.setIfInBounds (off+j) c) us) h1 (by rw [heq]; exact e3) hb h6;refine⟨us2,?_,g2,g3⟩;simp only [Instr.fill,hp];rw [aHc]
     ·exact g1
     ·simp only [aIh,decide_eq_true_eq,not_or];constructor
      ·omega
      ·omega
    ·simp at h1
   ·simp at h1
theorem Fq {s:St} {a:Act} (sr:SR E w.heap s.slots a): ∀{xs:List (Nat×Operand)} {ps:List (Nat×AV)},D6 s xs=some ps->AQ E w.heap ps (xs.map fun p=>(p.1,a.eval p.2))
 |[],ps,h=>by simp [D6] at h; subst h; simp [AQ]
 |(i,x)::xs,ps,h=>by
  simp only [D6] at h;split at h
  ·simp at h
  ·rename_i b hb;split at h
   ·simp at h
   ·rename_i bs hbs;simp at h;subst h;simp only [aHo,AQ];exact⟨_,_,rfl,jW sr hb,Fq sr hbs⟩
theorem dI {α:Type}: ∀(l:List α) (i:Nat),iH l i=l[i]?
 |[],i=>by cases i<;>rfl
 |x::xs,0=>rfl
 |x::xs,i+1=>by simp [iH,dI xs i]
theorem NQ {α β:Type} {f:α->Option β}: ∀{l:List α} {r:List β},l.mapM f=some r->∀i:Nat,r[i]?=(l[i]?).bind f
 |[],r,h,i=>by simp at h; subst h; simp
 |x::xs,r,h,i=>by
  simp only [aIR,aJw,aI9] at h;obtain⟨y,h1,ys,h2,h3⟩:=h;simp only [pure,aHe] at h3;subst h3
  cases i with
  |zero=>simp [h1]
  |succ i=>simpa using NQ h2 i
theorem adW {α β:Type} {f:α->Option β}: ∀{l:List α} {r:List β},r.length=l.length->(∀i:Nat,r[i]?=(l[i]?).bind f)->l.mapM f=some r
 |[],r,h,_=>by simp at h; subst h; simp
 |x::xs,[],h,_=>by simp at h
 |x::xs,y::ys,h,h2=>by have h0:=h2 0;simp at h0;have ih:=adW (l:=xs) (r:=ys) (by simpa using h) (fun i=>by simpa using h2 (i+1));simp [aIR,h0.symm,ih]
theorem mapM_length {α β:Type} {f:α->Option β}: ∀{l:List α} {r:List β},l.mapM f=some r->r.length=l.length
 |[],r,h=>by simp at h; subst h; simp
 |x::xs,r,h=>by simp only [aIR,aJw,aI9] at h;obtain⟨y,h1,ys,h2,h3⟩:=h;simp only [pure,aHe] at h3;subst h3;simp [mapM_length h2]
theorem aaS {tt:TT} (htt:fE P tt) {t:Nat} {parts:List (Nat×AV)} {ps:Array (Nat×Value)} {v:AV} (hp:AQ E w.heap parts ps.toList) (h:Vz tt t parts=some v) :
 ∃x,(Instr.build t ps).run P w= .ok x w/\VR E w.heap v x:=by
 unfold Vz at h;split at h
 ·rename_i i hi;have hti:=htt t i hi;obtain⟨inf,z,g1,g2,g3,g4,g5⟩:=DX hti;have hz:=gB (E:=E) (h:=w.heap) g5;split at h
  ·rename_i fs hk;rw [aHy] at h;obtain⟨cs',h1,rfl⟩:=h;obtain⟨us',e1,e2,e3⟩:=wG h1 hz.1 hp hz.2;obtain⟨CB,hu,hm⟩:=EM hti hk
   have hb:P.built t ps.toList=some us':=by
    unfold Program.built
    have hm2:(CB.toList.mapM fun f=>(P.info? f.type).map fun i=>(f.offset,i.size))=some (fs.map fun x=>(x.1,x.2.2)):=by
     refine adW (by simp [mapM_length hm]) fun i=>?_;have:=NQ hm i;rw [aHG,this]
     cases CB.toList[i]? with
     |none=>rfl
     |some f=>simp only [Option.bind_some,Option.map_map]; rfl
    simp only [g1,hu,g4,hm2];rw [<- e1];congr 1;funext j;simp [dI]
   exact⟨_,run_build w t ps us' hb,by simp only [VR]; exact⟨us'.toList,by simp,e2⟩⟩
  ·rename_i n e hk;split at h
   ·rename_i s hs;rw [aHy] at h;obtain⟨cs',h1,rfl⟩:=h;obtain⟨us',e1,e2,e3⟩:=wG h1 hz.1 hp hz.2;simp only [kS,aHy] at hs;obtain⟨ie,hie,rfl⟩:=hs;obtain⟨inf',z',f1,f2,f3,f4,f5⟩:=DX (htt e ie hie)
    have hb:P.built t ps.toList=some us':=by unfold Program.built;simp only [g1,yF hti hk,g4,f1];rw [<- e1,f2]
    exact⟨_,run_build w t ps us' hb,by simp only [VR]; exact⟨us'.toList,by simp,e2⟩⟩
   ·simp at h
  ·simp at h
 ·simp at h
theorem JJ {α:Type} (l:List α) (hl:l≠[]): ∀(n i:Nat),i<n*l.length->(repeatL l n)[i]?=l[i % l.length]?
 |0,i,h=>by simp at h
 |n+1,i,h=>by
  have hpos:0<l.length:=aIi.2 hl;simp only [repeatL];rw [aJx];split
  ·rename_i h2; rw [aIm h2]
  ·rename_i h2;rw [JJ l hl n (i-l.length) (by rw [aIa] at h; omega)];congr 1;rw [<- Nat.mod_eq_sub_mod (by omega)]
theorem repeatL_length {α:Type} (l:List α): ∀n,(repeatL l n).length=n*l.length
 |0=>by simp [repeatL]
 |n+1=>by simp [repeatL,repeatL_length l n,aIa]; omega
theorem qN {h:Array Obj} {cs:List AV} {us:List Value} (hv:bT E h cs us): ∀n,bT E h (repeatL cs n) (repeatL us n)
 |0=>by simp [repeatL,bT]
 |n+1=>hv.append (qN hv n)
theorem qM {α:Type} {l:List α} {x:α}: ∀{n},x∈repeatL l n->x∈l
 |0,h=>by simp [repeatL] at h
 |n+1,h=>by
  simp only [repeatL,aH1] at h;rcases h with h|h
  ·exact h
  ·exact qM h
theorem Bj (z:Array Value) (hz:z.toList≠[]) (n:Nat):((Array.range (n*z.size)).map (z[·% z.size]!)).toList=repeatL z.toList n:=by
 apply aI8;intro i;have hpos:0<z.size:=by have:=aIi.2 hz; simpa using this
 by_cases hi:i<n*z.size
 ·rw [JJ _ hz n i (by simpa using hi)];have hm:i % z.size<z.size:=Nat.mod_lt _ hpos;simp only [aHT,aJy,aJz,hi,if_true,aHV,aHL];rw [getElem!_pos z (i % z.size) hm,aJA hm]
 ·rw [aH2 (by simp; omega),aH2 (by rw [repeatL_length]; simp; omega)]
theorem KD [Glob] {tt:TT} (htt:fE P tt) {H H':Hp} (r:bG E H w) {t len:Nat} {parts:List (Nat×AV)} {ps:Array (Nat×Value)} {v:AV} (hp:AQ E w.heap parts ps.toList) (h:Ap tt t len parts H=some (v,H')) :
 ∃x w' E',(Instr.buildSlice t len ps).run P w= .ok x w'/\Stp E H w E' H' w'/\bG E' H' w'/\VR E' w'.heap v x:=by
 unfold Ap at h;split at h
 ·rename_i i hi;have hti:=htt t i hi;split at h
  ·rename_i e hk;split at h
   ·rename_i ie hie;have htie:=htt e ie hie;obtain⟨inf,z,g1,g2,g3,g4,g5⟩:=DX htie;have hz:=gB (E:=E) (h:=w.heap) g5;split at h
    ·rename_i hb;split at h
     ·rename_i cs h1;simp only [aHe,aHf] at h;obtain⟨rfl,rfl⟩:=h
      have hsz:len*ie.size<=2 ^ 24:=by have:len*ie.size<=1000*1000:=aJB hb.1 hb.2.1;omega
      have hzl:z.cells.size=ie.size:=by have:=hz.1.length; simp only [aHL] at this; omega
      have key: ∃us':Array Value,Instr.fill (fun i=>some (i*inf.size,inf.size)) ((Array.range (len*inf.size)).map ((if len*inf.size=0 then #[] else z.cells)[·% (if len*inf.size=0 then #[] else z.cells).size]!)) ps.toList=some us'/\bT E w.heap cs us'.toList/\∀u∈us'.toList,u.oneCell'=true:=by
       rw [g2];by_cases h0:len*ie.size=0
       ·rw [aHd h0,h0]
        have hrep:repeatL ie.zero len= []:=by apply aH6;rw [repeatL_length,hb.2.2];exact h0
        refine wG h1 ?_ hp ?_
        ·rw [hrep]; simp [bT]
        ·simp
       ·rw [aHc h0]
        have hne:z.cells.toList≠[]:=by
         intro hx;have hx':z.cells.size=0:=by have:=congrArg List.length hx; simpa using this
         rw [hzl] at hx';simp [hx'] at h0
        have hzz:=Bj z.cells hne len;rw [hzl] at hzz;refine wG h1 ?_ hp ?_
        ·rw [hzl,hzz]; exact qN hz.1 len
        ·rw [hzl,hzz]; intro u hu; exact hz.2 u (qM hu)
      obtain⟨us',e1,e2,e3⟩:=key;refine⟨.slice (some ⟨w.heap.size,0,none⟩) len len,{ w with heap:=w.heap.push (.cells us' e) },E.ext H.fresh (w.heap.size,0) us'.size,?_,?_⟩
      ·by_cases h0:len*inf.size=0
       ·rw [aHd h0] at e1;rw [h0] at e1;have e0: ∀f:Nat->Value,(Array.range 0).map f= #[]:=by intro f; simp
        rw [e0] at e1;simp [Instr.buildSlice,run_underlying (gX hti hk),sizeOf,typeInfo,g1,h0,e0,e1,newRow]
       ·rw [aHc h0] at e1;have h24: ¬(2 ^ 24<len*inf.size):=by rw [g2]; omega
        simp only [Instr.buildSlice,Sem.run_bind,run_underlying (gX hti hk),Result.andThen_ok,sizeOf,typeInfo,zeroValue,run_program,g1,g4,Sem.run_pure,newRow,gt_iff_lt,h24,h0,if_false,Sem.run_ite];rw [e1];rfl
      ·obtain⟨s1,s2⟩:=lG r us' 0 0 e e2 e3 (fun i u hu=>by rw [<- aHT]; exact hu) (by omega) (w':={ w with heap:=w.heap.push (.cells us' e) }) rfl ⟨rfl,rfl,rfl⟩;refine⟨s1,s2,?_⟩;simp only [VR];exact⟨En.jZ _ _ _ _,⟨w.heap.size,0,none⟩,len,rfl,aHh _,by simp [gJ,En.ext_θ_new]⟩
     ·simp at h
    ·simp at h
   ·simp at h
  ·simp at h
 ·simp at h
theorem SA {E:En} {h:Array Obj} {v:AV} {u:Value} {n:Int} (hv:VR E h v u) (hl:nY v=some n): ∃k,u= .int k n:=by
 unfold nY at hl;split at hl
 ·simp only [aHe] at hl;subst hl;simp only [VR,SE.den] at hv;exact⟨_,hv⟩
 ·simp at hl
theorem CO [Glob] {tt:TT} (htt:fE P tt) {H H':Hp} (r:bG E H w) {t:Nat} {l c:AV} {lu cu:Value} {v:AV} (hl:VR E w.heap l lu) (hc:VR E w.heap c cu) (h:xJ tt t l c H=some (v,H')) :
 ∃x w' E',(Instr.makeSlice t lu cu).run P w= .ok x w'/\Stp E H w E' H' w'/\bG E' H' w'/\VR E' w'.heap v x:=by
 unfold xJ at h;split at h
 ·rename_i n hln;split at h
  ·rename_i m hcm;obtain⟨k1,rfl⟩:=SA hl hln;obtain⟨k2,rfl⟩:=SA hc hcm;split at h
   ·rename_i i hi;have hti:=htt t i hi;split at h
    ·rename_i e hk;split at h
     ·rename_i ie hie;have htie:=htt e ie hie;obtain⟨inf,z,g1,g2,g3,g4,g5⟩:=DX htie;have hz:=gB (E:=E) (h:=w.heap) g5;split at h
      ·rename_i hb;obtain⟨b1,b2,b3,b4,b5⟩:=hb;simp only [aHe,aHf] at h;obtain⟨rfl,rfl⟩:=h;have hzl:z.cells.size=ie.size:=by have:=hz.1.length; simp only [aHL] at this; omega
       have wn:IntKind.i64.wrap (Int.ofNat n)=Int.ofNat n:=by rw [<- pW]; simp only [AY]; rw [aHd (by constructor<;>simp<;>omega)]
       have wm:IntKind.i64.wrap (Int.ofNat m)=Int.ofNat m:=by rw [<- pW]; simp only [AY]; rw [aHd (by constructor<;>simp<;>omega)]
       have hbm:inf.bytes*m<=1000000000:=by rw [g3]; exact aJB b4 b2
       have ai: ∀(k:IntKind) (x:Int) (w:World),(asInt (Value.int k x)).run P w= .ok x w:=fun _ _ _=>rfl
       have key: ∃us':Array Value,((Array.range (m*inf.size)).map ((if m*inf.size=0 then #[] else z.cells)[·% (if m*inf.size=0 then #[] else z.cells).size]!))=us'/\bT E w.heap (repeatL ie.zero m) us'.toList/\∀u∈us'.toList,u.oneCell'=true:=by
        rw [g2];by_cases h0:m*ie.size=0
        ·rw [aHd h0,h0]
         have hrep:repeatL ie.zero m= []:=by apply aH6;rw [repeatL_length,b5];exact h0
         refine⟨_,rfl,?_,?_⟩
         ·rw [hrep]; simp [bT]
         ·simp
        ·rw [aHc h0]
         have hne:z.cells.toList≠[]:=by
          intro hx;have hx':z.cells.size=0:=by have:=congrArg List.length hx; simpa using this
          rw [hzl] at hx';simp [hx'] at h0
         have hzz:=Bj z.cells hne m;rw [hzl] at hzz;refine⟨_,rfl,?_,?_⟩
         ·rw [hzl,hzz]; exact qN hz.1 m
         ·rw [hzl,hzz]; intro u hu; exact hz.2 u (qM hu)
       obtain⟨us',e1,e2,e3⟩:=key;refine⟨.slice (some ⟨w.heap.size,0,none⟩) n m,{ w with heap:=w.heap.push (.cells us' e) },E.ext H.fresh (w.heap.size,0) us'.size,?_,?_⟩
       ·have t1: ¬(Int.ofNat m<0):=by simp
        have t2: ¬((inf.bytes:Int)*Int.ofNat m > 2 ^ 48):=by have h1:((inf.bytes*m:Nat):Int)<=((1000000000:Nat):Int):=Int.ofNat_le.2 hbm;rw [Int.natCast_mul] at h1;show ¬((inf.bytes:Int)*(m:Int) > 2 ^ 48);omega
        have t3: ¬(Int.ofNat n<0):=by simp
        have t4: ¬(Int.ofNat n > Int.ofNat m):=by simp; omega
        have t5:(askRoom (m*inf.bytes)).run P w= .ok () w:=by
         have: ¬(m*inf.bytes > roomBytes):=by unfold roomBytes;rw [aIx];omega
         unfold askRoom;rw [aHc this];rfl
        have t6:(Int.ofNat m).toNat=m:=rfl;have t7:(Int.ofNat n).toNat=n:=rfl;by_cases h0:m*inf.size=0
        ·rw [aHd h0] at e1;rw [h0] at e1;simp only [Instr.makeSlice,Sem.run_bind,run_underlying (gX hti hk),Result.andThen_ok,ai,sizeOf,typeInfo,zeroValue,run_program,g1,g4,Sem.run_pure,newRow,Sem.run_ite,wn,wm,t1,t2,t3,t4,t6,t7,h0,decide_false,aJa,aHv,if_false,if_true];rw [t5,Result.andThen_ok,e1];rfl
        ·rw [aHc h0] at e1;simp only [Instr.makeSlice,Sem.run_bind,run_underlying (gX hti hk),Result.andThen_ok,ai,sizeOf,typeInfo,zeroValue,run_program,g1,g4,Sem.run_pure,newRow,Sem.run_ite,wn,wm,t1,t2,t3,t4,t6,t7,h0,decide_false,aJa,aHv,if_false];rw [t5,Result.andThen_ok,e1];rfl
       ·obtain⟨s1,s2⟩:=lG r us' 0 0 e e2 e3 (fun i u hu=>by rw [<- aHT]; exact hu) (by omega) (w':={ w with heap:=w.heap.push (.cells us' e) }) rfl ⟨rfl,rfl,rfl⟩;refine⟨s1,s2,?_⟩;simp only [VR];exact⟨En.jZ _ _ _ _,⟨w.heap.size,0,none⟩,m,rfl,b1,by simp [gJ,En.ext_θ_new]⟩
      ·simp at h
     ·simp at h
    ·simp at h
   ·simp at h
  ·simp at h
 ·simp at h
end
section
variable {P:Program} {E:En} {w:World}
theorem Xe {i:TI} {t:Nat} (hti:rQ P t i) {fs:List (Nat×Nat×Nat)} (hk:i.kind= .struct fs) {f off ft sz:Nat} (h:iH fs f=some (off,ft,sz)) :
 ∃(CB:Array Field) (fd:Field) (inf:TypeInfo),P.underlying t=some (.struct CB)/\CB[f]?=some fd/\fd.offset=off/\fd.type=ft/\P.info? ft=some inf/\inf.size=sz:=by
 obtain⟨CB,hu,hm⟩:=EM hti hk;have h1:=NQ hm f;rw [<- dI,h,aHT] at h1
 cases hf:CB[f]? with
 |none=>rw [hf] at h1; simp at h1
 |some fd=>
  rw [hf] at h1;simp only [Option.bind_some] at h1
  cases hi:P.info? fd.type with
  |none=>rw [hi] at h1; simp at h1
  |some inf=> rw [hi] at h1;simp at h1;obtain⟨rfl,rfl,rfl⟩:=h1;exact⟨CB,fd,inf,hu,hf,rfl,rfl,hi,rfl⟩
theorem Ry {x v:AV} {u:Value} {off:Nat} (hx:VR E w.heap x u) (h:adU off x=some v) :
 ∃b o,u= .pointer (some ⟨b,o,none⟩)/\VR E w.heap v (.pointer (some ⟨b,o+off,none⟩)):=by
 unfold adU at h;cases x<;>simp only [aHe,reduceCtorEq,aHy] at h
 case ptr id o=>
  subst h;simp only [VR] at hx ⊢;obtain⟨rfl,hid⟩:=hx;exact⟨_,_,rfl,by rw [aHR],hid⟩
 case qV id es i o=>
  subst h;simp only [VR] at hx ⊢;obtain⟨hid,k,h1,rfl⟩:=hx;exact⟨_,_,rfl,hid,k,h1,by rw [aHR,aHR]⟩
 case rY cs=>
  obtain⟨l,h1,rfl⟩:=h;simp only [VR] at hx ⊢;obtain⟨b,o,us,rfl,h2,h3,h4,h5⟩:=hx;exact⟨b,o,rfl,b,o+off,us.drop off,rfl,h2,(h3.fZ h1).1,h4.drop off,fun u hu=>h5 u (aHQ hu)⟩
theorem OH {tt:TT} (htt:fE P tt) {t f:Nat} {x v:AV} {u:Value} (hx:VR E w.heap x u) (h:CQ tt t x f=some v) :
 ∃r,(Instr.fieldAt t u f).run P w= .ok r w/\VR E w.heap v r:=by
 unfold CQ at h;split at h
 ·rename_i i hi;split at h
  ·rename_i fs hk;split at h
   ·rename_i off ft sz hn;obtain⟨CB,fd,inf,hu,hf,h1,h2,h3,h4⟩:=Xe (htt t i hi) hk hn;split at h
    ·simp at h
    ·rename_i hsz;obtain⟨b,o,rfl,hv⟩:=Ry hx h;refine⟨_,?_,hv⟩;have hne: ¬inf.size=0:=by rw [h4]; exact hsz
     simp [Instr.fieldAt,run_underlying hu,hf,Instr.sureAddr,fieldPlace,sizeOf,typeInfo,h2,h3,hne,gQ,h1]
   ·simp at h
  ·simp at h
 ·simp at h
theorem adO {i:TI} {t:Nat} (hti:rQ P t i) {cs l:List AV} {us:List Value} {off:Nat} {v:AV} (hv:bT E w.heap cs us) (hd:fZ off cs=some l)
 (h:partOf i l=some v) :
 ∃r,(part t us.toArray off).run P w= .ok r w/\VR E w.heap v r:=by
 obtain⟨h1,h2,h3⟩:=hv.fZ hd;have hlen:=hv.length;unfold partOf at h;split at h
 ·rename_i hagg;rw [aHy] at h;obtain⟨l',h4,rfl⟩:=h;obtain⟨h5,h6⟩:=h1.kR h4;refine⟨.agg (us.toArray.extract off (off+i.size)),?_,?_⟩
  ·simp [part,vJ hti,hagg,eU hti]
  ·simp only [VR];refine⟨(us.drop off).take i.size,?_,h5⟩;simp
 ·rename_i hagg;split at h
  ·rename_i x l';simp at h;subst h;rw [bC] at h1;obtain⟨u,vs,he,h5,_⟩:=h1;refine⟨u,?_,h5⟩
   have hg:us[off]?=some u:=by have:=congrArg (·[0]?) he;simpa using this
   simp [part,vJ hti,hagg,hg]
  ·simp at h
theorem aaL {tt:TT} (htt:fE P tt) {t f:Nat} {x v:AV} {u:Value} (hx:VR E w.heap x u) (h:Vr tt t x f=some v) :
 ∃r,(Instr.field t u f).run P w= .ok r w/\VR E w.heap v r:=by
 unfold Vr at h;split at h
 ·rename_i i hi;split at h
  ·rename_i fs hk;split at h
   ·rename_i off ft sz hn;obtain⟨CB,fd,inf,hu,hf,h1,h2,h3,h4⟩:=Xe (htt t i hi) hk hn;split at h
    ·rename_i fi cs hfi;split at h
     ·rename_i l hl;simp only [VR] at hx;obtain⟨us,rfl,hv⟩:=hx;obtain⟨r,e1,e2⟩:=adO (w:=w) (htt ft fi hfi) hv hl h;refine⟨r,?_,e2⟩;simp [Instr.field,run_underlying hu,hf,asAgg,h1,h2,e1]
     ·simp at h
    ·simp at h
   ·simp at h
  ·simp at h
 ·simp at h
theorem Jc {x:AV} {u:Value} {n:Int} (hx:VR E w.heap x u) (h:nY x=some n): ∃k,u= .int k n:=by cases x<;>simp [nY] at h;rename_i k e;cases e<;>simp at h;subst h;simp only [VR,SE.den] at hx;exact⟨k,hx⟩
theorem wH {tt:TT} (htt:fE P tt) {t:Nat} {x ix v:AV} {u ui:Value} (hx:VR E w.heap x u) (hix:VR E w.heap ix ui) (h:uH tt t x ix=some v) :
 ∃r,(Instr.indexAt t u ui).run P w= .ok r w/\VR E w.heap v r:=by
 unfold uH at h;split at h
 ·rename_i i hi;obtain⟨k,rfl⟩:=Jc hix hi;split at h
  ·rename_i ti hti;have htok:=htt t ti hti;split at h
   ·rename_i n e hk;split at h
    ·rename_i hlt;split at h
     ·rename_i s hs;simp only [kS,aHy] at hs;obtain⟨ie,hie,rfl⟩:=hs;obtain⟨b,o,rfl,hv⟩:=Ry hx h;refine⟨_,?_,hv⟩;have hu:=yF htok hk;simp [Instr.indexAt,asIntOf,run_underlying hu,Instr.sureAddr,eU (htt e ie hie),hlt,gQ]
     ·simp at h
    ·simp at h
   ·rename_i e hk;have hu:=gX htok hk;split at h
    ·rename_i s hs;simp only [kS,aHy] at hs;obtain⟨ie,hie,rfl⟩:=hs;split at h
     ·rename_i id o len c;split at h
      ·rename_i hlt;simp at h;subst h;simp only [VR] at hx;obtain⟨hid,a,cap,rfl,hcap,hc⟩:=hx
       have ha:a=⟨(E.θ id).1,(E.θ id).2+o,none⟩:=by
        cases c with
        |exact c=>
         simp only [gJ] at hc;rcases hc.2 with hc|hc
         ·exact hc
         ·omega
        |rest es=>
         simp only [gJ] at hc;rcases hc with hc|hc
         ·exact hc.1
         ·omega
       subst ha;refine⟨.pointer (some ⟨(E.θ id).1,(E.θ id).2+o+i*ie.size,none⟩),?_,by simp only [VR]; exact⟨by rw [aHR],hid⟩⟩;simp [Instr.indexAt,asIntOf,run_underlying hu,eU (htt e ie hie),hlt,gQ]
      ·simp at h
     ·rename_i cs n full;split at h
      ·rename_i hlt;rw [aHy] at h;obtain⟨l,h1,rfl⟩:=h;simp only [VR] at hx;obtain⟨b,o,cap,us,rfl,h2,h3,h4,h5,h6,h7⟩:=hx;refine⟨.pointer (some ⟨b,o+i*ie.size,none⟩),?_,?_⟩
       ·simp [Instr.indexAt,asIntOf,run_underlying hu,eU (htt e ie hie),hlt,gQ]
       ·simp only [VR];exact⟨b,_,us.drop (i*ie.size),rfl,h4,(h5.fZ h1).1,h6.drop _,fun u hu=>h7 u (aHQ hu)⟩
      ·simp at h
     ·simp at h
    ·simp at h
   ·simp at h
  ·simp at h
 ·simp at h
theorem MO (s:List Nat) (i:Nat):(dH s)[i]?=(s[i]?).map UInt8.ofNat:=by have h1:(dH s)[i]?=(dH s).data[i]?:=rfl;rw [h1];simp [dH]
theorem Fv {tt:TT} (htt:fE P tt) {t:Nat} {x ix v:AV} {u ui:Value} (hx:VR E w.heap x u) (hix:VR E w.heap ix ui) (h:G7 tt t x ix=some v) :
 ∃r,(Instr.index t u ui).run P w= .ok r w/\VR E w.heap v r:=by
 unfold G7 at h;split at h
 ·rename_i i hi;obtain⟨k,rfl⟩:=Jc hix hi;split at h
  ·rename_i ti hti;have htok:=htt t ti hti;split at h
   ·rename_i s hk;rw [aHy] at h;obtain⟨b,hb,rfl⟩:=h;simp only [VR] at hx;obtain⟨rfl,hlt⟩:=hx;rw [dI] at hb;have hg:(dH s)[i]?=some (UInt8.ofNat b):=by rw [MO,hb]; rfl
    have h256:=hlt b (aHK hb);refine⟨_,by simp [Instr.index,asIntOf,run_underlying (iK htok hk),hg]; rfl,?_⟩;simp only [VR,SE.den];congr 1;simp;omega
   ·rename_i n e cs hk;split at h
    ·rename_i hlt;split at h
     ·rename_i ie hie;split at h
      ·rename_i l hl;simp only [VR] at hx;obtain⟨us,rfl,hv⟩:=hx;obtain⟨r,e1,e2⟩:=adO (w:=w) (htt e ie hie) hv hl h;refine⟨r,?_,e2⟩;simp [Instr.index,asIntOf,run_underlying (yF htok hk),hlt,eU (htt e ie hie),e1]
      ·simp at h
     ·simp at h
    ·simp at h
   ·simp at h
  ·simp at h
 ·simp at h
end
section
variable {P:Program} {E:En} {w:World}
def jH (E:En) (h:Array Obj):Option AV->Option Value->Prop
 |none,o=>o=none
 |some x,o=> ∃u,o=some u/\VR E h x u
theorem iD {s:St} {a:Act} (sr:SR E w.heap s.slots a) {x:Option Operand} {v:Option AV} (h:Ti s x=some v):jH E w.heap v (x.map a.eval):=by
 cases x with
 |none=>simp [Ti] at h; subst h; simp [jH]
 |some x=> simp only [Ti,aHy] at h;obtain⟨b,h1,rfl⟩:=h;exact⟨_,rfl,jW sr h1⟩
theorem H8 {x:AV} {u:Value} {d y k:Nat} (hx:VR E w.heap x u) (h:bnd (some x) d y=some k) {y':Nat} (hy:y<=y') (code:BoundsCode) :
 (Instr.sliceBound u y' code).run P w= .ok k w/\k<=y:=by
 unfold bnd at h;simp only at h;split at h
 ·rename_i i hi;obtain⟨kk,rfl⟩:=Jc hx hi;split at h
  ·rename_i hle;simp at h;subst h;refine⟨?_,hle⟩;have:((i:Int)<=(y':Int)):=by omega
   simp [Instr.sliceBound,asIntOf];omega
  ·simp at h
 ·simp at h
theorem H9 {d y k:Nat} (h:bnd none d y=some k):k=d/\d<=y:=by
 unfold bnd at h;simp only at h;split at h
 ·simp at h; exact⟨h.symm,by assumption⟩
 ·simp at h
theorem iU {isSlice:Bool} {len cap m0 h0:Nat} {lo hi mx:Option AV} {lo' hi' mx':Option Value} (hlo:jH E w.heap lo lo') (hhi:jH E w.heap hi hi') (hmx:jH E w.heap mx mx')
 (hmh:mx.isSome=true->hi.isSome=true) {m h l d:Nat}
 (hm:(mx=none/\m=cap/\m0<=cap)\/(∃x,mx=some x/\bnd mx d m0=some m/\m0<=cap))
 (hh:bnd hi len h0=some h) (hh0:(mx=none->h0<=cap)/\(mx≠none->h0=m)) (hl:bnd lo 0 h=some l) :
 (Instr.sliceBounds isSlice len cap lo' hi' mx').run P w= .ok (l,h,m) w/\l<=h:=by
 have key: ∀(c:BoundsCode) (v:AV) (u:Value),lo=some v->VR E w.heap v u->(Instr.sliceBound u h c).run P w= .ok l w/\l<=h:=by intro c v u hv hu;subst hv;exact H8 hu hl (aHh _) c
 have aBV:lo=none->l=0:=fun hv=>by subst hv; exact (H9 hl).1
 unfold Instr.sliceBounds;rcases hm with ⟨rfl,rfl,hm0⟩|⟨x,rfl,hm1,hm0⟩
 ·simp only [jH] at hmx;subst hmx;have hb:=hh0.1 rfl
  cases hi with
  |none=>
   simp only [jH] at hhi;subst hhi;obtain⟨rfl,_⟩:=H9 hh
   cases lo with
   |none=> simp only [jH] at hlo;subst hlo;obtain rfl:=aBV rfl;simp
   |some v=> obtain⟨u,rfl,hu⟩:=hlo;obtain⟨k1,k2⟩:=key .sliceB v u rfl hu;simp [k1,k2]
  |some y=>
   obtain⟨uy,rfl,huy⟩:=hhi;have h1:=fun c=>(H8 (P:=P) huy hh hb c).1
   cases lo with
   |none=> simp only [jH] at hlo;subst hlo;obtain rfl:=aBV rfl;simp [h1]
   |some v=> obtain⟨u,rfl,hu⟩:=hlo;obtain⟨k1,k2⟩:=key .sliceB v u rfl hu;simp [h1,k1,k2]
 ·obtain⟨ux,rfl,hux⟩:=hmx;have h2:=fun c=>(H8 (P:=P) hux hm1 hm0 c).1;have hb:=hh0.2 (by simp);subst hb
  cases hi with
  |none=>simp at hmh
  |some y=>
   obtain⟨uy,rfl,huy⟩:=hhi;have h1:=fun c=>(H8 (P:=P) huy hh (aHh _) c).1
   cases lo with
   |none=> simp only [jH] at hlo;subst hlo;obtain rfl:=aBV rfl;simp [h1,h2]
   |some v=> obtain⟨u,rfl,hu⟩:=hlo;obtain⟨k1,k2⟩:=key .slice3C v u rfl hu;simp [h1,h2,k1,k2]
theorem zL (s:List Nat) (l h:Nat):(dH s).extract l h=dH ((s.take h).drop l):=by apply ByteArray.ext;apply Array.ext';rw [Lib.extract_data];simp [dH,aIS,aJb,List.drop_take]
theorem wO {id o len cap l h m es:Nat} {a:Addr} {c c':YI} (hc:gJ E id o len a cap c) (hlen:len<=cap) (hlh:l<=h) (hhm:h<=m) (hmc:m<=cap)
 (hcc:(∃k,c= .exact k/\c'= .exact (m-l))\/(c= .rest es/\c'= .exact (m-l))\/(c= .rest es/\c'= .rest es/\m=cap)) (s:Nat) (hes:c'= .rest es->es=s) :
 gJ E id (o+l*s) (h-l) (if m=l then a else a.add (l*s)) (m-l) c':=by
 rcases hcc with ⟨k,rfl,rfl⟩|⟨rfl,rfl⟩|⟨rfl,rfl,rfl⟩
 ·simp only [gJ] at *;refine⟨trivial,?_⟩;by_cases hml:m=l
  ·right; omega
  ·left;rw [aHc hml];rcases hc.2 with ha|ha
   ·rw [ha,gQ,aHR]
   ·omega
 ·simp only [gJ] at *;refine⟨trivial,?_⟩;by_cases hml:m=l
  ·right; omega
  ·left;rw [aHc hml];rcases hc with ha|ha
   ·rw [ha.1,gQ,aHR]
   ·omega
 ·simp only [gJ] at *;obtain rfl:=hes trivial;by_cases hml:m=l
  ·right;rcases hc with ha|ha
   ·subst hml; exact⟨by omega,by omega,ha.2⟩
   ·subst hml; refine⟨by omega,by omega,?_⟩; rw [ha.1,aH7,aHJ]; exact ha.2.2
  ·left;rw [aHc hml];rcases hc with ha|ha
   ·refine⟨by rw [ha.1,gQ,aHR],?_⟩;rw [<- ha.2,aHR,<- aIa];congr 2;omega
   ·omega
theorem pG {x:Option AV} {d y k:Nat} (h:bnd x d y=some k):k<=y:=by
 unfold bnd at h;split at h
 ·split at h
  ·simp at h; omega
  ·simp at h
 ·split at h
  ·split at h
   ·simp at h; omega
   ·simp at h
  ·simp at h
theorem XR [Glob] {tt:TT} (htt:fE P tt) {H:Hp} (r:bG E H w) {t:Nat} {x v:AV} {u:Value} {lo hi mx:Option AV} {lo' hi' mx':Option Value} (hx:VR E w.heap x u)
 (hlo:jH E w.heap lo lo') (hhi:jH E w.heap hi hi') (hmx:jH E w.heap mx mx') (h:OC tt t x lo hi mx H=some v) :
 ∃r,(Instr.sliceAt t u lo' hi' mx').run P w= .ok r w/\VR E w.heap v r:=by
 unfold OC at h;split at h
 ·simp at h
 ·split at h
  ·simp at h
  ·rename_i ti hti;have htok:=htt t ti hti;split at h
   ·rename_i e hk;have hu:=gX htok hk;split at h
    ·simp at h
    ·rename_i s hs;simp only [kS,aHy] at hs;obtain⟨ie,hie,rfl⟩:=hs;have hsz:=eU (w:=w) (htt e ie hie);split at h
     ·rename_i id o len es;split at h
      ·rename_i hes;split at h
       ·rename_i cs ty hl;split at h
        ·simp at h
        ·rename_i b Ik;split at h
         ·simp at h
         ·rename_i l hbl;simp at h;subst h;obtain⟨hes,hpos⟩:=hes;subst hes;simp only [VR] at hx;obtain⟨hid,a,cap,rfl,hlen,hc⟩:=hx;have hlive:=(r.live id _ hl).2.1;simp only [OR] at hlive;obtain⟨arr,lo1,hi1,us,q1,q2,q3,q4,q5,q6,q7⟩:=hlive
          have hcap:(cs.length-o) / ie.size<=cap:=by
           simp only [gJ] at hc;rcases hc with hc|hc
           ·have:cs.length-o<=cap*ie.size:=by omega
            exact Nat.div_le_of_le_mul (by rw [aIx]; exact this)
           ·have:cs.length-o=0:=by omega
            rw [this];simp
          obtain⟨e1,e2⟩:=iU (P:=P) (w:=w) (isSlice:=true) (len:=len) (cap:=cap) (m0:=cap) (d:=0) (m:=cap) hlo hhi hmx (by simp) (.inl ⟨rfl,rfl,aHh _⟩) Ik ⟨fun _=>hcap,by simp⟩ hbl;have aCa:=pG Ik;refine⟨.slice (some (if cap=l then a else a.add (l*ie.size))) (b-l) (cap-l),?_,?_⟩
          ·simp [Instr.sliceAt,run_underlying hu,Instr.slice,e1,hsz]<;>split<;>rfl
          ·simp only [VR];exact⟨hid,_,_,rfl,by omega,wO (es:=ie.size) hc hlen e2 (by omega) (aHh _) (.inr (.inr ⟨rfl,rfl,rfl⟩)) _ (fun _=>rfl)⟩
       ·simp at h
      ·simp at h
     ·simp at h
   ·simp at h
theorem aaD {tt:TT} (htt:fE P tt) {t:Nat} {x v:AV} {u:Value} {lo hi mx:Option AV} {lo' hi' mx':Option Value} (hx:VR E w.heap x u)
 (hlo:jH E w.heap lo lo') (hhi:jH E w.heap hi hi') (hmx:jH E w.heap mx mx') (h:Vj tt t x lo hi mx=some v) :
 ∃r,(Instr.sliceAt t u lo' hi' mx').run P w= .ok r w/\VR E w.heap v r:=by
 unfold Vj at h;split at h
 ·simp at h
 ·rename_i ti hti;have htok:=htt t ti hti;split at h
  ·rename_i hk;have hu:=iK htok hk;split at h
   ·rename_i s;simp only [jH] at hmx;subst hmx;split at h
    ·rename_i b hb;split at h
     ·rename_i l hl;simp at h;subst h;simp only [VR] at hx;obtain⟨rfl,hlt⟩:=hx;obtain⟨e1,e2⟩:=iU (P:=P) (w:=w) (isSlice:=false) (len:=s.length) (cap:=s.length) (m0:=s.length) (d:=0) hlo hhi (mx:=none) (mx':=none) rfl (by simp) (.inl ⟨rfl,rfl,aHh _⟩) hb ⟨fun _=>aHh _,by simp⟩ hl;refine⟨.string ((dH s).extract l b),?_,?_⟩
      ·rw [<- oH] at e1;simp [Instr.sliceAt,run_underlying hu,Instr.slice,e1]
      ·simp only [VR,zL];exact⟨trivial,fun c hc=>hlt c (aHS (aHQ hc))⟩
     ·simp at h
    ·simp at h
   ·simp at h
  ·rename_i e hk;have hu:=gX htok hk;split at h
   ·simp at h
   ·rename_i s hs;simp only [kS,aHy] at hs;obtain⟨ie,hie,rfl⟩:=hs;have hsz:=fun w'=>eU (htt e ie hie) w';split at h
    ·split at h
     ·simp at h
     ·rename_i hmh;split at h
      ·rename_i kh kl km Ik hbl hbm;simp at h;subst h;simp only [VR] at hx;subst hx;obtain rfl:kh=0:=by have:=pG Ik; omega
       obtain rfl:kl=0:=by have:=pG hbl; omega
       obtain rfl:km=0:=by have:=pG hbm; omega
       have hm:(mx=none/\0=0/\0<=0)\/(∃x,mx=some x/\bnd mx 0 0=some 0/\0<=0):=by
        cases mx with
        |none=>exact .inl ⟨rfl,rfl,aHh _⟩
        |some y=>exact .inr ⟨y,rfl,hbm,aHh _⟩
       obtain⟨e1,e2⟩:=iU (P:=P) (w:=w) (isSlice:=true) (len:=0) (cap:=0) (m0:=0) (d:=0) (m:=0) hlo hhi hmx (by cases mx<;>cases hi<;>simp_all) hm Ik ⟨fun _=>aHh _,fun _=>rfl⟩ hbl;refine⟨.slice none 0 0,?_,by simp only [VR]⟩;simp [Instr.sliceAt,run_underlying hu,Instr.slice,e1,hsz]
      ·simp at h
    ·rename_i id o len c;split at h
     ·simp at h
     ·rename_i hmh;split at h
      ·simp at h
      ·rename_i m hbm;split at h
       ·simp at h
       ·rename_i b Ik;split at h
        ·simp at h
        ·rename_i l hbl;simp at h;subst h;simp only [VR] at hx;obtain⟨hid,a,cap,rfl,hlen,hc⟩:=hx;have hcap:cap=c:=by simp only [gJ] at hc; exact hc.1
         subst hcap
         have hm:(mx=none/\m=cap/\cap<=cap)\/(∃x,mx=some x/\bnd mx cap cap=some m/\cap<=cap):=by
          cases mx with
          |none=>exact .inl ⟨rfl,(H9 hbm).1,aHh _⟩
          |some y=>exact .inr ⟨y,rfl,hbm,aHh _⟩
         obtain⟨e1,e2⟩:=iU (P:=P) (w:=w) (isSlice:=true) (len:=len) (cap:=cap) (m0:=cap) (d:=cap) (m:=m) hlo hhi hmx (by cases mx<;>cases hi<;>simp_all) hm Ik ⟨fun _=>pG hbm,fun _=>rfl⟩ hbl;refine⟨.slice (some (if m=l then a else a.add (l*ie.size))) (b-l) (m-l),?_,?_⟩
         ·simp [Instr.sliceAt,run_underlying hu,Instr.slice,e1,hsz]<;>split<;>rfl
         ·simp only [VR];exact⟨hid,_,_,rfl,by have:=pG Ik; omega,wO (es:=0) hc hlen e2 (pG Ik) (pG hbm) (.inl ⟨_,rfl,rfl⟩) _ (by simp)⟩
    ·rename_i id o len es;split at h
     ·split at h
      ·simp at h
      ·rename_i b Ik;split at h
       ·simp at h
       ·rename_i l hbl;split at h
        ·rename_i hes;simp at h;subst h;simp only [VR] at hx;obtain⟨hid,a,cap,rfl,hlen,hc⟩:=hx;obtain⟨e1,e2⟩:=iU (P:=P) (w:=w) (isSlice:=true) (len:=len) (cap:=cap) (m0:=cap) (d:=0) (m:=cap) hlo hhi hmx (by simp) (.inl ⟨rfl,rfl,aHh _⟩) Ik ⟨fun _=>hlen,by simp⟩ hbl;have aCa:=pG Ik;refine⟨.slice (some (if cap=l then a else a.add (l*ie.size))) (b-l) (cap-l),?_,?_⟩
         ·simp [Instr.sliceAt,run_underlying hu,Instr.slice,e1,hsz]<;>split<;>rfl
         ·simp only [VR];exact⟨hid,_,_,rfl,by omega,wO (es:=es) hc hlen e2 (by omega) (aHh _) (.inr (.inr ⟨rfl,rfl,rfl⟩)) _ (fun _=>hes)⟩
        ·simp at h
     ·rename_i y;split at h
      ·simp at h
      ·simp at h
      ·rename_i b0 m hbm;split at h
       ·simp at h
       ·rename_i b Ik;split at h
        ·simp at h
        ·rename_i l hbl;simp at h;subst h;simp only [VR] at hx;obtain⟨hid,a,cap,rfl,hlen,hc⟩:=hx;obtain⟨e1,e2⟩:=iU (P:=P) (w:=w) (isSlice:=true) (len:=len) (cap:=cap) (m0:=len) (d:=0) (m:=m) hlo hhi hmx (by simp) (.inr ⟨y,rfl,hbm,hlen⟩) Ik ⟨by simp,fun _=>rfl⟩ hbl;have hb2:=pG Ik;have hm2:=pG hbm;refine⟨.slice (some (if m=l then a else a.add (l*ie.size))) (b-l) (m-l),?_,?_⟩
         ·simp [Instr.sliceAt,run_underlying hu,Instr.slice,e1,hsz]<;>split<;>rfl
         ·simp only [VR];exact⟨hid,_,_,rfl,by omega,wO (es:=es) hc hlen e2 hb2 (by omega) (.inr (.inl ⟨rfl,rfl⟩)) _ (by simp)⟩
    ·rename_i cs n full;split at h
     ·split at h
      ·simp at h
      ·rename_i b Ik;split at h
       ·simp at h
       ·rename_i l hbl;split at h
        ·simp at h
        ·rename_i d hd;split at h
         ·simp at h
         ·rename_i d' hd';simp at h;subst h;simp only [VR] at hx;obtain⟨bb,o,cap,us,rfl,hn,hfull,h4,h5,h6,h7⟩:=hx;obtain⟨e1,e2⟩:=iU (P:=P) (w:=w) (isSlice:=true) (len:=n) (cap:=cap) (m0:=cap) (d:=0) (m:=cap) hlo hhi hmx (by simp) (.inl ⟨rfl,rfl,aHh _⟩) Ik ⟨fun _=>hn,by simp⟩ hbl;have hb2:=pG Ik;obtain⟨g1,g2,g3⟩:=h5.fZ hd;obtain⟨g4,g5⟩:=g1.kR hd';refine⟨.slice (some (if cap=l then⟨bb,o,none⟩ else (⟨bb,o,none⟩ : Addr).add (l*ie.size))) (b-l) (cap-l),?_,?_⟩
          ·simp [Instr.sliceAt,run_underlying hu,Instr.slice,e1,hsz]<;>split<;>rfl
          ·simp only [VR];by_cases hml:cap=l
           ·have h0:b-l=0:=by omega
            refine⟨bb,o,cap-l,(us.drop (l*ie.size)).take ((b-l)*ie.size),by rw [aHd hml],by omega,fun _=>by omega,h4,g4,?_,fun u hu=>h7 u (aHQ (aHS hu))⟩;rw [h0,aH7];intro i u hu;simp at hu
           ·refine⟨bb,o+l*ie.size,cap-l,(us.drop (l*ie.size)).take ((b-l)*ie.size),by rw [aHc hml,gQ],by omega,?_,h4,g4,(h6.drop _).take _,fun u hu=>h7 u (aHQ (aHS hu))⟩;intro hf;simp only [aHg,beq_iff_eq] at hf;have:=hfull hf.1;omega
     ·rename_i y;split at h
      ·simp at h
      ·simp at h
      ·rename_i b0 m hbm;split at h
       ·simp at h
       ·rename_i b Ik;split at h
        ·simp at h
        ·rename_i l hbl;split at h
         ·simp at h
         ·rename_i d hd;split at h
          ·simp at h
          ·rename_i d' hd';simp at h;subst h;simp only [VR] at hx;obtain⟨bb,o,cap,us,rfl,hn,hfull,h4,h5,h6,h7⟩:=hx;obtain⟨e1,e2⟩:=iU (P:=P) (w:=w) (isSlice:=true) (len:=n) (cap:=cap) (m0:=n) (d:=0) (m:=m) hlo hhi hmx (by simp) (.inr ⟨y,rfl,hbm,hn⟩) Ik ⟨by simp,fun _=>rfl⟩ hbl;have hb2:=pG Ik;obtain⟨g1,g2,g3⟩:=h5.fZ hd;obtain⟨g4,g5⟩:=g1.kR hd';refine⟨.slice (some (if m=l then⟨bb,o,none⟩ else (⟨bb,o,none⟩ : Addr).add (l*ie.size))) (b-l) (m-l),?_,?_⟩
           ·simp [Instr.sliceAt,run_underlying hu,Instr.slice,e1,hsz]<;>split<;>rfl
           ·simp only [VR];by_cases hml:m=l
            ·have h0:b-l=0:=by omega
             refine⟨bb,o,m-l,(us.drop (l*ie.size)).take ((b-l)*ie.size),by rw [aHd hml],by omega,fun _=>by omega,h4,g4,?_,fun u hu=>h7 u (aHQ (aHS hu))⟩;rw [h0,aH7];intro i u hu;simp at hu
            ·refine⟨bb,o+l*ie.size,m-l,(us.drop (l*ie.size)).take ((b-l)*ie.size),by rw [aHc hml,gQ],by omega,?_,h4,g4,(h6.drop _).take _,fun u hu=>h7 u (aHQ (aHS hu))⟩;intro hf;simp only [beq_iff_eq] at hf;omega
    ·simp at h
  ·rename_i n e hk;have hu:=yF htok hk;split at h
   ·simp at h
   ·rename_i s hs;simp only [kS,aHy] at hs;obtain⟨ie,hie,rfl⟩:=hs;have hsz:=fun w'=>eU (htt e ie hie) w';split at h
    ·rename_i id o;split at h
     ·simp at h
     ·rename_i hmh;split at h
      ·simp at h
      ·rename_i m hbm;split at h
       ·simp at h
       ·rename_i b Ik;split at h
        ·simp at h
        ·rename_i l hbl;simp at h;subst h;simp only [VR] at hx;obtain⟨rfl,hid⟩:=hx
         have hm:(mx=none/\m=n/\n<=n)\/(∃x,mx=some x/\bnd mx n n=some m/\n<=n):=by
          cases mx with
          |none=>exact .inl ⟨rfl,(H9 hbm).1,aHh _⟩
          |some y=>exact .inr ⟨y,rfl,hbm,aHh _⟩
         obtain⟨e1,e2⟩:=iU (P:=P) (w:=w) (isSlice:=false) (len:=n) (cap:=n) (m0:=n) (d:=n) (m:=m) hlo hhi hmx (by cases mx<;>cases hi<;>simp_all) hm Ik ⟨fun _=>pG hbm,fun _=>rfl⟩ hbl;refine⟨.slice (some (if m=l then⟨(E.θ id).1,(E.θ id).2+o,none⟩ else (⟨(E.θ id).1,(E.θ id).2+o,none⟩ : Addr).add (l*ie.size))) (b-l) (m-l),?_,?_⟩
         ·simp [Instr.sliceAt,run_underlying hu,Instr.sureAddr,e1,hsz]<;>split<;>rfl
         ·simp only [VR,gJ];refine⟨hid,_,_,rfl,by have:=pG Ik; omega,rfl,?_⟩;by_cases hml:m=l
          ·right; omega
          ·left; rw [aHc hml,gQ,aHR]
    ·simp at h
  ·simp at h
end
section
variable {P:Program} {E:En} {w:World}
theorem J9 {h:Array Obj}: ∀{cs:List AV} {us:List Value} {l:List Nat},CY cs=some l->bT E h cs us->us=(l.map UInt8.ofNat).map (fun b=>Value.int .u8 (b.toNat:Int))/\∀b∈l,b<256
 |[],us,l,h1,h2=>by simp [CY] at h1;subst h1;rw [lC] at h2;simp [h2]
 |x::cs,us,l,h1,h2=>by
  rw [bC] at h2;obtain⟨u,vs,rfl,h3,h4⟩:=h2;unfold CY at h1;split at h1
  ·rename_i he; simp at he
  ·rename_i b xs he;simp only [List.cons.injEq] at he;obtain⟨rfl,rfl⟩:=he;split at h1
   ·rename_i hb;split at h1
    ·rename_i l' hl;simp at h1;subst h1;obtain⟨e1,e2⟩:=J9 hl h4;simp only [VR,SE.den] at h3;refine⟨?_,?_⟩
     ·rw [h3,e1];simp [aIr,aIm hb]
     ·intro y hy;rcases aHm.1 hy with rfl|hy
      ·exact hb
      ·exact e2 y hy
    ·simp at h1
   ·simp at h1
  ·simp at h1
theorem G9 [Glob] {tt:TT} (htt:fE P tt) {H H':Hp} (r:bG E H w) {sT dT:Nat} {x v:AV} {u:Value} (hx:VR E w.heap x u) (h:vN tt sT dT x H=some (v,H')) :
 ∃y w' E',(convert sT dT u).run P w= .ok y w'/\Stp E H w E' H' w'/\bG E' H' w'/\VR E' w'.heap v y:=by
 unfold vN at h;split at h
 ·simp at h
 ·rename_i j hj;obtain⟨sd,hsd,hsk⟩:=yU (htt sT j hj);split at h
  ·rename_i i hi;have hti:=htt dT i hi;split at h
   ·rename_i k hk;have hd:=Dx hti hk;split at h
    ·rename_i kk n;simp only [aHe,aHf] at h;obtain⟨rfl,rfl⟩:=h;simp only [VR] at hx;subst hx;refine⟨.int k (k.wrap n),w,E,?_,Stp.refl _ _ _,r,by simp only [VR,SE.den,pW]⟩;simp [convert,run_underlying hsd,run_underlying hd,Conv.intToInt,SE.den]
    ·rename_i kk e hne;simp only [aHe,aHf] at h;obtain⟨rfl,rfl⟩:=h;simp only [VR] at hx;subst hx;refine⟨.int k (k.wrap (e.den E.ρ)),w,E,?_,Stp.refl _ _ _,r,by simp only [VR,SE.den]⟩;simp [convert,run_underlying hsd,run_underlying hd,Conv.intToInt]
    ·simp at h
   ·rename_i hk;have hd:=iK hti hk;split at h
    ·rename_i hjk;split at h
     ·rename_i s;simp only [aHe,aHf] at h;obtain⟨rfl,rfl⟩:=h;have hx':=hx;simp only [VR] at hx;obtain⟨rfl,_⟩:=hx;refine⟨_,w,E,?_,Stp.refl _ _ _,r,hx'⟩;simp [convert,run_underlying (iK (htt sT j hj) hjk),run_underlying hd]
     ·simp at h
    ·rename_i e hjk;have hs:=gX (htt sT j hj) hjk;split at h
     ·simp at h
     ·rename_i ie hie;split at h
      ·rename_i hu8;have he:=Dx (htt e ie hie) hu8.1;split at h
       ·simp only [aHe,aHf] at h;obtain⟨rfl,rfl⟩:=h;simp only [VR] at hx;subst hx;refine⟨.string .empty,w,E,?_,Stp.refl _ _ _,r,?_⟩
        ·rw [run_convert_bytes_string w sT dT e none 0 0 hs he hd];rfl
        ·simp only [VR];exact⟨rfl,by simp⟩
       ·rename_i id o len c;split at h
        ·rename_i cs hcs;rw [aHy] at h;obtain⟨l,hl,he2⟩:=h;simp only [aHf] at he2;obtain⟨rfl,rfl⟩:=he2;simp only [VR] at hx;obtain⟨hid,a,cap,rfl,hcap,hc⟩:=hx;obtain⟨b,o',us,e1,e2,e3,e4,e5⟩:=DK r (p:=.ptr id o) (u:=.pointer (some ⟨(E.θ id).1,(E.θ id).2+o,none⟩)) (by simp only [VR]; exact⟨trivial,hid⟩) hcs;obtain⟨e6,e7⟩:=J9 hl e3
         have hlen:len=(l.map UInt8.ofNat).length:=by have:=e3.length;rw [e6] at e2;simp at e2;simp [e2]
         have ha:a=⟨(E.θ id).1,(E.θ id).2+o,none⟩\/len=0:=by
          cases c with
          |exact c=>
           simp only [gJ] at hc;rcases hc.2 with hc|hc
           ·exact .inl hc
           ·right; omega
          |rest es=>
           simp only [gJ] at hc;rcases hc with hc|hc
           ·exact .inl hc.1
           ·right; omega
         refine⟨.string (dH l),w,E,?_,Stp.refl _ _ _,r,by simp only [VR]; exact⟨trivial,e7⟩⟩;rw [hlen];refine run_convert_bytes_back w sT dT e a cap (l.map UInt8.ofNat) hs he hd fun k hk=>?_;rcases ha with ha|ha
         ·subst ha;rw [gQ,uK];simp only [Value.pointer.injEq,aHe,Addr.mk.injEq] at e1;obtain⟨e1a,e1b,_⟩:=e1;rw [e1a,e1b];refine e4 k _ ?_;rw [e6,aHG,aHu hk];rfl
         ·omega
        ·simp at h
       ·simp at h
      ·simp at h
    ·simp at h
   ·rename_i e hk;have hd:=gX hti hk;split at h
    ·simp at h
    ·rename_i ie hie;split at h
     ·rename_i hu8;have he:=Dx (htt e ie hie) hu8.1;split at h
      ·rename_i s;simp only [aHe,aHf] at h;obtain⟨rfl,rfl⟩:=h;simp only [VR] at hx;obtain⟨rfl,hlt⟩:=hx;have hs:=iK (htt sT j hj) hu8.2;have hsz:(dH s).size=s.length:=oH s;have hge:=grownCap_ge w (dH s).size 0 e
       have hrow:(bytesRow (dH s) (grownCap w (dH s).size 0 e)).size=grownCap w (dH s).size 0 e:=by have h1:(dH s).data.size=s.length:=hsz;simp only [bytesRow,Array.size_append,aJC,Array.size_replicate,h1];omega
       have hv:bT E w.heap (s.map fun c=>AV.int .u8 (.lit (Int.ofNat c))) ((s.map UInt8.ofNat).map (fun b=>Value.int .u8 (b.toNat:Int))):=by
        clear hge hrow hsz
        induction s with
        |nil=>simp [bT]
        |cons b s ih=> have hb:=hlt b (by simp);rw [aHo,aHo,aHo,bC];refine⟨_,_,rfl,?_,ih fun c hc=>hlt c (by simp [hc])⟩;simp [VR,SE.den,aIr,aIm hb]
       obtain⟨s1,s2⟩:=lG r (bytesRow (dH s) (grownCap w (dH s).size 0 e)) (bytesRow (dH s) (grownCap w (dH s).size 0 e)).size ((bytesRow (dH s) (grownCap w (dH s).size 0 e)).size+1) e hv
        (by intro u hu; simp only [aHF] at hu; obtain⟨b,_,rfl⟩:=hu; rfl)
        (by
         intro k u hu;have hk:=(aHB.1 hu).1;simp only [aH0] at hk;simp only [bytesRow];rw [aJc (by have h1:(dH s).data.size=s.length:=hsz; simp only [aJC,h1]; exact hk)];rw [<- hu]
         simp [dH])
        (by intro o h1 h2; omega)
        (w':=w.drew.alloc (.cells (bytesRow (dH s) (grownCap w (dH s).size 0 e)) e ((bytesRow (dH s) (grownCap w (dH s).size 0 e)).size,(bytesRow (dH s) (grownCap w (dH s).size 0 e)).size+1))) rfl ⟨rfl,rfl,rfl⟩
       refine⟨_,_,_,run_bytes_of_string w sT dT e (dH s) hs hd he,s1,s2,?_⟩;simp only [VR,hsz];refine⟨En.jZ _ _ _ _,⟨w.heap.size,0,none⟩,_,rfl,by rw [<- hsz]; exact hge,?_⟩;simp only [gJ,En.ext_θ_new,En.ext_κ_new];left;refine⟨trivial,?_⟩;rw [<- hsz,hrow];omega
      ·simp at h
     ·simp at h
   ·simp at h
  ·simp at h
end
section
variable {P:Program} {E:En} {w:World}
def Jw (d:TypeDesc):TK->Prop
 | .int _=> ∃k,d= .int k
 | .string=>d= .string
 | .bool=>d= .bool
 |_=>False
theorem Fg {tt:TT} (htt:fE P tt) {t:Nat} {kk:TK} (h:DU tt t=some kk): ∃d,P.underlying t=some d/\Jw d kk:=by
 unfold DU at h;split at h
 ·rename_i i hi;split at h<;>simp only [aHe,reduceCtorEq] at h<;>subst h
  ·rename_i k hk; exact⟨_,Dx (htt t i hi) hk,k,rfl⟩
  ·rename_i hk; exact⟨_,iK (htt t i hi) hk,rfl⟩
  ·rename_i hk; exact⟨_,WG (htt t i hi) hk,rfl⟩
 ·simp at h
theorem alP {x y:List Nat} (hx: ∀b∈x,b<256) (hy: ∀b∈y,b<256):(dH x == dH y)=jT x y:=by
 have e:(dH x == dH y)=((dH x).data == (dH y).data):=rfl;rw [e,aHY,beq_iff_eq,qH];constructor
 ·intro h;have h2:=congrArg (fun b=>b.toList) h;simp only [dH] at h2;exact map_inj hx hy h2
 ·intro h; rw [h]
theorem Xx {h:Array Obj} {pc:List (SB×Bool)} (hp:bK E.ρ pc) {kk:TK} {d:TypeDesc} (hd:Jw d kk) {a b:AV} {u u':Value} (ha:VR E h a u) (hb:VR E h b u') {c:Bool} (hc:aeE pc kk a b=some c) :
 Instr.sameNow d u u'=some c/\(c=true->∀n,Instr.sameBits (n+1) u' u=true):=by
 unfold aeE at hc;split at hc
 ·obtain⟨k,rfl⟩:=hd;split at hc
  ·simp only [VR] at ha hb;subst ha hb;split at hc
   ·rename_i hk;subst hk;have hc:=jL hp hc;rw [lM] at hc;subst hc;refine⟨by simp [Instr.sameNow],fun hh n=>?_⟩;simp at hh;simp [Instr.sameBits,hh]
   ·simp at hc
  ·simp at hc
 ·simp only [Jw] at hd;subst hd;split at hc
  ·simp only [VR] at ha hb;obtain⟨rfl,ha⟩:=ha;obtain⟨rfl,hb⟩:=hb;simp at hc;subst hc;have he:=alP ha hb;refine⟨by simp only [Instr.sameNow,he],fun hh n=>?_⟩;simp only [Instr.sameBits];have h2:=(qH _ _).1 hh;subst h2;rw [he];exact hh
  ·split at hc
   ·rename_i c0 h0;obtain⟨x,y,rfl,rfl,hd⟩:=MN ha hb h0;have hc:=jL hp hc;rw [hd] at hc
    have hbe: ∀p q:ByteArray,(p == q)=decide (p=q):=by
     intro p q;rw [aHY,decide_eq_true_eq];have e:(p == q)=(p.data == q.data):=rfl;rw [e,beq_iff_eq];constructor
     ·intro h; cases p; cases q; simp only at h; rw [h]
     ·intro h; rw [h]
    refine⟨by simp only [Instr.sameNow,hbe,hc],fun hh n=>?_⟩;simp only [Instr.sameBits,hbe];rw [hh] at hc;simp only [decide_eq_true_eq] at hc ⊢;exact hc.symm
   ·simp at hc
 ·simp only [Jw] at hd;subst hd;split at hc
  ·simp only [VR,SB.den] at ha hb;subst ha hb;simp at hc;subst hc;refine⟨by simp [Instr.sameNow],fun hh n=>?_⟩;simp at hh;simp [Instr.sameBits,hh]
  ·simp at hc
 ·simp at hc
theorem jE {t:Nat} {kk:TK} {d:TypeDesc} (hu:P.underlying t=some d) (hd:Jw d kk) (b:Bool) (v:Value):(Instr.checkKey b 10000 t v).run P w= .ok () w:=by
 have h0:(10000:Nat)=9999+1:=rfl;rw [h0];generalize (9999:Nat)=n;cases kk<;>simp only [Jw] at hd
 ·subst hd; simp [Instr.checkKey,run_underlying hu]
 ·obtain⟨k,rfl⟩:=hd; simp [Instr.checkKey,run_underlying hu]
 ·subst hd; simp [Instr.checkKey,run_underlying hu]
theorem wF {h:Array Obj} {pc:List (SB×Bool)} (hp:bK E.ρ pc) {kk:TK} {d:TypeDesc} (hd:Jw d kk) {k:AV} {u:Value} (hk:VR E h k u): ∀{es:List (AV×AV×Nat)} {ents:List MapEntry} {i:Nat} {res:Option (Nat×AV)},
 fQ E h es ents->JY pc kk k es i=some res->
 (res=none/\Instr.findNow d u ents i=some none)\/
 (∃j v e,res=some (i+j,v)/\ents[j]?=some e/\VR E h v e.val/\Instr.findNow d u ents i=some (some (i+j,e.val))/\∀n,Instr.sameBits (n+1) e.key u=true)
 |[],ents,i,res,he,hf=>by simp only [fQ] at he;subst he;simp [JY] at hf;exact .inl ⟨hf.symm,by simp [Instr.findNow]⟩
 |(k',v,b)::es,ents,i,res,he,hf=>by
  simp only [fQ] at he;obtain⟨e,r,rfl,h1,h2,h3,h4⟩:=he;simp only [JY] at hf;split at hf
  ·rename_i hc;simp at hf;subst hf;obtain⟨g1,g2⟩:=Xx hp hd hk h1 hc;exact .inr ⟨0,v,e,rfl,rfl,h2,by simp [Instr.findNow,g1],g2 rfl⟩
  ·rename_i hc;obtain⟨g1,g2⟩:=Xx hp hd hk h1 hc;rcases wF hp hd hk h4 hf with ⟨q1,q2⟩|⟨j,v',e',q1,q2,q3,q4,q5⟩
   ·exact .inl ⟨q1,by simp [Instr.findNow,g1,q2]⟩
   ·refine .inr ⟨j+1,v',e',?_,by simpa using q2,q3,?_,q5⟩
    ·rw [q1]; congr 2; omega
    ·simp only [Instr.findNow,g1,q4]; congr 3; omega
  ·simp at hf
theorem iW {t:Nat} {d:TypeDesc} (hu:P.underlying t=some d) {u:Value} {ents:List MapEntry} {r:Option (Nat×Value)} (h:Instr.findNow d u ents 0=some r):(Instr.findKey t u ents).run P w= .ok r w:=by simp [Instr.findKey,run_underlying hu,h]
theorem mJ {r:Nat} {o:Obj} (h:w.heap[r]?=some o) (hn: ∀c e f,o≠.cells c e f):(getObj r).run P w= .ok o w:=by
 unfold getObj;cases o<;>first |exact absurd rfl (hn _ _ _)|simp only [Sem.run,h]
theorem lZ {r:Nat} {o o':Obj} (h:w.heap[r]?=some o) (hn: ∀c e f,o≠.cells c e f):(setObj r o').run P w= .ok () { w with heap:=w.heap.setIfInBounds r o' }:=by
 unfold setObj;cases o<;>first |exact absurd rfl (hn _ _ _)|simp only [Sem.run,h]
theorem kT [Glob] {H:Hp} (r:bG E H w) {id:Nat} {o:eP} (hl:H.get id=some o) (ao:eP) (o':Obj)
 (ho: ∀h',h'[(E.θ id).1]?=some o'->Keeps E w.heap E h'->OR E h' id ao) :
 Stp E H w E (H.put id ao) { w with heap:=w.heap.setIfInBounds (E.θ id).1 o' }/\bG E (H.put id ao) { w with heap:=w.heap.setIfInBounds (E.θ id).1 o' }:=by
 have hlt:=jS r hl
 have hother: ∀b,b≠(E.θ id).1->({ w with heap:=w.heap.setIfInBounds (E.θ id).1 o' }:World).heap[b]?=w.heap[b]?:=fun b hb=>by show (w.heap.setIfInBounds (E.θ id).1 o')[b]?=_;rw [aIg (fun e=>hb e.symm)]
 refine Xb r hl ao (by simp) hother ⟨rfl,rfl,rfl⟩ (ho _ ?_ (tZ r hl hother));show (w.heap.setIfInBounds (E.θ id).1 o')[(E.θ id).1]?=_;simp [hlt]
theorem fQ.length {h:Array Obj}: ∀{es:List (AV×AV×Nat)} {ents:List MapEntry},fQ E h es ents->ents.length=es.length
 |[],ents,he=>by simp only [fQ] at he; simp [he]
 |(k,v,b)::es,ents,he=>by simp only [fQ] at he;obtain⟨e,r,rfl,_,_,_,h4⟩:=he;simp [h4.length]
theorem fQ.set {h:Array Obj} {k v:AV} {uk uv:Value} (hk:VR E h k uk) (hv:VR E h v uv): ∀{es:List (AV×AV×Nat)} {ents:List MapEntry} {i:Nat} {e:MapEntry},fQ E h es ents->ents[i]?=some e->
 fQ E h (yJ k v es i) (ents.set i { e with key:=uk,val:=uv })
 |[],ents,i,e,he,hi=>by simp only [fQ] at he; subst he; simp at hi
 |(k',v',b)::es,ents,0,e,he,hi=>by simp only [fQ] at he;obtain⟨e0,r,rfl,h1,h2,h3,h4⟩:=he;simp at hi;subst hi;simp only [yJ,aJd,fQ];exact⟨_,r,rfl,hk,hv,h3,h4⟩
 |(k',v',b)::es,ents,i+1,e,he,hi=>by simp only [fQ] at he;obtain⟨e0,r,rfl,h1,h2,h3,h4⟩:=he;simp only [yJ,aJe,fQ];exact⟨e0,_,rfl,h1,h2,h3,fQ.set hk hv h4 (by simpa using hi)⟩
theorem fQ.push {h:Array Obj} {k v:AV} {uk uv:Value} {c c':Nat} (hk:VR E h k uk) (hv:VR E h v uv): ∀{es:List (AV×AV×Nat)} {ents:List MapEntry},fQ E h es ents->
 fQ E h (es++ [(k,v,c)]) (ents++ [{ key:=uk,val:=uv,born:=c' }])
 |[],ents,he=>by simp only [fQ] at he;subst he;simp only [aHx,fQ];exact⟨_,[],rfl,hk,hv,trivial,rfl⟩
 |(k',v',b)::es,ents,he=>by simp only [fQ] at he;obtain⟨e0,r,rfl,h1,h2,h3,h4⟩:=he;simp only [aHM,fQ];exact⟨e0,_,rfl,h1,h2,h3,fQ.push hk hv h4⟩
theorem fQ.erase {h:Array Obj}: ∀{es:List (AV×AV×Nat)} {ents:List MapEntry} {i:Nat},fQ E h es ents->fQ E h (wI es i) (ents.eraseIdx i)
 |[],ents,i,he=>by simp only [fQ] at he; subst he; simp [wI,fQ]
 |(k',v',b)::es,ents,0,he=>by simp only [fQ] at he;obtain⟨e0,r,rfl,h1,h2,h3,h4⟩:=he;simpa [wI] using h4
 |(k',v',b)::es,ents,i+1,he=>by simp only [fQ] at he;obtain⟨e0,r,rfl,h1,h2,h3,h4⟩:=he;simp only [wI,aJD,fQ];exact⟨e0,_,rfl,h1,h2,h3,fQ.erase h4⟩
theorem QD {t:Nat} {i:TI} (hti:rQ P t i) {z:AV} (h:zeroOf i=some z): ∃u,(zeroValue t).run P w= .ok u w/\VR E w.heap z u:=by
 obtain⟨inf,d,zv,h1,h2,h3,h4,h5,h6,h7,h8⟩:=hti.all;have hz:=gB (E:=E) (h:=w.heap) h4;have hr:(zeroValue t).run P w= .ok zv w:=by simp [zeroValue,typeInfo,h1,h3]
 refine⟨zv,hr,?_⟩;unfold zeroOf at h;split at h
 ·rename_i ha;simp at h;subst h;rw [ha] at h8;cases zv<;>simp only [U4,reduceCtorEq] at h8;rename_i cs;simp only [VR];exact⟨cs.toList,by simp,hz.1⟩
 ·rename_i ha;split at h
  ·rename_i v hv;simp at h;subst h;rw [hv] at hz;obtain⟨u,vs,e1,e2,e3⟩:=bC.1 hz.1;rw [lC] at e3;subst e3;rw [ha] at h8;have:zv=u:=by cases zv<;>simp_all [U4,Value.cells]
   rw [this];exact e2
  ·simp at h
end
theorem IG (ρ:Nat->Int) (x:SE):(Rf x).den ρ=(dec (x.den ρ)).n:=by
 unfold Rf;split
 ·split
  ·simp only [SE.den,jC.den,aC,D.n]
  ·simp only [SE.den,jC.den]
 ·split
  ·simp only [SE.den,aC,D.n]
  ·simp only [SE.den,jC.den]
 ·simp only [SE.den,jC.den]
theorem pU (ρ:Nat->Int) (x:SE):(II x).den ρ=enc (.i (x.den ρ)):=by unfold II;split<;>simp only [SE.den,jC.den]
theorem GH (a b:D):(D.p a b).hd 0=a:=by simp [D.hd,D.l]
theorem GI (a b:D) (j:Nat):(D.p a b).hd (j+1)=b.hd j:=by simp [D.hd,D.l]
theorem zQ (ρ:Nat->Int): ∀(j:Nat) (x:SE),dec ((nR j x).den ρ)=(dec (x.den ρ)).hd j
 |j,.op o a b=>by
  unfold nR
  cases o with
  |cons=>
   cases j with
   |zero=>simp only [SE.den,jC.den,aC,GH]
   |succ j=>simp only [zQ ρ j b,SE.den,jC.den,aC,GI]
  |_=>simp only [SE.den,jC.den,aC]
 |j,.lit n=>by simp only [nR,SE.den,jC.den,aC]
 |j,.aO n=>by simp only [nR,SE.den,jC.den,aC]
 |j,.add _ _=>by simp only [nR,SE.den,jC.den,aC]
 |j,.sub _ _=>by simp only [nR,SE.den,jC.den,aC]
 |j,.mul _ _=>by simp only [nR,SE.den,jC.den,aC]
 |j,.quo _ _=>by simp only [nR,SE.den,jC.den,aC]
 |j,.rem _ _=>by simp only [nR,SE.den,jC.den,aC]
 |j,.wrap _ _=>by simp only [nR,SE.den,jC.den,aC]
 |j,.inp _ _=>by simp only [nR,SE.den,jC.den,aC]
 |j,.dat _=>by simp only [nR,SE.den,jC.den,aC]
 |j,.ap _ _=>by simp only [nR,SE.den,jC.den,aC]
theorem bW (ρ:Nat->Int): ∀x:SE,(dY x).den ρ=((dec (x.den ρ)).l.length:Int)
 | .op o a b=>by
   unfold dY
   cases o with
   |set=>
    simp only [bW ρ a,SE.den,jC.den];split
    ·simp only [aC,aA,gK]
    ·rfl
   |_=>simp only [SE.den,jC.den]
 | .lit n=>by simp only [dY,SE.den,jC.den]
 | .aO n=>by simp only [dY,SE.den,jC.den]
 | .add _ _=>by simp only [dY,SE.den,jC.den]
 | .sub _ _=>by simp only [dY,SE.den,jC.den]
 | .mul _ _=>by simp only [dY,SE.den,jC.den]
 | .quo _ _=>by simp only [dY,SE.den,jC.den]
 | .rem _ _=>by simp only [dY,SE.den,jC.den]
 | .wrap _ _=>by simp only [dY,SE.den,jC.den]
 | .inp _ _=>by simp only [dY,SE.den,jC.den]
 | .dat d=>by simp only [dY,SE.den,aC]; rfl
 | .ap _ _=>by simp only [dY,SE.den,jC.den]
theorem Rd.slice {ro:Nat->Prop} {h:Array Obj} {t:Nat} {d:D} {v:Value} (r:Rd ro h (.sl t) d v): ∃x cap,v= .slice x d.l.length cap/\d.l.length<=cap:=by
 generalize hc:CK.sl t=c at r
 cases r with
 |int k n=>simp at hc
 |bool b=>simp at hc
 |str s=>simp at hc
 |nil t=>exact⟨none,0,rfl,by simp [D.l]⟩
 |non t a cap=>exact⟨some a,cap,rfl,by simp [D.l]⟩
 |one t c b o cap ds f hr hcp hb h1 h2=>exact⟨_,cap,by rw [aA],by rw [aA]; exact hcp⟩
 |many t cs b o cap rows f hr hcp hb hl h1 h2=>exact⟨some ⟨b,o,none⟩,cap,by simp,by simpa using hcp⟩
theorem Rd.string {ro:Nat->Prop} {h:Array Obj} {d:D} {v:Value} (r:Rd ro h .str d v): ∃s,v= .string s/\d=Bd s:=by
 cases r with
 |str s=>exact⟨s,rfl,rfl⟩
def lV (ro:Nat->Prop) (h:Array Obj) (c:CK) (d:D) (u:Value):Prop:=match c with
 | .int k=>u= .int k d.n
 | .bool=>u= .bool (!(d.n == 0))
 |c=>Rd ro h c d u
theorem vS {E:En} {h:Array Obj} {c:CK} {x:SE} {u:Value}:VR E h (AP c x) u↔lV E.ro h c (dec (x.den E.ρ)) u:=by cases c<;>simp only [AP,lV,VR,SB.den,IG,SE.den]
theorem Rd.cell {ro:Nat->Prop} {h:Array Obj} {c:CK} {d:D} {u:Value} (r:Rd ro h c d u):lV ro h c d u:=by
 cases r with
 |int k n=>simp [lV,D.n]
 |bool b=>cases b<;>simp [lV,D.n]
 |str s=>exact .str s
 |nil t=>exact .nil t
 |non t a cap=>exact .non t a cap
 |one t c b o cap ds f hr hc hb h1 h2=>exact .one t c b o cap ds f hr hc hb h1 h2
 |many t cs b o cap rows f hr hc hb hl h1 h2=>exact .many t cs b o cap rows f hr hc hb hl h1 h2
theorem lV.one {ro:Nat->Prop} {h:Array Obj} {c:CK} {d:D} {u:Value} (r:lV ro h c d u):u.oneCell'=true:=by
 cases c with
 |int k=>simp only [lV] at r; subst r; rfl
 |bool=>simp only [lV] at r; subst r; rfl
 |str=>exact Rd.one' r
 |sl t=>exact Rd.one' r
def dW (ro:Nat->Prop) (h:Array Obj):List CK->Nat->D->List Value->Prop
 |[],_,_,us=>us= []
 |c::cs,j,d,us=> ∃u vs,us=u::vs/\lV ro h c (d.hd j) u/\dW ro h cs (j+1) d vs
def Ep (ro:Nat->Prop) (h:Array Obj) (r:Row) (d:D) (us:List Value):Prop:=match r with
 | .one c=> ∃u,us= [u]/\lV ro h c d u
 | .many cs=>dW ro h cs 0 d us
theorem xY {E:En} {h:Array Obj} {x:SE}: ∀{cs:List CK} {j:Nat} {us:List Value},bT E h (lU cs j x) us↔dW E.ro h cs j (dec (x.den E.ρ)) us
 |[],j,us=>by simp only [lU,bT,dW]
 |c::cs,j,us=>by
  simp only [lU,bC,dW];constructor
  ·rintro⟨u,vs,rfl,h1,h2⟩;exact⟨u,vs,rfl,by rw [vS,zQ] at h1; exact h1,xY.1 h2⟩
  ·rintro⟨u,vs,rfl,h1,h2⟩;exact⟨u,vs,rfl,by rw [vS,zQ]; exact h1,xY.2 h2⟩
theorem iO {E:En} {h:Array Obj} {r:Row} {x:SE} {us:List Value}:bT E h (jP r x) us↔Ep E.ro h r (dec (x.den E.ρ)) us:=by
 cases r with
 |one c=>
  simp only [jP,bC,lC,Ep];constructor
  ·rintro⟨u,vs,rfl,h1,rfl⟩;exact⟨u,rfl,vS.1 h1⟩
  ·rintro⟨u,rfl,h1⟩;exact⟨u,[],rfl,vS.2 h1,rfl⟩
 |many cs=>simp only [jP,Ep,xY]
theorem yZ (x:SE): ∀(cs:List CK) (j:Nat),(lU cs j x).length=cs.length
 |[],_=>rfl
 |_::cs,j=>by simp [lU,yZ x cs]
theorem jV (r:Row) (x:SE):(jP r x).length=r.es:=by cases r<;>simp [jP,Row.es,yZ]
theorem dW.ones {ro:Nat->Prop} {h:Array Obj} {d:D}: ∀{cs:List CK} {j:Nat} {us:List Value},dW ro h cs j d us->∀u∈us,u.oneCell'=true
 |[],_,_,hh,u,hu=>by simp only [dW] at hh; subst hh; simp at hu
 |c::cs,j,us,hh,u,hu=>by
  simp only [dW] at hh;obtain⟨x,vs,rfl,h1,h2⟩:=hh;rcases aHm.1 hu with rfl|hu
  ·exact h1.one
  ·exact h2.ones u hu
theorem Ep.ones {ro:Nat->Prop} {h:Array Obj} {r:Row} {d:D} {us:List Value} (hh:Ep ro h r d us): ∀u∈us,u.oneCell'=true:=by
 cases r with
 |one c=> obtain⟨u,rfl,h1⟩:=hh;intro x hx;simp at hx;subst hx;exact h1.one
 |many cs=>exact dW.ones hh
theorem bT.split {E:En} {h:Array Obj}: ∀{xs ys:List AV} {us:List Value},bT E h (xs++ys) us->∃a b,us=a++b/\bT E h xs a/\bT E h ys b
 |[],ys,us,hh=> ⟨[],us,rfl,by simp only [bT],hh⟩
 |x::xs,ys,us,hh=>by rw [aHM,bC] at hh;obtain⟨u,vs,rfl,h1,h2⟩:=hh;obtain⟨a,b,rfl,h3,h4⟩:=h2.split;exact⟨u::a,b,rfl,by rw [bC]; exact⟨u,a,rfl,h1,h3⟩,h4⟩
theorem oK {ρ:Nat->Int} {i:Nat} {cs:List AV}: ∀{ov:List (SE×List AV)},dX ρ i ov=some cs->∃p∈ov,p.2=cs/\p.1.den ρ=(i:Int)
 |[],h=>by simp [dX] at h
 |(j,c)::l,h=>by
  simp only [dX] at h;split at h
  ·rename_i hj;simp only [aHe] at h;exact⟨(j,c),by simp,h,hj⟩
  ·obtain⟨p,h1,h2⟩:=oK h;exact⟨p,by simp [h1],h2⟩
theorem bP {ρ:Nat->Int} {r:Row} {ov:List (SE×List AV)} (ho:BR r ov): ∀(ds:List D) (i:Nat),(aK ρ r ov ds i).length=ds.length*r.es
 |[],i=>by simp [aK]
 |d::ds,i=>by
  simp only [aK,aHC,bP ho ds (i+1),aHq,aIa,aIE];split
  ·rename_i cs h;obtain⟨p,h1,h2,_⟩:=oK h;rw [<- h2,ho p h1]; omega
  ·rw [jV]; omega
theorem qB {ρ:Nat->Int} {r:Row} {ov:List (SE×List AV)}: ∀(xs ys:List D) (i:Nat),aK ρ r ov (xs++ys) i=aK ρ r ov xs i++aK ρ r ov ys (i+xs.length)
 |[],ys,i=>by simp [aK]
 |d::ds,ys,i=>by simp only [aHM,aK,qB ds ys (i+1),aH3,aHq];rw [show i+1+ds.length=i+(ds.length+1) by omega]
section
variable {P:Program} {E:En} {w:World}
theorem Gt [Glob] {H:Hp} (r:bG E H w) {id c:Nat} {es:List (AV×AV×Nat)} (hl:H.get id=some (.map es c)): ∃ents c',w.heap[(E.θ id).1]?=some (.map ents c')/\fQ E w.heap es ents.toList:=
 (r.live id _ hl).2.1
theorem XV [Glob] {tt:TT} (htt:fE P tt) {pc:List (SB×Bool)} (hp:bK E.ρ pc) {H:Hp} (r:bG E H w) {t:Nat} {m k v:AV} {um uk:Value} {ok:Bool} (hm:VR E w.heap m um) (hk:VR E w.heap k uk) (h:OG tt pc t m k ok H=some v) :
 ∃x,(Instr.lookup t um uk ok).run P w= .ok x w/\VR E w.heap v x:=by
 unfold OG at h;split at h
 ·rename_i ti hti;split at h
  ·rename_i kt et hkind;have hu:=FV (htt t ti hti) hkind;split at h
   ·simp at h
   ·rename_i kk hkk;obtain⟨d,hd1,hd2⟩:=Fg htt hkk;split at h
    ·simp at h
    ·rename_i ie hie
     have key: ∀(es:List (AV×AV×Nat)) (ents:Array MapEntry),fQ E w.heap es ents.toList->
      (match JY pc kk k es 0 with
       |none=>none
       |some (some (_,v))=>some (if ok then .tuple [v,.bool (.lit true)] else v)
       |some none=>match zeroOf ie with
        |none=>none
        |some z=>some (if ok then .tuple [z,.bool (.lit false)] else z))=some v->
      ∃(o:Option (Nat×Value)) (x:Value),(Instr.findKey kt uk ents.toList).run P w= .ok o w/\
       (match o with
        |some (_,y)=>x=(if ok then .tuple #[y,.bool true] else y)
        |none=> ∃z,(zeroValue et).run P w= .ok z w/\x=(if ok then .tuple #[z,.bool false] else z))/\VR E w.heap v x:=by
      intro es ents he hh;split at hh
      ·simp at hh
      ·rename_i j v' hf;simp at hh;subst hh;rcases wF hp hd2 hk he hf with ⟨q1,_⟩|⟨jj,v2,e,q1,q2,q3,q4,q5⟩
       ·simp at q1
       ·simp only [aHe,aHf] at q1;obtain⟨rfl,rfl⟩:=q1;refine⟨_,_,iW hd1 q4,rfl,?_⟩;cases ok
        ·exact q3
        ·simp only [if_true,VR,bT];exact⟨[e.val,.bool true],rfl,_,_,rfl,q3,_,_,rfl,by simp [SB.den],rfl⟩
      ·rename_i hf;split at hh
       ·simp at hh
       ·rename_i z hz;simp at hh;subst hh;obtain⟨u,e1,e2⟩:=QD (P:=P) (w:=w) (E:=E) (htt et ie hie) hz;rcases wF hp hd2 hk he hf with ⟨_,q2⟩|⟨jj,v2,e,q1,_⟩
        ·refine⟨none,_,iW hd1 q2,⟨u,e1,rfl⟩,?_⟩;cases ok
         ·exact e2
         ·simp only [if_true,VR,bT];exact⟨[u,.bool false],rfl,_,_,rfl,e2,_,_,rfl,by simp [SB.den],rfl⟩
        ·simp at q1
     split at h
     ·simp at h
     ·rename_i es hes;unfold UN at hes;split at hes
      ·simp at hes;subst hes;simp only [VR] at hm;subst hm;obtain⟨o,x,e1,e2,e3⟩:=key [] #[] (by simp [fQ]) h;refine⟨x,?_,e3⟩
       cases o with
       |none=> obtain⟨z,e4,rfl⟩:=e2;cases ok<;>simp [Instr.lookup,run_underlying hu,jE hd1 hd2,e1,e4]
       |some p=> obtain⟨j,y⟩:=p;simp only at e2;subst e2;cases ok<;>simp [Instr.lookup,run_underlying hu,jE hd1 hd2,e1]
      ·rename_i id;split at hes
       ·rename_i es' c hl;simp at hes;subst hes;simp only [VR] at hm;obtain⟨rfl,hid⟩:=hm;obtain⟨ents,c',g1,g2⟩:=Gt r hl;have hg:=mJ (P:=P) g1 (by simp);obtain⟨o,x,e1,e2,e3⟩:=key es' ents g2 h;refine⟨x,?_,e3⟩
        cases o with
        |none=> obtain⟨z,e4,rfl⟩:=e2;cases ok<;>simp [Instr.lookup,run_underlying hu,hg,jE hd1 hd2,e1,e4]
        |some p=> obtain⟨j,y⟩:=p;simp only at e2;subst e2;cases ok<;>simp [Instr.lookup,run_underlying hu,hg,jE hd1 hd2,e1]
       ·simp at hes
      ·simp at hes
  ·simp at h
 ·simp at h
theorem NJ {α:Type} (ents:Array α) (i:Nat) (e:α) (f:α->α) (h:ents.toList[i]?=some e):(ents.modify i f).toList=ents.toList.set i (f e):=by
 apply aI8;intro j;have hi:=(aHB.1 h).1;rw [aHT,aJu,aJf];by_cases hj:i=j
 ·subst hj;rw [aHT] at h;simp [h];simpa using hi
 ·simp [hj]
theorem CJ [Glob] {tt:TT} (htt:fE P tt) {pc:List (SB×Bool)} (hp:bK E.ρ pc) {H H':Hp} (r:bG E H w) {t:Nat} {m k v:AV} {um uk uv:Value} (hm:VR E w.heap m um) (hk:VR E w.heap k uk) (hv:VR E w.heap v uv) (h:xI tt pc t m k v H=some H') :
 ∃w',(Instr.mapUpdate t um uk uv).run P w= .ok () w'/\Stp E H w E H' w'/\bG E H' w':=by
 unfold xI at h;split at h
 ·rename_i ti hti;split at h
  ·rename_i kt et hkind;have hu:=FV (htt t ti hti) hkind;split at h
   ·simp at h
   ·rename_i kk hkk;obtain⟨d,hd1,hd2⟩:=Fg htt hkk;split at h
    ·rename_i id;split at h
     ·rename_i es c hl;simp only [VR] at hm;obtain⟨rfl,hid⟩:=hm;obtain⟨ents,c',g1,g2⟩:=Gt r hl;have hg:=mJ (P:=P) g1 (by simp);split at h
      ·simp at h
      ·rename_i i v' hf;simp at h;subst h;rcases wF hp hd2 hk g2 hf with ⟨q1,_⟩|⟨jj,v2,e,q1,q2,q3,q4,q5⟩
       ·simp at q1
       ·simp only [aHe,aHf,aHn] at q1;obtain⟨rfl,rfl⟩:=q1;simp only [aHn] at q4
        have hkt:(Instr.keyThatStays (((ents[i]?).map (·.key)).getD uk) uk).run P w= .ok uk w:=by rw [aHT] at q2;simp only [q2,aHV,aHl,Instr.keyThatStays];rw [aHd (q5 9999)];rfl
        refine⟨_,?_,kT r hl (.map (yJ k v es i) c) (.map (ents.modify i fun e=>{ e with key:=uk,val:=uv }) c') ?_⟩
        ·simp [Instr.mapUpdate,run_underlying hu,hg,jE hd1 hd2,iW hd1 q4,hkt,lZ (P:=P) g1]
        ·intro h' hh kp;simp only [OR];refine⟨_,_,hh,?_⟩;rw [NJ ents i e _ q2];exact fQ.set (VR.keep kp _ _ hk) (VR.keep kp _ _ hv) (fQ.keep kp _ _ g2) q2
      ·rename_i hf;simp at h;subst h;rcases wF hp hd2 hk g2 hf with ⟨_,q2⟩|⟨jj,v2,e,q1,_⟩
       ·refine⟨_,?_,kT r hl (.map (es++ [(k,v,c)]) (c+1)) (.map (ents.push { key:=uk,val:=uv,born:=c' }) (c'+1)) ?_⟩
        ·simp [Instr.mapUpdate,run_underlying hu,hg,jE hd1 hd2,iW hd1 q2,lZ (P:=P) g1]
        ·intro h' hh kp;simp only [OR];refine⟨_,_,hh,?_⟩;rw [Array.toList_push];exact fQ.push (VR.keep kp _ _ hk) (VR.keep kp _ _ hv) (fQ.keep kp _ _ g2)
       ·simp at q1
     ·simp at h
    ·simp at h
  ·simp at h
 ·simp at h
theorem XW [Glob] {tt:TT} (htt:fE P tt) {pc:List (SB×Bool)} (hp:bK E.ρ pc) {H H':Hp} (r:bG E H w) {t:Nat} {ts:Nat} {m k:AV} {um uk:Value} (hm:VR E w.heap m um) (hk:VR E w.heap k uk) (h:OJ tt pc t m k H=some H') (ty:Nat) :
 ∃w',(Builtin.delete_ #[t,ts] ty #[um,uk]).run P w= .ok (.tuple #[]) w'/\Stp E H w E H' w'/\bG E H' w':=by
 unfold OJ at h;split at h
 ·rename_i ti hti;split at h
  ·rename_i kt et hkind;have hu:=FV (htt t ti hti) hkind;split at h
   ·simp at h
   ·rename_i kk hkk;obtain⟨d,hd1,hd2⟩:=Fg htt hkk;split at h
    ·simp at h;subst h;simp only [VR] at hm;subst hm;exact⟨w,by simp [Builtin.delete_,run_underlying hu,jE hd1 hd2],Stp.refl _ _ _,r⟩
    ·rename_i id;split at h
     ·rename_i es c hl;simp only [VR] at hm;obtain⟨rfl,hid⟩:=hm;obtain⟨ents,c',g1,g2⟩:=Gt r hl;have hg:=mJ (P:=P) g1 (by simp);split at h
      ·simp at h
      ·rename_i i v' hf;simp at h;subst h;rcases wF hp hd2 hk g2 hf with ⟨q1,_⟩|⟨jj,v2,e,q1,q2,q3,q4,q5⟩
       ·simp at q1
       ·simp only [aHe,aHf,aHn] at q1;obtain⟨rfl,rfl⟩:=q1;simp only [aHn] at q4;refine⟨_,?_,kT r hl (.map (wI es i) c) (.map (ents.eraseIdxIfInBounds i) c') ?_⟩
        ·simp [Builtin.delete_,run_underlying hu,hg,jE hd1 hd2,iW hd1 q4,lZ (P:=P) g1]
        ·intro h' hh kp;simp only [OR];refine⟨_,_,hh,?_⟩;have hil:i<ents.size:=by have:=(aHB.1 q2).1; simpa using this
         have:(ents.eraseIdxIfInBounds i).toList=ents.toList.eraseIdx i:=by simp [Array.eraseIdxIfInBounds,hil]
         rw [this];exact fQ.erase (fQ.keep kp _ _ g2)
      ·rename_i hf;simp at h;subst h;rcases wF hp hd2 hk g2 hf with ⟨_,q2⟩|⟨jj,v2,e,q1,_⟩
       ·refine⟨_,?_,kT r hl (.map es c) (.map ents c') ?_⟩
        ·simp [Builtin.delete_,run_underlying hu,hg,jE hd1 hd2,iW hd1 q2,lZ (P:=P) g1]
        ·intro h' hh kp;simp only [OR];exact⟨_,_,hh,fQ.keep kp _ _ g2⟩
       ·simp at q1
     ·simp at h
    ·simp at h
  ·simp at h
 ·simp at h
theorem aoW [Glob] {tt:TT} (htt:fE P tt) {H:Hp} (r:bG E H w) {t ty:Nat} {x v:AV} {u:Value} (hx:VR E w.heap x u) (h:aoX tt t x H=some v) :
 ∃y,(Builtin.len_ #[t] ty #[u]).run P w= .ok y w/\VR E w.heap v y:=by
 unfold aoX at h;simp only at h;split at h
 ·rename_i ti hti;have htok:=htt t ti hti;split at h
  ·rename_i hk;split at h
   ·rename_i s;simp at h;subst h;simp only [VR] at hx;obtain⟨rfl,_⟩:=hx;exact⟨_,by simp [Builtin.len_,run_underlying (iK htok hk)]; rfl,by simp [VR,SE.den,goInt,oH]⟩
   ·simp at h; subst h; simp only [VR] at hx;obtain⟨s,rfl,hs⟩:=hx.string;exact⟨_,by simp [Builtin.len_,run_underlying (iK htok hk)]; rfl,by simp only [VR,bW,hs,arW]; rfl⟩
   ·simp at h
  ·rename_i e hk;have hu:=gX htok hk;split at h
   ·simp at h; subst h; simp only [VR] at hx; subst hx;exact⟨_,by simp [Builtin.len_,run_underlying hu]; rfl,by simp [VR,SE.den,goInt]⟩
   ·simp at h; subst h; simp only [VR] at hx; obtain⟨x,rfl⟩:=hx;exact⟨_,by simp [Builtin.len_,run_underlying hu]; rfl,by simp [VR,SE.den,goInt]⟩
   ·simp at h; subst h; simp only [VR] at hx; obtain⟨⟨x,rfl⟩,_⟩:=hx;exact⟨_,by simp [Builtin.len_,run_underlying hu]; rfl,by simp [VR,SE.den,goInt]⟩
   ·simp at h; subst h; simp only [VR] at hx; obtain⟨_,a,cap,rfl,_⟩:=hx;exact⟨_,by simp [Builtin.len_,run_underlying hu]; rfl,by simp [VR,SE.den,goInt]⟩
   ·simp at h; subst h; simp only [VR] at hx; obtain⟨b,o,cap,us,rfl,_⟩:=hx;exact⟨_,by simp [Builtin.len_,run_underlying hu]; rfl,by simp [VR,SE.den,goInt]⟩
   ·simp at h; subst h; simp only [VR] at hx; obtain⟨x,cap,rfl,_⟩:=hx.slice;exact⟨_,by simp [Builtin.len_,run_underlying hu]; rfl,by simp [VR,bW,goInt]⟩
   ·simp at h; subst h; simp only [VR] at hx; obtain⟨_,k,a,cap,h0,rfl,_⟩:=hx;exact⟨_,by simp [Builtin.len_,run_underlying hu]; rfl,by simp [VR,h0,goInt]⟩
   ·simp at h; subst h; simp only [VR] at hx; obtain⟨_,l,k,a,cap,_,h0,rfl,_⟩:=hx;exact⟨_,by simp [Builtin.len_,run_underlying hu]; rfl,by simp [VR,h0,goInt]⟩
   ·simp at h; subst h; simp only [VR] at hx;rcases hx with ⟨⟨x,cap,rfl⟩,h0⟩|⟨b,o,n,cap,rfl,_,h0,_⟩
    ·exact⟨_,by simp [Builtin.len_,run_underlying hu]; rfl,by simp [VR,SE.den,goInt,h0]⟩
    ·exact⟨_,by simp [Builtin.len_,run_underlying hu]; rfl,by simp [VR,SE.den,goInt,h0]⟩
   ·simp at h
  ·rename_i k e hk;have hu:=yF htok hk;simp at h;subst h;exact⟨_,by simp [Builtin.len_,run_underlying hu]; rfl,by simp [VR,SE.den,goInt]⟩
  ·rename_i kt et hk;have hu:=FV htok hk;split at h
   ·simp at h; subst h; simp only [VR] at hx; subst hx;exact⟨_,by simp [Builtin.len_,run_underlying hu]; rfl,by simp [VR,SE.den,goInt]⟩
   ·rename_i id;split at h
    ·rename_i es c hl;simp at h;subst h;simp only [VR] at hx;obtain⟨rfl,hid⟩:=hx;obtain⟨ents,c',g1,g2⟩:=Gt r hl;have hg:=mJ (P:=P) g1 (by simp);have hlen:=g2.length;simp only [aHL] at hlen;exact⟨_,by simp [Builtin.len_,run_underlying hu,hg]; rfl,by simp [VR,SE.den,goInt,hlen]⟩
    ·rename_i e t' hl;simp at h;subst h;simp only [VR] at hx;obtain⟨rfl,hid⟩:=hx;obtain⟨_,ho,_⟩:=r.live _ _ hl;simp only [OR] at ho;obtain⟨ents,c',g1,g2⟩:=ho;have hg:=mJ (P:=P) g1 (by simp);have hlen:=g2.length;simp only [aHL] at hlen;exact⟨_,by simp [Builtin.len_,run_underlying hu,hg]; rfl,by simp [VR,bW,goInt,hlen]⟩
    ·simp at h
   ·simp at h
  ·simp at h
 ·simp at h
end
section
variable {P:Program} {E:En} {w:World}
structure Src (P:Program) (E:En) (w:World) (s m:Nat) (news:List AV) (u:Value) (us:Array Value):Prop where
 len: ∀w2,(Builtin.lenOf u).run P w2= .ok m w2
 first: ∀w2:World,w2.heap=w.heap->(Builtin.firstCells s m u).run P w2= .ok us w2
 vrs:bT E w.heap news us.toList
 size:us.size=m*s
 ones: ∀x∈us.toList,x.oneCell'=true
theorem iT.loads {b o n:Nat} {us:List Value} (hn:us.length=n) (h:iT w.heap b o us) (w2:World) (hw:w2.heap=w.heap):(loadCells ⟨b,o,none⟩ n).run P w2= .ok us.toArray w2:=
 yN hn (by rw [hw]; exact h)
theorem zO {id off len cap:Nat} {a:Addr} {c:YI} (hc:gJ E id off len a cap c):a=⟨(E.θ id).1,(E.θ id).2+off,none⟩\/cap=0:=by
 cases c with
 |exact c=>
  simp only [gJ] at hc;rcases hc.2 with hc2|hc2
  ·exact .inl hc2
  ·right; omega
 |rest es=>
  simp only [gJ] at hc;rcases hc with hc|hc
  ·exact .inl hc.1
  ·exact .inr hc.1
theorem BJ [Glob] {H:Hp} (r:bG E H w) {id o len cap s:Nat} {a:Addr} {c:YI} {l:List AV} (hid:E.dm id) (hc:gJ E id o len a cap c) (hlen:len<=cap) (h:rD H (.ptr id o) (len*s)=some l) :
 ∃us:List Value,us.length=len*s/\bT E w.heap l us/\(∀u∈us,u.oneCell'=true)/\∀w2:World,w2.heap=w.heap->(loadCells a (len*s)).run P w2= .ok us.toArray w2:=by
 obtain⟨b,o',us,e1,e2,e3,e4,e5⟩:=DK r (p:=.ptr id o) (u:=.pointer (some ⟨(E.θ id).1,(E.θ id).2+o,none⟩)) (by simp only [VR]; exact⟨trivial,hid⟩) h;simp only [Value.pointer.injEq,aHe,Addr.mk.injEq] at e1;obtain⟨e1a,e1b,_⟩:=e1;refine⟨us,e2,e3,e5,fun w2 hw=>?_⟩;rcases zO hc with ha|ha
 ·rw [ha,e1a,e1b];exact e4.loads e2 w2 hw
 ·obtain rfl:len=0:=by omega
  rw [aH7] at e2 ⊢;rw [aH6 e2];rfl
theorem xA [Glob] {H:Hp} (r:bG E H w) {s m:Nat} {y:AV} {u:Value} {news:List AV} (hy:VR E w.heap y u) (h:yG s y H=some (m,news)): ∃us,Src P E w s m news u us:=by
 unfold yG at h;split at h
 ·simp only [aHe,aHf] at h;obtain⟨rfl,rfl⟩:=h;simp only [VR] at hy;subst hy;exact⟨#[],fun _=>rfl,fun w2 _=>by simp [Builtin.firstCells],by simp [bT],by simp,by simp⟩
 ·rename_i id o len c;rw [aHy] at h;obtain⟨l,h1,h2⟩:=h;simp only [aHf] at h2;obtain⟨rfl,rfl⟩:=h2;simp only [VR] at hy;obtain⟨hid,a,cap,rfl,hlen,hc⟩:=hy;obtain⟨us,e1,e2,e3,e4⟩:=BJ (P:=P) r hid hc hlen h1;exact⟨us.toArray,fun _=>rfl,fun w2 hw=>by simp only [Builtin.firstCells]; exact e4 w2 hw,by simpa using e2,by simpa using e1,by simpa using e3⟩
 ·rename_i cs n full;rw [aHy] at h;obtain⟨l,h1,h2⟩:=h;simp only [aHf] at h2;obtain⟨rfl,rfl⟩:=h2;simp only [VR] at hy;obtain⟨b,o,cap,us,rfl,hn,hf,h4,h5,h6,h7⟩:=hy;obtain⟨g1,g2⟩:=h5.kR h1;have hl:=h5.length;have htl:(us.take (n*s)).length=n*s:=by rw [aHr]; omega
  exact⟨(us.take (n*s)).toArray,fun _=>rfl,fun w2 hw=>by simp only [Builtin.firstCells]; exact (h6.take (n*s)).loads htl w2 hw,by simpa using g1,by simpa using htl,
   fun x hx=>h7 x (aHS (by simpa using hx))⟩
 ·rename_i b;split at h
  ·rename_i hs;simp only [aHe,aHf] at h;obtain⟨rfl,rfl⟩:=h;simp only [VR] at hy;obtain⟨rfl,hlt⟩:=hy;have hsz:(dH b).size=b.length:=oH b;have hex:(dH b).extract 0 b.length=dH b:=by rw [zL]; simp
   refine⟨(dH b).data.map fun c=>Value.int .u8 (c.toNat:Int),fun w2=>by simp [Builtin.lenOf,hsz],fun w2 _=>by simp [Builtin.firstCells,hex],?_,?_,?_⟩
   ·have:((dH b).data.map fun c=>Value.int .u8 (c.toNat:Int)).toList=(b.map UInt8.ofNat).map fun c=>Value.int .u8 (c.toNat:Int):=by simp [dH]
    rw [this];clear hex hsz this
    induction b with
    |nil=>simp [bT]
    |cons x b ih=> have hx:=hlt x (by simp);rw [aHo,aHo,aHo,bC];refine⟨_,_,rfl,?_,ih fun c hc=>hlt c (by simp [hc])⟩;simp [VR,SE.den,aIr,aIm hx]
   ·have h1:(dH b).data.size=b.length:=hsz;rw [aJC,h1,hs,aIT]
   ·intro x hx;simp only [aJE,aHF] at hx;obtain⟨c,_,rfl⟩:=hx;rfl
  ·simp at h
 ·simp at h
theorem oD {t t2 ty e s m n cap:Nat} {d2:TypeDesc} {inf:TypeInfo} {a:Option Addr} {u2:Value} {us:Array Value} {news:List AV} {w':World} (ht:P.underlying t=some (.slice e)) (ht2:P.underlying t2=some d2)
 (hd2: ∀k,d2≠.int k) (hi:P.info? e=some inf) (hs:inf.size=s) (src:Src P E w s m news u2 us) (hroom:n+m<=cap)
 (hst:match a with |some a=>(storeCells (a.add (n*s)) us.toList).run P w= .ok () w'|none=>w'=w) :
 (Builtin.append_ #[t,t2] ty #[.slice a n cap,u2]).run P w= .ok (.slice a (n+m) cap) w':=by
 have hf:=src.first w rfl;have hl:=src.len w
 cases a with
 |none=> simp only at hst;subst hst;simp [Builtin.append_,run_underlying ht,run_underlying ht2,sizeOf,typeInfo,hi,hs,hl,hroom,hf]
 |some a=> simp only at hst;simp [Builtin.append_,run_underlying ht,run_underlying ht2,sizeOf,typeInfo,hi,hs,hl,hroom,hf,hst]
theorem Yp {t t2 ty e s m n cap:Nat} {d2:TypeDesc} {inf:TypeInfo} {z u u2:Value} {us olds:Array Value} {news:List AV} (ht:P.underlying t=some (.slice e)) (ht2:P.underlying t2=some d2)
 (hd2: ∀k,d2≠.int k) (hi:P.info? e=some inf) (hs:inf.size=s) (hz:inf.zero=some z) (hb:inf.bytes≠0) (src:Src P E w s m news u2 us) (hroom:cap<n+m) (hbound:(n+m)*inf.bytes<=140737488355328)
 (a:Option Addr) (hu:u= .slice a n cap) (hold: ∀w2:World,w2.heap=w.heap->(Builtin.firstCells s n u).run P w2= .ok olds w2) :
 (Builtin.append_ #[t,t2] ty #[u,u2]).run P w= .ok (.slice (some ⟨w.heap.size,0,none⟩) (n+m) (grownCap w (n+m) cap e))
  (w.drew.alloc (.cells (olds++us++Builtin.zeroCells z.cells (grownCap w (n+m) cap e-(n+m))) e)):=by
 subst hu;have hf:=src.first w.drew rfl;have ho:=hold w.drew rfl;have hl:=src.len w;have hn: ¬(n+m<=cap):=by omega
 have h48: ¬(281474976710656<Builtin.nextslicecap (n+m) cap*inf.bytes):=by have h1:Builtin.nextslicecap (n+m) cap*inf.bytes<=2*(n+m)*inf.bytes:=aIA _ (nextslicecap_le hroom);have h2:2*(n+m)*inf.bytes=2*((n+m)*inf.bytes):=aIM _ _ _;omega
 have h48': ¬(2 ^ 48<Builtin.nextslicecap (n+m) cap*inf.bytes):=h48;simp [Builtin.append_,run_underlying ht,run_underlying ht2,sizeOf,typeInfo,zeroValue,hi,hs,hz,hl,hn,hb,h48',Question.forced,ho,hf,newRow,grownCap]
theorem vM [Glob] {t t2 ty:Nat} {H H':Hp} (r:bG E H w) {ie:TI} {e n m cap:Nat} {cs news old:List AV} {v:AV} {d2:TypeDesc} {u2:Value} {us olds:Array Value} (hte:rQ P e ie)
 (ht:P.underlying t=some (.slice e)) (ht2:P.underlying t2=some d2) (hd2: ∀k,d2≠.int k) (hb0:ie.bytes≠0) (hzl:ie.zero.length=ie.size)
 (src:Src P E w ie.size m news u2 us) (hroom:cap<n+m) (a:Option Addr) (hcs:cs=old++news)
 (hov:bT E w.heap old olds.toList) (ho1: ∀x∈olds.toList,x.oneCell'=true) (hos:olds.size=n*ie.size)
 (hold: ∀w2:World,w2.heap=w.heap->(Builtin.firstCells ie.size n (.slice a n cap)).run P w2= .ok olds w2) (h:sF ie e n m cs H=some (v,H')) :
 ∃x w' E',(Builtin.append_ #[t,t2] ty #[.slice a n cap,u2]).run P w= .ok x w'/\Stp E H w E' H' w'/\bG E' H' w'/\VR E' w'.heap v x:=by
 subst hcs;unfold sF at h;split at h
 ·rename_i hbound;simp only [aHe,aHf] at h;obtain⟨rfl,rfl⟩:=h;obtain⟨inf,d,z,h1,h2,h3,h4,h5,h6,h7,h8⟩:=hte.all;have hz:=gB (E:=E) (h:=w.heap) h4;have hzs:z.cells.size=ie.size:=by have:=hz.1.length; simp only [aHL] at this; omega
  have hge:=grownCap_ge w (n+m) cap e;have hsrc:=src.size
  obtain⟨s1,s2⟩:=lG r (olds++us++Builtin.zeroCells z.cells (grownCap w (n+m) cap e-(n+m))) 0 0 e (hov.append src.vrs)
   (by intro x hx; rcases aH1.1 hx with hx|hx; exact ho1 x hx; exact src.ones x hx)
   (by
    intro i x hx;have hi:=(aHB.1 hx).1;rw [aJc (by simpa using hi)];rw [<- aHT,Array.toList_append]
    exact hx)
   (by omega) (w':=w.drew.alloc (.cells (olds++us++Builtin.zeroCells z.cells (grownCap w (n+m) cap e-(n+m))) e)) rfl ⟨rfl,rfl,rfl⟩
  refine⟨_,_,_,Yp (s:=ie.size) ht ht2 hd2 h1 h5 h3 (by rw [h6]; exact hb0) src hroom (by rw [h6]; exact hbound) a rfl hold,s1,s2,?_⟩;simp only [VR];refine⟨En.jZ _ _ _ _,_,_,rfl,hge,?_⟩;simp only [gJ,En.ext_θ_new,En.ext_κ_new];left;refine⟨trivial,?_⟩;simp only [Array.size_append,size_zeroCells,hos,hsrc,hzs,<- aIa];rw [aHn];congr 1;omega
 ·simp at h
set_option maxHeartbeats 800000 in
theorem Dh [Glob] {t t2 ty:Nat} {H H':Hp} (r:bG E H w) {ie:TI} {e m:Nat} {news:List AV} {x v:AV} {d2:TypeDesc} {u u2:Value} {us:Array Value} (hte:rQ P e ie)
 (ht:P.underlying t=some (.slice e)) (ht2:P.underlying t2=some d2) (hd2: ∀k,d2≠.int k) (hs0:ie.size≠0) (hb0:ie.bytes≠0) (hzl:ie.zero.length=ie.size)
 (src:Src P E w ie.size m news u2 us) (hx:VR E w.heap x u) (h:wR ie e m news x H=some (v,H')) :
 ∃y w' E',(Builtin.append_ #[t,t2] ty #[u,u2]).run P w= .ok y w'/\Stp E H w E' H' w'/\bG E' H' w'/\VR E' w'.heap v y:=by
 obtain⟨inf,d,z,h1,h2,h3,h4,h5,h6,h7,h8⟩:=hte.all;have hpos:0<ie.size:=by omega
 have hnl:=src.vrs.length;have hns:=src.size;simp only [aHL] at hnl;unfold wR at h;split at h
 ·
  simp only [VR] at hx;subst hx;split at h
  ·rename_i hm;subst hm;simp only [aHe,aHf] at h;obtain⟨rfl,rfl⟩:=h;exact⟨_,w,E,oD (s:=ie.size) ht ht2 hd2 h1 h5 src (aHh _) (by simp only),Stp.refl _ _ _,r,by simp [VR]⟩
  ·rename_i hm;exact vM (cap:=0) r hte ht ht2 hd2 hb0 hzl src (by omega) none (old:=[]) (olds:=#[]) (by simp) (by simp [bT]) (by simp) (by simp) (fun w2 _=>by simp [Builtin.firstCells]) h
 ·
  rename_i id o len c;have hx0:=hx;simp only [VR] at hx;obtain⟨hid,a,cap,rfl,hlen,hc⟩:=hx;have hcap:cap=c:=by simp only [gJ] at hc; exact hc.1
  subst hcap;split at h
  ·rename_i hroom;split at h
   ·rename_i cs e' hl;split at h
    ·rename_i cs' hs;simp only [aHe,aHf] at h;obtain⟨rfl,rfl⟩:=h;obtain⟨w',g1,g2,g3⟩:=qE (P:=P) r hl hs src.vrs src.ones
     have hst:(storeCells (a.add (len*ie.size)) us.toList).run P w= .ok () w':=by
      rcases zO hc with ha|ha
      ·rw [ha,gQ,aHR]; exact g1
      ·obtain rfl:m=0:=by omega
       have hnil:us.toList= []:=aH6 (by rw [aHL,hns,aH7]);rw [hnil] at g1 ⊢;exact g1
     refine⟨_,w',E,oD (s:=ie.size) ht ht2 hd2 h1 h5 src hroom hst,g2,g3,?_⟩;simp only [VR];refine⟨hid,a,cap,rfl,hroom,?_⟩;simp only [gJ] at hc ⊢;exact hc
    ·simp at h
   ·simp at h
  ·rename_i hroom;split at h
   ·rename_i old hold;obtain⟨ols,f1,f2,f3,f4⟩:=BJ (P:=P) r hid hc hlen hold
    exact vM (cap:=cap) r hte ht ht2 hd2 hb0 hzl src (by omega) (some a) (old:=old) (olds:=ols.toArray) rfl (by simpa using f2) (by simpa using f3) (by simpa using f1)
     (fun w2 hw=>by simp only [Builtin.firstCells]; exact f4 w2 hw) h
   ·simp at h
 ·
  rename_i id o len es;split at h
  ·rename_i hes;subst hes;simp only [VR] at hx;obtain⟨hid,a,cap,rfl,hlen,hc⟩:=hx;split at h
   ·rename_i cs e' hl;obtain⟨arr,lo,hi,cus,b1,b2,b3,b4,b5,b6,b7⟩:=(r.live id _ hl).2.1;split at h
    ·rename_i hle;split at h
     ·rename_i cs' hs;simp only [aHe,aHf] at h;obtain⟨rfl,rfl⟩:=h;obtain⟨w',g1,g2,g3⟩:=qE (P:=P) r hl hs src.vrs src.ones
      have hroom:len+m<=cap:=by
       simp only [gJ] at hc;rcases hc with ⟨_,hc⟩|⟨rfl,rfl,hc⟩
       ·have:(len+m)*ie.size<=cap*ie.size:=by omega
        exact aJF this hpos
       ·have:(0+m)*ie.size=0:=by omega
        rcases Nat.mul_eq_zero.1 this with hh|hh<;>omega
      have hst:(storeCells (a.add (len*ie.size)) us.toList).run P w= .ok () w':=by
       rcases zO hc with ha|ha
       ·rw [ha,gQ,aHR]; exact g1
       ·obtain rfl:m=0:=by omega
        have hnil:us.toList= []:=aH6 (by rw [aHL,hns,aH7]);rw [hnil] at g1 ⊢;exact g1
      refine⟨_,w',E,oD (s:=ie.size) ht ht2 hd2 h1 h5 src hroom hst,g2,g3,?_⟩;simp only [VR];refine⟨hid,a,cap,rfl,hroom,?_⟩;simp only [gJ] at hc ⊢;rcases hc with hc|⟨rfl,rfl,hc⟩
      ·exact .inl hc
      ·exact .inr ⟨rfl,by omega,hc⟩
     ·simp at h
    ·rename_i aGx;split at h
     ·rename_i hend;obtain⟨hend,rfl⟩:=hend;split at h
      ·rename_i old hd;obtain⟨d1,d2',d3⟩:=b2.fZ hd;have hcl:=b2.length
       have hm0:m≠0:=by intro hm;subst hm;rw [aHJ] at aGx;omega
       by_cases hroom:len+m<=cap
       ·
        have hfirst:a=⟨(E.θ id).1,(E.θ id).2+o,none⟩/\o+cap*ie.size=E.κ id:=by
         simp only [gJ] at hc;rcases hc with hc|hc
         ·exact hc
         ·omega
        obtain⟨rfl,aG8⟩:=hfirst;unfold sF at h;split at h
        ·simp only [aHe,aHf] at h;obtain⟨rfl,rfl⟩:=h;have hml:len*ie.size+m*ie.size<=cap*ie.size:=by rw [<- aIa]; exact aIA _ hroom
         have hul:us.toList.length=m*ie.size:=by simpa using hns
         obtain⟨w',arr',e1,e2,e3,e4,e5,e6,e7⟩:=rC (P:=P) (E.θ id).1 ((E.θ id).2+(o+len*ie.size)) e' lo hi us.toList 0 arr w b1 b6 (by omega) src.ones
         have hst:(storeCells ((⟨(E.θ id).1,(E.θ id).2+o,none⟩ : Addr).add (len*ie.size)) us.toList).run P w= .ok () w':=by rw [gQ,aHR]; exact e1
         have kp:Keeps E w.heap (E.ext H.fresh ((E.θ id).1,(E.θ id).2+o) (cap*ie.size)) w'.heap:=
          ⟨rfl,fun _ hh=> .inr hh,fun _ hh=>En.ext_θ E _ _ _ (r.Ba hh),fun _ hh=>En.ext_κ E _ _ _ (r.Ba hh),fun _ hh=>hh,(tZ r hl e4).MW⟩
         have hstep:=Zx r hl (.cells (old++news) e') o (cap*ie.size) e3 e4 e2 (by
          simp only [OR,En.ext_θ_new,En.ext_κ_new];refine⟨arr',lo,hi,cus.drop o++us.toList,e5,bT.keep kp _ _ (d1.append src.vrs),?_,?_,by omega,by rw [e6]; exact b6,?_⟩
          ·intro i y hy;rw [e7];have hdl:(cus.drop o).length=len*ie.size:=by rw [aHI]; omega
           rw [aJx] at hy;split at hy
           ·rename_i hi';rw [aHc (by omega)];rw [aIq] at hy;rw [aHR];exact b3 _ _ hy
           ·rename_i hi';have hi2:=(aHB.1 hy).1;rw [aHd (by omega)];rw [show (E.θ id).2+o+i-((E.θ id).2+(o+len*ie.size)+0)=i-(cus.drop o).length from by omega];exact hy
          ·rw [aHC,d3]; omega
          ·intro y hy;rcases aH1.1 hy with hy|hy
           ·exact b7 y (aHQ hy)
           ·exact src.ones y hy)
         refine⟨_,w',_,oD (s:=ie.size) ht ht2 hd2 h1 h5 src hroom hst,hstep.1,hstep.2,?_⟩;simp only [VR,show (H.drop id).fresh=H.fresh from rfl];refine⟨En.jZ _ _ _ _,_,_,rfl,hroom,?_⟩;simp only [gJ,En.ext_θ_new,En.ext_κ_new];left;exact⟨by simp,by omega⟩
        ·simp at h
       ·
        have hread:rD H (.ptr id o) (len*ie.size)=some old:=by
         simp only [rD,hl,hd];have:len*ie.size=old.length:=by omega
         rw [this];clear h hd d1 d3 this
         induction old with
         |nil=>rfl
         |cons y ys ih=>simp [As.kR,ih]
        obtain⟨ols,f1,f2,f3,f4⟩:=BJ (P:=P) r hid hc hlen hread;obtain⟨q1,q2⟩:=drop_step r id;have src':Src P E w ie.size m news u2 us:=src
        obtain⟨y,w',E',p1,p2,p3,p4⟩:=vM (t:=t) (t2:=t2) (ty:=ty) (cap:=cap) q2 hte ht ht2 hd2 hb0 hzl src' (by omega) (some a) (old:=old) (olds:=ols.toArray) rfl (by simpa using f2) (by simpa using f3) (by simpa using f1)
         (fun w2 hw=>by simp only [Builtin.firstCells]; exact f4 w2 hw) h
        exact⟨y,w',E',p1,q1.trans p2,p3,p4⟩
      ·simp at h
     ·simp at h
   ·simp at h
  ·simp at h
 ·
  rename_i cs n full;have hx0:=hx;simp only [VR] at hx;obtain⟨b,o,cap,cus,rfl,hn,hf,g4,g5,g6,g7⟩:=hx;split at h
  ·rename_i hm;subst hm;simp only [aHe,aHf] at h;obtain⟨rfl,rfl⟩:=h;have hnil:us.toList= []:=aH6 (by rw [aHL,hns,aH7]);exact⟨_,w,E,oD (s:=ie.size) ht ht2 hd2 h1 h5 src (by omega) (by simp only [hnil]; rfl),Stp.refl _ _ _,r,hx0⟩
  ·rename_i hm;split at h
   ·rename_i hfull;have hcap:=hf hfull;subst hcap;split at h
    ·rename_i old hold;obtain⟨j1,j2⟩:=g5.kR hold;have hcl:=g5.length;have htl:(cus.take (cap*ie.size)).length=cap*ie.size:=by rw [aHr]; omega
     exact vM (cap:=cap) r hte ht ht2 hd2 hb0 hzl src (by omega) (some ⟨b,o,none⟩) (old:=old) (olds:=(cus.take (cap*ie.size)).toArray) rfl (by simpa using j1)
      (fun x hx=>g7 x (aHS (by simpa using hx))) (by simpa using htl)
      (fun w2 hw=>by simp only [Builtin.firstCells]; exact (g6.take _).loads htl w2 hw) h
    ·simp at h
   ·simp at h
 ·simp at h
theorem XY [Glob] {tt:TT} (htt:fE P tt) {H H':Hp} (r:bG E H w) {t t2 ty:Nat} {x y v:AV} {u u2:Value} (hx:VR E w.heap x u) (hy:VR E w.heap y u2) (h:OL tt t t2 x y H=some (v,H')) :
 ∃z w' E',(Builtin.append_ #[t,t2] ty #[u,u2]).run P w= .ok z w'/\Stp E H w E' H' w'/\bG E' H' w'/\VR E' w'.heap v z:=by
 unfold OL at h;split at h
 ·rename_i ti hti;split at h
  ·rename_i e hk;split at h
   ·rename_i ie hie;split at h
    ·simp at h
    ·rename_i ti2 anW;obtain⟨d2,hd2,hk2⟩:=yU (htt t2 ti2 anW);split at h
     ·simp at h
     ·rename_i k2 hne;split at h
      ·simp at h
      ·rename_i hcond;simp only [not_or,Classical.not_not] at hcond;split at h
       ·simp at h
       ·rename_i m news hsrc;obtain⟨us,src⟩:=xA (P:=P) r hy hsrc;refine Dh r (htt e ie hie) (gX (htt t ti hti) hk) hd2 ?_ hcond.1 hcond.2.1 hcond.2.2 src hx h;intro k hd;subst hd;cases hkk:ti2.kind<;>rw [hkk] at hk2<;>simp only [TV] at hk2;exact hne _ hkk
   ·simp at h
  ·simp at h
 ·simp at h
end
section
variable {P:Program} {E:En} {w:World}
theorem aaQ [Glob] {tt:TT} (htt:fE P tt) {H H':Hp} (r:bG E H w) {t ty:Nat} {x:AV} {u:Value} (hx:VR E w.heap x u) (h:Vw tt t x H=some H') :
 ∃w',(Builtin.clear_ #[t] ty #[u]).run P w= .ok (.tuple #[]) w'/\Stp E H w E H' w'/\bG E H' w':=by
 unfold Vw at h;split at h
 ·rename_i ti hti;split at h
  ·rename_i e hk;have hu:=gX (htt t ti hti) hk;split at h
   ·rename_i ie hie;obtain⟨inf,d,z,h1,h2,h3,h4,h5,h6,h7,h8⟩:=(htt e ie hie).all;have hz:=gB (E:=E) (h:=w.heap) h4;split at h
    ·simp at h;subst h;simp only [VR] at hx;subst hx;exact⟨w,by simp [Builtin.clear_,run_underlying hu],Stp.refl _ _ _,r⟩
    ·simp at h;subst h;simp only [VR] at hx;obtain⟨⟨x,rfl⟩,_⟩:=hx;exact⟨w,by cases x<;>simp [Builtin.clear_,run_underlying hu],Stp.refl _ _ _,r⟩
    ·rename_i id o len c;simp only [VR] at hx;obtain⟨hid,a,cap,rfl,hlen,hc⟩:=hx;split at h
     ·simp at h;subst h;exact⟨w,by simp [Builtin.clear_,run_underlying hu],Stp.refl _ _ _,r⟩
     ·rename_i hl0;split at h
      ·simp at h
      ·rename_i hne;split at h
       ·rename_i cs e' hl;split at h
        ·rename_i cs' hs;simp at h;subst h
         have ha:a=⟨(E.θ id).1,(E.θ id).2+o,none⟩:=by
          rcases zO hc with ha|ha
          ·exact ha
          ·exfalso; exact hl0 (by omega)
         have aB3:z.cells.toList≠[]:=by intro hx;have:=hz.1.length;rw [hx] at this;exact hne (aH6 (by simpa using this.symm))
         have hzc:(Builtin.zeroCells z.cells len).toList=repeatL z.cells.toList len:=Bj z.cells aB3 len;obtain⟨w',g1,g2,g3⟩:=qE (P:=P) r hl hs (qN hz.1 len) (fun u hu=>hz.2 u (qM hu));refine⟨w',?_,g2,g3⟩;subst ha;obtain⟨l,rfl⟩ : ∃l,len=l+1:=⟨len-1,by have:len≠0:=fun hh=>hl0 hh; omega⟩;simp [Builtin.clear_,run_underlying hu,zeroValue,typeInfo,h1,h3,hzc,g1]
        ·simp at h
       ·simp at h
    ·simp at h
   ·simp at h
  ·simp at h
 ·simp at h
theorem aaE [Glob] {tt:TT} (htt:fE P tt) {H H':Hp} (r:bG E H w) {t:Nat} {x v:AV} {u:Value} (hx:VR E w.heap x u) (h:Vk tt t x H=some (v,H')) :
 ∃y w' E',(Instr.range t u).run P w= .ok y w'/\Stp E H w E' H' w'/\bG E' H' w'/\VR E' w'.heap v y:=by
 unfold Vk at h;split at h
 ·rename_i ti hti;split at h
  ·rename_i hk;split at h
   ·rename_i b;simp only [aHe,aHf] at h;obtain⟨rfl,rfl⟩:=h;simp only [VR] at hx;obtain⟨rfl,hlt⟩:=hx
    obtain⟨s1,s2⟩:=Gp r (.stringIter (dH b) 0) (.oQ b 0) 0 (w':=w.iter (dH b) 0) rfl ⟨rfl,rfl,rfl⟩ (by
     simp only [OR,En.ext_θ_new]
     exact⟨World.iter_heap _ _ _,trivial,hlt⟩)
    exact⟨_,_,_,run_range_string w t (dH b) (iK (htt t ti hti) hk),s1,s2,UC r 0 _ 0⟩
   ·simp at h
  ·simp at h
 ·simp at h
theorem aiB [Glob] {H H':Hp} (r:bG E H w) {x v:AV} {u:Value} {isS:Bool} (hx:VR E w.heap x u) (h:aaG x isS H=some (v,H')) (ty:Nat) :
 ∃y w',(Instr.next u isS ty).run P w= .ok y w'/\Stp E H w E H' w'/\bG E H' w'/\VR E w'.heap v y:=by
 unfold aaG at h;split at h
 ·simp at h
 ·split at h
  ·rename_i id;split at h
   ·rename_i b p hl;obtain⟨g1,g2,g3⟩:=(r.live id _ hl).2.1;simp only [VR] at hx;obtain⟨rfl,hid⟩:=hx;rw [g2];have hg:=mJ (P:=P) g1 (by simp);split at h
    ·rename_i hn;simp only [aHe,aHf] at h;obtain⟨rfl,rfl⟩:=h;rw [dI,aIU] at hn;have hp: ¬p<(dH b).size:=by rw [oH]; omega
     refine⟨.tuple #[.bool false],w,?_,Stp.refl _ _ _,r,?_⟩
     ·simp [Instr.next,hg,hp]
     ·simp only [VR,bT]; exact⟨[.bool false],rfl,_,_,rfl,by simp [SB.den],rfl⟩
    ·rename_i c hn;split at h
     ·rename_i hc;simp only [aHe,aHf] at h;obtain⟨rfl,rfl⟩:=h;rw [dI] at hn;have hpl:=(aHB.1 hn).1;have hp:p<(dH b).size:=by rw [oH]; exact hpl
      have hb:(dH b)[p]'hp=UInt8.ofNat c:=by have h1:(dH b)[p]?=some ((dH b)[p]'hp):=getElem?_pos (dH b) p hp;rw [MO,hn] at h1;simpa using h1.symm
      have hbn:((dH b)[p]'hp).toNat=c:=by rw [hb]; simp; omega
      have hdec:=decode_ascii (dH b) p hp (by rw [hbn]; exact hc)
      obtain⟨s1,s2⟩:=kT r hl (.oQ b (p+1)) (.stringIter (dH b) (p+1)) (by
       intro h' hh _
       exact⟨hh,g2,g3⟩)
      refine⟨.tuple #[.bool true,goInt p,.int .i32 ((dH b)[p]'hp).toNat],_,?_,s1,s2,?_⟩
      ·simp only [Instr.next,Sem.run_bind,hg,Result.andThen_ok,hp,if_true,hdec,lZ (P:=P) g1 (by simp),Sem.run_pure]
      ·simp only [VR,bT,hbn];exact⟨_,rfl,_,_,rfl,by simp [SB.den],_,_,rfl,by simp [SE.den,goInt],_,_,rfl,by simp [SE.den],rfl⟩
     ·simp at h
   ·simp at h
  ·simp at h
theorem KZ {ρ:Nat->Int} {pc:List (SB×Bool)} (hp:bK ρ pc) {c:SB} {b:Bool} (h:c.den ρ=b):bK ρ ((c,b)::pc):=by
 intro d x hm;rcases aHm.1 hm with hm|hm
 ·simp only [aHf] at hm; rw [hm.1,hm.2]; exact h
 ·exact hp d x hm
theorem dB {α:Type} {ρ:Nat->Int} {s:St} (hp:bK ρ s.pc) {c:SB} {f:St->Bool->T α} {r:α} (h:(pV s c f).leaf ρ=some r) :
 ∃pc',bK ρ pc'/\(f { s with pc:=pc' } (c.den ρ)).leaf ρ=some r:=by
 unfold pV at h;split at h
 ·rename_i b hb;exact⟨s.pc,hp,by rw [jL hp hb]; exact h⟩
 ·split at h
  ·rename_i d;simp only [T.leaf] at h;split at h
   ·rename_i hc;exact⟨_,KZ hp hc,by simp only [SB.den,hc]; exact h⟩
   ·rename_i hc;exact⟨_,KZ hp hc,by simp only [SB.den,hc]; exact h⟩
  ·simp only [T.leaf] at h;split at h
   ·rename_i hc;exact⟨_,KZ hp hc,by rw [hc]; exact h⟩
   ·rename_i hc;exact⟨_,KZ hp hc,by rw [hc]; exact h⟩
theorem T.gZ {α β:Type} {ρ:Nat->Int} {f:α->T β} {r:β}: ∀{x:T α},(x.bind f).leaf ρ=some r->∃a,x.leaf ρ=some a/\(f a).leaf ρ=some r
 | .fail,h=>by simp [T.bind,T.leaf] at h
 | .ret a,h=> ⟨a,rfl,h⟩
 | .split c x y,h=>by simp only [T.bind,T.leaf] at h ⊢;split at h<;>exact T.gZ h
theorem sG {mx:Bool}: ∀{xs:List AV} {a:SE} {k:IntKind} {s s':St} {us:List Value} {v:AV},bK E.ρ s.pc->bT E w.heap xs us->(Ai mx xs a k s).leaf E.ρ=some (v,s')->
 s'.h=s.h/\s'.slots=s.slots/\bK E.ρ s'.pc/\∃u,(us.foldlM (if mx then Builtin.max2 else Builtin.min2) (.int k (a.den E.ρ))).run P w= .ok u w/\VR E w.heap v u
 |[],a,k,s,s',us,v,hp,hv,h=>by simp only [Ai,T.leaf,aHe,aHf] at h;obtain⟨rfl,rfl⟩:=h;rw [lC] at hv;subst hv;exact⟨rfl,rfl,hp,_,rfl,by simp only [VR]⟩
 |x::xs,a,k,s,s',us,v,hp,hv,h=>by
  rw [bC] at hv;obtain⟨u,vs,rfl,hx,hxs⟩:=hv;cases x<;>simp only [Ai,T.leaf,reduceCtorEq] at h;rename_i k' b;simp only [VR] at hx;subst hx;obtain⟨pc',hp',h1⟩:=dB hp h;cases mx
  ·simp only [aHv,if_false,dU] at h1 ⊢;by_cases hc:b.den E.ρ<a.den E.ρ
   ·simp only [hc,decide_true,if_true] at h1;obtain⟨q1,q2,q3,u,q4,q5⟩:=sG hp' hxs h1;refine⟨q1,q2,q3,u,?_,q5⟩;simp only [aJg,Sem.run_bind,Builtin.min2,Sem.run_pure,Result.andThen_ok,hc,if_true];simpa using q4
   ·simp only [hc,decide_false,aHv,if_false] at h1;obtain⟨q1,q2,q3,u,q4,q5⟩:=sG hp' hxs h1;refine⟨q1,q2,q3,u,?_,q5⟩;simp only [aJg,Sem.run_bind,Builtin.min2,Sem.run_pure,Result.andThen_ok,hc,if_false];simpa using q4
  ·simp only [if_true,dU] at h1 ⊢;by_cases hc:a.den E.ρ<b.den E.ρ
   ·simp only [hc,decide_true,if_true] at h1;obtain⟨q1,q2,q3,u,q4,q5⟩:=sG hp' hxs h1;refine⟨q1,q2,q3,u,?_,q5⟩;simp only [aJg,Sem.run_bind,Builtin.max2,Sem.run_pure,Result.andThen_ok,gt_iff_lt,hc,if_true];simpa using q4
   ·simp only [hc,decide_false,aHv,if_false] at h1;obtain⟨q1,q2,q3,u,q4,q5⟩:=sG hp' hxs h1;refine⟨q1,q2,q3,u,?_,q5⟩;simp only [aJg,Sem.run_bind,Builtin.max2,Sem.run_pure,Result.andThen_ok,gt_iff_lt,hc,if_false];simpa using q4
end
section
variable {P:Program} {E:En} {w:World}
theorem agO (ρ:Nat->Int) (a b:SB):(amA a b).den ρ=(a.den ρ&&b.den ρ):=by unfold amA;split<;>simp [SB.den]
theorem aiG {i:TI} {t:Nat} (hti:rQ P t i) {x y:AV} {u v:Value} (hx:VR E w.heap x u) (hy:VR E w.heap y v) {c:SB} (h:aaU i.kind x y=some c) (d:Nat) :
 (Op.equalIn (d+1) t u v).run P w= .ok (c.den E.ρ) w/\u.oneCell'=true/\v.oneCell'=true/\i.agg=false:=by
 unfold aaU at h;split at h
 ·rename_i k hk;split at h
  ·split at h
   ·rename_i hkk;subst hkk;simp at h;subst h;simp only [VR] at hx hy;subst hx hy;exact⟨by rw [run_equalIn_int w d t _ _ _ _ (Dx hti hk),lM],rfl,rfl,by simp [TI.agg,TK.agg,hk]⟩
   ·simp at h
  ·simp at h
 ·rename_i hk;split at h
  ·simp at h;subst h;simp only [VR] at hx hy;obtain⟨rfl,hx⟩:=hx;obtain⟨rfl,hy⟩:=hy;exact⟨by rw [run_equalIn_string w d t _ _ (iK hti hk),adG hx hy]; rfl,rfl,rfl,by simp [TI.agg,TK.agg,hk]⟩
  ·obtain⟨a,b,rfl,rfl,hd⟩:=MN hx hy h;exact⟨by rw [run_equalIn_string w d t _ _ (iK hti hk),EO,hd],rfl,rfl,by simp [TI.agg,TK.agg,hk]⟩
 ·rename_i hk;split at h
  ·simp only [VR] at hx hy;subst hx hy;exact⟨by rw [run_equalIn_bool' w d t _ _ (WG hti hk),J4 h],rfl,rfl,by simp [TI.agg,TK.agg,hk]⟩
  ·simp at h
 ·simp at h
theorem afI {tt:TT} (htt:fE P tt) {xs ys:List AV} {us vs:List Value} (hx:bT E w.heap xs us) (hy:bT E w.heap ys vs) (d:Nat): ∀{CB:List Field} {l:List (Nat×Nat×Nat)} {c:SB},
 (CB.mapM fun f=>(P.info? f.type).map fun i=>(f.offset,f.type,i.size))=some l->(∀f∈CB,f.name≠ "_")->apB tt xs ys l=some c->
 (Op.eqFields (d+1) us.toArray vs.toArray CB).run P w= .ok (c.den E.ρ) w
 |[],l,c,hm,_,h=>by simp at hm;subst hm;simp [apB] at h;subst h;simp [Op.eqFields,SB.den]
 |f::CB,l,c,hm,hn,h=>by
  simp only [aIR,aJw,aI9] at hm;obtain⟨p,h1,ls,h2,h3⟩:=hm;simp only [pure,aHe] at h3;subst h3;rw [aHy] at h1;obtain⟨inf,aG9,rfl⟩:=h1;simp only [apB] at h;split at h
  ·simp at h
  ·rename_i i hi;split at h
   ·rename_i x y hxn hyn;split at h
    ·simp at h
    ·rename_i c1 hc1;split at h
     ·simp at h
     ·rename_i c2 hc2;simp at h;subst h;obtain⟨u,hu1,hu2⟩:=hx.nth hxn;obtain⟨v,hv1,hv2⟩:=hy.nth hyn;obtain⟨e1,e2,e3,e4⟩:=aiG (w:=w) (htt f.type i hi) hu2 hv2 hc1 d;have ih:=afI htt hx hy d h2 (fun g hg=>hn g (by simp [hg])) hc2;have p1:(part f.type us.toArray f.offset).run P w= .ok u w:=by simp [part,vJ (htt f.type i hi),e4,hu1]
      have p2:(part f.type vs.toArray f.offset).run P w= .ok v w:=by simp [part,vJ (htt f.type i hi),e4,hv1]
      simp only [Op.eqFields];rw [aHd (hn f (by simp))];simp only [Sem.run_bind,p1,p2,e1,Result.andThen_ok,agO];cases hcd:c1.den E.ρ
      ·simp
      ·simp [ih]
   ·simp at h
theorem OI {tt:TT} (htt:fE P tt) {t:Nat} {xs ys:List AV} {us vs:List Value} {c:SB} (hx:bT E w.heap xs us) (hy:bT E w.heap ys vs) (h:LC tt t xs ys=some c) (op:BinOp) (x y:Operand) :
 (eqGuard op t x y (.agg us.toArray) (.agg vs.toArray)).run P w= .ok () w/\(binOp .eql t (.agg us.toArray) (.agg vs.toArray)).run P w= .ok (.bool (c.den E.ρ)) w/\(binOp .neq t (.agg us.toArray) (.agg vs.toArray)).run P w= .ok (.bool (!(c.den E.ρ))) w:=by
 unfold LC at h;split at h
 ·simp at h
 ·rename_i i hi;split at h
  ·rename_i fs hk;split at h
   ·rename_i hq;have hti:=htt t i hi;have he:=hti.eqs hq;obtain⟨CB,hu,hm⟩:=EM hti hk;unfold apA at he;rw [hu] at he;simp only [aHg,aIj,aHz,bne_iff_ne,ne_eq] at he;obtain⟨⟨h1,h2⟩,h3⟩:=he;have hf:P.fieldsOf t=CB:=by simp [Program.fieldsOf,hu]
    have h10:(10000:Nat)=9998+1+1:=rfl
    have key:(Op.equalIn 10000 t (.agg us.toArray) (.agg vs.toArray)).run P w= .ok (c.den E.ρ) w:=by rw [h10];generalize (9998:Nat)=n;rw [run_equalIn_struct w (n+1) t _ _ (by rw [hf]; exact hu) h1,hf];exact afI htt hx hy n hm (fun f hf=>(h3 f hf).1) h
    refine⟨run_eqGuard_agg w op t x y _ _ h2,?_,?_⟩
    ·rw [run_eql_struct,key]; rfl
    ·rw [run_neq_struct,key]; rfl
   ·simp at h
  ·simp at h
def After [Glob] (E:En) (s:St) (w:World) (v:AV) (s':St) (u:Value) (w':World):Prop:= ∃E',Stp E s.h w E' s'.h w'/\bG E' s'.h w'/\VR E' w'.heap v u
def pI [Glob] (P:Program) (E:En) (s:St) (o:Oper) (a:Act) (w:World) (v:AV) (s':St):Prop:=
 s'.slots=s.slots/\bK E.ρ s'.pc/\yB P o a w (After E s w v s')
theorem aF {α:Type} {ρ:Nat->Int} {a b:α} (h:(T.ret a).leaf ρ=some b):a=b:=by simpa [T.leaf] using h
theorem jR {s:St} {a:Act} {x:Operand} {f:AV->T (AV×St)} {r:AV×St} (sr:SR E w.heap s.slots a) (h:(Ii s x f).leaf E.ρ=some r): ∃v,VR E w.heap v (a.eval x)/\(f v).leaf E.ρ=some r:=by
 unfold Ii at h;split at h
 ·rename_i v hv; exact⟨v,jW sr hv,h⟩
 ·simp [T.leaf] at h
theorem lI {s s':St} {v:AV} {r:Option AV} {ρ:Nat->Int} (h:(yO s r).leaf ρ=some (v,s')):r=some v/\s'=s:=by
 unfold yO at h;split at h
 ·have:=aF h; simp only [aHf] at this; exact⟨by rw [this.1],this.2.symm⟩
 ·simp [T.leaf] at h
theorem Gg {s s':St} {v:AV} {r:Option Hp} {ρ:Nat->Int} (h:(Zv s r).leaf ρ=some (v,s')): ∃H,r=some H/\v=AV.undef/\s'= { s with h:=H }:=by
 unfold Zv at h;split at h
 ·rename_i H; have:=aF h; simp only [aHf] at this; exact⟨H,rfl,this.1.symm,this.2.symm⟩
 ·simp [T.leaf] at h
theorem vZ {s s':St} {v:AV} {r:Option (AV×Hp)} {ρ:Nat->Int} (h:(JH s r).leaf ρ=some (v,s')): ∃H,r=some (v,H)/\s'= { s with h:=H }:=by
 unfold JH at h;split at h
 ·rename_i x H; have:=aF h; simp only [aHf] at this; obtain⟨rfl,rfl⟩:=this; exact⟨H,rfl,rfl⟩
 ·simp [T.leaf] at h
theorem tJ {h:Array Obj}:VR E h AV.undef undef:=by simp only [AV.undef,VR,bT]; exact⟨[],rfl,rfl⟩
variable {s s':St} {o:Oper} {a:Act} {v:AV}
theorem pI.pure [Glob] (hp:bK E.ρ s.pc) (r:bG E s.h w) {u:Value} (h:(execOp a.eval o).run P w= .ok (.value u) w) (hv:VR E w.heap v u):pI P E s o a w v s:=
 ⟨rfl,hp,yB.value h ⟨E,Stp.refl _ _ _,r,hv⟩⟩
theorem pI.heap [Glob] {H':Hp} {E':En} {w':World} (hp:bK E.ρ s.pc) {u:Value} (h:(execOp a.eval o).run P w= .ok (.value u) w') (h1:Stp E s.h w E' H' w') (h2:bG E' H' w') (hv:VR E' w'.heap v u) :
 pI P E s o a w v { s with h:=H' }:=
 ⟨rfl,hp,yB.value h ⟨E',h1,h2,hv⟩⟩
end
theorem FB {α:Type} {ρ:Nat->Int} {kk:TK} {k:AV} {r:α} {f:St->T α}: ∀{es:List (AV×AV×Nat)} {s:St},bK ρ s.pc->(AB kk k es s f).leaf ρ=some r->∃pc',bK ρ pc'/\(f { s with pc:=pc' }).leaf ρ=some r
 |[],s,hp,h=> ⟨s.pc,hp,h⟩
 |(k',v,b)::es,s,hp,h=>by
  simp only [AB] at h;split at h
  ·split at h
   ·exact⟨s.pc,hp,h⟩
   ·exact FB hp h
  ·split at h
   ·obtain⟨pc1,hp1,h1⟩:=dB hp h;split at h1
    ·exact⟨pc1,hp1,h1⟩
    ·obtain⟨pc2,hp2,h2⟩:=FB (s:={ s with pc:=pc1 }) hp1 h1;exact⟨pc2,hp2,h2⟩
   ·exact⟨s.pc,hp,h⟩
theorem wZ {α:Type} {ρ:Nat->Int} {tt:TT} {t:Nat} {m k:AV} {r:α} {f:St->T α} {s:St} (hp:bK ρ s.pc) (h:(tC tt t m k s f).leaf ρ=some r): ∃pc',bK ρ pc'/\(f { s with pc:=pc' }).leaf ρ=some r:=by
 unfold tC at h;split at h
 ·split at h
  ·split at h
   ·split at h
    ·exact FB hp h
    ·exact⟨s.pc,hp,h⟩
   ·exact⟨s.pc,hp,h⟩
  ·exact⟨s.pc,hp,h⟩
 ·exact⟨s.pc,hp,h⟩
theorem X0 {ρ:Nat->Int} {k:IntKind} {e:SE} {f:AV->St->T (AV×St)} {r:AV×St}: ∀(n j:Nat) {s:St},bK ρ s.pc->(j:Int)<=e.den ρ->e.den ρ<(j:Int)+n->(X3 k e f n j s).leaf ρ=some r->
 ∃(i:Nat) (pc':List (SB×Bool)),bK ρ pc'/\e.den ρ=(i:Int)/\(f (.int k (.lit (Int.ofNat i))) { s with pc:=pc' }).leaf ρ=some r
 |0,j,s,_,_,_,h=>by simp [X3,T.leaf] at h
 |n+1,j,s,hp,h1,h2,h=>by
  simp only [X3] at h;split at h
  ·exact⟨j,s.pc,hp,by omega,h⟩
  ·obtain⟨pc1,hp1,h3⟩:=dB hp h;rw [lM] at h3;split at h3
   ·rename_i he;simp only [SE.den,beq_iff_eq] at he;exact⟨j,pc1,hp1,he,h3⟩
   ·rename_i he;simp only [SE.den,beq_eq_false_iff_ne,ne_eq] at he;have hj:(Int.ofNat j)=(j:Int):=rfl;rw [hj] at he;obtain⟨i,pc2,hp2,q1,q2⟩:=X0 n (j+1) (s:={ s with pc:=pc1 }) hp1 (by push_cast; omega) (by push_cast at h2 ⊢; omega) h3;exact⟨i,pc2,hp2,q1,q2⟩
theorem sQ {α:Type} {ρ:Nat->Int} {s:St} (hp:bK ρ s.pc) {i n:SE} {f:St->T α} {r:α} (h:(Gj s i n f).leaf ρ=some r) :
 ∃pc',bK ρ pc'/\0<=i.den ρ/\i.den ρ<n.den ρ/\(f { s with pc:=pc' }).leaf ρ=some r:=by
 unfold Gj at h;obtain⟨pc1,hp1,h1⟩:=dB hp h;split at h1
 ·simp [T.leaf] at h1
 ·rename_i e1;rw [dU,decide_eq_false_iff_not] at e1;obtain⟨pc2,hp2,h2⟩:=dB (s:={ s with pc:=pc1 }) hp1 h1;split at h2
  ·rename_i e2;rw [dU,decide_eq_true_eq] at e2;simp only [SE.den,aIB] at e1;exact⟨pc2,hp2,e1,e2,h2⟩
  ·simp [T.leaf] at h2
theorem Ic {E:En} {h0:Array Obj} {tt:TT} {t:Nat} {x ix:AV} {ui:Value} {f:AV->St->T (AV×St)} {r:AV×St} {s:St} (hp:bK E.ρ s.pc) (hix:VR E h0 ix ui) (h:(TQ tt t x ix s f).leaf E.ρ=some r) :
 ∃ix' pc',bK E.ρ pc'/\VR E h0 ix' ui/\(f ix' { s with pc:=pc' }).leaf E.ρ=some r:=by
 unfold TQ at h;split at h
 ·exact⟨ix,s.pc,hp,hix,h⟩
 ·split at h
  ·rename_i k e _;split at h
   ·rename_i n hn;obtain⟨pc1,hp1,h1,h2,h3⟩:=sQ hp h;simp only [SE.den] at h2;obtain⟨i,pc2,hp2,q1,q2⟩:=X0 n 0 (s:={ s with pc:=pc1 }) hp1 (by simpa using h1) (by simpa using h2) h3;refine⟨_,pc2,hp2,?_,q2⟩;simp only [VR,SE.den] at hix ⊢;rw [hix,q1];rfl
   ·simp [T.leaf] at h
  ·simp [T.leaf] at h
theorem RZ {ro:Nat->Prop} {h:Array Obj} {t:Nat} {d:D} {v:Value} (r:Rd ro h (.sl t) d v):(0<d.l.length->∃a n cap,v= .slice (some a) n cap)/\(d= .i 1->v= .slice none 0 0)/\(d= .i 2->∃a n cap,v= .slice (some a) n cap):=by
 generalize hc:CK.sl t=c at r
 cases r with
 |int k n=>simp at hc
 |bool b=>simp at hc
 |str s=>simp at hc
 |nil t=>exact⟨by simp [D.l],fun _=>rfl,by simp⟩
 |non t a cap=>exact⟨by simp [D.l],by simp,fun _=> ⟨a,0,cap,rfl⟩⟩
 |one t c b o cap ds f hr hcp hb h1 h2=>exact⟨fun _=> ⟨_,_,_,rfl⟩,fun q=>by cases ds<;>simp [dL] at q,fun q=>by cases ds<;>simp [dL] at q⟩
 |many t cs b o cap rows f hr hcp hb hl h1 h2=>exact⟨fun _=> ⟨_,_,_,rfl⟩,fun q=>by cases rows<;>simp [dL] at q,fun q=>by cases rows<;>simp [dL] at q⟩
theorem UJ {P:Program} {E:En} {w:World} {tt:TT} (htt:fE P tt) {t e:Nat} {ti:TI} (hti:tt t=some ti) (hk:ti.kind= .slice e) {u:Value} {b:Bool} (hu:(b=true/\u= .slice none 0 0)\/(b=false/\∃a n cap,u= .slice (some a) n cap)) {s s':St} {op:BinOp} {v:AV} {ρ:Nat->Int}
 (h:(amY s op b).leaf ρ=some (v,s')):s'=s/\∃y,(binOp op t u (.slice none 0 0)).run P w= .ok y w/\VR E w.heap v y/\(∀cs ds,¬(u= .agg cs/\(Value.slice none 0 0)= .agg ds))/\¬(u= .nilIface/\(Value.slice none 0 0)= .nilIface):=by
 obtain⟨d,h1,h2⟩:=yU (htt t ti hti);rw [hk] at h2
 have he:(Op.equal t u (.slice none 0 0)).run P w= .ok b w:=by have hm:Op.equal t u (.slice none 0 0)=Op.equalIn (9999+1) t u (.slice none 0 0):=rfl;rw [hm];generalize (9999:Nat)=n;cases d<;>simp only [TV] at h2;rcases hu with ⟨rfl,rfl⟩|⟨rfl,a,m,cap,rfl⟩ <;>simp [Op.equalIn,F8 h1]
 have hns:(∀k n,u≠.int k n)/\(∀s,u≠.string s)/\(∀k n,u≠.float k n)/\(∀k n m,u≠.complex k n m):=by rcases hu with ⟨_,rfl⟩|⟨_,a,m,cap,rfl⟩ <;>simp
 obtain⟨q1,q2⟩:=binOp_eql he hns.1 hns.2.1 hns.2.2.1 hns.2.2.2;unfold amY at h;split at h
 ·simp only [T.leaf,aHe,aHf] at h;obtain⟨rfl,rfl⟩:=h;exact⟨rfl,_,q1,by simp only [VR,SB.den],by simp,by simp⟩
 ·simp only [T.leaf,aHe,aHf] at h;obtain⟨rfl,rfl⟩:=h;exact⟨rfl,_,q2,by simp only [VR,SB.den],by simp,by simp⟩
 ·simp [T.leaf] at h
theorem avE {P:Program} {E:En} {w:World} {tt:TT} (htt:fE P tt) {t:Nat} {a b:AV} {e:SE} (hn:ZH tt t a b=some e) {u u':Value} (ha:VR E w.heap a u) (hb:VR E w.heap b u') {s s':St} (hp:bK E.ρ s.pc) {op:BinOp} {v:AV} (h:(aBL s e op).leaf E.ρ=some (v,s')) :
 s'.slots=s.slots/\s'.h=s.h/\bK E.ρ s'.pc/\∃y,(binOp op t u u').run P w= .ok y w/\VR E w.heap v y/\(∀cs ds,¬(u= .agg cs/\u'= .agg ds))/\¬(u= .nilIface/\u'= .nilIface):=by
 unfold ZH at hn;split at hn
 ·split at hn
  ·split at hn
   ·rename_i ti hti;split at hn
    ·rename_i el hk;simp only [aHe] at hn;subst hn;simp only [VR] at ha hb;subst hb;obtain⟨k1,k2,k3⟩:=RZ ha;unfold aBL at h;obtain⟨pc1,hp1,h1⟩:=dB hp h;split at h1
     ·rename_i t1;rw [dU,decide_eq_true_eq,bW] at t1;simp only [SE.den] at t1;obtain⟨rfl,q⟩:=UJ (P:=P) (E:=E) (w:=w) htt hti hk (.inr ⟨rfl,k1 (by omega)⟩) h1;exact⟨rfl,rfl,hp1,q⟩
     ·obtain⟨pc2,hp2,h2⟩:=dB (s:={ s with pc:=pc1 }) hp1 h1;split at h2
      ·rename_i t2;rw [qL,qF,beq_iff_eq] at t2;simp only [SE.den] at t2;obtain⟨rfl,q⟩:=UJ (P:=P) (E:=E) (w:=w) htt hti hk (.inl ⟨rfl,k2 (gI t2)⟩) h2;exact⟨rfl,rfl,hp2,q⟩
      ·obtain⟨pc3,hp3,h3⟩:=dB (s:={ s with pc:=pc2 }) hp2 h2;split at h3
       ·rename_i t3;rw [qL,qF,beq_iff_eq] at t3;simp only [SE.den] at t3;obtain⟨rfl,q⟩:=UJ (P:=P) (E:=E) (w:=w) htt hti hk (.inr ⟨rfl,k3 (gI t3)⟩) h3;exact⟨rfl,rfl,hp3,q⟩
       ·simp [T.leaf] at h3
    ·simp at hn
   ·simp at hn
  ·simp at hn
 ·simp at hn
section
variable {P:Program} {E:En} {w:World}
theorem bG.swap [Glob] {H H2:Hp} (r:bG E H w) {id:Nat} {o o':eP} (hl:H.get id=some o) (ho:OR E w.heap id o') (hg:H2.get id=some o') (hs: ∀j,j≠id->H2.get j=H.get j) (hn:H2.next=H.next) (hr:H2.res=H.res):bG E H2 w:=by
 have key: ∀j x,H2.get j=some x->∃y,H.get j=some y:=by
  intro j x hj;by_cases h:j=id
  ·exact⟨o,by rw [h]; exact hl⟩
  ·exact⟨x,by rw [<- hs j h]; exact hj⟩
 refine⟨fun i hi=>r.fresh i (by rw [<- hn]; exact hi),fun q hq=>by rw [hn]; exact r.res q (by rw [<- hr]; exact hq),fun j x hj=>?_,fun i j x y hi hj he=>?_,r.BO,r.glob⟩
 ·by_cases h:j=id
  ·subst h;rw [hg] at hj;simp only [aHe] at hj;subst hj;exact⟨(r.live j o hl).1,ho,(r.live j o hl).2.2⟩
  ·exact r.live j x (by rw [<- hs j h]; exact hj)
 ·obtain⟨x',hx⟩:=key i x hi;obtain⟨y',hy⟩:=key j y hj;exact r.inj i j x' y' hx hy he
structure QB (H H2:Hp):Prop where
 ab: ∀j x,H.get j=some x->∃y,H2.get j=some y
 ba: ∀j x,H2.get j=some x->∃y,H.get j=some y
 next:H2.next=H.next
 res:H2.res=H.res
theorem QB.put {H:Hp} {id:Nat} {o o':eP} (hl:H.get id=some o):QB H (H.put id o'):=by
 refine⟨fun j x hj=>?_,fun j x hj=>?_,rfl,rfl⟩
 ·rw [Hp.get_put];split
  ·exact⟨o',rfl⟩
  ·exact⟨x,hj⟩
 ·rw [Hp.get_put] at hj;split at hj
  ·rename_i h; exact⟨o,by rw [h]; exact hl⟩
  ·exact⟨x,hj⟩
theorem QB.symm {H H2:Hp} (a:QB H H2):QB H2 H:=⟨a.ba,a.ab,a.next.symm,a.res.symm⟩
theorem Stp.left {H H2 H':Hp} {E':En} {w':World} (a:QB H H2) (s:Stp E H w E' H' w'):Stp E H2 w E' H' w':=
 ⟨s.ρ,s.dm,s.θ,s.κ,s.ro,fun b hb=>(s.JF b hb).imp id (Or.imp (fun⟨i,o,h1,h2⟩=>by obtain⟨y,hy⟩:=a.ab i o h1; exact⟨i,y,hy,h2⟩) id),by rw [a.next]; exact s.nxm,by rw [a.res]; exact s.rsm,
  fun i hi=>by rw [a.next,a.res]; exact s.dmn i hi,s.os,s.tape,s.output,s.size,fun b hb hn=>s.keep b hb fun i o ho=>by obtain⟨y,hy⟩:=a.ab i o ho; exact hn i y hy,
  fun i o ho hlt=>by obtain⟨i0,o0,h1,h2⟩:=s.own i o ho hlt; obtain⟨y,hy⟩:=a.ab i0 o0 h1; exact⟨i0,y,hy,h2⟩⟩
theorem Stp.right {H H' H2:Hp} {E':En} {w':World} (a:QB H' H2) (s:Stp E H w E' H' w'):Stp E H w E' H2 w':=
 ⟨s.ρ,s.dm,s.θ,s.κ,s.ro,s.JF,by rw [a.next]; exact s.nxm,by rw [a.res]; exact s.rsm,
  fun i hi=>by rw [a.next]; exact s.dmn i hi,s.os,s.tape,s.output,s.size,s.keep,
  fun i o ho hlt=>by obtain⟨y,hy⟩:=a.ba i o ho; exact s.own i y hy hlt⟩
theorem dW.of {ro:Nat->Prop} {h:Array Obj} {d:D} (f:Nat->Value): ∀(cs:List CK) (j:Nat),(∀i c,cs[i]?=some c->lV ro h c (d.hd (j+i)) (f (j+i)))->dW ro h cs j d ((List.range' j cs.length).map f)
 |[],j,_=>by simp [dW]
 |c::cs,j,hh=>by simp only [aHq,List.range'_succ,aHo,dW];refine⟨f j,_,rfl,by simpa using hh 0 c (by simp),dW.of f cs (j+1) fun i c' hi=>?_⟩;have:=hh (i+1) c' (by simpa using hi);rw [show j+1+i=j+(i+1) by omega];exact this
theorem Rd.row {ro:Nat->Prop} {h:Array Obj} {t:Nat} {d:D} {v:Value} (r:Rd ro h (.sl t) d v) {i:Nat} {x:D} (hi:d.l[i]?=some x) :
 ∃b o cap us,v= .slice (some ⟨b,o,none⟩) d.l.length cap/\ro b/\Ep ro h (rowOf t) x us/\iT h b (o+i*(rowOf t).es) us:=by
 generalize hc:CK.sl t=c at r
 cases r with
 |int k n=>simp at hc
 |bool b=>simp at hc
 |str s=>simp at hc
 |nil t=>simp [D.l] at hi
 |non t a cap=>simp [D.l] at hi
 |one t' c b o cap ds f hr hcp hb h1 h2=>
  simp only [CK.sl.injEq] at hc;subst hc;rw [aA] at hi ⊢;refine⟨b,o,cap,[f i],rfl,hb,?_,?_⟩
  ·rw [hr];exact⟨_,rfl,(h2 i x hi).cell⟩
  ·rw [hr];intro j u hj
   cases j with
   |zero=> simp at hj;subst hj;simpa [Row.es] using h1 i x hi
   |succ j=>simp at hj
 |many t' cs b o cap rows f hr hcp hb hl h1 h2=>
  simp only [CK.sl.injEq] at hc;subst hc;rw [aA] at hi ⊢;rw [aHG,aHy] at hi;obtain⟨row,hrow,rfl⟩:=hi;have hlen:=hl row (aHK hrow);refine⟨b,o,cap,(List.range' 0 cs.length).map (f i),by simp,hb,?_,?_⟩
  ·rw [hr];refine dW.of (f i) cs 0 fun j c hj=>?_;have hjl:j<row.length:=by rw [hlen]; exact (aHB.1 hj).1
   have hd:row[j]?=some row[j]:=aHu hjl;rw [aHn];have:(dL row).hd j=row[j]:=by simp [D.hd,hd]
   rw [this];exact (h2 i row j _ c hrow hd hj).cell
  ·rw [hr];intro j u hj;rw [aHG,aHy] at hj;obtain⟨k,hk,rfl⟩:=hj
   have hjl:j<cs.length:=by have:=(aHB.1 hk).1;simpa using this
   rw [List.getElem?_range' hjl] at hk;simp only [aHe] at hk;obtain rfl:k=j:=by omega
   have hd:row[k]?=some row[k]:=aHu (by omega);exact h1 i row k _ hrow hd
theorem Ju (ρ:Nat->Int) (e i:SE) {x:D} {k:Nat} (hi:i.den ρ=(k:Int)) (hx:(dec (e.den ρ)).l[k]?=some x):dec ((SE.op .at e i).den ρ)=x:=by simp only [SE.den,jC.den,aC,D.at,hi,aHH,hx,aHl]
theorem sH {tt:TT} (htt:fE P tt) {ty z:Nat} (h:Ar tt ty=some z): ∃el ie,P.underlying ty=some (.slice el)/\tt el=some ie/\ie.size=z:=by
 unfold Ar at h;split at h
 ·rename_i ti hti;split at h
  ·rename_i el hk;simp only [kS,aHy] at h;obtain⟨ie,hie,rfl⟩:=h;exact⟨el,ie,gX (htt ty ti hti) hk,hie,rfl⟩
  ·simp at h
 ·simp at h
theorem aaP {tt:TT} (htt:fE P tt) {s s':St} (hp:bK E.ρ s.pc) {ty t:Nat} {e:SE} {ix v:AV} {u ui:Value} (hx:VR E w.heap (.dat e t) u) (hix:VR E w.heap ix ui) (h:(Vu tt s ty t e ix).leaf E.ρ=some (v,s')) :
 s'.slots=s.slots/\s'.h=s.h/\bK E.ρ s'.pc/\∃r,(Instr.indexAt ty u ui).run P w= .ok r w/\VR E w.heap v r:=by
 unfold Vu at h;split at h
 ·rename_i kd i;split at h
  ·rename_i z hz;split at h
   ·rename_i hes;obtain⟨pc',hp',h1,h2,h3⟩:=sQ hp h;have:=aF h3;simp only [aHf] at this;obtain⟨rfl,rfl⟩:=this;refine⟨rfl,rfl,hp',?_⟩;rw [bW] at h2;simp only [VR] at hx hix;subst hix;obtain⟨el,ie,hu,hie,rfl⟩:=sH htt hz;obtain⟨k,hk⟩ : ∃k:Nat,i.den E.ρ=(k:Int):=⟨(i.den E.ρ).toNat,by omega⟩;have hlt:k<(dec (e.den E.ρ)).l.length:=by omega
    have hd:(dec (e.den E.ρ)).l[k]?=some (dec (e.den E.ρ)).l[k]:=aHu hlt;obtain⟨b,o,cap,us,rfl,g1,g2,g3⟩:=hx.row hd;refine⟨.pointer (some ⟨b,o+k*ie.size,none⟩),?_,?_⟩
    ·rw [hk];simp [Instr.indexAt,asIntOf,run_underlying hu,eU (htt el ie hie),hlt,gQ]
    ·simp only [VR];exact⟨b,_,us,rfl,g1,by rw [iO,Ju E.ρ e i hk hd]; exact g2,by rw [hes]; exact g3,g2.ones⟩
   ·simp [T.leaf] at h
  ·simp [T.leaf] at h
 ·simp [T.leaf] at h
theorem Z8 {tt:TT} (htt:fE P tt) {s s':St} (hp:bK E.ρ s.pc) {ty t id:Nat} {n:SE} {ix v:AV} {u ui:Value} (hx:VR E w.heap (.sN id n t) u) (hix:VR E w.heap ix ui) (h:(Ve tt s ty id t n ix).leaf E.ρ=some (v,s')) :
 s'.slots=s.slots/\s'.h=s.h/\bK E.ρ s'.pc/\∃r,(Instr.indexAt ty u ui).run P w= .ok r w/\VR E w.heap v r:=by
 unfold Ve at h;split at h
 ·rename_i kd i;split at h
  ·rename_i z hz;split at h
   ·rename_i hes;obtain⟨pc',hp',h1,h2,h3⟩:=sQ hp h;have:=aF h3;simp only [aHf] at this;obtain⟨rfl,rfl⟩:=this;refine⟨rfl,rfl,hp',?_⟩;simp only [VR] at hx hix;subst hix;obtain⟨hid,m,a,cap,hn,rfl,hcap,hc⟩:=hx;obtain⟨el,ie,hu,hie,rfl⟩:=sH htt hz;obtain⟨k,hk⟩ : ∃k:Nat,i.den E.ρ=(k:Int):=⟨(i.den E.ρ).toNat,by omega⟩;have hlt:k<m:=by omega
    have ha:a=⟨(E.θ id).1,(E.θ id).2,none⟩:=by
     simp only [gJ] at hc;rcases hc with hc|hc
     ·simpa using hc.1
     ·omega
    subst ha;refine⟨.pointer (some ⟨(E.θ id).1,(E.θ id).2+k*ie.size,none⟩),?_,?_⟩
    ·rw [hk];simp [Instr.indexAt,asIntOf,run_underlying hu,eU (htt el ie hie),hlt,gQ]
    ·simp only [VR];exact⟨hid,k,hk,by rw [aHJ]⟩
   ·simp [T.leaf] at h
  ·simp [T.leaf] at h
 ·simp [T.leaf] at h
theorem tV {ρ:Nat->Int} {pc:List (SB×Bool)} (hp:bK ρ pc) {dflt cs:List AV} {i:SE} {k:Nat} (hi:i.den ρ=(k:Int)): ∀{ov:List (SE×List AV)},tX pc dflt i ov=some cs->
 dX ρ k ov=some cs\/(dX ρ k ov=none/\cs=dflt)
 |[],h=>by simp only [tX,aHe] at h; exact .inr ⟨rfl,h.symm⟩
 |(j,c)::l,h=>by
  simp only [tX] at h;simp only [dX];split at h
  ·rename_i he;have he:=dD _ _ he;subst he;rw [aHd hi];simp only [aHe] at h;subst h;exact .inl rfl
  ·split at h
   ·rename_i b hd;have hd:=jL hp hd;rw [lM] at hd;split at h
    ·rw [beq_iff_eq,hi] at hd;rw [aHd hd.symm];exact .inl h
    ·rw [beq_eq_false_iff_ne,hi] at hd;rw [aHc (fun q=>hd q.symm)];exact tV hp hi h
   ·simp at h
theorem Dw {α:Type} {ρ:Nat->Int} {i:SE} {r:α}: ∀{ov:List (SE×List AV)} {s:St} {k:St->T α},bK ρ s.pc->(Bz i ov s k).leaf ρ=some r->∃pc',bK ρ pc'/\(k { s with pc:=pc' }).leaf ρ=some r
 |[],s,k,hp,h=> ⟨s.pc,hp,h⟩
 |(j,c)::l,s,k,hp,h=>by
  simp only [Bz] at h;split at h
  ·exact⟨s.pc,hp,h⟩
  ·obtain⟨pc1,hp1,h1⟩:=dB hp h;split at h1
   ·exact⟨pc1,hp1,h1⟩
   ·exact Dw (s:={ s with pc:=pc1 }) hp1 h1
theorem lY {ρ:Nat->Int} {r:Row} {ov:List (SE×List AV)} (ho:BR r ov): ∀{ds:List D} {j k:Nat} {x:D},ds[k]?=some x->
 aK ρ r ov ds j=aK ρ r ov (ds.take k) j++((match dX ρ (j+k) ov with |some cs=>cs|none=>jP r (.dat x))++aK ρ r ov (ds.drop (k+1)) (j+k+1))/\(aK ρ r ov (ds.take k) j).length=k*r.es
 |[],j,k,x,h=>by simp at h
 |d::ds,j,0,x,h=>by
  simp only [aHA,aHe] at h;subst h;refine⟨?_,by simp [aK]⟩;simp only [aJG,aK,aHx,aHJ,List.drop_succ_cons,aH4]
  try rfl
 |d::ds,j,k+1,x,h=>by
  have h':ds[k]?=some x:=by simpa using h
  have hk:k<ds.length:=(aHB.1 h').1;obtain⟨h1,h2⟩:=lY (ρ:=ρ) ho (j:=j+1) h';refine⟨?_,?_⟩
  ·simp only [aIc,aK,aH3,List.drop_succ_cons];rw [h1,show j+1+k=j+(k+1) by omega]
  ·rw [bP ho,aHr,aHq];congr 1;omega
theorem Au {α:Type}: ∀(a b:List α),fZ a.length (a++b)=some b
 |[],_=>rfl
 |x::a,b=>by simp [fZ,Au a b]
theorem OU {α:Type}: ∀{n:Nat} {a b l:List α},fZ n a=some l->fZ n (a++b)=some (l++b)
 |0,a,b,l,h=>by simp only [fZ,aHe] at h ⊢; rw [h]
 |n+1,[],b,l,h=>by simp [fZ] at h
 |n+1,x::a,b,l,h=>by simp only [fZ,aHM] at h ⊢; exact OU h
theorem L6 {α:Type}: ∀{n:Nat} {a b l:List α},kR n a=some l->kR n (a++b)=some l
 |0,a,b,l,h=>by simp only [kR] at h ⊢; exact h
 |n+1,[],b,l,h=>by simp [kR] at h
 |n+1,x::a,b,l,h=>by
  simp only [kR,aHM] at h ⊢;split at h
  ·rename_i l' hl;rw [L6 hl];exact h
  ·simp at h
theorem Tt {α:Type}: ∀{a b:Nat} {l m:List α},fZ a l=some m->fZ (a+b) l=fZ b m
 |0,b,l,m,h=>by simp only [fZ,aHe] at h; subst h; rw [aHn]
 |a+1,b,[],m,h=>by simp [fZ] at h
 |a+1,b,x::l,m,h=>by rw [show a+1+b=(a+b)+1 by omega];simp only [fZ] at h ⊢;exact Tt h
noncomputable def bV (ρ:Nat->Int) (e:SE) (t:Nat) (ov:List (SE×List AV)):List AV:=aK ρ (rowOf t) ov (dec (e.den ρ)).l 0
theorem OR.vG {h:Array Obj} {id:Nat} {e:SE} {t:Nat} {ty:TypeId} {ov:List (SE×List AV)}:OR E h id (.vec e t ty ov)↔(BR (rowOf t) ov/\Dl (rowOf t) (dec (e.den E.ρ)))/\OR E h id (.cells (bV E.ρ e t ov) ty):=by simp only [OR,bV]
theorem bG.vG [Glob] {H:Hp} (r:bG E H w) {id:Nat} {e:SE} {t:Nat} {ty:TypeId} {ov:List (SE×List AV)} (hl:H.get id=some (.vec e t ty ov)):bG E (H.put id (.cells (bV E.ρ e t ov) ty)) w/\BR (rowOf t) ov/\Dl (rowOf t) (dec (e.den E.ρ)):=by obtain⟨h1,h2⟩:=OR.vG.1 (r.live id _ hl).2.1;exact⟨r.swap hl h2 (by rw [Hp.get_put,aHd rfl]) (fun j hj=>by rw [Hp.get_put,aHc hj]) rfl rfl,h1⟩
theorem ET {h:Array Obj} {r:Row} {x y:SE} (hd:dec (x.den E.ρ)=dec (y.den E.ρ)) {us:List Value}:bT E h (jP r x) us↔bT E h (jP r y) us:=by rw [iO,iO,hd]
theorem asH [Glob] {H:Hp} (r:bG E H w) {id:Nat} {e i:SE} {t:Nat} {ty:TypeId} {ov:List (SE×List AV)} (hl:H.get id=some (.vec e t ty ov)) {k:Nat} (hi:i.den E.ρ=(k:Int)) (hk:(k:Int)<(dY e).den E.ρ)
 {pc:List (SB×Bool)} (hp:bK E.ρ pc) {cs:List AV} (hc:tX pc (jP (rowOf t) (.op .at e i)) i ov=some cs) :
 ∃pre row post,bV E.ρ e t ov=pre++(row++post)/\pre.length=k*(rowOf t).es/\row.length=(rowOf t).es/\(∀h us,bT E h row us↔bT E h cs us)/\cs.length=(rowOf t).es:=by
 obtain⟨_,ho,hwf⟩:=r.vG hl;rw [bW] at hk;have hlt:k<(dec (e.den E.ρ)).l.length:=by omega
 have hd:(dec (e.den E.ρ)).l[k]?=some (dec (e.den E.ρ)).l[k]:=aHu hlt;obtain⟨h1,h2⟩:=lY (ρ:=E.ρ) ho (j:=0) hd;refine⟨_,_,_,h1,h2,?_⟩;rw [aHn];rcases tV hp hi hc with h3|⟨h3,rfl⟩
 ·rw [h3];obtain⟨p,p1,p2,_⟩:=oK h3;have:=ho p p1;rw [p2] at this;exact⟨this,fun h us=>Iff.rfl,this⟩
 ·rw [h3];refine⟨jV _ _,fun h us=>ET ?_,jV _ _⟩;rw [Ju E.ρ e i hi hd];simp only [SE.den,aC]
theorem ahB {i:TI} {l m:List AV} {v:AV} (h:partOf i l=some v):partOf i (l++m)=some v:=by
 unfold partOf at h ⊢;split at h
 ·rename_i ha;rw [aHy] at h;obtain⟨l',h1,rfl⟩:=h;rw [L6 h1];rfl
 ·split at h
  ·simp only [aHe] at h;subst h;rfl
  ·simp at h
theorem Sz [Glob] {tt:TT} (htt:fE P tt) {H:Hp} (r:bG E H w) {id:Nat} {cs:List AV} {e:TypeId} (hl:H.get id=some (.cells cs e)) {ty:Nat} {ti:TI} (hti:tt ty=some ti) {off:Nat} {l:List AV} (hd:fZ off cs=some l) {v:AV} (hv:partOf ti l=some v) :
 ∃x,(loadVar ty ⟨(E.θ id).1,(E.θ id).2+off,none⟩).run P w= .ok x w/\VR E w.heap v x:=by
 have hld:Jl tt ty (.ptr id off) H=some v:=by
  unfold Jl partOf at *;rw [hti];simp only [rD,hl,hd];split at hv
  ·exact hv
  ·split at hv
   ·simp only [aHe] at hv;subst hv;rfl
   ·simp at hv
 have hid:=(r.live id _ hl).1;obtain⟨x,b,o,h1,h2,h3⟩:=Jk htt r (p:=.ptr id off) (u:=.pointer (some ⟨(E.θ id).1,(E.θ id).2+off,none⟩)) (by simp only [VR]; exact⟨trivial,hid⟩) hld;simp only [Value.pointer.injEq,aHe,Addr.mk.injEq] at h1;obtain⟨rfl,rfl,_⟩:=h1;exact⟨x,h2,h3⟩
theorem NV {k:IntKind}: ∀{cs:List AV} {ds:List D},NW k cs=some ds->ds.length=cs.length/\∀(i:Nat),i<cs.length->∃n,ds[i]?=some (.i n)/\cs[i]?=some (.int k (.lit n))
 |[],ds,h=>by simp only [NW,aHe] at h;subst h;exact⟨rfl,fun i hi=>by simp at hi⟩
 |v::vs,ds,h=>by
  simp only [NW] at h;split at h
  ·split at h
   ·rename_i k' n;split at h
    ·rename_i hk;subst hk;split at h
     ·rename_i ds' hds;simp only [aHe] at h;subst h;obtain⟨h1,h2⟩:=NV hds;refine⟨by simp [h1],fun i hi=>?_⟩
      cases i with
      |zero=>exact⟨n,rfl,rfl⟩
      |succ i=>exact h2 i (by simpa using hi)
     ·simp at h
    ·simp at h
   ·simp at h
  ·simp at h
theorem Jq {α:Type}: ∀{i:Nat} {cs:List α} {a:α},cs[i]?=some a->∃l,fZ i cs=some (a::l)
 |0,[],a,h=>by simp at h
 |0,c::cs,a,h=>by simp only [aHA,aHe] at h; subst h; exact⟨cs,rfl⟩
 |i+1,[],a,h=>by simp at h
 |i+1,c::cs,a,h=>Jq (cs:=cs) (by simpa using h)
theorem XM {ρ:Nat->Int} {s s':St} {cs:List AV} {e:SE} {v:AV} (hp:bK ρ s.pc) (h:(Td s cs e).leaf ρ=some (v,s')) :
 s'.slots=s.slots/\s'.h=s.h/\bK ρ s'.pc/\∃(i:Nat) (k:IntKind) (n:Int) (x:SE),e.den ρ=(i:Int)/\i<cs.length/\cs[i]?=some (.int k (.lit n))/\v= .int k x/\x.den ρ=n:=by
 unfold Td at h;split at h
 ·simp [T.leaf] at h
 ·rename_i k hk;split at h
  ·simp [T.leaf] at h
  ·rename_i ds hds;obtain⟨h1,h2⟩:=NV hds;obtain⟨pc',hp',g1,g2,g3⟩:=sQ hp h;simp only [T.leaf,aHe,aHf] at g3;obtain⟨rfl,rfl⟩:=g3;have g2':e.den ρ<(ds.length:Int):=by simpa [SE.den] using g2
   have hi:e.den ρ=((e.den ρ).toNat:Int):=by omega
   have hlt:(e.den ρ).toNat<cs.length:=by omega
   obtain⟨n,d1,d2⟩:=h2 _ hlt;refine⟨rfl,rfl,hp',_,k,n,_,hi,hlt,d2,rfl,?_⟩;simp only [IG,SE.den,jC.den,aC,D.at,aA,d1,aHl,D.n]
theorem aaJ [Glob] {tt:TT} (htt:fE P tt) {s s':St} (r:bG E s.h w) (hp:bK E.ρ s.pc) {ty id es:Nat} {i:SE} {off:Nat} {v:AV} {u:Value} (hx:VR E w.heap (.qV id es i off) u) (h:(G6 tt s ty id es i off).leaf E.ρ=some (v,s')) :
 s'.slots=s.slots/\s'.h=s.h/\bK E.ρ s'.pc/\∃x b o,u= .pointer (some ⟨b,o,none⟩)/\(loadVar ty ⟨b,o,none⟩).run P w= .ok x w/\VR E w.heap v x:=by
 unfold G6 at h;split at h
 ·rename_i o hl;split at h
  ·rename_i cs ety;split at h
   ·rename_i ti hti;split at h
    ·simp [T.leaf] at h
    ·rename_i hb;simp only [Bool.or_eq_false_iff,Bool.not_eq_false'] at hb;have hes:=aHj hb.1.2;have hof:=aHj hb.2;subst hes hof;obtain⟨h1,h2,h3,k,kd,n,x,g1,g2,g3,rfl,g5⟩:=XM hp h;refine⟨h1,h2,h3,?_⟩;simp only [VR] at hx;obtain⟨hid,k',hk,rfl⟩:=hx;have hkk:k'=k:=by omega
     subst hkk;obtain⟨l,hd⟩:=Jq g3;obtain⟨y,q1,q2⟩:=Sz (P:=P) htt r hl hti hd (v:=.int kd (.lit n)) (by unfold partOf; rw [hb.1.1]);refine⟨y,_,_,rfl,by rw [aIT,aHJ]; exact q1,?_⟩;simp only [VR,SE.den] at q2 ⊢;rw [q2,g5]
   ·simp [T.leaf] at h
  ·rename_i e t Iu ov;split at h
   ·rename_i ti hti;split at h
    ·rename_i hes;obtain⟨pc0,hp0,h1,h2,h3⟩:=sQ hp h;obtain⟨pc',hp',h3⟩:=Dw (s:={ s with pc:=pc0 }) hp0 h3;split at h3
     ·rename_i cs hc;split at h3
      ·rename_i l hdr;obtain⟨e1,rfl⟩:=lI h3;refine⟨rfl,rfl,hp',?_⟩;simp only [VR] at hx;obtain⟨hid,k,hk,rfl⟩:=hx;obtain⟨pre,row,post,c1,c2,c3,c4,c5⟩:=asH r hl hk (by rw [<- hk]; exact h2) hp' hc;obtain⟨rc,ho,hwf⟩:=r.vG hl
       have hrow:OR E w.heap id (.cells (pre++(cs++post)) Iu):=by have:=(rc.live id _ (by rw [Hp.get_put,aHd rfl])).2.1;rw [c1] at this;simp only [OR] at this ⊢;obtain⟨arr,lo,hi,us,q1,q2,q3,q4,q5,q6,q7⟩:=this;refine⟨arr,lo,hi,us,q1,?_,q3,by simp only [aHC,c3,c5] at q4 ⊢; exact q4,q5,q6,q7⟩;obtain⟨a,b,rfl,a1,a2⟩:=q2.split;obtain⟨a',b',rfl,b1,b2⟩:=a2.split;exact a1.append (((c4 _ _).1 b1).append b2)
       have r2:=r.swap (H2:=s.h.put id (.cells (pre++(cs++post)) Iu)) hl hrow (by rw [Hp.get_put,aHd rfl]) (fun j hj=>by rw [Hp.get_put,aHc hj]) rfl rfl
       have aGE:fZ (k*es+off) (pre++(cs++post))=some (l++post):=by rw [Tt (m:=cs++post) (by rw [<- hes,<- c2]; exact Au pre _)];exact OU hdr
       obtain⟨x,g1,g2⟩:=Sz htt r2 (by rw [Hp.get_put,aHd rfl]) hti aGE (ahB e1);exact⟨x,_,_,rfl,g1,g2⟩
      ·simp [T.leaf] at h3
     ·simp [T.leaf] at h3
    ·simp [T.leaf] at h
   ·simp [T.leaf] at h
  ·simp [T.leaf] at h
 ·simp [T.leaf] at h
end
end Go.As
end

import GoSem.Claim
import Derived.Orders
import Derived.Scope
import Derived.LoopN
import Derived.Below
import GoSem.Core.View
import GoSem.Core.Layout
import GoSem.Op.Equal
import Derived.WalkKit
import Derived.Lib.Strings
import Derived.Laws.IdiomStrings
import Derived.Laws.RangeString
import Derived.Laws.StructEq
set_option linter.unusedSectionVars false
set_option linter.unusedVariables false
set_option linter.unusedSimpArgs false
abbrev ah:=@if_neg
abbrev ak:=@if_pos
abbrev an:=@Option.some.injEq
abbrev aq:=@Prod.mk.injEq
abbrev au:=@Bool.and_eq_true
abbrev aw:=@List.nil_append
abbrev ax:=@Option.getD_some
abbrev ay:=@Nat.le_refl
abbrev az:=@Nat.eq_of_beq_eq_true
abbrev aA:=@List.length_nil
abbrev aC:=@Bool.false_eq_true
abbrev aF:=@List.mem_cons
abbrev aG:=@List.getElem_mem
abbrev aH:=@List.map_cons
abbrev aK:=@Nat.zero_add
abbrev aL:=@List.getElem?_cons_zero
abbrev aM:=@List.getElem?_cons_succ
abbrev aN:=@Option.isSome_some
abbrev aO:=@Int.lt_irrefl
abbrev aP:=@Int.natCast_zero
abbrev aQ:=@List.length_cons
abbrev aR:=@Option.getD_none
abbrev aT:=@List.getElem?_eq_getElem
abbrev aW:=@List.cons_append
abbrev aX:=@Int.toNat_natCast
abbrev aY:=@Option.isSome_none
abbrev aZ:=@Option.map_eq_some_iff
abbrev a8:=@List.length_append
abbrev bd:=@List.mem_map
abbrev bg:=@Nat.lt_or_ge
abbrev bh:=@List.length_take
abbrev bj:=@List.all_eq_true
abbrev bk:=@List.getElem?_eq_some_iff
abbrev bn:=@Int.natCast_one
abbrev bo:=@Array.length_toList
abbrev bp:=@List.getElem?_map
abbrev bq:=@Nat.le_trans
abbrev br:=@List.length_drop
abbrev bu:=@List.length_map
abbrev bw:=@Nat.add_zero
abbrev amm:=@List.mem_of_getElem?
abbrev amn:=@List.mem_of_mem_drop
abbrev amo:=@List.mem_of_mem_take
abbrev amp:=@Array.getElem?_toList
abbrev amq:=@Nat.add_assoc
abbrev amr:=@List.drop_eq_getElem_cons
abbrev ams:=@Nat.zero_mul
abbrev amt:=@List.mem_append
abbrev amu:=@Option.map_some
abbrev amv:=@List.eq_nil_of_length_eq_zero
abbrev amw:=@List.not_mem_nil
abbrev amx:=@Nat.add_mul
abbrev amy:=@List.append_nil
abbrev amz:=@Nat.le_succ
abbrev amA:=@Bool.eq_iff_iff
abbrev amB:=@List.mem_range
abbrev amC:=@Nat.le_of_ble_eq_true
abbrev amD:=@Array.getElem?_eq_some_iff
abbrev amE:=@List.take_append_drop
abbrev amF:=@List.take_length
abbrev amG:=@Nat.mod_eq_of_lt
abbrev amH:=@Nat.lt_of_lt_of_le
abbrev amI:=@List.length_pos_iff
abbrev amJ:=@Bool.not_eq_true'
abbrev amK:=@List.map_append
abbrev amL:=@List.nodup_cons
abbrev amM:=@List.mem_filter
abbrev amN:=@UInt8.toNat_ofNat'
abbrev amO:=@Nat.mul_le_mul_right
abbrev amP:=@List.drop_zero
abbrev amQ:=@List.take_succ_cons
abbrev amR:=@Nat.zero_le
abbrev amS:=@Option.isSome_iff_exists
abbrev amT:=@List.length_replicate
abbrev amU:=@List.map_map
abbrev amV:=@List.getElem?_drop
abbrev amW:=@List.getElem?_take
abbrev amX:=@Array.getD_eq_getD_getElem?
abbrev amY:=@Bool.or_eq_true
abbrev amZ:=@Int.not_lt
abbrev am0:=@Nat.eq_zero_or_pos
abbrev am1:=@Int.le_refl
abbrev am2:=@Nat.one_mul
abbrev am3:=@List.set_cons_zero
abbrev am4:=@List.set_cons_succ
abbrev am5:=@Bool.eq_false_iff
abbrev am6:=@List.take_of_length_le
abbrev am7:=@List.getElem_of_mem
abbrev am8:=@List.getElem?_eq_none
abbrev am9:=@Array.getElem?_replicate
abbrev ana:=@Nat.blt_eq
abbrev anb:=@List.getElem?_nil
abbrev anc:=@List.map_congr_left
abbrev ane:=@List.mem_iff_getElem?
abbrev anf:=@Nat.ne_of_beq_eq_false
abbrev ang:=@Int.tmod_lt_of_pos
abbrev anh:=@List.mapM_cons
abbrev ani:=@List.append_assoc
abbrev anj:=@List.getElem?_eq_none_iff
abbrev ank:=@Nat.mul_pos
abbrev anl:=@List.nodup_append
abbrev anm:=@Bool.false_or
abbrev ann:=@List.take_take
abbrev ano:=@Nat.ble_eq_true_of_le
abbrev anp:=@List.getElem?_range
abbrev anq:=@List.mem_cons_of_mem
abbrev anr:=@List.eraseIdx_eq_take_drop_succ
abbrev ans:=@Nat.pow_succ
abbrev ant:=@Int.ofNat_inj
abbrev anu:=@List.ext_getElem?
abbrev anv:=@Option.bind_eq_some_iff
abbrev anw:=@Bool.or_false
abbrev anx:=@List.map_take
abbrev anz:=@List.map_drop
abbrev anA:=@List.foldlM_cons
abbrev anB:=@Nat.mul_one
abbrev anC:=@List.length_set
abbrev anD:=@Int.ofNat_lt
abbrev anE:=@List.eq_nil_iff_forall_not_mem
abbrev anF:=@List.getElem?_of_mem
abbrev anG:=@Bool.not_true
abbrev anH:=@List.getD_eq_getElem?_getD
abbrev anI:=@List.drop_of_length_le
abbrev anJ:=@List.all_append
abbrev anK:=@List.mem_append_right
abbrev anL:=@Nat.min_self
abbrev anM:=@Nat.pow_zero
abbrev anN:=@Nat.mul_comm
abbrev anO:=@Option.bind_eq_bind
abbrev anP:=@List.getElem?_append
abbrev anQ:=@Nat.mul_le_mul
abbrev anR:=@List.eraseIdx_cons_succ
abbrev anS:=@Array.toList_map
abbrev anT:=@Nat.le_of_mul_le_mul_right
abbrev anU:=@List.drop_succ_cons
abbrev anV:=@List.getElem?_append_right
abbrev anW:=@List.take_set_of_le
abbrev anX:=@List.drop_set_of_lt
abbrev anY:=@Nat.div_mul_le_self
abbrev anZ:=@List.mem_singleton
abbrev an0:=@List.replicate_succ
abbrev an1:=@Nat.lt_trichotomy
abbrev an2:=@List.map_nil
abbrev an3:=@Array.mem_of_getElem?
abbrev an4:=@List.length_reverse
abbrev an5:=@Nat.min_eq_left
abbrev an6:=@List.getElem?_toArray
abbrev an7:=@Array.getElem?_eq_none
abbrev an8:=@Array.getElem?_setIfInBounds
abbrev an9:=@List.any_eq_true
abbrev aoa:=@List.drop_drop
abbrev aob:=@Nat.add_sub_cancel_left
abbrev aoc:=@Nat.sub_zero
abbrev aod:=@List.take_succ_eq_append_getElem
abbrev aoe:=@List.mem_append_left
abbrev aof:=@List.mem_cons_self
abbrev aog:=@Array.getElem?_modify
abbrev aoh:=@Array.getElem?_append_left
abbrev aoi:=@List.getElem?_append_left
abbrev aoj:=@List.drop_eq_nil_of_le
abbrev aok:=@List.eq_of_mem_replicate
abbrev aol:=@Array.mapM_eq_mapM_toList
abbrev aom:=@Array.getElem?_eq_none_iff
abbrev aon:=@Array.getElem?_eq_getElem
abbrev aoo:=@List.contains_iff_mem
abbrev aop:=@List.getElem_set_self
abbrev aoq:=@Nat.add_right_cancel_iff
abbrev aor:=@List.take_append_of_le_length
theorem J{P:Prop}(h:P:=by omega):P:=h
theorem aa{P:Prop}(h:P:=by kernel_rfl):P:=h
theorem ad{P:Prop}(h:P:=by simp):P:=h
theorem ae{P:Prop}(h:P:=by decide):P:=h
section
namespace Go.As
inductive Tr (α:Type) where
 |nil
 |node (v:Option α) (l r:Tr α)
 deriving Inhabited
noncomputable def Tr.get {α:Type} (t:Tr α) (k:Nat):Option α:=
 Tr.rec (motive:=fun _=>Nat->Option α) (fun _=>none)
  (fun v _ _ il ir k=>Nat.rec (motive:=fun _=>Option α) v (fun k' _=>Bool.rec (motive:=fun _=>Option α) (ir (Nat.div k' 2)) (il (Nat.div k' 2)) (Nat.beq (Nat.mod k' 2) 0)) k) t k
def Tr.val {α:Type}:Tr α->Option α
 | .nil=>none
 | .node v _ _=>v
def Tr.left {α:Type}:Tr α->Tr α
 | .nil=> .nil
 | .node _ l _=>l
def Tr.right {α:Type}:Tr α->Tr α
 | .nil=> .nil
 | .node _ _ r=>r
noncomputable def Tr.mkL {α:Type} (v:Option α) (x r:Tr α):Tr α:=Tr.rec (motive:=fun _=>Tr α) (.node v .nil r) (fun a b c _ _=> .node v (.node a b c) r) x
noncomputable def Tr.mkR {α:Type} (v:Option α) (l x:Tr α):Tr α:=Tr.rec (motive:=fun _=>Tr α) (.node v l .nil) (fun a b c _ _=> .node v l (.node a b c)) x
noncomputable def Tr.T9 {α:Type} (f:Nat):Tr α->Nat->Option α->Tr α:=
 Nat.rec (motive:=fun _=>Tr α->Nat->Option α->Tr α) (fun t _ _=>t)
  (fun _ ih t k x=>Tr.rec (motive:=fun _=>Tr α)
   (Nat.rec (motive:=fun _=>Tr α) (.node x .nil .nil) (fun k' _=>Bool.rec (motive:=fun _=>Tr α) (Tr.mkR none .nil (ih .nil (Nat.div k' 2) x)) (Tr.mkL none (ih .nil (Nat.div k' 2) x) .nil) (Nat.beq (Nat.mod k' 2) 0)) k)
   (fun v l r _ _=>Nat.rec (motive:=fun _=>Tr α) (.node x l r) (fun k' _=>Bool.rec (motive:=fun _=>Tr α) (Tr.mkR v l (ih r (Nat.div k' 2) x)) (Tr.mkL v (ih l (Nat.div k' 2) x) r) (Nat.beq (Nat.mod k' 2) 0)) k) t) f
noncomputable def Tr.put {α:Type} (t:Tr α) (k:Nat) (v:Option α):Tr α:=Tr.T9 (Nat.succ k) t k v
theorem aa5 (a b:Nat):Nat.beq a b=decide (a=b):=by rw [amA];simp
theorem CM {β:Sort _} (a b:β) (c:Nat):Bool.rec (motive:=fun _=>β) a b (Nat.beq c 0)=if c=0 then b else a:=by
 by_cases h:c=0
 ·subst h; rfl
 ·rw [ah h];have:Nat.beq c 0=false:=by rw [aa5]; simpa using h
  rw [this]
theorem Tr.oI {α:Type} (v:Option α) (l r:Tr α) (k:Nat) :
 (Tr.node v l r).get k=if k=0 then v else if (k-1) % 2=0 then l.get ((k-1) / 2) else r.get ((k-1) / 2):=by
 cases k with
 |zero=>rfl
 |succ k=> simp only [Nat.add_sub_cancel,Nat.succ_ne_zero,if_false];exact CM _ _ _
theorem Tr.wZ {α:Type} (t:Tr α) (k:Nat) :
 t.get k=if k=0 then t.val else if (k-1) % 2=0 then t.left.get ((k-1) / 2) else t.right.get ((k-1) / 2):=by
 cases t with
 |nil=> have h: ∀j,(Tr.nil:Tr α).get j=none:=fun _=>rfl;simp [h,Tr.val,Tr.left,Tr.right]
 |node v l r=>rw [Tr.oI]; rfl
theorem Tr.aeO {α:Type} (v:Option α) (x r:Tr α):Tr.mkL v x r= .node v x r:=by cases x<;>rfl
theorem Tr.aeN {α:Type} (v:Option α) (l x:Tr α):Tr.mkR v l x= .node v l x:=by cases x<;>rfl
theorem Tr.T7 {α:Type} (f:Nat) (t:Tr α) (v:Option α):Tr.T9 (f+1) t 0 v= .node v t.left t.right:=by cases t<;>rfl
theorem Tr.T8 {α:Type} (f:Nat) (t:Tr α) (k:Nat) (v:Option α):Tr.T9 (f+1) t (k+1) v=if k % 2=0 then .node t.val (Tr.T9 f t.left (k / 2) v) t.right else .node t.val t.left (Tr.T9 f t.right (k / 2) v):=by rw [<- Tr.aeO,<- Tr.aeN];cases t<;>exact CM _ _ _
theorem Tr.YV {α:Type}: ∀(f:Nat) (t:Tr α) (k:Nat) (v:Option α) (j:Nat),k<f->(Tr.T9 f t k v).get j=if j=k then v else t.get j:=by
 intro f
 induction f with
 |zero=>intro t k v j hk; omega
 |succ f ih=>
  intro t k v j hk
  cases k with
  |zero=> rw [Tr.T7,Tr.oI,Tr.wZ t];split<;>simp_all
  |succ k=>
   rw [Tr.T8,Tr.wZ t j];split
   ·rename_i h;rw [Tr.oI];by_cases hj:j=0
    ·subst hj; simp
    ·rw [ah hj,ah hj];by_cases Z:(j-1) % 2=0
     ·rw [ak Z,ak Z,ih _ _ _ _ J];by_cases h3:j=k+1
      ·subst h3; simp
      ·rw [ah h3,ah J]
     ·rw [ah Z,ah Z,ah (by intro h3; subst h3; simp at Z; omega)]
   ·rename_i h;rw [Tr.oI];by_cases hj:j=0
    ·subst hj; simp
    ·rw [ah hj,ah hj];by_cases Z:(j-1) % 2=0
     ·rw [ak Z,ak Z,ah (by intro h3; subst h3; simp at Z; omega)]
     ·rw [ah Z,ah Z,ih _ _ _ _ J];by_cases h3:j=k+1
      ·subst h3; simp
      ·rw [ah h3,ah J]
theorem Tr.bU {α:Type} (t:Tr α) (k:Nat) (v:Option α) (j:Nat):(t.put k v).get j=if j=k then v else t.get j:=
 Tr.YV (Nat.succ k) t k v j (Nat.lt_succ_self _)
inductive D where
 |i (n:Int)
 |p (a b:D)
 deriving DecidableEq,Inhabited
def zN:Int->Nat
 | .ofNat n=>2*n
 | .negSucc n=>2*n+1
theorem V6 {a b:Int} (h:zN a=zN b):a=b:=by
 cases a<;>cases b<;>simp only [zN] at h
 all_goals grind
def pj (a b:Nat):Nat:=2 ^ a*(2*b+1)
theorem Bl: ∀{a a' b b':Nat},pj a b=pj a' b'->a=a'/\b=b'
 |0,0,b,b',h=>by simp only [pj,anM,am2] at h; omega
 |0,a'+1,b,b',h=>by
  simp only [pj,anM,am2,ans] at h
  grind
 |a+1,0,b,b',h=>by
  simp only [pj,anM,am2,ans] at h
  grind
 |a+1,a'+1,b,b',h=>by
  have U:2 ^ (a+1)*(2*b+1)=2*pj a b:=by unfold pj; rw [ans,anN (2 ^ a) 2,Nat.mul_assoc]
  have Z:2 ^ (a'+1)*(2*b'+1)=2*pj a' b':=by unfold pj; rw [ans,anN (2 ^ a') 2,Nat.mul_assoc]
  have h3:pj a b=pj a' b':=by
   have:pj (a+1) b=pj (a'+1) b':=h;unfold pj at this
   grind
  obtain⟨e1,e2⟩:=Bl h3
  grind
def D.enc:D->Nat
 | .i n=>2*zN n
 | .p a b=>2*pj a.enc b.enc+1
theorem D.fg: ∀{a b:D},a.enc=b.enc->a=b
 | .i n,.i m,h=>by simp only [D.enc] at h;rw [V6 (a:=n) (b:=m) J]
 | .i n,.p a b,h=>by simp only [D.enc] at h; omega
 | .p a b,.i n,h=>by simp only [D.enc] at h; omega
 | .p a b,.p c d,h=>by simp only [D.enc] at h;obtain⟨U,Z⟩:=Bl (a:=a.enc) (b:=b.enc) (a':=c.enc) (b':=d.enc) J;rw [D.fg U,D.fg Z]
open Classical in
noncomputable def dec (z:Int):D:=if h: ∃d:D,(d.enc:Int)=z then h.choose else .i 0
def enc (d:D):Int:=(d.enc:Int)
theorem bC (d:D):dec (enc d)=d:=by unfold dec;have h: ∃d':D,(d'.enc:Int)=enc d:=⟨d,rfl⟩;rw [dif_pos h];have:=h.choose_spec;apply D.fg;unfold enc at this;exact Int.ofNat.inj this
theorem fg {a b:D} (h:enc a=enc b):a=b:=by rw [<- bC a,h,bC]
def D.n:D->Int
 | .i n=>n
 | .p _ _=>0
def D.l:D->List D
 | .i _=>[]
 | .p a b=>a::b.l
def dL:List D->D
 |[]=> .i 0
 |a::l=> .p a (dL l)
@[simp] theorem bD: ∀l:List D,(dL l).l=l
 |[]=>rfl
 |a::l=>by simp [dL,D.l,bD l]
theorem BT {a b:List D} (h:dL a=dL b):a=b:=by rw [<- bD a,h,bD]
def D.at (d:D) (i:Int):D:=(d.l[i.toNat]?).getD (.i 0)
def D.hd (d:D) (j:Nat):D:=(d.l[j]?).getD (.i 0)
def qA (l:List UInt8):D:=dL (l.map fun b=> .i (b.toNat:Int))
def uD (s:ByteArray):D:=qA s.data.toList
def lU (l:List Nat):D:=dL (l.map fun b=> .i (Int.ofNat b))
theorem PF {a b:List UInt8} (h:qA a=qA b):a=b:=by
 have:=BT h
 have Md: ∀{x y:UInt8},(D.i (x.toNat:Int))= .i (y.toNat:Int)->x=y:=by intro x y h;simp only [D.i.injEq,ant] at h;exact UInt8.toNat_inj.1 h
 induction a generalizing b with
 |nil=>cases b with
  |nil=>rfl
  |cons y b=>simp at this
 |cons x a ih=>cases b with
  |nil=>simp at this
  |cons y b=> simp only [aH,List.cons.injEq] at this;rw [Md this.1,ih (by unfold qA; rw [this.2]) this.2]
theorem FJ {a b:ByteArray} (h:uD a=uD b):a=b:=by
 have:=PF h
 cases a with
 |mk x=>cases b with
  |mk y=>simp only [ByteArray.mk.injEq] at *; exact Array.toList_inj.1 this
theorem AB (l:List Nat) (h: ∀b∈l,b<256):lU l=qA (l.map UInt8.ofNat):=by unfold lU qA;congr 1;rw [amU];apply anc;intro b hb;have:=h b hb;simp [amG this]
theorem g_ (s:ByteArray):(uD s).l.length=s.size:=by unfold uD qA;rw [bD,bu];rfl
inductive fT where
 |len
 |at
 |cell (j:Nat)
 |num
 |mk
 |cons
 |snoc
 |cat
 |take
 |drop
 |set
 |bit
 |norm
 |sub
 |fill
 |idx
 |cnt
 |con
 |slt
 |OE
 |Gq
 |zD
 |Gt
 |rep
 deriving DecidableEq,Inhabited
def bR (d:D) (l:List D):D:=match l with
 |[]=>if d= .i 1 then .i 1 else .i 2
 |l=>dL l
theorem bN (d:D) (l:List D):(bR d l).l=l:=by
 cases l with
 |nil=>simp only [bR]; split<;>rfl
 |cons a l=>simp [bR]
theorem wa {d:D} {l:List D} (h:l≠[]):bR d l=dL l:=by
 cases l with
 |nil=>exact absurd rfl h
 |cons a l=>rfl
theorem pN {d:D} (h:d≠.i 1):bR d []= .i 2:=by
 show (if d= .i 1 then D.i 1 else D.i 2)= .i 2
 grind
theorem UX {d:D} (h:d≠.i 1) (l:List D):bR d l≠.i 1:=by
 cases l with
 |nil=>rw [pN h]; simp
 |cons a l=>simp [bR,dL]
theorem yJ {d:D} {l m:List D} (h:d= .i 1->l= []):bR (bR d l) m=bR d m:=by
 cases m with
 |cons a m=>rfl
 |nil=>
  by_cases U:d= .i 1
  ·rw [h U,U]; rfl
  ·rw [pN U,pN (UX U l)]
def rC (z:Int):List D->Int->Int
 |[],_=> -1
 |d::l,i=>match d with
  | .i n=>if n=z then i else rC z l (i+1)
  |_=>rC z l (i+1)
def FN (l:List D) (z:Int):Int:=rC z l 0
def PE:List D->List D->Bool
 |[],_=>true
 |_::_,[]=>false
 |a::x,b::y=>decide (a=b)&&PE x y
def UZ (l x:List D):Bool:=match l with
 |[]=>PE x []
 |a::l=>PE x (a::l)||UZ l x
def i! (l:List D) (z:Int):Int:=match l with
 |[]=>0
 |d::l=>(if d= .i z then 1 else 0)+i! l z
def MU:List D->List D->Bool
 |[],[]=>false
 |[],_::_=>true
 |_::_,[]=>false
 |a::x,b::y=>if a.n<b.n then true else if b.n<a.n then false else MU x y
def fI (ds:List D) (z:Int) (x:D):List D:=if z<0 then ds else ds.set z.toNat x
theorem fY (ds:List D) (z:Int) (x:D):(fI ds z x).length=ds.length:=by
 unfold fI; split
 all_goals grind
theorem sH (ds:List D) (k:Nat) (x:D):fI ds (k:Int) x=ds.set k x:=by unfold fI; rw [ah J]; rfl
def jl:D->D
 | .p k _=>k
 |d=>d
def Gx:D->D
 | .p _ v=>v
 |d=>d
def dj:List D->D->Option D
 |[],_=>none
 |d::l,k=>if jl d=k then some (Gx d) else dj l k
def jS:List D->D->D->List D
 |[],k,v=>[.p k v]
 |d::l,k,v=>if jl d=k then .p k v::l else d::jS l k v
def zF:List D->D->List D
 |[],_=>[]
 |d::l,k=>if jl d=k then l else d::zF l k
noncomputable def fT.den (o:fT) (x y:Int):Int:=match o with
 | .len=>((dec x).l.length:Int)
 | .at=>enc ((dec x).at y)
 | .cell j=>enc ((dec x).hd j)
 | .num=>(dec x).n
 | .mk=>enc (.i x)
 | .cons=>enc (.p (dec x) (dec y))
 | .snoc=>enc (dL ((dec x).l++ [dec y]))
 | .cat=>enc (dL ((dec x).l++(dec y).l))
 | .take=>enc (bR (dec x) ((dec x).l.take y.toNat))
 | .drop=>enc (bR (dec x) ((dec x).l.drop y.toNat))
 | .set=>match dec y with
   | .p q v=>enc (dL (fI (dec x).l q.n v))
   |_=>x
 | .bit=>enc (.i (if (dec x).n=0 then 0 else 1))
 | .norm=>enc (dec x)
 | .sub=>enc (dL (((dec x).l.take ((dec y).hd 1).n.toNat).drop ((dec y).hd 0).n.toNat))
 | .fill=>match dec y with
   | .p q v=>enc (dL ((dec x).l.take q.n.toNat++List.replicate ((dec x).l.length-q.n.toNat) v))
   |_=>x
 | .idx=>FN (dec x).l y
 | .cnt=>i! (dec x).l y
 | .con=>if UZ (dec x).l (dec y).l then 1 else 0
 | .slt=>if MU (dec x).l (dec y).l then 1 else 0
 | .OE=>if (dj (dec x).l (dec y)).isSome then 1 else 0
 | .Gq=>enc ((dj (dec x).l (dec y)).getD (.i 0))
 | .zD=>match dec y with
   | .p k v=>enc (dL (jS (dec x).l k v))
   |_=>x
 | .Gt=>enc (dL (zF (dec x).l (dec y)))
 | .rep=>enc (dL (List.replicate x.toNat (dec y)))
def fT.tag:fT->Nat
 | .len=>0
 | .at=>1
 | .cell j=>j+23
 | .num=>2
 | .mk=>3
 | .cons=>4
 | .snoc=>5
 | .cat=>6
 | .take=>7
 | .drop=>8
 | .set=>9
 | .bit=>10
 | .norm=>11
 | .sub=>12
 | .fill=>13
 | .idx=>14
 | .cnt=>15
 | .con=>16
 | .slt=>17
 | .OE=>18
 | .Gq=>19
 | .zD=>20
 | .Gt=>21
 | .rep=>22
theorem fT.N! {a b:fT} (h:a.tag=b.tag):a=b:=by
 cases a<;>cases b<;>simp only [fT.tag] at h<;>first |rfl|(congr 1; omega)|omega
inductive CK where
 |int (k:IntKind)
 |bool
 |str
 |sl (t:Nat)
 deriving DecidableEq,Inhabited
inductive Row where
 |one (c:CK)
 |many (cs:List CK)
 deriving DecidableEq,Inhabited
def Row.es:Row->Nat
 | .one _=>1
 | .many cs=>cs.length
def rowOf (t:Nat):Row:=match t with
 |0=> .one (.int .i64)
 |1=> .one (.int .i64)
 |2=> .one .str
 |3=> .many [.int .u8,.str,.int .i64,.str,.int .i64]
 |4=> .many [.str,.sl 2,.sl 5]
 |5=> .many [.int .u8,.int .u8,.int .i64,.int .i64,.int .i64,.int .i64,.sl 6]
 |6=> .many [.int .u8,.str,.int .i64,.sl 6]
 |7=> .many [.int .i64,.int .i64,.bool,.int .i64,.sl 0,.sl 0]
 |8=> .many [.int .i64,.sl 0,.int .u8,.int .i64,.int .i64,.int .i64]
 |9=> .many [.int .i64,.int .u8,.int .i64,.int .i64,.int .i64]
 |10=> .one (.sl 0)
 |11=> .many [.int .i64,.int .i64,.int .i64]
 |12=> .many [.int .i64,.int .i64]
 |13=> .many [.int .i64,.int .u8,.int .i64,.int .i64,.int .i64]
 |14=> .one (.int .u8)
 |15=> .one (.sl 0)
 |16=> .many [.sl 7,.sl 8]
 |_=> .one .bool
def mapOf (t:Nat):CK×CK:=match t with
 |0=>(.int .i64,.int .i64)
 |1=>(.str,.int .i64)
 |2=>(.int .i64,.sl 0)
 |_=>(.int .i64,.bool)
inductive FC where
 |ck (c:CK)
 |own (t:Nat)
 |mp (t:Nat)
 deriving DecidableEq,Inhabited
structure FK where
 ptr:Bool
 cs:List FC
def rz (t:Nat):FK:=match t with
 |0=> ⟨false,[.own 0]⟩
 |1=> ⟨true,[.ck (.int .i64),.mp 0,.ck (.int .i64),.ck (.int .i64),.ck .bool,.own 0]⟩
 |_=> ⟨true,[.ck (.sl 0),.ck (.int .i64),.ck .bool,.ck .bool]⟩
def qK (c:CK) (d:D):Prop:=match c with
 | .int _=>d= .i d.n
 | .bool=>d= .i 0\/d= .i 1
 |_=>True
def KI (cs:List CK) (d:D):Prop:=d=dL d.l/\d.l.length=cs.length/\∀(j:Nat) (c:CK) (x:D),cs[j]?=some c->d.l[j]?=some x->qK c x
def qJ (r:Row) (d:D):Prop:=match r with
 | .one c=>qK c d
 | .many cs=>KI cs d
def tj (r:Row) (d:D):Prop:=d=dL d.l/\(∀x∈d.l,qJ r x)/\d.l≠[]
end Go.As
end
section
namespace Go.As
noncomputable section
inductive V where
 |lit (n:Int)
 |dK (i:Nat)
 |add (a b:V)
 |sub (a b:V)
 |mul (a b:V)
 |quo (a b:V)
 |rem (a b:V)
 |wrap (k:IntKind) (a:V)
 |xK (b:Nat) (e:V)
 |eD (d:D)
 |op (o:fT) (a b:V)
 |ap (f:Nat) (a:V)
 deriving DecidableEq,Inhabited
def jO (f:Nat) (z:Int):Nat:=1000+pj f (zN z)*64+63
noncomputable def V.den (ρ:Nat->Int):V->Int
 | .lit n=>n
 | .dK i=>ρ i
 | .add a b=>a.den ρ+b.den ρ
 | .sub a b=>a.den ρ-b.den ρ
 | .mul a b=>a.den ρ*b.den ρ
 | .quo a b=>(a.den ρ).tdiv (b.den ρ)
 | .rem a b=>(a.den ρ).tmod (b.den ρ)
 | .wrap k a=>k.wrap (a.den ρ)
 | .xK b e=>ρ (1000+(e.den ρ).toNat*64+b)
 | .eD d=>enc d
 | .op o a b=>o.den (a.den ρ) (b.den ρ)
 | .ap f a=>ρ (jO f (a.den ρ))
def vC:Int->Int->Bool
 | .ofNat a,.ofNat b=>Nat.beq a b
 | .negSucc a,.negSucc b=>Nat.beq a b
 |_,_=>false
def D.eqb:D->D->Bool
 | .i a,.i b=>vC a b
 | .p a b,.p c d=>match D.eqb a c with |true=>D.eqb b d|false=>false
 |_,_=>false
theorem wV {a b:Int} (h:vC a b=true):a=b:=by cases a<;>cases b<;>simp [vC] at h<;>rw [h]
theorem D.Px: ∀{a b:D},D.eqb a b=true->a=b
 | .i a,.i b,h=>by simp only [D.eqb] at h; rw [wV h]
 | .p a b,.p c d,h=>by
   simp only [D.eqb] at h;split at h
   ·rename_i U; rw [D.Px U,D.Px h]
   grind
 | .i _,.p _ _,h=>by simp [D.eqb] at h
 | .p _ _,.i _,h=>by simp [D.eqb] at h
def fm:V->V->Bool
 | .lit a,.lit b=>a == b
 | .dK i,.dK j=>Nat.beq i j
 | .add a b,.add c d=>match fm a c with |true=>fm b d|false=>false
 | .sub a b,.sub c d=>match fm a c with |true=>fm b d|false=>false
 | .mul a b,.mul c d=>match fm a c with |true=>fm b d|false=>false
 | .quo a b,.quo c d=>match fm a c with |true=>fm b d|false=>false
 | .rem a b,.rem c d=>match fm a c with |true=>fm b d|false=>false
 | .wrap k a,.wrap l b=>match fm a b with |true=>decide (k=l)|false=>false
 | .xK i a,.xK j b=>match Nat.beq i j with |true=>fm a b|false=>false
 | .eD a,.eD b=>D.eqb a b
 | .op o a b,.op q c d=>match Nat.beq o.tag q.tag with
   |true=>match fm a c with |true=>fm b d|false=>false
   |false=>false
 | .ap f a,.ap g b=>match Nat.beq f g with |true=>fm a b|false=>false
 |_,_=>false
theorem cX: ∀(a b:V),fm a b=true->a=b
 | .lit a,b,h=>by cases b<;>simp [fm] at h; rw [h]
 | .dK i,b,h=>by cases b<;>simp [fm] at h; rw [h]
 | .add a b,c,h=>by cases c<;>simp only [fm,aC] at h; split at h<;>first |(rename_i U; rw [cX _ _ U,cX _ _ h]; done)|simp at h
 | .sub a b,c,h=>by cases c<;>simp only [fm,aC] at h; split at h<;>first |(rename_i U; rw [cX _ _ U,cX _ _ h]; done)|simp at h
 | .mul a b,c,h=>by cases c<;>simp only [fm,aC] at h; split at h<;>first |(rename_i U; rw [cX _ _ U,cX _ _ h]; done)|simp at h
 | .quo a b,c,h=>by cases c<;>simp only [fm,aC] at h; split at h<;>first |(rename_i U; rw [cX _ _ U,cX _ _ h]; done)|simp at h
 | .rem a b,c,h=>by cases c<;>simp only [fm,aC] at h; split at h<;>first |(rename_i U; rw [cX _ _ U,cX _ _ h]; done)|simp at h
 | .wrap k a,c,h=>by cases c<;>simp only [fm,aC] at h; split at h<;>first |(rename_i U; rw [cX _ _ U,of_decide_eq_true h]; done)|simp at h
 | .xK i a,c,h=>by cases c<;>simp only [fm,aC] at h; split at h<;>first |(rename_i U; rw [az U,cX _ _ h]; done)|simp at h
 | .eD a,c,h=>by cases c<;>simp only [fm,aC] at h; rw [D.Px h]
 | .op o a b,c,h=>by
   cases c<;>simp only [fm,aC] at h;split at h
   ·rename_i h0;split at h
    ·rename_i U;rw [fT.N! (az h0),cX _ _ U,cX _ _ h]
    grind
   grind
 | .ap f a,c,h=>by cases c<;>simp only [fm,aC] at h; split at h<;>first |(rename_i U; rw [az U,cX _ _ h]; done)|simp at h
inductive SB where
 |lit (b:Bool)
 |lt (a b:V)
 |le (a b:V)
 |eq (a b:V)
 |not (s:SB)
 |and (a b:SB)
 deriving DecidableEq,Inhabited
noncomputable def SB.den (ρ:Nat->Int):SB->Bool
 | .lit b=>b
 | .lt a b=>decide (a.den ρ<b.den ρ)
 | .le a b=>decide (a.den ρ<=b.den ρ)
 | .eq a b=>a.den ρ == b.den ρ
 | .not s=>!(s.den ρ)
 | .and a b=>a.den ρ&&b.den ρ
def uX (k:IntKind) (n:Int):Int:=
 match k with
 | .i64=>if -9223372036854775808<=n/\n<=9223372036854775807 then n else k.wrap n
 | .u8=>if 0<=n/\n<=255 then n else k.wrap n
 |_=>k.wrap n
inductive NB where
 |exact (c:Nat)
 |rest (es:Nat)
 deriving DecidableEq,Inhabited
inductive Y where
 |bool (b:SB)
 |int (k:IntKind) (e:V)
 |str (s:List Nat)
 |ptr (id off:Nat)
 |u9
 |nQ (cells:List Y)
 |slice (id off len:Nat) (c:NB)
 |gL
 |ro (cells:List Y) (n:Nat) (full:Bool)
 |map (id:Nat)
 |tI
 |func (fn:Fn) (fs cs:List Y)
 |xp
 |iface (t:Nat) (v:Y)
 |yn
 |agg (cs:List Y)
 |tuple (vs:List Y)
 |LI (i:Nat)
 |xK (k:Nat) (ks:List IntKind)
 |eD (e:V) (t:Nat)
 |kG (e:V)
 |pV (id:Nat) (n:V) (t:Nat)
 |Ax (id es:Nat) (i:V) (off:Nat)
 |emp
 |u5 (id:Nat) (lo n:V) (t:Nat)
 |any
 |xU (z:V) (t:Nat)
 deriving Inhabited
def Y.undef:Y:=.tuple []
def Y.cells:Y->List Y
 | .agg cs=>cs
 |v=>[v]
def Y.one:Y->Bool
 | .agg _=>false
 | .tuple _=>false
 | .LI _=>false
 | .any=>false
 |_=>true
inductive dX where
 |cells (cs:List Y) (e:TypeId)
 |map (es:List (Y×Y×Nat)) (clock:Nat)
 |kU (s:List Nat) (pos:Nat)
 |vec (e:V) (t:Nat) (ty:TypeId) (ov:List (V×List Y))
 |kQ (e:V) (t:Nat)
 |uo (e:V) (t:Nat) (fq:List Nat) (ov:List (V×Y))
 deriving Inhabited
structure Hp where
 m:Tr dX
 next:Nat
 res:Option Nat:=none
 deriving Inhabited
def Hp.get (h:Hp) (i:Nat):Option dX:=h.m.get i
def Hp.put (h:Hp) (i:Nat) (o:dX):Hp:=⟨h.m.put i (some o),h.next,h.res⟩
def Hp.drop (h:Hp) (i:Nat):Hp:=⟨h.m.put i none,h.next,h.res⟩
def Hp.fresh (h:Hp):Nat:=match h.res with
 |none=>h.next
 |some r=>r
def Hp.new (h:Hp) (o:dX):Hp:=match h.res with
 |none=> ⟨h.m.put h.next (some o),h.next+1,none⟩
 |some r=> ⟨h.m.put r (some o),h.next,none⟩
inductive T (α:Type) where
 |fail
 |ret (a:α)
 |split (c:SB) (t f:T α)
 deriving Inhabited
def T.bind {α β:Type}:T α->(α->T β)->T β
 | .fail,_=> .fail
 | .ret a,f=>f a
 | .split c x y,f=> .split c (x.bind f) (y.bind f)
def T.leaf {α:Type} (ρ:Nat->Int):T α->Option α
 | .fail=>none
 | .ret a=>some a
 | .split c x y=>match c.den ρ with
   |true=>x.leaf ρ
   |false=>y.leaf ρ
inductive TK where
 |bool
 |int (k:IntKind)
 |string
 |pointer (e:Nat)
 |slice (e:Nat)
 |array (n e:Nat)
 |map (k e:Nat)
 |struct (fs:List (Nat×Nat×Nat))
 |func
 |iface (plain:Bool)
 |tuple
 deriving DecidableEq,Inhabited
structure TI where
 kind:TK
 size:Nat
 bytes:Nat
 zero:List Y
 eqs:Bool
 own:Option Nat:=none
 deriving Inhabited
def TK.agg (k:TK):Bool:=match k with | .struct _=>true| .array _ _=>true|_=>false
def TI.agg (i:TI):Bool:=i.kind.agg
abbrev TT:=Nat->Option TI
def bytesOf (s:ByteArray):List Nat:=s.data.toList.map (·.toNat)
def gZ:Value->Option Y
 | .bool b=>some (.bool (.lit b))
 | .int k n=>some (.int k (.lit n))
 | .string s=>some (.str (bytesOf s))
 | .pointer none=>some .u9
 | .slice none 0 0=>some .gL
 | .map none=>some .tI
 | .nilFunc=>some .xp
 | .nilIface=>some .yn
 | .func fn f c=>if f.isEmpty&&c.isEmpty then some (.func fn [] []) else none
 |_=>none
def lF:List Value->Option (List Y)
 |[]=>some []
 |v::vs=>match gZ v with
  |none=>none
  |some a=>match lF vs with
   |none=>none
   |some aml=>some (a::aml)
def ofConst:Value->Option Y
 | .agg cs=>(lF cs.toList).map .agg
 | .tuple vs=>(lF vs.toList).map .tuple
 |v=>gZ v
def qW (a b:V):SB:=match fm a b with
 |true=> .lit true
 |false=>match a with
  | .eD _=> .eq b a
  |_=> .eq a b
def zi (x:V):V:=match x with
 | .op o a _=>match o with
   | .mk=>a
   |_=> .op .num x (.lit 0)
 | .eD d=>match d with
   | .i n=> .lit n
   |_=> .op .num x (.lit 0)
 |_=> .op .num x (.lit 0)
def nO (x:V):V:=match x with
 | .lit n=> .eD (.i n)
 |x=> .op .mk x (.lit 0)
def jw (j:Nat) (x:V):V:=match x with
 | .op o a b=>match o with
   | .cons=>match j with
     |0=>a
     |j+1=>jw j b
   |_=> .op (.cell j) x (.lit 0)
 |_=> .op (.cell j) x (.lit 0)
def ed (x:V):V:=match x with
 | .op o a _=>match o with
   | .set=>ed a
   |_=> .op .len x (.lit 0)
 | .eD d=> .lit (Int.ofNat d.l.length)
 |_=> .op .len x (.lit 0)
def eL (a b:V):V:=.op .cons a b
def OM (x:V):Bool:=match x with
 | .eD d=>match d with
   | .i n=>vC n 0
   |_=>false
 |_=>false
def r9 (c:CK) (x:V):Y:=match c with
 | .int k=> .int k (zi x)
 | .bool=> .bool (.not (.eq (zi x) (.lit 0)))
 | .str=> .kG x
 | .sl t=> .eD x t
def jN:List CK->Nat->V->List Y
 |[],_,_=>[]
 |c::cs,j,x=>r9 c (jw j x)::jN cs (j+1) x
def ic (r:Row) (x:V):List Y:=match r with
 | .one c=>[r9 c x]
 | .many cs=>jN cs 0 x
def nk (x:V):V:=match x with
 | .eD d=> .eD d
 | .op o a b=>match o with
   | .cell j=> .op (.cell j) a b
   | .at=> .op .at a b
   |o=> .op .norm (.op o a b) (.lit 0)
 |x=> .op .norm x (.lit 0)
def uL:Y->Option V
 | .str l=>some (.eD (lU l))
 | .kG e=>some e
 |_=>none
def B6 (x y:Y):Option SB:=match uL x with
 |none=>none
 |some a=>match uL y with
  |none=>none
  |some b=>some (qW (nk a) (nk b))
def nB (c:CK) (v:Y):Option V:=match c with
 | .int k=>match v with
   | .int k' e=>if k=k' then some (nO e) else none
   |_=>none
 | .bool=>match v with
   | .bool c=>match c with
     | .lit b=>some (.eD (.i (if b then 1 else 0)))
     | .not d=>match d with
       | .eq x z=>match z with
         | .lit n=>if n=0 then some (.op .bit (nO x) (.lit 0)) else none
         |_=>none
       |_=>none
     |_=>none
   |_=>none
 | .str=>uL v
 | .sl t=>match v with
   | .eD e t'=>if t=t' then some e else none
   | .gL=>some (.eD (.i 1))
   | .xU z t'=>if t=t' then some z else none
   | .slice _ _ n _=>match n with
     |0=>some (.eD (.i 2))
     |_=>none
   |_=>none
def jM:List CK->List Y->Option V
 |[],[]=>some (.eD (.i 0))
 |c::cs,v::vs=>match nB c v with
  |none=>none
  |some a=>match jM cs vs with
   |none=>none
   |some b=>some (eL a b)
 |_,_=>none
def rE (r:Row) (cs:List Y):Option V:=match r with
 | .one c=>match cs with
   |[v]=>nB c v
   |_=>none
 | .many ks=>jM ks cs
def lz (r:Row) (e:V):Nat->List Y->Option V
 |0,[]=>some e
 |0,_::_=>none
 |m+1,cs=>match rE r (cs.take r.es) with
  |none=>none
  |some x=>lz r (.op .snoc e x) m (cs.drop r.es)
structure St where
 bG:Tr Y
 h:Hp
 pc:List (SB×Bool)
 deriving Inhabited
def St.set (s:St) (t:Nat) (v:Y):St:={ s with bG:=s.bG.put t (some v) }
def St.Lr (s:St) (d:Option Nat) (v:Y):St:=match d with |some t=>s.set t v|none=>s
def ev (s:St):Operand->Option Y
 | .tmp t=>s.bG.get t
 | .const v=>ofConst v
 | .func f=>some (.func (.func f) [] [])
 | .global _=>none
def evs (s:St):List Operand->Option (List Y)
 |[]=>some []
 |x::xs=>match ev s x with
  |none=>none
  |some a=>match evs s xs with
   |none=>none
   |some aml=>some (a::aml)
def oW:SB->SB->Bool
 | .lit a,.lit b=>a == b
 | .lt a b,.lt c d=>match fm a c with |true=>fm b d|false=>false
 | .le a b,.le c d=>match fm a c with |true=>fm b d|false=>false
 | .eq a b,.eq c d=>match fm a c with |true=>fm b d|false=>false
 | .not a,.not b=>oW a b
 | .and a b,.and c d=>match oW a c with |true=>oW b d|false=>false
 |_,_=>false
theorem sK: ∀(a b:SB),oW a b=true->a=b
 | .lit a,b,h=>by cases b<;>simp [oW] at h; rw [h]
 | .lt a b,c,h=>by cases c<;>simp only [oW,aC] at h; split at h<;>first |(rename_i U; rw [cX _ _ U,cX _ _ h]; done)|simp at h
 | .le a b,c,h=>by cases c<;>simp only [oW,aC] at h; split at h<;>first |(rename_i U; rw [cX _ _ U,cX _ _ h]; done)|simp at h
 | .eq a b,c,h=>by cases c<;>simp only [oW,aC] at h; split at h<;>first |(rename_i U; rw [cX _ _ U,cX _ _ h]; done)|simp at h
 | .not a,c,h=>by cases c<;>simp only [oW,aC] at h; rw [sK _ _ h]
 | .and a b,c,h=>by cases c<;>simp only [oW,aC] at h; split at h<;>first |(rename_i U; rw [sK _ _ U,sK _ _ h]; done)|simp at h
def nR (c:SB):List (SB×Bool)->Option Bool
 |[]=>none
 |(d,b)::l=>match oW c d with
  |true=>some b
  |false=>nR c l
def X2 (a:Option Int) (z:Int):Option Int:=match a with
 |none=>some z
 |some y=>some (if y<z then z else y)
def X1 (a:Option Int) (z:Int):Option Int:=match a with
 |none=>some z
 |some y=>some (if z<y then z else y)
def XP (a:Option Int) (z:Int):Option Int:=match a with
 |none=>none
 |some y=>some (if y=z then z+1 else y)
def XR (a:Option Int) (z:Int):Option Int:=match a with
 |none=>none
 |some y=>some (if y=z then z-1 else y)
def S7 (e:V):Option Int×Option Int:=match e with
 | .rem a c=>match c with
   | .lit k=>match a with
     | .add b d=>match d with
       | .lit m=>match b with
         | .rem _ f=>match f with
           | .lit n=>if 0<n/\n=m/\m=k then (some 0,some (n-1)) else (none,none)
           |_=>(none,none)
         |_=>(none,none)
       |_=>(none,none)
     |_=>(none,none)
   |_=>(none,none)
 | .op o _ _=>match o with
   | .len=>(some 0,none)
   |_=>(none,none)
 |_=>(none,none)
def bounds (e:V):List (SB×Bool)->Option Int×Option Int
 |[]=>S7 e
 |(c,v)::l=>match c with
  | .lt x y=>match x with
    | .lit z=>match fm y e with
      |false=>bounds e l
      |true=>match bounds e l with
       |(lo,hi)=>match v with
        |true=>(X2 lo (z+1),hi)
        |false=>(lo,X1 hi z)
    |x=>match y with
     | .lit z=>match fm x e with
       |false=>bounds e l
       |true=>match bounds e l with
        |(lo,hi)=>match v with
         |true=>(lo,X1 hi (z-1))
         |false=>(X2 lo z,hi)
     |_=>bounds e l
  | .eq x y=>match y with
    | .lit z=>match v with
      |false=>match fm x e with
       |false=>bounds e l
       |true=>match bounds e l with
        |(lo,hi)=>(XP lo z,XR hi z)
      |true=>match fm x e with
       |false=>bounds e l
       |true=>(some z,some z)
    |_=>bounds e l
  |_=>bounds e l
def pD (e:V) (pc:List (SB×Bool)):Option Int×Option Int:=match e with
 | .wrap k s=>match k with
   | .i64=>match s with
     | .add b d=>match d with
       | .lit c=>match bounds b pc with
         |(some lo,some hi)=>if -9223372036854775808<=lo+c/\hi+c<=9223372036854775807 then (match bounds e pc with
          |(l2,Z)=>(X2 l2 (lo+c),X1 Z (hi+c))) else bounds e pc
         |_=>bounds e pc
       |_=>bounds e pc
     |_=>bounds e pc
   |_=>bounds e pc
 |_=>bounds e pc
def Rp (a b:V) (pc:List (SB×Bool)):Option Bool:=match nR (.eq a b) pc with
 |some v=>some v
 |none=>nR (.eq b a) pc
def decLt (pc:List (SB×Bool)) (a b:V):Option Bool:=match nR (.lt a b) pc with
 |some v=>some v
 |none=>match a with
  | .lit z=>match pD b pc with
    |(lo,hi)=>match lo with
     |some l=>if z<l then some true else match hi with
      |some h=>if h<=z then some false else none
      |none=>none
     |none=>match hi with
      |some h=>if h<=z then some false else none
      |none=>none
  |a=>match b with
   | .lit z=>match pD a pc with
     |(lo,hi)=>match hi with
      |some h=>if h<z then some true else match lo with
       |some l=>if z<=l then some false else none
       |none=>none
      |none=>match lo with
       |some l=>if z<=l then some false else none
       |none=>none
   |b=>match Rp a b pc with
    |some true=>some false
    |some false=>match nR (.lt b a) pc with
     |some v=>some !v
     |none=>none
    |none=>match nR (.lt b a) pc with
     |some true=>some false
     |_=>none
def decEq (pc:List (SB×Bool)) (a b:V):Option Bool:=match Rp a b pc with
 |some v=>some v
 |none=>match b with
  | .lit z=>match pD a pc with
    |(lo,hi)=>match lo with
     |some l=>if z<l then some false else match hi with
      |some h=>if h<z then some false else if l=z/\h=z then some true else none
      |none=>none
     |none=>match hi with
      |some h=>if h<z then some false else none
      |none=>none
  |b=>match nR (.lt a b) pc with
   |some true=>some false
   |some false=>match nR (.lt b a) pc with
    |some v=>some !v
    |none=>none
   |none=>match nR (.lt b a) pc with
    |some true=>some false
    |_=>none
def DD (pc:List (SB×Bool)) (c:SB):Option Bool:=
 match c with
 | .lit b=>some b
 | .lt a b=>decLt pc a b
 | .eq a b=>decEq pc a b
 |c=>nR c pc
def kO (pc:List (SB×Bool)) (c:SB):Option Bool:=
 match c with
 | .not s=>(DD pc s).map (!·)
 |c=>DD pc c
def kB {α:Type} (s:St) (c:SB) (f:St->Bool->T α):T α:=
 match kO s.pc c with
 |some b=>f s b
 |none=>match c with
  | .not d=> .split d (f { s with pc:=(d,true)::s.pc } false) (f { s with pc:=(d,false)::s.pc } true)
  |c=> .split c (f { s with pc:=(c,true)::s.pc } true) (f { s with pc:=(c,false)::s.pc } false)
def Xt (k:IntKind):V->V->V
 | .lit x,.lit y=> .lit (uX k (x+y))
 |a,b=> .wrap k (.add a b)
def QS (k:IntKind):V->V->V
 | .lit x,.lit y=> .lit (uX k (x-y))
 |a,b=> .wrap k (.sub a b)
def Xs (k:IntKind):V->V->V
 | .lit x,.lit y=> .lit (uX k (x*y))
 |a,b=> .wrap k (.mul a b)
def iU:V->V->SB
 | .lit x,.lit y=> .lit (decide (x<y))
 |a,b=> .lt a b
def S!:V->V->SB
 | .lit x,.lit y=> .lit (decide (x<=y))
 |a,b=> .not (.lt b a)
def rK:V->V->SB
 | .lit x,.lit y=> .lit (x == y)
 | .lit x,b=> .eq b (.lit x)
 |a,b=>match fm a b with
  |true=> .lit true
  |false=> .eq a b
def xE:SB->SB
 | .lit b=> .lit !b
 | .not s=>s
 |s=> .not s
def Xv:SB->SB->SB
 | .lit true,b=>b
 | .lit false,_=> .lit false
 |a,.lit true=>a
 |_,.lit false=> .lit false
 |a,b=> .and a b
def bytesLess:List Nat->List Nat->Bool
 |_,[]=>false
 |[],_::_=>true
 |a::x,b::y=>if a.blt b then true else if a.beq b then bytesLess x y else false
def iu:List Nat->List Nat->Bool
 |[],[]=>true
 |a::x,b::y=>if a.beq b then iu x y else false
 |_,_=>false
def Ln (op:BinOp) (x y:List Nat):Option Y:=
 match op with
 | .add=>if x.length+y.length<=1000000 then some (.str (x++y)) else none
 | .eql=>some (.bool (.lit (iu x y)))
 | .neq=>some (.bool (.lit !(iu x y)))
 | .lss=>some (.bool (.lit (bytesLess x y)))
 | .leq=>some (.bool (.lit (bytesLess x y||iu x y)))
 | .gtr=>some (.bool (.lit !(bytesLess x y||iu x y)))
 | .geq=>some (.bool (.lit !(bytesLess x y)))
 |_=>none
def RG (op:BinOp) (k:IntKind) (a b:V):Option Y:=
 match op with
 | .add=>some (.int k (Xt k a b))
 | .sub=>some (.int k (QS k a b))
 | .mul=>some (.int k (Xs k a b))
 | .quo=>match a,b with
   | .lit x,.lit y=>if y=0 then none else some (.int k (.lit (uX k (x.tdiv y))))
   |a,.lit y=>if y=0 then none else some (.int k (.wrap k (.quo a (.lit y))))
   |_,_=>none
 | .rem=>match a,b with
   | .lit x,.lit y=>if y=0 then none else some (.int k (.lit (x.tmod y)))
   |a,.lit y=>if y=0 then none else some (.int k (.rem a (.lit y)))
   |_,_=>none
 | .shr=>match a,b with
   | .lit x,.lit y=>if y<0 then none else some (.int k (.lit (x.fdiv (2 ^ (min y.toNat k.bits)))))
   |_,_=>none
 | .eql=>some (.bool (rK a b))
 | .neq=>some (.bool (xE (rK a b)))
 | .lss=>some (.bool (iU a b))
 | .leq=>some (.bool (S! a b))
 | .gtr=>some (.bool (iU b a))
 | .geq=>some (.bool (S! b a))
 |_=>none
def fu {α:Type}:List α->Nat->Option α
 |[],_=>none
 |x::_,0=>some x
 |_::xs,n+1=>fu xs n
def Dz (a b:SB):Option SB:=
 match a,b with
 | .lit x,.lit y=>some (.lit (x == y))
 | .lit x,b=>some (if x then b else xE b)
 |a,.lit y=>some (if y then a else xE a)
 |a,b=>some (.not (.and (.not (.and a b)) (.not (.and (.not a) (.not b)))))
def Py (k:TK) (x y:Y):Option SB:=
 match k with
 | .int _=>match x,y with
   | .int k a,.int k' b=>if k=k' then some (rK a b) else none
   |_,_=>none
 | .string=>match x,y with
   | .str a,.str b=>some (.lit (iu a b))
   |x,y=>B6 x y
 | .bool=>match x,y with
   | .bool a,.bool b=>Dz a b
   |_,_=>none
 |_=>none
def Zd (tt:TT) (xs ys:List Y):List (Nat×Nat×Nat)->Option SB
 |[]=>some (.lit true)
 |(off,ft,_)::fs=>match tt ft with
  |none=>none
  |some i=>match fu xs off,fu ys off with
   |some x,some y=>match Py i.kind x y with
    |none=>none
    |some c=>match Zd tt xs ys fs with
     |none=>none
     |some d=>some (Xv c d)
   |_,_=>none
def Dx (tt:TT) (t:Nat) (xs ys:List Y):Option SB:=
 match tt t with
 |none=>none
 |some i=>match i.kind with
  | .struct fs=>if i.eqs then Zd tt xs ys fs else none
  |_=>none
def k8:Y->Option Int
 | .int _ (.lit n)=>some n
 |_=>none
def isNil (k:TK) (x:Y):Option Bool:=
 match k with
 | .slice _=>match x with
   | .gL=>some true
   | .slice _ _ _ _=>some false
   | .ro _ _ _=>some false
   | .pV _ _ _=>some false
   |_=>none
 | .pointer _=>match x with
   | .u9=>some true
   | .ptr _ _=>some false
   | .nQ _=>some false
   |_=>none
 | .map _ _=>match x with
   | .tI=>some true
   | .map _=>some false
   |_=>none
 |_=>none
def afM (k:TK) (x y:Y):Option SB:=
 match k with
 | .bool=>match x,y with
   | .bool a,.bool b=>Dz a b
   |_,_=>none
 |k=>match isNil k x,isNil k y with
  |some true,some b=>some (.lit b)
  |some false,some true=>some (.lit false)
  |_,_=>none
def IZ (op:BinOp) (c:Option SB):Option Y:=match c with
 |none=>none
 |some c=>match op with
  | .eql=>some (.bool c)
  | .neq=>some (.bool (.not c))
  |_=>none
def Zb (tt:TT) (t:Nat) (op:BinOp) (x y:Y):Option Y:=
 match x with
 | .int k a=>match y with
   | .int k' b=>match op with
     | .shr=>RG op k a b
     | .shl=>none
     |_=>if k=k' then RG op k a b else none
   |_=>none
 | .str a=>match y with
   | .str b=>Ln op a b
   | .kG e=>IZ op (B6 (.str a) (.kG e))
   |_=>none
 | .kG e=>IZ op (B6 (.kG e) y)
 |_=>match tt t with
  |none=>none
  |some i=>match op,afM i.kind x y with
   | .eql,some c=>some (.bool c)
   | .neq,some c=>some (.bool (xE c))
   |_,_=>none
def afK (op:UnOp) (x:Y):Option Y:=
 match op,x with
 | .not,.bool b=>some (.bool (xE b))
 | .neg,.int k e=>some (.int k (QS k (.lit 0) e))
 |_,_=>none
def ja {α:Type}:Nat->List α->Option (List α)
 |0,_=>some []
 |_+1,[]=>none
 |n+1,x::xs=>match ja n xs with
  |some l=>some (x::l)
  |none=>none
def eS {α:Type}:Nat->List α->Option (List α)
 |0,l=>some l
 |_+1,[]=>none
 |n+1,_::xs=>eS n xs
def ef:List Y->Nat->List Y->Option (List Y)
 |cs,0,[]=>some cs
 |[],0,_::_=>none
 |_::cs,0,v::vs=>match ef cs 0 vs with
  |some l=>some (v::l)
  |none=>none
 |[],_+1,_=>none
 |c::cs,n+1,vs=>match ef cs n vs with
  |some l=>some (c::l)
  |none=>none
def sc:List Y->Bool
 |[]=>true
 |v::vs=>v.one&&sc vs
def nu (h:Hp) (p:Y) (n:Nat):Option (List Y):=
 match p with
 | .ptr id off=>match h.get id with
   |some (.cells cs _)=>match eS off cs with
    |some l=>ja n l
    |none=>none
   |_=>none
 | .nQ cs=>ja n cs
 |_=>none
def BL (tt:TT) (t:Nat) (p:Y) (h:Hp):Option Y:=
 match tt t with
 |none=>none
 |some i=>match i.agg with
  |true=>(nu h p i.size).map .agg
  |false=>match nu h p 1 with
   |some (v::_)=>some v
   |_=>none
def J0 (tt:TT) (t:Nat) (p v:Y) (h:Hp):Option Hp:=
 match tt t with
 |none=>none
 |some i=>
  if v.cells.length=i.size&&sc v.cells then
   match p with
   | .ptr id off=>match h.get id with
     |some (.cells cs e)=>match ef cs off v.cells with
      |some mw=>some (h.put id (.cells mw e))
      |none=>none
     |_=>none
   |_=>none
  else none
def ug (place:Nat->Option (Nat×Nat)) (cs:List Y):List (Nat×Y)->Option (List Y)
 |[]=>some cs
 |(i,v)::rest=>match place i with
  |none=>none
  |some (off,size)=>
   if v.cells.length=size&&sc v.cells then
    match ef cs off v.cells with
    |some mw=>ug place mw rest
    |none=>none
   else none
def jb (tt:TT) (t:Nat):Option Nat:=(tt t).map (·.size)
def Kg (tt:TT) (t:Nat) (parts:List (Nat×Y)):Option Y:=
 match tt t with
 |some i=>match i.kind with
  | .struct fs=>(ug (fun j=>(fu fs j).map fun f=>(f.1,f.2.2)) i.zero parts).map .agg
  | .array _ e=>match jb tt e with
    |some s=>(ug (fun j=>some (j*s,s)) i.zero parts).map .agg
    |none=>none
  |_=>none
 |none=>none
def dZ {α:Type} (l:List α):Nat->List α
 |0=>[]
 |n+1=>l++dZ l n
def ur (tt:TT) (t len:Nat) (parts:List (Nat×Y)) (h:Hp):Option (Y×Hp):=
 match tt t with
 |some i=>match i.kind with
  | .slice e=>match tt e with
    |some ie=>
     if len<=1000/\ie.size<=1000/\ie.zero.length=ie.size then
      match ug (fun j=>some (j*ie.size,ie.size)) (dZ ie.zero len) parts with
      |some cs=>some (.slice h.fresh 0 len (.exact len),h.new (.cells cs e))
      |none=>none
     else none
    |none=>none
  |_=>none
 |none=>none
def rB (tt:TT) (t:Nat) (l c:Y) (h:Hp):Option (Y×Hp):=
 match k8 l with
 |some (.ofNat n)=>match k8 c with
  |some (.ofNat m)=>match tt t with
   |some i=>match i.kind with
    | .slice e=>match tt e with
      |some ie=>
       if n<=m/\m<=1000/\ie.size<=1000/\ie.bytes<=1000000/\ie.zero.length=ie.size then
        some (.slice h.fresh 0 n (.exact m),h.new (.cells (dZ ie.zero m) e))
       else none
      |none=>none
    |_=>none
   |none=>none
  |_=>none
 |_=>none
def Rl (off:Nat) (x:Y):Option Y:=match x with
 | .ptr id o=>some (.ptr id (o+off))
 | .Ax id es i o=>some (.Ax id es i (o+off))
 | .nQ cs=>(eS off cs).map .nQ
 |_=>none
def partOf (i:TI) (l:List Y):Option Y:=match i.agg with
 |true=>(ja i.size l).map .agg
 |false=>match l with
  |v::_=>some v
  |[]=>none
def vY (tt:TT) (t:Nat) (p:Y) (f:Nat):Option Y:=
 match tt t with
 |some i=>match i.kind with
  | .struct fs=>match fu fs f with
    |some (off,_,size)=>match size with
     |0=>none
     |_=>Rl off p
    |none=>none
  |_=>none
 |none=>none
def J9 (tt:TT) (t:Nat) (x:Y) (f:Nat):Option Y:=
 match tt t with
 |some i=>match i.kind with
  | .struct fs=>match fu fs f with
    |some (off,ft,_)=>match tt ft,x with
     |some fi,.agg cs=>match eS off cs with
      |some l=>partOf fi l
      |none=>none
     |_,_=>none
    |none=>none
  |_=>none
 |none=>none
def oJ (tt:TT) (t:Nat) (x ix:Y):Option Y:=
 match k8 ix with
 |some (.ofNat i)=>match tt t with
  |some ti=>match ti.kind with
   | .array n e=>if i<n then match jb tt e with
    |some s=>Rl (i*s) x
    |none=>none
    else none
   | .slice e=>match jb tt e with
     |some s=>match x with
      | .slice id o len _=>if i<len then some (.ptr id (o+i*s)) else none
      | .ro cs n _=>if i<n then (eS (i*s) cs).map .nQ else none
      |_=>none
     |none=>none
   |_=>none
  |none=>none
 |_=>none
def vD (k:Nat) (e:V):List IntKind->Nat->List Y
 |[],_=>[]
 |kd::ks,j=> .int kd (.xK (k*8+j) e)::vD k e ks (j+1)
def J7 (tt:TT) (pc:List (SB×Bool)) (t k:Nat) (ks:List IntKind) (ix:Y):Option Y:=
 match ix with
 | .int _ e=>match tt t with
   |some ti=>match ti.kind with
    | .slice el=>match jb tt el with
      |some s=>if s=ks.length/\k<8/\s<=8 then match kO pc (iU e (.lit 0)),kO pc (iU e (.dK (900+k))) with
       |some false,some true=>some (.nQ (vD k e ks 0))
       |_,_=>none
       else none
      |none=>none
    |_=>none
   |none=>none
 |_=>none
def Ar (tt:TT) (t:Nat) (x ix:Y):Option Y:=
 match k8 ix with
 |some (.ofNat i)=>match tt t with
  |some ti=>match ti.kind,x with
   | .string,.str s=>(fu s i).map fun b=> .int .u8 (.lit (Int.ofNat b))
   | .array n e,.agg cs=>if i<n then match tt e with
    |some ie=>match eS (i*ie.size) cs with
     |some l=>partOf ie l
     |none=>none
    |none=>none
    else none
   |_,_=>none
  |none=>none
 |_=>none
def oh (x:Option Y) (d:Nat) (y:Nat):Option Nat:=
 match x with
 |none=>if d<=y then some d else none
 |some v=>match k8 v with
  |some (.ofNat i)=>if i<=y then some i else none
  |_=>none
def Al (tt:TT) (t:Nat) (x:Y) (lo hi mx:Option Y):Option Y:=
 match tt t with
 |none=>none
 |some ti=>match ti.kind with
  | .string=>match x,mx with
    | .str s,none=>match oh hi s.length s.length with
      |some h=>match oh lo 0 h with
       |some l=>some (.str ((s.take h).drop l))
       |none=>none
      |none=>none
    |_,_=>none
  | .slice e=>match jb tt e with
    |none=>none
    |some s=>match x with
     | .gL=>if mx.isSome&&hi.isNone then none else match oh hi 0 0,oh lo 0 0,oh mx 0 0 with
       |some _,some _,some _=>some .gL
       |_,_,_=>none
     | .slice id o len (.exact c)=>if mx.isSome&&hi.isNone then none else match oh mx c c with
       |none=>none
       |some m=>match oh hi len m with
        |none=>none
        |some h=>match oh lo 0 h with
         |none=>none
         |some l=>some (.slice id (o+l*s) (h-l) (.exact (m-l)))
     | .slice id o len (.rest es)=>match mx with
       |none=>match oh hi len len with
        |none=>none
        |some h=>match oh lo 0 h with
         |none=>none
         |some l=>if es=s then some (.slice id (o+l*s) (h-l) (.rest es)) else none
       |some _=>match hi,oh mx 0 len with
        |none,_=>none
        |_,none=>none
        |some _,some m=>match oh hi 0 m with
         |none=>none
         |some h=>match oh lo 0 h with
          |none=>none
          |some l=>some (.slice id (o+l*s) (h-l) (.exact (m-l)))
     | .ro cs n full=>match mx with
       |none=>match oh hi n n with
        |none=>none
        |some h=>match oh lo 0 h with
         |none=>none
         |some l=>match eS (l*s) cs with
          |none=>none
          |some d=>match ja ((h-l)*s) d with
           |none=>none
           |some d'=>some (.ro d' (h-l) (full&&h == n))
       |some _=>match hi,oh mx 0 n with
        |none,_=>none
        |_,none=>none
        |some _,some m=>match oh hi 0 m with
         |none=>none
         |some h=>match oh lo 0 h with
          |none=>none
          |some l=>match eS (l*s) cs with
           |none=>none
           |some d=>match ja ((h-l)*s) d with
            |none=>none
            |some d'=>some (.ro d' (h-l) (h == m))
     |_=>none
  | .array n e=>match jb tt e with
    |none=>none
    |some s=>match x with
     | .ptr id o=>if mx.isSome&&hi.isNone then none else match oh mx n n with
       |none=>none
       |some m=>match oh hi n m with
        |none=>none
        |some h=>match oh lo 0 h with
         |none=>none
         |some l=>some (.slice id (o+l*s) (h-l) (.exact (m-l)))
     |_=>none
  |_=>none
def Fj (tt:TT) (t:Nat) (x:Y) (lo hi mx:Option Y) (h:Hp):Option Y:=
 match mx with
 |some _=>none
 |none=>match tt t with
  |none=>none
  |some ti=>match ti.kind with
   | .slice e=>match jb tt e with
     |none=>none
     |some s=>match x with
      | .slice id o len (.rest es)=>if es=s/\0<s then match h.get id with
       |some (.cells cs _)=>match oh hi len ((cs.length-o) / s) with
        |none=>none
        |some hh=>match oh lo 0 hh with
         |none=>none
         |some l=>some (.slice id (o+l*s) (hh-l) (.rest es))
       |_=>none
       else none
      |_=>none
   |_=>none
def wc:List Y->Option (List Nat)
 |[]=>some []
 | .int .u8 (.lit (.ofNat b))::xs=>if b<256 then match wc xs with
  |some l=>some (b::l)
  |none=>none
  else none
 |_::_=>none
def pM (tt:TT) (sT dT:Nat) (x:Y) (h:Hp):Option (Y×Hp):=
 match tt sT with
 |none=>none
 |some j=>match tt dT with
 |some i=>match i.kind with
  | .int k=>match x with
    | .int _ (.lit n)=>some (.int k (.lit (uX k n)),h)
    | .int _ e=>some (.int k (.wrap k e),h)
    |_=>none
  | .string=>match j.kind with
   | .string=>match x with
     | .str s=>some (.str s,h)
     |_=>none
   | .slice e=>match tt e with
     |none=>none
     |some ie=>if ie.kind= .int .u8/\ie.size=1 then match x with
      | .gL=>some (.str [],h)
      | .slice id o len _=>match nu h (.ptr id o) len with
        |some cs=>(wc cs).map fun l=>(.str l,h)
        |none=>none
      |_=>none
      else none
   |_=>none
  | .slice e=>match tt e with
    |none=>none
    |some ie=>if ie.kind= .int .u8/\j.kind= .string then match x with
     | .str s=>some (.slice h.fresh 0 s.length (.rest 1),h.new (.cells (s.map fun c=> .int .u8 (.lit (Int.ofNat c))) e))
     |_=>none
     else none
  |_=>none
 |none=>none
def RA (pc:List (SB×Bool)) (kk:TK) (a b:Y):Option Bool:=
 match kk with
 | .int _=>match a,b with
   | .int k x,.int k' y=>if k=k' then kO pc (rK x y) else none
   |_,_=>none
 | .string=>match a,b with
   | .str x,.str y=>some (iu x y)
   |x,y=>match B6 x y with
    |some c=>kO pc c
    |none=>none
 | .bool=>match a,b with
   | .bool (.lit x),.bool (.lit y)=>some (x == y)
   |_,_=>none
 |_=>none
def CB (pc:List (SB×Bool)) (kk:TK) (k:Y):List (Y×Y×Nat)->Nat->Option (Option (Nat×Y))
 |[],_=>some none
 |(k',v,_)::es,i=>match RA pc kk k k' with
  |some true=>some (some (i,v))
  |some false=>CB pc kk k es (i+1)
  |none=>none
def sI (k v:Y):List (Y×Y×Nat)->Nat->List (Y×Y×Nat)
 |[],_=>[]
 |(_,_,b)::es,0=>(k,v,b)::es
 |e::es,n+1=>e::sI k v es n
def qz {α:Type}:List α->Nat->List α
 |[],_=>[]
 |_::xs,0=>xs
 |x::xs,n+1=>x::qz xs n
def wS (tt:TT) (t:Nat):Option TK:=match tt t with
 |some i=>match i.kind with
  | .int k=>some (.int k)
  | .string=>some .string
  | .bool=>some .bool
  |_=>none
 |none=>none
def zeroOf (i:TI):Option Y:=
 match i.agg with
 |true=>some (.agg i.zero)
 |false=>match i.zero with
  |[v]=>some v
  |_=>none
def Jo (m:Y) (h:Hp):Option (List (Y×Y×Nat)):=match m with
 | .tI=>some []
 | .map id=>match h.get id with
   |some (.map es _)=>some es
   |_=>none
 |_=>none
def Fm (tt:TT) (pc:List (SB×Bool)) (t:Nat) (m k:Y) (ok:Bool) (h:Hp):Option Y:=
 match tt t with
 |some ti=>match ti.kind with
  | .map kt et=>
    match wS tt kt with
    |none=>none
    |some kk=>
     match tt et with
     |none=>none
     |some ie=>
      match Jo m h with
      |none=>none
      |some es=>match CB pc kk k es 0 with
       |none=>none
       |some (some (_,v))=>some (if ok then .tuple [v,.bool (.lit true)] else v)
       |some none=>match zeroOf ie with
        |none=>none
        |some z=>some (if ok then .tuple [z,.bool (.lit false)] else z)
  |_=>none
 |none=>none
def rA (tt:TT) (pc:List (SB×Bool)) (t:Nat) (m k v:Y) (h:Hp):Option Hp:=
 match tt t with
 |some ti=>match ti.kind with
  | .map kt _=>
    match wS tt kt with
    |none=>none
    |some kk=>match m with
     | .map id=>match h.get id with
       |some (.map es c)=>match CB pc kk k es 0 with
        |none=>none
        |some (some (i,_))=>some (h.put id (.map (sI k v es i) c))
        |some none=>some (h.put id (.map (es++ [(k,v,c)]) (c+1)))
       |_=>none
     |_=>none
  |_=>none
 |none=>none
def Fq (tt:TT) (pc:List (SB×Bool)) (t:Nat) (m k:Y) (h:Hp):Option Hp:=
 match tt t with
 |some ti=>match ti.kind with
  | .map kt _=>
    match wS tt kt with
    |none=>none
    |some kk=>match m with
     | .tI=>some h
     | .map id=>match h.get id with
       |some (.map es c)=>match CB pc kk k es 0 with
        |none=>none
        |some (some (i,_))=>some (h.put id (.map (qz es i) c))
        |some none=>some (h.put id (.map es c))
       |_=>none
     |_=>none
  |_=>none
 |none=>none
def Y9 (tt:TT) (t:Nat) (x:Y) (h:Hp):Option Y:=
 let n (k:Nat):Option Y:=some (.int .i64 (.lit (Int.ofNat k)))
 match tt t with
 |some ti=>match ti.kind with
  | .string=>match x with
    | .str s=>n s.length
    | .kG e=>some (.int .i64 (ed e))
    |_=>none
  | .slice _=>match x with
    | .gL=>n 0
    | .emp=>n 0
    | .xU _ _=>n 0
    | .slice _ _ len _=>n len
    | .ro _ k _=>n k
    | .eD e _=>some (.int .i64 (ed e))
    | .pV _ e _=>some (.int .i64 e)
    | .u5 _ _ e _=>some (.int .i64 e)
    | .xK k _=>some (.int .i64 (.dK (900+k)))
    |_=>none
  | .array k _=>n k
  | .map _ _=>match x with
    | .tI=>n 0
    | .map id=>match h.get id with
      |some (.map es _)=>n es.length
      |some (.kQ e _)=>some (.int .i64 (ed e))
      |some (.uo e _ _ _)=>some (.int .i64 (ed e))
      |_=>none
    |_=>none
  |_=>none
 |none=>none
def sE (s:Nat) (x:Y) (h:Hp):Option (Nat×List Y):=
 match x with
 | .gL=>some (0,[])
 | .slice id o len _=>(nu h (.ptr id o) (len*s)).map fun l=>(len,l)
 | .ro cs n _=>(ja (n*s) cs).map fun l=>(n,l)
 | .str b=>if s=1 then some (b.length,b.map fun c=> .int .u8 (.lit (Int.ofNat c))) else none
 |_=>none
def nT (ie:TI) (e len m:Nat) (cs:List Y) (h:Hp):Option (Y×Hp):=
 if (len+m)*ie.bytes<=140737488355328 then some (.slice h.fresh 0 (len+m) (.rest ie.size),h.new (.cells cs e)) else none
def qH (ie:TI) (e m:Nat) (news:List Y) (x:Y) (h:Hp):Option (Y×Hp):=
 match x with
 | .gL=>if m=0 then some (.gL,h) else nT ie e 0 m news h
 | .slice id o len (.exact c)=>
   if len+m<=c then
    match h.get id with
    |some (.cells cs e')=>match ef cs (o+len*ie.size) news with
     |some mw=>some (.slice id o (len+m) (.exact c),h.put id (.cells mw e'))
     |none=>none
    |_=>none
   else match nu h (.ptr id o) (len*ie.size) with
    |some old=>nT ie e len m (old++news) h
    |none=>none
 | .slice id o len (.rest es)=>
   if es=ie.size then
    match h.get id with
    |some (.cells cs e')=>
     if o+(len+m)*ie.size<=cs.length then
      match ef cs (o+len*ie.size) news with
      |some mw=>some (.slice id o (len+m) (.rest es),h.put id (.cells mw e'))
      |none=>none
     else if o+len*ie.size=cs.length/\e'=e then
      match eS o cs with
      |some old=>nT ie e len m (old++news) (h.drop id)
      |none=>none
     else none
    |_=>none
   else none
 | .ro cs n full=>
   if m=0 then some (.ro cs n full,h)
   else if full then match ja (n*ie.size) cs with
    |some old=>nT ie e n m (old++news) h
    |none=>none
   else none
 |_=>none
def Fs (tt:TT) (t t2:Nat) (x y:Y) (h:Hp):Option (Y×Hp):=
 match tt t with
 |some ti=>match ti.kind with
  | .slice e=>match tt e with
    |some ie=>match tt t2 with
     |none=>none
     |some QG=>match QG.kind with
      | .int _=>none
      |_=>
       if ie.size=0\/ie.bytes=0\/¬ie.zero.length=ie.size then none else
       match sE ie.size y h with
       |none=>none
       |some (m,news)=>qH ie e m news x h
    |none=>none
  |_=>none
 |none=>none
def Kd (tt:TT) (t:Nat) (x:Y) (h:Hp):Option Hp:=
 match tt t with
 |some ti=>match ti.kind with
  | .slice e=>match tt e with
    |some ie=>match x with
     | .gL=>some h
     | .xU _ _=>some h
     | .slice id o len _=>match len with
       |0=>some h
       |_=>match ie.zero with
        |[]=>none
        |_=>match h.get id with
         |some (.cells cs e')=>match ef cs o (dZ ie.zero len) with
          |some mw=>some (h.put id (.cells mw e'))
          |none=>none
         |_=>none
     |_=>none
    |none=>none
  |_=>none
 |none=>none
def J3 (tt:TT) (t:Nat) (x:Y) (h:Hp):Option (Y×Hp):=
 match tt t with
 |some ti=>match ti.kind with
  | .string=>match x with
    | .str b=>some (.ptr h.fresh 0,h.new (.kU b 0))
    |_=>none
  |_=>none
 |none=>none
def Pj (x:Y) (isS:Bool) (h:Hp):Option (Y×Hp):=
 match isS with
 |false=>none
 |true=>match x with
  | .ptr id 0=>match h.get id with
    |some (.kU b p)=>match fu b p with
     |none=>some (.tuple [.bool (.lit false)],h)
     |some c=>if c<128 then some (.tuple [.bool (.lit true),.int .i64 (.lit (Int.ofNat p)),.int .i32 (.lit (Int.ofNat c))],h.put id (.kU b (p+1))) else none
    |_=>none
  |_=>none
def ue (mx:Bool):List Y->V->IntKind->St->T (Y×St)
 |[],a,k,s=> .ret (.int k a,s)
 | .int _ b::xs,a,k,s=>kB s (if mx then iU a b else iU b a) fun s c=>if c then ue mx xs b k s else ue mx xs a k s
 |_,_,_,_=> .fail
def aez (s:St) (q:Bool) (k:IntKind) (e d:V):T (Y×St):=kB s (rK d (.lit 0)) fun s c=>match c with
 |true=> .fail
 |false=> .ret (.int k (match q with |true=> .wrap k (.quo e d)|false=> .rem e d),s)
def IK (s:St) (h:Option Y) (k:Option Y->St->T (Y×St)):T (Y×St):=match h with
 |some (.int .i64 e)=>kB s (rK e (.lit 0)) fun s c=>match c with
  |true=>k (some (.int .i64 (.lit 0))) s
  |false=> .fail
 |h=>k h s
def Ou (op:BinOp) (a b:Y):Option (Bool×IntKind×V×V):=
 match (match op with | .rem=>some false| .quo=>some true|_=>none) with
 |some q=>match a with
  | .int k e=>match b with
    | .int k' d=>match d with
      | .lit _=>none
      |d=>if k=k' then some (q,k,e,d) else none
    |_=>none
  |_=>none
 |none=>none
def qQ (s:St) (v:Option Y):T (Y×St):=match v with |some v=> .ret (v,s)|none=> .fail
def Oo (s:St) (h:Option Hp):T (Y×St):=match h with |some h=> .ret (Y.undef,{ s with h:=h })|none=> .fail
def Cc (s:St) (r:Option (Y×Hp)):T (Y×St):=match r with |some (v,h)=> .ret (v,{ s with h:=h })|none=> .fail
def Ig (s:St):Option Operand->Option (Option Y)
 |none=>some none
 |some x=>(ev s x).map some
def w8 (s:St):List (Nat×Operand)->Option (List (Nat×Y))
 |[]=>some []
 |(i,x)::xs=>match ev s x with
  |none=>none
  |some a=>match w8 s xs with
   |none=>none
   |some aml=>some ((i,a)::aml)
def zy {α:Type} (s:St) (i n:V) (f:St->T α):T α:=
 kB s (iU i (.lit 0)) fun s b=>match b with
  |true=> .fail
  |false=>kB s (iU i n) fun s b=>match b with
   |true=>f s
   |false=> .fail
def OC (tt:TT) (t:Nat) (a b:Y):Option V:=match a with
 | .eD e _=>match b with
   | .gL=>match tt t with
     |some ti=>match ti.kind with
      | .slice _=>some e
      |_=>none
     |none=>none
   |_=>none
 |_=>none
def XX (s:St) (op:BinOp) (r:Bool):T (Y×St):=match op with
 | .eql=> .ret (.bool (.lit r),s)
 | .neq=> .ret (.bool (.lit (!r)),s)
 |_=> .fail
def aeK (s:St) (e:V) (op:BinOp):T (Y×St):=kB s (iU (.lit 0) (ed e)) fun s b=>match b with
 |true=>XX s op false
 |false=>kB s (qW (nk e) (.eD (.i 1))) fun s b=>match b with
  |true=>XX s op true
  |false=>kB s (qW (nk e) (.eD (.i 2))) fun s b=>match b with
   |true=>XX s op false
   |false=> .fail
def aif (kk:TK) (a b:Y):Option SB:=match kk with
 | .int _=>match a with
   | .int k x=>match b with
     | .int k' y=>if k=k' then some (rK x y) else none
     |_=>none
   |_=>none
 | .string=>B6 a b
 |_=>none
def uC {α:Type} (kk:TK) (k:Y):List (Y×Y×Nat)->St->(St->T α)->T α
 |[],s,f=>f s
 |(k',_,_)::es,s,f=>match RA s.pc kk k k' with
  |some b=>match b with
   |true=>f s
   |false=>uC kk k es s f
  |none=>match aif kk k k' with
   |some c=>kB s c fun s b=>match b with
    |true=>f s
    |false=>uC kk k es s f
   |none=>f s
def oo {α:Type} (tt:TT) (t:Nat) (m k:Y) (s:St) (f:St->T α):T α:=match tt t with
 |some ti=>match ti.kind with
  | .map kt _=>match wS tt kt with
    |some kk=>match Jo m s.h with
     |some es=>uC kk k es s f
     |none=>f s
    |none=>f s
  |_=>f s
 |none=>f s
def MI (k:IntKind) (e:V) (f:Y->St->T (Y×St)):Nat->Nat->St->T (Y×St)
 |0,_,_=> .fail
 |n+1,j,s=>match n with
  |0=>f (.int k (.lit (Int.ofNat j))) s
  |_=>kB s (rK e (.lit (Int.ofNat j))) fun s b=>match b with
   |true=>f (.int k (.lit (Int.ofNat j))) s
   |false=>MI k e f n (j+1) s
def ai9 (tt:TT) (t:Nat) (x:Y):Option Nat:=match tt t with
 |some ti=>match ti.kind with
  | .array n _=>if n<=64 then some n else none
  | .slice _=>match x with
    | .slice _ _ len _=>if len<=64 then some len else none
    |_=>none
  |_=>none
 |none=>none
def Iy (tt:TT) (t:Nat) (x ix:Y) (s:St) (f:Y->St->T (Y×St)):T (Y×St):=match k8 ix with
 |some _=>f ix s
 |none=>match ix with
  | .int k e=>match ai9 tt t x with
    |some n=>zy s e (.lit (Int.ofNat n)) fun s=>MI k e f n 0 s
    |none=> .fail
  |_=> .fail
def uu (tt:TT) (ty:Nat):Option Nat:=match tt ty with
 |some ti=>match ti.kind with
  | .slice el=>jb tt el
  |_=>none
 |none=>none
def Kc (tt:TT) (s:St) (ty t:Nat) (e:V) (ix:Y):T (Y×St):=match ix with
 | .int _ i=>match uu tt ty with
   |some z=>if z=(rowOf t).es then zy s i (ed e) fun s=> .ret (.nQ (ic (rowOf t) (.op .at e i)),s) else .fail
   |none=> .fail
 |_=> .fail
def JX (tt:TT) (s:St) (ty id t:Nat) (n:V) (ix:Y):T (Y×St):=match ix with
 | .int _ i=>match uu tt ty with
   |some z=>if z=(rowOf t).es then zy s i n fun s=> .ret (.Ax id z i 0,s) else .fail
   |none=> .fail
 |_=> .fail
def oy (pc:List (SB×Bool)) (e!:List Y) (i:V):List (V×List Y)->Option (List Y)
 |[]=>some e!
 |(j,cs)::l=>match fm i j with
  |true=>some cs
  |false=>match kO pc (rK i j) with
   |some b=>match b with
    |true=>some cs
    |false=>oy pc e! i l
   |none=>none
def Hb (pc:List (SB×Bool)) (i:V) (mw:List Y):List (V×List Y)->Option (List (V×List Y))
 |[]=>none
 |(j,cs)::l=>match fm i j with
  |true=>some ((j,mw)::l)
  |false=>match kO pc (rK i j) with
   |some b=>match b with
    |true=>some ((j,mw)::l)
    |false=>match Hb pc i mw l with
     |some l'=>some ((j,cs)::l')
     |none=>none
   |none=>none
def wq (pc:List (SB×Bool)) (i:V):List (V×List Y)->Bool
 |[]=>true
 |(j,_)::l=>match kO pc (rK i j) with
  |some false=>wq pc i l
  |_=>false
def vf {α:Type} (i:V):List (V×List Y)->St->(St->T α)->T α
 |[],s,k=>k s
 |(j,_)::l,s,k=>match fm i j with
  |true=>k s
  |false=>kB s (rK i j) fun s b=>match b with
   |true=>k s
   |false=>vf i l s k
def EC (k:IntKind):List Y->Option (List D)
 |[]=>some []
 |v::vs=>match v with
  | .int k' e=>match e with
    | .lit n=>if k=k' then match EC k vs with
     |some ds=>some (.i n::ds)
     |none=>none
     else none
    |_=>none
  |_=>none
def O_:List Y->Option IntKind
 |v::_=>match v with
  | .int k _=>some k
  |_=>none
 |[]=>none
def S6 (tt:TT) (t:Nat) (ix:Y):Option (Nat×V):=match k8 ix with
 |some _=>none
 |none=>match ix with
  | .int _ e=>match tt t with
    |some ti=>match ti.kind with
     | .array n el=>if 64<n then match tt el with
      |some ie=>if ie.size=1/\ie.agg=false then some (n,e) else none
      |none=>none
      else none
     |_=>none
    |none=>none
  |_=>none
def Ic (s:St) (cs:List Y) (e:V):T (Y×St):=match O_ cs with
 |none=> .fail
 |some k=>match EC k cs with
  |none=> .fail
  |some ds=>zy s e (.lit (Int.ofNat ds.length)) fun s=> .ret (.int k (zi (.op .at (.eD (dL ds)) e)),s)
def Aq (tt:TT) (s:St) (ty id es:Nat) (i:V) (off:Nat):T (Y×St):=match s.h.get id with
 |some o=>match o with
  | .cells cs _=>match tt ty with
    |some ti=>match ti.agg||!(Nat.beq es 1)||!(Nat.beq off 0) with
     |true=> .fail
     |false=>Ic s cs i
    |none=> .fail
  | .vec e t _ ov=>match tt ty with
    |some ti=>if (rowOf t).es=es then zy s i (ed e) fun s=>vf i ov s fun s=>match oy s.pc (ic (rowOf t) (.op .at e i)) i ov with
     |some cs=>match eS off cs with
      |some l=>qQ s (partOf ti l)
      |none=> .fail
     |none=> .fail
     else .fail
    |none=> .fail
  |_=> .fail
 |none=> .fail
def Vx (v:Y) (h:Hp):Y×Hp:=match v with
 | .pV id n t=>match h.get id with
   |some o=>match o with
    | .vec e t' _ ov=>match ov with
      |[]=>match Nat.beq t t' with
       |true=>match fm n (ed e) with
        |true=>(.eD e t,h.drop id)
        |false=>(v,h)
       |false=>(v,h)
      |_=>(v,h)
    |_=>(v,h)
   |none=>(v,h)
 | .xU z t=>(.eD z t,h)
 |v=>(v,h)
def isZ (e:V):Bool:=match e with
 | .lit n=>vC n 0
 |_=>false
def tg (a b:V):V:=match isZ a with
 |true=>b
 |false=> .add a b
def DV (a b:V):V:=match isZ b with
 |true=>a
 |false=> .sub a b
def Ek (e lo n:V):V:=match isZ lo with
 |true=> .op .take e n
 |false=> .op .drop (.op .take e (.add lo n)) lo
def yk {α:Type} (e lo n:V) (s:St) (k:St->T α):T α:=
 kB s (iU lo (.lit 0)) fun s b=>match b with
  |true=> .fail
  |false=>kB s (iU n (.lit 0)) fun s b=>match b with
   |true=> .fail
   |false=>kB s (iU (ed e) (tg lo n)) fun s b=>match b with
    |true=> .fail
    |false=>k s
def B2 (h:Hp) (id t:Nat):Option (V×TypeId):=match h.get id with
 |some o=>match o with
  | .vec e t' ty ov=>match ov with
    |[]=>match Nat.beq t t' with
     |true=>some (e,ty)
     |false=>none
    |_=>none
  |_=>none
 |none=>none
def O9 {α:Type} (v:Y) (s:St) (k:Y->St->T α):T α:=match v with
 | .u5 id lo n t=>match B2 s.h id t with
   |some (e,_)=>yk e lo n s fun s=>k (.eD (Ek e lo n) t) { s with h:=s.h.drop id }
   |none=>k v s
 |v=>match Vx v s.h with
  |(v',h')=>k v' { s with h:=h' }
def HU {α:Type}:List Y->St->(List Y->St->T α)->T α
 |[],s,k=>k [] s
 |v::vs,s,k=>O9 v s fun v' s=>HU vs s fun NC s=>k (v'::NC) s
def Hi {α:Type} (t:Nat):List (V×List Y)->V->St->(V->St->T α)->T α
 |[],e,s,k=>k e s
 |(j,cs)::ov,e,s,k=>Hi t ov e s fun e s=>HU cs s fun cs s=>match rE (rowOf t) cs with
  |some x=>k (.op .set e (eL (nO j) x)) s
  |none=> .fail
def aeD (v:Y) (h:Hp):Option (Nat×V×Nat×List (V×List Y)):=match v with
 | .pV id n t=>match h.get id with
   |some o=>match o with
    | .vec e t' _ ov=>match ov with
      |[]=>none
      |_=>match Nat.beq t t' with
       |true=>match fm n (ed e) with
        |true=>some (id,e,t,ov)
        |false=>none
       |false=>none
    |_=>none
   |none=>none
 |_=>none
def O8 {α:Type} (v:Y) (s:St) (k:Y->St->T α):T α:=match aeD v s.h with
 |some (id,e,t,ov)=>Hi t ov e s fun e' s=>match s.h.get id with
  |some _=>k (.eD e' t) { s with h:=s.h.drop id }
  |none=> .fail
 |none=>O9 v s k
def xS {α:Type}:List Y->St->(List Y->St->T α)->T α
 |[],s,k=>k [] s
 |v::vs,s,k=>O8 v s fun v' s=>xS vs s fun NC s=>k (v'::NC) s
def setCells:List CK->Nat->List Y->V->Option V
 |_,_,[],x=>some x
 |ks,off,v::vs,x=>match fu ks off with
  |some c=>match nB c v with
   |some a=>setCells ks (off+1) vs (.op .set x (eL (.eD (.i (Int.ofNat off))) a))
   |none=>none
  |none=>none
def Ky (r:Row) (e i:V) (off:Nat) (vs:List Y):Option V:=match r with
 | .one c=>match off with
   |0=>match vs with
    |[v]=>match nB c v with
     |some a=>some (.op .set e (eL (nO i) a))
     |none=>none
    |_=>none
   |_=>none
 | .many ks=>match setCells ks off vs (.op .at e i) with
   |some x=>some (.op .set e (eL (nO i) x))
   |none=>none
def Fh (tt:TT) (s:St) (ty id es:Nat) (i:V) (off:Nat) (one:Bool) (vs:List Y):T (Y×St):=
 match s.h.get id with
  |some o=>match o with
   | .vec e t A2 ov=>match tt ty with
     |some ti=>if (rowOf t).es=es/\vs.length=ti.size/\one=true then zy s i (ed e) fun s=>vf i ov s fun s=>match oy s.pc (ic (rowOf t) (.op .at e i)) i ov with
      |some cs=>match ef cs off vs with
       |some mw=>match Hb s.pc i mw ov with
        |some jE=> .ret (Y.undef,{ s with h:=s.h.put id (.vec e t A2 jE) })
        |none=>match wq s.pc i ov with
         |true=>match Ky (rowOf t) e i off vs with
          |some e'=> .ret (Y.undef,{ s with h:=s.h.put id (.vec e' t A2 ov) })
          |none=> .ret (Y.undef,{ s with h:=s.h.put id (.vec e t A2 ((i,mw)::ov)) })
         |false=> .fail
       |none=> .fail
      |none=> .fail
      else .fail
     |none=> .fail
   |_=> .fail
  |none=> .fail
def ail:Y->Bool
 | .pV _ _ _=>true
 | .gL=>true
 | .xU _ _=>true
 | .slice _ _ n c=>match n with
   |0=>match c with
    | .exact k=>match k with
      |0=>true
      |_=>false
    |_=>false
   |_=>false
 |_=>false
def afG (c:CK) (v:Y):Y:=match c with
 | .sl t=>match v with
   | .gL=> .xU (.eD (.i 1)) t
   | .slice i o n k=>match n with
     |0=>match k with
      | .exact m=>match m with
        |0=> .xU (.eD (.i 2)) t
        |m+1=> .slice i o 0 (.exact (m+1))
      |k=> .slice i o 0 k
     |n+1=> .slice i o (n+1) k
   |v=>v
 |_=>v
def Mp:List CK->List Y->List Y
 |[],vs=>vs
 |_::_,[]=>[]
 |c::cs,v::vs=>afG c v::Mp cs vs
def On (r:Row):List CK:=match r with
 | .one c=>[c]
 | .many cs=>cs
def Se (i:V):List (SB×Bool)->Option V
 |[]=>none
 |(c,b)::l=>match c with
  | .eq x y=>match b with
    |true=>match fm x i with
     |true=>some y
     |false=>Se i l
    |false=>Se i l
  |_=>Se i l
def Fg (tt:TT) (s:St) (ty id es:Nat) (i j:V) (off:Nat) (one:Bool) (vs:List Y):T (Y×St):=
 match s.h.get id with
  |some o=>match o with
   | .vec e t A2 ov=>match tt ty with
     |some ti=>if (rowOf t).es=es/\vs.length=ti.size/\one=true then zy s i (ed e) fun s=>vf j ov s fun s=>match kO s.pc (.eq i j) with
      |some true=>match oy s.pc (ic (rowOf t) (.op .at e j)) j ov with
       |some cs=>match ef cs off (Mp ((On (rowOf t)).drop off) vs) with
        |some mw=>match Hb s.pc j mw ov with
         |some jE=> .ret (Y.undef,{ s with h:=s.h.put id (.vec e t A2 jE) })
         |none=>match wq s.pc j ov with
          |true=> .ret (Y.undef,{ s with h:=s.h.put id (.vec e t A2 ((j,mw)::ov)) })
          |false=> .fail
        |none=> .fail
       |none=> .fail
      |_=> .fail
      else .fail
     |none=> .fail
   |_=> .fail
  |none=> .fail
def Fi (tt:TT) (s:St) (ty id es:Nat) (i:V) (off:Nat) (v:Y):T (Y×St):=
 match (if ail v then Se i s.pc else none) with
 |some j=>Fg tt s ty id es i j off (sc v.cells) v.cells
 |none=>xS v.cells s fun vs s=>Fh tt s ty id es i off (sc v.cells) vs
def qF (e:Nat) (own:Option Nat) (x:Y) (h:Hp):Option (V×Nat×Hp):=match x with
 | .pV id n t=>match h.get id with
   |some o=>match o with
    | .vec e0 t0 ty ov=>match ov with
      |[]=>match Nat.beq t t0 with
       |true=>match Nat.beq ty e with
        |true=>match fm n (ed e0) with
         |true=>some (e0,t,h.drop id)
         |false=>none
        |false=>none
       |false=>none
      |_=>none
    |_=>none
   |none=>none
 | .gL=>match own with
   |some t=>some (.eD (.i 0),t,h)
   |none=>none
 | .emp=>match own with
   |some t=>some (.eD (.i 0),t,h)
   |none=>none
 | .xU _ _=>match own with
   |some t=>some (.eD (.i 0),t,h)
   |none=>none
 | .slice _ _ n c=>match n with
   |0=>match c with
    | .exact k=>match k with
      |0=>match own with
       |some t=>some (.eD (.i 0),t,h)
       |none=>none
      |_=>none
    |_=>none
   |_=>none
 |_=>none
def aca:Y->Bool
 | .eD _ _=>true
 |_=>false
def Yf (own:Option Nat):Y->Bool
 | .pV _ _ _=>true
 | .u5 _ _ _ _=>true
 | .gL=>own.isSome
 | .emp=>own.isSome
 | .xU _ _=>own.isSome
 | .slice _ _ n c=>match n with
   |0=>match c with
    | .exact k=>match k with
      |0=>own.isSome
      |_=>false
    |_=>false
   |_=>false
 |_=>false
def S8 (id t:Nat) (ty:TypeId) (e0 n1 m sd:V) (s:St):T (Y×St):=
 yk e0 n1 m s fun s=> .ret (.u5 id (.lit 0) (tg n1 m) t,{ s with h:=s.h.put id (.vec (.op .cat (.op .cat (.op .take e0 n1) sd) (.op .drop e0 (tg n1 m))) t ty []) })
def Ft (tt:TT) (t t2 id:Nat) (n1:V) (t':Nat) (y:Y) (s:St):T (Y×St):=
 match tt t with
 |some ti=>match ti.kind with
  | .slice e=>match tt e with
    |some ie=>match tt t2 with
     |none=> .fail
     |some QG=>match QG.kind with
      | .int _=> .fail
      |_=>
       if ie.size=0\/ie.bytes=0\/¬ie.zero.length=ie.size\/¬(rowOf t').es=ie.size then .fail else
       match B2 s.h id t' with
       |none=> .fail
       |some (e0,ty)=>match y with
        | .u5 id2 Vo n2 KR=>match Nat.beq id2 id with
          |true=>match Nat.beq KR t' with
           |true=>yk e0 Vo n2 s fun s=>S8 id t' ty e0 n1 n2 (Ek e0 Vo n2) s
           |false=> .fail
          |false=> .fail
        |y=>match sE ie.size y s.h with
         |none=> .fail
         |some (m,news)=>match m with
          |0=> .fail
          |m+1=>if m<1000 then match lz (rowOf t') (.eD (.i 0)) (m+1) news with
           |some sd=>S8 id t' ty e0 n1 (.lit (Int.ofNat (m+1))) sd s
           |none=> .fail
           else .fail
    |none=> .fail
  |_=> .fail
 |none=> .fail
def Av (tt:TT) (ty id:Nat) (lo n:V) (t:Nat) (s:St):T (Y×St):=
 match tt ty with
 |some ti=>match ti.kind with
  | .slice e=>match tt e with
    |some ie=>if (rowOf t).es=ie.size/\0<ie.size then match B2 s.h id t with
     |none=> .fail
     |some (e0,A2)=>match rE (rowOf t) ie.zero with
      |none=> .fail
      |some z=>kB s (iU lo (.lit 0)) fun s b=>match b with
       |true=> .fail
       |false=>kB s (iU n (.lit 0)) fun s b=>match b with
        |true=> .fail
        |false=>kB s (rK (tg lo n) (ed e0)) fun s b=>match b with
         |false=> .fail
         |true=> .ret (Y.undef,{ s with h:=s.h.put id (.vec (.op .fill e0 (eL (nO lo) z)) t A2 []) })
     else .fail
    |none=> .fail
  |_=> .fail
 |none=> .fail
def rL (bytes k:Nat):Int:=Int.ofNat (140737488355328 / bytes-k)
def Xx (e0:V) (bytes:Nat):Int:=match OM e0 with
 |true=>rL bytes 0
 |false=>rL bytes 1000000
def X':Y->Bool
 | .pV _ _ _=>true
 | .xU _ _=>true
 | .slice _ _ n _=>match n with
   |0=>true
   |_=>false
 |_=>false
def Ac:List (SB×Bool)->Bool
 |[]=>false
 |(b,v)::l=>match b with
  | .eq _ x=>match x with
    | .dK i=>match i with
      |0=>match v with
       |true=>true
       |false=>Ac l
      |_=>Ac l
    |_=>Ac l
  |_=>Ac l
def L? (m:Nat) (news:List Y) (pc:List (SB×Bool)):Bool:=match m with
 |0=>match news.any X' with
  |true=>Ac pc
  |false=>false
 |_=>false
def Bi (e:Nat) (x:Y) (h:Hp):Option (V×Nat×V×List Y×Hp):=match x with
 | .pV id n t=>match h.get id with
   |some o=>match o with
    | .vec e0 t0 ty ov=>match ov with
      |[]=>none
      |p::l=>match l with
       |[]=>match Nat.beq t t0 with
        |true=>match Nat.beq ty e with
         |true=>match fm n (ed e0) with
          |true=>some (e0,t,p.1,p.2,h.drop id)
          |false=>none
         |false=>none
        |false=>none
       |_=>none
    |_=>none
   |none=>none
 |_=>none
def Aw (e:Nat) (own:Option Nat) (x:Y) (ie:TI) (m:Nat) (news:List Y) (s:St):T (Y×St):=
 xS news s fun Cl s=>match qF e own x s.h with
  |some (e0,t',h0)=>if (rowOf t').es=ie.size/\m<1000 then
   kB s (iU (ed e0) (.lit (rL ie.bytes (m+1)))) fun s b=>match b with
    |true=>match lz (rowOf t') e0 (m+1) Cl with
     |some e1=> .ret (.pV h0.fresh (ed e1) t',{ s with h:=h0.new (.vec e1 t' e []) })
     |none=> .fail
    |false=> .fail
   else .fail
  |none=> .fail
def BO (e:Nat) (x:Y) (ie:TI) (m:Nat) (news:List Y) (s:St):T (Y×St):=
 xS news s fun Cl s=>match Bi e x s.h with
  |some (e0,t',p,cs,h0)=>if (rowOf t').es=ie.size/\m<1000 then
   kB s (iU (ed e0) (.lit (rL ie.bytes (m+1)))) fun s b=>match b with
    |true=>kB s (iU p (ed e0)) fun s b=>match b with
     |true=>match lz (rowOf t') e0 (m+1) Cl with
      |some e1=> .ret (.pV h0.fresh (ed e1) t',{ s with h:=h0.new (.vec e1 t' e [(p,cs)]) })
      |none=> .fail
     |false=> .fail
    |false=> .fail
   else .fail
  |none=> .fail
def BN (e:Nat) (own:Option Nat) (x:Y) (ie:TI) (m:Nat) (news:List Y) (s:St):T (Y×St):=
 match qF e own x s.h with
 |some (e0,t',h0)=>if (rowOf t').es=ie.size/\m=0 then
  kB s (rK (ed e0) (.dK 0)) fun s b=>match b with
   |true=>kB s (iU (ed e0) (.lit (rL ie.bytes 1))) fun s b=>match b with
    |true=>match lz (rowOf t') e0 1 ie.zero with
     |some e1=> .ret (.pV h0.fresh (ed e1) t',{ s with h:=h0.new (.vec e1 t' e [(.dK 0,news)]) })
     |none=> .fail
    |false=> .fail
   |false=>Aw e own x ie m news s
  else .fail
 |none=> .fail
def BM (tt:TT) (t t2:Nat) (x y:Y) (s:St):T (Y×St):=
 match tt t with
 |some ti=>match ti.kind with
  | .slice e=>match tt e with
    |some ie=>match tt t2 with
     |none=> .fail
     |some QG=>match QG.kind with
      | .int _=> .fail
      |_=>
       if ie.size=0\/ie.bytes=0\/¬ie.zero.length=ie.size\/¬ie.bytes<=400 then .fail else
       match y with
       | .eD e2 ty2=>match qF e ti.own x s.h with
         |some (e0,t',h0)=>if (rowOf t').es=ie.size/\rowOf ty2=rowOf t' then
          kB s (qW (ed e2) (.lit 0)) fun s b=>match b with
           |true=> .ret (x,s)
           |false=>kB s (iU (ed e2) (.lit (Xx e0 ie.bytes))) fun s b=>match b with
            |true=>kB s (iU (ed e0) (.lit 1000000)) fun s b=>match b with
             |true=>match OM e0 with
              |true=> .ret (.pV h0.fresh (ed e2) t',{ s with h:=h0.new (.vec e2 t' e []) })
              |false=> .ret (.pV h0.fresh (ed (.op .cat e0 e2)) t',{ s with h:=h0.new (.vec (.op .cat e0 e2) t' e []) })
             |false=> .fail
            |false=> .fail
          else .fail
         |none=> .fail
       |y=>match sE ie.size y s.h with
        |some (m,news)=>match m with
         |0=> .ret (x,s)
         |m+1=>match Bi e x s.h with
          |some _=>BO e x ie m news s
          |none=>match L? m news s.pc with
           |true=>BN e ti.own x ie m news s
           |false=>Aw e ti.own x ie m news s
        |none=> .fail
    |none=> .fail
  |_=> .fail
 |none=> .fail
def J6 (tt:TT) (t:Nat) (l c:Y) (s:St):T (Y×St):=match l with
 | .int k n=>match c with
   | .int k2 n2=>match fm n n2 with
     |false=> .fail
     |true=>match tt t with
      |none=> .fail
      |some i=>match i.own with
       |none=> .fail
       |some o=>match i.kind with
        | .slice e=>match tt e with
          |none=> .fail
          |some ie=>match rE (rowOf o) ie.zero with
           |none=> .fail
           |some z=>if ie.size=(rowOf o).es/\0<ie.size/\ie.bytes≠0/\ie.zero.length=ie.size then
            kB s (iU n (.lit 0)) fun s b=>match b with
             |true=> .fail
             |false=>kB s (qW n (.lit 0)) fun s b=>match b with
              |true=>match rB tt t (.int k (.lit 0)) (.int k2 (.lit 0)) s.h with
               |some (v,h)=> .ret (v,{ s with h:=h })
               |none=> .fail
              |false=>kB s (iU n (.lit (rL ie.bytes 0))) fun s b=>match b with
               |true=> .ret (.pV s.h.fresh (ed (.op .rep n z)) o,{ s with h:=s.h.new (.vec (.op .rep n z) o e []) })
               |false=> .fail
            else .fail
        |_=> .fail
   |_=> .fail
 |_=> .fail
def C6 (v:Y):Bool:=match k8 v with
 |some n=>vC n 0
 |none=>false
def Kb (tt:TT) (s:St) (ty t:Nat) (e:V) (lo hi:Option Y) (mx:Option Y):T (Y×St):=match mx with
 |some m=>match C6 m with
  |true=>match uu tt ty with
   |none=> .fail
   |some _=>match lo with
    |none=>match hi with
     |some hv=>match C6 hv with
      |true=> .ret (.xU (.op .take e (.lit 0)) t,s)
      |false=> .fail
     |none=> .fail
    |some _=> .fail
  |false=> .fail
 |none=>match uu tt ty with
  |none=> .fail
  |some z=>if z=(rowOf t).es then
   (match hi with
   |none=>match lo with
    |some (.int _ l)=>kB s (iU l (.lit 0)) fun s b=>match b with
     |true=> .fail
     |false=>kB s (iU (ed e) l) fun s b=>match b with
      |true=> .fail
      |false=> .ret (.eD (.op .drop e l) t,s)
    |_=> .fail
   |some (.int _ h)=>kB s (iU (ed e) h) fun s b=>match b with
    |true=> .fail
    |false=>match lo with
     |none=>kB s (iU h (.lit 0)) fun s b=>match b with
      |true=> .fail
      |false=> .ret (.eD (.op .take e h) t,s)
     |some (.int _ l)=>kB s (iU l (.lit 0)) fun s b=>match b with
      |true=> .fail
      |false=>kB s (iU h l) fun s b=>match b with
       |true=> .fail
       |false=> .ret (.eD (.op .drop (.op .take e h) l) t,s)
     |_=> .fail
   |_=> .fail)
   else .fail
def loE (lo:Option Y):Option V:=match lo with
 |none=>some (.lit 0)
 |some v=>match v with
  | .int _ l=>some l
  |_=>none
def Dw (tt:TT) (s:St) (ty id t:Nat) (B_ n0:V) (lo hi mx:Option Y):T (Y×St):=
 match uu tt ty with
 |none=> .fail
 |some z=>if z=(rowOf t).es/\z≠0 then match loE lo with
  |none=> .fail
  |some l=>kB s (iU l (.lit 0)) fun s b=>match b with
   |true=> .fail
   |false=>match hi with
    |none=>match mx with
     |some _=> .fail
     |none=>kB s (iU n0 l) fun s b=>match b with
      |true=> .fail
      |false=> .ret (.u5 id (tg B_ l) (DV n0 l) t,s)
    |some hv=>match hv with
     | .int _ h=>kB s (iU h l) fun s b=>match b with
       |true=> .fail
       |false=>match mx with
        |some mv=>match mv with
         | .int _ m=>kB s (iU m h) fun s b=>match b with
           |true=> .fail
           |false=>kB s (iU n0 m) fun s b=>match b with
            |true=> .fail
            |false=> .ret (.any,s)
         |_=> .fail
        |none=>kB s (iU n0 h) fun s b=>match b with
         |false=> .ret (.u5 id (tg B_ l) (DV h l) t,s)
         |true=>match isZ B_ with
          |false=> .fail
          |true=>match B2 s.h id t with
           |none=> .fail
           |some (e,_)=>kB s (iU (ed e) h) fun s b=>match b with
            |true=> .fail
            |false=> .ret (.u5 id (tg B_ l) (DV h l) t,s)
     |_=> .fail
  else .fail
def Ka (tt:TT) (s:St) (ty:Nat) (z:V) (t:Nat) (lo hi mx:Option Y):T (Y×St):=
 match mx with
 |some _=> .fail
 |none=>match uu tt ty with
  |none=> .fail
  |some _=>match oh hi 0 0 with
   |some 0=>match oh lo 0 0 with
    |some 0=> .ret (.xU z t,s)
    |_=> .fail
   |_=> .fail
def JW (tt:TT) (s:St) (ty id t:Nat) (lo n:V) (ix:Y):T (Y×St):=match ix with
 | .int _ i=>match uu tt ty with
   |some z=>if z=(rowOf t).es then zy s i n fun s=> .ret (.Ax id z (tg lo i) 0,s) else .fail
   |none=> .fail
 |_=> .fail
def Yj:Y->Bool
 | .kG _=>true
 |_=>false
def JZ (tt:TT) (s:St) (ty:Nat) (e:V) (ix:Y):T (Y×St):=match ix with
 | .int _ i=>match tt ty with
   |some ti=>match ti.kind with
    | .string=>zy s i (ed e) fun s=> .ret (.int .u8 (zi (.op .at e i)),s)
    |_=> .fail
   |none=> .fail
 |_=> .fail
def hiE (e:V) (hi:Option Y):Option V:=match hi with
 |none=>some (ed e)
 |some v=>match v with
  | .int _ h=>some h
  |_=>none
def JY (tt:TT) (s:St) (ty:Nat) (e:V) (lo hi mx:Option Y):T (Y×St):=match mx with
 |some _=> .fail
 |none=>match tt ty with
  |none=> .fail
  |some ti=>match ti.kind with
   | .string=>match loE lo with
     |none=> .fail
     |some l=>match hiE e hi with
      |none=> .fail
      |some h=>kB s (iU l (.lit 0)) fun s b=>match b with
       |true=> .fail
       |false=>kB s (iU h l) fun s b=>match b with
        |true=> .fail
        |false=>kB s (iU (ed e) h) fun s b=>match b with
         |true=> .fail
         |false=> .ret (.kG (.op .sub e (eL (nO l) (eL (nO h) (.eD (.i 0))))),s)
   |_=> .fail
def C9 (x y:Y):Option (V×V):=match Yj x||Yj y with
 |false=>none
 |true=>match uL x with
  |none=>none
  |some a=>match uL y with
   |none=>none
   |some b=>some (a,b)
def GR (a b:V):SB:=.not (.eq (.op .slt a b) (.lit 0))
def Pe (op:BinOp) (a b:V) (s:St):T (Y×St):=match op with
 | .add=>kB s (iU (ed a) (.lit 1000000000)) fun s c=>match c with
   |false=> .fail
   |true=>kB s (iU (ed b) (.lit 1000000000)) fun s c=>match c with
    |false=> .fail
    |true=> .ret (.kG (.op .cat a b),s)
 | .eql=> .ret (.bool (qW (nk a) (nk b)),s)
 | .neq=> .ret (.bool (.not (qW (nk a) (nk b))),s)
 | .lss=> .ret (.bool (GR a b),s)
 | .gtr=> .ret (.bool (GR b a),s)
 | .leq=> .ret (.bool (xE (GR b a)),s)
 | .geq=> .ret (.bool (xE (GR a b)),s)
 |_=> .fail
def Dy (tt:TT) (sT dT:Nat) (e:V) (s:St):T (Y×St):=match tt sT with
 |none=> .fail
 |some j=>match j.kind with
  | .string=>match tt dT with
    |none=> .fail
    |some i=>match i.kind with
     | .slice el=>match tt el with
       |some ie=>match ie.kind with
        | .int k=>match k with
          | .u8=>kB s (qW (ed e) (.lit 0)) fun s c=>match c with
            |true=> .ret (.slice s.h.fresh 0 0 (.rest 1),{ s with h:=s.h.new (.cells [] el) })
            |false=> .ret (.pV s.h.fresh (ed e) 14,{ s with h:=s.h.new (.vec e 14 el []) })
          |_=> .fail
        |_=> .fail
       |none=> .fail
     |_=> .fail
  |_=> .fail
def Cq (c:CK):TK:=match c with
 | .int k=> .int k
 |_=> .string
def xJ (m:Y) (h:Hp):Option (Nat×V×Nat):=match m with
 | .map id=>match h.get id with
   |some o=>match o with
    | .kQ e t=>some (id,e,t)
    |_=>none
   |none=>none
 |_=>none
def mapKey (tt:TT) (ty t:Nat) (k:Y):Option (V×TI):=match tt ty with
 |none=>none
 |some ti=>match ti.kind with
  | .map kt et=>match tt kt with
    |none=>none
    |some ki=>if ki.kind=Cq (mapOf t).1 then match tt et with
     |none=>none
     |some ie=>match nB (mapOf t).1 k with
      |none=>none
      |some a=>some (nk a,ie)
     else none
  |_=>none
def HR (e a:V):SB:=match e with
 | .eD d=>match a with
   | .eD k=> .lit (!(dj d.l k).isSome)
   |a=> .eq (.op .OE (.eD d) a) (.lit 0)
 |e=> .eq (.op .OE e a) (.lit 0)
def Ap (tt:TT) (ty:Nat) (k:Y) (ok:Bool) (e:V) (t:Nat) (s:St):T (Y×St):=match mapKey tt ty t k with
 |none=> .fail
 |some (a,ie)=>match zeroOf ie with
  |none=> .fail
  |some z=>kB s (HR e a) fun s b=>match b with
   |true=> .ret (if ok then .tuple [z,.bool (.lit false)] else z,s)
   |false=> .ret (if ok then .tuple [r9 (mapOf t).2 (.op .Gq e a),.bool (.lit true)] else r9 (mapOf t).2 (.op .Gq e a),s)
def Ph (tt:TT) (ty id:Nat) (k x:Y) (e:V) (t:Nat) (s:St):T (Y×St):=match mapKey tt ty t k with
 |none=> .fail
 |some (a,_)=>match nB (mapOf t).2 x with
  |none=> .fail
  |some b=> .ret (Y.undef,{ s with h:=s.h.put id (.kQ (.op .zD e (eL a b)) t) })
def J4 (tt:TT) (ty:Nat) (m k x:Y) (s:St):T (Y×St):=xS [x] s fun xs s=>match xs with
 |[x]=>match xJ m s.h with
  |some (id,e,t)=>Ph tt ty id k x e t s
  |none=> .fail
 |_=> .fail
def Pr (tt:TT) (ty id:Nat) (k:Y) (e:V) (t:Nat) (s:St):T (Y×St):=match mapKey tt ty t k with
 |none=> .fail
 |some (a,_)=> .ret (Y.undef,{ s with h:=s.h.put id (.kQ (.op .Gt e a) t) })
def Fa (m:Y) (h:Hp):Option (Nat×V×Nat×List Nat×List (V×Y)):=match m with
 | .map id=>match h.get id with
   |some o=>match o with
    | .uo e t fq ov=>some (id,e,t,fq,ov)
    |_=>none
   |none=>none
 |_=>none
def JU (tt:TT) (ty:Nat) (k:Y):Option (V×TI):=match tt ty with
 |none=>none
 |some ti=>match ti.kind with
  | .map kt et=>match tt kt with
    |none=>none
    |some ki=>if ki.kind= .int .i64 then match tt et with
     |none=>none
     |some ie=>match k with
      | .int kk x=>if kk= .i64 then some (x,ie) else none
      |_=>none
     else none
  |_=>none
def uh {α:Type} (x:V):List (V×Y)->St->(Option Y->St->T α)->T α
 |[],s,k=>k none s
 |(y,v)::l,s,k=>match fm x y with
  |true=>k (some v) s
  |false=>kB s (rK x y) fun s b=>match b with
   |true=>k (some v) s
   |false=>uh x l s k
def JT {α:Type} (x:V) (v:Y):List (V×Y)->St->(Option (List (V×Y))->St->T α)->T α
 |[],s,k=>k none s
 |(y,u)::l,s,k=>match fm x y with
  |true=>k (some ((y,v)::l)) s
  |false=>kB s (rK x y) fun s b=>match b with
   |true=>k (some ((y,v)::l)) s
   |false=>JT x v l s fun r s=>match r with
    |some l'=>k (some ((y,u)::l')) s
    |none=>k none s
def Ao (tt:TT) (ty:Nat) (k:Y) (ok:Bool) (e:V) (ov:List (V×Y)) (s:St):T (Y×St):=match JU tt ty k with
 |none=> .fail
 |some (x,ie)=>match zeroOf ie with
  |none=> .fail
  |some z=>uh x ov s fun r s=>match r with
   |some v=> .ret (if ok then .tuple [v,.bool (.lit true)] else v,s)
   |none=>kB s (HR e (nO x)) fun s b=>match b with
    |true=> .ret (if ok then .tuple [z,.bool (.lit false)] else z,s)
    |false=> .fail
def An (tt:TT) (ty id:Nat) (k v:Y) (e:V) (t:Nat) (fq:List Nat) (ov:List (V×Y)) (s:St):T (Y×St):=match JU tt ty k with
 |none=> .fail
 |some (x,_)=>JT x v ov s fun r s=>match r with
  |some jE=> .ret (Y.undef,{ s with h:=s.h.put id (.uo e t fq jE) })
  |none=>kB s (HR e (nO x)) fun s b=>match b with
   |true=> .ret (Y.undef,{ s with h:=s.h.put id (.uo (.op .zD e (eL (nO x) (.eD (.i 0)))) t fq ((x,v)::ov)) })
   |false=> .fail
def alE (tt:TT) (t:Nat):Nat:=match tt t with
 |some ti=>match ti.kind with
  | .slice e=>e
  |_=>0
 |none=>0
def Y6 (tt:TT) (t:Nat):List Nat:=match tt t with
 |some ti=>match ti.kind with
  | .map _ et=>match tt et with
    |some ie=>match ie.kind with
     | .pointer s=>match tt s with
       |some si=>match si.kind with
        | .struct fs=>s::0::fs.map fun f=>alE tt f.2.1
        |_=>[]
       |none=>[]
     | .slice e=>[0,e]
     |_=>[]
    |none=>[]
  |_=>[]
 |none=>[]
abbrev eB:=Nat->List Y->St->T (Y×St)
def AS (s:St) (x:Operand) (f:Y->T (Y×St)):T (Y×St):=match ev s x with |some v=>f v|none=> .fail
def ab5 (tt:TT) (t:Nat):Option Nat:=match tt t with
 |some ti=>ti.own
 |none=>none
def w9 (tt:TT) (s:St) (b:Builtin) (ts:List Nat) (args:List Y):T (Y×St):=
 match b,ts,args with
 | .len,[t],[x]=>qQ s (Y9 tt t x s.h)
 | .append,[t,t2],[.u5 id lo n t',y]=>match isZ lo with
   |true=>Ft tt t t2 id n t' y s
   |false=> .fail
 | .append,[t,t2],[x,y]=>match Yf (ab5 tt t) x||aca y with
   |true=>BM tt t t2 x y s
   |false=>Cc s (Fs tt t t2 x y s.h)
 | .delete,[t,_],[m,k]=>match xJ m s.h with
   |some (id,e,t')=>Pr tt t id k e t' s
   |none=>oo tt t m k s fun s=>Oo s (Fq tt s.pc t m k s.h)
 | .clear,[t],[.pV id n t']=>Av tt t id (.lit 0) n t' s
 | .clear,[t],[.u5 id lo n t']=>Av tt t id lo n t' s
 | .clear,[t],[x]=>Oo s (Kd tt t x s.h)
 | .min,_,.int k a::xs=>ue false xs a k s
 | .max,_,.int k a::xs=>ue true xs a k s
 |_,_,_=> .fail
def Ke (tt:TT) (call:eB) (s:St) (c:Call):T (Y×St):=
 match evs s c.args.toList with
 |none=> .fail
 |some args=>match c.callee with
  | .builtin b=>w9 tt s b c.argTypes.toList args
  | .value f=>match ev s f with
    |some (.func (.func g) fs cs)=>call g (fs++args++cs) s
    |_=> .fail
  | .invoke _ _=> .fail
def ahf:SB->Bool
 | .lit _=>true
 | .not c=>match c with
   | .eq _ z=>match z with
     | .lit n=>vC n 0
     |_=>false
   |_=>false
 |_=>false
def m_ {α:Type} (v:Y) (s:St) (k:Y->St->T α):T α:=match v with
 | .bool c=>match ahf c with
   |true=>k (.bool c) s
   |false=>kB s c fun s b=>k (.bool (.lit b)) s
 |v=>k v s
def J5 (tt:TT) (call:eB) (s:St) (op:Op):T (Y×St):=
 match op with
 | .move x=>AS s x fun v=> .ret (v,s)
 | .assign x=>AS s x fun v=> .ret (v,s)
 | .pick c a b=>AS s c fun c=>match c with
   | .bool c=>kB s c fun s b'=>if b' then AS s a fun v=> .ret (v,s) else AS s b fun v=> .ret (v,s)
   |_=> .fail
 | .alloc t=>match tt t with
   |some i=> .ret (.ptr s.h.fresh 0,{ s with h:=s.h.new (.cells i.zero t) })
   |none=> .fail
 | .box t x=>AS s x fun v=>if sc v.cells then .ret (.ptr s.h.fresh 0,{ s with h:=s.h.new (.cells v.cells t) }) else .fail
 | .build t parts=>match w8 s parts.toList with
   |some ps=>qQ s (Kg tt t ps)
   |none=> .fail
 | .buildSlice t n parts=>match w8 s parts.toList with
   |some ps=>Cc s (ur tt t n ps s.h)
   |none=> .fail
 | .makeSlice t l c=>AS s l fun lv=>match ev s c with
   |some cv=>match rB tt t lv cv s.h with
    |some r=>Cc s (some r)
    |none=>J6 tt t lv cv s
   |none=> .fail
 | .load t x=>AS s x fun p=>match p with
   | .Ax id es i off=>Aq tt s t id es i off
   |p=>qQ s (BL tt t p s.h)
 | .store t x y=>AS s x fun p=>match ev s y with
   |some v=>m_ v s fun v s=>match p with
    | .Ax id es i off=>Fi tt s t id es i off v
    |p=>Oo s (J0 tt t p v s.h)
   |none=> .fail
 | .nilCheck x=>AS s x fun v=>match v with
   | .ptr _ _=> .ret (v,s)
   | .nQ _=> .ret (v,s)
   | .Ax _ _ _ _=> .ret (v,s)
   |_=> .fail
 | .binOp op t x y _=>AS s x fun a=>match ev s y with
   |some b=>match a with
    | .agg xs=>match b,op with
      | .agg ys,.eql=>match Dx tt t xs ys with
        |some c=> .ret (.bool c,s)
        |none=> .fail
      | .agg ys,.neq=>match Dx tt t xs ys with
        |some c=> .ret (.bool (xE c),s)
        |none=> .fail
      |_,_=> .fail
    |a=>match OC tt t a b with
     |some e=>aeK s e op
     |none=>match Ou op a b with
      |some (q,k,e,d)=>aez s q k e d
      |none=>match C9 a b with
       |some (x,y)=>Pe op x y s
       |none=>qQ s (Zb tt t op a b)
   |none=> .fail
 | .unOp op _ x=>AS s x fun v=>qQ s (afK op v)
 | .convert sT dT x=>AS s x fun v=>match v with
   | .kG e=>Dy tt sT dT e s
   |v=>Cc s (pM tt sT dT v s.h)
 | .makeFunc fn fs cs=>match evs s fs.toList,evs s cs.toList with
   |some f,some c=> .ret (.func fn f c,s)
   |_,_=> .fail
 | .makeMap t r=>match r with
   |none=>match ab5 tt t with
    |some m=>match Nat.ble 100 m with
     |true=> .ret (.map s.h.fresh,{ s with h:=s.h.new (.uo (.eD (.i 0)) (m-100) (Y6 tt t) []) })
     |false=> .ret (.map s.h.fresh,{ s with h:=s.h.new (.kQ (.eD (.i 0)) m) })
    |none=> .ret (.map s.h.fresh,{ s with h:=s.h.new (.map [] 0) })
   |some _=> .fail
 | .slice t x lo hi mx=>AS s x fun v=>match Ig s lo,Ig s hi,Ig s mx with
   |some l,some h,some m=>match v with
    | .eD e t'=>Kb tt s t t' e l h m
    | .pV id n t'=>Dw tt s t id t' (.lit 0) n l h m
    | .u5 id lo n t'=>Dw tt s t id t' lo n l h m
    | .kG e=>JY tt s t e l h m
    | .xU z t'=>Ka tt s t z t' l h m
    | .gL=>IK s h fun h s=>qQ s (Al tt t .gL l h m)
    | .slice id o 0 (.exact 0)=>IK s h fun h s=>qQ s (Al tt t (.slice id o 0 (.exact 0)) l h m)
    |v=>match Al tt t v l h m with
    |some v=> .ret (v,s)
    |none=>qQ s (Fj tt t v l h m s.h)
   |_,_,_=> .fail
 | .fieldAddr t x f=>AS s x fun v=>qQ s (vY tt t v f)
 | .field t x f=>AS s x fun v=>qQ s (J9 tt t v f)
 | .indexAddr t x i=>AS s x fun v=>match ev s i with
   |some i=>match v with
    | .xK k ks=>qQ s (J7 tt s.pc t k ks i)
    | .eD e t'=>Kc tt s t t' e i
    | .pV id n t'=>JX tt s t id t' n i
    | .u5 id lo n t'=>JW tt s t id t' lo n i
    | .ptr id o=>match S6 tt t i with
      |some (n,e)=>if o=0 then zy s e (.lit (Int.ofNat n)) fun s=> .ret (.Ax id 1 e 0,s) else .fail
      |none=>Iy tt t (.ptr id o) i s fun i s=>qQ s (oJ tt t (.ptr id o) i)
    |v=>Iy tt t v i s fun i s=>qQ s (oJ tt t v i)
   |none=> .fail
 | .index t x i=>AS s x fun v=>match ev s i with
   |some i=>match v with
    | .kG e=>JZ tt s t e i
    | .agg cs=>match S6 tt t i with
      |some (n,e)=>match Nat.beq cs.length n with
       |true=>Ic s cs e
       |false=> .fail
      |none=>Iy tt t (.agg cs) i s fun i s=>qQ s (Ar tt t (.agg cs) i)
    |v=>Iy tt t v i s fun i s=>qQ s (Ar tt t v i)
   |none=> .fail
 | .lookup t m k ok=>AS s m fun v=>match ev s k with
   |some k=>match xJ v s.h with
    |some (_,e,t')=>Ap tt t k ok e t' s
    |none=>match Fa v s.h with
     |some (_,e,_,_,ov)=>Ao tt t k ok e ov s
     |none=>oo tt t v k s fun s=>qQ s (Fm tt s.pc t v k ok s.h)
   |none=> .fail
 | .mapUpdate t m k x=>AS s m fun v=>match ev s k,ev s x with
   |some k,some x=>match xJ v s.h with
    |some _=>J4 tt t v k x s
    |none=>match Fa v s.h with
     |some (id,e,t',fq,ov)=>An tt t id k x e t' fq ov s
     |none=>oo tt t v k s fun s=>Oo s (rA tt s.pc t v k x s.h)
   |_,_=> .fail
 | .insert t m k x=>AS s m fun v=>match ev s k,ev s x with
   |some k,some x=>match xJ v s.h with
    |some _=>J4 tt t v k x s
    |none=>match Fa v s.h with
     |some (id,e,t',fq,ov)=>An tt t id k x e t' fq ov s
     |none=>oo tt t v k s fun s=>Oo s (rA tt s.pc t v k x s.h)
   |_,_=> .fail
 | .range t x=>AS s x fun v=>Cc s (J3 tt t v s.h)
 | .next x isS=>AS s x fun v=>Cc s (Pj v isS s.h)
 | .extract x i=>AS s x fun v=>match v with
   | .tuple vs=>qQ s (fu vs i)
   |_=> .fail
 | .call c=>Ke tt call s c
 |_=> .fail
def wM {α:Type} (ops:List Oper) (s:St) (o:Oper) (f:St->Bool->T α):T α:=
 match o.guard with
 |none=>f s true
 |some (j,want)=>match fu ops j with
  |some oj=>match oj.dst with
   |some d=>match s.bG.get d with
    |some (.bool c)=>kB s c fun s b=>f s (b == want)
    |some (.tuple _)=>f s false
    |_=> .fail
   |none=> .fail
  |none=> .fail
def MB (tt:TT) (call:eB) (all:List Oper):List Oper->St->T St
 |[],s=> .ret s
 |o::rest,s=>wM all s o fun s b=>
  if b then (J5 tt call s o.op).bind fun (v,s')=>MB tt call all rest (s'.Lr o.dst v)
  else MB tt call all rest (s.Lr o.dst Y.undef)
inductive Ex where
 |normal
 |exit (id:Nat)
 |ret
 deriving DecidableEq,Inhabited
def vX (body:St->T (Ex×St)):Nat->St->T (Ex×St)
 |0,_=> .fail
 |n+1,s=>(body s).bind fun (e,s')=>match e with
  | .normal=>vX body n s'
  |e=> .ret (e,s')
def jL (tt:TT) (call:eB) (draw:Nat->List Oper->St->T St) (lf:Nat):Code->St->T (Ex×St)
 | .skip,s=> .ret (.normal,s)
 | .region id ops d,s=>
   if d then (draw id ops.toList s).bind fun s'=> .ret (.normal,s')
   else (MB tt call ops.toList ops.toList s).bind fun s'=> .ret (.normal,s')
 | .seq a b,s=>(jL tt call draw lf a s).bind fun (e,s')=>match e with
   | .normal=>jL tt call draw lf b s'
   |e=> .ret (e,s')
 | .cond c x y,s=>match ev s c with
   |some (.bool c)=>kB s c fun s b=>if b then jL tt call draw lf x s else jL tt call draw lf y s
   |_=> .fail
 | .block id b,s=>(jL tt call draw lf b s).bind fun (e,s')=>match e with
   | .exit j=> .ret (if j=id then .normal else .exit j,s')
   |e=> .ret (e,s')
 | .loop b,s=>vX (jL tt call draw lf b) lf s
 | .exit id,s=> .ret (.exit id,s)
 | .scope b,s=>jL tt call draw lf b s
 | .label _,s=> .ret (.normal,s)
 | .ret,s=> .ret (.ret,s)
 |_,_=> .fail
def cC:List Y->Nat->Tr Y->Tr Y
 |[],_,t=>t
 |v::vs,i,t=>cC vs (i+1) (t.put i (some v))
def Am (tt:TT) (s:St):ResultVar->Option Y
 | .tmp t=>s.bG.get t
 | .cell a t=>match s.bG.get a with
   |some p=>BL tt t p s.h
   |none=>none
def lI (tt:TT) (s:St):List ResultVar->Option (List Y)
 |[]=>some []
 |r::rs=>match Am tt s r with
  |none=>none
  |some v=>match lI tt s rs with
   |none=>none
   |some vs=>some (v::vs)
def J8 (tt:TT) (ft:Nat->Option Func) (hook:Nat->Option (List Y->St->T (Y×St))) (draw:eB->Nat->Nat->List Oper->St->T St) (lf:Nat):Nat->eB
 |0,_,_,_=> .fail
 |n+1,g,args,s=>
  match hook g with
  |some h=>h args s
  |none=>match ft g with
   |none=> .fail
   |some fn=>match fn.body with
    |none=> .fail
    |some c=>
     (jL tt (J8 tt ft hook draw lf n) (draw (J8 tt ft hook draw lf n) g) lf c { s with bG:=cC args 0 .nil }).bind fun (e,s')=>
      match e with
      | .exit _=> .fail
      |_=>match lI tt s' fn.results.toList with
       |some [v]=> .ret (v,{ s' with bG:=s.bG })
       |some vs=> .ret (.tuple vs,{ s' with bG:=s.bG })
       |none=> .fail
end
end Go.As
end
section
namespace Go.As
structure En where
 ρ:Nat->Int
 θ:Nat->Nat×Nat
 κ:Nat->Nat
 dm:Nat->Prop
 ro:Nat->Prop
 hd:Nat->Option (Nat×D×Nat):=fun _=>none
def dy (s:List Nat):ByteArray:=⟨(s.map UInt8.ofNat).toArray⟩
def kJ (h:Array Obj) (b o:Nat):Option Value:=
 match h[b]? with
 |some (.cells c _ _)=>c[o]?
 |_=>none
theorem oM (w:World) (b o:Nat):w.cell? ⟨b,o,none⟩ = kJ w.heap b o:=by
 unfold World.cell? kJ
 grind
def gk (h:Array Obj) (b o:Nat) (us:List Value):Prop:= ∀i u,us[i]?=some u->kJ h b (o+i)=some u
inductive Rd (ro:Nat->Prop) (h:Array Obj):CK->D->Value->Prop where
 |int (k:IntKind) (n:Int):Rd ro h (.int k) (.i n) (.int k n)
 |bool (b:Bool):Rd ro h .bool (.i (if b then 1 else 0)) (.bool b)
 |str (s:ByteArray):Rd ro h .str (uD s) (.string s)
 |nil (t:Nat):Rd ro h (.sl t) (.i 1) (.slice none 0 0)
 |wO (t:Nat) (a:Addr) (cap:Nat):Rd ro h (.sl t) (.i 2) (.slice (some a) 0 cap)
 |one (t:Nat) (c:CK) (b o cap:Nat) (ds:List D) (f:Nat->Value) (hr:rowOf t= .one c) (hc:ds.length<=cap) (hb:ro b)
  (U: ∀i d,ds[i]?=some d->kJ h b (o+i)=some (f i)) (Z: ∀i d,ds[i]?=some d->Rd ro h c d (f i)):Rd ro h (.sl t) (dL ds) (.slice (some ⟨b,o,none⟩) ds.length cap)
 |many (t:Nat) (cs:List CK) (b o cap:Nat) (rows:List (List D)) (f:Nat->Nat->Value) (hr:rowOf t= .many cs) (hc:rows.length<=cap) (hb:ro b) (W: ∀r∈rows,r.length=cs.length)
  (U: ∀i r j d,rows[i]?=some r->r[j]?=some d->kJ h b (o+i*cs.length+j)=some (f i j))
  (Z: ∀i r j d c,rows[i]?=some r->r[j]?=some d->cs[j]?=some c->Rd ro h c d (f i j)):Rd ro h (.sl t) (dL (rows.map dL)) (.slice (some ⟨b,o,none⟩) rows.length cap)
theorem Rd.aaa {ro:Nat->Prop} {h:Array Obj} {c:CK} {d:D} {v:Value} (r:Rd ro h c d v):v.oneCell'=true:=by cases r<;>rfl
theorem Rd.cD {ro n6:Nat->Prop} {h h':Array Obj} (k1: ∀b,ro b->n6 b) (k2: ∀b,ro b->h'[b]?=h[b]?) {c:CK} {d:D} {v:Value} (r:Rd ro h c d v):Rd n6 h' c d v:=by
 have hk: ∀b o u,ro b->kJ h b o=some u->kJ h' b o=some u:=by
  intro b o u hb hu
  grind [kJ]
 induction r with
 |int k n=>exact .int k n
 |bool b=>exact .bool b
 |str s=>exact .str s
 |nil t=>exact .nil t
 |wO t a cap=>exact .wO t a cap
 |one t c b o cap ds f hr hc hb U Z ih=>exact .one t c b o cap ds f hr hc (k1 b hb) (fun i d hi=>hk _ _ _ hb (U i d hi)) ih
 |many t cs b o cap rows f hr hc hb W U Z ih=>exact .many t cs b o cap rows f hr hc (k1 b hb) W (fun i r j d hi hj=>hk _ _ _ hb (U i r j d hi hj)) ih
def eZ (E:En) (id off len:Nat) (a:Addr) (cap:Nat):NB->Prop
 | .exact c=>cap=c/\((a=⟨(E.θ id).1,(E.θ id).2+off,none⟩)\/c=0)
 | .rest es=>(a=⟨(E.θ id).1,(E.θ id).2+off,none⟩/\off+cap*es=E.κ id)\/(cap=0/\len=0/\off=E.κ id)
mutual
def VR (E:En) (h:Array Obj):Y->Value->Prop
 | .bool b,v=>v= .bool (b.den E.ρ)
 | .int k e,v=>v= .int k (e.den E.ρ)
 | .str s,v=>v= .string (dy s)/\∀b∈s,b<256
 | .ptr id off,v=>v= .pointer (some ⟨(E.θ id).1,(E.θ id).2+off,none⟩)/\E.dm id
 | .u9,v=>v= .pointer none
 | .nQ cs,v=> ∃b o us,v= .pointer (some ⟨b,o,none⟩)/\E.ro b/\cJ E h cs us/\gk h b o us/\∀u∈us,u.oneCell'=true
 | .slice id off len c,v=>E.dm id/\∃a cap,v= .slice (some a) len cap/\len<=cap/\eZ E id off len a cap c
 | .gL,v=>v= .slice none 0 0
 | .ro cs n full,v=> ∃b o cap us,v= .slice (some ⟨b,o,none⟩) n cap/\n<=cap/\(full=true->cap=n)/\E.ro b/\cJ E h cs us/\gk h b o us/\∀u∈us,u.oneCell'=true
 | .map id,v=>v= .map (some (E.θ id).1)/\E.dm id
 | .tI,v=>v= .map none
 | .func fn fs cs,v=> ∃us ws,v= .func fn us.toArray ws.toArray/\cJ E h fs us/\cJ E h cs ws
 | .xp,v=>v= .nilFunc
 | .iface t x,v=> ∃u,v= .iface t u/\VR E h x u
 | .yn,v=>v= .nilIface
 | .agg cs,v=> ∃us,v= .agg us.toArray/\cJ E h cs us
 | .tuple cs,v=> ∃us,v= .tuple us.toArray/\cJ E h cs us
 | .LI _,_=>False
 | .emp,v=> ∃x,v= .slice x 0 0
 | .eD e t,v=>Rd E.ro h (.sl t) (dec (e.den E.ρ)) v
 | .kG e,v=>Rd E.ro h .str (dec (e.den E.ρ)) v
 | .pV id n t,v=>E.dm id/\∃(k:Nat) (a:Addr) (cap:Nat),n.den E.ρ=(k:Int)/\v= .slice (some a) k cap/\k<=cap/\eZ E id 0 k a cap (.rest (rowOf t).es)
 | .Ax id es i off,v=>E.dm id/\∃k:Nat,i.den E.ρ=(k:Int)/\v= .pointer (some ⟨(E.θ id).1,(E.θ id).2+(k*es+off),none⟩)
 | .any,_=>True
 | .xU z t,v=>(∃x,v= .slice x 0 0)/\Rd E.ro h (.sl t) (dec (z.den E.ρ)) v
 | .u5 id lo n t,v=>E.dm id/\∃(l k:Nat) (a:Addr) (cap:Nat),lo.den E.ρ=(l:Int)/\n.den E.ρ=(k:Int)/\v= .slice (some a) k cap/\k<=cap/\eZ E id (l*(rowOf t).es) k a cap (.rest (rowOf t).es)
 | .xK k ks,v=>((∃x cap,v= .slice x 0 cap)/\E.ρ (900+k)=0)\/∃b o n cap,v= .slice (some ⟨b,o,none⟩) n cap/\n<=cap/\E.ρ (900+k)=(n:Int)/\E.ro b/\
  ∀i j kd,i<n->ks[j]?=some kd->kJ h b (o+i*ks.length+j)=some (.int kd (E.ρ (1000+i*64+(k*8+j))))
def cJ (E:En) (h:Array Obj):List Y->List Value->Prop
 |[],us=>us= []
 |x::xs,us=> ∃u vs,us=u::vs/\VR E h x u/\cJ E h xs vs
end
theorem iN {E:En} {h:Array Obj} {us:List Value}:cJ E h [] us↔us= []:=by simp [cJ]
theorem bX {E:En} {h:Array Obj} {x:Y} {xs:List Y} {us:List Value}:cJ E h (x::xs) us↔∃u vs,us=u::vs/\VR E h x u/\cJ E h xs vs:=by simp [cJ]
theorem cJ.length {E:En} {h:Array Obj}: ∀{xs:List Y} {us:List Value},cJ E h xs us->us.length=xs.length
 |[],us,hh=>by rw [iN] at hh; simp [hh]
 |x::xs,us,hh=>by rw [bX] at hh;obtain⟨u,vs,rfl,_,Z⟩:=hh;simp [Z.length]
theorem cJ.append {E:En} {h:Array Obj}: ∀{xs ys:List Y} {us vs:List Value},cJ E h xs us->cJ E h ys vs->cJ E h (xs++ys) (us++vs)
 |[],_,us,vs,U,Z=>by rw [iN] at U; subst U; simpa using Z
 |x::xs,ys,us,vs,U,Z=>by rw [bX] at U;obtain⟨u,gX,rfl,hx,nH⟩:=U;simp only [aW];rw [bX];exact⟨u,gX++vs,rfl,hx,nH.append Z⟩
theorem cJ.ja {E:En} {h:Array Obj}: ∀{n:Nat} {xs ys:List Y} {us:List Value},cJ E h xs us->As.ja n xs=some ys->cJ E h ys (us.take n)/\n<=xs.length
 |0,xs,ys,us,_,Z=>by simp [As.ja] at Z; subst Z; simp [cJ]
 |n+1,[],ys,us,_,Z=>by simp [As.ja] at Z
 |n+1,x::xs,ys,us,U,Z=>by
  rw [bX] at U;obtain⟨u,vs,rfl,hx,nH⟩:=U;simp only [As.ja] at Z;split at Z
  ·rename_i l W;simp at Z;subst Z;have:=nH.ja W
   grind [bX]
  grind
theorem cJ.eS {E:En} {h:Array Obj}: ∀{n:Nat} {xs ys:List Y} {us:List Value},cJ E h xs us->As.eS n xs=some ys->cJ E h ys (us.drop n)/\n<=xs.length/\ys.length=xs.length-n
 |0,xs,ys,us,U,Z=>by simp [As.eS] at Z; subst Z; simpa using U
 |n+1,[],ys,us,_,Z=>by simp [As.eS] at Z
 |n+1,x::xs,ys,us,U,Z=>by
  rw [bX] at U;obtain⟨u,vs,rfl,hx,nH⟩:=U;simp only [As.eS] at Z;have:=nH.eS Z
  grind
theorem cJ.nth {E:En} {h:Array Obj}: ∀{i:Nat} {xs:List Y} {x:Y} {us:List Value},cJ E h xs us->fu xs i=some x->∃u,us[i]?=some u/\VR E h x u
 |_,[],_,us,_,Z=>by simp [fu] at Z
 |0,x::xs,y,us,U,Z=>by
  rw [bX] at U;obtain⟨u,vs,rfl,hx,nH⟩:=U
  grind [fu]
 |i+1,x::xs,y,us,U,Z=>by
  rw [bX] at U;obtain⟨u,vs,rfl,hx,nH⟩:=U;simp only [fu] at Z;obtain⟨v,h3,h4⟩:=nH.nth Z
  grind
def e9 (E:En) (h:Array Obj):List (Y×Y×Nat)->List MapEntry->Prop
 |[],es=>es= []
 |(k,v,b)::xs,es=> ∃e r,es=e::r/\VR E h k e.key/\VR E h v e.val/\b=b/\e9 E h xs r
def lB (ro:Nat->Prop) (h:Array Obj) (t:Nat):List D->List MapEntry->Prop
 |[],es=>es= []
 |d::ds,es=> ∃e r,es=e::r/\d= .p (jl d) (Gx d)/\Rd ro h (mapOf t).1 (jl d) e.key/\Rd ro h (mapOf t).2 (Gx d) e.val/\lB ro h t ds r
theorem lB.cD {ro n6:Nat->Prop} {h h':Array Obj} (k1: ∀b,ro b->n6 b) (k2: ∀b,ro b->h'[b]?=h[b]?) {t:Nat}: ∀{ds:List D} {es:List MapEntry},lB ro h t ds es->lB n6 h' t ds es
 |[],_,hh=>hh
 |_::_,_,hh=>by obtain⟨e,r,U,Z,h3,h4,h5⟩:=hh;exact⟨e,r,U,Z,h3.cD k1 k2,h4.cD k1 k2,lB.cD k1 k2 h5⟩
theorem lB.length {ro:Nat->Prop} {h:Array Obj} {t:Nat}: ∀{ds:List D} {es:List MapEntry},lB ro h t ds es->es.length=ds.length
 |[],_,hh=>by simp only [lB] at hh; rw [hh]; rfl
 |_::_,_,hh=>by obtain⟨e,r,U,_,_,_,h5⟩:=hh;rw [U,aQ,aQ,lB.length h5]
noncomputable def ep (ρ:Nat->Int) (i:Nat):List (V×List Y)->Option (List Y)
 |[]=>none
 |(j,cs)::l=>if j.den ρ=(i:Int) then some cs else ep ρ i l
noncomputable def bH (ρ:Nat->Int) (r:Row) (ov:List (V×List Y)):List D->Nat->List Y
 |[],_=>[]
 |d::ds,i=>(match ep ρ i ov with |some cs=>cs|none=>ic r (.eD d))++bH ρ r ov ds (i+1)
def tG (r:Row) (ov:List (V×List Y)):Prop:= ∀p∈ov,p.2.length=r.es
noncomputable def mu (ρ:Nat->Int) (n:Int):List (V×Y)->Option Y
 |[]=>none
 |(x,v)::l=>if x.den ρ=n then some v else mu ρ n l
def alR (E:En) (h:Array Obj) (B:Nat) (k:D) (j ty t:Nat) (d:D) (u:Value):Prop:=
 ∃b o n cap a arr lo hi,u= .slice (some a) n cap/\n<=cap/\E.hd b=some (B,k,j)/\h[b]?=some (.cells arr ty (lo,hi))/\((a=⟨b,o,none⟩/\o+cap*(rowOf t).es=arr.size)\/(cap=0/\n=0/\o=arr.size))/\(∀q,lo<=q->q<hi->arr.size<=q)/\
  ((n=0/\d= .i 3)\/(tj (rowOf t) d/\d.l.length=n/\∃us,cJ E h (bH E.ρ (rowOf t) [] d.l 0) us/\(∀i u,us[i]?=some u->arr[o+i]?=some u)/\∀u∈us,u.oneCell'=true))
def pF (E:En) (h:Array Obj) (B:Nat) (k:D) (j ty:Nat) (c:FC) (d:D) (u:Value):Prop:=match c with
 | .ck c=>Rd E.ro h c d u
 | .own t=>((∃x,u= .slice x 0 0)/\Rd E.ro h (.sl t) d u)\/alR E h B k j ty t d u
 | .mp t=> ∃b bT c,u= .map (some b)/\E.hd b=some (B,k,j)/\h[b]?=some (.map bT c)/\lB E.ro h t d.l bT.toList
def qL (E:En) (h:Array Obj) (B t:Nat) (fq:List Nat) (k d:D) (v:Value):Prop:=match (rz t).ptr with
 |false=> ∃c,(rz t).cs= [c]/\pF E h B k 1 (fq.getD 1 0) c d v
 |true=> ∃b o arr lo hi,v= .pointer (some ⟨b,o,none⟩)/\E.hd b=some (B,k,0)/\h[b]?=some (.cells arr (fq.getD 0 0) (lo,hi))/\o+(rz t).cs.length<=arr.size/\(∀q,lo<=q->q<hi->arr.size<=q)/\
  ∀j c,(rz t).cs[j]?=some c->∃u,arr[o+j]?=some u/\u.oneCell'=true/\pF E h B k (j+1) (fq.getD (j+2) 0) c (d.hd j) u
def eY (E:En) (h:Array Obj) (B t:Nat) (fq:List Nat) (ov:List (V×Y)):List D->List MapEntry->Prop
 |[],es=>es= []
 |d::ds,es=> ∃e r n,es=e::r/\d= .p (.i n) (Gx d)/\e.key= .int .i64 n/\(match mu E.ρ n ov with |some v=>VR E h v e.val|none=>qL E h B t fq (.i n) (Gx d) e.val)/\eY E h B t fq ov ds r
def AR (ρ:Nat->Int) (ds:List D) (ov:List (V×Y)):Prop:=(ds.map jl).Nodup/\(∀p∈ov,D.i (p.1.den ρ)∈ds.map jl)/\(ov.map fun p=>p.1.den ρ).Nodup
def OR (E:En) (h:Array Obj) (id:Nat):dX->Prop
 | .cells cs e=> ∃arr lo hi us,h[(E.θ id).1]?=some (.cells arr e (lo,hi))/\cJ E h cs us/\(∀i u,us[i]?=some u->arr[(E.θ id).2+i]?=some u)/\
  cs.length<=E.κ id/\(E.θ id).2+E.κ id=arr.size/\(∀o,lo<=o->o<hi->arr.size<=o)/\(∀u∈us,u.oneCell'=true)
 | .map es _=> ∃bT c,h[(E.θ id).1]?=some (.map bT c)/\e9 E h es bT.toList
 | .vec e t ty ov=>(tG (rowOf t) ov/\tj (rowOf t) (dec (e.den E.ρ)))/\∃arr lo hi us,h[(E.θ id).1]?=some (.cells arr ty (lo,hi))/\cJ E h (bH E.ρ (rowOf t) ov (dec (e.den E.ρ)).l 0) us/\(∀i u,us[i]?=some u->arr[(E.θ id).2+i]?=some u)/\
  (bH E.ρ (rowOf t) ov (dec (e.den E.ρ)).l 0).length<=E.κ id/\(E.θ id).2+E.κ id=arr.size/\(∀o,lo<=o->o<hi->arr.size<=o)/\(∀u∈us,u.oneCell'=true)
 | .kU s p=>h[(E.θ id).1]?=some (.stringIter (dy s) p)/\(E.θ id).2=0/\∀b∈s,b<256
 | .kQ e t=> ∃bT c,h[(E.θ id).1]?=some (.map bT c)/\lB E.ro h t (dec (e.den E.ρ)).l bT.toList
 | .uo e t fq ov=>AR E.ρ (dec (e.den E.ρ)).l ov/\∃bT c,h[(E.θ id).1]?=some (.map bT c)/\eY E h (E.θ id).1 t fq ov (dec (e.den E.ρ)).l bT.toList
class bJ where
 ok:(Nat->Int)->(Nat->Prop)->Array Obj->Prop
 cD: ∀{ρ:Nat->Int} {ro n6:Nat->Prop} {h h':Array Obj},ok ρ ro h->(∀b,ro b->n6 b)->(∀b,ro b->h'[b]?=h[b]?)->ok ρ n6 h'
 ig: ∀{ρ ρ':Nat->Int} {ro:Nat->Prop} {h:Array Obj},ok ρ ro h->(∀i,900<=i->ρ' i=ρ i)->ok ρ' ro h
structure bS [bJ] (E:En) (H:Hp) (w:World):Prop where
 fresh: ∀id,H.next<=id->¬E.dm id
 res: ∀r,H.res=some r->r<H.next/\¬E.dm r
 live: ∀id o,H.get id=some o->E.dm id/\OR E w.heap id o/\¬E.ro (E.θ id).1
 inj: ∀id OO o o',H.get id=some o->H.get OO=some o'->(E.θ id).1=(E.θ OO).1->id=OO
 sq: ∀b,E.ro b->b<w.heap.size
 ku:bJ.ok E.ρ E.ro w.heap
 hid: ∀b x,E.hd b=some x->b<w.heap.size/\¬E.ro b/\∀id o,H.get id=some o->(E.θ id).1≠b
structure fj (E:En) (H:Hp) (w:World) (E':En) (H':Hp) (w':World):Prop where
 ρ:E'.ρ=E.ρ
 dm: ∀id,E.dm id->E'.dm id
 θ: ∀id,E.dm id->E'.θ id=E.θ id
 κ: ∀id,E.dm id->E'.κ id=E.κ id
 ro: ∀b,E.ro b->E'.ro b
 sO: ∀b,E'.ro b->E.ro b\/(∃id o,H.get id=some o/\(E.θ id).1=b)\/w.heap.size<=b
 Rj:H.next<=H'.next
 rsm:H'.res=none\/H'.res=H.res
 D?: ∀id,E'.dm id->E.dm id\/(H.next<=id/\id<H'.next)\/H.res=some id
 os:w'.os=w.os
 tape:w'.tape=w.tape
 output:w'.output=w.output
 size:w.heap.size<=w'.heap.size
 cD: ∀b,b<w.heap.size->(∀id o,H.get id=some o->(E.θ id).1≠b)->w'.heap[b]?=w.heap[b]?
 own: ∀id o,H'.get id=some o->(E'.θ id).1<w.heap.size->∃sX o0,H.get sX=some o0/\(E.θ sX).1=(E'.θ id).1
 hd:E'.hd=E.hd
theorem fj.refl (E:En) (H:Hp) (w:World):fj E H w E H w:=
 ⟨rfl,fun _ h=>h,fun _ _=>rfl,fun _ _=>rfl,fun _ h=>h,fun _ h=> .inl h,ay _,.inr rfl,fun _ h=> .inl h,rfl,rfl,rfl,ay _,fun _ _ _=>rfl,fun id o h _=> ⟨id,o,h,rfl⟩,rfl⟩
theorem fj.trans {E E1 E2:En} {H H1 H2:Hp} {w w1 w2:World} (a:fj E H w E1 H1 w1) (b:fj E1 H1 w1 E2 H2 w2):fj E H w E2 H2 w2 where
 ρ:=b.ρ.trans a.ρ
 dm:=fun id h=>b.dm id (a.dm id h)
 θ:=fun id h=>(b.θ id (a.dm id h)).trans (a.θ id h)
 κ:=fun id h=>(b.κ id (a.dm id h)).trans (a.κ id h)
 ro:=fun x h=>b.ro x (a.ro x h)
 sO:=fun x h=>by
  rcases b.sO x h with h|⟨id,o,U,Z⟩|h
  ·exact a.sO x h
  ·rcases bg x w.heap.size with hx|hx
   ·obtain⟨sX,o0,h3,h4⟩:=a.own id o U (by rw [Z]; exact hx);exact .inr (.inl ⟨sX,o0,h3,h4.trans Z⟩)
   ·exact .inr (.inr hx)
  ·exact .inr (.inr (bq a.size h))
 Rj:=bq a.Rj b.Rj
 rsm:=by
  rcases b.rsm with h|h
  ·exact .inl h
  ·rw [h]; exact a.rsm
 D?:=fun id h=>by
  rcases b.D? id h with h|h|h
  ·rcases a.D? id h with h|h|h
   ·exact .inl h
   ·exact .inr (.inl ⟨h.1,amH h.2 b.Rj⟩)
   ·exact .inr (.inr h)
  ·exact .inr (.inl ⟨bq a.Rj h.1,h.2⟩)
  ·rcases a.rsm with h'|h'
   ·rw [h'] at h; simp at h
   ·exact .inr (.inr (h'.symm.trans h))
 os:=b.os.trans a.os
 tape:=b.tape.trans a.tape
 output:=b.output.trans a.output
 size:=bq a.size b.size
 cD:=fun x hx hn=>by rw [b.cD x (amH hx a.size) ?_,a.cD x hx hn];intro id o ho he;obtain⟨sX,o0,h0,he0⟩:=a.own id o ho (by rw [he]; exact hx);exact hn sX o0 h0 (he0.trans he)
 own:=fun id o ho gu=>by obtain⟨id1,o1,U,YH⟩:=b.own id o ho (amH gu a.size);obtain⟨sX,o0,h0,he0⟩:=a.own id1 o1 U (by rw [YH]; exact gu);exact⟨sX,o0,h0,he0.trans YH⟩
 hd:=b.hd.trans a.hd
structure fU (E:En) (h:Array Obj) (E':En) (h':Array Obj):Prop where
 ρ:E'.ρ=E.ρ
 dm: ∀id,E.dm id->E'.dm id
 θ: ∀id,E.dm id->E'.θ id=E.θ id
 κ: ∀id,E.dm id->E'.κ id=E.κ id
 ro: ∀b,E.ro b->E'.ro b
 Cb: ∀b,E.ro b->h'[b]?=h[b]?
theorem fj.keeps [bJ] {E E':En} {H H':Hp} {w w':World} (s:fj E H w E' H' w') (r:bS E H w):fU E w.heap E' w'.heap:=
 ⟨s.ρ,s.dm,s.θ,s.κ,s.ro,fun b hb=>s.cD b (r.sq b hb) fun id o ho he=>(r.live id o ho).2.2 (by rw [he]; exact hb)⟩
theorem gk.cD {E E':En} {h h':Array Obj} (k:fU E h E' h') {b o:Nat} {us:List Value} (hb:E.ro b) (hc:gk h b o us):gk h' b o us:=by
 intro i u hu;have:=hc i u hu;unfold kJ at *;rw [k.Cb b hb]
 grind
theorem eZ.cD {E E':En} {h h':Array Obj} (k:fU E h E' h') {id off len:Nat} {a:Addr} {cap:Nat} {c:NB} (hid:E.dm id) (hc:eZ E id off len a cap c):eZ E' id off len a cap c:=by
 cases c<;>simp only [eZ] at*<;>rw [k.θ id hid]
 ·exact hc
 ·rw [k.κ id hid]; exact hc
mutual
theorem VR.cD {E E':En} {h h':Array Obj} (k:fU E h E' h'): ∀(x:Y) (v:Value),VR E h x v->VR E' h' x v
 | .bool b,v,hv=>by simp only [VR] at *; rw [k.ρ]; exact hv
 | .int _ e,v,hv=>by simp only [VR] at *; rw [k.ρ]; exact hv
 | .str s,v,hv=>by simp only [VR] at *; exact hv
 | .ptr id off,v,hv=>by simp only [VR] at *; rw [k.θ id hv.2]; exact⟨hv.1,k.dm _ hv.2⟩
 | .u9,v,hv=>by simp only [VR] at *; exact hv
 | .nQ cs,v,hv=>by simp only [VR] at *;obtain⟨b,o,us,U,Z,h3,h4,h5⟩:=hv;exact⟨b,o,us,U,k.ro b Z,cJ.cD k cs us h3,h4.cD k Z,h5⟩
 | .slice id off len c,v,hv=>by simp only [VR] at *;obtain⟨U,a,cap,Z,h3,h4⟩:=hv;exact⟨k.dm _ U,a,cap,Z,h3,h4.cD k U⟩
 | .gL,v,hv=>by simp only [VR] at *; exact hv
 | .ro cs n full,v,hv=>by simp only [VR] at *;obtain⟨b,o,cap,us,U,Z,h3,h4,h5,h6,h7⟩:=hv;exact⟨b,o,cap,us,U,Z,h3,k.ro b h4,cJ.cD k cs us h5,h6.cD k h4,h7⟩
 | .map id,v,hv=>by simp only [VR] at *; rw [k.θ id hv.2]; exact⟨hv.1,k.dm _ hv.2⟩
 | .tI,v,hv=>by simp only [VR] at *; exact hv
 | .func fn fs cs,v,hv=>by simp only [VR] at *;obtain⟨us,ws,U,Z,h3⟩:=hv;exact⟨us,ws,U,cJ.cD k fs us Z,cJ.cD k cs ws h3⟩
 | .xp,v,hv=>by simp only [VR] at *; exact hv
 | .iface t x,v,hv=>by simp only [VR] at *;obtain⟨u,U,Z⟩:=hv;exact⟨u,U,VR.cD k x u Z⟩
 | .yn,v,hv=>by simp only [VR] at *; exact hv
 | .agg cs,v,hv=>by simp only [VR] at *;obtain⟨us,U,Z⟩:=hv;exact⟨us,U,cJ.cD k cs us Z⟩
 | .tuple cs,v,hv=>by simp only [VR] at *;obtain⟨us,U,Z⟩:=hv;exact⟨us,U,cJ.cD k cs us Z⟩
 | .LI _,v,hv=>by simp only [VR] at hv
 | .emp,v,hv=>by simp only [VR] at *; exact hv
 | .eD e t,v,hv=>by simp only [VR] at *; rw [k.ρ]; exact hv.cD k.ro k.Cb
 | .kG e,v,hv=>by simp only [VR] at *; rw [k.ρ]; exact hv.cD k.ro k.Cb
 | .pV id n t,v,hv=>by simp only [VR] at *;obtain⟨U,m,a,cap,Z,h3,h4,h5⟩:=hv;exact⟨k.dm _ U,m,a,cap,by rw [k.ρ]; exact Z,h3,h4,h5.cD k U⟩
 | .any,_,_=>by simp only [VR]
 | .xU z t,v,hv=>by simp only [VR] at *; rw [k.ρ]; exact⟨hv.1,hv.2.cD k.ro k.Cb⟩
 | .u5 id lo n t,v,hv=>by simp only [VR] at *;obtain⟨U,l,m,a,cap,Z,h3,h4,h5,h6⟩:=hv;exact⟨k.dm _ U,l,m,a,cap,by rw [k.ρ]; exact Z,by rw [k.ρ]; exact h3,h4,h5,h6.cD k U⟩
 | .Ax id es i off,v,hv=>by simp only [VR] at *;obtain⟨U,m,Z,h3⟩:=hv;exact⟨k.dm _ U,m,by rw [k.ρ]; exact Z,by rw [k.θ id U]; exact h3⟩
 | .xK kk ks,v,hv=>by
   simp only [VR] at *;rw [k.ρ];rcases hv with hv|⟨b,o,n,cap,U,Z,h3,h4,h5⟩
   ·grind
   ·refine .inr ⟨b,o,n,cap,U,Z,h3,k.ro b h4,fun i j kd hi hj=>?_⟩;have:=h5 i j kd hi hj;unfold kJ at *;rw [k.Cb b h4]
    grind
theorem cJ.cD {E E':En} {h h':Array Obj} (k:fU E h E' h'): ∀(xs:List Y) (us:List Value),cJ E h xs us->cJ E' h' xs us
 |[],us,hv=>by simp only [cJ] at *; exact hv
 |x::xs,us,hv=>by simp only [cJ] at *;obtain⟨u,vs,U,Z,h3⟩:=hv;exact⟨u,vs,U,VR.cD k x u Z,cJ.cD k xs vs h3⟩
end
theorem e9.cD {E E':En} {h h':Array Obj} (k:fU E h E' h'): ∀(xs:List (Y×Y×Nat)) (es:List MapEntry),e9 E h xs es->e9 E' h' xs es
 |[],es,hv=>by simp only [e9] at *; exact hv
 |(a,b,c)::xs,es,hv=>by simp only [e9] at *;obtain⟨e,r,U,Z,h3,h4,h5⟩:=hv;exact⟨e,r,U,VR.cD k _ _ Z,VR.cD k _ _ h3,h4,e9.cD k xs r h5⟩
theorem bS.Ux [bJ] {E E':En} {H H':Hp} {w w':World} (r:bS E H w) (he:E'.hd=E.hd) (hs:w.heap.size<=w'.heap.size) (sO: ∀b,E'.ro b->E.ro b\/(∃id o,H.get id=some o/\(E.θ id).1=b)\/w.heap.size<=b)
 (own: ∀id o,H'.get id=some o->(E'.θ id).1<w.heap.size->∃sX o0,H.get sX=some o0/\(E.θ sX).1=(E'.θ id).1): ∀b x,E'.hd b=some x->b<w'.heap.size/\¬E'.ro b/\∀id o,H'.get id=some o->(E'.θ id).1≠b:=by
 intro b x hb;rw [he] at hb;obtain⟨q1,q2,q3⟩:=r.hid b x hb;refine⟨J,fun hr=>?_,fun id o ho e=>?_⟩
 ·rcases sO b hr with h|⟨id,o,U,Z⟩|h
  ·exact q2 h
  ·exact q3 id o U Z
  ·omega
 ·obtain⟨sX,o0,h0,e0⟩:=own id o ho (by rw [e]; exact q1);exact q3 sX o0 h0 (e0.trans e)
def HdK (E:En) (h:Array Obj) (E':En) (h':Array Obj) (B:Nat) (k:D):Prop:= ∀b j,E.hd b=some (B,k,j)->E'.hd b=some (B,k,j)/\h'[b]?=h[b]?
theorem bS.Vt [bJ] {E E':En} {H:Hp} {w:World} {h':Array Obj} (r:bS E H w) (he:E'.hd=E.hd) (hk: ∀b,b<w.heap.size->(∀id o,H.get id=some o->(E.θ id).1≠b)->h'[b]?=w.heap[b]?) (B:Nat) (key:D):HdK E w.heap E' h' B key:=
 fun b _ hb=> ⟨by rw [he]; exact hb,hk b (r.hid b _ hb).1 (r.hid b _ hb).2.2⟩
theorem pF.cD {E E':En} {h h':Array Obj} (k:fU E h E' h') {B:Nat} {key:D} {j ty:Nat} (hh: ∀b,E.hd b=some (B,key,j)->E'.hd b=some (B,key,j)/\h'[b]?=h[b]?) {c:FC} {d:D} {u:Value} (ho:pF E h B key j ty c d u):pF E' h' B key j ty c d u:=by
 cases c with
 |ck c=>exact Rd.cD k.ro k.Cb ho
 |own t=>
  rcases ho with ⟨U,Z⟩|⟨b,o,n,cap,a,arr,lo,hi,U,Z,h3,h4,h5,h6,h7⟩
  ·exact .inl ⟨U,Rd.cD k.ro k.Cb Z⟩
  ·obtain⟨q1,q2⟩:=hh b h3;refine .inr ⟨b,o,n,cap,a,arr,lo,hi,U,Z,q1,by rw [q2]; exact h4,h5,h6,?_⟩;rcases h7 with h7|⟨g1,g2,us,g3,g4⟩
   ·exact .inl h7
   ·exact .inr ⟨g1,g2,us,by rw [k.ρ]; exact cJ.cD k _ us g3,g4⟩
 |mp t=> obtain⟨b,bT,c,U,Z,h3,h4⟩:=ho;obtain⟨q1,q2⟩:=hh b Z;exact⟨b,bT,c,U,q1,by rw [q2]; exact h3,h4.cD k.ro k.Cb⟩
theorem qL.cD {E E':En} {h h':Array Obj} (k:fU E h E' h') {B t:Nat} {fq:List Nat} {key d:D} {v:Value} (hh:HdK E h E' h' B key) (ho:qL E h B t fq key d v):qL E' h' B t fq key d v:=by
 unfold qL at *;split at ho
 ·obtain⟨c,U,Z⟩:=ho;exact⟨c,U,Z.cD k fun b=>hh b _⟩
 ·obtain⟨b,o,arr,lo,hi,U,Z,h3,h4,h5,h6⟩:=ho;obtain⟨q1,q2⟩:=hh b 0 Z;refine⟨b,o,arr,lo,hi,U,q1,by rw [q2]; exact h3,h4,h5,fun j c hc=>?_⟩;obtain⟨u,g1,g2,g3⟩:=h6 j c hc;exact⟨u,g1,g2,g3.cD k fun b=>hh b _⟩
theorem eY.cD {E E':En} {h h':Array Obj} (k:fU E h E' h') {B t:Nat} {fq:List Nat} {ov:List (V×Y)} (hh: ∀n,mu E.ρ n ov=none->HdK E h E' h' B (.i n)): ∀{ds:List D} {es:List MapEntry},eY E h B t fq ov ds es->eY E' h' B t fq ov ds es
 |[],_,ho=>ho
 |d::ds,_,⟨e,r,n,U,Z,h3,h4,h5⟩=>by
  refine⟨e,r,n,U,Z,h3,?_,eY.cD k hh h5⟩;rw [k.ρ];split at h4
  ·rename_i v hv;exact VR.cD k _ _ h4
  ·rename_i hv;exact h4.cD k (hh n hv)
def nf:dX->Bool
 | .uo _ _ _ _=>false
 |_=>true
theorem eY.length {E:En} {h:Array Obj} {B t:Nat} {fq:List Nat} {ov:List (V×Y)}: ∀{ds:List D} {es:List MapEntry},eY E h B t fq ov ds es->es.length=ds.length
 |[],_,ho=>by simp only [eY] at ho; rw [ho]; rfl
 |d::ds,_,⟨e,r,n,U,_,_,_,h5⟩=>by rw [U,aQ,aQ,eY.length h5]
theorem OR.Yc {E E':En} {h h':Array Obj} (k:fU E h E' h') {id:Nat} {o:dX} (hid:E.dm id) (hb:h'[(E.θ id).1]?=h[(E.θ id).1]?) (hh:nf o=true\/∀key,HdK E h E' h' (E.θ id).1 key) (ho:OR E h id o):OR E' h' id o:=by
 cases o with
 |cells cs e=> simp only [OR] at *;obtain⟨arr,lo,hi,us,U,Z,h3,h4,h5,h6,h7⟩:=ho;rw [k.θ id hid,k.κ id hid,hb];exact⟨arr,lo,hi,us,U,cJ.cD k cs us Z,h3,h4,h5,h6,h7⟩
 |map es c=>
  simp only [OR] at *;obtain⟨bT,c,U,Z⟩:=ho;rw [k.θ id hid,hb]
  grind [e9.cD]
 |kU s p=> simp only [OR] at *;rw [k.θ id hid,hb];exact ho
 |kQ e t=> simp only [OR] at *;obtain⟨bT,c,U,Z⟩:=ho;rw [k.θ id hid,hb,k.ρ];exact⟨bT,c,U,Z.cD k.ro k.Cb⟩
 |vec e t ty ov=> simp only [OR] at *;obtain⟨h0,arr,lo,hi,us,U,Z,h3,h4,h5,h6,h7⟩:=ho;rw [k.θ id hid,k.κ id hid,hb,k.ρ];exact⟨h0,arr,lo,hi,us,U,cJ.cD k _ us Z,h3,h4,h5,h6,h7⟩
 |uo e t fq ov=>
  simp only [OR] at *;obtain⟨h0,bT,c,U,Z⟩:=ho;rw [k.θ id hid,hb,k.ρ];rcases hh with hh|hh
  ·simp [nf] at hh
  exact⟨h0,bT,c,U,Z.cD k fun n _=>hh _⟩
theorem OR.cD {E E':En} {h h':Array Obj} (k:fU E h E' h') {id:Nat} {o:dX} (hid:E.dm id) (hb:h'[(E.θ id).1]?=h[(E.θ id).1]?) (hh: ∀key,HdK E h E' h' (E.θ id).1 key) (ho:OR E h id o):OR E' h' id o:=ho.Yc k hid hb (.inr hh)
theorem OR.ab7 {E E':En} {h h':Array Obj} (k:fU E h E' h') {id:Nat} {o:dX} (hid:E.dm id) (hb:h'[(E.θ id).1]?=h[(E.θ id).1]?) (hn:nf o=true) (ho:OR E h id o):OR E' h' id o:=ho.Yc k hid hb (.inl hn)
end Go.As
end
section
namespace Go.As
theorem Hp.bU (h:Hp) (i:Nat) (o:dX) (j:Nat):(h.put i o).get j=if j=i then some o else h.get j:=by simp [Hp.get,Hp.put,Tr.bU]
theorem Hp.gy (h:Hp) (o:dX) (j:Nat):(h.new o).get j=if j=h.fresh then some o else h.get j:=by
 grind [Hp.new,Hp.fresh,Hp.get,Tr.bU]
theorem bS.J! [bJ] {E:En} {H:Hp} {w:World} (r:bS E H w): ¬E.dm H.fresh:=by
 unfold Hp.fresh
 cases hr:H.res with
 |none=>exact r.fresh _ (ay _)
 |some x=>exact (r.res x hr).2
theorem bS.sv [bJ] {E:En} {H:Hp} {w:World} (r:bS E H w) {i:Nat} (h:E.dm i):i≠H.fresh:=fun e=>r.J! (e▸h)
theorem Hp.lr (h:Hp) (i j:Nat):(h.drop i).get j=if j=i then none else h.get j:=by simp [Hp.get,Hp.drop,Tr.bU]
def En.ext (E:En) (n:Nat) (p:Nat×Nat) (c:Nat):En:=
 { E with θ:=fun i=>if i=n then p else E.θ i,κ:=fun i=>if i=n then c else E.κ i,dm:=fun i=>i=n\/E.dm i }
theorem En.ext_θ_new (E:En) (n:Nat) (p:Nat×Nat) (c:Nat):(E.ext n p c).θ n=p:=by simp [En.ext]
theorem En.ext_κ_new (E:En) (n:Nat) (p:Nat×Nat) (c:Nat):(E.ext n p c).κ n=c:=by simp [En.ext]
theorem En.gV (E:En) (n:Nat) (p:Nat×Nat) (c:Nat):(E.ext n p c).dm n:=.inl rfl
theorem En.ext_θ (E:En) (n:Nat) (p:Nat×Nat) (c:Nat) {i:Nat} (h:i≠n):(E.ext n p c).θ i=E.θ i:=by simp [En.ext,h]
theorem En.ext_κ (E:En) (n:Nat) (p:Nat×Nat) (c:Nat) {i:Nat} (h:i≠n):(E.ext n p c).κ i=E.κ i:=by simp [En.ext,h]
theorem Ia [bJ] {E:En} {H:Hp} {w:World} (r:bS E H w) (p:Nat×Nat) (c:Nat) (o:dX):(∀id,(H.new o).next<=id->¬(E.ext H.fresh p c).dm id)/\∀q,(H.new o).res=some q->q<(H.new o).next/\¬(E.ext H.fresh p c).dm q:=by
 have U:=r.fresh;have Z:=r.res;unfold Hp.new Hp.fresh
 cases hr:H.res with
 |none=>
  refine⟨fun id hid hd=>?_,ad⟩;simp at hid;rcases hd with hd|hd
  all_goals grind
 |some q=>
  refine⟨fun id hid hd=>?_,ad⟩;simp at hid;have:=Z q hr;rcases hd with hd|hd
  all_goals grind
theorem sS (H:Hp) (o:dX):H.next<=(H.new o).next/\((H.new o).res=none\/(H.new o).res=H.res)/\∀id,id=H.fresh->(H.next<=id/\id<(H.new o).next)\/H.res=some id:=by
 grind [Hp.new,Hp.fresh]
structure Alike (w w':World):Prop where
 os:w'.os=w.os
 tape:w'.tape=w.tape
 output:w'.output=w.output
theorem zr {h:Array Obj} {o:Obj} {b:Nat} (hb:b<h.size):(h.push o)[b]?=h[b]?:=by
 grind
theorem EE [bJ] {E:En} {H:Hp} {w:World} (r:bS E H w) (p:Nat×Nat) (c:Nat) (o:Obj):fU E w.heap (E.ext H.fresh p c) (w.heap.push o):=
 ⟨rfl,fun _ h=> .inr h,fun _ h=>En.ext_θ E _ p c (r.sv h),fun _ h=>En.ext_κ E _ p c (r.sv h),fun _ h=>h,fun b hb=>zr (r.sq b hb)⟩
theorem gx [bJ] {E:En} {H:Hp} {w:World} (r:bS E H w) {id:Nat} {o:dX} (h:H.get id=some o):(E.θ id).1<w.heap.size:=by
 have Z:=(r.live id o h).2.1
 cases o with
 |cells cs e=>
  obtain⟨arr,lo,hi,us,U,_⟩:=Z
  grind
 |map es c=>
  obtain⟨bT,c',U,_⟩:=Z
  grind
 |kU s p=>exact (amD.1 Z.1).1
 |kQ e t=>
  obtain⟨bT,c',U,_⟩:=Z
  grind
 |uo e t fq ov=>
  obtain⟨_,bT,c',U,_⟩:=Z
  grind
 |vec e t ty ov=>
  obtain⟨_,arr,lo,hi,us,U,_⟩:=Z
  grind
theorem vz [bJ] {E:En} {H:Hp} {w w':World} (r:bS E H w) (o:Obj) (ao:dX) (c:Nat) (hw:w'.heap=w.heap.push o) (al:Alike w w')
 (ho:OR (E.ext H.fresh (w.heap.size,0) c) w'.heap H.fresh ao) :
 fj E H w (E.ext H.fresh (w.heap.size,0) c) (H.new ao) w'/\bS (E.ext H.fresh (w.heap.size,0) c) (H.new ao) w':=by
 have k:=EE r (w.heap.size,0) c o;rw [<- hw] at k;have hf:=Ia r (w.heap.size,0) c ao;refine⟨⟨k.ρ,k.dm,k.θ,k.κ,k.ro,fun _ h=> .inl h,(sS H ao).1,(sS H ao).2.1,fun id h=>h.elim (fun e=> .inr ((sS H ao).2.2 id e)) .inl,al.os,al.tape,al.output,by rw [hw]; simp,fun b hb _=>by rw [hw,zr hb],?_,rfl⟩,⟨hf.1,hf.2,?_,?_,?_,bJ.cD r.ku k.ro k.Cb,?_⟩⟩
 ·intro id o2 Z gu;rw [Hp.gy] at Z;split at Z
  ·rename_i he
   grind [En.ext_θ_new]
  ·have h3:=(r.live id o2 Z).1;exact⟨id,o2,Z,by rw [En.ext_θ _ _ _ _ (r.sv h3)]⟩
 ·intro id o2 Z;rw [Hp.gy] at Z;split at Z
  ·rename_i he;simp at Z;subst Z;rw [he,En.ext_θ_new];refine⟨En.gV _ _ _ _,ho,fun hr=>?_⟩;have:=r.sq _ hr
   grind
  ·obtain⟨h3,h4,h5⟩:=r.live id o2 Z;refine⟨.inr h3,h4.cD k h3 ?_ (fun key b j hb=> ⟨hb,by rw [hw,zr (r.hid b _ hb).1]⟩),?_⟩
   ·grind [zr,gx]
   ·rw [En.ext_θ _ _ _ _ (r.sv h3)]; exact h5
 ·intro id OO o1 o2 U Z he;rw [Hp.gy] at U Z;split at U<;>split at Z
  ·omega
  ·rename_i e1 _;have h3:=(r.live OO o2 Z).1;rw [e1,En.ext_θ_new,En.ext_θ _ _ _ _ (r.sv h3)] at he;have:=gx r Z
   grind
  ·rename_i _ e1;have h3:=(r.live id o1 U).1;rw [e1,En.ext_θ_new,En.ext_θ _ _ _ _ (r.sv h3)] at he;have:=gx r U
   grind
  ·have h3:=(r.live id o1 U).1;have h4:=(r.live OO o2 Z).1;rw [En.ext_θ _ _ _ _ (r.sv h3),En.ext_θ _ _ _ _ (r.sv h4)] at he;exact r.inj id OO o1 o2 U Z he
 ·intro b hb;have:=r.sq b hb
  grind
 ·intro b x hb;obtain⟨q1,q2,q3⟩:=r.hid b x hb;refine⟨by rw [hw,Array.size_push]; omega,q2,fun id o2 Z=>?_⟩;rw [Hp.gy] at Z;split at Z
  ·rename_i he;rw [he,En.ext_θ_new];exact fun e=>by have e:w.heap.size=b:=e; omega
  ·rw [En.ext_θ _ _ _ _ (r.sv (r.live id o2 Z).1)];exact q3 id o2 Z
theorem mQ [bJ] {E:En} {H:Hp} {w w':World} (r:bS E H w) {id:Nat} {o:dX} (W:H.get id=some o)
 (l7: ∀b,b≠(E.θ id).1->w'.heap[b]?=w.heap[b]?):fU E w.heap E w'.heap:=
 ⟨rfl,fun _ h=>h,fun _ _=>rfl,fun _ _=>rfl,fun _ h=>h,fun b hb=>l7 b fun e=>(r.live id o W).2.2 (by rw [<- e]; exact hb)⟩
theorem Ec [bJ] {E:En} {H:Hp} {w w':World} (r:bS E H w) {id:Nat} {o:dX} (W:H.get id=some o) (ao:dX)
 (L6:w'.heap.size=w.heap.size) (l7: ∀b,b≠(E.θ id).1->w'.heap[b]?=w.heap[b]?) (al:Alike w w') (ho:OR E w'.heap id ao) :
 fj E H w E (H.put id ao) w'/\bS E (H.put id ao) w':=by
 have k:=mQ r W l7;refine⟨⟨rfl,fun _ h=>h,fun _ _=>rfl,fun _ _=>rfl,fun _ h=>h,fun _ h=> .inl h,ay _,.inr rfl,fun _ h=> .inl h,al.os,al.tape,al.output,J,?_,?_,rfl⟩,⟨r.fresh,r.res,?_,?_,?_,bJ.cD r.ku k.ro k.Cb,?_⟩⟩
 ·intro b _ hn
  grind
 ·intro j o2 Z _
  grind [Hp.bU]
 ·intro j o2 Z;rw [Hp.bU] at Z;split at Z
  ·rename_i e;subst e;simp at Z;subst Z;exact⟨(r.live j o W).1,ho,(r.live j o W).2.2⟩
  ·rename_i e;obtain⟨h3,h4,h5⟩:=r.live j o2 Z;refine⟨h3,h4.cD k h3 (l7 _ fun e2=>e (r.inj j id o2 o Z W e2)) (fun key b q hb=> ⟨hb,l7 b fun e2=>(r.hid b _ hb).2.2 id o W e2.symm⟩),h5⟩
 ·intro i j o1 o2 U Z he;rw [Hp.bU] at U Z;split at U<;>split at Z
  ·omega
  ·rename_i e1 _; subst e1; exact r.inj i j o o2 W Z he
  ·rename_i _ e1; subst e1; exact r.inj i j o1 o U W he
  ·exact r.inj i j o1 o2 U Z he
 ·intro b hb;rw [L6];exact r.sq b hb
 ·intro b x hb;obtain⟨q1,q2,q3⟩:=r.hid b x hb;refine⟨by rw [L6]; exact q1,q2,fun j o2 Z=>?_⟩;rw [Hp.bU] at Z;split at Z
  ·rename_i e;rw [e];exact q3 id o W
  ·exact q3 j o2 Z
theorem xb [bJ] {E:En} {H:Hp} {w:World} (r:bS E H w) (id:Nat):fj E H w E (H.drop id) w/\bS E (H.drop id) w:=by
 have hg: ∀j o,(H.drop id).get j=some o->H.get j=some o:=by
  intro j o h
  grind [Hp.lr]
 exact⟨⟨rfl,fun _ h=>h,fun _ _=>rfl,fun _ _=>rfl,fun _ h=>h,fun _ h=> .inl h,ay _,.inr rfl,fun _ h=> .inl h,rfl,rfl,rfl,ay _,fun _ _ _=>rfl,fun j o h _=> ⟨j,o,hg j o h,rfl⟩,rfl⟩,
  ⟨r.fresh,r.res,fun j o h=>r.live j o (hg j o h),fun i j o1 o2 U Z he=>r.inj i j o1 o2 (hg _ _ U) (hg _ _ Z) he,r.sq,r.ku,fun b x hb=> ⟨(r.hid b x hb).1,(r.hid b x hb).2.1,fun j o h=>(r.hid b x hb).2.2 j o (hg j o h)⟩⟩⟩
theorem Ot [bJ] {E:En} {H:Hp} {w w':World} (r:bS E H w) {id:Nat} {o:dX} (W:H.get id=some o) (ao:dX) (off c:Nat)
 (L6:w'.heap.size=w.heap.size) (l7: ∀b,b≠(E.θ id).1->w'.heap[b]?=w.heap[b]?) (al:Alike w w')
 (ho:OR (E.ext H.fresh ((E.θ id).1,(E.θ id).2+off) c) w'.heap H.fresh ao) :
 fj E H w (E.ext H.fresh ((E.θ id).1,(E.θ id).2+off) c) ((H.drop id).new ao) w'/\bS (E.ext H.fresh ((E.θ id).1,(E.θ id).2+off) c) ((H.drop id).new ao) w':=by
 have hdn:(H.drop id).fresh=H.fresh:=rfl;have hf:=Ia (xb r id).2 ((E.θ id).1,(E.θ id).2+off) c ao;rw [hdn] at hf
 have k:fU E w.heap (E.ext H.fresh ((E.θ id).1,(E.θ id).2+off) c) w'.heap:=
  ⟨rfl,fun _ h=> .inr h,fun _ h=>En.ext_θ E _ _ c (r.sv h),fun _ h=>En.ext_κ E _ _ c (r.sv h),fun _ h=>h,(mQ r W l7).Cb⟩
 have hg: ∀j o2,((H.drop id).new ao).get j=some o2->(j=H.fresh/\o2=ao)\/(j≠id/\H.get j=some o2):=by
  intro j o2 h
  grind [Hp.gy,Hp.lr]
 refine⟨⟨rfl,k.dm,k.θ,k.κ,k.ro,fun _ h=> .inl h,(sS (H.drop id) ao).1,(sS (H.drop id) ao).2.1,fun j h=>h.elim (fun e=> .inr ((sS (H.drop id) ao).2.2 j e)) .inl,al.os,al.tape,al.output,J,?_,?_,rfl⟩,⟨hf.1,hf.2,?_,?_,?_,bJ.cD r.ku k.ro k.Cb,?_⟩⟩
 ·intro b _ hn
  grind
 ·intro j o2 Z gu;rcases hg j o2 Z with ⟨rfl,rfl⟩|⟨_,h3⟩
  ·grind [En.ext_θ_new]
  ·have:=(r.live j o2 h3).1;exact⟨j,o2,h3,by rw [En.ext_θ _ _ _ _ (r.sv this)]⟩
 ·intro j o2 Z;rcases hg j o2 Z with ⟨rfl,rfl⟩|⟨gB,h3⟩
  ·rw [En.ext_θ_new];exact⟨En.gV _ _ _ _,ho,(r.live id o W).2.2⟩
  ·obtain⟨h4,h5,h6⟩:=r.live j o2 h3;refine⟨.inr h4,h5.cD k h4 (l7 _ fun e=>gB (r.inj j id o2 o h3 W e)) (fun key b q hb=> ⟨hb,l7 b fun e2=>(r.hid b _ hb).2.2 id o W e2.symm⟩),?_⟩;rw [En.ext_θ _ _ _ _ (r.sv h4)]; exact h6
 ·intro i j o1 o2 U Z he;rcases hg i o1 U with ⟨e1,_⟩|⟨e1,h3⟩ <;>rcases hg j o2 Z with ⟨e2,_⟩|⟨e2,h4⟩
  ·omega
  ·have:=(r.live j o2 h4).1;rw [e1,En.ext_θ_new,En.ext_θ _ _ _ _ (r.sv this)] at he;exact absurd (r.inj id j o o2 W h4 he).symm e2
  ·have:=(r.live i o1 h3).1;rw [e2,En.ext_θ_new,En.ext_θ _ _ _ _ (r.sv this)] at he;exact absurd (r.inj i id o1 o h3 W he) e1
  ·have h5:=(r.live i o1 h3).1;have h6:=(r.live j o2 h4).1;rw [En.ext_θ _ _ _ _ (r.sv h5),En.ext_θ _ _ _ _ (r.sv h6)] at he;exact r.inj i j o1 o2 h3 h4 he
 ·intro b hb;rw [L6];exact r.sq b hb
 ·intro b x hb;obtain⟨q1,q2,q3⟩:=r.hid b x hb;refine⟨by rw [L6]; exact q1,q2,fun j o2 Z=>?_⟩;rcases hg j o2 Z with ⟨rfl,rfl⟩|⟨_,h3⟩
  ·rw [En.ext_θ_new];exact q3 id o W
  ·rw [En.ext_θ _ _ _ _ (r.sv (r.live j o2 h3).1)];exact q3 j o2 h3
def Jy:Value->Bool
 | .agg _=>true
 |_=>false
def Wm (P:Program):TypeDesc->Option TK
 | .bool=>some .bool
 | .int k=>some (.int k)
 | .string=>some .string
 | .pointer e=>some (.pointer e)
 | .slice e=>some (.slice e)
 | .array n e=>some (.array n e)
 | .map k e=>some (.map k e)
 | .struct fs=>(fs.toList.mapM fun f=>(P.info? f.type).map fun i=>(f.offset,f.type,i.size)).map .struct
 | .func _ _ _=>some .func
 | .interface ms=>some (.iface ms.isEmpty)
 | .tuple _=>some .tuple
 |_=>none
def Zc (P:Program) (t:Nat):Bool:=
 match P.underlying t with
 |some (.struct fs)=>!P.stoodInHeld t&&!P.eqGuardType P.depth t&&fs.toList.all fun f=>f.name != "_"&&(match P.underlying f.type with |some .bool|some .string|some (.int _)=>true|_=>false)
 |_=>false
def ahe (i:TypeInfo) (z:Value) (k:TK) (q:Bool):Option TI:=
 match lF z.cells.toList with
 |some zs=>if Jy z=k.agg then some { kind:=k,size:=i.size,bytes:=i.bytes,zero:=zs,eqs:=q } else none
 |none=>none
def M? (P:Program) (t:Nat):Option TI:=
 match P.info? t with
 |none=>none
 |some i=>match P.underlying t with
  |none=>none
  |some d=>match Wm P d with
   |none=>none
   |some k=>match i.zero with
    |none=>none
    |some z=>ahe i z k (Zc P t)
theorem fw (b o n:Nat):(⟨b,o,none⟩ : Addr).add n=⟨b,o+n,none⟩:=by unfold Addr.add; split<;>simp_all
def II (P:Program):TypeDesc->TK->Prop
 | .bool,.bool=>True
 | .int k,.int k'=>k=k'
 | .string,.string=>True
 | .pointer e,.pointer e'=>e=e'
 | .slice e,.slice e'=>e=e'
 | .array n e,.array n' e'=>n=n'/\e=e'
 | .map k e,.map k' e'=>k=k'/\e=e'
 | .struct fs,.struct l=>(fs.toList.mapM fun f=>(P.info? f.type).map fun i=>(f.offset,f.type,i.size))=some l
 | .func _ _ _,.func=>True
 | .interface _,.iface _=>True
 | .tuple _,.tuple=>True
 |_,_=>False
structure nC (P:Program) (t:Nat) (i:TI):Prop where
 eqs:i.eqs=true->Zc P t=true
 all: ∃inf d z,P.info? t=some inf/\P.underlying t=some d/\inf.zero=some z/\lF z.cells.toList=some i.zero/\inf.size=i.size/\inf.bytes=i.bytes/\II P d i.kind/\Jy z=i.agg
def eJ (P:Program) (tt:TT):Prop:= ∀t i,tt t=some i->nC P t i
theorem M_ {P:Program} {d:TypeDesc} {k:TK} (h:Wm P d=some k):II P d k:=by
 cases d
 case struct fs=>
  simp only [Wm,aZ] at h;obtain⟨l,U,rfl⟩:=h;exact U
 all_goals first
  |(simp only [Wm,an] at h; subst h; simp [II]; done)
  |(simp [Wm] at h; done)
theorem M! {P:Program} {t:Nat} {i:TI} (h:M? P t=some i):nC P t i:=by
 unfold M? at h;split at h
 ·grind
 ·rename_i inf U;split at h
  ·grind
  ·rename_i d Z;split at h
   ·grind
   ·rename_i k hk;split at h
    ·grind
    ·rename_i z h3;unfold ahe at h;split at h
     ·rename_i zs h4;split at h
      ·rename_i ha;simp only [an] at h;subst h;exact⟨fun hq=>hq,inf,d,z,U,Z,h3,h4,rfl,rfl,M_ hk,ha⟩
      grind
     grind
theorem lD (s:ByteArray):dy (bytesOf s)=s:=by
 unfold dy bytesOf
 have:(List.map UInt8.ofNat (List.map (fun x=>x.toNat) s.data.toList))=s.data.toList:=by
  rw [amU]
  conv=>rhs; rw [<- List.map_id s.data.toList]
  apply anc;intro b _;simp
 rw [this]
theorem yK (s:ByteArray): ∀b∈bytesOf s,b<256:=by intro b hb;unfold bytesOf at hb;rw [bd] at hb;obtain⟨c,_,rfl⟩:=hb;exact c.toNat_lt
theorem Ci {E:En} {h:Array Obj} {v:Value} {a:Y} (hv:gZ v=some a):VR E h a v/\v.oneCell'=true:=by
 cases v with
 |bool b=>simp [gZ] at hv; subst hv; simp [VR,SB.den,Value.oneCell']
 |int k n=>simp [gZ] at hv; subst hv; simp [VR,V.den,Value.oneCell']
 |string s=>simp [gZ] at hv; subst hv; exact⟨by simp only [VR]; exact⟨by rw [lD],yK s⟩,rfl⟩
 |pointer a=>cases a<;>simp [gZ] at hv; subst hv; simp [VR,Value.oneCell']
 |slice a l c=>
  cases a with
  |some a=>simp [gZ] at hv
  |none=>
   cases l with
   |succ l=>simp [gZ] at hv
   |zero=>cases c with
    |succ c=>simp [gZ] at hv
    |zero=>simp [gZ] at hv; subst hv; simp [VR,Value.oneCell']
 |map r=>cases r<;>simp [gZ] at hv; subst hv; simp [VR,Value.oneCell']
 |nilFunc=>simp [gZ] at hv; subst hv; simp [VR,Value.oneCell']
 |nilIface=>simp [gZ] at hv; subst hv; simp [VR,Value.oneCell']
 |func fn f c=>
  simp only [gZ] at hv;split at hv
  ·rename_i hx;simp at hx hv;subst hv;obtain⟨rfl,rfl⟩:=hx;exact⟨by simp only [VR]; exact⟨[],[],rfl,rfl,rfl⟩,rfl⟩
  grind
 |_=>simp [gZ] at hv
theorem fh {E:En} {h:Array Obj}: ∀{vs:List Value} {aml:List Y},lF vs=some aml->cJ E h aml vs/\∀v∈vs,v.oneCell'=true
 |[],aml,hv=>by simp [lF] at hv; subst hv; simp [cJ]
 |v::vs,aml,hv=>by
  simp only [lF] at hv;split at hv
  ·grind
  ·rename_i a ha;split at hv
   ·grind
   ·rename_i as' has;simp at hv;subst hv;have U:=Ci (E:=E) (h:=h) ha;have Z:=fh (E:=E) (h:=h) has;refine⟨by rw [bX]; exact⟨v,vs,rfl,U.1,Z.1⟩,?_⟩;intro u hu
    grind
theorem Oz {E:En} {h:Array Obj} {v:Value} {a:Y} (hv:ofConst v=some a):VR E h a v:=by
 cases v with
 |agg cs=>
  simp only [ofConst,aZ] at hv;obtain⟨l,U,rfl⟩:=hv;simp only [VR]
  grind [fh]
 |tuple cs=>
  simp only [ofConst,aZ] at hv;obtain⟨l,U,rfl⟩:=hv;simp only [VR]
  grind [fh]
 |_=>exact (Ci (by simpa [ofConst] using hv)).1
theorem VR.one {E:En} {h:Array Obj} {x:Y} {v:Value} (hv:VR E h x v) (U:x.one=true):v.oneCell'=true:=by
 cases x with
 |agg cs=>simp [Y.one] at U
 |tuple cs=>simp [Y.one] at U
 |LI i=>simp [Y.one] at U
 |xK k ks=>simp only [VR] at hv; rcases hv with ⟨⟨x,cap,rfl⟩,_⟩|⟨b,o,n,cap,rfl,_⟩ <;>rfl
 |slice id off len c=>simp only [VR] at hv; obtain⟨_,a,cap,rfl,_⟩:=hv; rfl
 |ro cs n full=>simp only [VR] at hv; obtain⟨b,o,cap,us,rfl,_⟩:=hv; rfl
 |nQ cs=>simp only [VR] at hv; obtain⟨b,o,us,rfl,_⟩:=hv; rfl
 |func fn fs cs=>simp only [VR] at hv; obtain⟨us,ws,rfl,_⟩:=hv; rfl
 |iface t x=>simp only [VR] at hv; obtain⟨u,rfl,_⟩:=hv; rfl
 |str s=>simp only [VR] at hv; rw [hv.1]; rfl
 |ptr id off=>simp only [VR] at hv; rw [hv.1]; rfl
 |map id=>simp only [VR] at hv; rw [hv.1]; rfl
 |emp=>simp only [VR] at hv; obtain⟨x,rfl⟩:=hv; rfl
 |eD e t=>simp only [VR] at hv; exact hv.aaa
 |kG e=>simp only [VR] at hv; exact hv.aaa
 |pV id n t=>simp only [VR] at hv; obtain⟨_,k,a,cap,_,rfl,_⟩:=hv; rfl
 |u5 id lo n t=>simp only [VR] at hv; obtain⟨_,l,k,a,cap,_,_,rfl,_⟩:=hv; rfl
 |any=>simp [Y.one] at U
 |xU z t=>simp only [VR] at hv; obtain⟨⟨x,rfl⟩,_⟩:=hv; rfl
 |Ax id es i off=>simp only [VR] at hv; obtain⟨_,k,_,rfl⟩:=hv; rfl
 |_=>simp only [VR] at hv; rw [hv]; rfl
theorem cJ.sQ {E:En} {h:Array Obj}: ∀{xs:List Y} {us:List Value},cJ E h xs us->sc xs=true->∀u∈us,u.oneCell'=true
 |[],us,hv,_=>by rw [iN] at hv; subst hv; simp
 |x::xs,us,hv,U=>by
  rw [bX] at hv;obtain⟨u,vs,rfl,Z,h3⟩:=hv;simp [sc] at U;intro y hy;rcases aF.1 hy with rfl|hy
  ·exact Z.one U.1
  ·exact h3.sQ U.2 y hy
theorem VR.cells {E:En} {h:Array Obj} {x:Y} {v:Value} (hv:VR E h x v) (U:sc x.cells=true):cJ E h x.cells v.cells.toList:=by
 cases x with
 |agg cs=> simp only [VR] at hv;obtain⟨us,rfl,Z⟩:=hv;simpa [Y.cells,Value.cells] using Z
 |_=>
  all_goals
   simp only [Y.cells] at U ⊢;have Z:=hv.one (by simpa [sc] using U);rw [bX];refine⟨v,[],?_,hv,rfl⟩;cases v<;>first |rfl|simp [Value.oneCell'] at Z
theorem sN {P:Program} {w:World} {b o n:Nat} {us:List Value} (hn:us.length=n) (h:gk w.heap b o us) :
 (loadCells ⟨b,o,none⟩ n).run P w= .ok us.toArray w:=by
 subst hn;refine run_loadCells_list w _ us fun j v hj=>?_;rw [fw,oM];exact h j v hj
theorem gk.drop {h:Array Obj} {b o:Nat} {us:List Value} (hc:gk h b o us) (k:Nat):gk h b (o+k) (us.drop k):=by
 intro i u hu;rw [amV] at hu;have:=hc (k+i) u hu
 grind
theorem gk.take {h:Array Obj} {b o:Nat} {us:List Value} (hc:gk h b o us) (k:Nat):gk h b o (us.take k):=by
 intro i u hu;rw [amW] at hu;split at hu
 ·exact hc i u hu
 grind
theorem xX {E:En} {h:Array Obj} {id:Nat} {cs:List Y} {e:TypeId} (ho:OR E h id (.cells cs e)) :
 ∃us,cJ E h cs us/\gk h (E.θ id).1 (E.θ id).2 us/\∀u∈us,u.oneCell'=true:=by
 obtain⟨arr,lo,hi,us,U,Z,h3,h4,h5,h6,h7⟩:=ho;refine⟨us,Z,fun i u hu=>?_,h7⟩;simp only [kJ,U]
 grind
theorem wI [bJ] {E:En} {H:Hp} {w:World} (r:bS E H w) {p:Y} {u:Value} {n:Nat} {l:List Y} (hp:VR E w.heap p u) (h:nu H p n=some l) :
 ∃b o us,u= .pointer (some ⟨b,o,none⟩)/\us.length=n/\cJ E w.heap l us/\gk w.heap b o us/\∀u∈us,u.oneCell'=true:=by
 cases p with
 |ptr id off=>
  simp only [nu] at h;split at h
  ·rename_i cs e W;split at h
   ·rename_i l' hd;obtain⟨us,Z,h3,h4⟩:=xX (r.live id _ W).2.1;obtain⟨h5,h6,h7⟩:=Z.eS hd;obtain⟨h8,h9⟩:=h5.ja h;simp only [VR] at hp;refine⟨_,_,_,hp.1,?_,h8,(h3.drop off).take n,fun x hx=>h4 x (amn (amo hx))⟩;have:=h5.length
    grind
   grind
  grind
 |nQ cs=>
  simp only [nu] at h;simp only [VR] at hp;obtain⟨b,o,us,rfl,_,Z,h3,h4⟩:=hp;obtain⟨h5,h6⟩:=Z.ja h;refine⟨b,o,_,rfl,?_,h5,h3.take n,fun x hx=>h4 x (amo hx)⟩;have:=Z.length
  grind
 |_=>simp [nu] at h
theorem wD {E:En} {h:Array Obj}: ∀{cs:List Y} {o:Nat} {vs mw:List Y} {us ws:List Value},ef cs o vs=some mw->cJ E h cs us->cJ E h vs ws->
 mw.length=cs.length/\o+vs.length<=cs.length/\∃gX,cJ E h mw gX/\∀i,gX[i]?=if o<=i/\i<o+ws.length then ws[i-o]? else us[i]?
 |cs,0,[],mw,us,ws,U,Z,h3=>by cases cs<;>simp [ef] at U<;>subst U<;>rw [iN] at h3<;>subst h3<;>exact⟨rfl,ad,us,Z,fun i=>by simp⟩
 |[],0,_::_,mw,us,ws,U,Z,h3=>by simp [ef] at U
 |c::cs,0,v::vs,mw,us,ws,U,Z,h3=>by
  simp only [ef] at U;split at U
  ·rename_i l W;simp at U;subst U;rw [bX] at Z h3;obtain⟨u,gX,rfl,ha,hb⟩:=Z;obtain⟨x,ws',rfl,hc,hd⟩:=h3;obtain⟨e1,e2,We,e3,e4⟩:=wD W hb hd;refine⟨by simp [e1],by simp at e2 ⊢; omega,x::We,by rw [bX]; exact⟨x,We,rfl,hc,e3⟩,?_⟩;intro i
   grind
  grind
 |[],_+1,vs,mw,us,ws,U,Z,h3=>by cases vs<;>simp [ef] at U
 |c::cs,o+1,vs,mw,us,ws,U,Z,h3=>by
  have RZ:(match ef cs o vs with |some l=>some (c::l)|none=>none)=some mw:=by cases vs<;>exact U
  split at RZ
  ·rename_i l W;simp at RZ;subst RZ;rw [bX] at Z;obtain⟨u,gX,rfl,ha,hb⟩:=Z;obtain⟨e1,e2,We,e3,e4⟩:=wD W hb h3;refine⟨by simp [e1],by simp; omega,u::We,by rw [bX]; exact⟨u,We,rfl,ha,e3⟩,?_⟩;intro i
   grind
  grind
theorem nt {P:Program} (b o:Nat) (e:TypeId) (lo hi:Nat): ∀(vs:List Value) (i:Nat) (arr:Array Value) (w:World),
 w.heap[b]?=some (.cells arr e (lo,hi))->(∀x,lo<=x->x<hi->arr.size<=x)->o+i+vs.length<=arr.size->(∀v∈vs,v.oneCell'=true)->
 ∃w' KG,(storeCells ⟨b,o,none⟩ vs i).run P w= .ok () w'/\Alike w w'/\w'.heap.size=w.heap.size/\(∀j,j≠b->w'.heap[j]?=w.heap[j]?)/\
  w'.heap[b]?=some (.cells KG e (lo,hi))/\KG.size=arr.size/\∀j,KG[j]?=if o+i<=j/\j<o+i+vs.length then vs[j-(o+i)]? else arr[j]?
 |[],i,arr,w,hb,_,_,_=> ⟨w,arr,rfl,⟨rfl,rfl,rfl⟩,rfl,fun _ _=>rfl,hb,rfl,fun j=>by rw [ah ad]⟩
 |v::vs,i,arr,w,hb,hf,W,U=>by
  have AU:o+i<arr.size:=by simp at W; omega
  have kJ:w.cell? ⟨b,o+i,none⟩ = some arr[o+i]:=by simp [World.cell?,hb,AU]
  have ami:w.frozen? ⟨b,o+i,none⟩ = false:=by
   simp only [World.frozen?,hb,Bool.and_eq_false_iff,decide_eq_false_iff_not]
   grind
  have Dp:(store ((⟨b,o,none⟩ : Addr).add i) v).run P w= .ok () (w.setCell ⟨b,o+i,none⟩ v):=by
   rw [fw,run_store P w _ v _ (U v ad),kJ]
   grind
  have rQ:(w.setCell ⟨b,o+i,none⟩ v).heap[b]?=some (.cells (arr.setIfInBounds (o+i) v) e (lo,hi)):=by simp [World.setCell,aog,hb]
  have iW:(w.setCell ⟨b,o+i,none⟩ v).heap.size=w.heap.size:=by simp [World.setCell]
  have hot: ∀j,j≠b->(w.setCell ⟨b,o+i,none⟩ v).heap[j]?=w.heap[j]?:=by
   intro j hj;simp only [World.setCell,aog]
   grind
  obtain⟨w',KG,e1,e2,e3,e4,e5,e6,e7⟩:=nt (P:=P) b o e lo hi vs (i+1) _ _ rQ (by simpa using hf) (by simp at W ⊢; omega) (fun x hx=>U x (by simp [hx]));refine⟨w',KG,?_,⟨e2.os,e2.tape,e2.output⟩,e3.trans iW,fun j hj=>(e4 j hj).trans (hot j hj),e5,by simpa using e6,?_⟩
  ·simp only [storeCells,Sem.run_bind,Dp,Result.andThen_ok];exact e1
  grind
theorem mz [bJ] {P:Program} {E:En} {H:Hp} {w:World} (r:bS E H w) {id off:Nat} {cs vs mw:List Y} {e:TypeId} {ws:List Value} (W:H.get id=some (.cells cs e))
 (hs:ef cs off vs=some mw) (hv:cJ E w.heap vs ws) (U: ∀u∈ws,u.oneCell'=true) :
 ∃w',(storeCells ⟨(E.θ id).1,(E.θ id).2+off,none⟩ ws).run P w= .ok () w'/\fj E H w E (H.put id (.cells mw e)) w'/\bS E (H.put id (.cells mw e)) w':=by
 obtain⟨arr,lo,hi,us,g1,g2,g3,g4,g5,g6,g7⟩:=(r.live id _ W).2.1;obtain⟨s1,s2,gX,s3,s4⟩:=wD hs g2 hv;have hlen:=hv.length;have hlu:=g2.length;obtain⟨w',KG,e1,e2,e3,e4,e5,e6,e7⟩:=nt (P:=P) (E.θ id).1 ((E.θ id).2+off) e lo hi ws 0 arr w g1 g6 J U;refine⟨w',e1,Ec r W _ e3 e4 e2 ?_⟩;have k:=mQ r W e4;refine⟨KG,lo,hi,gX,e5,cJ.cD k _ _ s3,?_,J,by rw [e6]; exact g5,by rw [e6]; exact g6,?_⟩
 ·intro i u hu
  grind
 ·intro u hu;rw [ane] at hu
  grind
def ca (ρ:Nat->Int) (pc:List (SB×Bool)):Prop:= ∀c b,(c,b)∈pc->c.den ρ=b
def SR (E:En) (h:Array Obj) (bG:Tr Y) (a:Act):Prop:= ∀t v,bG.get t=some v->∃u,a.tmps[t]?=some u/\VR E h v u
def pS (P:Program) (o:Oper) (a:Act) (w:World) (R:Value->World->Prop):Prop:=
 ∀(K:Act->World->Prop) (Q:Exit->Act->World->Prop),(∀u w',R u w'->K (a.put o.dst u) w')->o.wp P a w K Q
theorem pS.value {P:Program} {o:Oper} {a:Act} {w w':World} {R:Value->World->Prop} {u:Value} (h:(execOp a.eval o).run P w= .ok (.value u) w') (hr:R u w'):pS P o a w R:=
 fun K Q hk=>by unfold Oper.wp; rw [h]; exact hk u w' hr
theorem pS.skip {P:Program} {o:Oper} {a:Act} {w w':World} {R:Value->World->Prop} (h:(execOp a.eval o).run P w= .ok .skip w') (hr:R undef w'):pS P o a w R:=
 fun K Q hk=>by unfold Oper.wp; rw [h]; exact hk _ w' hr
theorem gC {E:En} {w:World} {s:St} {a:Act} (sr:SR E w.heap s.bG a) {x:Operand} {v:Y} (h:ev s x=some v):VR E w.heap v (a.eval x):=by
 cases x with
 |tmp t=> obtain⟨u,U,Z⟩:=sr t v h;simp only [Act.eval,amX,U,ax];exact Z
 |const c=>exact Oz h
 |func f=> simp [ev] at h;subst h;simp only [VR,Act.eval];exact⟨[],[],rfl,rfl,rfl⟩
 |global g=>simp [ev] at h
theorem JV {E:En} {w:World} {s:St} {a:Act} (sr:SR E w.heap s.bG a): ∀{xs:List Operand} {vs:List Y},evs s xs=some vs->cJ E w.heap vs (xs.map a.eval)
 |[],vs,h=>by simp [evs] at h; subst h; simp [cJ]
 |x::xs,vs,h=>by
  simp only [evs] at h;split at h
  ·grind
  ·rename_i b hb;split at h
   ·grind
   ·rename_i bs hbs;simp at h;subst h;rw [aH,bX];exact⟨_,_,rfl,gC sr hb,JV sr hbs⟩
section
variable {P:Program} {t:Nat} {i:TI}
theorem pH (h:nC P t i) (w:World):(isAgg t).run P w= .ok i.agg w:=by obtain⟨inf,d,z,U,Z,h3,h4,h5,h6,h7,_⟩:=h.all;unfold isAgg;simp only [Sem.run_bind,run_underlying Z,Result.andThen_ok];cases d<;>cases hk:i.kind<;>simp only [hk,II] at h7<;>simp [TI.agg,TK.agg,hk]
theorem eF (h:nC P t i) (w:World):(sizeOf t).run P w= .ok i.size w:=by obtain⟨inf,d,z,U,Z,h3,h4,h5,h6,h7,_⟩:=h.all;simp [sizeOf,typeInfo,U,h5]
theorem fC (h:nC P t i) {e:Nat} (hk:i.kind= .slice e):P.underlying t=some (.slice e):=by obtain⟨inf,d,z,U,Z,h3,h4,h5,h6,h7,_⟩:=h.all;rw [Z];cases d<;>simp [hk,II] at h7;rw [h7]
theorem sA (h:nC P t i) {n e:Nat} (hk:i.kind= .array n e):P.underlying t=some (.array n e):=by
 obtain⟨inf,d,z,U,Z,h3,h4,h5,h6,h7,_⟩:=h.all;rw [Z];cases d<;>simp [hk,II] at h7
 grind
theorem wB (h:nC P t i) {k e:Nat} (hk:i.kind= .map k e):P.underlying t=some (.map k e):=by
 obtain⟨inf,d,z,U,Z,h3,h4,h5,h6,h7,_⟩:=h.all;rw [Z];cases d<;>simp [hk,II] at h7
 grind
theorem tx (h:nC P t i) {k:IntKind} (hk:i.kind= .int k):P.underlying t=some (.int k):=by obtain⟨inf,d,z,U,Z,h3,h4,h5,h6,h7,_⟩:=h.all;rw [Z];cases d<;>simp [hk,II] at h7;rw [h7]
theorem fX (h:nC P t i) (hk:i.kind= .string):P.underlying t=some .string:=by
 obtain⟨inf,d,z,U,Z,h3,h4,h5,h6,h7,_⟩:=h.all
 grind [II]
theorem La (h:nC P t i) (hk:i.kind= .bool):P.underlying t=some .bool:=by
 obtain⟨inf,d,z,U,Z,h3,h4,h5,h6,h7,_⟩:=h.all
 grind [II]
theorem yb (h:nC P t i) {l:List (Nat×Nat×Nat)} (hk:i.kind= .struct l): ∃fs:Array Field,P.underlying t=some (.struct fs)/\(fs.toList.mapM fun f=>(P.info? f.type).map fun i=>(f.offset,f.type,i.size))=some l:=by
 obtain⟨inf,d,z,U,Z,h3,h4,h5,h6,h7,_⟩:=h.all;rw [Z];cases d<;>simp [hk,II] at h7
 grind
theorem wW (h:nC P t i): ∃inf z,P.info? t=some inf/\inf.size=i.size/\inf.bytes=i.bytes/\inf.zero=some z/\lF z.cells.toList=some i.zero:=by
 obtain⟨inf,d,z,U,Z,h3,h4,h5,h6,h7,_⟩:=h.all
 grind
end
theorem BK [bJ] {P:Program} {tt:TT} (cV:eJ P tt) {E:En} {H:Hp} {w:World} (r:bS E H w) {t:Nat} {p v:Y} {u:Value} (hp:VR E w.heap p u) (h:BL tt t p H=some v) :
 ∃x b o,u= .pointer (some ⟨b,o,none⟩)/\(loadVar t ⟨b,o,none⟩).run P w= .ok x w/\VR E w.heap v x:=by
 unfold BL at h;split at h
 ·grind
 ·rename_i i hi;have gp:=cV t i hi;split at h
  ·rename_i O1;rw [aZ] at h;obtain⟨l,W,rfl⟩:=h;obtain⟨b,o,us,rfl,Z,h3,h4,_⟩:=wI r hp W;refine⟨.agg us.toArray,b,o,rfl,?_,by simp only [VR]; exact⟨us,rfl,h3⟩⟩;simp [loadVar,pH gp,O1,eF gp,sN Z h4]
  ·rename_i O1;split at h
   ·rename_i v' l W;simp at h;subst h;obtain⟨b,o,us,rfl,Z,h3,h4,_⟩:=wI r hp W;rw [bX] at h3;obtain⟨x,vs,rfl,h5,_⟩:=h3;refine⟨x,b,o,rfl,?_,h5⟩;have hc:w.cell? ⟨b,o,none⟩ = some x:=by rw [oM]; exact h4 0 x rfl
    simp [loadVar,pH gp,O1,hc]
   grind
theorem mj (k:IntKind) (n:Int):uX k n=k.wrap n:=by
 unfold uX;split
 ·split
  ·rename_i h; exact (IntWalk.i64_in n h).symm
  ·rfl
 ·split
  ·rename_i h; exact (IntWalk.u8_in n h).symm
  ·rfl
 ·rfl
theorem TV (ρ:Nat->Int) (k:IntKind) (a b:V):(Xt k a b).den ρ=k.wrap (a.den ρ+b.den ρ):=by
 unfold Xt
 grind [V.den,mj]
theorem GV (ρ:Nat->Int) (k:IntKind) (a b:V):(QS k a b).den ρ=k.wrap (a.den ρ-b.den ρ):=by
 unfold QS
 grind [V.den,mj]
theorem TU (ρ:Nat->Int) (k:IntKind) (a b:V):(Xs k a b).den ρ=k.wrap (a.den ρ*b.den ρ):=by
 unfold Xs
 grind [V.den,mj]
theorem eg (ρ:Nat->Int) (a b:V):(iU a b).den ρ=decide (a.den ρ<b.den ρ):=by
 unfold iU;split
 ·rfl
 ·simp [SB.den]
theorem Xu (ρ:Nat->Int) (a b:V):(S! a b).den ρ=decide (a.den ρ<=b.den ρ):=by
 unfold S!;split
 ·rfl
 ·simp only [SB.den]
  grind
theorem gY (ρ:Nat->Int) (a b:V):(rK a b).den ρ=(a.den ρ == b.den ρ):=by
 unfold rK;split
 ·simp [SB.den,V.den]
 ·simp only [SB.den,V.den]
  grind
 grind [cX,SB.den]
theorem nP (ρ:Nat->Int) (s:SB):(xE s).den ρ=!(s.den ρ):=by
 unfold xE
 grind [SB.den]
theorem mG: ∀(x y:List Nat),iu x y=true↔x=y
 |[],[]=>by simp [iu]
 |[],_::_=>by simp [iu]
 |_::_,[]=>by simp [iu]
 |a::x,b::y=>by
  simp only [iu]
  cases h:a.beq b with
  |true=>have:=az h; subst this; simp [mG x y]
  |false=>have:=anf h; simp [this]
theorem qU (s:List Nat):(dy s).toList=s.map UInt8.ofNat:=by simp_all [dy]
theorem lC (s:List Nat):(dy s).size=s.length:=by show (List.map UInt8.ofNat s).toArray.size=_;simp
theorem ofNat_inj {a b:Nat} (ha:a<256) (hb:b<256) (h:UInt8.ofNat a=UInt8.ofNat b):a=b:=by have:=congrArg UInt8.toNat h;simpa [amN,amG ha,amG hb] using this
theorem map_inj: ∀{x y:List Nat},(∀b∈x,b<256)->(∀b∈y,b<256)->x.map UInt8.ofNat=y.map UInt8.ofNat->x=y
 |[],[],_,_,_=>rfl
 |[],_::_,_,_,h=>by simp at h
 |_::_,[],_,_,h=>by simp at h
 |a::x,b::y,hx,hy,h=>by simp only [aH,List.cons.injEq] at h;rw [ofNat_inj (hx a ad) (hy b ad) h.1,map_inj (fun c hc=>hx c (by simp [hc])) (fun c hc=>hy c (by simp [hc])) h.2]
theorem QN {x y:List Nat} (hx: ∀b∈x,b<256) (hy: ∀b∈y,b<256):((dy x).toList == (dy y).toList)=iu x y:=by
 grind [qU,mG,map_inj]
theorem GP: ∀{x y:List Nat},(∀b∈x,b<256)->(∀b∈y,b<256)->Op.bytesLess (x.map UInt8.ofNat) (y.map UInt8.ofNat)=bytesLess x y
 |[],[],_,_=>by simp [Op.bytesLess,bytesLess]
 |[],_::_,_,_=>by simp [Op.bytesLess,bytesLess]
 |_::_,[],_,_=>by simp [Op.bytesLess,bytesLess]
 |a::x,b::y,hx,hy=>by
  have ha:=hx a ad;have hb:=hy b ad;have ih:=GP (x:=x) (y:=y) (fun c hc=>hx c (by simp [hc])) (fun c hc=>hy c (by simp [hc]));simp only [aH,Op.bytesLess,bytesLess,ih]
  have U:decide (UInt8.ofNat a<UInt8.ofNat b)=a.blt b:=by rw [amA,decide_eq_true_iff,UInt8.lt_iff_toNat_lt,amN,amN,amG ha,amG hb];simp_all
  have Z:(UInt8.ofNat a == UInt8.ofNat b)=a.beq b:=by rw [amA,beq_iff_eq];exact⟨fun h=>by rw [ofNat_inj ha hb h]; simp,fun h=>by rw [az h]⟩
  grind
theorem Lm {P:Program} {E:En} {w:World} {op:BinOp} {x y:List Nat} {v:Y} (hx: ∀b∈x,b<256) (hy: ∀b∈y,b<256) (h:Ln op x y=some v) :
 ∃u,(Op.stringOp op (dy x) (dy y)).run P w= .ok u w/\VR E w.heap v u:=by
 have he:=QN hx hy;have W:Op.bytesLess (dy x).toList (dy y).toList=bytesLess x y:=by rw [qU,qU]; exact GP hx hy
 unfold Ln at h;cases op<;>simp only [an,reduceCtorEq] at h
 case add=>
  split at h
  ·rename_i hh;simp at h;subst h;have hm:IntKind.i64.max=9223372036854775807:=ae
   refine⟨.string (dy x++dy y),?_,?_⟩
   ·simp only [Op.stringOp,lC,hm];rw [ah J];rfl
   ·simp only [VR];refine⟨?_,?_⟩
    ·congr 1;apply ByteArray.ext;simp [dy]
    ·intro b hb;rcases amt.1 hb with hb|hb
     ·exact hx b hb
     ·exact hy b hb
  ·simp at h
 all_goals
  subst h;exact⟨_,rfl,by simp only [VR,SB.den,he,W]⟩
theorem jJ {ρ:Nat->Int} {c:SB} {b:Bool}: ∀{pc:List (SB×Bool)},ca ρ pc->nR c pc=some b->c.den ρ=b
 |[],_,h=>by simp [nR] at h
 |(d,x)::l,hp,h=>by
  simp only [nR] at h;split at h
  ·rename_i he;have he:=sK _ _ he;simp at h;subst he h;exact hp _ _ ad
  ·exact jJ (fun c b hm=>hp c b (by simp [hm])) h
def sg (lo hi:Option Int) (x:Int):Prop:=(∀l,lo=some l->l<=x)/\∀h,hi=some h->x<=h
theorem Jn {lo:Option Int} {z x:Int} (h: ∀l,lo=some l->l<=x) (hz:z<=x): ∀l,X2 lo z=some l->l<=x:=by
 intro l W;unfold X2 at W
 grind
theorem Jm {hi:Option Int} {z x:Int} (h: ∀l,hi=some l->x<=l) (hz:x<=z): ∀l,X1 hi z=some l->x<=l:=by
 intro l W;unfold X1 at W
 grind
theorem XO {lo:Option Int} {z x:Int} (h: ∀l,lo=some l->l<=x) (hz:x≠z): ∀l,XP lo z=some l->l<=x:=by
 intro l W;unfold XP at W
 grind
theorem XQ {hi:Option Int} {z x:Int} (h: ∀l,hi=some l->x<=l) (hz:x≠z): ∀l,XR hi z=some l->x<=l:=by
 intro l W;unfold XR at W
 grind
theorem ra {ρ:Nat->Int} {x y:V} {v:Bool} (h:(SB.lt x y).den ρ=v):(x.den ρ<y.den ρ)↔v=true:=by subst h; simp [SB.den]
theorem Sp {ρ:Nat->Int} {x y:V} {v:Bool} (h:(SB.eq x y).den ρ=v):(x.den ρ=y.den ρ)↔v=true:=by subst h; simp [SB.den]
theorem o! {ρ:Nat->Int} (e:V):sg (S7 e).1 (S7 e).2 (e.den ρ):=by
 have h0:sg none none (e.den ρ):=⟨ad,ad⟩;unfold S7;split
 ·split
  ·split
   ·split
    ·split
     ·split
      ·split
       ·rename_i k m x n hn;obtain⟨hn,rfl,rfl⟩:=hn;simp only [V.den];have U:=ang (m.den ρ) (b:=n) J
        have Z: -n<(m.den ρ).tmod n:=by have U:=ang (-(m.den ρ)) (b:=n) J;rw [Int.neg_tmod] at U;omega
        have h3:=Int.tmod_nonneg n (a:=(m.den ρ).tmod n+n) J;have h4:=ang ((m.den ρ).tmod n+n) (b:=n) J;constructor<;>intro l W<;>simp at W<;>omega
       grind
      grind
     grind
    grind
   grind
  grind
 ·rename_i o a b
  cases o with
  |len=> refine⟨fun l W=>?_,ad⟩;simp only [an] at W;subst W;simp only [V.den,fT.den];omega
  |_=>exact h0
 grind
theorem mL {ρ:Nat->Int} {e:V}: ∀{pc:List (SB×Bool)},ca ρ pc->sg (bounds e pc).1 (bounds e pc).2 (e.den ρ)
 |[],_=>o! e
 |(c,v)::l,hp=>by
  have ih:=mL (e:=e) (pc:=l) (fun c b hm=>hp c b (by simp [hm]));have hc:=hp c v ad;unfold bounds;split
  ·have hc:=ra hc;split
   ·split
    ·exact ih
    ·rename_i he;have he:=cX _ _ he;subst he;revert ih;split;rename_i lo hi hb;rw [hb];intro ih;simp only [V.den] at hc;cases v
     ·exact⟨ih.1,Jm ih.2 (by simp at hc; omega)⟩
     ·exact⟨Jn ih.1 (by simp at hc; omega),ih.2⟩
   ·split
    ·split
     ·exact ih
     ·rename_i he;have he:=cX _ _ he;subst he;revert ih;split;rename_i lo hi hb;rw [hb];intro ih;simp only [V.den] at hc;cases v
      ·exact⟨Jn ih.1 (by simp at hc; omega),ih.2⟩
      ·exact⟨ih.1,Jm ih.2 (by simp at hc; omega)⟩
    grind
  ·split
   ·split
    ·split
     ·exact ih
     ·rename_i he;have he:=cX _ _ he;subst he;revert ih;split;rename_i lo hi hb;rw [hb];intro ih;simp only [SB.den,V.den,beq_eq_false_iff_ne] at hc;exact⟨XO ih.1 hc,XQ ih.2 hc⟩
    ·split
     ·exact ih
     ·rename_i he;have he:=cX _ _ he;subst he;simp only [SB.den,V.den,beq_iff_eq] at hc;exact⟨fun l W=>by simp at W; omega,fun l W=>by simp at W; omega⟩
   grind
  grind
theorem ya {ρ:Nat->Int} {e:V} {pc:List (SB×Bool)} (hp:ca ρ pc):sg (pD e pc).1 (pD e pc).2 (e.den ρ):=by
 have h0:=mL (e:=e) hp;unfold pD;split
 ·split
  ·split
   ·split
    ·rename_i b _ c;have hb:=mL (e:=b) hp;split
     ·rename_i lo hi NJ;rw [NJ] at hb;have b1:=hb.1 lo rfl;have b2:=hb.2 hi rfl;split
      ·rename_i hr;revert h0;split;rename_i l2 Z hee;rw [hee];intro h0
       have hw:(V.wrap .i64 (.add b (.lit c))).den ρ=b.den ρ+c:=by
        simp only [V.den];rw [<- mj];simp only [uX]
        grind
       exact⟨Jn h0.1 (by rw [hw]; omega),Jm h0.2 (by rw [hw]; omega)⟩
      grind
     grind
    grind
   grind
  grind
 grind
theorem EA {ρ:Nat->Int} {pc:List (SB×Bool)} (hp:ca ρ pc) {a b:V} {v:Bool} (h:Rp a b pc=some v):a.den ρ=b.den ρ↔v=true:=by
 unfold Rp at h;split at h
 ·rename_i U;simp at h;subst h;exact Sp (jJ hp U)
 ·rw [<- Sp (jJ hp h)]
  grind
theorem f_ {ρ:Nat->Int} {pc:List (SB×Bool)} (hp:ca ρ pc) {a b:V} {v:Bool} (h:decLt pc a b=some v):a.den ρ<b.den ρ↔v=true:=by
 unfold decLt at h;split at h
 ·rename_i U;simp at h;subst h;exact ra (jJ hp U)
 ·split at h
  ·have hb:=ya (e:=b) hp;have hz: ∀z,(V.lit z).den ρ=z:=fun _=>rfl;simp only [hz] at *;generalize NJ:pD _ pc=p at h hb;obtain⟨lo,hi⟩:=p;simp only [sg] at h hb
   grind
  ·split at h
   ·have hb:=ya (e:=a) hp;have hz: ∀z,(V.lit z).den ρ=z:=fun _=>rfl;simp only [hz] at *;generalize NJ:pD _ pc=p at h hb;obtain⟨lo,hi⟩:=p;simp only [sg] at h hb
    grind
   ·split at h
    ·rename_i U;have U:=EA hp U
     grind
    ·rename_i U;have U:=EA hp U;simp at U;split at h
     ·rename_i Z;have Z:=ra (jJ hp Z)
      grind
     grind
    ·split at h
     ·rename_i Z;have Z:=ra (jJ hp Z)
      grind
     grind
theorem f? {ρ:Nat->Int} {pc:List (SB×Bool)} (hp:ca ρ pc) {a b:V} {v:Bool} (h:decEq pc a b=some v):a.den ρ=b.den ρ↔v=true:=by
 unfold decEq at h;split at h
 ·rename_i U;simp at h;subst h;exact EA hp U
 ·split at h
  ·have hb:=ya (e:=a) hp;have hz: ∀z,(V.lit z).den ρ=z:=fun _=>rfl;simp only [hz] at *;generalize NJ:pD _ pc=p at h hb;obtain⟨lo,hi⟩:=p;simp only [sg] at h hb
   grind
  ·split at h
   ·rename_i Z;have Z:=ra (jJ hp Z)
    grind
   ·rename_i Z;have Z:=ra (jJ hp Z);simp at Z;split at h
    ·rename_i h3;have h3:=ra (jJ hp h3)
     grind
    grind
   ·split at h
    ·rename_i Z;have Z:=ra (jJ hp Z)
     grind
    grind
theorem FI {ρ:Nat->Int} {pc:List (SB×Bool)} (hp:ca ρ pc) {c:SB} {b:Bool} (h:DD pc c=some b):c.den ρ=b:=by
 unfold DD at h;split at h
 ·simp at h; simp [SB.den,h]
 ·have:=f_ hp h;simp only [SB.den]
  grind
 ·have:=f? hp h;simp only [SB.den]
  grind
 ·exact jJ hp h
theorem gW {ρ:Nat->Int} {pc:List (SB×Bool)} (hp:ca ρ pc) {c:SB} {b:Bool} (h:kO pc c=some b):c.den ρ=b:=by
 unfold kO at h;split at h
 ·rw [aZ] at h;obtain⟨x,U,rfl⟩:=h;simp only [SB.den,FI hp U]
 ·exact FI hp h
section
variable {P:Program} {E:En} {w:World}
theorem Yk {op:BinOp} {t:Nat} {k k':IntKind} {a b:V} {v:Y} (hk:op= .shr\/k=k') (h:RG op k a b=some v) :
 ∃u,(binOp op t (.int k (a.den E.ρ)) (.int k' (b.den E.ρ))).run P w= .ok u w/\VR E w.heap v u:=by
 unfold RG at h;cases op<;>simp only [an,reduceCtorEq] at h
 case add=>obtain rfl:k=k':=by simpa using hk
           subst h; exact⟨_,by simp [binOp,Op.intArith]; rfl,by simp only [VR,TV]⟩
 case sub=>obtain rfl:k=k':=by simpa using hk
           subst h; exact⟨_,by simp [binOp,Op.intArith]; rfl,by simp only [VR,GV]⟩
 case mul=>obtain rfl:k=k':=by simpa using hk
           subst h; exact⟨_,by simp [binOp,Op.intArith]; rfl,by simp only [VR,TU]⟩
 case quo=>
  obtain rfl:k=k':=by simpa using hk
  split at h
  ·split at h
   ·simp at h
   ·rename_i hy;simp at h;subst h;exact⟨_,by simp [binOp,Op.intDiv,V.den,hy]; rfl,by simp only [VR,V.den,mj]⟩
  ·split at h
   ·simp at h
   ·rename_i hy;simp at h;subst h;exact⟨_,by simp [binOp,Op.intDiv,V.den,hy]; rfl,by simp only [VR,V.den]⟩
  ·simp at h
 case rem=>
  obtain rfl:k=k':=by simpa using hk
  split at h
  ·split at h
   ·simp at h
   ·rename_i hy;simp at h;subst h;exact⟨_,by simp [binOp,Op.intDiv,V.den,hy]; rfl,by simp only [VR,V.den]⟩
  ·split at h
   ·simp at h
   ·rename_i hy;simp at h;subst h;exact⟨_,by simp [binOp,Op.intDiv,V.den,hy]; rfl,by simp only [VR,V.den]⟩
  ·simp at h
 case shr=>
  split at h
  ·split at h
   ·simp at h
   ·rename_i hy;simp at h;subst h;exact⟨_,by simp [binOp,Op.shift,V.den,hy]; rfl,by simp only [VR,V.den]⟩
  ·simp at h
 all_goals
  obtain rfl:k=k':=by simpa using hk
  subst h;refine⟨_,by simp [binOp,Op.intCmp]; rfl,?_⟩;simp only [VR,gY,nP,eg,Xu]
  first |rfl|(congr 1; simp [bne]; done)|(congr 1; rw [amA]; simp; done)|skip
theorem vZ {op:BinOp} {t:Nat} {x y:Operand} {a b:Value} (U: ∀cs ds,¬(a= .agg cs/\b= .agg ds)) (Z: ¬(a= .nilIface/\b= .nilIface)) :
 (eqGuard op t x y a b).run P w= .ok () w:=by
 cases op
 case eql=>
  cases a<;>first
   |(cases b<;>first |(exact absurd ⟨rfl,rfl⟩ (U _ _))|(exact absurd ⟨rfl,rfl⟩ Z)|rfl)
   |rfl
 case neq=>
  cases a<;>first
   |(cases b<;>first |(exact absurd ⟨rfl,rfl⟩ (U _ _))|(exact absurd ⟨rfl,rfl⟩ Z)|rfl)
   |rfl
 all_goals rfl
theorem CF {ρ:Nat->Int} {a b c:SB} (h:Dz a b=some c):c.den ρ=(a.den ρ == b.den ρ):=by
 unfold Dz at h;split at h<;>simp only [an,reduceCtorEq] at h<;>subst h
 ·simp [SB.den]
 ·grind [SB.den,nP]
 ·grind [SB.den,nP]
 ·simp only [SB.den];cases a.den ρ<;>cases b.den ρ<;>rfl
theorem zm {d:TypeDesc} {t:Nat} (h:P.underlying t=some d) (w:World):(underlying t).run P w= .ok d w:=run_underlying h w
theorem sW {i:TI} {t:Nat} (h:nC P t i): ∃d,P.underlying t=some d/\II P d i.kind:=by
 obtain⟨inf,d,z,U,Z,h3,h4,h5,h6,h7,_⟩:=h.all
 grind
theorem Sn {i:TI} {t:Nat} (ht:nC P t i) {x y:Y} {u u':Value} (hx:VR E w.heap x u) (hy:VR E w.heap y u') {c:SB} (h:afM i.kind x y=some c) :
 (Op.equal t u u').run P w= .ok (c.den E.ρ) w/\(∀cs ds,¬(u= .agg cs/\u'= .agg ds))/\¬(u= .nilIface/\u'= .nilIface)/\(∀k n,u≠.int k n)/\(∀s,u≠.string s)/\(∀k n,u≠.float k n)/\(∀k n m,u≠.complex k n m):=by
 obtain⟨d,U,Z⟩:=sW ht;have hm: ∀a b,Op.equal t a b=Op.equalIn (9999+1) t a b:=fun _ _=>rfl;rw [hm];clear hm;generalize (9999:Nat)=n;unfold afM at h;split at h
 ·rename_i hk;rw [hk] at Z;cases d<;>simp only [II] at Z;split at h
  ·simp only [VR] at hx hy;subst hx hy;refine⟨?_,ad,ad,ad,ad,ad,ad⟩;rw [CF h];simp [Op.equalIn,zm U]
  grind
 ·rename_i k hk;cases xu:i.kind<;>rw [xu] at h Z<;>simp only [isNil,reduceCtorEq] at h
  case pointer e=>
   cases d<;>simp only [II] at Z;cases x<;>simp only [reduceCtorEq] at h<;>cases y<;>simp only [reduceCtorEq,an] at h<;>subst h<;>simp only [VR] at hx hy
   all_goals
    first |(obtain⟨b,o,us,rfl,_⟩:=hx)|(obtain⟨rfl,_⟩:=hx)|subst hx
    first |(obtain⟨b',o',gX,rfl,_⟩:=hy)|(obtain⟨rfl,_⟩:=hy)|subst hy
    exact⟨by simp [Op.equalIn,zm U,SB.den],ad,ad,ad,ad,ad,ad⟩
  case slice e=>
   cases d<;>simp only [II] at Z;cases x<;>simp only [reduceCtorEq] at h<;>cases y<;>simp only [reduceCtorEq,an] at h<;>subst h<;>simp only [VR] at hx hy
   all_goals
    first |(obtain⟨b,o,cap,us,rfl,_⟩:=hx)|(obtain⟨_,b,cap,rfl,_⟩:=hx)|(obtain⟨_,k,b,cap,_,rfl,_⟩:=hx)|subst hx
    first |(obtain⟨b',o',qE,gX,rfl,_⟩:=hy)|(obtain⟨_,b',qE,rfl,_⟩:=hy)|(obtain⟨_,k',b',qE,_,rfl,_⟩:=hy)|subst hy
    exact⟨by simp [Op.equalIn,zm U,SB.den],ad,ad,ad,ad,ad,ad⟩
  case map k' e=>
   cases d<;>simp only [II] at Z;cases x<;>simp only [reduceCtorEq] at h<;>cases y<;>simp only [reduceCtorEq,an] at h<;>subst h<;>simp only [VR] at hx hy
   all_goals
    first |(obtain⟨rfl,_⟩:=hx)|subst hx
    first |(obtain⟨rfl,_⟩:=hy)|subst hy
    exact⟨by simp [Op.equalIn,zm U,SB.den],ad,ad,ad,ad,ad,ad⟩
theorem binOp_eql {t:Nat} {u u':Value} {b:Bool} (h:(Op.equal t u u').run P w= .ok b w) (U: ∀k n,u≠.int k n) (Z: ∀s,u≠.string s) (h3: ∀k n,u≠.float k n) (h4: ∀k n m,u≠.complex k n m) :
 (binOp .eql t u u').run P w= .ok (.bool b) w/\(binOp .neq t u u').run P w= .ok (.bool (!b)) w:=by
 cases u<;>first
  |exact absurd rfl (U _ _)
  |exact absurd rfl (Z _)
  |exact absurd rfl (h3 _ _)
  |exact absurd rfl (h4 _ _ _)
  |(constructor<;>(cases u'<;>simp [binOp,h]))
theorem iZ (ρ:Nat->Int) (a b:V):(qW a b).den ρ=(a.den ρ == b.den ρ):=by
 unfold qW;split
 ·rename_i h
  grind [cX,SB.den]
 ·split
  ·simp only [SB.den]
   grind
  ·simp only [SB.den]
theorem mA (ρ:Nat->Int) (x:V):(nk x).den ρ=enc (dec (x.den ρ)):=by
 unfold nk;split
 ·simp only [V.den,bC]
 ·split
  ·simp only [V.den,fT.den,bC]
  ·simp only [V.den,fT.den,bC]
  ·simp only [V.den,fT.den]
 ·simp only [V.den,fT.den]
theorem zc {E:En} {h:Array Obj} {x:Y} {u:Value} {e:V} (hx:VR E h x u) (hs:uL x=some e): ∃s,u= .string s/\dec (e.den E.ρ)=uD s:=by
 unfold uL at hs;split at hs
 ·simp only [an] at hs;subst hs;simp only [VR] at hx;obtain⟨rfl,hb⟩:=hx;refine⟨_,rfl,?_⟩;simp only [V.den,bC]
  grind [AB,uD,dy]
 ·simp only [an] at hs;subst hs;simp only [VR] at hx;generalize dec (V.den E.ρ _)=d at hx ⊢
  cases hx with
  |str s=>exact⟨s,rfl,rfl⟩
 grind
theorem DX {E:En} {h:Array Obj} {x y:Y} {u v:Value} {c:SB} (hx:VR E h x u) (hy:VR E h y v) (hs:B6 x y=some c): ∃a b:ByteArray,u= .string a/\v= .string b/\c.den E.ρ=decide (a=b):=by
 unfold B6 at hs;split at hs
 ·grind
 ·rename_i e he;split at hs
  ·grind
  ·rename_i f hf;simp only [an] at hs;subst hs;obtain⟨a,rfl,ha⟩:=zc hx he;obtain⟨b,rfl,hb⟩:=zc hy hf;refine⟨a,b,rfl,rfl,?_⟩
   grind [iZ,mA,FJ,fg]
theorem yc (a b:ByteArray):(a.toList == b.toList)=decide (a=b):=by
 rw [amA,beq_iff_eq,decide_eq_true_eq];constructor
 ·intro h;rw [<- lD a,<- lD b]
  have e: ∀x:ByteArray,x.toList=x.data.toList:=by
   intro x;have:=qU (bytesOf x);rw [lD] at this;rw [this]
   have e2:(UInt8.ofNat ∘ fun b:UInt8=>b.toNat)=id:=by funext b;simp
   simp_all [bytesOf,e2]
  grind [bytesOf]
 grind
theorem GO {E:En} {op:BinOp} {x y v:Y} {u u':Value} {t:Nat} (hx:VR E w.heap x u) (hy:VR E w.heap y u') (h:IZ op (B6 x y)=some v) :
 (∃r,(binOp op t u u').run P w= .ok r w/\VR E w.heap v r)/\(∀cs ds,¬(u= .agg cs/\u'= .agg ds))/\¬(u= .nilIface/\u'= .nilIface):=by
 unfold IZ at h;split at h
 ·grind
 ·rename_i c hc;obtain⟨a,b,rfl,rfl,hd⟩:=DX hx hy hc;refine⟨?_,ad,ad⟩;split at h
  ·simp only [an] at h;subst h;refine⟨.bool (decide (a=b)),?_,by simp only [VR,hd]⟩;rw [<- yc];rfl
  ·simp only [an] at h;subst h;refine⟨.bool (!decide (a=b)),?_,by simp only [VR,SB.den,hd]⟩;rw [<- yc];rfl
  grind
theorem Za {tt:TT} (cV:eJ P tt) {t:Nat} {op:BinOp} {x y v:Y} {u u':Value} (hx:VR E w.heap x u) (hy:VR E w.heap y u') (h:Zb tt t op x y=some v) :
 (∃r,(binOp op t u u').run P w= .ok r w/\VR E w.heap v r)/\(∀cs ds,¬(u= .agg cs/\u'= .agg ds))/\¬(u= .nilIface/\u'= .nilIface):=by
 unfold Zb at h;split at h
 ·split at h
  ·simp only [VR] at hx hy;subst hx hy;refine⟨?_,ad,ad⟩;split at h
   all_goals simp_all [Yk]
  grind
 ·split at h
  ·simp only [VR] at hx hy;obtain⟨rfl,hx⟩:=hx;obtain⟨rfl,hy⟩:=hy;refine⟨?_,ad,ad⟩;obtain⟨r,U,Z⟩:=Lm (P:=P) (E:=E) (w:=w) hx hy h;refine⟨r,?_,Z⟩;cases op<;>first |(simp [Ln] at h; done)|(simpa [binOp] using U)
  ·exact GO hx hy h
  grind
 ·exact GO hx hy h
 ·split at h
  ·grind
  ·rename_i i hi;split at h
   ·rename_i c hc;simp at h;subst h;obtain⟨e1,e2,e3,e4,e5,e6,e7⟩:=Sn (w:=w) (cV t i hi) hx hy hc;exact⟨⟨_,(binOp_eql e1 e4 e5 e6 e7).1,by simp only [VR]⟩,e2,e3⟩
   ·rename_i c hc;simp at h;subst h;obtain⟨e1,e2,e3,e4,e5,e6,e7⟩:=Sn (w:=w) (cV t i hi) hx hy hc;exact⟨⟨_,(binOp_eql e1 e4 e5 e6 e7).2,by simp only [VR,nP]⟩,e2,e3⟩
   grind
theorem aaD {op:UnOp} {x v:Y} {u:Value} (hx:VR E w.heap x u) (h:afK op x=some v): ∃r,(Op.unary op u).run P w= .ok r w/\VR E w.heap v r:=by
 unfold afK at h;split at h
 ·simp at h; subst h;simp only [VR] at hx; subst hx;exact⟨_,rfl,by simp only [VR,nP]⟩
 ·simp at h; subst h;simp only [VR] at hx; subst hx;exact⟨_,rfl,by simp only [VR,GV,V.den]⟩
 grind
end
section
variable {P:Program} {E:En} {w:World}
theorem jy [bJ] {H:Hp} {w':World} (r:bS E H w) {cs:List Y} {us:List Value} (arr:Array Value) (lo hi:Nat) (e:TypeId) (hv:cJ E w.heap cs us) (U: ∀u∈us,u.oneCell'=true)
 (ha: ∀(i:Nat) (u:Value),us[i]?=some u->arr[i]?=some u) (hf: ∀o:Nat,lo<=o->o<hi->arr.size<=o) (hw:w'.heap=w.heap.push (.cells arr e (lo,hi))) (al:Alike w w') :
 fj E H w (E.ext H.fresh (w.heap.size,0) arr.size) (H.new (.cells cs e)) w'/\bS (E.ext H.fresh (w.heap.size,0) arr.size) (H.new (.cells cs e)) w':=by
 refine vz r _ _ _ hw al ?_;have k:=EE r (w.heap.size,0) arr.size (.cells arr e (lo,hi));rw [<- hw] at k;have hlen:=hv.length;simp only [OR,En.ext_θ_new,En.ext_κ_new];refine⟨arr,lo,hi,us,by rw [hw]; simp,cJ.cD k _ _ hv,fun i u hu=>by rw [aK]; exact ha i u hu,?_,J,hf,U⟩;rw [<- hlen];rcases bg arr.size us.length with hh|hh
 ·have:=ha arr.size us[arr.size] (by simp [hh])
  grind
 grind
theorem Jb [bJ] {H:Hp} (_:bS E H w) (c:Nat) (h:Array Obj) (off:Nat):VR (E.ext H.fresh (w.heap.size,0) c) h (.ptr H.fresh off) (.pointer (some ⟨w.heap.size,off,none⟩)):=by
 simp only [VR,En.ext_θ_new]
 grind [En.gV]
theorem Pf [bJ] {tt:TT} (cV:eJ P tt) {H H':Hp} (r:bS E H w) {t:Nat} {p v:Y} {u x:Value} (hp:VR E w.heap p u) (hx:VR E w.heap v x) (h:J0 tt t p v H=some H') :
 ∃w',(Instr.storeAt t u x).run P w= .ok () w'/\fj E H w E H' w'/\bS E H' w':=by
 unfold J0 at h;split at h
 ·grind
 ·rename_i i hi;split at h
  ·rename_i hc;simp only [au,decide_eq_true_eq] at hc;split at h
   ·split at h
    ·rename_i id off cs e W;split at h
     ·rename_i mw hs;simp at h;subst h;simp only [VR] at hp;obtain⟨rfl,_⟩:=hp;have NI:=hx.cells hc.2;have hlen:x.cells.size=i.size:=by have:=NI.length; simp only [bo] at this; omega
      obtain⟨w',U,Z,h3⟩:=mz (P:=P) r W hs NI (NI.sQ hc.2);refine⟨w',?_,Z,h3⟩;simp [Instr.storeAt,Instr.sureAddr,storeVar,eF (cV t i hi),hlen,U]
     grind
    grind
   grind
  grind
theorem HX: ∀(vs:List Value) (off k:Nat) (arr:Array Value),off+k+vs.length<=arr.size->
 ((vs.zipIdx k).foldl (fun cs p=>cs.setIfInBounds (off+p.2) p.1) arr).size=arr.size/\
 ∀i,((vs.zipIdx k).foldl (fun cs p=>cs.setIfInBounds (off+p.2) p.1) arr)[i]?=if off+k<=i/\i<off+k+vs.length then vs[i-(off+k)]? else arr[i]?
 |[],off,k,arr,_=> ⟨rfl,fun i=>by rw [ah ad]; rfl⟩
 |v::vs,off,k,arr,h=>by
  simp only [List.zipIdx_cons,List.foldl_cons];obtain⟨U,Z⟩:=HX vs off (k+1) (arr.setIfInBounds (off+k) v) (by simp at h ⊢; omega)
  grind
def uI (E:En) (h:Array Obj):List (Nat×Y)->List (Nat×Value)->Prop
 |[],ps=>ps= []
 |(i,v)::xs,ps=> ∃x r,ps=(i,x)::r/\VR E h v x/\uI E h xs r
theorem qx {place:Nat->Option (Nat×Nat)} {h:Array Obj}: ∀{parts:List (Nat×Y)} {cs mw:List Y} {us:Array Value} {ps:List (Nat×Value)},
 ug place cs parts=some mw->cJ E h cs us.toList->uI E h parts ps->(∀u∈us.toList,u.oneCell'=true)->
 ∃gX:Array Value,Instr.fill place us ps=some gX/\cJ E h mw gX.toList/\∀u∈gX.toList,u.oneCell'=true
 |[],cs,mw,us,ps,U,Z,h3,h4=>by simp only [uI] at h3;subst h3;simp [ug] at U;subst U;exact⟨us,rfl,Z,h4⟩
 |(i,v)::parts,cs,mw,us,ps,U,Z,h3,h4=>by
  simp only [uI] at h3;obtain⟨x,ps',rfl,hx,hb⟩:=h3;simp only [ug] at U;split at U
  ·simp at U
  ·rename_i off size hp;split at U
   ·rename_i hc;simp only [au,decide_eq_true_eq] at hc;split at U
    ·rename_i cs2 hs;have NI:=hx.cells hc.2;have hlen:=NI.length;simp only [bo] at hlen;obtain⟨e1,e2,gX,e3,e4⟩:=wD hs Z NI;have hul:=Z.length;simp only [bo] at hul;have aiH:=HX x.cells.toList off 0 us (by simp; omega)
     have heq:(x.cells.zipIdx.foldl (fun cs (c,j)=>cs.setIfInBounds (off+j) c) us).toList=gX:=by apply anu;intro k;rw [e4 k];have h5:=aiH.2 k;simp only [bw,bo] at h5;rw [amp,<- Array.foldl_toList,Array.toList_zipIdx];rw [h5];simp only [bo,amp]
     have h6: ∀u∈(x.cells.zipIdx.foldl (fun cs (c,j)=>cs.setIfInBounds (off+j) c) us).toList,u.oneCell'=true:=by
      rw [heq];intro u hu;rw [ane] at hu;obtain⟨k,hk⟩:=hu;rw [e4 k] at hk;split at hk
      ·exact NI.sQ hc.2 u (amm hk)
      ·exact h4 u (amm hk)
     obtain⟨us2,g1,g2,g3⟩:=qx (us:=x.cells.zipIdx.foldl (fun cs (c,j)=>cs.setIfInBounds (off+j) c) us) U (by rw [heq]; exact e3) hb h6;refine⟨us2,?_,g2,g3⟩;simp only [Instr.fill,hp];rw [ah]
     ·exact g1
     ·simp only [amY,decide_eq_true_eq,not_or];constructor
      ·omega
      ·omega
    ·simp at U
   ·simp at U
theorem yG {s:St} {a:Act} (sr:SR E w.heap s.bG a): ∀{xs:List (Nat×Operand)} {ps:List (Nat×Y)},w8 s xs=some ps->uI E w.heap ps (xs.map fun p=>(p.1,a.eval p.2))
 |[],ps,h=>by simp [w8] at h; subst h; simp [uI]
 |(i,x)::xs,ps,h=>by
  simp only [w8] at h;split at h
  ·grind
  ·rename_i b hb;split at h
   ·grind
   ·rename_i bs hbs;simp at h;subst h;simp only [aH,uI];exact⟨_,_,rfl,gC sr hb,yG sr hbs⟩
theorem dC {α:Type}: ∀(l:List α) (i:Nat),fu l i=l[i]?
 |[],i=>by cases i<;>rfl
 |x::xs,0=>rfl
 |x::xs,i+1=>by simp [fu,dC xs i]
theorem Ey {α β:Type} {f:α->Option β}: ∀{l:List α} {r:List β},l.mapM f=some r->∀i:Nat,r[i]?=(l[i]?).bind f
 |[],r,h,i=>by simp at h; subst h; simp
 |x::xs,r,h,i=>by
  simp only [anh,anO,anv] at h;obtain⟨y,U,ys,Z,h3⟩:=h;simp only [pure,an] at h3;subst h3
  cases i with
  |zero=>simp [U]
  |succ i=>simpa using Ey Z i
theorem Ro {α β:Type} {f:α->Option β}: ∀{l:List α} {r:List β},r.length=l.length->(∀i:Nat,r[i]?=(l[i]?).bind f)->l.mapM f=some r
 |[],r,h,_=>by simp at h; subst h; simp
 |x::xs,[],h,_=>by simp at h
 |x::xs,y::ys,h,Z=>by have h0:=Z 0;simp at h0;have ih:=Ro (l:=xs) (r:=ys) (by simpa using h) (fun i=>by simpa using Z (i+1));simp [anh,h0.symm,ih]
theorem Cp {α β:Type} {f:α->Option β}: ∀{l:List α} {r:List β},l.mapM f=some r->r.length=l.length
 |[],r,h=>by simp at h; subst h; simp
 |x::xs,r,h=>by simp only [anh,anO,anv] at h;obtain⟨y,U,ys,Z,h3⟩:=h;simp only [pure,an] at h3;subst h3;simp [Cp Z]
theorem Pw {tt:TT} (cV:eJ P tt) {t:Nat} {parts:List (Nat×Y)} {ps:Array (Nat×Value)} {v:Y} (hp:uI E w.heap parts ps.toList) (h:Kg tt t parts=some v) :
 ∃x,(Instr.build t ps).run P w= .ok x w/\VR E w.heap v x:=by
 unfold Kg at h;split at h
 ·rename_i i hi;have gp:=cV t i hi;obtain⟨inf,z,g1,g2,g3,g4,g5⟩:=wW gp;have hz:=fh (E:=E) (h:=w.heap) g5;split at h
  ·rename_i fs hk;rw [aZ] at h;obtain⟨mw,U,rfl⟩:=h;obtain⟨gX,e1,e2,e3⟩:=qx U hz.1 hp hz.2;obtain⟨xx,hu,hm⟩:=yb gp hk
   have hb:P.built t ps.toList=some gX:=by
    unfold Program.built
    have hm2:(xx.toList.mapM fun f=>(P.info? f.type).map fun i=>(f.offset,i.size))=some (fs.map fun x=>(x.1,x.2.2)):=by
     refine Ro (by simp [Cp hm]) fun i=>?_;have:=Ey hm i;rw [bp,this]
     cases xx.toList[i]? with
     |none=>rfl
     |some f=>simp only [Option.bind_some,Option.map_map]; rfl
    simp only [g1,hu,g4,hm2];simp_all [e1,dC]
   exact⟨_,run_build w t ps gX hb,by simp only [VR]; exact⟨gX.toList,ad,e2⟩⟩
  ·rename_i n e hk;split at h
   ·rename_i s hs;rw [aZ] at h;obtain⟨mw,U,rfl⟩:=h;obtain⟨gX,e1,e2,e3⟩:=qx U hz.1 hp hz.2;simp only [jb,aZ] at hs;obtain⟨ie,lG,rfl⟩:=hs;obtain⟨al5,z',f1,f2,f3,f4,f5⟩:=wW (cV e ie lG)
    have hb:P.built t ps.toList=some gX:=by unfold Program.built;simp only [g1,sA gp hk,g4,f1];simp_all
    exact⟨_,run_build w t ps gX hb,by simp only [VR]; exact⟨gX.toList,ad,e2⟩⟩
   grind
  grind
 grind
theorem Ce {α:Type} (l:List α) (W:l≠[]): ∀(n i:Nat),i<n*l.length->(dZ l n)[i]?=l[i % l.length]?
 |0,i,h=>by simp at h
 |n+1,i,h=>by
  have mh:0<l.length:=amI.2 W;simp only [dZ];rw [anP];split
  ·rename_i Z; rw [amG Z]
  ·rename_i Z;rw [Ce l W n (i-l.length) (by rw [amx] at h; omega)];congr 1;rw [<- Nat.mod_eq_sub_mod J]
theorem jH {α:Type} (l:List α): ∀n,(dZ l n).length=n*l.length
 |0=>by simp [dZ]
 |n+1=>by simp [dZ,jH l n,amx]; omega
theorem mP {h:Array Obj} {cs:List Y} {us:List Value} (hv:cJ E h cs us): ∀n,cJ E h (dZ cs n) (dZ us n)
 |0=>by simp [dZ,cJ]
 |n+1=>hv.append (mP hv n)
theorem mO {α:Type} {l:List α} {x:α}: ∀{n},x∈dZ l n->x∈l
 |0,h=>by simp [dZ] at h
 |n+1,h=>by
  simp only [dZ,amt] at h;rcases h with h|h
  ·exact h
  ·exact mO h
theorem ve (z:Array Value) (hz:z.toList≠[]) (n:Nat):((Array.range (n*z.size)).map (z[·% z.size]!)).toList=dZ z.toList n:=by
 apply anu;intro i
 grind [Ce,jH]
theorem CV [bJ] {tt:TT} (cV:eJ P tt) {H H':Hp} (r:bS E H w) {t len:Nat} {parts:List (Nat×Y)} {ps:Array (Nat×Value)} {v:Y} (hp:uI E w.heap parts ps.toList) (h:ur tt t len parts H=some (v,H')) :
 ∃x w' E',(Instr.buildSlice t len ps).run P w= .ok x w'/\fj E H w E' H' w'/\bS E' H' w'/\VR E' w'.heap v x:=by
 unfold ur at h;split at h
 ·rename_i i hi;have gp:=cV t i hi;split at h
  ·rename_i e hk;split at h
   ·rename_i ie lG;have Yp:=cV e ie lG;obtain⟨inf,z,g1,g2,g3,g4,g5⟩:=wW Yp;have hz:=fh (E:=E) (h:=w.heap) g5;split at h
    ·rename_i hb;split at h
     ·rename_i cs U;simp only [an,aq] at h;obtain⟨rfl,rfl⟩:=h
      have iW:len*ie.size<=2 ^ 24:=by have:len*ie.size<=1000*1000:=anQ hb.1 hb.2.1;omega
      have tp:z.cells.size=ie.size:=by have:=hz.1.length; simp only [bo] at this; omega
      have key: ∃gX:Array Value,Instr.fill (fun i=>some (i*inf.size,inf.size)) ((Array.range (len*inf.size)).map ((if len*inf.size=0 then #[] else z.cells)[·% (if len*inf.size=0 then #[] else z.cells).size]!)) ps.toList=some gX/\cJ E w.heap cs gX.toList/\∀u∈gX.toList,u.oneCell'=true:=by
       rw [g2];by_cases h0:len*ie.size=0
       ·rw [ak h0,h0]
        have ae5:dZ ie.zero len= []:=by
         grind [jH]
        refine qx U ?_ hp ?_
        all_goals grind [cJ]
       ·rw [ah h0]
        have gB:z.cells.toList≠[]:=by
         intro hx;have Vq:z.cells.size=0:=by have:=congrArg List.length hx; simpa using this
         grind
        have hzz:=ve z.cells gB len;rw [tp] at hzz;refine qx U ?_ hp ?_
        all_goals grind [mP,mO]
      obtain⟨gX,e1,e2,e3⟩:=key;refine⟨.slice (some ⟨w.heap.size,0,none⟩) len len,{ w with heap:=w.heap.push (.cells gX e) },E.ext H.fresh (w.heap.size,0) gX.size,?_,?_⟩
      ·by_cases h0:len*inf.size=0
       ·rw [ak h0] at e1;rw [h0] at e1;have e0: ∀f:Nat->Value,(Array.range 0).map f= #[]:=by intro f; simp
        rw [e0] at e1;simp [Instr.buildSlice,run_underlying (fC gp hk),sizeOf,typeInfo,g1,h0,e0,e1,newRow]
       ·rw [ah h0] at e1;have h24: ¬(2 ^ 24<len*inf.size):=by rw [g2]; omega
        simp only [Instr.buildSlice,Sem.run_bind,run_underlying (fC gp hk),Result.andThen_ok,sizeOf,typeInfo,zeroValue,run_program,g1,g4,Sem.run_pure,newRow,gt_iff_lt,h24,h0,if_false,Sem.run_ite];rw [e1];rfl
      ·obtain⟨s1,s2⟩:=jy r gX 0 0 e e2 e3 (fun i u hu=>by rw [<- amp]; exact hu) J (w':={ w with heap:=w.heap.push (.cells gX e) }) rfl ⟨rfl,rfl,rfl⟩;refine⟨s1,s2,?_⟩;simp only [VR]
       grind [En.gV,eZ,En.ext_θ_new]
     grind
    grind
   grind
  grind
 grind
theorem HD {E:En} {h:Array Obj} {v:Y} {u:Value} {n:Int} (hv:VR E h v u) (W:k8 v=some n): ∃k,u= .int k n:=by
 unfold k8 at W;split at W
 ·simp only [an] at W;subst W;simp only [VR,V.den] at hv
  grind
 grind
theorem vW [bJ] {tt:TT} (cV:eJ P tt) {H H':Hp} (r:bS E H w) {t:Nat} {l c:Y} {lu cu:Value} {v:Y} (W:VR E w.heap l lu) (hc:VR E w.heap c cu) (h:rB tt t l c H=some (v,H')) :
 ∃x w' E',(Instr.makeSlice t lu cu).run P w= .ok x w'/\fj E H w E' H' w'/\bS E' H' w'/\VR E' w'.heap v x:=by
 unfold rB at h;split at h
 ·rename_i n OX;split at h
  ·rename_i m RV;obtain⟨k1,rfl⟩:=HD W OX;obtain⟨k2,rfl⟩:=HD hc RV;split at h
   ·rename_i i hi;have gp:=cV t i hi;split at h
    ·rename_i e hk;split at h
     ·rename_i ie lG;have Yp:=cV e ie lG;obtain⟨inf,z,g1,g2,g3,g4,g5⟩:=wW Yp;have hz:=fh (E:=E) (h:=w.heap) g5;split at h
      ·rename_i hb;obtain⟨b1,b2,b3,b4,b5⟩:=hb;simp only [an,aq] at h;obtain⟨rfl,rfl⟩:=h;have tp:z.cells.size=ie.size:=by have:=hz.1.length; simp only [bo] at this; omega
       have wn:IntKind.i64.wrap (Int.ofNat n)=Int.ofNat n:=by rw [<- mj]; simp only [uX]; rw [ak (by constructor<;>simp<;>omega)]
       have wm:IntKind.i64.wrap (Int.ofNat m)=Int.ofNat m:=by rw [<- mj]; simp only [uX]; rw [ak (by constructor<;>simp<;>omega)]
       have EV:inf.bytes*m<=1000000000:=by rw [g3]; exact anQ b4 b2
       have ai: ∀(k:IntKind) (x:Int) (w:World),(asInt (Value.int k x)).run P w= .ok x w:=fun _ _ _=>rfl
       have key: ∃gX:Array Value,((Array.range (m*inf.size)).map ((if m*inf.size=0 then #[] else z.cells)[·% (if m*inf.size=0 then #[] else z.cells).size]!))=gX/\cJ E w.heap (dZ ie.zero m) gX.toList/\∀u∈gX.toList,u.oneCell'=true:=by
        rw [g2];by_cases h0:m*ie.size=0
        ·grind [dZ,jH,cJ]
        ·rw [ah h0]
         have gB:z.cells.toList≠[]:=by
          intro hx;have Vq:z.cells.size=0:=by have:=congrArg List.length hx; simpa using this
          grind
         grind [ve,mP,mO]
       obtain⟨gX,e1,e2,e3⟩:=key;refine⟨.slice (some ⟨w.heap.size,0,none⟩) n m,{ w with heap:=w.heap.push (.cells gX e) },E.ext H.fresh (w.heap.size,0) gX.size,?_,?_⟩
       ·have t1: ¬(Int.ofNat m<0):=ad
        have t2: ¬((inf.bytes:Int)*Int.ofNat m > 2 ^ 48):=by
         grind
        have t3: ¬(Int.ofNat n<0):=ad
        have t4: ¬(Int.ofNat n > Int.ofNat m):=by simp; omega
        have t5:(askRoom (m*inf.bytes)).run P w= .ok () w:=by simp_all
        have t6:(Int.ofNat m).toNat=m:=rfl;have t7:(Int.ofNat n).toNat=n:=rfl;by_cases h0:m*inf.size=0
        ·rw [ak h0] at e1;rw [h0] at e1;simp only [Instr.makeSlice,Sem.run_bind,run_underlying (fC gp hk),Result.andThen_ok,ai,sizeOf,typeInfo,zeroValue,run_program,g1,g4,Sem.run_pure,newRow,Sem.run_ite,wn,wm,t1,t2,t3,t4,t6,t7,h0,decide_false,anw,aC,if_false,if_true];simp_all
        ·rw [ah h0] at e1;simp only [Instr.makeSlice,Sem.run_bind,run_underlying (fC gp hk),Result.andThen_ok,ai,sizeOf,typeInfo,zeroValue,run_program,g1,g4,Sem.run_pure,newRow,Sem.run_ite,wn,wm,t1,t2,t3,t4,t6,t7,h0,decide_false,anw,aC,if_false];simp_all
       ·obtain⟨s1,s2⟩:=jy r gX 0 0 e e2 e3 (fun i u hu=>by rw [<- amp]; exact hu) J (w':={ w with heap:=w.heap.push (.cells gX e) }) rfl ⟨rfl,rfl,rfl⟩;refine⟨s1,s2,?_⟩;simp only [VR];exact⟨En.gV _ _ _ _,⟨w.heap.size,0,none⟩,m,rfl,b1,by simp [eZ,En.ext_θ_new]⟩
      grind
     grind
    grind
   grind
  grind
 grind
end
section
variable {P:Program} {E:En} {w:World}
theorem Lz {i:TI} {t:Nat} (gp:nC P t i) {fs:List (Nat×Nat×Nat)} (hk:i.kind= .struct fs) {f off ft sz:Nat} (h:fu fs f=some (off,ft,sz)) :
 ∃(xx:Array Field) (fd:Field) (inf:TypeInfo),P.underlying t=some (.struct xx)/\xx[f]?=some fd/\fd.offset=off/\fd.type=ft/\P.info? ft=some inf/\inf.size=sz:=by
 obtain⟨xx,hu,hm⟩:=yb gp hk;have U:=Ey hm f;rw [<- dC,h,amp] at U
 cases hf:xx[f]? with
 |none=>rw [hf] at U; simp at U
 |some fd=>
  rw [hf] at U;simp only [Option.bind_some] at U
  cases hi:P.info? fd.type with
  |none=>rw [hi] at U; simp at U
  |some inf=>
   grind
theorem He {x v:Y} {u:Value} {off:Nat} (hx:VR E w.heap x u) (h:Rl off x=some v) :
 ∃b o,u= .pointer (some ⟨b,o,none⟩)/\VR E w.heap v (.pointer (some ⟨b,o+off,none⟩)):=by
 unfold Rl at h;cases x<;>simp only [an,reduceCtorEq,aZ] at h
 case ptr id o=>
  subst h;simp only [VR] at hx ⊢;obtain⟨rfl,hid⟩:=hx;exact⟨_,_,rfl,by rw [amq],hid⟩
 case Ax id es i o=>
  subst h;simp only [VR] at hx ⊢;obtain⟨hid,k,U,rfl⟩:=hx;exact⟨_,_,rfl,hid,k,U,by rw [amq,amq]⟩
 case nQ cs=>
  obtain⟨l,U,rfl⟩:=h;simp only [VR] at hx ⊢;obtain⟨b,o,us,rfl,Z,h3,h4,h5⟩:=hx;exact⟨b,o,rfl,b,o+off,us.drop off,rfl,Z,(h3.eS U).1,h4.drop off,fun u hu=>h5 u (amn hu)⟩
theorem Fo {tt:TT} (cV:eJ P tt) {t f:Nat} {x v:Y} {u:Value} (hx:VR E w.heap x u) (h:vY tt t x f=some v) :
 ∃r,(Instr.fieldAt t u f).run P w= .ok r w/\VR E w.heap v r:=by
 unfold vY at h;split at h
 ·rename_i i hi;split at h
  ·rename_i fs hk;split at h
   ·rename_i off ft sz hn;obtain⟨xx,fd,inf,hu,hf,U,Z,h3,h4⟩:=Lz (cV t i hi) hk hn;split at h
    ·grind
    ·rename_i iW;obtain⟨b,o,rfl,hv⟩:=He hx h;refine⟨_,?_,hv⟩;have gB: ¬inf.size=0:=by rw [h4]; exact iW
     simp [Instr.fieldAt,run_underlying hu,hf,Instr.sureAddr,fieldPlace,sizeOf,typeInfo,Z,h3,gB,fw,U]
   grind
  grind
 grind
theorem Re {i:TI} {t:Nat} (gp:nC P t i) {cs l:List Y} {us:List Value} {off:Nat} {v:Y} (hv:cJ E w.heap cs us) (hd:eS off cs=some l)
 (h:partOf i l=some v) :
 ∃r,(part t us.toArray off).run P w= .ok r w/\VR E w.heap v r:=by
 obtain⟨U,Z,h3⟩:=hv.eS hd;have hlen:=hv.length;unfold partOf at h;split at h
 ·rename_i O1;rw [aZ] at h;obtain⟨l',h4,rfl⟩:=h;obtain⟨h5,h6⟩:=U.ja h4;refine⟨.agg (us.toArray.extract off (off+i.size)),?_,?_⟩
  ·simp [part,pH gp,O1,eF gp]
  ·simp only [VR]
   grind
 ·rename_i O1;split at h
  ·rename_i x l';simp at h;subst h;rw [bX] at U;obtain⟨u,vs,he,h5,_⟩:=U;refine⟨u,?_,h5⟩
   have hg:us[off]?=some u:=by
    have:=congrArg (·[0]?) he
    grind
   simp [part,pH gp,O1,hg]
  grind
theorem Pp {tt:TT} (cV:eJ P tt) {t f:Nat} {x v:Y} {u:Value} (hx:VR E w.heap x u) (h:J9 tt t x f=some v) :
 ∃r,(Instr.field t u f).run P w= .ok r w/\VR E w.heap v r:=by
 unfold J9 at h;split at h
 ·rename_i i hi;split at h
  ·rename_i fs hk;split at h
   ·rename_i off ft sz hn;obtain⟨xx,fd,inf,hu,hf,U,Z,h3,h4⟩:=Lz (cV t i hi) hk hn;split at h
    ·rename_i fi cs hfi;split at h
     ·rename_i l W;simp only [VR] at hx;obtain⟨us,rfl,hv⟩:=hx;obtain⟨r,e1,e2⟩:=Re (w:=w) (cV ft fi hfi) hv W h;refine⟨r,?_,e2⟩;simp [Instr.field,run_underlying hu,hf,asAgg,U,Z,e1]
     grind
    grind
   grind
  grind
 grind
theorem Bp {x:Y} {u:Value} {n:Int} (hx:VR E w.heap x u) (h:k8 x=some n): ∃k,u= .int k n:=by
 cases x<;>simp [k8] at h;rename_i k e;cases e<;>simp at h;subst h;simp only [VR,V.den] at hx
 grind
theorem qy {tt:TT} (cV:eJ P tt) {t:Nat} {x ix v:Y} {u ui:Value} (hx:VR E w.heap x u) (zV:VR E w.heap ix ui) (h:oJ tt t x ix=some v) :
 ∃r,(Instr.indexAt t u ui).run P w= .ok r w/\VR E w.heap v r:=by
 unfold oJ at h;split at h
 ·rename_i i hi;obtain⟨k,rfl⟩:=Bp zV hi;split at h
  ·rename_i ti gp;have vE:=cV t ti gp;split at h
   ·rename_i n e hk;split at h
    ·rename_i gu;split at h
     ·rename_i s hs;simp only [jb,aZ] at hs;obtain⟨ie,lG,rfl⟩:=hs;obtain⟨b,o,rfl,hv⟩:=He hx h;refine⟨_,?_,hv⟩;have hu:=sA vE hk;simp [Instr.indexAt,asIntOf,run_underlying hu,Instr.sureAddr,eF (cV e ie lG),gu,fw]
     grind
    grind
   ·rename_i e hk;have hu:=fC vE hk;split at h
    ·rename_i s hs;simp only [jb,aZ] at hs;obtain⟨ie,lG,rfl⟩:=hs;split at h
     ·rename_i id o len c;split at h
      ·rename_i gu;simp at h;subst h;simp only [VR] at hx;obtain⟨hid,a,cap,rfl,iX,hc⟩:=hx
       have ha:a=⟨(E.θ id).1,(E.θ id).2+o,none⟩:=by
        cases c with
        |exact c=>
         simp only [eZ] at hc
         grind
        |rest es=>
         simp only [eZ] at hc
         grind
       subst ha;refine⟨.pointer (some ⟨(E.θ id).1,(E.θ id).2+o+i*ie.size,none⟩),?_,by simp only [VR]; exact⟨by rw [amq],hid⟩⟩;simp [Instr.indexAt,asIntOf,run_underlying hu,eF (cV e ie lG),gu,fw]
      grind
     ·rename_i cs n full;split at h
      ·rename_i gu;rw [aZ] at h;obtain⟨l,U,rfl⟩:=h;simp only [VR] at hx;obtain⟨b,o,cap,us,rfl,Z,h3,h4,h5,h6,h7⟩:=hx;refine⟨.pointer (some ⟨b,o+i*ie.size,none⟩),?_,?_⟩
       ·simp [Instr.indexAt,asIntOf,run_underlying hu,eF (cV e ie lG),gu,fw]
       ·simp only [VR];exact⟨b,_,us.drop (i*ie.size),rfl,h4,(h5.eS U).1,h6.drop _,fun u hu=>h7 u (amn hu)⟩
      grind
     grind
    grind
   grind
  grind
 grind
theorem DY (s:List Nat) (i:Nat):(dy s)[i]?=(s[i]?).map UInt8.ofNat:=by have U:(dy s)[i]?=(dy s).data[i]?:=rfl;rw [U];simp [dy]
theorem yH {tt:TT} (cV:eJ P tt) {t:Nat} {x ix v:Y} {u ui:Value} (hx:VR E w.heap x u) (zV:VR E w.heap ix ui) (h:Ar tt t x ix=some v) :
 ∃r,(Instr.index t u ui).run P w= .ok r w/\VR E w.heap v r:=by
 unfold Ar at h;split at h
 ·rename_i i hi;obtain⟨k,rfl⟩:=Bp zV hi;split at h
  ·rename_i ti gp;have vE:=cV t ti gp;split at h
   ·rename_i s hk;rw [aZ] at h;obtain⟨b,hb,rfl⟩:=h;simp only [VR] at hx;obtain⟨rfl,gu⟩:=hx;rw [dC] at hb;have hg:(dy s)[i]?=some (UInt8.ofNat b):=by rw [DY,hb]; rfl
    have alb:=gu b (amm hb);refine⟨_,by simp [Instr.index,asIntOf,run_underlying (fX vE hk),hg]; rfl,?_⟩;simp only [VR,V.den]
    grind
   ·rename_i n e cs hk;split at h
    ·rename_i gu;split at h
     ·rename_i ie lG;split at h
      ·rename_i l W;simp only [VR] at hx;obtain⟨us,rfl,hv⟩:=hx;obtain⟨r,e1,e2⟩:=Re (w:=w) (cV e ie lG) hv W h;refine⟨r,?_,e2⟩;simp [Instr.index,asIntOf,run_underlying (sA vE hk),gu,eF (cV e ie lG),e1]
      grind
     grind
    grind
   grind
  grind
 grind
end
section
variable {P:Program} {E:En} {w:World}
def gF (E:En) (h:Array Obj):Option Y->Option Value->Prop
 |none,o=>o=none
 |some x,o=> ∃u,o=some u/\VR E h x u
theorem eI {s:St} {a:Act} (sr:SR E w.heap s.bG a) {x:Option Operand} {v:Option Y} (h:Ig s x=some v):gF E w.heap v (x.map a.eval):=by
 cases x with
 |none=>simp [Ig] at h; subst h; simp [gF]
 |some x=> simp only [Ig,aZ] at h;obtain⟨b,U,rfl⟩:=h;exact⟨_,rfl,gC sr U⟩
theorem AJ {x:Y} {u:Value} {d y k:Nat} (hx:VR E w.heap x u) (h:oh (some x) d y=some k) {y':Nat} (hy:y<=y') (code:BoundsCode) :
 (Instr.sliceBound u y' code).run P w= .ok k w/\k<=y:=by
 unfold oh at h;simp only at h;split at h
 ·rename_i i hi;obtain⟨kk,rfl⟩:=Bp hx hi;split at h
  ·rename_i hle;simp at h;subst h;refine⟨?_,hle⟩;have:((i:Int)<=(y':Int)):=J
   simp [Instr.sliceBound,asIntOf];omega
  grind
 grind
theorem AK {d y k:Nat} (h:oh none d y=some k):k=d/\d<=y:=by
 grind [oh]
theorem gm {isSlice:Bool} {len cap m0 h0:Nat} {lo hi mx:Option Y} {yP hi' mx':Option Value} (oU:gF E w.heap lo yP) (yU:gF E w.heap hi hi') (yA:gF E w.heap mx mx')
 (hmh:mx.isSome=true->hi.isSome=true) {m h l d:Nat}
 (hm:(mx=none/\m=cap/\m0<=cap)\/(∃x,mx=some x/\oh mx d m0=some m/\m0<=cap))
 (hh:oh hi len h0=some h) (hh0:(mx=none->h0<=cap)/\(mx≠none->h0=m)) (W:oh lo 0 h=some l) :
 (Instr.sliceBounds isSlice len cap yP hi' mx').run P w= .ok (l,h,m) w/\l<=h:=by
 have key: ∀(c:BoundsCode) (v:Y) (u:Value),lo=some v->VR E w.heap v u->(Instr.sliceBound u h c).run P w= .ok l w/\l<=h:=by intro c v u hv hu;subst hv;exact AJ hu W (ay _) c
 have al3:lo=none->l=0:=fun hv=>by subst hv; exact (AK W).1
 unfold Instr.sliceBounds;rcases hm with ⟨rfl,rfl,hm0⟩|⟨x,rfl,hm1,hm0⟩
 ·simp only [gF] at yA;subst yA;have hb:=hh0.1 rfl
  cases hi with
  |none=>
   simp only [gF] at yU;subst yU;obtain⟨rfl,_⟩:=AK hh
   cases lo with
   |none=> simp only [gF] at oU;simp_all
   |some v=> obtain⟨u,rfl,hu⟩:=oU;obtain⟨k1,k2⟩:=key .sliceB v u rfl hu;simp_all
  |some y=>
   obtain⟨uy,rfl,huy⟩:=yU;have U:=fun c=>(AJ (P:=P) huy hh hb c).1
   cases lo with
   |none=> simp only [gF] at oU;simp_all
   |some v=> obtain⟨u,rfl,hu⟩:=oU;obtain⟨k1,k2⟩:=key .sliceB v u rfl hu;simp_all
 ·obtain⟨ux,rfl,hux⟩:=yA;have Z:=fun c=>(AJ (P:=P) hux hm1 hm0 c).1;have hb:=hh0.2 ad;subst hb
  cases hi with
  |none=>simp at hmh
  |some y=>
   obtain⟨uy,rfl,huy⟩:=yU;have U:=fun c=>(AJ (P:=P) huy hh (ay _) c).1
   cases lo with
   |none=> simp only [gF] at oU;simp_all
   |some v=> obtain⟨u,rfl,hu⟩:=oU;obtain⟨k1,k2⟩:=key .slice3C v u rfl hu;simp_all
theorem tz (s:List Nat) (l h:Nat):(dy s).extract l h=dy ((s.take h).drop l):=by apply ByteArray.ext;apply Array.ext';rw [Lib.extract_data];simp [dy,anx,anz,List.drop_take]
theorem qD {id o len cap l h m es:Nat} {a:Addr} {c c':NB} (hc:eZ E id o len a cap c) (hlen:len<=cap) (hlh:l<=h) (hhm:h<=m) (hmc:m<=cap)
 (Vu:(∃k,c= .exact k/\c'= .exact (m-l))\/(c= .rest es/\c'= .exact (m-l))\/(c= .rest es/\c'= .rest es/\m=cap)) (s:Nat) (l8:c'= .rest es->es=s) :
 eZ E id (o+l*s) (h-l) (if m=l then a else a.add (l*s)) (m-l) c':=by
 rcases Vu with ⟨k,rfl,rfl⟩|⟨rfl,rfl⟩|⟨rfl,rfl,rfl⟩
 ·simp only [eZ] at *;refine⟨trivial,?_⟩;by_cases RQ:m=l
  ·grind
  ·left
   grind [fw]
 ·simp only [eZ] at *;refine⟨trivial,?_⟩;by_cases RQ:m=l
  ·grind
  ·left
   grind [fw]
 ·simp only [eZ] at *;obtain rfl:=l8 trivial;by_cases RQ:m=l
  ·grind
  ·left;rw [ah RQ];rcases hc with ha|ha
   ·refine⟨by rw [ha.1,fw,amq],?_⟩;rw [<- ha.2,amq,<- amx]
    grind
   ·omega
theorem ma {x:Option Y} {d y k:Nat} (h:oh x d y=some k):k<=y:=by
 unfold oh at h;split at h
 ·grind
 ·split at h
  all_goals grind
theorem Mz [bJ] {tt:TT} (cV:eJ P tt) {H:Hp} (r:bS E H w) {t:Nat} {x v:Y} {u:Value} {lo hi mx:Option Y} {yP hi' mx':Option Value} (hx:VR E w.heap x u)
 (oU:gF E w.heap lo yP) (yU:gF E w.heap hi hi') (yA:gF E w.heap mx mx') (h:Fj tt t x lo hi mx H=some v) :
 ∃r,(Instr.sliceAt t u yP hi' mx').run P w= .ok r w/\VR E w.heap v r:=by
 unfold Fj at h;split at h
 ·grind
 ·split at h
  ·grind
  ·rename_i ti gp;have vE:=cV t ti gp;split at h
   ·rename_i e hk;have hu:=fC vE hk;split at h
    ·grind
    ·rename_i s hs;simp only [jb,aZ] at hs;obtain⟨ie,lG,rfl⟩:=hs;have iW:=eF (w:=w) (cV e ie lG);split at h
     ·rename_i id o len es;split at h
      ·rename_i l8;split at h
       ·rename_i cs ty W;split at h
        ·grind
        ·rename_i b AW;split at h
         ·grind
         ·rename_i l nS;simp at h;subst h;obtain⟨l8,mh⟩:=l8;subst l8;simp only [VR] at hx;obtain⟨hid,a,cap,rfl,hlen,hc⟩:=hx;have zS:=(r.live id _ W).2.1;simp only [OR] at zS;obtain⟨arr,lo1,hi1,us,q1,q2,q3,q4,q5,q6,q7⟩:=zS
          have iX:(cs.length-o) / ie.size<=cap:=by
           simp only [eZ] at hc;rcases hc with hc|hc
           ·have:cs.length-o<=cap*ie.size:=J
            exact Nat.div_le_of_le_mul (by rw [anN]; exact this)
           simp_all
          obtain⟨e1,e2⟩:=gm (P:=P) (w:=w) (isSlice:=true) (len:=len) (cap:=cap) (m0:=cap) (d:=0) (m:=cap) oU yU yA ad (.inl ⟨rfl,rfl,ay _⟩) AW ⟨fun _=>iX,ad⟩ nS;have aff:=ma AW;refine⟨.slice (some (if cap=l then a else a.add (l*ie.size))) (b-l) (cap-l),?_,?_⟩
          ·simp [Instr.sliceAt,run_underlying hu,Instr.slice,e1,iW]<;>split<;>rfl
          ·simp only [VR];exact⟨hid,_,_,rfl,J,qD (es:=ie.size) hc hlen e2 J (ay _) (.inr (.inr ⟨rfl,rfl,rfl⟩)) _ (fun _=>rfl)⟩
       grind
      grind
     grind
   grind
theorem yF {tt:TT} (cV:eJ P tt) {t:Nat} {x v:Y} {u:Value} {lo hi mx:Option Y} {yP hi' mx':Option Value} (hx:VR E w.heap x u)
 (oU:gF E w.heap lo yP) (yU:gF E w.heap hi hi') (yA:gF E w.heap mx mx') (h:Al tt t x lo hi mx=some v) :
 ∃r,(Instr.sliceAt t u yP hi' mx').run P w= .ok r w/\VR E w.heap v r:=by
 unfold Al at h;split at h
 ·grind
 ·rename_i ti gp;have vE:=cV t ti gp;split at h
  ·rename_i hk;have hu:=fX vE hk;split at h
   ·rename_i s;simp only [gF] at yA;subst yA;split at h
    ·rename_i b hb;split at h
     ·rename_i l W;simp at h;subst h;simp only [VR] at hx;obtain⟨rfl,gu⟩:=hx;obtain⟨e1,e2⟩:=gm (P:=P) (w:=w) (isSlice:=false) (len:=s.length) (cap:=s.length) (m0:=s.length) (d:=0) oU yU (mx:=none) (mx':=none) rfl ad (.inl ⟨rfl,rfl,ay _⟩) hb ⟨fun _=>ay _,ad⟩ W;refine⟨.string ((dy s).extract l b),?_,?_⟩
      ·rw [<- lC] at e1;simp [Instr.sliceAt,run_underlying hu,Instr.slice,e1]
      ·simp only [VR,tz]
       grind
     grind
    grind
   grind
  ·rename_i e hk;have hu:=fC vE hk;split at h
   ·grind
   ·rename_i s hs;simp only [jb,aZ] at hs;obtain⟨ie,lG,rfl⟩:=hs;have iW:=fun w'=>eF (cV e ie lG) w';split at h
    ·split at h
     ·grind
     ·rename_i hmh;split at h
      ·rename_i kh kl km AW nS EV;simp at h;subst h;simp only [VR] at hx;subst hx;obtain rfl:kh=0:=by have:=ma AW; omega
       obtain rfl:kl=0:=by have:=ma nS; omega
       obtain rfl:km=0:=by have:=ma EV; omega
       have hm:(mx=none/\0=0/\0<=0)\/(∃x,mx=some x/\oh mx 0 0=some 0/\0<=0):=by
        cases mx with
        |none=>exact .inl ⟨rfl,rfl,ay _⟩
        |some y=>exact .inr ⟨y,rfl,EV,ay _⟩
       obtain⟨e1,e2⟩:=gm (P:=P) (w:=w) (isSlice:=true) (len:=0) (cap:=0) (m0:=0) (d:=0) (m:=0) oU yU yA (by cases mx<;>cases hi<;>simp_all) hm AW ⟨fun _=>ay _,fun _=>rfl⟩ nS;refine⟨.slice none 0 0,?_,by simp only [VR]⟩;simp [Instr.sliceAt,run_underlying hu,Instr.slice,e1,iW]
      grind
    ·rename_i id o len c;split at h
     ·grind
     ·rename_i hmh;split at h
      ·grind
      ·rename_i m EV;split at h
       ·grind
       ·rename_i b AW;split at h
        ·grind
        ·rename_i l nS;simp at h;subst h;simp only [VR] at hx;obtain⟨hid,a,cap,rfl,hlen,hc⟩:=hx;have iX:cap=c:=by simp only [eZ] at hc; exact hc.1
         subst iX
         have hm:(mx=none/\m=cap/\cap<=cap)\/(∃x,mx=some x/\oh mx cap cap=some m/\cap<=cap):=by
          cases mx with
          |none=>exact .inl ⟨rfl,(AK EV).1,ay _⟩
          |some y=>exact .inr ⟨y,rfl,EV,ay _⟩
         obtain⟨e1,e2⟩:=gm (P:=P) (w:=w) (isSlice:=true) (len:=len) (cap:=cap) (m0:=cap) (d:=cap) (m:=m) oU yU yA (by cases mx<;>cases hi<;>simp_all) hm AW ⟨fun _=>ma EV,fun _=>rfl⟩ nS;refine⟨.slice (some (if m=l then a else a.add (l*ie.size))) (b-l) (m-l),?_,?_⟩
         ·simp [Instr.sliceAt,run_underlying hu,Instr.slice,e1,iW]<;>split<;>rfl
         ·simp only [VR];exact⟨hid,_,_,rfl,by have:=ma AW; omega,qD (es:=0) hc hlen e2 (ma AW) (ma EV) (.inl ⟨_,rfl,rfl⟩) _ ad⟩
    ·rename_i id o len es;split at h
     ·split at h
      ·grind
      ·rename_i b AW;split at h
       ·grind
       ·rename_i l nS;split at h
        ·rename_i l8;simp at h;subst h;simp only [VR] at hx;obtain⟨hid,a,cap,rfl,hlen,hc⟩:=hx;obtain⟨e1,e2⟩:=gm (P:=P) (w:=w) (isSlice:=true) (len:=len) (cap:=cap) (m0:=cap) (d:=0) (m:=cap) oU yU yA ad (.inl ⟨rfl,rfl,ay _⟩) AW ⟨fun _=>hlen,ad⟩ nS;have aff:=ma AW;refine⟨.slice (some (if cap=l then a else a.add (l*ie.size))) (b-l) (cap-l),?_,?_⟩
         ·simp [Instr.sliceAt,run_underlying hu,Instr.slice,e1,iW]<;>split<;>rfl
         ·simp only [VR];exact⟨hid,_,_,rfl,J,qD (es:=es) hc hlen e2 J (ay _) (.inr (.inr ⟨rfl,rfl,rfl⟩)) _ (fun _=>l8)⟩
        grind
     ·rename_i y;split at h
      ·grind
      ·grind
      ·rename_i b0 m EV;split at h
       ·grind
       ·rename_i b AW;split at h
        ·grind
        ·rename_i l nS;simp at h;subst h;simp only [VR] at hx;obtain⟨hid,a,cap,rfl,hlen,hc⟩:=hx;obtain⟨e1,e2⟩:=gm (P:=P) (w:=w) (isSlice:=true) (len:=len) (cap:=cap) (m0:=len) (d:=0) (m:=m) oU yU yA ad (.inr ⟨y,rfl,EV,hlen⟩) AW ⟨ad,fun _=>rfl⟩ nS;have rQ:=ma AW;have hm2:=ma EV;refine⟨.slice (some (if m=l then a else a.add (l*ie.size))) (b-l) (m-l),?_,?_⟩
         ·simp [Instr.sliceAt,run_underlying hu,Instr.slice,e1,iW]<;>split<;>rfl
         ·simp only [VR];exact⟨hid,_,_,rfl,J,qD (es:=es) hc hlen e2 rQ J (.inr (.inl ⟨rfl,rfl⟩)) _ ad⟩
    ·rename_i cs n full;split at h
     ·split at h
      ·grind
      ·rename_i b AW;split at h
       ·grind
       ·rename_i l nS;split at h
        ·grind
        ·rename_i d hd;split at h
         ·grind
         ·rename_i d' EU;simp at h;subst h;simp only [VR] at hx;obtain⟨bb,o,cap,us,rfl,hn,HP,h4,h5,h6,h7⟩:=hx;obtain⟨e1,e2⟩:=gm (P:=P) (w:=w) (isSlice:=true) (len:=n) (cap:=cap) (m0:=cap) (d:=0) (m:=cap) oU yU yA ad (.inl ⟨rfl,rfl,ay _⟩) AW ⟨fun _=>hn,ad⟩ nS;have rQ:=ma AW;obtain⟨g1,g2,g3⟩:=h5.eS hd;obtain⟨g4,g5⟩:=g1.ja EU;refine⟨.slice (some (if cap=l then⟨bb,o,none⟩ else (⟨bb,o,none⟩ : Addr).add (l*ie.size))) (b-l) (cap-l),?_,?_⟩
          ·simp [Instr.sliceAt,run_underlying hu,Instr.slice,e1,iW]<;>split<;>rfl
          ·simp only [VR];by_cases RQ:cap=l
           ·have h0:b-l=0:=J
            refine⟨bb,o,cap-l,(us.drop (l*ie.size)).take ((b-l)*ie.size),by rw [ak RQ],J,fun _=>by omega,h4,g4,?_,fun u hu=>h7 u (amn (amo hu))⟩;rw [h0,ams];intro i u hu
            grind
           ·refine⟨bb,o+l*ie.size,cap-l,(us.drop (l*ie.size)).take ((b-l)*ie.size),by rw [ah RQ,fw],J,?_,h4,g4,(h6.drop _).take _,fun u hu=>h7 u (amn (amo hu))⟩;intro hf
            grind
     ·rename_i y;split at h
      ·grind
      ·grind
      ·rename_i b0 m EV;split at h
       ·grind
       ·rename_i b AW;split at h
        ·grind
        ·rename_i l nS;split at h
         ·grind
         ·rename_i d hd;split at h
          ·grind
          ·rename_i d' EU;simp at h;subst h;simp only [VR] at hx;obtain⟨bb,o,cap,us,rfl,hn,HP,h4,h5,h6,h7⟩:=hx;obtain⟨e1,e2⟩:=gm (P:=P) (w:=w) (isSlice:=true) (len:=n) (cap:=cap) (m0:=n) (d:=0) (m:=m) oU yU yA ad (.inr ⟨y,rfl,EV,hn⟩) AW ⟨ad,fun _=>rfl⟩ nS;have rQ:=ma AW;obtain⟨g1,g2,g3⟩:=h5.eS hd;obtain⟨g4,g5⟩:=g1.ja EU;refine⟨.slice (some (if m=l then⟨bb,o,none⟩ else (⟨bb,o,none⟩ : Addr).add (l*ie.size))) (b-l) (m-l),?_,?_⟩
           ·simp [Instr.sliceAt,run_underlying hu,Instr.slice,e1,iW]<;>split<;>rfl
           ·simp only [VR];by_cases RQ:m=l
            ·have h0:b-l=0:=J
             refine⟨bb,o,m-l,(us.drop (l*ie.size)).take ((b-l)*ie.size),by rw [ak RQ],J,fun _=>by omega,h4,g4,?_,fun u hu=>h7 u (amn (amo hu))⟩;rw [h0,ams];intro i u hu
             grind
            ·refine⟨bb,o+l*ie.size,m-l,(us.drop (l*ie.size)).take ((b-l)*ie.size),by rw [ah RQ,fw],J,?_,h4,g4,(h6.drop _).take _,fun u hu=>h7 u (amn (amo hu))⟩;intro hf
             grind
    grind
  ·rename_i n e hk;have hu:=sA vE hk;split at h
   ·grind
   ·rename_i s hs;simp only [jb,aZ] at hs;obtain⟨ie,lG,rfl⟩:=hs;have iW:=fun w'=>eF (cV e ie lG) w';split at h
    ·rename_i id o;split at h
     ·grind
     ·rename_i hmh;split at h
      ·grind
      ·rename_i m EV;split at h
       ·grind
       ·rename_i b AW;split at h
        ·grind
        ·rename_i l nS;simp at h;subst h;simp only [VR] at hx;obtain⟨rfl,hid⟩:=hx
         have hm:(mx=none/\m=n/\n<=n)\/(∃x,mx=some x/\oh mx n n=some m/\n<=n):=by
          cases mx with
          |none=>exact .inl ⟨rfl,(AK EV).1,ay _⟩
          |some y=>exact .inr ⟨y,rfl,EV,ay _⟩
         obtain⟨e1,e2⟩:=gm (P:=P) (w:=w) (isSlice:=false) (len:=n) (cap:=n) (m0:=n) (d:=n) (m:=m) oU yU yA (by cases mx<;>cases hi<;>simp_all) hm AW ⟨fun _=>ma EV,fun _=>rfl⟩ nS;refine⟨.slice (some (if m=l then⟨(E.θ id).1,(E.θ id).2+o,none⟩ else (⟨(E.θ id).1,(E.θ id).2+o,none⟩ : Addr).add (l*ie.size))) (b-l) (m-l),?_,?_⟩
         ·simp [Instr.sliceAt,run_underlying hu,Instr.sureAddr,e1,iW]<;>split<;>rfl
         ·simp only [VR,eZ];refine⟨hid,_,_,rfl,by have:=ma AW; omega,rfl,?_⟩;by_cases RQ:m=l
          ·grind
          ·left; rw [ah RQ,fw,amq]
    grind
  grind
end
section
variable {P:Program} {E:En} {w:World}
theorem CL {h:Array Obj}: ∀{cs:List Y} {us:List Value} {l:List Nat},wc cs=some l->cJ E h cs us->us=(l.map UInt8.ofNat).map (fun b=>Value.int .u8 (b.toNat:Int))/\∀b∈l,b<256
 |[],us,l,U,Z=>by
  simp [wc] at U;subst U;rw [iN] at Z
  grind
 |x::cs,us,l,U,Z=>by
  rw [bX] at Z;obtain⟨u,vs,rfl,h3,h4⟩:=Z;unfold wc at U;split at U
  ·rename_i he; simp at he
  ·rename_i b xs he;simp only [List.cons.injEq] at he;obtain⟨rfl,rfl⟩:=he;split at U
   ·rename_i hb;split at U
    ·rename_i l' W;simp at U;subst U;obtain⟨e1,e2⟩:=CL W h4;simp only [VR,V.den] at h3;refine⟨?_,?_⟩
     ·rw [h3,e1];simp [amN,amG hb]
     grind
    grind
   grind
  grind
theorem Au [bJ] {tt:TT} (cV:eJ P tt) {H H':Hp} (r:bS E H w) {sT dT:Nat} {x v:Y} {u:Value} (hx:VR E w.heap x u) (h:pM tt sT dT x H=some (v,H')) :
 ∃y w' E',(convert sT dT u).run P w= .ok y w'/\fj E H w E' H' w'/\bS E' H' w'/\VR E' w'.heap v y:=by
 unfold pM at h;split at h
 ·grind
 ·rename_i j hj;obtain⟨sd,hsd,hsk⟩:=sW (cV sT j hj);split at h
  ·rename_i i hi;have gp:=cV dT i hi;split at h
   ·rename_i k hk;have hd:=tx gp hk;split at h
    ·rename_i kk n;simp only [an,aq] at h;obtain⟨rfl,rfl⟩:=h;simp only [VR] at hx;subst hx;refine⟨.int k (k.wrap n),w,E,?_,fj.refl _ _ _,r,by simp only [VR,V.den,mj]⟩;simp [convert,run_underlying hsd,run_underlying hd,Conv.intToInt,V.den]
    ·rename_i kk e gB;simp only [an,aq] at h;obtain⟨rfl,rfl⟩:=h;simp only [VR] at hx;subst hx;refine⟨.int k (k.wrap (e.den E.ρ)),w,E,?_,fj.refl _ _ _,r,by simp only [VR,V.den]⟩;simp [convert,run_underlying hsd,run_underlying hd,Conv.intToInt]
    grind
   ·rename_i hk;have hd:=fX gp hk;split at h
    ·rename_i hjk;split at h
     ·rename_i s;simp only [an,aq] at h;obtain⟨rfl,rfl⟩:=h;have Vq:=hx;simp only [VR] at hx;obtain⟨rfl,_⟩:=hx;refine⟨_,w,E,?_,fj.refl _ _ _,r,Vq⟩;simp [convert,run_underlying (fX (cV sT j hj) hjk),run_underlying hd]
     grind
    ·rename_i e hjk;have hs:=fC (cV sT j hj) hjk;split at h
     ·grind
     ·rename_i ie lG;split at h
      ·rename_i hu8;have he:=tx (cV e ie lG) hu8.1;split at h
       ·simp only [an,aq] at h;obtain⟨rfl,rfl⟩:=h;simp only [VR] at hx;subst hx;refine⟨.string .empty,w,E,?_,fj.refl _ _ _,r,?_⟩
        ·rw [run_convert_bytes_string w sT dT e none 0 0 hs he hd];rfl
        ·simp only [VR];exact⟨rfl,ad⟩
       ·rename_i id o len c;split at h
        ·rename_i cs Mg;rw [aZ] at h;obtain⟨l,W,he2⟩:=h;simp only [aq] at he2;obtain⟨rfl,rfl⟩:=he2;simp only [VR] at hx;obtain⟨hid,a,cap,rfl,iX,hc⟩:=hx;obtain⟨b,o',us,e1,e2,e3,e4,e5⟩:=wI r (p:=.ptr id o) (u:=.pointer (some ⟨(E.θ id).1,(E.θ id).2+o,none⟩)) (by simp only [VR]; exact⟨trivial,hid⟩) Mg;obtain⟨e6,e7⟩:=CL W e3
         have hlen:len=(l.map UInt8.ofNat).length:=by
          grind
         have ha:a=⟨(E.θ id).1,(E.θ id).2+o,none⟩\/len=0:=by
          cases c with
          |exact c=>
           simp only [eZ] at hc
           grind
          |rest es=>
           simp only [eZ] at hc
           grind
         refine⟨.string (dy l),w,E,?_,fj.refl _ _ _,r,by simp only [VR]; exact⟨trivial,e7⟩⟩;rw [hlen];refine run_convert_bytes_back w sT dT e a cap (l.map UInt8.ofNat) hs he hd fun k hk=>?_;rcases ha with ha|ha
         ·subst ha;rw [fw,oM];simp only [Value.pointer.injEq,an,Addr.mk.injEq] at e1;obtain⟨e1a,e1b,_⟩:=e1;rw [e1a,e1b];refine e4 k _ ?_
          grind
         ·omega
        grind
       grind
      grind
    grind
   ·rename_i e hk;have hd:=fC gp hk;split at h
    ·grind
    ·rename_i ie lG;split at h
     ·rename_i hu8;have he:=tx (cV e ie lG) hu8.1;split at h
      ·rename_i s;simp only [an,aq] at h;obtain⟨rfl,rfl⟩:=h;simp only [VR] at hx;obtain⟨rfl,gu⟩:=hx;have hs:=fX (cV sT j hj) hu8.2;have iW:(dy s).size=s.length:=lC s;have UA:=grownCap_ge w (dy s).size 0 e
       have iD:(bytesRow (dy s) (grownCap w (dy s).size 0 e)).size=grownCap w (dy s).size 0 e:=by have U:(dy s).data.size=s.length:=iW;simp only [bytesRow,Array.size_append,Array.size_map,Array.size_replicate,U];omega
       have hv:cJ E w.heap (s.map fun c=>Y.int .u8 (.lit (Int.ofNat c))) ((s.map UInt8.ofNat).map (fun b=>Value.int .u8 (b.toNat:Int))):=by
        clear UA iD iW
        induction s with
        |nil=>simp [cJ]
        |cons b s ih=> have hb:=gu b ad;rw [aH,aH,aH,bX];refine⟨_,_,rfl,?_,ih fun c hc=>gu c (by simp [hc])⟩;simp [VR,V.den,amN,amG hb]
       obtain⟨s1,s2⟩:=jy r (bytesRow (dy s) (grownCap w (dy s).size 0 e)) (bytesRow (dy s) (grownCap w (dy s).size 0 e)).size ((bytesRow (dy s) (grownCap w (dy s).size 0 e)).size+1) e hv
        (by intro u hu; simp only [bd] at hu; obtain⟨b,_,rfl⟩:=hu; rfl)
        (by
         intro k u hu;have hk:=(bk.1 hu).1;simp only [bu] at hk;simp only [bytesRow];rw [aoh (by have U:(dy s).data.size=s.length:=iW; simp only [Array.size_map,U]; exact hk)];rw [<- hu]
         simp [dy])
        (by intro o U Z; omega)
        (w':=w.drew.alloc (.cells (bytesRow (dy s) (grownCap w (dy s).size 0 e)) e ((bytesRow (dy s) (grownCap w (dy s).size 0 e)).size,(bytesRow (dy s) (grownCap w (dy s).size 0 e)).size+1))) rfl ⟨rfl,rfl,rfl⟩
       refine⟨_,_,_,run_bytes_of_string w sT dT e (dy s) hs hd he,s1,s2,?_⟩;simp only [VR,iW];refine⟨En.gV _ _ _ _,⟨w.heap.size,0,none⟩,_,rfl,by rw [<- iW]; exact UA,?_⟩;simp only [eZ,En.ext_θ_new,En.ext_κ_new]
       grind
      grind
     grind
   grind
  grind
end
section
variable {P:Program} {E:En} {w:World}
def yO (d:TypeDesc):TK->Prop
 | .int _=> ∃k,d= .int k
 | .string=>d= .string
 | .bool=>d= .bool
 |_=>False
theorem yw {tt:TT} (cV:eJ P tt) {t:Nat} {kk:TK} (h:wS tt t=some kk): ∃d,P.underlying t=some d/\yO d kk:=by
 unfold wS at h;split at h
 ·rename_i i hi;split at h<;>simp only [an,reduceCtorEq] at h<;>subst h
  ·rename_i k hk; exact⟨_,tx (cV t i hi) hk,k,rfl⟩
  ·rename_i hk; exact⟨_,fX (cV t i hi) hk,rfl⟩
  ·rename_i hk; exact⟨_,La (cV t i hi) hk,rfl⟩
 grind
theorem Xh {x y:List Nat} (hx: ∀b∈x,b<256) (hy: ∀b∈y,b<256):(dy x == dy y)=iu x y:=by
 have e:(dy x == dy y)=((dy x).data == (dy y).data):=rfl;rw [e,amA,beq_iff_eq,mG];constructor
 ·intro h;have Z:=congrArg (fun b=>b.toList) h;simp only [dy] at Z
  grind [map_inj]
 grind
theorem L1 {h:Array Obj} {pc:List (SB×Bool)} (hp:ca E.ρ pc) {kk:TK} {d:TypeDesc} (hd:yO d kk) {a b:Y} {u u':Value} (ha:VR E h a u) (hb:VR E h b u') {c:Bool} (hc:RA pc kk a b=some c) :
 Instr.sameNow d u u'=some c/\(c=true->∀n,Instr.sameBits (n+1) u' u=true):=by
 unfold RA at hc;split at hc
 ·obtain⟨k,rfl⟩:=hd;split at hc
  ·simp only [VR] at ha hb;subst ha hb;split at hc
   ·rename_i hk;subst hk;have hc:=gW hp hc;rw [gY] at hc;subst hc;refine⟨by simp [Instr.sameNow],fun hh n=>?_⟩;simp at hh;simp [Instr.sameBits,hh]
   grind
  grind
 ·simp only [yO] at hd;subst hd;split at hc
  ·simp only [VR] at ha hb;obtain⟨rfl,ha⟩:=ha;obtain⟨rfl,hb⟩:=hb;simp at hc;subst hc;have he:=Xh ha hb;refine⟨by simp only [Instr.sameNow,he],fun hh n=>?_⟩;simp only [Instr.sameBits]
   grind [mG]
  ·split at hc
   ·rename_i c0 h0;obtain⟨x,y,rfl,rfl,hd⟩:=DX ha hb h0;have hc:=gW hp hc;rw [hd] at hc
    have hbe: ∀p q:ByteArray,(p == q)=decide (p=q):=by
     intro p q;rw [amA,decide_eq_true_eq];have e:(p == q)=(p.data == q.data):=rfl;rw [e,beq_iff_eq];constructor
     ·intro h; cases p; cases q; simp only at h; rw [h]
     grind
    refine⟨by simp only [Instr.sameNow,hbe,hc],fun hh n=>?_⟩;simp only [Instr.sameBits,hbe]
    grind
   grind
 ·simp only [yO] at hd;subst hd;split at hc
  ·simp only [VR,SB.den] at ha hb;subst ha hb;simp at hc;subst hc;refine⟨by simp [Instr.sameNow],fun hh n=>?_⟩;simp at hh;simp [Instr.sameBits,hh]
  grind
 grind
theorem e8 {t:Nat} {kk:TK} {d:TypeDesc} (hu:P.underlying t=some d) (hd:yO d kk) (b:Bool) (v:Value):(Instr.checkKey b 10000 t v).run P w= .ok () w:=by
 have h0:(10000:Nat)=9999+1:=rfl;rw [h0];generalize (9999:Nat)=n;cases kk<;>simp only [yO] at hd
 ·subst hd; simp [Instr.checkKey,run_underlying hu]
 ·obtain⟨k,rfl⟩:=hd; simp [Instr.checkKey,run_underlying hu]
 ·subst hd; simp [Instr.checkKey,run_underlying hu]
theorem qv {h:Array Obj} {pc:List (SB×Bool)} (hp:ca E.ρ pc) {kk:TK} {d:TypeDesc} (hd:yO d kk) {k:Y} {u:Value} (hk:VR E h k u): ∀{es:List (Y×Y×Nat)} {bT:List MapEntry} {i:Nat} {res:Option (Nat×Y)},
 e9 E h es bT->CB pc kk k es i=some res->
 (res=none/\Instr.findNow d u bT i=some none)\/
 (∃j v e,res=some (i+j,v)/\bT[j]?=some e/\VR E h v e.val/\Instr.findNow d u bT i=some (some (i+j,e.val))/\∀n,Instr.sameBits (n+1) e.key u=true)
 |[],bT,i,res,he,hf=>by simp only [e9] at he;subst he;simp [CB] at hf;exact .inl ⟨hf.symm,by simp [Instr.findNow]⟩
 |(k',v,b)::es,bT,i,res,he,hf=>by
  simp only [e9] at he;obtain⟨e,r,rfl,U,Z,h3,h4⟩:=he;simp only [CB] at hf;split at hf
  ·rename_i hc;simp at hf;subst hf;obtain⟨g1,g2⟩:=L1 hp hd hk U hc;exact .inr ⟨0,v,e,rfl,rfl,Z,by simp [Instr.findNow,g1],g2 rfl⟩
  ·rename_i hc;obtain⟨g1,g2⟩:=L1 hp hd hk U hc;rcases qv hp hd hk h4 hf with ⟨q1,q2⟩|⟨j,v',e',q1,q2,q3,q4,q5⟩
   ·exact .inl ⟨q1,by simp [Instr.findNow,g1,q2]⟩
   ·refine .inr ⟨j+1,v',e',?_,by simpa using q2,q3,?_,q5⟩
    ·grind
    ·simp only [Instr.findNow,g1,q4]; congr 3; omega
  grind
theorem eU {t:Nat} {d:TypeDesc} (hu:P.underlying t=some d) {u:Value} {bT:List MapEntry} {r:Option (Nat×Value)} (h:Instr.findNow d u bT 0=some r):(Instr.findKey t u bT).run P w= .ok r w:=by simp [Instr.findKey,run_underlying hu,h]
theorem gU {r:Nat} {o:Obj} (h:w.heap[r]?=some o) (hn: ∀c e f,o≠.cells c e f):(getObj r).run P w= .ok o w:=by
 unfold getObj;cases o<;>first |exact absurd rfl (hn _ _ _)|simp only [Sem.run,h]
theorem iF {r:Nat} {o o':Obj} (h:w.heap[r]?=some o) (hn: ∀c e f,o≠.cells c e f):(setObj r o').run P w= .ok () { w with heap:=w.heap.setIfInBounds r o' }:=by
 unfold setObj;cases o<;>first |exact absurd rfl (hn _ _ _)|simp only [Sem.run,h]
theorem jc [bJ] {H:Hp} (r:bS E H w) {id:Nat} {o:dX} (W:H.get id=some o) (ao:dX) (o':Obj)
 (ho: ∀h',h'[(E.θ id).1]?=some o'->fU E w.heap E h'->OR E h' id ao) :
 fj E H w E (H.put id ao) { w with heap:=w.heap.setIfInBounds (E.θ id).1 o' }/\bS E (H.put id ao) { w with heap:=w.heap.setIfInBounds (E.θ id).1 o' }:=by
 have gu:=gx r W
 have l7: ∀b,b≠(E.θ id).1->({ w with heap:=w.heap.setIfInBounds (E.θ id).1 o' }:World).heap[b]?=w.heap[b]?:=fun b hb=>by
  grind
 refine Ec r W ao ad l7 ⟨rfl,rfl,rfl⟩ (ho _ ?_ (mQ r W l7))
 grind
theorem e9.length {h:Array Obj}: ∀{es:List (Y×Y×Nat)} {bT:List MapEntry},e9 E h es bT->bT.length=es.length
 |[],bT,he=>by simp only [e9] at he; simp [he]
 |(k,v,b)::es,bT,he=>by simp only [e9] at he;obtain⟨e,r,rfl,_,_,_,h4⟩:=he;simp [h4.length]
theorem e9.set {h:Array Obj} {k v:Y} {uk uv:Value} (hk:VR E h k uk) (hv:VR E h v uv): ∀{es:List (Y×Y×Nat)} {bT:List MapEntry} {i:Nat} {e:MapEntry},e9 E h es bT->bT[i]?=some e->
 e9 E h (sI k v es i) (bT.set i { e with key:=uk,val:=uv })
 |[],bT,i,e,he,hi=>by simp only [e9] at he; subst he; simp at hi
 |(k',v',b)::es,bT,0,e,he,hi=>by
  simp only [e9] at he;obtain⟨e0,r,rfl,U,Z,h3,h4⟩:=he;simp at hi;subst hi;simp only [sI,am3,e9]
  grind
 |(k',v',b)::es,bT,i+1,e,he,hi=>by simp only [e9] at he;obtain⟨e0,r,rfl,U,Z,h3,h4⟩:=he;simp only [sI,am4,e9];exact⟨e0,_,rfl,U,Z,h3,e9.set hk hv h4 (by simpa using hi)⟩
theorem e9.push {h:Array Obj} {k v:Y} {uk uv:Value} {c c':Nat} (hk:VR E h k uk) (hv:VR E h v uv): ∀{es:List (Y×Y×Nat)} {bT:List MapEntry},e9 E h es bT->
 e9 E h (es++ [(k,v,c)]) (bT++ [{ key:=uk,val:=uv,born:=c' }])
 |[],bT,he=>by
  simp only [e9] at he;subst he;simp only [aw,e9]
  grind
 |(k',v',b)::es,bT,he=>by simp only [e9] at he;obtain⟨e0,r,rfl,U,Z,h3,h4⟩:=he;simp only [aW,e9];exact⟨e0,_,rfl,U,Z,h3,e9.push hk hv h4⟩
theorem e9.erase {h:Array Obj}: ∀{es:List (Y×Y×Nat)} {bT:List MapEntry} {i:Nat},e9 E h es bT->e9 E h (qz es i) (bT.eraseIdx i)
 |[],bT,i,he=>by simp only [e9] at he; subst he; simp [qz,e9]
 |(k',v',b)::es,bT,0,he=>by
  simp only [e9] at he;obtain⟨e0,r,rfl,U,Z,h3,h4⟩:=he
  grind [qz]
 |(k',v',b)::es,bT,i+1,he=>by simp only [e9] at he;obtain⟨e0,r,rfl,U,Z,h3,h4⟩:=he;simp only [qz,anR,e9];exact⟨e0,_,rfl,U,Z,h3,e9.erase h4⟩
theorem A1 {t:Nat} {i:TI} (gp:nC P t i) {z:Y} (h:zeroOf i=some z): ∃u,(zeroValue t).run P w= .ok u w/\VR E w.heap z u:=by
 obtain⟨inf,d,zv,U,Z,h3,h4,h5,h6,h7,h8⟩:=gp.all;have hz:=fh (E:=E) (h:=w.heap) h4;have hr:(zeroValue t).run P w= .ok zv w:=by simp [zeroValue,typeInfo,U,h3]
 refine⟨zv,hr,?_⟩;unfold zeroOf at h;split at h
 ·rename_i ha;simp at h;subst h;rw [ha] at h8;cases zv<;>simp only [Jy,reduceCtorEq] at h8;rename_i cs;simp only [VR];exact⟨cs.toList,ad,hz.1⟩
 ·rename_i ha;split at h
  ·rename_i v hv;simp at h;subst h;rw [hv] at hz;obtain⟨u,vs,e1,e2,e3⟩:=bX.1 hz.1;rw [iN] at e3;subst e3;rw [ha] at h8;have:zv=u:=by cases zv<;>simp_all [Jy,Value.cells]
   grind
  grind
end
theorem A8 (ρ:Nat->Int) (x:V):(zi x).den ρ=(dec (x.den ρ)).n:=by
 unfold zi;split
 ·split
  ·simp only [V.den,fT.den,bC,D.n]
  ·simp only [V.den,fT.den]
 ·split
  ·simp only [V.den,bC,D.n]
  ·simp only [V.den,fT.den]
 ·simp only [V.den,fT.den]
theorem mf (ρ:Nat->Int) (x:V):(nO x).den ρ=enc (.i (x.den ρ)):=by unfold nO;split<;>simp only [V.den,fT.den]
theorem zX (a b:D):(D.p a b).hd 0=a:=by simp [D.hd,D.l]
theorem zZ (a b:D) (j:Nat):(D.p a b).hd (j+1)=b.hd j:=by simp [D.hd,D.l]
theorem pY (ρ:Nat->Int): ∀(j:Nat) (x:V),dec ((jw j x).den ρ)=(dec (x.den ρ)).hd j
 |j,.op o a b=>by
  unfold jw
  cases o with
  |cons=>
   cases j with
   |zero=>simp only [V.den,fT.den,bC,zX]
   |succ j=>simp only [pY ρ j b,V.den,fT.den,bC,zZ]
  |_=>simp only [V.den,fT.den,bC]
 |j,.lit n=>by simp only [jw,V.den,fT.den,bC]
 |j,.dK n=>by simp only [jw,V.den,fT.den,bC]
 |j,.add _ _=>by simp only [jw,V.den,fT.den,bC]
 |j,.sub _ _=>by simp only [jw,V.den,fT.den,bC]
 |j,.mul _ _=>by simp only [jw,V.den,fT.den,bC]
 |j,.quo _ _=>by simp only [jw,V.den,fT.den,bC]
 |j,.rem _ _=>by simp only [jw,V.den,fT.den,bC]
 |j,.wrap _ _=>by simp only [jw,V.den,fT.den,bC]
 |j,.xK _ _=>by simp only [jw,V.den,fT.den,bC]
 |j,.eD _=>by simp only [jw,V.den,fT.den,bC]
 |j,.ap _ _=>by simp only [jw,V.den,fT.den,bC]
theorem cL (ρ:Nat->Int): ∀x:V,(ed x).den ρ=((dec (x.den ρ)).l.length:Int)
 | .op o a b=>by
   unfold ed
   cases o with
   |set=>
    simp only [cL ρ a,V.den,fT.den];split
    ·simp only [bC,bD,fY]
    ·rfl
   |_=>simp only [V.den,fT.den]
 | .lit n=>by simp only [ed,V.den,fT.den]
 | .dK n=>by simp only [ed,V.den,fT.den]
 | .add _ _=>by simp only [ed,V.den,fT.den]
 | .sub _ _=>by simp only [ed,V.den,fT.den]
 | .mul _ _=>by simp only [ed,V.den,fT.den]
 | .quo _ _=>by simp only [ed,V.den,fT.den]
 | .rem _ _=>by simp only [ed,V.den,fT.den]
 | .wrap _ _=>by simp only [ed,V.den,fT.den]
 | .xK _ _=>by simp only [ed,V.den,fT.den]
 | .eD d=>by simp only [ed,V.den,bC]; rfl
 | .ap _ _=>by simp only [ed,V.den,fT.den]
theorem Rd.slice {ro:Nat->Prop} {h:Array Obj} {t:Nat} {d:D} {v:Value} (r:Rd ro h (.sl t) d v): ∃x cap,v= .slice x d.l.length cap/\d.l.length<=cap:=by
 generalize hc:CK.sl t=c at r
 cases r with
 |int k n=>simp at hc
 |bool b=>simp at hc
 |str s=>simp at hc
 |nil t=>exact⟨none,0,rfl,by simp [D.l]⟩
 |wO t a cap=>exact⟨some a,cap,rfl,by simp [D.l]⟩
 |one t c b o cap ds f hr eP hb U Z=>exact⟨_,cap,by rw [bD],by rw [bD]; exact eP⟩
 |many t cs b o cap rows f hr eP hb W U Z=>exact⟨some ⟨b,o,none⟩,cap,ad,by simpa using eP⟩
theorem Rd.string {ro:Nat->Prop} {h:Array Obj} {d:D} {v:Value} (r:Rd ro h .str d v): ∃s,v= .string s/\d=uD s:=by
 cases r with
 |str s=>exact⟨s,rfl,rfl⟩
def jQ (ro:Nat->Prop) (h:Array Obj) (c:CK) (d:D) (u:Value):Prop:=match c with
 | .int k=>u= .int k d.n
 | .bool=>u= .bool (!(d.n == 0))
 |c=>Rd ro h c d u
theorem nY {E:En} {h:Array Obj} {c:CK} {x:V} {u:Value}:VR E h (r9 c x) u↔jQ E.ro h c (dec (x.den E.ρ)) u:=by cases c<;>simp only [r9,jQ,VR,SB.den,A8,V.den]
theorem Rd.cell {ro:Nat->Prop} {h:Array Obj} {c:CK} {d:D} {u:Value} (r:Rd ro h c d u):jQ ro h c d u:=by
 cases r with
 |int k n=>simp [jQ,D.n]
 |bool b=>cases b<;>simp [jQ,D.n]
 |str s=>exact .str s
 |nil t=>exact .nil t
 |wO t a cap=>exact .wO t a cap
 |one t c b o cap ds f hr hc hb U Z=>exact .one t c b o cap ds f hr hc hb U Z
 |many t cs b o cap rows f hr hc hb W U Z=>exact .many t cs b o cap rows f hr hc hb W U Z
theorem jQ.one {ro:Nat->Prop} {h:Array Obj} {c:CK} {d:D} {u:Value} (r:jQ ro h c d u):u.oneCell'=true:=by
 cases c with
 |int k=>simp only [jQ] at r; subst r; rfl
 |bool=>simp only [jQ] at r; subst r; rfl
 |str=>exact Rd.aaa r
 |sl t=>exact Rd.aaa r
def ej (ro:Nat->Prop) (h:Array Obj):List CK->Nat->D->List Value->Prop
 |[],_,_,us=>us= []
 |c::cs,j,d,us=> ∃u vs,us=u::vs/\jQ ro h c (d.hd j) u/\ej ro h cs (j+1) d vs
def xA (ro:Nat->Prop) (h:Array Obj) (r:Row) (d:D) (us:List Value):Prop:=match r with
 | .one c=> ∃u,us= [u]/\jQ ro h c d u
 | .many cs=>ej ro h cs 0 d us
theorem r8 {E:En} {h:Array Obj} {x:V}: ∀{cs:List CK} {j:Nat} {us:List Value},cJ E h (jN cs j x) us↔ej E.ro h cs j (dec (x.den E.ρ)) us
 |[],j,us=>by simp only [jN,cJ,ej]
 |c::cs,j,us=>by
  simp only [jN,bX,ej];constructor
  ·rintro⟨u,vs,rfl,U,Z⟩;exact⟨u,vs,rfl,by rw [nY,pY] at U; exact U,r8.1 Z⟩
  ·rintro⟨u,vs,rfl,U,Z⟩;exact⟨u,vs,rfl,by rw [nY,pY]; exact U,r8.2 Z⟩
theorem gD {E:En} {h:Array Obj} {r:Row} {x:V} {us:List Value}:cJ E h (ic r x) us↔xA E.ro h r (dec (x.den E.ρ)) us:=by
 cases r with
 |one c=>
  simp only [ic,bX,iN,xA];constructor
  ·rintro⟨u,vs,rfl,U,rfl⟩
   grind [nY]
  grind [nY]
 |many cs=>simp only [ic,xA,r8]
theorem td (x:V): ∀(cs:List CK) (j:Nat),(jN cs j x).length=cs.length
 |[],_=>rfl
 |_::cs,j=>by simp [jN,td x cs]
theorem iA (r:Row) (x:V):(ic r x).length=r.es:=by cases r<;>simp [ic,Row.es,td]
theorem ej.sQ {ro:Nat->Prop} {h:Array Obj} {d:D}: ∀{cs:List CK} {j:Nat} {us:List Value},ej ro h cs j d us->∀u∈us,u.oneCell'=true
 |[],_,_,hh,u,hu=>by simp only [ej] at hh; subst hh; simp at hu
 |c::cs,j,us,hh,u,hu=>by
  simp only [ej] at hh;obtain⟨x,vs,rfl,U,Z⟩:=hh;rcases aF.1 hu with rfl|hu
  ·exact U.one
  ·exact Z.sQ u hu
theorem xA.sQ {ro:Nat->Prop} {h:Array Obj} {r:Row} {d:D} {us:List Value} (hh:xA ro h r d us): ∀u∈us,u.oneCell'=true:=by
 cases r with
 |one c=> obtain⟨u,rfl,U⟩:=hh;intro x hx;simp at hx;subst hx;exact U.one
 |many cs=>exact ej.sQ hh
theorem cJ.split {E:En} {h:Array Obj}: ∀{xs ys:List Y} {us:List Value},cJ E h (xs++ys) us->∃a b,us=a++b/\cJ E h xs a/\cJ E h ys b
 |[],ys,us,hh=> ⟨[],us,rfl,by simp only [cJ],hh⟩
 |x::xs,ys,us,hh=>by rw [aW,bX] at hh;obtain⟨u,vs,rfl,U,Z⟩:=hh;obtain⟨a,b,rfl,h3,h4⟩:=Z.split;exact⟨u::a,b,rfl,by rw [bX]; exact⟨u,a,rfl,U,h3⟩,h4⟩
theorem lE {ρ:Nat->Int} {i:Nat} {cs:List Y}: ∀{ov:List (V×List Y)},ep ρ i ov=some cs->∃p∈ov,p.2=cs/\p.1.den ρ=(i:Int)
 |[],h=>by simp [ep] at h
 |(j,c)::l,h=>by
  simp only [ep] at h;split at h
  ·rename_i hj;simp only [an] at h;exact⟨(j,c),ad,h,hj⟩
  ·obtain⟨p,U,Z⟩:=lE h
   grind
theorem cM {ρ:Nat->Int} {r:Row} {ov:List (V×List Y)} (ho:tG r ov): ∀(ds:List D) (i:Nat),(bH ρ r ov ds i).length=ds.length*r.es
 |[],i=>by simp [bH]
 |d::ds,i=>by
  simp only [bH,a8,cM ho ds (i+1),aQ,amx,am2];split
  ·rename_i cs h;obtain⟨p,U,Z,_⟩:=lE h;rw [<- Z,ho p U]; omega
  grind [iA]
theorem my {ρ:Nat->Int} {r:Row} {ov:List (V×List Y)}: ∀(xs ys:List D) (i:Nat),bH ρ r ov (xs++ys) i=bH ρ r ov xs i++bH ρ r ov ys (i+xs.length)
 |[],ys,i=>by simp [bH]
 |d::ds,ys,i=>by
  simp only [aW,bH,my ds ys (i+1),ani,aQ]
  grind
section
variable {P:Program} {E:En} {w:World}
theorem zE [bJ] {H:Hp} (r:bS E H w) {id c:Nat} {es:List (Y×Y×Nat)} (W:H.get id=some (.map es c)): ∃bT c',w.heap[(E.θ id).1]?=some (.map bT c')/\e9 E w.heap es bT.toList:=
 (r.live id _ W).2.1
theorem MC [bJ] {tt:TT} (cV:eJ P tt) {pc:List (SB×Bool)} (hp:ca E.ρ pc) {H:Hp} (r:bS E H w) {t:Nat} {m k v:Y} {um uk:Value} {ok:Bool} (hm:VR E w.heap m um) (hk:VR E w.heap k uk) (h:Fm tt pc t m k ok H=some v) :
 ∃x,(Instr.lookup t um uk ok).run P w= .ok x w/\VR E w.heap v x:=by
 unfold Fm at h;split at h
 ·rename_i ti gp;split at h
  ·rename_i kt et zT;have hu:=wB (cV t ti gp) zT;split at h
   ·grind
   ·rename_i kk xu;obtain⟨d,rb,jK⟩:=yw cV xu;split at h
    ·grind
    ·rename_i ie lG
     have key: ∀(es:List (Y×Y×Nat)) (bT:Array MapEntry),e9 E w.heap es bT.toList->
      (match CB pc kk k es 0 with
       |none=>none
       |some (some (_,v))=>some (if ok then .tuple [v,.bool (.lit true)] else v)
       |some none=>match zeroOf ie with
        |none=>none
        |some z=>some (if ok then .tuple [z,.bool (.lit false)] else z))=some v->
      ∃(o:Option (Nat×Value)) (x:Value),(Instr.findKey kt uk bT.toList).run P w= .ok o w/\
       (match o with
        |some (_,y)=>x=(if ok then .tuple #[y,.bool true] else y)
        |none=> ∃z,(zeroValue et).run P w= .ok z w/\x=(if ok then .tuple #[z,.bool false] else z))/\VR E w.heap v x:=by
      intro es bT he hh;split at hh
      ·simp at hh
      ·rename_i j v' hf;simp at hh;subst hh;rcases qv hp jK hk he hf with ⟨q1,_⟩|⟨jj,v2,e,q1,q2,q3,q4,q5⟩
       ·simp at q1
       ·simp only [an,aq] at q1;obtain⟨rfl,rfl⟩:=q1;refine⟨_,_,eU rb q4,rfl,?_⟩;cases ok
        ·exact q3
        ·simp only [if_true,VR,cJ];exact⟨[e.val,.bool true],rfl,_,_,rfl,q3,_,_,rfl,by simp [SB.den],rfl⟩
      ·rename_i hf;split at hh
       ·simp at hh
       ·rename_i z hz;simp at hh;subst hh;obtain⟨u,e1,e2⟩:=A1 (P:=P) (w:=w) (E:=E) (cV et ie lG) hz;rcases qv hp jK hk he hf with ⟨_,q2⟩|⟨jj,v2,e,q1,_⟩
        ·refine⟨none,_,eU rb q2,⟨u,e1,rfl⟩,?_⟩;cases ok
         ·exact e2
         ·simp only [if_true,VR,cJ];exact⟨[u,.bool false],rfl,_,_,rfl,e2,_,_,rfl,by simp [SB.den],rfl⟩
        ·simp at q1
     split at h
     ·grind
     ·rename_i es l8;unfold Jo at l8;split at l8
      ·simp at l8;subst l8;simp only [VR] at hm;subst hm;obtain⟨o,x,e1,e2,e3⟩:=key [] #[] (by simp [e9]) h;refine⟨x,?_,e3⟩
       cases o with
       |none=> obtain⟨z,e4,rfl⟩:=e2;cases ok<;>simp [Instr.lookup,run_underlying hu,e8 rb jK,e1,e4]
       |some p=> obtain⟨j,y⟩:=p;simp only at e2;subst e2;cases ok<;>simp [Instr.lookup,run_underlying hu,e8 rb jK,e1]
      ·rename_i id;split at l8
       ·rename_i es' c W;simp at l8;subst l8;simp only [VR] at hm;obtain⟨rfl,hid⟩:=hm;obtain⟨bT,c',g1,g2⟩:=zE r W;have hg:=gU (P:=P) g1 ad;obtain⟨o,x,e1,e2,e3⟩:=key es' bT g2 h;refine⟨x,?_,e3⟩
        cases o with
        |none=> obtain⟨z,e4,rfl⟩:=e2;cases ok<;>simp [Instr.lookup,run_underlying hu,hg,e8 rb jK,e1,e4]
        |some p=> obtain⟨j,y⟩:=p;simp only at e2;subst e2;cases ok<;>simp [Instr.lookup,run_underlying hu,hg,e8 rb jK,e1]
       grind
      grind
  grind
 grind
theorem yo {α:Type} (bT:Array α) (i:Nat) (e:α) (f:α->α) (h:bT.toList[i]?=some e):(bT.modify i f).toList=bT.toList.set i (f e):=by
 apply anu;intro j
 grind
theorem vV [bJ] {tt:TT} (cV:eJ P tt) {pc:List (SB×Bool)} (hp:ca E.ρ pc) {H H':Hp} (r:bS E H w) {t:Nat} {m k v:Y} {um uk uv:Value} (hm:VR E w.heap m um) (hk:VR E w.heap k uk) (hv:VR E w.heap v uv) (h:rA tt pc t m k v H=some H') :
 ∃w',(Instr.mapUpdate t um uk uv).run P w= .ok () w'/\fj E H w E H' w'/\bS E H' w':=by
 unfold rA at h;split at h
 ·rename_i ti gp;split at h
  ·rename_i kt et zT;have hu:=wB (cV t ti gp) zT;split at h
   ·grind
   ·rename_i kk xu;obtain⟨d,rb,jK⟩:=yw cV xu;split at h
    ·rename_i id;split at h
     ·rename_i es c W;simp only [VR] at hm;obtain⟨rfl,hid⟩:=hm;obtain⟨bT,c',g1,g2⟩:=zE r W;have hg:=gU (P:=P) g1 ad;split at h
      ·grind
      ·rename_i i v' hf;simp at h;subst h;rcases qv hp jK hk g2 hf with ⟨q1,_⟩|⟨jj,v2,e,q1,q2,q3,q4,q5⟩
       ·grind
       ·simp only [an,aq,aK] at q1;obtain⟨rfl,rfl⟩:=q1;simp only [aK] at q4
        have hkt:(Instr.keyThatStays (((bT[i]?).map (·.key)).getD uk) uk).run P w= .ok uk w:=by rw [amp] at q2;simp only [q2,amu,ax,Instr.keyThatStays];simp_all
        refine⟨_,?_,jc r W (.map (sI k v es i) c) (.map (bT.modify i fun e=>{ e with key:=uk,val:=uv }) c') ?_⟩
        ·simp [Instr.mapUpdate,run_underlying hu,hg,e8 rb jK,eU rb q4,hkt,iF (P:=P) g1]
        ·intro h' hh kp;simp only [OR]
         grind [yo,e9.set,VR.cD,e9.cD]
      ·rename_i hf;simp at h;subst h;rcases qv hp jK hk g2 hf with ⟨_,q2⟩|⟨jj,v2,e,q1,_⟩
       ·refine⟨_,?_,jc r W (.map (es++ [(k,v,c)]) (c+1)) (.map (bT.push { key:=uk,val:=uv,born:=c' }) (c'+1)) ?_⟩
        ·simp [Instr.mapUpdate,run_underlying hu,hg,e8 rb jK,eU rb q2,iF (P:=P) g1]
        ·intro h' hh kp;simp only [OR]
         grind [e9.push,VR.cD,e9.cD]
       grind
     grind
    grind
  grind
 grind
theorem MD [bJ] {tt:TT} (cV:eJ P tt) {pc:List (SB×Bool)} (hp:ca E.ρ pc) {H H':Hp} (r:bS E H w) {t:Nat} {ts:Nat} {m k:Y} {um uk:Value} (hm:VR E w.heap m um) (hk:VR E w.heap k uk) (h:Fq tt pc t m k H=some H') (ty:Nat) :
 ∃w',(Builtin.delete_ #[t,ts] ty #[um,uk]).run P w= .ok (.tuple #[]) w'/\fj E H w E H' w'/\bS E H' w':=by
 unfold Fq at h;split at h
 ·rename_i ti gp;split at h
  ·rename_i kt et zT;have hu:=wB (cV t ti gp) zT;split at h
   ·grind
   ·rename_i kk xu;obtain⟨d,rb,jK⟩:=yw cV xu;split at h
    ·simp at h;subst h;simp only [VR] at hm;subst hm;exact⟨w,by simp [Builtin.delete_,run_underlying hu,e8 rb jK],fj.refl _ _ _,r⟩
    ·rename_i id;split at h
     ·rename_i es c W;simp only [VR] at hm;obtain⟨rfl,hid⟩:=hm;obtain⟨bT,c',g1,g2⟩:=zE r W;have hg:=gU (P:=P) g1 ad;split at h
      ·grind
      ·rename_i i v' hf;simp at h;subst h;rcases qv hp jK hk g2 hf with ⟨q1,_⟩|⟨jj,v2,e,q1,q2,q3,q4,q5⟩
       ·grind
       ·simp only [an,aq,aK] at q1;obtain⟨rfl,rfl⟩:=q1;simp only [aK] at q4;refine⟨_,?_,jc r W (.map (qz es i) c) (.map (bT.eraseIdxIfInBounds i) c') ?_⟩
        ·simp [Builtin.delete_,run_underlying hu,hg,e8 rb jK,eU rb q4,iF (P:=P) g1]
        ·intro h' hh kp;simp only [OR];refine⟨_,_,hh,?_⟩;have dU:i<bT.size:=by have:=(bk.1 q2).1; simpa using this
         have:(bT.eraseIdxIfInBounds i).toList=bT.toList.eraseIdx i:=by simp_all
         grind [e9.erase,e9.cD]
      ·rename_i hf;simp at h;subst h;rcases qv hp jK hk g2 hf with ⟨_,q2⟩|⟨jj,v2,e,q1,_⟩
       ·refine⟨_,?_,jc r W (.map es c) (.map bT c') ?_⟩
        ·simp [Builtin.delete_,run_underlying hu,hg,e8 rb jK,eU rb q2,iF (P:=P) g1]
        ·intro h' hh kp;simp only [OR]
         grind [e9.cD]
       grind
     grind
    grind
  grind
 grind
theorem Y8 [bJ] {tt:TT} (cV:eJ P tt) {H:Hp} (r:bS E H w) {t ty:Nat} {x v:Y} {u:Value} (hx:VR E w.heap x u) (h:Y9 tt t x H=some v) :
 ∃y,(Builtin.len_ #[t] ty #[u]).run P w= .ok y w/\VR E w.heap v y:=by
 unfold Y9 at h;simp only at h;split at h
 ·rename_i ti gp;have vE:=cV t ti gp;split at h
  ·rename_i hk;split at h
   ·rename_i s;simp at h;subst h;simp only [VR] at hx;obtain⟨rfl,_⟩:=hx;exact⟨_,by simp [Builtin.len_,run_underlying (fX vE hk)]; rfl,by simp [VR,V.den,goInt,lC]⟩
   ·simp at h; subst h; simp only [VR] at hx;obtain⟨s,rfl,hs⟩:=hx.string;exact⟨_,by simp [Builtin.len_,run_underlying (fX vE hk)]; rfl,by simp only [VR,cL,hs,g_]; rfl⟩
   grind
  ·rename_i e hk;have hu:=fC vE hk;split at h
   ·simp at h; subst h; simp only [VR] at hx; subst hx;exact⟨_,by simp [Builtin.len_,run_underlying hu]; rfl,by simp [VR,V.den,goInt]⟩
   ·simp at h; subst h; simp only [VR] at hx; obtain⟨x,rfl⟩:=hx;exact⟨_,by simp [Builtin.len_,run_underlying hu]; rfl,by simp [VR,V.den,goInt]⟩
   ·simp at h; subst h; simp only [VR] at hx; obtain⟨⟨x,rfl⟩,_⟩:=hx;exact⟨_,by simp [Builtin.len_,run_underlying hu]; rfl,by simp [VR,V.den,goInt]⟩
   ·simp at h; subst h; simp only [VR] at hx; obtain⟨_,a,cap,rfl,_⟩:=hx;exact⟨_,by simp [Builtin.len_,run_underlying hu]; rfl,by simp [VR,V.den,goInt]⟩
   ·simp at h; subst h; simp only [VR] at hx; obtain⟨b,o,cap,us,rfl,_⟩:=hx;exact⟨_,by simp [Builtin.len_,run_underlying hu]; rfl,by simp [VR,V.den,goInt]⟩
   ·simp at h; subst h; simp only [VR] at hx; obtain⟨x,cap,rfl,_⟩:=hx.slice;exact⟨_,by simp [Builtin.len_,run_underlying hu]; rfl,by simp [VR,cL,goInt]⟩
   ·simp at h; subst h; simp only [VR] at hx; obtain⟨_,k,a,cap,h0,rfl,_⟩:=hx;exact⟨_,by simp [Builtin.len_,run_underlying hu]; rfl,by simp [VR,h0,goInt]⟩
   ·simp at h; subst h; simp only [VR] at hx; obtain⟨_,l,k,a,cap,_,h0,rfl,_⟩:=hx;exact⟨_,by simp [Builtin.len_,run_underlying hu]; rfl,by simp [VR,h0,goInt]⟩
   ·simp at h; subst h; simp only [VR] at hx;rcases hx with ⟨⟨x,cap,rfl⟩,h0⟩|⟨b,o,n,cap,rfl,_,h0,_⟩
    ·exact⟨_,by simp [Builtin.len_,run_underlying hu]; rfl,by simp [VR,V.den,goInt,h0]⟩
    ·exact⟨_,by simp [Builtin.len_,run_underlying hu]; rfl,by simp [VR,V.den,goInt,h0]⟩
   grind
  ·rename_i k e hk;have hu:=sA vE hk;simp at h;subst h;exact⟨_,by simp [Builtin.len_,run_underlying hu]; rfl,by simp [VR,V.den,goInt]⟩
  ·rename_i kt et hk;have hu:=wB vE hk;split at h
   ·simp at h; subst h; simp only [VR] at hx; subst hx;exact⟨_,by simp [Builtin.len_,run_underlying hu]; rfl,by simp [VR,V.den,goInt]⟩
   ·rename_i id;split at h
    ·rename_i es c W;simp at h;subst h;simp only [VR] at hx;obtain⟨rfl,hid⟩:=hx;obtain⟨bT,c',g1,g2⟩:=zE r W;have hg:=gU (P:=P) g1 ad;have hlen:=g2.length;simp only [bo] at hlen;exact⟨_,by simp [Builtin.len_,run_underlying hu,hg]; rfl,by simp [VR,V.den,goInt,hlen]⟩
    ·rename_i e t' W;simp at h;subst h;simp only [VR] at hx;obtain⟨rfl,hid⟩:=hx;obtain⟨_,ho,_⟩:=r.live _ _ W;simp only [OR] at ho;obtain⟨bT,c',g1,g2⟩:=ho;have hg:=gU (P:=P) g1 ad;have hlen:=g2.length;simp only [bo] at hlen;exact⟨_,by simp [Builtin.len_,run_underlying hu,hg]; rfl,by simp [VR,cL,goInt,hlen]⟩
    ·rename_i e t' fq ov W;simp at h;subst h;simp only [VR] at hx;obtain⟨rfl,hid⟩:=hx;obtain⟨_,ho,_⟩:=r.live _ _ W;simp only [OR] at ho;obtain⟨_,bT,c',g1,g2⟩:=ho;have hg:=gU (P:=P) g1 ad;have hlen:=g2.length;simp only [bo] at hlen;exact⟨_,by simp [Builtin.len_,run_underlying hu,hg]; rfl,by simp [VR,cL,goInt,hlen]⟩
    grind
   grind
  grind
 grind
end
section
variable {P:Program} {E:En} {w:World}
structure Src (P:Program) (E:En) (w:World) (s m:Nat) (news:List Y) (u:Value) (us:Array Value):Prop where
 len: ∀w2,(Builtin.lenOf u).run P w2= .ok m w2
 first: ∀w2:World,w2.heap=w.heap->(Builtin.firstCells s m u).run P w2= .ok us w2
 Vk:cJ E w.heap news us.toList
 size:us.size=m*s
 sQ: ∀x∈us.toList,x.oneCell'=true
theorem gk.Rq {b o n:Nat} {us:List Value} (hn:us.length=n) (h:gk w.heap b o us) (w2:World) (hw:w2.heap=w.heap):(loadCells ⟨b,o,none⟩ n).run P w2= .ok us.toArray w2:=
 sN hn (by rw [hw]; exact h)
theorem tC {id off len cap:Nat} {a:Addr} {c:NB} (hc:eZ E id off len a cap c):a=⟨(E.θ id).1,(E.θ id).2+off,none⟩\/cap=0:=by
 cases c with
 |exact c=>
  simp only [eZ] at hc
  grind
 |rest es=>
  simp only [eZ] at hc
  grind
theorem vo [bJ] {H:Hp} (r:bS E H w) {id o len cap s:Nat} {a:Addr} {c:NB} {l:List Y} (hid:E.dm id) (hc:eZ E id o len a cap c) (hlen:len<=cap) (h:nu H (.ptr id o) (len*s)=some l) :
 ∃us:List Value,us.length=len*s/\cJ E w.heap l us/\(∀u∈us,u.oneCell'=true)/\∀w2:World,w2.heap=w.heap->(loadCells a (len*s)).run P w2= .ok us.toArray w2:=by
 obtain⟨b,o',us,e1,e2,e3,e4,e5⟩:=wI r (p:=.ptr id o) (u:=.pointer (some ⟨(E.θ id).1,(E.θ id).2+o,none⟩)) (by simp only [VR]; exact⟨trivial,hid⟩) h;simp only [Value.pointer.injEq,an,Addr.mk.injEq] at e1;obtain⟨e1a,e1b,_⟩:=e1;refine⟨us,e2,e3,e5,fun w2 hw=>?_⟩;rcases tC hc with ha|ha
 ·rw [ha,e1a,e1b];exact e4.Rq e2 w2 hw
 ·obtain rfl:len=0:=J
  rw [ams] at e2 ⊢;rw [amv e2];rfl
theorem qV [bJ] {H:Hp} (r:bS E H w) {s m:Nat} {y:Y} {u:Value} {news:List Y} (hy:VR E w.heap y u) (h:sE s y H=some (m,news)): ∃us,Src P E w s m news u us:=by
 unfold sE at h;split at h
 ·simp only [an,aq] at h;obtain⟨rfl,rfl⟩:=h;simp only [VR] at hy;subst hy;exact⟨#[],fun _=>rfl,fun w2 _=>by simp [Builtin.firstCells],by simp [cJ],ad,ad⟩
 ·rename_i id o len c;rw [aZ] at h;obtain⟨l,U,Z⟩:=h;simp only [aq] at Z;obtain⟨rfl,rfl⟩:=Z;simp only [VR] at hy;obtain⟨hid,a,cap,rfl,hlen,hc⟩:=hy;obtain⟨us,e1,e2,e3,e4⟩:=vo (P:=P) r hid hc hlen U;exact⟨us.toArray,fun _=>rfl,fun w2 hw=>by simp only [Builtin.firstCells]; exact e4 w2 hw,by simpa using e2,by simpa using e1,by simpa using e3⟩
 ·rename_i cs n full;rw [aZ] at h;obtain⟨l,U,Z⟩:=h;simp only [aq] at Z;obtain⟨rfl,rfl⟩:=Z;simp only [VR] at hy;obtain⟨b,o,cap,us,rfl,hn,hf,h4,h5,h6,h7⟩:=hy;obtain⟨g1,g2⟩:=h5.ja U;have W:=h5.length;have htl:(us.take (n*s)).length=n*s:=by rw [bh]; omega
  exact⟨(us.take (n*s)).toArray,fun _=>rfl,fun w2 hw=>by simp only [Builtin.firstCells]; exact (h6.take (n*s)).Rq htl w2 hw,by simpa using g1,by simpa using htl,
   fun x hx=>h7 x (amo (by simpa using hx))⟩
 ·rename_i b;split at h
  ·rename_i hs;simp only [an,aq] at h;obtain⟨rfl,rfl⟩:=h;simp only [VR] at hy;obtain⟨rfl,gu⟩:=hy;have iW:(dy b).size=b.length:=lC b;have hex:(dy b).extract 0 b.length=dy b:=by rw [tz]; simp
   refine⟨(dy b).data.map fun c=>Value.int .u8 (c.toNat:Int),fun w2=>by simp [Builtin.lenOf,iW],fun w2 _=>by simp [Builtin.firstCells,hex],?_,?_,?_⟩
   ·have:((dy b).data.map fun c=>Value.int .u8 (c.toNat:Int)).toList=(b.map UInt8.ofNat).map fun c=>Value.int .u8 (c.toNat:Int):=by simp [dy]
    rw [this];clear hex iW this
    induction b with
    |nil=>simp [cJ]
    |cons x b ih=> have hx:=gu x ad;rw [aH,aH,aH,bX];refine⟨_,_,rfl,?_,ih fun c hc=>gu c (by simp [hc])⟩;simp [VR,V.den,amN,amG hx]
   ·simp_all
   ·intro x hx;simp only [anS,bd] at hx;obtain⟨c,_,rfl⟩:=hx;rfl
  grind
 grind
theorem lA {t t2 ty e s m n cap:Nat} {d2:TypeDesc} {inf:TypeInfo} {a:Option Addr} {u2:Value} {us:Array Value} {news:List Y} {w':World} (ht:P.underlying t=some (.slice e)) (yQ:P.underlying t2=some d2)
 (jK: ∀k,d2≠.int k) (hi:P.info? e=some inf) (hs:inf.size=s) (src:Src P E w s m news u2 us) (ld:n+m<=cap)
 (Dp:match a with |some a=>(storeCells (a.add (n*s)) us.toList).run P w= .ok () w'|none=>w'=w) :
 (Builtin.append_ #[t,t2] ty #[.slice a n cap,u2]).run P w= .ok (.slice a (n+m) cap) w':=by
 have hf:=src.first w rfl;have W:=src.len w
 cases a with
 |none=> simp only at Dp;subst Dp;simp [Builtin.append_,run_underlying ht,run_underlying yQ,sizeOf,typeInfo,hi,hs,W,ld,hf]
 |some a=> simp only at Dp;simp [Builtin.append_,run_underlying ht,run_underlying yQ,sizeOf,typeInfo,hi,hs,W,ld,hf,Dp]
theorem M6 {t t2 ty e s m n cap:Nat} {d2:TypeDesc} {inf:TypeInfo} {z u u2:Value} {us olds:Array Value} {news:List Y} (ht:P.underlying t=some (.slice e)) (yQ:P.underlying t2=some d2)
 (jK: ∀k,d2≠.int k) (hi:P.info? e=some inf) (hs:inf.size=s) (hz:inf.zero=some z) (hb:inf.bytes≠0) (src:Src P E w s m news u2 us) (ld:cap<n+m) (hbound:(n+m)*inf.bytes<=140737488355328)
 (a:Option Addr) (hu:u= .slice a n cap) (hold: ∀w2:World,w2.heap=w.heap->(Builtin.firstCells s n u).run P w2= .ok olds w2) :
 (Builtin.append_ #[t,t2] ty #[u,u2]).run P w= .ok (.slice (some ⟨w.heap.size,0,none⟩) (n+m) (grownCap w (n+m) cap e))
  (w.drew.alloc (.cells (olds++us++Builtin.zeroCells z.cells (grownCap w (n+m) cap e-(n+m))) e)):=by
 subst hu;have hf:=src.first w.drew rfl;have ho:=hold w.drew rfl;have W:=src.len w;have hn: ¬(n+m<=cap):=J
 have h48: ¬(281474976710656<Builtin.nextslicecap (n+m) cap*inf.bytes):=by
  have U:Builtin.nextslicecap (n+m) cap*inf.bytes<=2*(n+m)*inf.bytes:=amO _ (nextslicecap_le ld)
  grind
 have ala: ¬(2 ^ 48<Builtin.nextslicecap (n+m) cap*inf.bytes):=h48;simp [Builtin.append_,run_underlying ht,run_underlying yQ,sizeOf,typeInfo,zeroValue,hi,hs,hz,W,hn,hb,ala,Question.forced,ho,hf,newRow,grownCap]
theorem pL [bJ] {t t2 ty:Nat} {H H':Hp} (r:bS E H w) {ie:TI} {e n m cap:Nat} {cs news old:List Y} {v:Y} {d2:TypeDesc} {u2:Value} {us olds:Array Value} (va:nC P e ie)
 (ht:P.underlying t=some (.slice e)) (yQ:P.underlying t2=some d2) (jK: ∀k,d2≠.int k) (ss:ie.bytes≠0) (tp:ie.zero.length=ie.size)
 (src:Src P E w ie.size m news u2 us) (ld:cap<n+m) (a:Option Addr) (Mg:cs=old++news)
 (tq:cJ E w.heap old olds.toList) (ho1: ∀x∈olds.toList,x.oneCell'=true) (hos:olds.size=n*ie.size)
 (hold: ∀w2:World,w2.heap=w.heap->(Builtin.firstCells ie.size n (.slice a n cap)).run P w2= .ok olds w2) (h:nT ie e n m cs H=some (v,H')) :
 ∃x w' E',(Builtin.append_ #[t,t2] ty #[.slice a n cap,u2]).run P w= .ok x w'/\fj E H w E' H' w'/\bS E' H' w'/\VR E' w'.heap v x:=by
 subst Mg;unfold nT at h;split at h
 ·rename_i hbound;simp only [an,aq] at h;obtain⟨rfl,rfl⟩:=h;obtain⟨inf,d,z,U,Z,h3,h4,h5,h6,h7,h8⟩:=va.all;have hz:=fh (E:=E) (h:=w.heap) h4;have hzs:z.cells.size=ie.size:=by have:=hz.1.length; simp only [bo] at this; omega
  have UA:=grownCap_ge w (n+m) cap e;have OS:=src.size
  obtain⟨s1,s2⟩:=jy r (olds++us++Builtin.zeroCells z.cells (grownCap w (n+m) cap e-(n+m))) 0 0 e (tq.append src.Vk)
   (by intro x hx; rcases amt.1 hx with hx|hx; exact ho1 x hx; exact src.sQ x hx)
   (by
    intro i x hx;have hi:=(bk.1 hx).1;rw [aoh (by simpa using hi)];rw [<- amp,Array.toList_append]
    exact hx)
   J (w':=w.drew.alloc (.cells (olds++us++Builtin.zeroCells z.cells (grownCap w (n+m) cap e-(n+m))) e)) rfl ⟨rfl,rfl,rfl⟩
  refine⟨_,_,_,M6 (s:=ie.size) ht yQ jK U h5 h3 (by rw [h6]; exact ss) src ld (by rw [h6]; exact hbound) a rfl hold,s1,s2,?_⟩;simp only [VR];refine⟨En.gV _ _ _ _,_,_,rfl,UA,?_⟩;simp only [eZ,En.ext_θ_new,En.ext_κ_new];left;refine⟨trivial,?_⟩;simp only [Array.size_append,size_zeroCells,hos,OS,hzs,<- amx]
  grind
 grind
set_option maxHeartbeats 800000 in
theorem wi [bJ] {t t2 ty:Nat} {H H':Hp} (r:bS E H w) {ie:TI} {e m:Nat} {news:List Y} {x v:Y} {d2:TypeDesc} {u u2:Value} {us:Array Value} (va:nC P e ie)
 (ht:P.underlying t=some (.slice e)) (yQ:P.underlying t2=some d2) (jK: ∀k,d2≠.int k) (xL:ie.size≠0) (ss:ie.bytes≠0) (tp:ie.zero.length=ie.size)
 (src:Src P E w ie.size m news u2 us) (hx:VR E w.heap x u) (h:qH ie e m news x H=some (v,H')) :
 ∃y w' E',(Builtin.append_ #[t,t2] ty #[u,u2]).run P w= .ok y w'/\fj E H w E' H' w'/\bS E' H' w'/\VR E' w'.heap v y:=by
 obtain⟨inf,d,z,U,Z,h3,h4,h5,h6,h7,h8⟩:=va.all;have mh:0<ie.size:=J
 have hnl:=src.Vk.length;have JE:=src.size;simp only [bo] at hnl;unfold qH at h;split at h
 ·
  simp only [VR] at hx;subst hx;split at h
  ·rename_i hm;subst hm;simp only [an,aq] at h;obtain⟨rfl,rfl⟩:=h;exact⟨_,w,E,lA (s:=ie.size) ht yQ jK U h5 src (ay _) (by simp only),fj.refl _ _ _,r,by simp [VR]⟩
  ·rename_i hm;exact pL (cap:=0) r va ht yQ jK ss tp src J none (old:=[]) (olds:=#[]) ad (by simp [cJ]) ad ad (fun w2 _=>by simp [Builtin.firstCells]) h
 ·
  rename_i id o len c;have hx0:=hx;simp only [VR] at hx;obtain⟨hid,a,cap,rfl,hlen,hc⟩:=hx;have iX:cap=c:=by simp only [eZ] at hc; exact hc.1
  subst iX;split at h
  ·rename_i ld;split at h
   ·rename_i cs e' W;split at h
    ·rename_i mw hs;simp only [an,aq] at h;obtain⟨rfl,rfl⟩:=h;obtain⟨w',g1,g2,g3⟩:=mz (P:=P) r W hs src.Vk src.sQ
     have Dp:(storeCells (a.add (len*ie.size)) us.toList).run P w= .ok () w':=by
      rcases tC hc with ha|ha
      ·rw [ha,fw,amq]; exact g1
      ·obtain rfl:m=0:=J
       have lg:us.toList= []:=amv (by rw [bo,JE,ams]);rw [lg] at g1 ⊢;exact g1
     refine⟨_,w',E,lA (s:=ie.size) ht yQ jK U h5 src ld Dp,g2,g3,?_⟩;simp only [VR];refine⟨hid,a,cap,rfl,ld,?_⟩;simp only [eZ] at hc ⊢;exact hc
    ·simp at h
   ·simp at h
  ·rename_i ld;split at h
   ·rename_i old hold;obtain⟨ols,f1,f2,f3,f4⟩:=vo (P:=P) r hid hc hlen hold
    exact pL (cap:=cap) r va ht yQ jK ss tp src J (some a) (old:=old) (olds:=ols.toArray) rfl (by simpa using f2) (by simpa using f3) (by simpa using f1)
     (fun w2 hw=>by simp only [Builtin.firstCells]; exact f4 w2 hw) h
   ·simp at h
 ·
  rename_i id o len es;split at h
  ·rename_i l8;subst l8;simp only [VR] at hx;obtain⟨hid,a,cap,rfl,hlen,hc⟩:=hx;split at h
   ·rename_i cs e' W;obtain⟨arr,lo,hi,cus,b1,b2,b3,b4,b5,b6,b7⟩:=(r.live id _ W).2.1;split at h
    ·rename_i hle;split at h
     ·rename_i mw hs;simp only [an,aq] at h;obtain⟨rfl,rfl⟩:=h;obtain⟨w',g1,g2,g3⟩:=mz (P:=P) r W hs src.Vk src.sQ
      have ld:len+m<=cap:=by
       simp only [eZ] at hc;rcases hc with ⟨_,hc⟩|⟨rfl,rfl,hc⟩
       ·have:(len+m)*ie.size<=cap*ie.size:=J
        exact anT this mh
       ·have:(0+m)*ie.size=0:=J
        rcases Nat.mul_eq_zero.1 this with hh|hh<;>omega
      have Dp:(storeCells (a.add (len*ie.size)) us.toList).run P w= .ok () w':=by
       rcases tC hc with ha|ha
       ·rw [ha,fw,amq]; exact g1
       ·obtain rfl:m=0:=J
        have lg:us.toList= []:=amv (by rw [bo,JE,ams]);rw [lg] at g1 ⊢;exact g1
      refine⟨_,w',E,lA (s:=ie.size) ht yQ jK U h5 src ld Dp,g2,g3,?_⟩;simp only [VR];refine⟨hid,a,cap,rfl,ld,?_⟩;simp only [eZ] at hc ⊢;rcases hc with hc|⟨rfl,rfl,hc⟩
      ·exact .inl hc
      ·exact .inr ⟨rfl,J,hc⟩
     ·simp at h
    ·rename_i akH;split at h
     ·rename_i YF;obtain⟨YF,rfl⟩:=YF;split at h
      ·rename_i old hd;obtain⟨d1,d2',d3⟩:=b2.eS hd;have Dr:=b2.length
       have hm0:m≠0:=by intro hm;subst hm;rw [bw] at akH;omega
       by_cases ld:len+m<=cap
       ·
        have afc:a=⟨(E.θ id).1,(E.θ id).2+o,none⟩/\o+cap*ie.size=E.κ id:=by
         simp only [eZ] at hc;rcases hc with hc|hc
         ·exact hc
         ·omega
        obtain⟨rfl,ame⟩:=afc;unfold nT at h;split at h
        ·simp only [an,aq] at h;obtain⟨rfl,rfl⟩:=h;have RQ:len*ie.size+m*ie.size<=cap*ie.size:=by rw [<- amx]; exact amO _ ld
         have hul:us.toList.length=m*ie.size:=by simpa using JE
         obtain⟨w',KG,e1,e2,e3,e4,e5,e6,e7⟩:=nt (P:=P) (E.θ id).1 ((E.θ id).2+(o+len*ie.size)) e' lo hi us.toList 0 arr w b1 b6 J src.sQ
         have Dp:(storeCells ((⟨(E.θ id).1,(E.θ id).2+o,none⟩ : Addr).add (len*ie.size)) us.toList).run P w= .ok () w':=by rw [fw,amq]; exact e1
         have kp:fU E w.heap (E.ext H.fresh ((E.θ id).1,(E.θ id).2+o) (cap*ie.size)) w'.heap:=
          ⟨rfl,fun _ hh=> .inr hh,fun _ hh=>En.ext_θ E _ _ _ (r.sv hh),fun _ hh=>En.ext_κ E _ _ _ (r.sv hh),fun _ hh=>hh,(mQ r W e4).Cb⟩
         have Cr:=Ot r W (.cells (old++news) e') o (cap*ie.size) e3 e4 e2 (by
          simp only [OR,En.ext_θ_new,En.ext_κ_new];refine⟨KG,lo,hi,cus.drop o++us.toList,e5,cJ.cD kp _ _ (d1.append src.Vk),?_,?_,J,by rw [e6]; exact b6,?_⟩
          ·intro i y hy;rw [e7];have hdl:(cus.drop o).length=len*ie.size:=by rw [br]; omega
           rw [anP] at hy;split at hy
           ·rename_i hi';rw [ah J];rw [amV] at hy;rw [amq];exact b3 _ _ hy
           ·rename_i hi';have JF:=(bk.1 hy).1;rw [ak J];rw [show (E.θ id).2+o+i-((E.θ id).2+(o+len*ie.size)+0)=i-(cus.drop o).length from by omega];exact hy
          ·rw [a8,d3]; omega
          ·intro y hy;rcases amt.1 hy with hy|hy
           ·exact b7 y (amn hy)
           ·exact src.sQ y hy)
         refine⟨_,w',_,lA (s:=ie.size) ht yQ jK U h5 src ld Dp,Cr.1,Cr.2,?_⟩;simp only [VR,show (H.drop id).fresh=H.fresh from rfl];refine⟨En.gV _ _ _ _,_,_,rfl,ld,?_⟩;simp only [eZ,En.ext_θ_new,En.ext_κ_new];left;exact⟨ad,J⟩
        ·simp at h
       ·
        have aiw:nu H (.ptr id o) (len*ie.size)=some old:=by
         simp only [nu,W,hd];have:len*ie.size=old.length:=J
         rw [this];clear h hd d1 d3 this
         induction old with
         |nil=>rfl
         |cons y ys ih=>simp [As.ja,ih]
        obtain⟨ols,f1,f2,f3,f4⟩:=vo (P:=P) r hid hc hlen aiw;obtain⟨q1,q2⟩:=xb r id;have ajS:Src P E w ie.size m news u2 us:=src
        obtain⟨y,w',E',p1,p2,p3,p4⟩:=pL (t:=t) (t2:=t2) (ty:=ty) (cap:=cap) q2 va ht yQ jK ss tp ajS J (some a) (old:=old) (olds:=ols.toArray) rfl (by simpa using f2) (by simpa using f3) (by simpa using f1)
         (fun w2 hw=>by simp only [Builtin.firstCells]; exact f4 w2 hw) h
        exact⟨y,w',E',p1,q1.trans p2,p3,p4⟩
      ·simp at h
     ·simp at h
   ·simp at h
  ·simp at h
 ·
  rename_i cs n full;have hx0:=hx;simp only [VR] at hx;obtain⟨b,o,cap,cus,rfl,hn,hf,g4,g5,g6,g7⟩:=hx;split at h
  ·rename_i hm;subst hm;simp only [an,aq] at h;obtain⟨rfl,rfl⟩:=h;have lg:us.toList= []:=amv (by rw [bo,JE,ams]);exact⟨_,w,E,lA (s:=ie.size) ht yQ jK U h5 src J (by simp only [lg]; rfl),fj.refl _ _ _,r,hx0⟩
  ·rename_i hm;split at h
   ·rename_i HP;have iX:=hf HP;subst iX;split at h
    ·rename_i old hold;obtain⟨j1,j2⟩:=g5.ja hold;have Dr:=g5.length;have htl:(cus.take (cap*ie.size)).length=cap*ie.size:=by rw [bh]; omega
     exact pL (cap:=cap) r va ht yQ jK ss tp src J (some ⟨b,o,none⟩) (old:=old) (olds:=(cus.take (cap*ie.size)).toArray) rfl (by simpa using j1)
      (fun x hx=>g7 x (amo (by simpa using hx))) (by simpa using htl)
      (fun w2 hw=>by simp only [Builtin.firstCells]; exact (g6.take _).Rq htl w2 hw) h
    ·simp at h
   ·simp at h
 ·simp at h
theorem ME [bJ] {tt:TT} (cV:eJ P tt) {H H':Hp} (r:bS E H w) {t t2 ty:Nat} {x y v:Y} {u u2:Value} (hx:VR E w.heap x u) (hy:VR E w.heap y u2) (h:Fs tt t t2 x y H=some (v,H')) :
 ∃z w' E',(Builtin.append_ #[t,t2] ty #[u,u2]).run P w= .ok z w'/\fj E H w E' H' w'/\bS E' H' w'/\VR E' w'.heap v z:=by
 unfold Fs at h;split at h
 ·rename_i ti gp;split at h
  ·rename_i e hk;split at h
   ·rename_i ie lG;split at h
    ·grind
    ·rename_i QG Yq;obtain⟨d2,jK,Cu⟩:=sW (cV t2 QG Yq);split at h
     ·grind
     ·rename_i k2 gB;split at h
      ·grind
      ·rename_i jV;simp only [not_or,Classical.not_not] at jV;split at h
       ·grind
       ·rename_i m news OS;obtain⟨us,src⟩:=qV (P:=P) r hy OS;refine wi r (cV e ie lG) (fC (cV t ti gp) hk) jK ?_ jV.1 jV.2.1 jV.2.2 src hx h;intro k hd;subst hd;cases xu:QG.kind<;>rw [xu] at Cu<;>simp only [II] at Cu
        grind
   grind
  grind
 grind
end
section
variable {P:Program} {E:En} {w:World}
theorem Pu [bJ] {tt:TT} (cV:eJ P tt) {H H':Hp} (r:bS E H w) {t ty:Nat} {x:Y} {u:Value} (hx:VR E w.heap x u) (h:Kd tt t x H=some H') :
 ∃w',(Builtin.clear_ #[t] ty #[u]).run P w= .ok (.tuple #[]) w'/\fj E H w E H' w'/\bS E H' w':=by
 unfold Kd at h;split at h
 ·rename_i ti gp;split at h
  ·rename_i e hk;have hu:=fC (cV t ti gp) hk;split at h
   ·rename_i ie lG;obtain⟨inf,d,z,U,Z,h3,h4,h5,h6,h7,h8⟩:=(cV e ie lG).all;have hz:=fh (E:=E) (h:=w.heap) h4;split at h
    ·simp at h;subst h;simp only [VR] at hx;subst hx;exact⟨w,by simp [Builtin.clear_,run_underlying hu],fj.refl _ _ _,r⟩
    ·simp at h;subst h;simp only [VR] at hx;obtain⟨⟨x,rfl⟩,_⟩:=hx;exact⟨w,by cases x<;>simp [Builtin.clear_,run_underlying hu],fj.refl _ _ _,r⟩
    ·rename_i id o len c;simp only [VR] at hx;obtain⟨hid,a,cap,rfl,hlen,hc⟩:=hx;split at h
     ·simp at h;subst h;exact⟨w,by simp [Builtin.clear_,run_underlying hu],fj.refl _ _ _,r⟩
     ·rename_i hl0;split at h
      ·grind
      ·rename_i gB;split at h
       ·rename_i cs e' W;split at h
        ·rename_i mw hs;simp at h;subst h
         have ha:a=⟨(E.θ id).1,(E.θ id).2+o,none⟩:=by
          grind [tC]
         have ae1:z.cells.toList≠[]:=by
          intro hx;have:=hz.1.length
          grind
         have hzc:(Builtin.zeroCells z.cells len).toList=dZ z.cells.toList len:=ve z.cells ae1 len;obtain⟨w',g1,g2,g3⟩:=mz (P:=P) r W hs (mP hz.1 len) (fun u hu=>hz.2 u (mO hu));refine⟨w',?_,g2,g3⟩;subst ha;obtain⟨l,rfl⟩ : ∃l,len=l+1:=⟨len-1,by have:len≠0:=fun hh=>hl0 hh; omega⟩;simp [Builtin.clear_,run_underlying hu,zeroValue,typeInfo,U,h3,hzc,g1]
        grind
       grind
    grind
   grind
  grind
 grind
theorem Pg [bJ] {tt:TT} (cV:eJ P tt) {H H':Hp} (r:bS E H w) {t:Nat} {x v:Y} {u:Value} (hx:VR E w.heap x u) (h:J3 tt t x H=some (v,H')) :
 ∃y w' E',(Instr.range t u).run P w= .ok y w'/\fj E H w E' H' w'/\bS E' H' w'/\VR E' w'.heap v y:=by
 unfold J3 at h;split at h
 ·rename_i ti gp;split at h
  ·rename_i hk;split at h
   ·rename_i b;simp only [an,aq] at h;obtain⟨rfl,rfl⟩:=h;simp only [VR] at hx;obtain⟨rfl,gu⟩:=hx
    obtain⟨s1,s2⟩:=vz r (.stringIter (dy b) 0) (.kU b 0) 0 (w':=w.iter (dy b) 0) rfl ⟨rfl,rfl,rfl⟩ (by
     simp only [OR,En.ext_θ_new]
     exact⟨World.iter_heap _ _ _,trivial,gu⟩)
    exact⟨_,_,_,run_range_string w t (dy b) (fX (cV t ti gp) hk),s1,s2,Jb r 0 _ 0⟩
   grind
  grind
 grind
theorem UM [bJ] {H H':Hp} (r:bS E H w) {x v:Y} {u:Value} {isS:Bool} (hx:VR E w.heap x u) (h:Pj x isS H=some (v,H')) (ty:Nat) :
 ∃y w',(Instr.next u isS ty).run P w= .ok y w'/\fj E H w E H' w'/\bS E H' w'/\VR E w'.heap v y:=by
 unfold Pj at h;split at h
 ·grind
 ·split at h
  ·rename_i id;split at h
   ·rename_i b p W;obtain⟨g1,g2,g3⟩:=(r.live id _ W).2.1;simp only [VR] at hx;obtain⟨rfl,hid⟩:=hx;rw [g2];have hg:=gU (P:=P) g1 ad;split at h
    ·rename_i hn;simp only [an,aq] at h;obtain⟨rfl,rfl⟩:=h;rw [dC,anj] at hn;have hp: ¬p<(dy b).size:=by rw [lC]; omega
     refine⟨.tuple #[.bool false],w,?_,fj.refl _ _ _,r,?_⟩
     ·simp [Instr.next,hg,hp]
     ·simp only [VR,cJ]; exact⟨[.bool false],rfl,_,_,rfl,by simp [SB.den],rfl⟩
    ·rename_i c hn;split at h
     ·rename_i hc;simp only [an,aq] at h;obtain⟨rfl,rfl⟩:=h;rw [dC] at hn;have hpl:=(bk.1 hn).1;have hp:p<(dy b).size:=by rw [lC]; exact hpl
      have hb:(dy b)[p]'hp=UInt8.ofNat c:=by
       have U:(dy b)[p]?=some ((dy b)[p]'hp):=getElem?_pos (dy b) p hp
       grind [DY]
      have hbn:((dy b)[p]'hp).toNat=c:=by rw [hb]; simp; omega
      have ak2:=decode_ascii (dy b) p hp (by rw [hbn]; exact hc)
      obtain⟨s1,s2⟩:=jc r W (.kU b (p+1)) (.stringIter (dy b) (p+1)) (by
       intro h' hh _
       exact⟨hh,g2,g3⟩)
      refine⟨.tuple #[.bool true,goInt p,.int .i32 ((dy b)[p]'hp).toNat],_,?_,s1,s2,?_⟩
      ·simp only [Instr.next,Sem.run_bind,hg,Result.andThen_ok,hp,if_true,ak2,iF (P:=P) g1 ad,Sem.run_pure]
      ·simp only [VR,cJ,hbn];exact⟨_,rfl,_,_,rfl,by simp [SB.den],_,_,rfl,by simp [V.den,goInt],_,_,rfl,by simp [V.den],rfl⟩
     grind
   grind
  grind
theorem Je {ρ:Nat->Int} {pc:List (SB×Bool)} (hp:ca ρ pc) {c:SB} {b:Bool} (h:c.den ρ=b):ca ρ ((c,b)::pc):=by
 intro d x hm;rcases aF.1 hm with hm|hm
 ·grind
 ·exact hp d x hm
theorem cR {α:Type} {ρ:Nat->Int} {s:St} (hp:ca ρ s.pc) {c:SB} {f:St->Bool->T α} {r:α} (h:(kB s c f).leaf ρ=some r) :
 ∃ew,ca ρ ew/\(f { s with pc:=ew } (c.den ρ)).leaf ρ=some r:=by
 unfold kB at h;split at h
 ·rename_i b hb;exact⟨s.pc,hp,by rw [gW hp hb]; exact h⟩
 ·split at h
  ·rename_i d;simp only [T.leaf] at h;split at h
   ·rename_i hc;exact⟨_,Je hp hc,by simp only [SB.den,hc]; exact h⟩
   ·rename_i hc;exact⟨_,Je hp hc,by simp only [SB.den,hc]; exact h⟩
  ·simp only [T.leaf] at h
   grind [Je]
theorem T.fD {α β:Type} {ρ:Nat->Int} {f:α->T β} {r:β}: ∀{x:T α},(x.bind f).leaf ρ=some r->∃a,x.leaf ρ=some a/\(f a).leaf ρ=some r
 | .fail,h=>by simp [T.bind,T.leaf] at h
 | .ret a,h=> ⟨a,rfl,h⟩
 | .split c x y,h=>by simp only [T.bind,T.leaf] at h ⊢;split at h<;>exact T.fD h
theorem nU {mx:Bool}: ∀{xs:List Y} {a:V} {k:IntKind} {s s':St} {us:List Value} {v:Y},ca E.ρ s.pc->cJ E w.heap xs us->(ue mx xs a k s).leaf E.ρ=some (v,s')->
 s'.h=s.h/\s'.bG=s.bG/\ca E.ρ s'.pc/\∃u,(us.foldlM (if mx then Builtin.max2 else Builtin.min2) (.int k (a.den E.ρ))).run P w= .ok u w/\VR E w.heap v u
 |[],a,k,s,s',us,v,hp,hv,h=>by simp only [ue,T.leaf,an,aq] at h;obtain⟨rfl,rfl⟩:=h;rw [iN] at hv;subst hv;exact⟨rfl,rfl,hp,_,rfl,by simp only [VR]⟩
 |x::xs,a,k,s,s',us,v,hp,hv,h=>by
  rw [bX] at hv;obtain⟨u,vs,rfl,hx,nH⟩:=hv;cases x<;>simp only [ue,T.leaf,reduceCtorEq] at h;rename_i k' b;simp only [VR] at hx;subst hx;obtain⟨ew,fQ,U⟩:=cR hp h;cases mx
  ·simp only [aC,if_false,eg] at U ⊢;by_cases hc:b.den E.ρ<a.den E.ρ
   ·simp only [hc,decide_true,if_true] at U;obtain⟨q1,q2,q3,u,q4,q5⟩:=nU fQ nH U;refine⟨q1,q2,q3,u,?_,q5⟩;simp only [anA,Sem.run_bind,Builtin.min2,Sem.run_pure,Result.andThen_ok,hc,if_true]
    grind
   ·simp only [hc,decide_false,aC,if_false] at U;obtain⟨q1,q2,q3,u,q4,q5⟩:=nU fQ nH U;refine⟨q1,q2,q3,u,?_,q5⟩;simp only [anA,Sem.run_bind,Builtin.min2,Sem.run_pure,Result.andThen_ok,hc,if_false]
    grind
  ·simp only [if_true,eg] at U ⊢;by_cases hc:a.den E.ρ<b.den E.ρ
   ·simp only [hc,decide_true,if_true] at U;obtain⟨q1,q2,q3,u,q4,q5⟩:=nU fQ nH U;refine⟨q1,q2,q3,u,?_,q5⟩;simp only [anA,Sem.run_bind,Builtin.max2,Sem.run_pure,Result.andThen_ok,gt_iff_lt,hc,if_true]
    grind
   ·simp only [hc,decide_false,aC,if_false] at U;obtain⟨q1,q2,q3,u,q4,q5⟩:=nU fQ nH U;refine⟨q1,q2,q3,u,?_,q5⟩;simp only [anA,Sem.run_bind,Builtin.max2,Sem.run_pure,Result.andThen_ok,gt_iff_lt,hc,if_false]
    grind
end
section
variable {P:Program} {E:En} {w:World}
theorem TW (ρ:Nat->Int) (a b:SB):(Xv a b).den ρ=(a.den ρ&&b.den ρ):=by unfold Xv;split<;>simp [SB.den]
theorem US {i:TI} {t:Nat} (gp:nC P t i) {x y:Y} {u v:Value} (hx:VR E w.heap x u) (hy:VR E w.heap y v) {c:SB} (h:Py i.kind x y=some c) (d:Nat) :
 (Op.equalIn (d+1) t u v).run P w= .ok (c.den E.ρ) w/\u.oneCell'=true/\v.oneCell'=true/\i.agg=false:=by
 unfold Py at h;split at h
 ·rename_i k hk;split at h
  ·split at h
   ·rename_i xu;subst xu;simp at h;subst h;simp only [VR] at hx hy;subst hx hy;exact⟨by rw [run_equalIn_int w d t _ _ _ _ (tx gp hk),gY],rfl,rfl,by simp [TI.agg,TK.agg,hk]⟩
   grind
  grind
 ·rename_i hk;split at h
  ·simp at h;subst h;simp only [VR] at hx hy;obtain⟨rfl,hx⟩:=hx;obtain⟨rfl,hy⟩:=hy;exact⟨by rw [run_equalIn_string w d t _ _ (fX gp hk),QN hx hy]; rfl,rfl,rfl,by simp [TI.agg,TK.agg,hk]⟩
  ·obtain⟨a,b,rfl,rfl,hd⟩:=DX hx hy h;exact⟨by rw [run_equalIn_string w d t _ _ (fX gp hk),yc,hd],rfl,rfl,by simp [TI.agg,TK.agg,hk]⟩
 ·rename_i hk;split at h
  ·simp only [VR] at hx hy;subst hx hy;exact⟨by rw [run_equalIn_bool' w d t _ _ (La gp hk),CF h],rfl,rfl,by simp [TI.agg,TK.agg,hk]⟩
  grind
 grind
theorem Sq {tt:TT} (cV:eJ P tt) {xs ys:List Y} {us vs:List Value} (hx:cJ E w.heap xs us) (hy:cJ E w.heap ys vs) (d:Nat): ∀{xx:List Field} {l:List (Nat×Nat×Nat)} {c:SB},
 (xx.mapM fun f=>(P.info? f.type).map fun i=>(f.offset,f.type,i.size))=some l->(∀f∈xx,f.name≠ "_")->Zd tt xs ys l=some c->
 (Op.eqFields (d+1) us.toArray vs.toArray xx).run P w= .ok (c.den E.ρ) w
 |[],l,c,hm,_,h=>by simp at hm;subst hm;simp [Zd] at h;subst h;simp [Op.eqFields,SB.den]
 |f::xx,l,c,hm,hn,h=>by
  simp only [anh,anO,anv] at hm;obtain⟨p,U,ls,Z,h3⟩:=hm;simp only [pure,an] at h3;subst h3;rw [aZ] at U;obtain⟨inf,amg,rfl⟩:=U;simp only [Zd] at h;split at h
  ·grind
  ·rename_i i hi;split at h
   ·rename_i x y hxn hyn;split at h
    ·grind
    ·rename_i c1 HQ;split at h
     ·grind
     ·rename_i c2 KV;simp at h;subst h;obtain⟨u,hu1,hu2⟩:=hx.nth hxn;obtain⟨v,hv1,hv2⟩:=hy.nth hyn;obtain⟨e1,e2,e3,e4⟩:=US (w:=w) (cV f.type i hi) hu2 hv2 HQ d;have ih:=Sq cV hx hy d Z (fun g hg=>hn g (by simp [hg])) KV;have p1:(part f.type us.toArray f.offset).run P w= .ok u w:=by simp [part,pH (cV f.type i hi),e4,hu1]
      have p2:(part f.type vs.toArray f.offset).run P w= .ok v w:=by simp [part,pH (cV f.type i hi),e4,hv1]
      simp only [Op.eqFields];rw [ak (hn f ad)];simp only [Sem.run_bind,p1,p2,e1,Result.andThen_ok,TW];cases RW:c1.den E.ρ
      ·simp
      grind
   grind
theorem Fp {tt:TT} (cV:eJ P tt) {t:Nat} {xs ys:List Y} {us vs:List Value} {c:SB} (hx:cJ E w.heap xs us) (hy:cJ E w.heap ys vs) (h:Dx tt t xs ys=some c) (op:BinOp) (x y:Operand) :
 (eqGuard op t x y (.agg us.toArray) (.agg vs.toArray)).run P w= .ok () w/\(binOp .eql t (.agg us.toArray) (.agg vs.toArray)).run P w= .ok (.bool (c.den E.ρ)) w/\(binOp .neq t (.agg us.toArray) (.agg vs.toArray)).run P w= .ok (.bool (!(c.den E.ρ))) w:=by
 unfold Dx at h;split at h
 ·grind
 ·rename_i i hi;split at h
  ·rename_i fs hk;split at h
   ·rename_i hq;have gp:=cV t i hi;have he:=gp.eqs hq;obtain⟨xx,hu,hm⟩:=yb gp hk;unfold Zc at he;rw [hu] at he;simp only [au,amJ,bj,bne_iff_ne,ne_eq] at he;obtain⟨⟨U,Z⟩,h3⟩:=he;have hf:P.fieldsOf t=xx:=by simp [Program.fieldsOf,hu]
    have h10:(10000:Nat)=9998+1+1:=rfl
    have key:(Op.equalIn 10000 t (.agg us.toArray) (.agg vs.toArray)).run P w= .ok (c.den E.ρ) w:=by rw [h10];generalize (9998:Nat)=n;rw [run_equalIn_struct w (n+1) t _ _ (by rw [hf]; exact hu) U,hf];exact Sq cV hx hy n hm (fun f hf=>(h3 f hf).1) h
    refine⟨run_eqGuard_agg w op t x y _ _ Z,?_,?_⟩
    ·rw [run_eql_struct,key]; rfl
    ·rw [run_neq_struct,key]; rfl
   grind
  grind
def NA [bJ] (E:En) (s:St) (w:World) (v:Y) (s':St) (u:Value) (w':World):Prop:= ∃E',fj E s.h w E' s'.h w'/\bS E' s'.h w'/\VR E' w'.heap v u
def lN [bJ] (P:Program) (E:En) (s:St) (o:Oper) (a:Act) (w:World) (v:Y) (s':St):Prop:=
 s'.bG=s.bG/\ca E.ρ s'.pc/\pS P o a w (NA E s w v s')
theorem bE {α:Type} {ρ:Nat->Int} {a b:α} (h:(T.ret a).leaf ρ=some b):a=b:=by simpa [T.leaf] using h
theorem ik {s:St} {a:Act} {x:Operand} {f:Y->T (Y×St)} {r:Y×St} (sr:SR E w.heap s.bG a) (h:(AS s x f).leaf E.ρ=some r): ∃v,VR E w.heap v (a.eval x)/\(f v).leaf E.ρ=some r:=by
 unfold AS at h;split at h
 ·rename_i v hv; exact⟨v,gC sr hv,h⟩
 ·simp [T.leaf] at h
theorem iL {s s':St} {v:Y} {r:Option Y} {ρ:Nat->Int} (h:(qQ s r).leaf ρ=some (v,s')):r=some v/\s'=s:=by
 unfold qQ at h;split at h
 ·have:=bE h; simp only [aq] at this; exact⟨by rw [this.1],this.2.symm⟩
 ·simp [T.leaf] at h
theorem zq {s s':St} {v:Y} {r:Option Hp} {ρ:Nat->Int} (h:(Oo s r).leaf ρ=some (v,s')): ∃H,r=some H/\v=Y.undef/\s'= { s with h:=H }:=by
 unfold Oo at h;split at h
 ·rename_i H; have:=bE h; simp only [aq] at this; exact⟨H,rfl,this.1.symm,this.2.symm⟩
 ·simp [T.leaf] at h
theorem pZ {s s':St} {v:Y} {r:Option (Y×Hp)} {ρ:Nat->Int} (h:(Cc s r).leaf ρ=some (v,s')): ∃H,r=some (v,H)/\s'= { s with h:=H }:=by
 unfold Cc at h;split at h
 ·rename_i x H; have:=bE h; simp only [aq] at this; obtain⟨rfl,rfl⟩:=this; exact⟨H,rfl,rfl⟩
 ·simp [T.leaf] at h
theorem mc {h:Array Obj}:VR E h Y.undef undef:=by simp only [Y.undef,VR,cJ]; exact⟨[],rfl,rfl⟩
variable {s s':St} {o:Oper} {a:Act} {v:Y}
theorem lN.pure [bJ] (hp:ca E.ρ s.pc) (r:bS E s.h w) {u:Value} (h:(execOp a.eval o).run P w= .ok (.value u) w) (hv:VR E w.heap v u):lN P E s o a w v s:=
 ⟨rfl,hp,pS.value h ⟨E,fj.refl _ _ _,r,hv⟩⟩
theorem lN.heap [bJ] {H':Hp} {E':En} {w':World} (hp:ca E.ρ s.pc) {u:Value} (h:(execOp a.eval o).run P w= .ok (.value u) w') (U:fj E s.h w E' H' w') (Z:bS E' H' w') (hv:VR E' w'.heap v u) :
 lN P E s o a w v { s with h:=H' }:=
 ⟨rfl,hp,pS.value h ⟨E',U,Z,hv⟩⟩
end
theorem yI {α:Type} {ρ:Nat->Int} {kk:TK} {k:Y} {r:α} {f:St->T α}: ∀{es:List (Y×Y×Nat)} {s:St},ca ρ s.pc->(uC kk k es s f).leaf ρ=some r->∃ew,ca ρ ew/\(f { s with pc:=ew }).leaf ρ=some r
 |[],s,hp,h=> ⟨s.pc,hp,h⟩
 |(k',v,b)::es,s,hp,h=>by
  simp only [uC] at h;split at h
  ·split at h
   ·exact⟨s.pc,hp,h⟩
   ·exact yI hp h
  ·split at h
   ·obtain⟨fW,fL,U⟩:=cR hp h;split at U
    ·grind
    ·obtain⟨kz,kg,Z⟩:=yI (s:={ s with pc:=fW }) fL U
     grind
   ·exact⟨s.pc,hp,h⟩
theorem qT {α:Type} {ρ:Nat->Int} {tt:TT} {t:Nat} {m k:Y} {r:α} {f:St->T α} {s:St} (hp:ca ρ s.pc) (h:(oo tt t m k s f).leaf ρ=some r): ∃ew,ca ρ ew/\(f { s with pc:=ew }).leaf ρ=some r:=by
 unfold oo at h;split at h
 ·split at h
  ·split at h
   ·split at h
    ·exact yI hp h
    ·exact⟨s.pc,hp,h⟩
   ·exact⟨s.pc,hp,h⟩
  ·exact⟨s.pc,hp,h⟩
 ·exact⟨s.pc,hp,h⟩
theorem MH {ρ:Nat->Int} {k:IntKind} {e:V} {f:Y->St->T (Y×St)} {r:Y×St}: ∀(n j:Nat) {s:St},ca ρ s.pc->(j:Int)<=e.den ρ->e.den ρ<(j:Int)+n->(MI k e f n j s).leaf ρ=some r->
 ∃(i:Nat) (ew:List (SB×Bool)),ca ρ ew/\e.den ρ=(i:Int)/\(f (.int k (.lit (Int.ofNat i))) { s with pc:=ew }).leaf ρ=some r
 |0,j,s,_,_,_,h=>by simp [MI,T.leaf] at h
 |n+1,j,s,hp,U,Z,h=>by
  simp only [MI] at h;split at h
  ·exact⟨j,s.pc,hp,J,h⟩
  ·obtain⟨fW,fL,h3⟩:=cR hp h;rw [gY] at h3;split at h3
   ·rename_i he;simp only [V.den,beq_iff_eq] at he
    grind
   ·rename_i he;simp only [V.den,beq_eq_false_iff_ne,ne_eq] at he;have hj:(Int.ofNat j)=(j:Int):=rfl;rw [hj] at he;obtain⟨i,kz,kg,q1,q2⟩:=MH n (j+1) (s:={ s with pc:=fW }) fL (by push_cast; omega) (by push_cast at Z ⊢; omega) h3
    grind
theorem n8 {α:Type} {ρ:Nat->Int} {s:St} (hp:ca ρ s.pc) {i n:V} {f:St->T α} {r:α} (h:(zy s i n f).leaf ρ=some r) :
 ∃ew,ca ρ ew/\0<=i.den ρ/\i.den ρ<n.den ρ/\(f { s with pc:=ew }).leaf ρ=some r:=by
 unfold zy at h;obtain⟨fW,fL,U⟩:=cR hp h;split at U
 ·simp [T.leaf] at U
 ·rename_i e1;rw [eg,decide_eq_false_iff_not] at e1;obtain⟨kz,kg,Z⟩:=cR (s:={ s with pc:=fW }) fL U;split at Z
  ·rename_i e2;rw [eg,decide_eq_true_eq] at e2;simp only [V.den,amZ] at e1
   grind
  ·simp [T.leaf] at Z
theorem AN {E:En} {h0:Array Obj} {tt:TT} {t:Nat} {x ix:Y} {ui:Value} {f:Y->St->T (Y×St)} {r:Y×St} {s:St} (hp:ca E.ρ s.pc) (zV:VR E h0 ix ui) (h:(Iy tt t x ix s f).leaf E.ρ=some r) :
 ∃ix' ew,ca E.ρ ew/\VR E h0 ix' ui/\(f ix' { s with pc:=ew }).leaf E.ρ=some r:=by
 unfold Iy at h;split at h
 ·exact⟨ix,s.pc,hp,zV,h⟩
 ·split at h
  ·rename_i k e _;split at h
   ·rename_i n hn;obtain⟨fW,fL,U,Z,h3⟩:=n8 hp h;simp only [V.den] at Z;obtain⟨i,kz,kg,q1,q2⟩:=MH n 0 (s:={ s with pc:=fW }) fL (by simpa using U) (by simpa using Z) h3;refine⟨_,kz,kg,?_,q2⟩;simp only [VR,V.den] at zV ⊢
    grind
   ·simp [T.leaf] at h
  ·simp [T.leaf] at h
theorem Hs {ro:Nat->Prop} {h:Array Obj} {t:Nat} {d:D} {v:Value} (r:Rd ro h (.sl t) d v):(0<d.l.length->∃a n cap,v= .slice (some a) n cap)/\(d= .i 1->v= .slice none 0 0)/\(d= .i 2->∃a n cap,v= .slice (some a) n cap):=by
 generalize hc:CK.sl t=c at r
 cases r with
 |int k n=>simp at hc
 |bool b=>simp at hc
 |str s=>simp at hc
 |nil t=>exact⟨by simp [D.l],fun _=>rfl,ad⟩
 |wO t a cap=>exact⟨by simp [D.l],ad,fun _=> ⟨a,0,cap,rfl⟩⟩
 |one t c b o cap ds f hr eP hb U Z=>exact⟨fun _=> ⟨_,_,_,rfl⟩,fun q=>by cases ds<;>simp [dL] at q,fun q=>by cases ds<;>simp [dL] at q⟩
 |many t cs b o cap rows f hr eP hb W U Z=>exact⟨fun _=> ⟨_,_,_,rfl⟩,fun q=>by cases rows<;>simp [dL] at q,fun q=>by cases rows<;>simp [dL] at q⟩
theorem Jj {P:Program} {E:En} {w:World} {tt:TT} (cV:eJ P tt) {t e:Nat} {ti:TI} (gp:tt t=some ti) (hk:ti.kind= .slice e) {u:Value} {b:Bool} (hu:(b=true/\u= .slice none 0 0)\/(b=false/\∃a n cap,u= .slice (some a) n cap)) {s s':St} {op:BinOp} {v:Y} {ρ:Nat->Int}
 (h:(XX s op b).leaf ρ=some (v,s')):s'=s/\∃y,(binOp op t u (.slice none 0 0)).run P w= .ok y w/\VR E w.heap v y/\(∀cs ds,¬(u= .agg cs/\(Value.slice none 0 0)= .agg ds))/\¬(u= .nilIface/\(Value.slice none 0 0)= .nilIface):=by
 obtain⟨d,U,Z⟩:=sW (cV t ti gp);rw [hk] at Z
 have he:(Op.equal t u (.slice none 0 0)).run P w= .ok b w:=by have hm:Op.equal t u (.slice none 0 0)=Op.equalIn (9999+1) t u (.slice none 0 0):=rfl;rw [hm];generalize (9999:Nat)=n;cases d<;>simp only [II] at Z;rcases hu with ⟨rfl,rfl⟩|⟨rfl,a,m,cap,rfl⟩ <;>simp [Op.equalIn,zm U]
 have JE:(∀k n,u≠.int k n)/\(∀s,u≠.string s)/\(∀k n,u≠.float k n)/\(∀k n m,u≠.complex k n m):=by
  grind
 obtain⟨q1,q2⟩:=binOp_eql he JE.1 JE.2.1 JE.2.2.1 JE.2.2.2;unfold XX at h;split at h
 ·simp only [T.leaf,an,aq] at h;obtain⟨rfl,rfl⟩:=h;exact⟨rfl,_,q1,by simp only [VR,SB.den],ad,ad⟩
 ·simp only [T.leaf,an,aq] at h;obtain⟨rfl,rfl⟩:=h;exact⟨rfl,_,q2,by simp only [VR,SB.den],ad,ad⟩
 ·simp [T.leaf] at h
theorem aab {P:Program} {E:En} {w:World} {tt:TT} (cV:eJ P tt) {t:Nat} {a b:Y} {e:V} (hn:OC tt t a b=some e) {u u':Value} (ha:VR E w.heap a u) (hb:VR E w.heap b u') {s s':St} (hp:ca E.ρ s.pc) {op:BinOp} {v:Y} (h:(aeK s e op).leaf E.ρ=some (v,s')) :
 s'.bG=s.bG/\s'.h=s.h/\ca E.ρ s'.pc/\∃y,(binOp op t u u').run P w= .ok y w/\VR E w.heap v y/\(∀cs ds,¬(u= .agg cs/\u'= .agg ds))/\¬(u= .nilIface/\u'= .nilIface):=by
 unfold OC at hn;split at hn
 ·split at hn
  ·split at hn
   ·rename_i ti gp;split at hn
    ·rename_i el hk;simp only [an] at hn;subst hn;simp only [VR] at ha hb;subst hb;obtain⟨k1,k2,k3⟩:=Hs ha;unfold aeK at h;obtain⟨fW,fL,U⟩:=cR hp h;split at U
     ·rename_i t1;rw [eg,decide_eq_true_eq,cL] at t1;simp only [V.den] at t1;obtain⟨rfl,q⟩:=Jj (P:=P) (E:=E) (w:=w) cV gp hk (.inr ⟨rfl,k1 J⟩) U
      grind
     ·obtain⟨kz,kg,Z⟩:=cR (s:={ s with pc:=fW }) fL U;split at Z
      ·rename_i t2;rw [iZ,mA,beq_iff_eq] at t2;simp only [V.den] at t2;obtain⟨rfl,q⟩:=Jj (P:=P) (E:=E) (w:=w) cV gp hk (.inl ⟨rfl,k2 (fg t2)⟩) Z
       grind
      ·obtain⟨Vn,JC,h3⟩:=cR (s:={ s with pc:=kz }) kg Z;split at h3
       ·rename_i t3;rw [iZ,mA,beq_iff_eq] at t3;simp only [V.den] at t3;obtain⟨rfl,q⟩:=Jj (P:=P) (E:=E) (w:=w) cV gp hk (.inr ⟨rfl,k3 (fg t3)⟩) h3
        grind
       ·simp [T.leaf] at h3
    grind
   grind
  grind
 grind
section
variable {P:Program} {E:En} {w:World}
theorem bS.swap [bJ] {H H2:Hp} (r:bS E H w) {id:Nat} {o o':dX} (W:H.get id=some o) (ho:OR E w.heap id o') (hg:H2.get id=some o') (hs: ∀j,j≠id->H2.get j=H.get j) (hn:H2.next=H.next) (hr:H2.res=H.res):bS E H2 w:=by
 have key: ∀j x,H2.get j=some x->∃y,H.get j=some y:=by
  intro j x hj
  grind
 refine⟨fun i hi=>r.fresh i (by rw [<- hn]; exact hi),fun q hq=>by rw [hn]; exact r.res q (by rw [<- hr]; exact hq),fun j x hj=>?_,fun i j x y hi hj he=>?_,r.sq,r.ku,?_⟩
 ·by_cases h:j=id
  ·subst h;rw [hg] at hj;simp only [an] at hj;subst hj;exact⟨(r.live j o W).1,ho,(r.live j o W).2.2⟩
  ·exact r.live j x (by rw [<- hs j h]; exact hj)
 ·obtain⟨x',hx⟩:=key i x hi;obtain⟨y',hy⟩:=key j y hj;exact r.inj i j x' y' hx hy he
 ·intro b x hb;obtain⟨q1,q2,q3⟩:=r.hid b x hb;refine⟨q1,q2,fun j y hj=>?_⟩;obtain⟨y',hy⟩:=key j y hj;exact q3 j y' hy
structure GH (H H2:Hp):Prop where
 ab: ∀j x,H.get j=some x->∃y,H2.get j=some y
 ba: ∀j x,H2.get j=some x->∃y,H.get j=some y
 next:H2.next=H.next
 res:H2.res=H.res
theorem GH.put {H:Hp} {id:Nat} {o o':dX} (W:H.get id=some o):GH H (H.put id o'):=by
 refine⟨fun j x hj=>?_,fun j x hj=>?_,rfl,rfl⟩
 all_goals grind [Hp.bU]
theorem GH.symm {H H2:Hp} (a:GH H H2):GH H2 H:=⟨a.ba,a.ab,a.next.symm,a.res.symm⟩
theorem fj.left {H H2 H':Hp} {E':En} {w':World} (a:GH H H2) (s:fj E H w E' H' w'):fj E H2 w E' H' w':=
 ⟨s.ρ,s.dm,s.θ,s.κ,s.ro,fun b hb=>(s.sO b hb).imp id (Or.imp (fun⟨i,o,U,Z⟩=>by obtain⟨y,hy⟩:=a.ab i o U; exact⟨i,y,hy,Z⟩) id),by rw [a.next]; exact s.Rj,by rw [a.res]; exact s.rsm,
  fun i hi=>by rw [a.next,a.res]; exact s.D? i hi,s.os,s.tape,s.output,s.size,fun b hb hn=>s.cD b hb fun i o ho=>by obtain⟨y,hy⟩:=a.ab i o ho; exact hn i y hy,
  fun i o ho gu=>by obtain⟨i0,o0,U,Z⟩:=s.own i o ho gu; obtain⟨y,hy⟩:=a.ab i0 o0 U; exact⟨i0,y,hy,Z⟩,s.hd⟩
theorem fj.right {H H' H2:Hp} {E':En} {w':World} (a:GH H' H2) (s:fj E H w E' H' w'):fj E H w E' H2 w':=
 ⟨s.ρ,s.dm,s.θ,s.κ,s.ro,s.sO,by rw [a.next]; exact s.Rj,by rw [a.res]; exact s.rsm,
  fun i hi=>by rw [a.next]; exact s.D? i hi,s.os,s.tape,s.output,s.size,s.cD,
  fun i o ho gu=>by obtain⟨y,hy⟩:=a.ba i o ho; exact s.own i y hy gu,s.hd⟩
theorem ej.of {ro:Nat->Prop} {h:Array Obj} {d:D} (f:Nat->Value): ∀(cs:List CK) (j:Nat),(∀i c,cs[i]?=some c->jQ ro h c (d.hd (j+i)) (f (j+i)))->ej ro h cs j d ((List.range' j cs.length).map f)
 |[],j,_=>by simp [ej]
 |c::cs,j,hh=>by
  simp only [aQ,List.range'_succ,aH,ej];refine⟨f j,_,rfl,by simpa using hh 0 c ad,ej.of f cs (j+1) fun i c' hi=>?_⟩;have:=hh (i+1) c' (by simpa using hi)
  grind
theorem Rd.row {ro:Nat->Prop} {h:Array Obj} {t:Nat} {d:D} {v:Value} (r:Rd ro h (.sl t) d v) {i:Nat} {x:D} (hi:d.l[i]?=some x) :
 ∃b o cap us,v= .slice (some ⟨b,o,none⟩) d.l.length cap/\ro b/\xA ro h (rowOf t) x us/\gk h b (o+i*(rowOf t).es) us:=by
 generalize hc:CK.sl t=c at r
 cases r with
 |int k n=>simp at hc
 |bool b=>simp at hc
 |str s=>simp at hc
 |nil t=>simp [D.l] at hi
 |wO t a cap=>simp [D.l] at hi
 |one t' c b o cap ds f hr eP hb U Z=>
  simp only [CK.sl.injEq] at hc;subst hc;rw [bD] at hi ⊢;refine⟨b,o,cap,[f i],rfl,hb,?_,?_⟩
  ·rw [hr];exact⟨_,rfl,(Z i x hi).cell⟩
  ·rw [hr];intro j u hj
   grind [Row.es]
 |many t' cs b o cap rows f hr eP hb W U Z=>
  simp only [CK.sl.injEq] at hc;subst hc;rw [bD] at hi ⊢;rw [bp,aZ] at hi;obtain⟨row,iD,rfl⟩:=hi;have hlen:=W row (amm iD);refine⟨b,o,cap,(List.range' 0 cs.length).map (f i),ad,hb,?_,?_⟩
  ·rw [hr];refine ej.of (f i) cs 0 fun j c hj=>?_;have hjl:j<row.length:=by rw [hlen]; exact (bk.1 hj).1
   have hd:row[j]?=some row[j]:=aT hjl;rw [aK];have:(dL row).hd j=row[j]:=by simp [D.hd,hd]
   rw [this];exact (Z i row j _ c iD hd hj).cell
  ·rw [hr];intro j u hj;rw [bp,aZ] at hj;obtain⟨k,hk,rfl⟩:=hj
   have hjl:j<cs.length:=by
    grind
   rw [List.getElem?_range' hjl] at hk;simp only [an] at hk;obtain rfl:k=j:=J
   have hd:row[k]?=some row[k]:=aT J;exact U i row k _ iD hd
theorem BY (ρ:Nat->Int) (e i:V) {x:D} {k:Nat} (hi:i.den ρ=(k:Int)) (hx:(dec (e.den ρ)).l[k]?=some x):dec ((V.op .at e i).den ρ)=x:=by simp only [V.den,fT.den,bC,D.at,hi,aX,hx,ax]
theorem nV {tt:TT} (cV:eJ P tt) {ty z:Nat} (h:uu tt ty=some z): ∃el ie,P.underlying ty=some (.slice el)/\tt el=some ie/\ie.size=z:=by
 unfold uu at h;split at h
 ·rename_i ti gp;split at h
  ·rename_i el hk;simp only [jb,aZ] at h;obtain⟨ie,lG,rfl⟩:=h;exact⟨el,ie,fC (cV ty ti gp) hk,lG,rfl⟩
  grind
 grind
theorem Pt {tt:TT} (cV:eJ P tt) {s s':St} (hp:ca E.ρ s.pc) {ty t:Nat} {e:V} {ix v:Y} {u ui:Value} (hx:VR E w.heap (.eD e t) u) (zV:VR E w.heap ix ui) (h:(Kc tt s ty t e ix).leaf E.ρ=some (v,s')) :
 s'.bG=s.bG/\s'.h=s.h/\ca E.ρ s'.pc/\∃r,(Instr.indexAt ty u ui).run P w= .ok r w/\VR E w.heap v r:=by
 unfold Kc at h;split at h
 ·rename_i kd i;split at h
  ·rename_i z hz;split at h
   ·rename_i l8;obtain⟨ew,fQ,U,Z,h3⟩:=n8 hp h;have:=bE h3;simp only [aq] at this;obtain⟨rfl,rfl⟩:=this;refine⟨rfl,rfl,fQ,?_⟩;rw [cL] at Z;simp only [VR] at hx zV;subst zV;obtain⟨el,ie,hu,lG,rfl⟩:=nV cV hz;obtain⟨k,hk⟩ : ∃k:Nat,i.den E.ρ=(k:Int):=⟨(i.den E.ρ).toNat,J⟩;have gu:k<(dec (e.den E.ρ)).l.length:=J
    have hd:(dec (e.den E.ρ)).l[k]?=some (dec (e.den E.ρ)).l[k]:=aT gu;obtain⟨b,o,cap,us,rfl,g1,g2,g3⟩:=hx.row hd;refine⟨.pointer (some ⟨b,o+k*ie.size,none⟩),?_,?_⟩
    ·rw [hk];simp [Instr.indexAt,asIntOf,run_underlying hu,eF (cV el ie lG),gu,fw]
    ·simp only [VR];exact⟨b,_,us,rfl,g1,by rw [gD,BY E.ρ e i hk hd]; exact g2,by rw [l8]; exact g3,g2.sQ⟩
   grind [T.leaf]
  grind [T.leaf]
 grind [T.leaf]
theorem Pb {tt:TT} (cV:eJ P tt) {s s':St} (hp:ca E.ρ s.pc) {ty t id:Nat} {n:V} {ix v:Y} {u ui:Value} (hx:VR E w.heap (.pV id n t) u) (zV:VR E w.heap ix ui) (h:(JX tt s ty id t n ix).leaf E.ρ=some (v,s')) :
 s'.bG=s.bG/\s'.h=s.h/\ca E.ρ s'.pc/\∃r,(Instr.indexAt ty u ui).run P w= .ok r w/\VR E w.heap v r:=by
 unfold JX at h;split at h
 ·rename_i kd i;split at h
  ·rename_i z hz;split at h
   ·rename_i l8;obtain⟨ew,fQ,U,Z,h3⟩:=n8 hp h;have:=bE h3;simp only [aq] at this;obtain⟨rfl,rfl⟩:=this;refine⟨rfl,rfl,fQ,?_⟩;simp only [VR] at hx zV;subst zV;obtain⟨hid,m,a,cap,hn,rfl,iX,hc⟩:=hx;obtain⟨el,ie,hu,lG,rfl⟩:=nV cV hz;obtain⟨k,hk⟩ : ∃k:Nat,i.den E.ρ=(k:Int):=⟨(i.den E.ρ).toNat,J⟩;have gu:k<m:=J
    have ha:a=⟨(E.θ id).1,(E.θ id).2,none⟩:=by
     simp only [eZ] at hc
     grind
    subst ha;refine⟨.pointer (some ⟨(E.θ id).1,(E.θ id).2+k*ie.size,none⟩),?_,?_⟩
    ·rw [hk];simp [Instr.indexAt,asIntOf,run_underlying hu,eF (cV el ie lG),gu,fw]
    ·simp only [VR]
     grind
   grind [T.leaf]
  grind [T.leaf]
 grind [T.leaf]
theorem ox {ρ:Nat->Int} {pc:List (SB×Bool)} (hp:ca ρ pc) {e! cs:List Y} {i:V} {k:Nat} (hi:i.den ρ=(k:Int)): ∀{ov:List (V×List Y)},oy pc e! i ov=some cs->
 ep ρ k ov=some cs\/(ep ρ k ov=none/\cs=e!)
 |[],h=>by simp only [oy,an] at h; exact .inr ⟨rfl,h.symm⟩
 |(j,c)::l,h=>by
  simp only [oy] at h;simp only [ep];split at h
  ·rename_i he
   grind [cX]
  ·split at h
   ·rename_i b hd;have hd:=gW hp hd;rw [gY] at hd;split at h
    ·grind
    ·rw [beq_eq_false_iff_ne,hi] at hd;rw [ah (fun q=>hd q.symm)];exact ox hp hi h
   grind
theorem wz {α:Type} {ρ:Nat->Int} {i:V} {r:α}: ∀{ov:List (V×List Y)} {s:St} {k:St->T α},ca ρ s.pc->(vf i ov s k).leaf ρ=some r->∃ew,ca ρ ew/\(k { s with pc:=ew }).leaf ρ=some r
 |[],s,k,hp,h=> ⟨s.pc,hp,h⟩
 |(j,c)::l,s,k,hp,h=>by
  simp only [vf] at h;split at h
  ·exact⟨s.pc,hp,h⟩
  ·obtain⟨fW,fL,U⟩:=cR hp h;split at U
   ·grind
   ·exact wz (s:={ s with pc:=fW }) fL U
theorem jY {ρ:Nat->Int} {r:Row} {ov:List (V×List Y)} (ho:tG r ov): ∀{ds:List D} {j k:Nat} {x:D},ds[k]?=some x->
 bH ρ r ov ds j=bH ρ r ov (ds.take k) j++((match ep ρ (j+k) ov with |some cs=>cs|none=>ic r (.eD x))++bH ρ r ov (ds.drop (k+1)) (j+k+1))/\(bH ρ r ov (ds.take k) j).length=k*r.es
 |[],j,k,x,h=>by simp at h
 |d::ds,j,0,x,h=>by
  simp only [aL,an] at h;subst h;refine⟨?_,by simp [bH]⟩;simp only [List.take_zero,bH,aw,bw,anU,amP]
  try rfl
 |d::ds,j,k+1,x,h=>by
  have h':ds[k]?=some x:=by simpa using h
  have hk:k<ds.length:=(bk.1 h').1;obtain⟨U,Z⟩:=jY (ρ:=ρ) ho (j:=j+1) h';refine⟨?_,?_⟩
  ·simp only [amQ,bH,ani,anU]
   grind
  grind [cM]
theorem uw {α:Type}: ∀(a b:List α),eS a.length (a++b)=some b
 |[],_=>rfl
 |x::a,b=>by simp [eS,uw a b]
theorem Fy {α:Type}: ∀{n:Nat} {a b l:List α},eS n a=some l->eS n (a++b)=some (l++b)
 |0,a,b,l,h=>by simp only [eS,an] at h ⊢; rw [h]
 |n+1,[],b,l,h=>by simp [eS] at h
 |n+1,x::a,b,l,h=>by simp only [eS,aW] at h ⊢; exact Fy h
theorem DT {α:Type}: ∀{n:Nat} {a b l:List α},ja n a=some l->ja n (a++b)=some l
 |0,a,b,l,h=>by simp only [ja] at h ⊢; exact h
 |n+1,[],b,l,h=>by simp [ja] at h
 |n+1,x::a,b,l,h=>by
  simp only [ja,aW] at h ⊢;split at h
  ·rename_i l' W;rw [DT W];exact h
  grind
theorem Il {α:Type}: ∀{a b:Nat} {l m:List α},eS a l=some m->eS (a+b) l=eS b m
 |0,b,l,m,h=>by simp only [eS,an] at h; subst h; rw [aK]
 |a+1,b,[],m,h=>by simp [eS] at h
 |a+1,b,x::l,m,h=>by rw [show a+1+b=(a+b)+1 by omega];simp only [eS] at h ⊢;exact Il h
noncomputable def cW (ρ:Nat->Int) (e:V) (t:Nat) (ov:List (V×List Y)):List Y:=bH ρ (rowOf t) ov (dec (e.den ρ)).l 0
theorem OR.pf {h:Array Obj} {id:Nat} {e:V} {t:Nat} {ty:TypeId} {ov:List (V×List Y)}:OR E h id (.vec e t ty ov)↔(tG (rowOf t) ov/\tj (rowOf t) (dec (e.den E.ρ)))/\OR E h id (.cells (cW E.ρ e t ov) ty):=by simp only [OR,cW]
theorem bS.pf [bJ] {H:Hp} (r:bS E H w) {id:Nat} {e:V} {t:Nat} {ty:TypeId} {ov:List (V×List Y)} (W:H.get id=some (.vec e t ty ov)):bS E (H.put id (.cells (cW E.ρ e t ov) ty)) w/\tG (rowOf t) ov/\tj (rowOf t) (dec (e.den E.ρ)):=by obtain⟨U,Z⟩:=OR.pf.1 (r.live id _ W).2.1;exact⟨r.swap W Z (by rw [Hp.bU,ak rfl]) (fun j hj=>by rw [Hp.bU,ah hj]) rfl rfl,U⟩
theorem yg {h:Array Obj} {r:Row} {x y:V} (hd:dec (x.den E.ρ)=dec (y.den E.ρ)) {us:List Value}:cJ E h (ic r x) us↔cJ E h (ic r y) us:=by
 grind [gD]
theorem j? [bJ] {H:Hp} (r:bS E H w) {id:Nat} {e i:V} {t:Nat} {ty:TypeId} {ov:List (V×List Y)} (W:H.get id=some (.vec e t ty ov)) {k:Nat} (hi:i.den E.ρ=(k:Int)) (hk:(k:Int)<(ed e).den E.ρ)
 {pc:List (SB×Bool)} (hp:ca E.ρ pc) {cs:List Y} (hc:oy pc (ic (rowOf t) (.op .at e i)) i ov=some cs) :
 ∃pre row post,cW E.ρ e t ov=pre++(row++post)/\pre.length=k*(rowOf t).es/\row.length=(rowOf t).es/\(∀h us,cJ E h row us↔cJ E h cs us)/\cs.length=(rowOf t).es:=by
 obtain⟨_,ho,xr⟩:=r.pf W;rw [cL] at hk;have gu:k<(dec (e.den E.ρ)).l.length:=J
 have hd:(dec (e.den E.ρ)).l[k]?=some (dec (e.den E.ρ)).l[k]:=aT gu;obtain⟨U,Z⟩:=jY (ρ:=E.ρ) ho (j:=0) hd;refine⟨_,_,_,U,Z,?_⟩;rw [aK];rcases ox hp hi hc with h3|⟨h3,rfl⟩
 ·rw [h3];obtain⟨p,p1,p2,_⟩:=lE h3;have:=ho p p1
  grind
 ·rw [h3];refine⟨iA _ _,fun h us=>yg ?_,iA _ _⟩;rw [BY E.ρ e i hi hd];simp only [V.den,bC]
theorem Ue {i:TI} {l m:List Y} {v:Y} (h:partOf i l=some v):partOf i (l++m)=some v:=by
 unfold partOf at h ⊢;split at h
 ·rename_i ha;rw [aZ] at h
  grind [DT]
 grind
theorem HC [bJ] {tt:TT} (cV:eJ P tt) {H:Hp} (r:bS E H w) {id:Nat} {cs:List Y} {e:TypeId} (W:H.get id=some (.cells cs e)) {ty:Nat} {ti:TI} (gp:tt ty=some ti) {off:Nat} {l:List Y} (hd:eS off cs=some l) {v:Y} (hv:partOf ti l=some v) :
 ∃x,(loadVar ty ⟨(E.θ id).1,(E.θ id).2+off,none⟩).run P w= .ok x w/\VR E w.heap v x:=by
 have hld:BL tt ty (.ptr id off) H=some v:=by
  unfold BL partOf at *;rw [gp];simp only [nu,W,hd];split at hv
  ·exact hv
  ·split at hv
   ·simp only [an] at hv;subst hv;rfl
   grind
 have hid:=(r.live id _ W).1;obtain⟨x,b,o,U,Z,h3⟩:=BK cV r (p:=.ptr id off) (u:=.pointer (some ⟨(E.θ id).1,(E.θ id).2+off,none⟩)) (by simp only [VR]; exact⟨trivial,hid⟩) hld
 grind
theorem EB {k:IntKind}: ∀{cs:List Y} {ds:List D},EC k cs=some ds->ds.length=cs.length/\∀(i:Nat),i<cs.length->∃n,ds[i]?=some (.i n)/\cs[i]?=some (.int k (.lit n))
 |[],ds,h=>by
  simp only [EC,an] at h
  grind
 |v::vs,ds,h=>by
  simp only [EC] at h;split at h
  ·split at h
   ·rename_i k' n;split at h
    ·rename_i hk;subst hk;split at h
     ·rename_i ds' wX;simp only [an] at h;subst h;obtain⟨U,Z⟩:=EB wX
      grind
     grind
    grind
   grind
  grind
theorem BQ {α:Type}: ∀{i:Nat} {cs:List α} {a:α},cs[i]?=some a->∃l,eS i cs=some (a::l)
 |0,[],a,h=>by simp at h
 |0,c::cs,a,h=>by simp only [aL,an] at h; subst h; exact⟨cs,rfl⟩
 |i+1,[],a,h=>by simp at h
 |i+1,c::cs,a,h=>BQ (cs:=cs) (by simpa using h)
theorem Mu {ρ:Nat->Int} {s s':St} {cs:List Y} {e:V} {v:Y} (hp:ca ρ s.pc) (h:(Ic s cs e).leaf ρ=some (v,s')) :
 s'.bG=s.bG/\s'.h=s.h/\ca ρ s'.pc/\∃(i:Nat) (k:IntKind) (n:Int) (x:V),e.den ρ=(i:Int)/\i<cs.length/\cs[i]?=some (.int k (.lit n))/\v= .int k x/\x.den ρ=n:=by
 unfold Ic at h;split at h
 ·grind [T.leaf]
 ·rename_i k hk;split at h
  ·grind [T.leaf]
  ·rename_i ds wX;obtain⟨U,Z⟩:=EB wX;obtain⟨ew,fQ,g1,g2,g3⟩:=n8 hp h;simp only [T.leaf,an,aq] at g3;obtain⟨rfl,rfl⟩:=g3;have g2':e.den ρ<(ds.length:Int):=by simpa [V.den] using g2
   have hi:e.den ρ=((e.den ρ).toNat:Int):=J
   have gu:(e.den ρ).toNat<cs.length:=J
   obtain⟨n,d1,d2⟩:=Z _ gu;refine⟨rfl,rfl,fQ,_,k,n,_,hi,gu,d2,rfl,?_⟩;simp only [A8,V.den,fT.den,bC,D.at,bD,d1,ax,D.n]
theorem Pn [bJ] {tt:TT} (cV:eJ P tt) {s s':St} (r:bS E s.h w) (hp:ca E.ρ s.pc) {ty id es:Nat} {i:V} {off:Nat} {v:Y} {u:Value} (hx:VR E w.heap (.Ax id es i off) u) (h:(Aq tt s ty id es i off).leaf E.ρ=some (v,s')) :
 s'.bG=s.bG/\s'.h=s.h/\ca E.ρ s'.pc/\∃x b o,u= .pointer (some ⟨b,o,none⟩)/\(loadVar ty ⟨b,o,none⟩).run P w= .ok x w/\VR E w.heap v x:=by
 unfold Aq at h;split at h
 ·rename_i o W;split at h
  ·rename_i cs ety;split at h
   ·rename_i ti gp;split at h
    ·simp [T.leaf] at h
    ·rename_i hb;simp only [Bool.or_eq_false_iff,Bool.not_eq_false'] at hb;have l8:=az hb.1.2;have hof:=az hb.2;subst l8 hof;obtain⟨U,Z,h3,k,kd,n,x,g1,g2,g3,rfl,g5⟩:=Mu hp h;refine⟨U,Z,h3,?_⟩;simp only [VR] at hx;obtain⟨hid,k',hk,rfl⟩:=hx;have xu:k'=k:=J
     subst xu;obtain⟨l,hd⟩:=BQ g3;obtain⟨y,q1,q2⟩:=HC (P:=P) cV r W gp hd (v:=.int kd (.lit n)) (by unfold partOf; rw [hb.1.1]);refine⟨y,_,_,rfl,by rw [anB,bw]; exact q1,?_⟩;simp only [VR,V.den] at q2 ⊢;rw [q2,g5]
   ·simp [T.leaf] at h
  ·rename_i e t A2 ov;split at h
   ·rename_i ti gp;split at h
    ·rename_i l8;obtain⟨pc0,Uv,U,Z,h3⟩:=n8 hp h;obtain⟨ew,fQ,h3⟩:=wz (s:={ s with pc:=pc0 }) Uv h3;split at h3
     ·rename_i cs hc;split at h3
      ·rename_i l ES;obtain⟨e1,rfl⟩:=iL h3;refine⟨rfl,rfl,fQ,?_⟩;simp only [VR] at hx;obtain⟨hid,k,hk,rfl⟩:=hx;obtain⟨pre,row,post,c1,c2,c3,c4,c5⟩:=j? r W hk (by rw [<- hk]; exact Z) fQ hc;obtain⟨rc,ho,xr⟩:=r.pf W
       have iD:OR E w.heap id (.cells (pre++(cs++post)) A2):=by have:=(rc.live id _ (by rw [Hp.bU,ak rfl])).2.1;rw [c1] at this;simp only [OR] at this ⊢;obtain⟨arr,lo,hi,us,q1,q2,q3,q4,q5,q6,q7⟩:=this;refine⟨arr,lo,hi,us,q1,?_,q3,by simp only [a8,c3,c5] at q4 ⊢; exact q4,q5,q6,q7⟩;obtain⟨a,b,rfl,a1,a2⟩:=q2.split;obtain⟨a',b',rfl,b1,b2⟩:=a2.split;exact a1.append (((c4 _ _).1 b1).append b2)
       have r2:=r.swap (H2:=s.h.put id (.cells (pre++(cs++post)) A2)) W iD (by rw [Hp.bU,ak rfl]) (fun j hj=>by rw [Hp.bU,ah hj]) rfl rfl
       have ak1:eS (k*es+off) (pre++(cs++post))=some (l++post):=by rw [Il (m:=cs++post) (by rw [<- l8,<- c2]; exact uw pre _)];exact Fy ES
       obtain⟨x,g1,g2⟩:=HC cV r2 (by rw [Hp.bU,ak rfl]) gp ak1 (Ue e1);exact⟨x,_,_,rfl,g1,g2⟩
      ·simp [T.leaf] at h3
     ·simp [T.leaf] at h3
    ·simp [T.leaf] at h
   ·simp [T.leaf] at h
  ·simp [T.leaf] at h
 ·simp [T.leaf] at h
end
end Go.As
end

import GoSem.Claim
import Derived.Lib.SlicesCompact
import Derived.Orders
import Derived.Scope
import Derived.LoopN
import Derived.Below
import GoSem.Core.View
import GoSem.Core.Layout
import GoSem.Op.Equal
import Derived.WalkKit
import Derived.Lib.Strings
import Derived.Laws.IdiomStrings
import Derived.Laws.RangeString
import Derived.Laws.StructEq
set_option linter.unusedSectionVars false
set_option linter.unusedVariables false
set_option linter.unusedSimpArgs false
abbrev af:=@if_neg
abbrev ag:=@Option.some.injEq
abbrev ah:=@if_pos
abbrev ak:=@Prod.mk.injEq
abbrev an:=@Bool.and_eq_true
abbrev aq:=@Nat.eq_of_beq_eq_true
abbrev au:=@Nat.le_refl
abbrev aw:=@List.mem_cons
abbrev ax:=@List.map_cons
abbrev ay:=@Nat.zero_add
abbrev az:=@List.getElem_mem
abbrev aA:=@List.nil_append
abbrev aC:=@Option.getD_some
abbrev aF:=@List.getElem?_cons_zero
abbrev aG:=@Int.lt_irrefl
abbrev aH:=@List.getElem?_cons_succ
abbrev aK:=@List.mem_map
abbrev aL:=@List.length_cons
abbrev aM:=@List.getElem?_eq_getElem
abbrev aO:=@Option.map_eq_some_iff
abbrev aP:=@List.length_map
abbrev aQ:=@Bool.false_eq_true
abbrev aR:=@List.cons_append
abbrev aT:=@Nat.lt_or_ge
abbrev aW:=@List.getElem?_eq_some_iff
abbrev aX:=@List.all_eq_true
abbrev aZ:=@List.length_append
abbrev a8:=@List.length_take
abbrev bd:=@Int.toNat_natCast
abbrev bg:=@List.length_nil
abbrev bh:=@Nat.add_zero
abbrev bj:=@Int.natCast_one
abbrev bk:=@Nat.le_trans
abbrev bn:=@Array.length_toList
abbrev bo:=@List.drop_eq_getElem_cons
abbrev bp:=@List.getElem?_map
abbrev bq:=@Option.map_some
abbrev br:=@List.length_drop
abbrev bu:=@Option.isSome_some
abbrev bw:=@List.mem_of_mem_drop
abbrev amC:=@List.mem_append
abbrev amD:=@Array.getElem?_toList
abbrev amE:=@List.mem_of_getElem?
abbrev amF:=@Nat.add_assoc
abbrev amG:=@List.mem_of_mem_take
abbrev amH:=@Nat.zero_mul
abbrev amI:=@List.not_mem_nil
abbrev amJ:=@List.eq_nil_of_length_eq_zero
abbrev amK:=@Array.getElem?_eq_some_iff
abbrev amL:=@List.mem_filter
abbrev amM:=@Nat.add_mul
abbrev amN:=@List.mem_range
abbrev amO:=@Int.natCast_zero
abbrev amP:=@Bool.eq_iff_iff
abbrev amQ:=@List.map_map
abbrev amR:=@List.take_append_drop
abbrev amS:=@Nat.zero_le
abbrev amT:=@List.map_append
abbrev amU:=@Nat.le_of_ble_eq_true
abbrev amV:=@List.length_pos_iff
abbrev amW:=@Bool.not_eq_true'
abbrev amX:=@List.nodup_cons
abbrev amY:=@Nat.mod_eq_of_lt
abbrev amZ:=@Nat.lt_of_lt_of_le
abbrev am0:=@List.drop_zero
abbrev am1:=@List.length_replicate
abbrev am2:=@List.getElem_of_mem
abbrev am3:=@Nat.le_succ
abbrev am4:=@List.getElem?_drop
abbrev am5:=@List.getElem?_take
abbrev am6:=@UInt8.toNat_ofNat'
abbrev am7:=@List.append_assoc
abbrev am8:=@Nat.mul_le_mul_right
abbrev am9:=@Option.isSome_iff_exists
abbrev ana:=@Option.getD_none
abbrev anb:=@List.map_id
abbrev anc:=@Array.getD_eq_getD_getElem?
abbrev ane:=@Bool.or_eq_true
abbrev anf:=@List.mapM_cons
abbrev ang:=@Int.not_lt
abbrev anh:=@List.take_succ_cons
abbrev ani:=@Nat.eq_zero_or_pos
abbrev anj:=@List.take_length
abbrev ank:=@List.append_nil
abbrev anl:=@Nat.one_mul
abbrev anm:=@Option.bind_eq_some_iff
abbrev ann:=@List.set_cons_zero
abbrev ano:=@List.set_cons_succ
abbrev anp:=@List.length_set
abbrev anq:=@Bool.eq_false_iff
abbrev anr:=@List.map_nil
abbrev ans:=@List.take_of_length_le
abbrev ant:=@Array.getElem?_replicate
abbrev anu:=@Nat.blt_eq
abbrev anv:=@List.mem_cons_of_mem
abbrev anw:=@List.drop_of_length_le
abbrev anx:=@List.getElem?_nil
abbrev anz:=@List.mem_cons_self
abbrev anA:=@List.map_congr_left
abbrev anB:=@Array.getElem?_modify
abbrev anC:=@List.mem_iff_getElem?
abbrev anD:=@Nat.ne_of_beq_eq_false
abbrev anE:=@Int.tmod_lt_of_pos
abbrev anF:=@List.ext_getElem?
abbrev anG:=@Option.bind_eq_bind
abbrev anH:=@List.getElem?_eq_none_iff
abbrev anI:=@Nat.mul_pos
abbrev anJ:=@Bool.not_true
abbrev anK:=@List.nodup_append
abbrev anL:=@Bool.false_or
abbrev anM:=@List.getElem?_eq_none
abbrev anN:=@Array.getElem?_setIfInBounds
abbrev anO:=@Nat.ble_eq_true_of_le
abbrev anP:=@Nat.add_sub_cancel_left
abbrev anQ:=@List.getElem?_range
abbrev anR:=@List.take_succ_eq_append_getElem
abbrev anS:=@Nat.pow_succ
abbrev anT:=@Int.ofNat_inj
abbrev anU:=@Bool.or_false
abbrev anV:=@List.eraseIdx_cons_succ
abbrev anW:=@List.foldlM_cons
abbrev anX:=@Nat.mul_one
abbrev anY:=@List.take_set_of_le
abbrev anZ:=@List.drop_set_of_lt
abbrev an0:=@Int.ofNat_lt
abbrev an1:=@List.eq_nil_iff_forall_not_mem
abbrev an2:=@List.getElem?_of_mem
abbrev an3:=@Array.getElem?_eq_getElem
abbrev an4:=@List.getD_eq_getElem?_getD
abbrev an5:=@List.all_append
abbrev an6:=@List.mem_append_right
abbrev an7:=@List.mem_append_left
abbrev an8:=@Nat.pow_zero
abbrev an9:=@Nat.mul_comm
abbrev aoa:=@Array.toList_inj
abbrev aob:=@Bool.and_eq_false_iff
abbrev aoc:=@List.getElem?_append
abbrev aod:=@Nat.mul_le_mul
abbrev aoe:=@List.map_take
abbrev aof:=@List.map_drop
abbrev aog:=@Array.getElem?_append_left
abbrev aoh:=@Array.toList_map
abbrev aoi:=@Nat.le_of_mul_le_mul_right
abbrev aoj:=@List.drop_succ_cons
abbrev aok:=@List.getElem?_append_right
abbrev aol:=@Nat.div_mul_le_self
abbrev aom:=@List.replicate_succ
abbrev aon:=@Nat.lt_trichotomy
abbrev aoo:=@List.all_cons
abbrev aop:=@Array.mem_of_getElem?
abbrev aoq:=@List.length_reverse
abbrev aor:=@Nat.min_eq_left
abbrev aos:=@List.getElem?_toArray
abbrev aot:=@Array.getElem?_eq_none
abbrev aou:=@List.any_eq_true
abbrev aov:=@List.drop_drop
abbrev aow:=@Nat.sub_zero
abbrev aox:=@List.length_filter_le
abbrev aoy:=@List.filter_append
abbrev aoz:=@List.getElem_set_self
abbrev aoA:=@List.getElem?_append_left
abbrev aoB:=@List.eq_of_mem_replicate
abbrev aoC:=@List.singleton_append
abbrev aoD:=@Array.mapM_eq_mapM_toList
abbrev aoE:=@Array.getElem?_eq_none_iff
abbrev aoF:=@List.length_mergeSort
abbrev aoG:=@List.length_eq_zero_iff
abbrev aoH:=@Array.getElem?_mapIdx
abbrev aoI:=@Array.size_setIfInBounds
abbrev aoJ:=@List.contains_iff_mem
abbrev aoK:=@List.eraseIdx_eq_take_drop_succ
abbrev aoL:=@List.eraseIdx_sublist
theorem J{P:Prop}(h:P:=by omega):P:=h
theorem aa{P:Prop}(h:P:=by kernel_rfl):P:=h
theorem ad{P:Prop}(h:P:=by simp):P:=h
theorem ae{P:Prop}(h:P:=by decide):P:=h
section
namespace Go.As
inductive Tr (α:Type) where
 |nil
 |node (v:Option α) (l r:Tr α)
 deriving Inhabited
noncomputable def Tr.get {α:Type} (t:Tr α) (k:Nat):Option α:=
 Tr.rec (motive:=fun _=>Nat->Option α) (fun _=>none)
  (fun v _ _ il ir k=>Nat.rec (motive:=fun _=>Option α) v (fun k' _=>Bool.rec (motive:=fun _=>Option α) (ir (Nat.div k' 2)) (il (Nat.div k' 2)) (Nat.beq (Nat.mod k' 2) 0)) k) t k
def Tr.val {α:Type}:Tr α->Option α
 | .nil=>none
 | .node v _ _=>v
def Tr.left {α:Type}:Tr α->Tr α
 | .nil=> .nil
 | .node _ l _=>l
def Tr.right {α:Type}:Tr α->Tr α
 | .nil=> .nil
 | .node _ _ r=>r
noncomputable def Tr.mkL {α:Type} (v:Option α) (x r:Tr α):Tr α:=Tr.rec (motive:=fun _=>Tr α) (.node v .nil r) (fun a b c _ _=> .node v (.node a b c) r) x
noncomputable def Tr.mkR {α:Type} (v:Option α) (l x:Tr α):Tr α:=Tr.rec (motive:=fun _=>Tr α) (.node v l .nil) (fun a b c _ _=> .node v l (.node a b c)) x
noncomputable def Tr.Tw {α:Type} (f:Nat):Tr α->Nat->Option α->Tr α:=
 Nat.rec (motive:=fun _=>Tr α->Nat->Option α->Tr α) (fun t _ _=>t)
  (fun _ ih t k x=>Tr.rec (motive:=fun _=>Tr α)
   (Nat.rec (motive:=fun _=>Tr α) (.node x .nil .nil) (fun k' _=>Bool.rec (motive:=fun _=>Tr α) (Tr.mkR none .nil (ih .nil (Nat.div k' 2) x)) (Tr.mkL none (ih .nil (Nat.div k' 2) x) .nil) (Nat.beq (Nat.mod k' 2) 0)) k)
   (fun v l r _ _=>Nat.rec (motive:=fun _=>Tr α) (.node x l r) (fun k' _=>Bool.rec (motive:=fun _=>Tr α) (Tr.mkR v l (ih r (Nat.div k' 2) x)) (Tr.mkL v (ih l (Nat.div k' 2) x) r) (Nat.beq (Nat.mod k' 2) 0)) k) t) f
noncomputable def Tr.put {α:Type} (t:Tr α) (k:Nat) (v:Option α):Tr α:=Tr.Tw (Nat.succ k) t k v
theorem aaO (a b:Nat):Nat.beq a b=decide (a=b):=by rw [amP];simp
theorem Cf {β:Sort _} (a b:β) (c:Nat):Bool.rec (motive:=fun _=>β) a b (Nat.beq c 0)=if c=0 then b else a:=by
 by_cases h:c=0
 ·subst h; rfl
 ·rw [af h];have:Nat.beq c 0=false:=by rw [aaO]; simpa using h
  rw [this]
theorem Tr.nW {α:Type} (v:Option α) (l r:Tr α) (k:Nat) :
 (Tr.node v l r).get k=if k=0 then v else if (k-1) % 2=0 then l.get ((k-1) / 2) else r.get ((k-1) / 2):=by
 cases k with
 |zero=>rfl
 |succ k=> simp only [Nat.add_sub_cancel,Nat.succ_ne_zero,if_false];exact Cf _ _ _
theorem Tr.wD {α:Type} (t:Tr α) (k:Nat) :
 t.get k=if k=0 then t.val else if (k-1) % 2=0 then t.left.get ((k-1) / 2) else t.right.get ((k-1) / 2):=by
 cases t with
 |nil=> have h: ∀j,(Tr.nil:Tr α).get j=none:=fun _=>rfl;simp [h,Tr.val,Tr.left,Tr.right]
 |node v l r=>rw [Tr.nW]; rfl
theorem Tr.aev {α:Type} (v:Option α) (x r:Tr α):Tr.mkL v x r= .node v x r:=by cases x<;>rfl
theorem Tr.aeu {α:Type} (v:Option α) (l x:Tr α):Tr.mkR v l x= .node v l x:=by cases x<;>rfl
theorem Tr.Tu {α:Type} (f:Nat) (t:Tr α) (v:Option α):Tr.Tw (f+1) t 0 v= .node v t.left t.right:=by cases t<;>rfl
theorem Tr.Tv {α:Type} (f:Nat) (t:Tr α) (k:Nat) (v:Option α):Tr.Tw (f+1) t (k+1) v=if k % 2=0 then .node t.val (Tr.Tw f t.left (k / 2) v) t.right else .node t.val t.left (Tr.Tw f t.right (k / 2) v):=by rw [<- Tr.aev,<- Tr.aeu];cases t<;>exact Cf _ _ _
theorem Tr.Yu {α:Type}: ∀(f:Nat) (t:Tr α) (k:Nat) (v:Option α) (j:Nat),k<f->(Tr.Tw f t k v).get j=if j=k then v else t.get j:=by
 intro f
 induction f with
 |zero=>intro t k v j hk; omega
 |succ f ih=>
  intro t k v j hk
  cases k with
  |zero=> rw [Tr.Tu,Tr.nW,Tr.wD t];split<;>simp_all
  |succ k=>
   rw [Tr.Tv,Tr.wD t j];split
   ·rename_i h;rw [Tr.nW];by_cases hj:j=0
    ·subst hj; simp
    ·rw [af hj,af hj];by_cases Z:(j-1) % 2=0
     ·rw [ah Z,ah Z,ih _ _ _ _ J];by_cases h3:j=k+1
      ·subst h3; simp
      ·rw [af h3,af J]
     ·rw [af Z,af Z,af (by intro h3; subst h3; simp at Z; omega)]
   ·rename_i h;rw [Tr.nW];by_cases hj:j=0
    ·subst hj; simp
    ·rw [af hj,af hj];by_cases Z:(j-1) % 2=0
     ·rw [ah Z,ah Z,af (by intro h3; subst h3; simp at Z; omega)]
     ·rw [af Z,af Z,ih _ _ _ _ J];by_cases h3:j=k+1
      ·subst h3; simp
      ·rw [af h3,af J]
theorem Tr.bP {α:Type} (t:Tr α) (k:Nat) (v:Option α) (j:Nat):(t.put k v).get j=if j=k then v else t.get j:=
 Tr.Yu (Nat.succ k) t k v j (Nat.lt_succ_self _)
inductive D where
 |i (n:Int)
 |p (a b:D)
 deriving DecidableEq,Inhabited
def zN:Int->Nat
 | .ofNat n=>2*n
 | .negSucc n=>2*n+1
theorem Vv {a b:Int} (h:zN a=zN b):a=b:=by
 cases a<;>cases b<;>simp only [zN] at h
 all_goals grind
def oA (a b:Nat):Nat:=2 ^ a*(2*b+1)
theorem AT: ∀{a a' b b':Nat},oA a b=oA a' b'->a=a'/\b=b'
 |0,0,b,b',h=>by simp only [oA,an8,anl] at h; omega
 |0,a'+1,b,b',h=>by
  simp only [oA,an8,anl,anS] at h
  grind
 |a+1,0,b,b',h=>by
  simp only [oA,an8,anl,anS] at h
  grind
 |a+1,a'+1,b,b',h=>by
  have U:2 ^ (a+1)*(2*b+1)=2*oA a b:=by unfold oA; rw [anS,an9 (2 ^ a) 2,Nat.mul_assoc]
  have Z:2 ^ (a'+1)*(2*b'+1)=2*oA a' b':=by unfold oA; rw [anS,an9 (2 ^ a') 2,Nat.mul_assoc]
  have h3:oA a b=oA a' b':=by
   have:oA (a+1) b=oA (a'+1) b':=h;unfold oA at this
   grind
  obtain⟨e1,e2⟩:=AT h3
  grind
def D.enc:D->Nat
 | .i n=>2*zN n
 | .p a b=>2*oA a.enc b.enc+1
theorem D.gZ: ∀{a b:D},a.enc=b.enc->a=b
 | .i n,.i m,h=>by simp only [D.enc] at h;rw [Vv (a:=n) (b:=m) J]
 | .i n,.p a b,h=>by simp only [D.enc] at h; omega
 | .p a b,.i n,h=>by simp only [D.enc] at h; omega
 | .p a b,.p c d,h=>by simp only [D.enc] at h;obtain⟨U,Z⟩:=AT (a:=a.enc) (b:=b.enc) (a':=c.enc) (b':=d.enc) J;rw [D.gZ U,D.gZ Z]
open Classical in
noncomputable def dec (z:Int):D:=if h: ∃d:D,(d.enc:Int)=z then h.choose else .i 0
def enc (d:D):Int:=(d.enc:Int)
theorem bB (d:D):dec (enc d)=d:=by unfold dec;have h: ∃d':D,(d'.enc:Int)=enc d:=⟨d,rfl⟩;rw [dif_pos h];have:=h.choose_spec;apply D.gZ;unfold enc at this;exact Int.ofNat.inj this
theorem gZ {a b:D} (h:enc a=enc b):a=b:=by rw [<- bB a,h,bB]
def D.n:D->Int
 | .i n=>n
 | .p _ _=>0
def D.l:D->List D
 | .i _=>[]
 | .p a b=>a::b.l
def dL:List D->D
 |[]=> .i 0
 |a::l=> .p a (dL l)
@[simp] theorem bI: ∀l:List D,(dL l).l=l
 |[]=>rfl
 |a::l=>by simp [dL,D.l,bI l]
theorem Fb {a b:List D} (h:dL a=dL b):a=b:=by rw [<- bI a,h,bI]
def D.at (d:D) (i:Int):D:=(d.l[i.toNat]?).getD (.i 0)
def D.hd (d:D) (j:Nat):D:=(d.l[j]?).getD (.i 0)
def pZ (l:List UInt8):D:=dL (l.map fun b=> .i (b.toNat:Int))
def tJ (s:ByteArray):D:=pZ s.data.toList
def ld (l:List Nat):D:=dL (l.map fun b=> .i (Int.ofNat b))
theorem Pf {a b:List UInt8} (h:pZ a=pZ b):a=b:=by
 have:=Fb h
 have LA: ∀{x y:UInt8},(D.i (x.toNat:Int))= .i (y.toNat:Int)->x=y:=by intro x y h;simp only [D.i.injEq,anT] at h;exact UInt8.toNat_inj.1 h
 induction a generalizing b with
 |nil=>cases b with
  |nil=>rfl
  |cons y b=>simp at this
 |cons x a ih=>cases b with
  |nil=>simp at this
  |cons y b=> simp only [ax,List.cons.injEq] at this;rw [LA this.1,ih (by unfold pZ; rw [this.2]) this.2]
theorem E8 {a b:ByteArray} (h:tJ a=tJ b):a=b:=by
 have:=Pf h
 cases a with
 |mk x=>cases b with
  |mk y=>simp only [ByteArray.mk.injEq] at *; exact aoa.1 this
theorem Ae (l:List Nat) (h: ∀b∈l,b<256):ld l=pZ (l.map UInt8.ofNat):=by unfold ld pZ;congr 1;rw [amQ];apply anA;intro b hb;have:=h b hb;simp [amY this]
theorem ZY (s:ByteArray):(tJ s).l.length=s.size:=by unfold tJ pZ;rw [bI,aP];rfl
inductive eZ where
 |len
 |at
 |cell (j:Nat)
 |num
 |mk
 |cons
 |snoc
 |cat
 |take
 |drop
 |set
 |bit
 |norm
 |sub
 |fill
 |idx
 |cnt
 |con
 |slt
 |K6
 |DX
 |u5
 |K8
 |rep
 |sort
 |comp
 |Ms
 deriving DecidableEq,Inhabited
def eW (d:D) (l:List D):D:=match l with
 |[]=>if d= .i 1 then .i 1 else .i 2
 |l=>dL l
theorem fc (d:D) (l:List D):(eW d l).l=l:=by
 cases l with
 |nil=>simp only [eW]; split<;>rfl
 |cons a l=>simp [eW]
theorem vH {d:D} {l:List D} (h:l≠[]):eW d l=dL l:=by
 cases l with
 |nil=>exact absurd rfl h
 |cons a l=>rfl
theorem pd {d:D} (h:d≠.i 1):eW d []= .i 2:=by
 show (if d= .i 1 then D.i 1 else D.i 2)= .i 2
 grind
theorem Uu {d:D} (h:d≠.i 1) (l:List D):eW d l≠.i 1:=by
 cases l with
 |nil=>rw [pd h]; simp
 |cons a l=>simp [eW,dL]
theorem yj {d:D} {l m:List D} (h:d= .i 1->l= []):eW (eW d l) m=eW d m:=by
 cases m with
 |cons a m=>rfl
 |nil=>
  by_cases U:d= .i 1
  ·rw [h U,U]; rfl
  ·rw [pd U,pd (Uu U l)]
def qT (z:Int):List D->Int->Int
 |[],_=> -1
 |d::l,i=>match d with
  | .i n=>if n=z then i else qT z l (i+1)
  |_=>qT z l (i+1)
def Fc (l:List D) (z:Int):Int:=qT z l 0
def Pd:List D->List D->Bool
 |[],_=>true
 |_::_,[]=>false
 |a::x,b::y=>decide (a=b)&&Pd x y
def Uw (l x:List D):Bool:=match l with
 |[]=>Pd x []
 |a::l=>Pd x (a::l)||Uw l x
def Z4 (l:List D) (z:Int):Int:=match l with
 |[]=>0
 |d::l=>(if d= .i z then 1 else 0)+Z4 l z
def Ml:List D->List D->Bool
 |[],[]=>false
 |[],_::_=>true
 |_::_,[]=>false
 |a::x,b::y=>if a.n<b.n then true else if b.n<a.n then false else Ml x y
def fb (ds:List D) (z:Int) (x:D):List D:=if z<0 then ds else ds.set z.toNat x
theorem fB (ds:List D) (z:Int) (x:D):(fb ds z x).length=ds.length:=by
 unfold fb; split
 all_goals grind
theorem pq (ds:List D) (k:Nat) (x:D):fb ds (k:Int) x=ds.set k x:=by unfold fb; rw [af J]; rfl
def ji:D->D
 | .p k _=>k
 |d=>d
def FW:D->D
 | .p _ v=>v
 |d=>d
def gv:List D->D->Option D
 |[],_=>none
 |d::l,k=>if ji d=k then some (FW d) else gv l k
def lP:List D->D->D->List D
 |[],k,v=>[.p k v]
 |d::l,k,v=>if ji d=k then .p k v::l else d::lP l k v
def FN:List D->D->List D
 |[],_=>[]
 |d::l,k=>if ji d=k then l else d::FN l k
def eN (l:List D):List D:=((l.map D.n).mergeSort fun x y=>decide (x<=y)).map D.i
def gg (l:List D):List D:=(Lib.compact (l.map D.n)).map D.i
noncomputable def eZ.den (o:eZ) (x y:Int):Int:=match o with
 | .len=>((dec x).l.length:Int)
 | .at=>enc ((dec x).at y)
 | .cell j=>enc ((dec x).hd j)
 | .num=>(dec x).n
 | .mk=>enc (.i x)
 | .cons=>enc (.p (dec x) (dec y))
 | .snoc=>enc (dL ((dec x).l++ [dec y]))
 | .cat=>enc (dL ((dec x).l++(dec y).l))
 | .take=>enc (eW (dec x) ((dec x).l.take y.toNat))
 | .drop=>enc (eW (dec x) ((dec x).l.drop y.toNat))
 | .set=>match dec y with
   | .p q v=>enc (dL (fb (dec x).l q.n v))
   |_=>x
 | .bit=>enc (.i (if (dec x).n=0 then 0 else 1))
 | .norm=>enc (dec x)
 | .sub=>enc (dL (((dec x).l.take ((dec y).hd 1).n.toNat).drop ((dec y).hd 0).n.toNat))
 | .fill=>match dec y with
   | .p q v=>enc (dL ((dec x).l.take q.n.toNat++List.replicate ((dec x).l.length-q.n.toNat) v))
   |_=>x
 | .idx=>Fc (dec x).l y
 | .cnt=>Z4 (dec x).l y
 | .con=>if Uw (dec x).l (dec y).l then 1 else 0
 | .slt=>if Ml (dec x).l (dec y).l then 1 else 0
 | .K6=>if (gv (dec x).l (dec y)).isSome then 1 else 0
 | .DX=>enc ((gv (dec x).l (dec y)).getD (.i 0))
 | .u5=>match dec y with
   | .p k v=>enc (dL (lP (dec x).l k v))
   |_=>x
 | .K8=>enc (dL (FN (dec x).l (dec y)))
 | .rep=>enc (dL (List.replicate x.toNat (dec y)))
 | .sort=>enc (dL (eN (dec x).l))
 | .comp=>enc (dL (gg (dec x).l++List.replicate ((dec x).l.length-(gg (dec x).l).length) (.i 0)))
 | .Ms=>((gg (dec x).l).length:Int)
def eZ.tag:eZ->Nat
 | .len=>0
 | .at=>1
 | .cell j=>j+26
 | .num=>2
 | .mk=>3
 | .cons=>4
 | .snoc=>5
 | .cat=>6
 | .take=>7
 | .drop=>8
 | .set=>9
 | .bit=>10
 | .norm=>11
 | .sub=>12
 | .fill=>13
 | .idx=>14
 | .cnt=>15
 | .con=>16
 | .slt=>17
 | .K6=>18
 | .DX=>19
 | .u5=>20
 | .K8=>21
 | .rep=>22
 | .sort=>23
 | .comp=>24
 | .Ms=>25
theorem eZ.F? {a b:eZ} (h:a.tag=b.tag):a=b:=by
 cases a<;>cases b<;>simp only [eZ.tag] at h<;>first |rfl|(congr 1; omega)|omega
inductive CK where
 |int (k:IntKind)
 |bool
 |str
 |sl (t:Nat)
 deriving DecidableEq,Inhabited
inductive Row where
 |one (c:CK)
 |many (cs:List CK)
 deriving DecidableEq,Inhabited
def Row.es:Row->Nat
 | .one _=>1
 | .many cs=>cs.length
def rowOf (t:Nat):Row:=match t with
 |0=> .one (.int .i64)
 |1=> .one (.int .i64)
 |2=> .one .str
 |3=> .many [.int .u8,.str,.int .i64,.str,.int .i64]
 |4=> .many [.str,.sl 2,.sl 5]
 |5=> .many [.int .u8,.int .u8,.int .i64,.int .i64,.int .i64,.int .i64,.sl 6]
 |6=> .many [.int .u8,.str,.int .i64,.sl 6]
 |7=> .many [.int .i64,.int .i64,.bool,.int .i64,.sl 0,.sl 0]
 |8=> .many [.int .i64,.sl 0,.int .u8,.int .i64,.int .i64,.int .i64]
 |9=> .many [.int .i64,.int .u8,.int .i64,.int .i64,.int .i64]
 |10=> .one (.sl 0)
 |11=> .many [.int .i64,.int .i64,.int .i64]
 |12=> .many [.int .i64,.int .i64]
 |13=> .many [.int .i64,.int .u8,.int .i64,.int .i64,.int .i64]
 |14=> .one (.int .u8)
 |15=> .one (.sl 0)
 |16=> .many [.sl 7,.sl 8]
 |_=> .one .bool
def mapOf (t:Nat):Row×Row:=match t with
 |0=>(.one (.int .i64),.one (.int .i64))
 |1=>(.one .str,.one (.int .i64))
 |2=>(.one (.int .i64),.one (.sl 0))
 |4=>(.many [.int .i64,.int .i64],.one (.int .i64))
 |5=>(.many [.int .i64,.int .i64],.one (.sl 0))
 |6=>(.one (.int .i64),.many [.int .i64,.int .i64,.int .i64])
 |_=>(.one (.int .i64),.one .bool)
inductive FC where
 |ck (c:CK)
 |own (t:Nat)
 |mp (t:Nat)
 deriving DecidableEq,Inhabited
structure FK where
 ptr:Bool
 cs:List FC
def qQ (t:Nat):FK:=match t with
 |0=> ⟨false,[.own 0]⟩
 |1=> ⟨true,[.ck (.int .i64),.mp 0,.ck (.int .i64),.ck (.int .i64),.ck .bool,.own 0]⟩
 |_=> ⟨true,[.ck (.sl 0),.ck (.int .i64),.ck .bool,.ck .bool]⟩
def oh (c:CK) (d:D):Prop:=match c with
 | .int _=>d= .i d.n
 | .bool=>d= .i 0\/d= .i 1
 |_=>True
def wU (cs:List CK) (d:D):Prop:=d=dL d.l/\d.l.length=cs.length/\∀(j:Nat) (c:CK) (x:D),cs[j]?=some c->d.l[j]?=some x->oh c x
def oI (r:Row) (d:D):Prop:=match r with
 | .one c=>oh c d
 | .many cs=>wU cs d
def sB (r:Row) (d:D):Prop:=d=dL d.l/\(∀x∈d.l,oI r x)/\d.l≠[]
end Go.As
end
section
namespace Go.As
noncomputable section
inductive V where
 |lit (n:Int)
 |dH (i:Nat)
 |add (a b:V)
 |sub (a b:V)
 |mul (a b:V)
 |quo (a b:V)
 |rem (a b:V)
 |wrap (k:IntKind) (a:V)
 |wy (b:Nat) (e:V)
 |eg (d:D)
 |op (o:eZ) (a b:V)
 |ap (f:Nat) (a:V)
 deriving DecidableEq,Inhabited
def iZ (f:Nat) (z:Int):Nat:=1000+oA f (zN z)*64+63
noncomputable def V.den (ρ:Nat->Int):V->Int
 | .lit n=>n
 | .dH i=>ρ i
 | .add a b=>a.den ρ+b.den ρ
 | .sub a b=>a.den ρ-b.den ρ
 | .mul a b=>a.den ρ*b.den ρ
 | .quo a b=>(a.den ρ).tdiv (b.den ρ)
 | .rem a b=>(a.den ρ).tmod (b.den ρ)
 | .wrap k a=>k.wrap (a.den ρ)
 | .wy b e=>ρ (1000+(e.den ρ).toNat*64+b)
 | .eg d=>enc d
 | .op o a b=>o.den (a.den ρ) (b.den ρ)
 | .ap f a=>ρ (iZ f (a.den ρ))
def u9:Int->Int->Bool
 | .ofNat a,.ofNat b=>Nat.beq a b
 | .negSucc a,.negSucc b=>Nat.beq a b
 |_,_=>false
def D.eqb:D->D->Bool
 | .i a,.i b=>u9 a b
 | .p a b,.p c d=>match D.eqb a c with |true=>D.eqb b d|false=>false
 |_,_=>false
theorem wx {a b:Int} (h:u9 a b=true):a=b:=by cases a<;>cases b<;>simp [u9] at h<;>rw [h]
theorem D.OX: ∀{a b:D},D.eqb a b=true->a=b
 | .i a,.i b,h=>by simp only [D.eqb] at h; rw [wx h]
 | .p a b,.p c d,h=>by
   simp only [D.eqb] at h;split at h
   ·rename_i U; rw [D.OX U,D.OX h]
   grind
 | .i _,.p _ _,h=>by simp [D.eqb] at h
 | .p _ _,.i _,h=>by simp [D.eqb] at h
def eT:V->V->Bool
 | .lit a,.lit b=>a == b
 | .dH i,.dH j=>Nat.beq i j
 | .add a b,.add c d=>match eT a c with |true=>eT b d|false=>false
 | .sub a b,.sub c d=>match eT a c with |true=>eT b d|false=>false
 | .mul a b,.mul c d=>match eT a c with |true=>eT b d|false=>false
 | .quo a b,.quo c d=>match eT a c with |true=>eT b d|false=>false
 | .rem a b,.rem c d=>match eT a c with |true=>eT b d|false=>false
 | .wrap k a,.wrap l b=>match eT a b with |true=>decide (k=l)|false=>false
 | .wy i a,.wy j b=>match Nat.beq i j with |true=>eT a b|false=>false
 | .eg a,.eg b=>D.eqb a b
 | .op o a b,.op q c d=>match Nat.beq o.tag q.tag with
   |true=>match eT a c with |true=>eT b d|false=>false
   |false=>false
 | .ap f a,.ap g b=>match Nat.beq f g with |true=>eT a b|false=>false
 |_,_=>false
theorem cH: ∀(a b:V),eT a b=true->a=b
 | .lit a,b,h=>by cases b<;>simp [eT] at h; rw [h]
 | .dH i,b,h=>by cases b<;>simp [eT] at h; rw [h]
 | .add a b,c,h=>by cases c<;>simp only [eT,aQ] at h; split at h<;>first |(rename_i U; rw [cH _ _ U,cH _ _ h]; done)|simp at h
 | .sub a b,c,h=>by cases c<;>simp only [eT,aQ] at h; split at h<;>first |(rename_i U; rw [cH _ _ U,cH _ _ h]; done)|simp at h
 | .mul a b,c,h=>by cases c<;>simp only [eT,aQ] at h; split at h<;>first |(rename_i U; rw [cH _ _ U,cH _ _ h]; done)|simp at h
 | .quo a b,c,h=>by cases c<;>simp only [eT,aQ] at h; split at h<;>first |(rename_i U; rw [cH _ _ U,cH _ _ h]; done)|simp at h
 | .rem a b,c,h=>by cases c<;>simp only [eT,aQ] at h; split at h<;>first |(rename_i U; rw [cH _ _ U,cH _ _ h]; done)|simp at h
 | .wrap k a,c,h=>by cases c<;>simp only [eT,aQ] at h; split at h<;>first |(rename_i U; rw [cH _ _ U,of_decide_eq_true h]; done)|simp at h
 | .wy i a,c,h=>by cases c<;>simp only [eT,aQ] at h; split at h<;>first |(rename_i U; rw [aq U,cH _ _ h]; done)|simp at h
 | .eg a,c,h=>by cases c<;>simp only [eT,aQ] at h; rw [D.OX h]
 | .op o a b,c,h=>by
   cases c<;>simp only [eT,aQ] at h;split at h
   ·rename_i h0;split at h
    ·rename_i U;rw [eZ.F? (aq h0),cH _ _ U,cH _ _ h]
    grind
   grind
 | .ap f a,c,h=>by cases c<;>simp only [eT,aQ] at h; split at h<;>first |(rename_i U; rw [aq U,cH _ _ h]; done)|simp at h
inductive SB where
 |lit (b:Bool)
 |lt (a b:V)
 |le (a b:V)
 |eq (a b:V)
 |not (s:SB)
 |and (a b:SB)
 deriving DecidableEq,Inhabited
noncomputable def SB.den (ρ:Nat->Int):SB->Bool
 | .lit b=>b
 | .lt a b=>decide (a.den ρ<b.den ρ)
 | .le a b=>decide (a.den ρ<=b.den ρ)
 | .eq a b=>a.den ρ == b.den ρ
 | .not s=>!(s.den ρ)
 | .and a b=>a.den ρ&&b.den ρ
def sj (k:IntKind) (n:Int):Int:=
 match k with
 | .i64=>if -9223372036854775808<=n/\n<=9223372036854775807 then n else k.wrap n
 | .u8=>if 0<=n/\n<=255 then n else k.wrap n
 |_=>k.wrap n
inductive MN where
 |exact (c:Nat)
 |rest (es:Nat)
 deriving DecidableEq,Inhabited
inductive W where
 |bool (b:SB)
 |int (k:IntKind) (e:V)
 |str (s:List Nat)
 |ptr (id off:Nat)
 |sV
 |mJ (cells:List W)
 |slice (id off len:Nat) (c:MN)
 |dv
 |ro (cells:List W) (n:Nat) (full:Bool)
 |map (id:Nat)
 |ri
 |func (fn:Fn) (fs cs:List W)
 |u4
 |iface (t:Nat) (v:W)
 |wY
 |agg (cs:List W)
 |tuple (vs:List W)
 |Kc (i:Nat)
 |wy (k:Nat) (ks:List IntKind)
 |eg (e:V) (t:Nat)
 |jD (e:V)
 |oq (id:Nat) (n:V) (t:Nat)
 |yu (id es:Nat) (i:V) (off:Nat)
 |emp
 |sD (id:Nat) (lo n:V) (t:Nat)
 |any
 |w4 (z:V) (t:Nat)
 deriving Inhabited
def W.undef:W:=.tuple []
def W.cells:W->List W
 | .agg cs=>cs
 |v=>[v]
def W.one:W->Bool
 | .agg _=>false
 | .tuple _=>false
 | .Kc _=>false
 | .any=>false
 |_=>true
inductive dP where
 |cells (cs:List W) (e:TypeId)
 |map (es:List (W×W×Nat)) (clock:Nat)
 |j4 (s:List Nat) (pos:Nat)
 |jt (m:Option Nat) (since:Nat) (seen:List Nat) (last:Nat)
 |vec (e:V) (t:Nat) (ty:TypeId) (ov:List (V×List W))
 |jT (e:V) (t:Nat)
 |ur (e:V) (t:Nat) (eY:List Nat) (ov:List (V×W))
 deriving Inhabited
structure Hp where
 m:Tr dP
 next:Nat
 res:Option Nat:=none
 deriving Inhabited
def Hp.get (h:Hp) (i:Nat):Option dP:=h.m.get i
def Hp.put (h:Hp) (i:Nat) (o:dP):Hp:=⟨h.m.put i (some o),h.next,h.res⟩
def Hp.drop (h:Hp) (i:Nat):Hp:=⟨h.m.put i none,h.next,h.res⟩
def Hp.fresh (h:Hp):Nat:=match h.res with
 |none=>h.next
 |some r=>r
def Hp.new (h:Hp) (o:dP):Hp:=match h.res with
 |none=> ⟨h.m.put h.next (some o),h.next+1,none⟩
 |some r=> ⟨h.m.put r (some o),h.next,none⟩
inductive T (α:Type) where
 |fail
 |ret (a:α)
 |split (c:SB) (t f:T α)
 deriving Inhabited
def T.bind {α β:Type}:T α->(α->T β)->T β
 | .fail,_=> .fail
 | .ret a,f=>f a
 | .split c x y,f=> .split c (x.bind f) (y.bind f)
def T.leaf {α:Type} (ρ:Nat->Int):T α->Option α
 | .fail=>none
 | .ret a=>some a
 | .split c x y=>match c.den ρ with
   |true=>x.leaf ρ
   |false=>y.leaf ρ
inductive TK where
 |bool
 |int (k:IntKind)
 |string
 |pointer (e:Nat)
 |slice (e:Nat)
 |array (n e:Nat)
 |map (k e:Nat)
 |struct (fs:List (Nat×Nat×Nat))
 |func
 |iface (plain:Bool)
 |tuple
 deriving DecidableEq,Inhabited
structure TI where
 kind:TK
 size:Nat
 bytes:Nat
 zero:List W
 eqs:Bool
 own:Option Nat:=none
 deriving Inhabited
def TK.agg (k:TK):Bool:=match k with | .struct _=>true| .array _ _=>true|_=>false
def TI.agg (i:TI):Bool:=i.kind.agg
abbrev TT:=Nat->Option TI
def bytesOf (s:ByteArray):List Nat:=s.data.toList.map (·.toNat)
def gH:Value->Option W
 | .bool b=>some (.bool (.lit b))
 | .int k n=>some (.int k (.lit n))
 | .string s=>some (.str (bytesOf s))
 | .pointer none=>some .sV
 | .slice none 0 0=>some .dv
 | .map none=>some .ri
 | .nilFunc=>some .u4
 | .nilIface=>some .wY
 | .func fn f c=>if f.isEmpty&&c.isEmpty then some (.func fn [] []) else none
 |_=>none
def kM:List Value->Option (List W)
 |[]=>some []
 |v::vs=>match gH v with
  |none=>none
  |some a=>match kM vs with
   |none=>none
   |some amB=>some (a::amB)
def ofConst:Value->Option W
 | .agg cs=>(kM cs.toList).map .agg
 | .tuple vs=>(kM vs.toList).map .tuple
 |v=>gH v
def qB (a b:V):SB:=match eT a b with
 |true=> .lit true
 |false=>match a with
  | .eg _=> .eq b a
  |_=> .eq a b
def yJ (x:V):V:=match x with
 | .op o a _=>match o with
   | .mk=>a
   |_=> .op .num x (.lit 0)
 | .eg d=>match d with
   | .i n=> .lit n
   |_=> .op .num x (.lit 0)
 |_=> .op .num x (.lit 0)
def mY (x:V):V:=match x with
 | .lit n=> .eg (.i n)
 |x=> .op .mk x (.lit 0)
def iL (j:Nat) (x:V):V:=match x with
 | .op o a b=>match o with
   | .cons=>match j with
     |0=>a
     |j+1=>iL j b
   |_=> .op (.cell j) x (.lit 0)
 |_=> .op (.cell j) x (.lit 0)
def dO (x:V):V:=match x with
 | .op o a _=>match o with
   | .set=>dO a
   |_=> .op .len x (.lit 0)
 | .eg d=> .lit (Int.ofNat d.l.length)
 |_=> .op .len x (.lit 0)
def eD (a b:V):V:=.op .cons a b
def N9 (x:V):Bool:=match x with
 | .eg d=>match d with
   | .i n=>u9 n 0
   |_=>false
 |_=>false
def vJ (c:CK) (x:V):W:=match c with
 | .int k=> .int k (yJ x)
 | .bool=> .bool (.not (.eq (yJ x) (.lit 0)))
 | .str=> .jD x
 | .sl t=> .eg x t
def iw:List CK->Nat->V->List W
 |[],_,_=>[]
 |c::cs,j,x=>vJ c (iL j x)::iw cs (j+1) x
def gz (r:Row) (x:V):List W:=match r with
 | .one c=>[vJ c x]
 | .many cs=>iw cs 0 x
def mw (x:V):V:=match x with
 | .eg d=> .eg d
 | .op o a b=>match o with
   | .cell j=> .op (.cell j) a b
   | .at=> .op .at a b
   |o=> .op .norm (.op o a b) (.lit 0)
 |x=> .op .norm x (.lit 0)
def tT:W->Option V
 | .str l=>some (.eg (ld l))
 | .jD e=>some e
 |_=>none
def Bz (x y:W):Option SB:=match tT x with
 |none=>none
 |some a=>match tT y with
  |none=>none
  |some b=>some (qB (mw a) (mw b))
def lS (c:CK) (v:W):Option V:=match c with
 | .int k=>match v with
   | .int k' e=>if k=k' then some (mY e) else none
   |_=>none
 | .bool=>match v with
   | .bool c=>match c with
     | .lit b=>some (.eg (.i (if b then 1 else 0)))
     | .not d=>match d with
       | .eq x z=>match z with
         | .lit n=>if n=0 then some (.op .bit (mY x) (.lit 0)) else none
         |_=>none
       |_=>none
     |_=>none
   |_=>none
 | .str=>tT v
 | .sl t=>match v with
   | .eg e t'=>if t=t' then some e else none
   | .dv=>some (.eg (.i 1))
   | .w4 z t'=>if t=t' then some z else none
   | .slice _ _ n _=>match n with
     |0=>some (.eg (.i 2))
     |_=>none
   |_=>none
def iu:List CK->List W->Option V
 |[],[]=>some (.eg (.i 0))
 |c::cs,v::vs=>match lS c v with
  |none=>none
  |some a=>match iu cs vs with
   |none=>none
   |some b=>some (eD a b)
 |_,_=>none
def qV (r:Row) (cs:List W):Option V:=match r with
 | .one c=>match cs with
   |[v]=>lS c v
   |_=>none
 | .many ks=>iu ks cs
def kz (r:Row) (e:V):Nat->List W->Option V
 |0,[]=>some e
 |0,_::_=>none
 |m+1,cs=>match qV r (cs.take r.es) with
  |none=>none
  |some x=>kz r (.op .snoc e x) m (cs.drop r.es)
structure St where
 bE:Tr W
 h:Hp
 pc:List (SB×Bool)
 deriving Inhabited
def St.set (s:St) (t:Nat) (v:W):St:={ s with bE:=s.bE.put t (some v) }
def St.KF (s:St) (d:Option Nat) (v:W):St:=match d with |some t=>s.set t v|none=>s
def ev (s:St):Operand->Option W
 | .tmp t=>s.bE.get t
 | .const v=>ofConst v
 | .func f=>some (.func (.func f) [] [])
 | .global _=>none
def evs (s:St):List Operand->Option (List W)
 |[]=>some []
 |x::xs=>match ev s x with
  |none=>none
  |some a=>match evs s xs with
   |none=>none
   |some amB=>some (a::amB)
def n9:SB->SB->Bool
 | .lit a,.lit b=>a == b
 | .lt a b,.lt c d=>match eT a c with |true=>eT b d|false=>false
 | .le a b,.le c d=>match eT a c with |true=>eT b d|false=>false
 | .eq a b,.eq c d=>match eT a c with |true=>eT b d|false=>false
 | .not a,.not b=>n9 a b
 | .and a b,.and c d=>match n9 a c with |true=>n9 b d|false=>false
 |_,_=>false
theorem rR: ∀(a b:SB),n9 a b=true->a=b
 | .lit a,b,h=>by cases b<;>simp [n9] at h; rw [h]
 | .lt a b,c,h=>by cases c<;>simp only [n9,aQ] at h; split at h<;>first |(rename_i U; rw [cH _ _ U,cH _ _ h]; done)|simp at h
 | .le a b,c,h=>by cases c<;>simp only [n9,aQ] at h; split at h<;>first |(rename_i U; rw [cH _ _ U,cH _ _ h]; done)|simp at h
 | .eq a b,c,h=>by cases c<;>simp only [n9,aQ] at h; split at h<;>first |(rename_i U; rw [cH _ _ U,cH _ _ h]; done)|simp at h
 | .not a,c,h=>by cases c<;>simp only [n9,aQ] at h; rw [rR _ _ h]
 | .and a b,c,h=>by cases c<;>simp only [n9,aQ] at h; split at h<;>first |(rename_i U; rw [rR _ _ U,rR _ _ h]; done)|simp at h
def nh (c:SB):List (SB×Bool)->Option Bool
 |[]=>none
 |(d,b)::l=>match n9 c d with
  |true=>some b
  |false=>nh c l
def Xz (a:Option Int) (z:Int):Option Int:=match a with
 |none=>some z
 |some y=>some (if y<z then z else y)
def Xx (a:Option Int) (z:Int):Option Int:=match a with
 |none=>some z
 |some y=>some (if z<y then z else y)
def Xj (a:Option Int) (z:Int):Option Int:=match a with
 |none=>none
 |some y=>some (if y=z then z+1 else y)
def Xl (a:Option Int) (z:Int):Option Int:=match a with
 |none=>none
 |some y=>some (if y=z then z-1 else y)
def Sz (e:V):Option Int×Option Int:=match e with
 | .rem a c=>match c with
   | .lit k=>match a with
     | .add b d=>match d with
       | .lit m=>match b with
         | .rem _ f=>match f with
           | .lit n=>if 0<n/\n=m/\m=k then (some 0,some (n-1)) else (none,none)
           |_=>(none,none)
         |_=>(none,none)
       |_=>(none,none)
     |_=>(none,none)
   |_=>(none,none)
 | .op o _ _=>match o with
   | .len=>(some 0,none)
   |_=>(none,none)
 |_=>(none,none)
def bounds (e:V):List (SB×Bool)->Option Int×Option Int
 |[]=>Sz e
 |(c,v)::l=>match c with
  | .lt x y=>match x with
    | .lit z=>match eT y e with
      |false=>bounds e l
      |true=>match bounds e l with
       |(lo,hi)=>match v with
        |true=>(Xz lo (z+1),hi)
        |false=>(lo,Xx hi z)
    |x=>match y with
     | .lit z=>match eT x e with
       |false=>bounds e l
       |true=>match bounds e l with
        |(lo,hi)=>match v with
         |true=>(lo,Xx hi (z-1))
         |false=>(Xz lo z,hi)
     |_=>bounds e l
  | .eq x y=>match y with
    | .lit z=>match v with
      |false=>match eT x e with
       |false=>bounds e l
       |true=>match bounds e l with
        |(lo,hi)=>(Xj lo z,Xl hi z)
      |true=>match eT x e with
       |false=>bounds e l
       |true=>(some z,some z)
    |_=>bounds e l
  |_=>bounds e l
def oS (e:V) (pc:List (SB×Bool)):Option Int×Option Int:=match e with
 | .wrap k s=>match k with
   | .i64=>match s with
     | .add b d=>match d with
       | .lit c=>match bounds b pc with
         |(some lo,some hi)=>if -9223372036854775808<=lo+c/\hi+c<=9223372036854775807 then (match bounds e pc with
          |(l2,Z)=>(Xz l2 (lo+c),Xx Z (hi+c))) else bounds e pc
         |_=>bounds e pc
       |_=>bounds e pc
     |_=>bounds e pc
   |_=>bounds e pc
 |_=>bounds e pc
def QG (a b:V) (pc:List (SB×Bool)):Option Bool:=match nh (.eq a b) pc with
 |some v=>some v
 |none=>nh (.eq b a) pc
def decLt (pc:List (SB×Bool)) (a b:V):Option Bool:=match nh (.lt a b) pc with
 |some v=>some v
 |none=>match a with
  | .lit z=>match oS b pc with
    |(lo,hi)=>match lo with
     |some l=>if z<l then some true else match hi with
      |some h=>if h<=z then some false else none
      |none=>none
     |none=>match hi with
      |some h=>if h<=z then some false else none
      |none=>none
  |a=>match b with
   | .lit z=>match oS a pc with
     |(lo,hi)=>match hi with
      |some h=>if h<z then some true else match lo with
       |some l=>if z<=l then some false else none
       |none=>none
      |none=>match lo with
       |some l=>if z<=l then some false else none
       |none=>none
   |b=>match QG a b pc with
    |some true=>some false
    |some false=>match nh (.lt b a) pc with
     |some v=>some !v
     |none=>none
    |none=>match nh (.lt b a) pc with
     |some true=>some false
     |_=>none
def decEq (pc:List (SB×Bool)) (a b:V):Option Bool:=match QG a b pc with
 |some v=>some v
 |none=>match b with
  | .lit z=>match oS a pc with
    |(lo,hi)=>match lo with
     |some l=>if z<l then some false else match hi with
      |some h=>if h<z then some false else if l=z/\h=z then some true else none
      |none=>none
     |none=>match hi with
      |some h=>if h<z then some false else none
      |none=>none
  |b=>match nh (.lt a b) pc with
   |some true=>some false
   |some false=>match nh (.lt b a) pc with
    |some v=>some !v
    |none=>none
   |none=>match nh (.lt b a) pc with
    |some true=>some false
    |_=>none
def jL:V->Option (Sum Int D)
 | .lit n=>some (.inl n)
 | .eg d=>some (.inr d)
 | .op o a b=>match o with
   | .num=>match jL a with
     |some (.inr d)=>some (.inl d.n)
     |_=>none
   | .mk=>match jL a with
     |some (.inl n)=>some (.inr (.i n))
     |_=>none
   | .cons=>match jL a,jL b with
     |some (.inr x),some (.inr y)=>some (.inr (.p x y))
     |_,_=>none
   | .DX=>match jL a,jL b with
     |some (.inr x),some (.inr y)=>some (.inr ((gv x.l y).getD (.i 0)))
     |_,_=>none
   | .u5=>match jL a,jL b with
     |some (.inr x),some (.inr (.p k v))=>some (.inr (dL (lP x.l k v)))
     |_,_=>none
   | .K8=>match jL a,jL b with
     |some (.inr x),some (.inr y)=>some (.inr (dL (FN x.l y)))
     |_,_=>none
   | .K6=>match jL a,jL b with
     |some (.inr x),some (.inr y)=>some (.inl (if (gv x.l y).isSome then 1 else 0))
     |_,_=>none
   | .norm=>match jL a with
     |some (.inr x)=>some (.inr x)
     |_=>none
   |_=>none
 | .wrap k a=>match jL a with
   |some (.inl n)=>some (.inl (sj k n))
   |_=>none
 | .mul a b=>match jL a,jL b with
   |some (.inl x),some (.inl y)=>some (.inl (x*y))
   |_,_=>none
 | .quo a b=>match jL a,jL b with
   |some (.inl x),some (.inl y)=>some (.inl (x.tdiv y))
   |_,_=>none
 | .rem a b=>match jL a,jL b with
   |some (.inl x),some (.inl y)=>some (.inl (x.tmod y))
   |_,_=>none
 |_=>none
def C8 (pc:List (SB×Bool)) (c:SB):Option Bool:=
 match c with
 | .lit b=>some b
 | .lt a b=>match jL a,jL b with
   |some (.inl x),some (.inl y)=>some (decide (x<y))
   |_,_=>decLt pc a b
 | .eq a b=>match jL a,jL b with
   |some (.inl x),some (.inl y)=>some (decide (x=y))
   |_,_=>decEq pc a b
 |c=>nh c pc
def jR (pc:List (SB×Bool)) (c:SB):Option Bool:=
 match c with
 | .not s=>(C8 pc s).map (!·)
 |c=>C8 pc c
def jn {α:Type} (s:St) (c:SB) (f:St->Bool->T α):T α:=
 match jR s.pc c with
 |some b=>f s b
 |none=>match c with
  | .not d=> .split d (f { s with pc:=(d,true)::s.pc } false) (f { s with pc:=(d,false)::s.pc } true)
  |c=> .split c (f { s with pc:=(c,true)::s.pc } true) (f { s with pc:=(c,false)::s.pc } false)
def W1 (k:IntKind):V->V->V
 | .lit x,.lit y=> .lit (sj k (x+y))
 |a,b=> .wrap k (.add a b)
def PW (k:IntKind):V->V->V
 | .lit x,.lit y=> .lit (sj k (x-y))
 |a,b=> .wrap k (.sub a b)
def W0 (k:IntKind):V->V->V
 | .lit x,.lit y=> .lit (sj k (x*y))
 |a,b=> .wrap k (.mul a b)
def gV:V->V->SB
 | .lit x,.lit y=> .lit (decide (x<y))
 |a,b=> .lt a b
def L_:V->V->SB
 | .lit x,.lit y=> .lit (decide (x<=y))
 |a,b=> .not (.lt b a)
def ra:V->V->SB
 | .lit x,.lit y=> .lit (x == y)
 | .lit x,b=> .eq b (.lit x)
 |a,b=>match eT a b with
  |true=> .lit true
  |false=> .eq a b
def xb:SB->SB
 | .lit b=> .lit !b
 | .not s=>s
 |s=> .not s
def W3:SB->SB->SB
 | .lit true,b=>b
 | .lit false,_=> .lit false
 |a,.lit true=>a
 |_,.lit false=> .lit false
 |a,b=> .and a b
def bytesLess:List Nat->List Nat->Bool
 |_,[]=>false
 |[],_::_=>true
 |a::x,b::y=>if a.blt b then true else if a.beq b then bytesLess x y else false
def gC:List Nat->List Nat->Bool
 |[],[]=>true
 |a::x,b::y=>if a.beq b then gC x y else false
 |_,_=>false
def Ky (op:BinOp) (x y:List Nat):Option W:=
 match op with
 | .add=>if x.length+y.length<=1000000 then some (.str (x++y)) else none
 | .eql=>some (.bool (.lit (gC x y)))
 | .neq=>some (.bool (.lit !(gC x y)))
 | .lss=>some (.bool (.lit (bytesLess x y)))
 | .leq=>some (.bool (.lit (bytesLess x y||gC x y)))
 | .gtr=>some (.bool (.lit !(bytesLess x y||gC x y)))
 | .geq=>some (.bool (.lit !(bytesLess x y)))
 |_=>none
def Rh (op:BinOp) (k:IntKind) (a b:V):Option W:=
 match op with
 | .add=>some (.int k (W1 k a b))
 | .sub=>some (.int k (PW k a b))
 | .mul=>some (.int k (W0 k a b))
 | .quo=>match a,b with
   | .lit x,.lit y=>if y=0 then none else some (.int k (.lit (sj k (x.tdiv y))))
   |a,.lit y=>if y=0 then none else some (.int k (.wrap k (.quo a (.lit y))))
   |_,_=>none
 | .rem=>match a,b with
   | .lit x,.lit y=>if y=0 then none else some (.int k (.lit (x.tmod y)))
   |a,.lit y=>if y=0 then none else some (.int k (.rem a (.lit y)))
   |_,_=>none
 | .shr=>match a,b with
   | .lit x,.lit y=>if y<0 then none else some (.int k (.lit (x.fdiv (2 ^ (min y.toNat k.bits)))))
   |_,_=>none
 | .eql=>some (.bool (ra a b))
 | .neq=>some (.bool (xb (ra a b)))
 | .lss=>some (.bool (gV a b))
 | .leq=>some (.bool (L_ a b))
 | .gtr=>some (.bool (gV b a))
 | .geq=>some (.bool (L_ b a))
 |_=>none
def eX {α:Type}:List α->Nat->Option α
 |[],_=>none
 |x::_,0=>some x
 |_::xs,n+1=>eX xs n
def C5 (a b:SB):Option SB:=
 match a,b with
 | .lit x,.lit y=>some (.lit (x == y))
 | .lit x,b=>some (if x then b else xb b)
 |a,.lit y=>some (if y then a else xb a)
 |a,b=>some (.not (.and (.not (.and a b)) (.not (.and (.not a) (.not b)))))
def OY (k:TK) (x y:W):Option SB:=
 match k with
 | .int _=>match x,y with
   | .int k a,.int k' b=>if k=k' then some (ra a b) else none
   |_,_=>none
 | .string=>match x,y with
   | .str a,.str b=>some (.lit (gC a b))
   |x,y=>Bz x y
 | .bool=>match x,y with
   | .bool a,.bool b=>C5 a b
   |_,_=>none
 |_=>none
def YE (tt:TT) (xs ys:List W):List (Nat×Nat×Nat)->Option SB
 |[]=>some (.lit true)
 |(off,ft,_)::fs=>match tt ft with
  |none=>none
  |some i=>match eX xs off,eX ys off with
   |some x,some y=>match OY i.kind x y with
    |none=>none
    |some c=>match YE tt xs ys fs with
     |none=>none
     |some d=>some (W3 c d)
   |_,_=>none
def C3 (tt:TT) (t:Nat) (xs ys:List W):Option SB:=
 match tt t with
 |none=>none
 |some i=>match i.kind with
  | .struct fs=>if i.eqs then YE tt xs ys fs else none
  |_=>none
def j8:W->Option Int
 | .int _ (.lit n)=>some n
 |_=>none
def isNil (k:TK) (x:W):Option Bool:=
 match k with
 | .slice _=>match x with
   | .dv=>some true
   | .slice _ _ _ _=>some false
   | .ro _ _ _=>some false
   | .oq _ _ _=>some false
   |_=>none
 | .pointer _=>match x with
   | .sV=>some true
   | .ptr _ _=>some false
   | .mJ _=>some false
   |_=>none
 | .map _ _=>match x with
   | .ri=>some true
   | .map _=>some false
   |_=>none
 |_=>none
def afg (k:TK) (x y:W):Option SB:=
 match k with
 | .bool=>match x,y with
   | .bool a,.bool b=>C5 a b
   |_,_=>none
 |k=>match isNil k x,isNil k y with
  |some true,some b=>some (.lit b)
  |some false,some true=>some (.lit false)
  |_,_=>none
def Im (op:BinOp) (c:Option SB):Option W:=match c with
 |none=>none
 |some c=>match op with
  | .eql=>some (.bool c)
  | .neq=>some (.bool (.not c))
  |_=>none
def YD (tt:TT) (t:Nat) (op:BinOp) (x y:W):Option W:=
 match x with
 | .int k a=>match y with
   | .int k' b=>match op with
     | .shr=>Rh op k a b
     | .shl=>none
     |_=>if k=k' then Rh op k a b else none
   |_=>none
 | .str a=>match y with
   | .str b=>Ky op a b
   | .jD e=>Im op (Bz (.str a) (.jD e))
   |_=>none
 | .jD e=>Im op (Bz (.jD e) y)
 |_=>match tt t with
  |none=>none
  |some i=>match op,afg i.kind x y with
   | .eql,some c=>some (.bool c)
   | .neq,some c=>some (.bool (xb c))
   |_,_=>none
def afe (op:UnOp) (x:W):Option W:=
 match op,x with
 | .not,.bool b=>some (.bool (xb b))
 | .neg,.int k e=>some (.int k (PW k (.lit 0) e))
 |_,_=>none
def iy {α:Type}:Nat->List α->Option (List α)
 |0,_=>some []
 |_+1,[]=>none
 |n+1,x::xs=>match iy n xs with
  |some l=>some (x::l)
  |none=>none
def eE {α:Type}:Nat->List α->Option (List α)
 |0,l=>some l
 |_+1,[]=>none
 |n+1,_::xs=>eE n xs
def dX:List W->Nat->List W->Option (List W)
 |cs,0,[]=>some cs
 |[],0,_::_=>none
 |_::cs,0,v::vs=>match dX cs 0 vs with
  |some l=>some (v::l)
  |none=>none
 |[],_+1,_=>none
 |c::cs,n+1,vs=>match dX cs n vs with
  |some l=>some (c::l)
  |none=>none
def rB:List W->Bool
 |[]=>true
 |v::vs=>v.one&&rB vs
def mC (h:Hp) (p:W) (n:Nat):Option (List W):=
 match p with
 | .ptr id off=>match h.get id with
   |some (.cells cs _)=>match eE off cs with
    |some l=>iy n l
    |none=>none
   |_=>none
 | .mJ cs=>iy n cs
 |_=>none
def Bg (tt:TT) (t:Nat) (p:W) (h:Hp):Option W:=
 match tt t with
 |none=>none
 |some i=>match i.agg with
  |true=>(mC h p i.size).map .agg
  |false=>match mC h p 1 with
   |some (v::_)=>some v
   |_=>none
def Jn (tt:TT) (t:Nat) (p v:W) (h:Hp):Option Hp:=
 match tt t with
 |none=>none
 |some i=>
  if v.cells.length=i.size&&rB v.cells then
   match p with
   | .ptr id off=>match h.get id with
     |some (.cells cs e)=>match dX cs off v.cells with
      |some lE=>some (h.put id (.cells lE e))
      |none=>none
     |_=>none
   |_=>none
  else none
def tw (place:Nat->Option (Nat×Nat)) (cs:List W):List (Nat×W)->Option (List W)
 |[]=>some cs
 |(i,v)::rest=>match place i with
  |none=>none
  |some (off,size)=>
   if v.cells.length=size&&rB v.cells then
    match dX cs off v.cells with
    |some lE=>tw place lE rest
    |none=>none
   else none
def iz (tt:TT) (t:Nat):Option Nat:=(tt t).map (·.size)
def JB (tt:TT) (t:Nat) (parts:List (Nat×W)):Option W:=
 match tt t with
 |some i=>match i.kind with
  | .struct fs=>(tw (fun j=>(eX fs j).map fun f=>(f.1,f.2.2)) i.zero parts).map .agg
  | .array _ e=>match iz tt e with
    |some s=>(tw (fun j=>some (j*s,s)) i.zero parts).map .agg
    |none=>none
  |_=>none
 |none=>none
def dS {α:Type} (l:List α):Nat->List α
 |0=>[]
 |n+1=>l++dS l n
def tB (tt:TT) (t len:Nat) (parts:List (Nat×W)) (h:Hp):Option (W×Hp):=
 match tt t with
 |some i=>match i.kind with
  | .slice e=>match tt e with
    |some ie=>
     if len<=1000/\ie.size<=1000/\ie.zero.length=ie.size then
      match tw (fun j=>some (j*ie.size,ie.size)) (dS ie.zero len) parts with
      |some cs=>some (.slice h.fresh 0 len (.exact len),h.new (.cells cs e))
      |none=>none
     else none
    |none=>none
  |_=>none
 |none=>none
def qS (tt:TT) (t:Nat) (l c:W) (h:Hp):Option (W×Hp):=
 match j8 l with
 |some (.ofNat n)=>match j8 c with
  |some (.ofNat m)=>match tt t with
   |some i=>match i.kind with
    | .slice e=>match tt e with
      |some ie=>
       if n<=m/\m<=1000/\ie.size<=1000/\ie.bytes<=1000000/\ie.zero.length=ie.size then
        some (.slice h.fresh 0 n (.exact m),h.new (.cells (dS ie.zero m) e))
       else none
      |none=>none
    |_=>none
   |none=>none
  |_=>none
 |_=>none
def QD (off:Nat) (x:W):Option W:=match x with
 | .ptr id o=>some (.ptr id (o+off))
 | .yu id es i o=>some (.yu id es i (o+off))
 | .mJ cs=>(eE off cs).map .mJ
 |_=>none
def partOf (i:TI) (l:List W):Option W:=match i.agg with
 |true=>(iy i.size l).map .agg
 |false=>match l with
  |v::_=>some v
  |[]=>none
def vC (tt:TT) (t:Nat) (p:W) (f:Nat):Option W:=
 match tt t with
 |some i=>match i.kind with
  | .struct fs=>match eX fs f with
    |some (off,_,size)=>match size with
     |0=>none
     |_=>QD off p
    |none=>none
  |_=>none
 |none=>none
def Jt (tt:TT) (t:Nat) (x:W) (f:Nat):Option W:=
 match tt t with
 |some i=>match i.kind with
  | .struct fs=>match eX fs f with
    |some (off,ft,_)=>match tt ft,x with
     |some fi,.agg cs=>match eE off cs with
      |some l=>partOf fi l
      |none=>none
     |_,_=>none
    |none=>none
  |_=>none
 |none=>none
def nX (tt:TT) (t:Nat) (x ix:W):Option W:=
 match j8 ix with
 |some (.ofNat i)=>match tt t with
  |some ti=>match ti.kind with
   | .array n e=>if i<n then match iz tt e with
    |some s=>QD (i*s) x
    |none=>none
    else none
   | .slice e=>match iz tt e with
     |some s=>match x with
      | .slice id o len _=>if i<len then some (.ptr id (o+i*s)) else none
      | .ro cs n _=>if i<n then (eE (i*s) cs).map .mJ else none
      |_=>none
     |none=>none
   |_=>none
  |none=>none
 |_=>none
def va (k:Nat) (e:V):List IntKind->Nat->List W
 |[],_=>[]
 |kd::ks,j=> .int kd (.wy (k*8+j) e)::va k e ks (j+1)
def Js (tt:TT) (pc:List (SB×Bool)) (t k:Nat) (ks:List IntKind) (ix:W):Option W:=
 match ix with
 | .int _ e=>match tt t with
   |some ti=>match ti.kind with
    | .slice el=>match iz tt el with
      |some s=>if s=ks.length/\k<8/\s<=8 then match jR pc (gV e (.lit 0)),jR pc (gV e (.dH (900+k))) with
       |some false,some true=>some (.mJ (va k e ks 0))
       |_,_=>none
       else none
      |none=>none
    |_=>none
   |none=>none
 |_=>none
def zX (tt:TT) (t:Nat) (x ix:W):Option W:=
 match j8 ix with
 |some (.ofNat i)=>match tt t with
  |some ti=>match ti.kind,x with
   | .string,.str s=>(eX s i).map fun b=> .int .u8 (.lit (Int.ofNat b))
   | .array n e,.agg cs=>if i<n then match tt e with
    |some ie=>match eE (i*ie.size) cs with
     |some l=>partOf ie l
     |none=>none
    |none=>none
    else none
   |_,_=>none
  |none=>none
 |_=>none
def nD (x:Option W) (d:Nat) (y:Nat):Option Nat:=
 match x with
 |none=>if d<=y then some d else none
 |some v=>match j8 v with
  |some (.ofNat i)=>if i<=y then some i else none
  |_=>none
def zP (tt:TT) (t:Nat) (x:W) (lo hi mx:Option W):Option W:=
 match tt t with
 |none=>none
 |some ti=>match ti.kind with
  | .string=>match x,mx with
    | .str s,none=>match nD hi s.length s.length with
      |some h=>match nD lo 0 h with
       |some l=>some (.str ((s.take h).drop l))
       |none=>none
      |none=>none
    |_,_=>none
  | .slice e=>match iz tt e with
    |none=>none
    |some s=>match x with
     | .dv=>if mx.isSome&&hi.isNone then none else match nD hi 0 0,nD lo 0 0,nD mx 0 0 with
       |some _,some _,some _=>some .dv
       |_,_,_=>none
     | .slice id o len (.exact c)=>if mx.isSome&&hi.isNone then none else match nD mx c c with
       |none=>none
       |some m=>match nD hi len m with
        |none=>none
        |some h=>match nD lo 0 h with
         |none=>none
         |some l=>some (.slice id (o+l*s) (h-l) (.exact (m-l)))
     | .slice id o len (.rest es)=>match mx with
       |none=>match nD hi len len with
        |none=>none
        |some h=>match nD lo 0 h with
         |none=>none
         |some l=>if es=s then some (.slice id (o+l*s) (h-l) (.rest es)) else none
       |some _=>match hi,nD mx 0 len with
        |none,_=>none
        |_,none=>none
        |some _,some m=>match nD hi 0 m with
         |none=>none
         |some h=>match nD lo 0 h with
          |none=>none
          |some l=>some (.slice id (o+l*s) (h-l) (.exact (m-l)))
     | .ro cs n full=>match mx with
       |none=>match nD hi n n with
        |none=>none
        |some h=>match nD lo 0 h with
         |none=>none
         |some l=>match eE (l*s) cs with
          |none=>none
          |some d=>match iy ((h-l)*s) d with
           |none=>none
           |some d'=>some (.ro d' (h-l) (full&&h == n))
       |some _=>match hi,nD mx 0 n with
        |none,_=>none
        |_,none=>none
        |some _,some m=>match nD hi 0 m with
         |none=>none
         |some h=>match nD lo 0 h with
          |none=>none
          |some l=>match eE (l*s) cs with
           |none=>none
           |some d=>match iy ((h-l)*s) d with
            |none=>none
            |some d'=>some (.ro d' (h-l) (h == m))
     |_=>none
  | .array n e=>match iz tt e with
    |none=>none
    |some s=>match x with
     | .ptr id o=>if mx.isSome&&hi.isNone then none else match nD mx n n with
       |none=>none
       |some m=>match nD hi n m with
        |none=>none
        |some h=>match nD lo 0 h with
         |none=>none
         |some l=>some (.slice id (o+l*s) (h-l) (.exact (m-l)))
     |_=>none
  |_=>none
def EH (tt:TT) (t:Nat) (x:W) (lo hi mx:Option W) (h:Hp):Option W:=
 match mx with
 |some _=>none
 |none=>match tt t with
  |none=>none
  |some ti=>match ti.kind with
   | .slice e=>match iz tt e with
     |none=>none
     |some s=>match x with
      | .slice id o len (.rest es)=>if es=s/\0<s then match h.get id with
       |some (.cells cs _)=>match nD hi len ((cs.length-o) / s) with
        |none=>none
        |some hh=>match nD lo 0 hh with
         |none=>none
         |some l=>some (.slice id (o+l*s) (hh-l) (.rest es))
       |_=>none
       else none
      |_=>none
   |_=>none
def vK:List W->Option (List Nat)
 |[]=>some []
 | .int .u8 (.lit (.ofNat b))::xs=>if b<256 then match vK xs with
  |some l=>some (b::l)
  |none=>none
  else none
 |_::_=>none
def oZ (tt:TT) (sT dT:Nat) (x:W) (h:Hp):Option (W×Hp):=
 match tt sT with
 |none=>none
 |some j=>match tt dT with
 |some i=>match i.kind with
  | .int k=>match x with
    | .int _ (.lit n)=>some (.int k (.lit (sj k n)),h)
    | .int _ e=>some (.int k (.wrap k e),h)
    |_=>none
  | .string=>match j.kind with
   | .string=>match x with
     | .str s=>some (.str s,h)
     |_=>none
   | .slice e=>match tt e with
     |none=>none
     |some ie=>if ie.kind= .int .u8/\ie.size=1 then match x with
      | .dv=>some (.str [],h)
      | .slice id o len _=>match mC h (.ptr id o) len with
        |some cs=>(vK cs).map fun l=>(.str l,h)
        |none=>none
      |_=>none
      else none
   |_=>none
  | .slice e=>match tt e with
    |none=>none
    |some ie=>if ie.kind= .int .u8/\j.kind= .string then match x with
     | .str s=>some (.slice h.fresh 0 s.length (.rest 1),h.new (.cells (s.map fun c=> .int .u8 (.lit (Int.ofNat c))) e))
     |_=>none
     else none
  |_=>none
 |none=>none
def QT (pc:List (SB×Bool)) (kk:TK) (a b:W):Option Bool:=
 match kk with
 | .int _=>match a,b with
   | .int k x,.int k' y=>if k=k' then jR pc (ra x y) else none
   |_,_=>none
 | .string=>match a,b with
   | .str x,.str y=>some (gC x y)
   |x,y=>match Bz x y with
    |some c=>jR pc c
    |none=>none
 | .bool=>match a,b with
   | .bool (.lit x),.bool (.lit y)=>some (x == y)
   |_,_=>none
 |_=>none
def B3 (pc:List (SB×Bool)) (kk:TK) (k:W):List (W×W×Nat)->Nat->Option (Option (Nat×W))
 |[],_=>some none
 |(k',v,_)::es,i=>match QT pc kk k k' with
  |some true=>some (some (i,v))
  |some false=>B3 pc kk k es (i+1)
  |none=>none
def mu (k v:W):List (W×W×Nat)->Nat->List (W×W×Nat)
 |[],_=>[]
 |(_,_,b)::es,0=>(k,v,b)::es
 |e::es,n+1=>e::mu k v es n
def jC {α:Type}:List α->Nat->List α
 |[],_=>[]
 |_::xs,0=>xs
 |x::xs,n+1=>x::jC xs n
def wq (tt:TT) (t:Nat):Option TK:=match tt t with
 |some i=>match i.kind with
  | .int k=>some (.int k)
  | .string=>some .string
  | .bool=>some .bool
  |_=>none
 |none=>none
def zeroOf (i:TI):Option W:=
 match i.agg with
 |true=>some (.agg i.zero)
 |false=>match i.zero with
  |[v]=>some v
  |_=>none
def IK (m:W) (h:Hp):Option (List (W×W×Nat)):=match m with
 | .ri=>some []
 | .map id=>match h.get id with
   |some (.map es _)=>some es
   |_=>none
 |_=>none
def EK (tt:TT) (pc:List (SB×Bool)) (t:Nat) (m k:W) (ok:Bool) (h:Hp):Option W:=
 match tt t with
 |some ti=>match ti.kind with
  | .map kt et=>
    match wq tt kt with
    |none=>none
    |some kk=>
     match tt et with
     |none=>none
     |some ie=>
      match IK m h with
      |none=>none
      |some es=>match B3 pc kk k es 0 with
       |none=>none
       |some (some (_,v))=>some (if ok then .tuple [v,.bool (.lit true)] else v)
       |some none=>match zeroOf ie with
        |none=>none
        |some z=>some (if ok then .tuple [z,.bool (.lit false)] else z)
  |_=>none
 |none=>none
def qR (tt:TT) (pc:List (SB×Bool)) (t:Nat) (m k v:W) (h:Hp):Option Hp:=
 match tt t with
 |some ti=>match ti.kind with
  | .map kt _=>
    match wq tt kt with
    |none=>none
    |some kk=>match m with
     | .map id=>match h.get id with
       |some (.map es c)=>match B3 pc kk k es 0 with
        |none=>none
        |some (some (i,_))=>some (h.put id (.map (mu k v es i) c))
        |some none=>some (h.put id (match c with
         |0=> .map (es++ [(k,v,0)]) 0
         |c+1=> .map (es++ [(k,v,c)]) (c+2)))
       |_=>none
     |_=>none
  |_=>none
 |none=>none
def EN (tt:TT) (pc:List (SB×Bool)) (t:Nat) (m k:W) (h:Hp):Option Hp:=
 match tt t with
 |some ti=>match ti.kind with
  | .map kt _=>
    match wq tt kt with
    |none=>none
    |some kk=>match m with
     | .ri=>some h
     | .map id=>match h.get id with
       |some (.map es c)=>match B3 pc kk k es 0 with
        |none=>none
        |some (some (i,_))=>some (h.put id (.map (jC es i) c))
        |some none=>some (h.put id (.map es c))
       |_=>none
     |_=>none
  |_=>none
 |none=>none
def YB (tt:TT) (t:Nat) (x:W) (h:Hp):Option W:=
 let n (k:Nat):Option W:=some (.int .i64 (.lit (Int.ofNat k)))
 match tt t with
 |some ti=>match ti.kind with
  | .string=>match x with
    | .str s=>n s.length
    | .jD e=>some (.int .i64 (dO e))
    |_=>none
  | .slice _=>match x with
    | .dv=>n 0
    | .emp=>n 0
    | .w4 _ _=>n 0
    | .slice _ _ len _=>n len
    | .ro _ k _=>n k
    | .eg e _=>some (.int .i64 (dO e))
    | .oq _ e _=>some (.int .i64 e)
    | .sD _ _ e _=>some (.int .i64 e)
    | .wy k _=>some (.int .i64 (.dH (900+k)))
    |_=>none
  | .array k _=>n k
  | .map _ _=>match x with
    | .ri=>n 0
    | .map id=>match h.get id with
      |some (.map es _)=>n es.length
      |some (.jT e _)=>some (.int .i64 (dO e))
      |some (.ur e _ _ _)=>some (.int .i64 (dO e))
      |_=>none
    |_=>none
  |_=>none
 |none=>none
def rN (s:Nat) (x:W) (h:Hp):Option (Nat×List W):=
 match x with
 | .dv=>some (0,[])
 | .slice id o len _=>(mC h (.ptr id o) (len*s)).map fun l=>(len,l)
 | .ro cs n _=>(iy (n*s) cs).map fun l=>(n,l)
 | .str b=>if s=1 then some (b.length,b.map fun c=> .int .u8 (.lit (Int.ofNat c))) else none
 |_=>none
def nj (ie:TI) (e len m:Nat) (cs:List W) (h:Hp):Option (W×Hp):=
 if (len+m)*ie.bytes<=140737488355328 then some (.slice h.fresh 0 (len+m) (.rest ie.size),h.new (.cells cs e)) else none
def qe (ie:TI) (e m:Nat) (news:List W) (x:W) (h:Hp):Option (W×Hp):=
 match x with
 | .dv=>if m=0 then some (.dv,h) else nj ie e 0 m news h
 | .slice id o len (.exact c)=>
   if len+m<=c then
    match h.get id with
    |some (.cells cs e')=>match dX cs (o+len*ie.size) news with
     |some lE=>some (.slice id o (len+m) (.exact c),h.put id (.cells lE e'))
     |none=>none
    |_=>none
   else match mC h (.ptr id o) (len*ie.size) with
    |some old=>nj ie e len m (old++news) h
    |none=>none
 | .slice id o len (.rest es)=>
   if es=ie.size then
    match h.get id with
    |some (.cells cs e')=>
     if o+(len+m)*ie.size<=cs.length then
      match dX cs (o+len*ie.size) news with
      |some lE=>some (.slice id o (len+m) (.rest es),h.put id (.cells lE e'))
      |none=>none
     else if o+len*ie.size=cs.length/\e'=e then
      match eE o cs with
      |some old=>nj ie e len m (old++news) (h.drop id)
      |none=>none
     else none
    |_=>none
   else none
 | .ro cs n full=>
   if m=0 then some (.ro cs n full,h)
   else if full then match iy (n*ie.size) cs with
    |some old=>nj ie e n m (old++news) h
    |none=>none
   else none
 |_=>none
def EO (tt:TT) (t t2:Nat) (x y:W) (h:Hp):Option (W×Hp):=
 match tt t with
 |some ti=>match ti.kind with
  | .slice e=>match tt e with
    |some ie=>match tt t2 with
     |none=>none
     |some PH=>match PH.kind with
      | .int _=>none
      |_=>
       if ie.size=0\/ie.bytes=0\/¬ie.zero.length=ie.size then none else
       match rN ie.size y h with
       |none=>none
       |some (m,news)=>qe ie e m news x h
    |none=>none
  |_=>none
 |none=>none
def Jy (tt:TT) (t:Nat) (x:W) (h:Hp):Option Hp:=
 match tt t with
 |some ti=>match ti.kind with
  | .slice e=>match tt e with
    |some ie=>match x with
     | .dv=>some h
     | .w4 _ _=>some h
     | .slice id o len _=>match len with
       |0=>some h
       |_=>match ie.zero with
        |[]=>none
        |_=>match h.get id with
         |some (.cells cs e')=>match dX cs o (dS ie.zero len) with
          |some lE=>some (h.put id (.cells lE e'))
          |none=>none
         |_=>none
     |_=>none
    |none=>none
  |_=>none
 |none=>none
def Jo (tt:TT) (t:Nat) (x:W) (h:Hp):Option (W×Hp):=
 match tt t with
 |some ti=>match ti.kind with
  | .string=>match x with
    | .str b=>some (.ptr h.fresh 0,h.new (.j4 b 0))
    |_=>none
  | .map _ _=>match x with
    | .ri=>some (.ptr h.fresh 0,h.new (.jt none 0 [] 0))
    | .map id=>match h.get id with
      |some (.map _ (c+1))=>some (.ptr h.fresh 0,h.new (.jt (some id) c [] c))
      |_=>none
    |_=>none
  |_=>none
 |none=>none
def OH (x:W) (isS:Bool) (h:Hp):Option (W×Hp):=
 match isS with
 |false=>match x with
  | .ptr id 0=>match h.get id with
    |some (.jt none _ _ _)=>some (.tuple [.bool (.lit false)],h)
    |some (.jt (some m) since seen last)=>match h.get m with
     |some (.map [] (_+1))=>some (.tuple [.bool (.lit false)],h)
     |some (.map [(k,v,n)] (c+1))=>match seen with
      |[]=>if n<since then some (.tuple [.bool (.lit true),k,v],h.put id (.jt (some m) since [n] c)) else none
      |[y]=>if y=n/\n<last then some (.tuple [.bool (.lit false)],h) else none
      |_=>none
     |_=>none
    |_=>none
  |_=>none
 |true=>match x with
  | .ptr id 0=>match h.get id with
    |some (.j4 b p)=>match eX b p with
     |none=>some (.tuple [.bool (.lit false)],h)
     |some c=>if c<128 then some (.tuple [.bool (.lit true),.int .i64 (.lit (Int.ofNat p)),.int .i32 (.lit (Int.ofNat c))],h.put id (.j4 b (p+1))) else none
    |_=>none
  |_=>none
def Jv (x:W) (h:Hp):Option W:=match x with
 | .ptr id 0=>match h.get id with
   |some (.jt (some m) _ [y] last)=>match h.get m with
    |some (.map [(k,v,n)] (c+1))=>if n=y/\c=last then some (.tuple [k,v]) else none
    |_=>none
   |_=>none
 |_=>none
def tu (mx:Bool):List W->V->IntKind->St->T (W×St)
 |[],a,k,s=> .ret (.int k a,s)
 | .int _ b::xs,a,k,s=>jn s (if mx then gV a b else gV b a) fun s c=>if c then tu mx xs b k s else tu mx xs a k s
 |_,_,_,_=> .fail
def aef (s:St) (q:Bool) (k:IntKind) (e d:V):T (W×St):=jn s (ra d (.lit 0)) fun s c=>match c with
 |true=> .fail
 |false=> .ret (.int k (match q with |true=> .wrap k (.quo e d)|false=> .rem e d),s)
def HZ (s:St) (h:Option W) (k:Option W->St->T (W×St)):T (W×St):=match h with
 |some (.int .i64 e)=>jn s (ra e (.lit 0)) fun s c=>match c with
  |true=>k (some (.int .i64 (.lit 0))) s
  |false=> .fail
 |h=>k h s
def NO (op:BinOp) (a b:W):Option (Bool×IntKind×V×V):=
 match (match op with | .rem=>some false| .quo=>some true|_=>none) with
 |some q=>match a with
  | .int k e=>match b with
    | .int k' d=>match d with
      | .lit _=>none
      |d=>if k=k' then some (q,k,e,d) else none
    |_=>none
  |_=>none
 |none=>none
def pz (s:St) (v:Option W):T (W×St):=match v with |some v=> .ret (v,s)|none=> .fail
def NK (s:St) (h:Option Hp):T (W×St):=match h with |some h=> .ret (W.undef,{ s with h:=h })|none=> .fail
def BF (s:St) (r:Option (W×Hp)):T (W×St):=match r with |some (v,h)=> .ret (v,{ s with h:=h })|none=> .fail
def Hu (s:St):Option Operand->Option (Option W)
 |none=>some none
 |some x=>(ev s x).map some
def wH (s:St):List (Nat×Operand)->Option (List (Nat×W))
 |[]=>some []
 |(i,x)::xs=>match ev s x with
  |none=>none
  |some a=>match wH s xs with
   |none=>none
   |some amB=>some ((i,a)::amB)
def za {α:Type} (s:St) (i n:V) (f:St->T α):T α:=
 jn s (gV i (.lit 0)) fun s b=>match b with
  |true=> .fail
  |false=>jn s (gV i n) fun s b=>match b with
   |true=>f s
   |false=> .fail
def NY (tt:TT) (t:Nat) (a b:W):Option V:=match a with
 | .eg e _=>match b with
   | .dv=>match tt t with
     |some ti=>match ti.kind with
      | .slice _=>some e
      |_=>none
     |none=>none
   |_=>none
 |_=>none
def Xr (s:St) (op:BinOp) (r:Bool):T (W×St):=match op with
 | .eql=> .ret (.bool (.lit r),s)
 | .neq=> .ret (.bool (.lit (!r)),s)
 |_=> .fail
def aer (s:St) (e:V) (op:BinOp):T (W×St):=jn s (gV (.lit 0) (dO e)) fun s b=>match b with
 |true=>Xr s op false
 |false=>jn s (qB (mw e) (.eg (.i 1))) fun s b=>match b with
  |true=>Xr s op true
  |false=>jn s (qB (mw e) (.eg (.i 2))) fun s b=>match b with
   |true=>Xr s op false
   |false=> .fail
def aix (kk:TK) (a b:W):Option SB:=match kk with
 | .int _=>match a with
   | .int k x=>match b with
     | .int k' y=>if k=k' then some (ra x y) else none
     |_=>none
   |_=>none
 | .string=>Bz a b
 |_=>none
def tI {α:Type} (kk:TK) (k:W):List (W×W×Nat)->St->(St->T α)->T α
 |[],s,f=>f s
 |(k',_,_)::es,s,f=>match QT s.pc kk k k' with
  |some b=>match b with
   |true=>f s
   |false=>tI kk k es s f
  |none=>match aix kk k k' with
   |some c=>jn s c fun s b=>match b with
    |true=>f s
    |false=>tI kk k es s f
   |none=>f s
def nF {α:Type} (tt:TT) (t:Nat) (m k:W) (s:St) (f:St->T α):T α:=match tt t with
 |some ti=>match ti.kind with
  | .map kt _=>match wq tt kt with
    |some kk=>match IK m s.h with
     |some es=>tI kk k es s f
     |none=>f s
    |none=>f s
  |_=>f s
 |none=>f s
def Ma (k:IntKind) (e:V) (f:W->St->T (W×St)):Nat->Nat->St->T (W×St)
 |0,_,_=> .fail
 |n+1,j,s=>match n with
  |0=>f (.int k (.lit (Int.ofNat j))) s
  |_=>jn s (ra e (.lit (Int.ofNat j))) fun s b=>match b with
   |true=>f (.int k (.lit (Int.ofNat j))) s
   |false=>Ma k e f n (j+1) s
def aju (tt:TT) (t:Nat) (x:W):Option Nat:=match tt t with
 |some ti=>match ti.kind with
  | .array n _=>if n<=64 then some n else none
  | .slice _=>match x with
    | .slice _ _ len _=>if len<=64 then some len else none
    |_=>none
  |_=>none
 |none=>none
def HN (tt:TT) (t:Nat) (x ix:W) (s:St) (f:W->St->T (W×St)):T (W×St):=match j8 ix with
 |some _=>f ix s
 |none=>match ix with
  | .int k e=>match aju tt t x with
    |some n=>za s e (.lit (Int.ofNat n)) fun s=>Ma k e f n 0 s
    |none=> .fail
  |_=> .fail
def tC (tt:TT) (ty:Nat):Option Nat:=match tt ty with
 |some ti=>match ti.kind with
  | .slice el=>iz tt el
  |_=>none
 |none=>none
def Jx (tt:TT) (s:St) (ty t:Nat) (e:V) (ix:W):T (W×St):=match ix with
 | .int _ i=>match tC tt ty with
   |some z=>if z=(rowOf t).es then za s i (dO e) fun s=> .ret (.mJ (gz (rowOf t) (.op .at e i)),s) else .fail
   |none=> .fail
 |_=> .fail
def Jk (tt:TT) (s:St) (ty id t:Nat) (n:V) (ix:W):T (W×St):=match ix with
 | .int _ i=>match tC tt ty with
   |some z=>if z=(rowOf t).es then za s i n fun s=> .ret (.yu id z i 0,s) else .fail
   |none=> .fail
 |_=> .fail
def nJ (pc:List (SB×Bool)) (ZU:List W) (i:V):List (V×List W)->Option (List W)
 |[]=>some ZU
 |(j,cs)::l=>match eT i j with
  |true=>some cs
  |false=>match jR pc (ra i j) with
   |some b=>match b with
    |true=>some cs
    |false=>nJ pc ZU i l
   |none=>none
def Gr (pc:List (SB×Bool)) (i:V) (lE:List W):List (V×List W)->Option (List (V×List W))
 |[]=>none
 |(j,cs)::l=>match eT i j with
  |true=>some ((j,lE)::l)
  |false=>match jR pc (ra i j) with
   |some b=>match b with
    |true=>some ((j,lE)::l)
    |false=>match Gr pc i lE l with
     |some l'=>some ((j,cs)::l')
     |none=>none
   |none=>none
def vP (pc:List (SB×Bool)) (i:V):List (V×List W)->Bool
 |[]=>true
 |(j,_)::l=>match jR pc (ra i j) with
  |some false=>vP pc i l
  |_=>false
def uK {α:Type} (i:V):List (V×List W)->St->(St->T α)->T α
 |[],s,k=>k s
 |(j,_)::l,s,k=>match eT i j with
  |true=>k s
  |false=>jn s (ra i j) fun s b=>match b with
   |true=>k s
   |false=>uK i l s k
def D2 (k:IntKind):List W->Option (List D)
 |[]=>some []
 |v::vs=>match v with
  | .int k' e=>match e with
    | .lit n=>if k=k' then match D2 k vs with
     |some ds=>some (.i n::ds)
     |none=>none
     else none
    |_=>none
  |_=>none
def G!:List W->Option IntKind
 |v::_=>match v with
  | .int k _=>some k
  |_=>none
 |[]=>none
def Sy (tt:TT) (t:Nat) (ix:W):Option (Nat×V):=match j8 ix with
 |some _=>none
 |none=>match ix with
  | .int _ e=>match tt t with
    |some ti=>match ti.kind with
     | .array n el=>if 64<n then match tt el with
      |some ie=>if ie.size=1/\ie.agg=false then some (n,e) else none
      |none=>none
      else none
     |_=>none
    |none=>none
  |_=>none
def Hs (s:St) (cs:List W) (e:V):T (W×St):=match G! cs with
 |none=> .fail
 |some k=>match D2 k cs with
  |none=> .fail
  |some ds=>za s e (.lit (Int.ofNat ds.length)) fun s=> .ret (.int k (yJ (.op .at (.eg (dL ds)) e)),s)
def zV (tt:TT) (s:St) (ty id es:Nat) (i:V) (off:Nat):T (W×St):=match s.h.get id with
 |some o=>match o with
  | .cells cs _=>match tt ty with
    |some ti=>match ti.agg||!(Nat.beq es 1)||!(Nat.beq off 0) with
     |true=> .fail
     |false=>Hs s cs i
    |none=> .fail
  | .vec e t _ ov=>match tt ty with
    |some ti=>if (rowOf t).es=es then za s i (dO e) fun s=>uK i ov s fun s=>match nJ s.pc (gz (rowOf t) (.op .at e i)) i ov with
     |some cs=>match eE off cs with
      |some l=>pz s (partOf ti l)
      |none=> .fail
     |none=> .fail
     else .fail
    |none=> .fail
  |_=> .fail
 |none=> .fail
def Ud (v:W) (h:Hp):W×Hp:=match v with
 | .oq id n t=>match h.get id with
   |some o=>match o with
    | .vec e t' _ ov=>match ov with
      |[]=>match Nat.beq t t' with
       |true=>match eT n (dO e) with
        |true=>(.eg e t,h.drop id)
        |false=>(v,h)
       |false=>(v,h)
      |_=>(v,h)
    |_=>(v,h)
   |none=>(v,h)
 | .w4 z t=>(.eg z t,h)
 |v=>(v,h)
def V! (e:V):Bool:=match e with
 | .lit n=>u9 n 0
 |_=>false
def sA (a b:V):V:=match V! a with
 |true=>b
 |false=> .add a b
def Dr (a b:V):V:=match V! b with
 |true=>a
 |false=> .sub a b
def DN (e lo n:V):V:=match V! lo with
 |true=> .op .take e n
 |false=> .op .drop (.op .take e (.add lo n)) lo
def xJ {α:Type} (e lo n:V) (s:St) (k:St->T α):T α:=
 jn s (gV lo (.lit 0)) fun s b=>match b with
  |true=> .fail
  |false=>jn s (gV n (.lit 0)) fun s b=>match b with
   |true=> .fail
   |false=>jn s (gV (dO e) (sA lo n)) fun s b=>match b with
    |true=> .fail
    |false=>k s
def Bu (h:Hp) (id t:Nat):Option (V×TypeId):=match h.get id with
 |some o=>match o with
  | .vec e t' ty ov=>match ov with
    |[]=>match Nat.beq t t' with
     |true=>some (e,ty)
     |false=>none
    |_=>none
  |_=>none
 |none=>none
def Oy {α:Type} (v:W) (s:St) (k:W->St->T α):T α:=match v with
 | .sD id lo n t=>match Bu s.h id t with
   |some (e,_)=>xJ e lo n s fun s=>k (.eg (DN e lo n) t) { s with h:=s.h.drop id }
   |none=>k v s
 |v=>match Ud v s.h with
  |(v',h')=>k v' { s with h:=h' }
def Hf {α:Type}:List W->St->(List W->St->T α)->T α
 |[],s,k=>k [] s
 |v::vs,s,k=>Oy v s fun v' s=>Hf vs s fun MO s=>k (v'::MO) s
def Gz {α:Type} (t:Nat):List (V×List W)->V->St->(V->St->T α)->T α
 |[],e,s,k=>k e s
 |(j,cs)::ov,e,s,k=>Gz t ov e s fun e s=>Hf cs s fun cs s=>match qV (rowOf t) cs with
  |some x=>k (.op .set e (eD (mY j) x)) s
  |none=> .fail
def ael (v:W) (h:Hp):Option (Nat×V×Nat×List (V×List W)):=match v with
 | .oq id n t=>match h.get id with
   |some o=>match o with
    | .vec e t' _ ov=>match ov with
      |[]=>none
      |_=>match Nat.beq t t' with
       |true=>match eT n (dO e) with
        |true=>some (id,e,t,ov)
        |false=>none
       |false=>none
    |_=>none
   |none=>none
 |_=>none
def LO {α:Type} (v:W) (s:St) (k:W->St->T α):T α:=match ael v s.h with
 |some (id,e,t,ov)=>Gz t ov e s fun e' s=>match s.h.get id with
  |some _=>k (.eg e' t) { s with h:=s.h.drop id }
  |none=> .fail
 |none=>Oy v s k
def xr {α:Type}:List W->St->(List W->St->T α)->T α
 |[],s,k=>k [] s
 |v::vs,s,k=>LO v s fun v' s=>xr vs s fun MO s=>k (v'::MO) s
def setCells:List CK->Nat->List W->V->Option V
 |_,_,[],x=>some x
 |ks,off,v::vs,x=>match eX ks off with
  |some c=>match lS c v with
   |some a=>setCells ks (off+1) vs (.op .set x (eD (.eg (.i (Int.ofNat off))) a))
   |none=>none
  |none=>none
def JT (r:Row) (e i:V) (off:Nat) (vs:List W):Option V:=match r with
 | .one c=>match off with
   |0=>match vs with
    |[v]=>match lS c v with
     |some a=>some (.op .set e (eD (mY i) a))
     |none=>none
    |_=>none
   |_=>none
 | .many ks=>match setCells ks off vs (.op .at e i) with
   |some x=>some (.op .set e (eD (mY i) x))
   |none=>none
def EF (tt:TT) (s:St) (ty id es:Nat) (i:V) (off:Nat) (one:Bool) (vs:List W):T (W×St):=
 match s.h.get id with
  |some o=>match o with
   | .vec e t Az ov=>match tt ty with
     |some ti=>if (rowOf t).es=es/\vs.length=ti.size/\one=true then za s i (dO e) fun s=>uK i ov s fun s=>match nJ s.pc (gz (rowOf t) (.op .at e i)) i ov with
      |some cs=>match dX cs off vs with
       |some lE=>match Gr s.pc i lE ov with
        |some iP=> .ret (W.undef,{ s with h:=s.h.put id (.vec e t Az iP) })
        |none=>match vP s.pc i ov with
         |true=>match JT (rowOf t) e i off vs with
          |some e'=> .ret (W.undef,{ s with h:=s.h.put id (.vec e' t Az ov) })
          |none=> .ret (W.undef,{ s with h:=s.h.put id (.vec e t Az ((i,lE)::ov)) })
         |false=> .fail
       |none=> .fail
      |none=> .fail
      else .fail
     |none=> .fail
   |_=> .fail
  |none=> .fail
def aiH:W->Bool
 | .oq _ _ _=>true
 | .dv=>true
 | .w4 _ _=>true
 | .slice _ _ n c=>match n with
   |0=>match c with
    | .exact k=>match k with
      |0=>true
      |_=>false
    |_=>false
   |_=>false
 |_=>false
def afb (c:CK) (v:W):W:=match c with
 | .sl t=>match v with
   | .dv=> .w4 (.eg (.i 1)) t
   | .slice i o n k=>match n with
     |0=>match k with
      | .exact m=>match m with
        |0=> .w4 (.eg (.i 2)) t
        |m+1=> .slice i o 0 (.exact (m+1))
      |k=> .slice i o 0 k
     |n+1=> .slice i o (n+1) k
   |v=>v
 |_=>v
def LS:List CK->List W->List W
 |[],vs=>vs
 |_::_,[]=>[]
 |c::cs,v::vs=>afb c v::LS cs vs
def NI (r:Row):List CK:=match r with
 | .one c=>[c]
 | .many cs=>cs
def RM (i:V):List (SB×Bool)->Option V
 |[]=>none
 |(c,b)::l=>match c with
  | .eq x y=>match b with
    |true=>match eT x i with
     |true=>some y
     |false=>RM i l
    |false=>RM i l
  |_=>RM i l
def EE (tt:TT) (s:St) (ty id es:Nat) (i j:V) (off:Nat) (one:Bool) (vs:List W):T (W×St):=
 match s.h.get id with
  |some o=>match o with
   | .vec e t Az ov=>match tt ty with
     |some ti=>if (rowOf t).es=es/\vs.length=ti.size/\one=true then za s i (dO e) fun s=>uK j ov s fun s=>match jR s.pc (.eq i j) with
      |some true=>match nJ s.pc (gz (rowOf t) (.op .at e j)) j ov with
       |some cs=>match dX cs off (LS ((NI (rowOf t)).drop off) vs) with
        |some lE=>match Gr s.pc j lE ov with
         |some iP=> .ret (W.undef,{ s with h:=s.h.put id (.vec e t Az iP) })
         |none=>match vP s.pc j ov with
          |true=> .ret (W.undef,{ s with h:=s.h.put id (.vec e t Az ((j,lE)::ov)) })
          |false=> .fail
        |none=> .fail
       |none=> .fail
      |_=> .fail
      else .fail
     |none=> .fail
   |_=> .fail
  |none=> .fail
def EG (tt:TT) (s:St) (ty id es:Nat) (i:V) (off:Nat) (v:W):T (W×St):=
 match (if aiH v then RM i s.pc else none) with
 |some j=>EE tt s ty id es i j off (rB v.cells) v.cells
 |none=>xr v.cells s fun vs s=>EF tt s ty id es i off (rB v.cells) vs
def qc (e:Nat) (own:Option Nat) (x:W) (h:Hp):Option (V×Nat×Hp):=match x with
 | .oq id n t=>match h.get id with
   |some o=>match o with
    | .vec e0 t0 ty ov=>match ov with
      |[]=>match Nat.beq t t0 with
       |true=>match Nat.beq ty e with
        |true=>match eT n (dO e0) with
         |true=>some (e0,t,h.drop id)
         |false=>none
        |false=>none
       |false=>none
      |_=>none
    |_=>none
   |none=>none
 | .dv=>match own with
   |some t=>some (.eg (.i 0),t,h)
   |none=>none
 | .emp=>match own with
   |some t=>some (.eg (.i 0),t,h)
   |none=>none
 | .w4 _ _=>match own with
   |some t=>some (.eg (.i 0),t,h)
   |none=>none
 | .slice _ _ n c=>match n with
   |0=>match c with
    | .exact k=>match k with
      |0=>match own with
       |some t=>some (.eg (.i 0),t,h)
       |none=>none
      |_=>none
    |_=>none
   |_=>none
 |_=>none
def abQ:W->Bool
 | .eg _ _=>true
 |_=>false
def XN (own:Option Nat):W->Bool
 | .oq _ _ _=>true
 | .sD _ _ _ _=>true
 | .dv=>own.isSome
 | .emp=>own.isSome
 | .w4 _ _=>own.isSome
 | .slice _ _ n c=>match n with
   |0=>match c with
    | .exact k=>match k with
      |0=>own.isSome
      |_=>false
    |_=>false
   |_=>false
 |_=>false
def SC (id t:Nat) (ty:TypeId) (e0 n1 m sd:V) (s:St):T (W×St):=
 xJ e0 n1 m s fun s=> .ret (.sD id (.lit 0) (sA n1 m) t,{ s with h:=s.h.put id (.vec (.op .cat (.op .cat (.op .take e0 n1) sd) (.op .drop e0 (sA n1 m))) t ty []) })
def EP (tt:TT) (t t2 id:Nat) (n1:V) (t':Nat) (y:W) (s:St):T (W×St):=
 match tt t with
 |some ti=>match ti.kind with
  | .slice e=>match tt e with
    |some ie=>match tt t2 with
     |none=> .fail
     |some PH=>match PH.kind with
      | .int _=> .fail
      |_=>
       if ie.size=0\/ie.bytes=0\/¬ie.zero.length=ie.size\/¬(rowOf t').es=ie.size then .fail else
       match Bu s.h id t' with
       |none=> .fail
       |some (e0,ty)=>match y with
        | .sD id2 UW n2 Kb=>match Nat.beq id2 id with
          |true=>match Nat.beq Kb t' with
           |true=>xJ e0 UW n2 s fun s=>SC id t' ty e0 n1 n2 (DN e0 UW n2) s
           |false=> .fail
          |false=> .fail
        |y=>match rN ie.size y s.h with
         |none=> .fail
         |some (m,news)=>match m with
          |0=> .fail
          |m+1=>if m<1000 then match kz (rowOf t') (.eg (.i 0)) (m+1) news with
           |some sd=>SC id t' ty e0 n1 (.lit (Int.ofNat (m+1))) sd s
           |none=> .fail
           else .fail
    |none=> .fail
  |_=> .fail
 |none=> .fail
def z7 (tt:TT) (ty id:Nat) (lo n:V) (t:Nat) (s:St):T (W×St):=
 match tt ty with
 |some ti=>match ti.kind with
  | .slice e=>match tt e with
    |some ie=>if (rowOf t).es=ie.size/\0<ie.size then match Bu s.h id t with
     |none=> .fail
     |some (e0,Az)=>match qV (rowOf t) ie.zero with
      |none=> .fail
      |some z=>jn s (gV lo (.lit 0)) fun s b=>match b with
       |true=> .fail
       |false=>jn s (gV n (.lit 0)) fun s b=>match b with
        |true=> .fail
        |false=>jn s (ra (sA lo n) (dO e0)) fun s b=>match b with
         |false=> .fail
         |true=> .ret (W.undef,{ s with h:=s.h.put id (.vec (.op .fill e0 (eD (mY lo) z)) t Az []) })
     else .fail
    |none=> .fail
  |_=> .fail
 |none=> .fail
def rb (bytes k:Nat):Int:=Int.ofNat (140737488355328 / bytes-k)
def W6 (e0:V) (bytes:Nat):Int:=match N9 e0 with
 |true=>rb bytes 0
 |false=>rb bytes 1000000
def R_:W->Bool
 | .oq _ _ _=>true
 | .w4 _ _=>true
 | .slice _ _ n _=>match n with
   |0=>true
   |_=>false
 |_=>false
def zG:List (SB×Bool)->Bool
 |[]=>false
 |(b,v)::l=>match b with
  | .eq _ x=>match x with
    | .dH i=>match i with
      |0=>match v with
       |true=>true
       |false=>zG l
      |_=>zG l
    |_=>zG l
  |_=>zG l
def E_ (m:Nat) (news:List W) (pc:List (SB×Bool)):Bool:=match m with
 |0=>match news.any R_ with
  |true=>zG pc
  |false=>false
 |_=>false
def AQ (e:Nat) (x:W) (h:Hp):Option (V×Nat×V×List W×Hp):=match x with
 | .oq id n t=>match h.get id with
   |some o=>match o with
    | .vec e0 t0 ty ov=>match ov with
      |[]=>none
      |p::l=>match l with
       |[]=>match Nat.beq t t0 with
        |true=>match Nat.beq ty e with
         |true=>match eT n (dO e0) with
          |true=>some (e0,t,p.1,p.2,h.drop id)
          |false=>none
         |false=>none
        |false=>none
       |_=>none
    |_=>none
   |none=>none
 |_=>none
def Aa (e:Nat) (own:Option Nat) (x:W) (ie:TI) (m:Nat) (news:List W) (s:St):T (W×St):=
 xr news s fun BN s=>match qc e own x s.h with
  |some (e0,t',h0)=>if (rowOf t').es=ie.size/\m<1000 then
   jn s (gV (dO e0) (.lit (rb ie.bytes (m+1)))) fun s b=>match b with
    |true=>match kz (rowOf t') e0 (m+1) BN with
     |some e1=> .ret (.oq h0.fresh (dO e1) t',{ s with h:=h0.new (.vec e1 t' e []) })
     |none=> .fail
    |false=> .fail
   else .fail
  |none=> .fail
def Bj (e:Nat) (x:W) (ie:TI) (m:Nat) (news:List W) (s:St):T (W×St):=
 xr news s fun BN s=>match AQ e x s.h with
  |some (e0,t',p,cs,h0)=>if (rowOf t').es=ie.size/\m<1000 then
   jn s (gV (dO e0) (.lit (rb ie.bytes (m+1)))) fun s b=>match b with
    |true=>jn s (gV p (dO e0)) fun s b=>match b with
     |true=>match kz (rowOf t') e0 (m+1) BN with
      |some e1=> .ret (.oq h0.fresh (dO e1) t',{ s with h:=h0.new (.vec e1 t' e [(p,cs)]) })
      |none=> .fail
     |false=> .fail
    |false=> .fail
   else .fail
  |none=> .fail
def Bi (e:Nat) (own:Option Nat) (x:W) (ie:TI) (m:Nat) (news:List W) (s:St):T (W×St):=
 match qc e own x s.h with
 |some (e0,t',h0)=>if (rowOf t').es=ie.size/\m=0 then
  jn s (ra (dO e0) (.dH 0)) fun s b=>match b with
   |true=>jn s (gV (dO e0) (.lit (rb ie.bytes 1))) fun s b=>match b with
    |true=>match kz (rowOf t') e0 1 ie.zero with
     |some e1=> .ret (.oq h0.fresh (dO e1) t',{ s with h:=h0.new (.vec e1 t' e [(.dH 0,news)]) })
     |none=> .fail
    |false=> .fail
   |false=>Aa e own x ie m news s
  else .fail
 |none=> .fail
def Bh (tt:TT) (t t2:Nat) (x y:W) (s:St):T (W×St):=
 match tt t with
 |some ti=>match ti.kind with
  | .slice e=>match tt e with
    |some ie=>match tt t2 with
     |none=> .fail
     |some PH=>match PH.kind with
      | .int _=> .fail
      |_=>
       if ie.size=0\/ie.bytes=0\/¬ie.zero.length=ie.size\/¬ie.bytes<=400 then .fail else
       match y with
       | .eg e2 ty2=>match qc e ti.own x s.h with
         |some (e0,t',h0)=>if (rowOf t').es=ie.size/\rowOf ty2=rowOf t' then
          jn s (qB (dO e2) (.lit 0)) fun s b=>match b with
           |true=> .ret (x,s)
           |false=>jn s (gV (dO e2) (.lit (W6 e0 ie.bytes))) fun s b=>match b with
            |true=>jn s (gV (dO e0) (.lit 1000000)) fun s b=>match b with
             |true=>match N9 e0 with
              |true=> .ret (.oq h0.fresh (dO e2) t',{ s with h:=h0.new (.vec e2 t' e []) })
              |false=> .ret (.oq h0.fresh (dO (.op .cat e0 e2)) t',{ s with h:=h0.new (.vec (.op .cat e0 e2) t' e []) })
             |false=> .fail
            |false=> .fail
          else .fail
         |none=> .fail
       |y=>match rN ie.size y s.h with
        |some (m,news)=>match m with
         |0=> .ret (x,s)
         |m+1=>match AQ e x s.h with
          |some _=>Bj e x ie m news s
          |none=>match E_ m news s.pc with
           |true=>Bi e ti.own x ie m news s
           |false=>Aa e ti.own x ie m news s
        |none=> .fail
    |none=> .fail
  |_=> .fail
 |none=> .fail
def Jr (tt:TT) (t:Nat) (l c:W) (s:St):T (W×St):=match l with
 | .int k n=>match c with
   | .int k2 n2=>match eT n n2 with
     |false=> .fail
     |true=>match tt t with
      |none=> .fail
      |some i=>match i.own with
       |none=> .fail
       |some o=>match i.kind with
        | .slice e=>match tt e with
          |none=> .fail
          |some ie=>match qV (rowOf o) ie.zero with
           |none=> .fail
           |some z=>if ie.size=(rowOf o).es/\0<ie.size/\ie.bytes≠0/\ie.zero.length=ie.size then
            jn s (gV n (.lit 0)) fun s b=>match b with
             |true=> .fail
             |false=>jn s (qB n (.lit 0)) fun s b=>match b with
              |true=>match qS tt t (.int k (.lit 0)) (.int k2 (.lit 0)) s.h with
               |some (v,h)=> .ret (v,{ s with h:=h })
               |none=> .fail
              |false=>jn s (gV n (.lit (rb ie.bytes 0))) fun s b=>match b with
               |true=> .ret (.oq s.h.fresh (dO (.op .rep n z)) o,{ s with h:=s.h.new (.vec (.op .rep n z) o e []) })
               |false=> .fail
            else .fail
        |_=> .fail
   |_=> .fail
 |_=> .fail
def CA (v:W):Bool:=match j8 v with
 |some n=>u9 n 0
 |none=>false
def Jw (tt:TT) (s:St) (ty t:Nat) (e:V) (lo hi:Option W) (mx:Option W):T (W×St):=match mx with
 |some m=>match CA m with
  |true=>match tC tt ty with
   |none=> .fail
   |some _=>match lo with
    |none=>match hi with
     |some hv=>match CA hv with
      |true=> .ret (.w4 (.op .take e (.lit 0)) t,s)
      |false=> .fail
     |none=> .fail
    |some _=> .fail
  |false=> .fail
 |none=>match tC tt ty with
  |none=> .fail
  |some z=>if z=(rowOf t).es then
   (match hi with
   |none=>match lo with
    |some (.int _ l)=>jn s (gV l (.lit 0)) fun s b=>match b with
     |true=> .fail
     |false=>jn s (gV (dO e) l) fun s b=>match b with
      |true=> .fail
      |false=> .ret (.eg (.op .drop e l) t,s)
    |_=> .fail
   |some (.int _ h)=>jn s (gV (dO e) h) fun s b=>match b with
    |true=> .fail
    |false=>match lo with
     |none=>jn s (gV h (.lit 0)) fun s b=>match b with
      |true=> .fail
      |false=> .ret (.eg (.op .take e h) t,s)
     |some (.int _ l)=>jn s (gV l (.lit 0)) fun s b=>match b with
      |true=> .fail
      |false=>jn s (gV h l) fun s b=>match b with
       |true=> .fail
       |false=> .ret (.eg (.op .drop (.op .take e h) l) t,s)
     |_=> .fail
   |_=> .fail)
   else .fail
def loE (lo:Option W):Option V:=match lo with
 |none=>some (.lit 0)
 |some v=>match v with
  | .int _ l=>some l
  |_=>none
def C2 (tt:TT) (s:St) (ty id t:Nat) (u? n0:V) (lo hi mx:Option W):T (W×St):=
 match tC tt ty with
 |none=> .fail
 |some z=>if z=(rowOf t).es/\z≠0 then match loE lo with
  |none=> .fail
  |some l=>jn s (gV l (.lit 0)) fun s b=>match b with
   |true=> .fail
   |false=>match hi with
    |none=>match mx with
     |some _=> .fail
     |none=>jn s (gV n0 l) fun s b=>match b with
      |true=> .fail
      |false=> .ret (.sD id (sA u? l) (Dr n0 l) t,s)
    |some hv=>match hv with
     | .int _ h=>jn s (gV h l) fun s b=>match b with
       |true=> .fail
       |false=>match mx with
        |some mv=>match mv with
         | .int _ m=>jn s (gV m h) fun s b=>match b with
           |true=> .fail
           |false=>jn s (gV n0 m) fun s b=>match b with
            |true=> .fail
            |false=> .ret (.any,s)
         |_=> .fail
        |none=>jn s (gV n0 h) fun s b=>match b with
         |false=> .ret (.sD id (sA u? l) (Dr h l) t,s)
         |true=>match V! u? with
          |false=> .fail
          |true=>match Bu s.h id t with
           |none=> .fail
           |some (e,_)=>jn s (gV (dO e) h) fun s b=>match b with
            |true=> .fail
            |false=> .ret (.sD id (sA u? l) (Dr h l) t,s)
     |_=> .fail
  else .fail
def Ju (tt:TT) (s:St) (ty:Nat) (z:V) (t:Nat) (lo hi mx:Option W):T (W×St):=
 match mx with
 |some _=> .fail
 |none=>match tC tt ty with
  |none=> .fail
  |some _=>match nD hi 0 0 with
   |some 0=>match nD lo 0 0 with
    |some 0=> .ret (.w4 z t,s)
    |_=> .fail
   |_=> .fail
def Jj (tt:TT) (s:St) (ty id t:Nat) (lo n:V) (ix:W):T (W×St):=match ix with
 | .int _ i=>match tC tt ty with
   |some z=>if z=(rowOf t).es then za s i n fun s=> .ret (.yu id z (sA lo i) 0,s) else .fail
   |none=> .fail
 |_=> .fail
def XS:W->Bool
 | .jD _=>true
 |_=>false
def Jm (tt:TT) (s:St) (ty:Nat) (e:V) (ix:W):T (W×St):=match ix with
 | .int _ i=>match tt ty with
   |some ti=>match ti.kind with
    | .string=>za s i (dO e) fun s=> .ret (.int .u8 (yJ (.op .at e i)),s)
    |_=> .fail
   |none=> .fail
 |_=> .fail
def hiE (e:V) (hi:Option W):Option V:=match hi with
 |none=>some (dO e)
 |some v=>match v with
  | .int _ h=>some h
  |_=>none
def Jl (tt:TT) (s:St) (ty:Nat) (e:V) (lo hi mx:Option W):T (W×St):=match mx with
 |some _=> .fail
 |none=>match tt ty with
  |none=> .fail
  |some ti=>match ti.kind with
   | .string=>match loE lo with
     |none=> .fail
     |some l=>match hiE e hi with
      |none=> .fail
      |some h=>jn s (gV l (.lit 0)) fun s b=>match b with
       |true=> .fail
       |false=>jn s (gV h l) fun s b=>match b with
        |true=> .fail
        |false=>jn s (gV (dO e) h) fun s b=>match b with
         |true=> .fail
         |false=> .ret (.jD (.op .sub e (eD (mY l) (eD (mY h) (.eg (.i 0))))),s)
   |_=> .fail
def CC (x y:W):Option (V×V):=match XS x||XS y with
 |false=>none
 |true=>match tT x with
  |none=>none
  |some a=>match tT y with
   |none=>none
   |some b=>some (a,b)
def Gc (a b:V):SB:=.not (.eq (.op .slt a b) (.lit 0))
def OD (op:BinOp) (a b:V) (s:St):T (W×St):=match op with
 | .add=>jn s (gV (dO a) (.lit 1000000000)) fun s c=>match c with
   |false=> .fail
   |true=>jn s (gV (dO b) (.lit 1000000000)) fun s c=>match c with
    |false=> .fail
    |true=> .ret (.jD (.op .cat a b),s)
 | .eql=> .ret (.bool (qB (mw a) (mw b)),s)
 | .neq=> .ret (.bool (.not (qB (mw a) (mw b))),s)
 | .lss=> .ret (.bool (Gc a b),s)
 | .gtr=> .ret (.bool (Gc b a),s)
 | .leq=> .ret (.bool (xb (Gc b a)),s)
 | .geq=> .ret (.bool (xb (Gc a b)),s)
 |_=> .fail
def C4 (tt:TT) (sT dT:Nat) (e:V) (s:St):T (W×St):=match tt sT with
 |none=> .fail
 |some j=>match j.kind with
  | .string=>match tt dT with
    |none=> .fail
    |some i=>match i.kind with
     | .slice el=>match tt el with
       |some ie=>match ie.kind with
        | .int k=>match k with
          | .u8=>jn s (qB (dO e) (.lit 0)) fun s c=>match c with
            |true=> .ret (.slice s.h.fresh 0 0 (.rest 1),{ s with h:=s.h.new (.cells [] el) })
            |false=> .ret (.oq s.h.fresh (dO e) 14,{ s with h:=s.h.new (.vec e 14 el []) })
          |_=> .fail
        |_=> .fail
       |none=> .fail
     |_=> .fail
  |_=> .fail
def Lk (c:CK):TK:=match c with
 | .int k=> .int k
 |_=> .string
def xh (m:W) (h:Hp):Option (Nat×V×Nat):=match m with
 | .map id=>match h.get id with
   |some o=>match o with
    | .jT e t=>some (id,e,t)
    |_=>none
   |none=>none
 |_=>none
def Bc (tt:TT):List CK->Nat->List (Nat×Nat×Nat)->Bool
 |[],_,[]=>true
 |c::cs,j,(o,ft,_)::fs=>match Nat.beq o j with
  |true=>match tt ft with
   |some i=>match c with
    | .int k=>match decide (i.kind= .int k) with
      |true=>Bc tt cs (j+1) fs
      |false=>false
    |_=>false
   |none=>false
  |false=>false
 |_,_,_=>false
def XJ (tt:TT) (ki:TI) (r:Row):Bool:=match r with
 | .one c=>decide (ki.kind=Lk c)
 | .many cs=>match ki.kind with
   | .struct fs=>match ki.eqs with
     |true=>Bc tt cs 0 fs
     |false=>false
   |_=>false
def Sr (r:Row) (v:W):Option V:=match r with
 | .one c=>lS c v
 | .many cs=>match v with
   | .agg vs=>iu cs vs
   |_=>none
def Mw (r:Row) (x:V):W:=match r with
 | .one c=>vJ c x
 | .many cs=> .agg (iw cs 0 x)
def mapKey (tt:TT) (ty t:Nat) (k:W):Option (V×TI):=match tt ty with
 |none=>none
 |some ti=>match ti.kind with
  | .map kt et=>match tt kt with
    |none=>none
    |some ki=>match XJ tt ki (mapOf t).1 with
     |true=>match tt et with
      |none=>none
      |some ie=>match Sr (mapOf t).1 k with
       |none=>none
       |some a=>some (mw a,ie)
     |false=>none
  |_=>none
def Ha (e a:V):SB:=match e with
 | .eg d=>match a with
   | .eg k=> .lit (!(gv d.l k).isSome)
   |a=> .eq (.op .K6 (.eg d) a) (.lit 0)
 |e=> .eq (.op .K6 e a) (.lit 0)
def zT (tt:TT) (ty:Nat) (k:W) (ok:Bool) (e:V) (t:Nat) (s:St):T (W×St):=match mapKey tt ty t k with
 |none=> .fail
 |some (a,ie)=>match zeroOf ie with
  |none=> .fail
  |some z=>jn s (Ha e a) fun s b=>match b with
   |true=> .ret (if ok then .tuple [z,.bool (.lit false)] else z,s)
   |false=> .ret (if ok then .tuple [Mw (mapOf t).2 (.op .DX e a),.bool (.lit true)] else Mw (mapOf t).2 (.op .DX e a),s)
def OG (tt:TT) (ty id:Nat) (k x:W) (e:V) (t:Nat) (s:St):T (W×St):=match mapKey tt ty t k with
 |none=> .fail
 |some (a,_)=>match Sr (mapOf t).2 x with
  |none=> .fail
  |some b=> .ret (W.undef,{ s with h:=s.h.put id (.jT (.op .u5 e (eD a b)) t) })
def Jp (tt:TT) (ty:Nat) (m k x:W) (s:St):T (W×St):=xr [x] s fun xs s=>match xs with
 |[x]=>match xh m s.h with
  |some (id,e,t)=>OG tt ty id k x e t s
  |none=> .fail
 |_=> .fail
def OQ (tt:TT) (ty id:Nat) (k:W) (e:V) (t:Nat) (s:St):T (W×St):=match mapKey tt ty t k with
 |none=> .fail
 |some (a,_)=> .ret (W.undef,{ s with h:=s.h.put id (.jT (.op .K8 e a) t) })
def EB (m:W) (h:Hp):Option (Nat×V×Nat×List Nat×List (V×W)):=match m with
 | .map id=>match h.get id with
   |some o=>match o with
    | .ur e t eY ov=>some (id,e,t,eY,ov)
    |_=>none
   |none=>none
 |_=>none
def Jh (tt:TT) (ty:Nat) (k:W):Option (V×TI):=match tt ty with
 |none=>none
 |some ti=>match ti.kind with
  | .map kt et=>match tt kt with
    |none=>none
    |some ki=>if ki.kind= .int .i64 then match tt et with
     |none=>none
     |some ie=>match k with
      | .int kk x=>if kk= .i64 then some (x,ie) else none
      |_=>none
     else none
  |_=>none
def tz {α:Type} (x:V):List (V×W)->St->(Option W->St->T α)->T α
 |[],s,k=>k none s
 |(y,v)::l,s,k=>match eT x y with
  |true=>k (some v) s
  |false=>jn s (ra x y) fun s b=>match b with
   |true=>k (some v) s
   |false=>tz x l s k
def Jg {α:Type} (x:V) (v:W):List (V×W)->St->(Option (List (V×W))->St->T α)->T α
 |[],s,k=>k none s
 |(y,u)::l,s,k=>match eT x y with
  |true=>k (some ((y,v)::l)) s
  |false=>jn s (ra x y) fun s b=>match b with
   |true=>k (some ((y,v)::l)) s
   |false=>Jg x v l s fun r s=>match r with
    |some l'=>k (some ((y,u)::l')) s
    |none=>k none s
def zS (tt:TT) (ty:Nat) (k:W) (ok:Bool) (e:V) (ov:List (V×W)) (s:St):T (W×St):=match Jh tt ty k with
 |none=> .fail
 |some (x,ie)=>match zeroOf ie with
  |none=> .fail
  |some z=>tz x ov s fun r s=>match r with
   |some v=> .ret (if ok then .tuple [v,.bool (.lit true)] else v,s)
   |none=>jn s (Ha e (mY x)) fun s b=>match b with
    |true=> .ret (if ok then .tuple [z,.bool (.lit false)] else z,s)
    |false=> .fail
def zR (tt:TT) (ty id:Nat) (k v:W) (e:V) (t:Nat) (eY:List Nat) (ov:List (V×W)) (s:St):T (W×St):=match Jh tt ty k with
 |none=> .fail
 |some (x,_)=>Jg x v ov s fun r s=>match r with
  |some iP=> .ret (W.undef,{ s with h:=s.h.put id (.ur e t eY iP) })
  |none=>jn s (Ha e (mY x)) fun s b=>match b with
   |true=> .ret (W.undef,{ s with h:=s.h.put id (.ur (.op .u5 e (eD (mY x) (.eg (.i 0)))) t eY ((x,v)::ov)) })
   |false=> .fail
def alU (tt:TT) (t:Nat):Nat:=match tt t with
 |some ti=>match ti.kind with
  | .slice e=>e
  |_=>0
 |none=>0
def Yz (tt:TT) (t:Nat):List Nat:=match tt t with
 |some ti=>match ti.kind with
  | .map _ et=>match tt et with
    |some ie=>match ie.kind with
     | .pointer s=>match tt s with
       |some si=>match si.kind with
        | .struct fs=>s::0::fs.map fun f=>alU tt f.2.1
        |_=>[]
       |none=>[]
     | .slice e=>[0,e]
     |_=>[]
    |none=>[]
  |_=>[]
 |none=>[]
abbrev ek:=Nat->List W->St->T (W×St)
def yZ (s:St) (x:Operand) (f:W->T (W×St)):T (W×St):=match ev s x with |some v=>f v|none=> .fail
def abL (tt:TT) (t:Nat):Option Nat:=match tt t with
 |some ti=>ti.own
 |none=>none
def wJ (tt:TT) (s:St) (b:Builtin) (ts:List Nat) (args:List W):T (W×St):=
 match b,ts,args with
 | .len,[t],[x]=>pz s (YB tt t x s.h)
 | .append,[t,t2],[.sD id lo n t',y]=>match V! lo with
   |true=>EP tt t t2 id n t' y s
   |false=> .fail
 | .append,[t,t2],[x,y]=>match XN (abL tt t) x||abQ y with
   |true=>Bh tt t t2 x y s
   |false=>BF s (EO tt t t2 x y s.h)
 | .delete,[t,_],[m,k]=>match xh m s.h with
   |some (id,e,t')=>OQ tt t id k e t' s
   |none=>nF tt t m k s fun s=>NK s (EN tt s.pc t m k s.h)
 | .clear,[t],[.oq id n t']=>z7 tt t id (.lit 0) n t' s
 | .clear,[t],[.sD id lo n t']=>z7 tt t id lo n t' s
 | .clear,[t],[x]=>NK s (Jy tt t x s.h)
 | .min,_,.int k a::xs=>tu false xs a k s
 | .max,_,.int k a::xs=>tu true xs a k s
 |_,_,_=> .fail
def Jz (tt:TT) (call:ek) (s:St) (c:Call):T (W×St):=
 match evs s c.args.toList with
 |none=> .fail
 |some args=>match c.callee with
  | .builtin b=>wJ tt s b c.argTypes.toList args
  | .value f=>match ev s f with
    |some (.func (.func g) fs cs)=>call g (fs++args++cs) s
    |_=> .fail
  | .invoke _ _=> .fail
def agT:SB->Bool
 | .lit _=>true
 | .not c=>match c with
   | .eq _ z=>match z with
     | .lit n=>u9 n 0
     |_=>false
   |_=>false
 |_=>false
def c_ {α:Type} (v:W) (s:St) (k:W->St->T α):T α:=match v with
 | .bool c=>match agT c with
   |true=>k (.bool c) s
   |false=>jn s c fun s b=>k (.bool (.lit b)) s
 |v=>k v s
def Jq (tt:TT) (call:ek) (s:St) (op:Op):T (W×St):=
 match op with
 | .move x=>yZ s x fun v=> .ret (v,s)
 | .assign x=>yZ s x fun v=> .ret (v,s)
 | .pick c a b=>yZ s c fun c=>match c with
   | .bool c=>jn s c fun s b'=>if b' then yZ s a fun v=> .ret (v,s) else yZ s b fun v=> .ret (v,s)
   |_=> .fail
 | .alloc t=>match tt t with
   |some i=> .ret (.ptr s.h.fresh 0,{ s with h:=s.h.new (.cells i.zero t) })
   |none=> .fail
 | .box t x=>yZ s x fun v=>if rB v.cells then .ret (.ptr s.h.fresh 0,{ s with h:=s.h.new (.cells v.cells t) }) else .fail
 | .build t parts=>match wH s parts.toList with
   |some ps=>pz s (JB tt t ps)
   |none=> .fail
 | .buildSlice t n parts=>match wH s parts.toList with
   |some ps=>BF s (tB tt t n ps s.h)
   |none=> .fail
 | .makeSlice t l c=>yZ s l fun lv=>match ev s c with
   |some cv=>match qS tt t lv cv s.h with
    |some r=>BF s (some r)
    |none=>Jr tt t lv cv s
   |none=> .fail
 | .load t x=>yZ s x fun p=>match p with
   | .yu id es i off=>zV tt s t id es i off
   |p=>pz s (Bg tt t p s.h)
 | .store t x y=>yZ s x fun p=>match ev s y with
   |some v=>c_ v s fun v s=>match p with
    | .yu id es i off=>EG tt s t id es i off v
    |p=>NK s (Jn tt t p v s.h)
   |none=> .fail
 | .nilCheck x=>yZ s x fun v=>match v with
   | .ptr _ _=> .ret (v,s)
   | .mJ _=> .ret (v,s)
   | .yu _ _ _ _=> .ret (v,s)
   |_=> .fail
 | .binOp op t x y _=>yZ s x fun a=>match ev s y with
   |some b=>match a with
    | .agg xs=>match b,op with
      | .agg ys,.eql=>match C3 tt t xs ys with
        |some c=> .ret (.bool c,s)
        |none=> .fail
      | .agg ys,.neq=>match C3 tt t xs ys with
        |some c=> .ret (.bool (xb c),s)
        |none=> .fail
      |_,_=> .fail
    |a=>match NY tt t a b with
     |some e=>aer s e op
     |none=>match NO op a b with
      |some (q,k,e,d)=>aef s q k e d
      |none=>match CC a b with
       |some (x,y)=>OD op x y s
       |none=>pz s (YD tt t op a b)
   |none=> .fail
 | .unOp op _ x=>yZ s x fun v=>pz s (afe op v)
 | .convert sT dT x=>yZ s x fun v=>match v with
   | .jD e=>C4 tt sT dT e s
   |v=>BF s (oZ tt sT dT v s.h)
 | .makeFunc fn fs cs=>match evs s fs.toList,evs s cs.toList with
   |some f,some c=> .ret (.func fn f c,s)
   |_,_=> .fail
 | .makeMap t r=>match r with
   |none=>match abL tt t with
    |some m=>match Nat.ble 100 m with
     |true=> .ret (.map s.h.fresh,{ s with h:=s.h.new (.ur (.eg (.i 0)) (m-100) (Yz tt t) []) })
     |false=> .ret (.map s.h.fresh,{ s with h:=s.h.new (.jT (.eg (.i 0)) m) })
    |none=> .ret (.map s.h.fresh,{ s with h:=s.h.new (.map [] 1) })
   |some _=> .fail
 | .slice t x lo hi mx=>yZ s x fun v=>match Hu s lo,Hu s hi,Hu s mx with
   |some l,some h,some m=>match v with
    | .eg e t'=>Jw tt s t t' e l h m
    | .oq id n t'=>C2 tt s t id t' (.lit 0) n l h m
    | .sD id lo n t'=>C2 tt s t id t' lo n l h m
    | .jD e=>Jl tt s t e l h m
    | .w4 z t'=>Ju tt s t z t' l h m
    | .dv=>HZ s h fun h s=>pz s (zP tt t .dv l h m)
    | .slice id o 0 (.exact 0)=>HZ s h fun h s=>pz s (zP tt t (.slice id o 0 (.exact 0)) l h m)
    |v=>match zP tt t v l h m with
    |some v=> .ret (v,s)
    |none=>pz s (EH tt t v l h m s.h)
   |_,_,_=> .fail
 | .fieldAddr t x f=>yZ s x fun v=>pz s (vC tt t v f)
 | .field t x f=>yZ s x fun v=>pz s (Jt tt t v f)
 | .indexAddr t x i=>yZ s x fun v=>match ev s i with
   |some i=>match v with
    | .wy k ks=>pz s (Js tt s.pc t k ks i)
    | .eg e t'=>Jx tt s t t' e i
    | .oq id n t'=>Jk tt s t id t' n i
    | .sD id lo n t'=>Jj tt s t id t' lo n i
    | .ptr id o=>match Sy tt t i with
      |some (n,e)=>if o=0 then za s e (.lit (Int.ofNat n)) fun s=> .ret (.yu id 1 e 0,s) else .fail
      |none=>HN tt t (.ptr id o) i s fun i s=>pz s (nX tt t (.ptr id o) i)
    |v=>HN tt t v i s fun i s=>pz s (nX tt t v i)
   |none=> .fail
 | .index t x i=>yZ s x fun v=>match ev s i with
   |some i=>match v with
    | .jD e=>Jm tt s t e i
    | .agg cs=>match Sy tt t i with
      |some (n,e)=>match Nat.beq cs.length n with
       |true=>Hs s cs e
       |false=> .fail
      |none=>HN tt t (.agg cs) i s fun i s=>pz s (zX tt t (.agg cs) i)
    |v=>HN tt t v i s fun i s=>pz s (zX tt t v i)
   |none=> .fail
 | .lookup t m k ok=>yZ s m fun v=>match ev s k with
   |some k=>match xh v s.h with
    |some (_,e,t')=>zT tt t k ok e t' s
    |none=>match EB v s.h with
     |some (_,e,_,_,ov)=>zS tt t k ok e ov s
     |none=>nF tt t v k s fun s=>pz s (EK tt s.pc t v k ok s.h)
   |none=> .fail
 | .mapUpdate t m k x=>yZ s m fun v=>match ev s k,ev s x with
   |some k,some x=>match xh v s.h with
    |some _=>Jp tt t v k x s
    |none=>match EB v s.h with
     |some (id,e,t',eY,ov)=>zR tt t id k x e t' eY ov s
     |none=>nF tt t v k s fun s=>NK s (qR tt s.pc t v k x s.h)
   |_,_=> .fail
 | .insert t m k x=>yZ s m fun v=>match ev s k,ev s x with
   |some k,some x=>match xh v s.h with
    |some _=>Jp tt t v k x s
    |none=>match EB v s.h with
     |some (id,e,t',eY,ov)=>zR tt t id k x e t' eY ov s
     |none=>nF tt t v k s fun s=>NK s (qR tt s.pc t v k x s.h)
   |_,_=> .fail
 | .range t x=>yZ s x fun v=>BF s (Jo tt t v s.h)
 | .next x isS=>yZ s x fun v=>BF s (OH v isS s.h)
 | .entry x=>yZ s x fun v=>pz s (Jv v s.h)
 | .extract x i=>yZ s x fun v=>match v with
   | .tuple vs=>pz s (eX vs i)
   |_=> .fail
 | .call c=>Jz tt call s c
 |_=> .fail
def wb {α:Type} (ops:List Oper) (s:St) (o:Oper) (f:St->Bool->T α):T α:=
 match o.guard with
 |none=>f s true
 |some (j,want)=>match eX ops j with
  |some oj=>match oj.dst with
   |some d=>match s.bE.get d with
    |some (.bool c)=>jn s c fun s b=>f s (b == want)
    |some (.tuple _)=>f s false
    |_=> .fail
   |none=> .fail
  |none=> .fail
def L4 (tt:TT) (call:ek) (all:List Oper):List Oper->St->T St
 |[],s=> .ret s
 |o::rest,s=>wb all s o fun s b=>
  if b then (Jq tt call s o.op).bind fun (v,s')=>L4 tt call all rest (s'.KF o.dst v)
  else L4 tt call all rest (s.KF o.dst W.undef)
inductive Ex where
 |normal
 |exit (id:Nat)
 |ret
 deriving DecidableEq,Inhabited
def vB (body:St->T (Ex×St)):Nat->St->T (Ex×St)
 |0,_=> .fail
 |n+1,s=>(body s).bind fun (e,s')=>match e with
  | .normal=>vB body n s'
  |e=> .ret (e,s')
def iY (tt:TT) (call:ek) (draw:Nat->List Oper->St->T St) (lf:Nat):Code->St->T (Ex×St)
 | .skip,s=> .ret (.normal,s)
 | .region id ops d,s=>
   if d then (draw id ops.toList s).bind fun s'=> .ret (.normal,s')
   else (L4 tt call ops.toList ops.toList s).bind fun s'=> .ret (.normal,s')
 | .seq a b,s=>(iY tt call draw lf a s).bind fun (e,s')=>match e with
   | .normal=>iY tt call draw lf b s'
   |e=> .ret (e,s')
 | .cond c x y,s=>match ev s c with
   |some (.bool c)=>jn s c fun s b=>if b then iY tt call draw lf x s else iY tt call draw lf y s
   |_=> .fail
 | .block id b,s=>(iY tt call draw lf b s).bind fun (e,s')=>match e with
   | .exit j=> .ret (if j=id then .normal else .exit j,s')
   |e=> .ret (e,s')
 | .loop b,s=>vB (iY tt call draw lf b) lf s
 | .exit id,s=> .ret (.exit id,s)
 | .scope b,s=>iY tt call draw lf b s
 | .label _,s=> .ret (.normal,s)
 | .ret,s=> .ret (.ret,s)
 |_,_=> .fail
def cq:List W->Nat->Tr W->Tr W
 |[],_,t=>t
 |v::vs,i,t=>cq vs (i+1) (t.put i (some v))
def zQ (tt:TT) (s:St):ResultVar->Option W
 | .tmp t=>s.bE.get t
 | .cell a t=>match s.bE.get a with
   |some p=>Bg tt t p s.h
   |none=>none
def kQ (tt:TT) (s:St):List ResultVar->Option (List W)
 |[]=>some []
 |r::rs=>match zQ tt s r with
  |none=>none
  |some v=>match kQ tt s rs with
   |none=>none
   |some vs=>some (v::vs)
def FV (tt:TT) (ft:Nat->Option Func) (hook:Nat->Option (List W->St->T (W×St))) (draw:ek->Nat->Nat->List Oper->St->T St) (lf:Nat):Nat->ek
 |0,_,_,_=> .fail
 |n+1,g,args,s=>
  match hook g with
  |some h=>h args s
  |none=>match ft g with
   |none=> .fail
   |some fn=>match fn.body with
    |none=> .fail
    |some c=>
     (iY tt (FV tt ft hook draw lf n) (draw (FV tt ft hook draw lf n) g) lf c { s with bE:=cq args 0 .nil }).bind fun (e,s')=>
      match e with
      | .exit _=> .fail
      |_=>match kQ tt s' fn.results.toList with
       |some [v]=> .ret (v,{ s' with bE:=s.bE })
       |some vs=> .ret (.tuple vs,{ s' with bE:=s.bE })
       |none=> .fail
end
end Go.As
end
section
namespace Go.As
structure En where
 ρ:Nat->Int
 θ:Nat->Nat×Nat
 κ:Nat->Nat
 dm:Nat->Prop
 ro:Nat->Prop
 hd:Nat->Option (Nat×D×Nat):=fun _=>none
def df (s:List Nat):ByteArray:=⟨(s.map UInt8.ofNat).toArray⟩
def iW (h:Array Obj) (b o:Nat):Option Value:=
 match h[b]? with
 |some (.cells c _ _)=>c[o]?
 |_=>none
theorem lF (w:World) (b o:Nat):w.cell? ⟨b,o,none⟩ = iW w.heap b o:=by
 unfold World.cell? iW
 grind
def fR (h:Array Obj) (b o:Nat) (us:List Value):Prop:= ∀i u,us[i]?=some u->iW h b (o+i)=some u
inductive Rd (ro:Nat->Prop) (h:Array Obj):CK->D->Value->Prop where
 |int (k:IntKind) (n:Int):Rd ro h (.int k) (.i n) (.int k n)
 |bool (b:Bool):Rd ro h .bool (.i (if b then 1 else 0)) (.bool b)
 |str (s:ByteArray):Rd ro h .str (tJ s) (.string s)
 |nil (t:Nat):Rd ro h (.sl t) (.i 1) (.slice none 0 0)
 |we (t:Nat) (a:Addr) (cap:Nat):Rd ro h (.sl t) (.i 2) (.slice (some a) 0 cap)
 |one (t:Nat) (c:CK) (b o cap:Nat) (ds:List D) (f:Nat->Value) (hr:rowOf t= .one c) (hc:ds.length<=cap) (hb:ro b)
  (U: ∀i d,ds[i]?=some d->iW h b (o+i)=some (f i)) (Z: ∀i d,ds[i]?=some d->Rd ro h c d (f i)):Rd ro h (.sl t) (dL ds) (.slice (some ⟨b,o,none⟩) ds.length cap)
 |many (t:Nat) (cs:List CK) (b o cap:Nat) (rows:List (List D)) (f:Nat->Nat->Value) (hr:rowOf t= .many cs) (hc:rows.length<=cap) (hb:ro b) (Y: ∀r∈rows,r.length=cs.length)
  (U: ∀i r j d,rows[i]?=some r->r[j]?=some d->iW h b (o+i*cs.length+j)=some (f i j))
  (Z: ∀i r j d c,rows[i]?=some r->r[j]?=some d->cs[j]?=some c->Rd ro h c d (f i j)):Rd ro h (.sl t) (dL (rows.map dL)) (.slice (some ⟨b,o,none⟩) rows.length cap)
theorem Rd.T_ {ro:Nat->Prop} {h:Array Obj} {c:CK} {d:D} {v:Value} (r:Rd ro h c d v):v.oneCell'=true:=by cases r<;>rfl
theorem Rd.keep {ro mg:Nat->Prop} {h h':Array Obj} (k1: ∀b,ro b->mg b) (k2: ∀b,ro b->h'[b]?=h[b]?) {c:CK} {d:D} {v:Value} (r:Rd ro h c d v):Rd mg h' c d v:=by
 have hk: ∀b o u,ro b->iW h b o=some u->iW h' b o=some u:=by
  intro b o u hb hu
  grind [iW]
 induction r with
 |int k n=>exact .int k n
 |bool b=>exact .bool b
 |str s=>exact .str s
 |nil t=>exact .nil t
 |we t a cap=>exact .we t a cap
 |one t c b o cap ds f hr hc hb U Z ih=>exact .one t c b o cap ds f hr hc (k1 b hb) (fun i d hi=>hk _ _ _ hb (U i d hi)) ih
 |many t cs b o cap rows f hr hc hb Y U Z ih=>exact .many t cs b o cap rows f hr hc (k1 b hb) Y (fun i r j d hi hj=>hk _ _ _ hb (U i r j d hi hj)) ih
def eC (E:En) (id off len:Nat) (a:Addr) (cap:Nat):MN->Prop
 | .exact c=>cap=c/\((a=⟨(E.θ id).1,(E.θ id).2+off,none⟩)\/c=0)
 | .rest es=>(a=⟨(E.θ id).1,(E.θ id).2+off,none⟩/\off+cap*es=E.κ id)\/(cap=0/\len=0/\off=E.κ id)
mutual
def VR (E:En) (h:Array Obj):W->Value->Prop
 | .bool b,v=>v= .bool (b.den E.ρ)
 | .int k e,v=>v= .int k (e.den E.ρ)
 | .str s,v=>v= .string (df s)/\∀b∈s,b<256
 | .ptr id off,v=>v= .pointer (some ⟨(E.θ id).1,(E.θ id).2+off,none⟩)/\E.dm id
 | .sV,v=>v= .pointer none
 | .mJ cs,v=> ∃b o us,v= .pointer (some ⟨b,o,none⟩)/\E.ro b/\cw E h cs us/\fR h b o us/\∀u∈us,u.oneCell'=true
 | .slice id off len c,v=>E.dm id/\∃a cap,v= .slice (some a) len cap/\len<=cap/\eC E id off len a cap c
 | .dv,v=>v= .slice none 0 0
 | .ro cs n full,v=> ∃b o cap us,v= .slice (some ⟨b,o,none⟩) n cap/\n<=cap/\(full=true->cap=n)/\E.ro b/\cw E h cs us/\fR h b o us/\∀u∈us,u.oneCell'=true
 | .map id,v=>v= .map (some (E.θ id).1)/\E.dm id
 | .ri,v=>v= .map none
 | .func fn fs cs,v=> ∃us ws,v= .func fn us.toArray ws.toArray/\cw E h fs us/\cw E h cs ws
 | .u4,v=>v= .nilFunc
 | .iface t x,v=> ∃u,v= .iface t u/\VR E h x u
 | .wY,v=>v= .nilIface
 | .agg cs,v=> ∃us,v= .agg us.toArray/\cw E h cs us
 | .tuple cs,v=> ∃us,v= .tuple us.toArray/\cw E h cs us
 | .Kc _,_=>False
 | .emp,v=> ∃x,v= .slice x 0 0
 | .eg e t,v=>Rd E.ro h (.sl t) (dec (e.den E.ρ)) v
 | .jD e,v=>Rd E.ro h .str (dec (e.den E.ρ)) v
 | .oq id n t,v=>E.dm id/\∃(k:Nat) (a:Addr) (cap:Nat),n.den E.ρ=(k:Int)/\v= .slice (some a) k cap/\k<=cap/\eC E id 0 k a cap (.rest (rowOf t).es)
 | .yu id es i off,v=>E.dm id/\∃k:Nat,i.den E.ρ=(k:Int)/\v= .pointer (some ⟨(E.θ id).1,(E.θ id).2+(k*es+off),none⟩)
 | .any,_=>True
 | .w4 z t,v=>(∃x,v= .slice x 0 0)/\Rd E.ro h (.sl t) (dec (z.den E.ρ)) v
 | .sD id lo n t,v=>E.dm id/\∃(l k:Nat) (a:Addr) (cap:Nat),lo.den E.ρ=(l:Int)/\n.den E.ρ=(k:Int)/\v= .slice (some a) k cap/\k<=cap/\eC E id (l*(rowOf t).es) k a cap (.rest (rowOf t).es)
 | .wy k ks,v=>((∃x cap,v= .slice x 0 cap)/\E.ρ (900+k)=0)\/∃b o n cap,v= .slice (some ⟨b,o,none⟩) n cap/\n<=cap/\E.ρ (900+k)=(n:Int)/\E.ro b/\
  ∀i j kd,i<n->ks[j]?=some kd->iW h b (o+i*ks.length+j)=some (.int kd (E.ρ (1000+i*64+(k*8+j))))
def cw (E:En) (h:Array Obj):List W->List Value->Prop
 |[],us=>us= []
 |x::xs,us=> ∃u vs,us=u::vs/\VR E h x u/\cw E h xs vs
end
theorem fP {E:En} {h:Array Obj} {us:List Value}:cw E h [] us↔us= []:=by simp [cw]
theorem bO {E:En} {h:Array Obj} {x:W} {xs:List W} {us:List Value}:cw E h (x::xs) us↔∃u vs,us=u::vs/\VR E h x u/\cw E h xs vs:=by simp [cw]
theorem cw.length {E:En} {h:Array Obj}: ∀{xs:List W} {us:List Value},cw E h xs us->us.length=xs.length
 |[],us,hh=>by rw [fP] at hh; simp [hh]
 |x::xs,us,hh=>by rw [bO] at hh;obtain⟨u,vs,rfl,_,Z⟩:=hh;simp [Z.length]
theorem cw.append {E:En} {h:Array Obj}: ∀{xs ys:List W} {us vs:List Value},cw E h xs us->cw E h ys vs->cw E h (xs++ys) (us++vs)
 |[],_,us,vs,U,Z=>by rw [fP] at U; subst U; simpa using Z
 |x::xs,ys,us,vs,U,Z=>by rw [bO] at U;obtain⟨u,gw,rfl,hx,mM⟩:=U;simp only [aR];rw [bO];exact⟨u,gw++vs,rfl,hx,mM.append Z⟩
theorem cw.iy {E:En} {h:Array Obj}: ∀{n:Nat} {xs ys:List W} {us:List Value},cw E h xs us->As.iy n xs=some ys->cw E h ys (us.take n)/\n<=xs.length
 |0,xs,ys,us,_,Z=>by simp [As.iy] at Z; subst Z; simp [cw]
 |n+1,[],ys,us,_,Z=>by simp [As.iy] at Z
 |n+1,x::xs,ys,us,U,Z=>by
  rw [bO] at U;obtain⟨u,vs,rfl,hx,mM⟩:=U;simp only [As.iy] at Z;split at Z
  ·rename_i l Y;simp at Z;subst Z;have:=mM.iy Y
   grind [bO]
  grind
theorem cw.eE {E:En} {h:Array Obj}: ∀{n:Nat} {xs ys:List W} {us:List Value},cw E h xs us->As.eE n xs=some ys->cw E h ys (us.drop n)/\n<=xs.length/\ys.length=xs.length-n
 |0,xs,ys,us,U,Z=>by simp [As.eE] at Z; subst Z; simpa using U
 |n+1,[],ys,us,_,Z=>by simp [As.eE] at Z
 |n+1,x::xs,ys,us,U,Z=>by
  rw [bO] at U;obtain⟨u,vs,rfl,hx,mM⟩:=U;simp only [As.eE] at Z;have:=mM.eE Z
  grind
theorem cw.nth {E:En} {h:Array Obj}: ∀{i:Nat} {xs:List W} {x:W} {us:List Value},cw E h xs us->eX xs i=some x->∃u,us[i]?=some u/\VR E h x u
 |_,[],_,us,_,Z=>by simp [eX] at Z
 |0,x::xs,y,us,U,Z=>by
  rw [bO] at U;obtain⟨u,vs,rfl,hx,mM⟩:=U
  grind [eX]
 |i+1,x::xs,y,us,U,Z=>by
  rw [bO] at U;obtain⟨u,vs,rfl,hx,mM⟩:=U;simp only [eX] at Z;obtain⟨v,h3,h4⟩:=mM.nth Z
  grind
def eK (E:En) (h:Array Obj):List (W×W×Nat)->List MapEntry->Prop
 |[],es=>es= []
 |(k,v,b)::xs,es=> ∃e r,es=e::r/\VR E h k e.key/\VR E h v e.val/\b=b/\eK E h xs r
def HS (ro:Nat->Prop) (h:Array Obj):List CK->Nat->D->List Value->Prop
 |[],_,_,us=>us= []
 |c::cs,j,d,us=> ∃u vs,us=u::vs/\Rd ro h c (d.hd j) u/\HS ro h cs (j+1) d vs
def FY (ro:Nat->Prop) (h:Array Obj) (r:Row) (d:D) (v:Value):Prop:=match r with
 | .one c=>Rd ro h c d v
 | .many cs=>wU cs d/\∃us,v= .agg us.toArray/\HS ro h cs 0 d us
theorem HS.keep {ro mg:Nat->Prop} {h h':Array Obj} (k1: ∀b,ro b->mg b) (k2: ∀b,ro b->h'[b]?=h[b]?) {d:D}: ∀{cs:List CK} {j:Nat} {us:List Value},HS ro h cs j d us->HS mg h' cs j d us
 |[],_,_,hh=>hh
 |_::_,_,_,hh=>by obtain⟨u,vs,U,Z,h3⟩:=hh;exact⟨u,vs,U,Z.keep k1 k2,HS.keep k1 k2 h3⟩
theorem FY.keep {ro mg:Nat->Prop} {h h':Array Obj} (k1: ∀b,ro b->mg b) (k2: ∀b,ro b->h'[b]?=h[b]?) {r:Row} {d:D} {v:Value} (hh:FY ro h r d v):FY mg h' r d v:=by
 cases r with
 |one c=>exact Rd.keep k1 k2 hh
 |many cs=> obtain⟨h0,us,U,Z⟩:=hh;exact⟨h0,us,U,Z.keep k1 k2⟩
def jW (ro:Nat->Prop) (h:Array Obj) (t:Nat):List D->List MapEntry->Prop
 |[],es=>es= []
 |d::ds,es=> ∃e r,es=e::r/\d= .p (ji d) (FW d)/\FY ro h (mapOf t).1 (ji d) e.key/\FY ro h (mapOf t).2 (FW d) e.val/\jW ro h t ds r
theorem jW.keep {ro mg:Nat->Prop} {h h':Array Obj} (k1: ∀b,ro b->mg b) (k2: ∀b,ro b->h'[b]?=h[b]?) {t:Nat}: ∀{ds:List D} {es:List MapEntry},jW ro h t ds es->jW mg h' t ds es
 |[],_,hh=>hh
 |_::_,_,hh=>by obtain⟨e,r,U,Z,h3,h4,h5⟩:=hh;exact⟨e,r,U,Z,h3.keep k1 k2,h4.keep k1 k2,jW.keep k1 k2 h5⟩
theorem jW.length {ro:Nat->Prop} {h:Array Obj} {t:Nat}: ∀{ds:List D} {es:List MapEntry},jW ro h t ds es->es.length=ds.length
 |[],_,hh=>by simp only [jW] at hh; rw [hh]; rfl
 |_::_,_,hh=>by obtain⟨e,r,U,_,_,_,h5⟩:=hh;rw [U,aL,aL,jW.length h5]
noncomputable def dY (ρ:Nat->Int) (i:Nat):List (V×List W)->Option (List W)
 |[]=>none
 |(j,cs)::l=>if j.den ρ=(i:Int) then some cs else dY ρ i l
noncomputable def bD (ρ:Nat->Int) (r:Row) (ov:List (V×List W)):List D->Nat->List W
 |[],_=>[]
 |d::ds,i=>(match dY ρ i ov with |some cs=>cs|none=>gz r (.eg d))++bD ρ r ov ds (i+1)
def sU (r:Row) (ov:List (V×List W)):Prop:= ∀p∈ov,p.2.length=r.es
noncomputable def lJ (ρ:Nat->Int) (n:Int):List (V×W)->Option W
 |[]=>none
 |(x,v)::l=>if x.den ρ=n then some v else lJ ρ n l
def amc (E:En) (h:Array Obj) (B:Nat) (k:D) (j ty t:Nat) (d:D) (u:Value):Prop:=
 ∃b o n cap a arr lo hi,u= .slice (some a) n cap/\n<=cap/\E.hd b=some (B,k,j)/\h[b]?=some (.cells arr ty (lo,hi))/\((a=⟨b,o,none⟩/\o+cap*(rowOf t).es=arr.size)\/(cap=0/\n=0/\o=arr.size))/\(∀q,lo<=q->q<hi->arr.size<=q)/\
  ((n=0/\d= .i 3)\/(sB (rowOf t) d/\d.l.length=n/\∃us,cw E h (bD E.ρ (rowOf t) [] d.l 0) us/\(∀i u,us[i]?=some u->arr[o+i]?=some u)/\∀u∈us,u.oneCell'=true))
def oU (E:En) (h:Array Obj) (B:Nat) (k:D) (j ty:Nat) (c:FC) (d:D) (u:Value):Prop:=match c with
 | .ck c=>Rd E.ro h c d u
 | .own t=>((∃x,u= .slice x 0 0)/\Rd E.ro h (.sl t) d u)\/amc E h B k j ty t d u
 | .mp t=> ∃b bJ c,u= .map (some b)/\E.hd b=some (B,k,j)/\h[b]?=some (.map bJ c)/\jW E.ro h t d.l bJ.toList
def qg (E:En) (h:Array Obj) (B t:Nat) (eY:List Nat) (k d:D) (v:Value):Prop:=match (qQ t).ptr with
 |false=> ∃c,(qQ t).cs= [c]/\oU E h B k 1 (eY.getD 1 0) c d v
 |true=> ∃b o arr lo hi,v= .pointer (some ⟨b,o,none⟩)/\E.hd b=some (B,k,0)/\h[b]?=some (.cells arr (eY.getD 0 0) (lo,hi))/\o+(qQ t).cs.length<=arr.size/\(∀q,lo<=q->q<hi->arr.size<=q)/\
  ∀j c,(qQ t).cs[j]?=some c->∃u,arr[o+j]?=some u/\u.oneCell'=true/\oU E h B k (j+1) (eY.getD (j+2) 0) c (d.hd j) u
def eP (E:En) (h:Array Obj) (B t:Nat) (eY:List Nat) (ov:List (V×W)):List D->List MapEntry->Prop
 |[],es=>es= []
 |d::ds,es=> ∃e r n,es=e::r/\d= .p (.i n) (FW d)/\e.key= .int .i64 n/\(match lJ E.ρ n ov with |some v=>VR E h v e.val|none=>qg E h B t eY (.i n) (FW d) e.val)/\eP E h B t eY ov ds r
def Ap (ρ:Nat->Int) (ds:List D) (ov:List (V×W)):Prop:=(ds.map ji).Nodup/\(∀p∈ov,D.i (p.1.den ρ)∈ds.map ji)/\(ov.map fun p=>p.1.den ρ).Nodup
def SH:Nat->List (W×W×Nat)->List MapEntry->Nat->Prop
 |0,_,_,_=>True
 |c+1,es,bJ,c'=>c'=c/\bJ.map (·.born)=es.map (·.2.2)
def OR (E:En) (h:Array Obj) (id:Nat):dP->Prop
 | .cells cs e=> ∃arr lo hi us,h[(E.θ id).1]?=some (.cells arr e (lo,hi))/\cw E h cs us/\(∀i u,us[i]?=some u->arr[(E.θ id).2+i]?=some u)/\
  cs.length<=E.κ id/\(E.θ id).2+E.κ id=arr.size/\(∀o,lo<=o->o<hi->arr.size<=o)/\(∀u∈us,u.oneCell'=true)
 | .map es k=> ∃bJ c,h[(E.θ id).1]?=some (.map bJ c)/\eK E h es bJ.toList/\SH k es bJ.toList c
 | .vec e t ty ov=>(sU (rowOf t) ov/\sB (rowOf t) (dec (e.den E.ρ)))/\∃arr lo hi us,h[(E.θ id).1]?=some (.cells arr ty (lo,hi))/\cw E h (bD E.ρ (rowOf t) ov (dec (e.den E.ρ)).l 0) us/\(∀i u,us[i]?=some u->arr[(E.θ id).2+i]?=some u)/\
  (bD E.ρ (rowOf t) ov (dec (e.den E.ρ)).l 0).length<=E.κ id/\(E.θ id).2+E.κ id=arr.size/\(∀o,lo<=o->o<hi->arr.size<=o)/\(∀u∈us,u.oneCell'=true)
 | .j4 s p=>h[(E.θ id).1]?=some (.stringIter (df s) p)/\(E.θ id).2=0/\∀b∈s,b<256
 | .jt m s l z=>match m with
   |none=>h[(E.θ id).1]?=some (.mapIter none s l.toArray z)/\(E.θ id).2=0
   |some i=>h[(E.θ id).1]?=some (.mapIter (some (E.θ i).1) s l.toArray z)/\(E.θ id).2=0/\E.dm i
 | .jT e t=> ∃bJ c,h[(E.θ id).1]?=some (.map bJ c)/\jW E.ro h t (dec (e.den E.ρ)).l bJ.toList
 | .ur e t eY ov=>Ap E.ρ (dec (e.den E.ρ)).l ov/\∃bJ c,h[(E.θ id).1]?=some (.map bJ c)/\eP E h (E.θ id).1 t eY ov (dec (e.den E.ρ)).l bJ.toList
class bG where
 ok:(Nat->Int)->(Nat->Prop)->Array Obj->Prop
 keep: ∀{ρ:Nat->Int} {ro mg:Nat->Prop} {h h':Array Obj},ok ρ ro h->(∀b,ro b->mg b)->(∀b,ro b->h'[b]?=h[b]?)->ok ρ mg h'
 gL: ∀{ρ ρ':Nat->Int} {ro:Nat->Prop} {h:Array Obj},ok ρ ro h->(∀i,900<=i->ρ' i=ρ i)->ok ρ' ro h
structure bN [bG] (E:En) (H:Hp) (w:World):Prop where
 fresh: ∀id,H.next<=id->¬E.dm id
 res: ∀r,H.res=some r->r<H.next/\¬E.dm r
 live: ∀id o,H.get id=some o->E.dm id/\OR E w.heap id o/\¬E.ro (E.θ id).1
 inj: ∀id Ob o o',H.get id=some o->H.get Ob=some o'->(E.θ id).1=(E.θ Ob).1->id=Ob
 qC: ∀b,E.ro b->b<w.heap.size
 iX:bG.ok E.ρ E.ro w.heap
 hid: ∀b x,E.hd b=some x->b<w.heap.size/\¬E.ro b/\∀id o,H.get id=some o->(E.θ id).1≠b
structure eS (E:En) (H:Hp) (w:World) (E':En) (H':Hp) (w':World):Prop where
 ρ:E'.ρ=E.ρ
 dm: ∀id,E.dm id->E'.dm id
 θ: ∀id,E.dm id->E'.θ id=E.θ id
 κ: ∀id,E.dm id->E'.κ id=E.κ id
 ro: ∀b,E.ro b->E'.ro b
 rF: ∀b,E'.ro b->E.ro b\/(∃id o,H.get id=some o/\(E.θ id).1=b)\/w.heap.size<=b
 NW:H.next<=H'.next
 rsm:H'.res=none\/H'.res=H.res
 ZT: ∀id,E'.dm id->E.dm id\/(H.next<=id/\id<H'.next)\/H.res=some id
 os:w'.os=w.os
 tape:w'.tape=w.tape
 output:w'.output=w.output
 size:w.heap.size<=w'.heap.size
 keep: ∀b,b<w.heap.size->(∀id o,H.get id=some o->(E.θ id).1≠b)->w'.heap[b]?=w.heap[b]?
 own: ∀id o,H'.get id=some o->(E'.θ id).1<w.heap.size->∃rG o0,H.get rG=some o0/\(E.θ rG).1=(E'.θ id).1
 hd:E'.hd=E.hd
theorem eS.refl (E:En) (H:Hp) (w:World):eS E H w E H w:=
 ⟨rfl,fun _ h=>h,fun _ _=>rfl,fun _ _=>rfl,fun _ h=>h,fun _ h=> .inl h,au _,.inr rfl,fun _ h=> .inl h,rfl,rfl,rfl,au _,fun _ _ _=>rfl,fun id o h _=> ⟨id,o,h,rfl⟩,rfl⟩
theorem eS.trans {E E1 E2:En} {H H1 H2:Hp} {w w1 w2:World} (a:eS E H w E1 H1 w1) (b:eS E1 H1 w1 E2 H2 w2):eS E H w E2 H2 w2 where
 ρ:=b.ρ.trans a.ρ
 dm:=fun id h=>b.dm id (a.dm id h)
 θ:=fun id h=>(b.θ id (a.dm id h)).trans (a.θ id h)
 κ:=fun id h=>(b.κ id (a.dm id h)).trans (a.κ id h)
 ro:=fun x h=>b.ro x (a.ro x h)
 rF:=fun x h=>by
  rcases b.rF x h with h|⟨id,o,U,Z⟩|h
  ·exact a.rF x h
  ·rcases aT x w.heap.size with hx|hx
   ·obtain⟨rG,o0,h3,h4⟩:=a.own id o U (by rw [Z]; exact hx);exact .inr (.inl ⟨rG,o0,h3,h4.trans Z⟩)
   ·exact .inr (.inr hx)
  ·exact .inr (.inr (bk a.size h))
 NW:=bk a.NW b.NW
 rsm:=by
  rcases b.rsm with h|h
  ·exact .inl h
  ·rw [h]; exact a.rsm
 ZT:=fun id h=>by
  rcases b.ZT id h with h|h|h
  ·rcases a.ZT id h with h|h|h
   ·exact .inl h
   ·exact .inr (.inl ⟨h.1,amZ h.2 b.NW⟩)
   ·exact .inr (.inr h)
  ·exact .inr (.inl ⟨bk a.NW h.1,h.2⟩)
  ·rcases a.rsm with h'|h'
   ·rw [h'] at h; simp at h
   ·exact .inr (.inr (h'.symm.trans h))
 os:=b.os.trans a.os
 tape:=b.tape.trans a.tape
 output:=b.output.trans a.output
 size:=bk a.size b.size
 keep:=fun x hx hn=>by rw [b.keep x (amZ hx a.size) ?_,a.keep x hx hn];intro id o ho he;obtain⟨rG,o0,h0,he0⟩:=a.own id o ho (by rw [he]; exact hx);exact hn rG o0 h0 (he0.trans he)
 own:=fun id o ho fD=>by obtain⟨id1,o1,U,Yj⟩:=b.own id o ho (amZ fD a.size);obtain⟨rG,o0,h0,he0⟩:=a.own id1 o1 U (by rw [Yj]; exact fD);exact⟨rG,o0,h0,he0.trans Yj⟩
 hd:=b.hd.trans a.hd
structure fw (E:En) (h:Array Obj) (E':En) (h':Array Obj):Prop where
 ρ:E'.ρ=E.ρ
 dm: ∀id,E.dm id->E'.dm id
 θ: ∀id,E.dm id->E'.θ id=E.θ id
 κ: ∀id,E.dm id->E'.κ id=E.κ id
 ro: ∀b,E.ro b->E'.ro b
 BE: ∀b,E.ro b->h'[b]?=h[b]?
theorem eS.keeps [bG] {E E':En} {H H':Hp} {w w':World} (s:eS E H w E' H' w') (r:bN E H w):fw E w.heap E' w'.heap:=
 ⟨s.ρ,s.dm,s.θ,s.κ,s.ro,fun b hb=>s.keep b (r.qC b hb) fun id o ho he=>(r.live id o ho).2.2 (by rw [he]; exact hb)⟩
theorem fR.keep {E E':En} {h h':Array Obj} (k:fw E h E' h') {b o:Nat} {us:List Value} (hb:E.ro b) (hc:fR h b o us):fR h' b o us:=by
 intro i u hu;have:=hc i u hu;unfold iW at *;rw [k.BE b hb]
 grind
theorem eC.keep {E E':En} {h h':Array Obj} (k:fw E h E' h') {id off len:Nat} {a:Addr} {cap:Nat} {c:MN} (hid:E.dm id) (hc:eC E id off len a cap c):eC E' id off len a cap c:=by
 cases c<;>simp only [eC] at*<;>rw [k.θ id hid]
 ·exact hc
 ·rw [k.κ id hid]; exact hc
mutual
theorem VR.keep {E E':En} {h h':Array Obj} (k:fw E h E' h'): ∀(x:W) (v:Value),VR E h x v->VR E' h' x v
 | .bool b,v,hv=>by simp only [VR] at *; rw [k.ρ]; exact hv
 | .int _ e,v,hv=>by simp only [VR] at *; rw [k.ρ]; exact hv
 | .str s,v,hv=>by simp only [VR] at *; exact hv
 | .ptr id off,v,hv=>by simp only [VR] at *; rw [k.θ id hv.2]; exact⟨hv.1,k.dm _ hv.2⟩
 | .sV,v,hv=>by simp only [VR] at *; exact hv
 | .mJ cs,v,hv=>by simp only [VR] at *;obtain⟨b,o,us,U,Z,h3,h4,h5⟩:=hv;exact⟨b,o,us,U,k.ro b Z,cw.keep k cs us h3,h4.keep k Z,h5⟩
 | .slice id off len c,v,hv=>by simp only [VR] at *;obtain⟨U,a,cap,Z,h3,h4⟩:=hv;exact⟨k.dm _ U,a,cap,Z,h3,h4.keep k U⟩
 | .dv,v,hv=>by simp only [VR] at *; exact hv
 | .ro cs n full,v,hv=>by simp only [VR] at *;obtain⟨b,o,cap,us,U,Z,h3,h4,h5,h6,h7⟩:=hv;exact⟨b,o,cap,us,U,Z,h3,k.ro b h4,cw.keep k cs us h5,h6.keep k h4,h7⟩
 | .map id,v,hv=>by simp only [VR] at *; rw [k.θ id hv.2]; exact⟨hv.1,k.dm _ hv.2⟩
 | .ri,v,hv=>by simp only [VR] at *; exact hv
 | .func fn fs cs,v,hv=>by simp only [VR] at *;obtain⟨us,ws,U,Z,h3⟩:=hv;exact⟨us,ws,U,cw.keep k fs us Z,cw.keep k cs ws h3⟩
 | .u4,v,hv=>by simp only [VR] at *; exact hv
 | .iface t x,v,hv=>by simp only [VR] at *;obtain⟨u,U,Z⟩:=hv;exact⟨u,U,VR.keep k x u Z⟩
 | .wY,v,hv=>by simp only [VR] at *; exact hv
 | .agg cs,v,hv=>by simp only [VR] at *;obtain⟨us,U,Z⟩:=hv;exact⟨us,U,cw.keep k cs us Z⟩
 | .tuple cs,v,hv=>by simp only [VR] at *;obtain⟨us,U,Z⟩:=hv;exact⟨us,U,cw.keep k cs us Z⟩
 | .Kc _,v,hv=>by simp only [VR] at hv
 | .emp,v,hv=>by simp only [VR] at *; exact hv
 | .eg e t,v,hv=>by simp only [VR] at *; rw [k.ρ]; exact hv.keep k.ro k.BE
 | .jD e,v,hv=>by simp only [VR] at *; rw [k.ρ]; exact hv.keep k.ro k.BE
 | .oq id n t,v,hv=>by simp only [VR] at *;obtain⟨U,m,a,cap,Z,h3,h4,h5⟩:=hv;exact⟨k.dm _ U,m,a,cap,by rw [k.ρ]; exact Z,h3,h4,h5.keep k U⟩
 | .any,_,_=>by simp only [VR]
 | .w4 z t,v,hv=>by simp only [VR] at *; rw [k.ρ]; exact⟨hv.1,hv.2.keep k.ro k.BE⟩
 | .sD id lo n t,v,hv=>by simp only [VR] at *;obtain⟨U,l,m,a,cap,Z,h3,h4,h5,h6⟩:=hv;exact⟨k.dm _ U,l,m,a,cap,by rw [k.ρ]; exact Z,by rw [k.ρ]; exact h3,h4,h5,h6.keep k U⟩
 | .yu id es i off,v,hv=>by simp only [VR] at *;obtain⟨U,m,Z,h3⟩:=hv;exact⟨k.dm _ U,m,by rw [k.ρ]; exact Z,by rw [k.θ id U]; exact h3⟩
 | .wy kk ks,v,hv=>by
   simp only [VR] at *;rw [k.ρ];rcases hv with hv|⟨b,o,n,cap,U,Z,h3,h4,h5⟩
   ·grind
   ·refine .inr ⟨b,o,n,cap,U,Z,h3,k.ro b h4,fun i j kd hi hj=>?_⟩;have:=h5 i j kd hi hj;unfold iW at *;rw [k.BE b h4]
    grind
theorem cw.keep {E E':En} {h h':Array Obj} (k:fw E h E' h'): ∀(xs:List W) (us:List Value),cw E h xs us->cw E' h' xs us
 |[],us,hv=>by simp only [cw] at *; exact hv
 |x::xs,us,hv=>by simp only [cw] at *;obtain⟨u,vs,U,Z,h3⟩:=hv;exact⟨u,vs,U,VR.keep k x u Z,cw.keep k xs vs h3⟩
end
theorem eK.keep {E E':En} {h h':Array Obj} (k:fw E h E' h'): ∀(xs:List (W×W×Nat)) (es:List MapEntry),eK E h xs es->eK E' h' xs es
 |[],es,hv=>by simp only [eK] at *; exact hv
 |(a,b,c)::xs,es,hv=>by simp only [eK] at *;obtain⟨e,r,U,Z,h3,h4,h5⟩:=hv;exact⟨e,r,U,VR.keep k _ _ Z,VR.keep k _ _ h3,h4,eK.keep k xs r h5⟩
theorem bN.T5 [bG] {E E':En} {H H':Hp} {w w':World} (r:bN E H w) (he:E'.hd=E.hd) (hs:w.heap.size<=w'.heap.size) (rF: ∀b,E'.ro b->E.ro b\/(∃id o,H.get id=some o/\(E.θ id).1=b)\/w.heap.size<=b)
 (own: ∀id o,H'.get id=some o->(E'.θ id).1<w.heap.size->∃rG o0,H.get rG=some o0/\(E.θ rG).1=(E'.θ id).1): ∀b x,E'.hd b=some x->b<w'.heap.size/\¬E'.ro b/\∀id o,H'.get id=some o->(E'.θ id).1≠b:=by
 intro b x hb;rw [he] at hb;obtain⟨q1,q2,q3⟩:=r.hid b x hb;refine⟨J,fun hr=>?_,fun id o ho e=>?_⟩
 ·rcases rF b hr with h|⟨id,o,U,Z⟩|h
  ·exact q2 h
  ·exact q3 id o U Z
  ·omega
 ·obtain⟨rG,o0,h0,e0⟩:=own id o ho (by rw [e]; exact q1);exact q3 rG o0 h0 (e0.trans e)
def HdK (E:En) (h:Array Obj) (E':En) (h':Array Obj) (B:Nat) (k:D):Prop:= ∀b j,E.hd b=some (B,k,j)->E'.hd b=some (B,k,j)/\h'[b]?=h[b]?
theorem bN.T8 [bG] {E E':En} {H:Hp} {w:World} {h':Array Obj} (r:bN E H w) (he:E'.hd=E.hd) (hk: ∀b,b<w.heap.size->(∀id o,H.get id=some o->(E.θ id).1≠b)->h'[b]?=w.heap[b]?) (B:Nat) (key:D):HdK E w.heap E' h' B key:=
 fun b _ hb=> ⟨by rw [he]; exact hb,hk b (r.hid b _ hb).1 (r.hid b _ hb).2.2⟩
theorem oU.keep {E E':En} {h h':Array Obj} (k:fw E h E' h') {B:Nat} {key:D} {j ty:Nat} (hh: ∀b,E.hd b=some (B,key,j)->E'.hd b=some (B,key,j)/\h'[b]?=h[b]?) {c:FC} {d:D} {u:Value} (ho:oU E h B key j ty c d u):oU E' h' B key j ty c d u:=by
 cases c with
 |ck c=>exact Rd.keep k.ro k.BE ho
 |own t=>
  rcases ho with ⟨U,Z⟩|⟨b,o,n,cap,a,arr,lo,hi,U,Z,h3,h4,h5,h6,h7⟩
  ·exact .inl ⟨U,Rd.keep k.ro k.BE Z⟩
  ·obtain⟨q1,q2⟩:=hh b h3;refine .inr ⟨b,o,n,cap,a,arr,lo,hi,U,Z,q1,by rw [q2]; exact h4,h5,h6,?_⟩;rcases h7 with h7|⟨g1,g2,us,g3,g4⟩
   ·exact .inl h7
   ·exact .inr ⟨g1,g2,us,by rw [k.ρ]; exact cw.keep k _ us g3,g4⟩
 |mp t=> obtain⟨b,bJ,c,U,Z,h3,h4⟩:=ho;obtain⟨q1,q2⟩:=hh b Z;exact⟨b,bJ,c,U,q1,by rw [q2]; exact h3,h4.keep k.ro k.BE⟩
theorem qg.keep {E E':En} {h h':Array Obj} (k:fw E h E' h') {B t:Nat} {eY:List Nat} {key d:D} {v:Value} (hh:HdK E h E' h' B key) (ho:qg E h B t eY key d v):qg E' h' B t eY key d v:=by
 unfold qg at *;split at ho
 ·obtain⟨c,U,Z⟩:=ho;exact⟨c,U,Z.keep k fun b=>hh b _⟩
 ·obtain⟨b,o,arr,lo,hi,U,Z,h3,h4,h5,h6⟩:=ho;obtain⟨q1,q2⟩:=hh b 0 Z;refine⟨b,o,arr,lo,hi,U,q1,by rw [q2]; exact h3,h4,h5,fun j c hc=>?_⟩;obtain⟨u,g1,g2,g3⟩:=h6 j c hc;exact⟨u,g1,g2,g3.keep k fun b=>hh b _⟩
theorem eP.keep {E E':En} {h h':Array Obj} (k:fw E h E' h') {B t:Nat} {eY:List Nat} {ov:List (V×W)} (hh: ∀n,lJ E.ρ n ov=none->HdK E h E' h' B (.i n)): ∀{ds:List D} {es:List MapEntry},eP E h B t eY ov ds es->eP E' h' B t eY ov ds es
 |[],_,ho=>ho
 |d::ds,_,⟨e,r,n,U,Z,h3,h4,h5⟩=>by
  refine⟨e,r,n,U,Z,h3,?_,eP.keep k hh h5⟩;rw [k.ρ];split at h4
  ·rename_i v hv;exact VR.keep k _ _ h4
  ·rename_i hv;exact h4.keep k (hh n hv)
def nf:dP->Bool
 | .ur _ _ _ _=>false
 |_=>true
theorem eP.length {E:En} {h:Array Obj} {B t:Nat} {eY:List Nat} {ov:List (V×W)}: ∀{ds:List D} {es:List MapEntry},eP E h B t eY ov ds es->es.length=ds.length
 |[],_,ho=>by simp only [eP] at ho; rw [ho]; rfl
 |d::ds,_,⟨e,r,n,U,_,_,_,h5⟩=>by rw [U,aL,aL,eP.length h5]
theorem OR.XK {E E':En} {h h':Array Obj} (k:fw E h E' h') {id:Nat} {o:dP} (hid:E.dm id) (hb:h'[(E.θ id).1]?=h[(E.θ id).1]?) (hh:nf o=true\/∀key,HdK E h E' h' (E.θ id).1 key) (ho:OR E h id o):OR E' h' id o:=by
 cases o with
 |cells cs e=> simp only [OR] at *;obtain⟨arr,lo,hi,us,U,Z,h3,h4,h5,h6,h7⟩:=ho;rw [k.θ id hid,k.κ id hid,hb];exact⟨arr,lo,hi,us,U,cw.keep k cs us Z,h3,h4,h5,h6,h7⟩
 |map es c=> simp only [OR] at *;obtain⟨bJ,c,U,Z,h3⟩:=ho;rw [k.θ id hid,hb];exact⟨bJ,c,U,eK.keep k _ _ Z,h3⟩
 |j4 s p=> simp only [OR] at *;rw [k.θ id hid,hb];exact ho
 |jt m s l z=>
  cases m with
  |none=> simp only [OR] at *;rw [k.θ id hid,hb];exact ho
  |some i=> simp only [OR] at *;obtain⟨U,Z,h3⟩:=ho;rw [k.θ id hid,hb,k.θ i h3];exact⟨U,Z,k.dm _ h3⟩
 |jT e t=> simp only [OR] at *;obtain⟨bJ,c,U,Z⟩:=ho;rw [k.θ id hid,hb,k.ρ];exact⟨bJ,c,U,Z.keep k.ro k.BE⟩
 |vec e t ty ov=> simp only [OR] at *;obtain⟨h0,arr,lo,hi,us,U,Z,h3,h4,h5,h6,h7⟩:=ho;rw [k.θ id hid,k.κ id hid,hb,k.ρ];exact⟨h0,arr,lo,hi,us,U,cw.keep k _ us Z,h3,h4,h5,h6,h7⟩
 |ur e t eY ov=>
  simp only [OR] at *;obtain⟨h0,bJ,c,U,Z⟩:=ho;rw [k.θ id hid,hb,k.ρ];rcases hh with hh|hh
  ·simp [nf] at hh
  exact⟨h0,bJ,c,U,Z.keep k fun n _=>hh _⟩
theorem OR.keep {E E':En} {h h':Array Obj} (k:fw E h E' h') {id:Nat} {o:dP} (hid:E.dm id) (hb:h'[(E.θ id).1]?=h[(E.θ id).1]?) (hh: ∀key,HdK E h E' h' (E.θ id).1 key) (ho:OR E h id o):OR E' h' id o:=ho.XK k hid hb (.inr hh)
theorem OR.abN {E E':En} {h h':Array Obj} (k:fw E h E' h') {id:Nat} {o:dP} (hid:E.dm id) (hb:h'[(E.θ id).1]?=h[(E.θ id).1]?) (hn:nf o=true) (ho:OR E h id o):OR E' h' id o:=ho.XK k hid hb (.inl hn)
end Go.As
end
section
namespace Go.As
theorem Hp.bP (h:Hp) (i:Nat) (o:dP) (j:Nat):(h.put i o).get j=if j=i then some o else h.get j:=by simp [Hp.get,Hp.put,Tr.bP]
theorem Hp.fZ (h:Hp) (o:dP) (j:Nat):(h.new o).get j=if j=h.fresh then some o else h.get j:=by
 grind [Hp.new,Hp.fresh,Hp.get,Tr.bP]
theorem bN.D_ [bG] {E:En} {H:Hp} {w:World} (r:bN E H w): ¬E.dm H.fresh:=by
 unfold Hp.fresh
 cases hr:H.res with
 |none=>exact r.fresh _ (au _)
 |some x=>exact (r.res x hr).2
theorem bN.qY [bG] {E:En} {H:Hp} {w:World} (r:bN E H w) {i:Nat} (h:E.dm i):i≠H.fresh:=fun e=>r.D_ (e▸h)
theorem Hp.kj (h:Hp) (i j:Nat):(h.drop i).get j=if j=i then none else h.get j:=by simp [Hp.get,Hp.drop,Tr.bP]
def En.ext (E:En) (n:Nat) (p:Nat×Nat) (c:Nat):En:=
 { E with θ:=fun i=>if i=n then p else E.θ i,κ:=fun i=>if i=n then c else E.κ i,dm:=fun i=>i=n\/E.dm i }
theorem En.ext_θ_new (E:En) (n:Nat) (p:Nat×Nat) (c:Nat):(E.ext n p c).θ n=p:=by simp [En.ext]
theorem En.ext_κ_new (E:En) (n:Nat) (p:Nat×Nat) (c:Nat):(E.ext n p c).κ n=c:=by simp [En.ext]
theorem En.gB (E:En) (n:Nat) (p:Nat×Nat) (c:Nat):(E.ext n p c).dm n:=.inl rfl
theorem En.ext_θ (E:En) (n:Nat) (p:Nat×Nat) (c:Nat) {i:Nat} (h:i≠n):(E.ext n p c).θ i=E.θ i:=by simp [En.ext,h]
theorem En.ext_κ (E:En) (n:Nat) (p:Nat×Nat) (c:Nat) {i:Nat} (h:i≠n):(E.ext n p c).κ i=E.κ i:=by simp [En.ext,h]
theorem Hr [bG] {E:En} {H:Hp} {w:World} (r:bN E H w) (p:Nat×Nat) (c:Nat) (o:dP):(∀id,(H.new o).next<=id->¬(E.ext H.fresh p c).dm id)/\∀q,(H.new o).res=some q->q<(H.new o).next/\¬(E.ext H.fresh p c).dm q:=by
 have U:=r.fresh;have Z:=r.res;unfold Hp.new Hp.fresh
 cases hr:H.res with
 |none=>
  refine⟨fun id hid hd=>?_,ad⟩;simp at hid;rcases hd with hd|hd
  all_goals grind
 |some q=>
  refine⟨fun id hid hd=>?_,ad⟩;simp at hid;have:=Z q hr;rcases hd with hd|hd
  all_goals grind
theorem rY (H:Hp) (o:dP):H.next<=(H.new o).next/\((H.new o).res=none\/(H.new o).res=H.res)/\∀id,id=H.fresh->(H.next<=id/\id<(H.new o).next)\/H.res=some id:=by
 grind [Hp.new,Hp.fresh]
structure Alike (w w':World):Prop where
 os:w'.os=w.os
 tape:w'.tape=w.tape
 output:w'.output=w.output
theorem yS {h:Array Obj} {o:Obj} {b:Nat} (hb:b<h.size):(h.push o)[b]?=h[b]?:=by
 grind
theorem D6 [bG] {E:En} {H:Hp} {w:World} (r:bN E H w) (p:Nat×Nat) (c:Nat) (o:Obj):fw E w.heap (E.ext H.fresh p c) (w.heap.push o):=
 ⟨rfl,fun _ h=> .inr h,fun _ h=>En.ext_θ E _ p c (r.qY h),fun _ h=>En.ext_κ E _ p c (r.qY h),fun _ h=>h,fun b hb=>yS (r.qC b hb)⟩
theorem fm [bG] {E:En} {H:Hp} {w:World} (r:bN E H w) {id:Nat} {o:dP} (h:H.get id=some o):(E.θ id).1<w.heap.size:=by
 have Z:=(r.live id o h).2.1
 cases o with
 |cells cs e=>
  obtain⟨arr,lo,hi,us,U,_⟩:=Z
  grind
 |map es c=>
  obtain⟨bJ,c',U,_⟩:=Z
  grind
 |j4 s p=>exact (amK.1 Z.1).1
 |jt m s l z=>cases m with
  |none=>exact (amK.1 Z.1).1
  |some i=>exact (amK.1 Z.1).1
 |jT e t=>
  obtain⟨bJ,c',U,_⟩:=Z
  grind
 |ur e t eY ov=>
  obtain⟨_,bJ,c',U,_⟩:=Z
  grind
 |vec e t ty ov=>
  obtain⟨_,arr,lo,hi,us,U,_⟩:=Z
  grind
theorem pD [bG] {E:En} {H:Hp} {w w':World} (r:bN E H w) (o:Obj) (ao:dP) (c:Nat) (hw:w'.heap=w.heap.push o) (al:Alike w w')
 (ho:OR (E.ext H.fresh (w.heap.size,0) c) w'.heap H.fresh ao) :
 eS E H w (E.ext H.fresh (w.heap.size,0) c) (H.new ao) w'/\bN (E.ext H.fresh (w.heap.size,0) c) (H.new ao) w':=by
 have k:=D6 r (w.heap.size,0) c o;rw [<- hw] at k;have hf:=Hr r (w.heap.size,0) c ao;refine⟨⟨k.ρ,k.dm,k.θ,k.κ,k.ro,fun _ h=> .inl h,(rY H ao).1,(rY H ao).2.1,fun id h=>h.elim (fun e=> .inr ((rY H ao).2.2 id e)) .inl,al.os,al.tape,al.output,by rw [hw]; simp,fun b hb _=>by rw [hw,yS hb],?_,rfl⟩,⟨hf.1,hf.2,?_,?_,?_,bG.keep r.iX k.ro k.BE,?_⟩⟩
 ·intro id o2 Z fD;rw [Hp.fZ] at Z;split at Z
  ·rename_i he
   grind [En.ext_θ_new]
  ·have h3:=(r.live id o2 Z).1;exact⟨id,o2,Z,by rw [En.ext_θ _ _ _ _ (r.qY h3)]⟩
 ·intro id o2 Z;rw [Hp.fZ] at Z;split at Z
  ·rename_i he;simp at Z;subst Z;rw [he,En.ext_θ_new];refine⟨En.gB _ _ _ _,ho,fun hr=>?_⟩;have:=r.qC _ hr
   grind
  ·obtain⟨h3,h4,h5⟩:=r.live id o2 Z;refine⟨.inr h3,h4.keep k h3 ?_ (fun key b j hb=> ⟨hb,by rw [hw,yS (r.hid b _ hb).1]⟩),?_⟩
   ·grind [yS,fm]
   ·rw [En.ext_θ _ _ _ _ (r.qY h3)]; exact h5
 ·intro id Ob o1 o2 U Z he;rw [Hp.fZ] at U Z;split at U<;>split at Z
  ·omega
  ·rename_i e1 _;have h3:=(r.live Ob o2 Z).1;rw [e1,En.ext_θ_new,En.ext_θ _ _ _ _ (r.qY h3)] at he;have:=fm r Z
   grind
  ·rename_i _ e1;have h3:=(r.live id o1 U).1;rw [e1,En.ext_θ_new,En.ext_θ _ _ _ _ (r.qY h3)] at he;have:=fm r U
   grind
  ·have h3:=(r.live id o1 U).1;have h4:=(r.live Ob o2 Z).1;rw [En.ext_θ _ _ _ _ (r.qY h3),En.ext_θ _ _ _ _ (r.qY h4)] at he;exact r.inj id Ob o1 o2 U Z he
 ·intro b hb;have:=r.qC b hb
  grind
 ·intro b x hb;obtain⟨q1,q2,q3⟩:=r.hid b x hb;refine⟨by rw [hw,Array.size_push]; omega,q2,fun id o2 Z=>?_⟩;rw [Hp.fZ] at Z;split at Z
  ·rename_i he;rw [he,En.ext_θ_new];exact fun e=>by have e:w.heap.size=b:=e; omega
  ·rw [En.ext_θ _ _ _ _ (r.qY (r.live id o2 Z).1)];exact q3 id o2 Z
theorem j9 [bG] {E:En} {H:Hp} {w w':World} (r:bN E H w) {id:Nat} {o:dP} (Y:H.get id=some o)
 (lj: ∀b,b≠(E.θ id).1->w'.heap[b]?=w.heap[b]?):fw E w.heap E w'.heap:=
 ⟨rfl,fun _ h=>h,fun _ _=>rfl,fun _ _=>rfl,fun _ h=>h,fun b hb=>lj b fun e=>(r.live id o Y).2.2 (by rw [<- e]; exact hb)⟩
theorem yR [bG] {E:En} {H:Hp} {w w':World} (r:bN E H w) {id:Nat} {o:dP} (Y:H.get id=some o) (ao:dP)
 (Ls:w'.heap.size=w.heap.size) (lj: ∀b,b≠(E.θ id).1->w'.heap[b]?=w.heap[b]?) (al:Alike w w') (ho:OR E w'.heap id ao) :
 eS E H w E (H.put id ao) w'/\bN E (H.put id ao) w':=by
 have k:=j9 r Y lj;refine⟨⟨rfl,fun _ h=>h,fun _ _=>rfl,fun _ _=>rfl,fun _ h=>h,fun _ h=> .inl h,au _,.inr rfl,fun _ h=> .inl h,al.os,al.tape,al.output,J,?_,?_,rfl⟩,⟨r.fresh,r.res,?_,?_,?_,bG.keep r.iX k.ro k.BE,?_⟩⟩
 ·intro b _ hn
  grind
 ·intro j o2 Z _
  grind [Hp.bP]
 ·intro j o2 Z;rw [Hp.bP] at Z;split at Z
  ·rename_i e;subst e;simp at Z;subst Z;exact⟨(r.live j o Y).1,ho,(r.live j o Y).2.2⟩
  ·rename_i e;obtain⟨h3,h4,h5⟩:=r.live j o2 Z;refine⟨h3,h4.keep k h3 (lj _ fun e2=>e (r.inj j id o2 o Z Y e2)) (fun key b q hb=> ⟨hb,lj b fun e2=>(r.hid b _ hb).2.2 id o Y e2.symm⟩),h5⟩
 ·intro i j o1 o2 U Z he;rw [Hp.bP] at U Z;split at U<;>split at Z
  ·omega
  ·rename_i e1 _; subst e1; exact r.inj i j o o2 Y Z he
  ·rename_i _ e1; subst e1; exact r.inj i j o1 o U Y he
  ·exact r.inj i j o1 o2 U Z he
 ·intro b hb;rw [Ls];exact r.qC b hb
 ·intro b x hb;obtain⟨q1,q2,q3⟩:=r.hid b x hb;refine⟨by rw [Ls]; exact q1,q2,fun j o2 Z=>?_⟩;rw [Hp.bP] at Z;split at Z
  ·rename_i e;rw [e];exact q3 id o Y
  ·exact q3 j o2 Z
theorem wK [bG] {E:En} {H:Hp} {w:World} (r:bN E H w) (id:Nat):eS E H w E (H.drop id) w/\bN E (H.drop id) w:=by
 have hg: ∀j o,(H.drop id).get j=some o->H.get j=some o:=by
  intro j o h
  grind [Hp.kj]
 exact⟨⟨rfl,fun _ h=>h,fun _ _=>rfl,fun _ _=>rfl,fun _ h=>h,fun _ h=> .inl h,au _,.inr rfl,fun _ h=> .inl h,rfl,rfl,rfl,au _,fun _ _ _=>rfl,fun j o h _=> ⟨j,o,hg j o h,rfl⟩,rfl⟩,
  ⟨r.fresh,r.res,fun j o h=>r.live j o (hg j o h),fun i j o1 o2 U Z he=>r.inj i j o1 o2 (hg _ _ U) (hg _ _ Z) he,r.qC,r.iX,fun b x hb=> ⟨(r.hid b x hb).1,(r.hid b x hb).2.1,fun j o h=>(r.hid b x hb).2.2 j o (hg j o h)⟩⟩⟩
theorem NN [bG] {E:En} {H:Hp} {w w':World} (r:bN E H w) {id:Nat} {o:dP} (Y:H.get id=some o) (ao:dP) (off c:Nat)
 (Ls:w'.heap.size=w.heap.size) (lj: ∀b,b≠(E.θ id).1->w'.heap[b]?=w.heap[b]?) (al:Alike w w')
 (ho:OR (E.ext H.fresh ((E.θ id).1,(E.θ id).2+off) c) w'.heap H.fresh ao) :
 eS E H w (E.ext H.fresh ((E.θ id).1,(E.θ id).2+off) c) ((H.drop id).new ao) w'/\bN (E.ext H.fresh ((E.θ id).1,(E.θ id).2+off) c) ((H.drop id).new ao) w':=by
 have hdn:(H.drop id).fresh=H.fresh:=rfl;have hf:=Hr (wK r id).2 ((E.θ id).1,(E.θ id).2+off) c ao;rw [hdn] at hf
 have k:fw E w.heap (E.ext H.fresh ((E.θ id).1,(E.θ id).2+off) c) w'.heap:=
  ⟨rfl,fun _ h=> .inr h,fun _ h=>En.ext_θ E _ _ c (r.qY h),fun _ h=>En.ext_κ E _ _ c (r.qY h),fun _ h=>h,(j9 r Y lj).BE⟩
 have hg: ∀j o2,((H.drop id).new ao).get j=some o2->(j=H.fresh/\o2=ao)\/(j≠id/\H.get j=some o2):=by
  intro j o2 h
  grind [Hp.fZ,Hp.kj]
 refine⟨⟨rfl,k.dm,k.θ,k.κ,k.ro,fun _ h=> .inl h,(rY (H.drop id) ao).1,(rY (H.drop id) ao).2.1,fun j h=>h.elim (fun e=> .inr ((rY (H.drop id) ao).2.2 j e)) .inl,al.os,al.tape,al.output,J,?_,?_,rfl⟩,⟨hf.1,hf.2,?_,?_,?_,bG.keep r.iX k.ro k.BE,?_⟩⟩
 ·intro b _ hn
  grind
 ·intro j o2 Z fD;rcases hg j o2 Z with ⟨rfl,rfl⟩|⟨_,h3⟩
  ·grind [En.ext_θ_new]
  ·have:=(r.live j o2 h3).1;exact⟨j,o2,h3,by rw [En.ext_θ _ _ _ _ (r.qY this)]⟩
 ·intro j o2 Z;rcases hg j o2 Z with ⟨rfl,rfl⟩|⟨gn,h3⟩
  ·rw [En.ext_θ_new];exact⟨En.gB _ _ _ _,ho,(r.live id o Y).2.2⟩
  ·obtain⟨h4,h5,h6⟩:=r.live j o2 h3;refine⟨.inr h4,h5.keep k h4 (lj _ fun e=>gn (r.inj j id o2 o h3 Y e)) (fun key b q hb=> ⟨hb,lj b fun e2=>(r.hid b _ hb).2.2 id o Y e2.symm⟩),?_⟩;rw [En.ext_θ _ _ _ _ (r.qY h4)]; exact h6
 ·intro i j o1 o2 U Z he;rcases hg i o1 U with ⟨e1,_⟩|⟨e1,h3⟩ <;>rcases hg j o2 Z with ⟨e2,_⟩|⟨e2,h4⟩
  ·omega
  ·have:=(r.live j o2 h4).1;rw [e1,En.ext_θ_new,En.ext_θ _ _ _ _ (r.qY this)] at he;exact absurd (r.inj id j o o2 Y h4 he).symm e2
  ·have:=(r.live i o1 h3).1;rw [e2,En.ext_θ_new,En.ext_θ _ _ _ _ (r.qY this)] at he;exact absurd (r.inj i id o1 o h3 Y he) e1
  ·have h5:=(r.live i o1 h3).1;have h6:=(r.live j o2 h4).1;rw [En.ext_θ _ _ _ _ (r.qY h5),En.ext_θ _ _ _ _ (r.qY h6)] at he;exact r.inj i j o1 o2 h3 h4 he
 ·intro b hb;rw [Ls];exact r.qC b hb
 ·intro b x hb;obtain⟨q1,q2,q3⟩:=r.hid b x hb;refine⟨by rw [Ls]; exact q1,q2,fun j o2 Z=>?_⟩;rcases hg j o2 Z with ⟨rfl,rfl⟩|⟨_,h3⟩
  ·rw [En.ext_θ_new];exact q3 id o Y
  ·rw [En.ext_θ _ _ _ _ (r.qY (r.live j o2 h3).1)];exact q3 j o2 h3
def IX:Value->Bool
 | .agg _=>true
 |_=>false
def VO (P:Program):TypeDesc->Option TK
 | .bool=>some .bool
 | .int k=>some (.int k)
 | .string=>some .string
 | .pointer e=>some (.pointer e)
 | .slice e=>some (.slice e)
 | .array n e=>some (.array n e)
 | .map k e=>some (.map k e)
 | .struct fs=>(fs.toList.mapM fun f=>(P.info? f.type).map fun i=>(f.offset,f.type,i.size)).map .struct
 | .func _ _ _=>some .func
 | .interface ms=>some (.iface ms.isEmpty)
 | .tuple _=>some .tuple
 |_=>none
def RT (P:Program) (t:Nat):Bool:=
 match P.underlying t with
 |some (.struct fs)=>!P.stoodInHeld t&&!P.eqGuardType P.depth t&&fs.toList.all fun f=>f.name != "_"&&(match P.underlying f.type with |some .bool|some .string|some (.int _)=>true|_=>false)
 |_=>false
def agS (i:TypeInfo) (z:Value) (k:TK) (q:Bool):Option TI:=
 match kM z.cells.toList with
 |some zs=>if IX z=k.agg then some { kind:=k,size:=i.size,bytes:=i.bytes,zero:=zs,eqs:=q } else none
 |none=>none
def F_ (P:Program) (t:Nat):Option TI:=
 match P.info? t with
 |none=>none
 |some i=>match P.underlying t with
  |none=>none
  |some d=>match VO P d with
   |none=>none
   |some k=>match i.zero with
    |none=>none
    |some z=>agS i z k (RT P t)
theorem e8 (b o n:Nat):(⟨b,o,none⟩ : Addr).add n=⟨b,o+n,none⟩:=by unfold Addr.add; split<;>simp_all
def HX (P:Program):TypeDesc->TK->Prop
 | .bool,.bool=>True
 | .int k,.int k'=>k=k'
 | .string,.string=>True
 | .pointer e,.pointer e'=>e=e'
 | .slice e,.slice e'=>e=e'
 | .array n e,.array n' e'=>n=n'/\e=e'
 | .map k e,.map k' e'=>k=k'/\e=e'
 | .struct fs,.struct l=>(fs.toList.mapM fun f=>(P.info? f.type).map fun i=>(f.offset,f.type,i.size))=some l
 | .func _ _ _,.func=>True
 | .interface _,.iface _=>True
 | .tuple _,.tuple=>True
 |_,_=>False
structure mf (P:Program) (t:Nat) (i:TI):Prop where
 eqs:i.eqs=true->RT P t=true
 all: ∃inf d z,P.info? t=some inf/\P.underlying t=some d/\inf.zero=some z/\kM z.cells.toList=some i.zero/\inf.size=i.size/\inf.bytes=i.bytes/\HX P d i.kind/\IX z=i.agg
def eB (P:Program) (tt:TT):Prop:= ∀t i,tt t=some i->mf P t i
theorem E! {P:Program} {d:TypeDesc} {k:TK} (h:VO P d=some k):HX P d k:=by
 cases d
 case struct fs=>
  simp only [VO,aO] at h;obtain⟨l,U,rfl⟩:=h;exact U
 all_goals first
  |(simp only [VO,ag] at h; subst h; simp [HX]; done)
  |(simp [VO] at h; done)
theorem E? {P:Program} {t:Nat} {i:TI} (h:F_ P t=some i):mf P t i:=by
 unfold F_ at h;split at h
 ·grind
 ·rename_i inf U;split at h
  ·grind
  ·rename_i d Z;split at h
   ·grind
   ·rename_i k hk;split at h
    ·grind
    ·rename_i z h3;unfold agS at h;split at h
     ·rename_i zs h4;split at h
      ·rename_i ha;simp only [ag] at h;subst h;exact⟨fun hq=>hq,inf,d,z,U,Z,h3,h4,rfl,rfl,E! hk,ha⟩
      grind
     grind
theorem kI (s:ByteArray):df (bytesOf s)=s:=by
 unfold df bytesOf
 have:(List.map UInt8.ofNat (List.map (fun x=>x.toNat) s.data.toList))=s.data.toList:=by
  rw [amQ]
  conv=>rhs; rw [<- anb s.data.toList]
  apply anA;intro b _;simp
 rw [this]
theorem yk (s:ByteArray): ∀b∈bytesOf s,b<256:=by intro b hb;unfold bytesOf at hb;rw [aK] at hb;obtain⟨c,_,rfl⟩:=hb;exact c.toNat_lt
theorem BK {E:En} {h:Array Obj} {v:Value} {a:W} (hv:gH v=some a):VR E h a v/\v.oneCell'=true:=by
 cases v with
 |bool b=>simp [gH] at hv; subst hv; simp [VR,SB.den,Value.oneCell']
 |int k n=>simp [gH] at hv; subst hv; simp [VR,V.den,Value.oneCell']
 |string s=>simp [gH] at hv; subst hv; exact⟨by simp only [VR]; exact⟨by rw [kI],yk s⟩,rfl⟩
 |pointer a=>cases a<;>simp [gH] at hv; subst hv; simp [VR,Value.oneCell']
 |slice a l c=>
  cases a with
  |some a=>simp [gH] at hv
  |none=>
   cases l with
   |succ l=>simp [gH] at hv
   |zero=>cases c with
    |succ c=>simp [gH] at hv
    |zero=>simp [gH] at hv; subst hv; simp [VR,Value.oneCell']
 |map r=>cases r<;>simp [gH] at hv; subst hv; simp [VR,Value.oneCell']
 |nilFunc=>simp [gH] at hv; subst hv; simp [VR,Value.oneCell']
 |nilIface=>simp [gH] at hv; subst hv; simp [VR,Value.oneCell']
 |func fn f c=>
  simp only [gH] at hv;split at hv
  ·rename_i hx;simp at hx hv;subst hv;obtain⟨rfl,rfl⟩:=hx;exact⟨by simp only [VR]; exact⟨[],[],rfl,rfl,rfl⟩,rfl⟩
  grind
 |_=>simp [gH] at hv
theorem eV {E:En} {h:Array Obj}: ∀{vs:List Value} {amB:List W},kM vs=some amB->cw E h amB vs/\∀v∈vs,v.oneCell'=true
 |[],amB,hv=>by simp [kM] at hv; subst hv; simp [cw]
 |v::vs,amB,hv=>by
  simp only [kM] at hv;split at hv
  ·grind
  ·rename_i a ha;split at hv
   ·grind
   ·rename_i as' has;simp at hv;subst hv;have U:=BK (E:=E) (h:=h) ha;have Z:=eV (E:=E) (h:=h) has;refine⟨by rw [bO]; exact⟨v,vs,rfl,U.1,Z.1⟩,?_⟩;intro u hu
    grind
theorem NV {E:En} {h:Array Obj} {v:Value} {a:W} (hv:ofConst v=some a):VR E h a v:=by
 cases v with
 |agg cs=>
  simp only [ofConst,aO] at hv;obtain⟨l,U,rfl⟩:=hv;simp only [VR]
  grind [eV]
 |tuple cs=>
  simp only [ofConst,aO] at hv;obtain⟨l,U,rfl⟩:=hv;simp only [VR]
  grind [eV]
 |_=>exact (BK (by simpa [ofConst] using hv)).1
theorem VR.one {E:En} {h:Array Obj} {x:W} {v:Value} (hv:VR E h x v) (U:x.one=true):v.oneCell'=true:=by
 cases x with
 |agg cs=>simp [W.one] at U
 |tuple cs=>simp [W.one] at U
 |Kc i=>simp [W.one] at U
 |wy k ks=>simp only [VR] at hv; rcases hv with ⟨⟨x,cap,rfl⟩,_⟩|⟨b,o,n,cap,rfl,_⟩ <;>rfl
 |slice id off len c=>simp only [VR] at hv; obtain⟨_,a,cap,rfl,_⟩:=hv; rfl
 |ro cs n full=>simp only [VR] at hv; obtain⟨b,o,cap,us,rfl,_⟩:=hv; rfl
 |mJ cs=>simp only [VR] at hv; obtain⟨b,o,us,rfl,_⟩:=hv; rfl
 |func fn fs cs=>simp only [VR] at hv; obtain⟨us,ws,rfl,_⟩:=hv; rfl
 |iface t x=>simp only [VR] at hv; obtain⟨u,rfl,_⟩:=hv; rfl
 |str s=>simp only [VR] at hv; rw [hv.1]; rfl
 |ptr id off=>simp only [VR] at hv; rw [hv.1]; rfl
 |map id=>simp only [VR] at hv; rw [hv.1]; rfl
 |emp=>simp only [VR] at hv; obtain⟨x,rfl⟩:=hv; rfl
 |eg e t=>simp only [VR] at hv; exact hv.T_
 |jD e=>simp only [VR] at hv; exact hv.T_
 |oq id n t=>simp only [VR] at hv; obtain⟨_,k,a,cap,_,rfl,_⟩:=hv; rfl
 |sD id lo n t=>simp only [VR] at hv; obtain⟨_,l,k,a,cap,_,_,rfl,_⟩:=hv; rfl
 |any=>simp [W.one] at U
 |w4 z t=>simp only [VR] at hv; obtain⟨⟨x,rfl⟩,_⟩:=hv; rfl
 |yu id es i off=>simp only [VR] at hv; obtain⟨_,k,_,rfl⟩:=hv; rfl
 |_=>simp only [VR] at hv; rw [hv]; rfl
theorem cw.rX {E:En} {h:Array Obj}: ∀{xs:List W} {us:List Value},cw E h xs us->rB xs=true->∀u∈us,u.oneCell'=true
 |[],us,hv,_=>by rw [fP] at hv; subst hv; simp
 |x::xs,us,hv,U=>by
  rw [bO] at hv;obtain⟨u,vs,rfl,Z,h3⟩:=hv;simp [rB] at U;intro y hy;rcases aw.1 hy with rfl|hy
  ·exact Z.one U.1
  ·exact h3.rX U.2 y hy
theorem VR.cells {E:En} {h:Array Obj} {x:W} {v:Value} (hv:VR E h x v) (U:rB x.cells=true):cw E h x.cells v.cells.toList:=by
 cases x with
 |agg cs=> simp only [VR] at hv;obtain⟨us,rfl,Z⟩:=hv;simpa [W.cells,Value.cells] using Z
 |_=>
  all_goals
   simp only [W.cells] at U ⊢;have Z:=hv.one (by simpa [rB] using U);rw [bO];refine⟨v,[],?_,hv,rfl⟩;cases v<;>first |rfl|simp [Value.oneCell'] at Z
theorem rU {P:Program} {w:World} {b o n:Nat} {us:List Value} (hn:us.length=n) (h:fR w.heap b o us) :
 (loadCells ⟨b,o,none⟩ n).run P w= .ok us.toArray w:=by
 subst hn;refine run_loadCells_list w _ us fun j v hj=>?_;rw [e8,lF];exact h j v hj
theorem fR.drop {h:Array Obj} {b o:Nat} {us:List Value} (hc:fR h b o us) (k:Nat):fR h b (o+k) (us.drop k):=by
 intro i u hu;rw [am4] at hu;have:=hc (k+i) u hu
 grind
theorem fR.take {h:Array Obj} {b o:Nat} {us:List Value} (hc:fR h b o us) (k:Nat):fR h b o (us.take k):=by
 intro i u hu;rw [am5] at hu;split at hu
 ·exact hc i u hu
 grind
theorem xx {E:En} {h:Array Obj} {id:Nat} {cs:List W} {e:TypeId} (ho:OR E h id (.cells cs e)) :
 ∃us,cw E h cs us/\fR h (E.θ id).1 (E.θ id).2 us/\∀u∈us,u.oneCell'=true:=by
 obtain⟨arr,lo,hi,us,U,Z,h3,h4,h5,h6,h7⟩:=ho;refine⟨us,Z,fun i u hu=>?_,h7⟩;simp only [iW,U]
 grind
theorem v8 [bG] {E:En} {H:Hp} {w:World} (r:bN E H w) {p:W} {u:Value} {n:Nat} {l:List W} (hp:VR E w.heap p u) (h:mC H p n=some l) :
 ∃b o us,u= .pointer (some ⟨b,o,none⟩)/\us.length=n/\cw E w.heap l us/\fR w.heap b o us/\∀u∈us,u.oneCell'=true:=by
 cases p with
 |ptr id off=>
  simp only [mC] at h;split at h
  ·rename_i cs e Y;split at h
   ·rename_i l' hd;obtain⟨us,Z,h3,h4⟩:=xx (r.live id _ Y).2.1;obtain⟨h5,h6,h7⟩:=Z.eE hd;obtain⟨h8,h9⟩:=h5.iy h;simp only [VR] at hp;refine⟨_,_,_,hp.1,?_,h8,(h3.drop off).take n,fun x hx=>h4 x (bw (amG hx))⟩;have:=h5.length
    grind
   grind
  grind
 |mJ cs=>
  simp only [mC] at h;simp only [VR] at hp;obtain⟨b,o,us,rfl,_,Z,h3,h4⟩:=hp;obtain⟨h5,h6⟩:=Z.iy h;refine⟨b,o,_,rfl,?_,h5,h3.take n,fun x hx=>h4 x (amG hx)⟩;have:=Z.length
  grind
 |_=>simp [mC] at h
theorem vX {E:En} {h:Array Obj}: ∀{cs:List W} {o:Nat} {vs lE:List W} {us ws:List Value},dX cs o vs=some lE->cw E h cs us->cw E h vs ws->
 lE.length=cs.length/\o+vs.length<=cs.length/\∃gw,cw E h lE gw/\∀i,gw[i]?=if o<=i/\i<o+ws.length then ws[i-o]? else us[i]?
 |cs,0,[],lE,us,ws,U,Z,h3=>by cases cs<;>simp [dX] at U<;>subst U<;>rw [fP] at h3<;>subst h3<;>exact⟨rfl,ad,us,Z,fun i=>by simp⟩
 |[],0,_::_,lE,us,ws,U,Z,h3=>by simp [dX] at U
 |c::cs,0,v::vs,lE,us,ws,U,Z,h3=>by
  simp only [dX] at U;split at U
  ·rename_i l Y;simp at U;subst U;rw [bO] at Z h3;obtain⟨u,gw,rfl,ha,hb⟩:=Z;obtain⟨x,ws',rfl,hc,hd⟩:=h3;obtain⟨e1,e2,VC,e3,e4⟩:=vX Y hb hd;refine⟨by simp [e1],by simp at e2 ⊢; omega,x::VC,by rw [bO]; exact⟨x,VC,rfl,hc,e3⟩,?_⟩;intro i
   grind
  grind
 |[],_+1,vs,lE,us,ws,U,Z,h3=>by cases vs<;>simp [dX] at U
 |c::cs,o+1,vs,lE,us,ws,U,Z,h3=>by
  have RH:(match dX cs o vs with |some l=>some (c::l)|none=>none)=some lE:=by cases vs<;>exact U
  split at RH
  ·rename_i l Y;simp at RH;subst RH;rw [bO] at Z;obtain⟨u,gw,rfl,ha,hb⟩:=Z;obtain⟨e1,e2,VC,e3,e4⟩:=vX Y hb h3;refine⟨by simp [e1],by simp; omega,u::VC,by rw [bO]; exact⟨u,VC,rfl,ha,e3⟩,?_⟩;intro i
   grind
  grind
theorem mA {P:Program} (b o:Nat) (e:TypeId) (lo hi:Nat): ∀(vs:List Value) (i:Nat) (arr:Array Value) (w:World),
 w.heap[b]?=some (.cells arr e (lo,hi))->(∀x,lo<=x->x<hi->arr.size<=x)->o+i+vs.length<=arr.size->(∀v∈vs,v.oneCell'=true)->
 ∃w' J3,(storeCells ⟨b,o,none⟩ vs i).run P w= .ok () w'/\Alike w w'/\w'.heap.size=w.heap.size/\(∀j,j≠b->w'.heap[j]?=w.heap[j]?)/\
  w'.heap[b]?=some (.cells J3 e (lo,hi))/\J3.size=arr.size/\∀j,J3[j]?=if o+i<=j/\j<o+i+vs.length then vs[j-(o+i)]? else arr[j]?
 |[],i,arr,w,hb,_,_,_=> ⟨w,arr,rfl,⟨rfl,rfl,rfl⟩,rfl,fun _ _=>rfl,hb,rfl,fun j=>by rw [af ad]⟩
 |v::vs,i,arr,w,hb,hf,Y,U=>by
  have uH:o+i<arr.size:=by simp at Y; omega
  have iW:w.cell? ⟨b,o+i,none⟩ = some arr[o+i]:=by simp [World.cell?,hb,uH]
  have amz:w.frozen? ⟨b,o+i,none⟩ = false:=by
   simp only [World.frozen?,hb,aob,decide_eq_false_iff_not]
   grind
  have CU:(store ((⟨b,o,none⟩ : Addr).add i) v).run P w= .ok () (w.setCell ⟨b,o+i,none⟩ v):=by
   rw [e8,run_store P w _ v _ (U v ad),iW]
   grind
  have LG:(w.setCell ⟨b,o+i,none⟩ v).heap[b]?=some (.cells (arr.setIfInBounds (o+i) v) e (lo,hi)):=by simp [World.setCell,anB,hb]
  have gT:(w.setCell ⟨b,o+i,none⟩ v).heap.size=w.heap.size:=by simp [World.setCell]
  have hot: ∀j,j≠b->(w.setCell ⟨b,o+i,none⟩ v).heap[j]?=w.heap[j]?:=by
   intro j hj;simp only [World.setCell,anB]
   grind
  obtain⟨w',J3,e1,e2,e3,e4,e5,e6,e7⟩:=mA (P:=P) b o e lo hi vs (i+1) _ _ LG (by simpa using hf) (by simp at Y ⊢; omega) (fun x hx=>U x (by simp [hx]));refine⟨w',J3,?_,⟨e2.os,e2.tape,e2.output⟩,e3.trans gT,fun j hj=>(e4 j hj).trans (hot j hj),e5,by simpa using e6,?_⟩
  ·simp only [storeCells,Sem.run_bind,CU,Result.andThen_ok];exact e1
  grind
theorem lM [bG] {P:Program} {E:En} {H:Hp} {w:World} (r:bN E H w) {id off:Nat} {cs vs lE:List W} {e:TypeId} {ws:List Value} (Y:H.get id=some (.cells cs e))
 (hs:dX cs off vs=some lE) (hv:cw E w.heap vs ws) (U: ∀u∈ws,u.oneCell'=true) :
 ∃w',(storeCells ⟨(E.θ id).1,(E.θ id).2+off,none⟩ ws).run P w= .ok () w'/\eS E H w E (H.put id (.cells lE e)) w'/\bN E (H.put id (.cells lE e)) w':=by
 obtain⟨arr,lo,hi,us,g1,g2,g3,g4,g5,g6,g7⟩:=(r.live id _ Y).2.1;obtain⟨s1,s2,gw,s3,s4⟩:=vX hs g2 hv;have hlen:=hv.length;have hlu:=g2.length;obtain⟨w',J3,e1,e2,e3,e4,e5,e6,e7⟩:=mA (P:=P) (E.θ id).1 ((E.θ id).2+off) e lo hi ws 0 arr w g1 g6 J U;refine⟨w',e1,yR r Y _ e3 e4 e2 ?_⟩;have k:=j9 r Y e4;refine⟨J3,lo,hi,gw,e5,cw.keep k _ _ s3,?_,J,by rw [e6]; exact g5,by rw [e6]; exact g6,?_⟩
 ·intro i u hu
  grind
 ·intro u hu;rw [anC] at hu
  grind
def bT (ρ:Nat->Int) (pc:List (SB×Bool)):Prop:= ∀c b,(c,b)∈pc->c.den ρ=b
def SR (E:En) (h:Array Obj) (bE:Tr W) (a:Act):Prop:= ∀t v,bE.get t=some v->∃u,a.tmps[t]?=some u/\VR E h v u
def oV (P:Program) (o:Oper) (a:Act) (w:World) (R:Value->World->Prop):Prop:=
 ∀(K:Act->World->Prop) (Q:Exit->Act->World->Prop),(∀u w',R u w'->K (a.put o.dst u) w')->o.wp P a w K Q
theorem oV.value {P:Program} {o:Oper} {a:Act} {w w':World} {R:Value->World->Prop} {u:Value} (h:(execOp a.eval o).run P w= .ok (.value u) w') (hr:R u w'):oV P o a w R:=
 fun K Q hk=>by unfold Oper.wp; rw [h]; exact hk u w' hr
theorem oV.skip {P:Program} {o:Oper} {a:Act} {w w':World} {R:Value->World->Prop} (h:(execOp a.eval o).run P w= .ok .skip w') (hr:R undef w'):oV P o a w R:=
 fun K Q hk=>by unfold Oper.wp; rw [h]; exact hk _ w' hr
theorem gf {E:En} {w:World} {s:St} {a:Act} (sr:SR E w.heap s.bE a) {x:Operand} {v:W} (h:ev s x=some v):VR E w.heap v (a.eval x):=by
 cases x with
 |tmp t=> obtain⟨u,U,Z⟩:=sr t v h;simp only [Act.eval,anc,U,aC];exact Z
 |const c=>exact NV h
 |func f=> simp [ev] at h;subst h;simp only [VR,Act.eval];exact⟨[],[],rfl,rfl,rfl⟩
 |global g=>simp [ev] at h
theorem Ji {E:En} {w:World} {s:St} {a:Act} (sr:SR E w.heap s.bE a): ∀{xs:List Operand} {vs:List W},evs s xs=some vs->cw E w.heap vs (xs.map a.eval)
 |[],vs,h=>by simp [evs] at h; subst h; simp [cw]
 |x::xs,vs,h=>by
  simp only [evs] at h;split at h
  ·grind
  ·rename_i b hb;split at h
   ·grind
   ·rename_i bs hbs;simp at h;subst h;rw [ax,bO];exact⟨_,_,rfl,gf sr hb,Ji sr hbs⟩
section
variable {P:Program} {t:Nat} {i:TI}
theorem kN (h:mf P t i) (w:World):(isAgg t).run P w= .ok i.agg w:=by obtain⟨inf,d,z,U,Z,h3,h4,h5,h6,h7,_⟩:=h.all;unfold isAgg;simp only [Sem.run_bind,run_underlying Z,Result.andThen_ok];cases d<;>cases hk:i.kind<;>simp only [hk,HX] at h7<;>simp [TI.agg,TK.agg,hk]
theorem ez (h:mf P t i) (w:World):(sizeOf t).run P w= .ok i.size w:=by obtain⟨inf,d,z,U,Z,h3,h4,h5,h6,h7,_⟩:=h.all;simp [sizeOf,typeInfo,U,h5]
theorem ff (h:mf P t i) {e:Nat} (hk:i.kind= .slice e):P.underlying t=some (.slice e):=by obtain⟨inf,d,z,U,Z,h3,h4,h5,h6,h7,_⟩:=h.all;rw [Z];cases d<;>simp [hk,HX] at h7;rw [h7]
theorem rK (h:mf P t i) {n e:Nat} (hk:i.kind= .array n e):P.underlying t=some (.array n e):=by
 obtain⟨inf,d,z,U,Z,h3,h4,h5,h6,h7,_⟩:=h.all;rw [Z];cases d<;>simp [hk,HX] at h7
 grind
theorem sJ (h:mf P t i) {k e:Nat} (hk:i.kind= .map k e):P.underlying t=some (.map k e):=by
 obtain⟨inf,d,z,U,Z,h3,h4,h5,h6,h7,_⟩:=h.all;rw [Z];cases d<;>simp [hk,HX] at h7
 grind
theorem oK (h:mf P t i) {k:IntKind} (hk:i.kind= .int k):P.underlying t=some (.int k):=by obtain⟨inf,d,z,U,Z,h3,h4,h5,h6,h7,_⟩:=h.all;rw [Z];cases d<;>simp [hk,HX] at h7;rw [h7]
theorem fJ (h:mf P t i) (hk:i.kind= .string):P.underlying t=some .string:=by
 obtain⟨inf,d,z,U,Z,h3,h4,h5,h6,h7,_⟩:=h.all
 grind [HX]
theorem Ks (h:mf P t i) (hk:i.kind= .bool):P.underlying t=some .bool:=by
 obtain⟨inf,d,z,U,Z,h3,h4,h5,h6,h7,_⟩:=h.all
 grind [HX]
theorem sI (h:mf P t i) {l:List (Nat×Nat×Nat)} (hk:i.kind= .struct l): ∃fs:Array Field,P.underlying t=some (.struct fs)/\(fs.toList.mapM fun f=>(P.info? f.type).map fun i=>(f.offset,f.type,i.size))=some l:=by
 obtain⟨inf,d,z,U,Z,h3,h4,h5,h6,h7,_⟩:=h.all;rw [Z];cases d<;>simp [hk,HX] at h7
 grind
theorem wz (h:mf P t i): ∃inf z,P.info? t=some inf/\inf.size=i.size/\inf.bytes=i.bytes/\inf.zero=some z/\kM z.cells.toList=some i.zero:=by
 obtain⟨inf,d,z,U,Z,h3,h4,h5,h6,h7,_⟩:=h.all
 grind
end
theorem Bf [bG] {P:Program} {tt:TT} (cJ:eB P tt) {E:En} {H:Hp} {w:World} (r:bN E H w) {t:Nat} {p v:W} {u:Value} (hp:VR E w.heap p u) (h:Bg tt t p H=some v) :
 ∃x b o,u= .pointer (some ⟨b,o,none⟩)/\(loadVar t ⟨b,o,none⟩).run P w= .ok x w/\VR E w.heap v x:=by
 unfold Bg at h;split at h
 ·grind
 ·rename_i i hi;have fN:=cJ t i hi;split at h
  ·rename_i Ot;rw [aO] at h;obtain⟨l,Y,rfl⟩:=h;obtain⟨b,o,us,rfl,Z,h3,h4,_⟩:=v8 r hp Y;refine⟨.agg us.toArray,b,o,rfl,?_,by simp only [VR]; exact⟨us,rfl,h3⟩⟩;simp [loadVar,kN fN,Ot,ez fN,rU Z h4]
  ·rename_i Ot;split at h
   ·rename_i v' l Y;simp at h;subst h;obtain⟨b,o,us,rfl,Z,h3,h4,_⟩:=v8 r hp Y;rw [bO] at h3;obtain⟨x,vs,rfl,h5,_⟩:=h3;refine⟨x,b,o,rfl,?_,h5⟩;have hc:w.cell? ⟨b,o,none⟩ = some x:=by rw [lF]; exact h4 0 x rfl
    simp [loadVar,kN fN,Ot,hc]
   grind
theorem kq (k:IntKind) (n:Int):sj k n=k.wrap n:=by
 unfold sj;split
 ·split
  ·rename_i h; exact (IntWalk.i64_in n h).symm
  ·rfl
 ·split
  ·rename_i h; exact (IntWalk.u8_in n h).symm
  ·rfl
 ·rfl
theorem Tj (ρ:Nat->Int) (k:IntKind) (a b:V):(W1 k a b).den ρ=k.wrap (a.den ρ+b.den ρ):=by
 unfold W1
 grind [V.den,kq]
theorem Gf (ρ:Nat->Int) (k:IntKind) (a b:V):(PW k a b).den ρ=k.wrap (a.den ρ-b.den ρ):=by
 unfold PW
 grind [V.den,kq]
theorem Ti (ρ:Nat->Int) (k:IntKind) (a b:V):(W0 k a b).den ρ=k.wrap (a.den ρ*b.den ρ):=by
 unfold W0
 grind [V.den,kq]
theorem dU (ρ:Nat->Int) (a b:V):(gV a b).den ρ=decide (a.den ρ<b.den ρ):=by
 unfold gV;split
 ·rfl
 ·simp [SB.den]
theorem W2 (ρ:Nat->Int) (a b:V):(L_ a b).den ρ=decide (a.den ρ<=b.den ρ):=by
 unfold L_;split
 ·rfl
 ·simp only [SB.den]
  grind
theorem gG (ρ:Nat->Int) (a b:V):(ra a b).den ρ=(a.den ρ == b.den ρ):=by
 unfold ra;split
 ·simp [SB.den,V.den]
 ·simp only [SB.den,V.den]
  grind
 grind [cH,SB.den]
theorem mZ (ρ:Nat->Int) (s:SB):(xb s).den ρ=!(s.den ρ):=by
 unfold xb
 grind [SB.den]
theorem kr: ∀(x y:List Nat),gC x y=true↔x=y
 |[],[]=>by simp [gC]
 |[],_::_=>by simp [gC]
 |_::_,[]=>by simp [gC]
 |a::x,b::y=>by
  simp only [gC]
  cases h:a.beq b with
  |true=>have:=aq h; subst this; simp [kr x y]
  |false=>have:=anD h; simp [this]
theorem qz (s:List Nat):(df s).toList=s.map UInt8.ofNat:=by simp_all [df]
theorem kH (s:List Nat):(df s).size=s.length:=by show (List.map UInt8.ofNat s).toArray.size=_;simp
theorem ofNat_inj {a b:Nat} (ha:a<256) (hb:b<256) (h:UInt8.ofNat a=UInt8.ofNat b):a=b:=by have:=congrArg UInt8.toNat h;simpa [am6,amY ha,amY hb] using this
theorem map_inj: ∀{x y:List Nat},(∀b∈x,b<256)->(∀b∈y,b<256)->x.map UInt8.ofNat=y.map UInt8.ofNat->x=y
 |[],[],_,_,_=>rfl
 |[],_::_,_,_,h=>by simp at h
 |_::_,[],_,_,h=>by simp at h
 |a::x,b::y,hx,hy,h=>by simp only [ax,List.cons.injEq] at h;rw [ofNat_inj (hx a ad) (hy b ad) h.1,map_inj (fun c hc=>hx c (by simp [hc])) (fun c hc=>hy c (by simp [hc])) h.2]
theorem PQ {x y:List Nat} (hx: ∀b∈x,b<256) (hy: ∀b∈y,b<256):((df x).toList == (df y).toList)=gC x y:=by
 grind [qz,kr,map_inj]
theorem F9: ∀{x y:List Nat},(∀b∈x,b<256)->(∀b∈y,b<256)->Op.bytesLess (x.map UInt8.ofNat) (y.map UInt8.ofNat)=bytesLess x y
 |[],[],_,_=>by simp [Op.bytesLess,bytesLess]
 |[],_::_,_,_=>by simp [Op.bytesLess,bytesLess]
 |_::_,[],_,_=>by simp [Op.bytesLess,bytesLess]
 |a::x,b::y,hx,hy=>by
  have ha:=hx a ad;have hb:=hy b ad;have ih:=F9 (x:=x) (y:=y) (fun c hc=>hx c (by simp [hc])) (fun c hc=>hy c (by simp [hc]));simp only [ax,Op.bytesLess,bytesLess,ih]
  have U:decide (UInt8.ofNat a<UInt8.ofNat b)=a.blt b:=by rw [amP,decide_eq_true_iff,UInt8.lt_iff_toNat_lt,am6,am6,amY ha,amY hb];simp_all
  have Z:(UInt8.ofNat a == UInt8.ofNat b)=a.beq b:=by rw [amP,beq_iff_eq];exact⟨fun h=>by rw [ofNat_inj ha hb h]; simp,fun h=>by rw [aq h]⟩
  grind
theorem Kx {P:Program} {E:En} {w:World} {op:BinOp} {x y:List Nat} {v:W} (hx: ∀b∈x,b<256) (hy: ∀b∈y,b<256) (h:Ky op x y=some v) :
 ∃u,(Op.stringOp op (df x) (df y)).run P w= .ok u w/\VR E w.heap v u:=by
 have he:=PQ hx hy;have Y:Op.bytesLess (df x).toList (df y).toList=bytesLess x y:=by rw [qz,qz]; exact F9 hx hy
 unfold Ky at h;cases op<;>simp only [ag,reduceCtorEq] at h
 case add=>
  split at h
  ·rename_i hh;simp at h;subst h;have hm:IntKind.i64.max=9223372036854775807:=ae
   refine⟨.string (df x++df y),?_,?_⟩
   ·simp only [Op.stringOp,kH,hm];rw [af J];rfl
   ·simp only [VR];refine⟨?_,?_⟩
    ·congr 1;apply ByteArray.ext;simp [df]
    ·intro b hb;rcases amC.1 hb with hb|hb
     ·exact hx b hb
     ·exact hy b hb
  ·simp at h
 all_goals
  subst h;exact⟨_,rfl,by simp only [VR,SB.den,he,Y]⟩
theorem iV {ρ:Nat->Int} {c:SB} {b:Bool}: ∀{pc:List (SB×Bool)},bT ρ pc->nh c pc=some b->c.den ρ=b
 |[],_,h=>by simp [nh] at h
 |(d,x)::l,hp,h=>by
  simp only [nh] at h;split at h
  ·rename_i he;have he:=rR _ _ he;simp at h;subst he h;exact hp _ _ ad
  ·exact iV (fun c b hm=>hp c b (by simp [hm])) h
def rC (lo hi:Option Int) (x:Int):Prop:=(∀l,lo=some l->l<=x)/\∀h,hi=some h->x<=h
theorem IJ {lo:Option Int} {z x:Int} (h: ∀l,lo=some l->l<=x) (hz:z<=x): ∀l,Xz lo z=some l->l<=x:=by
 intro l Y;unfold Xz at Y
 grind
theorem II {hi:Option Int} {z x:Int} (h: ∀l,hi=some l->x<=l) (hz:x<=z): ∀l,Xx hi z=some l->x<=l:=by
 intro l Y;unfold Xx at Y
 grind
theorem Xi {lo:Option Int} {z x:Int} (h: ∀l,lo=some l->l<=x) (hz:x≠z): ∀l,Xj lo z=some l->l<=x:=by
 intro l Y;unfold Xj at Y
 grind
theorem Xk {hi:Option Int} {z x:Int} (h: ∀l,hi=some l->x<=l) (hz:x≠z): ∀l,Xl hi z=some l->x<=l:=by
 intro l Y;unfold Xl at Y
 grind
theorem qG {ρ:Nat->Int} {x y:V} {v:Bool} (h:(SB.lt x y).den ρ=v):(x.den ρ<y.den ρ)↔v=true:=by subst h; simp [SB.den]
theorem RU {ρ:Nat->Int} {x y:V} {v:Bool} (h:(SB.eq x y).den ρ=v):(x.den ρ=y.den ρ)↔v=true:=by subst h; simp [SB.den]
theorem e? {ρ:Nat->Int} (e:V):rC (Sz e).1 (Sz e).2 (e.den ρ):=by
 have h0:rC none none (e.den ρ):=⟨ad,ad⟩;unfold Sz;split
 ·split
  ·split
   ·split
    ·split
     ·split
      ·split
       ·rename_i k m x n hn;obtain⟨hn,rfl,rfl⟩:=hn;simp only [V.den];have U:=anE (m.den ρ) (b:=n) J
        have Z: -n<(m.den ρ).tmod n:=by have U:=anE (-(m.den ρ)) (b:=n) J;rw [Int.neg_tmod] at U;omega
        have h3:=Int.tmod_nonneg n (a:=(m.den ρ).tmod n+n) J;have h4:=anE ((m.den ρ).tmod n+n) (b:=n) J;constructor<;>intro l Y<;>simp at Y<;>omega
       grind
      grind
     grind
    grind
   grind
  grind
 ·rename_i o a b
  cases o with
  |len=> refine⟨fun l Y=>?_,ad⟩;simp only [ag] at Y;subst Y;simp only [V.den,eZ.den];omega
  |_=>exact h0
 grind
theorem lV {ρ:Nat->Int} {e:V}: ∀{pc:List (SB×Bool)},bT ρ pc->rC (bounds e pc).1 (bounds e pc).2 (e.den ρ)
 |[],_=>e? e
 |(c,v)::l,hp=>by
  have ih:=lV (e:=e) (pc:=l) (fun c b hm=>hp c b (by simp [hm]));have hc:=hp c v ad;unfold bounds;split
  ·have hc:=qG hc;split
   ·split
    ·exact ih
    ·rename_i he;have he:=cH _ _ he;subst he;revert ih;split;rename_i lo hi hb;rw [hb];intro ih;simp only [V.den] at hc;cases v
     ·exact⟨ih.1,II ih.2 (by simp at hc; omega)⟩
     ·exact⟨IJ ih.1 (by simp at hc; omega),ih.2⟩
   ·split
    ·split
     ·exact ih
     ·rename_i he;have he:=cH _ _ he;subst he;revert ih;split;rename_i lo hi hb;rw [hb];intro ih;simp only [V.den] at hc;cases v
      ·exact⟨IJ ih.1 (by simp at hc; omega),ih.2⟩
      ·exact⟨ih.1,II ih.2 (by simp at hc; omega)⟩
    grind
  ·split
   ·split
    ·split
     ·exact ih
     ·rename_i he;have he:=cH _ _ he;subst he;revert ih;split;rename_i lo hi hb;rw [hb];intro ih;simp only [SB.den,V.den,beq_eq_false_iff_ne] at hc;exact⟨Xi ih.1 hc,Xk ih.2 hc⟩
    ·split
     ·exact ih
     ·rename_i he;have he:=cH _ _ he;subst he;simp only [SB.den,V.den,beq_iff_eq] at hc;exact⟨fun l Y=>by simp at Y; omega,fun l Y=>by simp at Y; omega⟩
   grind
  grind
theorem xz {ρ:Nat->Int} {e:V} {pc:List (SB×Bool)} (hp:bT ρ pc):rC (oS e pc).1 (oS e pc).2 (e.den ρ):=by
 have h0:=lV (e:=e) hp;unfold oS;split
 ·split
  ·split
   ·split
    ·rename_i b _ c;have hb:=lV (e:=b) hp;split
     ·rename_i lo hi MW;rw [MW] at hb;have b1:=hb.1 lo rfl;have b2:=hb.2 hi rfl;split
      ·rename_i hr;revert h0;split;rename_i l2 Z hee;rw [hee];intro h0
       have hw:(V.wrap .i64 (.add b (.lit c))).den ρ=b.den ρ+c:=by
        simp only [V.den];rw [<- kq];simp only [sj]
        grind
       exact⟨IJ h0.1 (by rw [hw]; omega),II h0.2 (by rw [hw]; omega)⟩
      grind
     grind
    grind
   grind
  grind
 grind
theorem D0 {ρ:Nat->Int} {pc:List (SB×Bool)} (hp:bT ρ pc) {a b:V} {v:Bool} (h:QG a b pc=some v):a.den ρ=b.den ρ↔v=true:=by
 unfold QG at h;split at h
 ·rename_i U;simp at h;subst h;exact RU (iV hp U)
 ·rw [<- RU (iV hp h)]
  grind
theorem ZW {ρ:Nat->Int} {pc:List (SB×Bool)} (hp:bT ρ pc) {a b:V} {v:Bool} (h:decLt pc a b=some v):a.den ρ<b.den ρ↔v=true:=by
 unfold decLt at h;split at h
 ·rename_i U;simp at h;subst h;exact qG (iV hp U)
 ·split at h
  ·have hb:=xz (e:=b) hp;have hz: ∀z,(V.lit z).den ρ=z:=fun _=>rfl;simp only [hz] at *;generalize MW:oS _ pc=p at h hb;obtain⟨lo,hi⟩:=p;simp only [rC] at h hb
   grind
  ·split at h
   ·have hb:=xz (e:=a) hp;have hz: ∀z,(V.lit z).den ρ=z:=fun _=>rfl;simp only [hz] at *;generalize MW:oS _ pc=p at h hb;obtain⟨lo,hi⟩:=p;simp only [rC] at h hb
    grind
   ·split at h
    ·rename_i U;have U:=D0 hp U
     grind
    ·rename_i U;have U:=D0 hp U;simp at U;split at h
     ·rename_i Z;have Z:=qG (iV hp Z)
      grind
     grind
    ·split at h
     ·rename_i Z;have Z:=qG (iV hp Z)
      grind
     grind
theorem ZX {ρ:Nat->Int} {pc:List (SB×Bool)} (hp:bT ρ pc) {a b:V} {v:Bool} (h:decEq pc a b=some v):a.den ρ=b.den ρ↔v=true:=by
 unfold decEq at h;split at h
 ·rename_i U;simp at h;subst h;exact D0 hp U
 ·split at h
  ·have hb:=xz (e:=a) hp;have hz: ∀z,(V.lit z).den ρ=z:=fun _=>rfl;simp only [hz] at *;generalize MW:oS _ pc=p at h hb;obtain⟨lo,hi⟩:=p;simp only [rC] at h hb
   grind
  ·split at h
   ·rename_i Z;have Z:=qG (iV hp Z)
    grind
   ·rename_i Z;have Z:=qG (iV hp Z);simp at Z;split at h
    ·rename_i h3;have h3:=qG (iV hp h3)
     grind
    grind
   ·split at h
    ·rename_i Z;have Z:=qG (iV hp Z)
     grind
    grind
theorem kG {ρ:Nat->Int}: ∀{e:V} {x:Sum Int D},jL e=some x->e.den ρ=(match x with | .inl n=>n| .inr d=>enc d)
 | .lit n,x,h=>by simp only [jL,ag] at h; subst h; rfl
 | .eg d,x,h=>by simp only [jL,ag] at h; subst h; rfl
 | .op o a b,x,h=>by
   have ha:=fun y=>kG (ρ:=ρ) (e:=a) (x:=y);have hb:=fun y=>kG (ρ:=ρ) (e:=b) (x:=y);simp only [jL] at h;split at h
   ·split at h
    ·rename_i d hd;simp only [ag] at h; subst h;simp only [V.den,eZ.den,ha _ hd,bB]
    ·simp at h
   ·split at h
    ·rename_i d hd;simp only [ag] at h; subst h;simp only [V.den,eZ.den,ha _ hd]
    ·simp at h
   ·split at h
    ·rename_i u v hu hv;simp only [ag] at h; subst h;simp only [V.den,eZ.den,ha _ hu,hb _ hv,bB]
    ·simp at h
   ·split at h
    ·rename_i u v hu hv;simp only [ag] at h; subst h;simp only [V.den,eZ.den,ha _ hu,hb _ hv,bB]
    ·simp at h
   ·split at h
    ·rename_i u k v hu hv;simp only [ag] at h; subst h;simp only [V.den,eZ.den,ha _ hu,hb _ hv,bB]
    ·simp at h
   ·split at h
    ·rename_i u v hu hv;simp only [ag] at h; subst h;simp only [V.den,eZ.den,ha _ hu,hb _ hv,bB]
    ·simp at h
   ·split at h
    ·rename_i u v hu hv;simp only [ag] at h; subst h;simp only [V.den,eZ.den,ha _ hu,hb _ hv,bB]
    ·simp at h
   ·split at h
    ·rename_i d hd;simp only [ag] at h; subst h;simp only [V.den,eZ.den,ha _ hd,bB]
    ·simp at h
   ·simp at h
 | .dH _,x,h=>by simp [jL] at h
 | .add _ _,x,h=>by simp [jL] at h
 | .sub _ _,x,h=>by simp [jL] at h
 | .mul a b,x,h=>by
   have ha:=fun y=>kG (ρ:=ρ) (e:=a) (x:=y);have hb:=fun y=>kG (ρ:=ρ) (e:=b) (x:=y);simp only [jL] at h;split at h
   ·rename_i u v hu hv;simp only [ag] at h; subst h;simp only [V.den,ha _ hu,hb _ hv]
   ·simp at h
 | .quo a b,x,h=>by
   have ha:=fun y=>kG (ρ:=ρ) (e:=a) (x:=y);have hb:=fun y=>kG (ρ:=ρ) (e:=b) (x:=y);simp only [jL] at h;split at h
   ·rename_i u v hu hv;simp only [ag] at h; subst h;simp only [V.den,ha _ hu,hb _ hv]
   ·simp at h
 | .rem a b,x,h=>by
   have ha:=fun y=>kG (ρ:=ρ) (e:=a) (x:=y);have hb:=fun y=>kG (ρ:=ρ) (e:=b) (x:=y);simp only [jL] at h;split at h
   ·rename_i u v hu hv;simp only [ag] at h; subst h;simp only [V.den,ha _ hu,hb _ hv]
   ·simp at h
 | .wrap k a,x,h=>by
   have ha:=fun y=>kG (ρ:=ρ) (e:=a) (x:=y);simp only [jL] at h;split at h
   ·rename_i u hu;simp only [ag] at h; subst h;simp only [V.den,ha _ hu,kq]
   ·simp at h
 | .wy _ _,x,h=>by simp [jL] at h
 | .ap _ _,x,h=>by simp [jL] at h
theorem E7 {ρ:Nat->Int} {pc:List (SB×Bool)} (hp:bT ρ pc) {c:SB} {b:Bool} (h:C8 pc c=some b):c.den ρ=b:=by
 unfold C8 at h;split at h
 ·simp at h; simp [SB.den,h]
 ·split at h
  ·rename_i x y hx hy;simp only [ag] at h; subst h;simp only [SB.den,kG (ρ:=ρ) hx,kG (ρ:=ρ) hy]
  ·have:=ZW hp h;simp only [SB.den]
   grind
 ·split at h
  ·rename_i x y hx hy;simp only [ag] at h; subst h;simp only [SB.den,kG (ρ:=ρ) hx,kG (ρ:=ρ) hy]
   grind
  ·have:=ZX hp h;simp only [SB.den]
   grind
 ·exact iV hp h
theorem gD {ρ:Nat->Int} {pc:List (SB×Bool)} (hp:bT ρ pc) {c:SB} {b:Bool} (h:jR pc c=some b):c.den ρ=b:=by
 unfold jR at h;split at h
 ·rw [aO] at h;obtain⟨x,U,rfl⟩:=h;simp only [SB.den,E7 hp U]
 ·exact E7 hp h
section
variable {P:Program} {E:En} {w:World}
theorem XT {op:BinOp} {t:Nat} {k k':IntKind} {a b:V} {v:W} (hk:op= .shr\/k=k') (h:Rh op k a b=some v) :
 ∃u,(binOp op t (.int k (a.den E.ρ)) (.int k' (b.den E.ρ))).run P w= .ok u w/\VR E w.heap v u:=by
 unfold Rh at h;cases op<;>simp only [ag,reduceCtorEq] at h
 case add=>obtain rfl:k=k':=by simpa using hk
           subst h; exact⟨_,by simp [binOp,Op.intArith]; rfl,by simp only [VR,Tj]⟩
 case sub=>obtain rfl:k=k':=by simpa using hk
           subst h; exact⟨_,by simp [binOp,Op.intArith]; rfl,by simp only [VR,Gf]⟩
 case mul=>obtain rfl:k=k':=by simpa using hk
           subst h; exact⟨_,by simp [binOp,Op.intArith]; rfl,by simp only [VR,Ti]⟩
 case quo=>
  obtain rfl:k=k':=by simpa using hk
  split at h
  ·split at h
   ·simp at h
   ·rename_i hy;simp at h;subst h;exact⟨_,by simp [binOp,Op.intDiv,V.den,hy]; rfl,by simp only [VR,V.den,kq]⟩
  ·split at h
   ·simp at h
   ·rename_i hy;simp at h;subst h;exact⟨_,by simp [binOp,Op.intDiv,V.den,hy]; rfl,by simp only [VR,V.den]⟩
  ·simp at h
 case rem=>
  obtain rfl:k=k':=by simpa using hk
  split at h
  ·split at h
   ·simp at h
   ·rename_i hy;simp at h;subst h;exact⟨_,by simp [binOp,Op.intDiv,V.den,hy]; rfl,by simp only [VR,V.den]⟩
  ·split at h
   ·simp at h
   ·rename_i hy;simp at h;subst h;exact⟨_,by simp [binOp,Op.intDiv,V.den,hy]; rfl,by simp only [VR,V.den]⟩
  ·simp at h
 case shr=>
  split at h
  ·split at h
   ·simp at h
   ·rename_i hy;simp at h;subst h;exact⟨_,by simp [binOp,Op.shift,V.den,hy]; rfl,by simp only [VR,V.den]⟩
  ·simp at h
 all_goals
  obtain rfl:k=k':=by simpa using hk
  subst h;refine⟨_,by simp [binOp,Op.intCmp]; rfl,?_⟩;simp only [VR,gG,mZ,dU,W2]
  first |rfl|(congr 1; simp [bne]; done)|(congr 1; rw [amP]; simp; done)|skip
theorem vD {op:BinOp} {t:Nat} {x y:Operand} {a b:Value} (U: ∀cs ds,¬(a= .agg cs/\b= .agg ds)) (Z: ¬(a= .nilIface/\b= .nilIface)) :
 (eqGuard op t x y a b).run P w= .ok () w:=by
 cases op
 case eql=>
  cases a<;>first
   |(cases b<;>first |(exact absurd ⟨rfl,rfl⟩ (U _ _))|(exact absurd ⟨rfl,rfl⟩ Z)|rfl)
   |rfl
 case neq=>
  cases a<;>first
   |(cases b<;>first |(exact absurd ⟨rfl,rfl⟩ (U _ _))|(exact absurd ⟨rfl,rfl⟩ Z)|rfl)
   |rfl
 all_goals rfl
theorem B7 {ρ:Nat->Int} {a b c:SB} (h:C5 a b=some c):c.den ρ=(a.den ρ == b.den ρ):=by
 unfold C5 at h;split at h<;>simp only [ag,reduceCtorEq] at h<;>subst h
 ·simp [SB.den]
 ·grind [SB.den,mZ]
 ·grind [SB.den,mZ]
 ·simp only [SB.den];cases a.den ρ<;>cases b.den ρ<;>rfl
theorem yM {d:TypeDesc} {t:Nat} (h:P.underlying t=some d) (w:World):(underlying t).run P w= .ok d w:=run_underlying h w
theorem r4 {i:TI} {t:Nat} (h:mf P t i): ∃d,P.underlying t=some d/\HX P d i.kind:=by
 obtain⟨inf,d,z,U,Z,h3,h4,h5,h6,h7,_⟩:=h.all
 grind
theorem RR {i:TI} {t:Nat} (ht:mf P t i) {x y:W} {u u':Value} (hx:VR E w.heap x u) (hy:VR E w.heap y u') {c:SB} (h:afg i.kind x y=some c) :
 (Op.equal t u u').run P w= .ok (c.den E.ρ) w/\(∀cs ds,¬(u= .agg cs/\u'= .agg ds))/\¬(u= .nilIface/\u'= .nilIface)/\(∀k n,u≠.int k n)/\(∀s,u≠.string s)/\(∀k n,u≠.float k n)/\(∀k n m,u≠.complex k n m):=by
 obtain⟨d,U,Z⟩:=r4 ht;have hm: ∀a b,Op.equal t a b=Op.equalIn (9999+1) t a b:=fun _ _=>rfl;rw [hm];clear hm;generalize (9999:Nat)=n;unfold afg at h;split at h
 ·rename_i hk;rw [hk] at Z;cases d<;>simp only [HX] at Z;split at h
  ·simp only [VR] at hx hy;subst hx hy;refine⟨?_,ad,ad,ad,ad,ad,ad⟩;rw [B7 h];simp [Op.equalIn,yM U]
  grind
 ·rename_i k hk;cases tc:i.kind<;>rw [tc] at h Z<;>simp only [isNil,reduceCtorEq] at h
  case pointer e=>
   cases d<;>simp only [HX] at Z;cases x<;>simp only [reduceCtorEq] at h<;>cases y<;>simp only [reduceCtorEq,ag] at h<;>subst h<;>simp only [VR] at hx hy
   all_goals
    first |(obtain⟨b,o,us,rfl,_⟩:=hx)|(obtain⟨rfl,_⟩:=hx)|subst hx
    first |(obtain⟨b',o',gw,rfl,_⟩:=hy)|(obtain⟨rfl,_⟩:=hy)|subst hy
    exact⟨by simp [Op.equalIn,yM U,SB.den],ad,ad,ad,ad,ad,ad⟩
  case slice e=>
   cases d<;>simp only [HX] at Z;cases x<;>simp only [reduceCtorEq] at h<;>cases y<;>simp only [reduceCtorEq,ag] at h<;>subst h<;>simp only [VR] at hx hy
   all_goals
    first |(obtain⟨b,o,cap,us,rfl,_⟩:=hx)|(obtain⟨_,b,cap,rfl,_⟩:=hx)|(obtain⟨_,k,b,cap,_,rfl,_⟩:=hx)|subst hx
    first |(obtain⟨b',o',qb,gw,rfl,_⟩:=hy)|(obtain⟨_,b',qb,rfl,_⟩:=hy)|(obtain⟨_,k',b',qb,_,rfl,_⟩:=hy)|subst hy
    exact⟨by simp [Op.equalIn,yM U,SB.den],ad,ad,ad,ad,ad,ad⟩
  case map k' e=>
   cases d<;>simp only [HX] at Z;cases x<;>simp only [reduceCtorEq] at h<;>cases y<;>simp only [reduceCtorEq,ag] at h<;>subst h<;>simp only [VR] at hx hy
   all_goals
    first |(obtain⟨rfl,_⟩:=hx)|subst hx
    first |(obtain⟨rfl,_⟩:=hy)|subst hy
    exact⟨by simp [Op.equalIn,yM U,SB.den],ad,ad,ad,ad,ad,ad⟩
theorem binOp_eql {t:Nat} {u u':Value} {b:Bool} (h:(Op.equal t u u').run P w= .ok b w) (U: ∀k n,u≠.int k n) (Z: ∀s,u≠.string s) (h3: ∀k n,u≠.float k n) (h4: ∀k n m,u≠.complex k n m) :
 (binOp .eql t u u').run P w= .ok (.bool b) w/\(binOp .neq t u u').run P w= .ok (.bool (!b)) w:=by
 cases u<;>first
  |exact absurd rfl (U _ _)
  |exact absurd rfl (Z _)
  |exact absurd rfl (h3 _ _)
  |exact absurd rfl (h4 _ _ _)
  |(constructor<;>(cases u'<;>simp [binOp,h]))
theorem iq (ρ:Nat->Int) (a b:V):(qB a b).den ρ=(a.den ρ == b.den ρ):=by
 unfold qB;split
 ·rename_i h
  grind [cH,SB.den]
 ·split
  ·simp only [SB.den]
   grind
  ·simp only [SB.den]
theorem lN (ρ:Nat->Int) (x:V):(mw x).den ρ=enc (dec (x.den ρ)):=by
 unfold mw;split
 ·simp only [V.den,bB]
 ·split
  ·simp only [V.den,eZ.den,bB]
  ·simp only [V.den,eZ.den,bB]
  ·simp only [V.den,eZ.den]
 ·simp only [V.den,eZ.den]
theorem yB {E:En} {h:Array Obj} {x:W} {u:Value} {e:V} (hx:VR E h x u) (hs:tT x=some e): ∃s,u= .string s/\dec (e.den E.ρ)=tJ s:=by
 unfold tT at hs;split at hs
 ·simp only [ag] at hs;subst hs;simp only [VR] at hx;obtain⟨rfl,hb⟩:=hx;refine⟨_,rfl,?_⟩;simp only [V.den,bB]
  grind [Ae,tJ,df]
 ·simp only [ag] at hs;subst hs;simp only [VR] at hx;generalize dec (V.den E.ρ _)=d at hx ⊢
  cases hx with
  |str s=>exact⟨s,rfl,rfl⟩
 grind
theorem Dt {E:En} {h:Array Obj} {x y:W} {u v:Value} {c:SB} (hx:VR E h x u) (hy:VR E h y v) (hs:Bz x y=some c): ∃a b:ByteArray,u= .string a/\v= .string b/\c.den E.ρ=decide (a=b):=by
 unfold Bz at hs;split at hs
 ·grind
 ·rename_i e he;split at hs
  ·grind
  ·rename_i f hf;simp only [ag] at hs;subst hs;obtain⟨a,rfl,ha⟩:=yB hx he;obtain⟨b,rfl,hb⟩:=yB hy hf;refine⟨a,b,rfl,rfl,?_⟩
   grind [iq,lN,E8,gZ]
theorem xA (a b:ByteArray):(a.toList == b.toList)=decide (a=b):=by
 rw [amP,beq_iff_eq,decide_eq_true_eq];constructor
 ·intro h;rw [<- kI a,<- kI b]
  have e: ∀x:ByteArray,x.toList=x.data.toList:=by
   intro x;have:=qz (bytesOf x);rw [kI] at this;rw [this]
   have e2:(UInt8.ofNat ∘ fun b:UInt8=>b.toNat)=id:=by funext b;simp
   simp_all [bytesOf,e2]
  grind [bytesOf]
 grind
theorem F8 {E:En} {op:BinOp} {x y v:W} {u u':Value} {t:Nat} (hx:VR E w.heap x u) (hy:VR E w.heap y u') (h:Im op (Bz x y)=some v) :
 (∃r,(binOp op t u u').run P w= .ok r w/\VR E w.heap v r)/\(∀cs ds,¬(u= .agg cs/\u'= .agg ds))/\¬(u= .nilIface/\u'= .nilIface):=by
 unfold Im at h;split at h
 ·grind
 ·rename_i c hc;obtain⟨a,b,rfl,rfl,hd⟩:=Dt hx hy hc;refine⟨?_,ad,ad⟩;split at h
  ·simp only [ag] at h;subst h;refine⟨.bool (decide (a=b)),?_,by simp only [VR,hd]⟩;rw [<- xA];rfl
  ·simp only [ag] at h;subst h;refine⟨.bool (!decide (a=b)),?_,by simp only [VR,SB.den,hd]⟩;rw [<- xA];rfl
  grind
theorem YC {tt:TT} (cJ:eB P tt) {t:Nat} {op:BinOp} {x y v:W} {u u':Value} (hx:VR E w.heap x u) (hy:VR E w.heap y u') (h:YD tt t op x y=some v) :
 (∃r,(binOp op t u u').run P w= .ok r w/\VR E w.heap v r)/\(∀cs ds,¬(u= .agg cs/\u'= .agg ds))/\¬(u= .nilIface/\u'= .nilIface):=by
 unfold YD at h;split at h
 ·split at h
  ·simp only [VR] at hx hy;subst hx hy;refine⟨?_,ad,ad⟩;split at h
   all_goals simp_all [XT]
  grind
 ·split at h
  ·simp only [VR] at hx hy;obtain⟨rfl,hx⟩:=hx;obtain⟨rfl,hy⟩:=hy;refine⟨?_,ad,ad⟩;obtain⟨r,U,Z⟩:=Kx (P:=P) (E:=E) (w:=w) hx hy h;refine⟨r,?_,Z⟩;cases op<;>first |(simp [Ky] at h; done)|(simpa [binOp] using U)
  ·exact F8 hx hy h
  grind
 ·exact F8 hx hy h
 ·split at h
  ·grind
  ·rename_i i hi;split at h
   ·rename_i c hc;simp at h;subst h;obtain⟨e1,e2,e3,e4,e5,e6,e7⟩:=RR (w:=w) (cJ t i hi) hx hy hc;exact⟨⟨_,(binOp_eql e1 e4 e5 e6 e7).1,by simp only [VR]⟩,e2,e3⟩
   ·rename_i c hc;simp at h;subst h;obtain⟨e1,e2,e3,e4,e5,e6,e7⟩:=RR (w:=w) (cJ t i hi) hx hy hc;exact⟨⟨_,(binOp_eql e1 e4 e5 e6 e7).2,by simp only [VR,mZ]⟩,e2,e3⟩
   grind
theorem aao {op:UnOp} {x v:W} {u:Value} (hx:VR E w.heap x u) (h:afe op x=some v): ∃r,(Op.unary op u).run P w= .ok r w/\VR E w.heap v r:=by
 unfold afe at h;split at h
 ·simp at h; subst h;simp only [VR] at hx; subst hx;exact⟨_,rfl,by simp only [VR,mZ]⟩
 ·simp at h; subst h;simp only [VR] at hx; subst hx;exact⟨_,rfl,by simp only [VR,Gf,V.den]⟩
 grind
end
section
variable {P:Program} {E:En} {w:World}
theorem iN [bG] {H:Hp} {w':World} (r:bN E H w) {cs:List W} {us:List Value} (arr:Array Value) (lo hi:Nat) (e:TypeId) (hv:cw E w.heap cs us) (U: ∀u∈us,u.oneCell'=true)
 (ha: ∀(i:Nat) (u:Value),us[i]?=some u->arr[i]?=some u) (hf: ∀o:Nat,lo<=o->o<hi->arr.size<=o) (hw:w'.heap=w.heap.push (.cells arr e (lo,hi))) (al:Alike w w') :
 eS E H w (E.ext H.fresh (w.heap.size,0) arr.size) (H.new (.cells cs e)) w'/\bN (E.ext H.fresh (w.heap.size,0) arr.size) (H.new (.cells cs e)) w':=by
 refine pD r _ _ _ hw al ?_;have k:=D6 r (w.heap.size,0) arr.size (.cells arr e (lo,hi));rw [<- hw] at k;have hlen:=hv.length;simp only [OR,En.ext_θ_new,En.ext_κ_new];refine⟨arr,lo,hi,us,by rw [hw]; simp,cw.keep k _ _ hv,fun i u hu=>by rw [ay]; exact ha i u hu,?_,J,hf,U⟩;rw [<- hlen];rcases aT arr.size us.length with hh|hh
 ·have:=ha arr.size us[arr.size] (by simp [hh])
  grind
 grind
theorem yT [bG] {H:Hp} (_:bN E H w) (c:Nat) (h:Array Obj) (off:Nat):VR (E.ext H.fresh (w.heap.size,0) c) h (.ptr H.fresh off) (.pointer (some ⟨w.heap.size,off,none⟩)):=by
 simp only [VR,En.ext_θ_new]
 grind [En.gB]
theorem OE [bG] {tt:TT} (cJ:eB P tt) {H H':Hp} (r:bN E H w) {t:Nat} {p v:W} {u x:Value} (hp:VR E w.heap p u) (hx:VR E w.heap v x) (h:Jn tt t p v H=some H') :
 ∃w',(Instr.storeAt t u x).run P w= .ok () w'/\eS E H w E H' w'/\bN E H' w':=by
 unfold Jn at h;split at h
 ·grind
 ·rename_i i hi;split at h
  ·rename_i hc;simp only [an,decide_eq_true_eq] at hc;split at h
   ·split at h
    ·rename_i id off cs e Y;split at h
     ·rename_i lE hs;simp at h;subst h;simp only [VR] at hp;obtain⟨rfl,_⟩:=hp;have MU:=hx.cells hc.2;have hlen:x.cells.size=i.size:=by have:=MU.length; simp only [bn] at this; omega
      obtain⟨w',U,Z,h3⟩:=lM (P:=P) r Y hs MU (MU.rX hc.2);refine⟨w',?_,Z,h3⟩;simp [Instr.storeAt,Instr.sureAddr,storeVar,ez (cJ t i hi),hlen,U]
     grind
    grind
   grind
  grind
theorem Hi: ∀(vs:List Value) (off k:Nat) (arr:Array Value),off+k+vs.length<=arr.size->
 ((vs.zipIdx k).foldl (fun cs p=>cs.setIfInBounds (off+p.2) p.1) arr).size=arr.size/\
 ∀i,((vs.zipIdx k).foldl (fun cs p=>cs.setIfInBounds (off+p.2) p.1) arr)[i]?=if off+k<=i/\i<off+k+vs.length then vs[i-(off+k)]? else arr[i]?
 |[],off,k,arr,_=> ⟨rfl,fun i=>by rw [af ad]; rfl⟩
 |v::vs,off,k,arr,h=>by
  simp only [List.zipIdx_cons,List.foldl_cons];obtain⟨U,Z⟩:=Hi vs off (k+1) (arr.setIfInBounds (off+k) v) (by simp at h ⊢; omega)
  grind
def tQ (E:En) (h:Array Obj):List (Nat×W)->List (Nat×Value)->Prop
 |[],ps=>ps= []
 |(i,v)::xs,ps=> ∃x r,ps=(i,x)::r/\VR E h v x/\tQ E h xs r
theorem pU {place:Nat->Option (Nat×Nat)} {h:Array Obj}: ∀{parts:List (Nat×W)} {cs lE:List W} {us:Array Value} {ps:List (Nat×Value)},
 tw place cs parts=some lE->cw E h cs us.toList->tQ E h parts ps->(∀u∈us.toList,u.oneCell'=true)->
 ∃gw:Array Value,Instr.fill place us ps=some gw/\cw E h lE gw.toList/\∀u∈gw.toList,u.oneCell'=true
 |[],cs,lE,us,ps,U,Z,h3,h4=>by simp only [tQ] at h3;subst h3;simp [tw] at U;subst U;exact⟨us,rfl,Z,h4⟩
 |(i,v)::parts,cs,lE,us,ps,U,Z,h3,h4=>by
  simp only [tQ] at h3;obtain⟨x,ps',rfl,hx,hb⟩:=h3;simp only [tw] at U;split at U
  ·simp at U
  ·rename_i off size hp;split at U
   ·rename_i hc;simp only [an,decide_eq_true_eq] at hc;split at U
    ·rename_i cs2 hs;have MU:=hx.cells hc.2;have hlen:=MU.length;simp only [bn] at hlen;obtain⟨e1,e2,gw,e3,e4⟩:=vX hs Z MU;have hul:=Z.length;simp only [bn] at hul;have ai6:=Hi x.cells.toList off 0 us (by simp; omega)
     have heq:(x.cells.zipIdx.foldl (fun cs (c,j)=>cs.setIfInBounds (off+j) c) us).toList=gw:=by apply anF;intro k;rw [e4 k];have h5:=ai6.2 k;simp only [bh,bn] at h5;rw [amD,<- Array.foldl_toList,Array.toList_zipIdx];rw [h5];simp only [bn,amD]
     have h6: ∀u∈(x.cells.zipIdx.foldl (fun cs (c,j)=>cs.setIfInBounds (off+j) c) us).toList,u.oneCell'=true:=by
      rw [heq];intro u hu;rw [anC] at hu;obtain⟨k,hk⟩:=hu;rw [e4 k] at hk;split at hk
      ·exact MU.rX hc.2 u (amE hk)
      ·exact h4 u (amE hk)
     obtain⟨us2,g1,g2,g3⟩:=pU (us:=x.cells.zipIdx.foldl (fun cs (c,j)=>cs.setIfInBounds (off+j) c) us) U (by rw [heq]; exact e3) hb h6;refine⟨us2,?_,g2,g3⟩;simp only [Instr.fill,hp];rw [af]
     ·exact g1
     ·simp only [ane,decide_eq_true_eq,not_or];constructor
      ·omega
      ·omega
    ·simp at U
   ·simp at U
theorem yg {s:St} {a:Act} (sr:SR E w.heap s.bE a): ∀{xs:List (Nat×Operand)} {ps:List (Nat×W)},wH s xs=some ps->tQ E w.heap ps (xs.map fun p=>(p.1,a.eval p.2))
 |[],ps,h=>by simp [wH] at h; subst h; simp [tQ]
 |(i,x)::xs,ps,h=>by
  simp only [wH] at h;split at h
  ·grind
  ·rename_i b hb;split at h
   ·grind
   ·rename_i bs hbs;simp at h;subst h;simp only [ax,tQ];exact⟨_,_,rfl,gf sr hb,yg sr hbs⟩
theorem dg {α:Type}: ∀(l:List α) (i:Nat),eX l i=l[i]?
 |[],i=>by cases i<;>rfl
 |x::xs,0=>rfl
 |x::xs,i+1=>by simp [eX,dg xs i]
theorem DZ {α β:Type} {f:α->Option β}: ∀{l:List α} {r:List β},l.mapM f=some r->∀i:Nat,r[i]?=(l[i]?).bind f
 |[],r,h,i=>by simp at h; subst h; simp
 |x::xs,r,h,i=>by
  simp only [anf,anG,anm] at h;obtain⟨y,U,ys,Z,h3⟩:=h;simp only [pure,ag] at h3;subst h3
  cases i with
  |zero=>simp [U]
  |succ i=>simpa using DZ Z i
theorem QF {α β:Type} {f:α->Option β}: ∀{l:List α} {r:List β},r.length=l.length->(∀i:Nat,r[i]?=(l[i]?).bind f)->l.mapM f=some r
 |[],r,h,_=>by simp at h; subst h; simp
 |x::xs,[],h,_=>by simp at h
 |x::xs,y::ys,h,Z=>by have h0:=Z 0;simp at h0;have ih:=QF (l:=xs) (r:=ys) (by simpa using h) (fun i=>by simpa using Z (i+1));simp [anf,h0.symm,ih]
theorem BR {α β:Type} {f:α->Option β}: ∀{l:List α} {r:List β},l.mapM f=some r->r.length=l.length
 |[],r,h=>by simp at h; subst h; simp
 |x::xs,r,h=>by simp only [anf,anG,anm] at h;obtain⟨y,U,ys,Z,h3⟩:=h;simp only [pure,ag] at h3;subst h3;simp [BR Z]
theorem OW {tt:TT} (cJ:eB P tt) {t:Nat} {parts:List (Nat×W)} {ps:Array (Nat×Value)} {v:W} (hp:tQ E w.heap parts ps.toList) (h:JB tt t parts=some v) :
 ∃x,(Instr.build t ps).run P w= .ok x w/\VR E w.heap v x:=by
 unfold JB at h;split at h
 ·rename_i i hi;have fN:=cJ t i hi;obtain⟨inf,z,g1,g2,g3,g4,g5⟩:=wz fN;have hz:=eV (E:=E) (h:=w.heap) g5;split at h
  ·rename_i fs hk;rw [aO] at h;obtain⟨lE,U,rfl⟩:=h;obtain⟨gw,e1,e2,e3⟩:=pU U hz.1 hp hz.2;obtain⟨lR,hu,hm⟩:=sI fN hk
   have hb:P.built t ps.toList=some gw:=by
    unfold Program.built
    have hm2:(lR.toList.mapM fun f=>(P.info? f.type).map fun i=>(f.offset,i.size))=some (fs.map fun x=>(x.1,x.2.2)):=by
     refine QF (by simp [BR hm]) fun i=>?_;have:=DZ hm i;rw [bp,this]
     cases lR.toList[i]? with
     |none=>rfl
     |some f=>simp only [Option.bind_some,Option.map_map]; rfl
    simp only [g1,hu,g4,hm2];simp_all [e1,dg]
   exact⟨_,run_build w t ps gw hb,by simp only [VR]; exact⟨gw.toList,ad,e2⟩⟩
  ·rename_i n e hk;split at h
   ·rename_i s hs;rw [aO] at h;obtain⟨lE,U,rfl⟩:=h;obtain⟨gw,e1,e2,e3⟩:=pU U hz.1 hp hz.2;simp only [iz,aO] at hs;obtain⟨ie,kO,rfl⟩:=hs;obtain⟨amp,z',f1,f2,f3,f4,f5⟩:=wz (cJ e ie kO)
    have hb:P.built t ps.toList=some gw:=by unfold Program.built;simp only [g1,rK fN hk,g4,f1];simp_all
    exact⟨_,run_build w t ps gw hb,by simp only [VR]; exact⟨gw.toList,ad,e2⟩⟩
   grind
  grind
 grind
theorem BG {α:Type} (l:List α) (Y:l≠[]): ∀(n i:Nat),i<n*l.length->(dS l n)[i]?=l[i % l.length]?
 |0,i,h=>by simp at h
 |n+1,i,h=>by
  have jU:0<l.length:=amV.2 Y;simp only [dS];rw [aoc];split
  ·rename_i Z; rw [amY Z]
  ·rename_i Z;rw [BG l Y n (i-l.length) (by rw [amM] at h; omega)];congr 1;rw [<- Nat.mod_eq_sub_mod J]
theorem iT {α:Type} (l:List α): ∀n,(dS l n).length=n*l.length
 |0=>by simp [dS]
 |n+1=>by simp [dS,iT l n,amM]; omega
theorem lY {h:Array Obj} {cs:List W} {us:List Value} (hv:cw E h cs us): ∀n,cw E h (dS cs n) (dS us n)
 |0=>by simp [dS,cw]
 |n+1=>hv.append (lY hv n)
theorem lX {α:Type} {l:List α} {x:α}: ∀{n},x∈dS l n->x∈l
 |0,h=>by simp [dS] at h
 |n+1,h=>by
  simp only [dS,amC] at h;rcases h with h|h
  ·exact h
  ·exact lX h
theorem uJ (z:Array Value) (hz:z.toList≠[]) (n:Nat):((Array.range (n*z.size)).map (z[·% z.size]!)).toList=dS z.toList n:=by
 apply anF;intro i
 grind [BG,iT]
theorem Cq [bG] {tt:TT} (cJ:eB P tt) {H H':Hp} (r:bN E H w) {t len:Nat} {parts:List (Nat×W)} {ps:Array (Nat×Value)} {v:W} (hp:tQ E w.heap parts ps.toList) (h:tB tt t len parts H=some (v,H')) :
 ∃x w' E',(Instr.buildSlice t len ps).run P w= .ok x w'/\eS E H w E' H' w'/\bN E' H' w'/\VR E' w'.heap v x:=by
 unfold tB at h;split at h
 ·rename_i i hi;have fN:=cJ t i hi;split at h
  ·rename_i e hk;split at h
   ·rename_i ie kO;have XX:=cJ e ie kO;obtain⟨inf,z,g1,g2,g3,g4,g5⟩:=wz XX;have hz:=eV (E:=E) (h:=w.heap) g5;split at h
    ·rename_i hb;split at h
     ·rename_i cs U;simp only [ag,ak] at h;obtain⟨rfl,rfl⟩:=h
      have gT:len*ie.size<=2 ^ 24:=by have:len*ie.size<=1000*1000:=aod hb.1 hb.2.1;omega
      have wA:z.cells.size=ie.size:=by have:=hz.1.length; simp only [bn] at this; omega
      have key: ∃gw:Array Value,Instr.fill (fun i=>some (i*inf.size,inf.size)) ((Array.range (len*inf.size)).map ((if len*inf.size=0 then #[] else z.cells)[·% (if len*inf.size=0 then #[] else z.cells).size]!)) ps.toList=some gw/\cw E w.heap cs gw.toList/\∀u∈gw.toList,u.oneCell'=true:=by
       rw [g2];by_cases h0:len*ie.size=0
       ·rw [ah h0,h0]
        have aeJ:dS ie.zero len= []:=by
         grind [iT]
        refine pU U ?_ hp ?_
        all_goals grind [cw]
       ·rw [af h0]
        have gn:z.cells.toList≠[]:=by
         intro hx;have I1:z.cells.size=0:=by have:=congrArg List.length hx; simpa using this
         grind
        have hzz:=uJ z.cells gn len;rw [wA] at hzz;refine pU U ?_ hp ?_
        all_goals grind [lY,lX]
      obtain⟨gw,e1,e2,e3⟩:=key;refine⟨.slice (some ⟨w.heap.size,0,none⟩) len len,{ w with heap:=w.heap.push (.cells gw e) },E.ext H.fresh (w.heap.size,0) gw.size,?_,?_⟩
      ·by_cases h0:len*inf.size=0
       ·rw [ah h0] at e1;rw [h0] at e1;have e0: ∀f:Nat->Value,(Array.range 0).map f= #[]:=by intro f; simp
        rw [e0] at e1;simp [Instr.buildSlice,run_underlying (ff fN hk),sizeOf,typeInfo,g1,h0,e0,e1,newRow]
       ·rw [af h0] at e1;have h24: ¬(2 ^ 24<len*inf.size):=by rw [g2]; omega
        simp only [Instr.buildSlice,Sem.run_bind,run_underlying (ff fN hk),Result.andThen_ok,sizeOf,typeInfo,zeroValue,run_program,g1,g4,Sem.run_pure,newRow,gt_iff_lt,h24,h0,if_false,Sem.run_ite];rw [e1];rfl
      ·obtain⟨s1,s2⟩:=iN r gw 0 0 e e2 e3 (fun i u hu=>by rw [<- amD]; exact hu) J (w':={ w with heap:=w.heap.push (.cells gw e) }) rfl ⟨rfl,rfl,rfl⟩;refine⟨s1,s2,?_⟩;simp only [VR]
       grind [En.gB,eC,En.ext_θ_new]
     grind
    grind
   grind
  grind
 grind
theorem GU {E:En} {h:Array Obj} {v:W} {u:Value} {n:Int} (hv:VR E h v u) (Y:j8 v=some n): ∃k,u= .int k n:=by
 unfold j8 at Y;split at Y
 ·simp only [ag] at Y;subst Y;simp only [VR,V.den] at hv
  grind
 grind
theorem vA [bG] {tt:TT} (cJ:eB P tt) {H H':Hp} (r:bN E H w) {t:Nat} {l c:W} {lu cu:Value} {v:W} (Y:VR E w.heap l lu) (hc:VR E w.heap c cu) (h:qS tt t l c H=some (v,H')) :
 ∃x w' E',(Instr.makeSlice t lu cu).run P w= .ok x w'/\eS E H w E' H' w'/\bN E' H' w'/\VR E' w'.heap v x:=by
 unfold qS at h;split at h
 ·rename_i n Om;split at h
  ·rename_i m hcm;obtain⟨k1,rfl⟩:=GU Y Om;obtain⟨k2,rfl⟩:=GU hc hcm;split at h
   ·rename_i i hi;have fN:=cJ t i hi;split at h
    ·rename_i e hk;split at h
     ·rename_i ie kO;have XX:=cJ e ie kO;obtain⟨inf,z,g1,g2,g3,g4,g5⟩:=wz XX;have hz:=eV (E:=E) (h:=w.heap) g5;split at h
      ·rename_i hb;obtain⟨b1,b2,b3,b4,b5⟩:=hb;simp only [ag,ak] at h;obtain⟨rfl,rfl⟩:=h;have wA:z.cells.size=ie.size:=by have:=hz.1.length; simp only [bn] at this; omega
       have wn:IntKind.i64.wrap (Int.ofNat n)=Int.ofNat n:=by rw [<- kq]; simp only [sj]; rw [ah (by constructor<;>simp<;>omega)]
       have wm:IntKind.i64.wrap (Int.ofNat m)=Int.ofNat m:=by rw [<- kq]; simp only [sj]; rw [ah (by constructor<;>simp<;>omega)]
       have Ek:inf.bytes*m<=1000000000:=by rw [g3]; exact aod b4 b2
       have ai: ∀(k:IntKind) (x:Int) (w:World),(asInt (Value.int k x)).run P w= .ok x w:=fun _ _ _=>rfl
       have key: ∃gw:Array Value,((Array.range (m*inf.size)).map ((if m*inf.size=0 then #[] else z.cells)[·% (if m*inf.size=0 then #[] else z.cells).size]!))=gw/\cw E w.heap (dS ie.zero m) gw.toList/\∀u∈gw.toList,u.oneCell'=true:=by
        rw [g2];by_cases h0:m*ie.size=0
        ·grind [dS,iT,cw]
        ·rw [af h0]
         have gn:z.cells.toList≠[]:=by
          intro hx;have I1:z.cells.size=0:=by have:=congrArg List.length hx; simpa using this
          grind
         grind [uJ,lY,lX]
       obtain⟨gw,e1,e2,e3⟩:=key;refine⟨.slice (some ⟨w.heap.size,0,none⟩) n m,{ w with heap:=w.heap.push (.cells gw e) },E.ext H.fresh (w.heap.size,0) gw.size,?_,?_⟩
       ·have t1: ¬(Int.ofNat m<0):=ad
        have t2: ¬((inf.bytes:Int)*Int.ofNat m > 2 ^ 48):=by
         grind
        have t3: ¬(Int.ofNat n<0):=ad
        have t4: ¬(Int.ofNat n > Int.ofNat m):=by simp; omega
        have t5:(askRoom (m*inf.bytes)).run P w= .ok () w:=by simp_all
        have t6:(Int.ofNat m).toNat=m:=rfl;have t7:(Int.ofNat n).toNat=n:=rfl;by_cases h0:m*inf.size=0
        ·rw [ah h0] at e1;rw [h0] at e1;simp only [Instr.makeSlice,Sem.run_bind,run_underlying (ff fN hk),Result.andThen_ok,ai,sizeOf,typeInfo,zeroValue,run_program,g1,g4,Sem.run_pure,newRow,Sem.run_ite,wn,wm,t1,t2,t3,t4,t6,t7,h0,decide_false,anU,aQ,if_false,if_true];simp_all
        ·rw [af h0] at e1;simp only [Instr.makeSlice,Sem.run_bind,run_underlying (ff fN hk),Result.andThen_ok,ai,sizeOf,typeInfo,zeroValue,run_program,g1,g4,Sem.run_pure,newRow,Sem.run_ite,wn,wm,t1,t2,t3,t4,t6,t7,h0,decide_false,anU,aQ,if_false];simp_all
       ·obtain⟨s1,s2⟩:=iN r gw 0 0 e e2 e3 (fun i u hu=>by rw [<- amD]; exact hu) J (w':={ w with heap:=w.heap.push (.cells gw e) }) rfl ⟨rfl,rfl,rfl⟩;refine⟨s1,s2,?_⟩;simp only [VR];exact⟨En.gB _ _ _ _,⟨w.heap.size,0,none⟩,m,rfl,b1,by simp [eC,En.ext_θ_new]⟩
      grind
     grind
    grind
   grind
  grind
 grind
end
section
variable {P:Program} {E:En} {w:World}
theorem KO {i:TI} {t:Nat} (fN:mf P t i) {fs:List (Nat×Nat×Nat)} (hk:i.kind= .struct fs) {f off ft sz:Nat} (h:eX fs f=some (off,ft,sz)) :
 ∃(lR:Array Field) (fd:Field) (inf:TypeInfo),P.underlying t=some (.struct lR)/\lR[f]?=some fd/\fd.offset=off/\fd.type=ft/\P.info? ft=some inf/\inf.size=sz:=by
 obtain⟨lR,hu,hm⟩:=sI fN hk;have U:=DZ hm f;rw [<- dg,h,amD] at U
 cases hf:lR[f]? with
 |none=>rw [hf] at U; simp at U
 |some fd=>
  rw [hf] at U;simp only [Option.bind_some] at U
  cases hi:P.info? fd.type with
  |none=>rw [hi] at U; simp at U
  |some inf=>
   grind
theorem Gu {x v:W} {u:Value} {off:Nat} (hx:VR E w.heap x u) (h:QD off x=some v) :
 ∃b o,u= .pointer (some ⟨b,o,none⟩)/\VR E w.heap v (.pointer (some ⟨b,o+off,none⟩)):=by
 unfold QD at h;cases x<;>simp only [ag,reduceCtorEq,aO] at h
 case ptr id o=>
  subst h;simp only [VR] at hx ⊢;obtain⟨rfl,hid⟩:=hx;exact⟨_,_,rfl,by rw [amF],hid⟩
 case yu id es i o=>
  subst h;simp only [VR] at hx ⊢;obtain⟨hid,k,U,rfl⟩:=hx;exact⟨_,_,rfl,hid,k,U,by rw [amF,amF]⟩
 case mJ cs=>
  obtain⟨l,U,rfl⟩:=h;simp only [VR] at hx ⊢;obtain⟨b,o,us,rfl,Z,h3,h4,h5⟩:=hx;exact⟨b,o,rfl,b,o+off,us.drop off,rfl,Z,(h3.eE U).1,h4.drop off,fun u hu=>h5 u (bw hu)⟩
theorem EL {tt:TT} (cJ:eB P tt) {t f:Nat} {x v:W} {u:Value} (hx:VR E w.heap x u) (h:vC tt t x f=some v) :
 ∃r,(Instr.fieldAt t u f).run P w= .ok r w/\VR E w.heap v r:=by
 unfold vC at h;split at h
 ·rename_i i hi;split at h
  ·rename_i fs hk;split at h
   ·rename_i off ft sz hn;obtain⟨lR,fd,inf,hu,hf,U,Z,h3,h4⟩:=KO (cJ t i hi) hk hn;split at h
    ·grind
    ·rename_i gT;obtain⟨b,o,rfl,hv⟩:=Gu hx h;refine⟨_,?_,hv⟩;have gn: ¬inf.size=0:=by rw [h4]; exact gT
     simp [Instr.fieldAt,run_underlying hu,hf,Instr.sureAddr,fieldPlace,sizeOf,typeInfo,Z,h3,gn,e8,U]
   grind
  grind
 grind
theorem P8 {i:TI} {t:Nat} (fN:mf P t i) {cs l:List W} {us:List Value} {off:Nat} {v:W} (hv:cw E w.heap cs us) (hd:eE off cs=some l)
 (h:partOf i l=some v) :
 ∃r,(part t us.toArray off).run P w= .ok r w/\VR E w.heap v r:=by
 obtain⟨U,Z,h3⟩:=hv.eE hd;have hlen:=hv.length;unfold partOf at h;split at h
 ·rename_i Ot;rw [aO] at h;obtain⟨l',h4,rfl⟩:=h;obtain⟨h5,h6⟩:=U.iy h4;refine⟨.agg (us.toArray.extract off (off+i.size)),?_,?_⟩
  ·simp [part,kN fN,Ot,ez fN]
  ·simp only [VR]
   grind
 ·rename_i Ot;split at h
  ·rename_i x l';simp at h;subst h;rw [bO] at U;obtain⟨u,vs,he,h5,_⟩:=U;refine⟨u,?_,h5⟩
   have hg:us[off]?=some u:=by
    have:=congrArg (·[0]?) he
    grind
   simp [part,kN fN,Ot,hg]
  grind
theorem ON {tt:TT} (cJ:eB P tt) {t f:Nat} {x v:W} {u:Value} (hx:VR E w.heap x u) (h:Jt tt t x f=some v) :
 ∃r,(Instr.field t u f).run P w= .ok r w/\VR E w.heap v r:=by
 unfold Jt at h;split at h
 ·rename_i i hi;split at h
  ·rename_i fs hk;split at h
   ·rename_i off ft sz hn;obtain⟨lR,fd,inf,hu,hf,U,Z,h3,h4⟩:=KO (cJ t i hi) hk hn;split at h
    ·rename_i fi cs hfi;split at h
     ·rename_i l Y;simp only [VR] at hx;obtain⟨us,rfl,hv⟩:=hx;obtain⟨r,e1,e2⟩:=P8 (w:=w) (cJ ft fi hfi) hv Y h;refine⟨r,?_,e2⟩;simp [Instr.field,run_underlying hu,hf,asAgg,U,Z,e1]
     grind
    grind
   grind
  grind
 grind
theorem AZ {x:W} {u:Value} {n:Int} (hx:VR E w.heap x u) (h:j8 x=some n): ∃k,u= .int k n:=by
 cases x<;>simp [j8] at h;rename_i k e;cases e<;>simp at h;subst h;simp only [VR,V.den] at hx
 grind
theorem pV {tt:TT} (cJ:eB P tt) {t:Nat} {x ix v:W} {u ui:Value} (hx:VR E w.heap x u) (zy:VR E w.heap ix ui) (h:nX tt t x ix=some v) :
 ∃r,(Instr.indexAt t u ui).run P w= .ok r w/\VR E w.heap v r:=by
 unfold nX at h;split at h
 ·rename_i i hi;obtain⟨k,rfl⟩:=AZ zy hi;split at h
  ·rename_i ti fN;have vb:=cJ t ti fN;split at h
   ·rename_i n e hk;split at h
    ·rename_i fD;split at h
     ·rename_i s hs;simp only [iz,aO] at hs;obtain⟨ie,kO,rfl⟩:=hs;obtain⟨b,o,rfl,hv⟩:=Gu hx h;refine⟨_,?_,hv⟩;have hu:=rK vb hk;simp [Instr.indexAt,asIntOf,run_underlying hu,Instr.sureAddr,ez (cJ e ie kO),fD,e8]
     grind
    grind
   ·rename_i e hk;have hu:=ff vb hk;split at h
    ·rename_i s hs;simp only [iz,aO] at hs;obtain⟨ie,kO,rfl⟩:=hs;split at h
     ·rename_i id o len c;split at h
      ·rename_i fD;simp at h;subst h;simp only [VR] at hx;obtain⟨hid,a,cap,rfl,fV,hc⟩:=hx
       have ha:a=⟨(E.θ id).1,(E.θ id).2+o,none⟩:=by
        cases c with
        |exact c=>
         simp only [eC] at hc
         grind
        |rest es=>
         simp only [eC] at hc
         grind
       subst ha;refine⟨.pointer (some ⟨(E.θ id).1,(E.θ id).2+o+i*ie.size,none⟩),?_,by simp only [VR]; exact⟨by rw [amF],hid⟩⟩;simp [Instr.indexAt,asIntOf,run_underlying hu,ez (cJ e ie kO),fD,e8]
      grind
     ·rename_i cs n full;split at h
      ·rename_i fD;rw [aO] at h;obtain⟨l,U,rfl⟩:=h;simp only [VR] at hx;obtain⟨b,o,cap,us,rfl,Z,h3,h4,h5,h6,h7⟩:=hx;refine⟨.pointer (some ⟨b,o+i*ie.size,none⟩),?_,?_⟩
       ·simp [Instr.indexAt,asIntOf,run_underlying hu,ez (cJ e ie kO),fD,e8]
       ·simp only [VR];exact⟨b,_,us.drop (i*ie.size),rfl,h4,(h5.eE U).1,h6.drop _,fun u hu=>h7 u (bw hu)⟩
      grind
     grind
    grind
   grind
  grind
 grind
theorem Du (s:List Nat) (i:Nat):(df s)[i]?=(s[i]?).map UInt8.ofNat:=by have U:(df s)[i]?=(df s).data[i]?:=rfl;rw [U];simp [df]
theorem yh {tt:TT} (cJ:eB P tt) {t:Nat} {x ix v:W} {u ui:Value} (hx:VR E w.heap x u) (zy:VR E w.heap ix ui) (h:zX tt t x ix=some v) :
 ∃r,(Instr.index t u ui).run P w= .ok r w/\VR E w.heap v r:=by
 unfold zX at h;split at h
 ·rename_i i hi;obtain⟨k,rfl⟩:=AZ zy hi;split at h
  ·rename_i ti fN;have vb:=cJ t ti fN;split at h
   ·rename_i s hk;rw [aO] at h;obtain⟨b,hb,rfl⟩:=h;simp only [VR] at hx;obtain⟨rfl,fD⟩:=hx;rw [dg] at hb;have hg:(df s)[i]?=some (UInt8.ofNat b):=by rw [Du,hb]; rfl
    have alJ:=fD b (amE hb);refine⟨_,by simp [Instr.index,asIntOf,run_underlying (fJ vb hk),hg]; rfl,?_⟩;simp only [VR,V.den]
    grind
   ·rename_i n e cs hk;split at h
    ·rename_i fD;split at h
     ·rename_i ie kO;split at h
      ·rename_i l Y;simp only [VR] at hx;obtain⟨us,rfl,hv⟩:=hx;obtain⟨r,e1,e2⟩:=P8 (w:=w) (cJ e ie kO) hv Y h;refine⟨r,?_,e2⟩;simp [Instr.index,asIntOf,run_underlying (rK vb hk),fD,ez (cJ e ie kO),e1]
      grind
     grind
    grind
   grind
  grind
 grind
end
section
variable {P:Program} {E:En} {w:World}
def gp (E:En) (h:Array Obj):Option W->Option Value->Prop
 |none,o=>o=none
 |some x,o=> ∃u,o=some u/\VR E h x u
theorem eA {s:St} {a:Act} (sr:SR E w.heap s.bE a) {x:Option Operand} {v:Option W} (h:Hu s x=some v):gp E w.heap v (x.map a.eval):=by
 cases x with
 |none=>simp [Hu] at h; subst h; simp [gp]
 |some x=> simp only [Hu,aO] at h;obtain⟨b,U,rfl⟩:=h;exact⟨_,rfl,gf sr U⟩
theorem Aj {x:W} {u:Value} {d y k:Nat} (hx:VR E w.heap x u) (h:nD (some x) d y=some k) {y':Nat} (hy:y<=y') (code:BoundsCode) :
 (Instr.sliceBound u y' code).run P w= .ok k w/\k<=y:=by
 unfold nD at h;simp only at h;split at h
 ·rename_i i hi;obtain⟨kk,rfl⟩:=AZ hx hi;split at h
  ·rename_i hle;simp at h;subst h;refine⟨?_,hle⟩;have:((i:Int)<=(y':Int)):=J
   simp [Instr.sliceBound,asIntOf];omega
  grind
 grind
theorem Ak {d y k:Nat} (h:nD none d y=some k):k=d/\d<=y:=by
 grind [nD]
theorem fS {isSlice:Bool} {len cap m0 h0:Nat} {lo hi mx:Option W} {yo hi' mx':Option Value} (mH:gp E w.heap lo yo) (yq:gp E w.heap hi hi') (xZ:gp E w.heap mx mx')
 (hmh:mx.isSome=true->hi.isSome=true) {m h l d:Nat}
 (hm:(mx=none/\m=cap/\m0<=cap)\/(∃x,mx=some x/\nD mx d m0=some m/\m0<=cap))
 (hh:nD hi len h0=some h) (hh0:(mx=none->h0<=cap)/\(mx≠none->h0=m)) (Y:nD lo 0 h=some l) :
 (Instr.sliceBounds isSlice len cap yo hi' mx').run P w= .ok (l,h,m) w/\l<=h:=by
 have key: ∀(c:BoundsCode) (v:W) (u:Value),lo=some v->VR E w.heap v u->(Instr.sliceBound u h c).run P w= .ok l w/\l<=h:=by intro c v u hv hu;subst hv;exact Aj hu Y (au _) c
 have amn:lo=none->l=0:=fun hv=>by subst hv; exact (Ak Y).1
 unfold Instr.sliceBounds;rcases hm with ⟨rfl,rfl,hm0⟩|⟨x,rfl,hm1,hm0⟩
 ·simp only [gp] at xZ;subst xZ;have hb:=hh0.1 rfl
  cases hi with
  |none=>
   simp only [gp] at yq;subst yq;obtain⟨rfl,_⟩:=Ak hh
   cases lo with
   |none=> simp only [gp] at mH;simp_all
   |some v=> obtain⟨u,rfl,hu⟩:=mH;obtain⟨k1,k2⟩:=key .sliceB v u rfl hu;simp_all
  |some y=>
   obtain⟨uy,rfl,huy⟩:=yq;have U:=fun c=>(Aj (P:=P) huy hh hb c).1
   cases lo with
   |none=> simp only [gp] at mH;simp_all
   |some v=> obtain⟨u,rfl,hu⟩:=mH;obtain⟨k1,k2⟩:=key .sliceB v u rfl hu;simp_all
 ·obtain⟨ux,rfl,hux⟩:=xZ;have Z:=fun c=>(Aj (P:=P) hux hm1 hm0 c).1;have hb:=hh0.2 ad;subst hb
  cases hi with
  |none=>simp at hmh
  |some y=>
   obtain⟨uy,rfl,huy⟩:=yq;have U:=fun c=>(Aj (P:=P) huy hh (au _) c).1
   cases lo with
   |none=> simp only [gp] at mH;simp_all
   |some v=> obtain⟨u,rfl,hu⟩:=mH;obtain⟨k1,k2⟩:=key .slice3C v u rfl hu;simp_all
theorem sL (s:List Nat) (l h:Nat):(df s).extract l h=df ((s.take h).drop l):=by apply ByteArray.ext;apply Array.ext';rw [Lib.extract_data];simp [df,aoe,aof,List.drop_take]
theorem qa {id o len cap l h m es:Nat} {a:Addr} {c c':MN} (hc:eC E id o len a cap c) (hlen:len<=cap) (hlh:l<=h) (hhm:h<=m) (hmc:m<=cap)
 (UZ:(∃k,c= .exact k/\c'= .exact (m-l))\/(c= .rest es/\c'= .exact (m-l))\/(c= .rest es/\c'= .rest es/\m=cap)) (s:Nat) (lq:c'= .rest es->es=s) :
 eC E id (o+l*s) (h-l) (if m=l then a else a.add (l*s)) (m-l) c':=by
 rcases UZ with ⟨k,rfl,rfl⟩|⟨rfl,rfl⟩|⟨rfl,rfl,rfl⟩
 ·simp only [eC] at *;refine⟨trivial,?_⟩;by_cases UY:m=l
  ·grind
  ·left
   grind [e8]
 ·simp only [eC] at *;refine⟨trivial,?_⟩;by_cases UY:m=l
  ·grind
  ·left
   grind [e8]
 ·simp only [eC] at *;obtain rfl:=lq trivial;by_cases UY:m=l
  ·grind
  ·left;rw [af UY];rcases hc with ha|ha
   ·refine⟨by rw [ha.1,e8,amF],?_⟩;rw [<- ha.2,amF,<- amM]
    grind
   ·omega
theorem lr {x:Option W} {d y k:Nat} (h:nD x d y=some k):k<=y:=by
 unfold nD at h;split at h
 ·grind
 ·split at h
  all_goals grind
theorem L2 [bG] {tt:TT} (cJ:eB P tt) {H:Hp} (r:bN E H w) {t:Nat} {x v:W} {u:Value} {lo hi mx:Option W} {yo hi' mx':Option Value} (hx:VR E w.heap x u)
 (mH:gp E w.heap lo yo) (yq:gp E w.heap hi hi') (xZ:gp E w.heap mx mx') (h:EH tt t x lo hi mx H=some v) :
 ∃r,(Instr.sliceAt t u yo hi' mx').run P w= .ok r w/\VR E w.heap v r:=by
 unfold EH at h;split at h
 ·grind
 ·split at h
  ·grind
  ·rename_i ti fN;have vb:=cJ t ti fN;split at h
   ·rename_i e hk;have hu:=ff vb hk;split at h
    ·grind
    ·rename_i s hs;simp only [iz,aO] at hs;obtain⟨ie,kO,rfl⟩:=hs;have gT:=ez (w:=w) (cJ e ie kO);split at h
     ·rename_i id o len es;split at h
      ·rename_i lq;split at h
       ·rename_i cs ty Y;split at h
        ·grind
        ·rename_i b Au;split at h
         ·grind
         ·rename_i l ni;simp at h;subst h;obtain⟨lq,jU⟩:=lq;subst lq;simp only [VR] at hx;obtain⟨hid,a,cap,rfl,hlen,hc⟩:=hx;have zu:=(r.live id _ Y).2.1;simp only [OR] at zu;obtain⟨arr,lo1,hi1,us,q1,q2,q3,q4,q5,q6,q7⟩:=zu
          have fV:(cs.length-o) / ie.size<=cap:=by
           simp only [eC] at hc;rcases hc with hc|hc
           ·have:cs.length-o<=cap*ie.size:=J
            exact Nat.div_le_of_le_mul (by rw [an9]; exact this)
           simp_all
          obtain⟨e1,e2⟩:=fS (P:=P) (w:=w) (isSlice:=true) (len:=len) (cap:=cap) (m0:=cap) (d:=0) (m:=cap) mH yq xZ ad (.inl ⟨rfl,rfl,au _⟩) Au ⟨fun _=>fV,ad⟩ ni;have aeV:=lr Au;refine⟨.slice (some (if cap=l then a else a.add (l*ie.size))) (b-l) (cap-l),?_,?_⟩
          ·simp [Instr.sliceAt,run_underlying hu,Instr.slice,e1,gT]<;>split<;>rfl
          ·simp only [VR];exact⟨hid,_,_,rfl,J,qa (es:=ie.size) hc hlen e2 J (au _) (.inr (.inr ⟨rfl,rfl,rfl⟩)) _ (fun _=>rfl)⟩
       grind
      grind
     grind
   grind
theorem yf {tt:TT} (cJ:eB P tt) {t:Nat} {x v:W} {u:Value} {lo hi mx:Option W} {yo hi' mx':Option Value} (hx:VR E w.heap x u)
 (mH:gp E w.heap lo yo) (yq:gp E w.heap hi hi') (xZ:gp E w.heap mx mx') (h:zP tt t x lo hi mx=some v) :
 ∃r,(Instr.sliceAt t u yo hi' mx').run P w= .ok r w/\VR E w.heap v r:=by
 unfold zP at h;split at h
 ·grind
 ·rename_i ti fN;have vb:=cJ t ti fN;split at h
  ·rename_i hk;have hu:=fJ vb hk;split at h
   ·rename_i s;simp only [gp] at xZ;subst xZ;split at h
    ·rename_i b hb;split at h
     ·rename_i l Y;simp at h;subst h;simp only [VR] at hx;obtain⟨rfl,fD⟩:=hx;obtain⟨e1,e2⟩:=fS (P:=P) (w:=w) (isSlice:=false) (len:=s.length) (cap:=s.length) (m0:=s.length) (d:=0) mH yq (mx:=none) (mx':=none) rfl ad (.inl ⟨rfl,rfl,au _⟩) hb ⟨fun _=>au _,ad⟩ Y;refine⟨.string ((df s).extract l b),?_,?_⟩
      ·rw [<- kH] at e1;simp [Instr.sliceAt,run_underlying hu,Instr.slice,e1]
      ·simp only [VR,sL]
       grind
     grind
    grind
   grind
  ·rename_i e hk;have hu:=ff vb hk;split at h
   ·grind
   ·rename_i s hs;simp only [iz,aO] at hs;obtain⟨ie,kO,rfl⟩:=hs;have gT:=fun w'=>ez (cJ e ie kO) w';split at h
    ·split at h
     ·grind
     ·rename_i hmh;split at h
      ·rename_i kh kl km Au ni Ek;simp at h;subst h;simp only [VR] at hx;subst hx;obtain rfl:kh=0:=by have:=lr Au; omega
       obtain rfl:kl=0:=by have:=lr ni; omega
       obtain rfl:km=0:=by have:=lr Ek; omega
       have hm:(mx=none/\0=0/\0<=0)\/(∃x,mx=some x/\nD mx 0 0=some 0/\0<=0):=by
        cases mx with
        |none=>exact .inl ⟨rfl,rfl,au _⟩
        |some y=>exact .inr ⟨y,rfl,Ek,au _⟩
       obtain⟨e1,e2⟩:=fS (P:=P) (w:=w) (isSlice:=true) (len:=0) (cap:=0) (m0:=0) (d:=0) (m:=0) mH yq xZ (by cases mx<;>cases hi<;>simp_all) hm Au ⟨fun _=>au _,fun _=>rfl⟩ ni;refine⟨.slice none 0 0,?_,by simp only [VR]⟩;simp [Instr.sliceAt,run_underlying hu,Instr.slice,e1,gT]
      grind
    ·rename_i id o len c;split at h
     ·grind
     ·rename_i hmh;split at h
      ·grind
      ·rename_i m Ek;split at h
       ·grind
       ·rename_i b Au;split at h
        ·grind
        ·rename_i l ni;simp at h;subst h;simp only [VR] at hx;obtain⟨hid,a,cap,rfl,hlen,hc⟩:=hx;have fV:cap=c:=by simp only [eC] at hc; exact hc.1
         subst fV
         have hm:(mx=none/\m=cap/\cap<=cap)\/(∃x,mx=some x/\nD mx cap cap=some m/\cap<=cap):=by
          cases mx with
          |none=>exact .inl ⟨rfl,(Ak Ek).1,au _⟩
          |some y=>exact .inr ⟨y,rfl,Ek,au _⟩
         obtain⟨e1,e2⟩:=fS (P:=P) (w:=w) (isSlice:=true) (len:=len) (cap:=cap) (m0:=cap) (d:=cap) (m:=m) mH yq xZ (by cases mx<;>cases hi<;>simp_all) hm Au ⟨fun _=>lr Ek,fun _=>rfl⟩ ni;refine⟨.slice (some (if m=l then a else a.add (l*ie.size))) (b-l) (m-l),?_,?_⟩
         ·simp [Instr.sliceAt,run_underlying hu,Instr.slice,e1,gT]<;>split<;>rfl
         ·simp only [VR];exact⟨hid,_,_,rfl,by have:=lr Au; omega,qa (es:=0) hc hlen e2 (lr Au) (lr Ek) (.inl ⟨_,rfl,rfl⟩) _ ad⟩
    ·rename_i id o len es;split at h
     ·split at h
      ·grind
      ·rename_i b Au;split at h
       ·grind
       ·rename_i l ni;split at h
        ·rename_i lq;simp at h;subst h;simp only [VR] at hx;obtain⟨hid,a,cap,rfl,hlen,hc⟩:=hx;obtain⟨e1,e2⟩:=fS (P:=P) (w:=w) (isSlice:=true) (len:=len) (cap:=cap) (m0:=cap) (d:=0) (m:=cap) mH yq xZ ad (.inl ⟨rfl,rfl,au _⟩) Au ⟨fun _=>hlen,ad⟩ ni;have aeV:=lr Au;refine⟨.slice (some (if cap=l then a else a.add (l*ie.size))) (b-l) (cap-l),?_,?_⟩
         ·simp [Instr.sliceAt,run_underlying hu,Instr.slice,e1,gT]<;>split<;>rfl
         ·simp only [VR];exact⟨hid,_,_,rfl,J,qa (es:=es) hc hlen e2 J (au _) (.inr (.inr ⟨rfl,rfl,rfl⟩)) _ (fun _=>lq)⟩
        grind
     ·rename_i y;split at h
      ·grind
      ·grind
      ·rename_i b0 m Ek;split at h
       ·grind
       ·rename_i b Au;split at h
        ·grind
        ·rename_i l ni;simp at h;subst h;simp only [VR] at hx;obtain⟨hid,a,cap,rfl,hlen,hc⟩:=hx;obtain⟨e1,e2⟩:=fS (P:=P) (w:=w) (isSlice:=true) (len:=len) (cap:=cap) (m0:=len) (d:=0) (m:=m) mH yq xZ ad (.inr ⟨y,rfl,Ek,hlen⟩) Au ⟨ad,fun _=>rfl⟩ ni;have LG:=lr Au;have hm2:=lr Ek;refine⟨.slice (some (if m=l then a else a.add (l*ie.size))) (b-l) (m-l),?_,?_⟩
         ·simp [Instr.sliceAt,run_underlying hu,Instr.slice,e1,gT]<;>split<;>rfl
         ·simp only [VR];exact⟨hid,_,_,rfl,J,qa (es:=es) hc hlen e2 LG J (.inr (.inl ⟨rfl,rfl⟩)) _ ad⟩
    ·rename_i cs n full;split at h
     ·split at h
      ·grind
      ·rename_i b Au;split at h
       ·grind
       ·rename_i l ni;split at h
        ·grind
        ·rename_i d hd;split at h
         ·grind
         ·rename_i d' uI;simp at h;subst h;simp only [VR] at hx;obtain⟨bb,o,cap,us,rfl,hn,G9,h4,h5,h6,h7⟩:=hx;obtain⟨e1,e2⟩:=fS (P:=P) (w:=w) (isSlice:=true) (len:=n) (cap:=cap) (m0:=cap) (d:=0) (m:=cap) mH yq xZ ad (.inl ⟨rfl,rfl,au _⟩) Au ⟨fun _=>hn,ad⟩ ni;have LG:=lr Au;obtain⟨g1,g2,g3⟩:=h5.eE hd;obtain⟨g4,g5⟩:=g1.iy uI;refine⟨.slice (some (if cap=l then⟨bb,o,none⟩ else (⟨bb,o,none⟩ : Addr).add (l*ie.size))) (b-l) (cap-l),?_,?_⟩
          ·simp [Instr.sliceAt,run_underlying hu,Instr.slice,e1,gT]<;>split<;>rfl
          ·simp only [VR];by_cases UY:cap=l
           ·have h0:b-l=0:=J
            refine⟨bb,o,cap-l,(us.drop (l*ie.size)).take ((b-l)*ie.size),by rw [ah UY],J,fun _=>by omega,h4,g4,?_,fun u hu=>h7 u (bw (amG hu))⟩;rw [h0,amH];intro i u hu
            grind
           ·refine⟨bb,o+l*ie.size,cap-l,(us.drop (l*ie.size)).take ((b-l)*ie.size),by rw [af UY,e8],J,?_,h4,g4,(h6.drop _).take _,fun u hu=>h7 u (bw (amG hu))⟩;intro hf
            grind
     ·rename_i y;split at h
      ·grind
      ·grind
      ·rename_i b0 m Ek;split at h
       ·grind
       ·rename_i b Au;split at h
        ·grind
        ·rename_i l ni;split at h
         ·grind
         ·rename_i d hd;split at h
          ·grind
          ·rename_i d' uI;simp at h;subst h;simp only [VR] at hx;obtain⟨bb,o,cap,us,rfl,hn,G9,h4,h5,h6,h7⟩:=hx;obtain⟨e1,e2⟩:=fS (P:=P) (w:=w) (isSlice:=true) (len:=n) (cap:=cap) (m0:=n) (d:=0) (m:=m) mH yq xZ ad (.inr ⟨y,rfl,Ek,hn⟩) Au ⟨ad,fun _=>rfl⟩ ni;have LG:=lr Au;obtain⟨g1,g2,g3⟩:=h5.eE hd;obtain⟨g4,g5⟩:=g1.iy uI;refine⟨.slice (some (if m=l then⟨bb,o,none⟩ else (⟨bb,o,none⟩ : Addr).add (l*ie.size))) (b-l) (m-l),?_,?_⟩
           ·simp [Instr.sliceAt,run_underlying hu,Instr.slice,e1,gT]<;>split<;>rfl
           ·simp only [VR];by_cases UY:m=l
            ·have h0:b-l=0:=J
             refine⟨bb,o,m-l,(us.drop (l*ie.size)).take ((b-l)*ie.size),by rw [ah UY],J,fun _=>by omega,h4,g4,?_,fun u hu=>h7 u (bw (amG hu))⟩;rw [h0,amH];intro i u hu
             grind
            ·refine⟨bb,o+l*ie.size,m-l,(us.drop (l*ie.size)).take ((b-l)*ie.size),by rw [af UY,e8],J,?_,h4,g4,(h6.drop _).take _,fun u hu=>h7 u (bw (amG hu))⟩;intro hf
             grind
    grind
  ·rename_i n e hk;have hu:=rK vb hk;split at h
   ·grind
   ·rename_i s hs;simp only [iz,aO] at hs;obtain⟨ie,kO,rfl⟩:=hs;have gT:=fun w'=>ez (cJ e ie kO) w';split at h
    ·rename_i id o;split at h
     ·grind
     ·rename_i hmh;split at h
      ·grind
      ·rename_i m Ek;split at h
       ·grind
       ·rename_i b Au;split at h
        ·grind
        ·rename_i l ni;simp at h;subst h;simp only [VR] at hx;obtain⟨rfl,hid⟩:=hx
         have hm:(mx=none/\m=n/\n<=n)\/(∃x,mx=some x/\nD mx n n=some m/\n<=n):=by
          cases mx with
          |none=>exact .inl ⟨rfl,(Ak Ek).1,au _⟩
          |some y=>exact .inr ⟨y,rfl,Ek,au _⟩
         obtain⟨e1,e2⟩:=fS (P:=P) (w:=w) (isSlice:=false) (len:=n) (cap:=n) (m0:=n) (d:=n) (m:=m) mH yq xZ (by cases mx<;>cases hi<;>simp_all) hm Au ⟨fun _=>lr Ek,fun _=>rfl⟩ ni;refine⟨.slice (some (if m=l then⟨(E.θ id).1,(E.θ id).2+o,none⟩ else (⟨(E.θ id).1,(E.θ id).2+o,none⟩ : Addr).add (l*ie.size))) (b-l) (m-l),?_,?_⟩
         ·simp [Instr.sliceAt,run_underlying hu,Instr.sureAddr,e1,gT]<;>split<;>rfl
         ·simp only [VR,eC];refine⟨hid,_,_,rfl,by have:=lr Au; omega,rfl,?_⟩;by_cases UY:m=l
          ·grind
          ·left; rw [af UY,e8,amF]
    grind
  grind
end
section
variable {P:Program} {E:En} {w:World}
theorem Ce {h:Array Obj}: ∀{cs:List W} {us:List Value} {l:List Nat},vK cs=some l->cw E h cs us->us=(l.map UInt8.ofNat).map (fun b=>Value.int .u8 (b.toNat:Int))/\∀b∈l,b<256
 |[],us,l,U,Z=>by
  simp [vK] at U;subst U;rw [fP] at Z
  grind
 |x::cs,us,l,U,Z=>by
  rw [bO] at Z;obtain⟨u,vs,rfl,h3,h4⟩:=Z;unfold vK at U;split at U
  ·rename_i he; simp at he
  ·rename_i b xs he;simp only [List.cons.injEq] at he;obtain⟨rfl,rfl⟩:=he;split at U
   ·rename_i hb;split at U
    ·rename_i l' Y;simp at U;subst U;obtain⟨e1,e2⟩:=Ce Y h4;simp only [VR,V.den] at h3;refine⟨?_,?_⟩
     ·rw [h3,e1];simp [am6,amY hb]
     grind
    grind
   grind
  grind
theorem zZ [bG] {tt:TT} (cJ:eB P tt) {H H':Hp} (r:bN E H w) {sT dT:Nat} {x v:W} {u:Value} (hx:VR E w.heap x u) (h:oZ tt sT dT x H=some (v,H')) :
 ∃y w' E',(convert sT dT u).run P w= .ok y w'/\eS E H w E' H' w'/\bN E' H' w'/\VR E' w'.heap v y:=by
 unfold oZ at h;split at h
 ·grind
 ·rename_i j hj;obtain⟨sd,hsd,hsk⟩:=r4 (cJ sT j hj);split at h
  ·rename_i i hi;have fN:=cJ dT i hi;split at h
   ·rename_i k hk;have hd:=oK fN hk;split at h
    ·rename_i kk n;simp only [ag,ak] at h;obtain⟨rfl,rfl⟩:=h;simp only [VR] at hx;subst hx;refine⟨.int k (k.wrap n),w,E,?_,eS.refl _ _ _,r,by simp only [VR,V.den,kq]⟩;simp [convert,run_underlying hsd,run_underlying hd,Conv.intToInt,V.den]
    ·rename_i kk e gn;simp only [ag,ak] at h;obtain⟨rfl,rfl⟩:=h;simp only [VR] at hx;subst hx;refine⟨.int k (k.wrap (e.den E.ρ)),w,E,?_,eS.refl _ _ _,r,by simp only [VR,V.den]⟩;simp [convert,run_underlying hsd,run_underlying hd,Conv.intToInt]
    grind
   ·rename_i hk;have hd:=fJ fN hk;split at h
    ·rename_i hjk;split at h
     ·rename_i s;simp only [ag,ak] at h;obtain⟨rfl,rfl⟩:=h;have I1:=hx;simp only [VR] at hx;obtain⟨rfl,_⟩:=hx;refine⟨_,w,E,?_,eS.refl _ _ _,r,I1⟩;simp [convert,run_underlying (fJ (cJ sT j hj) hjk),run_underlying hd]
     grind
    ·rename_i e hjk;have hs:=ff (cJ sT j hj) hjk;split at h
     ·grind
     ·rename_i ie kO;split at h
      ·rename_i hu8;have he:=oK (cJ e ie kO) hu8.1;split at h
       ·simp only [ag,ak] at h;obtain⟨rfl,rfl⟩:=h;simp only [VR] at hx;subst hx;refine⟨.string .empty,w,E,?_,eS.refl _ _ _,r,?_⟩
        ·rw [run_convert_bytes_string w sT dT e none 0 0 hs he hd];rfl
        ·simp only [VR];exact⟨rfl,ad⟩
       ·rename_i id o len c;split at h
        ·rename_i cs MV;rw [aO] at h;obtain⟨l,Y,he2⟩:=h;simp only [ak] at he2;obtain⟨rfl,rfl⟩:=he2;simp only [VR] at hx;obtain⟨hid,a,cap,rfl,fV,hc⟩:=hx;obtain⟨b,o',us,e1,e2,e3,e4,e5⟩:=v8 r (p:=.ptr id o) (u:=.pointer (some ⟨(E.θ id).1,(E.θ id).2+o,none⟩)) (by simp only [VR]; exact⟨trivial,hid⟩) MV;obtain⟨e6,e7⟩:=Ce Y e3
         have hlen:len=(l.map UInt8.ofNat).length:=by
          grind
         have ha:a=⟨(E.θ id).1,(E.θ id).2+o,none⟩\/len=0:=by
          cases c with
          |exact c=>
           simp only [eC] at hc
           grind
          |rest es=>
           simp only [eC] at hc
           grind
         refine⟨.string (df l),w,E,?_,eS.refl _ _ _,r,by simp only [VR]; exact⟨trivial,e7⟩⟩;rw [hlen];refine run_convert_bytes_back w sT dT e a cap (l.map UInt8.ofNat) hs he hd fun k hk=>?_;rcases ha with ha|ha
         ·subst ha;rw [e8,lF];simp only [Value.pointer.injEq,ag,Addr.mk.injEq] at e1;obtain⟨e1a,e1b,_⟩:=e1;rw [e1a,e1b];refine e4 k _ ?_
          grind
         ·omega
        grind
       grind
      grind
    grind
   ·rename_i e hk;have hd:=ff fN hk;split at h
    ·grind
    ·rename_i ie kO;split at h
     ·rename_i hu8;have he:=oK (cJ e ie kO) hu8.1;split at h
      ·rename_i s;simp only [ag,ak] at h;obtain⟨rfl,rfl⟩:=h;simp only [VR] at hx;obtain⟨rfl,fD⟩:=hx;have hs:=fJ (cJ sT j hj) hu8.2;have gT:(df s).size=s.length:=kH s;have On:=grownCap_ge w (df s).size 0 e
       have ij:(bytesRow (df s) (grownCap w (df s).size 0 e)).size=grownCap w (df s).size 0 e:=by have U:(df s).data.size=s.length:=gT;simp only [bytesRow,Array.size_append,Array.size_map,Array.size_replicate,U];omega
       have hv:cw E w.heap (s.map fun c=>W.int .u8 (.lit (Int.ofNat c))) ((s.map UInt8.ofNat).map (fun b=>Value.int .u8 (b.toNat:Int))):=by
        clear On ij gT
        induction s with
        |nil=>simp [cw]
        |cons b s ih=> have hb:=fD b ad;rw [ax,ax,ax,bO];refine⟨_,_,rfl,?_,ih fun c hc=>fD c (by simp [hc])⟩;simp [VR,V.den,am6,amY hb]
       obtain⟨s1,s2⟩:=iN r (bytesRow (df s) (grownCap w (df s).size 0 e)) (bytesRow (df s) (grownCap w (df s).size 0 e)).size ((bytesRow (df s) (grownCap w (df s).size 0 e)).size+1) e hv
        (by intro u hu; simp only [aK] at hu; obtain⟨b,_,rfl⟩:=hu; rfl)
        (by
         intro k u hu;have hk:=(aW.1 hu).1;simp only [aP] at hk;simp only [bytesRow];rw [aog (by have U:(df s).data.size=s.length:=gT; simp only [Array.size_map,U]; exact hk)];rw [<- hu]
         simp [df])
        (by intro o U Z; omega)
        (w':=w.drew.alloc (.cells (bytesRow (df s) (grownCap w (df s).size 0 e)) e ((bytesRow (df s) (grownCap w (df s).size 0 e)).size,(bytesRow (df s) (grownCap w (df s).size 0 e)).size+1))) rfl ⟨rfl,rfl,rfl⟩
       refine⟨_,_,_,run_bytes_of_string w sT dT e (df s) hs hd he,s1,s2,?_⟩;simp only [VR,gT];refine⟨En.gB _ _ _ _,⟨w.heap.size,0,none⟩,_,rfl,by rw [<- gT]; exact On,?_⟩;simp only [eC,En.ext_θ_new,En.ext_κ_new]
       grind
      grind
     grind
   grind
  grind
end
section
variable {P:Program} {E:En} {w:World}
def Cz (d:TypeDesc):TK->Prop
 | .int _=> ∃k,d= .int k
 | .string=>d= .string
 | .bool=>d= .bool
 |_=>False
theorem xU {tt:TT} (cJ:eB P tt) {t:Nat} {kk:TK} (h:wq tt t=some kk): ∃d,P.underlying t=some d/\Cz d kk:=by
 unfold wq at h;split at h
 ·rename_i i hi;split at h<;>simp only [ag,reduceCtorEq] at h<;>subst h
  ·rename_i k hk; exact⟨_,oK (cJ t i hi) hk,k,rfl⟩
  ·rename_i hk; exact⟨_,fJ (cJ t i hi) hk,rfl⟩
  ·rename_i hk; exact⟨_,Ks (cJ t i hi) hk,rfl⟩
 grind
theorem WM {x y:List Nat} (hx: ∀b∈x,b<256) (hy: ∀b∈y,b<256):(df x == df y)=gC x y:=by
 have e:(df x == df y)=((df x).data == (df y).data):=rfl;rw [e,amP,beq_iff_eq,kr];constructor
 ·intro h;have Z:=congrArg (fun b=>b.toList) h;simp only [df] at Z
  grind [map_inj]
 grind
theorem Lj {h:Array Obj} {pc:List (SB×Bool)} (hp:bT E.ρ pc) {kk:TK} {d:TypeDesc} (hd:Cz d kk) {a b:W} {u u':Value} (ha:VR E h a u) (hb:VR E h b u') {c:Bool} (hc:QT pc kk a b=some c) :
 Instr.sameNow d u u'=some c/\(c=true->∀n,Instr.sameBits (n+1) u' u=true):=by
 unfold QT at hc;split at hc
 ·obtain⟨k,rfl⟩:=hd;split at hc
  ·simp only [VR] at ha hb;subst ha hb;split at hc
   ·rename_i hk;subst hk;have hc:=gD hp hc;rw [gG] at hc;subst hc;refine⟨by simp [Instr.sameNow],fun hh n=>?_⟩;simp at hh;simp [Instr.sameBits,hh]
   grind
  grind
 ·simp only [Cz] at hd;subst hd;split at hc
  ·simp only [VR] at ha hb;obtain⟨rfl,ha⟩:=ha;obtain⟨rfl,hb⟩:=hb;simp at hc;subst hc;have he:=WM ha hb;refine⟨by simp only [Instr.sameNow,he],fun hh n=>?_⟩;simp only [Instr.sameBits]
   grind [kr]
  ·split at hc
   ·rename_i c0 h0;obtain⟨x,y,rfl,rfl,hd⟩:=Dt ha hb h0;have hc:=gD hp hc;rw [hd] at hc
    have hbe: ∀p q:ByteArray,(p == q)=decide (p=q):=by
     intro p q;rw [amP,decide_eq_true_eq];have e:(p == q)=(p.data == q.data):=rfl;rw [e,beq_iff_eq];constructor
     ·intro h; cases p; cases q; simp only at h; rw [h]
     grind
    refine⟨by simp only [Instr.sameNow,hbe,hc],fun hh n=>?_⟩;simp only [Instr.sameBits,hbe]
    grind
   grind
 ·simp only [Cz] at hd;subst hd;split at hc
  ·simp only [VR,SB.den] at ha hb;subst ha hb;simp at hc;subst hc;refine⟨by simp [Instr.sameNow],fun hh n=>?_⟩;simp at hh;simp [Instr.sameBits,hh]
  grind
 grind
theorem eJ {t:Nat} {kk:TK} {d:TypeDesc} (hu:P.underlying t=some d) (hd:Cz d kk) (b:Bool) (v:Value):(Instr.checkKey b 10000 t v).run P w= .ok () w:=by
 have h0:(10000:Nat)=9999+1:=rfl;rw [h0];generalize (9999:Nat)=n;cases kk<;>simp only [Cz] at hd
 ·subst hd; simp [Instr.checkKey,run_underlying hu]
 ·obtain⟨k,rfl⟩:=hd; simp [Instr.checkKey,run_underlying hu]
 ·subst hd; simp [Instr.checkKey,run_underlying hu]
theorem pS {h:Array Obj} {pc:List (SB×Bool)} (hp:bT E.ρ pc) {kk:TK} {d:TypeDesc} (hd:Cz d kk) {k:W} {u:Value} (hk:VR E h k u): ∀{es:List (W×W×Nat)} {bJ:List MapEntry} {i:Nat} {res:Option (Nat×W)},
 eK E h es bJ->B3 pc kk k es i=some res->
 (res=none/\Instr.findNow d u bJ i=some none)\/
 (∃j v e,res=some (i+j,v)/\bJ[j]?=some e/\VR E h v e.val/\Instr.findNow d u bJ i=some (some (i+j,e.val))/\∀n,Instr.sameBits (n+1) e.key u=true)
 |[],bJ,i,res,he,hf=>by simp only [eK] at he;subst he;simp [B3] at hf;exact .inl ⟨hf.symm,by simp [Instr.findNow]⟩
 |(k',v,b)::es,bJ,i,res,he,hf=>by
  simp only [eK] at he;obtain⟨e,r,rfl,U,Z,h3,h4⟩:=he;simp only [B3] at hf;split at hf
  ·rename_i hc;simp at hf;subst hf;obtain⟨g1,g2⟩:=Lj hp hd hk U hc;exact .inr ⟨0,v,e,rfl,rfl,Z,by simp [Instr.findNow,g1],g2 rfl⟩
  ·rename_i hc;obtain⟨g1,g2⟩:=Lj hp hd hk U hc;rcases pS hp hd hk h4 hf with ⟨q1,q2⟩|⟨j,v',e',q1,q2,q3,q4,q5⟩
   ·exact .inl ⟨q1,by simp [Instr.findNow,g1,q2]⟩
   ·refine .inr ⟨j+1,v',e',?_,by simpa using q2,q3,?_,q5⟩
    ·grind
    ·simp only [Instr.findNow,g1,q4]; congr 3; omega
  grind
theorem fE {t:Nat} {d:TypeDesc} (hu:P.underlying t=some d) {u:Value} {bJ:List MapEntry} {r:Option (Nat×Value)} (h:Instr.findNow d u bJ 0=some r):(Instr.findKey t u bJ).run P w= .ok r w:=by simp [Instr.findKey,run_underlying hu,h]
theorem eI {r:Nat} {o:Obj} (h:w.heap[r]?=some o) (hn: ∀c e f,o≠.cells c e f):(getObj r).run P w= .ok o w:=by
 unfold getObj;cases o<;>first |exact absurd rfl (hn _ _ _)|simp only [Sem.run,h]
theorem gy {r:Nat} {o o':Obj} (h:w.heap[r]?=some o) (hn: ∀c e f,o≠.cells c e f):(setObj r o').run P w= .ok () { w with heap:=w.heap.setIfInBounds r o' }:=by
 unfold setObj;cases o<;>first |exact absurd rfl (hn _ _ _)|simp only [Sem.run,h]
theorem fC [bG] {H:Hp} (r:bN E H w) {id:Nat} {o:dP} (Y:H.get id=some o) (ao:dP) (o':Obj)
 (ho: ∀h',h'[(E.θ id).1]?=some o'->fw E w.heap E h'->OR E h' id ao) :
 eS E H w E (H.put id ao) { w with heap:=w.heap.setIfInBounds (E.θ id).1 o' }/\bN E (H.put id ao) { w with heap:=w.heap.setIfInBounds (E.θ id).1 o' }:=by
 have fD:=fm r Y
 have lj: ∀b,b≠(E.θ id).1->({ w with heap:=w.heap.setIfInBounds (E.θ id).1 o' }:World).heap[b]?=w.heap[b]?:=fun b hb=>by
  grind
 refine yR r Y ao ad lj ⟨rfl,rfl,rfl⟩ (ho _ ?_ (j9 r Y lj))
 grind
theorem SH.yI {k v:W}: ∀(es:List (W×W×Nat)) (i:Nat),(mu k v es i).map (·.2.2)=es.map (·.2.2)
 |[],_=>rfl
 |_::_,0=>rfl
 |_::es,i+1=>by simp only [mu,ax,SH.yI es i]
theorem SH.Hw: ∀(es:List (W×W×Nat)) (i:Nat),(jC es i).map (·.2.2)=(es.map (·.2.2)).eraseIdx i
 |[],_=>by simp [jC]
 |_::_,0=>by simp [jC]
 |_::es,i+1=>by simp only [jC,ax,anV,SH.Hw es i]
theorem Ab {α β:Type} (f:α->β): ∀(l:List α) (i:Nat),(l.eraseIdx i).map f=(l.map f).eraseIdx i
 |[],_=>by simp
 |_::_,0=>by simp
 |_::l,i+1=>by simp [Ab f l i]
theorem SH.erase {c c':Nat} {es:List (W×W×Nat)} {l:List MapEntry} {i:Nat} (h:SH c es l c'):SH c (jC es i) (l.eraseIdx i) c':=by
 cases c with
 |zero=>trivial
 |succ c=>exact⟨h.1,by rw [SH.Hw,Ab,h.2]⟩
theorem SH.set {k v:W} {f:MapEntry->MapEntry} (hf: ∀e,(f e).born=e.born) {c c':Nat} {es:List (W×W×Nat)} {bJ:Array MapEntry} {i:Nat} (h:SH c es bJ.toList c'):SH c (mu k v es i) (bJ.modify i f).toList c':=by
 cases c with
 |zero=>trivial
 |succ c=>
  refine⟨h.1,?_⟩;rw [SH.yI,<- h.2];apply anF;intro j;simp only [bp,amD,anB];split
  ·cases bJ[j]?<;>simp [hf]
  ·rfl
theorem eK.length {h:Array Obj}: ∀{es:List (W×W×Nat)} {bJ:List MapEntry},eK E h es bJ->bJ.length=es.length
 |[],bJ,he=>by simp only [eK] at he; simp [he]
 |(k,v,b)::es,bJ,he=>by simp only [eK] at he;obtain⟨e,r,rfl,_,_,_,h4⟩:=he;simp [h4.length]
theorem eK.set {h:Array Obj} {k v:W} {uk uv:Value} (hk:VR E h k uk) (hv:VR E h v uv): ∀{es:List (W×W×Nat)} {bJ:List MapEntry} {i:Nat} {e:MapEntry},eK E h es bJ->bJ[i]?=some e->
 eK E h (mu k v es i) (bJ.set i { e with key:=uk,val:=uv })
 |[],bJ,i,e,he,hi=>by simp only [eK] at he; subst he; simp at hi
 |(k',v',b)::es,bJ,0,e,he,hi=>by
  simp only [eK] at he;obtain⟨e0,r,rfl,U,Z,h3,h4⟩:=he;simp at hi;subst hi;simp only [mu,ann,eK]
  grind
 |(k',v',b)::es,bJ,i+1,e,he,hi=>by simp only [eK] at he;obtain⟨e0,r,rfl,U,Z,h3,h4⟩:=he;simp only [mu,ano,eK];exact⟨e0,_,rfl,U,Z,h3,eK.set hk hv h4 (by simpa using hi)⟩
theorem eK.push {h:Array Obj} {k v:W} {uk uv:Value} {c c':Nat} (hk:VR E h k uk) (hv:VR E h v uv): ∀{es:List (W×W×Nat)} {bJ:List MapEntry},eK E h es bJ->
 eK E h (es++ [(k,v,c)]) (bJ++ [{ key:=uk,val:=uv,born:=c' }])
 |[],bJ,he=>by
  simp only [eK] at he;subst he;simp only [aA,eK]
  grind
 |(k',v',b)::es,bJ,he=>by simp only [eK] at he;obtain⟨e0,r,rfl,U,Z,h3,h4⟩:=he;simp only [aR,eK];exact⟨e0,_,rfl,U,Z,h3,eK.push hk hv h4⟩
theorem eK.erase {h:Array Obj}: ∀{es:List (W×W×Nat)} {bJ:List MapEntry} {i:Nat},eK E h es bJ->eK E h (jC es i) (bJ.eraseIdx i)
 |[],bJ,i,he=>by simp only [eK] at he; subst he; simp [jC,eK]
 |(k',v',b)::es,bJ,0,he=>by
  simp only [eK] at he;obtain⟨e0,r,rfl,U,Z,h3,h4⟩:=he
  grind [jC]
 |(k',v',b)::es,bJ,i+1,he=>by simp only [eK] at he;obtain⟨e0,r,rfl,U,Z,h3,h4⟩:=he;simp only [jC,anV,eK];exact⟨e0,_,rfl,U,Z,h3,eK.erase h4⟩
theorem Ay {t:Nat} {i:TI} (fN:mf P t i) {z:W} (h:zeroOf i=some z): ∃u,(zeroValue t).run P w= .ok u w/\VR E w.heap z u:=by
 obtain⟨inf,d,zv,U,Z,h3,h4,h5,h6,h7,h8⟩:=fN.all;have hz:=eV (E:=E) (h:=w.heap) h4;have hr:(zeroValue t).run P w= .ok zv w:=by simp [zeroValue,typeInfo,U,h3]
 refine⟨zv,hr,?_⟩;unfold zeroOf at h;split at h
 ·rename_i ha;simp at h;subst h;rw [ha] at h8;cases zv<;>simp only [IX,reduceCtorEq] at h8;rename_i cs;simp only [VR];exact⟨cs.toList,ad,hz.1⟩
 ·rename_i ha;split at h
  ·rename_i v hv;simp at h;subst h;rw [hv] at hz;obtain⟨u,vs,e1,e2,e3⟩:=bO.1 hz.1;rw [fP] at e3;subst e3;rw [ha] at h8;have:zv=u:=by cases zv<;>simp_all [IX,Value.cells]
   grind
  grind
end
theorem AI (ρ:Nat->Int) (x:V):(yJ x).den ρ=(dec (x.den ρ)).n:=by
 unfold yJ;split
 ·split
  ·simp only [V.den,eZ.den,bB,D.n]
  ·simp only [V.den,eZ.den]
 ·split
  ·simp only [V.den,bB,D.n]
  ·simp only [V.den,eZ.den]
 ·simp only [V.den,eZ.den]
theorem lz (ρ:Nat->Int) (x:V):(mY x).den ρ=enc (.i (x.den ρ)):=by unfold mY;split<;>simp only [V.den,eZ.den]
theorem zA (a b:D):(D.p a b).hd 0=a:=by simp [D.hd,D.l]
theorem zB (a b:D) (j:Nat):(D.p a b).hd (j+1)=b.hd j:=by simp [D.hd,D.l]
theorem px (ρ:Nat->Int): ∀(j:Nat) (x:V),dec ((iL j x).den ρ)=(dec (x.den ρ)).hd j
 |j,.op o a b=>by
  unfold iL
  cases o with
  |cons=>
   cases j with
   |zero=>simp only [V.den,eZ.den,bB,zA]
   |succ j=>simp only [px ρ j b,V.den,eZ.den,bB,zB]
  |_=>simp only [V.den,eZ.den,bB]
 |j,.lit n=>by simp only [iL,V.den,eZ.den,bB]
 |j,.dH n=>by simp only [iL,V.den,eZ.den,bB]
 |j,.add _ _=>by simp only [iL,V.den,eZ.den,bB]
 |j,.sub _ _=>by simp only [iL,V.den,eZ.den,bB]
 |j,.mul _ _=>by simp only [iL,V.den,eZ.den,bB]
 |j,.quo _ _=>by simp only [iL,V.den,eZ.den,bB]
 |j,.rem _ _=>by simp only [iL,V.den,eZ.den,bB]
 |j,.wrap _ _=>by simp only [iL,V.den,eZ.den,bB]
 |j,.wy _ _=>by simp only [iL,V.den,eZ.den,bB]
 |j,.eg _=>by simp only [iL,V.den,eZ.den,bB]
 |j,.ap _ _=>by simp only [iL,V.den,eZ.den,bB]
theorem cl (ρ:Nat->Int): ∀x:V,(dO x).den ρ=((dec (x.den ρ)).l.length:Int)
 | .op o a b=>by
   unfold dO
   cases o with
   |set=>
    simp only [cl ρ a,V.den,eZ.den];split
    ·simp only [bB,bI,fB]
    ·rfl
   |_=>simp only [V.den,eZ.den]
 | .lit n=>by simp only [dO,V.den,eZ.den]
 | .dH n=>by simp only [dO,V.den,eZ.den]
 | .add _ _=>by simp only [dO,V.den,eZ.den]
 | .sub _ _=>by simp only [dO,V.den,eZ.den]
 | .mul _ _=>by simp only [dO,V.den,eZ.den]
 | .quo _ _=>by simp only [dO,V.den,eZ.den]
 | .rem _ _=>by simp only [dO,V.den,eZ.den]
 | .wrap _ _=>by simp only [dO,V.den,eZ.den]
 | .wy _ _=>by simp only [dO,V.den,eZ.den]
 | .eg d=>by simp only [dO,V.den,bB]; rfl
 | .ap _ _=>by simp only [dO,V.den,eZ.den]
theorem Rd.slice {ro:Nat->Prop} {h:Array Obj} {t:Nat} {d:D} {v:Value} (r:Rd ro h (.sl t) d v): ∃x cap,v= .slice x d.l.length cap/\d.l.length<=cap:=by
 generalize hc:CK.sl t=c at r
 cases r with
 |int k n=>simp at hc
 |bool b=>simp at hc
 |str s=>simp at hc
 |nil t=>exact⟨none,0,rfl,by simp [D.l]⟩
 |we t a cap=>exact⟨some a,cap,rfl,by simp [D.l]⟩
 |one t c b o cap ds f hr fY hb U Z=>exact⟨_,cap,by rw [bI],by rw [bI]; exact fY⟩
 |many t cs b o cap rows f hr fY hb Y U Z=>exact⟨some ⟨b,o,none⟩,cap,ad,by simpa using fY⟩
theorem Rd.string {ro:Nat->Prop} {h:Array Obj} {d:D} {v:Value} (r:Rd ro h .str d v): ∃s,v= .string s/\d=tJ s:=by
 cases r with
 |str s=>exact⟨s,rfl,rfl⟩
def iJ (ro:Nat->Prop) (h:Array Obj) (c:CK) (d:D) (u:Value):Prop:=match c with
 | .int k=>u= .int k d.n
 | .bool=>u= .bool (!(d.n == 0))
 |c=>Rd ro h c d u
theorem nr {E:En} {h:Array Obj} {c:CK} {x:V} {u:Value}:VR E h (vJ c x) u↔iJ E.ro h c (dec (x.den E.ρ)) u:=by cases c<;>simp only [vJ,iJ,VR,SB.den,AI,V.den]
theorem Rd.cell {ro:Nat->Prop} {h:Array Obj} {c:CK} {d:D} {u:Value} (r:Rd ro h c d u):iJ ro h c d u:=by
 cases r with
 |int k n=>simp [iJ,D.n]
 |bool b=>cases b<;>simp [iJ,D.n]
 |str s=>exact .str s
 |nil t=>exact .nil t
 |we t a cap=>exact .we t a cap
 |one t c b o cap ds f hr hc hb U Z=>exact .one t c b o cap ds f hr hc hb U Z
 |many t cs b o cap rows f hr hc hb Y U Z=>exact .many t cs b o cap rows f hr hc hb Y U Z
theorem iJ.one {ro:Nat->Prop} {h:Array Obj} {c:CK} {d:D} {u:Value} (r:iJ ro h c d u):u.oneCell'=true:=by
 cases c with
 |int k=>simp only [iJ] at r; subst r; rfl
 |bool=>simp only [iJ] at r; subst r; rfl
 |str=>exact Rd.T_ r
 |sl t=>exact Rd.T_ r
def dV (ro:Nat->Prop) (h:Array Obj):List CK->Nat->D->List Value->Prop
 |[],_,_,us=>us= []
 |c::cs,j,d,us=> ∃u vs,us=u::vs/\iJ ro h c (d.hd j) u/\dV ro h cs (j+1) d vs
def uD (ro:Nat->Prop) (h:Array Obj) (r:Row) (d:D) (us:List Value):Prop:=match r with
 | .one c=> ∃u,us= [u]/\iJ ro h c d u
 | .many cs=>dV ro h cs 0 d us
theorem nC {E:En} {h:Array Obj} {x:V}: ∀{cs:List CK} {j:Nat} {us:List Value},cw E h (iw cs j x) us↔dV E.ro h cs j (dec (x.den E.ρ)) us
 |[],j,us=>by simp only [iw,cw,dV]
 |c::cs,j,us=>by
  simp only [iw,bO,dV];constructor
  ·rintro⟨u,vs,rfl,U,Z⟩;exact⟨u,vs,rfl,by rw [nr,px] at U; exact U,nC.1 Z⟩
  ·rintro⟨u,vs,rfl,U,Z⟩;exact⟨u,vs,rfl,by rw [nr,px]; exact U,nC.2 Z⟩
theorem fy {E:En} {h:Array Obj} {r:Row} {x:V} {us:List Value}:cw E h (gz r x) us↔uD E.ro h r (dec (x.den E.ρ)) us:=by
 cases r with
 |one c=>
  simp only [gz,bO,fP,uD];constructor
  ·rintro⟨u,vs,rfl,U,rfl⟩
   grind [nr]
  grind [nr]
 |many cs=>simp only [gz,uD,nC]
theorem ss (x:V): ∀(cs:List CK) (j:Nat),(iw cs j x).length=cs.length
 |[],_=>rfl
 |_::cs,j=>by simp [iw,ss x cs]
theorem gQ (r:Row) (x:V):(gz r x).length=r.es:=by cases r<;>simp [gz,Row.es,ss]
theorem dV.rX {ro:Nat->Prop} {h:Array Obj} {d:D}: ∀{cs:List CK} {j:Nat} {us:List Value},dV ro h cs j d us->∀u∈us,u.oneCell'=true
 |[],_,_,hh,u,hu=>by simp only [dV] at hh; subst hh; simp at hu
 |c::cs,j,us,hh,u,hu=>by
  simp only [dV] at hh;obtain⟨x,vs,rfl,U,Z⟩:=hh;rcases aw.1 hu with rfl|hu
  ·exact U.one
  ·exact Z.rX u hu
theorem uD.rX {ro:Nat->Prop} {h:Array Obj} {r:Row} {d:D} {us:List Value} (hh:uD ro h r d us): ∀u∈us,u.oneCell'=true:=by
 cases r with
 |one c=> obtain⟨u,rfl,U⟩:=hh;intro x hx;simp at hx;subst hx;exact U.one
 |many cs=>exact dV.rX hh
theorem cw.split {E:En} {h:Array Obj}: ∀{xs ys:List W} {us:List Value},cw E h (xs++ys) us->∃a b,us=a++b/\cw E h xs a/\cw E h ys b
 |[],ys,us,hh=> ⟨[],us,rfl,by simp only [cw],hh⟩
 |x::xs,ys,us,hh=>by rw [aR,bO] at hh;obtain⟨u,vs,rfl,U,Z⟩:=hh;obtain⟨a,b,rfl,h3,h4⟩:=Z.split;exact⟨u::a,b,rfl,by rw [bO]; exact⟨u,a,rfl,U,h3⟩,h4⟩
theorem kJ {ρ:Nat->Int} {i:Nat} {cs:List W}: ∀{ov:List (V×List W)},dY ρ i ov=some cs->∃p∈ov,p.2=cs/\p.1.den ρ=(i:Int)
 |[],h=>by simp [dY] at h
 |(j,c)::l,h=>by
  simp only [dY] at h;split at h
  ·rename_i hj;simp only [ag] at h;exact⟨(j,c),ad,h,hj⟩
  ·obtain⟨p,U,Z⟩:=kJ h
   grind
theorem cF {ρ:Nat->Int} {r:Row} {ov:List (V×List W)} (ho:sU r ov): ∀(ds:List D) (i:Nat),(bD ρ r ov ds i).length=ds.length*r.es
 |[],i=>by simp [bD]
 |d::ds,i=>by
  simp only [bD,aZ,cF ho ds (i+1),aL,amM,anl];split
  ·rename_i cs h;obtain⟨p,U,Z,_⟩:=kJ h;rw [<- Z,ho p U]; omega
  grind [gQ]
theorem lL {ρ:Nat->Int} {r:Row} {ov:List (V×List W)}: ∀(xs ys:List D) (i:Nat),bD ρ r ov (xs++ys) i=bD ρ r ov xs i++bD ρ r ov ys (i+xs.length)
 |[],ys,i=>by simp [bD]
 |d::ds,ys,i=>by
  simp only [aR,bD,lL ds ys (i+1),am7,aL]
  grind
section
variable {P:Program} {E:En} {w:World}
theorem zh [bG] {H:Hp} (r:bN E H w) {id c:Nat} {es:List (W×W×Nat)} (Y:H.get id=some (.map es c)): ∃bJ c',w.heap[(E.θ id).1]?=some (.map bJ c')/\eK E w.heap es bJ.toList/\SH c es bJ.toList c':=
 (r.live id _ Y).2.1
theorem L5 [bG] {tt:TT} (cJ:eB P tt) {pc:List (SB×Bool)} (hp:bT E.ρ pc) {H:Hp} (r:bN E H w) {t:Nat} {m k v:W} {um uk:Value} {ok:Bool} (hm:VR E w.heap m um) (hk:VR E w.heap k uk) (h:EK tt pc t m k ok H=some v) :
 ∃x,(Instr.lookup t um uk ok).run P w= .ok x w/\VR E w.heap v x:=by
 unfold EK at h;split at h
 ·rename_i ti fN;split at h
  ·rename_i kt et zw;have hu:=sJ (cJ t ti fN) zw;split at h
   ·grind
   ·rename_i kk tc;obtain⟨d,ya,jX⟩:=xU cJ tc;split at h
    ·grind
    ·rename_i ie kO
     have key: ∀(es:List (W×W×Nat)) (bJ:Array MapEntry),eK E w.heap es bJ.toList->
      (match B3 pc kk k es 0 with
       |none=>none
       |some (some (_,v))=>some (if ok then .tuple [v,.bool (.lit true)] else v)
       |some none=>match zeroOf ie with
        |none=>none
        |some z=>some (if ok then .tuple [z,.bool (.lit false)] else z))=some v->
      ∃(o:Option (Nat×Value)) (x:Value),(Instr.findKey kt uk bJ.toList).run P w= .ok o w/\
       (match o with
        |some (_,y)=>x=(if ok then .tuple #[y,.bool true] else y)
        |none=> ∃z,(zeroValue et).run P w= .ok z w/\x=(if ok then .tuple #[z,.bool false] else z))/\VR E w.heap v x:=by
      intro es bJ he hh;split at hh
      ·simp at hh
      ·rename_i j v' hf;simp at hh;subst hh;rcases pS hp jX hk he hf with ⟨q1,_⟩|⟨jj,v2,e,q1,q2,q3,q4,q5⟩
       ·simp at q1
       ·simp only [ag,ak] at q1;obtain⟨rfl,rfl⟩:=q1;refine⟨_,_,fE ya q4,rfl,?_⟩;cases ok
        ·exact q3
        ·simp only [if_true,VR,cw];exact⟨[e.val,.bool true],rfl,_,_,rfl,q3,_,_,rfl,by simp [SB.den],rfl⟩
      ·rename_i hf;split at hh
       ·simp at hh
       ·rename_i z hz;simp at hh;subst hh;obtain⟨u,e1,e2⟩:=Ay (P:=P) (w:=w) (E:=E) (cJ et ie kO) hz;rcases pS hp jX hk he hf with ⟨_,q2⟩|⟨jj,v2,e,q1,_⟩
        ·refine⟨none,_,fE ya q2,⟨u,e1,rfl⟩,?_⟩;cases ok
         ·exact e2
         ·simp only [if_true,VR,cw];exact⟨[u,.bool false],rfl,_,_,rfl,e2,_,_,rfl,by simp [SB.den],rfl⟩
        ·simp at q1
     split at h
     ·grind
     ·rename_i es lq;unfold IK at lq;split at lq
      ·simp at lq;subst lq;simp only [VR] at hm;subst hm;obtain⟨o,x,e1,e2,e3⟩:=key [] #[] (by simp [eK]) h;refine⟨x,?_,e3⟩
       cases o with
       |none=> obtain⟨z,e4,rfl⟩:=e2;cases ok<;>simp [Instr.lookup,run_underlying hu,eJ ya jX,e1,e4]
       |some p=> obtain⟨j,y⟩:=p;simp only at e2;subst e2;cases ok<;>simp [Instr.lookup,run_underlying hu,eJ ya jX,e1]
      ·rename_i id;split at lq
       ·rename_i es' c Y;simp at lq;subst lq;simp only [VR] at hm;obtain⟨rfl,hid⟩:=hm;obtain⟨bJ,c',g1,g2,gS⟩:=zh r Y;have hg:=eI (P:=P) g1 ad;obtain⟨o,x,e1,e2,e3⟩:=key es' bJ g2 h;refine⟨x,?_,e3⟩
        cases o with
        |none=> obtain⟨z,e4,rfl⟩:=e2;cases ok<;>simp [Instr.lookup,run_underlying hu,hg,eJ ya jX,e1,e4]
        |some p=> obtain⟨j,y⟩:=p;simp only at e2;subst e2;cases ok<;>simp [Instr.lookup,run_underlying hu,hg,eJ ya jX,e1]
       grind
      grind
  grind
 grind
theorem xM {α:Type} (bJ:Array α) (i:Nat) (e:α) (f:α->α) (h:bJ.toList[i]?=some e):(bJ.modify i f).toList=bJ.toList.set i (f e):=by
 apply anF;intro j
 grind
theorem vz [bG] {tt:TT} (cJ:eB P tt) {pc:List (SB×Bool)} (hp:bT E.ρ pc) {H H':Hp} (r:bN E H w) {t:Nat} {m k v:W} {um uk uv:Value} (hm:VR E w.heap m um) (hk:VR E w.heap k uk) (hv:VR E w.heap v uv) (h:qR tt pc t m k v H=some H') :
 ∃w',(Instr.mapUpdate t um uk uv).run P w= .ok () w'/\eS E H w E H' w'/\bN E H' w':=by
 unfold qR at h;split at h
 ·rename_i ti fN;split at h
  ·rename_i kt et zw;have hu:=sJ (cJ t ti fN) zw;split at h
   ·grind
   ·rename_i kk tc;obtain⟨d,ya,jX⟩:=xU cJ tc;split at h
    ·rename_i id;split at h
     ·rename_i es c Y;simp only [VR] at hm;obtain⟨rfl,hid⟩:=hm;obtain⟨bJ,c',g1,g2,gS⟩:=zh r Y;have hg:=eI (P:=P) g1 ad;split at h
      ·grind
      ·rename_i i v' hf;simp at h;subst h;rcases pS hp jX hk g2 hf with ⟨q1,_⟩|⟨jj,v2,e,q1,q2,q3,q4,q5⟩
       ·grind
       ·simp only [ag,ak,ay] at q1;obtain⟨rfl,rfl⟩:=q1;simp only [ay] at q4
        have hkt:(Instr.keyThatStays (((bJ[i]?).map (·.key)).getD uk) uk).run P w= .ok uk w:=by rw [amD] at q2;simp only [q2,bq,aC,Instr.keyThatStays];simp_all
        refine⟨_,?_,fC r Y (.map (mu k v es i) c) (.map (bJ.modify i fun e=>{ e with key:=uk,val:=uv }) c') ?_⟩
        ·simp [Instr.mapUpdate,run_underlying hu,hg,eJ ya jX,fE ya q4,hkt,gy (P:=P) g1]
        ·intro h' hh kp;simp only [OR];refine⟨_,_,hh,?_,gS.set (f:=fun e=>{ e with key:=uk,val:=uv }) fun _=>rfl⟩
         grind [xM,eK.set,VR.keep,eK.keep]
      ·rename_i hf;simp at h;subst h;rcases pS hp jX hk g2 hf with ⟨_,q2⟩|⟨jj,v2,e,q1,_⟩
       ·cases c with
        |zero=>
         refine⟨_,?_,fC r Y (.map (es++ [(k,v,0)]) 0) (.map (bJ.push { key:=uk,val:=uv,born:=c' }) (c'+1)) ?_⟩
         ·simp [Instr.mapUpdate,run_underlying hu,hg,eJ ya jX,fE ya q2,gy (P:=P) g1]
         ·intro h' hh kp;simp only [OR];refine⟨_,_,hh,?_,trivial⟩
          grind [eK.push,VR.keep,eK.keep]
        |succ c=>
         refine⟨_,?_,fC r Y (.map (es++ [(k,v,c)]) (c+2)) (.map (bJ.push { key:=uk,val:=uv,born:=c' }) (c'+1)) ?_⟩
         ·simp [Instr.mapUpdate,run_underlying hu,hg,eJ ya jX,fE ya q2,gy (P:=P) g1]
         ·intro h' hh kp;simp only [OR];refine⟨_,_,hh,?_,by rw [gS.1],?_⟩
          ·grind [eK.push,VR.keep,eK.keep]
          ·simp [gS.2,gS.1]
       grind
     grind
    grind
  grind
 grind
theorem L6 [bG] {tt:TT} (cJ:eB P tt) {pc:List (SB×Bool)} (hp:bT E.ρ pc) {H H':Hp} (r:bN E H w) {t:Nat} {ts:Nat} {m k:W} {um uk:Value} (hm:VR E w.heap m um) (hk:VR E w.heap k uk) (h:EN tt pc t m k H=some H') (ty:Nat) :
 ∃w',(Builtin.delete_ #[t,ts] ty #[um,uk]).run P w= .ok (.tuple #[]) w'/\eS E H w E H' w'/\bN E H' w':=by
 unfold EN at h;split at h
 ·rename_i ti fN;split at h
  ·rename_i kt et zw;have hu:=sJ (cJ t ti fN) zw;split at h
   ·grind
   ·rename_i kk tc;obtain⟨d,ya,jX⟩:=xU cJ tc;split at h
    ·simp at h;subst h;simp only [VR] at hm;subst hm;exact⟨w,by simp [Builtin.delete_,run_underlying hu,eJ ya jX],eS.refl _ _ _,r⟩
    ·rename_i id;split at h
     ·rename_i es c Y;simp only [VR] at hm;obtain⟨rfl,hid⟩:=hm;obtain⟨bJ,c',g1,g2,gS⟩:=zh r Y;have hg:=eI (P:=P) g1 ad;split at h
      ·grind
      ·rename_i i v' hf;simp at h;subst h;rcases pS hp jX hk g2 hf with ⟨q1,_⟩|⟨jj,v2,e,q1,q2,q3,q4,q5⟩
       ·grind
       ·simp only [ag,ak,ay] at q1;obtain⟨rfl,rfl⟩:=q1;simp only [ay] at q4;refine⟨_,?_,fC r Y (.map (jC es i) c) (.map (bJ.eraseIdxIfInBounds i) c') ?_⟩
        ·simp [Builtin.delete_,run_underlying hu,hg,eJ ya jX,fE ya q4,gy (P:=P) g1]
        ·intro h' hh kp;simp only [OR];refine⟨_,_,hh,?_⟩;have gS2:=gS.erase (i:=i);have ep:i<bJ.size:=by have:=(aW.1 q2).1; simpa using this
         have:(bJ.eraseIdxIfInBounds i).toList=bJ.toList.eraseIdx i:=by simp_all
         rw [this];exact⟨eK.erase (eK.keep kp _ _ g2),gS2⟩
      ·rename_i hf;simp at h;subst h;rcases pS hp jX hk g2 hf with ⟨_,q2⟩|⟨jj,v2,e,q1,_⟩
       ·refine⟨_,?_,fC r Y (.map es c) (.map bJ c') ?_⟩
        ·simp [Builtin.delete_,run_underlying hu,hg,eJ ya jX,fE ya q2,gy (P:=P) g1]
        ·intro h' hh kp;simp only [OR];exact⟨_,_,hh,eK.keep kp _ _ g2,gS⟩
       grind
     grind
    grind
  grind
 grind
theorem YA [bG] {tt:TT} (cJ:eB P tt) {H:Hp} (r:bN E H w) {t ty:Nat} {x v:W} {u:Value} (hx:VR E w.heap x u) (h:YB tt t x H=some v) :
 ∃y,(Builtin.len_ #[t] ty #[u]).run P w= .ok y w/\VR E w.heap v y:=by
 unfold YB at h;simp only at h;split at h
 ·rename_i ti fN;have vb:=cJ t ti fN;split at h
  ·rename_i hk;split at h
   ·rename_i s;simp at h;subst h;simp only [VR] at hx;obtain⟨rfl,_⟩:=hx;exact⟨_,by simp [Builtin.len_,run_underlying (fJ vb hk)]; rfl,by simp [VR,V.den,goInt,kH]⟩
   ·simp at h; subst h; simp only [VR] at hx;obtain⟨s,rfl,hs⟩:=hx.string;exact⟨_,by simp [Builtin.len_,run_underlying (fJ vb hk)]; rfl,by simp only [VR,cl,hs,ZY]; rfl⟩
   grind
  ·rename_i e hk;have hu:=ff vb hk;split at h
   ·simp at h; subst h; simp only [VR] at hx; subst hx;exact⟨_,by simp [Builtin.len_,run_underlying hu]; rfl,by simp [VR,V.den,goInt]⟩
   ·simp at h; subst h; simp only [VR] at hx; obtain⟨x,rfl⟩:=hx;exact⟨_,by simp [Builtin.len_,run_underlying hu]; rfl,by simp [VR,V.den,goInt]⟩
   ·simp at h; subst h; simp only [VR] at hx; obtain⟨⟨x,rfl⟩,_⟩:=hx;exact⟨_,by simp [Builtin.len_,run_underlying hu]; rfl,by simp [VR,V.den,goInt]⟩
   ·simp at h; subst h; simp only [VR] at hx; obtain⟨_,a,cap,rfl,_⟩:=hx;exact⟨_,by simp [Builtin.len_,run_underlying hu]; rfl,by simp [VR,V.den,goInt]⟩
   ·simp at h; subst h; simp only [VR] at hx; obtain⟨b,o,cap,us,rfl,_⟩:=hx;exact⟨_,by simp [Builtin.len_,run_underlying hu]; rfl,by simp [VR,V.den,goInt]⟩
   ·simp at h; subst h; simp only [VR] at hx; obtain⟨x,cap,rfl,_⟩:=hx.slice;exact⟨_,by simp [Builtin.len_,run_underlying hu]; rfl,by simp [VR,cl,goInt]⟩
   ·simp at h; subst h; simp only [VR] at hx; obtain⟨_,k,a,cap,h0,rfl,_⟩:=hx;exact⟨_,by simp [Builtin.len_,run_underlying hu]; rfl,by simp [VR,h0,goInt]⟩
   ·simp at h; subst h; simp only [VR] at hx; obtain⟨_,l,k,a,cap,_,h0,rfl,_⟩:=hx;exact⟨_,by simp [Builtin.len_,run_underlying hu]; rfl,by simp [VR,h0,goInt]⟩
   ·simp at h; subst h; simp only [VR] at hx;rcases hx with ⟨⟨x,cap,rfl⟩,h0⟩|⟨b,o,n,cap,rfl,_,h0,_⟩
    ·exact⟨_,by simp [Builtin.len_,run_underlying hu]; rfl,by simp [VR,V.den,goInt,h0]⟩
    ·exact⟨_,by simp [Builtin.len_,run_underlying hu]; rfl,by simp [VR,V.den,goInt,h0]⟩
   grind
  ·rename_i k e hk;have hu:=rK vb hk;simp at h;subst h;exact⟨_,by simp [Builtin.len_,run_underlying hu]; rfl,by simp [VR,V.den,goInt]⟩
  ·rename_i kt et hk;have hu:=sJ vb hk;split at h
   ·simp at h; subst h; simp only [VR] at hx; subst hx;exact⟨_,by simp [Builtin.len_,run_underlying hu]; rfl,by simp [VR,V.den,goInt]⟩
   ·rename_i id;split at h
    ·rename_i es c Y;simp at h;subst h;simp only [VR] at hx;obtain⟨rfl,hid⟩:=hx;obtain⟨bJ,c',g1,g2,gS⟩:=zh r Y;have hg:=eI (P:=P) g1 ad;have hlen:=g2.length;simp only [bn] at hlen;exact⟨_,by simp [Builtin.len_,run_underlying hu,hg]; rfl,by simp [VR,V.den,goInt,hlen]⟩
    ·rename_i e t' Y;simp at h;subst h;simp only [VR] at hx;obtain⟨rfl,hid⟩:=hx;obtain⟨_,ho,_⟩:=r.live _ _ Y;simp only [OR] at ho;obtain⟨bJ,c',g1,g2⟩:=ho;have hg:=eI (P:=P) g1 ad;have hlen:=g2.length;simp only [bn] at hlen;exact⟨_,by simp [Builtin.len_,run_underlying hu,hg]; rfl,by simp [VR,cl,goInt,hlen]⟩
    ·rename_i e t' eY ov Y;simp at h;subst h;simp only [VR] at hx;obtain⟨rfl,hid⟩:=hx;obtain⟨_,ho,_⟩:=r.live _ _ Y;simp only [OR] at ho;obtain⟨_,bJ,c',g1,g2⟩:=ho;have hg:=eI (P:=P) g1 ad;have hlen:=g2.length;simp only [bn] at hlen;exact⟨_,by simp [Builtin.len_,run_underlying hu,hg]; rfl,by simp [VR,cl,goInt,hlen]⟩
    grind
   grind
  grind
 grind
end
section
variable {P:Program} {E:En} {w:World}
structure Src (P:Program) (E:En) (w:World) (s m:Nat) (news:List W) (u:Value) (us:Array Value):Prop where
 len: ∀w2,(Builtin.lenOf u).run P w2= .ok m w2
 first: ∀w2:World,w2.heap=w.heap->(Builtin.firstCells s m u).run P w2= .ok us w2
 UQ:cw E w.heap news us.toList
 size:us.size=m*s
 rX: ∀x∈us.toList,x.oneCell'=true
theorem fR.QH {b o n:Nat} {us:List Value} (hn:us.length=n) (h:fR w.heap b o us) (w2:World) (hw:w2.heap=w.heap):(loadCells ⟨b,o,none⟩ n).run P w2= .ok us.toArray w2:=
 rU hn (by rw [hw]; exact h)
theorem sO {id off len cap:Nat} {a:Addr} {c:MN} (hc:eC E id off len a cap c):a=⟨(E.θ id).1,(E.θ id).2+off,none⟩\/cap=0:=by
 cases c with
 |exact c=>
  simp only [eC] at hc
  grind
 |rest es=>
  simp only [eC] at hc
  grind
theorem uR [bG] {H:Hp} (r:bN E H w) {id o len cap s:Nat} {a:Addr} {c:MN} {l:List W} (hid:E.dm id) (hc:eC E id o len a cap c) (hlen:len<=cap) (h:mC H (.ptr id o) (len*s)=some l) :
 ∃us:List Value,us.length=len*s/\cw E w.heap l us/\(∀u∈us,u.oneCell'=true)/\∀w2:World,w2.heap=w.heap->(loadCells a (len*s)).run P w2= .ok us.toArray w2:=by
 obtain⟨b,o',us,e1,e2,e3,e4,e5⟩:=v8 r (p:=.ptr id o) (u:=.pointer (some ⟨(E.θ id).1,(E.θ id).2+o,none⟩)) (by simp only [VR]; exact⟨trivial,hid⟩) h;simp only [Value.pointer.injEq,ag,Addr.mk.injEq] at e1;obtain⟨e1a,e1b,_⟩:=e1;refine⟨us,e2,e3,e5,fun w2 hw=>?_⟩;rcases sO hc with ha|ha
 ·rw [ha,e1a,e1b];exact e4.QH e2 w2 hw
 ·obtain rfl:len=0:=J
  rw [amH] at e2 ⊢;rw [amJ e2];rfl
theorem qA [bG] {H:Hp} (r:bN E H w) {s m:Nat} {y:W} {u:Value} {news:List W} (hy:VR E w.heap y u) (h:rN s y H=some (m,news)): ∃us,Src P E w s m news u us:=by
 unfold rN at h;split at h
 ·simp only [ag,ak] at h;obtain⟨rfl,rfl⟩:=h;simp only [VR] at hy;subst hy;exact⟨#[],fun _=>rfl,fun w2 _=>by simp [Builtin.firstCells],by simp [cw],ad,ad⟩
 ·rename_i id o len c;rw [aO] at h;obtain⟨l,U,Z⟩:=h;simp only [ak] at Z;obtain⟨rfl,rfl⟩:=Z;simp only [VR] at hy;obtain⟨hid,a,cap,rfl,hlen,hc⟩:=hy;obtain⟨us,e1,e2,e3,e4⟩:=uR (P:=P) r hid hc hlen U;exact⟨us.toArray,fun _=>rfl,fun w2 hw=>by simp only [Builtin.firstCells]; exact e4 w2 hw,by simpa using e2,by simpa using e1,by simpa using e3⟩
 ·rename_i cs n full;rw [aO] at h;obtain⟨l,U,Z⟩:=h;simp only [ak] at Z;obtain⟨rfl,rfl⟩:=Z;simp only [VR] at hy;obtain⟨b,o,cap,us,rfl,hn,hf,h4,h5,h6,h7⟩:=hy;obtain⟨g1,g2⟩:=h5.iy U;have Y:=h5.length;have htl:(us.take (n*s)).length=n*s:=by rw [a8]; omega
  exact⟨(us.take (n*s)).toArray,fun _=>rfl,fun w2 hw=>by simp only [Builtin.firstCells]; exact (h6.take (n*s)).QH htl w2 hw,by simpa using g1,by simpa using htl,
   fun x hx=>h7 x (amG (by simpa using hx))⟩
 ·rename_i b;split at h
  ·rename_i hs;simp only [ag,ak] at h;obtain⟨rfl,rfl⟩:=h;simp only [VR] at hy;obtain⟨rfl,fD⟩:=hy;have gT:(df b).size=b.length:=kH b;have hex:(df b).extract 0 b.length=df b:=by rw [sL]; simp
   refine⟨(df b).data.map fun c=>Value.int .u8 (c.toNat:Int),fun w2=>by simp [Builtin.lenOf,gT],fun w2 _=>by simp [Builtin.firstCells,hex],?_,?_,?_⟩
   ·have:((df b).data.map fun c=>Value.int .u8 (c.toNat:Int)).toList=(b.map UInt8.ofNat).map fun c=>Value.int .u8 (c.toNat:Int):=by simp [df]
    rw [this];clear hex gT this
    induction b with
    |nil=>simp [cw]
    |cons x b ih=> have hx:=fD x ad;rw [ax,ax,ax,bO];refine⟨_,_,rfl,?_,ih fun c hc=>fD c (by simp [hc])⟩;simp [VR,V.den,am6,amY hx]
   ·simp_all
   ·intro x hx;simp only [aoh,aK] at hx;obtain⟨c,_,rfl⟩:=hx;rfl
  grind
 grind
theorem kA {t t2 ty e s m n cap:Nat} {d2:TypeDesc} {inf:TypeInfo} {a:Option Addr} {u2:Value} {us:Array Value} {news:List W} {w':World} (ht:P.underlying t=some (.slice e)) (yp:P.underlying t2=some d2)
 (jX: ∀k,d2≠.int k) (hi:P.info? e=some inf) (hs:inf.size=s) (src:Src P E w s m news u2 us) (kb:n+m<=cap)
 (CU:match a with |some a=>(storeCells (a.add (n*s)) us.toList).run P w= .ok () w'|none=>w'=w) :
 (Builtin.append_ #[t,t2] ty #[.slice a n cap,u2]).run P w= .ok (.slice a (n+m) cap) w':=by
 have hf:=src.first w rfl;have Y:=src.len w
 cases a with
 |none=> simp only at CU;subst CU;simp [Builtin.append_,run_underlying ht,run_underlying yp,sizeOf,typeInfo,hi,hs,Y,kb,hf]
 |some a=> simp only at CU;simp [Builtin.append_,run_underlying ht,run_underlying yp,sizeOf,typeInfo,hi,hs,Y,kb,hf,CU]
theorem MB {t t2 ty e s m n cap:Nat} {d2:TypeDesc} {inf:TypeInfo} {z u u2:Value} {us olds:Array Value} {news:List W} (ht:P.underlying t=some (.slice e)) (yp:P.underlying t2=some d2)
 (jX: ∀k,d2≠.int k) (hi:P.info? e=some inf) (hs:inf.size=s) (hz:inf.zero=some z) (hb:inf.bytes≠0) (src:Src P E w s m news u2 us) (kb:cap<n+m) (hbound:(n+m)*inf.bytes<=140737488355328)
 (a:Option Addr) (hu:u= .slice a n cap) (hold: ∀w2:World,w2.heap=w.heap->(Builtin.firstCells s n u).run P w2= .ok olds w2) :
 (Builtin.append_ #[t,t2] ty #[u,u2]).run P w= .ok (.slice (some ⟨w.heap.size,0,none⟩) (n+m) (grownCap w (n+m) cap e))
  (w.drew.alloc (.cells (olds++us++Builtin.zeroCells z.cells (grownCap w (n+m) cap e-(n+m))) e)):=by
 subst hu;have hf:=src.first w.drew rfl;have ho:=hold w.drew rfl;have Y:=src.len w;have hn: ¬(n+m<=cap):=J
 have h48: ¬(281474976710656<Builtin.nextslicecap (n+m) cap*inf.bytes):=by
  have U:Builtin.nextslicecap (n+m) cap*inf.bytes<=2*(n+m)*inf.bytes:=am8 _ (nextslicecap_le kb)
  grind
 have alI: ¬(2 ^ 48<Builtin.nextslicecap (n+m) cap*inf.bytes):=h48;simp [Builtin.append_,run_underlying ht,run_underlying yp,sizeOf,typeInfo,zeroValue,hi,hs,hz,Y,hn,hb,alI,Question.forced,ho,hf,newRow,grownCap]
theorem oY [bG] {t t2 ty:Nat} {H H':Hp} (r:bN E H w) {ie:TI} {e n m cap:Nat} {cs news old:List W} {v:W} {d2:TypeDesc} {u2:Value} {us olds:Array Value} (vc:mf P e ie)
 (ht:P.underlying t=some (.slice e)) (yp:P.underlying t2=some d2) (jX: ∀k,d2≠.int k) (rI:ie.bytes≠0) (wA:ie.zero.length=ie.size)
 (src:Src P E w ie.size m news u2 us) (kb:cap<n+m) (a:Option Addr) (MV:cs=old++news)
 (qH:cw E w.heap old olds.toList) (ho1: ∀x∈olds.toList,x.oneCell'=true) (hos:olds.size=n*ie.size)
 (hold: ∀w2:World,w2.heap=w.heap->(Builtin.firstCells ie.size n (.slice a n cap)).run P w2= .ok olds w2) (h:nj ie e n m cs H=some (v,H')) :
 ∃x w' E',(Builtin.append_ #[t,t2] ty #[.slice a n cap,u2]).run P w= .ok x w'/\eS E H w E' H' w'/\bN E' H' w'/\VR E' w'.heap v x:=by
 subst MV;unfold nj at h;split at h
 ·rename_i hbound;simp only [ag,ak] at h;obtain⟨rfl,rfl⟩:=h;obtain⟨inf,d,z,U,Z,h3,h4,h5,h6,h7,h8⟩:=vc.all;have hz:=eV (E:=E) (h:=w.heap) h4;have hzs:z.cells.size=ie.size:=by have:=hz.1.length; simp only [bn] at this; omega
  have On:=grownCap_ge w (n+m) cap e;have Of:=src.size
  obtain⟨s1,s2⟩:=iN r (olds++us++Builtin.zeroCells z.cells (grownCap w (n+m) cap e-(n+m))) 0 0 e (qH.append src.UQ)
   (by intro x hx; rcases amC.1 hx with hx|hx; exact ho1 x hx; exact src.rX x hx)
   (by
    intro i x hx;have hi:=(aW.1 hx).1;rw [aog (by simpa using hi)];rw [<- amD,Array.toList_append]
    exact hx)
   J (w':=w.drew.alloc (.cells (olds++us++Builtin.zeroCells z.cells (grownCap w (n+m) cap e-(n+m))) e)) rfl ⟨rfl,rfl,rfl⟩
  refine⟨_,_,_,MB (s:=ie.size) ht yp jX U h5 h3 (by rw [h6]; exact rI) src kb (by rw [h6]; exact hbound) a rfl hold,s1,s2,?_⟩;simp only [VR];refine⟨En.gB _ _ _ _,_,_,rfl,On,?_⟩;simp only [eC,En.ext_θ_new,En.ext_κ_new];left;refine⟨trivial,?_⟩;simp only [Array.size_append,size_zeroCells,hos,Of,hzs,<- amM]
  grind
 grind
set_option maxHeartbeats 800000 in
theorem vN [bG] {t t2 ty:Nat} {H H':Hp} (r:bN E H w) {ie:TI} {e m:Nat} {news:List W} {x v:W} {d2:TypeDesc} {u u2:Value} {us:Array Value} (vc:mf P e ie)
 (ht:P.underlying t=some (.slice e)) (yp:P.underlying t2=some d2) (jX: ∀k,d2≠.int k) (xj:ie.size≠0) (rI:ie.bytes≠0) (wA:ie.zero.length=ie.size)
 (src:Src P E w ie.size m news u2 us) (hx:VR E w.heap x u) (h:qe ie e m news x H=some (v,H')) :
 ∃y w' E',(Builtin.append_ #[t,t2] ty #[u,u2]).run P w= .ok y w'/\eS E H w E' H' w'/\bN E' H' w'/\VR E' w'.heap v y:=by
 obtain⟨inf,d,z,U,Z,h3,h4,h5,h6,h7,h8⟩:=vc.all;have jU:0<ie.size:=J
 have UX:=src.UQ.length;have uG:=src.size;simp only [bn] at UX;unfold qe at h;split at h
 ·
  simp only [VR] at hx;subst hx;split at h
  ·rename_i hm;subst hm;simp only [ag,ak] at h;obtain⟨rfl,rfl⟩:=h;exact⟨_,w,E,kA (s:=ie.size) ht yp jX U h5 src (au _) (by simp only),eS.refl _ _ _,r,by simp [VR]⟩
  ·rename_i hm;exact oY (cap:=0) r vc ht yp jX rI wA src J none (old:=[]) (olds:=#[]) ad (by simp [cw]) ad ad (fun w2 _=>by simp [Builtin.firstCells]) h
 ·
  rename_i id o len c;have hx0:=hx;simp only [VR] at hx;obtain⟨hid,a,cap,rfl,hlen,hc⟩:=hx;have fV:cap=c:=by simp only [eC] at hc; exact hc.1
  subst fV;split at h
  ·rename_i kb;split at h
   ·rename_i cs e' Y;split at h
    ·rename_i lE hs;simp only [ag,ak] at h;obtain⟨rfl,rfl⟩:=h;obtain⟨w',g1,g2,g3⟩:=lM (P:=P) r Y hs src.UQ src.rX
     have CU:(storeCells (a.add (len*ie.size)) us.toList).run P w= .ok () w':=by
      rcases sO hc with ha|ha
      ·rw [ha,e8,amF]; exact g1
      ·obtain rfl:m=0:=J
       have nN:us.toList= []:=amJ (by rw [bn,uG,amH]);rw [nN] at g1 ⊢;exact g1
     refine⟨_,w',E,kA (s:=ie.size) ht yp jX U h5 src kb CU,g2,g3,?_⟩;simp only [VR];refine⟨hid,a,cap,rfl,kb,?_⟩;simp only [eC] at hc ⊢;exact hc
    ·simp at h
   ·simp at h
  ·rename_i kb;split at h
   ·rename_i old hold;obtain⟨ols,f1,f2,f3,f4⟩:=uR (P:=P) r hid hc hlen hold
    exact oY (cap:=cap) r vc ht yp jX rI wA src J (some a) (old:=old) (olds:=ols.toArray) rfl (by simpa using f2) (by simpa using f3) (by simpa using f1)
     (fun w2 hw=>by simp only [Builtin.firstCells]; exact f4 w2 hw) h
   ·simp at h
 ·
  rename_i id o len es;split at h
  ·rename_i lq;subst lq;simp only [VR] at hx;obtain⟨hid,a,cap,rfl,hlen,hc⟩:=hx;split at h
   ·rename_i cs e' Y;obtain⟨arr,lo,hi,cus,b1,b2,b3,b4,b5,b6,b7⟩:=(r.live id _ Y).2.1;split at h
    ·rename_i hle;split at h
     ·rename_i lE hs;simp only [ag,ak] at h;obtain⟨rfl,rfl⟩:=h;obtain⟨w',g1,g2,g3⟩:=lM (P:=P) r Y hs src.UQ src.rX
      have kb:len+m<=cap:=by
       simp only [eC] at hc;rcases hc with ⟨_,hc⟩|⟨rfl,rfl,hc⟩
       ·have:(len+m)*ie.size<=cap*ie.size:=J
        exact aoi this jU
       ·have:(0+m)*ie.size=0:=J
        rcases Nat.mul_eq_zero.1 this with hh|hh<;>omega
      have CU:(storeCells (a.add (len*ie.size)) us.toList).run P w= .ok () w':=by
       rcases sO hc with ha|ha
       ·rw [ha,e8,amF]; exact g1
       ·obtain rfl:m=0:=J
        have nN:us.toList= []:=amJ (by rw [bn,uG,amH]);rw [nN] at g1 ⊢;exact g1
      refine⟨_,w',E,kA (s:=ie.size) ht yp jX U h5 src kb CU,g2,g3,?_⟩;simp only [VR];refine⟨hid,a,cap,rfl,kb,?_⟩;simp only [eC] at hc ⊢;rcases hc with hc|⟨rfl,rfl,hc⟩
      ·exact .inl hc
      ·exact .inr ⟨rfl,J,hc⟩
     ·simp at h
    ·rename_i alg;split at h
     ·rename_i Yi;obtain⟨Yi,rfl⟩:=Yi;split at h
      ·rename_i old hd;obtain⟨d1,d2',d3⟩:=b2.eE hd;have BX:=b2.length
       have hm0:m≠0:=by intro hm;subst hm;rw [bh] at alg;omega
       by_cases kb:len+m<=cap
       ·
        have aeS:a=⟨(E.θ id).1,(E.θ id).2+o,none⟩/\o+cap*ie.size=E.κ id:=by
         simp only [eC] at hc;rcases hc with hc|hc
         ·exact hc
         ·omega
        obtain⟨rfl,amw⟩:=aeS;unfold nj at h;split at h
        ·simp only [ag,ak] at h;obtain⟨rfl,rfl⟩:=h;have UY:len*ie.size+m*ie.size<=cap*ie.size:=by rw [<- amM]; exact am8 _ kb
         have hul:us.toList.length=m*ie.size:=by simpa using uG
         obtain⟨w',J3,e1,e2,e3,e4,e5,e6,e7⟩:=mA (P:=P) (E.θ id).1 ((E.θ id).2+(o+len*ie.size)) e' lo hi us.toList 0 arr w b1 b6 J src.rX
         have CU:(storeCells ((⟨(E.θ id).1,(E.θ id).2+o,none⟩ : Addr).add (len*ie.size)) us.toList).run P w= .ok () w':=by rw [e8,amF]; exact e1
         have kp:fw E w.heap (E.ext H.fresh ((E.θ id).1,(E.θ id).2+o) (cap*ie.size)) w'.heap:=
          ⟨rfl,fun _ hh=> .inr hh,fun _ hh=>En.ext_θ E _ _ _ (r.qY hh),fun _ hh=>En.ext_κ E _ _ _ (r.qY hh),fun _ hh=>hh,(j9 r Y e4).BE⟩
         have BT:=NN r Y (.cells (old++news) e') o (cap*ie.size) e3 e4 e2 (by
          simp only [OR,En.ext_θ_new,En.ext_κ_new];refine⟨J3,lo,hi,cus.drop o++us.toList,e5,cw.keep kp _ _ (d1.append src.UQ),?_,?_,J,by rw [e6]; exact b6,?_⟩
          ·intro i y hy;rw [e7];have hdl:(cus.drop o).length=len*ie.size:=by rw [br]; omega
           rw [aoc] at hy;split at hy
           ·rename_i hi';rw [af J];rw [am4] at hy;rw [amF];exact b3 _ _ hy
           ·rename_i hi';have I6:=(aW.1 hy).1;rw [ah J];rw [show (E.θ id).2+o+i-((E.θ id).2+(o+len*ie.size)+0)=i-(cus.drop o).length from by omega];exact hy
          ·rw [aZ,d3]; omega
          ·intro y hy;rcases amC.1 hy with hy|hy
           ·exact b7 y (bw hy)
           ·exact src.rX y hy)
         refine⟨_,w',_,kA (s:=ie.size) ht yp jX U h5 src kb CU,BT.1,BT.2,?_⟩;simp only [VR,show (H.drop id).fresh=H.fresh from rfl];refine⟨En.gB _ _ _ _,_,_,rfl,kb,?_⟩;simp only [eC,En.ext_θ_new,En.ext_κ_new];left;exact⟨ad,J⟩
        ·simp at h
       ·
        have aiU:mC H (.ptr id o) (len*ie.size)=some old:=by
         simp only [mC,Y,hd];have:len*ie.size=old.length:=J
         rw [this];clear h hd d1 d3 this
         induction old with
         |nil=>rfl
         |cons y ys ih=>simp [As.iy,ih]
        obtain⟨ols,f1,f2,f3,f4⟩:=uR (P:=P) r hid hc hlen aiU;obtain⟨q1,q2⟩:=wK r id;have akJ:Src P E w ie.size m news u2 us:=src
        obtain⟨y,w',E',p1,p2,p3,p4⟩:=oY (t:=t) (t2:=t2) (ty:=ty) (cap:=cap) q2 vc ht yp jX rI wA akJ J (some a) (old:=old) (olds:=ols.toArray) rfl (by simpa using f2) (by simpa using f3) (by simpa using f1)
         (fun w2 hw=>by simp only [Builtin.firstCells]; exact f4 w2 hw) h
        exact⟨y,w',E',p1,q1.trans p2,p3,p4⟩
      ·simp at h
     ·simp at h
   ·simp at h
  ·simp at h
 ·
  rename_i cs n full;have hx0:=hx;simp only [VR] at hx;obtain⟨b,o,cap,cus,rfl,hn,hf,g4,g5,g6,g7⟩:=hx;split at h
  ·rename_i hm;subst hm;simp only [ag,ak] at h;obtain⟨rfl,rfl⟩:=h;have nN:us.toList= []:=amJ (by rw [bn,uG,amH]);exact⟨_,w,E,kA (s:=ie.size) ht yp jX U h5 src J (by simp only [nN]; rfl),eS.refl _ _ _,r,hx0⟩
  ·rename_i hm;split at h
   ·rename_i G9;have fV:=hf G9;subst fV;split at h
    ·rename_i old hold;obtain⟨j1,j2⟩:=g5.iy hold;have BX:=g5.length;have htl:(cus.take (cap*ie.size)).length=cap*ie.size:=by rw [a8]; omega
     exact oY (cap:=cap) r vc ht yp jX rI wA src J (some ⟨b,o,none⟩) (old:=old) (olds:=(cus.take (cap*ie.size)).toArray) rfl (by simpa using j1)
      (fun x hx=>g7 x (amG (by simpa using hx))) (by simpa using htl)
      (fun w2 hw=>by simp only [Builtin.firstCells]; exact (g6.take _).QH htl w2 hw) h
    ·simp at h
   ·simp at h
 ·simp at h
theorem L7 [bG] {tt:TT} (cJ:eB P tt) {H H':Hp} (r:bN E H w) {t t2 ty:Nat} {x y v:W} {u u2:Value} (hx:VR E w.heap x u) (hy:VR E w.heap y u2) (h:EO tt t t2 x y H=some (v,H')) :
 ∃z w' E',(Builtin.append_ #[t,t2] ty #[u,u2]).run P w= .ok z w'/\eS E H w E' H' w'/\bN E' H' w'/\VR E' w'.heap v z:=by
 unfold EO at h;split at h
 ·rename_i ti fN;split at h
  ·rename_i e hk;split at h
   ·rename_i ie kO;split at h
    ·grind
    ·rename_i PH XY;obtain⟨d2,jX,CV⟩:=r4 (cJ t2 PH XY);split at h
     ·grind
     ·rename_i k2 gn;split at h
      ·grind
      ·rename_i je;simp only [not_or,Classical.not_not] at je;split at h
       ·grind
       ·rename_i m news Of;obtain⟨us,src⟩:=qA (P:=P) r hy Of;refine vN r (cJ e ie kO) (ff (cJ t ti fN) hk) jX ?_ je.1 je.2.1 je.2.2 src hx h;intro k hd;subst hd;cases tc:PH.kind<;>rw [tc] at CV<;>simp only [HX] at CV
        grind
   grind
  grind
 grind
end
section
variable {P:Program} {E:En} {w:World}
theorem OU [bG] {tt:TT} (cJ:eB P tt) {H H':Hp} (r:bN E H w) {t ty:Nat} {x:W} {u:Value} (hx:VR E w.heap x u) (h:Jy tt t x H=some H') :
 ∃w',(Builtin.clear_ #[t] ty #[u]).run P w= .ok (.tuple #[]) w'/\eS E H w E H' w'/\bN E H' w':=by
 unfold Jy at h;split at h
 ·rename_i ti fN;split at h
  ·rename_i e hk;have hu:=ff (cJ t ti fN) hk;split at h
   ·rename_i ie kO;obtain⟨inf,d,z,U,Z,h3,h4,h5,h6,h7,h8⟩:=(cJ e ie kO).all;have hz:=eV (E:=E) (h:=w.heap) h4;split at h
    ·simp at h;subst h;simp only [VR] at hx;subst hx;exact⟨w,by simp [Builtin.clear_,run_underlying hu],eS.refl _ _ _,r⟩
    ·simp at h;subst h;simp only [VR] at hx;obtain⟨⟨x,rfl⟩,_⟩:=hx;exact⟨w,by cases x<;>simp [Builtin.clear_,run_underlying hu],eS.refl _ _ _,r⟩
    ·rename_i id o len c;simp only [VR] at hx;obtain⟨hid,a,cap,rfl,hlen,hc⟩:=hx;split at h
     ·simp at h;subst h;exact⟨w,by simp [Builtin.clear_,run_underlying hu],eS.refl _ _ _,r⟩
     ·rename_i hl0;split at h
      ·grind
      ·rename_i gn;split at h
       ·rename_i cs e' Y;split at h
        ·rename_i lE hs;simp at h;subst h
         have ha:a=⟨(E.θ id).1,(E.θ id).2+o,none⟩:=by
          grind [sO]
         have aeF:z.cells.toList≠[]:=by
          intro hx;have:=hz.1.length
          grind
         have hzc:(Builtin.zeroCells z.cells len).toList=dS z.cells.toList len:=uJ z.cells aeF len;obtain⟨w',g1,g2,g3⟩:=lM (P:=P) r Y hs (lY hz.1 len) (fun u hu=>hz.2 u (lX hu));refine⟨w',?_,g2,g3⟩;subst ha;obtain⟨l,rfl⟩ : ∃l,len=l+1:=⟨len-1,by have:len≠0:=fun hh=>hl0 hh; omega⟩;simp [Builtin.clear_,run_underlying hu,zeroValue,typeInfo,U,h3,hzc,g1]
        grind
       grind
    grind
   grind
  grind
 grind
theorem OF [bG] {tt:TT} (cJ:eB P tt) {H H':Hp} (r:bN E H w) {t:Nat} {x v:W} {u:Value} (hx:VR E w.heap x u) (h:Jo tt t x H=some (v,H')) :
 ∃y w' E',(Instr.range t u).run P w= .ok y w'/\eS E H w E' H' w'/\bN E' H' w'/\VR E' w'.heap v y:=by
 unfold Jo at h;split at h
 ·rename_i ti fN;split at h
  ·rename_i hk;split at h
   ·rename_i b;simp only [ag,ak] at h;obtain⟨rfl,rfl⟩:=h;simp only [VR] at hx;obtain⟨rfl,fD⟩:=hx
    obtain⟨s1,s2⟩:=pD r (.stringIter (df b) 0) (.j4 b 0) 0 (w':=w.iter (df b) 0) rfl ⟨rfl,rfl,rfl⟩ (by
     simp only [OR,En.ext_θ_new]
     exact⟨World.iter_heap _ _ _,trivial,fD⟩)
    exact⟨_,_,_,run_range_string w t (df b) (fJ (cJ t ti fN) hk),s1,s2,yT r 0 _ 0⟩
   grind
  ·rename_i kt et hk;have hu:=sJ (cJ t ti fN) hk;split at h
   ·simp only [ag,ak] at h;obtain⟨rfl,rfl⟩:=h;simp only [VR] at hx;subst hx
    obtain⟨s1,s2⟩:=pD r (.mapIter none 0 #[] 0) (.jt none 0 [] 0) 0 (w':={ w with heap:=w.heap.push (.mapIter none 0 #[] 0) }) rfl ⟨rfl,rfl,rfl⟩ (by
     simp only [OR,En.ext_θ_new]
     exact⟨ad,trivial⟩)
    exact⟨.pointer (some ⟨w.heap.size,0,none⟩),_,_,by simp [Instr.range,run_underlying hu],s1,s2,yT r 0 _ 0⟩
   ·rename_i id;split at h
    ·rename_i es c Y;simp only [ag,ak] at h;obtain⟨rfl,rfl⟩:=h;simp only [VR] at hx;obtain⟨rfl,hid⟩:=hx;obtain⟨bJ,c',g1,g2,gS⟩:=(r.live id _ Y).2.1;have hg:=eI (P:=P) g1 ad;have hc:=gS.1;subst hc
     obtain⟨s1,s2⟩:=pD r (.mapIter (some (E.θ id).1) c' #[] c') (.jt (some id) c' [] c') 0 (w':={ w with heap:=w.heap.push (.mapIter (some (E.θ id).1) c' #[] c') }) rfl ⟨rfl,rfl,rfl⟩ (by
      simp only [OR,En.ext_θ_new];rw [En.ext_θ _ _ _ _ (r.qY hid)]
      exact⟨ad,trivial,.inr hid⟩)
     exact⟨.pointer (some ⟨w.heap.size,0,none⟩),_,_,by simp [Instr.range,run_underlying hu,hg],s1,s2,yT r 0 _ 0⟩
    ·simp at h
   ·simp at h
  grind
 grind
theorem Ul [bG] {H H':Hp} (r:bN E H w) {x v:W} {u:Value} {isS:Bool} (hx:VR E w.heap x u) (h:OH x isS H=some (v,H')) (ty:Nat) :
 ∃y w',(Instr.next u isS ty).run P w= .ok y w'/\eS E H w E H' w'/\bN E H' w'/\VR E w'.heap v y:=by
 unfold OH at h;split at h
 ·have over:VR E w.heap (.tuple [.bool (.lit false)]) (.tuple #[.bool false]):=by
   simp only [VR,cw]; exact⟨[.bool false],rfl,_,_,rfl,by simp [SB.den],rfl⟩
  split at h
  ·rename_i id;simp only [VR] at hx;obtain⟨rfl,hid⟩:=hx;split at h
   ·rename_i s l z Y;simp only [ag,ak] at h;obtain⟨rfl,rfl⟩:=h;obtain⟨g1,g2⟩:=(r.live id _ Y).2.1;rw [g2];have hg:=eI (P:=P) g1 ad;exact⟨_,w,by simp only [Instr.next,Sem.run_bind,hg,Result.andThen_ok,bh]; rfl,eS.refl _ _ _,r,over⟩
   ·rename_i m s l z Y;obtain⟨g1,g2,g3⟩:=(r.live id _ Y).2.1;rw [g2];have hg:=eI (P:=P) g1 ad;split at h
    ·rename_i cc hm;simp only [ag,ak] at h;obtain⟨rfl,rfl⟩:=h;obtain⟨bJ,c',m1,m2,m3⟩:=(r.live m _ hm).2.1;simp only [eK] at m2;have LD:bJ= #[]:=by simpa using m2
     subst LD;have hgm:=eI (P:=P) m1 ad;refine⟨_,w,?_,eS.refl _ _ _,r,over⟩;simp only [Instr.next,Sem.run_bind,hg,hgm,Result.andThen_ok,bh];have hf: ∀p:MapEntry->Bool,Array.filter p #[] 0 0= #[]:=fun _=>rfl;simp [choose,Sem.run,Question.forced,Result.andThen,hf]
    ·rename_i k v n c hm;obtain⟨bJ,c',m1,m2,m3⟩:=(r.live m _ hm).2.1;simp only [eK] at m2;obtain⟨e,r0,he,hek,hev,_,rfl⟩:=m2;have LD:bJ= #[e]:=by apply aoa.1; simpa using he
     subst LD;have hgm:=eI (P:=P) m1 ad;obtain⟨hc,hb⟩:=m3;simp at hb;subst hc;subst hb;split at h
     ·split at h
      ·rename_i fD;simp only [ag,ak] at h;obtain⟨rfl,rfl⟩:=h
       obtain⟨s1,s2⟩:=fC r Y (.jt (some m) s [e.born] c') (.mapIter (some (E.θ m).1) s #[e.born] c') (by
        intro h' hh _
        exact⟨hh,g2,g3⟩)
       refine⟨.tuple #[.bool true,e.key,e.val],_,?_,s1,s2,?_⟩
       ·simp only [Instr.next,Sem.run_bind,hg,hgm,Result.andThen_ok,bh];have h0: ¬s<=e.born:=J
        simp [choose,Sem.run,Question.forced,Result.andThen,fD,h0,g1,setObj,Sem.run_bind]
       ·have kp:fw E w.heap E (w.heap.setIfInBounds (E.θ id).1 (.mapIter (some (E.θ m).1) s #[e.born] c')):=
         j9 (w':={ w with heap:=w.heap.setIfInBounds (E.θ id).1 (.mapIter (some (E.θ m).1) s #[e.born] c') }) r Y fun b hb=>by
          show (w.heap.setIfInBounds (E.θ id).1 _)[b]?=_
          grind
        simp only [VR,cw];exact⟨_,rfl,_,_,rfl,by simp [SB.den],_,_,rfl,VR.keep kp _ _ hek,_,_,rfl,VR.keep kp _ _ hev,rfl⟩
      ·simp at h
     ·rename_i y;split at h
      ·rename_i hy;obtain⟨rfl,fD⟩:=hy;simp only [ag,ak] at h;obtain⟨rfl,rfl⟩:=h;refine⟨_,w,?_,eS.refl _ _ _,r,over⟩;simp only [Instr.next,Sem.run_bind,hg,hgm,Result.andThen_ok,bh];have h0: ¬z<=e.born:=J
       simp [choose,Sem.run,Question.forced,Result.andThen,h0]
      ·simp at h
     ·simp at h
    ·simp at h
   ·simp at h
  ·simp at h
 ·split at h
  ·rename_i id;split at h
   ·rename_i b p Y;obtain⟨g1,g2,g3⟩:=(r.live id _ Y).2.1;simp only [VR] at hx;obtain⟨rfl,hid⟩:=hx;rw [g2];have hg:=eI (P:=P) g1 ad;split at h
    ·rename_i hn;simp only [ag,ak] at h;obtain⟨rfl,rfl⟩:=h;rw [dg,anH] at hn;have hp: ¬p<(df b).size:=by rw [kH]; omega
     refine⟨.tuple #[.bool false],w,?_,eS.refl _ _ _,r,?_⟩
     ·simp [Instr.next,hg,hp]
     ·simp only [VR,cw]; exact⟨[.bool false],rfl,_,_,rfl,by simp [SB.den],rfl⟩
    ·rename_i c hn;split at h
     ·rename_i hc;simp only [ag,ak] at h;obtain⟨rfl,rfl⟩:=h;rw [dg] at hn;have hpl:=(aW.1 hn).1;have hp:p<(df b).size:=by rw [kH]; exact hpl
      have hb:(df b)[p]'hp=UInt8.ofNat c:=by
       have U:(df b)[p]?=some ((df b)[p]'hp):=getElem?_pos (df b) p hp
       grind [Du]
      have hbn:((df b)[p]'hp).toNat=c:=by rw [hb]; simp; omega
      have alB:=decode_ascii (df b) p hp (by rw [hbn]; exact hc)
      obtain⟨s1,s2⟩:=fC r Y (.j4 b (p+1)) (.stringIter (df b) (p+1)) (by
       intro h' hh _
       exact⟨hh,g2,g3⟩)
      refine⟨.tuple #[.bool true,goInt p,.int .i32 ((df b)[p]'hp).toNat],_,?_,s1,s2,?_⟩
      ·simp only [Instr.next,Sem.run_bind,hg,Result.andThen_ok,hp,if_true,alB,gy (P:=P) g1 ad,Sem.run_pure]
      ·simp only [VR,cw,hbn];exact⟨_,rfl,_,_,rfl,by simp [SB.den],_,_,rfl,by simp [V.den,goInt],_,_,rfl,by simp [V.den],rfl⟩
     grind
   grind
  grind
theorem OP [bG] {H:Hp} (r:bN E H w) {x v:W} {u:Value} (hx:VR E w.heap x u) (h:Jv x H=some v) :
 ∃y,(Instr.entry u).run P w= .ok y w/\VR E w.heap v y:=by
 unfold Jv at h;split at h
 ·rename_i id;simp only [VR] at hx;obtain⟨rfl,hid⟩:=hx;split at h
  ·rename_i m s y z Y;obtain⟨g1,g2,g3⟩:=(r.live id _ Y).2.1;rw [g2];have hg:=eI (P:=P) g1 ad;split at h
   ·rename_i k v n c hm;obtain⟨bJ,c',m1,m2,m3⟩:=(r.live m _ hm).2.1;simp only [eK] at m2;obtain⟨e,r0,he,hek,hev,_,rfl⟩:=m2;have LD:bJ= #[e]:=by apply aoa.1; simpa using he
    subst LD;have hgm:=eI (P:=P) m1 ad;obtain⟨hc,hb⟩:=m3;simp at hb;split at h
    ·rename_i hy;obtain⟨rfl,rfl⟩:=hy;simp only [ag] at h;subst h hc hb;refine⟨.tuple #[e.key,e.val],?_,?_⟩
     ·simp only [Instr.entry,Sem.run_bind,hg,hgm,Result.andThen_ok,bh];simp [hgm]
     ·simp only [VR,cw];exact⟨_,rfl,_,_,rfl,hek,_,_,rfl,hev,rfl⟩
    ·simp at h
   ·simp at h
  ·simp at h
 ·simp at h
theorem Iz {ρ:Nat->Int} {pc:List (SB×Bool)} (hp:bT ρ pc) {c:SB} {b:Bool} (h:c.den ρ=b):bT ρ ((c,b)::pc):=by
 intro d x hm;rcases aw.1 hm with hm|hm
 ·grind
 ·exact hp d x hm
theorem cE {α:Type} {ρ:Nat->Int} {s:St} (hp:bT ρ s.pc) {c:SB} {f:St->Bool->T α} {r:α} (h:(jn s c f).leaf ρ=some r) :
 ∃ea,bT ρ ea/\(f { s with pc:=ea } (c.den ρ)).leaf ρ=some r:=by
 unfold jn at h;split at h
 ·rename_i b hb;exact⟨s.pc,hp,by rw [gD hp hb]; exact h⟩
 ·split at h
  ·rename_i d;simp only [T.leaf] at h;split at h
   ·rename_i hc;exact⟨_,Iz hp hc,by simp only [SB.den,hc]; exact h⟩
   ·rename_i hc;exact⟨_,Iz hp hc,by simp only [SB.den,hc]; exact h⟩
  ·simp only [T.leaf] at h
   grind [Iz]
theorem T.fg {α β:Type} {ρ:Nat->Int} {f:α->T β} {r:β}: ∀{x:T α},(x.bind f).leaf ρ=some r->∃a,x.leaf ρ=some a/\(f a).leaf ρ=some r
 | .fail,h=>by simp [T.bind,T.leaf] at h
 | .ret a,h=> ⟨a,rfl,h⟩
 | .split c x y,h=>by simp only [T.bind,T.leaf] at h ⊢;split at h<;>exact T.fg h
theorem nk {mx:Bool}: ∀{xs:List W} {a:V} {k:IntKind} {s s':St} {us:List Value} {v:W},bT E.ρ s.pc->cw E w.heap xs us->(tu mx xs a k s).leaf E.ρ=some (v,s')->
 s'.h=s.h/\s'.bE=s.bE/\bT E.ρ s'.pc/\∃u,(us.foldlM (if mx then Builtin.max2 else Builtin.min2) (.int k (a.den E.ρ))).run P w= .ok u w/\VR E w.heap v u
 |[],a,k,s,s',us,v,hp,hv,h=>by simp only [tu,T.leaf,ag,ak] at h;obtain⟨rfl,rfl⟩:=h;rw [fP] at hv;subst hv;exact⟨rfl,rfl,hp,_,rfl,by simp only [VR]⟩
 |x::xs,a,k,s,s',us,v,hp,hv,h=>by
  rw [bO] at hv;obtain⟨u,vs,rfl,hx,mM⟩:=hv;cases x<;>simp only [tu,T.leaf,reduceCtorEq] at h;rename_i k' b;simp only [VR] at hx;subst hx;obtain⟨ea,fA,U⟩:=cE hp h;cases mx
  ·simp only [aQ,if_false,dU] at U ⊢;by_cases hc:b.den E.ρ<a.den E.ρ
   ·simp only [hc,decide_true,if_true] at U;obtain⟨q1,q2,q3,u,q4,q5⟩:=nk fA mM U;refine⟨q1,q2,q3,u,?_,q5⟩;simp only [anW,Sem.run_bind,Builtin.min2,Sem.run_pure,Result.andThen_ok,hc,if_true]
    grind
   ·simp only [hc,decide_false,aQ,if_false] at U;obtain⟨q1,q2,q3,u,q4,q5⟩:=nk fA mM U;refine⟨q1,q2,q3,u,?_,q5⟩;simp only [anW,Sem.run_bind,Builtin.min2,Sem.run_pure,Result.andThen_ok,hc,if_false]
    grind
  ·simp only [if_true,dU] at U ⊢;by_cases hc:a.den E.ρ<b.den E.ρ
   ·simp only [hc,decide_true,if_true] at U;obtain⟨q1,q2,q3,u,q4,q5⟩:=nk fA mM U;refine⟨q1,q2,q3,u,?_,q5⟩;simp only [anW,Sem.run_bind,Builtin.max2,Sem.run_pure,Result.andThen_ok,gt_iff_lt,hc,if_true]
    grind
   ·simp only [hc,decide_false,aQ,if_false] at U;obtain⟨q1,q2,q3,u,q4,q5⟩:=nk fA mM U;refine⟨q1,q2,q3,u,?_,q5⟩;simp only [anW,Sem.run_bind,Builtin.max2,Sem.run_pure,Result.andThen_ok,gt_iff_lt,hc,if_false]
    grind
end
section
variable {P:Program} {E:En} {w:World}
theorem Tl (ρ:Nat->Int) (a b:SB):(W3 a b).den ρ=(a.den ρ&&b.den ρ):=by unfold W3;split<;>simp [SB.den]
theorem Ur {i:TI} {t:Nat} (fN:mf P t i) {x y:W} {u v:Value} (hx:VR E w.heap x u) (hy:VR E w.heap y v) {c:SB} (h:OY i.kind x y=some c) (d:Nat) :
 (Op.equalIn (d+1) t u v).run P w= .ok (c.den E.ρ) w/\u.oneCell'=true/\v.oneCell'=true/\i.agg=false:=by
 unfold OY at h;split at h
 ·rename_i k hk;split at h
  ·split at h
   ·rename_i tc;subst tc;simp at h;subst h;simp only [VR] at hx hy;subst hx hy;exact⟨by rw [run_equalIn_int w d t _ _ _ _ (oK fN hk),gG],rfl,rfl,by simp [TI.agg,TK.agg,hk]⟩
   grind
  grind
 ·rename_i hk;split at h
  ·simp at h;subst h;simp only [VR] at hx hy;obtain⟨rfl,hx⟩:=hx;obtain⟨rfl,hy⟩:=hy;exact⟨by rw [run_equalIn_string w d t _ _ (fJ fN hk),PQ hx hy]; rfl,rfl,rfl,by simp [TI.agg,TK.agg,hk]⟩
  ·obtain⟨a,b,rfl,rfl,hd⟩:=Dt hx hy h;exact⟨by rw [run_equalIn_string w d t _ _ (fJ fN hk),xA,hd],rfl,rfl,by simp [TI.agg,TK.agg,hk]⟩
 ·rename_i hk;split at h
  ·simp only [VR] at hx hy;subst hx hy;exact⟨by rw [run_equalIn_bool' w d t _ _ (Ks fN hk),B7 h],rfl,rfl,by simp [TI.agg,TK.agg,hk]⟩
  grind
 grind
theorem RV {tt:TT} (cJ:eB P tt) {xs ys:List W} {us vs:List Value} (hx:cw E w.heap xs us) (hy:cw E w.heap ys vs) (d:Nat): ∀{lR:List Field} {l:List (Nat×Nat×Nat)} {c:SB},
 (lR.mapM fun f=>(P.info? f.type).map fun i=>(f.offset,f.type,i.size))=some l->(∀f∈lR,f.name≠ "_")->YE tt xs ys l=some c->
 (Op.eqFields (d+1) us.toArray vs.toArray lR).run P w= .ok (c.den E.ρ) w
 |[],l,c,hm,_,h=>by simp at hm;subst hm;simp [YE] at h;subst h;simp [Op.eqFields,SB.den]
 |f::lR,l,c,hm,hn,h=>by
  simp only [anf,anG,anm] at hm;obtain⟨p,U,ls,Z,h3⟩:=hm;simp only [pure,ag] at h3;subst h3;rw [aO] at U;obtain⟨inf,alp,rfl⟩:=U;simp only [YE] at h;split at h
  ·grind
  ·rename_i i hi;split at h
   ·rename_i x y hxn hyn;split at h
    ·grind
    ·rename_i c1 hc1;split at h
     ·grind
     ·rename_i c2 hc2;simp at h;subst h;obtain⟨u,Od,Rm⟩:=hx.nth hxn;obtain⟨v,Rl,X'⟩:=hy.nth hyn;obtain⟨e1,e2,e3,e4⟩:=Ur (w:=w) (cJ f.type i hi) Rm X' hc1 d;have ih:=RV cJ hx hy d Z (fun g hg=>hn g (by simp [hg])) hc2;have p1:(part f.type us.toArray f.offset).run P w= .ok u w:=by simp [part,kN (cJ f.type i hi),e4,Od]
      have p2:(part f.type vs.toArray f.offset).run P w= .ok v w:=by simp [part,kN (cJ f.type i hi),e4,Rl]
      simp only [Op.eqFields];rw [ah (hn f ad)];simp only [Sem.run_bind,p1,p2,e1,Result.andThen_ok,Tl];cases RC:c1.den E.ρ
      ·simp
      grind
   grind
theorem EM {tt:TT} (cJ:eB P tt) {t:Nat} {xs ys:List W} {us vs:List Value} {c:SB} (hx:cw E w.heap xs us) (hy:cw E w.heap ys vs) (h:C3 tt t xs ys=some c) (op:BinOp) (x y:Operand) :
 (eqGuard op t x y (.agg us.toArray) (.agg vs.toArray)).run P w= .ok () w/\(binOp .eql t (.agg us.toArray) (.agg vs.toArray)).run P w= .ok (.bool (c.den E.ρ)) w/\(binOp .neq t (.agg us.toArray) (.agg vs.toArray)).run P w= .ok (.bool (!(c.den E.ρ))) w:=by
 unfold C3 at h;split at h
 ·grind
 ·rename_i i hi;split at h
  ·rename_i fs hk;split at h
   ·rename_i hq;have fN:=cJ t i hi;have he:=fN.eqs hq;obtain⟨lR,hu,hm⟩:=sI fN hk;unfold RT at he;rw [hu] at he;simp only [an,amW,aX,bne_iff_ne,ne_eq] at he;obtain⟨⟨U,Z⟩,h3⟩:=he;have hf:P.fieldsOf t=lR:=by simp [Program.fieldsOf,hu]
    have h10:(10000:Nat)=9998+1+1:=rfl
    have key:(Op.equalIn 10000 t (.agg us.toArray) (.agg vs.toArray)).run P w= .ok (c.den E.ρ) w:=by rw [h10];generalize (9998:Nat)=n;rw [run_equalIn_struct w (n+1) t _ _ (by rw [hf]; exact hu) U,hf];exact RV cJ hx hy n hm (fun f hf=>(h3 f hf).1) h
    refine⟨run_eqGuard_agg w op t x y _ _ Z,?_,?_⟩
    ·rw [run_eql_struct,key]; rfl
    ·rw [run_neq_struct,key]; rfl
   grind
  grind
def MM [bG] (E:En) (s:St) (w:World) (v:W) (s':St) (u:Value) (w':World):Prop:= ∃E',eS E s.h w E' s'.h w'/\bN E' s'.h w'/\VR E' w'.heap v u
def jO [bG] (P:Program) (E:En) (s:St) (o:Oper) (a:Act) (w:World) (v:W) (s':St):Prop:=
 s'.bE=s.bE/\bT E.ρ s'.pc/\oV P o a w (MM E s w v s')
theorem bC {α:Type} {ρ:Nat->Int} {a b:α} (h:(T.ret a).leaf ρ=some b):a=b:=by simpa [T.leaf] using h
theorem gA {s:St} {a:Act} {x:Operand} {f:W->T (W×St)} {r:W×St} (sr:SR E w.heap s.bE a) (h:(yZ s x f).leaf E.ρ=some r): ∃v,VR E w.heap v (a.eval x)/\(f v).leaf E.ρ=some r:=by
 unfold yZ at h;split at h
 ·rename_i v hv; exact⟨v,gf sr hv,h⟩
 ·simp [T.leaf] at h
theorem gK {s s':St} {v:W} {r:Option W} {ρ:Nat->Int} (h:(pz s r).leaf ρ=some (v,s')):r=some v/\s'=s:=by
 unfold pz at h;split at h
 ·have:=bC h; simp only [ak] at this; exact⟨by rw [this.1],this.2.symm⟩
 ·simp [T.leaf] at h
theorem yQ {s s':St} {v:W} {r:Option Hp} {ρ:Nat->Int} (h:(NK s r).leaf ρ=some (v,s')): ∃H,r=some H/\v=W.undef/\s'= { s with h:=H }:=by
 unfold NK at h;split at h
 ·rename_i H; have:=bC h; simp only [ak] at this; exact⟨H,rfl,this.1.symm,this.2.symm⟩
 ·simp [T.leaf] at h
theorem py {s s':St} {v:W} {r:Option (W×Hp)} {ρ:Nat->Int} (h:(BF s r).leaf ρ=some (v,s')): ∃H,r=some (v,H)/\s'= { s with h:=H }:=by
 unfold BF at h;split at h
 ·rename_i x H; have:=bC h; simp only [ak] at this; obtain⟨rfl,rfl⟩:=this; exact⟨H,rfl,rfl⟩
 ·simp [T.leaf] at h
theorem jY {h:Array Obj}:VR E h W.undef undef:=by simp only [W.undef,VR,cw]; exact⟨[],rfl,rfl⟩
variable {s s':St} {o:Oper} {a:Act} {v:W}
theorem jO.pure [bG] (hp:bT E.ρ s.pc) (r:bN E s.h w) {u:Value} (h:(execOp a.eval o).run P w= .ok (.value u) w) (hv:VR E w.heap v u):jO P E s o a w v s:=
 ⟨rfl,hp,oV.value h ⟨E,eS.refl _ _ _,r,hv⟩⟩
theorem jO.heap [bG] {H':Hp} {E':En} {w':World} (hp:bT E.ρ s.pc) {u:Value} (h:(execOp a.eval o).run P w= .ok (.value u) w') (U:eS E s.h w E' H' w') (Z:bN E' H' w') (hv:VR E' w'.heap v u) :
 jO P E s o a w v { s with h:=H' }:=
 ⟨rfl,hp,oV.value h ⟨E',U,Z,hv⟩⟩
theorem jO.unit [bG] {H':Hp} {w':World} (hp:bT E.ρ s.pc) (h:(execOp a.eval o).run P w= .ok .skip w') (U:eS E s.h w E H' w') (Z:bN E H' w') :
 jO P E s o a w W.undef { s with h:=H' }:=
 ⟨rfl,hp,oV.skip h ⟨E,U,Z,jY⟩⟩
end
theorem yi {α:Type} {ρ:Nat->Int} {kk:TK} {k:W} {r:α} {f:St->T α}: ∀{es:List (W×W×Nat)} {s:St},bT ρ s.pc->(tI kk k es s f).leaf ρ=some r->∃ea,bT ρ ea/\(f { s with pc:=ea }).leaf ρ=some r
 |[],s,hp,h=> ⟨s.pc,hp,h⟩
 |(k',v,b)::es,s,hp,h=>by
  simp only [tI] at h;split at h
  ·split at h
   ·exact⟨s.pc,hp,h⟩
   ·exact yi hp h
  ·split at h
   ·obtain⟨fI,fq,U⟩:=cE hp h;split at U
    ·grind
    ·obtain⟨jH,jz,Z⟩:=yi (s:={ s with pc:=fI }) fq U
     grind
   ·exact⟨s.pc,hp,h⟩
theorem qy {α:Type} {ρ:Nat->Int} {tt:TT} {t:Nat} {m k:W} {r:α} {f:St->T α} {s:St} (hp:bT ρ s.pc) (h:(nF tt t m k s f).leaf ρ=some r): ∃ea,bT ρ ea/\(f { s with pc:=ea }).leaf ρ=some r:=by
 unfold nF at h;split at h
 ·split at h
  ·split at h
   ·split at h
    ·exact yi hp h
    ·exact⟨s.pc,hp,h⟩
   ·exact⟨s.pc,hp,h⟩
  ·exact⟨s.pc,hp,h⟩
 ·exact⟨s.pc,hp,h⟩
theorem L9 {ρ:Nat->Int} {k:IntKind} {e:V} {f:W->St->T (W×St)} {r:W×St}: ∀(n j:Nat) {s:St},bT ρ s.pc->(j:Int)<=e.den ρ->e.den ρ<(j:Int)+n->(Ma k e f n j s).leaf ρ=some r->
 ∃(i:Nat) (ea:List (SB×Bool)),bT ρ ea/\e.den ρ=(i:Int)/\(f (.int k (.lit (Int.ofNat i))) { s with pc:=ea }).leaf ρ=some r
 |0,j,s,_,_,_,h=>by simp [Ma,T.leaf] at h
 |n+1,j,s,hp,U,Z,h=>by
  simp only [Ma] at h;split at h
  ·exact⟨j,s.pc,hp,J,h⟩
  ·obtain⟨fI,fq,h3⟩:=cE hp h;rw [gG] at h3;split at h3
   ·rename_i he;simp only [V.den,beq_iff_eq] at he
    grind
   ·rename_i he;simp only [V.den,beq_eq_false_iff_ne,ne_eq] at he;have hj:(Int.ofNat j)=(j:Int):=rfl;rw [hj] at he;obtain⟨i,jH,jz,q1,q2⟩:=L9 n (j+1) (s:={ s with pc:=fI }) fq (by push_cast; omega) (by push_cast at Z ⊢; omega) h3
    grind
theorem nw {α:Type} {ρ:Nat->Int} {s:St} (hp:bT ρ s.pc) {i n:V} {f:St->T α} {r:α} (h:(za s i n f).leaf ρ=some r) :
 ∃ea,bT ρ ea/\0<=i.den ρ/\i.den ρ<n.den ρ/\(f { s with pc:=ea }).leaf ρ=some r:=by
 unfold za at h;obtain⟨fI,fq,U⟩:=cE hp h;split at U
 ·simp [T.leaf] at U
 ·rename_i e1;rw [dU,decide_eq_false_iff_not] at e1;obtain⟨jH,jz,Z⟩:=cE (s:={ s with pc:=fI }) fq U;split at Z
  ·rename_i e2;rw [dU,decide_eq_true_eq] at e2;simp only [V.den,ang] at e1
   grind
  ·simp [T.leaf] at Z
theorem An {E:En} {h0:Array Obj} {tt:TT} {t:Nat} {x ix:W} {ui:Value} {f:W->St->T (W×St)} {r:W×St} {s:St} (hp:bT E.ρ s.pc) (zy:VR E h0 ix ui) (h:(HN tt t x ix s f).leaf E.ρ=some r) :
 ∃ix' ea,bT E.ρ ea/\VR E h0 ix' ui/\(f ix' { s with pc:=ea }).leaf E.ρ=some r:=by
 unfold HN at h;split at h
 ·exact⟨ix,s.pc,hp,zy,h⟩
 ·split at h
  ·rename_i k e _;split at h
   ·rename_i n hn;obtain⟨fI,fq,U,Z,h3⟩:=nw hp h;simp only [V.den] at Z;obtain⟨i,jH,jz,q1,q2⟩:=L9 n 0 (s:={ s with pc:=fI }) fq (by simpa using U) (by simpa using Z) h3;refine⟨_,jH,jz,?_,q2⟩;simp only [VR,V.den] at zy ⊢
    grind
   ·simp [T.leaf] at h
  ·simp [T.leaf] at h
theorem GK {ro:Nat->Prop} {h:Array Obj} {t:Nat} {d:D} {v:Value} (r:Rd ro h (.sl t) d v):(0<d.l.length->∃a n cap,v= .slice (some a) n cap)/\(d= .i 1->v= .slice none 0 0)/\(d= .i 2->∃a n cap,v= .slice (some a) n cap):=by
 generalize hc:CK.sl t=c at r
 cases r with
 |int k n=>simp at hc
 |bool b=>simp at hc
 |str s=>simp at hc
 |nil t=>exact⟨by simp [D.l],fun _=>rfl,ad⟩
 |we t a cap=>exact⟨by simp [D.l],ad,fun _=> ⟨a,0,cap,rfl⟩⟩
 |one t c b o cap ds f hr fY hb U Z=>exact⟨fun _=> ⟨_,_,_,rfl⟩,fun q=>by cases ds<;>simp [dL] at q,fun q=>by cases ds<;>simp [dL] at q⟩
 |many t cs b o cap rows f hr fY hb Y U Z=>exact⟨fun _=> ⟨_,_,_,rfl⟩,fun q=>by cases rows<;>simp [dL] at q,fun q=>by cases rows<;>simp [dL] at q⟩
theorem IF {P:Program} {E:En} {w:World} {tt:TT} (cJ:eB P tt) {t e:Nat} {ti:TI} (fN:tt t=some ti) (hk:ti.kind= .slice e) {u:Value} {b:Bool} (hu:(b=true/\u= .slice none 0 0)\/(b=false/\∃a n cap,u= .slice (some a) n cap)) {s s':St} {op:BinOp} {v:W} {ρ:Nat->Int}
 (h:(Xr s op b).leaf ρ=some (v,s')):s'=s/\∃y,(binOp op t u (.slice none 0 0)).run P w= .ok y w/\VR E w.heap v y/\(∀cs ds,¬(u= .agg cs/\(Value.slice none 0 0)= .agg ds))/\¬(u= .nilIface/\(Value.slice none 0 0)= .nilIface):=by
 obtain⟨d,U,Z⟩:=r4 (cJ t ti fN);rw [hk] at Z
 have he:(Op.equal t u (.slice none 0 0)).run P w= .ok b w:=by have hm:Op.equal t u (.slice none 0 0)=Op.equalIn (9999+1) t u (.slice none 0 0):=rfl;rw [hm];generalize (9999:Nat)=n;cases d<;>simp only [HX] at Z;rcases hu with ⟨rfl,rfl⟩|⟨rfl,a,m,cap,rfl⟩ <;>simp [Op.equalIn,yM U]
 have uG:(∀k n,u≠.int k n)/\(∀s,u≠.string s)/\(∀k n,u≠.float k n)/\(∀k n m,u≠.complex k n m):=by
  grind
 obtain⟨q1,q2⟩:=binOp_eql he uG.1 uG.2.1 uG.2.2.1 uG.2.2.2;unfold Xr at h;split at h
 ·simp only [T.leaf,ag,ak] at h;obtain⟨rfl,rfl⟩:=h;exact⟨rfl,_,q1,by simp only [VR,SB.den],ad,ad⟩
 ·simp only [T.leaf,ag,ak] at h;obtain⟨rfl,rfl⟩:=h;exact⟨rfl,_,q2,by simp only [VR,SB.den],ad,ad⟩
 ·simp [T.leaf] at h
theorem T! {P:Program} {E:En} {w:World} {tt:TT} (cJ:eB P tt) {t:Nat} {a b:W} {e:V} (hn:NY tt t a b=some e) {u u':Value} (ha:VR E w.heap a u) (hb:VR E w.heap b u') {s s':St} (hp:bT E.ρ s.pc) {op:BinOp} {v:W} (h:(aer s e op).leaf E.ρ=some (v,s')) :
 s'.bE=s.bE/\s'.h=s.h/\bT E.ρ s'.pc/\∃y,(binOp op t u u').run P w= .ok y w/\VR E w.heap v y/\(∀cs ds,¬(u= .agg cs/\u'= .agg ds))/\¬(u= .nilIface/\u'= .nilIface):=by
 unfold NY at hn;split at hn
 ·split at hn
  ·split at hn
   ·rename_i ti fN;split at hn
    ·rename_i el hk;simp only [ag] at hn;subst hn;simp only [VR] at ha hb;subst hb;obtain⟨k1,k2,k3⟩:=GK ha;unfold aer at h;obtain⟨fI,fq,U⟩:=cE hp h;split at U
     ·rename_i t1;rw [dU,decide_eq_true_eq,cl] at t1;simp only [V.den] at t1;obtain⟨rfl,q⟩:=IF (P:=P) (E:=E) (w:=w) cJ fN hk (.inr ⟨rfl,k1 J⟩) U
      grind
     ·obtain⟨jH,jz,Z⟩:=cE (s:={ s with pc:=fI }) fq U;split at Z
      ·rename_i t2;rw [iq,lN,beq_iff_eq] at t2;simp only [V.den] at t2;obtain⟨rfl,q⟩:=IF (P:=P) (E:=E) (w:=w) cJ fN hk (.inl ⟨rfl,k2 (gZ t2)⟩) Z
       grind
      ·obtain⟨UT,I3,h3⟩:=cE (s:={ s with pc:=jH }) jz Z;split at h3
       ·rename_i t3;rw [iq,lN,beq_iff_eq] at t3;simp only [V.den] at t3;obtain⟨rfl,q⟩:=IF (P:=P) (E:=E) (w:=w) cJ fN hk (.inr ⟨rfl,k3 (gZ t3)⟩) h3
        grind
       ·simp [T.leaf] at h3
    grind
   grind
  grind
 grind
end Go.As
end

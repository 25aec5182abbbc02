import GoSem.Claim
import Derived.Orders
import Derived.Scope
import Derived.LoopN
import Derived.Below
import GoSem.Core.View
import GoSem.Core.Layout
import GoSem.Op.Equal
import Derived.WalkKit
import Derived.Lib.Strings
import Derived.Laws.IdiomStrings
import Derived.Laws.RangeString
import Derived.Laws.StructEq
set_option linter.unusedSectionVars false
set_option linter.unusedVariables false
set_option linter.unusedSimpArgs false
abbrev ak:=@if_neg
abbrev an:=@if_pos
abbrev aq:=@Option.some.injEq
abbrev au:=@Prod.mk.injEq
abbrev aw:=@Bool.and_eq_true
abbrev ax:=@List.nil_append
abbrev ay:=@Option.getD_some
abbrev az:=@Nat.le_refl
abbrev aA:=@Nat.eq_of_beq_eq_true
abbrev aC:=@List.length_nil
abbrev aF:=@List.getElem_mem
abbrev aG:=@Bool.false_eq_true
abbrev aH:=@List.mem_cons
abbrev aK:=@List.map_cons
abbrev aL:=@Nat.zero_add
abbrev aM:=@List.getElem?_cons_zero
abbrev aN:=@List.getElem?_cons_succ
abbrev aO:=@Option.isSome_some
abbrev aP:=@Int.lt_irrefl
abbrev aQ:=@Int.natCast_zero
abbrev aR:=@List.length_cons
abbrev aT:=@Option.getD_none
abbrev aW:=@List.getElem?_eq_getElem
abbrev aX:=@List.cons_append
abbrev aY:=@Option.isSome_none
abbrev aZ:=@Option.map_eq_some_iff
abbrev a8:=@List.length_append
abbrev bd:=@List.mem_map
abbrev bg:=@Nat.lt_or_ge
abbrev bh:=@List.all_eq_true
abbrev bj:=@List.getElem?_eq_some_iff
abbrev bk:=@List.length_take
abbrev bn:=@Int.natCast_one
abbrev bo:=@Array.length_toList
abbrev bp:=@List.getElem?_map
abbrev bq:=@Nat.le_trans
abbrev br:=@Int.toNat_natCast
abbrev bu:=@List.length_drop
abbrev bw:=@List.length_map
abbrev bx:=@Nat.add_zero
abbrev amW:=@List.mem_of_getElem?
abbrev amX:=@List.drop_eq_getElem_cons
abbrev amY:=@List.mem_of_mem_drop
abbrev amZ:=@Array.getElem?_toList
abbrev am0:=@Nat.add_assoc
abbrev am1:=@List.mem_of_mem_take
abbrev am2:=@List.mem_append
abbrev am3:=@Nat.zero_mul
abbrev am4:=@Option.map_some
abbrev am5:=@List.eq_nil_of_length_eq_zero
abbrev am6:=@List.not_mem_nil
abbrev am7:=@Nat.add_mul
abbrev am8:=@List.append_nil
abbrev am9:=@Nat.le_succ
abbrev ana:=@Bool.eq_iff_iff
abbrev anb:=@List.take_append_drop
abbrev anc:=@List.mem_range
abbrev ane:=@Nat.le_of_ble_eq_true
abbrev anf:=@Array.getElem?_eq_some_iff
abbrev ang:=@Nat.mod_eq_of_lt
abbrev anh:=@Nat.lt_of_lt_of_le
abbrev ani:=@List.length_pos_iff
abbrev anj:=@Bool.not_eq_true'
abbrev ank:=@List.map_append
abbrev anl:=@List.nodup_cons
abbrev anm:=@List.mem_filter
abbrev ann:=@List.getElem?_drop
abbrev ano:=@UInt8.toNat_ofNat'
abbrev anp:=@Nat.mul_le_mul_right
abbrev anq:=@List.drop_zero
abbrev anr:=@List.take_succ_cons
abbrev ans:=@Nat.zero_le
abbrev ant:=@Option.isSome_iff_exists
abbrev anu:=@List.length_replicate
abbrev anv:=@List.map_map
abbrev anw:=@List.getElem?_take
abbrev anx:=@Array.getD_eq_getD_getElem?
abbrev anz:=@List.ext_getElem?
abbrev anA:=@Bool.or_eq_true
abbrev anB:=@Int.not_lt
abbrev anC:=@Nat.eq_zero_or_pos
abbrev anD:=@List.getElem?_eq_none
abbrev anE:=@Int.le_refl
abbrev anF:=@Nat.one_mul
abbrev anG:=@List.set_cons_zero
abbrev anH:=@List.set_cons_succ
abbrev anI:=@List.take_length
abbrev anJ:=@Bool.eq_false_iff
abbrev anK:=@List.take_of_length_le
abbrev anL:=@List.getElem_of_mem
abbrev anM:=@Array.getElem?_replicate
abbrev anN:=@Nat.blt_eq
abbrev anO:=@List.getElem?_nil
abbrev anP:=@List.map_congr_left
abbrev anQ:=@List.mem_iff_getElem?
abbrev anR:=@Nat.ne_of_beq_eq_false
abbrev anS:=@Int.tmod_lt_of_pos
abbrev anT:=@List.mapM_cons
abbrev anU:=@List.append_assoc
abbrev anV:=@List.getElem?_eq_none_iff
abbrev anW:=@List.length_set
abbrev anX:=@Nat.mul_pos
abbrev anY:=@List.nodup_append
abbrev anZ:=@Bool.false_or
abbrev an0:=@Nat.ble_eq_true_of_le
abbrev an1:=@List.getElem?_range
abbrev an2:=@List.mem_cons_of_mem
abbrev an3:=@List.eraseIdx_eq_take_drop_succ
abbrev an4:=@Nat.pow_succ
abbrev an5:=@Int.ofNat_inj
abbrev an6:=@Option.bind_eq_some_iff
abbrev an7:=@Bool.or_false
abbrev an8:=@List.map_take
abbrev an9:=@List.map_drop
abbrev aoa:=@List.foldlM_cons
abbrev aob:=@Nat.mul_one
abbrev aoc:=@List.getElem?_append_right
abbrev aod:=@Int.ofNat_lt
abbrev aoe:=@List.eq_nil_iff_forall_not_mem
abbrev aof:=@List.getElem?_of_mem
abbrev aog:=@Bool.not_true
abbrev aoh:=@List.getD_eq_getElem?_getD
abbrev aoi:=@List.drop_of_length_le
abbrev aoj:=@List.all_append
abbrev aok:=@List.mem_append_right
abbrev aol:=@Nat.add_right_cancel_iff
abbrev aom:=@Nat.pow_zero
abbrev aon:=@Nat.mul_comm
abbrev aoo:=@Option.bind_eq_bind
abbrev aop:=@List.getElem?_append
abbrev aoq:=@Nat.mul_le_mul
abbrev aor:=@List.eraseIdx_cons_succ
abbrev aos:=@Array.toList_map
abbrev aot:=@Nat.le_of_mul_le_mul_right
abbrev aou:=@List.drop_succ_cons
abbrev aov:=@List.getElem?_append_left
abbrev aow:=@List.take_set_of_le
abbrev aox:=@List.drop_set_of_lt
abbrev aoy:=@Nat.div_mul_le_self
abbrev aoz:=@List.mem_singleton
abbrev aoA:=@List.replicate_succ
abbrev aoB:=@Nat.lt_trichotomy
abbrev aoC:=@List.map_nil
abbrev aoD:=@Array.mem_of_getElem?
abbrev aoE:=@List.length_reverse
abbrev aoF:=@Nat.min_eq_left
abbrev aoG:=@List.getElem?_toArray
abbrev aoH:=@Array.getElem?_eq_none
abbrev aoI:=@Array.getElem?_setIfInBounds
abbrev aoJ:=@List.any_eq_true
abbrev aoK:=@List.drop_drop
abbrev aoL:=@Nat.add_sub_cancel_left
abbrev aoM:=@Nat.sub_zero
abbrev aoN:=@List.take_succ_eq_append_getElem
abbrev aoO:=@List.getElem?_set
abbrev aoP:=@List.mem_append_left
abbrev aoQ:=@List.mem_cons_self
abbrev aoR:=@Array.getElem?_modify
abbrev aoS:=@Array.getElem?_append_left
abbrev aoT:=@List.drop_eq_nil_of_le
abbrev aoU:=@List.eq_of_mem_replicate
abbrev aoV:=@Array.mapM_eq_mapM_toList
abbrev aoW:=@Array.getElem?_eq_none_iff
abbrev aoX:=@Array.getElem?_eq_getElem
abbrev aoY:=@List.contains_iff_mem
abbrev aoZ:=@List.getElem_set_self
theorem J{P:Prop}(h:P:=by omega):P:=h
theorem ad{P:Prop}(h:P:=by kernel_rfl):P:=h
theorem ae{P:Prop}(h:P:=by simp):P:=h
theorem ah{P:Prop}(h:P:=by decide):P:=h
section
namespace Go.As
inductive Tr (α:Type) where
 |nil
 |node (v:Option α) (l r:Tr α)
 deriving Inhabited
noncomputable def Tr.get {α:Type} (t:Tr α) (k:Nat):Option α:=
 Tr.rec (motive:=fun _=>Nat->Option α) (fun _=>none)
  (fun v _ _ il ir k=>Nat.rec (motive:=fun _=>Option α) v (fun k' _=>Bool.rec (motive:=fun _=>Option α) (ir (Nat.div k' 2)) (il (Nat.div k' 2)) (Nat.beq (Nat.mod k' 2) 0)) k) t k
def Tr.val {α:Type}:Tr α->Option α
 | .nil=>none
 | .node v _ _=>v
def Tr.left {α:Type}:Tr α->Tr α
 | .nil=> .nil
 | .node _ l _=>l
def Tr.right {α:Type}:Tr α->Tr α
 | .nil=> .nil
 | .node _ _ r=>r
noncomputable def Tr.mkL {α:Type} (v:Option α) (x r:Tr α):Tr α:=Tr.rec (motive:=fun _=>Tr α) (.node v .nil r) (fun a b c _ _=> .node v (.node a b c) r) x
noncomputable def Tr.mkR {α:Type} (v:Option α) (l x:Tr α):Tr α:=Tr.rec (motive:=fun _=>Tr α) (.node v l .nil) (fun a b c _ _=> .node v l (.node a b c)) x
noncomputable def Tr.Uy {α:Type} (f:Nat):Tr α->Nat->Option α->Tr α:=
 Nat.rec (motive:=fun _=>Tr α->Nat->Option α->Tr α) (fun t _ _=>t)
  (fun _ ih t k x=>Tr.rec (motive:=fun _=>Tr α)
   (Nat.rec (motive:=fun _=>Tr α) (.node x .nil .nil) (fun k' _=>Bool.rec (motive:=fun _=>Tr α) (Tr.mkR none .nil (ih .nil (Nat.div k' 2) x)) (Tr.mkL none (ih .nil (Nat.div k' 2) x) .nil) (Nat.beq (Nat.mod k' 2) 0)) k)
   (fun v l r _ _=>Nat.rec (motive:=fun _=>Tr α) (.node x l r) (fun k' _=>Bool.rec (motive:=fun _=>Tr α) (Tr.mkR v l (ih r (Nat.div k' 2) x)) (Tr.mkL v (ih l (Nat.div k' 2) x) r) (Nat.beq (Nat.mod k' 2) 0)) k) t) f
noncomputable def Tr.put {α:Type} (t:Tr α) (k:Nat) (v:Option α):Tr α:=Tr.Uy (Nat.succ k) t k v
theorem abF (a b:Nat):Nat.beq a b=decide (a=b):=by rw [ana];simp
theorem C6 {β:Sort _} (a b:β) (c:Nat):Bool.rec (motive:=fun _=>β) a b (Nat.beq c 0)=if c=0 then b else a:=by
 by_cases h:c=0
 ·subst h; rfl
 ·rw [ak h];have:Nat.beq c 0=false:=by rw [abF]; simpa using h
  rw [this]
theorem Tr.oQ {α:Type} (v:Option α) (l r:Tr α) (k:Nat) :
 (Tr.node v l r).get k=if k=0 then v else if (k-1) % 2=0 then l.get ((k-1) / 2) else r.get ((k-1) / 2):=by
 cases k with
 |zero=>rfl
 |succ k=> simp only [Nat.add_sub_cancel,Nat.succ_ne_zero,if_false];exact C6 _ _ _
theorem Tr.xp {α:Type} (t:Tr α) (k:Nat) :
 t.get k=if k=0 then t.val else if (k-1) % 2=0 then t.left.get ((k-1) / 2) else t.right.get ((k-1) / 2):=by
 cases t with
 |nil=> have h: ∀j,(Tr.nil:Tr α).get j=none:=fun _=>rfl;simp [h,Tr.val,Tr.left,Tr.right]
 |node v l r=>rw [Tr.oQ]; rfl
theorem Tr.afn {α:Type} (v:Option α) (x r:Tr α):Tr.mkL v x r= .node v x r:=by cases x<;>rfl
theorem Tr.afm {α:Type} (v:Option α) (l x:Tr α):Tr.mkR v l x= .node v l x:=by cases x<;>rfl
theorem Tr.Uw {α:Type} (f:Nat) (t:Tr α) (v:Option α):Tr.Uy (f+1) t 0 v= .node v t.left t.right:=by cases t<;>rfl
theorem Tr.Ux {α:Type} (f:Nat) (t:Tr α) (k:Nat) (v:Option α):Tr.Uy (f+1) t (k+1) v=if k % 2=0 then .node t.val (Tr.Uy f t.left (k / 2) v) t.right else .node t.val t.left (Tr.Uy f t.right (k / 2) v):=by rw [<- Tr.afn,<- Tr.afm];cases t<;>exact C6 _ _ _
theorem Tr.Zp {α:Type}: ∀(f:Nat) (t:Tr α) (k:Nat) (v:Option α) (j:Nat),k<f->(Tr.Uy f t k v).get j=if j=k then v else t.get j:=by
 intro f
 induction f with
 |zero=>intro t k v j hk; omega
 |succ f ih=>
  intro t k v j hk
  cases k with
  |zero=> rw [Tr.Uw,Tr.oQ,Tr.xp t];split<;>simp_all
  |succ k=>
   rw [Tr.Ux,Tr.xp t j];split
   ·rename_i h;rw [Tr.oQ];by_cases hj:j=0
    ·subst hj; simp
    ·rw [ak hj,ak hj];by_cases Z:(j-1) % 2=0
     ·rw [an Z,an Z,ih _ _ _ _ J];by_cases h3:j=k+1
      ·subst h3; simp
      ·rw [ak h3,ak J]
     ·rw [ak Z,ak Z,ak (by intro h3; subst h3; simp at Z; omega)]
   ·rename_i h;rw [Tr.oQ];by_cases hj:j=0
    ·subst hj; simp
    ·rw [ak hj,ak hj];by_cases Z:(j-1) % 2=0
     ·rw [an Z,an Z,ak (by intro h3; subst h3; simp at Z; omega)]
     ·rw [ak Z,ak Z,ih _ _ _ _ J];by_cases h3:j=k+1
      ·subst h3; simp
      ·rw [ak h3,ak J]
theorem Tr.bU {α:Type} (t:Tr α) (k:Nat) (v:Option α) (j:Nat):(t.put k v).get j=if j=k then v else t.get j:=
 Tr.Zp (Nat.succ k) t k v j (Nat.lt_succ_self _)
inductive D where
 |i (n:Int)
 |p (a b:D)
 deriving DecidableEq,Inhabited
def zN:Int->Nat
 | .ofNat n=>2*n
 | .negSucc n=>2*n+1
theorem Wz {a b:Int} (h:zN a=zN b):a=b:=by
 cases a<;>cases b<;>simp only [zN] at h
 all_goals grind
def pB (a b:Nat):Nat:=2 ^ a*(2*b+1)
theorem BL: ∀{a a' b b':Nat},pB a b=pB a' b'->a=a'/\b=b'
 |0,0,b,b',h=>by simp only [pB,aom,anF] at h; omega
 |0,a'+1,b,b',h=>by
  simp only [pB,aom,anF,an4] at h
  grind
 |a+1,0,b,b',h=>by
  simp only [pB,aom,anF,an4] at h
  grind
 |a+1,a'+1,b,b',h=>by
  have U:2 ^ (a+1)*(2*b+1)=2*pB a b:=by unfold pB; rw [an4,aon (2 ^ a) 2,Nat.mul_assoc]
  have Z:2 ^ (a'+1)*(2*b'+1)=2*pB a' b':=by unfold pB; rw [an4,aon (2 ^ a') 2,Nat.mul_assoc]
  have h3:pB a b=pB a' b':=by
   have:pB (a+1) b=pB (a'+1) b':=h;unfold pB at this
   grind
  obtain⟨e1,e2⟩:=BL h3
  grind
def D.enc:D->Nat
 | .i n=>2*zN n
 | .p a b=>2*pB a.enc b.enc+1
theorem D.ew: ∀{a b:D},a.enc=b.enc->a=b
 | .i n,.i m,h=>by simp only [D.enc] at h;rw [Wz (a:=n) (b:=m) J]
 | .i n,.p a b,h=>by simp only [D.enc] at h; omega
 | .p a b,.i n,h=>by simp only [D.enc] at h; omega
 | .p a b,.p c d,h=>by simp only [D.enc] at h;obtain⟨U,Z⟩:=BL (a:=a.enc) (b:=b.enc) (a':=c.enc) (b':=d.enc) J;rw [D.ew U,D.ew Z]
open Classical in
noncomputable def dec (z:Int):D:=if h: ∃d:D,(d.enc:Int)=z then h.choose else .i 0
def enc (d:D):Int:=(d.enc:Int)
theorem bD (d:D):dec (enc d)=d:=by unfold dec;have h: ∃d':D,(d'.enc:Int)=enc d:=⟨d,rfl⟩;rw [dif_pos h];have:=h.choose_spec;apply D.ew;unfold enc at this;exact Int.ofNat.inj this
theorem ew {a b:D} (h:enc a=enc b):a=b:=by rw [<- bD a,h,bD]
def D.n:D->Int
 | .i n=>n
 | .p _ _=>0
def D.l:D->List D
 | .i _=>[]
 | .p a b=>a::b.l
def dL:List D->D
 |[]=> .i 0
 |a::l=> .p a (dL l)
@[simp] theorem bE: ∀l:List D,(dL l).l=l
 |[]=>rfl
 |a::l=>by simp [dL,D.l,bE l]
theorem yZ {a b:List D} (h:dL a=dL b):a=b:=by rw [<- bE a,h,bE]
def D.at (d:D) (i:Int):D:=(d.l[i.toNat]?).getD (.i 0)
def D.W (d:D) (j:Nat):D:=(d.l[j]?).getD (.i 0)
def qH (l:List UInt8):D:=dL (l.map fun b=> .i (b.toNat:Int))
def uN (s:ByteArray):D:=qH s.data.toList
def lW (l:List Nat):D:=dL (l.map fun b=> .i (Int.ofNat b))
theorem P6 {a b:List UInt8} (h:qH a=qH b):a=b:=by
 have:=yZ h
 have Mz: ∀{x y:UInt8},(D.i (x.toNat:Int))= .i (y.toNat:Int)->x=y:=by intro x y h;simp only [D.i.injEq,an5] at h;exact UInt8.toNat_inj.1 h
 induction a generalizing b with
 |nil=>cases b with
  |nil=>rfl
  |cons y b=>simp at this
 |cons x a ih=>cases b with
  |nil=>simp at this
  |cons y b=> simp only [aK,List.cons.injEq] at this;rw [Mz this.1,ih (by unfold qH; rw [this.2]) this.2]
theorem F3 {a b:ByteArray} (h:uN a=uN b):a=b:=by
 have:=P6 h
 cases a with
 |mk x=>cases b with
  |mk y=>simp only [ByteArray.mk.injEq] at *; exact Array.toList_inj.1 this
theorem AW (l:List Nat) (h: ∀b∈l,b<256):lW l=qH (l.map UInt8.ofNat):=by unfold lW qH;congr 1;rw [anv];apply anP;intro b hb;have:=h b hb;simp [ang this]
theorem r_ (s:ByteArray):(uN s).l.length=s.size:=by unfold uN qH;rw [bE,bw];rfl
inductive fX where
 |len
 |at
 |cell (j:Nat)
 |num
 |mk
 |cons
 |snoc
 |cat
 |take
 |drop
 |set
 |bit
 |norm
 |sub
 |fill
 |idx
 |cnt
 |con
 |slt
 |O1
 |GM
 |zX
 |GO
 |rep
 deriving DecidableEq,Inhabited
def fk (d:D) (l:List D):D:=match l with
 |[]=>if d= .i 1 then .i 1 else .i 2
 |l=>dL l
theorem gP (d:D) (l:List D):(fk d l).l=l:=by
 cases l with
 |nil=>simp only [fk]; split<;>rfl
 |cons a l=>simp [fk]
theorem wG {d:D} {l:List D} (h:l≠[]):fk d l=dL l:=by
 cases l with
 |nil=>exact absurd rfl h
 |cons a l=>rfl
theorem pW {d:D} (h:d≠.i 1):fk d []= .i 2:=by
 show (if d= .i 1 then D.i 1 else D.i 2)= .i 2
 grind
theorem Vr {d:D} (h:d≠.i 1) (l:List D):fk d l≠.i 1:=by
 cases l with
 |nil=>rw [pW h]; simp
 |cons a l=>simp [fk,dL]
theorem yY {d:D} {l m:List D} (h:d= .i 1->l= []):fk (fk d l) m=fk d m:=by
 cases m with
 |cons a m=>rfl
 |nil=>
  by_cases U:d= .i 1
  ·rw [h U,U]; rfl
  ·rw [pW U,pW (Vr U l)]
def rI (z:Int):List D->Int->Int
 |[],_=> -1
 |d::l,i=>match d with
  | .i n=>if n=z then i else rI z l (i+1)
  |_=>rI z l (i+1)
def F6 (l:List D) (z:Int):Int:=rI z l 0
def P5:List D->List D->Bool
 |[],_=>true
 |_::_,[]=>false
 |a::x,b::y=>decide (a=b)&&P5 x y
def Vt (l x:List D):Bool:=match l with
 |[]=>P5 x []
 |a::l=>P5 x (a::l)||Vt l x
def t_ (l:List D) (z:Int):Int:=match l with
 |[]=>0
 |d::l=>(if d= .i z then 1 else 0)+t_ l z
def Nn:List D->List D->Bool
 |[],[]=>false
 |[],_::_=>true
 |_::_,[]=>false
 |a::x,b::y=>if a.n<b.n then true else if b.n<a.n then false else Nn x y
def eV (ds:List D) (z:Int) (x:D):List D:=if z<0 then ds else ds.set z.toNat x
theorem fh (ds:List D) (z:Int) (x:D):(eV ds z x).length=ds.length:=by
 unfold eV; split
 all_goals grind
theorem oD (ds:List D) (k:Nat) (x:D):eV ds (k:Int) x=ds.set k x:=by unfold eV; rw [ak J]; rfl
def ji:D->D
 | .p k _=>k
 |d=>d
def GS:D->D
 | .p _ v=>v
 |d=>d
def df:List D->D->Option D
 |[],_=>none
 |d::l,k=>if ji d=k then some (GS d) else df l k
def jP:List D->D->D->List D
 |[],k,v=>[.p k v]
 |d::l,k,v=>if ji d=k then .p k v::l else d::jP l k v
def z7:List D->D->List D
 |[],_=>[]
 |d::l,k=>if ji d=k then l else d::z7 l k
noncomputable def fX.den (o:fX) (x y:Int):Int:=match o with
 | .len=>((dec x).l.length:Int)
 | .at=>enc ((dec x).at y)
 | .cell j=>enc ((dec x).W j)
 | .num=>(dec x).n
 | .mk=>enc (.i x)
 | .cons=>enc (.p (dec x) (dec y))
 | .snoc=>enc (dL ((dec x).l++ [dec y]))
 | .cat=>enc (dL ((dec x).l++(dec y).l))
 | .take=>enc (fk (dec x) ((dec x).l.take y.toNat))
 | .drop=>enc (fk (dec x) ((dec x).l.drop y.toNat))
 | .set=>match dec y with
   | .p q v=>enc (dL (eV (dec x).l q.n v))
   |_=>x
 | .bit=>enc (.i (if (dec x).n=0 then 0 else 1))
 | .norm=>enc (dec x)
 | .sub=>enc (dL (((dec x).l.take ((dec y).W 1).n.toNat).drop ((dec y).W 0).n.toNat))
 | .fill=>match dec y with
   | .p q v=>enc (dL ((dec x).l.take q.n.toNat++List.replicate ((dec x).l.length-q.n.toNat) v))
   |_=>x
 | .idx=>F6 (dec x).l y
 | .cnt=>t_ (dec x).l y
 | .con=>if Vt (dec x).l (dec y).l then 1 else 0
 | .slt=>if Nn (dec x).l (dec y).l then 1 else 0
 | .O1=>if (df (dec x).l (dec y)).isSome then 1 else 0
 | .GM=>enc ((df (dec x).l (dec y)).getD (.i 0))
 | .zX=>match dec y with
   | .p k v=>enc (dL (jP (dec x).l k v))
   |_=>x
 | .GO=>enc (dL (z7 (dec x).l (dec y)))
 | .rep=>enc (dL (List.replicate x.toNat (dec y)))
def fX.tag:fX->Nat
 | .len=>0
 | .at=>1
 | .cell j=>j+23
 | .num=>2
 | .mk=>3
 | .cons=>4
 | .snoc=>5
 | .cat=>6
 | .take=>7
 | .drop=>8
 | .set=>9
 | .bit=>10
 | .norm=>11
 | .sub=>12
 | .fill=>13
 | .idx=>14
 | .cnt=>15
 | .con=>16
 | .slt=>17
 | .O1=>18
 | .GM=>19
 | .zX=>20
 | .GO=>21
 | .rep=>22
theorem fX.W? {a b:fX} (h:a.tag=b.tag):a=b:=by
 cases a<;>cases b<;>simp only [fX.tag] at h<;>first |rfl|(congr 1; omega)|omega
inductive CK where
 |int (k:IntKind)
 |bool
 |str
 |sl (t:Nat)
 deriving DecidableEq,Inhabited
inductive Row where
 |one (c:CK)
 |many (cs:List CK)
 deriving DecidableEq,Inhabited
def Row.es:Row->Nat
 | .one _=>1
 | .many cs=>cs.length
def rowOf (t:Nat):Row:=match t with
 |0=> .one (.int .i64)
 |1=> .one (.int .i64)
 |2=> .one .str
 |3=> .many [.int .u8,.str,.int .i64,.str,.int .i64]
 |4=> .many [.str,.sl 2,.sl 5]
 |5=> .many [.int .u8,.int .u8,.int .i64,.int .i64,.int .i64,.int .i64,.sl 6]
 |6=> .many [.int .u8,.str,.int .i64,.sl 6]
 |7=> .many [.int .i64,.int .i64,.bool,.int .i64,.sl 0,.sl 0]
 |8=> .many [.int .i64,.sl 0,.int .u8,.int .i64,.int .i64,.int .i64]
 |9=> .many [.int .i64,.int .u8,.int .i64,.int .i64,.int .i64]
 |10=> .one (.sl 0)
 |11=> .many [.int .i64,.int .i64,.int .i64]
 |12=> .many [.int .i64,.int .i64]
 |13=> .many [.int .i64,.int .u8,.int .i64,.int .i64,.int .i64]
 |14=> .one (.int .u8)
 |15=> .one (.sl 0)
 |16=> .many [.sl 7,.sl 8]
 |_=> .one .bool
def mapOf (t:Nat):CK×CK:=match t with
 |0=>(.int .i64,.int .i64)
 |1=>(.str,.int .i64)
 |2=>(.int .i64,.sl 0)
 |_=>(.int .i64,.bool)
inductive FC where
 |ck (c:CK)
 |own (t:Nat)
 |mp (t:Nat)
 deriving DecidableEq,Inhabited
structure FK where
 ptr:Bool
 cs:List FC
def rF (t:Nat):FK:=match t with
 |0=> ⟨false,[.own 0]⟩
 |1=> ⟨true,[.ck (.int .i64),.mp 0,.ck (.int .i64),.ck (.int .i64),.ck .bool,.own 0]⟩
 |_=> ⟨true,[.ck (.sl 0),.ck (.int .i64),.ck .bool,.ck .bool]⟩
def qR (c:CK) (d:D):Prop:=match c with
 | .int _=>d= .i d.n
 | .bool=>d= .i 0\/d= .i 1
 |_=>True
def K0 (cs:List CK) (d:D):Prop:=d=dL d.l/\d.l.length=cs.length/\∀(j:Nat) (c:CK) (x:D),cs[j]?=some c->d.l[j]?=some x->qR c x
def qQ (r:Row) (d:D):Prop:=match r with
 | .one c=>qR c d
 | .many cs=>K0 cs d
def tx (r:Row) (d:D):Prop:=d=dL d.l/\(∀x∈d.l,qQ r x)/\d.l≠[]
end Go.As
end
section
namespace Go.As
noncomputable section
inductive V where
 |lit (n:Int)
 |dD (i:Nat)
 |add (a b:V)
 |sub (a b:V)
 |mul (a b:V)
 |quo (a b:V)
 |rem (a b:V)
 |wrap (k:IntKind) (a:V)
 |ya (b:Nat) (e:V)
 |eD (d:D)
 |op (o:fX) (a b:V)
 |ap (f:Nat) (a:V)
 deriving DecidableEq,Inhabited
def jN (f:Nat) (z:Int):Nat:=1000+pB f (zN z)*64+63
noncomputable def V.den (ρ:Nat->Int):V->Int
 | .lit n=>n
 | .dD i=>ρ i
 | .add a b=>a.den ρ+b.den ρ
 | .sub a b=>a.den ρ-b.den ρ
 | .mul a b=>a.den ρ*b.den ρ
 | .quo a b=>(a.den ρ).tdiv (b.den ρ)
 | .rem a b=>(a.den ρ).tmod (b.den ρ)
 | .wrap k a=>k.wrap (a.den ρ)
 | .ya b e=>ρ (1000+(e.den ρ).toNat*64+b)
 | .eD d=>enc d
 | .op o a b=>o.den (a.den ρ) (b.den ρ)
 | .ap f a=>ρ (jN f (a.den ρ))
def vV:Int->Int->Bool
 | .ofNat a,.ofNat b=>Nat.beq a b
 | .negSucc a,.negSucc b=>Nat.beq a b
 |_,_=>false
def D.eqb:D->D->Bool
 | .i a,.i b=>vV a b
 | .p a b,.p c d=>match D.eqb a c with |true=>D.eqb b d|false=>false
 |_,_=>false
theorem xj {a b:Int} (h:vV a b=true):a=b:=by cases a<;>cases b<;>simp [vV] at h<;>rw [h]
theorem D.PX: ∀{a b:D},D.eqb a b=true->a=b
 | .i a,.i b,h=>by simp only [D.eqb] at h; rw [xj h]
 | .p a b,.p c d,h=>by
   simp only [D.eqb] at h;split at h
   ·rename_i U; rw [D.PX U,D.PX h]
   grind
 | .i _,.p _ _,h=>by simp [D.eqb] at h
 | .p _ _,.i _,h=>by simp [D.eqb] at h
def fv:V->V->Bool
 | .lit a,.lit b=>a == b
 | .dD i,.dD j=>Nat.beq i j
 | .add a b,.add c d=>match fv a c with |true=>fv b d|false=>false
 | .sub a b,.sub c d=>match fv a c with |true=>fv b d|false=>false
 | .mul a b,.mul c d=>match fv a c with |true=>fv b d|false=>false
 | .quo a b,.quo c d=>match fv a c with |true=>fv b d|false=>false
 | .rem a b,.rem c d=>match fv a c with |true=>fv b d|false=>false
 | .wrap k a,.wrap l b=>match fv a b with |true=>decide (k=l)|false=>false
 | .ya i a,.ya j b=>match Nat.beq i j with |true=>fv a b|false=>false
 | .eD a,.eD b=>D.eqb a b
 | .op o a b,.op q c d=>match Nat.beq o.tag q.tag with
   |true=>match fv a c with |true=>fv b d|false=>false
   |false=>false
 | .ap f a,.ap g b=>match Nat.beq f g with |true=>fv a b|false=>false
 |_,_=>false
theorem cR: ∀(a b:V),fv a b=true->a=b
 | .lit a,b,h=>by cases b<;>simp [fv] at h; rw [h]
 | .dD i,b,h=>by cases b<;>simp [fv] at h; rw [h]
 | .add a b,c,h=>by cases c<;>simp only [fv,aG] at h; split at h<;>first |(rename_i U; rw [cR _ _ U,cR _ _ h]; done)|simp at h
 | .sub a b,c,h=>by cases c<;>simp only [fv,aG] at h; split at h<;>first |(rename_i U; rw [cR _ _ U,cR _ _ h]; done)|simp at h
 | .mul a b,c,h=>by cases c<;>simp only [fv,aG] at h; split at h<;>first |(rename_i U; rw [cR _ _ U,cR _ _ h]; done)|simp at h
 | .quo a b,c,h=>by cases c<;>simp only [fv,aG] at h; split at h<;>first |(rename_i U; rw [cR _ _ U,cR _ _ h]; done)|simp at h
 | .rem a b,c,h=>by cases c<;>simp only [fv,aG] at h; split at h<;>first |(rename_i U; rw [cR _ _ U,cR _ _ h]; done)|simp at h
 | .wrap k a,c,h=>by cases c<;>simp only [fv,aG] at h; split at h<;>first |(rename_i U; rw [cR _ _ U,of_decide_eq_true h]; done)|simp at h
 | .ya i a,c,h=>by cases c<;>simp only [fv,aG] at h; split at h<;>first |(rename_i U; rw [aA U,cR _ _ h]; done)|simp at h
 | .eD a,c,h=>by cases c<;>simp only [fv,aG] at h; rw [D.PX h]
 | .op o a b,c,h=>by
   cases c<;>simp only [fv,aG] at h;split at h
   ·rename_i h0;split at h
    ·rename_i U;rw [fX.W? (aA h0),cR _ _ U,cR _ _ h]
    grind
   grind
 | .ap f a,c,h=>by cases c<;>simp only [fv,aG] at h; split at h<;>first |(rename_i U; rw [aA U,cR _ _ h]; done)|simp at h
inductive SB where
 |lit (b:Bool)
 |lt (a b:V)
 |le (a b:V)
 |eq (a b:V)
 |not (s:SB)
 |and (a b:SB)
 deriving DecidableEq,Inhabited
noncomputable def SB.den (ρ:Nat->Int):SB->Bool
 | .lit b=>b
 | .lt a b=>decide (a.den ρ<b.den ρ)
 | .le a b=>decide (a.den ρ<=b.den ρ)
 | .eq a b=>a.den ρ == b.den ρ
 | .not s=>!(s.den ρ)
 | .and a b=>a.den ρ&&b.den ρ
def vh (k:IntKind) (n:Int):Int:=
 match k with
 | .i64=>if -9223372036854775808<=n/\n<=9223372036854775807 then n else k.wrap n
 | .u8=>if 0<=n/\n<=255 then n else k.wrap n
 |_=>k.wrap n
inductive NZ where
 |exact (c:Nat)
 |rest (es:Nat)
 deriving DecidableEq,Inhabited
inductive AV where
 |bool (b:SB)
 |int (k:IntKind) (e:V)
 |str (s:List Nat)
 |ptr (id off:Nat)
 |vt
 |nX (cells:List AV)
 |slice (id off len:Nat) (c:NZ)
 |gN
 |ro (cells:List AV) (n:Nat) (full:Bool)
 |map (id:Nat)
 |tO
 |func (fn:Fn) (fs cs:List AV)
 |xK
 |iface (t:Nat) (v:AV)
 |yH
 |agg (cs:List AV)
 |tuple (vs:List AV)
 |L0 (i:Nat)
 |ya (k:Nat) (ks:List IntKind)
 |eD (e:V) (t:Nat)
 |kE (e:V)
 |qc (id:Nat) (n:V) (t:Nat)
 |AR (id es:Nat) (i:V) (off:Nat)
 |emp
 |vm (id:Nat) (lo n:V) (t:Nat)
 |any
 |yl (z:V) (t:Nat)
 deriving Inhabited
def AV.undef:AV:=.tuple []
def AV.cells:AV->List AV
 | .agg cs=>cs
 |v=>[v]
def AV.one:AV->Bool
 | .agg _=>false
 | .tuple _=>false
 | .L0 _=>false
 | .any=>false
 |_=>true
inductive dO where
 |cells (cs:List AV) (e:TypeId)
 |map (es:List (AV×AV×Nat)) (clock:Nat)
 |kS (s:List Nat) (pos:Nat)
 |vec (e:V) (t:Nat) (ty:TypeId) (ov:List (V×List AV))
 |kO (e:V) (t:Nat)
 |uC (e:V) (t:Nat) (fw:List Nat) (ov:List (V×AV))
 deriving Inhabited
structure Hp where
 m:Tr dO
 next:Nat
 res:Option Nat:=none
 deriving Inhabited
def Hp.get (h:Hp) (i:Nat):Option dO:=h.m.get i
def Hp.put (h:Hp) (i:Nat) (o:dO):Hp:=⟨h.m.put i (some o),h.next,h.res⟩
def Hp.drop (h:Hp) (i:Nat):Hp:=⟨h.m.put i none,h.next,h.res⟩
def Hp.fresh (h:Hp):Nat:=match h.res with
 |none=>h.next
 |some r=>r
def Hp.new (h:Hp) (o:dO):Hp:=match h.res with
 |none=> ⟨h.m.put h.next (some o),h.next+1,none⟩
 |some r=> ⟨h.m.put r (some o),h.next,none⟩
inductive T (α:Type) where
 |fail
 |ret (a:α)
 |split (c:SB) (t f:T α)
 deriving Inhabited
def T.bind {α β:Type}:T α->(α->T β)->T β
 | .fail,_=> .fail
 | .ret a,f=>f a
 | .split c x y,f=> .split c (x.bind f) (y.bind f)
def T.leaf {α:Type} (ρ:Nat->Int):T α->Option α
 | .fail=>none
 | .ret a=>some a
 | .split c x y=>match c.den ρ with
   |true=>x.leaf ρ
   |false=>y.leaf ρ
inductive TK where
 |bool
 |int (k:IntKind)
 |string
 |pointer (e:Nat)
 |slice (e:Nat)
 |array (n e:Nat)
 |map (k e:Nat)
 |struct (fs:List (Nat×Nat×Nat))
 |func
 |iface (plain:Bool)
 |tuple
 deriving DecidableEq,Inhabited
structure TI where
 kind:TK
 size:Nat
 bytes:Nat
 zero:List AV
 eqs:Bool
 own:Option Nat:=none
 deriving Inhabited
def TK.agg (k:TK):Bool:=match k with | .struct _=>true| .array _ _=>true|_=>false
def TI.agg (i:TI):Bool:=i.kind.agg
abbrev TT:=Nat->Option TI
def bytesOf (s:ByteArray):List Nat:=s.data.toList.map (·.toNat)
def hU:Value->Option AV
 | .bool b=>some (.bool (.lit b))
 | .int k n=>some (.int k (.lit n))
 | .string s=>some (.str (bytesOf s))
 | .pointer none=>some .vt
 | .slice none 0 0=>some .gN
 | .map none=>some .tO
 | .nilFunc=>some .xK
 | .nilIface=>some .yH
 | .func fn f c=>if f.isEmpty&&c.isEmpty then some (.func fn [] []) else none
 |_=>none
def lE:List Value->Option (List AV)
 |[]=>some []
 |v::vs=>match hU v with
  |none=>none
  |some a=>match lE vs with
   |none=>none
   |some amV=>some (a::amV)
def ofConst:Value->Option AV
 | .agg cs=>(lE cs.toList).map .agg
 | .tuple vs=>(lE vs.toList).map .tuple
 |v=>hU v
def rj (a b:V):SB:=match fv a b with
 |true=> .lit true
 |false=>match a with
  | .eD _=> .eq b a
  |_=> .eq a b
def zA (x:V):V:=match x with
 | .op o a _=>match o with
   | .mk=>a
   |_=> .op .num x (.lit 0)
 | .eD d=>match d with
   | .i n=> .lit n
   |_=> .op .num x (.lit 0)
 |_=> .op .num x (.lit 0)
def nV (x:V):V:=match x with
 | .lit n=> .eD (.i n)
 |x=> .op .mk x (.lit 0)
def jq (j:Nat) (x:V):V:=match x with
 | .op o a b=>match o with
   | .cons=>match j with
     |0=>a
     |j+1=>jq j b
   |_=> .op (.cell j) x (.lit 0)
 |_=> .op (.cell j) x (.lit 0)
def dS (x:V):V:=match x with
 | .op o a _=>match o with
   | .set=>dS a
   |_=> .op .len x (.lit 0)
 | .eD d=> .lit (Int.ofNat d.l.length)
 |_=> .op .len x (.lit 0)
def eL (a b:V):V:=.op .cons a b
def O9 (x:V):Bool:=match x with
 | .eD d=>match d with
   | .i n=>vV n 0
   |_=>false
 |_=>false
def sc (c:CK) (x:V):AV:=match c with
 | .int k=> .int k (zA x)
 | .bool=> .bool (.not (.eq (zA x) (.lit 0)))
 | .str=> .kE x
 | .sl t=> .eD x t
def jM:List CK->Nat->V->List AV
 |[],_,_=>[]
 |c::cs,j,x=>sc c (jq j x)::jM cs (j+1) x
def ib (r:Row) (x:V):List AV:=match r with
 | .one c=>[sc c x]
 | .many cs=>jM cs 0 x
def nr (x:V):V:=match x with
 | .eD d=> .eD d
 | .op o a b=>match o with
   | .cell j=> .op (.cell j) a b
   | .at=> .op .at a b
   |o=> .op .norm (.op o a b) (.lit 0)
 |x=> .op .norm x (.lit 0)
def uW:AV->Option V
 | .str l=>some (.eD (lW l))
 | .kE e=>some e
 |_=>none
def Ct (x y:AV):Option SB:=match uW x with
 |none=>none
 |some a=>match uW y with
  |none=>none
  |some b=>some (rj (nr a) (nr b))
def nD (c:CK) (v:AV):Option V:=match c with
 | .int k=>match v with
   | .int k' e=>if k=k' then some (nV e) else none
   |_=>none
 | .bool=>match v with
   | .bool c=>match c with
     | .lit b=>some (.eD (.i (if b then 1 else 0)))
     | .not d=>match d with
       | .eq x z=>match z with
         | .lit n=>if n=0 then some (.op .bit (nV x) (.lit 0)) else none
         |_=>none
       |_=>none
     |_=>none
   |_=>none
 | .str=>uW v
 | .sl t=>match v with
   | .eD e t'=>if t=t' then some e else none
   | .gN=>some (.eD (.i 1))
   | .yl z t'=>if t=t' then some z else none
   | .slice _ _ n _=>match n with
     |0=>some (.eD (.i 2))
     |_=>none
   |_=>none
def jL:List CK->List AV->Option V
 |[],[]=>some (.eD (.i 0))
 |c::cs,v::vs=>match nD c v with
  |none=>none
  |some a=>match jL cs vs with
   |none=>none
   |some b=>some (eL a b)
 |_,_=>none
def rK (r:Row) (cs:List AV):Option V:=match r with
 | .one c=>match cs with
   |[v]=>nD c v
   |_=>none
 | .many ks=>jL ks cs
def lr (r:Row) (e:V):Nat->List AV->Option V
 |0,[]=>some e
 |0,_::_=>none
 |m+1,cs=>match rK r (cs.take r.es) with
  |none=>none
  |some x=>lr r (.op .snoc e x) m (cs.drop r.es)
structure St where
 bG:Tr AV
 h:Hp
 pc:List (SB×Bool)
 deriving Inhabited
def St.set (s:St) (t:Nat) (v:AV):St:={ s with bG:=s.bG.put t (some v) }
def St.LH (s:St) (d:Option Nat) (v:AV):St:=match d with |some t=>s.set t v|none=>s
def ev (s:St):Operand->Option AV
 | .tmp t=>s.bG.get t
 | .const v=>ofConst v
 | .func f=>some (.func (.func f) [] [])
 | .global _=>none
def evs (s:St):List Operand->Option (List AV)
 |[]=>some []
 |x::xs=>match ev s x with
  |none=>none
  |some a=>match evs s xs with
   |none=>none
   |some amV=>some (a::amV)
def ph:SB->SB->Bool
 | .lit a,.lit b=>a == b
 | .lt a b,.lt c d=>match fv a c with |true=>fv b d|false=>false
 | .le a b,.le c d=>match fv a c with |true=>fv b d|false=>false
 | .eq a b,.eq c d=>match fv a c with |true=>fv b d|false=>false
 | .not a,.not b=>ph a b
 | .and a b,.and c d=>match ph a c with |true=>ph b d|false=>false
 |_,_=>false
theorem sN: ∀(a b:SB),ph a b=true->a=b
 | .lit a,b,h=>by cases b<;>simp [ph] at h; rw [h]
 | .lt a b,c,h=>by cases c<;>simp only [ph,aG] at h; split at h<;>first |(rename_i U; rw [cR _ _ U,cR _ _ h]; done)|simp at h
 | .le a b,c,h=>by cases c<;>simp only [ph,aG] at h; split at h<;>first |(rename_i U; rw [cR _ _ U,cR _ _ h]; done)|simp at h
 | .eq a b,c,h=>by cases c<;>simp only [ph,aG] at h; split at h<;>first |(rename_i U; rw [cR _ _ U,cR _ _ h]; done)|simp at h
 | .not a,c,h=>by cases c<;>simp only [ph,aG] at h; rw [sN _ _ h]
 | .and a b,c,h=>by cases c<;>simp only [ph,aG] at h; split at h<;>first |(rename_i U; rw [sN _ _ U,sN _ _ h]; done)|simp at h
def nY (c:SB):List (SB×Bool)->Option Bool
 |[]=>none
 |(d,b)::l=>match ph c d with
  |true=>some b
  |false=>nY c l
def YA (a:Option Int) (z:Int):Option Int:=match a with
 |none=>some z
 |some y=>some (if y<z then z else y)
def Yz (a:Option Int) (z:Int):Option Int:=match a with
 |none=>some z
 |some y=>some (if z<y then z else y)
def Yl (a:Option Int) (z:Int):Option Int:=match a with
 |none=>none
 |some y=>some (if y=z then z+1 else y)
def Yn (a:Option Int) (z:Int):Option Int:=match a with
 |none=>none
 |some y=>some (if y=z then z-1 else y)
def Ty (e:V):Option Int×Option Int:=match e with
 | .rem a c=>match c with
   | .lit k=>match a with
     | .add b d=>match d with
       | .lit m=>match b with
         | .rem _ f=>match f with
           | .lit n=>if 0<n/\n=m/\m=k then (some 0,some (n-1)) else (none,none)
           |_=>(none,none)
         |_=>(none,none)
       |_=>(none,none)
     |_=>(none,none)
   |_=>(none,none)
 | .op o _ _=>match o with
   | .len=>(some 0,none)
   |_=>(none,none)
 |_=>(none,none)
def bounds (e:V):List (SB×Bool)->Option Int×Option Int
 |[]=>Ty e
 |(c,v)::l=>match c with
  | .lt x y=>match x with
    | .lit z=>match fv y e with
      |false=>bounds e l
      |true=>match bounds e l with
       |(lo,hi)=>match v with
        |true=>(YA lo (z+1),hi)
        |false=>(lo,Yz hi z)
    |x=>match y with
     | .lit z=>match fv x e with
       |false=>bounds e l
       |true=>match bounds e l with
        |(lo,hi)=>match v with
         |true=>(lo,Yz hi (z-1))
         |false=>(YA lo z,hi)
     |_=>bounds e l
  | .eq x y=>match y with
    | .lit z=>match v with
      |false=>match fv x e with
       |false=>bounds e l
       |true=>match bounds e l with
        |(lo,hi)=>(Yl lo z,Yn hi z)
      |true=>match fv x e with
       |false=>bounds e l
       |true=>(some z,some z)
    |_=>bounds e l
  |_=>bounds e l
def pN (e:V) (pc:List (SB×Bool)):Option Int×Option Int:=match e with
 | .wrap k s=>match k with
   | .i64=>match s with
     | .add b d=>match d with
       | .lit c=>match bounds b pc with
         |(some lo,some hi)=>if -9223372036854775808<=lo+c/\hi+c<=9223372036854775807 then (match bounds e pc with
          |(l2,Z)=>(YA l2 (lo+c),Yz Z (hi+c))) else bounds e pc
         |_=>bounds e pc
       |_=>bounds e pc
     |_=>bounds e pc
   |_=>bounds e pc
 |_=>bounds e pc
def RU (a b:V) (pc:List (SB×Bool)):Option Bool:=match nY (.eq a b) pc with
 |some v=>some v
 |none=>nY (.eq b a) pc
def decLt (pc:List (SB×Bool)) (a b:V):Option Bool:=match nY (.lt a b) pc with
 |some v=>some v
 |none=>match a with
  | .lit z=>match pN b pc with
    |(lo,hi)=>match lo with
     |some l=>if z<l then some true else match hi with
      |some h=>if h<=z then some false else none
      |none=>none
     |none=>match hi with
      |some h=>if h<=z then some false else none
      |none=>none
  |a=>match b with
   | .lit z=>match pN a pc with
     |(lo,hi)=>match hi with
      |some h=>if h<z then some true else match lo with
       |some l=>if z<=l then some false else none
       |none=>none
      |none=>match lo with
       |some l=>if z<=l then some false else none
       |none=>none
   |b=>match RU a b pc with
    |some true=>some false
    |some false=>match nY (.lt b a) pc with
     |some v=>some !v
     |none=>none
    |none=>match nY (.lt b a) pc with
     |some true=>some false
     |_=>none
def decEq (pc:List (SB×Bool)) (a b:V):Option Bool:=match RU a b pc with
 |some v=>some v
 |none=>match b with
  | .lit z=>match pN a pc with
    |(lo,hi)=>match lo with
     |some l=>if z<l then some false else match hi with
      |some h=>if h<z then some false else if l=z/\h=z then some true else none
      |none=>none
     |none=>match hi with
      |some h=>if h<z then some false else none
      |none=>none
  |b=>match nY (.lt a b) pc with
   |some true=>some false
   |some false=>match nY (.lt b a) pc with
    |some v=>some !v
    |none=>none
   |none=>match nY (.lt b a) pc with
    |some true=>some false
    |_=>none
def DX (pc:List (SB×Bool)) (c:SB):Option Bool:=
 match c with
 | .lit b=>some b
 | .lt a b=>decLt pc a b
 | .eq a b=>decEq pc a b
 |c=>nY c pc
def kM (pc:List (SB×Bool)) (c:SB):Option Bool:=
 match c with
 | .not s=>(DX pc s).map (!·)
 |c=>DX pc c
def kB {α:Type} (s:St) (c:SB) (f:St->Bool->T α):T α:=
 match kM s.pc c with
 |some b=>f s b
 |none=>match c with
  | .not d=> .split d (f { s with pc:=(d,true)::s.pc } false) (f { s with pc:=(d,false)::s.pc } true)
  |c=> .split c (f { s with pc:=(c,true)::s.pc } true) (f { s with pc:=(c,false)::s.pc } false)
def XW (k:IntKind):V->V->V
 | .lit x,.lit y=> .lit (vh k (x+y))
 |a,b=> .wrap k (.add a b)
def Rw (k:IntKind):V->V->V
 | .lit x,.lit y=> .lit (vh k (x-y))
 |a,b=> .wrap k (.sub a b)
def XV (k:IntKind):V->V->V
 | .lit x,.lit y=> .lit (vh k (x*y))
 |a,b=> .wrap k (.mul a b)
def iP:V->V->SB
 | .lit x,.lit y=> .lit (decide (x<y))
 |a,b=> .lt a b
def aak:V->V->SB
 | .lit x,.lit y=> .lit (decide (x<=y))
 |a,b=> .not (.lt b a)
def rO:V->V->SB
 | .lit x,.lit y=> .lit (x == y)
 | .lit x,b=> .eq b (.lit x)
 |a,b=>match fv a b with
  |true=> .lit true
  |false=> .eq a b
def xV:SB->SB
 | .lit b=> .lit !b
 | .not s=>s
 |s=> .not s
def XY:SB->SB->SB
 | .lit true,b=>b
 | .lit false,_=> .lit false
 |a,.lit true=>a
 |_,.lit false=> .lit false
 |a,b=> .and a b
def bytesLess:List Nat->List Nat->Bool
 |_,[]=>false
 |[],_::_=>true
 |a::x,b::y=>if a.blt b then true else if a.beq b then bytesLess x y else false
def im:List Nat->List Nat->Bool
 |[],[]=>true
 |a::x,b::y=>if a.beq b then im x y else false
 |_,_=>false
def LC (op:BinOp) (x y:List Nat):Option AV:=
 match op with
 | .add=>if x.length+y.length<=1000000 then some (.str (x++y)) else none
 | .eql=>some (.bool (.lit (im x y)))
 | .neq=>some (.bool (.lit !(im x y)))
 | .lss=>some (.bool (.lit (bytesLess x y)))
 | .leq=>some (.bool (.lit (bytesLess x y||im x y)))
 | .gtr=>some (.bool (.lit !(bytesLess x y||im x y)))
 | .geq=>some (.bool (.lit !(bytesLess x y)))
 |_=>none
def Se (op:BinOp) (k:IntKind) (a b:V):Option AV:=
 match op with
 | .add=>some (.int k (XW k a b))
 | .sub=>some (.int k (Rw k a b))
 | .mul=>some (.int k (XV k a b))
 | .quo=>match a,b with
   | .lit x,.lit y=>if y=0 then none else some (.int k (.lit (vh k (x.tdiv y))))
   |a,.lit y=>if y=0 then none else some (.int k (.wrap k (.quo a (.lit y))))
   |_,_=>none
 | .rem=>match a,b with
   | .lit x,.lit y=>if y=0 then none else some (.int k (.lit (x.tmod y)))
   |a,.lit y=>if y=0 then none else some (.int k (.rem a (.lit y)))
   |_,_=>none
 | .shr=>match a,b with
   | .lit x,.lit y=>if y<0 then none else some (.int k (.lit (x.fdiv (2 ^ (min y.toNat k.bits)))))
   |_,_=>none
 | .eql=>some (.bool (rO a b))
 | .neq=>some (.bool (xV (rO a b)))
 | .lss=>some (.bool (iP a b))
 | .leq=>some (.bool (aak a b))
 | .gtr=>some (.bool (iP b a))
 | .geq=>some (.bool (aak b a))
 |_=>none
def fy {α:Type}:List α->Nat->Option α
 |[],_=>none
 |x::_,0=>some x
 |_::xs,n+1=>fy xs n
def DT (a b:SB):Option SB:=
 match a,b with
 | .lit x,.lit y=>some (.lit (x == y))
 | .lit x,b=>some (if x then b else xV b)
 |a,.lit y=>some (if y then a else xV a)
 |a,b=>some (.not (.and (.not (.and a b)) (.not (.and (.not a) (.not b)))))
def PY (k:TK) (x y:AV):Option SB:=
 match k with
 | .int _=>match x,y with
   | .int k a,.int k' b=>if k=k' then some (rO a b) else none
   |_,_=>none
 | .string=>match x,y with
   | .str a,.str b=>some (.lit (im a b))
   |x,y=>Ct x y
 | .bool=>match x,y with
   | .bool a,.bool b=>DT a b
   |_,_=>none
 |_=>none
def ZG (tt:TT) (xs ys:List AV):List (Nat×Nat×Nat)->Option SB
 |[]=>some (.lit true)
 |(off,ft,_)::fs=>match tt ft with
  |none=>none
  |some i=>match fy xs off,fy ys off with
   |some x,some y=>match PY i.kind x y with
    |none=>none
    |some c=>match ZG tt xs ys fs with
     |none=>none
     |some d=>some (XY c d)
   |_,_=>none
def DR (tt:TT) (t:Nat) (xs ys:List AV):Option SB:=
 match tt t with
 |none=>none
 |some i=>match i.kind with
  | .struct fs=>if i.eqs then ZG tt xs ys fs else none
  |_=>none
def kZ:AV->Option Int
 | .int _ (.lit n)=>some n
 |_=>none
def isNil (k:TK) (x:AV):Option Bool:=
 match k with
 | .slice _=>match x with
   | .gN=>some true
   | .slice _ _ _ _=>some false
   | .ro _ _ _=>some false
   | .qc _ _ _=>some false
   |_=>none
 | .pointer _=>match x with
   | .vt=>some true
   | .ptr _ _=>some false
   | .nX _=>some false
   |_=>none
 | .map _ _=>match x with
   | .tO=>some true
   | .map _=>some false
   |_=>none
 |_=>none
def agm (k:TK) (x y:AV):Option SB:=
 match k with
 | .bool=>match x,y with
   | .bool a,.bool b=>DT a b
   |_,_=>none
 |k=>match isNil k x,isNil k y with
  |some true,some b=>some (.lit b)
  |some false,some true=>some (.lit false)
  |_,_=>none
def Jc (op:BinOp) (c:Option SB):Option AV:=match c with
 |none=>none
 |some c=>match op with
  | .eql=>some (.bool c)
  | .neq=>some (.bool (.not c))
  |_=>none
def ZE (tt:TT) (t:Nat) (op:BinOp) (x y:AV):Option AV:=
 match x with
 | .int k a=>match y with
   | .int k' b=>match op with
     | .shr=>Se op k a b
     | .shl=>none
     |_=>if k=k' then Se op k a b else none
   |_=>none
 | .str a=>match y with
   | .str b=>LC op a b
   | .kE e=>Jc op (Ct (.str a) (.kE e))
   |_=>none
 | .kE e=>Jc op (Ct (.kE e) y)
 |_=>match tt t with
  |none=>none
  |some i=>match op,agm i.kind x y with
   | .eql,some c=>some (.bool c)
   | .neq,some c=>some (.bool (xV c))
   |_,_=>none
def agk (op:UnOp) (x:AV):Option AV:=
 match op,x with
 | .not,.bool b=>some (.bool (xV b))
 | .neg,.int k e=>some (.int k (Rw k (.lit 0) e))
 |_,_=>none
def iV {α:Type}:Nat->List α->Option (List α)
 |0,_=>some []
 |_+1,[]=>none
 |n+1,x::xs=>match iV n xs with
  |some l=>some (x::l)
  |none=>none
def eS {α:Type}:Nat->List α->Option (List α)
 |0,l=>some l
 |_+1,[]=>none
 |n+1,_::xs=>eS n xs
def dW:List AV->Nat->List AV->Option (List AV)
 |cs,0,[]=>some cs
 |[],0,_::_=>none
 |_::cs,0,v::vs=>match dW cs 0 vs with
  |some l=>some (v::l)
  |none=>none
 |[],_+1,_=>none
 |c::cs,n+1,vs=>match dW cs n vs with
  |some l=>some (c::l)
  |none=>none
def sj:List AV->Bool
 |[]=>true
 |v::vs=>v.one&&sj vs
def nw (h:Hp) (p:AV) (n:Nat):Option (List AV):=
 match p with
 | .ptr id off=>match h.get id with
   |some (.cells cs _)=>match eS off cs with
    |some l=>iV n l
    |none=>none
   |_=>none
 | .nX cs=>iV n cs
 |_=>none
def B8 (tt:TT) (t:Nat) (p:AV) (h:Hp):Option AV:=
 match tt t with
 |none=>none
 |some i=>match i.agg with
  |true=>(nw h p i.size).map .agg
  |false=>match nw h p 1 with
   |some (v::_)=>some v
   |_=>none
def Kh (tt:TT) (t:Nat) (p v:AV) (h:Hp):Option Hp:=
 match tt t with
 |none=>none
 |some i=>
  if v.cells.length=i.size&&sj v.cells then
   match p with
   | .ptr id off=>match h.get id with
     |some (.cells cs e)=>match dW cs off v.cells with
      |some mB=>some (h.put id (.cells mB e))
      |none=>none
     |_=>none
   |_=>none
  else none
def uA (place:Nat->Option (Nat×Nat)) (cs:List AV):List (Nat×AV)->Option (List AV)
 |[]=>some cs
 |(i,v)::rest=>match place i with
  |none=>none
  |some (off,size)=>
   if v.cells.length=size&&sj v.cells then
    match dW cs off v.cells with
    |some mB=>uA place mB rest
    |none=>none
   else none
def iW (tt:TT) (t:Nat):Option Nat:=(tt t).map (·.size)
def Kx (tt:TT) (t:Nat) (parts:List (Nat×AV)):Option AV:=
 match tt t with
 |some i=>match i.kind with
  | .struct fs=>(uA (fun j=>(fy fs j).map fun f=>(f.1,f.2.2)) i.zero parts).map .agg
  | .array _ e=>match iW tt e with
    |some s=>(uA (fun j=>some (j*s,s)) i.zero parts).map .agg
    |none=>none
  |_=>none
 |none=>none
def dQ {α:Type} (l:List α):Nat->List α
 |0=>[]
 |n+1=>l++dQ l n
def uG (tt:TT) (t len:Nat) (parts:List (Nat×AV)) (h:Hp):Option (AV×Hp):=
 match tt t with
 |some i=>match i.kind with
  | .slice e=>match tt e with
    |some ie=>
     if len<=1000/\ie.size<=1000/\ie.zero.length=ie.size then
      match uA (fun j=>some (j*ie.size,ie.size)) (dQ ie.zero len) parts with
      |some cs=>some (.slice h.fresh 0 len (.exact len),h.new (.cells cs e))
      |none=>none
     else none
    |none=>none
  |_=>none
 |none=>none
def rH (tt:TT) (t:Nat) (l c:AV) (h:Hp):Option (AV×Hp):=
 match kZ l with
 |some (.ofNat n)=>match kZ c with
  |some (.ofNat m)=>match tt t with
   |some i=>match i.kind with
    | .slice e=>match tt e with
      |some ie=>
       if n<=m/\m<=1000/\ie.size<=1000/\ie.bytes<=1000000/\ie.zero.length=ie.size then
        some (.slice h.fresh 0 n (.exact m),h.new (.cells (dQ ie.zero m) e))
       else none
      |none=>none
    |_=>none
   |none=>none
  |_=>none
 |_=>none
def RP (off:Nat) (x:AV):Option AV:=match x with
 | .ptr id o=>some (.ptr id (o+off))
 | .AR id es i o=>some (.AR id es i (o+off))
 | .nX cs=>(eS off cs).map .nX
 |_=>none
def partOf (i:TI) (l:List AV):Option AV:=match i.agg with
 |true=>(iV i.size l).map .agg
 |false=>match l with
  |v::_=>some v
  |[]=>none
def wD (tt:TT) (t:Nat) (p:AV) (f:Nat):Option AV:=
 match tt t with
 |some i=>match i.kind with
  | .struct fs=>match fy fs f with
    |some (off,_,size)=>match size with
     |0=>none
     |_=>RP off p
    |none=>none
  |_=>none
 |none=>none
def Kp (tt:TT) (t:Nat) (x:AV) (f:Nat):Option AV:=
 match tt t with
 |some i=>match i.kind with
  | .struct fs=>match fy fs f with
    |some (off,ft,_)=>match tt ft,x with
     |some fi,.agg cs=>match eS off cs with
      |some l=>partOf fi l
      |none=>none
     |_,_=>none
    |none=>none
  |_=>none
 |none=>none
def oR (tt:TT) (t:Nat) (x ix:AV):Option AV:=
 match kZ ix with
 |some (.ofNat i)=>match tt t with
  |some ti=>match ti.kind with
   | .array n e=>if i<n then match iW tt e with
    |some s=>RP (i*s) x
    |none=>none
    else none
   | .slice e=>match iW tt e with
     |some s=>match x with
      | .slice id o len _=>if i<len then some (.ptr id (o+i*s)) else none
      | .ro cs n _=>if i<n then (eS (i*s) cs).map .nX else none
      |_=>none
     |none=>none
   |_=>none
  |none=>none
 |_=>none
def vW (k:Nat) (e:V):List IntKind->Nat->List AV
 |[],_=>[]
 |kd::ks,j=> .int kd (.ya (k*8+j) e)::vW k e ks (j+1)
def Km (tt:TT) (pc:List (SB×Bool)) (t k:Nat) (ks:List IntKind) (ix:AV):Option AV:=
 match ix with
 | .int _ e=>match tt t with
   |some ti=>match ti.kind with
    | .slice el=>match iW tt el with
      |some s=>if s=ks.length/\k<8/\s<=8 then match kM pc (iP e (.lit 0)),kM pc (iP e (.dD (900+k))) with
       |some false,some true=>some (.nX (vW k e ks 0))
       |_,_=>none
       else none
      |none=>none
    |_=>none
   |none=>none
 |_=>none
def AM (tt:TT) (t:Nat) (x ix:AV):Option AV:=
 match kZ ix with
 |some (.ofNat i)=>match tt t with
  |some ti=>match ti.kind,x with
   | .string,.str s=>(fy s i).map fun b=> .int .u8 (.lit (Int.ofNat b))
   | .array n e,.agg cs=>if i<n then match tt e with
    |some ie=>match eS (i*ie.size) cs with
     |some l=>partOf ie l
     |none=>none
    |none=>none
    else none
   |_,_=>none
  |none=>none
 |_=>none
def oA (x:Option AV) (d:Nat) (y:Nat):Option Nat:=
 match x with
 |none=>if d<=y then some d else none
 |some v=>match kZ v with
  |some (.ofNat i)=>if i<=y then some i else none
  |_=>none
def AG (tt:TT) (t:Nat) (x:AV) (lo hi mx:Option AV):Option AV:=
 match tt t with
 |none=>none
 |some ti=>match ti.kind with
  | .string=>match x,mx with
    | .str s,none=>match oA hi s.length s.length with
      |some h=>match oA lo 0 h with
       |some l=>some (.str ((s.take h).drop l))
       |none=>none
      |none=>none
    |_,_=>none
  | .slice e=>match iW tt e with
    |none=>none
    |some s=>match x with
     | .gN=>if mx.isSome&&hi.isNone then none else match oA hi 0 0,oA lo 0 0,oA mx 0 0 with
       |some _,some _,some _=>some .gN
       |_,_,_=>none
     | .slice id o len (.exact c)=>if mx.isSome&&hi.isNone then none else match oA mx c c with
       |none=>none
       |some m=>match oA hi len m with
        |none=>none
        |some h=>match oA lo 0 h with
         |none=>none
         |some l=>some (.slice id (o+l*s) (h-l) (.exact (m-l)))
     | .slice id o len (.rest es)=>match mx with
       |none=>match oA hi len len with
        |none=>none
        |some h=>match oA lo 0 h with
         |none=>none
         |some l=>if es=s then some (.slice id (o+l*s) (h-l) (.rest es)) else none
       |some _=>match hi,oA mx 0 len with
        |none,_=>none
        |_,none=>none
        |some _,some m=>match oA hi 0 m with
         |none=>none
         |some h=>match oA lo 0 h with
          |none=>none
          |some l=>some (.slice id (o+l*s) (h-l) (.exact (m-l)))
     | .ro cs n full=>match mx with
       |none=>match oA hi n n with
        |none=>none
        |some h=>match oA lo 0 h with
         |none=>none
         |some l=>match eS (l*s) cs with
          |none=>none
          |some d=>match iV ((h-l)*s) d with
           |none=>none
           |some d'=>some (.ro d' (h-l) (full&&h == n))
       |some _=>match hi,oA mx 0 n with
        |none,_=>none
        |_,none=>none
        |some _,some m=>match oA hi 0 m with
         |none=>none
         |some h=>match oA lo 0 h with
          |none=>none
          |some l=>match eS (l*s) cs with
           |none=>none
           |some d=>match iV ((h-l)*s) d with
            |none=>none
            |some d'=>some (.ro d' (h-l) (h == m))
     |_=>none
  | .array n e=>match iW tt e with
    |none=>none
    |some s=>match x with
     | .ptr id o=>if mx.isSome&&hi.isNone then none else match oA mx n n with
       |none=>none
       |some m=>match oA hi n m with
        |none=>none
        |some h=>match oA lo 0 h with
         |none=>none
         |some l=>some (.slice id (o+l*s) (h-l) (.exact (m-l)))
     |_=>none
  |_=>none
def FG (tt:TT) (t:Nat) (x:AV) (lo hi mx:Option AV) (h:Hp):Option AV:=
 match mx with
 |some _=>none
 |none=>match tt t with
  |none=>none
  |some ti=>match ti.kind with
   | .slice e=>match iW tt e with
     |none=>none
     |some s=>match x with
      | .slice id o len (.rest es)=>if es=s/\0<s then match h.get id with
       |some (.cells cs _)=>match oA hi len ((cs.length-o) / s) with
        |none=>none
        |some hh=>match oA lo 0 hh with
         |none=>none
         |some l=>some (.slice id (o+l*s) (hh-l) (.rest es))
       |_=>none
       else none
      |_=>none
   |_=>none
def wI:List AV->Option (List Nat)
 |[]=>some []
 | .int .u8 (.lit (.ofNat b))::xs=>if b<256 then match wI xs with
  |some l=>some (b::l)
  |none=>none
  else none
 |_::_=>none
def pV (tt:TT) (sT dT:Nat) (x:AV) (h:Hp):Option (AV×Hp):=
 match tt sT with
 |none=>none
 |some j=>match tt dT with
 |some i=>match i.kind with
  | .int k=>match x with
    | .int _ (.lit n)=>some (.int k (.lit (vh k n)),h)
    | .int _ e=>some (.int k (.wrap k e),h)
    |_=>none
  | .string=>match j.kind with
   | .string=>match x with
     | .str s=>some (.str s,h)
     |_=>none
   | .slice e=>match tt e with
     |none=>none
     |some ie=>if ie.kind= .int .u8/\ie.size=1 then match x with
      | .gN=>some (.str [],h)
      | .slice id o len _=>match nw h (.ptr id o) len with
        |some cs=>(wI cs).map fun l=>(.str l,h)
        |none=>none
      |_=>none
      else none
   |_=>none
  | .slice e=>match tt e with
    |none=>none
    |some ie=>if ie.kind= .int .u8/\j.kind= .string then match x with
     | .str s=>some (.slice h.fresh 0 s.length (.rest 1),h.new (.cells (s.map fun c=> .int .u8 (.lit (Int.ofNat c))) e))
     |_=>none
     else none
  |_=>none
 |none=>none
def R7 (pc:List (SB×Bool)) (kk:TK) (a b:AV):Option Bool:=
 match kk with
 | .int _=>match a,b with
   | .int k x,.int k' y=>if k=k' then kM pc (rO x y) else none
   |_,_=>none
 | .string=>match a,b with
   | .str x,.str y=>some (im x y)
   |x,y=>match Ct x y with
    |some c=>kM pc c
    |none=>none
 | .bool=>match a,b with
   | .bool (.lit x),.bool (.lit y)=>some (x == y)
   |_,_=>none
 |_=>none
def CW (pc:List (SB×Bool)) (kk:TK) (k:AV):List (AV×AV×Nat)->Nat->Option (Option (Nat×AV))
 |[],_=>some none
 |(k',v,_)::es,i=>match R7 pc kk k k' with
  |some true=>some (some (i,v))
  |some false=>CW pc kk k es (i+1)
  |none=>none
def sL (k v:AV):List (AV×AV×Nat)->Nat->List (AV×AV×Nat)
 |[],_=>[]
 |(_,_,b)::es,0=>(k,v,b)::es
 |e::es,n+1=>e::sL k v es n
def qG {α:Type}:List α->Nat->List α
 |[],_=>[]
 |_::xs,0=>xs
 |x::xs,n+1=>x::qG xs n
def xg (tt:TT) (t:Nat):Option TK:=match tt t with
 |some i=>match i.kind with
  | .int k=>some (.int k)
  | .string=>some .string
  | .bool=>some .bool
  |_=>none
 |none=>none
def zeroOf (i:TI):Option AV:=
 match i.agg with
 |true=>some (.agg i.zero)
 |false=>match i.zero with
  |[v]=>some v
  |_=>none
def JC (m:AV) (h:Hp):Option (List (AV×AV×Nat)):=match m with
 | .tO=>some []
 | .map id=>match h.get id with
   |some (.map es _)=>some es
   |_=>none
 |_=>none
def FL (tt:TT) (pc:List (SB×Bool)) (t:Nat) (m k:AV) (ok:Bool) (h:Hp):Option AV:=
 match tt t with
 |some ti=>match ti.kind with
  | .map kt et=>
    match xg tt kt with
    |none=>none
    |some kk=>
     match tt et with
     |none=>none
     |some ie=>
      match JC m h with
      |none=>none
      |some es=>match CW pc kk k es 0 with
       |none=>none
       |some (some (_,v))=>some (if ok then .tuple [v,.bool (.lit true)] else v)
       |some none=>match zeroOf ie with
        |none=>none
        |some z=>some (if ok then .tuple [z,.bool (.lit false)] else z)
  |_=>none
 |none=>none
def rG (tt:TT) (pc:List (SB×Bool)) (t:Nat) (m k v:AV) (h:Hp):Option Hp:=
 match tt t with
 |some ti=>match ti.kind with
  | .map kt _=>
    match xg tt kt with
    |none=>none
    |some kk=>match m with
     | .map id=>match h.get id with
       |some (.map es c)=>match CW pc kk k es 0 with
        |none=>none
        |some (some (i,_))=>some (h.put id (.map (sL k v es i) c))
        |some none=>some (h.put id (.map (es++ [(k,v,c)]) (c+1)))
       |_=>none
     |_=>none
  |_=>none
 |none=>none
def FO (tt:TT) (pc:List (SB×Bool)) (t:Nat) (m k:AV) (h:Hp):Option Hp:=
 match tt t with
 |some ti=>match ti.kind with
  | .map kt _=>
    match xg tt kt with
    |none=>none
    |some kk=>match m with
     | .tO=>some h
     | .map id=>match h.get id with
       |some (.map es c)=>match CW pc kk k es 0 with
        |none=>none
        |some (some (i,_))=>some (h.put id (.map (qG es i) c))
        |some none=>some (h.put id (.map es c))
       |_=>none
     |_=>none
  |_=>none
 |none=>none
def ZC (tt:TT) (t:Nat) (x:AV) (h:Hp):Option AV:=
 let n (k:Nat):Option AV:=some (.int .i64 (.lit (Int.ofNat k)))
 match tt t with
 |some ti=>match ti.kind with
  | .string=>match x with
    | .str s=>n s.length
    | .kE e=>some (.int .i64 (dS e))
    |_=>none
  | .slice _=>match x with
    | .gN=>n 0
    | .emp=>n 0
    | .yl _ _=>n 0
    | .slice _ _ len _=>n len
    | .ro _ k _=>n k
    | .eD e _=>some (.int .i64 (dS e))
    | .qc _ e _=>some (.int .i64 e)
    | .vm _ _ e _=>some (.int .i64 e)
    | .ya k _=>some (.int .i64 (.dD (900+k)))
    |_=>none
  | .array k _=>n k
  | .map _ _=>match x with
    | .tO=>n 0
    | .map id=>match h.get id with
      |some (.map es _)=>n es.length
      |some (.kO e _)=>some (.int .i64 (dS e))
      |some (.uC e _ _ _)=>some (.int .i64 (dS e))
      |_=>none
    |_=>none
  |_=>none
 |none=>none
def sI (s:Nat) (x:AV) (h:Hp):Option (Nat×List AV):=
 match x with
 | .gN=>some (0,[])
 | .slice id o len _=>(nw h (.ptr id o) (len*s)).map fun l=>(len,l)
 | .ro cs n _=>(iV (n*s) cs).map fun l=>(n,l)
 | .str b=>if s=1 then some (b.length,b.map fun c=> .int .u8 (.lit (Int.ofNat c))) else none
 |_=>none
def n4 (ie:TI) (e len m:Nat) (cs:List AV) (h:Hp):Option (AV×Hp):=
 if (len+m)*ie.bytes<=140737488355328 then some (.slice h.fresh 0 (len+m) (.rest ie.size),h.new (.cells cs e)) else none
def qO (ie:TI) (e m:Nat) (news:List AV) (x:AV) (h:Hp):Option (AV×Hp):=
 match x with
 | .gN=>if m=0 then some (.gN,h) else n4 ie e 0 m news h
 | .slice id o len (.exact c)=>
   if len+m<=c then
    match h.get id with
    |some (.cells cs e')=>match dW cs (o+len*ie.size) news with
     |some mB=>some (.slice id o (len+m) (.exact c),h.put id (.cells mB e'))
     |none=>none
    |_=>none
   else match nw h (.ptr id o) (len*ie.size) with
    |some old=>n4 ie e len m (old++news) h
    |none=>none
 | .slice id o len (.rest es)=>
   if es=ie.size then
    match h.get id with
    |some (.cells cs e')=>
     if o+(len+m)*ie.size<=cs.length then
      match dW cs (o+len*ie.size) news with
      |some mB=>some (.slice id o (len+m) (.rest es),h.put id (.cells mB e'))
      |none=>none
     else if o+len*ie.size=cs.length/\e'=e then
      match eS o cs with
      |some old=>n4 ie e len m (old++news) (h.drop id)
      |none=>none
     else none
    |_=>none
   else none
 | .ro cs n full=>
   if m=0 then some (.ro cs n full,h)
   else if full then match iV (n*ie.size) cs with
    |some old=>n4 ie e n m (old++news) h
    |none=>none
   else none
 |_=>none
def FP (tt:TT) (t t2:Nat) (x y:AV) (h:Hp):Option (AV×Hp):=
 match tt t with
 |some ti=>match ti.kind with
  | .slice e=>match tt e with
    |some ie=>match tt t2 with
     |none=>none
     |some Rk=>match Rk.kind with
      | .int _=>none
      |_=>
       if ie.size=0\/ie.bytes=0\/¬ie.zero.length=ie.size then none else
       match sI ie.size y h with
       |none=>none
       |some (m,news)=>qO ie e m news x h
    |none=>none
  |_=>none
 |none=>none
def Ku (tt:TT) (t:Nat) (x:AV) (h:Hp):Option Hp:=
 match tt t with
 |some ti=>match ti.kind with
  | .slice e=>match tt e with
    |some ie=>match x with
     | .gN=>some h
     | .yl _ _=>some h
     | .slice id o len _=>match len with
       |0=>some h
       |_=>match ie.zero with
        |[]=>none
        |_=>match h.get id with
         |some (.cells cs e')=>match dW cs o (dQ ie.zero len) with
          |some mB=>some (h.put id (.cells mB e'))
          |none=>none
         |_=>none
     |_=>none
    |none=>none
  |_=>none
 |none=>none
def Ki (tt:TT) (t:Nat) (x:AV) (h:Hp):Option (AV×Hp):=
 match tt t with
 |some ti=>match ti.kind with
  | .string=>match x with
    | .str b=>some (.ptr h.fresh 0,h.new (.kS b 0))
    |_=>none
  |_=>none
 |none=>none
def PH (x:AV) (isS:Bool) (h:Hp):Option (AV×Hp):=
 match isS with
 |false=>none
 |true=>match x with
  | .ptr id 0=>match h.get id with
    |some (.kS b p)=>match fy b p with
     |none=>some (.tuple [.bool (.lit false)],h)
     |some c=>if c<128 then some (.tuple [.bool (.lit true),.int .i64 (.lit (Int.ofNat p)),.int .i32 (.lit (Int.ofNat c))],h.put id (.kS b (p+1))) else none
    |_=>none
  |_=>none
def uw (mx:Bool):List AV->V->IntKind->St->T (AV×St)
 |[],a,k,s=> .ret (.int k a,s)
 | .int _ b::xs,a,k,s=>kB s (if mx then iP a b else iP b a) fun s c=>if c then uw mx xs b k s else uw mx xs a k s
 |_,_,_,_=> .fail
def ae9 (s:St) (q:Bool) (k:IntKind) (e d:V):T (AV×St):=kB s (rO d (.lit 0)) fun s c=>match c with
 |true=> .fail
 |false=> .ret (.int k (match q with |true=> .wrap k (.quo e d)|false=> .rem e d),s)
def IZ (s:St) (h:Option AV) (k:Option AV->St->T (AV×St)):T (AV×St):=match h with
 |some (.int .i64 e)=>kB s (rO e (.lit 0)) fun s c=>match c with
  |true=>k (some (.int .i64 (.lit 0))) s
  |false=> .fail
 |h=>k h s
def OQ (op:BinOp) (a b:AV):Option (Bool×IntKind×V×V):=
 match (match op with | .rem=>some false| .quo=>some true|_=>none) with
 |some q=>match a with
  | .int k e=>match b with
    | .int k' d=>match d with
      | .lit _=>none
      |d=>if k=k' then some (q,k,e,d) else none
    |_=>none
  |_=>none
 |none=>none
def qY (s:St) (v:Option AV):T (AV×St):=match v with |some v=> .ret (v,s)|none=> .fail
def ON (s:St) (h:Option Hp):T (AV×St):=match h with |some h=> .ret (AV.undef,{ s with h:=h })|none=> .fail
def Cz (s:St) (r:Option (AV×Hp)):T (AV×St):=match r with |some (v,h)=> .ret (v,{ s with h:=h })|none=> .fail
def Iv (s:St):Option Operand->Option (Option AV)
 |none=>some none
 |some x=>(ev s x).map some
def xu (s:St):List (Nat×Operand)->Option (List (Nat×AV))
 |[]=>some []
 |(i,x)::xs=>match ev s x with
  |none=>none
  |some a=>match xu s xs with
   |none=>none
   |some amV=>some ((i,a)::amV)
def zS {α:Type} (s:St) (i n:V) (f:St->T α):T α:=
 kB s (iP i (.lit 0)) fun s b=>match b with
  |true=> .fail
  |false=>kB s (iP i n) fun s b=>match b with
   |true=>f s
   |false=> .fail
def OZ (tt:TT) (t:Nat) (a b:AV):Option V:=match a with
 | .eD e _=>match b with
   | .gN=>match tt t with
     |some ti=>match ti.kind with
      | .slice _=>some e
      |_=>none
     |none=>none
   |_=>none
 |_=>none
def Yv (s:St) (op:BinOp) (r:Bool):T (AV×St):=match op with
 | .eql=> .ret (.bool (.lit r),s)
 | .neq=> .ret (.bool (.lit (!r)),s)
 |_=> .fail
def afj (s:St) (e:V) (op:BinOp):T (AV×St):=kB s (iP (.lit 0) (dS e)) fun s b=>match b with
 |true=>Yv s op false
 |false=>kB s (rj (nr e) (.eD (.i 1))) fun s b=>match b with
  |true=>Yv s op true
  |false=>kB s (rj (nr e) (.eD (.i 2))) fun s b=>match b with
   |true=>Yv s op false
   |false=> .fail
def aiP (kk:TK) (a b:AV):Option SB:=match kk with
 | .int _=>match a with
   | .int k x=>match b with
     | .int k' y=>if k=k' then some (rO x y) else none
     |_=>none
   |_=>none
 | .string=>Ct a b
 |_=>none
def uM {α:Type} (kk:TK) (k:AV):List (AV×AV×Nat)->St->(St->T α)->T α
 |[],s,f=>f s
 |(k',_,_)::es,s,f=>match R7 s.pc kk k k' with
  |some b=>match b with
   |true=>f s
   |false=>uM kk k es s f
  |none=>match aiP kk k k' with
   |some c=>kB s c fun s b=>match b with
    |true=>f s
    |false=>uM kk k es s f
   |none=>f s
def oB {α:Type} (tt:TT) (t:Nat) (m k:AV) (s:St) (f:St->T α):T α:=match tt t with
 |some ti=>match ti.kind with
  | .map kt _=>match xg tt kt with
    |some kk=>match JC m s.h with
     |some es=>uM kk k es s f
     |none=>f s
    |none=>f s
  |_=>f s
 |none=>f s
def M6 (k:IntKind) (e:V) (f:AV->St->T (AV×St)):Nat->Nat->St->T (AV×St)
 |0,_,_=> .fail
 |n+1,j,s=>match n with
  |0=>f (.int k (.lit (Int.ofNat j))) s
  |_=>kB s (rO e (.lit (Int.ofNat j))) fun s b=>match b with
   |true=>f (.int k (.lit (Int.ofNat j))) s
   |false=>M6 k e f n (j+1) s
def ajJ (tt:TT) (t:Nat) (x:AV):Option Nat:=match tt t with
 |some ti=>match ti.kind with
  | .array n _=>if n<=64 then some n else none
  | .slice _=>match x with
    | .slice _ _ len _=>if len<=64 then some len else none
    |_=>none
  |_=>none
 |none=>none
def IM (tt:TT) (t:Nat) (x ix:AV) (s:St) (f:AV->St->T (AV×St)):T (AV×St):=match kZ ix with
 |some _=>f ix s
 |none=>match ix with
  | .int k e=>match ajJ tt t x with
    |some n=>zS s e (.lit (Int.ofNat n)) fun s=>M6 k e f n 0 s
    |none=> .fail
  |_=> .fail
def uH (tt:TT) (ty:Nat):Option Nat:=match tt ty with
 |some ti=>match ti.kind with
  | .slice el=>iW tt el
  |_=>none
 |none=>none
def Ks (tt:TT) (s:St) (ty t:Nat) (e:V) (ix:AV):T (AV×St):=match ix with
 | .int _ i=>match uH tt ty with
   |some z=>if z=(rowOf t).es then zS s i (dS e) fun s=> .ret (.nX (ib (rowOf t) (.op .at e i)),s) else .fail
   |none=> .fail
 |_=> .fail
def Ke (tt:TT) (s:St) (ty id t:Nat) (n:V) (ix:AV):T (AV×St):=match ix with
 | .int _ i=>match uH tt ty with
   |some z=>if z=(rowOf t).es then zS s i n fun s=> .ret (.AR id z i 0,s) else .fail
   |none=> .fail
 |_=> .fail
def oF (pc:List (SB×Bool)) (p?:List AV) (i:V):List (V×List AV)->Option (List AV)
 |[]=>some p?
 |(j,cs)::l=>match fv i j with
  |true=>some cs
  |false=>match kM pc (rO i j) with
   |some b=>match b with
    |true=>some cs
    |false=>oF pc p? i l
   |none=>none
def Hu (pc:List (SB×Bool)) (i:V) (mB:List AV):List (V×List AV)->Option (List (V×List AV))
 |[]=>none
 |(j,cs)::l=>match fv i j with
  |true=>some ((j,mB)::l)
  |false=>match kM pc (rO i j) with
   |some b=>match b with
    |true=>some ((j,mB)::l)
    |false=>match Hu pc i mB l with
     |some l'=>some ((j,cs)::l')
     |none=>none
   |none=>none
def wN (pc:List (SB×Bool)) (i:V):List (V×List AV)->Bool
 |[]=>true
 |(j,_)::l=>match kM pc (rO i j) with
  |some false=>wN pc i l
  |_=>false
def vB {α:Type} (i:V):List (V×List AV)->St->(St->T α)->T α
 |[],s,k=>k s
 |(j,_)::l,s,k=>match fv i j with
  |true=>k s
  |false=>kB s (rO i j) fun s b=>match b with
   |true=>k s
   |false=>vB i l s k
def EV (k:IntKind):List AV->Option (List D)
 |[]=>some []
 |v::vs=>match v with
  | .int k' e=>match e with
    | .lit n=>if k=k' then match EV k vs with
     |some ds=>some (.i n::ds)
     |none=>none
     else none
    |_=>none
  |_=>none
def X':List AV->Option IntKind
 |v::_=>match v with
  | .int k _=>some k
  |_=>none
 |[]=>none
def Tx (tt:TT) (t:Nat) (ix:AV):Option (Nat×V):=match kZ ix with
 |some _=>none
 |none=>match ix with
  | .int _ e=>match tt t with
    |some ti=>match ti.kind with
     | .array n el=>if 64<n then match tt el with
      |some ie=>if ie.size=1/\ie.agg=false then some (n,e) else none
      |none=>none
      else none
     |_=>none
    |none=>none
  |_=>none
def It (s:St) (cs:List AV) (e:V):T (AV×St):=match X' cs with
 |none=> .fail
 |some k=>match EV k cs with
  |none=> .fail
  |some ds=>zS s e (.lit (Int.ofNat ds.length)) fun s=> .ret (.int k (zA (.op .at (.eD (dL ds)) e)),s)
def AL (tt:TT) (s:St) (ty id es:Nat) (i:V) (off:Nat):T (AV×St):=match s.h.get id with
 |some o=>match o with
  | .cells cs _=>match tt ty with
    |some ti=>match ti.agg||!(Nat.beq es 1)||!(Nat.beq off 0) with
     |true=> .fail
     |false=>It s cs i
    |none=> .fail
  | .vec e t _ ov=>match tt ty with
    |some ti=>if (rowOf t).es=es then zS s i (dS e) fun s=>vB i ov s fun s=>match oF s.pc (ib (rowOf t) (.op .at e i)) i ov with
     |some cs=>match eS off cs with
      |some l=>qY s (partOf ti l)
      |none=> .fail
     |none=> .fail
     else .fail
    |none=> .fail
  |_=> .fail
 |none=> .fail
def Zr (v:AV) (h:Hp):AV×Hp:=match v with
 | .qc id n t=>match h.get id with
   |some o=>match o with
    | .vec e t' _ ov=>match ov with
      |[]=>match Nat.beq t t' with
       |true=>match fv n (dS e) with
        |true=>(.eD e t,h.drop id)
        |false=>(v,h)
       |false=>(v,h)
      |_=>(v,h)
    |_=>(v,h)
   |none=>(v,h)
 | .yl z t=>(.eD z t,h)
 |v=>(v,h)
def isZ (e:V):Bool:=match e with
 | .lit n=>vV n 0
 |_=>false
def tw (a b:V):V:=match isZ a with
 |true=>b
 |false=> .add a b
def Ee (a b:V):V:=match isZ b with
 |true=>a
 |false=> .sub a b
def EG (e lo n:V):V:=match isZ lo with
 |true=> .op .take e n
 |false=> .op .drop (.op .take e (.add lo n)) lo
def yE {α:Type} (e lo n:V) (s:St) (k:St->T α):T α:=
 kB s (iP lo (.lit 0)) fun s b=>match b with
  |true=> .fail
  |false=>kB s (iP n (.lit 0)) fun s b=>match b with
   |true=> .fail
   |false=>kB s (iP (dS e) (tw lo n)) fun s b=>match b with
    |true=> .fail
    |false=>k s
def Cp (h:Hp) (id t:Nat):Option (V×TypeId):=match h.get id with
 |some o=>match o with
  | .vec e t' ty ov=>match ov with
    |[]=>match Nat.beq t t' with
     |true=>some (e,ty)
     |false=>none
    |_=>none
  |_=>none
 |none=>none
def Px {α:Type} (v:AV) (s:St) (k:AV->St->T α):T α:=match v with
 | .vm id lo n t=>match Cp s.h id t with
   |some (e,_)=>yE e lo n s fun s=>k (.eD (EG e lo n) t) { s with h:=s.h.drop id }
   |none=>k v s
 |v=>match Zr v s.h with
  |(v',h')=>k v' { s with h:=h' }
def Ig {α:Type}:List AV->St->(List AV->St->T α)->T α
 |[],s,k=>k [] s
 |v::vs,s,k=>Px v s fun v' s=>Ig vs s fun N2 s=>k (v'::N2) s
def HB {α:Type} (t:Nat):List (V×List AV)->V->St->(V->St->T α)->T α
 |[],e,s,k=>k e s
 |(j,cs)::ov,e,s,k=>HB t ov e s fun e s=>Ig cs s fun cs s=>match rK (rowOf t) cs with
  |some x=>k (.op .set e (eL (nV j) x)) s
  |none=> .fail
def afd (v:AV) (h:Hp):Option (Nat×V×Nat×List (V×List AV)):=match v with
 | .qc id n t=>match h.get id with
   |some o=>match o with
    | .vec e t' _ ov=>match ov with
      |[]=>none
      |_=>match Nat.beq t t' with
       |true=>match fv n (dS e) with
        |true=>some (id,e,t,ov)
        |false=>none
       |false=>none
    |_=>none
   |none=>none
 |_=>none
def Pw {α:Type} (v:AV) (s:St) (k:AV->St->T α):T α:=match afd v s.h with
 |some (id,e,t,ov)=>HB t ov e s fun e' s=>match s.h.get id with
  |some _=>k (.eD e' t) { s with h:=s.h.drop id }
  |none=> .fail
 |none=>Px v s k
def yj {α:Type}:List AV->St->(List AV->St->T α)->T α
 |[],s,k=>k [] s
 |v::vs,s,k=>Pw v s fun v' s=>yj vs s fun N2 s=>k (v'::N2) s
def setCells:List CK->Nat->List AV->V->Option V
 |_,_,[],x=>some x
 |ks,off,v::vs,x=>match fy ks off with
  |some c=>match nD c v with
   |some a=>setCells ks (off+1) vs (.op .set x (eL (.eD (.i (Int.ofNat off))) a))
   |none=>none
  |none=>none
def KP (r:Row) (e i:V) (off:Nat) (vs:List AV):Option V:=match r with
 | .one c=>match off with
   |0=>match vs with
    |[v]=>match nD c v with
     |some a=>some (.op .set e (eL (nV i) a))
     |none=>none
    |_=>none
   |_=>none
 | .many ks=>match setCells ks off vs (.op .at e i) with
   |some x=>some (.op .set e (eL (nV i) x))
   |none=>none
def FD (tt:TT) (s:St) (ty id es:Nat) (i:V) (off:Nat) (one:Bool) (vs:List AV):T (AV×St):=
 match s.h.get id with
  |some o=>match o with
   | .vec e t Bo ov=>match tt ty with
     |some ti=>if (rowOf t).es=es/\vs.length=ti.size/\one=true then zS s i (dS e) fun s=>vB i ov s fun s=>match oF s.pc (ib (rowOf t) (.op .at e i)) i ov with
      |some cs=>match dW cs off vs with
       |some mB=>match Hu s.pc i mB ov with
        |some jA=> .ret (AV.undef,{ s with h:=s.h.put id (.vec e t Bo jA) })
        |none=>match wN s.pc i ov with
         |true=>match KP (rowOf t) e i off vs with
          |some e'=> .ret (AV.undef,{ s with h:=s.h.put id (.vec e' t Bo ov) })
          |none=> .ret (AV.undef,{ s with h:=s.h.put id (.vec e t Bo ((i,mB)::ov)) })
         |false=> .fail
       |none=> .fail
      |none=> .fail
      else .fail
     |none=> .fail
   |_=> .fail
  |none=> .fail
def aiU:AV->Bool
 | .qc _ _ _=>true
 | .gN=>true
 | .yl _ _=>true
 | .slice _ _ n c=>match n with
   |0=>match c with
    | .exact k=>match k with
      |0=>true
      |_=>false
    |_=>false
   |_=>false
 |_=>false
def age (c:CK) (v:AV):AV:=match c with
 | .sl t=>match v with
   | .gN=> .yl (.eD (.i 1)) t
   | .slice i o n k=>match n with
     |0=>match k with
      | .exact m=>match m with
        |0=> .yl (.eD (.i 2)) t
        |m+1=> .slice i o 0 (.exact (m+1))
      |k=> .slice i o 0 k
     |n+1=> .slice i o (n+1) k
   |v=>v
 |_=>v
def MK:List CK->List AV->List AV
 |[],vs=>vs
 |_::_,[]=>[]
 |c::cs,v::vs=>age c v::MK cs vs
def OM (r:Row):List CK:=match r with
 | .one c=>[c]
 | .many cs=>cs
def SK (i:V):List (SB×Bool)->Option V
 |[]=>none
 |(c,b)::l=>match c with
  | .eq x y=>match b with
    |true=>match fv x i with
     |true=>some y
     |false=>SK i l
    |false=>SK i l
  |_=>SK i l
def FB (tt:TT) (s:St) (ty id es:Nat) (i j:V) (off:Nat) (one:Bool) (vs:List AV):T (AV×St):=
 match s.h.get id with
  |some o=>match o with
   | .vec e t Bo ov=>match tt ty with
     |some ti=>if (rowOf t).es=es/\vs.length=ti.size/\one=true then zS s i (dS e) fun s=>vB j ov s fun s=>match kM s.pc (.eq i j) with
      |some true=>match oF s.pc (ib (rowOf t) (.op .at e j)) j ov with
       |some cs=>match dW cs off (MK ((OM (rowOf t)).drop off) vs) with
        |some mB=>match Hu s.pc j mB ov with
         |some jA=> .ret (AV.undef,{ s with h:=s.h.put id (.vec e t Bo jA) })
         |none=>match wN s.pc j ov with
          |true=> .ret (AV.undef,{ s with h:=s.h.put id (.vec e t Bo ((j,mB)::ov)) })
          |false=> .fail
        |none=> .fail
       |none=> .fail
      |_=> .fail
      else .fail
     |none=> .fail
   |_=> .fail
  |none=> .fail
def FF (tt:TT) (s:St) (ty id es:Nat) (i:V) (off:Nat) (v:AV):T (AV×St):=
 match (if aiU v then SK i s.pc else none) with
 |some j=>FB tt s ty id es i j off (sj v.cells) v.cells
 |none=>yj v.cells s fun vs s=>FD tt s ty id es i off (sj v.cells) vs
def qM (e:Nat) (own:Option Nat) (x:AV) (h:Hp):Option (V×Nat×Hp):=match x with
 | .qc id n t=>match h.get id with
   |some o=>match o with
    | .vec e0 t0 ty ov=>match ov with
      |[]=>match Nat.beq t t0 with
       |true=>match Nat.beq ty e with
        |true=>match fv n (dS e0) with
         |true=>some (e0,t,h.drop id)
         |false=>none
        |false=>none
       |false=>none
      |_=>none
    |_=>none
   |none=>none
 | .gN=>match own with
   |some t=>some (.eD (.i 0),t,h)
   |none=>none
 | .emp=>match own with
   |some t=>some (.eD (.i 0),t,h)
   |none=>none
 | .yl _ _=>match own with
   |some t=>some (.eD (.i 0),t,h)
   |none=>none
 | .slice _ _ n c=>match n with
   |0=>match c with
    | .exact k=>match k with
      |0=>match own with
       |some t=>some (.eD (.i 0),t,h)
       |none=>none
      |_=>none
    |_=>none
   |_=>none
 |_=>none
def acO:AV->Bool
 | .eD _ _=>true
 |_=>false
def YO (own:Option Nat):AV->Bool
 | .qc _ _ _=>true
 | .vm _ _ _ _=>true
 | .gN=>own.isSome
 | .emp=>own.isSome
 | .yl _ _=>own.isSome
 | .slice _ _ n c=>match n with
   |0=>match c with
    | .exact k=>match k with
      |0=>own.isSome
      |_=>false
    |_=>false
   |_=>false
 |_=>false
def TA (id t:Nat) (ty:TypeId) (e0 n1 m sd:V) (s:St):T (AV×St):=
 yE e0 n1 m s fun s=> .ret (.vm id (.lit 0) (tw n1 m) t,{ s with h:=s.h.put id (.vec (.op .cat (.op .cat (.op .take e0 n1) sd) (.op .drop e0 (tw n1 m))) t ty []) })
def FQ (tt:TT) (t t2 id:Nat) (n1:V) (t':Nat) (y:AV) (s:St):T (AV×St):=
 match tt t with
 |some ti=>match ti.kind with
  | .slice e=>match tt e with
    |some ie=>match tt t2 with
     |none=> .fail
     |some Rk=>match Rk.kind with
      | .int _=> .fail
      |_=>
       if ie.size=0\/ie.bytes=0\/¬ie.zero.length=ie.size\/¬(rowOf t').es=ie.size then .fail else
       match Cp s.h id t' with
       |none=> .fail
       |some (e0,ty)=>match y with
        | .vm id2 VU n2 K9=>match Nat.beq id2 id with
          |true=>match Nat.beq K9 t' with
           |true=>yE e0 VU n2 s fun s=>TA id t' ty e0 n1 n2 (EG e0 VU n2) s
           |false=> .fail
          |false=> .fail
        |y=>match sI ie.size y s.h with
         |none=> .fail
         |some (m,news)=>match m with
          |0=> .fail
          |m+1=>if m<1000 then match lr (rowOf t') (.eD (.i 0)) (m+1) news with
           |some sd=>TA id t' ty e0 n1 (.lit (Int.ofNat (m+1))) sd s
           |none=> .fail
           else .fail
    |none=> .fail
  |_=> .fail
 |none=> .fail
def AP (tt:TT) (ty id:Nat) (lo n:V) (t:Nat) (s:St):T (AV×St):=
 match tt ty with
 |some ti=>match ti.kind with
  | .slice e=>match tt e with
    |some ie=>if (rowOf t).es=ie.size/\0<ie.size then match Cp s.h id t with
     |none=> .fail
     |some (e0,Bo)=>match rK (rowOf t) ie.zero with
      |none=> .fail
      |some z=>kB s (iP lo (.lit 0)) fun s b=>match b with
       |true=> .fail
       |false=>kB s (iP n (.lit 0)) fun s b=>match b with
        |true=> .fail
        |false=>kB s (rO (tw lo n) (dS e0)) fun s b=>match b with
         |false=> .fail
         |true=> .ret (AV.undef,{ s with h:=s.h.put id (.vec (.op .fill e0 (eL (nV lo) z)) t Bo []) })
     else .fail
    |none=> .fail
  |_=> .fail
 |none=> .fail
def rP (bytes k:Nat):Int:=Int.ofNat (140737488355328 / bytes-k)
def X2 (e0:V) (bytes:Nat):Int:=match O9 e0 with
 |true=>rP bytes 0
 |false=>rP bytes 1000000
def aaC:AV->Bool
 | .qc _ _ _=>true
 | .yl _ _=>true
 | .slice _ _ n _=>match n with
   |0=>true
   |_=>false
 |_=>false
def Av:List (SB×Bool)->Bool
 |[]=>false
 |(b,v)::l=>match b with
  | .eq _ x=>match x with
    | .dD i=>match i with
      |0=>match v with
       |true=>true
       |false=>Av l
      |_=>Av l
    |_=>Av l
  |_=>Av l
def V_ (m:Nat) (news:List AV) (pc:List (SB×Bool)):Bool:=match m with
 |0=>match news.any aaC with
  |true=>Av pc
  |false=>false
 |_=>false
def BI (e:Nat) (x:AV) (h:Hp):Option (V×Nat×V×List AV×Hp):=match x with
 | .qc id n t=>match h.get id with
   |some o=>match o with
    | .vec e0 t0 ty ov=>match ov with
      |[]=>none
      |p::l=>match l with
       |[]=>match Nat.beq t t0 with
        |true=>match Nat.beq ty e with
         |true=>match fv n (dS e0) with
          |true=>some (e0,t,p.1,p.2,h.drop id)
          |false=>none
         |false=>none
        |false=>none
       |_=>none
    |_=>none
   |none=>none
 |_=>none
def AQ (e:Nat) (own:Option Nat) (x:AV) (ie:TI) (m:Nat) (news:List AV) (s:St):T (AV×St):=
 yj news s fun CH s=>match qM e own x s.h with
  |some (e0,t',h0)=>if (rowOf t').es=ie.size/\m<1000 then
   kB s (iP (dS e0) (.lit (rP ie.bytes (m+1)))) fun s b=>match b with
    |true=>match lr (rowOf t') e0 (m+1) CH with
     |some e1=> .ret (.qc h0.fresh (dS e1) t',{ s with h:=h0.new (.vec e1 t' e []) })
     |none=> .fail
    |false=> .fail
   else .fail
  |none=> .fail
def Cb (e:Nat) (x:AV) (ie:TI) (m:Nat) (news:List AV) (s:St):T (AV×St):=
 yj news s fun CH s=>match BI e x s.h with
  |some (e0,t',p,cs,h0)=>if (rowOf t').es=ie.size/\m<1000 then
   kB s (iP (dS e0) (.lit (rP ie.bytes (m+1)))) fun s b=>match b with
    |true=>kB s (iP p (dS e0)) fun s b=>match b with
     |true=>match lr (rowOf t') e0 (m+1) CH with
      |some e1=> .ret (.qc h0.fresh (dS e1) t',{ s with h:=h0.new (.vec e1 t' e [(p,cs)]) })
      |none=> .fail
     |false=> .fail
    |false=> .fail
   else .fail
  |none=> .fail
def Ca (e:Nat) (own:Option Nat) (x:AV) (ie:TI) (m:Nat) (news:List AV) (s:St):T (AV×St):=
 match qM e own x s.h with
 |some (e0,t',h0)=>if (rowOf t').es=ie.size/\m=0 then
  kB s (rO (dS e0) (.dD 0)) fun s b=>match b with
   |true=>kB s (iP (dS e0) (.lit (rP ie.bytes 1))) fun s b=>match b with
    |true=>match lr (rowOf t') e0 1 ie.zero with
     |some e1=> .ret (.qc h0.fresh (dS e1) t',{ s with h:=h0.new (.vec e1 t' e [(.dD 0,news)]) })
     |none=> .fail
    |false=> .fail
   |false=>AQ e own x ie m news s
  else .fail
 |none=> .fail
def B9 (tt:TT) (t t2:Nat) (x y:AV) (s:St):T (AV×St):=
 match tt t with
 |some ti=>match ti.kind with
  | .slice e=>match tt e with
    |some ie=>match tt t2 with
     |none=> .fail
     |some Rk=>match Rk.kind with
      | .int _=> .fail
      |_=>
       if ie.size=0\/ie.bytes=0\/¬ie.zero.length=ie.size\/¬ie.bytes<=400 then .fail else
       match y with
       | .eD e2 ty2=>match qM e ti.own x s.h with
         |some (e0,t',h0)=>if (rowOf t').es=ie.size/\rowOf ty2=rowOf t' then
          kB s (rj (dS e2) (.lit 0)) fun s b=>match b with
           |true=> .ret (x,s)
           |false=>kB s (iP (dS e2) (.lit (X2 e0 ie.bytes))) fun s b=>match b with
            |true=>kB s (iP (dS e0) (.lit 1000000)) fun s b=>match b with
             |true=>match O9 e0 with
              |true=> .ret (.qc h0.fresh (dS e2) t',{ s with h:=h0.new (.vec e2 t' e []) })
              |false=> .ret (.qc h0.fresh (dS (.op .cat e0 e2)) t',{ s with h:=h0.new (.vec (.op .cat e0 e2) t' e []) })
             |false=> .fail
            |false=> .fail
          else .fail
         |none=> .fail
       |y=>match sI ie.size y s.h with
        |some (m,news)=>match m with
         |0=> .ret (x,s)
         |m+1=>match BI e x s.h with
          |some _=>Cb e x ie m news s
          |none=>match V_ m news s.pc with
           |true=>Ca e ti.own x ie m news s
           |false=>AQ e ti.own x ie m news s
        |none=> .fail
    |none=> .fail
  |_=> .fail
 |none=> .fail
def Kl (tt:TT) (t:Nat) (l c:AV) (s:St):T (AV×St):=match l with
 | .int k n=>match c with
   | .int k2 n2=>match fv n n2 with
     |false=> .fail
     |true=>match tt t with
      |none=> .fail
      |some i=>match i.own with
       |none=> .fail
       |some o=>match i.kind with
        | .slice e=>match tt e with
          |none=> .fail
          |some ie=>match rK (rowOf o) ie.zero with
           |none=> .fail
           |some z=>if ie.size=(rowOf o).es/\0<ie.size/\ie.bytes≠0/\ie.zero.length=ie.size then
            kB s (iP n (.lit 0)) fun s b=>match b with
             |true=> .fail
             |false=>kB s (rj n (.lit 0)) fun s b=>match b with
              |true=>match rH tt t (.int k (.lit 0)) (.int k2 (.lit 0)) s.h with
               |some (v,h)=> .ret (v,{ s with h:=h })
               |none=> .fail
              |false=>kB s (iP n (.lit (rP ie.bytes 0))) fun s b=>match b with
               |true=> .ret (.qc s.h.fresh (dS (.op .rep n z)) o,{ s with h:=s.h.new (.vec (.op .rep n z) o e []) })
               |false=> .fail
            else .fail
        |_=> .fail
   |_=> .fail
 |_=> .fail
def Dr (v:AV):Bool:=match kZ v with
 |some n=>vV n 0
 |none=>false
def Kr (tt:TT) (s:St) (ty t:Nat) (e:V) (lo hi:Option AV) (mx:Option AV):T (AV×St):=match mx with
 |some m=>match Dr m with
  |true=>match uH tt ty with
   |none=> .fail
   |some _=>match lo with
    |none=>match hi with
     |some hv=>match Dr hv with
      |true=> .ret (.yl (.op .take e (.lit 0)) t,s)
      |false=> .fail
     |none=> .fail
    |some _=> .fail
  |false=> .fail
 |none=>match uH tt ty with
  |none=> .fail
  |some z=>if z=(rowOf t).es then
   (match hi with
   |none=>match lo with
    |some (.int _ l)=>kB s (iP l (.lit 0)) fun s b=>match b with
     |true=> .fail
     |false=>kB s (iP (dS e) l) fun s b=>match b with
      |true=> .fail
      |false=> .ret (.eD (.op .drop e l) t,s)
    |_=> .fail
   |some (.int _ h)=>kB s (iP (dS e) h) fun s b=>match b with
    |true=> .fail
    |false=>match lo with
     |none=>kB s (iP h (.lit 0)) fun s b=>match b with
      |true=> .fail
      |false=> .ret (.eD (.op .take e h) t,s)
     |some (.int _ l)=>kB s (iP l (.lit 0)) fun s b=>match b with
      |true=> .fail
      |false=>kB s (iP h l) fun s b=>match b with
       |true=> .fail
       |false=> .ret (.eD (.op .drop (.op .take e h) l) t,s)
     |_=> .fail
   |_=> .fail)
   else .fail
def loE (lo:Option AV):Option V:=match lo with
 |none=>some (.lit 0)
 |some v=>match v with
  | .int _ l=>some l
  |_=>none
def DQ (tt:TT) (s:St) (ty id t:Nat) (J' n0:V) (lo hi mx:Option AV):T (AV×St):=
 match uH tt ty with
 |none=> .fail
 |some z=>if z=(rowOf t).es/\z≠0 then match loE lo with
  |none=> .fail
  |some l=>kB s (iP l (.lit 0)) fun s b=>match b with
   |true=> .fail
   |false=>match hi with
    |none=>match mx with
     |some _=> .fail
     |none=>kB s (iP n0 l) fun s b=>match b with
      |true=> .fail
      |false=> .ret (.vm id (tw J' l) (Ee n0 l) t,s)
    |some hv=>match hv with
     | .int _ h=>kB s (iP h l) fun s b=>match b with
       |true=> .fail
       |false=>match mx with
        |some mv=>match mv with
         | .int _ m=>kB s (iP m h) fun s b=>match b with
           |true=> .fail
           |false=>kB s (iP n0 m) fun s b=>match b with
            |true=> .fail
            |false=> .ret (.any,s)
         |_=> .fail
        |none=>kB s (iP n0 h) fun s b=>match b with
         |false=> .ret (.vm id (tw J' l) (Ee h l) t,s)
         |true=>match isZ J' with
          |false=> .fail
          |true=>match Cp s.h id t with
           |none=> .fail
           |some (e,_)=>kB s (iP (dS e) h) fun s b=>match b with
            |true=> .fail
            |false=> .ret (.vm id (tw J' l) (Ee h l) t,s)
     |_=> .fail
  else .fail
def Kq (tt:TT) (s:St) (ty:Nat) (z:V) (t:Nat) (lo hi mx:Option AV):T (AV×St):=
 match mx with
 |some _=> .fail
 |none=>match uH tt ty with
  |none=> .fail
  |some _=>match oA hi 0 0 with
   |some 0=>match oA lo 0 0 with
    |some 0=> .ret (.yl z t,s)
    |_=> .fail
   |_=> .fail
def Kd (tt:TT) (s:St) (ty id t:Nat) (lo n:V) (ix:AV):T (AV×St):=match ix with
 | .int _ i=>match uH tt ty with
   |some z=>if z=(rowOf t).es then zS s i n fun s=> .ret (.AR id z (tw lo i) 0,s) else .fail
   |none=> .fail
 |_=> .fail
def YS:AV->Bool
 | .kE _=>true
 |_=>false
def Kg (tt:TT) (s:St) (ty:Nat) (e:V) (ix:AV):T (AV×St):=match ix with
 | .int _ i=>match tt ty with
   |some ti=>match ti.kind with
    | .string=>zS s i (dS e) fun s=> .ret (.int .u8 (zA (.op .at e i)),s)
    |_=> .fail
   |none=> .fail
 |_=> .fail
def hiE (e:V) (hi:Option AV):Option V:=match hi with
 |none=>some (dS e)
 |some v=>match v with
  | .int _ h=>some h
  |_=>none
def Kf (tt:TT) (s:St) (ty:Nat) (e:V) (lo hi mx:Option AV):T (AV×St):=match mx with
 |some _=> .fail
 |none=>match tt ty with
  |none=> .fail
  |some ti=>match ti.kind with
   | .string=>match loE lo with
     |none=> .fail
     |some l=>match hiE e hi with
      |none=> .fail
      |some h=>kB s (iP l (.lit 0)) fun s b=>match b with
       |true=> .fail
       |false=>kB s (iP h l) fun s b=>match b with
        |true=> .fail
        |false=>kB s (iP (dS e) h) fun s b=>match b with
         |true=> .fail
         |false=> .ret (.kE (.op .sub e (eL (nV l) (eL (nV h) (.eD (.i 0))))),s)
   |_=> .fail
def Du (x y:AV):Option (V×V):=match YS x||YS y with
 |false=>none
 |true=>match uW x with
  |none=>none
  |some a=>match uW y with
   |none=>none
   |some b=>some (a,b)
def Hb (a b:V):SB:=.not (.eq (.op .slt a b) (.lit 0))
def PD (op:BinOp) (a b:V) (s:St):T (AV×St):=match op with
 | .add=>kB s (iP (dS a) (.lit 1000000000)) fun s c=>match c with
   |false=> .fail
   |true=>kB s (iP (dS b) (.lit 1000000000)) fun s c=>match c with
    |false=> .fail
    |true=> .ret (.kE (.op .cat a b),s)
 | .eql=> .ret (.bool (rj (nr a) (nr b)),s)
 | .neq=> .ret (.bool (.not (rj (nr a) (nr b))),s)
 | .lss=> .ret (.bool (Hb a b),s)
 | .gtr=> .ret (.bool (Hb b a),s)
 | .leq=> .ret (.bool (xV (Hb b a)),s)
 | .geq=> .ret (.bool (xV (Hb a b)),s)
 |_=> .fail
def DS (tt:TT) (sT dT:Nat) (e:V) (s:St):T (AV×St):=match tt sT with
 |none=> .fail
 |some j=>match j.kind with
  | .string=>match tt dT with
    |none=> .fail
    |some i=>match i.kind with
     | .slice el=>match tt el with
       |some ie=>match ie.kind with
        | .int k=>match k with
          | .u8=>kB s (rj (dS e) (.lit 0)) fun s c=>match c with
            |true=> .ret (.slice s.h.fresh 0 0 (.rest 1),{ s with h:=s.h.new (.cells [] el) })
            |false=> .ret (.qc s.h.fresh (dS e) 14,{ s with h:=s.h.new (.vec e 14 el []) })
          |_=> .fail
        |_=> .fail
       |none=> .fail
     |_=> .fail
  |_=> .fail
def CM (c:CK):TK:=match c with
 | .int k=> .int k
 |_=> .string
def xZ (m:AV) (h:Hp):Option (Nat×V×Nat):=match m with
 | .map id=>match h.get id with
   |some o=>match o with
    | .kO e t=>some (id,e,t)
    |_=>none
   |none=>none
 |_=>none
def mapKey (tt:TT) (ty t:Nat) (k:AV):Option (V×TI):=match tt ty with
 |none=>none
 |some ti=>match ti.kind with
  | .map kt et=>match tt kt with
    |none=>none
    |some ki=>if ki.kind=CM (mapOf t).1 then match tt et with
     |none=>none
     |some ie=>match nD (mapOf t).1 k with
      |none=>none
      |some a=>some (nr a,ie)
     else none
  |_=>none
def Ib (e a:V):SB:=match e with
 | .eD d=>match a with
   | .eD k=> .lit (!(df d.l k).isSome)
   |a=> .eq (.op .O1 (.eD d) a) (.lit 0)
 |e=> .eq (.op .O1 e a) (.lit 0)
def AK (tt:TT) (ty:Nat) (k:AV) (ok:Bool) (e:V) (t:Nat) (s:St):T (AV×St):=match mapKey tt ty t k with
 |none=> .fail
 |some (a,ie)=>match zeroOf ie with
  |none=> .fail
  |some z=>kB s (Ib e a) fun s b=>match b with
   |true=> .ret (if ok then .tuple [z,.bool (.lit false)] else z,s)
   |false=> .ret (if ok then .tuple [sc (mapOf t).2 (.op .GM e a),.bool (.lit true)] else sc (mapOf t).2 (.op .GM e a),s)
def PG (tt:TT) (ty id:Nat) (k x:AV) (e:V) (t:Nat) (s:St):T (AV×St):=match mapKey tt ty t k with
 |none=> .fail
 |some (a,_)=>match nD (mapOf t).2 x with
  |none=> .fail
  |some b=> .ret (AV.undef,{ s with h:=s.h.put id (.kO (.op .zX e (eL a b)) t) })
def Kj (tt:TT) (ty:Nat) (m k x:AV) (s:St):T (AV×St):=yj [x] s fun xs s=>match xs with
 |[x]=>match xZ m s.h with
  |some (id,e,t)=>PG tt ty id k x e t s
  |none=> .fail
 |_=> .fail
def PQ (tt:TT) (ty id:Nat) (k:AV) (e:V) (t:Nat) (s:St):T (AV×St):=match mapKey tt ty t k with
 |none=> .fail
 |some (a,_)=> .ret (AV.undef,{ s with h:=s.h.put id (.kO (.op .GO e a) t) })
def Fy (m:AV) (h:Hp):Option (Nat×V×Nat×List Nat×List (V×AV)):=match m with
 | .map id=>match h.get id with
   |some o=>match o with
    | .uC e t fw ov=>some (id,e,t,fw,ov)
    |_=>none
   |none=>none
 |_=>none
def Kb (tt:TT) (ty:Nat) (k:AV):Option (V×TI):=match tt ty with
 |none=>none
 |some ti=>match ti.kind with
  | .map kt et=>match tt kt with
    |none=>none
    |some ki=>if ki.kind= .int .i64 then match tt et with
     |none=>none
     |some ie=>match k with
      | .int kk x=>if kk= .i64 then some (x,ie) else none
      |_=>none
     else none
  |_=>none
def uB {α:Type} (x:V):List (V×AV)->St->(Option AV->St->T α)->T α
 |[],s,k=>k none s
 |(y,v)::l,s,k=>match fv x y with
  |true=>k (some v) s
  |false=>kB s (rO x y) fun s b=>match b with
   |true=>k (some v) s
   |false=>uB x l s k
def Ka {α:Type} (x:V) (v:AV):List (V×AV)->St->(Option (List (V×AV))->St->T α)->T α
 |[],s,k=>k none s
 |(y,u)::l,s,k=>match fv x y with
  |true=>k (some ((y,v)::l)) s
  |false=>kB s (rO x y) fun s b=>match b with
   |true=>k (some ((y,v)::l)) s
   |false=>Ka x v l s fun r s=>match r with
    |some l'=>k (some ((y,u)::l')) s
    |none=>k none s
def AJ (tt:TT) (ty:Nat) (k:AV) (ok:Bool) (e:V) (ov:List (V×AV)) (s:St):T (AV×St):=match Kb tt ty k with
 |none=> .fail
 |some (x,ie)=>match zeroOf ie with
  |none=> .fail
  |some z=>uB x ov s fun r s=>match r with
   |some v=> .ret (if ok then .tuple [v,.bool (.lit true)] else v,s)
   |none=>kB s (Ib e (nV x)) fun s b=>match b with
    |true=> .ret (if ok then .tuple [z,.bool (.lit false)] else z,s)
    |false=> .fail
def AI (tt:TT) (ty id:Nat) (k v:AV) (e:V) (t:Nat) (fw:List Nat) (ov:List (V×AV)) (s:St):T (AV×St):=match Kb tt ty k with
 |none=> .fail
 |some (x,_)=>Ka x v ov s fun r s=>match r with
  |some jA=> .ret (AV.undef,{ s with h:=s.h.put id (.uC e t fw jA) })
  |none=>kB s (Ib e (nV x)) fun s b=>match b with
   |true=> .ret (AV.undef,{ s with h:=s.h.put id (.uC (.op .zX e (eL (nV x) (.eD (.i 0)))) t fw ((x,v)::ov)) })
   |false=> .fail
def amg (tt:TT) (t:Nat):Nat:=match tt t with
 |some ti=>match ti.kind with
  | .slice e=>e
  |_=>0
 |none=>0
def Zz (tt:TT) (t:Nat):List Nat:=match tt t with
 |some ti=>match ti.kind with
  | .map _ et=>match tt et with
    |some ie=>match ie.kind with
     | .pointer s=>match tt s with
       |some si=>match si.kind with
        | .struct fs=>s::0::fs.map fun f=>amg tt f.2.1
        |_=>[]
       |none=>[]
     | .slice e=>[0,e]
     |_=>[]
    |none=>[]
  |_=>[]
 |none=>[]
abbrev eu:=Nat->List AV->St->T (AV×St)
def Bd (s:St) (x:Operand) (f:AV->T (AV×St)):T (AV×St):=match ev s x with |some v=>f v|none=> .fail
def acI (tt:TT) (t:Nat):Option Nat:=match tt t with
 |some ti=>ti.own
 |none=>none
def xw (tt:TT) (s:St) (b:Builtin) (ts:List Nat) (args:List AV):T (AV×St):=
 match b,ts,args with
 | .len,[t],[x]=>qY s (ZC tt t x s.h)
 | .append,[t,t2],[.vm id lo n t',y]=>match isZ lo with
   |true=>FQ tt t t2 id n t' y s
   |false=> .fail
 | .append,[t,t2],[x,y]=>match YO (acI tt t) x||acO y with
   |true=>B9 tt t t2 x y s
   |false=>Cz s (FP tt t t2 x y s.h)
 | .delete,[t,_],[m,k]=>match xZ m s.h with
   |some (id,e,t')=>PQ tt t id k e t' s
   |none=>oB tt t m k s fun s=>ON s (FO tt s.pc t m k s.h)
 | .clear,[t],[.qc id n t']=>AP tt t id (.lit 0) n t' s
 | .clear,[t],[.vm id lo n t']=>AP tt t id lo n t' s
 | .clear,[t],[x]=>ON s (Ku tt t x s.h)
 | .min,_,.int k a::xs=>uw false xs a k s
 | .max,_,.int k a::xs=>uw true xs a k s
 |_,_,_=> .fail
def Kv (tt:TT) (call:eu) (s:St) (c:Call):T (AV×St):=
 match evs s c.args.toList with
 |none=> .fail
 |some args=>match c.callee with
  | .builtin b=>xw tt s b c.argTypes.toList args
  | .value f=>match ev s f with
    |some (.func (.func g) fs cs)=>call g (fs++args++cs) s
    |_=> .fail
  | .invoke _ _=> .fail
def ahP:SB->Bool
 | .lit _=>true
 | .not c=>match c with
   | .eq _ z=>match z with
     | .lit n=>vV n 0
     |_=>false
   |_=>false
 |_=>false
def w? {α:Type} (v:AV) (s:St) (k:AV->St->T α):T α:=match v with
 | .bool c=>match ahP c with
   |true=>k (.bool c) s
   |false=>kB s c fun s b=>k (.bool (.lit b)) s
 |v=>k v s
def Kk (tt:TT) (call:eu) (s:St) (op:Op):T (AV×St):=
 match op with
 | .move x=>Bd s x fun v=> .ret (v,s)
 | .assign x=>Bd s x fun v=> .ret (v,s)
 | .pick c a b=>Bd s c fun c=>match c with
   | .bool c=>kB s c fun s b'=>if b' then Bd s a fun v=> .ret (v,s) else Bd s b fun v=> .ret (v,s)
   |_=> .fail
 | .alloc t=>match tt t with
   |some i=> .ret (.ptr s.h.fresh 0,{ s with h:=s.h.new (.cells i.zero t) })
   |none=> .fail
 | .box t x=>Bd s x fun v=>if sj v.cells then .ret (.ptr s.h.fresh 0,{ s with h:=s.h.new (.cells v.cells t) }) else .fail
 | .build t parts=>match xu s parts.toList with
   |some ps=>qY s (Kx tt t ps)
   |none=> .fail
 | .buildSlice t n parts=>match xu s parts.toList with
   |some ps=>Cz s (uG tt t n ps s.h)
   |none=> .fail
 | .makeSlice t l c=>Bd s l fun lv=>match ev s c with
   |some cv=>match rH tt t lv cv s.h with
    |some r=>Cz s (some r)
    |none=>Kl tt t lv cv s
   |none=> .fail
 | .load t x=>Bd s x fun p=>match p with
   | .AR id es i off=>AL tt s t id es i off
   |p=>qY s (B8 tt t p s.h)
 | .store t x y=>Bd s x fun p=>match ev s y with
   |some v=>w? v s fun v s=>match p with
    | .AR id es i off=>FF tt s t id es i off v
    |p=>ON s (Kh tt t p v s.h)
   |none=> .fail
 | .nilCheck x=>Bd s x fun v=>match v with
   | .ptr _ _=> .ret (v,s)
   | .nX _=> .ret (v,s)
   | .AR _ _ _ _=> .ret (v,s)
   |_=> .fail
 | .binOp op t x y _=>Bd s x fun a=>match ev s y with
   |some b=>match a with
    | .agg xs=>match b,op with
      | .agg ys,.eql=>match DR tt t xs ys with
        |some c=> .ret (.bool c,s)
        |none=> .fail
      | .agg ys,.neq=>match DR tt t xs ys with
        |some c=> .ret (.bool (xV c),s)
        |none=> .fail
      |_,_=> .fail
    |a=>match OZ tt t a b with
     |some e=>afj s e op
     |none=>match OQ op a b with
      |some (q,k,e,d)=>ae9 s q k e d
      |none=>match Du a b with
       |some (x,y)=>PD op x y s
       |none=>qY s (ZE tt t op a b)
   |none=> .fail
 | .unOp op _ x=>Bd s x fun v=>qY s (agk op v)
 | .convert sT dT x=>Bd s x fun v=>match v with
   | .kE e=>DS tt sT dT e s
   |v=>Cz s (pV tt sT dT v s.h)
 | .makeFunc fn fs cs=>match evs s fs.toList,evs s cs.toList with
   |some f,some c=> .ret (.func fn f c,s)
   |_,_=> .fail
 | .makeMap t r=>match r with
   |none=>match acI tt t with
    |some m=>match Nat.ble 100 m with
     |true=> .ret (.map s.h.fresh,{ s with h:=s.h.new (.uC (.eD (.i 0)) (m-100) (Zz tt t) []) })
     |false=> .ret (.map s.h.fresh,{ s with h:=s.h.new (.kO (.eD (.i 0)) m) })
    |none=> .ret (.map s.h.fresh,{ s with h:=s.h.new (.map [] 0) })
   |some _=> .fail
 | .slice t x lo hi mx=>Bd s x fun v=>match Iv s lo,Iv s hi,Iv s mx with
   |some l,some h,some m=>match v with
    | .eD e t'=>Kr tt s t t' e l h m
    | .qc id n t'=>DQ tt s t id t' (.lit 0) n l h m
    | .vm id lo n t'=>DQ tt s t id t' lo n l h m
    | .kE e=>Kf tt s t e l h m
    | .yl z t'=>Kq tt s t z t' l h m
    | .gN=>IZ s h fun h s=>qY s (AG tt t .gN l h m)
    | .slice id o 0 (.exact 0)=>IZ s h fun h s=>qY s (AG tt t (.slice id o 0 (.exact 0)) l h m)
    |v=>match AG tt t v l h m with
    |some v=> .ret (v,s)
    |none=>qY s (FG tt t v l h m s.h)
   |_,_,_=> .fail
 | .fieldAddr t x f=>Bd s x fun v=>qY s (wD tt t v f)
 | .field t x f=>Bd s x fun v=>qY s (Kp tt t v f)
 | .indexAddr t x i=>Bd s x fun v=>match ev s i with
   |some i=>match v with
    | .ya k ks=>qY s (Km tt s.pc t k ks i)
    | .eD e t'=>Ks tt s t t' e i
    | .qc id n t'=>Ke tt s t id t' n i
    | .vm id lo n t'=>Kd tt s t id t' lo n i
    | .ptr id o=>match Tx tt t i with
      |some (n,e)=>if o=0 then zS s e (.lit (Int.ofNat n)) fun s=> .ret (.AR id 1 e 0,s) else .fail
      |none=>IM tt t (.ptr id o) i s fun i s=>qY s (oR tt t (.ptr id o) i)
    |v=>IM tt t v i s fun i s=>qY s (oR tt t v i)
   |none=> .fail
 | .index t x i=>Bd s x fun v=>match ev s i with
   |some i=>match v with
    | .kE e=>Kg tt s t e i
    | .agg cs=>match Tx tt t i with
      |some (n,e)=>match Nat.beq cs.length n with
       |true=>It s cs e
       |false=> .fail
      |none=>IM tt t (.agg cs) i s fun i s=>qY s (AM tt t (.agg cs) i)
    |v=>IM tt t v i s fun i s=>qY s (AM tt t v i)
   |none=> .fail
 | .lookup t m k ok=>Bd s m fun v=>match ev s k with
   |some k=>match xZ v s.h with
    |some (_,e,t')=>AK tt t k ok e t' s
    |none=>match Fy v s.h with
     |some (_,e,_,_,ov)=>AJ tt t k ok e ov s
     |none=>oB tt t v k s fun s=>qY s (FL tt s.pc t v k ok s.h)
   |none=> .fail
 | .mapUpdate t m k x=>Bd s m fun v=>match ev s k,ev s x with
   |some k,some x=>match xZ v s.h with
    |some _=>Kj tt t v k x s
    |none=>match Fy v s.h with
     |some (id,e,t',fw,ov)=>AI tt t id k x e t' fw ov s
     |none=>oB tt t v k s fun s=>ON s (rG tt s.pc t v k x s.h)
   |_,_=> .fail
 | .insert t m k x=>Bd s m fun v=>match ev s k,ev s x with
   |some k,some x=>match xZ v s.h with
    |some _=>Kj tt t v k x s
    |none=>match Fy v s.h with
     |some (id,e,t',fw,ov)=>AI tt t id k x e t' fw ov s
     |none=>oB tt t v k s fun s=>ON s (rG tt s.pc t v k x s.h)
   |_,_=> .fail
 | .range t x=>Bd s x fun v=>Cz s (Ki tt t v s.h)
 | .next x isS=>Bd s x fun v=>Cz s (PH v isS s.h)
 | .extract x i=>Bd s x fun v=>match v with
   | .tuple vs=>qY s (fy vs i)
   |_=> .fail
 | .call c=>Kv tt call s c
 |_=> .fail
def w8 {α:Type} (ops:List Oper) (s:St) (o:Oper) (f:St->Bool->T α):T α:=
 match o.guard with
 |none=>f s true
 |some (j,want)=>match fy ops j with
  |some oj=>match oj.dst with
   |some d=>match s.bG.get d with
    |some (.bool c)=>kB s c fun s b=>f s (b == want)
    |some (.tuple _)=>f s false
    |_=> .fail
   |none=> .fail
  |none=> .fail
def MX (tt:TT) (call:eu) (all:List Oper):List Oper->St->T St
 |[],s=> .ret s
 |o::rest,s=>w8 all s o fun s b=>
  if b then (Kk tt call s o.op).bind fun (v,s')=>MX tt call all rest (s'.LH o.dst v)
  else MX tt call all rest (s.LH o.dst AV.undef)
inductive Ex where
 |normal
 |exit (id:Nat)
 |ret
 deriving DecidableEq,Inhabited
def wC (body:St->T (Ex×St)):Nat->St->T (Ex×St)
 |0,_=> .fail
 |n+1,s=>(body s).bind fun (e,s')=>match e with
  | .normal=>wC body n s'
  |e=> .ret (e,s')
def jK (tt:TT) (call:eu) (draw:Nat->List Oper->St->T St) (lf:Nat):Code->St->T (Ex×St)
 | .skip,s=> .ret (.normal,s)
 | .region id ops d,s=>
   if d then (draw id ops.toList s).bind fun s'=> .ret (.normal,s')
   else (MX tt call ops.toList ops.toList s).bind fun s'=> .ret (.normal,s')
 | .seq a b,s=>(jK tt call draw lf a s).bind fun (e,s')=>match e with
   | .normal=>jK tt call draw lf b s'
   |e=> .ret (e,s')
 | .cond c x y,s=>match ev s c with
   |some (.bool c)=>kB s c fun s b=>if b then jK tt call draw lf x s else jK tt call draw lf y s
   |_=> .fail
 | .block id b,s=>(jK tt call draw lf b s).bind fun (e,s')=>match e with
   | .exit j=> .ret (if j=id then .normal else .exit j,s')
   |e=> .ret (e,s')
 | .loop b,s=>wC (jK tt call draw lf b) lf s
 | .exit id,s=> .ret (.exit id,s)
 | .scope b,s=>jK tt call draw lf b s
 | .label _,s=> .ret (.normal,s)
 | .ret,s=> .ret (.ret,s)
 |_,_=> .fail
def cw:List AV->Nat->Tr AV->Tr AV
 |[],_,t=>t
 |v::vs,i,t=>cw vs (i+1) (t.put i (some v))
def AH (tt:TT) (s:St):ResultVar->Option AV
 | .tmp t=>s.bG.get t
 | .cell a t=>match s.bG.get a with
   |some p=>B8 tt t p s.h
   |none=>none
def lI (tt:TT) (s:St):List ResultVar->Option (List AV)
 |[]=>some []
 |r::rs=>match AH tt s r with
  |none=>none
  |some v=>match lI tt s rs with
   |none=>none
   |some vs=>some (v::vs)
def Ko (tt:TT) (ft:Nat->Option Func) (hook:Nat->Option (List AV->St->T (AV×St))) (draw:eu->Nat->Nat->List Oper->St->T St) (lf:Nat):Nat->eu
 |0,_,_,_=> .fail
 |n+1,g,args,s=>
  match hook g with
  |some h=>h args s
  |none=>match ft g with
   |none=> .fail
   |some fn=>match fn.body with
    |none=> .fail
    |some c=>
     (jK tt (Ko tt ft hook draw lf n) (draw (Ko tt ft hook draw lf n) g) lf c { s with bG:=cw args 0 .nil }).bind fun (e,s')=>
      match e with
      | .exit _=> .fail
      |_=>match lI tt s' fn.results.toList with
       |some [v]=> .ret (v,{ s' with bG:=s.bG })
       |some vs=> .ret (.tuple vs,{ s' with bG:=s.bG })
       |none=> .fail
end
end Go.As
end
section
namespace Go.As
structure En where
 ρ:Nat->Int
 θ:Nat->Nat×Nat
 κ:Nat->Nat
 dm:Nat->Prop
 ro:Nat->Prop
 W:Nat->Option (Nat×D×Nat):=fun _=>none
def di (s:List Nat):ByteArray:=⟨(s.map UInt8.ofNat).toArray⟩
def kH (h:Array Obj) (b o:Nat):Option Value:=
 match h[b]? with
 |some (.cells c _ _)=>c[o]?
 |_=>none
theorem oU (w:World) (b o:Nat):w.cell? ⟨b,o,none⟩ = kH w.heap b o:=by
 unfold World.cell? kH
 grind
def gr (h:Array Obj) (b o:Nat) (us:List Value):Prop:= ∀i u,us[i]?=some u->kH h b (o+i)=some u
inductive Rd (ro:Nat->Prop) (h:Array Obj):CK->D->Value->Prop where
 |int (k:IntKind) (n:Int):Rd ro h (.int k) (.i n) (.int k n)
 |bool (b:Bool):Rd ro h .bool (.i (if b then 1 else 0)) (.bool b)
 |str (s:ByteArray):Rd ro h .str (uN s) (.string s)
 |nil (t:Nat):Rd ro h (.sl t) (.i 1) (.slice none 0 0)
 |xc (t:Nat) (a:Addr) (cap:Nat):Rd ro h (.sl t) (.i 2) (.slice (some a) 0 cap)
 |one (t:Nat) (c:CK) (b o cap:Nat) (ds:List D) (f:Nat->Value) (hr:rowOf t= .one c) (hc:ds.length<=cap) (hb:ro b)
  (U: ∀i d,ds[i]?=some d->kH h b (o+i)=some (f i)) (Z: ∀i d,ds[i]?=some d->Rd ro h c d (f i)):Rd ro h (.sl t) (dL ds) (.slice (some ⟨b,o,none⟩) ds.length cap)
 |many (t:Nat) (cs:List CK) (b o cap:Nat) (rows:List (List D)) (f:Nat->Nat->Value) (hr:rowOf t= .many cs) (hc:rows.length<=cap) (hb:ro b) (Y: ∀r∈rows,r.length=cs.length)
  (U: ∀i r j d,rows[i]?=some r->r[j]?=some d->kH h b (o+i*cs.length+j)=some (f i j))
  (Z: ∀i r j d c,rows[i]?=some r->r[j]?=some d->cs[j]?=some c->Rd ro h c d (f i j)):Rd ro h (.sl t) (dL (rows.map dL)) (.slice (some ⟨b,o,none⟩) rows.length cap)
theorem Rd.aaI {ro:Nat->Prop} {h:Array Obj} {c:CK} {d:D} {v:Value} (r:Rd ro h c d v):v.oneCell'=true:=by cases r<;>rfl
theorem Rd.cx {ro oh:Nat->Prop} {h h':Array Obj} (k1: ∀b,ro b->oh b) (k2: ∀b,ro b->h'[b]?=h[b]?) {c:CK} {d:D} {v:Value} (r:Rd ro h c d v):Rd oh h' c d v:=by
 have hk: ∀b o u,ro b->kH h b o=some u->kH h' b o=some u:=by
  intro b o u hb hu
  grind [kH]
 induction r with
 |int k n=>exact .int k n
 |bool b=>exact .bool b
 |str s=>exact .str s
 |nil t=>exact .nil t
 |xc t a cap=>exact .xc t a cap
 |one t c b o cap ds f hr hc hb U Z ih=>exact .one t c b o cap ds f hr hc (k1 b hb) (fun i d hi=>hk _ _ _ hb (U i d hi)) ih
 |many t cs b o cap rows f hr hc hb Y U Z ih=>exact .many t cs b o cap rows f hr hc (k1 b hb) Y (fun i r j d hi hj=>hk _ _ _ hb (U i r j d hi hj)) ih
def eY (E:En) (id off len:Nat) (a:Addr) (cap:Nat):NZ->Prop
 | .exact c=>cap=c/\((a=⟨(E.θ id).1,(E.θ id).2+off,none⟩)\/c=0)
 | .rest es=>(a=⟨(E.θ id).1,(E.θ id).2+off,none⟩/\off+cap*es=E.κ id)\/(cap=0/\len=0/\off=E.κ id)
mutual
def VR (E:En) (h:Array Obj):AV->Value->Prop
 | .bool b,v=>v= .bool (b.den E.ρ)
 | .int k e,v=>v= .int k (e.den E.ρ)
 | .str s,v=>v= .string (di s)/\∀b∈s,b<256
 | .ptr id off,v=>v= .pointer (some ⟨(E.θ id).1,(E.θ id).2+off,none⟩)/\E.dm id
 | .vt,v=>v= .pointer none
 | .nX cs,v=> ∃b o us,v= .pointer (some ⟨b,o,none⟩)/\E.ro b/\cC E h cs us/\gr h b o us/\∀u∈us,u.oneCell'=true
 | .slice id off len c,v=>E.dm id/\∃a cap,v= .slice (some a) len cap/\len<=cap/\eY E id off len a cap c
 | .gN,v=>v= .slice none 0 0
 | .ro cs n full,v=> ∃b o cap us,v= .slice (some ⟨b,o,none⟩) n cap/\n<=cap/\(full=true->cap=n)/\E.ro b/\cC E h cs us/\gr h b o us/\∀u∈us,u.oneCell'=true
 | .map id,v=>v= .map (some (E.θ id).1)/\E.dm id
 | .tO,v=>v= .map none
 | .func fn fs cs,v=> ∃us ws,v= .func fn us.toArray ws.toArray/\cC E h fs us/\cC E h cs ws
 | .xK,v=>v= .nilFunc
 | .iface t x,v=> ∃u,v= .iface t u/\VR E h x u
 | .yH,v=>v= .nilIface
 | .agg cs,v=> ∃us,v= .agg us.toArray/\cC E h cs us
 | .tuple cs,v=> ∃us,v= .tuple us.toArray/\cC E h cs us
 | .L0 _,_=>False
 | .emp,v=> ∃x,v= .slice x 0 0
 | .eD e t,v=>Rd E.ro h (.sl t) (dec (e.den E.ρ)) v
 | .kE e,v=>Rd E.ro h .str (dec (e.den E.ρ)) v
 | .qc id n t,v=>E.dm id/\∃(k:Nat) (a:Addr) (cap:Nat),n.den E.ρ=(k:Int)/\v= .slice (some a) k cap/\k<=cap/\eY E id 0 k a cap (.rest (rowOf t).es)
 | .AR id es i off,v=>E.dm id/\∃k:Nat,i.den E.ρ=(k:Int)/\v= .pointer (some ⟨(E.θ id).1,(E.θ id).2+(k*es+off),none⟩)
 | .any,_=>True
 | .yl z t,v=>(∃x,v= .slice x 0 0)/\Rd E.ro h (.sl t) (dec (z.den E.ρ)) v
 | .vm id lo n t,v=>E.dm id/\∃(l k:Nat) (a:Addr) (cap:Nat),lo.den E.ρ=(l:Int)/\n.den E.ρ=(k:Int)/\v= .slice (some a) k cap/\k<=cap/\eY E id (l*(rowOf t).es) k a cap (.rest (rowOf t).es)
 | .ya k ks,v=>((∃x cap,v= .slice x 0 cap)/\E.ρ (900+k)=0)\/∃b o n cap,v= .slice (some ⟨b,o,none⟩) n cap/\n<=cap/\E.ρ (900+k)=(n:Int)/\E.ro b/\
  ∀i j kd,i<n->ks[j]?=some kd->kH h b (o+i*ks.length+j)=some (.int kd (E.ρ (1000+i*64+(k*8+j))))
def cC (E:En) (h:Array Obj):List AV->List Value->Prop
 |[],us=>us= []
 |x::xs,us=> ∃u vs,us=u::vs/\VR E h x u/\cC E h xs vs
end
theorem iG {E:En} {h:Array Obj} {us:List Value}:cC E h [] us↔us= []:=by simp [cC]
theorem bW {E:En} {h:Array Obj} {x:AV} {xs:List AV} {us:List Value}:cC E h (x::xs) us↔∃u vs,us=u::vs/\VR E h x u/\cC E h xs vs:=by simp [cC]
theorem cC.length {E:En} {h:Array Obj}: ∀{xs:List AV} {us:List Value},cC E h xs us->us.length=xs.length
 |[],us,hh=>by rw [iG] at hh; simp [hh]
 |x::xs,us,hh=>by rw [bW] at hh;obtain⟨u,vs,rfl,_,Z⟩:=hh;simp [Z.length]
theorem cC.append {E:En} {h:Array Obj}: ∀{xs ys:List AV} {us vs:List Value},cC E h xs us->cC E h ys vs->cC E h (xs++ys) (us++vs)
 |[],_,us,vs,U,Z=>by rw [iG] at U; subst U; simpa using Z
 |x::xs,ys,us,vs,U,Z=>by rw [bW] at U;obtain⟨u,hD,rfl,hx,nM⟩:=U;simp only [aX];rw [bW];exact⟨u,hD++vs,rfl,hx,nM.append Z⟩
theorem cC.iV {E:En} {h:Array Obj}: ∀{n:Nat} {xs ys:List AV} {us:List Value},cC E h xs us->As.iV n xs=some ys->cC E h ys (us.take n)/\n<=xs.length
 |0,xs,ys,us,_,Z=>by simp [As.iV] at Z; subst Z; simp [cC]
 |n+1,[],ys,us,_,Z=>by simp [As.iV] at Z
 |n+1,x::xs,ys,us,U,Z=>by
  rw [bW] at U;obtain⟨u,vs,rfl,hx,nM⟩:=U;simp only [As.iV] at Z;split at Z
  ·rename_i l Y;simp at Z;subst Z;have:=nM.iV Y
   grind [bW]
  grind
theorem cC.eS {E:En} {h:Array Obj}: ∀{n:Nat} {xs ys:List AV} {us:List Value},cC E h xs us->As.eS n xs=some ys->cC E h ys (us.drop n)/\n<=xs.length/\ys.length=xs.length-n
 |0,xs,ys,us,U,Z=>by simp [As.eS] at Z; subst Z; simpa using U
 |n+1,[],ys,us,_,Z=>by simp [As.eS] at Z
 |n+1,x::xs,ys,us,U,Z=>by
  rw [bW] at U;obtain⟨u,vs,rfl,hx,nM⟩:=U;simp only [As.eS] at Z;have:=nM.eS Z
  grind
theorem cC.nth {E:En} {h:Array Obj}: ∀{i:Nat} {xs:List AV} {x:AV} {us:List Value},cC E h xs us->fy xs i=some x->∃u,us[i]?=some u/\VR E h x u
 |_,[],_,us,_,Z=>by simp [fy] at Z
 |0,x::xs,y,us,U,Z=>by
  rw [bW] at U;obtain⟨u,vs,rfl,hx,nM⟩:=U
  grind [fy]
 |i+1,x::xs,y,us,U,Z=>by
  rw [bW] at U;obtain⟨u,vs,rfl,hx,nM⟩:=U;simp only [fy] at Z;obtain⟨v,h3,h4⟩:=nM.nth Z
  grind
def e9 (E:En) (h:Array Obj):List (AV×AV×Nat)->List MapEntry->Prop
 |[],es=>es= []
 |(k,v,b)::xs,es=> ∃e r,es=e::r/\VR E h k e.key/\VR E h v e.val/\b=b/\e9 E h xs r
def ly (ro:Nat->Prop) (h:Array Obj) (t:Nat):List D->List MapEntry->Prop
 |[],es=>es= []
 |d::ds,es=> ∃e r,es=e::r/\d= .p (ji d) (GS d)/\Rd ro h (mapOf t).1 (ji d) e.key/\Rd ro h (mapOf t).2 (GS d) e.val/\ly ro h t ds r
theorem ly.cx {ro oh:Nat->Prop} {h h':Array Obj} (k1: ∀b,ro b->oh b) (k2: ∀b,ro b->h'[b]?=h[b]?) {t:Nat}: ∀{ds:List D} {es:List MapEntry},ly ro h t ds es->ly oh h' t ds es
 |[],_,hh=>hh
 |_::_,_,hh=>by obtain⟨e,r,U,Z,h3,h4,h5⟩:=hh;exact⟨e,r,U,Z,h3.cx k1 k2,h4.cx k1 k2,ly.cx k1 k2 h5⟩
theorem ly.length {ro:Nat->Prop} {h:Array Obj} {t:Nat}: ∀{ds:List D} {es:List MapEntry},ly ro h t ds es->es.length=ds.length
 |[],_,hh=>by simp only [ly] at hh; rw [hh]; rfl
 |_::_,_,hh=>by obtain⟨e,r,U,_,_,_,h5⟩:=hh;rw [U,aR,aR,ly.length h5]
noncomputable def ed (ρ:Nat->Int) (i:Nat):List (V×List AV)->Option (List AV)
 |[]=>none
 |(j,cs)::l=>if j.den ρ=(i:Int) then some cs else ed ρ i l
noncomputable def bH (ρ:Nat->Int) (r:Row) (ov:List (V×List AV)):List D->Nat->List AV
 |[],_=>[]
 |d::ds,i=>(match ed ρ i ov with |some cs=>cs|none=>ib r (.eD d))++bH ρ r ov ds (i+1)
def tN (r:Row) (ov:List (V×List AV)):Prop:= ∀p∈ov,p.2.length=r.es
noncomputable def mA (ρ:Nat->Int) (n:Int):List (V×AV)->Option AV
 |[]=>none
 |(x,v)::l=>if x.den ρ=n then some v else mA ρ n l
def amt (E:En) (h:Array Obj) (B:Nat) (k:D) (j ty t:Nat) (d:D) (u:Value):Prop:=
 ∃b o n cap a arr lo hi,u= .slice (some a) n cap/\n<=cap/\E.W b=some (B,k,j)/\h[b]?=some (.cells arr ty (lo,hi))/\((a=⟨b,o,none⟩/\o+cap*(rowOf t).es=arr.size)\/(cap=0/\n=0/\o=arr.size))/\(∀q,lo<=q->q<hi->arr.size<=q)/\
  ((n=0/\d= .i 3)\/(tx (rowOf t) d/\d.l.length=n/\∃us,cC E h (bH E.ρ (rowOf t) [] d.l 0) us/\(∀i u,us[i]?=some u->arr[o+i]?=some u)/\∀u∈us,u.oneCell'=true))
def pO (E:En) (h:Array Obj) (B:Nat) (k:D) (j ty:Nat) (c:FC) (d:D) (u:Value):Prop:=match c with
 | .ck c=>Rd E.ro h c d u
 | .own t=>((∃x,u= .slice x 0 0)/\Rd E.ro h (.sl t) d u)\/amt E h B k j ty t d u
 | .mp t=> ∃b bS c,u= .map (some b)/\E.W b=some (B,k,j)/\h[b]?=some (.map bS c)/\ly E.ro h t d.l bS.toList
def qT (E:En) (h:Array Obj) (B t:Nat) (fw:List Nat) (k d:D) (v:Value):Prop:=match (rF t).ptr with
 |false=> ∃c,(rF t).cs= [c]/\pO E h B k 1 (fw.getD 1 0) c d v
 |true=> ∃b o arr lo hi,v= .pointer (some ⟨b,o,none⟩)/\E.W b=some (B,k,0)/\h[b]?=some (.cells arr (fw.getD 0 0) (lo,hi))/\o+(rF t).cs.length<=arr.size/\(∀q,lo<=q->q<hi->arr.size<=q)/\
  ∀j c,(rF t).cs[j]?=some c->∃u,arr[o+j]?=some u/\u.oneCell'=true/\pO E h B k (j+1) (fw.getD (j+2) 0) c (d.W j) u
def eX (E:En) (h:Array Obj) (B t:Nat) (fw:List Nat) (ov:List (V×AV)):List D->List MapEntry->Prop
 |[],es=>es= []
 |d::ds,es=> ∃e r n,es=e::r/\d= .p (.i n) (GS d)/\e.key= .int .i64 n/\(match mA E.ρ n ov with |some v=>VR E h v e.val|none=>qT E h B t fw (.i n) (GS d) e.val)/\eX E h B t fw ov ds r
def Bc (ρ:Nat->Int) (ds:List D) (ov:List (V×AV)):Prop:=(ds.map ji).Nodup/\(∀p∈ov,D.i (p.1.den ρ)∈ds.map ji)/\(ov.map fun p=>p.1.den ρ).Nodup
def OR (E:En) (h:Array Obj) (id:Nat):dO->Prop
 | .cells cs e=> ∃arr lo hi us,h[(E.θ id).1]?=some (.cells arr e (lo,hi))/\cC E h cs us/\(∀i u,us[i]?=some u->arr[(E.θ id).2+i]?=some u)/\
  cs.length<=E.κ id/\(E.θ id).2+E.κ id=arr.size/\(∀o,lo<=o->o<hi->arr.size<=o)/\(∀u∈us,u.oneCell'=true)
 | .map es _=> ∃bS c,h[(E.θ id).1]?=some (.map bS c)/\e9 E h es bS.toList
 | .vec e t ty ov=>(tN (rowOf t) ov/\tx (rowOf t) (dec (e.den E.ρ)))/\∃arr lo hi us,h[(E.θ id).1]?=some (.cells arr ty (lo,hi))/\cC E h (bH E.ρ (rowOf t) ov (dec (e.den E.ρ)).l 0) us/\(∀i u,us[i]?=some u->arr[(E.θ id).2+i]?=some u)/\
  (bH E.ρ (rowOf t) ov (dec (e.den E.ρ)).l 0).length<=E.κ id/\(E.θ id).2+E.κ id=arr.size/\(∀o,lo<=o->o<hi->arr.size<=o)/\(∀u∈us,u.oneCell'=true)
 | .kS s p=>h[(E.θ id).1]?=some (.stringIter (di s) p)/\(E.θ id).2=0/\∀b∈s,b<256
 | .kO e t=> ∃bS c,h[(E.θ id).1]?=some (.map bS c)/\ly E.ro h t (dec (e.den E.ρ)).l bS.toList
 | .uC e t fw ov=>Bc E.ρ (dec (e.den E.ρ)).l ov/\∃bS c,h[(E.θ id).1]?=some (.map bS c)/\eX E h (E.θ id).1 t fw ov (dec (e.den E.ρ)).l bS.toList
class bK where
 ok:(Nat->Int)->(Nat->Prop)->Array Obj->Prop
 cx: ∀{ρ:Nat->Int} {ro oh:Nat->Prop} {h h':Array Obj},ok ρ ro h->(∀b,ro b->oh b)->(∀b,ro b->h'[b]?=h[b]?)->ok ρ oh h'
 ic: ∀{ρ ρ':Nat->Int} {ro:Nat->Prop} {h:Array Obj},ok ρ ro h->(∀i,900<=i->ρ' i=ρ i)->ok ρ' ro h
structure bR [bK] (E:En) (H:Hp) (w:World):Prop where
 fresh: ∀id,H.next<=id->¬E.dm id
 res: ∀r,H.res=some r->r<H.next/\¬E.dm r
 live: ∀id o,H.get id=some o->E.dm id/\OR E w.heap id o/\¬E.ro (E.θ id).1
 inj: ∀id Pb o o',H.get id=some o->H.get Pb=some o'->(E.θ id).1=(E.θ Pb).1->id=Pb
 su: ∀b,E.ro b->b<w.heap.size
 kj:bK.ok E.ρ E.ro w.heap
 hid: ∀b x,E.W b=some x->b<w.heap.size/\¬E.ro b/\∀id o,H.get id=some o->(E.θ id).1≠b
structure fq (E:En) (H:Hp) (w:World) (E':En) (H':Hp) (w':World):Prop where
 ρ:E'.ρ=E.ρ
 dm: ∀id,E.dm id->E'.dm id
 θ: ∀id,E.dm id->E'.θ id=E.θ id
 κ: ∀id,E.dm id->E'.κ id=E.κ id
 ro: ∀b,E.ro b->E'.ro b
 sR: ∀b,E'.ro b->E.ro b\/(∃id o,H.get id=some o/\(E.θ id).1=b)\/w.heap.size<=b
 RN:H.next<=H'.next
 rsm:H'.res=none\/H'.res=H.res
 M?: ∀id,E'.dm id->E.dm id\/(H.next<=id/\id<H'.next)\/H.res=some id
 os:w'.os=w.os
 tape:w'.tape=w.tape
 output:w'.output=w.output
 size:w.heap.size<=w'.heap.size
 cx: ∀b,b<w.heap.size->(∀id o,H.get id=some o->(E.θ id).1≠b)->w'.heap[b]?=w.heap[b]?
 own: ∀id o,H'.get id=some o->(E'.θ id).1<w.heap.size->∃s5 o0,H.get s5=some o0/\(E.θ s5).1=(E'.θ id).1
 W:E'.W=E.W
theorem fq.refl (E:En) (H:Hp) (w:World):fq E H w E H w:=
 ⟨rfl,fun _ h=>h,fun _ _=>rfl,fun _ _=>rfl,fun _ h=>h,fun _ h=> .inl h,az _,.inr rfl,fun _ h=> .inl h,rfl,rfl,rfl,az _,fun _ _ _=>rfl,fun id o h _=> ⟨id,o,h,rfl⟩,rfl⟩
theorem fq.trans {E E1 E2:En} {H H1 H2:Hp} {w w1 w2:World} (a:fq E H w E1 H1 w1) (b:fq E1 H1 w1 E2 H2 w2):fq E H w E2 H2 w2 where
 ρ:=b.ρ.trans a.ρ
 dm:=fun id h=>b.dm id (a.dm id h)
 θ:=fun id h=>(b.θ id (a.dm id h)).trans (a.θ id h)
 κ:=fun id h=>(b.κ id (a.dm id h)).trans (a.κ id h)
 ro:=fun x h=>b.ro x (a.ro x h)
 sR:=fun x h=>by
  rcases b.sR x h with h|⟨id,o,U,Z⟩|h
  ·exact a.sR x h
  ·rcases bg x w.heap.size with hx|hx
   ·obtain⟨s5,o0,h3,h4⟩:=a.own id o U (by rw [Z]; exact hx);exact .inr (.inl ⟨s5,o0,h3,h4.trans Z⟩)
   ·exact .inr (.inr hx)
  ·exact .inr (.inr (bq a.size h))
 RN:=bq a.RN b.RN
 rsm:=by
  rcases b.rsm with h|h
  ·exact .inl h
  ·rw [h]; exact a.rsm
 M?:=fun id h=>by
  rcases b.M? id h with h|h|h
  ·rcases a.M? id h with h|h|h
   ·exact .inl h
   ·exact .inr (.inl ⟨h.1,anh h.2 b.RN⟩)
   ·exact .inr (.inr h)
  ·exact .inr (.inl ⟨bq a.RN h.1,h.2⟩)
  ·rcases a.rsm with h'|h'
   ·rw [h'] at h; simp at h
   ·exact .inr (.inr (h'.symm.trans h))
 os:=b.os.trans a.os
 tape:=b.tape.trans a.tape
 output:=b.output.trans a.output
 size:=bq a.size b.size
 cx:=fun x hx hn=>by rw [b.cx x (anh hx a.size) ?_,a.cx x hx hn];intro id o ho he;obtain⟨s5,o0,h0,he0⟩:=a.own id o ho (by rw [he]; exact hx);exact hn s5 o0 h0 (he0.trans he)
 own:=fun id o ho gv=>by obtain⟨id1,o1,U,Ze⟩:=b.own id o ho (anh gv a.size);obtain⟨s5,o0,h0,he0⟩:=a.own id1 o1 U (by rw [Ze]; exact gv);exact⟨s5,o0,h0,he0.trans Ze⟩
 W:=b.W.trans a.W
structure fY (E:En) (h:Array Obj) (E':En) (h':Array Obj):Prop where
 ρ:E'.ρ=E.ρ
 dm: ∀id,E.dm id->E'.dm id
 θ: ∀id,E.dm id->E'.θ id=E.θ id
 κ: ∀id,E.dm id->E'.κ id=E.κ id
 ro: ∀b,E.ro b->E'.ro b
 Cy: ∀b,E.ro b->h'[b]?=h[b]?
theorem fq.keeps [bK] {E E':En} {H H':Hp} {w w':World} (s:fq E H w E' H' w') (r:bR E H w):fY E w.heap E' w'.heap:=
 ⟨s.ρ,s.dm,s.θ,s.κ,s.ro,fun b hb=>s.cx b (r.su b hb) fun id o ho he=>(r.live id o ho).2.2 (by rw [he]; exact hb)⟩
theorem gr.cx {E E':En} {h h':Array Obj} (k:fY E h E' h') {b o:Nat} {us:List Value} (hb:E.ro b) (hc:gr h b o us):gr h' b o us:=by
 intro i u hu;have:=hc i u hu;unfold kH at *;rw [k.Cy b hb]
 grind
theorem eY.cx {E E':En} {h h':Array Obj} (k:fY E h E' h') {id off len:Nat} {a:Addr} {cap:Nat} {c:NZ} (hid:E.dm id) (hc:eY E id off len a cap c):eY E' id off len a cap c:=by
 cases c<;>simp only [eY] at*<;>rw [k.θ id hid]
 ·exact hc
 ·rw [k.κ id hid]; exact hc
mutual
theorem VR.cx {E E':En} {h h':Array Obj} (k:fY E h E' h'): ∀(x:AV) (v:Value),VR E h x v->VR E' h' x v
 | .bool b,v,hv=>by simp only [VR] at *; rw [k.ρ]; exact hv
 | .int _ e,v,hv=>by simp only [VR] at *; rw [k.ρ]; exact hv
 | .str s,v,hv=>by simp only [VR] at *; exact hv
 | .ptr id off,v,hv=>by simp only [VR] at *; rw [k.θ id hv.2]; exact⟨hv.1,k.dm _ hv.2⟩
 | .vt,v,hv=>by simp only [VR] at *; exact hv
 | .nX cs,v,hv=>by simp only [VR] at *;obtain⟨b,o,us,U,Z,h3,h4,h5⟩:=hv;exact⟨b,o,us,U,k.ro b Z,cC.cx k cs us h3,h4.cx k Z,h5⟩
 | .slice id off len c,v,hv=>by simp only [VR] at *;obtain⟨U,a,cap,Z,h3,h4⟩:=hv;exact⟨k.dm _ U,a,cap,Z,h3,h4.cx k U⟩
 | .gN,v,hv=>by simp only [VR] at *; exact hv
 | .ro cs n full,v,hv=>by simp only [VR] at *;obtain⟨b,o,cap,us,U,Z,h3,h4,h5,h6,h7⟩:=hv;exact⟨b,o,cap,us,U,Z,h3,k.ro b h4,cC.cx k cs us h5,h6.cx k h4,h7⟩
 | .map id,v,hv=>by simp only [VR] at *; rw [k.θ id hv.2]; exact⟨hv.1,k.dm _ hv.2⟩
 | .tO,v,hv=>by simp only [VR] at *; exact hv
 | .func fn fs cs,v,hv=>by simp only [VR] at *;obtain⟨us,ws,U,Z,h3⟩:=hv;exact⟨us,ws,U,cC.cx k fs us Z,cC.cx k cs ws h3⟩
 | .xK,v,hv=>by simp only [VR] at *; exact hv
 | .iface t x,v,hv=>by simp only [VR] at *;obtain⟨u,U,Z⟩:=hv;exact⟨u,U,VR.cx k x u Z⟩
 | .yH,v,hv=>by simp only [VR] at *; exact hv
 | .agg cs,v,hv=>by simp only [VR] at *;obtain⟨us,U,Z⟩:=hv;exact⟨us,U,cC.cx k cs us Z⟩
 | .tuple cs,v,hv=>by simp only [VR] at *;obtain⟨us,U,Z⟩:=hv;exact⟨us,U,cC.cx k cs us Z⟩
 | .L0 _,v,hv=>by simp only [VR] at hv
 | .emp,v,hv=>by simp only [VR] at *; exact hv
 | .eD e t,v,hv=>by simp only [VR] at *; rw [k.ρ]; exact hv.cx k.ro k.Cy
 | .kE e,v,hv=>by simp only [VR] at *; rw [k.ρ]; exact hv.cx k.ro k.Cy
 | .qc id n t,v,hv=>by simp only [VR] at *;obtain⟨U,m,a,cap,Z,h3,h4,h5⟩:=hv;exact⟨k.dm _ U,m,a,cap,by rw [k.ρ]; exact Z,h3,h4,h5.cx k U⟩
 | .any,_,_=>by simp only [VR]
 | .yl z t,v,hv=>by simp only [VR] at *; rw [k.ρ]; exact⟨hv.1,hv.2.cx k.ro k.Cy⟩
 | .vm id lo n t,v,hv=>by simp only [VR] at *;obtain⟨U,l,m,a,cap,Z,h3,h4,h5,h6⟩:=hv;exact⟨k.dm _ U,l,m,a,cap,by rw [k.ρ]; exact Z,by rw [k.ρ]; exact h3,h4,h5,h6.cx k U⟩
 | .AR id es i off,v,hv=>by simp only [VR] at *;obtain⟨U,m,Z,h3⟩:=hv;exact⟨k.dm _ U,m,by rw [k.ρ]; exact Z,by rw [k.θ id U]; exact h3⟩
 | .ya kk ks,v,hv=>by
   simp only [VR] at *;rw [k.ρ];rcases hv with hv|⟨b,o,n,cap,U,Z,h3,h4,h5⟩
   ·grind
   ·refine .inr ⟨b,o,n,cap,U,Z,h3,k.ro b h4,fun i j kd hi hj=>?_⟩;have:=h5 i j kd hi hj;unfold kH at *;rw [k.Cy b h4]
    grind
theorem cC.cx {E E':En} {h h':Array Obj} (k:fY E h E' h'): ∀(xs:List AV) (us:List Value),cC E h xs us->cC E' h' xs us
 |[],us,hv=>by simp only [cC] at *; exact hv
 |x::xs,us,hv=>by simp only [cC] at *;obtain⟨u,vs,U,Z,h3⟩:=hv;exact⟨u,vs,U,VR.cx k x u Z,cC.cx k xs vs h3⟩
end
theorem e9.cx {E E':En} {h h':Array Obj} (k:fY E h E' h'): ∀(xs:List (AV×AV×Nat)) (es:List MapEntry),e9 E h xs es->e9 E' h' xs es
 |[],es,hv=>by simp only [e9] at *; exact hv
 |(a,b,c)::xs,es,hv=>by simp only [e9] at *;obtain⟨e,r,U,Z,h3,h4,h5⟩:=hv;exact⟨e,r,U,VR.cx k _ _ Z,VR.cx k _ _ h3,h4,e9.cx k xs r h5⟩
theorem bR.U0 [bK] {E E':En} {H H':Hp} {w w':World} (r:bR E H w) (he:E'.W=E.W) (hs:w.heap.size<=w'.heap.size) (sR: ∀b,E'.ro b->E.ro b\/(∃id o,H.get id=some o/\(E.θ id).1=b)\/w.heap.size<=b)
 (own: ∀id o,H'.get id=some o->(E'.θ id).1<w.heap.size->∃s5 o0,H.get s5=some o0/\(E.θ s5).1=(E'.θ id).1): ∀b x,E'.W b=some x->b<w'.heap.size/\¬E'.ro b/\∀id o,H'.get id=some o->(E'.θ id).1≠b:=by
 intro b x hb;rw [he] at hb;obtain⟨q1,q2,q3⟩:=r.hid b x hb;refine⟨J,fun hr=>?_,fun id o ho e=>?_⟩
 ·rcases sR b hr with h|⟨id,o,U,Z⟩|h
  ·exact q2 h
  ·exact q3 id o U Z
  ·omega
 ·obtain⟨s5,o0,h0,e0⟩:=own id o ho (by rw [e]; exact q1);exact q3 s5 o0 h0 (e0.trans e)
def HdK (E:En) (h:Array Obj) (E':En) (h':Array Obj) (B:Nat) (k:D):Prop:= ∀b j,E.W b=some (B,k,j)->E'.W b=some (B,k,j)/\h'[b]?=h[b]?
theorem bR.VZ [bK] {E E':En} {H:Hp} {w:World} {h':Array Obj} (r:bR E H w) (he:E'.W=E.W) (hk: ∀b,b<w.heap.size->(∀id o,H.get id=some o->(E.θ id).1≠b)->h'[b]?=w.heap[b]?) (B:Nat) (key:D):HdK E w.heap E' h' B key:=
 fun b _ hb=> ⟨by rw [he]; exact hb,hk b (r.hid b _ hb).1 (r.hid b _ hb).2.2⟩
theorem pO.cx {E E':En} {h h':Array Obj} (k:fY E h E' h') {B:Nat} {key:D} {j ty:Nat} (hh: ∀b,E.W b=some (B,key,j)->E'.W b=some (B,key,j)/\h'[b]?=h[b]?) {c:FC} {d:D} {u:Value} (ho:pO E h B key j ty c d u):pO E' h' B key j ty c d u:=by
 cases c with
 |ck c=>exact Rd.cx k.ro k.Cy ho
 |own t=>
  rcases ho with ⟨U,Z⟩|⟨b,o,n,cap,a,arr,lo,hi,U,Z,h3,h4,h5,h6,h7⟩
  ·exact .inl ⟨U,Rd.cx k.ro k.Cy Z⟩
  ·obtain⟨q1,q2⟩:=hh b h3;refine .inr ⟨b,o,n,cap,a,arr,lo,hi,U,Z,q1,by rw [q2]; exact h4,h5,h6,?_⟩;rcases h7 with h7|⟨g1,g2,us,g3,g4⟩
   ·exact .inl h7
   ·exact .inr ⟨g1,g2,us,by rw [k.ρ]; exact cC.cx k _ us g3,g4⟩
 |mp t=> obtain⟨b,bS,c,U,Z,h3,h4⟩:=ho;obtain⟨q1,q2⟩:=hh b Z;exact⟨b,bS,c,U,q1,by rw [q2]; exact h3,h4.cx k.ro k.Cy⟩
theorem qT.cx {E E':En} {h h':Array Obj} (k:fY E h E' h') {B t:Nat} {fw:List Nat} {key d:D} {v:Value} (hh:HdK E h E' h' B key) (ho:qT E h B t fw key d v):qT E' h' B t fw key d v:=by
 unfold qT at *;split at ho
 ·obtain⟨c,U,Z⟩:=ho;exact⟨c,U,Z.cx k fun b=>hh b _⟩
 ·obtain⟨b,o,arr,lo,hi,U,Z,h3,h4,h5,h6⟩:=ho;obtain⟨q1,q2⟩:=hh b 0 Z;refine⟨b,o,arr,lo,hi,U,q1,by rw [q2]; exact h3,h4,h5,fun j c hc=>?_⟩;obtain⟨u,g1,g2,g3⟩:=h6 j c hc;exact⟨u,g1,g2,g3.cx k fun b=>hh b _⟩
theorem eX.cx {E E':En} {h h':Array Obj} (k:fY E h E' h') {B t:Nat} {fw:List Nat} {ov:List (V×AV)} (hh: ∀n,mA E.ρ n ov=none->HdK E h E' h' B (.i n)): ∀{ds:List D} {es:List MapEntry},eX E h B t fw ov ds es->eX E' h' B t fw ov ds es
 |[],_,ho=>ho
 |d::ds,_,⟨e,r,n,U,Z,h3,h4,h5⟩=>by
  refine⟨e,r,n,U,Z,h3,?_,eX.cx k hh h5⟩;rw [k.ρ];split at h4
  ·rename_i v hv;exact VR.cx k _ _ h4
  ·rename_i hv;exact h4.cx k (hh n hv)
def nf:dO->Bool
 | .uC _ _ _ _=>false
 |_=>true
theorem eX.length {E:En} {h:Array Obj} {B t:Nat} {fw:List Nat} {ov:List (V×AV)}: ∀{ds:List D} {es:List MapEntry},eX E h B t fw ov ds es->es.length=ds.length
 |[],_,ho=>by simp only [eX] at ho; rw [ho]; rfl
 |d::ds,_,⟨e,r,n,U,_,_,_,h5⟩=>by rw [U,aR,aR,eX.length h5]
theorem OR.YK {E E':En} {h h':Array Obj} (k:fY E h E' h') {id:Nat} {o:dO} (hid:E.dm id) (hb:h'[(E.θ id).1]?=h[(E.θ id).1]?) (hh:nf o=true\/∀key,HdK E h E' h' (E.θ id).1 key) (ho:OR E h id o):OR E' h' id o:=by
 cases o with
 |cells cs e=> simp only [OR] at *;obtain⟨arr,lo,hi,us,U,Z,h3,h4,h5,h6,h7⟩:=ho;rw [k.θ id hid,k.κ id hid,hb];exact⟨arr,lo,hi,us,U,cC.cx k cs us Z,h3,h4,h5,h6,h7⟩
 |map es c=>
  simp only [OR] at *;obtain⟨bS,c,U,Z⟩:=ho;rw [k.θ id hid,hb]
  grind [e9.cx]
 |kS s p=> simp only [OR] at *;rw [k.θ id hid,hb];exact ho
 |kO e t=> simp only [OR] at *;obtain⟨bS,c,U,Z⟩:=ho;rw [k.θ id hid,hb,k.ρ];exact⟨bS,c,U,Z.cx k.ro k.Cy⟩
 |vec e t ty ov=> simp only [OR] at *;obtain⟨h0,arr,lo,hi,us,U,Z,h3,h4,h5,h6,h7⟩:=ho;rw [k.θ id hid,k.κ id hid,hb,k.ρ];exact⟨h0,arr,lo,hi,us,U,cC.cx k _ us Z,h3,h4,h5,h6,h7⟩
 |uC e t fw ov=>
  simp only [OR] at *;obtain⟨h0,bS,c,U,Z⟩:=ho;rw [k.θ id hid,hb,k.ρ];rcases hh with hh|hh
  ·simp [nf] at hh
  exact⟨h0,bS,c,U,Z.cx k fun n _=>hh _⟩
theorem OR.cx {E E':En} {h h':Array Obj} (k:fY E h E' h') {id:Nat} {o:dO} (hid:E.dm id) (hb:h'[(E.θ id).1]?=h[(E.θ id).1]?) (hh: ∀key,HdK E h E' h' (E.θ id).1 key) (ho:OR E h id o):OR E' h' id o:=ho.YK k hid hb (.inr hh)
theorem OR.acL {E E':En} {h h':Array Obj} (k:fY E h E' h') {id:Nat} {o:dO} (hid:E.dm id) (hb:h'[(E.θ id).1]?=h[(E.θ id).1]?) (hn:nf o=true) (ho:OR E h id o):OR E' h' id o:=ho.YK k hid hb (.inl hn)
end Go.As
end
section
namespace Go.As
theorem Hp.bU (h:Hp) (i:Nat) (o:dO) (j:Nat):(h.put i o).get j=if j=i then some o else h.get j:=by simp [Hp.get,Hp.put,Tr.bU]
theorem Hp.gD (h:Hp) (o:dO) (j:Nat):(h.new o).get j=if j=h.fresh then some o else h.get j:=by
 grind [Hp.new,Hp.fresh,Hp.get,Tr.bU]
theorem bR.S? [bK] {E:En} {H:Hp} {w:World} (r:bR E H w): ¬E.dm H.fresh:=by
 unfold Hp.fresh
 cases hr:H.res with
 |none=>exact r.fresh _ (az _)
 |some x=>exact (r.res x hr).2
theorem bR.sB [bK] {E:En} {H:Hp} {w:World} (r:bR E H w) {i:Nat} (h:E.dm i):i≠H.fresh:=fun e=>r.S? (e▸h)
theorem Hp.lh (h:Hp) (i j:Nat):(h.drop i).get j=if j=i then none else h.get j:=by simp [Hp.get,Hp.drop,Tr.bU]
def En.ext (E:En) (n:Nat) (p:Nat×Nat) (c:Nat):En:=
 { E with θ:=fun i=>if i=n then p else E.θ i,κ:=fun i=>if i=n then c else E.κ i,dm:=fun i=>i=n\/E.dm i }
theorem En.ext_θ_new (E:En) (n:Nat) (p:Nat×Nat) (c:Nat):(E.ext n p c).θ n=p:=by simp [En.ext]
theorem En.ext_κ_new (E:En) (n:Nat) (p:Nat×Nat) (c:Nat):(E.ext n p c).κ n=c:=by simp [En.ext]
theorem En.gX (E:En) (n:Nat) (p:Nat×Nat) (c:Nat):(E.ext n p c).dm n:=.inl rfl
theorem En.ext_θ (E:En) (n:Nat) (p:Nat×Nat) (c:Nat) {i:Nat} (h:i≠n):(E.ext n p c).θ i=E.θ i:=by simp [En.ext,h]
theorem En.ext_κ (E:En) (n:Nat) (p:Nat×Nat) (c:Nat) {i:Nat} (h:i≠n):(E.ext n p c).κ i=E.κ i:=by simp [En.ext,h]
theorem Is [bK] {E:En} {H:Hp} {w:World} (r:bR E H w) (p:Nat×Nat) (c:Nat) (o:dO):(∀id,(H.new o).next<=id->¬(E.ext H.fresh p c).dm id)/\∀q,(H.new o).res=some q->q<(H.new o).next/\¬(E.ext H.fresh p c).dm q:=by
 have U:=r.fresh;have Z:=r.res;unfold Hp.new Hp.fresh
 cases hr:H.res with
 |none=>
  refine⟨fun id hid W=>?_,ae⟩;simp at hid;rcases W with W|W
  all_goals grind
 |some q=>
  refine⟨fun id hid W=>?_,ae⟩;simp at hid;have:=Z q hr;rcases W with W|W
  all_goals grind
theorem sW (H:Hp) (o:dO):H.next<=(H.new o).next/\((H.new o).res=none\/(H.new o).res=H.res)/\∀id,id=H.fresh->(H.next<=id/\id<(H.new o).next)\/H.res=some id:=by
 grind [Hp.new,Hp.fresh]
structure Alike (w w':World):Prop where
 os:w'.os=w.os
 tape:w'.tape=w.tape
 output:w'.output=w.output
theorem zL {h:Array Obj} {o:Obj} {b:Nat} (hb:b<h.size):(h.push o)[b]?=h[b]?:=by
 grind
theorem EX [bK] {E:En} {H:Hp} {w:World} (r:bR E H w) (p:Nat×Nat) (c:Nat) (o:Obj):fY E w.heap (E.ext H.fresh p c) (w.heap.push o):=
 ⟨rfl,fun _ h=> .inr h,fun _ h=>En.ext_θ E _ p c (r.sB h),fun _ h=>En.ext_κ E _ p c (r.sB h),fun _ h=>h,fun b hb=>zL (r.su b hb)⟩
theorem gC [bK] {E:En} {H:Hp} {w:World} (r:bR E H w) {id:Nat} {o:dO} (h:H.get id=some o):(E.θ id).1<w.heap.size:=by
 have Z:=(r.live id o h).2.1
 cases o with
 |cells cs e=>
  obtain⟨arr,lo,hi,us,U,_⟩:=Z
  grind
 |map es c=>
  obtain⟨bS,c',U,_⟩:=Z
  grind
 |kS s p=>exact (anf.1 Z.1).1
 |kO e t=>
  obtain⟨bS,c',U,_⟩:=Z
  grind
 |uC e t fw ov=>
  obtain⟨_,bS,c',U,_⟩:=Z
  grind
 |vec e t ty ov=>
  obtain⟨_,arr,lo,hi,us,U,_⟩:=Z
  grind
theorem vS [bK] {E:En} {H:Hp} {w w':World} (r:bR E H w) (o:Obj) (ao:dO) (c:Nat) (hw:w'.heap=w.heap.push o) (al:Alike w w')
 (ho:OR (E.ext H.fresh (w.heap.size,0) c) w'.heap H.fresh ao) :
 fq E H w (E.ext H.fresh (w.heap.size,0) c) (H.new ao) w'/\bR (E.ext H.fresh (w.heap.size,0) c) (H.new ao) w':=by
 have k:=EX r (w.heap.size,0) c o;rw [<- hw] at k;have hf:=Is r (w.heap.size,0) c ao;refine⟨⟨k.ρ,k.dm,k.θ,k.κ,k.ro,fun _ h=> .inl h,(sW H ao).1,(sW H ao).2.1,fun id h=>h.elim (fun e=> .inr ((sW H ao).2.2 id e)) .inl,al.os,al.tape,al.output,by rw [hw]; simp,fun b hb _=>by rw [hw,zL hb],?_,rfl⟩,⟨hf.1,hf.2,?_,?_,?_,bK.cx r.kj k.ro k.Cy,?_⟩⟩
 ·intro id o2 Z gv;rw [Hp.gD] at Z;split at Z
  ·rename_i he
   grind [En.ext_θ_new]
  ·have h3:=(r.live id o2 Z).1;exact⟨id,o2,Z,by rw [En.ext_θ _ _ _ _ (r.sB h3)]⟩
 ·intro id o2 Z;rw [Hp.gD] at Z;split at Z
  ·rename_i he;simp at Z;subst Z;rw [he,En.ext_θ_new];refine⟨En.gX _ _ _ _,ho,fun hr=>?_⟩;have:=r.su _ hr
   grind
  ·obtain⟨h3,h4,h5⟩:=r.live id o2 Z;refine⟨.inr h3,h4.cx k h3 ?_ (fun key b j hb=> ⟨hb,by rw [hw,zL (r.hid b _ hb).1]⟩),?_⟩
   ·grind [zL,gC]
   ·rw [En.ext_θ _ _ _ _ (r.sB h3)]; exact h5
 ·intro id Pb o1 o2 U Z he;rw [Hp.gD] at U Z;split at U<;>split at Z
  ·omega
  ·rename_i e1 _;have h3:=(r.live Pb o2 Z).1;rw [e1,En.ext_θ_new,En.ext_θ _ _ _ _ (r.sB h3)] at he;have:=gC r Z
   grind
  ·rename_i _ e1;have h3:=(r.live id o1 U).1;rw [e1,En.ext_θ_new,En.ext_θ _ _ _ _ (r.sB h3)] at he;have:=gC r U
   grind
  ·have h3:=(r.live id o1 U).1;have h4:=(r.live Pb o2 Z).1;rw [En.ext_θ _ _ _ _ (r.sB h3),En.ext_θ _ _ _ _ (r.sB h4)] at he;exact r.inj id Pb o1 o2 U Z he
 ·intro b hb;have:=r.su b hb
  grind
 ·intro b x hb;obtain⟨q1,q2,q3⟩:=r.hid b x hb;refine⟨by rw [hw,Array.size_push]; omega,q2,fun id o2 Z=>?_⟩;rw [Hp.gD] at Z;split at Z
  ·rename_i he;rw [he,En.ext_θ_new];exact fun e=>by have e:w.heap.size=b:=e; omega
  ·rw [En.ext_θ _ _ _ _ (r.sB (r.live id o2 Z).1)];exact q3 id o2 Z
theorem mU [bK] {E:En} {H:Hp} {w w':World} (r:bR E H w) {id:Nat} {o:dO} (Y:H.get id=some o)
 (l8: ∀b,b≠(E.θ id).1->w'.heap[b]?=w.heap[b]?):fY E w.heap E w'.heap:=
 ⟨rfl,fun _ h=>h,fun _ _=>rfl,fun _ _=>rfl,fun _ h=>h,fun b hb=>l8 b fun e=>(r.live id o Y).2.2 (by rw [<- e]; exact hb)⟩
theorem Ez [bK] {E:En} {H:Hp} {w w':World} (r:bR E H w) {id:Nat} {o:dO} (Y:H.get id=some o) (ao:dO)
 (Mq:w'.heap.size=w.heap.size) (l8: ∀b,b≠(E.θ id).1->w'.heap[b]?=w.heap[b]?) (al:Alike w w') (ho:OR E w'.heap id ao) :
 fq E H w E (H.put id ao) w'/\bR E (H.put id ao) w':=by
 have k:=mU r Y l8;refine⟨⟨rfl,fun _ h=>h,fun _ _=>rfl,fun _ _=>rfl,fun _ h=>h,fun _ h=> .inl h,az _,.inr rfl,fun _ h=> .inl h,al.os,al.tape,al.output,J,?_,?_,rfl⟩,⟨r.fresh,r.res,?_,?_,?_,bK.cx r.kj k.ro k.Cy,?_⟩⟩
 ·intro b _ hn
  grind
 ·intro j o2 Z _
  grind [Hp.bU]
 ·intro j o2 Z;rw [Hp.bU] at Z;split at Z
  ·rename_i e;subst e;simp at Z;subst Z;exact⟨(r.live j o Y).1,ho,(r.live j o Y).2.2⟩
  ·rename_i e;obtain⟨h3,h4,h5⟩:=r.live j o2 Z;refine⟨h3,h4.cx k h3 (l8 _ fun e2=>e (r.inj j id o2 o Z Y e2)) (fun key b q hb=> ⟨hb,l8 b fun e2=>(r.hid b _ hb).2.2 id o Y e2.symm⟩),h5⟩
 ·intro i j o1 o2 U Z he;rw [Hp.bU] at U Z;split at U<;>split at Z
  ·omega
  ·rename_i e1 _; subst e1; exact r.inj i j o o2 Y Z he
  ·rename_i _ e1; subst e1; exact r.inj i j o1 o U Y he
  ·exact r.inj i j o1 o2 U Z he
 ·intro b hb;rw [Mq];exact r.su b hb
 ·intro b x hb;obtain⟨q1,q2,q3⟩:=r.hid b x hb;refine⟨by rw [Mq]; exact q1,q2,fun j o2 Z=>?_⟩;rw [Hp.bU] at Z;split at Z
  ·rename_i e;rw [e];exact q3 id o Y
  ·exact q3 j o2 Z
theorem xx [bK] {E:En} {H:Hp} {w:World} (r:bR E H w) (id:Nat):fq E H w E (H.drop id) w/\bR E (H.drop id) w:=by
 have hg: ∀j o,(H.drop id).get j=some o->H.get j=some o:=by
  intro j o h
  grind [Hp.lh]
 exact⟨⟨rfl,fun _ h=>h,fun _ _=>rfl,fun _ _=>rfl,fun _ h=>h,fun _ h=> .inl h,az _,.inr rfl,fun _ h=> .inl h,rfl,rfl,rfl,az _,fun _ _ _=>rfl,fun j o h _=> ⟨j,o,hg j o h,rfl⟩,rfl⟩,
  ⟨r.fresh,r.res,fun j o h=>r.live j o (hg j o h),fun i j o1 o2 U Z he=>r.inj i j o1 o2 (hg _ _ U) (hg _ _ Z) he,r.su,r.kj,fun b x hb=> ⟨(r.hid b x hb).1,(r.hid b x hb).2.1,fun j o h=>(r.hid b x hb).2.2 j o (hg j o h)⟩⟩⟩
theorem OP [bK] {E:En} {H:Hp} {w w':World} (r:bR E H w) {id:Nat} {o:dO} (Y:H.get id=some o) (ao:dO) (off c:Nat)
 (Mq:w'.heap.size=w.heap.size) (l8: ∀b,b≠(E.θ id).1->w'.heap[b]?=w.heap[b]?) (al:Alike w w')
 (ho:OR (E.ext H.fresh ((E.θ id).1,(E.θ id).2+off) c) w'.heap H.fresh ao) :
 fq E H w (E.ext H.fresh ((E.θ id).1,(E.θ id).2+off) c) ((H.drop id).new ao) w'/\bR (E.ext H.fresh ((E.θ id).1,(E.θ id).2+off) c) ((H.drop id).new ao) w':=by
 have hdn:(H.drop id).fresh=H.fresh:=rfl;have hf:=Is (xx r id).2 ((E.θ id).1,(E.θ id).2+off) c ao;rw [hdn] at hf
 have k:fY E w.heap (E.ext H.fresh ((E.θ id).1,(E.θ id).2+off) c) w'.heap:=
  ⟨rfl,fun _ h=> .inr h,fun _ h=>En.ext_θ E _ _ c (r.sB h),fun _ h=>En.ext_κ E _ _ c (r.sB h),fun _ h=>h,(mU r Y l8).Cy⟩
 have hg: ∀j o2,((H.drop id).new ao).get j=some o2->(j=H.fresh/\o2=ao)\/(j≠id/\H.get j=some o2):=by
  intro j o2 h
  grind [Hp.gD,Hp.lh]
 refine⟨⟨rfl,k.dm,k.θ,k.κ,k.ro,fun _ h=> .inl h,(sW (H.drop id) ao).1,(sW (H.drop id) ao).2.1,fun j h=>h.elim (fun e=> .inr ((sW (H.drop id) ao).2.2 j e)) .inl,al.os,al.tape,al.output,J,?_,?_,rfl⟩,⟨hf.1,hf.2,?_,?_,?_,bK.cx r.kj k.ro k.Cy,?_⟩⟩
 ·intro b _ hn
  grind
 ·intro j o2 Z gv;rcases hg j o2 Z with ⟨rfl,rfl⟩|⟨_,h3⟩
  ·grind [En.ext_θ_new]
  ·have:=(r.live j o2 h3).1;exact⟨j,o2,h3,by rw [En.ext_θ _ _ _ _ (r.sB this)]⟩
 ·intro j o2 Z;rcases hg j o2 Z with ⟨rfl,rfl⟩|⟨gb,h3⟩
  ·rw [En.ext_θ_new];exact⟨En.gX _ _ _ _,ho,(r.live id o Y).2.2⟩
  ·obtain⟨h4,h5,h6⟩:=r.live j o2 h3;refine⟨.inr h4,h5.cx k h4 (l8 _ fun e=>gb (r.inj j id o2 o h3 Y e)) (fun key b q hb=> ⟨hb,l8 b fun e2=>(r.hid b _ hb).2.2 id o Y e2.symm⟩),?_⟩;rw [En.ext_θ _ _ _ _ (r.sB h4)]; exact h6
 ·intro i j o1 o2 U Z he;rcases hg i o1 U with ⟨e1,_⟩|⟨e1,h3⟩ <;>rcases hg j o2 Z with ⟨e2,_⟩|⟨e2,h4⟩
  ·omega
  ·have:=(r.live j o2 h4).1;rw [e1,En.ext_θ_new,En.ext_θ _ _ _ _ (r.sB this)] at he;exact absurd (r.inj id j o o2 Y h4 he).symm e2
  ·have:=(r.live i o1 h3).1;rw [e2,En.ext_θ_new,En.ext_θ _ _ _ _ (r.sB this)] at he;exact absurd (r.inj i id o1 o h3 Y he) e1
  ·have h5:=(r.live i o1 h3).1;have h6:=(r.live j o2 h4).1;rw [En.ext_θ _ _ _ _ (r.sB h5),En.ext_θ _ _ _ _ (r.sB h6)] at he;exact r.inj i j o1 o2 h3 h4 he
 ·intro b hb;rw [Mq];exact r.su b hb
 ·intro b x hb;obtain⟨q1,q2,q3⟩:=r.hid b x hb;refine⟨by rw [Mq]; exact q1,q2,fun j o2 Z=>?_⟩;rcases hg j o2 Z with ⟨rfl,rfl⟩|⟨_,h3⟩
  ·rw [En.ext_θ_new];exact q3 id o Y
  ·rw [En.ext_θ _ _ _ _ (r.sB (r.live j o2 h3).1)];exact q3 j o2 h3
def JM:Value->Bool
 | .agg _=>true
 |_=>false
def WQ (P:Program):TypeDesc->Option TK
 | .bool=>some .bool
 | .int k=>some (.int k)
 | .string=>some .string
 | .pointer e=>some (.pointer e)
 | .slice e=>some (.slice e)
 | .array n e=>some (.array n e)
 | .map k e=>some (.map k e)
 | .struct fs=>(fs.toList.mapM fun f=>(P.info? f.type).map fun i=>(f.offset,f.type,i.size)).map .struct
 | .func _ _ _=>some .func
 | .interface ms=>some (.iface ms.isEmpty)
 | .tuple _=>some .tuple
 |_=>none
def ZF (P:Program) (t:Nat):Bool:=
 match P.underlying t with
 |some (.struct fs)=>!P.stoodInHeld t&&!P.eqGuardType P.depth t&&fs.toList.all fun f=>f.name != "_"&&(match P.underlying f.type with |some .bool|some .string|some (.int _)=>true|_=>false)
 |_=>false
def ahN (i:TypeInfo) (z:Value) (k:TK) (q:Bool):Option TI:=
 match lE z.cells.toList with
 |some zs=>if JM z=k.agg then some { kind:=k,size:=i.size,bytes:=i.bytes,zero:=zs,eqs:=q } else none
 |none=>none
def V? (P:Program) (t:Nat):Option TI:=
 match P.info? t with
 |none=>none
 |some i=>match P.underlying t with
  |none=>none
  |some d=>match WQ P d with
   |none=>none
   |some k=>match i.zero with
    |none=>none
    |some z=>ahN i z k (ZF P t)
theorem fD (b o n:Nat):(⟨b,o,none⟩ : Addr).add n=⟨b,o+n,none⟩:=by unfold Addr.add; split<;>simp_all
def IX (P:Program):TypeDesc->TK->Prop
 | .bool,.bool=>True
 | .int k,.int k'=>k=k'
 | .string,.string=>True
 | .pointer e,.pointer e'=>e=e'
 | .slice e,.slice e'=>e=e'
 | .array n e,.array n' e'=>n=n'/\e=e'
 | .map k e,.map k' e'=>k=k'/\e=e'
 | .struct fs,.struct l=>(fs.toList.mapM fun f=>(P.info? f.type).map fun i=>(f.offset,f.type,i.size))=some l
 | .func _ _ _,.func=>True
 | .interface _,.iface _=>True
 | .tuple _,.tuple=>True
 |_,_=>False
structure nG (P:Program) (t:Nat) (i:TI):Prop where
 eqs:i.eqs=true->ZF P t=true
 all: ∃inf d z,P.info? t=some inf/\P.underlying t=some d/\inf.zero=some z/\lE z.cells.toList=some i.zero/\inf.size=i.size/\inf.bytes=i.bytes/\IX P d i.kind/\JM z=i.agg
def eJ (P:Program) (tt:TT):Prop:= ∀t i,tt t=some i->nG P t i
theorem V' {P:Program} {d:TypeDesc} {k:TK} (h:WQ P d=some k):IX P d k:=by
 cases d
 case struct fs=>
  simp only [WQ,aZ] at h;obtain⟨l,U,rfl⟩:=h;exact U
 all_goals first
  |(simp only [WQ,aq] at h; subst h; simp [IX]; done)
  |(simp [WQ] at h; done)
theorem V! {P:Program} {t:Nat} {i:TI} (h:V? P t=some i):nG P t i:=by
 unfold V? at h;split at h
 ·grind
 ·rename_i inf U;split at h
  ·grind
  ·rename_i d Z;split at h
   ·grind
   ·rename_i k hk;split at h
    ·grind
    ·rename_i z h3;unfold ahN at h;split at h
     ·rename_i zs h4;split at h
      ·rename_i ha;simp only [aq] at h;subst h;exact⟨fun hq=>hq,inf,d,z,U,Z,h3,h4,rfl,rfl,V' hk,ha⟩
      grind
     grind
theorem lC (s:ByteArray):di (bytesOf s)=s:=by
 unfold di bytesOf
 have:(List.map UInt8.ofNat (List.map (fun x=>x.toNat) s.data.toList))=s.data.toList:=by
  rw [anv]
  conv=>rhs; rw [<- List.map_id s.data.toList]
  apply anP;intro b _;simp
 rw [this]
theorem zc (s:ByteArray): ∀b∈bytesOf s,b<256:=by intro b hb;unfold bytesOf at hb;rw [bd] at hb;obtain⟨c,_,rfl⟩:=hb;exact c.toNat_lt
theorem CE {E:En} {h:Array Obj} {v:Value} {a:AV} (hv:hU v=some a):VR E h a v/\v.oneCell'=true:=by
 cases v with
 |bool b=>simp [hU] at hv; subst hv; simp [VR,SB.den,Value.oneCell']
 |int k n=>simp [hU] at hv; subst hv; simp [VR,V.den,Value.oneCell']
 |string s=>simp [hU] at hv; subst hv; exact⟨by simp only [VR]; exact⟨by rw [lC],zc s⟩,rfl⟩
 |pointer a=>cases a<;>simp [hU] at hv; subst hv; simp [VR,Value.oneCell']
 |slice a l c=>
  cases a with
  |some a=>simp [hU] at hv
  |none=>
   cases l with
   |succ l=>simp [hU] at hv
   |zero=>cases c with
    |succ c=>simp [hU] at hv
    |zero=>simp [hU] at hv; subst hv; simp [VR,Value.oneCell']
 |map r=>cases r<;>simp [hU] at hv; subst hv; simp [VR,Value.oneCell']
 |nilFunc=>simp [hU] at hv; subst hv; simp [VR,Value.oneCell']
 |nilIface=>simp [hU] at hv; subst hv; simp [VR,Value.oneCell']
 |func fn f c=>
  simp only [hU] at hv;split at hv
  ·rename_i hx;simp at hx hv;subst hv;obtain⟨rfl,rfl⟩:=hx;exact⟨by simp only [VR]; exact⟨[],[],rfl,rfl,rfl⟩,rfl⟩
  grind
 |_=>simp [hU] at hv
theorem fm {E:En} {h:Array Obj}: ∀{vs:List Value} {amV:List AV},lE vs=some amV->cC E h amV vs/\∀v∈vs,v.oneCell'=true
 |[],amV,hv=>by simp [lE] at hv; subst hv; simp [cC]
 |v::vs,amV,hv=>by
  simp only [lE] at hv;split at hv
  ·grind
  ·rename_i a ha;split at hv
   ·grind
   ·rename_i as' has;simp at hv;subst hv;have U:=CE (E:=E) (h:=h) ha;have Z:=fm (E:=E) (h:=h) has;refine⟨by rw [bW]; exact⟨v,vs,rfl,U.1,Z.1⟩,?_⟩;intro u hu
    grind
theorem OW {E:En} {h:Array Obj} {v:Value} {a:AV} (hv:ofConst v=some a):VR E h a v:=by
 cases v with
 |agg cs=>
  simp only [ofConst,aZ] at hv;obtain⟨l,U,rfl⟩:=hv;simp only [VR]
  grind [fm]
 |tuple cs=>
  simp only [ofConst,aZ] at hv;obtain⟨l,U,rfl⟩:=hv;simp only [VR]
  grind [fm]
 |_=>exact (CE (by simpa [ofConst] using hv)).1
theorem VR.one {E:En} {h:Array Obj} {x:AV} {v:Value} (hv:VR E h x v) (U:x.one=true):v.oneCell'=true:=by
 cases x with
 |agg cs=>simp [AV.one] at U
 |tuple cs=>simp [AV.one] at U
 |L0 i=>simp [AV.one] at U
 |ya k ks=>simp only [VR] at hv; rcases hv with ⟨⟨x,cap,rfl⟩,_⟩|⟨b,o,n,cap,rfl,_⟩ <;>rfl
 |slice id off len c=>simp only [VR] at hv; obtain⟨_,a,cap,rfl,_⟩:=hv; rfl
 |ro cs n full=>simp only [VR] at hv; obtain⟨b,o,cap,us,rfl,_⟩:=hv; rfl
 |nX cs=>simp only [VR] at hv; obtain⟨b,o,us,rfl,_⟩:=hv; rfl
 |func fn fs cs=>simp only [VR] at hv; obtain⟨us,ws,rfl,_⟩:=hv; rfl
 |iface t x=>simp only [VR] at hv; obtain⟨u,rfl,_⟩:=hv; rfl
 |str s=>simp only [VR] at hv; rw [hv.1]; rfl
 |ptr id off=>simp only [VR] at hv; rw [hv.1]; rfl
 |map id=>simp only [VR] at hv; rw [hv.1]; rfl
 |emp=>simp only [VR] at hv; obtain⟨x,rfl⟩:=hv; rfl
 |eD e t=>simp only [VR] at hv; exact hv.aaI
 |kE e=>simp only [VR] at hv; exact hv.aaI
 |qc id n t=>simp only [VR] at hv; obtain⟨_,k,a,cap,_,rfl,_⟩:=hv; rfl
 |vm id lo n t=>simp only [VR] at hv; obtain⟨_,l,k,a,cap,_,_,rfl,_⟩:=hv; rfl
 |any=>simp [AV.one] at U
 |yl z t=>simp only [VR] at hv; obtain⟨⟨x,rfl⟩,_⟩:=hv; rfl
 |AR id es i off=>simp only [VR] at hv; obtain⟨_,k,_,rfl⟩:=hv; rfl
 |_=>simp only [VR] at hv; rw [hv]; rfl
theorem cC.sV {E:En} {h:Array Obj}: ∀{xs:List AV} {us:List Value},cC E h xs us->sj xs=true->∀u∈us,u.oneCell'=true
 |[],us,hv,_=>by rw [iG] at hv; subst hv; simp
 |x::xs,us,hv,U=>by
  rw [bW] at hv;obtain⟨u,vs,rfl,Z,h3⟩:=hv;simp [sj] at U;intro y hy;rcases aH.1 hy with rfl|hy
  ·exact Z.one U.1
  ·exact h3.sV U.2 y hy
theorem VR.cells {E:En} {h:Array Obj} {x:AV} {v:Value} (hv:VR E h x v) (U:sj x.cells=true):cC E h x.cells v.cells.toList:=by
 cases x with
 |agg cs=> simp only [VR] at hv;obtain⟨us,rfl,Z⟩:=hv;simpa [AV.cells,Value.cells] using Z
 |_=>
  all_goals
   simp only [AV.cells] at U ⊢;have Z:=hv.one (by simpa [sj] using U);rw [bW];refine⟨v,[],?_,hv,rfl⟩;cases v<;>first |rfl|simp [Value.oneCell'] at Z
theorem sQ {P:Program} {w:World} {b o n:Nat} {us:List Value} (hn:us.length=n) (h:gr w.heap b o us) :
 (loadCells ⟨b,o,none⟩ n).run P w= .ok us.toArray w:=by
 subst hn;refine run_loadCells_list w _ us fun j v hj=>?_;rw [fD,oU];exact h j v hj
theorem gr.drop {h:Array Obj} {b o:Nat} {us:List Value} (hc:gr h b o us) (k:Nat):gr h b (o+k) (us.drop k):=by
 intro i u hu;rw [ann] at hu;have:=hc (k+i) u hu
 grind
theorem gr.take {h:Array Obj} {b o:Nat} {us:List Value} (hc:gr h b o us) (k:Nat):gr h b o (us.take k):=by
 intro i u hu;rw [anw] at hu;split at hu
 ·exact hc i u hu
 grind
theorem yo {E:En} {h:Array Obj} {id:Nat} {cs:List AV} {e:TypeId} (ho:OR E h id (.cells cs e)) :
 ∃us,cC E h cs us/\gr h (E.θ id).1 (E.θ id).2 us/\∀u∈us,u.oneCell'=true:=by
 obtain⟨arr,lo,hi,us,U,Z,h3,h4,h5,h6,h7⟩:=ho;refine⟨us,Z,fun i u hu=>?_,h7⟩;simp only [kH,U]
 grind
theorem w5 [bK] {E:En} {H:Hp} {w:World} (r:bR E H w) {p:AV} {u:Value} {n:Nat} {l:List AV} (hp:VR E w.heap p u) (h:nw H p n=some l) :
 ∃b o us,u= .pointer (some ⟨b,o,none⟩)/\us.length=n/\cC E w.heap l us/\gr w.heap b o us/\∀u∈us,u.oneCell'=true:=by
 cases p with
 |ptr id off=>
  simp only [nw] at h;split at h
  ·rename_i cs e Y;split at h
   ·rename_i l' W;obtain⟨us,Z,h3,h4⟩:=yo (r.live id _ Y).2.1;obtain⟨h5,h6,h7⟩:=Z.eS W;obtain⟨h8,h9⟩:=h5.iV h;simp only [VR] at hp;refine⟨_,_,_,hp.1,?_,h8,(h3.drop off).take n,fun x hx=>h4 x (amY (am1 hx))⟩;have:=h5.length
    grind
   grind
  grind
 |nX cs=>
  simp only [nw] at h;simp only [VR] at hp;obtain⟨b,o,us,rfl,_,Z,h3,h4⟩:=hp;obtain⟨h5,h6⟩:=Z.iV h;refine⟨b,o,_,rfl,?_,h5,h3.take n,fun x hx=>h4 x (am1 hx)⟩;have:=Z.length
  grind
 |_=>simp [nw] at h
theorem wW {E:En} {h:Array Obj}: ∀{cs:List AV} {o:Nat} {vs mB:List AV} {us ws:List Value},dW cs o vs=some mB->cC E h cs us->cC E h vs ws->
 mB.length=cs.length/\o+vs.length<=cs.length/\∃hD,cC E h mB hD/\∀i,hD[i]?=if o<=i/\i<o+ws.length then ws[i-o]? else us[i]?
 |cs,0,[],mB,us,ws,U,Z,h3=>by cases cs<;>simp [dW] at U<;>subst U<;>rw [iG] at h3<;>subst h3<;>exact⟨rfl,ae,us,Z,fun i=>by simp⟩
 |[],0,_::_,mB,us,ws,U,Z,h3=>by simp [dW] at U
 |c::cs,0,v::vs,mB,us,ws,U,Z,h3=>by
  simp only [dW] at U;split at U
  ·rename_i l Y;simp at U;subst U;rw [bW] at Z h3;obtain⟨u,hD,rfl,ha,hb⟩:=Z;obtain⟨x,ws',rfl,hc,W⟩:=h3;obtain⟨e1,e2,WH,e3,e4⟩:=wW Y hb W;refine⟨by simp [e1],by simp at e2 ⊢; omega,x::WH,by rw [bW]; exact⟨x,WH,rfl,hc,e3⟩,?_⟩;intro i
   grind
  grind
 |[],_+1,vs,mB,us,ws,U,Z,h3=>by cases vs<;>simp [dW] at U
 |c::cs,o+1,vs,mB,us,ws,U,Z,h3=>by
  have Sz:(match dW cs o vs with |some l=>some (c::l)|none=>none)=some mB:=by cases vs<;>exact U
  split at Sz
  ·rename_i l Y;simp at Sz;subst Sz;rw [bW] at Z;obtain⟨u,hD,rfl,ha,hb⟩:=Z;obtain⟨e1,e2,WH,e3,e4⟩:=wW Y hb h3;refine⟨by simp [e1],by simp; omega,u::WH,by rw [bW]; exact⟨u,WH,rfl,ha,e3⟩,?_⟩;intro i
   grind
  grind
theorem nv {P:Program} (b o:Nat) (e:TypeId) (lo hi:Nat): ∀(vs:List Value) (i:Nat) (arr:Array Value) (w:World),
 w.heap[b]?=some (.cells arr e (lo,hi))->(∀x,lo<=x->x<hi->arr.size<=x)->o+i+vs.length<=arr.size->(∀v∈vs,v.oneCell'=true)->
 ∃w' KY,(storeCells ⟨b,o,none⟩ vs i).run P w= .ok () w'/\Alike w w'/\w'.heap.size=w.heap.size/\(∀j,j≠b->w'.heap[j]?=w.heap[j]?)/\
  w'.heap[b]?=some (.cells KY e (lo,hi))/\KY.size=arr.size/\∀j,KY[j]?=if o+i<=j/\j<o+i+vs.length then vs[j-(o+i)]? else arr[j]?
 |[],i,arr,w,hb,_,_,_=> ⟨w,arr,rfl,⟨rfl,rfl,rfl⟩,rfl,fun _ _=>rfl,hb,rfl,fun j=>by rw [ak ae]⟩
 |v::vs,i,arr,w,hb,hf,Y,U=>by
  have Ao:o+i<arr.size:=by simp at Y; omega
  have kH:w.cell? ⟨b,o+i,none⟩ = some arr[o+i]:=by simp [World.cell?,hb,Ao]
  have amR:w.frozen? ⟨b,o+i,none⟩ = false:=by
   simp only [World.frozen?,hb,Bool.and_eq_false_iff,decide_eq_false_iff_not]
   grind
  have DI:(store ((⟨b,o,none⟩ : Addr).add i) v).run P w= .ok () (w.setCell ⟨b,o+i,none⟩ v):=by
   rw [fD,run_store P w _ v _ (U v ae),kH]
   grind
  have rU:(w.setCell ⟨b,o+i,none⟩ v).heap[b]?=some (.cells (arr.setIfInBounds (o+i) v) e (lo,hi)):=by simp [World.setCell,aoR,hb]
  have iR:(w.setCell ⟨b,o+i,none⟩ v).heap.size=w.heap.size:=by simp [World.setCell]
  have hot: ∀j,j≠b->(w.setCell ⟨b,o+i,none⟩ v).heap[j]?=w.heap[j]?:=by
   intro j hj;simp only [World.setCell,aoR]
   grind
  obtain⟨w',KY,e1,e2,e3,e4,e5,e6,e7⟩:=nv (P:=P) b o e lo hi vs (i+1) _ _ rU (by simpa using hf) (by simp at Y ⊢; omega) (fun x hx=>U x (by simp [hx]));refine⟨w',KY,?_,⟨e2.os,e2.tape,e2.output⟩,e3.trans iR,fun j hj=>(e4 j hj).trans (hot j hj),e5,by simpa using e6,?_⟩
  ·simp only [storeCells,Sem.run_bind,DI,Result.andThen_ok];exact e1
  grind
theorem mD [bK] {P:Program} {E:En} {H:Hp} {w:World} (r:bR E H w) {id off:Nat} {cs vs mB:List AV} {e:TypeId} {ws:List Value} (Y:H.get id=some (.cells cs e))
 (hs:dW cs off vs=some mB) (hv:cC E w.heap vs ws) (U: ∀u∈ws,u.oneCell'=true) :
 ∃w',(storeCells ⟨(E.θ id).1,(E.θ id).2+off,none⟩ ws).run P w= .ok () w'/\fq E H w E (H.put id (.cells mB e)) w'/\bR E (H.put id (.cells mB e)) w':=by
 obtain⟨arr,lo,hi,us,g1,g2,g3,g4,g5,g6,g7⟩:=(r.live id _ Y).2.1;obtain⟨s1,s2,hD,s3,s4⟩:=wW hs g2 hv;have hlen:=hv.length;have hlu:=g2.length;obtain⟨w',KY,e1,e2,e3,e4,e5,e6,e7⟩:=nv (P:=P) (E.θ id).1 ((E.θ id).2+off) e lo hi ws 0 arr w g1 g6 J U;refine⟨w',e1,Ez r Y _ e3 e4 e2 ?_⟩;have k:=mU r Y e4;refine⟨KY,lo,hi,hD,e5,cC.cx k _ _ s3,?_,J,by rw [e6]; exact g5,by rw [e6]; exact g6,?_⟩
 ·intro i u hu
  grind
 ·intro u hu;rw [anQ] at hu
  grind
def bY (ρ:Nat->Int) (pc:List (SB×Bool)):Prop:= ∀c b,(c,b)∈pc->c.den ρ=b
def SR (E:En) (h:Array Obj) (bG:Tr AV) (a:Act):Prop:= ∀t v,bG.get t=some v->∃u,a.tmps[t]?=some u/\VR E h v u
def p9 (P:Program) (o:Oper) (a:Act) (w:World) (R:Value->World->Prop):Prop:=
 ∀(K:Act->World->Prop) (Q:Exit->Act->World->Prop),(∀u w',R u w'->K (a.put o.dst u) w')->o.wp P a w K Q
theorem p9.value {P:Program} {o:Oper} {a:Act} {w w':World} {R:Value->World->Prop} {u:Value} (h:(execOp a.eval o).run P w= .ok (.value u) w') (hr:R u w'):p9 P o a w R:=
 fun K Q hk=>by unfold Oper.wp; rw [h]; exact hk u w' hr
theorem p9.skip {P:Program} {o:Oper} {a:Act} {w w':World} {R:Value->World->Prop} (h:(execOp a.eval o).run P w= .ok .skip w') (hr:R undef w'):p9 P o a w R:=
 fun K Q hk=>by unfold Oper.wp; rw [h]; exact hk _ w' hr
theorem gF {E:En} {w:World} {s:St} {a:Act} (sr:SR E w.heap s.bG a) {x:Operand} {v:AV} (h:ev s x=some v):VR E w.heap v (a.eval x):=by
 cases x with
 |tmp t=> obtain⟨u,U,Z⟩:=sr t v h;simp only [Act.eval,anx,U,ay];exact Z
 |const c=>exact OW h
 |func f=> simp [ev] at h;subst h;simp only [VR,Act.eval];exact⟨[],[],rfl,rfl,rfl⟩
 |global g=>simp [ev] at h
theorem Kc {E:En} {w:World} {s:St} {a:Act} (sr:SR E w.heap s.bG a): ∀{xs:List Operand} {vs:List AV},evs s xs=some vs->cC E w.heap vs (xs.map a.eval)
 |[],vs,h=>by simp [evs] at h; subst h; simp [cC]
 |x::xs,vs,h=>by
  simp only [evs] at h;split at h
  ·grind
  ·rename_i b hb;split at h
   ·grind
   ·rename_i bs hbs;simp at h;subst h;rw [aK,bW];exact⟨_,_,rfl,gF sr hb,Kc sr hbs⟩
section
variable {P:Program} {t:Nat} {i:TI}
theorem pQ (h:nG P t i) (w:World):(isAgg t).run P w= .ok i.agg w:=by obtain⟨inf,d,z,U,Z,h3,h4,h5,h6,h7,_⟩:=h.all;unfold isAgg;simp only [Sem.run_bind,run_underlying Z,Result.andThen_ok];cases d<;>cases hk:i.kind<;>simp only [hk,IX] at h7<;>simp [TI.agg,TK.agg,hk]
theorem eE (h:nG P t i) (w:World):(sizeOf t).run P w= .ok i.size w:=by obtain⟨inf,d,z,U,Z,h3,h4,h5,h6,h7,_⟩:=h.all;simp [sizeOf,typeInfo,U,h5]
theorem fK (h:nG P t i) {e:Nat} (hk:i.kind= .slice e):P.underlying t=some (.slice e):=by obtain⟨inf,d,z,U,Z,h3,h4,h5,h6,h7,_⟩:=h.all;rw [Z];cases d<;>simp [hk,IX] at h7;rw [h7]
theorem sC (h:nG P t i) {n e:Nat} (hk:i.kind= .array n e):P.underlying t=some (.array n e):=by
 obtain⟨inf,d,z,U,Z,h3,h4,h5,h6,h7,_⟩:=h.all;rw [Z];cases d<;>simp [hk,IX] at h7
 grind
theorem wU (h:nG P t i) {k e:Nat} (hk:i.kind= .map k e):P.underlying t=some (.map k e):=by
 obtain⟨inf,d,z,U,Z,h3,h4,h5,h6,h7,_⟩:=h.all;rw [Z];cases d<;>simp [hk,IX] at h7
 grind
theorem tF (h:nG P t i) {k:IntKind} (hk:i.kind= .int k):P.underlying t=some (.int k):=by obtain⟨inf,d,z,U,Z,h3,h4,h5,h6,h7,_⟩:=h.all;rw [Z];cases d<;>simp [hk,IX] at h7;rw [h7]
theorem gf (h:nG P t i) (hk:i.kind= .string):P.underlying t=some .string:=by
 obtain⟨inf,d,z,U,Z,h3,h4,h5,h6,h7,_⟩:=h.all
 grind [IX]
theorem Lr (h:nG P t i) (hk:i.kind= .bool):P.underlying t=some .bool:=by
 obtain⟨inf,d,z,U,Z,h3,h4,h5,h6,h7,_⟩:=h.all
 grind [IX]
theorem yu (h:nG P t i) {l:List (Nat×Nat×Nat)} (hk:i.kind= .struct l): ∃fs:Array Field,P.underlying t=some (.struct fs)/\(fs.toList.mapM fun f=>(P.info? f.type).map fun i=>(f.offset,f.type,i.size))=some l:=by
 obtain⟨inf,d,z,U,Z,h3,h4,h5,h6,h7,_⟩:=h.all;rw [Z];cases d<;>simp [hk,IX] at h7
 grind
theorem xl (h:nG P t i): ∃inf z,P.info? t=some inf/\inf.size=i.size/\inf.bytes=i.bytes/\inf.zero=some z/\lE z.cells.toList=some i.zero:=by
 obtain⟨inf,d,z,U,Z,h3,h4,h5,h6,h7,_⟩:=h.all
 grind
end
theorem B7 [bK] {P:Program} {tt:TT} (cP:eJ P tt) {E:En} {H:Hp} {w:World} (r:bR E H w) {t:Nat} {p v:AV} {u:Value} (hp:VR E w.heap p u) (h:B8 tt t p H=some v) :
 ∃x b o,u= .pointer (some ⟨b,o,none⟩)/\(loadVar t ⟨b,o,none⟩).run P w= .ok x w/\VR E w.heap v x:=by
 unfold B8 at h;split at h
 ·grind
 ·rename_i i hi;have fB:=cP t i hi;split at h
  ·rename_i Po;rw [aZ] at h;obtain⟨l,Y,rfl⟩:=h;obtain⟨b,o,us,rfl,Z,h3,h4,_⟩:=w5 r hp Y;refine⟨.agg us.toArray,b,o,rfl,?_,by simp only [VR]; exact⟨us,rfl,h3⟩⟩;simp [loadVar,pQ fB,Po,eE fB,sQ Z h4]
  ·rename_i Po;split at h
   ·rename_i v' l Y;simp at h;subst h;obtain⟨b,o,us,rfl,Z,h3,h4,_⟩:=w5 r hp Y;rw [bW] at h3;obtain⟨x,vs,rfl,h5,_⟩:=h3;refine⟨x,b,o,rfl,?_,h5⟩;have hc:w.cell? ⟨b,o,none⟩ = some x:=by rw [oU]; exact h4 0 x rfl
    simp [loadVar,pQ fB,Po,hc]
   grind
theorem mr (k:IntKind) (n:Int):vh k n=k.wrap n:=by
 unfold vh;split
 ·split
  ·rename_i h; exact (IntWalk.i64_in n h).symm
  ·rfl
 ·split
  ·rename_i h; exact (IntWalk.u8_in n h).symm
  ·rfl
 ·rfl
theorem Um (ρ:Nat->Int) (k:IntKind) (a b:V):(XW k a b).den ρ=k.wrap (a.den ρ+b.den ρ):=by
 unfold XW
 grind [V.den,mr]
theorem Hf (ρ:Nat->Int) (k:IntKind) (a b:V):(Rw k a b).den ρ=k.wrap (a.den ρ-b.den ρ):=by
 unfold Rw
 grind [V.den,mr]
theorem Ul (ρ:Nat->Int) (k:IntKind) (a b:V):(XV k a b).den ρ=k.wrap (a.den ρ*b.den ρ):=by
 unfold XV
 grind [V.den,mr]
theorem dX (ρ:Nat->Int) (a b:V):(iP a b).den ρ=decide (a.den ρ<b.den ρ):=by
 unfold iP;split
 ·rfl
 ·simp [SB.den]
theorem XX (ρ:Nat->Int) (a b:V):(aak a b).den ρ=decide (a.den ρ<=b.den ρ):=by
 unfold aak;split
 ·rfl
 ·simp only [SB.den]
  grind
theorem hJ (ρ:Nat->Int) (a b:V):(rO a b).den ρ=(a.den ρ == b.den ρ):=by
 unfold rO;split
 ·simp [SB.den,V.den]
 ·simp only [SB.den,V.den]
  grind
 grind [cR,SB.den]
theorem nW (ρ:Nat->Int) (s:SB):(xV s).den ρ=!(s.den ρ):=by
 unfold xV
 grind [SB.den]
theorem mK: ∀(x y:List Nat),im x y=true↔x=y
 |[],[]=>by simp [im]
 |[],_::_=>by simp [im]
 |_::_,[]=>by simp [im]
 |a::x,b::y=>by
  simp only [im]
  cases h:a.beq b with
  |true=>have:=aA h; subst this; simp [mK x y]
  |false=>have:=anR h; simp [this]
theorem rh (s:List Nat):(di s).toList=s.map UInt8.ofNat:=by simp_all [di]
theorem lz (s:List Nat):(di s).size=s.length:=by show (List.map UInt8.ofNat s).toArray.size=_;simp
theorem ofNat_inj {a b:Nat} (ha:a<256) (hb:b<256) (h:UInt8.ofNat a=UInt8.ofNat b):a=b:=by have:=congrArg UInt8.toNat h;simpa [ano,ang ha,ang hb] using this
theorem map_inj: ∀{x y:List Nat},(∀b∈x,b<256)->(∀b∈y,b<256)->x.map UInt8.ofNat=y.map UInt8.ofNat->x=y
 |[],[],_,_,_=>rfl
 |[],_::_,_,_,h=>by simp at h
 |_::_,[],_,_,h=>by simp at h
 |a::x,b::y,hx,hy,h=>by simp only [aK,List.cons.injEq] at h;rw [ofNat_inj (hx a ae) (hy b ae) h.1,map_inj (fun c hc=>hx c (by simp [hc])) (fun c hc=>hy c (by simp [hc])) h.2]
theorem Ru {x y:List Nat} (hx: ∀b∈x,b<256) (hy: ∀b∈y,b<256):((di x).toList == (di y).toList)=im x y:=by
 grind [rh,mK,map_inj]
theorem G8: ∀{x y:List Nat},(∀b∈x,b<256)->(∀b∈y,b<256)->Op.bytesLess (x.map UInt8.ofNat) (y.map UInt8.ofNat)=bytesLess x y
 |[],[],_,_=>by simp [Op.bytesLess,bytesLess]
 |[],_::_,_,_=>by simp [Op.bytesLess,bytesLess]
 |_::_,[],_,_=>by simp [Op.bytesLess,bytesLess]
 |a::x,b::y,hx,hy=>by
  have ha:=hx a ae;have hb:=hy b ae;have ih:=G8 (x:=x) (y:=y) (fun c hc=>hx c (by simp [hc])) (fun c hc=>hy c (by simp [hc]));simp only [aK,Op.bytesLess,bytesLess,ih]
  have U:decide (UInt8.ofNat a<UInt8.ofNat b)=a.blt b:=by rw [ana,decide_eq_true_iff,UInt8.lt_iff_toNat_lt,ano,ano,ang ha,ang hb];simp_all
  have Z:(UInt8.ofNat a == UInt8.ofNat b)=a.beq b:=by rw [ana,beq_iff_eq];exact⟨fun h=>by rw [ofNat_inj ha hb h]; simp,fun h=>by rw [aA h]⟩
  grind
theorem LB {P:Program} {E:En} {w:World} {op:BinOp} {x y:List Nat} {v:AV} (hx: ∀b∈x,b<256) (hy: ∀b∈y,b<256) (h:LC op x y=some v) :
 ∃u,(Op.stringOp op (di x) (di y)).run P w= .ok u w/\VR E w.heap v u:=by
 have he:=Ru hx hy;have Y:Op.bytesLess (di x).toList (di y).toList=bytesLess x y:=by rw [rh,rh]; exact G8 hx hy
 unfold LC at h;cases op<;>simp only [aq,reduceCtorEq] at h
 case add=>
  split at h
  ·rename_i hh;simp at h;subst h;have hm:IntKind.i64.max=9223372036854775807:=ah
   refine⟨.string (di x++di y),?_,?_⟩
   ·simp only [Op.stringOp,lz,hm];rw [ak J];rfl
   ·simp only [VR];refine⟨?_,?_⟩
    ·congr 1;apply ByteArray.ext;simp [di]
    ·intro b hb;rcases am2.1 hb with hb|hb
     ·exact hx b hb
     ·exact hy b hb
  ·simp at h
 all_goals
  subst h;exact⟨_,rfl,by simp only [VR,SB.den,he,Y]⟩
theorem jF {ρ:Nat->Int} {c:SB} {b:Bool}: ∀{pc:List (SB×Bool)},bY ρ pc->nY c pc=some b->c.den ρ=b
 |[],_,h=>by simp [nY] at h
 |(d,x)::l,hp,h=>by
  simp only [nY] at h;split at h
  ·rename_i he;have he:=sN _ _ he;simp at h;subst he h;exact hp _ _ ae
  ·exact jF (fun c b hm=>hp c b (by simp [hm])) h
def sk (lo hi:Option Int) (x:Int):Prop:=(∀l,lo=some l->l<=x)/\∀h,hi=some h->x<=h
theorem JB {lo:Option Int} {z x:Int} (h: ∀l,lo=some l->l<=x) (hz:z<=x): ∀l,YA lo z=some l->l<=x:=by
 intro l Y;unfold YA at Y
 grind
theorem JA {hi:Option Int} {z x:Int} (h: ∀l,hi=some l->x<=l) (hz:x<=z): ∀l,Yz hi z=some l->x<=l:=by
 intro l Y;unfold Yz at Y
 grind
theorem Yk {lo:Option Int} {z x:Int} (h: ∀l,lo=some l->l<=x) (hz:x≠z): ∀l,Yl lo z=some l->l<=x:=by
 intro l Y;unfold Yl at Y
 grind
theorem Ym {hi:Option Int} {z x:Int} (h: ∀l,hi=some l->x<=l) (hz:x≠z): ∀l,Yn hi z=some l->x<=l:=by
 intro l Y;unfold Yn at Y
 grind
theorem ru {ρ:Nat->Int} {x y:V} {v:Bool} (h:(SB.lt x y).den ρ=v):(x.den ρ<y.den ρ)↔v=true:=by subst h; simp [SB.den]
theorem SU {ρ:Nat->Int} {x y:V} {v:Bool} (h:(SB.eq x y).den ρ=v):(x.den ρ=y.den ρ)↔v=true:=by subst h; simp [SB.den]
theorem y? {ρ:Nat->Int} (e:V):sk (Ty e).1 (Ty e).2 (e.den ρ):=by
 have h0:sk none none (e.den ρ):=⟨ae,ae⟩;unfold Ty;split
 ·split
  ·split
   ·split
    ·split
     ·split
      ·split
       ·rename_i k m x n hn;obtain⟨hn,rfl,rfl⟩:=hn;simp only [V.den];have U:=anS (m.den ρ) (b:=n) J
        have Z: -n<(m.den ρ).tmod n:=by have U:=anS (-(m.den ρ)) (b:=n) J;rw [Int.neg_tmod] at U;omega
        have h3:=Int.tmod_nonneg n (a:=(m.den ρ).tmod n+n) J;have h4:=anS ((m.den ρ).tmod n+n) (b:=n) J;constructor<;>intro l Y<;>simp at Y<;>omega
       grind
      grind
     grind
    grind
   grind
  grind
 ·rename_i o a b
  cases o with
  |len=> refine⟨fun l Y=>?_,ae⟩;simp only [aq] at Y;subst Y;simp only [V.den,fX.den];omega
  |_=>exact h0
 grind
theorem mN {ρ:Nat->Int} {e:V}: ∀{pc:List (SB×Bool)},bY ρ pc->sk (bounds e pc).1 (bounds e pc).2 (e.den ρ)
 |[],_=>y? e
 |(c,v)::l,hp=>by
  have ih:=mN (e:=e) (pc:=l) (fun c b hm=>hp c b (by simp [hm]));have hc:=hp c v ae;unfold bounds;split
  ·have hc:=ru hc;split
   ·split
    ·exact ih
    ·rename_i he;have he:=cR _ _ he;subst he;revert ih;split;rename_i lo hi hb;rw [hb];intro ih;simp only [V.den] at hc;cases v
     ·exact⟨ih.1,JA ih.2 (by simp at hc; omega)⟩
     ·exact⟨JB ih.1 (by simp at hc; omega),ih.2⟩
   ·split
    ·split
     ·exact ih
     ·rename_i he;have he:=cR _ _ he;subst he;revert ih;split;rename_i lo hi hb;rw [hb];intro ih;simp only [V.den] at hc;cases v
      ·exact⟨JB ih.1 (by simp at hc; omega),ih.2⟩
      ·exact⟨ih.1,JA ih.2 (by simp at hc; omega)⟩
    grind
  ·split
   ·split
    ·split
     ·exact ih
     ·rename_i he;have he:=cR _ _ he;subst he;revert ih;split;rename_i lo hi hb;rw [hb];intro ih;simp only [SB.den,V.den,beq_eq_false_iff_ne] at hc;exact⟨Yk ih.1 hc,Ym ih.2 hc⟩
    ·split
     ·exact ih
     ·rename_i he;have he:=cR _ _ he;subst he;simp only [SB.den,V.den,beq_iff_eq] at hc;exact⟨fun l Y=>by simp at Y; omega,fun l Y=>by simp at Y; omega⟩
   grind
  grind
theorem yr {ρ:Nat->Int} {e:V} {pc:List (SB×Bool)} (hp:bY ρ pc):sk (pN e pc).1 (pN e pc).2 (e.den ρ):=by
 have h0:=mN (e:=e) hp;unfold pN;split
 ·split
  ·split
   ·split
    ·rename_i b _ c;have hb:=mN (e:=b) hp;split
     ·rename_i lo hi N7;rw [N7] at hb;have b1:=hb.1 lo rfl;have b2:=hb.2 hi rfl;split
      ·rename_i hr;revert h0;split;rename_i l2 Z hee;rw [hee];intro h0
       have hw:(V.wrap .i64 (.add b (.lit c))).den ρ=b.den ρ+c:=by
        simp only [V.den];rw [<- mr];simp only [vh]
        grind
       exact⟨JB h0.1 (by rw [hw]; omega),JA h0.2 (by rw [hw]; omega)⟩
      grind
     grind
    grind
   grind
  grind
 grind
theorem ET {ρ:Nat->Int} {pc:List (SB×Bool)} (hp:bY ρ pc) {a b:V} {v:Bool} (h:RU a b pc=some v):a.den ρ=b.den ρ↔v=true:=by
 unfold RU at h;split at h
 ·rename_i U;simp at h;subst h;exact SU (jF hp U)
 ·rw [<- SU (jF hp h)]
  grind
theorem q! {ρ:Nat->Int} {pc:List (SB×Bool)} (hp:bY ρ pc) {a b:V} {v:Bool} (h:decLt pc a b=some v):a.den ρ<b.den ρ↔v=true:=by
 unfold decLt at h;split at h
 ·rename_i U;simp at h;subst h;exact ru (jF hp U)
 ·split at h
  ·have hb:=yr (e:=b) hp;have hz: ∀z,(V.lit z).den ρ=z:=fun _=>rfl;simp only [hz] at *;generalize N7:pN _ pc=p at h hb;obtain⟨lo,hi⟩:=p;simp only [sk] at h hb
   grind
  ·split at h
   ·have hb:=yr (e:=a) hp;have hz: ∀z,(V.lit z).den ρ=z:=fun _=>rfl;simp only [hz] at *;generalize N7:pN _ pc=p at h hb;obtain⟨lo,hi⟩:=p;simp only [sk] at h hb
    grind
   ·split at h
    ·rename_i U;have U:=ET hp U
     grind
    ·rename_i U;have U:=ET hp U;simp at U;split at h
     ·rename_i Z;have Z:=ru (jF hp Z)
      grind
     grind
    ·split at h
     ·rename_i Z;have Z:=ru (jF hp Z)
      grind
     grind
theorem q? {ρ:Nat->Int} {pc:List (SB×Bool)} (hp:bY ρ pc) {a b:V} {v:Bool} (h:decEq pc a b=some v):a.den ρ=b.den ρ↔v=true:=by
 unfold decEq at h;split at h
 ·rename_i U;simp at h;subst h;exact ET hp U
 ·split at h
  ·have hb:=yr (e:=a) hp;have hz: ∀z,(V.lit z).den ρ=z:=fun _=>rfl;simp only [hz] at *;generalize N7:pN _ pc=p at h hb;obtain⟨lo,hi⟩:=p;simp only [sk] at h hb
   grind
  ·split at h
   ·rename_i Z;have Z:=ru (jF hp Z)
    grind
   ·rename_i Z;have Z:=ru (jF hp Z);simp at Z;split at h
    ·rename_i h3;have h3:=ru (jF hp h3)
     grind
    grind
   ·split at h
    ·rename_i Z;have Z:=ru (jF hp Z)
     grind
    grind
theorem F2 {ρ:Nat->Int} {pc:List (SB×Bool)} (hp:bY ρ pc) {c:SB} {b:Bool} (h:DX pc c=some b):c.den ρ=b:=by
 unfold DX at h;split at h
 ·simp at h; simp [SB.den,h]
 ·have:=q! hp h;simp only [SB.den]
  grind
 ·have:=q? hp h;simp only [SB.den]
  grind
 ·exact jF hp h
theorem gY {ρ:Nat->Int} {pc:List (SB×Bool)} (hp:bY ρ pc) {c:SB} {b:Bool} (h:kM pc c=some b):c.den ρ=b:=by
 unfold kM at h;split at h
 ·rw [aZ] at h;obtain⟨x,U,rfl⟩:=h;simp only [SB.den,F2 hp U]
 ·exact F2 hp h
section
variable {P:Program} {E:En} {w:World}
theorem YT {op:BinOp} {t:Nat} {k k':IntKind} {a b:V} {v:AV} (hk:op= .shr\/k=k') (h:Se op k a b=some v) :
 ∃u,(binOp op t (.int k (a.den E.ρ)) (.int k' (b.den E.ρ))).run P w= .ok u w/\VR E w.heap v u:=by
 unfold Se at h;cases op<;>simp only [aq,reduceCtorEq] at h
 case add=>obtain rfl:k=k':=by simpa using hk
           subst h; exact⟨_,by simp [binOp,Op.intArith]; rfl,by simp only [VR,Um]⟩
 case sub=>obtain rfl:k=k':=by simpa using hk
           subst h; exact⟨_,by simp [binOp,Op.intArith]; rfl,by simp only [VR,Hf]⟩
 case mul=>obtain rfl:k=k':=by simpa using hk
           subst h; exact⟨_,by simp [binOp,Op.intArith]; rfl,by simp only [VR,Ul]⟩
 case quo=>
  obtain rfl:k=k':=by simpa using hk
  split at h
  ·split at h
   ·simp at h
   ·rename_i hy;simp at h;subst h;exact⟨_,by simp [binOp,Op.intDiv,V.den,hy]; rfl,by simp only [VR,V.den,mr]⟩
  ·split at h
   ·simp at h
   ·rename_i hy;simp at h;subst h;exact⟨_,by simp [binOp,Op.intDiv,V.den,hy]; rfl,by simp only [VR,V.den]⟩
  ·simp at h
 case rem=>
  obtain rfl:k=k':=by simpa using hk
  split at h
  ·split at h
   ·simp at h
   ·rename_i hy;simp at h;subst h;exact⟨_,by simp [binOp,Op.intDiv,V.den,hy]; rfl,by simp only [VR,V.den]⟩
  ·split at h
   ·simp at h
   ·rename_i hy;simp at h;subst h;exact⟨_,by simp [binOp,Op.intDiv,V.den,hy]; rfl,by simp only [VR,V.den]⟩
  ·simp at h
 case shr=>
  split at h
  ·split at h
   ·simp at h
   ·rename_i hy;simp at h;subst h;exact⟨_,by simp [binOp,Op.shift,V.den,hy]; rfl,by simp only [VR,V.den]⟩
  ·simp at h
 all_goals
  obtain rfl:k=k':=by simpa using hk
  subst h;refine⟨_,by simp [binOp,Op.intCmp]; rfl,?_⟩;simp only [VR,hJ,nW,dX,XX]
  first |rfl|(congr 1; simp [bne]; done)|(congr 1; rw [ana]; simp; done)|skip
theorem wE {op:BinOp} {t:Nat} {x y:Operand} {a b:Value} (U: ∀cs ds,¬(a= .agg cs/\b= .agg ds)) (Z: ¬(a= .nilIface/\b= .nilIface)) :
 (eqGuard op t x y a b).run P w= .ok () w:=by
 cases op
 case eql=>
  cases a<;>first
   |(cases b<;>first |(exact absurd ⟨rfl,rfl⟩ (U _ _))|(exact absurd ⟨rfl,rfl⟩ Z)|rfl)
   |rfl
 case neq=>
  cases a<;>first
   |(cases b<;>first |(exact absurd ⟨rfl,rfl⟩ (U _ _))|(exact absurd ⟨rfl,rfl⟩ Z)|rfl)
   |rfl
 all_goals rfl
theorem C0 {ρ:Nat->Int} {a b c:SB} (h:DT a b=some c):c.den ρ=(a.den ρ == b.den ρ):=by
 unfold DT at h;split at h<;>simp only [aq,reduceCtorEq] at h<;>subst h
 ·simp [SB.den]
 ·grind [SB.den,nW]
 ·grind [SB.den,nW]
 ·simp only [SB.den];cases a.den ρ<;>cases b.den ρ<;>rfl
theorem zE {d:TypeDesc} {t:Nat} (h:P.underlying t=some d) (w:World):(underlying t).run P w= .ok d w:=run_underlying h w
theorem sZ {i:TI} {t:Nat} (h:nG P t i): ∃d,P.underlying t=some d/\IX P d i.kind:=by
 obtain⟨inf,d,z,U,Z,h3,h4,h5,h6,h7,_⟩:=h.all
 grind
theorem SQ {i:TI} {t:Nat} (ht:nG P t i) {x y:AV} {u u':Value} (hx:VR E w.heap x u) (hy:VR E w.heap y u') {c:SB} (h:agm i.kind x y=some c) :
 (Op.equal t u u').run P w= .ok (c.den E.ρ) w/\(∀cs ds,¬(u= .agg cs/\u'= .agg ds))/\¬(u= .nilIface/\u'= .nilIface)/\(∀k n,u≠.int k n)/\(∀s,u≠.string s)/\(∀k n,u≠.float k n)/\(∀k n m,u≠.complex k n m):=by
 obtain⟨d,U,Z⟩:=sZ ht;have hm: ∀a b,Op.equal t a b=Op.equalIn (9999+1) t a b:=fun _ _=>rfl;rw [hm];clear hm;generalize (9999:Nat)=n;unfold agm at h;split at h
 ·rename_i hk;rw [hk] at Z;cases d<;>simp only [IX] at Z;split at h
  ·simp only [VR] at hx hy;subst hx hy;refine⟨?_,ae,ae,ae,ae,ae,ae⟩;rw [C0 h];simp [Op.equalIn,zE U]
  grind
 ·rename_i k hk;cases xN:i.kind<;>rw [xN] at h Z<;>simp only [isNil,reduceCtorEq] at h
  case pointer e=>
   cases d<;>simp only [IX] at Z;cases x<;>simp only [reduceCtorEq] at h<;>cases y<;>simp only [reduceCtorEq,aq] at h<;>subst h<;>simp only [VR] at hx hy
   all_goals
    first |(obtain⟨b,o,us,rfl,_⟩:=hx)|(obtain⟨rfl,_⟩:=hx)|subst hx
    first |(obtain⟨b',o',hD,rfl,_⟩:=hy)|(obtain⟨rfl,_⟩:=hy)|subst hy
    exact⟨by simp [Op.equalIn,zE U,SB.den],ae,ae,ae,ae,ae,ae⟩
  case slice e=>
   cases d<;>simp only [IX] at Z;cases x<;>simp only [reduceCtorEq] at h<;>cases y<;>simp only [reduceCtorEq,aq] at h<;>subst h<;>simp only [VR] at hx hy
   all_goals
    first |(obtain⟨b,o,cap,us,rfl,_⟩:=hx)|(obtain⟨_,b,cap,rfl,_⟩:=hx)|(obtain⟨_,k,b,cap,_,rfl,_⟩:=hx)|subst hx
    first |(obtain⟨b',o',qL,hD,rfl,_⟩:=hy)|(obtain⟨_,b',qL,rfl,_⟩:=hy)|(obtain⟨_,k',b',qL,_,rfl,_⟩:=hy)|subst hy
    exact⟨by simp [Op.equalIn,zE U,SB.den],ae,ae,ae,ae,ae,ae⟩
  case map k' e=>
   cases d<;>simp only [IX] at Z;cases x<;>simp only [reduceCtorEq] at h<;>cases y<;>simp only [reduceCtorEq,aq] at h<;>subst h<;>simp only [VR] at hx hy
   all_goals
    first |(obtain⟨rfl,_⟩:=hx)|subst hx
    first |(obtain⟨rfl,_⟩:=hy)|subst hy
    exact⟨by simp [Op.equalIn,zE U,SB.den],ae,ae,ae,ae,ae,ae⟩
theorem binOp_eql {t:Nat} {u u':Value} {b:Bool} (h:(Op.equal t u u').run P w= .ok b w) (U: ∀k n,u≠.int k n) (Z: ∀s,u≠.string s) (h3: ∀k n,u≠.float k n) (h4: ∀k n m,u≠.complex k n m) :
 (binOp .eql t u u').run P w= .ok (.bool b) w/\(binOp .neq t u u').run P w= .ok (.bool (!b)) w:=by
 cases u<;>first
  |exact absurd rfl (U _ _)
  |exact absurd rfl (Z _)
  |exact absurd rfl (h3 _ _)
  |exact absurd rfl (h4 _ _ _)
  |(constructor<;>(cases u'<;>simp [binOp,h]))
theorem iU (ρ:Nat->Int) (a b:V):(rj a b).den ρ=(a.den ρ == b.den ρ):=by
 unfold rj;split
 ·rename_i h
  grind [cR,SB.den]
 ·split
  ·simp only [SB.den]
   grind
  ·simp only [SB.den]
theorem mE (ρ:Nat->Int) (x:V):(nr x).den ρ=enc (dec (x.den ρ)):=by
 unfold nr;split
 ·simp only [V.den,bD]
 ·split
  ·simp only [V.den,fX.den,bD]
  ·simp only [V.den,fX.den,bD]
  ·simp only [V.den,fX.den]
 ·simp only [V.den,fX.den]
theorem zt {E:En} {h:Array Obj} {x:AV} {u:Value} {e:V} (hx:VR E h x u) (hs:uW x=some e): ∃s,u= .string s/\dec (e.den E.ρ)=uN s:=by
 unfold uW at hs;split at hs
 ·simp only [aq] at hs;subst hs;simp only [VR] at hx;obtain⟨rfl,hb⟩:=hx;refine⟨_,rfl,?_⟩;simp only [V.den,bD]
  grind [AW,uN,di]
 ·simp only [aq] at hs;subst hs;simp only [VR] at hx;generalize dec (V.den E.ρ _)=d at hx ⊢
  cases hx with
  |str s=>exact⟨s,rfl,rfl⟩
 grind
theorem Eg {E:En} {h:Array Obj} {x y:AV} {u v:Value} {c:SB} (hx:VR E h x u) (hy:VR E h y v) (hs:Ct x y=some c): ∃a b:ByteArray,u= .string a/\v= .string b/\c.den E.ρ=decide (a=b):=by
 unfold Ct at hs;split at hs
 ·grind
 ·rename_i e he;split at hs
  ·grind
  ·rename_i f hf;simp only [aq] at hs;subst hs;obtain⟨a,rfl,ha⟩:=zt hx he;obtain⟨b,rfl,hb⟩:=zt hy hf;refine⟨a,b,rfl,rfl,?_⟩
   grind [iU,mE,F3,ew]
theorem yw (a b:ByteArray):(a.toList == b.toList)=decide (a=b):=by
 rw [ana,beq_iff_eq,decide_eq_true_eq];constructor
 ·intro h;rw [<- lC a,<- lC b]
  have e: ∀x:ByteArray,x.toList=x.data.toList:=by
   intro x;have:=rh (bytesOf x);rw [lC] at this;rw [this]
   have e2:(UInt8.ofNat ∘ fun b:UInt8=>b.toNat)=id:=by funext b;simp
   simp_all [bytesOf,e2]
  grind [bytesOf]
 grind
theorem G7 {E:En} {op:BinOp} {x y v:AV} {u u':Value} {t:Nat} (hx:VR E w.heap x u) (hy:VR E w.heap y u') (h:Jc op (Ct x y)=some v) :
 (∃r,(binOp op t u u').run P w= .ok r w/\VR E w.heap v r)/\(∀cs ds,¬(u= .agg cs/\u'= .agg ds))/\¬(u= .nilIface/\u'= .nilIface):=by
 unfold Jc at h;split at h
 ·grind
 ·rename_i c hc;obtain⟨a,b,rfl,rfl,W⟩:=Eg hx hy hc;refine⟨?_,ae,ae⟩;split at h
  ·simp only [aq] at h;subst h;refine⟨.bool (decide (a=b)),?_,by simp only [VR,W]⟩;rw [<- yw];rfl
  ·simp only [aq] at h;subst h;refine⟨.bool (!decide (a=b)),?_,by simp only [VR,SB.den,W]⟩;rw [<- yw];rfl
  grind
theorem ZD {tt:TT} (cP:eJ P tt) {t:Nat} {op:BinOp} {x y v:AV} {u u':Value} (hx:VR E w.heap x u) (hy:VR E w.heap y u') (h:ZE tt t op x y=some v) :
 (∃r,(binOp op t u u').run P w= .ok r w/\VR E w.heap v r)/\(∀cs ds,¬(u= .agg cs/\u'= .agg ds))/\¬(u= .nilIface/\u'= .nilIface):=by
 unfold ZE at h;split at h
 ·split at h
  ·simp only [VR] at hx hy;subst hx hy;refine⟨?_,ae,ae⟩;split at h
   all_goals simp_all [YT]
  grind
 ·split at h
  ·simp only [VR] at hx hy;obtain⟨rfl,hx⟩:=hx;obtain⟨rfl,hy⟩:=hy;refine⟨?_,ae,ae⟩;obtain⟨r,U,Z⟩:=LB (P:=P) (E:=E) (w:=w) hx hy h;refine⟨r,?_,Z⟩;cases op<;>first |(simp [LC] at h; done)|(simpa [binOp] using U)
  ·exact G7 hx hy h
  grind
 ·exact G7 hx hy h
 ·split at h
  ·grind
  ·rename_i i hi;split at h
   ·rename_i c hc;simp at h;subst h;obtain⟨e1,e2,e3,e4,e5,e6,e7⟩:=SQ (w:=w) (cP t i hi) hx hy hc;exact⟨⟨_,(binOp_eql e1 e4 e5 e6 e7).1,by simp only [VR]⟩,e2,e3⟩
   ·rename_i c hc;simp at h;subst h;obtain⟨e1,e2,e3,e4,e5,e6,e7⟩:=SQ (w:=w) (cP t i hi) hx hy hc;exact⟨⟨_,(binOp_eql e1 e4 e5 e6 e7).2,by simp only [VR,nW]⟩,e2,e3⟩
   grind
theorem abb {op:UnOp} {x v:AV} {u:Value} (hx:VR E w.heap x u) (h:agk op x=some v): ∃r,(Op.unary op u).run P w= .ok r w/\VR E w.heap v r:=by
 unfold agk at h;split at h
 ·simp at h; subst h;simp only [VR] at hx; subst hx;exact⟨_,rfl,by simp only [VR,nW]⟩
 ·simp at h; subst h;simp only [VR] at hx; subst hx;exact⟨_,rfl,by simp only [VR,Hf,V.den]⟩
 grind
end
section
variable {P:Program} {E:En} {w:World}
theorem jt [bK] {H:Hp} {w':World} (r:bR E H w) {cs:List AV} {us:List Value} (arr:Array Value) (lo hi:Nat) (e:TypeId) (hv:cC E w.heap cs us) (U: ∀u∈us,u.oneCell'=true)
 (ha: ∀(i:Nat) (u:Value),us[i]?=some u->arr[i]?=some u) (hf: ∀o:Nat,lo<=o->o<hi->arr.size<=o) (hw:w'.heap=w.heap.push (.cells arr e (lo,hi))) (al:Alike w w') :
 fq E H w (E.ext H.fresh (w.heap.size,0) arr.size) (H.new (.cells cs e)) w'/\bR (E.ext H.fresh (w.heap.size,0) arr.size) (H.new (.cells cs e)) w':=by
 refine vS r _ _ _ hw al ?_;have k:=EX r (w.heap.size,0) arr.size (.cells arr e (lo,hi));rw [<- hw] at k;have hlen:=hv.length;simp only [OR,En.ext_θ_new,En.ext_κ_new];refine⟨arr,lo,hi,us,by rw [hw]; simp,cC.cx k _ _ hv,fun i u hu=>by rw [aL]; exact ha i u hu,?_,J,hf,U⟩;rw [<- hlen];rcases bg arr.size us.length with hh|hh
 ·have:=ha arr.size us[arr.size] (by simp [hh])
  grind
 grind
theorem Jo [bK] {H:Hp} (_:bR E H w) (c:Nat) (h:Array Obj) (off:Nat):VR (E.ext H.fresh (w.heap.size,0) c) h (.ptr H.fresh off) (.pointer (some ⟨w.heap.size,off,none⟩)):=by
 simp only [VR,En.ext_θ_new]
 grind [En.gX]
theorem PE [bK] {tt:TT} (cP:eJ P tt) {H H':Hp} (r:bR E H w) {t:Nat} {p v:AV} {u x:Value} (hp:VR E w.heap p u) (hx:VR E w.heap v x) (h:Kh tt t p v H=some H') :
 ∃w',(Instr.storeAt t u x).run P w= .ok () w'/\fq E H w E H' w'/\bR E H' w':=by
 unfold Kh at h;split at h
 ·grind
 ·rename_i i hi;split at h
  ·rename_i hc;simp only [aw,decide_eq_true_eq] at hc;split at h
   ·split at h
    ·rename_i id off cs e Y;split at h
     ·rename_i mB hs;simp at h;subst h;simp only [VR] at hp;obtain⟨rfl,_⟩:=hp;have N6:=hx.cells hc.2;have hlen:x.cells.size=i.size:=by have:=N6.length; simp only [bo] at this; omega
      obtain⟨w',U,Z,h3⟩:=mD (P:=P) r Y hs N6 (N6.sV hc.2);refine⟨w',?_,Z,h3⟩;simp [Instr.storeAt,Instr.sureAddr,storeVar,eE (cP t i hi),hlen,U]
     grind
    grind
   grind
  grind
theorem Ij: ∀(vs:List Value) (off k:Nat) (arr:Array Value),off+k+vs.length<=arr.size->
 ((vs.zipIdx k).foldl (fun cs p=>cs.setIfInBounds (off+p.2) p.1) arr).size=arr.size/\
 ∀i,((vs.zipIdx k).foldl (fun cs p=>cs.setIfInBounds (off+p.2) p.1) arr)[i]?=if off+k<=i/\i<off+k+vs.length then vs[i-(off+k)]? else arr[i]?
 |[],off,k,arr,_=> ⟨rfl,fun i=>by rw [ak ae]; rfl⟩
 |v::vs,off,k,arr,h=>by
  simp only [List.zipIdx_cons,List.foldl_cons];obtain⟨U,Z⟩:=Ij vs off (k+1) (arr.setIfInBounds (off+k) v) (by simp at h ⊢; omega)
  grind
def uT (E:En) (h:Array Obj):List (Nat×AV)->List (Nat×Value)->Prop
 |[],ps=>ps= []
 |(i,v)::xs,ps=> ∃x r,ps=(i,x)::r/\VR E h v x/\uT E h xs r
theorem qE {place:Nat->Option (Nat×Nat)} {h:Array Obj}: ∀{parts:List (Nat×AV)} {cs mB:List AV} {us:Array Value} {ps:List (Nat×Value)},
 uA place cs parts=some mB->cC E h cs us.toList->uT E h parts ps->(∀u∈us.toList,u.oneCell'=true)->
 ∃hD:Array Value,Instr.fill place us ps=some hD/\cC E h mB hD.toList/\∀u∈hD.toList,u.oneCell'=true
 |[],cs,mB,us,ps,U,Z,h3,h4=>by simp only [uT] at h3;subst h3;simp [uA] at U;subst U;exact⟨us,rfl,Z,h4⟩
 |(i,v)::parts,cs,mB,us,ps,U,Z,h3,h4=>by
  simp only [uT] at h3;obtain⟨x,ps',rfl,hx,hb⟩:=h3;simp only [uA] at U;split at U
  ·simp at U
  ·rename_i off size hp;split at U
   ·rename_i hc;simp only [aw,decide_eq_true_eq] at hc;split at U
    ·rename_i cs2 hs;have N6:=hx.cells hc.2;have hlen:=N6.length;simp only [bo] at hlen;obtain⟨e1,e2,hD,e3,e4⟩:=wW hs Z N6;have hul:=Z.length;simp only [bo] at hul;have ajg:=Ij x.cells.toList off 0 us (by simp; omega)
     have heq:(x.cells.zipIdx.foldl (fun cs (c,j)=>cs.setIfInBounds (off+j) c) us).toList=hD:=by apply anz;intro k;rw [e4 k];have h5:=ajg.2 k;simp only [bx,bo] at h5;rw [amZ,<- Array.foldl_toList,Array.toList_zipIdx];rw [h5];simp only [bo,amZ]
     have h6: ∀u∈(x.cells.zipIdx.foldl (fun cs (c,j)=>cs.setIfInBounds (off+j) c) us).toList,u.oneCell'=true:=by
      rw [heq];intro u hu;rw [anQ] at hu;obtain⟨k,hk⟩:=hu;rw [e4 k] at hk;split at hk
      ·exact N6.sV hc.2 u (amW hk)
      ·exact h4 u (amW hk)
     obtain⟨us2,g1,g2,g3⟩:=qE (us:=x.cells.zipIdx.foldl (fun cs (c,j)=>cs.setIfInBounds (off+j) c) us) U (by rw [heq]; exact e3) hb h6;refine⟨us2,?_,g2,g3⟩;simp only [Instr.fill,hp];rw [ak]
     ·exact g1
     ·simp only [anA,decide_eq_true_eq,not_or];constructor
      ·omega
      ·omega
    ·simp at U
   ·simp at U
theorem yV {s:St} {a:Act} (sr:SR E w.heap s.bG a): ∀{xs:List (Nat×Operand)} {ps:List (Nat×AV)},xu s xs=some ps->uT E w.heap ps (xs.map fun p=>(p.1,a.eval p.2))
 |[],ps,h=>by simp [xu] at h; subst h; simp [uT]
 |(i,x)::xs,ps,h=>by
  simp only [xu] at h;split at h
  ·grind
  ·rename_i b hb;split at h
   ·grind
   ·rename_i bs hbs;simp at h;subst h;simp only [aK,uT];exact⟨_,_,rfl,gF sr hb,yV sr hbs⟩
theorem du {α:Type}: ∀(l:List α) (i:Nat),fy l i=l[i]?
 |[],i=>by cases i<;>rfl
 |x::xs,0=>rfl
 |x::xs,i+1=>by simp [fy,du xs i]
theorem ER {α β:Type} {f:α->Option β}: ∀{l:List α} {r:List β},l.mapM f=some r->∀i:Nat,r[i]?=(l[i]?).bind f
 |[],r,h,i=>by simp at h; subst h; simp
 |x::xs,r,h,i=>by
  simp only [anT,aoo,an6] at h;obtain⟨y,U,ys,Z,h3⟩:=h;simp only [pure,aq] at h3;subst h3
  cases i with
  |zero=>simp [U]
  |succ i=>simpa using ER Z i
theorem RR {α β:Type} {f:α->Option β}: ∀{l:List α} {r:List β},r.length=l.length->(∀i:Nat,r[i]?=(l[i]?).bind f)->l.mapM f=some r
 |[],r,h,_=>by simp at h; subst h; simp
 |x::xs,[],h,_=>by simp at h
 |x::xs,y::ys,h,Z=>by have h0:=Z 0;simp at h0;have ih:=RR (l:=xs) (r:=ys) (by simpa using h) (fun i=>by simpa using Z (i+1));simp [anT,h0.symm,ih]
theorem CL {α β:Type} {f:α->Option β}: ∀{l:List α} {r:List β},l.mapM f=some r->r.length=l.length
 |[],r,h=>by simp at h; subst h; simp
 |x::xs,r,h=>by simp only [anT,aoo,an6] at h;obtain⟨y,U,ys,Z,h3⟩:=h;simp only [pure,aq] at h3;subst h3;simp [CL Z]
theorem PW {tt:TT} (cP:eJ P tt) {t:Nat} {parts:List (Nat×AV)} {ps:Array (Nat×Value)} {v:AV} (hp:uT E w.heap parts ps.toList) (h:Kx tt t parts=some v) :
 ∃x,(Instr.build t ps).run P w= .ok x w/\VR E w.heap v x:=by
 unfold Kx at h;split at h
 ·rename_i i hi;have fB:=cP t i hi;obtain⟨inf,z,g1,g2,g3,g4,g5⟩:=xl fB;have hz:=fm (E:=E) (h:=w.heap) g5;split at h
  ·rename_i fs hk;rw [aZ] at h;obtain⟨mB,U,rfl⟩:=h;obtain⟨hD,e1,e2,e3⟩:=qE U hz.1 hp hz.2;obtain⟨xP,hu,hm⟩:=yu fB hk
   have hb:P.built t ps.toList=some hD:=by
    unfold Program.built
    have hm2:(xP.toList.mapM fun f=>(P.info? f.type).map fun i=>(f.offset,i.size))=some (fs.map fun x=>(x.1,x.2.2)):=by
     refine RR (by simp [CL hm]) fun i=>?_;have:=ER hm i;rw [bp,this]
     cases xP.toList[i]? with
     |none=>rfl
     |some f=>simp only [Option.bind_some,Option.map_map]; rfl
    simp only [g1,hu,g4,hm2];simp_all [e1,du]
   exact⟨_,run_build w t ps hD hb,by simp only [VR]; exact⟨hD.toList,ae,e2⟩⟩
  ·rename_i n e hk;split at h
   ·rename_i s hs;rw [aZ] at h;obtain⟨mB,U,rfl⟩:=h;obtain⟨hD,e1,e2,e3⟩:=qE U hz.1 hp hz.2;simp only [iW,aZ] at hs;obtain⟨ie,lG,rfl⟩:=hs;obtain⟨amF,z',f1,f2,f3,f4,f5⟩:=xl (cP e ie lG)
    have hb:P.built t ps.toList=some hD:=by unfold Program.built;simp only [g1,sC fB hk,g4,f1];simp_all
    exact⟨_,run_build w t ps hD hb,by simp only [VR]; exact⟨hD.toList,ae,e2⟩⟩
   grind
  grind
 grind
theorem CA {α:Type} (l:List α) (Y:l≠[]): ∀(n i:Nat),i<n*l.length->(dQ l n)[i]?=l[i % l.length]?
 |0,i,h=>by simp at h
 |n+1,i,h=>by
  have ml:0<l.length:=ani.2 Y;simp only [dQ];rw [aop];split
  ·rename_i Z; rw [ang Z]
  ·rename_i Z;rw [CA l Y n (i-l.length) (by rw [am7] at h; omega)];congr 1;rw [<- Nat.mod_eq_sub_mod J]
theorem jD {α:Type} (l:List α): ∀n,(dQ l n).length=n*l.length
 |0=>by simp [dQ]
 |n+1=>by simp [dQ,jD l n,am7]; omega
theorem mR {h:Array Obj} {cs:List AV} {us:List Value} (hv:cC E h cs us): ∀n,cC E h (dQ cs n) (dQ us n)
 |0=>by simp [dQ,cC]
 |n+1=>hv.append (mR hv n)
theorem mQ {α:Type} {l:List α} {x:α}: ∀{n},x∈dQ l n->x∈l
 |0,h=>by simp [dQ] at h
 |n+1,h=>by
  simp only [dQ,am2] at h;rcases h with h|h
  ·exact h
  ·exact mQ h
theorem vA (z:Array Value) (hz:z.toList≠[]) (n:Nat):((Array.range (n*z.size)).map (z[·% z.size]!)).toList=dQ z.toList n:=by
 apply anz;intro i
 grind [CA,jD]
theorem Df [bK] {tt:TT} (cP:eJ P tt) {H H':Hp} (r:bR E H w) {t len:Nat} {parts:List (Nat×AV)} {ps:Array (Nat×Value)} {v:AV} (hp:uT E w.heap parts ps.toList) (h:uG tt t len parts H=some (v,H')) :
 ∃x w' E',(Instr.buildSlice t len ps).run P w= .ok x w'/\fq E H w E' H' w'/\bR E' H' w'/\VR E' w'.heap v x:=by
 unfold uG at h;split at h
 ·rename_i i hi;have fB:=cP t i hi;split at h
  ·rename_i e hk;split at h
   ·rename_i ie lG;have YX:=cP e ie lG;obtain⟨inf,z,g1,g2,g3,g4,g5⟩:=xl YX;have hz:=fm (E:=E) (h:=w.heap) g5;split at h
    ·rename_i hb;split at h
     ·rename_i cs U;simp only [aq,au] at h;obtain⟨rfl,rfl⟩:=h
      have iR:len*ie.size<=2 ^ 24:=by have:len*ie.size<=1000*1000:=aoq hb.1 hb.2.1;omega
      have tB:z.cells.size=ie.size:=by have:=hz.1.length; simp only [bo] at this; omega
      have key: ∃hD:Array Value,Instr.fill (fun i=>some (i*inf.size,inf.size)) ((Array.range (len*inf.size)).map ((if len*inf.size=0 then #[] else z.cells)[·% (if len*inf.size=0 then #[] else z.cells).size]!)) ps.toList=some hD/\cC E w.heap cs hD.toList/\∀u∈hD.toList,u.oneCell'=true:=by
       rw [g2];by_cases h0:len*ie.size=0
       ·rw [an h0,h0]
        have afF:dQ ie.zero len= []:=by
         grind [jD]
        refine qE U ?_ hp ?_
        all_goals grind [cC]
       ·rw [ak h0]
        have gb:z.cells.toList≠[]:=by
         intro hx;have VW:z.cells.size=0:=by have:=congrArg List.length hx; simpa using this
         grind
        have hzz:=vA z.cells gb len;rw [tB] at hzz;refine qE U ?_ hp ?_
        all_goals grind [mR,mQ]
      obtain⟨hD,e1,e2,e3⟩:=key;refine⟨.slice (some ⟨w.heap.size,0,none⟩) len len,{ w with heap:=w.heap.push (.cells hD e) },E.ext H.fresh (w.heap.size,0) hD.size,?_,?_⟩
      ·by_cases h0:len*inf.size=0
       ·rw [an h0] at e1;rw [h0] at e1;have e0: ∀f:Nat->Value,(Array.range 0).map f= #[]:=by intro f; simp
        rw [e0] at e1;simp [Instr.buildSlice,run_underlying (fK fB hk),sizeOf,typeInfo,g1,h0,e0,e1,newRow]
       ·rw [ak h0] at e1;have h24: ¬(2 ^ 24<len*inf.size):=by rw [g2]; omega
        simp only [Instr.buildSlice,Sem.run_bind,run_underlying (fK fB hk),Result.andThen_ok,sizeOf,typeInfo,zeroValue,run_program,g1,g4,Sem.run_pure,newRow,gt_iff_lt,h24,h0,if_false,Sem.run_ite];rw [e1];rfl
      ·obtain⟨s1,s2⟩:=jt r hD 0 0 e e2 e3 (fun i u hu=>by rw [<- amZ]; exact hu) J (w':={ w with heap:=w.heap.push (.cells hD e) }) rfl ⟨rfl,rfl,rfl⟩;refine⟨s1,s2,?_⟩;simp only [VR]
       grind [En.gX,eY,En.ext_θ_new]
     grind
    grind
   grind
  grind
 grind
theorem HU {E:En} {h:Array Obj} {v:AV} {u:Value} {n:Int} (hv:VR E h v u) (Y:kZ v=some n): ∃k,u= .int k n:=by
 unfold kZ at Y;split at Y
 ·simp only [aq] at Y;subst Y;simp only [VR,V.den] at hv
  grind
 grind
theorem wB [bK] {tt:TT} (cP:eJ P tt) {H H':Hp} (r:bR E H w) {t:Nat} {l c:AV} {lu cu:Value} {v:AV} (Y:VR E w.heap l lu) (hc:VR E w.heap c cu) (h:rH tt t l c H=some (v,H')) :
 ∃x w' E',(Instr.makeSlice t lu cu).run P w= .ok x w'/\fq E H w E' H' w'/\bR E' H' w'/\VR E' w'.heap v x:=by
 unfold rH at h;split at h
 ·rename_i n Pk;split at h
  ·rename_i m Ss;obtain⟨k1,rfl⟩:=HU Y Pk;obtain⟨k2,rfl⟩:=HU hc Ss;split at h
   ·rename_i i hi;have fB:=cP t i hi;split at h
    ·rename_i e hk;split at h
     ·rename_i ie lG;have YX:=cP e ie lG;obtain⟨inf,z,g1,g2,g3,g4,g5⟩:=xl YX;have hz:=fm (E:=E) (h:=w.heap) g5;split at h
      ·rename_i hb;obtain⟨b1,b2,b3,b4,b5⟩:=hb;simp only [aq,au] at h;obtain⟨rfl,rfl⟩:=h;have tB:z.cells.size=ie.size:=by have:=hz.1.length; simp only [bo] at this; omega
       have wn:IntKind.i64.wrap (Int.ofNat n)=Int.ofNat n:=by rw [<- mr]; simp only [vh]; rw [an (by constructor<;>simp<;>omega)]
       have wm:IntKind.i64.wrap (Int.ofNat m)=Int.ofNat m:=by rw [<- mr]; simp only [vh]; rw [an (by constructor<;>simp<;>omega)]
       have Fi:inf.bytes*m<=1000000000:=by rw [g3]; exact aoq b4 b2
       have ai: ∀(k:IntKind) (x:Int) (w:World),(asInt (Value.int k x)).run P w= .ok x w:=fun _ _ _=>rfl
       have key: ∃hD:Array Value,((Array.range (m*inf.size)).map ((if m*inf.size=0 then #[] else z.cells)[·% (if m*inf.size=0 then #[] else z.cells).size]!))=hD/\cC E w.heap (dQ ie.zero m) hD.toList/\∀u∈hD.toList,u.oneCell'=true:=by
        rw [g2];by_cases h0:m*ie.size=0
        ·grind [dQ,jD,cC]
        ·rw [ak h0]
         have gb:z.cells.toList≠[]:=by
          intro hx;have VW:z.cells.size=0:=by have:=congrArg List.length hx; simpa using this
          grind
         grind [vA,mR,mQ]
       obtain⟨hD,e1,e2,e3⟩:=key;refine⟨.slice (some ⟨w.heap.size,0,none⟩) n m,{ w with heap:=w.heap.push (.cells hD e) },E.ext H.fresh (w.heap.size,0) hD.size,?_,?_⟩
       ·have t1: ¬(Int.ofNat m<0):=ae
        have t2: ¬((inf.bytes:Int)*Int.ofNat m > 2 ^ 48):=by
         grind
        have t3: ¬(Int.ofNat n<0):=ae
        have t4: ¬(Int.ofNat n > Int.ofNat m):=by simp; omega
        have t5:(askRoom (m*inf.bytes)).run P w= .ok () w:=by simp_all
        have t6:(Int.ofNat m).toNat=m:=rfl;have t7:(Int.ofNat n).toNat=n:=rfl;by_cases h0:m*inf.size=0
        ·rw [an h0] at e1;rw [h0] at e1;simp only [Instr.makeSlice,Sem.run_bind,run_underlying (fK fB hk),Result.andThen_ok,ai,sizeOf,typeInfo,zeroValue,run_program,g1,g4,Sem.run_pure,newRow,Sem.run_ite,wn,wm,t1,t2,t3,t4,t6,t7,h0,decide_false,an7,aG,if_false,if_true];simp_all
        ·rw [ak h0] at e1;simp only [Instr.makeSlice,Sem.run_bind,run_underlying (fK fB hk),Result.andThen_ok,ai,sizeOf,typeInfo,zeroValue,run_program,g1,g4,Sem.run_pure,newRow,Sem.run_ite,wn,wm,t1,t2,t3,t4,t6,t7,h0,decide_false,an7,aG,if_false];simp_all
       ·obtain⟨s1,s2⟩:=jt r hD 0 0 e e2 e3 (fun i u hu=>by rw [<- amZ]; exact hu) J (w':={ w with heap:=w.heap.push (.cells hD e) }) rfl ⟨rfl,rfl,rfl⟩;refine⟨s1,s2,?_⟩;simp only [VR];exact⟨En.gX _ _ _ _,⟨w.heap.size,0,none⟩,m,rfl,b1,by simp [eY,En.ext_θ_new]⟩
      grind
     grind
    grind
   grind
  grind
 grind
end
section
variable {P:Program} {E:En} {w:World}
theorem LR {i:TI} {t:Nat} (fB:nG P t i) {fs:List (Nat×Nat×Nat)} (hk:i.kind= .struct fs) {f off ft sz:Nat} (h:fy fs f=some (off,ft,sz)) :
 ∃(xP:Array Field) (fd:Field) (inf:TypeInfo),P.underlying t=some (.struct xP)/\xP[f]?=some fd/\fd.offset=off/\fd.type=ft/\P.info? ft=some inf/\inf.size=sz:=by
 obtain⟨xP,hu,hm⟩:=yu fB hk;have U:=ER hm f;rw [<- du,h,amZ] at U
 cases hf:xP[f]? with
 |none=>rw [hf] at U; simp at U
 |some fd=>
  rw [hf] at U;simp only [Option.bind_some] at U
  cases hi:P.info? fd.type with
  |none=>rw [hi] at U; simp at U
  |some inf=>
   grind
theorem Hw {x v:AV} {u:Value} {off:Nat} (hx:VR E w.heap x u) (h:RP off x=some v) :
 ∃b o,u= .pointer (some ⟨b,o,none⟩)/\VR E w.heap v (.pointer (some ⟨b,o+off,none⟩)):=by
 unfold RP at h;cases x<;>simp only [aq,reduceCtorEq,aZ] at h
 case ptr id o=>
  subst h;simp only [VR] at hx ⊢;obtain⟨rfl,hid⟩:=hx;exact⟨_,_,rfl,by rw [am0],hid⟩
 case AR id es i o=>
  subst h;simp only [VR] at hx ⊢;obtain⟨hid,k,U,rfl⟩:=hx;exact⟨_,_,rfl,hid,k,U,by rw [am0,am0]⟩
 case nX cs=>
  obtain⟨l,U,rfl⟩:=h;simp only [VR] at hx ⊢;obtain⟨b,o,us,rfl,Z,h3,h4,h5⟩:=hx;exact⟨b,o,rfl,b,o+off,us.drop off,rfl,Z,(h3.eS U).1,h4.drop off,fun u hu=>h5 u (amY hu)⟩
theorem FM {tt:TT} (cP:eJ P tt) {t f:Nat} {x v:AV} {u:Value} (hx:VR E w.heap x u) (h:wD tt t x f=some v) :
 ∃r,(Instr.fieldAt t u f).run P w= .ok r w/\VR E w.heap v r:=by
 unfold wD at h;split at h
 ·rename_i i hi;split at h
  ·rename_i fs hk;split at h
   ·rename_i off ft sz hn;obtain⟨xP,fd,inf,hu,hf,U,Z,h3,h4⟩:=LR (cP t i hi) hk hn;split at h
    ·grind
    ·rename_i iR;obtain⟨b,o,rfl,hv⟩:=Hw hx h;refine⟨_,?_,hv⟩;have gb: ¬inf.size=0:=by rw [h4]; exact iR
     simp [Instr.fieldAt,run_underlying hu,hf,Instr.sureAddr,fieldPlace,sizeOf,typeInfo,Z,h3,gb,fD,U]
   grind
  grind
 grind
theorem RH {i:TI} {t:Nat} (fB:nG P t i) {cs l:List AV} {us:List Value} {off:Nat} {v:AV} (hv:cC E w.heap cs us) (W:eS off cs=some l)
 (h:partOf i l=some v) :
 ∃r,(part t us.toArray off).run P w= .ok r w/\VR E w.heap v r:=by
 obtain⟨U,Z,h3⟩:=hv.eS W;have hlen:=hv.length;unfold partOf at h;split at h
 ·rename_i Po;rw [aZ] at h;obtain⟨l',h4,rfl⟩:=h;obtain⟨h5,h6⟩:=U.iV h4;refine⟨.agg (us.toArray.extract off (off+i.size)),?_,?_⟩
  ·simp [part,pQ fB,Po,eE fB]
  ·simp only [VR]
   grind
 ·rename_i Po;split at h
  ·rename_i x l';simp at h;subst h;rw [bW] at U;obtain⟨u,vs,he,h5,_⟩:=U;refine⟨u,?_,h5⟩
   have hg:us[off]?=some u:=by
    have:=congrArg (·[0]?) he
    grind
   simp [part,pQ fB,Po,hg]
  grind
theorem PN {tt:TT} (cP:eJ P tt) {t f:Nat} {x v:AV} {u:Value} (hx:VR E w.heap x u) (h:Kp tt t x f=some v) :
 ∃r,(Instr.field t u f).run P w= .ok r w/\VR E w.heap v r:=by
 unfold Kp at h;split at h
 ·rename_i i hi;split at h
  ·rename_i fs hk;split at h
   ·rename_i off ft sz hn;obtain⟨xP,fd,inf,hu,hf,U,Z,h3,h4⟩:=LR (cP t i hi) hk hn;split at h
    ·rename_i fi cs hfi;split at h
     ·rename_i l Y;simp only [VR] at hx;obtain⟨us,rfl,hv⟩:=hx;obtain⟨r,e1,e2⟩:=RH (w:=w) (cP ft fi hfi) hv Y h;refine⟨r,?_,e2⟩;simp [Instr.field,run_underlying hu,hf,asAgg,U,Z,e1]
     grind
    grind
   grind
  grind
 grind
theorem BO {x:AV} {u:Value} {n:Int} (hx:VR E w.heap x u) (h:kZ x=some n): ∃k,u= .int k n:=by
 cases x<;>simp [kZ] at h;rename_i k e;cases e<;>simp at h;subst h;simp only [VR,V.den] at hx
 grind
theorem qF {tt:TT} (cP:eJ P tt) {t:Nat} {x ix v:AV} {u ui:Value} (hx:VR E w.heap x u) (An:VR E w.heap ix ui) (h:oR tt t x ix=some v) :
 ∃r,(Instr.indexAt t u ui).run P w= .ok r w/\VR E w.heap v r:=by
 unfold oR at h;split at h
 ·rename_i i hi;obtain⟨k,rfl⟩:=BO An hi;split at h
  ·rename_i ti fB;have vX:=cP t ti fB;split at h
   ·rename_i n e hk;split at h
    ·rename_i gv;split at h
     ·rename_i s hs;simp only [iW,aZ] at hs;obtain⟨ie,lG,rfl⟩:=hs;obtain⟨b,o,rfl,hv⟩:=Hw hx h;refine⟨_,?_,hv⟩;have hu:=sC vX hk;simp [Instr.indexAt,asIntOf,run_underlying hu,Instr.sureAddr,eE (cP e ie lG),gv,fD]
     grind
    grind
   ·rename_i e hk;have hu:=fK vX hk;split at h
    ·rename_i s hs;simp only [iW,aZ] at hs;obtain⟨ie,lG,rfl⟩:=hs;split at h
     ·rename_i id o len c;split at h
      ·rename_i gv;simp at h;subst h;simp only [VR] at hx;obtain⟨hid,a,cap,rfl,iS,hc⟩:=hx
       have ha:a=⟨(E.θ id).1,(E.θ id).2+o,none⟩:=by
        cases c with
        |exact c=>
         simp only [eY] at hc
         grind
        |rest es=>
         simp only [eY] at hc
         grind
       subst ha;refine⟨.pointer (some ⟨(E.θ id).1,(E.θ id).2+o+i*ie.size,none⟩),?_,by simp only [VR]; exact⟨by rw [am0],hid⟩⟩;simp [Instr.indexAt,asIntOf,run_underlying hu,eE (cP e ie lG),gv,fD]
      grind
     ·rename_i cs n full;split at h
      ·rename_i gv;rw [aZ] at h;obtain⟨l,U,rfl⟩:=h;simp only [VR] at hx;obtain⟨b,o,cap,us,rfl,Z,h3,h4,h5,h6,h7⟩:=hx;refine⟨.pointer (some ⟨b,o+i*ie.size,none⟩),?_,?_⟩
       ·simp [Instr.indexAt,asIntOf,run_underlying hu,eE (cP e ie lG),gv,fD]
       ·simp only [VR];exact⟨b,_,us.drop (i*ie.size),rfl,h4,(h5.eS U).1,h6.drop _,fun u hu=>h7 u (amY hu)⟩
      grind
     grind
    grind
   grind
  grind
 grind
theorem Eh (s:List Nat) (i:Nat):(di s)[i]?=(s[i]?).map UInt8.ofNat:=by have U:(di s)[i]?=(di s).data[i]?:=rfl;rw [U];simp [di]
theorem yW {tt:TT} (cP:eJ P tt) {t:Nat} {x ix v:AV} {u ui:Value} (hx:VR E w.heap x u) (An:VR E w.heap ix ui) (h:AM tt t x ix=some v) :
 ∃r,(Instr.index t u ui).run P w= .ok r w/\VR E w.heap v r:=by
 unfold AM at h;split at h
 ·rename_i i hi;obtain⟨k,rfl⟩:=BO An hi;split at h
  ·rename_i ti fB;have vX:=cP t ti fB;split at h
   ·rename_i s hk;rw [aZ] at h;obtain⟨b,hb,rfl⟩:=h;simp only [VR] at hx;obtain⟨rfl,gv⟩:=hx;rw [du] at hb;have hg:(di s)[i]?=some (UInt8.ofNat b):=by rw [Eh,hb]; rfl
    have alM:=gv b (amW hb);refine⟨_,by simp [Instr.index,asIntOf,run_underlying (gf vX hk),hg]; rfl,?_⟩;simp only [VR,V.den]
    grind
   ·rename_i n e cs hk;split at h
    ·rename_i gv;split at h
     ·rename_i ie lG;split at h
      ·rename_i l Y;simp only [VR] at hx;obtain⟨us,rfl,hv⟩:=hx;obtain⟨r,e1,e2⟩:=RH (w:=w) (cP e ie lG) hv Y h;refine⟨r,?_,e2⟩;simp [Instr.index,asIntOf,run_underlying (sC vX hk),gv,eE (cP e ie lG),e1]
      grind
     grind
    grind
   grind
  grind
 grind
end
section
variable {P:Program} {E:En} {w:World}
def gI (E:En) (h:Array Obj):Option AV->Option Value->Prop
 |none,o=>o=none
 |some x,o=> ∃u,o=some u/\VR E h x u
theorem eG {s:St} {a:Act} (sr:SR E w.heap s.bG a) {x:Option Operand} {v:Option AV} (h:Iv s x=some v):gI E w.heap v (x.map a.eval):=by
 cases x with
 |none=>simp [Iv] at h; subst h; simp [gI]
 |some x=> simp only [Iv,aZ] at h;obtain⟨b,U,rfl⟩:=h;exact⟨_,rfl,gF sr U⟩
theorem A3 {x:AV} {u:Value} {d y k:Nat} (hx:VR E w.heap x u) (h:oA (some x) d y=some k) {y':Nat} (hy:y<=y') (code:BoundsCode) :
 (Instr.sliceBound u y' code).run P w= .ok k w/\k<=y:=by
 unfold oA at h;simp only at h;split at h
 ·rename_i i hi;obtain⟨kk,rfl⟩:=BO hx hi;split at h
  ·rename_i hle;simp at h;subst h;refine⟨?_,hle⟩;have:((i:Int)<=(y':Int)):=J
   simp [Instr.sliceBound,asIntOf];omega
  grind
 grind
theorem A4 {d y k:Nat} (h:oA none d y=some k):k=d/\d<=y:=by
 grind [oA]
theorem gu {isSlice:Bool} {len cap m0 h0:Nat} {lo hi mx:Option AV} {zi hi' mx':Option Value} (pg:gI E w.heap lo zi) (zm:gI E w.heap hi hi') (yR:gI E w.heap mx mx')
 (hmh:mx.isSome=true->hi.isSome=true) {m h l d:Nat}
 (hm:(mx=none/\m=cap/\m0<=cap)\/(∃x,mx=some x/\oA mx d m0=some m/\m0<=cap))
 (hh:oA hi len h0=some h) (hh0:(mx=none->h0<=cap)/\(mx≠none->h0=m)) (Y:oA lo 0 h=some l) :
 (Instr.sliceBounds isSlice len cap zi hi' mx').run P w= .ok (l,h,m) w/\l<=h:=by
 have key: ∀(c:BoundsCode) (v:AV) (u:Value),lo=some v->VR E w.heap v u->(Instr.sliceBound u h c).run P w= .ok l w/\l<=h:=by intro c v u hv hu;subst hv;exact A3 hu Y (az _) c
 have amD:lo=none->l=0:=fun hv=>by subst hv; exact (A4 Y).1
 unfold Instr.sliceBounds;rcases hm with ⟨rfl,rfl,hm0⟩|⟨x,rfl,hm1,hm0⟩
 ·simp only [gI] at yR;subst yR;have hb:=hh0.1 rfl
  cases hi with
  |none=>
   simp only [gI] at zm;subst zm;obtain⟨rfl,_⟩:=A4 hh
   cases lo with
   |none=> simp only [gI] at pg;simp_all
   |some v=> obtain⟨u,rfl,hu⟩:=pg;obtain⟨k1,k2⟩:=key .sliceB v u rfl hu;simp_all
  |some y=>
   obtain⟨uy,rfl,huy⟩:=zm;have U:=fun c=>(A3 (P:=P) huy hh hb c).1
   cases lo with
   |none=> simp only [gI] at pg;simp_all
   |some v=> obtain⟨u,rfl,hu⟩:=pg;obtain⟨k1,k2⟩:=key .sliceB v u rfl hu;simp_all
 ·obtain⟨ux,rfl,hux⟩:=yR;have Z:=fun c=>(A3 (P:=P) hux hm1 hm0 c).1;have hb:=hh0.2 ae;subst hb
  cases hi with
  |none=>simp at hmh
  |some y=>
   obtain⟨uy,rfl,huy⟩:=zm;have U:=fun c=>(A3 (P:=P) huy hh (az _) c).1
   cases lo with
   |none=> simp only [gI] at pg;simp_all
   |some v=> obtain⟨u,rfl,hu⟩:=pg;obtain⟨k1,k2⟩:=key .slice3C v u rfl hu;simp_all
theorem tG (s:List Nat) (l h:Nat):(di s).extract l h=di ((s.take h).drop l):=by apply ByteArray.ext;apply Array.ext';rw [Lib.extract_data];simp [di,an8,an9,List.drop_take]
theorem qK {id o len cap l h m es:Nat} {a:Addr} {c c':NZ} (hc:eY E id o len a cap c) (hlen:len<=cap) (hlh:l<=h) (hhm:h<=m) (hmc:m<=cap)
 (V0:(∃k,c= .exact k/\c'= .exact (m-l))\/(c= .rest es/\c'= .exact (m-l))\/(c= .rest es/\c'= .rest es/\m=cap)) (s:Nat) (l9:c'= .rest es->es=s) :
 eY E id (o+l*s) (h-l) (if m=l then a else a.add (l*s)) (m-l) c':=by
 rcases V0 with ⟨k,rfl,rfl⟩|⟨rfl,rfl⟩|⟨rfl,rfl,rfl⟩
 ·simp only [eY] at *;refine⟨trivial,?_⟩;by_cases VY:m=l
  ·grind
  ·left
   grind [fD]
 ·simp only [eY] at *;refine⟨trivial,?_⟩;by_cases VY:m=l
  ·grind
  ·left
   grind [fD]
 ·simp only [eY] at *;obtain rfl:=l9 trivial;by_cases VY:m=l
  ·grind
  ·left;rw [ak VY];rcases hc with ha|ha
   ·refine⟨by rw [ha.1,fD,am0],?_⟩;rw [<- ha.2,am0,<- am7]
    grind
   ·omega
theorem mc {x:Option AV} {d y k:Nat} (h:oA x d y=some k):k<=y:=by
 unfold oA at h;split at h
 ·grind
 ·split at h
  all_goals grind
theorem MV [bK] {tt:TT} (cP:eJ P tt) {H:Hp} (r:bR E H w) {t:Nat} {x v:AV} {u:Value} {lo hi mx:Option AV} {zi hi' mx':Option Value} (hx:VR E w.heap x u)
 (pg:gI E w.heap lo zi) (zm:gI E w.heap hi hi') (yR:gI E w.heap mx mx') (h:FG tt t x lo hi mx H=some v) :
 ∃r,(Instr.sliceAt t u zi hi' mx').run P w= .ok r w/\VR E w.heap v r:=by
 unfold FG at h;split at h
 ·grind
 ·split at h
  ·grind
  ·rename_i ti fB;have vX:=cP t ti fB;split at h
   ·rename_i e hk;have hu:=fK vX hk;split at h
    ·grind
    ·rename_i s hs;simp only [iW,aZ] at hs;obtain⟨ie,lG,rfl⟩:=hs;have iR:=eE (w:=w) (cP e ie lG);split at h
     ·rename_i id o len es;split at h
      ·rename_i l9;split at h
       ·rename_i cs ty Y;split at h
        ·grind
        ·rename_i b Bh;split at h
         ·grind
         ·rename_i l nZ;simp at h;subst h;obtain⟨l9,ml⟩:=l9;subst l9;simp only [VR] at hx;obtain⟨hid,a,cap,rfl,hlen,hc⟩:=hx;have Ak:=(r.live id _ Y).2.1;simp only [OR] at Ak;obtain⟨arr,lo1,hi1,us,q1,q2,q3,q4,q5,q6,q7⟩:=Ak
          have iS:(cs.length-o) / ie.size<=cap:=by
           simp only [eY] at hc;rcases hc with hc|hc
           ·have:cs.length-o<=cap*ie.size:=J
            exact Nat.div_le_of_le_mul (by rw [aon]; exact this)
           simp_all
          obtain⟨e1,e2⟩:=gu (P:=P) (w:=w) (isSlice:=true) (len:=len) (cap:=cap) (m0:=cap) (d:=0) (m:=cap) pg zm yR ae (.inl ⟨rfl,rfl,az _⟩) Bh ⟨fun _=>iS,ae⟩ nZ;have afO:=mc Bh;refine⟨.slice (some (if cap=l then a else a.add (l*ie.size))) (b-l) (cap-l),?_,?_⟩
          ·simp [Instr.sliceAt,run_underlying hu,Instr.slice,e1,iR]<;>split<;>rfl
          ·simp only [VR];exact⟨hid,_,_,rfl,J,qK (es:=ie.size) hc hlen e2 J (az _) (.inr (.inr ⟨rfl,rfl,rfl⟩)) _ (fun _=>rfl)⟩
       grind
      grind
     grind
   grind
theorem yU {tt:TT} (cP:eJ P tt) {t:Nat} {x v:AV} {u:Value} {lo hi mx:Option AV} {zi hi' mx':Option Value} (hx:VR E w.heap x u)
 (pg:gI E w.heap lo zi) (zm:gI E w.heap hi hi') (yR:gI E w.heap mx mx') (h:AG tt t x lo hi mx=some v) :
 ∃r,(Instr.sliceAt t u zi hi' mx').run P w= .ok r w/\VR E w.heap v r:=by
 unfold AG at h;split at h
 ·grind
 ·rename_i ti fB;have vX:=cP t ti fB;split at h
  ·rename_i hk;have hu:=gf vX hk;split at h
   ·rename_i s;simp only [gI] at yR;subst yR;split at h
    ·rename_i b hb;split at h
     ·rename_i l Y;simp at h;subst h;simp only [VR] at hx;obtain⟨rfl,gv⟩:=hx;obtain⟨e1,e2⟩:=gu (P:=P) (w:=w) (isSlice:=false) (len:=s.length) (cap:=s.length) (m0:=s.length) (d:=0) pg zm (mx:=none) (mx':=none) rfl ae (.inl ⟨rfl,rfl,az _⟩) hb ⟨fun _=>az _,ae⟩ Y;refine⟨.string ((di s).extract l b),?_,?_⟩
      ·rw [<- lz] at e1;simp [Instr.sliceAt,run_underlying hu,Instr.slice,e1]
      ·simp only [VR,tG]
       grind
     grind
    grind
   grind
  ·rename_i e hk;have hu:=fK vX hk;split at h
   ·grind
   ·rename_i s hs;simp only [iW,aZ] at hs;obtain⟨ie,lG,rfl⟩:=hs;have iR:=fun w'=>eE (cP e ie lG) w';split at h
    ·split at h
     ·grind
     ·rename_i hmh;split at h
      ·rename_i kh kl km Bh nZ Fi;simp at h;subst h;simp only [VR] at hx;subst hx;obtain rfl:kh=0:=by have:=mc Bh; omega
       obtain rfl:kl=0:=by have:=mc nZ; omega
       obtain rfl:km=0:=by have:=mc Fi; omega
       have hm:(mx=none/\0=0/\0<=0)\/(∃x,mx=some x/\oA mx 0 0=some 0/\0<=0):=by
        cases mx with
        |none=>exact .inl ⟨rfl,rfl,az _⟩
        |some y=>exact .inr ⟨y,rfl,Fi,az _⟩
       obtain⟨e1,e2⟩:=gu (P:=P) (w:=w) (isSlice:=true) (len:=0) (cap:=0) (m0:=0) (d:=0) (m:=0) pg zm yR (by cases mx<;>cases hi<;>simp_all) hm Bh ⟨fun _=>az _,fun _=>rfl⟩ nZ;refine⟨.slice none 0 0,?_,by simp only [VR]⟩;simp [Instr.sliceAt,run_underlying hu,Instr.slice,e1,iR]
      grind
    ·rename_i id o len c;split at h
     ·grind
     ·rename_i hmh;split at h
      ·grind
      ·rename_i m Fi;split at h
       ·grind
       ·rename_i b Bh;split at h
        ·grind
        ·rename_i l nZ;simp at h;subst h;simp only [VR] at hx;obtain⟨hid,a,cap,rfl,hlen,hc⟩:=hx;have iS:cap=c:=by simp only [eY] at hc; exact hc.1
         subst iS
         have hm:(mx=none/\m=cap/\cap<=cap)\/(∃x,mx=some x/\oA mx cap cap=some m/\cap<=cap):=by
          cases mx with
          |none=>exact .inl ⟨rfl,(A4 Fi).1,az _⟩
          |some y=>exact .inr ⟨y,rfl,Fi,az _⟩
         obtain⟨e1,e2⟩:=gu (P:=P) (w:=w) (isSlice:=true) (len:=len) (cap:=cap) (m0:=cap) (d:=cap) (m:=m) pg zm yR (by cases mx<;>cases hi<;>simp_all) hm Bh ⟨fun _=>mc Fi,fun _=>rfl⟩ nZ;refine⟨.slice (some (if m=l then a else a.add (l*ie.size))) (b-l) (m-l),?_,?_⟩
         ·simp [Instr.sliceAt,run_underlying hu,Instr.slice,e1,iR]<;>split<;>rfl
         ·simp only [VR];exact⟨hid,_,_,rfl,by have:=mc Bh; omega,qK (es:=0) hc hlen e2 (mc Bh) (mc Fi) (.inl ⟨_,rfl,rfl⟩) _ ae⟩
    ·rename_i id o len es;split at h
     ·split at h
      ·grind
      ·rename_i b Bh;split at h
       ·grind
       ·rename_i l nZ;split at h
        ·rename_i l9;simp at h;subst h;simp only [VR] at hx;obtain⟨hid,a,cap,rfl,hlen,hc⟩:=hx;obtain⟨e1,e2⟩:=gu (P:=P) (w:=w) (isSlice:=true) (len:=len) (cap:=cap) (m0:=cap) (d:=0) (m:=cap) pg zm yR ae (.inl ⟨rfl,rfl,az _⟩) Bh ⟨fun _=>hlen,ae⟩ nZ;have afO:=mc Bh;refine⟨.slice (some (if cap=l then a else a.add (l*ie.size))) (b-l) (cap-l),?_,?_⟩
         ·simp [Instr.sliceAt,run_underlying hu,Instr.slice,e1,iR]<;>split<;>rfl
         ·simp only [VR];exact⟨hid,_,_,rfl,J,qK (es:=es) hc hlen e2 J (az _) (.inr (.inr ⟨rfl,rfl,rfl⟩)) _ (fun _=>l9)⟩
        grind
     ·rename_i y;split at h
      ·grind
      ·grind
      ·rename_i b0 m Fi;split at h
       ·grind
       ·rename_i b Bh;split at h
        ·grind
        ·rename_i l nZ;simp at h;subst h;simp only [VR] at hx;obtain⟨hid,a,cap,rfl,hlen,hc⟩:=hx;obtain⟨e1,e2⟩:=gu (P:=P) (w:=w) (isSlice:=true) (len:=len) (cap:=cap) (m0:=len) (d:=0) (m:=m) pg zm yR ae (.inr ⟨y,rfl,Fi,hlen⟩) Bh ⟨ae,fun _=>rfl⟩ nZ;have rU:=mc Bh;have hm2:=mc Fi;refine⟨.slice (some (if m=l then a else a.add (l*ie.size))) (b-l) (m-l),?_,?_⟩
         ·simp [Instr.sliceAt,run_underlying hu,Instr.slice,e1,iR]<;>split<;>rfl
         ·simp only [VR];exact⟨hid,_,_,rfl,J,qK (es:=es) hc hlen e2 rU J (.inr (.inl ⟨rfl,rfl⟩)) _ ae⟩
    ·rename_i cs n full;split at h
     ·split at h
      ·grind
      ·rename_i b Bh;split at h
       ·grind
       ·rename_i l nZ;split at h
        ·grind
        ·rename_i d W;split at h
         ·grind
         ·rename_i d' Fh;simp at h;subst h;simp only [VR] at hx;obtain⟨bb,o,cap,us,rfl,hn,H9,h4,h5,h6,h7⟩:=hx;obtain⟨e1,e2⟩:=gu (P:=P) (w:=w) (isSlice:=true) (len:=n) (cap:=cap) (m0:=cap) (d:=0) (m:=cap) pg zm yR ae (.inl ⟨rfl,rfl,az _⟩) Bh ⟨fun _=>hn,ae⟩ nZ;have rU:=mc Bh;obtain⟨g1,g2,g3⟩:=h5.eS W;obtain⟨g4,g5⟩:=g1.iV Fh;refine⟨.slice (some (if cap=l then⟨bb,o,none⟩ else (⟨bb,o,none⟩ : Addr).add (l*ie.size))) (b-l) (cap-l),?_,?_⟩
          ·simp [Instr.sliceAt,run_underlying hu,Instr.slice,e1,iR]<;>split<;>rfl
          ·simp only [VR];by_cases VY:cap=l
           ·have h0:b-l=0:=J
            refine⟨bb,o,cap-l,(us.drop (l*ie.size)).take ((b-l)*ie.size),by rw [an VY],J,fun _=>by omega,h4,g4,?_,fun u hu=>h7 u (amY (am1 hu))⟩;rw [h0,am3];intro i u hu
            grind
           ·refine⟨bb,o+l*ie.size,cap-l,(us.drop (l*ie.size)).take ((b-l)*ie.size),by rw [ak VY,fD],J,?_,h4,g4,(h6.drop _).take _,fun u hu=>h7 u (amY (am1 hu))⟩;intro hf
            grind
     ·rename_i y;split at h
      ·grind
      ·grind
      ·rename_i b0 m Fi;split at h
       ·grind
       ·rename_i b Bh;split at h
        ·grind
        ·rename_i l nZ;split at h
         ·grind
         ·rename_i d W;split at h
          ·grind
          ·rename_i d' Fh;simp at h;subst h;simp only [VR] at hx;obtain⟨bb,o,cap,us,rfl,hn,H9,h4,h5,h6,h7⟩:=hx;obtain⟨e1,e2⟩:=gu (P:=P) (w:=w) (isSlice:=true) (len:=n) (cap:=cap) (m0:=n) (d:=0) (m:=m) pg zm yR ae (.inr ⟨y,rfl,Fi,hn⟩) Bh ⟨ae,fun _=>rfl⟩ nZ;have rU:=mc Bh;obtain⟨g1,g2,g3⟩:=h5.eS W;obtain⟨g4,g5⟩:=g1.iV Fh;refine⟨.slice (some (if m=l then⟨bb,o,none⟩ else (⟨bb,o,none⟩ : Addr).add (l*ie.size))) (b-l) (m-l),?_,?_⟩
           ·simp [Instr.sliceAt,run_underlying hu,Instr.slice,e1,iR]<;>split<;>rfl
           ·simp only [VR];by_cases VY:m=l
            ·have h0:b-l=0:=J
             refine⟨bb,o,m-l,(us.drop (l*ie.size)).take ((b-l)*ie.size),by rw [an VY],J,fun _=>by omega,h4,g4,?_,fun u hu=>h7 u (amY (am1 hu))⟩;rw [h0,am3];intro i u hu
             grind
            ·refine⟨bb,o+l*ie.size,m-l,(us.drop (l*ie.size)).take ((b-l)*ie.size),by rw [ak VY,fD],J,?_,h4,g4,(h6.drop _).take _,fun u hu=>h7 u (amY (am1 hu))⟩;intro hf
             grind
    grind
  ·rename_i n e hk;have hu:=sC vX hk;split at h
   ·grind
   ·rename_i s hs;simp only [iW,aZ] at hs;obtain⟨ie,lG,rfl⟩:=hs;have iR:=fun w'=>eE (cP e ie lG) w';split at h
    ·rename_i id o;split at h
     ·grind
     ·rename_i hmh;split at h
      ·grind
      ·rename_i m Fi;split at h
       ·grind
       ·rename_i b Bh;split at h
        ·grind
        ·rename_i l nZ;simp at h;subst h;simp only [VR] at hx;obtain⟨rfl,hid⟩:=hx
         have hm:(mx=none/\m=n/\n<=n)\/(∃x,mx=some x/\oA mx n n=some m/\n<=n):=by
          cases mx with
          |none=>exact .inl ⟨rfl,(A4 Fi).1,az _⟩
          |some y=>exact .inr ⟨y,rfl,Fi,az _⟩
         obtain⟨e1,e2⟩:=gu (P:=P) (w:=w) (isSlice:=false) (len:=n) (cap:=n) (m0:=n) (d:=n) (m:=m) pg zm yR (by cases mx<;>cases hi<;>simp_all) hm Bh ⟨fun _=>mc Fi,fun _=>rfl⟩ nZ;refine⟨.slice (some (if m=l then⟨(E.θ id).1,(E.θ id).2+o,none⟩ else (⟨(E.θ id).1,(E.θ id).2+o,none⟩ : Addr).add (l*ie.size))) (b-l) (m-l),?_,?_⟩
         ·simp [Instr.sliceAt,run_underlying hu,Instr.sureAddr,e1,iR]<;>split<;>rfl
         ·simp only [VR,eY];refine⟨hid,_,_,rfl,by have:=mc Bh; omega,rfl,?_⟩;by_cases VY:m=l
          ·grind
          ·left; rw [ak VY,fD,am0]
    grind
  grind
end
section
variable {P:Program} {E:En} {w:World}
theorem C5 {h:Array Obj}: ∀{cs:List AV} {us:List Value} {l:List Nat},wI cs=some l->cC E h cs us->us=(l.map UInt8.ofNat).map (fun b=>Value.int .u8 (b.toNat:Int))/\∀b∈l,b<256
 |[],us,l,U,Z=>by
  simp [wI] at U;subst U;rw [iG] at Z
  grind
 |x::cs,us,l,U,Z=>by
  rw [bW] at Z;obtain⟨u,vs,rfl,h3,h4⟩:=Z;unfold wI at U;split at U
  ·rename_i he; simp at he
  ·rename_i b xs he;simp only [List.cons.injEq] at he;obtain⟨rfl,rfl⟩:=he;split at U
   ·rename_i hb;split at U
    ·rename_i l' Y;simp at U;subst U;obtain⟨e1,e2⟩:=C5 Y h4;simp only [VR,V.den] at h3;refine⟨?_,?_⟩
     ·rw [h3,e1];simp [ano,ang hb]
     grind
    grind
   grind
  grind
theorem AO [bK] {tt:TT} (cP:eJ P tt) {H H':Hp} (r:bR E H w) {sT dT:Nat} {x v:AV} {u:Value} (hx:VR E w.heap x u) (h:pV tt sT dT x H=some (v,H')) :
 ∃y w' E',(convert sT dT u).run P w= .ok y w'/\fq E H w E' H' w'/\bR E' H' w'/\VR E' w'.heap v y:=by
 unfold pV at h;split at h
 ·grind
 ·rename_i j hj;obtain⟨sd,hsd,hsk⟩:=sZ (cP sT j hj);split at h
  ·rename_i i hi;have fB:=cP dT i hi;split at h
   ·rename_i k hk;have W:=tF fB hk;split at h
    ·rename_i kk n;simp only [aq,au] at h;obtain⟨rfl,rfl⟩:=h;simp only [VR] at hx;subst hx;refine⟨.int k (k.wrap n),w,E,?_,fq.refl _ _ _,r,by simp only [VR,V.den,mr]⟩;simp [convert,run_underlying hsd,run_underlying W,Conv.intToInt,V.den]
    ·rename_i kk e gb;simp only [aq,au] at h;obtain⟨rfl,rfl⟩:=h;simp only [VR] at hx;subst hx;refine⟨.int k (k.wrap (e.den E.ρ)),w,E,?_,fq.refl _ _ _,r,by simp only [VR,V.den]⟩;simp [convert,run_underlying hsd,run_underlying W,Conv.intToInt]
    grind
   ·rename_i hk;have W:=gf fB hk;split at h
    ·rename_i hjk;split at h
     ·rename_i s;simp only [aq,au] at h;obtain⟨rfl,rfl⟩:=h;have VW:=hx;simp only [VR] at hx;obtain⟨rfl,_⟩:=hx;refine⟨_,w,E,?_,fq.refl _ _ _,r,VW⟩;simp [convert,run_underlying (gf (cP sT j hj) hjk),run_underlying W]
     grind
    ·rename_i e hjk;have hs:=fK (cP sT j hj) hjk;split at h
     ·grind
     ·rename_i ie lG;split at h
      ·rename_i hu8;have he:=tF (cP e ie lG) hu8.1;split at h
       ·simp only [aq,au] at h;obtain⟨rfl,rfl⟩:=h;simp only [VR] at hx;subst hx;refine⟨.string .empty,w,E,?_,fq.refl _ _ _,r,?_⟩
        ·rw [run_convert_bytes_string w sT dT e none 0 0 hs he W];rfl
        ·simp only [VR];exact⟨rfl,ae⟩
       ·rename_i id o len c;split at h
        ·rename_i cs MC;rw [aZ] at h;obtain⟨l,Y,he2⟩:=h;simp only [au] at he2;obtain⟨rfl,rfl⟩:=he2;simp only [VR] at hx;obtain⟨hid,a,cap,rfl,iS,hc⟩:=hx;obtain⟨b,o',us,e1,e2,e3,e4,e5⟩:=w5 r (p:=.ptr id o) (u:=.pointer (some ⟨(E.θ id).1,(E.θ id).2+o,none⟩)) (by simp only [VR]; exact⟨trivial,hid⟩) MC;obtain⟨e6,e7⟩:=C5 Y e3
         have hlen:len=(l.map UInt8.ofNat).length:=by
          grind
         have ha:a=⟨(E.θ id).1,(E.θ id).2+o,none⟩\/len=0:=by
          cases c with
          |exact c=>
           simp only [eY] at hc
           grind
          |rest es=>
           simp only [eY] at hc
           grind
         refine⟨.string (di l),w,E,?_,fq.refl _ _ _,r,by simp only [VR]; exact⟨trivial,e7⟩⟩;rw [hlen];refine run_convert_bytes_back w sT dT e a cap (l.map UInt8.ofNat) hs he W fun k hk=>?_;rcases ha with ha|ha
         ·subst ha;rw [fD,oU];simp only [Value.pointer.injEq,aq,Addr.mk.injEq] at e1;obtain⟨e1a,e1b,_⟩:=e1;rw [e1a,e1b];refine e4 k _ ?_
          grind
         ·omega
        grind
       grind
      grind
    grind
   ·rename_i e hk;have W:=fK fB hk;split at h
    ·grind
    ·rename_i ie lG;split at h
     ·rename_i hu8;have he:=tF (cP e ie lG) hu8.1;split at h
      ·rename_i s;simp only [aq,au] at h;obtain⟨rfl,rfl⟩:=h;simp only [VR] at hx;obtain⟨rfl,gv⟩:=hx;have hs:=gf (cP sT j hj) hu8.2;have iR:(di s).size=s.length:=lz s;have U3:=grownCap_ge w (di s).size 0 e
       have gS:(bytesRow (di s) (grownCap w (di s).size 0 e)).size=grownCap w (di s).size 0 e:=by have U:(di s).data.size=s.length:=iR;simp only [bytesRow,Array.size_append,Array.size_map,Array.size_replicate,U];omega
       have hv:cC E w.heap (s.map fun c=>AV.int .u8 (.lit (Int.ofNat c))) ((s.map UInt8.ofNat).map (fun b=>Value.int .u8 (b.toNat:Int))):=by
        clear U3 gS iR
        induction s with
        |nil=>simp [cC]
        |cons b s ih=> have hb:=gv b ae;rw [aK,aK,aK,bW];refine⟨_,_,rfl,?_,ih fun c hc=>gv c (by simp [hc])⟩;simp [VR,V.den,ano,ang hb]
       obtain⟨s1,s2⟩:=jt r (bytesRow (di s) (grownCap w (di s).size 0 e)) (bytesRow (di s) (grownCap w (di s).size 0 e)).size ((bytesRow (di s) (grownCap w (di s).size 0 e)).size+1) e hv
        (by intro u hu; simp only [bd] at hu; obtain⟨b,_,rfl⟩:=hu; rfl)
        (by
         intro k u hu;have hk:=(bj.1 hu).1;simp only [bw] at hk;simp only [bytesRow];rw [aoS (by have U:(di s).data.size=s.length:=iR; simp only [Array.size_map,U]; exact hk)];rw [<- hu]
         simp [di])
        (by intro o U Z; omega)
        (w':=w.drew.alloc (.cells (bytesRow (di s) (grownCap w (di s).size 0 e)) e ((bytesRow (di s) (grownCap w (di s).size 0 e)).size,(bytesRow (di s) (grownCap w (di s).size 0 e)).size+1))) rfl ⟨rfl,rfl,rfl⟩
       refine⟨_,_,_,run_bytes_of_string w sT dT e (di s) hs W he,s1,s2,?_⟩;simp only [VR,iR];refine⟨En.gX _ _ _ _,⟨w.heap.size,0,none⟩,_,rfl,by rw [<- iR]; exact U3,?_⟩;simp only [eY,En.ext_θ_new,En.ext_κ_new]
       grind
      grind
     grind
   grind
  grind
end
section
variable {P:Program} {E:En} {w:World}
def zh (d:TypeDesc):TK->Prop
 | .int _=> ∃k,d= .int k
 | .string=>d= .string
 | .bool=>d= .bool
 |_=>False
theorem yN {tt:TT} (cP:eJ P tt) {t:Nat} {kk:TK} (h:xg tt t=some kk): ∃d,P.underlying t=some d/\zh d kk:=by
 unfold xg at h;split at h
 ·rename_i i hi;split at h<;>simp only [aq,reduceCtorEq] at h<;>subst h
  ·rename_i k hk; exact⟨_,tF (cP t i hi) hk,k,rfl⟩
  ·rename_i hk; exact⟨_,gf (cP t i hi) hk,rfl⟩
  ·rename_i hk; exact⟨_,Lr (cP t i hi) hk,rfl⟩
 grind
theorem XK {x y:List Nat} (hx: ∀b∈x,b<256) (hy: ∀b∈y,b<256):(di x == di y)=im x y:=by
 have e:(di x == di y)=((di x).data == (di y).data):=rfl;rw [e,ana,beq_iff_eq,mK];constructor
 ·intro h;have Z:=congrArg (fun b=>b.toList) h;simp only [di] at Z
  grind [map_inj]
 grind
theorem Mj {h:Array Obj} {pc:List (SB×Bool)} (hp:bY E.ρ pc) {kk:TK} {d:TypeDesc} (W:zh d kk) {a b:AV} {u u':Value} (ha:VR E h a u) (hb:VR E h b u') {c:Bool} (hc:R7 pc kk a b=some c) :
 Instr.sameNow d u u'=some c/\(c=true->∀n,Instr.sameBits (n+1) u' u=true):=by
 unfold R7 at hc;split at hc
 ·obtain⟨k,rfl⟩:=W;split at hc
  ·simp only [VR] at ha hb;subst ha hb;split at hc
   ·rename_i hk;subst hk;have hc:=gY hp hc;rw [hJ] at hc;subst hc;refine⟨by simp [Instr.sameNow],fun hh n=>?_⟩;simp at hh;simp [Instr.sameBits,hh]
   grind
  grind
 ·simp only [zh] at W;subst W;split at hc
  ·simp only [VR] at ha hb;obtain⟨rfl,ha⟩:=ha;obtain⟨rfl,hb⟩:=hb;simp at hc;subst hc;have he:=XK ha hb;refine⟨by simp only [Instr.sameNow,he],fun hh n=>?_⟩;simp only [Instr.sameBits]
   grind [mK]
  ·split at hc
   ·rename_i c0 h0;obtain⟨x,y,rfl,rfl,W⟩:=Eg ha hb h0;have hc:=gY hp hc;rw [W] at hc
    have hbe: ∀p q:ByteArray,(p == q)=decide (p=q):=by
     intro p q;rw [ana,decide_eq_true_eq];have e:(p == q)=(p.data == q.data):=rfl;rw [e,beq_iff_eq];constructor
     ·intro h; cases p; cases q; simp only at h; rw [h]
     grind
    refine⟨by simp only [Instr.sameNow,hbe,hc],fun hh n=>?_⟩;simp only [Instr.sameBits,hbe]
    grind
   grind
 ·simp only [zh] at W;subst W;split at hc
  ·simp only [VR,SB.den] at ha hb;subst ha hb;simp at hc;subst hc;refine⟨by simp [Instr.sameNow],fun hh n=>?_⟩;simp at hh;simp [Instr.sameBits,hh]
  grind
 grind
theorem e8 {t:Nat} {kk:TK} {d:TypeDesc} (hu:P.underlying t=some d) (W:zh d kk) (b:Bool) (v:Value):(Instr.checkKey b 10000 t v).run P w= .ok () w:=by
 have h0:(10000:Nat)=9999+1:=rfl;rw [h0];generalize (9999:Nat)=n;cases kk<;>simp only [zh] at W
 ·subst W; simp [Instr.checkKey,run_underlying hu]
 ·obtain⟨k,rfl⟩:=W; simp [Instr.checkKey,run_underlying hu]
 ·subst W; simp [Instr.checkKey,run_underlying hu]
theorem qD {h:Array Obj} {pc:List (SB×Bool)} (hp:bY E.ρ pc) {kk:TK} {d:TypeDesc} (W:zh d kk) {k:AV} {u:Value} (hk:VR E h k u): ∀{es:List (AV×AV×Nat)} {bS:List MapEntry} {i:Nat} {res:Option (Nat×AV)},
 e9 E h es bS->CW pc kk k es i=some res->
 (res=none/\Instr.findNow d u bS i=some none)\/
 (∃j v e,res=some (i+j,v)/\bS[j]?=some e/\VR E h v e.val/\Instr.findNow d u bS i=some (some (i+j,e.val))/\∀n,Instr.sameBits (n+1) e.key u=true)
 |[],bS,i,res,he,hf=>by simp only [e9] at he;subst he;simp [CW] at hf;exact .inl ⟨hf.symm,by simp [Instr.findNow]⟩
 |(k',v,b)::es,bS,i,res,he,hf=>by
  simp only [e9] at he;obtain⟨e,r,rfl,U,Z,h3,h4⟩:=he;simp only [CW] at hf;split at hf
  ·rename_i hc;simp at hf;subst hf;obtain⟨g1,g2⟩:=Mj hp W hk U hc;exact .inr ⟨0,v,e,rfl,rfl,Z,by simp [Instr.findNow,g1],g2 rfl⟩
  ·rename_i hc;obtain⟨g1,g2⟩:=Mj hp W hk U hc;rcases qD hp W hk h4 hf with ⟨q1,q2⟩|⟨j,v',e',q1,q2,q3,q4,q5⟩
   ·exact .inl ⟨q1,by simp [Instr.findNow,g1,q2]⟩
   ·refine .inr ⟨j+1,v',e',?_,by simpa using q2,q3,?_,q5⟩
    ·grind
    ·simp only [Instr.findNow,g1,q4]; congr 3; omega
  grind
theorem eU {t:Nat} {d:TypeDesc} (hu:P.underlying t=some d) {u:Value} {bS:List MapEntry} {r:Option (Nat×Value)} (h:Instr.findNow d u bS 0=some r):(Instr.findKey t u bS).run P w= .ok r w:=by simp [Instr.findKey,run_underlying hu,h]
theorem gW {r:Nat} {o:Obj} (h:w.heap[r]?=some o) (hn: ∀c e f,o≠.cells c e f):(getObj r).run P w= .ok o w:=by
 unfold getObj;cases o<;>first |exact absurd rfl (hn _ _ _)|simp only [Sem.run,h]
theorem iA {r:Nat} {o o':Obj} (h:w.heap[r]?=some o) (hn: ∀c e f,o≠.cells c e f):(setObj r o').run P w= .ok () { w with heap:=w.heap.setIfInBounds r o' }:=by
 unfold setObj;cases o<;>first |exact absurd rfl (hn _ _ _)|simp only [Sem.run,h]
theorem iX [bK] {H:Hp} (r:bR E H w) {id:Nat} {o:dO} (Y:H.get id=some o) (ao:dO) (o':Obj)
 (ho: ∀h',h'[(E.θ id).1]?=some o'->fY E w.heap E h'->OR E h' id ao) :
 fq E H w E (H.put id ao) { w with heap:=w.heap.setIfInBounds (E.θ id).1 o' }/\bR E (H.put id ao) { w with heap:=w.heap.setIfInBounds (E.θ id).1 o' }:=by
 have gv:=gC r Y
 have l8: ∀b,b≠(E.θ id).1->({ w with heap:=w.heap.setIfInBounds (E.θ id).1 o' }:World).heap[b]?=w.heap[b]?:=fun b hb=>by
  grind
 refine Ez r Y ao ae l8 ⟨rfl,rfl,rfl⟩ (ho _ ?_ (mU r Y l8))
 grind
theorem e9.length {h:Array Obj}: ∀{es:List (AV×AV×Nat)} {bS:List MapEntry},e9 E h es bS->bS.length=es.length
 |[],bS,he=>by simp only [e9] at he; simp [he]
 |(k,v,b)::es,bS,he=>by simp only [e9] at he;obtain⟨e,r,rfl,_,_,_,h4⟩:=he;simp [h4.length]
theorem e9.set {h:Array Obj} {k v:AV} {uk uv:Value} (hk:VR E h k uk) (hv:VR E h v uv): ∀{es:List (AV×AV×Nat)} {bS:List MapEntry} {i:Nat} {e:MapEntry},e9 E h es bS->bS[i]?=some e->
 e9 E h (sL k v es i) (bS.set i { e with key:=uk,val:=uv })
 |[],bS,i,e,he,hi=>by simp only [e9] at he; subst he; simp at hi
 |(k',v',b)::es,bS,0,e,he,hi=>by
  simp only [e9] at he;obtain⟨e0,r,rfl,U,Z,h3,h4⟩:=he;simp at hi;subst hi;simp only [sL,anG,e9]
  grind
 |(k',v',b)::es,bS,i+1,e,he,hi=>by simp only [e9] at he;obtain⟨e0,r,rfl,U,Z,h3,h4⟩:=he;simp only [sL,anH,e9];exact⟨e0,_,rfl,U,Z,h3,e9.set hk hv h4 (by simpa using hi)⟩
theorem e9.push {h:Array Obj} {k v:AV} {uk uv:Value} {c c':Nat} (hk:VR E h k uk) (hv:VR E h v uv): ∀{es:List (AV×AV×Nat)} {bS:List MapEntry},e9 E h es bS->
 e9 E h (es++ [(k,v,c)]) (bS++ [{ key:=uk,val:=uv,born:=c' }])
 |[],bS,he=>by
  simp only [e9] at he;subst he;simp only [ax,e9]
  grind
 |(k',v',b)::es,bS,he=>by simp only [e9] at he;obtain⟨e0,r,rfl,U,Z,h3,h4⟩:=he;simp only [aX,e9];exact⟨e0,_,rfl,U,Z,h3,e9.push hk hv h4⟩
theorem e9.erase {h:Array Obj}: ∀{es:List (AV×AV×Nat)} {bS:List MapEntry} {i:Nat},e9 E h es bS->e9 E h (qG es i) (bS.eraseIdx i)
 |[],bS,i,he=>by simp only [e9] at he; subst he; simp [qG,e9]
 |(k',v',b)::es,bS,0,he=>by
  simp only [e9] at he;obtain⟨e0,r,rfl,U,Z,h3,h4⟩:=he
  grind [qG]
 |(k',v',b)::es,bS,i+1,he=>by simp only [e9] at he;obtain⟨e0,r,rfl,U,Z,h3,h4⟩:=he;simp only [qG,aor,e9];exact⟨e0,_,rfl,U,Z,h3,e9.erase h4⟩
theorem Bn {t:Nat} {i:TI} (fB:nG P t i) {z:AV} (h:zeroOf i=some z): ∃u,(zeroValue t).run P w= .ok u w/\VR E w.heap z u:=by
 obtain⟨inf,d,zv,U,Z,h3,h4,h5,h6,h7,h8⟩:=fB.all;have hz:=fm (E:=E) (h:=w.heap) h4;have hr:(zeroValue t).run P w= .ok zv w:=by simp [zeroValue,typeInfo,U,h3]
 refine⟨zv,hr,?_⟩;unfold zeroOf at h;split at h
 ·rename_i ha;simp at h;subst h;rw [ha] at h8;cases zv<;>simp only [JM,reduceCtorEq] at h8;rename_i cs;simp only [VR];exact⟨cs.toList,ae,hz.1⟩
 ·rename_i ha;split at h
  ·rename_i v hv;simp at h;subst h;rw [hv] at hz;obtain⟨u,vs,e1,e2,e3⟩:=bW.1 hz.1;rw [iG] at e3;subst e3;rw [ha] at h8;have:zv=u:=by cases zv<;>simp_all [JM,Value.cells]
   grind
  grind
end
theorem Bx (ρ:Nat->Int) (x:V):(zA x).den ρ=(dec (x.den ρ)).n:=by
 unfold zA;split
 ·split
  ·simp only [V.den,fX.den,bD,D.n]
  ·simp only [V.den,fX.den]
 ·split
  ·simp only [V.den,bD,D.n]
  ·simp only [V.den,fX.den]
 ·simp only [V.den,fX.den]
theorem mi (ρ:Nat->Int) (x:V):(nV x).den ρ=enc (.i (x.den ρ)):=by unfold nV;split<;>simp only [V.den,fX.den]
theorem Ap (a b:D):(D.p a b).W 0=a:=by simp [D.W,D.l]
theorem Aq (a b:D) (j:Nat):(D.p a b).W (j+1)=b.W j:=by simp [D.W,D.l]
theorem qg (ρ:Nat->Int): ∀(j:Nat) (x:V),dec ((jq j x).den ρ)=(dec (x.den ρ)).W j
 |j,.op o a b=>by
  unfold jq
  cases o with
  |cons=>
   cases j with
   |zero=>simp only [V.den,fX.den,bD,Ap]
   |succ j=>simp only [qg ρ j b,V.den,fX.den,bD,Aq]
  |_=>simp only [V.den,fX.den,bD]
 |j,.lit n=>by simp only [jq,V.den,fX.den,bD]
 |j,.dD n=>by simp only [jq,V.den,fX.den,bD]
 |j,.add _ _=>by simp only [jq,V.den,fX.den,bD]
 |j,.sub _ _=>by simp only [jq,V.den,fX.den,bD]
 |j,.mul _ _=>by simp only [jq,V.den,fX.den,bD]
 |j,.quo _ _=>by simp only [jq,V.den,fX.den,bD]
 |j,.rem _ _=>by simp only [jq,V.den,fX.den,bD]
 |j,.wrap _ _=>by simp only [jq,V.den,fX.den,bD]
 |j,.ya _ _=>by simp only [jq,V.den,fX.den,bD]
 |j,.eD _=>by simp only [jq,V.den,fX.den,bD]
 |j,.ap _ _=>by simp only [jq,V.den,fX.den,bD]
theorem cD (ρ:Nat->Int): ∀x:V,(dS x).den ρ=((dec (x.den ρ)).l.length:Int)
 | .op o a b=>by
   unfold dS
   cases o with
   |set=>
    simp only [cD ρ a,V.den,fX.den];split
    ·simp only [bD,bE,fh]
    ·rfl
   |_=>simp only [V.den,fX.den]
 | .lit n=>by simp only [dS,V.den,fX.den]
 | .dD n=>by simp only [dS,V.den,fX.den]
 | .add _ _=>by simp only [dS,V.den,fX.den]
 | .sub _ _=>by simp only [dS,V.den,fX.den]
 | .mul _ _=>by simp only [dS,V.den,fX.den]
 | .quo _ _=>by simp only [dS,V.den,fX.den]
 | .rem _ _=>by simp only [dS,V.den,fX.den]
 | .wrap _ _=>by simp only [dS,V.den,fX.den]
 | .ya _ _=>by simp only [dS,V.den,fX.den]
 | .eD d=>by simp only [dS,V.den,bD]; rfl
 | .ap _ _=>by simp only [dS,V.den,fX.den]
theorem Rd.slice {ro:Nat->Prop} {h:Array Obj} {t:Nat} {d:D} {v:Value} (r:Rd ro h (.sl t) d v): ∃x cap,v= .slice x d.l.length cap/\d.l.length<=cap:=by
 generalize hc:CK.sl t=c at r
 cases r with
 |int k n=>simp at hc
 |bool b=>simp at hc
 |str s=>simp at hc
 |nil t=>exact⟨none,0,rfl,by simp [D.l]⟩
 |xc t a cap=>exact⟨some a,cap,rfl,by simp [D.l]⟩
 |one t c b o cap ds f hr eP hb U Z=>exact⟨_,cap,by rw [bE],by rw [bE]; exact eP⟩
 |many t cs b o cap rows f hr eP hb Y U Z=>exact⟨some ⟨b,o,none⟩,cap,ae,by simpa using eP⟩
theorem Rd.string {ro:Nat->Prop} {h:Array Obj} {d:D} {v:Value} (r:Rd ro h .str d v): ∃s,v= .string s/\d=uN s:=by
 cases r with
 |str s=>exact⟨s,rfl,rfl⟩
def jO (ro:Nat->Prop) (h:Array Obj) (c:CK) (d:D) (u:Value):Prop:=match c with
 | .int k=>u= .int k d.n
 | .bool=>u= .bool (!(d.n == 0))
 |c=>Rd ro h c d u
theorem od {E:En} {h:Array Obj} {c:CK} {x:V} {u:Value}:VR E h (sc c x) u↔jO E.ro h c (dec (x.den E.ρ)) u:=by cases c<;>simp only [sc,jO,VR,SB.den,Bx,V.den]
theorem Rd.cell {ro:Nat->Prop} {h:Array Obj} {c:CK} {d:D} {u:Value} (r:Rd ro h c d u):jO ro h c d u:=by
 cases r with
 |int k n=>simp [jO,D.n]
 |bool b=>cases b<;>simp [jO,D.n]
 |str s=>exact .str s
 |nil t=>exact .nil t
 |xc t a cap=>exact .xc t a cap
 |one t c b o cap ds f hr hc hb U Z=>exact .one t c b o cap ds f hr hc hb U Z
 |many t cs b o cap rows f hr hc hb Y U Z=>exact .many t cs b o cap rows f hr hc hb Y U Z
theorem jO.one {ro:Nat->Prop} {h:Array Obj} {c:CK} {d:D} {u:Value} (r:jO ro h c d u):u.oneCell'=true:=by
 cases c with
 |int k=>simp only [jO] at r; subst r; rfl
 |bool=>simp only [jO] at r; subst r; rfl
 |str=>exact Rd.aaI r
 |sl t=>exact Rd.aaI r
def dZ (ro:Nat->Prop) (h:Array Obj):List CK->Nat->D->List Value->Prop
 |[],_,_,us=>us= []
 |c::cs,j,d,us=> ∃u vs,us=u::vs/\jO ro h c (d.W j) u/\dZ ro h cs (j+1) d vs
def xS (ro:Nat->Prop) (h:Array Obj) (r:Row) (d:D) (us:List Value):Prop:=match r with
 | .one c=> ∃u,us= [u]/\jO ro h c d u
 | .many cs=>dZ ro h cs 0 d us
theorem sa {E:En} {h:Array Obj} {x:V}: ∀{cs:List CK} {j:Nat} {us:List Value},cC E h (jM cs j x) us↔dZ E.ro h cs j (dec (x.den E.ρ)) us
 |[],j,us=>by simp only [jM,cC,dZ]
 |c::cs,j,us=>by
  simp only [jM,bW,dZ];constructor
  ·rintro⟨u,vs,rfl,U,Z⟩;exact⟨u,vs,rfl,by rw [od,qg] at U; exact U,sa.1 Z⟩
  ·rintro⟨u,vs,rfl,U,Z⟩;exact⟨u,vs,rfl,by rw [od,qg]; exact U,sa.2 Z⟩
theorem gG {E:En} {h:Array Obj} {r:Row} {x:V} {us:List Value}:cC E h (ib r x) us↔xS E.ro h r (dec (x.den E.ρ)) us:=by
 cases r with
 |one c=>
  simp only [ib,bW,iG,xS];constructor
  ·rintro⟨u,vs,rfl,U,rfl⟩
   grind [od]
  grind [od]
 |many cs=>simp only [ib,xS,sa]
theorem tq (x:V): ∀(cs:List CK) (j:Nat),(jM cs j x).length=cs.length
 |[],_=>rfl
 |_::cs,j=>by simp [jM,tq x cs]
theorem iw (r:Row) (x:V):(ib r x).length=r.es:=by cases r<;>simp [ib,Row.es,tq]
theorem dZ.sV {ro:Nat->Prop} {h:Array Obj} {d:D}: ∀{cs:List CK} {j:Nat} {us:List Value},dZ ro h cs j d us->∀u∈us,u.oneCell'=true
 |[],_,_,hh,u,hu=>by simp only [dZ] at hh; subst hh; simp at hu
 |c::cs,j,us,hh,u,hu=>by
  simp only [dZ] at hh;obtain⟨x,vs,rfl,U,Z⟩:=hh;rcases aH.1 hu with rfl|hu
  ·exact U.one
  ·exact Z.sV u hu
theorem xS.sV {ro:Nat->Prop} {h:Array Obj} {r:Row} {d:D} {us:List Value} (hh:xS ro h r d us): ∀u∈us,u.oneCell'=true:=by
 cases r with
 |one c=> obtain⟨u,rfl,U⟩:=hh;intro x hx;simp at hx;subst hx;exact U.one
 |many cs=>exact dZ.sV hh
theorem cC.split {E:En} {h:Array Obj}: ∀{xs ys:List AV} {us:List Value},cC E h (xs++ys) us->∃a b,us=a++b/\cC E h xs a/\cC E h ys b
 |[],ys,us,hh=> ⟨[],us,rfl,by simp only [cC],hh⟩
 |x::xs,ys,us,hh=>by rw [aX,bW] at hh;obtain⟨u,vs,rfl,U,Z⟩:=hh;obtain⟨a,b,rfl,h3,h4⟩:=Z.split;exact⟨u::a,b,rfl,by rw [bW]; exact⟨u,a,rfl,U,h3⟩,h4⟩
theorem lD {ρ:Nat->Int} {i:Nat} {cs:List AV}: ∀{ov:List (V×List AV)},ed ρ i ov=some cs->∃p∈ov,p.2=cs/\p.1.den ρ=(i:Int)
 |[],h=>by simp [ed] at h
 |(j,c)::l,h=>by
  simp only [ed] at h;split at h
  ·rename_i hj;simp only [aq] at h;exact⟨(j,c),ae,h,hj⟩
  ·obtain⟨p,U,Z⟩:=lD h
   grind
theorem cE {ρ:Nat->Int} {r:Row} {ov:List (V×List AV)} (ho:tN r ov): ∀(ds:List D) (i:Nat),(bH ρ r ov ds i).length=ds.length*r.es
 |[],i=>by simp [bH]
 |d::ds,i=>by
  simp only [bH,a8,cE ho ds (i+1),aR,am7,anF];split
  ·rename_i cs h;obtain⟨p,U,Z,_⟩:=lD h;rw [<- Z,ho p U]; omega
  grind [iw]
theorem mC {ρ:Nat->Int} {r:Row} {ov:List (V×List AV)}: ∀(xs ys:List D) (i:Nat),bH ρ r ov (xs++ys) i=bH ρ r ov xs i++bH ρ r ov ys (i+xs.length)
 |[],ys,i=>by simp [bH]
 |d::ds,ys,i=>by
  simp only [aX,bH,mC ds ys (i+1),anU,aR]
  grind
section
variable {P:Program} {E:En} {w:World}
theorem zZ [bK] {H:Hp} (r:bR E H w) {id c:Nat} {es:List (AV×AV×Nat)} (Y:H.get id=some (.map es c)): ∃bS c',w.heap[(E.θ id).1]?=some (.map bS c')/\e9 E w.heap es bS.toList:=
 (r.live id _ Y).2.1
theorem MY [bK] {tt:TT} (cP:eJ P tt) {pc:List (SB×Bool)} (hp:bY E.ρ pc) {H:Hp} (r:bR E H w) {t:Nat} {m k v:AV} {um uk:Value} {ok:Bool} (hm:VR E w.heap m um) (hk:VR E w.heap k uk) (h:FL tt pc t m k ok H=some v) :
 ∃x,(Instr.lookup t um uk ok).run P w= .ok x w/\VR E w.heap v x:=by
 unfold FL at h;split at h
 ·rename_i ti fB;split at h
  ·rename_i kt et Am;have hu:=wU (cP t ti fB) Am;split at h
   ·grind
   ·rename_i kk xN;obtain⟨d,rv,jG⟩:=yN cP xN;split at h
    ·grind
    ·rename_i ie lG
     have key: ∀(es:List (AV×AV×Nat)) (bS:Array MapEntry),e9 E w.heap es bS.toList->
      (match CW pc kk k es 0 with
       |none=>none
       |some (some (_,v))=>some (if ok then .tuple [v,.bool (.lit true)] else v)
       |some none=>match zeroOf ie with
        |none=>none
        |some z=>some (if ok then .tuple [z,.bool (.lit false)] else z))=some v->
      ∃(o:Option (Nat×Value)) (x:Value),(Instr.findKey kt uk bS.toList).run P w= .ok o w/\
       (match o with
        |some (_,y)=>x=(if ok then .tuple #[y,.bool true] else y)
        |none=> ∃z,(zeroValue et).run P w= .ok z w/\x=(if ok then .tuple #[z,.bool false] else z))/\VR E w.heap v x:=by
      intro es bS he hh;split at hh
      ·simp at hh
      ·rename_i j v' hf;simp at hh;subst hh;rcases qD hp jG hk he hf with ⟨q1,_⟩|⟨jj,v2,e,q1,q2,q3,q4,q5⟩
       ·simp at q1
       ·simp only [aq,au] at q1;obtain⟨rfl,rfl⟩:=q1;refine⟨_,_,eU rv q4,rfl,?_⟩;cases ok
        ·exact q3
        ·simp only [if_true,VR,cC];exact⟨[e.val,.bool true],rfl,_,_,rfl,q3,_,_,rfl,by simp [SB.den],rfl⟩
      ·rename_i hf;split at hh
       ·simp at hh
       ·rename_i z hz;simp at hh;subst hh;obtain⟨u,e1,e2⟩:=Bn (P:=P) (w:=w) (E:=E) (cP et ie lG) hz;rcases qD hp jG hk he hf with ⟨_,q2⟩|⟨jj,v2,e,q1,_⟩
        ·refine⟨none,_,eU rv q2,⟨u,e1,rfl⟩,?_⟩;cases ok
         ·exact e2
         ·simp only [if_true,VR,cC];exact⟨[u,.bool false],rfl,_,_,rfl,e2,_,_,rfl,by simp [SB.den],rfl⟩
        ·simp at q1
     split at h
     ·grind
     ·rename_i es l9;unfold JC at l9;split at l9
      ·simp at l9;subst l9;simp only [VR] at hm;subst hm;obtain⟨o,x,e1,e2,e3⟩:=key [] #[] (by simp [e9]) h;refine⟨x,?_,e3⟩
       cases o with
       |none=> obtain⟨z,e4,rfl⟩:=e2;cases ok<;>simp [Instr.lookup,run_underlying hu,e8 rv jG,e1,e4]
       |some p=> obtain⟨j,y⟩:=p;simp only at e2;subst e2;cases ok<;>simp [Instr.lookup,run_underlying hu,e8 rv jG,e1]
      ·rename_i id;split at l9
       ·rename_i es' c Y;simp at l9;subst l9;simp only [VR] at hm;obtain⟨rfl,hid⟩:=hm;obtain⟨bS,c',g1,g2⟩:=zZ r Y;have hg:=gW (P:=P) g1 ae;obtain⟨o,x,e1,e2,e3⟩:=key es' bS g2 h;refine⟨x,?_,e3⟩
        cases o with
        |none=> obtain⟨z,e4,rfl⟩:=e2;cases ok<;>simp [Instr.lookup,run_underlying hu,hg,e8 rv jG,e1,e4]
        |some p=> obtain⟨j,y⟩:=p;simp only at e2;subst e2;cases ok<;>simp [Instr.lookup,run_underlying hu,hg,e8 rv jG,e1]
       grind
      grind
  grind
 grind
theorem yI {α:Type} (bS:Array α) (i:Nat) (e:α) (f:α->α) (h:bS.toList[i]?=some e):(bS.modify i f).toList=bS.toList.set i (f e):=by
 apply anz;intro j
 grind
theorem wA [bK] {tt:TT} (cP:eJ P tt) {pc:List (SB×Bool)} (hp:bY E.ρ pc) {H H':Hp} (r:bR E H w) {t:Nat} {m k v:AV} {um uk uv:Value} (hm:VR E w.heap m um) (hk:VR E w.heap k uk) (hv:VR E w.heap v uv) (h:rG tt pc t m k v H=some H') :
 ∃w',(Instr.mapUpdate t um uk uv).run P w= .ok () w'/\fq E H w E H' w'/\bR E H' w':=by
 unfold rG at h;split at h
 ·rename_i ti fB;split at h
  ·rename_i kt et Am;have hu:=wU (cP t ti fB) Am;split at h
   ·grind
   ·rename_i kk xN;obtain⟨d,rv,jG⟩:=yN cP xN;split at h
    ·rename_i id;split at h
     ·rename_i es c Y;simp only [VR] at hm;obtain⟨rfl,hid⟩:=hm;obtain⟨bS,c',g1,g2⟩:=zZ r Y;have hg:=gW (P:=P) g1 ae;split at h
      ·grind
      ·rename_i i v' hf;simp at h;subst h;rcases qD hp jG hk g2 hf with ⟨q1,_⟩|⟨jj,v2,e,q1,q2,q3,q4,q5⟩
       ·grind
       ·simp only [aq,au,aL] at q1;obtain⟨rfl,rfl⟩:=q1;simp only [aL] at q4
        have hkt:(Instr.keyThatStays (((bS[i]?).map (·.key)).getD uk) uk).run P w= .ok uk w:=by rw [amZ] at q2;simp only [q2,am4,ay,Instr.keyThatStays];simp_all
        refine⟨_,?_,iX r Y (.map (sL k v es i) c) (.map (bS.modify i fun e=>{ e with key:=uk,val:=uv }) c') ?_⟩
        ·simp [Instr.mapUpdate,run_underlying hu,hg,e8 rv jG,eU rv q4,hkt,iA (P:=P) g1]
        ·intro h' hh kp;simp only [OR]
         grind [yI,e9.set,VR.cx,e9.cx]
      ·rename_i hf;simp at h;subst h;rcases qD hp jG hk g2 hf with ⟨_,q2⟩|⟨jj,v2,e,q1,_⟩
       ·refine⟨_,?_,iX r Y (.map (es++ [(k,v,c)]) (c+1)) (.map (bS.push { key:=uk,val:=uv,born:=c' }) (c'+1)) ?_⟩
        ·simp [Instr.mapUpdate,run_underlying hu,hg,e8 rv jG,eU rv q2,iA (P:=P) g1]
        ·intro h' hh kp;simp only [OR]
         grind [e9.push,VR.cx,e9.cx]
       grind
     grind
    grind
  grind
 grind
theorem MZ [bK] {tt:TT} (cP:eJ P tt) {pc:List (SB×Bool)} (hp:bY E.ρ pc) {H H':Hp} (r:bR E H w) {t:Nat} {ts:Nat} {m k:AV} {um uk:Value} (hm:VR E w.heap m um) (hk:VR E w.heap k uk) (h:FO tt pc t m k H=some H') (ty:Nat) :
 ∃w',(Builtin.delete_ #[t,ts] ty #[um,uk]).run P w= .ok (.tuple #[]) w'/\fq E H w E H' w'/\bR E H' w':=by
 unfold FO at h;split at h
 ·rename_i ti fB;split at h
  ·rename_i kt et Am;have hu:=wU (cP t ti fB) Am;split at h
   ·grind
   ·rename_i kk xN;obtain⟨d,rv,jG⟩:=yN cP xN;split at h
    ·simp at h;subst h;simp only [VR] at hm;subst hm;exact⟨w,by simp [Builtin.delete_,run_underlying hu,e8 rv jG],fq.refl _ _ _,r⟩
    ·rename_i id;split at h
     ·rename_i es c Y;simp only [VR] at hm;obtain⟨rfl,hid⟩:=hm;obtain⟨bS,c',g1,g2⟩:=zZ r Y;have hg:=gW (P:=P) g1 ae;split at h
      ·grind
      ·rename_i i v' hf;simp at h;subst h;rcases qD hp jG hk g2 hf with ⟨q1,_⟩|⟨jj,v2,e,q1,q2,q3,q4,q5⟩
       ·grind
       ·simp only [aq,au,aL] at q1;obtain⟨rfl,rfl⟩:=q1;simp only [aL] at q4;refine⟨_,?_,iX r Y (.map (qG es i) c) (.map (bS.eraseIdxIfInBounds i) c') ?_⟩
        ·simp [Builtin.delete_,run_underlying hu,hg,e8 rv jG,eU rv q4,iA (P:=P) g1]
        ·intro h' hh kp;simp only [OR];refine⟨_,_,hh,?_⟩;have dK:i<bS.size:=by have:=(bj.1 q2).1; simpa using this
         have:(bS.eraseIdxIfInBounds i).toList=bS.toList.eraseIdx i:=by simp_all
         grind [e9.erase,e9.cx]
      ·rename_i hf;simp at h;subst h;rcases qD hp jG hk g2 hf with ⟨_,q2⟩|⟨jj,v2,e,q1,_⟩
       ·refine⟨_,?_,iX r Y (.map es c) (.map bS c') ?_⟩
        ·simp [Builtin.delete_,run_underlying hu,hg,e8 rv jG,eU rv q2,iA (P:=P) g1]
        ·intro h' hh kp;simp only [OR]
         grind [e9.cx]
       grind
     grind
    grind
  grind
 grind
theorem ZB [bK] {tt:TT} (cP:eJ P tt) {H:Hp} (r:bR E H w) {t ty:Nat} {x v:AV} {u:Value} (hx:VR E w.heap x u) (h:ZC tt t x H=some v) :
 ∃y,(Builtin.len_ #[t] ty #[u]).run P w= .ok y w/\VR E w.heap v y:=by
 unfold ZC at h;simp only at h;split at h
 ·rename_i ti fB;have vX:=cP t ti fB;split at h
  ·rename_i hk;split at h
   ·rename_i s;simp at h;subst h;simp only [VR] at hx;obtain⟨rfl,_⟩:=hx;exact⟨_,by simp [Builtin.len_,run_underlying (gf vX hk)]; rfl,by simp [VR,V.den,goInt,lz]⟩
   ·simp at h; subst h; simp only [VR] at hx;obtain⟨s,rfl,hs⟩:=hx.string;exact⟨_,by simp [Builtin.len_,run_underlying (gf vX hk)]; rfl,by simp only [VR,cD,hs,r_]; rfl⟩
   grind
  ·rename_i e hk;have hu:=fK vX hk;split at h
   ·simp at h; subst h; simp only [VR] at hx; subst hx;exact⟨_,by simp [Builtin.len_,run_underlying hu]; rfl,by simp [VR,V.den,goInt]⟩
   ·simp at h; subst h; simp only [VR] at hx; obtain⟨x,rfl⟩:=hx;exact⟨_,by simp [Builtin.len_,run_underlying hu]; rfl,by simp [VR,V.den,goInt]⟩
   ·simp at h; subst h; simp only [VR] at hx; obtain⟨⟨x,rfl⟩,_⟩:=hx;exact⟨_,by simp [Builtin.len_,run_underlying hu]; rfl,by simp [VR,V.den,goInt]⟩
   ·simp at h; subst h; simp only [VR] at hx; obtain⟨_,a,cap,rfl,_⟩:=hx;exact⟨_,by simp [Builtin.len_,run_underlying hu]; rfl,by simp [VR,V.den,goInt]⟩
   ·simp at h; subst h; simp only [VR] at hx; obtain⟨b,o,cap,us,rfl,_⟩:=hx;exact⟨_,by simp [Builtin.len_,run_underlying hu]; rfl,by simp [VR,V.den,goInt]⟩
   ·simp at h; subst h; simp only [VR] at hx; obtain⟨x,cap,rfl,_⟩:=hx.slice;exact⟨_,by simp [Builtin.len_,run_underlying hu]; rfl,by simp [VR,cD,goInt]⟩
   ·simp at h; subst h; simp only [VR] at hx; obtain⟨_,k,a,cap,h0,rfl,_⟩:=hx;exact⟨_,by simp [Builtin.len_,run_underlying hu]; rfl,by simp [VR,h0,goInt]⟩
   ·simp at h; subst h; simp only [VR] at hx; obtain⟨_,l,k,a,cap,_,h0,rfl,_⟩:=hx;exact⟨_,by simp [Builtin.len_,run_underlying hu]; rfl,by simp [VR,h0,goInt]⟩
   ·simp at h; subst h; simp only [VR] at hx;rcases hx with ⟨⟨x,cap,rfl⟩,h0⟩|⟨b,o,n,cap,rfl,_,h0,_⟩
    ·exact⟨_,by simp [Builtin.len_,run_underlying hu]; rfl,by simp [VR,V.den,goInt,h0]⟩
    ·exact⟨_,by simp [Builtin.len_,run_underlying hu]; rfl,by simp [VR,V.den,goInt,h0]⟩
   grind
  ·rename_i k e hk;have hu:=sC vX hk;simp at h;subst h;exact⟨_,by simp [Builtin.len_,run_underlying hu]; rfl,by simp [VR,V.den,goInt]⟩
  ·rename_i kt et hk;have hu:=wU vX hk;split at h
   ·simp at h; subst h; simp only [VR] at hx; subst hx;exact⟨_,by simp [Builtin.len_,run_underlying hu]; rfl,by simp [VR,V.den,goInt]⟩
   ·rename_i id;split at h
    ·rename_i es c Y;simp at h;subst h;simp only [VR] at hx;obtain⟨rfl,hid⟩:=hx;obtain⟨bS,c',g1,g2⟩:=zZ r Y;have hg:=gW (P:=P) g1 ae;have hlen:=g2.length;simp only [bo] at hlen;exact⟨_,by simp [Builtin.len_,run_underlying hu,hg]; rfl,by simp [VR,V.den,goInt,hlen]⟩
    ·rename_i e t' Y;simp at h;subst h;simp only [VR] at hx;obtain⟨rfl,hid⟩:=hx;obtain⟨_,ho,_⟩:=r.live _ _ Y;simp only [OR] at ho;obtain⟨bS,c',g1,g2⟩:=ho;have hg:=gW (P:=P) g1 ae;have hlen:=g2.length;simp only [bo] at hlen;exact⟨_,by simp [Builtin.len_,run_underlying hu,hg]; rfl,by simp [VR,cD,goInt,hlen]⟩
    ·rename_i e t' fw ov Y;simp at h;subst h;simp only [VR] at hx;obtain⟨rfl,hid⟩:=hx;obtain⟨_,ho,_⟩:=r.live _ _ Y;simp only [OR] at ho;obtain⟨_,bS,c',g1,g2⟩:=ho;have hg:=gW (P:=P) g1 ae;have hlen:=g2.length;simp only [bo] at hlen;exact⟨_,by simp [Builtin.len_,run_underlying hu,hg]; rfl,by simp [VR,cD,goInt,hlen]⟩
    grind
   grind
  grind
 grind
end
section
variable {P:Program} {E:En} {w:World}
structure Src (P:Program) (E:En) (w:World) (s m:Nat) (news:List AV) (u:Value) (us:Array Value):Prop where
 len: ∀w2,(Builtin.lenOf u).run P w2= .ok m w2
 first: ∀w2:World,w2.heap=w.heap->(Builtin.firstCells s m u).run P w2= .ok us w2
 VO:cC E w.heap news us.toList
 size:us.size=m*s
 sV: ∀x∈us.toList,x.oneCell'=true
theorem gr.RV {b o n:Nat} {us:List Value} (hn:us.length=n) (h:gr w.heap b o us) (w2:World) (hw:w2.heap=w.heap):(loadCells ⟨b,o,none⟩ n).run P w2= .ok us.toArray w2:=
 sQ hn (by rw [hw]; exact h)
theorem tK {id off len cap:Nat} {a:Addr} {c:NZ} (hc:eY E id off len a cap c):a=⟨(E.θ id).1,(E.θ id).2+off,none⟩\/cap=0:=by
 cases c with
 |exact c=>
  simp only [eY] at hc
  grind
 |rest es=>
  simp only [eY] at hc
  grind
theorem vK [bK] {H:Hp} (r:bR E H w) {id o len cap s:Nat} {a:Addr} {c:NZ} {l:List AV} (hid:E.dm id) (hc:eY E id o len a cap c) (hlen:len<=cap) (h:nw H (.ptr id o) (len*s)=some l) :
 ∃us:List Value,us.length=len*s/\cC E w.heap l us/\(∀u∈us,u.oneCell'=true)/\∀w2:World,w2.heap=w.heap->(loadCells a (len*s)).run P w2= .ok us.toArray w2:=by
 obtain⟨b,o',us,e1,e2,e3,e4,e5⟩:=w5 r (p:=.ptr id o) (u:=.pointer (some ⟨(E.θ id).1,(E.θ id).2+o,none⟩)) (by simp only [VR]; exact⟨trivial,hid⟩) h;simp only [Value.pointer.injEq,aq,Addr.mk.injEq] at e1;obtain⟨e1a,e1b,_⟩:=e1;refine⟨us,e2,e3,e5,fun w2 hw=>?_⟩;rcases tK hc with ha|ha
 ·rw [ha,e1a,e1b];exact e4.RV e2 w2 hw
 ·obtain rfl:len=0:=J
  rw [am3] at e2 ⊢;rw [am5 e2];rfl
theorem ri [bK] {H:Hp} (r:bR E H w) {s m:Nat} {y:AV} {u:Value} {news:List AV} (hy:VR E w.heap y u) (h:sI s y H=some (m,news)): ∃us,Src P E w s m news u us:=by
 unfold sI at h;split at h
 ·simp only [aq,au] at h;obtain⟨rfl,rfl⟩:=h;simp only [VR] at hy;subst hy;exact⟨#[],fun _=>rfl,fun w2 _=>by simp [Builtin.firstCells],by simp [cC],ae,ae⟩
 ·rename_i id o len c;rw [aZ] at h;obtain⟨l,U,Z⟩:=h;simp only [au] at Z;obtain⟨rfl,rfl⟩:=Z;simp only [VR] at hy;obtain⟨hid,a,cap,rfl,hlen,hc⟩:=hy;obtain⟨us,e1,e2,e3,e4⟩:=vK (P:=P) r hid hc hlen U;exact⟨us.toArray,fun _=>rfl,fun w2 hw=>by simp only [Builtin.firstCells]; exact e4 w2 hw,by simpa using e2,by simpa using e1,by simpa using e3⟩
 ·rename_i cs n full;rw [aZ] at h;obtain⟨l,U,Z⟩:=h;simp only [au] at Z;obtain⟨rfl,rfl⟩:=Z;simp only [VR] at hy;obtain⟨b,o,cap,us,rfl,hn,hf,h4,h5,h6,h7⟩:=hy;obtain⟨g1,g2⟩:=h5.iV U;have Y:=h5.length;have htl:(us.take (n*s)).length=n*s:=by rw [bk]; omega
  exact⟨(us.take (n*s)).toArray,fun _=>rfl,fun w2 hw=>by simp only [Builtin.firstCells]; exact (h6.take (n*s)).RV htl w2 hw,by simpa using g1,by simpa using htl,
   fun x hx=>h7 x (am1 (by simpa using hx))⟩
 ·rename_i b;split at h
  ·rename_i hs;simp only [aq,au] at h;obtain⟨rfl,rfl⟩:=h;simp only [VR] at hy;obtain⟨rfl,gv⟩:=hy;have iR:(di b).size=b.length:=lz b;have hex:(di b).extract 0 b.length=di b:=by rw [tG]; simp
   refine⟨(di b).data.map fun c=>Value.int .u8 (c.toNat:Int),fun w2=>by simp [Builtin.lenOf,iR],fun w2 _=>by simp [Builtin.firstCells,hex],?_,?_,?_⟩
   ·have:((di b).data.map fun c=>Value.int .u8 (c.toNat:Int)).toList=(b.map UInt8.ofNat).map fun c=>Value.int .u8 (c.toNat:Int):=by simp [di]
    rw [this];clear hex iR this
    induction b with
    |nil=>simp [cC]
    |cons x b ih=> have hx:=gv x ae;rw [aK,aK,aK,bW];refine⟨_,_,rfl,?_,ih fun c hc=>gv c (by simp [hc])⟩;simp [VR,V.den,ano,ang hx]
   ·simp_all
   ·intro x hx;simp only [aos,bd] at hx;obtain⟨c,_,rfl⟩:=hx;rfl
  grind
 grind
theorem lx {t t2 ty e s m n cap:Nat} {d2:TypeDesc} {inf:TypeInfo} {a:Option Addr} {u2:Value} {us:Array Value} {news:List AV} {w':World} (ht:P.underlying t=some (.slice e)) (zj:P.underlying t2=some d2)
 (jG: ∀k,d2≠.int k) (hi:P.info? e=some inf) (hs:inf.size=s) (src:Src P E w s m news u2 us) (k7:n+m<=cap)
 (DI:match a with |some a=>(storeCells (a.add (n*s)) us.toList).run P w= .ok () w'|none=>w'=w) :
 (Builtin.append_ #[t,t2] ty #[.slice a n cap,u2]).run P w= .ok (.slice a (n+m) cap) w':=by
 have hf:=src.first w rfl;have Y:=src.len w
 cases a with
 |none=> simp only at DI;subst DI;simp [Builtin.append_,run_underlying ht,run_underlying zj,sizeOf,typeInfo,hi,hs,Y,k7,hf]
 |some a=> simp only at DI;simp [Builtin.append_,run_underlying ht,run_underlying zj,sizeOf,typeInfo,hi,hs,Y,k7,hf,DI]
theorem Ny {t t2 ty e s m n cap:Nat} {d2:TypeDesc} {inf:TypeInfo} {z u u2:Value} {us olds:Array Value} {news:List AV} (ht:P.underlying t=some (.slice e)) (zj:P.underlying t2=some d2)
 (jG: ∀k,d2≠.int k) (hi:P.info? e=some inf) (hs:inf.size=s) (hz:inf.zero=some z) (hb:inf.bytes≠0) (src:Src P E w s m news u2 us) (k7:cap<n+m) (hbound:(n+m)*inf.bytes<=140737488355328)
 (a:Option Addr) (hu:u= .slice a n cap) (hold: ∀w2:World,w2.heap=w.heap->(Builtin.firstCells s n u).run P w2= .ok olds w2) :
 (Builtin.append_ #[t,t2] ty #[u,u2]).run P w= .ok (.slice (some ⟨w.heap.size,0,none⟩) (n+m) (grownCap w (n+m) cap e))
  (w.drew.alloc (.cells (olds++us++Builtin.zeroCells z.cells (grownCap w (n+m) cap e-(n+m))) e)):=by
 subst hu;have hf:=src.first w.drew rfl;have ho:=hold w.drew rfl;have Y:=src.len w;have hn: ¬(n+m<=cap):=J
 have h48: ¬(281474976710656<Builtin.nextslicecap (n+m) cap*inf.bytes):=by
  have U:Builtin.nextslicecap (n+m) cap*inf.bytes<=2*(n+m)*inf.bytes:=anp _ (nextslicecap_le k7)
  grind
 have alL: ¬(2 ^ 48<Builtin.nextslicecap (n+m) cap*inf.bytes):=h48;simp [Builtin.append_,run_underlying ht,run_underlying zj,sizeOf,typeInfo,zeroValue,hi,hs,hz,Y,hn,hb,alL,Question.forced,ho,hf,newRow,grownCap]
theorem pU [bK] {t t2 ty:Nat} {H H':Hp} (r:bR E H w) {ie:TI} {e n m cap:Nat} {cs news old:List AV} {v:AV} {d2:TypeDesc} {u2:Value} {us olds:Array Value} (vv:nG P e ie)
 (ht:P.underlying t=some (.slice e)) (zj:P.underlying t2=some d2) (jG: ∀k,d2≠.int k) (sv:ie.bytes≠0) (tB:ie.zero.length=ie.size)
 (src:Src P E w ie.size m news u2 us) (k7:cap<n+m) (a:Option Addr) (MC:cs=old++news)
 (tC:cC E w.heap old olds.toList) (ho1: ∀x∈olds.toList,x.oneCell'=true) (hos:olds.size=n*ie.size)
 (hold: ∀w2:World,w2.heap=w.heap->(Builtin.firstCells ie.size n (.slice a n cap)).run P w2= .ok olds w2) (h:n4 ie e n m cs H=some (v,H')) :
 ∃x w' E',(Builtin.append_ #[t,t2] ty #[.slice a n cap,u2]).run P w= .ok x w'/\fq E H w E' H' w'/\bR E' H' w'/\VR E' w'.heap v x:=by
 subst MC;unfold n4 at h;split at h
 ·rename_i hbound;simp only [aq,au] at h;obtain⟨rfl,rfl⟩:=h;obtain⟨inf,d,z,U,Z,h3,h4,h5,h6,h7,h8⟩:=vv.all;have hz:=fm (E:=E) (h:=w.heap) h4;have hzs:z.cells.size=ie.size:=by have:=hz.1.length; simp only [bo] at this; omega
  have U3:=grownCap_ge w (n+m) cap e;have Pe:=src.size
  obtain⟨s1,s2⟩:=jt r (olds++us++Builtin.zeroCells z.cells (grownCap w (n+m) cap e-(n+m))) 0 0 e (tC.append src.VO)
   (by intro x hx; rcases am2.1 hx with hx|hx; exact ho1 x hx; exact src.sV x hx)
   (by
    intro i x hx;have hi:=(bj.1 hx).1;rw [aoS (by simpa using hi)];rw [<- amZ,Array.toList_append]
    exact hx)
   J (w':=w.drew.alloc (.cells (olds++us++Builtin.zeroCells z.cells (grownCap w (n+m) cap e-(n+m))) e)) rfl ⟨rfl,rfl,rfl⟩
  refine⟨_,_,_,Ny (s:=ie.size) ht zj jG U h5 h3 (by rw [h6]; exact sv) src k7 (by rw [h6]; exact hbound) a rfl hold,s1,s2,?_⟩;simp only [VR];refine⟨En.gX _ _ _ _,_,_,rfl,U3,?_⟩;simp only [eY,En.ext_θ_new,En.ext_κ_new];left;refine⟨trivial,?_⟩;simp only [Array.size_append,size_zeroCells,hos,Pe,hzs,<- am7]
  grind
 grind
set_option maxHeartbeats 800000 in
theorem wL [bK] {t t2 ty:Nat} {H H':Hp} (r:bR E H w) {ie:TI} {e m:Nat} {news:List AV} {x v:AV} {d2:TypeDesc} {u u2:Value} {us:Array Value} (vv:nG P e ie)
 (ht:P.underlying t=some (.slice e)) (zj:P.underlying t2=some d2) (jG: ∀k,d2≠.int k) (vZ:ie.size≠0) (sv:ie.bytes≠0) (tB:ie.zero.length=ie.size)
 (src:Src P E w ie.size m news u2 us) (hx:VR E w.heap x u) (h:qO ie e m news x H=some (v,H')) :
 ∃y w' E',(Builtin.append_ #[t,t2] ty #[u,u2]).run P w= .ok y w'/\fq E H w E' H' w'/\bR E' H' w'/\VR E' w'.heap v y:=by
 obtain⟨inf,d,z,U,Z,h3,h4,h5,h6,h7,h8⟩:=vv.all;have ml:0<ie.size:=J
 have hnl:=src.VO.length;have JR:=src.size;simp only [bo] at hnl;unfold qO at h;split at h
 ·
  simp only [VR] at hx;subst hx;split at h
  ·rename_i hm;subst hm;simp only [aq,au] at h;obtain⟨rfl,rfl⟩:=h;exact⟨_,w,E,lx (s:=ie.size) ht zj jG U h5 src (az _) (by simp only),fq.refl _ _ _,r,by simp [VR]⟩
  ·rename_i hm;exact pU (cap:=0) r vv ht zj jG sv tB src J none (old:=[]) (olds:=#[]) ae (by simp [cC]) ae ae (fun w2 _=>by simp [Builtin.firstCells]) h
 ·
  rename_i id o len c;have hx0:=hx;simp only [VR] at hx;obtain⟨hid,a,cap,rfl,hlen,hc⟩:=hx;have iS:cap=c:=by simp only [eY] at hc; exact hc.1
  subst iS;split at h
  ·rename_i k7;split at h
   ·rename_i cs e' Y;split at h
    ·rename_i mB hs;simp only [aq,au] at h;obtain⟨rfl,rfl⟩:=h;obtain⟨w',g1,g2,g3⟩:=mD (P:=P) r Y hs src.VO src.sV
     have DI:(storeCells (a.add (len*ie.size)) us.toList).run P w= .ok () w':=by
      rcases tK hc with ha|ha
      ·rw [ha,fD,am0]; exact g1
      ·obtain rfl:m=0:=J
       have k8:us.toList= []:=am5 (by rw [bo,JR,am3]);rw [k8] at g1 ⊢;exact g1
     refine⟨_,w',E,lx (s:=ie.size) ht zj jG U h5 src k7 DI,g2,g3,?_⟩;simp only [VR];refine⟨hid,a,cap,rfl,k7,?_⟩;simp only [eY] at hc ⊢;exact hc
    ·simp at h
   ·simp at h
  ·rename_i k7;split at h
   ·rename_i old hold;obtain⟨ols,f1,f2,f3,f4⟩:=vK (P:=P) r hid hc hlen hold
    exact pU (cap:=cap) r vv ht zj jG sv tB src J (some a) (old:=old) (olds:=ols.toArray) rfl (by simpa using f2) (by simpa using f3) (by simpa using f1)
     (fun w2 hw=>by simp only [Builtin.firstCells]; exact f4 w2 hw) h
   ·simp at h
 ·
  rename_i id o len es;split at h
  ·rename_i l9;subst l9;simp only [VR] at hx;obtain⟨hid,a,cap,rfl,hlen,hc⟩:=hx;split at h
   ·rename_i cs e' Y;obtain⟨arr,lo,hi,cus,b1,b2,b3,b4,b5,b6,b7⟩:=(r.live id _ Y).2.1;split at h
    ·rename_i hle;split at h
     ·rename_i mB hs;simp only [aq,au] at h;obtain⟨rfl,rfl⟩:=h;obtain⟨w',g1,g2,g3⟩:=mD (P:=P) r Y hs src.VO src.sV
      have k7:len+m<=cap:=by
       simp only [eY] at hc;rcases hc with ⟨_,hc⟩|⟨rfl,rfl,hc⟩
       ·have:(len+m)*ie.size<=cap*ie.size:=J
        exact aot this ml
       ·have:(0+m)*ie.size=0:=J
        rcases Nat.mul_eq_zero.1 this with hh|hh<;>omega
      have DI:(storeCells (a.add (len*ie.size)) us.toList).run P w= .ok () w':=by
       rcases tK hc with ha|ha
       ·rw [ha,fD,am0]; exact g1
       ·obtain rfl:m=0:=J
        have k8:us.toList= []:=am5 (by rw [bo,JR,am3]);rw [k8] at g1 ⊢;exact g1
      refine⟨_,w',E,lx (s:=ie.size) ht zj jG U h5 src k7 DI,g2,g3,?_⟩;simp only [VR];refine⟨hid,a,cap,rfl,k7,?_⟩;simp only [eY] at hc ⊢;rcases hc with hc|⟨rfl,rfl,hc⟩
      ·exact .inl hc
      ·exact .inr ⟨rfl,J,hc⟩
     ·simp at h
    ·rename_i alh;split at h
     ·rename_i Zd;obtain⟨Zd,rfl⟩:=Zd;split at h
      ·rename_i old W;obtain⟨d1,d2',d3⟩:=b2.eS W;have DK:=b2.length
       have hm0:m≠0:=by intro hm;subst hm;rw [bx] at alh;omega
       by_cases k7:len+m<=cap
       ·
        have afL:a=⟨(E.θ id).1,(E.θ id).2+o,none⟩/\o+cap*ie.size=E.κ id:=by
         simp only [eY] at hc;rcases hc with hc|hc
         ·exact hc
         ·omega
        obtain⟨rfl,amN⟩:=afL;unfold n4 at h;split at h
        ·simp only [aq,au] at h;obtain⟨rfl,rfl⟩:=h;have VY:len*ie.size+m*ie.size<=cap*ie.size:=by rw [<- am7]; exact anp _ k7
         have hul:us.toList.length=m*ie.size:=by simpa using JR
         obtain⟨w',KY,e1,e2,e3,e4,e5,e6,e7⟩:=nv (P:=P) (E.θ id).1 ((E.θ id).2+(o+len*ie.size)) e' lo hi us.toList 0 arr w b1 b6 J src.sV
         have DI:(storeCells ((⟨(E.θ id).1,(E.θ id).2+o,none⟩ : Addr).add (len*ie.size)) us.toList).run P w= .ok () w':=by rw [fD,am0]; exact e1
         have kp:fY E w.heap (E.ext H.fresh ((E.θ id).1,(E.θ id).2+o) (cap*ie.size)) w'.heap:=
          ⟨rfl,fun _ hh=> .inr hh,fun _ hh=>En.ext_θ E _ _ _ (r.sB hh),fun _ hh=>En.ext_κ E _ _ _ (r.sB hh),fun _ hh=>hh,(mU r Y e4).Cy⟩
         have CN:=OP r Y (.cells (old++news) e') o (cap*ie.size) e3 e4 e2 (by
          simp only [OR,En.ext_θ_new,En.ext_κ_new];refine⟨KY,lo,hi,cus.drop o++us.toList,e5,cC.cx kp _ _ (d1.append src.VO),?_,?_,J,by rw [e6]; exact b6,?_⟩
          ·intro i y hy;rw [e7];have hdl:(cus.drop o).length=len*ie.size:=by rw [bu]; omega
           rw [aop] at hy;split at hy
           ·rename_i hi';rw [ak J];rw [ann] at hy;rw [am0];exact b3 _ _ hy
           ·rename_i hi';have JS:=(bj.1 hy).1;rw [an J];rw [show (E.θ id).2+o+i-((E.θ id).2+(o+len*ie.size)+0)=i-(cus.drop o).length from by omega];exact hy
          ·rw [a8,d3]; omega
          ·intro y hy;rcases am2.1 hy with hy|hy
           ·exact b7 y (amY hy)
           ·exact src.sV y hy)
         refine⟨_,w',_,lx (s:=ie.size) ht zj jG U h5 src k7 DI,CN.1,CN.2,?_⟩;simp only [VR,show (H.drop id).fresh=H.fresh from rfl];refine⟨En.gX _ _ _ _,_,_,rfl,k7,?_⟩;simp only [eY,En.ext_θ_new,En.ext_κ_new];left;exact⟨ae,J⟩
        ·simp at h
       ·
        have ai5:nw H (.ptr id o) (len*ie.size)=some old:=by
         simp only [nw,Y,W];have:len*ie.size=old.length:=J
         rw [this];clear h W d1 d3 this
         induction old with
         |nil=>rfl
         |cons y ys ih=>simp [As.iV,ih]
        obtain⟨ols,f1,f2,f3,f4⟩:=vK (P:=P) r hid hc hlen ai5;obtain⟨q1,q2⟩:=xx r id;have akt:Src P E w ie.size m news u2 us:=src
        obtain⟨y,w',E',p1,p2,p3,p4⟩:=pU (t:=t) (t2:=t2) (ty:=ty) (cap:=cap) q2 vv ht zj jG sv tB akt J (some a) (old:=old) (olds:=ols.toArray) rfl (by simpa using f2) (by simpa using f3) (by simpa using f1)
         (fun w2 hw=>by simp only [Builtin.firstCells]; exact f4 w2 hw) h
        exact⟨y,w',E',p1,q1.trans p2,p3,p4⟩
      ·simp at h
     ·simp at h
   ·simp at h
  ·simp at h
 ·
  rename_i cs n full;have hx0:=hx;simp only [VR] at hx;obtain⟨b,o,cap,cus,rfl,hn,hf,g4,g5,g6,g7⟩:=hx;split at h
  ·rename_i hm;subst hm;simp only [aq,au] at h;obtain⟨rfl,rfl⟩:=h;have k8:us.toList= []:=am5 (by rw [bo,JR,am3]);exact⟨_,w,E,lx (s:=ie.size) ht zj jG U h5 src J (by simp only [k8]; rfl),fq.refl _ _ _,r,hx0⟩
  ·rename_i hm;split at h
   ·rename_i H9;have iS:=hf H9;subst iS;split at h
    ·rename_i old hold;obtain⟨j1,j2⟩:=g5.iV hold;have DK:=g5.length;have htl:(cus.take (cap*ie.size)).length=cap*ie.size:=by rw [bk]; omega
     exact pU (cap:=cap) r vv ht zj jG sv tB src J (some ⟨b,o,none⟩) (old:=old) (olds:=(cus.take (cap*ie.size)).toArray) rfl (by simpa using j1)
      (fun x hx=>g7 x (am1 (by simpa using hx))) (by simpa using htl)
      (fun w2 hw=>by simp only [Builtin.firstCells]; exact (g6.take _).RV htl w2 hw) h
    ·simp at h
   ·simp at h
 ·simp at h
theorem M3 [bK] {tt:TT} (cP:eJ P tt) {H H':Hp} (r:bR E H w) {t t2 ty:Nat} {x y v:AV} {u u2:Value} (hx:VR E w.heap x u) (hy:VR E w.heap y u2) (h:FP tt t t2 x y H=some (v,H')) :
 ∃z w' E',(Builtin.append_ #[t,t2] ty #[u,u2]).run P w= .ok z w'/\fq E H w E' H' w'/\bR E' H' w'/\VR E' w'.heap v z:=by
 unfold FP at h;split at h
 ·rename_i ti fB;split at h
  ·rename_i e hk;split at h
   ·rename_i ie lG;split at h
    ·grind
    ·rename_i Rk Mp;obtain⟨d2,jG,Bg⟩:=sZ (cP t2 Rk Mp);split at h
     ·grind
     ·rename_i k2 gb;split at h
      ·grind
      ·rename_i jS;simp only [not_or,Classical.not_not] at jS;split at h
       ·grind
       ·rename_i m news Pe;obtain⟨us,src⟩:=ri (P:=P) r hy Pe;refine wL r (cP e ie lG) (fK (cP t ti fB) hk) jG ?_ jS.1 jS.2.1 jS.2.2 src hx h;intro k W;subst W;cases xN:Rk.kind<;>rw [xN] at Bg<;>simp only [IX] at Bg
        grind
   grind
  grind
 grind
end
section
variable {P:Program} {E:En} {w:World}
theorem PU [bK] {tt:TT} (cP:eJ P tt) {H H':Hp} (r:bR E H w) {t ty:Nat} {x:AV} {u:Value} (hx:VR E w.heap x u) (h:Ku tt t x H=some H') :
 ∃w',(Builtin.clear_ #[t] ty #[u]).run P w= .ok (.tuple #[]) w'/\fq E H w E H' w'/\bR E H' w':=by
 unfold Ku at h;split at h
 ·rename_i ti fB;split at h
  ·rename_i e hk;have hu:=fK (cP t ti fB) hk;split at h
   ·rename_i ie lG;obtain⟨inf,d,z,U,Z,h3,h4,h5,h6,h7,h8⟩:=(cP e ie lG).all;have hz:=fm (E:=E) (h:=w.heap) h4;split at h
    ·simp at h;subst h;simp only [VR] at hx;subst hx;exact⟨w,by simp [Builtin.clear_,run_underlying hu],fq.refl _ _ _,r⟩
    ·simp at h;subst h;simp only [VR] at hx;obtain⟨⟨x,rfl⟩,_⟩:=hx;exact⟨w,by cases x<;>simp [Builtin.clear_,run_underlying hu],fq.refl _ _ _,r⟩
    ·rename_i id o len c;simp only [VR] at hx;obtain⟨hid,a,cap,rfl,hlen,hc⟩:=hx;split at h
     ·simp at h;subst h;exact⟨w,by simp [Builtin.clear_,run_underlying hu],fq.refl _ _ _,r⟩
     ·rename_i hl0;split at h
      ·grind
      ·rename_i gb;split at h
       ·rename_i cs e' Y;split at h
        ·rename_i mB hs;simp at h;subst h
         have ha:a=⟨(E.θ id).1,(E.θ id).2+o,none⟩:=by
          grind [tK]
         have afA:z.cells.toList≠[]:=by
          intro hx;have:=hz.1.length
          grind
         have hzc:(Builtin.zeroCells z.cells len).toList=dQ z.cells.toList len:=vA z.cells afA len;obtain⟨w',g1,g2,g3⟩:=mD (P:=P) r Y hs (mR hz.1 len) (fun u hu=>hz.2 u (mQ hu));refine⟨w',?_,g2,g3⟩;subst ha;obtain⟨l,rfl⟩ : ∃l,len=l+1:=⟨len-1,by have:len≠0:=fun hh=>hl0 hh; omega⟩;simp [Builtin.clear_,run_underlying hu,zeroValue,typeInfo,U,h3,hzc,g1]
        grind
       grind
    grind
   grind
  grind
 grind
theorem PF [bK] {tt:TT} (cP:eJ P tt) {H H':Hp} (r:bR E H w) {t:Nat} {x v:AV} {u:Value} (hx:VR E w.heap x u) (h:Ki tt t x H=some (v,H')) :
 ∃y w' E',(Instr.range t u).run P w= .ok y w'/\fq E H w E' H' w'/\bR E' H' w'/\VR E' w'.heap v y:=by
 unfold Ki at h;split at h
 ·rename_i ti fB;split at h
  ·rename_i hk;split at h
   ·rename_i b;simp only [aq,au] at h;obtain⟨rfl,rfl⟩:=h;simp only [VR] at hx;obtain⟨rfl,gv⟩:=hx
    obtain⟨s1,s2⟩:=vS r (.stringIter (di b) 0) (.kS b 0) 0 (w':=w.iter (di b) 0) rfl ⟨rfl,rfl,rfl⟩ (by
     simp only [OR,En.ext_θ_new]
     exact⟨World.iter_heap _ _ _,trivial,gv⟩)
    exact⟨_,_,_,run_range_string w t (di b) (gf (cP t ti fB) hk),s1,s2,Jo r 0 _ 0⟩
   grind
  grind
 grind
theorem Vg [bK] {H H':Hp} (r:bR E H w) {x v:AV} {u:Value} {isS:Bool} (hx:VR E w.heap x u) (h:PH x isS H=some (v,H')) (ty:Nat) :
 ∃y w',(Instr.next u isS ty).run P w= .ok y w'/\fq E H w E H' w'/\bR E H' w'/\VR E w'.heap v y:=by
 unfold PH at h;split at h
 ·grind
 ·split at h
  ·rename_i id;split at h
   ·rename_i b p Y;obtain⟨g1,g2,g3⟩:=(r.live id _ Y).2.1;simp only [VR] at hx;obtain⟨rfl,hid⟩:=hx;rw [g2];have hg:=gW (P:=P) g1 ae;split at h
    ·rename_i hn;simp only [aq,au] at h;obtain⟨rfl,rfl⟩:=h;rw [du,anV] at hn;have hp: ¬p<(di b).size:=by rw [lz]; omega
     refine⟨.tuple #[.bool false],w,?_,fq.refl _ _ _,r,?_⟩
     ·simp [Instr.next,hg,hp]
     ·simp only [VR,cC]; exact⟨[.bool false],rfl,_,_,rfl,by simp [SB.den],rfl⟩
    ·rename_i c hn;split at h
     ·rename_i hc;simp only [aq,au] at h;obtain⟨rfl,rfl⟩:=h;rw [du] at hn;have hpl:=(bj.1 hn).1;have hp:p<(di b).size:=by rw [lz]; exact hpl
      have hb:(di b)[p]'hp=UInt8.ofNat c:=by
       have U:(di b)[p]?=some ((di b)[p]'hp):=getElem?_pos (di b) p hp
       grind [Eh]
      have hbn:((di b)[p]'hp).toNat=c:=by rw [hb]; simp; omega
      have alE:=decode_ascii (di b) p hp (by rw [hbn]; exact hc)
      obtain⟨s1,s2⟩:=iX r Y (.kS b (p+1)) (.stringIter (di b) (p+1)) (by
       intro h' hh _
       exact⟨hh,g2,g3⟩)
      refine⟨.tuple #[.bool true,goInt p,.int .i32 ((di b)[p]'hp).toNat],_,?_,s1,s2,?_⟩
      ·simp only [Instr.next,Sem.run_bind,hg,Result.andThen_ok,hp,if_true,alE,iA (P:=P) g1 ae,Sem.run_pure]
      ·simp only [VR,cC,hbn];exact⟨_,rfl,_,_,rfl,by simp [SB.den],_,_,rfl,by simp [V.den,goInt],_,_,rfl,by simp [V.den],rfl⟩
     grind
   grind
  grind
theorem Js {ρ:Nat->Int} {pc:List (SB×Bool)} (hp:bY ρ pc) {c:SB} {b:Bool} (h:c.den ρ=b):bY ρ ((c,b)::pc):=by
 intro d x hm;rcases aH.1 hm with hm|hm
 ·grind
 ·exact hp d x hm
theorem cI {α:Type} {ρ:Nat->Int} {s:St} (hp:bY ρ s.pc) {c:SB} {f:St->Bool->T α} {r:α} (h:(kB s c f).leaf ρ=some r) :
 ∃ef,bY ρ ef/\(f { s with pc:=ef } (c.den ρ)).leaf ρ=some r:=by
 unfold kB at h;split at h
 ·rename_i b hb;exact⟨s.pc,hp,by rw [gY hp hb]; exact h⟩
 ·split at h
  ·rename_i d;simp only [T.leaf] at h;split at h
   ·rename_i hc;exact⟨_,Js hp hc,by simp only [SB.den,hc]; exact h⟩
   ·rename_i hc;exact⟨_,Js hp hc,by simp only [SB.den,hc]; exact h⟩
  ·simp only [T.leaf] at h
   grind [Js]
theorem T.fL {α β:Type} {ρ:Nat->Int} {f:α->T β} {r:β}: ∀{x:T α},(x.bind f).leaf ρ=some r->∃a,x.leaf ρ=some a/\(f a).leaf ρ=some r
 | .fail,h=>by simp [T.bind,T.leaf] at h
 | .ret a,h=> ⟨a,rfl,h⟩
 | .split c x y,h=>by simp only [T.bind,T.leaf] at h ⊢;split at h<;>exact T.fL h
theorem n6 {mx:Bool}: ∀{xs:List AV} {a:V} {k:IntKind} {s s':St} {us:List Value} {v:AV},bY E.ρ s.pc->cC E w.heap xs us->(uw mx xs a k s).leaf E.ρ=some (v,s')->
 s'.h=s.h/\s'.bG=s.bG/\bY E.ρ s'.pc/\∃u,(us.foldlM (if mx then Builtin.max2 else Builtin.min2) (.int k (a.den E.ρ))).run P w= .ok u w/\VR E w.heap v u
 |[],a,k,s,s',us,v,hp,hv,h=>by simp only [uw,T.leaf,aq,au] at h;obtain⟨rfl,rfl⟩:=h;rw [iG] at hv;subst hv;exact⟨rfl,rfl,hp,_,rfl,by simp only [VR]⟩
 |x::xs,a,k,s,s',us,v,hp,hv,h=>by
  rw [bW] at hv;obtain⟨u,vs,rfl,hx,nM⟩:=hv;cases x<;>simp only [uw,T.leaf,reduceCtorEq] at h;rename_i k' b;simp only [VR] at hx;subst hx;obtain⟨ef,fU,U⟩:=cI hp h;cases mx
  ·simp only [aG,if_false,dX] at U ⊢;by_cases hc:b.den E.ρ<a.den E.ρ
   ·simp only [hc,decide_true,if_true] at U;obtain⟨q1,q2,q3,u,q4,q5⟩:=n6 fU nM U;refine⟨q1,q2,q3,u,?_,q5⟩;simp only [aoa,Sem.run_bind,Builtin.min2,Sem.run_pure,Result.andThen_ok,hc,if_true]
    grind
   ·simp only [hc,decide_false,aG,if_false] at U;obtain⟨q1,q2,q3,u,q4,q5⟩:=n6 fU nM U;refine⟨q1,q2,q3,u,?_,q5⟩;simp only [aoa,Sem.run_bind,Builtin.min2,Sem.run_pure,Result.andThen_ok,hc,if_false]
    grind
  ·simp only [if_true,dX] at U ⊢;by_cases hc:a.den E.ρ<b.den E.ρ
   ·simp only [hc,decide_true,if_true] at U;obtain⟨q1,q2,q3,u,q4,q5⟩:=n6 fU nM U;refine⟨q1,q2,q3,u,?_,q5⟩;simp only [aoa,Sem.run_bind,Builtin.max2,Sem.run_pure,Result.andThen_ok,gt_iff_lt,hc,if_true]
    grind
   ·simp only [hc,decide_false,aG,if_false] at U;obtain⟨q1,q2,q3,u,q4,q5⟩:=n6 fU nM U;refine⟨q1,q2,q3,u,?_,q5⟩;simp only [aoa,Sem.run_bind,Builtin.max2,Sem.run_pure,Result.andThen_ok,gt_iff_lt,hc,if_false]
    grind
end
section
variable {P:Program} {E:En} {w:World}
theorem Un (ρ:Nat->Int) (a b:SB):(XY a b).den ρ=(a.den ρ&&b.den ρ):=by unfold XY;split<;>simp [SB.den]
theorem Vn {i:TI} {t:Nat} (fB:nG P t i) {x y:AV} {u v:Value} (hx:VR E w.heap x u) (hy:VR E w.heap y v) {c:SB} (h:PY i.kind x y=some c) (d:Nat) :
 (Op.equalIn (d+1) t u v).run P w= .ok (c.den E.ρ) w/\u.oneCell'=true/\v.oneCell'=true/\i.agg=false:=by
 unfold PY at h;split at h
 ·rename_i k hk;split at h
  ·split at h
   ·rename_i xN;subst xN;simp at h;subst h;simp only [VR] at hx hy;subst hx hy;exact⟨by rw [run_equalIn_int w d t _ _ _ _ (tF fB hk),hJ],rfl,rfl,by simp [TI.agg,TK.agg,hk]⟩
   grind
  grind
 ·rename_i hk;split at h
  ·simp at h;subst h;simp only [VR] at hx hy;obtain⟨rfl,hx⟩:=hx;obtain⟨rfl,hy⟩:=hy;exact⟨by rw [run_equalIn_string w d t _ _ (gf fB hk),Ru hx hy]; rfl,rfl,rfl,by simp [TI.agg,TK.agg,hk]⟩
  ·obtain⟨a,b,rfl,rfl,W⟩:=Eg hx hy h;exact⟨by rw [run_equalIn_string w d t _ _ (gf fB hk),yw,W],rfl,rfl,by simp [TI.agg,TK.agg,hk]⟩
 ·rename_i hk;split at h
  ·simp only [VR] at hx hy;subst hx hy;exact⟨by rw [run_equalIn_bool' w d t _ _ (Lr fB hk),C0 h],rfl,rfl,by simp [TI.agg,TK.agg,hk]⟩
  grind
 grind
theorem SV {tt:TT} (cP:eJ P tt) {xs ys:List AV} {us vs:List Value} (hx:cC E w.heap xs us) (hy:cC E w.heap ys vs) (d:Nat): ∀{xP:List Field} {l:List (Nat×Nat×Nat)} {c:SB},
 (xP.mapM fun f=>(P.info? f.type).map fun i=>(f.offset,f.type,i.size))=some l->(∀f∈xP,f.name≠ "_")->ZG tt xs ys l=some c->
 (Op.eqFields (d+1) us.toArray vs.toArray xP).run P w= .ok (c.den E.ρ) w
 |[],l,c,hm,_,h=>by simp at hm;subst hm;simp [ZG] at h;subst h;simp [Op.eqFields,SB.den]
 |f::xP,l,c,hm,hn,h=>by
  simp only [anT,aoo,an6] at hm;obtain⟨p,U,ls,Z,h3⟩:=hm;simp only [pure,aq] at h3;subst h3;rw [aZ] at U;obtain⟨inf,amP,rfl⟩:=U;simp only [ZG] at h;split at h
  ·grind
  ·rename_i i hi;split at h
   ·rename_i x y hxn hyn;split at h
    ·grind
    ·rename_i c1 Ia;split at h
     ·grind
     ·rename_i c2 Ld;simp at h;subst h;obtain⟨u,hu1,hu2⟩:=hx.nth hxn;obtain⟨v,hv1,hv2⟩:=hy.nth hyn;obtain⟨e1,e2,e3,e4⟩:=Vn (w:=w) (cP f.type i hi) hu2 hv2 Ia d;have ih:=SV cP hx hy d Z (fun g hg=>hn g (by simp [hg])) Ld;have p1:(part f.type us.toArray f.offset).run P w= .ok u w:=by simp [part,pQ (cP f.type i hi),e4,hu1]
      have p2:(part f.type vs.toArray f.offset).run P w= .ok v w:=by simp [part,pQ (cP f.type i hi),e4,hv1]
      simp only [Op.eqFields];rw [an (hn f ae)];simp only [Sem.run_bind,p1,p2,e1,Result.andThen_ok,Un];cases Su:c1.den E.ρ
      ·simp
      grind
   grind
theorem FN {tt:TT} (cP:eJ P tt) {t:Nat} {xs ys:List AV} {us vs:List Value} {c:SB} (hx:cC E w.heap xs us) (hy:cC E w.heap ys vs) (h:DR tt t xs ys=some c) (op:BinOp) (x y:Operand) :
 (eqGuard op t x y (.agg us.toArray) (.agg vs.toArray)).run P w= .ok () w/\(binOp .eql t (.agg us.toArray) (.agg vs.toArray)).run P w= .ok (.bool (c.den E.ρ)) w/\(binOp .neq t (.agg us.toArray) (.agg vs.toArray)).run P w= .ok (.bool (!(c.den E.ρ))) w:=by
 unfold DR at h;split at h
 ·grind
 ·rename_i i hi;split at h
  ·rename_i fs hk;split at h
   ·rename_i hq;have fB:=cP t i hi;have he:=fB.eqs hq;obtain⟨xP,hu,hm⟩:=yu fB hk;unfold ZF at he;rw [hu] at he;simp only [aw,anj,bh,bne_iff_ne,ne_eq] at he;obtain⟨⟨U,Z⟩,h3⟩:=he;have hf:P.fieldsOf t=xP:=by simp [Program.fieldsOf,hu]
    have h10:(10000:Nat)=9998+1+1:=rfl
    have key:(Op.equalIn 10000 t (.agg us.toArray) (.agg vs.toArray)).run P w= .ok (c.den E.ρ) w:=by rw [h10];generalize (9998:Nat)=n;rw [run_equalIn_struct w (n+1) t _ _ (by rw [hf]; exact hu) U,hf];exact SV cP hx hy n hm (fun f hf=>(h3 f hf).1) h
    refine⟨run_eqGuard_agg w op t x y _ _ Z,?_,?_⟩
    ·rw [run_eql_struct,key]; rfl
    ·rw [run_neq_struct,key]; rfl
   grind
  grind
def NY [bK] (E:En) (s:St) (w:World) (v:AV) (s':St) (u:Value) (w':World):Prop:= ∃E',fq E s.h w E' s'.h w'/\bR E' s'.h w'/\VR E' w'.heap v u
def lN [bK] (P:Program) (E:En) (s:St) (o:Oper) (a:Act) (w:World) (v:AV) (s':St):Prop:=
 s'.bG=s.bG/\bY E.ρ s'.pc/\p9 P o a w (NY E s w v s')
theorem bF {α:Type} {ρ:Nat->Int} {a b:α} (h:(T.ret a).leaf ρ=some b):a=b:=by simpa [T.leaf] using h
theorem ij {s:St} {a:Act} {x:Operand} {f:AV->T (AV×St)} {r:AV×St} (sr:SR E w.heap s.bG a) (h:(Bd s x f).leaf E.ρ=some r): ∃v,VR E w.heap v (a.eval x)/\(f v).leaf E.ρ=some r:=by
 unfold Bd at h;split at h
 ·rename_i v hv; exact⟨v,gF sr hv,h⟩
 ·simp [T.leaf] at h
theorem iE {s s':St} {v:AV} {r:Option AV} {ρ:Nat->Int} (h:(qY s r).leaf ρ=some (v,s')):r=some v/\s'=s:=by
 unfold qY at h;split at h
 ·have:=bF h; simp only [au] at this; exact⟨by rw [this.1],this.2.symm⟩
 ·simp [T.leaf] at h
theorem zJ {s s':St} {v:AV} {r:Option Hp} {ρ:Nat->Int} (h:(ON s r).leaf ρ=some (v,s')): ∃H,r=some H/\v=AV.undef/\s'= { s with h:=H }:=by
 unfold ON at h;split at h
 ·rename_i H; have:=bF h; simp only [au] at this; exact⟨H,rfl,this.1.symm,this.2.symm⟩
 ·simp [T.leaf] at h
theorem qi {s s':St} {v:AV} {r:Option (AV×Hp)} {ρ:Nat->Int} (h:(Cz s r).leaf ρ=some (v,s')): ∃H,r=some (v,H)/\s'= { s with h:=H }:=by
 unfold Cz at h;split at h
 ·rename_i x H; have:=bF h; simp only [au] at this; obtain⟨rfl,rfl⟩:=this; exact⟨H,rfl,rfl⟩
 ·simp [T.leaf] at h
theorem mf {h:Array Obj}:VR E h AV.undef undef:=by simp only [AV.undef,VR,cC]; exact⟨[],rfl,rfl⟩
variable {s s':St} {o:Oper} {a:Act} {v:AV}
theorem lN.pure [bK] (hp:bY E.ρ s.pc) (r:bR E s.h w) {u:Value} (h:(execOp a.eval o).run P w= .ok (.value u) w) (hv:VR E w.heap v u):lN P E s o a w v s:=
 ⟨rfl,hp,p9.value h ⟨E,fq.refl _ _ _,r,hv⟩⟩
theorem lN.heap [bK] {H':Hp} {E':En} {w':World} (hp:bY E.ρ s.pc) {u:Value} (h:(execOp a.eval o).run P w= .ok (.value u) w') (U:fq E s.h w E' H' w') (Z:bR E' H' w') (hv:VR E' w'.heap v u) :
 lN P E s o a w v { s with h:=H' }:=
 ⟨rfl,hp,p9.value h ⟨E',U,Z,hv⟩⟩
end
theorem yX {α:Type} {ρ:Nat->Int} {kk:TK} {k:AV} {r:α} {f:St->T α}: ∀{es:List (AV×AV×Nat)} {s:St},bY ρ s.pc->(uM kk k es s f).leaf ρ=some r->∃ef,bY ρ ef/\(f { s with pc:=ef }).leaf ρ=some r
 |[],s,hp,h=> ⟨s.pc,hp,h⟩
 |(k',v,b)::es,s,hp,h=>by
  simp only [uM] at h;split at h
  ·split at h
   ·exact⟨s.pc,hp,h⟩
   ·exact yX hp h
  ·split at h
   ·obtain⟨ga,fS,U⟩:=cI hp h;split at U
    ·grind
    ·obtain⟨ky,kf,Z⟩:=yX (s:={ s with pc:=ga }) fS U
     grind
   ·exact⟨s.pc,hp,h⟩
theorem rb {α:Type} {ρ:Nat->Int} {tt:TT} {t:Nat} {m k:AV} {r:α} {f:St->T α} {s:St} (hp:bY ρ s.pc) (h:(oB tt t m k s f).leaf ρ=some r): ∃ef,bY ρ ef/\(f { s with pc:=ef }).leaf ρ=some r:=by
 unfold oB at h;split at h
 ·split at h
  ·split at h
   ·split at h
    ·exact yX hp h
    ·exact⟨s.pc,hp,h⟩
   ·exact⟨s.pc,hp,h⟩
  ·exact⟨s.pc,hp,h⟩
 ·exact⟨s.pc,hp,h⟩
theorem M5 {ρ:Nat->Int} {k:IntKind} {e:V} {f:AV->St->T (AV×St)} {r:AV×St}: ∀(n j:Nat) {s:St},bY ρ s.pc->(j:Int)<=e.den ρ->e.den ρ<(j:Int)+n->(M6 k e f n j s).leaf ρ=some r->
 ∃(i:Nat) (ef:List (SB×Bool)),bY ρ ef/\e.den ρ=(i:Int)/\(f (.int k (.lit (Int.ofNat i))) { s with pc:=ef }).leaf ρ=some r
 |0,j,s,_,_,_,h=>by simp [M6,T.leaf] at h
 |n+1,j,s,hp,U,Z,h=>by
  simp only [M6] at h;split at h
  ·exact⟨j,s.pc,hp,J,h⟩
  ·obtain⟨ga,fS,h3⟩:=cI hp h;rw [hJ] at h3;split at h3
   ·rename_i he;simp only [V.den,beq_iff_eq] at he
    grind
   ·rename_i he;simp only [V.den,beq_eq_false_iff_ne,ne_eq] at he;have hj:(Int.ofNat j)=(j:Int):=rfl;rw [hj] at he;obtain⟨i,ky,kf,q1,q2⟩:=M5 n (j+1) (s:={ s with pc:=ga }) fS (by push_cast; omega) (by push_cast at Z ⊢; omega) h3
    grind
theorem oo {α:Type} {ρ:Nat->Int} {s:St} (hp:bY ρ s.pc) {i n:V} {f:St->T α} {r:α} (h:(zS s i n f).leaf ρ=some r) :
 ∃ef,bY ρ ef/\0<=i.den ρ/\i.den ρ<n.den ρ/\(f { s with pc:=ef }).leaf ρ=some r:=by
 unfold zS at h;obtain⟨ga,fS,U⟩:=cI hp h;split at U
 ·simp [T.leaf] at U
 ·rename_i e1;rw [dX,decide_eq_false_iff_not] at e1;obtain⟨ky,kf,Z⟩:=cI (s:={ s with pc:=ga }) fS U;split at Z
  ·rename_i e2;rw [dX,decide_eq_true_eq] at e2;simp only [V.den,anB] at e1
   grind
  ·simp [T.leaf] at Z
theorem A7 {E:En} {h0:Array Obj} {tt:TT} {t:Nat} {x ix:AV} {ui:Value} {f:AV->St->T (AV×St)} {r:AV×St} {s:St} (hp:bY E.ρ s.pc) (An:VR E h0 ix ui) (h:(IM tt t x ix s f).leaf E.ρ=some r) :
 ∃ix' ef,bY E.ρ ef/\VR E h0 ix' ui/\(f ix' { s with pc:=ef }).leaf E.ρ=some r:=by
 unfold IM at h;split at h
 ·exact⟨ix,s.pc,hp,An,h⟩
 ·split at h
  ·rename_i k e _;split at h
   ·rename_i n hn;obtain⟨ga,fS,U,Z,h3⟩:=oo hp h;simp only [V.den] at Z;obtain⟨i,ky,kf,q1,q2⟩:=M5 n 0 (s:={ s with pc:=ga }) fS (by simpa using U) (by simpa using Z) h3;refine⟨_,ky,kf,?_,q2⟩;simp only [VR,V.den] at An ⊢
    grind
   ·simp [T.leaf] at h
  ·simp [T.leaf] at h
theorem HK {ro:Nat->Prop} {h:Array Obj} {t:Nat} {d:D} {v:Value} (r:Rd ro h (.sl t) d v):(0<d.l.length->∃a n cap,v= .slice (some a) n cap)/\(d= .i 1->v= .slice none 0 0)/\(d= .i 2->∃a n cap,v= .slice (some a) n cap):=by
 generalize hc:CK.sl t=c at r
 cases r with
 |int k n=>simp at hc
 |bool b=>simp at hc
 |str s=>simp at hc
 |nil t=>exact⟨by simp [D.l],fun _=>rfl,ae⟩
 |xc t a cap=>exact⟨by simp [D.l],ae,fun _=> ⟨a,0,cap,rfl⟩⟩
 |one t c b o cap ds f hr eP hb U Z=>exact⟨fun _=> ⟨_,_,_,rfl⟩,fun q=>by cases ds<;>simp [dL] at q,fun q=>by cases ds<;>simp [dL] at q⟩
 |many t cs b o cap rows f hr eP hb Y U Z=>exact⟨fun _=> ⟨_,_,_,rfl⟩,fun q=>by cases rows<;>simp [dL] at q,fun q=>by cases rows<;>simp [dL] at q⟩
theorem Jx {P:Program} {E:En} {w:World} {tt:TT} (cP:eJ P tt) {t e:Nat} {ti:TI} (fB:tt t=some ti) (hk:ti.kind= .slice e) {u:Value} {b:Bool} (hu:(b=true/\u= .slice none 0 0)\/(b=false/\∃a n cap,u= .slice (some a) n cap)) {s s':St} {op:BinOp} {v:AV} {ρ:Nat->Int}
 (h:(Yv s op b).leaf ρ=some (v,s')):s'=s/\∃y,(binOp op t u (.slice none 0 0)).run P w= .ok y w/\VR E w.heap v y/\(∀cs ds,¬(u= .agg cs/\(Value.slice none 0 0)= .agg ds))/\¬(u= .nilIface/\(Value.slice none 0 0)= .nilIface):=by
 obtain⟨d,U,Z⟩:=sZ (cP t ti fB);rw [hk] at Z
 have he:(Op.equal t u (.slice none 0 0)).run P w= .ok b w:=by have hm:Op.equal t u (.slice none 0 0)=Op.equalIn (9999+1) t u (.slice none 0 0):=rfl;rw [hm];generalize (9999:Nat)=n;cases d<;>simp only [IX] at Z;rcases hu with ⟨rfl,rfl⟩|⟨rfl,a,m,cap,rfl⟩ <;>simp [Op.equalIn,zE U]
 have JR:(∀k n,u≠.int k n)/\(∀s,u≠.string s)/\(∀k n,u≠.float k n)/\(∀k n m,u≠.complex k n m):=by
  grind
 obtain⟨q1,q2⟩:=binOp_eql he JR.1 JR.2.1 JR.2.2.1 JR.2.2.2;unfold Yv at h;split at h
 ·simp only [T.leaf,aq,au] at h;obtain⟨rfl,rfl⟩:=h;exact⟨rfl,_,q1,by simp only [VR,SB.den],ae,ae⟩
 ·simp only [T.leaf,aq,au] at h;obtain⟨rfl,rfl⟩:=h;exact⟨rfl,_,q2,by simp only [VR,SB.den],ae,ae⟩
 ·simp [T.leaf] at h
theorem aaJ {P:Program} {E:En} {w:World} {tt:TT} (cP:eJ P tt) {t:Nat} {a b:AV} {e:V} (hn:OZ tt t a b=some e) {u u':Value} (ha:VR E w.heap a u) (hb:VR E w.heap b u') {s s':St} (hp:bY E.ρ s.pc) {op:BinOp} {v:AV} (h:(afj s e op).leaf E.ρ=some (v,s')) :
 s'.bG=s.bG/\s'.h=s.h/\bY E.ρ s'.pc/\∃y,(binOp op t u u').run P w= .ok y w/\VR E w.heap v y/\(∀cs ds,¬(u= .agg cs/\u'= .agg ds))/\¬(u= .nilIface/\u'= .nilIface):=by
 unfold OZ at hn;split at hn
 ·split at hn
  ·split at hn
   ·rename_i ti fB;split at hn
    ·rename_i el hk;simp only [aq] at hn;subst hn;simp only [VR] at ha hb;subst hb;obtain⟨k1,k2,k3⟩:=HK ha;unfold afj at h;obtain⟨ga,fS,U⟩:=cI hp h;split at U
     ·rename_i t1;rw [dX,decide_eq_true_eq,cD] at t1;simp only [V.den] at t1;obtain⟨rfl,q⟩:=Jx (P:=P) (E:=E) (w:=w) cP fB hk (.inr ⟨rfl,k1 J⟩) U
      grind
     ·obtain⟨ky,kf,Z⟩:=cI (s:={ s with pc:=ga }) fS U;split at Z
      ·rename_i t2;rw [iU,mE,beq_iff_eq] at t2;simp only [V.den] at t2;obtain⟨rfl,q⟩:=Jx (P:=P) (E:=E) (w:=w) cP fB hk (.inl ⟨rfl,k2 (ew t2)⟩) Z
       grind
      ·obtain⟨VT,JQ,h3⟩:=cI (s:={ s with pc:=ky }) kf Z;split at h3
       ·rename_i t3;rw [iU,mE,beq_iff_eq] at t3;simp only [V.den] at t3;obtain⟨rfl,q⟩:=Jx (P:=P) (E:=E) (w:=w) cP fB hk (.inr ⟨rfl,k3 (ew t3)⟩) h3
        grind
       ·simp [T.leaf] at h3
    grind
   grind
  grind
 grind
section
variable {P:Program} {E:En} {w:World}
theorem bR.swap [bK] {H H2:Hp} (r:bR E H w) {id:Nat} {o o':dO} (Y:H.get id=some o) (ho:OR E w.heap id o') (hg:H2.get id=some o') (hs: ∀j,j≠id->H2.get j=H.get j) (hn:H2.next=H.next) (hr:H2.res=H.res):bR E H2 w:=by
 have key: ∀j x,H2.get j=some x->∃y,H.get j=some y:=by
  intro j x hj
  grind
 refine⟨fun i hi=>r.fresh i (by rw [<- hn]; exact hi),fun q hq=>by rw [hn]; exact r.res q (by rw [<- hr]; exact hq),fun j x hj=>?_,fun i j x y hi hj he=>?_,r.su,r.kj,?_⟩
 ·by_cases h:j=id
  ·subst h;rw [hg] at hj;simp only [aq] at hj;subst hj;exact⟨(r.live j o Y).1,ho,(r.live j o Y).2.2⟩
  ·exact r.live j x (by rw [<- hs j h]; exact hj)
 ·obtain⟨x',hx⟩:=key i x hi;obtain⟨y',hy⟩:=key j y hj;exact r.inj i j x' y' hx hy he
 ·intro b x hb;obtain⟨q1,q2,q3⟩:=r.hid b x hb;refine⟨q1,q2,fun j y hj=>?_⟩;obtain⟨y',hy⟩:=key j y hj;exact q3 j y' hy
structure GY (H H2:Hp):Prop where
 ab: ∀j x,H.get j=some x->∃y,H2.get j=some y
 ba: ∀j x,H2.get j=some x->∃y,H.get j=some y
 next:H2.next=H.next
 res:H2.res=H.res
theorem GY.put {H:Hp} {id:Nat} {o o':dO} (Y:H.get id=some o):GY H (H.put id o'):=by
 refine⟨fun j x hj=>?_,fun j x hj=>?_,rfl,rfl⟩
 all_goals grind [Hp.bU]
theorem GY.symm {H H2:Hp} (a:GY H H2):GY H2 H:=⟨a.ba,a.ab,a.next.symm,a.res.symm⟩
theorem fq.left {H H2 H':Hp} {E':En} {w':World} (a:GY H H2) (s:fq E H w E' H' w'):fq E H2 w E' H' w':=
 ⟨s.ρ,s.dm,s.θ,s.κ,s.ro,fun b hb=>(s.sR b hb).imp id (Or.imp (fun⟨i,o,U,Z⟩=>by obtain⟨y,hy⟩:=a.ab i o U; exact⟨i,y,hy,Z⟩) id),by rw [a.next]; exact s.RN,by rw [a.res]; exact s.rsm,
  fun i hi=>by rw [a.next,a.res]; exact s.M? i hi,s.os,s.tape,s.output,s.size,fun b hb hn=>s.cx b hb fun i o ho=>by obtain⟨y,hy⟩:=a.ab i o ho; exact hn i y hy,
  fun i o ho gv=>by obtain⟨i0,o0,U,Z⟩:=s.own i o ho gv; obtain⟨y,hy⟩:=a.ab i0 o0 U; exact⟨i0,y,hy,Z⟩,s.W⟩
theorem fq.right {H H' H2:Hp} {E':En} {w':World} (a:GY H' H2) (s:fq E H w E' H' w'):fq E H w E' H2 w':=
 ⟨s.ρ,s.dm,s.θ,s.κ,s.ro,s.sR,by rw [a.next]; exact s.RN,by rw [a.res]; exact s.rsm,
  fun i hi=>by rw [a.next]; exact s.M? i hi,s.os,s.tape,s.output,s.size,s.cx,
  fun i o ho gv=>by obtain⟨y,hy⟩:=a.ba i o ho; exact s.own i y hy gv,s.W⟩
theorem dZ.of {ro:Nat->Prop} {h:Array Obj} {d:D} (f:Nat->Value): ∀(cs:List CK) (j:Nat),(∀i c,cs[i]?=some c->jO ro h c (d.W (j+i)) (f (j+i)))->dZ ro h cs j d ((List.range' j cs.length).map f)
 |[],j,_=>by simp [dZ]
 |c::cs,j,hh=>by
  simp only [aR,List.range'_succ,aK,dZ];refine⟨f j,_,rfl,by simpa using hh 0 c ae,dZ.of f cs (j+1) fun i c' hi=>?_⟩;have:=hh (i+1) c' (by simpa using hi)
  grind
theorem Rd.row {ro:Nat->Prop} {h:Array Obj} {t:Nat} {d:D} {v:Value} (r:Rd ro h (.sl t) d v) {i:Nat} {x:D} (hi:d.l[i]?=some x) :
 ∃b o cap us,v= .slice (some ⟨b,o,none⟩) d.l.length cap/\ro b/\xS ro h (rowOf t) x us/\gr h b (o+i*(rowOf t).es) us:=by
 generalize hc:CK.sl t=c at r
 cases r with
 |int k n=>simp at hc
 |bool b=>simp at hc
 |str s=>simp at hc
 |nil t=>simp [D.l] at hi
 |xc t a cap=>simp [D.l] at hi
 |one t' c b o cap ds f hr eP hb U Z=>
  simp only [CK.sl.injEq] at hc;subst hc;rw [bE] at hi ⊢;refine⟨b,o,cap,[f i],rfl,hb,?_,?_⟩
  ·rw [hr];exact⟨_,rfl,(Z i x hi).cell⟩
  ·rw [hr];intro j u hj
   grind [Row.es]
 |many t' cs b o cap rows f hr eP hb Y U Z=>
  simp only [CK.sl.injEq] at hc;subst hc;rw [bE] at hi ⊢;rw [bp,aZ] at hi;obtain⟨row,gS,rfl⟩:=hi;have hlen:=Y row (amW gS);refine⟨b,o,cap,(List.range' 0 cs.length).map (f i),ae,hb,?_,?_⟩
  ·rw [hr];refine dZ.of (f i) cs 0 fun j c hj=>?_;have hjl:j<row.length:=by rw [hlen]; exact (bj.1 hj).1
   have W:row[j]?=some row[j]:=aW hjl;rw [aL];have:(dL row).W j=row[j]:=by simp [D.W,W]
   rw [this];exact (Z i row j _ c gS W hj).cell
  ·rw [hr];intro j u hj;rw [bp,aZ] at hj;obtain⟨k,hk,rfl⟩:=hj
   have hjl:j<cs.length:=by
    grind
   rw [List.getElem?_range' hjl] at hk;simp only [aq] at hk;obtain rfl:k=j:=J
   have W:row[k]?=some row[k]:=aW J;exact U i row k _ gS W
theorem Cm (ρ:Nat->Int) (e i:V) {x:D} {k:Nat} (hi:i.den ρ=(k:Int)) (hx:(dec (e.den ρ)).l[k]?=some x):dec ((V.op .at e i).den ρ)=x:=by simp only [V.den,fX.den,bD,D.at,hi,br,hx,ay]
theorem n7 {tt:TT} (cP:eJ P tt) {ty z:Nat} (h:uH tt ty=some z): ∃el ie,P.underlying ty=some (.slice el)/\tt el=some ie/\ie.size=z:=by
 unfold uH at h;split at h
 ·rename_i ti fB;split at h
  ·rename_i el hk;simp only [iW,aZ] at h;obtain⟨ie,lG,rfl⟩:=h;exact⟨el,ie,fK (cP ty ti fB) hk,lG,rfl⟩
  grind
 grind
theorem PS {tt:TT} (cP:eJ P tt) {s s':St} (hp:bY E.ρ s.pc) {ty t:Nat} {e:V} {ix v:AV} {u ui:Value} (hx:VR E w.heap (.eD e t) u) (An:VR E w.heap ix ui) (h:(Ks tt s ty t e ix).leaf E.ρ=some (v,s')) :
 s'.bG=s.bG/\s'.h=s.h/\bY E.ρ s'.pc/\∃r,(Instr.indexAt ty u ui).run P w= .ok r w/\VR E w.heap v r:=by
 unfold Ks at h;split at h
 ·rename_i kd i;split at h
  ·rename_i z hz;split at h
   ·rename_i l9;obtain⟨ef,fU,U,Z,h3⟩:=oo hp h;have:=bF h3;simp only [au] at this;obtain⟨rfl,rfl⟩:=this;refine⟨rfl,rfl,fU,?_⟩;rw [cD] at Z;simp only [VR] at hx An;subst An;obtain⟨el,ie,hu,lG,rfl⟩:=n7 cP hz;obtain⟨k,hk⟩ : ∃k:Nat,i.den E.ρ=(k:Int):=⟨(i.den E.ρ).toNat,J⟩;have gv:k<(dec (e.den E.ρ)).l.length:=J
    have W:(dec (e.den E.ρ)).l[k]?=some (dec (e.den E.ρ)).l[k]:=aW gv;obtain⟨b,o,cap,us,rfl,g1,g2,g3⟩:=hx.row W;refine⟨.pointer (some ⟨b,o+k*ie.size,none⟩),?_,?_⟩
    ·rw [hk];simp [Instr.indexAt,asIntOf,run_underlying hu,eE (cP el ie lG),gv,fD]
    ·simp only [VR];exact⟨b,_,us,rfl,g1,by rw [gG,Cm E.ρ e i hk W]; exact g2,by rw [l9]; exact g3,g2.sV⟩
   grind [T.leaf]
  grind [T.leaf]
 grind [T.leaf]
theorem PA {tt:TT} (cP:eJ P tt) {s s':St} (hp:bY E.ρ s.pc) {ty t id:Nat} {n:V} {ix v:AV} {u ui:Value} (hx:VR E w.heap (.qc id n t) u) (An:VR E w.heap ix ui) (h:(Ke tt s ty id t n ix).leaf E.ρ=some (v,s')) :
 s'.bG=s.bG/\s'.h=s.h/\bY E.ρ s'.pc/\∃r,(Instr.indexAt ty u ui).run P w= .ok r w/\VR E w.heap v r:=by
 unfold Ke at h;split at h
 ·rename_i kd i;split at h
  ·rename_i z hz;split at h
   ·rename_i l9;obtain⟨ef,fU,U,Z,h3⟩:=oo hp h;have:=bF h3;simp only [au] at this;obtain⟨rfl,rfl⟩:=this;refine⟨rfl,rfl,fU,?_⟩;simp only [VR] at hx An;subst An;obtain⟨hid,m,a,cap,hn,rfl,iS,hc⟩:=hx;obtain⟨el,ie,hu,lG,rfl⟩:=n7 cP hz;obtain⟨k,hk⟩ : ∃k:Nat,i.den E.ρ=(k:Int):=⟨(i.den E.ρ).toNat,J⟩;have gv:k<m:=J
    have ha:a=⟨(E.θ id).1,(E.θ id).2,none⟩:=by
     simp only [eY] at hc
     grind
    subst ha;refine⟨.pointer (some ⟨(E.θ id).1,(E.θ id).2+k*ie.size,none⟩),?_,?_⟩
    ·rw [hk];simp [Instr.indexAt,asIntOf,run_underlying hu,eE (cP el ie lG),gv,fD]
    ·simp only [VR]
     grind
   grind [T.leaf]
  grind [T.leaf]
 grind [T.leaf]
theorem oE {ρ:Nat->Int} {pc:List (SB×Bool)} (hp:bY ρ pc) {p? cs:List AV} {i:V} {k:Nat} (hi:i.den ρ=(k:Int)): ∀{ov:List (V×List AV)},oF pc p? i ov=some cs->
 ed ρ k ov=some cs\/(ed ρ k ov=none/\cs=p?)
 |[],h=>by simp only [oF,aq] at h; exact .inr ⟨rfl,h.symm⟩
 |(j,c)::l,h=>by
  simp only [oF] at h;simp only [ed];split at h
  ·rename_i he
   grind [cR]
  ·split at h
   ·rename_i b W;have W:=gY hp W;rw [hJ] at W;split at h
    ·grind
    ·rw [beq_eq_false_iff_ne,hi] at W;rw [ak (fun q=>W q.symm)];exact oE hp hi h
   grind
theorem wS {α:Type} {ρ:Nat->Int} {i:V} {r:α}: ∀{ov:List (V×List AV)} {s:St} {k:St->T α},bY ρ s.pc->(vB i ov s k).leaf ρ=some r->∃ef,bY ρ ef/\(k { s with pc:=ef }).leaf ρ=some r
 |[],s,k,hp,h=> ⟨s.pc,hp,h⟩
 |(j,c)::l,s,k,hp,h=>by
  simp only [vB] at h;split at h
  ·exact⟨s.pc,hp,h⟩
  ·obtain⟨ga,fS,U⟩:=cI hp h;split at U
   ·grind
   ·exact wS (s:={ s with pc:=ga }) fS U
theorem jW {ρ:Nat->Int} {r:Row} {ov:List (V×List AV)} (ho:tN r ov): ∀{ds:List D} {j k:Nat} {x:D},ds[k]?=some x->
 bH ρ r ov ds j=bH ρ r ov (ds.take k) j++((match ed ρ (j+k) ov with |some cs=>cs|none=>ib r (.eD x))++bH ρ r ov (ds.drop (k+1)) (j+k+1))/\(bH ρ r ov (ds.take k) j).length=k*r.es
 |[],j,k,x,h=>by simp at h
 |d::ds,j,0,x,h=>by
  simp only [aM,aq] at h;subst h;refine⟨?_,by simp [bH]⟩;simp only [List.take_zero,bH,ax,bx,aou,anq]
  try rfl
 |d::ds,j,k+1,x,h=>by
  have h':ds[k]?=some x:=by simpa using h
  have hk:k<ds.length:=(bj.1 h').1;obtain⟨U,Z⟩:=jW (ρ:=ρ) ho (j:=j+1) h';refine⟨?_,?_⟩
  ·simp only [anr,bH,anU,aou]
   grind
  grind [cE]
theorem uI {α:Type}: ∀(a b:List α),eS a.length (a++b)=some b
 |[],_=>rfl
 |x::a,b=>by simp [eS,uI a b]
theorem FV {α:Type}: ∀{n:Nat} {a b l:List α},eS n a=some l->eS n (a++b)=some (l++b)
 |0,a,b,l,h=>by simp only [eS,aq] at h ⊢; rw [h]
 |n+1,[],b,l,h=>by simp [eS] at h
 |n+1,x::a,b,l,h=>by simp only [eS,aX] at h ⊢; exact FV h
theorem Ed {α:Type}: ∀{n:Nat} {a b l:List α},iV n a=some l->iV n (a++b)=some l
 |0,a,b,l,h=>by simp only [iV] at h ⊢; exact h
 |n+1,[],b,l,h=>by simp [iV] at h
 |n+1,x::a,b,l,h=>by
  simp only [iV,aX] at h ⊢;split at h
  ·rename_i l' Y;rw [Ed Y];exact h
  grind
theorem IA {α:Type}: ∀{a b:Nat} {l m:List α},eS a l=some m->eS (a+b) l=eS b m
 |0,b,l,m,h=>by simp only [eS,aq] at h; subst h; rw [aL]
 |a+1,b,[],m,h=>by simp [eS] at h
 |a+1,b,x::l,m,h=>by rw [show a+1+b=(a+b)+1 by omega];simp only [eS] at h ⊢;exact IA h
noncomputable def cQ (ρ:Nat->Int) (e:V) (t:Nat) (ov:List (V×List AV)):List AV:=bH ρ (rowOf t) ov (dec (e.den ρ)).l 0
theorem OR.py {h:Array Obj} {id:Nat} {e:V} {t:Nat} {ty:TypeId} {ov:List (V×List AV)}:OR E h id (.vec e t ty ov)↔(tN (rowOf t) ov/\tx (rowOf t) (dec (e.den E.ρ)))/\OR E h id (.cells (cQ E.ρ e t ov) ty):=by simp only [OR,cQ]
theorem bR.py [bK] {H:Hp} (r:bR E H w) {id:Nat} {e:V} {t:Nat} {ty:TypeId} {ov:List (V×List AV)} (Y:H.get id=some (.vec e t ty ov)):bR E (H.put id (.cells (cQ E.ρ e t ov) ty)) w/\tN (rowOf t) ov/\tx (rowOf t) (dec (e.den E.ρ)):=by obtain⟨U,Z⟩:=OR.py.1 (r.live id _ Y).2.1;exact⟨r.swap Y Z (by rw [Hp.bU,an rfl]) (fun j hj=>by rw [Hp.bU,ak hj]) rfl rfl,U⟩
theorem yA {h:Array Obj} {r:Row} {x y:V} (W:dec (x.den E.ρ)=dec (y.den E.ρ)) {us:List Value}:cC E h (ib r x) us↔cC E h (ib r y) us:=by
 grind [gG]
theorem u! [bK] {H:Hp} (r:bR E H w) {id:Nat} {e i:V} {t:Nat} {ty:TypeId} {ov:List (V×List AV)} (Y:H.get id=some (.vec e t ty ov)) {k:Nat} (hi:i.den E.ρ=(k:Int)) (hk:(k:Int)<(dS e).den E.ρ)
 {pc:List (SB×Bool)} (hp:bY E.ρ pc) {cs:List AV} (hc:oF pc (ib (rowOf t) (.op .at e i)) i ov=some cs) :
 ∃pre row post,cQ E.ρ e t ov=pre++(row++post)/\pre.length=k*(rowOf t).es/\row.length=(rowOf t).es/\(∀h us,cC E h row us↔cC E h cs us)/\cs.length=(rowOf t).es:=by
 obtain⟨_,ho,xL⟩:=r.py Y;rw [cD] at hk;have gv:k<(dec (e.den E.ρ)).l.length:=J
 have W:(dec (e.den E.ρ)).l[k]?=some (dec (e.den E.ρ)).l[k]:=aW gv;obtain⟨U,Z⟩:=jW (ρ:=E.ρ) ho (j:=0) W;refine⟨_,_,_,U,Z,?_⟩;rw [aL];rcases oE hp hi hc with h3|⟨h3,rfl⟩
 ·rw [h3];obtain⟨p,p1,p2,_⟩:=lD h3;have:=ho p p1
  grind
 ·rw [h3];refine⟨iw _ _,fun h us=>yA ?_,iw _ _⟩;rw [Cm E.ρ e i hi W];simp only [V.den,bD]
theorem UE {i:TI} {l m:List AV} {v:AV} (h:partOf i l=some v):partOf i (l++m)=some v:=by
 unfold partOf at h ⊢;split at h
 ·rename_i ha;rw [aZ] at h
  grind [Ed]
 grind
theorem HT [bK] {tt:TT} (cP:eJ P tt) {H:Hp} (r:bR E H w) {id:Nat} {cs:List AV} {e:TypeId} (Y:H.get id=some (.cells cs e)) {ty:Nat} {ti:TI} (fB:tt ty=some ti) {off:Nat} {l:List AV} (W:eS off cs=some l) {v:AV} (hv:partOf ti l=some v) :
 ∃x,(loadVar ty ⟨(E.θ id).1,(E.θ id).2+off,none⟩).run P w= .ok x w/\VR E w.heap v x:=by
 have hld:B8 tt ty (.ptr id off) H=some v:=by
  unfold B8 partOf at *;rw [fB];simp only [nw,Y,W];split at hv
  ·exact hv
  ·split at hv
   ·simp only [aq] at hv;subst hv;rfl
   grind
 have hid:=(r.live id _ Y).1;obtain⟨x,b,o,U,Z,h3⟩:=B7 cP r (p:=.ptr id off) (u:=.pointer (some ⟨(E.θ id).1,(E.θ id).2+off,none⟩)) (by simp only [VR]; exact⟨trivial,hid⟩) hld
 grind
theorem EU {k:IntKind}: ∀{cs:List AV} {ds:List D},EV k cs=some ds->ds.length=cs.length/\∀(i:Nat),i<cs.length->∃n,ds[i]?=some (.i n)/\cs[i]?=some (.int k (.lit n))
 |[],ds,h=>by
  simp only [EV,aq] at h
  grind
 |v::vs,ds,h=>by
  simp only [EV] at h;split at h
  ·split at h
   ·rename_i k' n;split at h
    ·rename_i hk;subst hk;split at h
     ·rename_i ds' xn;simp only [aq] at h;subst h;obtain⟨U,Z⟩:=EU xn
      grind
     grind
    grind
   grind
  grind
theorem Cf {α:Type}: ∀{i:Nat} {cs:List α} {a:α},cs[i]?=some a->∃l,eS i cs=some (a::l)
 |0,[],a,h=>by simp at h
 |0,c::cs,a,h=>by simp only [aM,aq] at h; subst h; exact⟨cs,rfl⟩
 |i+1,[],a,h=>by simp at h
 |i+1,c::cs,a,h=>Cf (cs:=cs) (by simpa using h)
theorem MQ {ρ:Nat->Int} {s s':St} {cs:List AV} {e:V} {v:AV} (hp:bY ρ s.pc) (h:(It s cs e).leaf ρ=some (v,s')) :
 s'.bG=s.bG/\s'.h=s.h/\bY ρ s'.pc/\∃(i:Nat) (k:IntKind) (n:Int) (x:V),e.den ρ=(i:Int)/\i<cs.length/\cs[i]?=some (.int k (.lit n))/\v= .int k x/\x.den ρ=n:=by
 unfold It at h;split at h
 ·grind [T.leaf]
 ·rename_i k hk;split at h
  ·grind [T.leaf]
  ·rename_i ds xn;obtain⟨U,Z⟩:=EU xn;obtain⟨ef,fU,g1,g2,g3⟩:=oo hp h;simp only [T.leaf,aq,au] at g3;obtain⟨rfl,rfl⟩:=g3;have g2':e.den ρ<(ds.length:Int):=by simpa [V.den] using g2
   have hi:e.den ρ=((e.den ρ).toNat:Int):=J
   have gv:(e.den ρ).toNat<cs.length:=J
   obtain⟨n,d1,d2⟩:=Z _ gv;refine⟨rfl,rfl,fU,_,k,n,_,hi,gv,d2,rfl,?_⟩;simp only [Bx,V.den,fX.den,bD,D.at,bE,d1,ay,D.n]
theorem PL [bK] {tt:TT} (cP:eJ P tt) {s s':St} (r:bR E s.h w) (hp:bY E.ρ s.pc) {ty id es:Nat} {i:V} {off:Nat} {v:AV} {u:Value} (hx:VR E w.heap (.AR id es i off) u) (h:(AL tt s ty id es i off).leaf E.ρ=some (v,s')) :
 s'.bG=s.bG/\s'.h=s.h/\bY E.ρ s'.pc/\∃x b o,u= .pointer (some ⟨b,o,none⟩)/\(loadVar ty ⟨b,o,none⟩).run P w= .ok x w/\VR E w.heap v x:=by
 unfold AL at h;split at h
 ·rename_i o Y;split at h
  ·rename_i cs ety;split at h
   ·rename_i ti fB;split at h
    ·simp [T.leaf] at h
    ·rename_i hb;simp only [Bool.or_eq_false_iff,Bool.not_eq_false'] at hb;have l9:=aA hb.1.2;have hof:=aA hb.2;subst l9 hof;obtain⟨U,Z,h3,k,kd,n,x,g1,g2,g3,rfl,g5⟩:=MQ hp h;refine⟨U,Z,h3,?_⟩;simp only [VR] at hx;obtain⟨hid,k',hk,rfl⟩:=hx;have xN:k'=k:=J
     subst xN;obtain⟨l,W⟩:=Cf g3;obtain⟨y,q1,q2⟩:=HT (P:=P) cP r Y fB W (v:=.int kd (.lit n)) (by unfold partOf; rw [hb.1.1]);refine⟨y,_,_,rfl,by rw [aob,bx]; exact q1,?_⟩;simp only [VR,V.den] at q2 ⊢;rw [q2,g5]
   ·simp [T.leaf] at h
  ·rename_i e t Bo ov;split at h
   ·rename_i ti fB;split at h
    ·rename_i l9;obtain⟨pc0,YY,U,Z,h3⟩:=oo hp h;obtain⟨ef,fU,h3⟩:=wS (s:={ s with pc:=pc0 }) YY h3;split at h3
     ·rename_i cs hc;split at h3
      ·rename_i l Ff;obtain⟨e1,rfl⟩:=iE h3;refine⟨rfl,rfl,fU,?_⟩;simp only [VR] at hx;obtain⟨hid,k,hk,rfl⟩:=hx;obtain⟨pre,row,post,c1,c2,c3,c4,c5⟩:=u! r Y hk (by rw [<- hk]; exact Z) fU hc;obtain⟨rc,ho,xL⟩:=r.py Y
       have gS:OR E w.heap id (.cells (pre++(cs++post)) Bo):=by have:=(rc.live id _ (by rw [Hp.bU,an rfl])).2.1;rw [c1] at this;simp only [OR] at this ⊢;obtain⟨arr,lo,hi,us,q1,q2,q3,q4,q5,q6,q7⟩:=this;refine⟨arr,lo,hi,us,q1,?_,q3,by simp only [a8,c3,c5] at q4 ⊢; exact q4,q5,q6,q7⟩;obtain⟨a,b,rfl,a1,a2⟩:=q2.split;obtain⟨a',b',rfl,b1,b2⟩:=a2.split;exact a1.append (((c4 _ _).1 b1).append b2)
       have r2:=r.swap (H2:=s.h.put id (.cells (pre++(cs++post)) Bo)) Y gS (by rw [Hp.bU,an rfl]) (fun j hj=>by rw [Hp.bU,ak hj]) rfl rfl
       have alD:eS (k*es+off) (pre++(cs++post))=some (l++post):=by rw [IA (m:=cs++post) (by rw [<- l9,<- c2]; exact uI pre _)];exact FV Ff
       obtain⟨x,g1,g2⟩:=HT cP r2 (by rw [Hp.bU,an rfl]) fB alD (UE e1);exact⟨x,_,_,rfl,g1,g2⟩
      ·simp [T.leaf] at h3
     ·simp [T.leaf] at h3
    ·simp [T.leaf] at h
   ·simp [T.leaf] at h
  ·simp [T.leaf] at h
 ·simp [T.leaf] at h
end
end Go.As
end

import GoSem.Claim
import Derived.Lib.SlicesCompact
import Derived.Orders
import Derived.Scope
import Derived.LoopN
import Derived.Below
import GoSem.Core.View
import GoSem.Core.Layout
import GoSem.Op.Equal
import Derived.WalkKit
import Derived.Lib.Strings
import Derived.Laws.IdiomStrings
import Derived.Laws.RangeString
import Derived.Laws.StructEq
set_option linter.unusedSectionVars false
set_option linter.unusedVariables false
set_option linter.unusedSimpArgs false
abbrev af:=@if_neg
abbrev ag:=@if_pos
abbrev ah:=@Option.some.injEq
abbrev ak:=@Prod.mk.injEq
abbrev an:=@Bool.and_eq_true
abbrev aq:=@Nat.eq_of_beq_eq_true
abbrev au:=@Nat.le_refl
abbrev aw:=@List.map_cons
abbrev ax:=@List.mem_cons
abbrev ay:=@List.nil_append
abbrev az:=@List.getElem_mem
abbrev aA:=@Nat.zero_add
abbrev aC:=@Option.getD_some
abbrev aF:=@List.getElem?_cons_zero
abbrev aG:=@Int.lt_irrefl
abbrev aH:=@List.mem_map
abbrev aK:=@List.getElem?_cons_succ
abbrev aL:=@List.length_map
abbrev aM:=@List.length_cons
abbrev aO:=@List.getElem?_eq_getElem
abbrev aP:=@Bool.false_eq_true
abbrev aQ:=@Option.map_eq_some_iff
abbrev aR:=@List.cons_append
abbrev aT:=@List.length_append
abbrev aW:=@Nat.lt_or_ge
abbrev aX:=@List.getElem?_eq_some_iff
abbrev aZ:=@List.all_eq_true
abbrev a8:=@List.length_take
abbrev bd:=@Int.toNat_natCast
abbrev bg:=@List.length_nil
abbrev bh:=@List.drop_eq_getElem_cons
abbrev bj:=@Nat.add_zero
abbrev bk:=@Int.natCast_one
abbrev bn:=@Nat.le_trans
abbrev bo:=@Array.length_toList
abbrev bp:=@List.getElem?_map
abbrev bq:=@Option.isSome_some
abbrev br:=@Option.map_some
abbrev bu:=@List.mem_of_mem_drop
abbrev bw:=@Array.getElem?_toList
abbrev amQ:=@List.mem_of_getElem?
abbrev amR:=@Nat.add_assoc
abbrev amS:=@Nat.zero_mul
abbrev amT:=@List.eq_nil_of_length_eq_zero
abbrev amU:=@List.length_drop
abbrev amV:=@List.mem_of_mem_take
abbrev amW:=@List.mem_append
abbrev amX:=@Int.natCast_zero
abbrev amY:=@List.not_mem_nil
abbrev amZ:=@Array.getElem?_eq_some_iff
abbrev am0:=@Nat.add_mul
abbrev am1:=@List.mem_filter
abbrev am2:=@List.mem_range
abbrev am3:=@List.length_pos_iff
abbrev am4:=@List.drop_zero
abbrev am5:=@Nat.zero_le
abbrev am6:=@Bool.eq_iff_iff
abbrev am7:=@List.map_map
abbrev am8:=@List.append_assoc
abbrev am9:=@Nat.le_of_ble_eq_true
abbrev ana:=@Bool.not_eq_true'
abbrev anb:=@List.take_append_drop
abbrev anc:=@List.append_nil
abbrev ane:=@List.map_append
abbrev anf:=@List.nodup_cons
abbrev ang:=@Nat.mod_eq_of_lt
abbrev anh:=@Nat.lt_of_lt_of_le
abbrev ani:=@List.length_replicate
abbrev anj:=@List.map_nil
abbrev ank:=@List.getElem_of_mem
abbrev anl:=@Nat.le_succ
abbrev anm:=@List.drop_of_length_le
abbrev ann:=@Nat.one_mul
abbrev ano:=@List.map_id
abbrev anp:=@List.getElem?_drop
abbrev anq:=@List.getElem?_take
abbrev anr:=@UInt8.toNat_ofNat'
abbrev ans:=@Nat.mul_le_mul_right
abbrev ant:=@Option.isSome_iff_exists
abbrev anu:=@List.singleton_append
abbrev anv:=@Option.getD_none
abbrev anw:=@List.mem_cons_self
abbrev anx:=@Array.getD_eq_getD_getElem?
abbrev anz:=@Bool.or_eq_true
abbrev anA:=@List.mapM_cons
abbrev anB:=@Int.not_lt
abbrev anC:=@List.take_succ_cons
abbrev anD:=@Nat.eq_zero_or_pos
abbrev anE:=@List.take_length
abbrev anF:=@List.getElem?_eq_none
abbrev anG:=@List.mem_cons_of_mem
abbrev anH:=@List.map_congr_left
abbrev anI:=@Option.bind_eq_some_iff
abbrev anJ:=@List.set_cons_zero
abbrev anK:=@List.set_cons_succ
abbrev anL:=@List.length_set
abbrev anM:=@Bool.eq_false_iff
abbrev anN:=@List.take_of_length_le
abbrev anO:=@Array.getElem?_replicate
abbrev anP:=@Nat.blt_eq
abbrev anQ:=@List.getElem?_nil
abbrev anR:=@Array.getElem?_modify
abbrev anS:=@List.mem_iff_getElem?
abbrev anT:=@Nat.ne_of_beq_eq_false
abbrev anU:=@Int.tmod_lt_of_pos
abbrev anV:=@List.ext_getElem?
abbrev anW:=@Option.bind_eq_bind
abbrev anX:=@List.getElem?_eq_none_iff
abbrev anY:=@Nat.mul_pos
abbrev anZ:=@Bool.not_true
abbrev an0:=@Bool.false_or
abbrev an1:=@Array.getElem?_setIfInBounds
abbrev an2:=@Nat.ble_eq_true_of_le
abbrev an3:=@Nat.add_sub_cancel_left
abbrev an4:=@List.getElem?_range
abbrev an5:=@List.take_succ_eq_append_getElem
abbrev an6:=@Nat.pow_succ
abbrev an7:=@Int.ofNat_inj
abbrev an8:=@Bool.or_false
abbrev an9:=@List.eraseIdx_cons_succ
abbrev aoa:=@List.foldlM_cons
abbrev aob:=@Nat.mul_one
abbrev aoc:=@List.take_set_of_le
abbrev aod:=@List.drop_set_of_lt
abbrev aoe:=@Int.ofNat_lt
abbrev aof:=@List.nodup_append
abbrev aog:=@List.eq_nil_iff_forall_not_mem
abbrev aoh:=@List.getElem?_of_mem
abbrev aoi:=@Array.getElem?_eq_getElem
abbrev aoj:=@List.getD_eq_getElem?_getD
abbrev aok:=@List.all_append
abbrev aol:=@Nat.pow_zero
abbrev aom:=@Nat.mul_comm
abbrev aon:=@Array.toList_inj
abbrev aoo:=@Bool.and_eq_false_iff
abbrev aop:=@List.getElem?_append
abbrev aoq:=@Nat.mul_le_mul
abbrev aor:=@List.map_take
abbrev aos:=@List.map_drop
abbrev aot:=@Array.getElem?_append_left
abbrev aou:=@Array.toList_map
abbrev aov:=@Nat.le_of_mul_le_mul_right
abbrev aow:=@List.drop_succ_cons
abbrev aox:=@List.getElem?_append_right
abbrev aoy:=@Nat.div_mul_le_self
abbrev aoz:=@List.replicate_succ
abbrev aoA:=@Nat.lt_trichotomy
abbrev aoB:=@List.all_cons
abbrev aoC:=@Array.mem_of_getElem?
abbrev aoD:=@List.length_reverse
abbrev aoE:=@Nat.min_eq_left
abbrev aoF:=@List.getElem?_toArray
abbrev aoG:=@Array.getElem?_eq_none
abbrev aoH:=@List.any_eq_true
abbrev aoI:=@List.drop_drop
abbrev aoJ:=@Nat.sub_zero
abbrev aoK:=@List.length_filter_le
abbrev aoL:=@List.filter_append
abbrev aoM:=@List.getElem_set_self
abbrev aoN:=@List.mem_append_right
abbrev aoO:=@List.mem_append_left
abbrev aoP:=@Option.isSome_none
abbrev aoQ:=@List.getElem?_append_left
abbrev aoR:=@List.eq_of_mem_replicate
abbrev aoS:=@Array.mapM_eq_mapM_toList
abbrev aoT:=@Array.getElem?_eq_none_iff
abbrev aoU:=@List.length_mergeSort
abbrev aoV:=@List.length_eq_zero_iff
abbrev aoW:=@Array.getElem?_mapIdx
abbrev aoX:=@Array.size_setIfInBounds
abbrev aoY:=@List.contains_iff_mem
theorem J{P:Prop}(h:P:=by omega):P:=h
theorem aa{P:Prop}(h:P:=by kernel_rfl):P:=h
theorem ad{P:Prop}(h:P:=by simp):P:=h
theorem ae{P:Prop}(h:P:=by decide):P:=h
section
namespace Go.As
inductive Tr (α:Type) where
 |nil
 |node (v:Option α) (l r:Tr α)
 deriving Inhabited
noncomputable def Tr.get {α:Type} (t:Tr α) (k:Nat):Option α:=
 Tr.rec (motive:=fun _=>Nat->Option α) (fun _=>none)
  (fun v _ _ il ir k=>Nat.rec (motive:=fun _=>Option α) v (fun k' _=>Bool.rec (motive:=fun _=>Option α) (ir (Nat.div k' 2)) (il (Nat.div k' 2)) (Nat.beq (Nat.mod k' 2) 0)) k) t k
def Tr.val {α:Type}:Tr α->Option α
 | .nil=>none
 | .node v _ _=>v
def Tr.left {α:Type}:Tr α->Tr α
 | .nil=> .nil
 | .node _ l _=>l
def Tr.right {α:Type}:Tr α->Tr α
 | .nil=> .nil
 | .node _ _ r=>r
noncomputable def Tr.mkL {α:Type} (v:Option α) (x r:Tr α):Tr α:=Tr.rec (motive:=fun _=>Tr α) (.node v .nil r) (fun a b c _ _=> .node v (.node a b c) r) x
noncomputable def Tr.mkR {α:Type} (v:Option α) (l x:Tr α):Tr α:=Tr.rec (motive:=fun _=>Tr α) (.node v l .nil) (fun a b c _ _=> .node v l (.node a b c)) x
noncomputable def Tr.TD {α:Type} (f:Nat):Tr α->Nat->Option α->Tr α:=
 Nat.rec (motive:=fun _=>Tr α->Nat->Option α->Tr α) (fun t _ _=>t)
  (fun _ ih t k x=>Tr.rec (motive:=fun _=>Tr α)
   (Nat.rec (motive:=fun _=>Tr α) (.node x .nil .nil) (fun k' _=>Bool.rec (motive:=fun _=>Tr α) (Tr.mkR none .nil (ih .nil (Nat.div k' 2) x)) (Tr.mkL none (ih .nil (Nat.div k' 2) x) .nil) (Nat.beq (Nat.mod k' 2) 0)) k)
   (fun v l r _ _=>Nat.rec (motive:=fun _=>Tr α) (.node x l r) (fun k' _=>Bool.rec (motive:=fun _=>Tr α) (Tr.mkR v l (ih r (Nat.div k' 2) x)) (Tr.mkL v (ih l (Nat.div k' 2) x) r) (Nat.beq (Nat.mod k' 2) 0)) k) t) f
noncomputable def Tr.put {α:Type} (t:Tr α) (k:Nat) (v:Option α):Tr α:=Tr.TD (Nat.succ k) t k v
theorem abd (a b:Nat):Nat.beq a b=decide (a=b):=by rw [am6];simp
theorem B7 {β:Sort _} (a b:β) (c:Nat):Bool.rec (motive:=fun _=>β) a b (Nat.beq c 0)=if c=0 then b else a:=by
 by_cases h:c=0
 ·subst h; rfl
 ·rw [af h];have:Nat.beq c 0=false:=by rw [abd]; simpa using h
  rw [this]
theorem Tr.nZ {α:Type} (v:Option α) (l r:Tr α) (k:Nat) :
 (Tr.node v l r).get k=if k=0 then v else if (k-1) % 2=0 then l.get ((k-1) / 2) else r.get ((k-1) / 2):=by
 cases k with
 |zero=>rfl
 |succ k=> simp only [Nat.add_sub_cancel,Nat.succ_ne_zero,if_false];exact B7 _ _ _
theorem Tr.wc {α:Type} (t:Tr α) (k:Nat) :
 t.get k=if k=0 then t.val else if (k-1) % 2=0 then t.left.get ((k-1) / 2) else t.right.get ((k-1) / 2):=by
 cases t with
 |nil=> have h: ∀j,(Tr.nil:Tr α).get j=none:=fun _=>rfl;simp [h,Tr.val,Tr.left,Tr.right]
 |node v l r=>rw [Tr.nZ]; rfl
theorem Tr.afd {α:Type} (v:Option α) (x r:Tr α):Tr.mkL v x r= .node v x r:=by cases x<;>rfl
theorem Tr.afc {α:Type} (v:Option α) (l x:Tr α):Tr.mkR v l x= .node v l x:=by cases x<;>rfl
theorem Tr.TB {α:Type} (f:Nat) (t:Tr α) (v:Option α):Tr.TD (f+1) t 0 v= .node v t.left t.right:=by cases t<;>rfl
theorem Tr.TC {α:Type} (f:Nat) (t:Tr α) (k:Nat) (v:Option α):Tr.TD (f+1) t (k+1) v=if k % 2=0 then .node t.val (Tr.TD f t.left (k / 2) v) t.right else .node t.val t.left (Tr.TD f t.right (k / 2) v):=by rw [<- Tr.afd,<- Tr.afc];cases t<;>exact B7 _ _ _
theorem Tr.YT {α:Type}: ∀(f:Nat) (t:Tr α) (k:Nat) (v:Option α) (j:Nat),k<f->(Tr.TD f t k v).get j=if j=k then v else t.get j:=by
 intro f
 induction f with
 |zero=>intro t k v j hk; omega
 |succ f ih=>
  intro t k v j hk
  cases k with
  |zero=> rw [Tr.TB,Tr.nZ,Tr.wc t];split<;>simp_all
  |succ k=>
   rw [Tr.TC,Tr.wc t j];split
   ·rename_i h;rw [Tr.nZ];by_cases hj:j=0
    ·subst hj; simp
    ·rw [af hj,af hj];by_cases Z:(j-1) % 2=0
     ·rw [ag Z,ag Z,ih _ _ _ _ J];by_cases h3:j=k+1
      ·subst h3; simp
      ·rw [af h3,af J]
     ·rw [af Z,af Z,af (by intro h3; subst h3; simp at Z; omega)]
   ·rename_i h;rw [Tr.nZ];by_cases hj:j=0
    ·subst hj; simp
    ·rw [af hj,af hj];by_cases Z:(j-1) % 2=0
     ·rw [ag Z,ag Z,af (by intro h3; subst h3; simp at Z; omega)]
     ·rw [af Z,af Z,ih _ _ _ _ J];by_cases h3:j=k+1
      ·subst h3; simp
      ·rw [af h3,af J]
theorem Tr.bQ {α:Type} (t:Tr α) (k:Nat) (v:Option α) (j:Nat):(t.put k v).get j=if j=k then v else t.get j:=
 Tr.YT (Nat.succ k) t k v j (Nat.lt_succ_self _)
inductive D where
 |i (n:Int)
 |p (a b:D)
 deriving DecidableEq,Inhabited
def zN:Int->Nat
 | .ofNat n=>2*n
 | .negSucc n=>2*n+1
theorem VE {a b:Int} (h:zN a=zN b):a=b:=by
 cases a<;>cases b<;>simp only [zN] at h
 all_goals grind
def oz (a b:Nat):Nat:=2 ^ a*(2*b+1)
theorem AM: ∀{a a' b b':Nat},oz a b=oz a' b'->a=a'/\b=b'
 |0,0,b,b',h=>by simp only [oz,aol,ann] at h; omega
 |0,a'+1,b,b',h=>by
  simp only [oz,aol,ann,an6] at h
  grind
 |a+1,0,b,b',h=>by
  simp only [oz,aol,ann,an6] at h
  grind
 |a+1,a'+1,b,b',h=>by
  have U:2 ^ (a+1)*(2*b+1)=2*oz a b:=by unfold oz; rw [an6,aom (2 ^ a) 2,Nat.mul_assoc]
  have Z:2 ^ (a'+1)*(2*b'+1)=2*oz a' b':=by unfold oz; rw [an6,aom (2 ^ a') 2,Nat.mul_assoc]
  have h3:oz a b=oz a' b':=by
   have:oz (a+1) b=oz (a'+1) b':=h;unfold oz at this
   grind
  obtain⟨e1,e2⟩:=AM h3
  grind
def D.enc:D->Nat
 | .i n=>2*zN n
 | .p a b=>2*oz a.enc b.enc+1
theorem D.hU: ∀{a b:D},a.enc=b.enc->a=b
 | .i n,.i m,h=>by simp only [D.enc] at h;rw [VE (a:=n) (b:=m) J]
 | .i n,.p a b,h=>by simp only [D.enc] at h; omega
 | .p a b,.i n,h=>by simp only [D.enc] at h; omega
 | .p a b,.p c d,h=>by simp only [D.enc] at h;obtain⟨U,Z⟩:=AM (a:=a.enc) (b:=b.enc) (a':=c.enc) (b':=d.enc) J;rw [D.hU U,D.hU Z]
open Classical in
noncomputable def dec (z:Int):D:=if h: ∃d:D,(d.enc:Int)=z then h.choose else .i 0
def enc (d:D):Int:=(d.enc:Int)
theorem bB (d:D):dec (enc d)=d:=by unfold dec;have h: ∃d':D,(d'.enc:Int)=enc d:=⟨d,rfl⟩;rw [dif_pos h];have:=h.choose_spec;apply D.hU;unfold enc at this;exact Int.ofNat.inj this
theorem hU {a b:D} (h:enc a=enc b):a=b:=by rw [<- bB a,h,bB]
def D.n:D->Int
 | .i n=>n
 | .p _ _=>0
def D.l:D->List D
 | .i _=>[]
 | .p a b=>a::b.l
def dL:List D->D
 |[]=> .i 0
 |a::l=> .p a (dL l)
@[simp] theorem bJ: ∀l:List D,(dL l).l=l
 |[]=>rfl
 |a::l=>by simp [dL,D.l,bJ l]
theorem Fc {a b:List D} (h:dL a=dL b):a=b:=by rw [<- bJ a,h,bJ]
def D.at (d:D) (i:Int):D:=(d.l[i.toNat]?).getD (.i 0)
def D.hd (d:D) (j:Nat):D:=(d.l[j]?).getD (.i 0)
def pQ (l:List UInt8):D:=dL (l.map fun b=> .i (b.toNat:Int))
def tz (s:ByteArray):D:=pQ s.data.toList
def lg (l:List Nat):D:=dL (l.map fun b=> .i (Int.ofNat b))
theorem Pn {a b:List UInt8} (h:pQ a=pQ b):a=b:=by
 have:=Fc h
 have LG: ∀{x y:UInt8},(D.i (x.toNat:Int))= .i (y.toNat:Int)->x=y:=by intro x y h;simp only [D.i.injEq,an7] at h;exact UInt8.toNat_inj.1 h
 induction a generalizing b with
 |nil=>cases b with
  |nil=>rfl
  |cons y b=>simp at this
 |cons x a ih=>cases b with
  |nil=>simp at this
  |cons y b=> simp only [aw,List.cons.injEq] at this;rw [LG this.1,ih (by unfold pQ; rw [this.2]) this.2]
theorem E9 {a b:ByteArray} (h:tz a=tz b):a=b:=by
 have:=Pn h
 cases a with
 |mk x=>cases b with
  |mk y=>simp only [ByteArray.mk.injEq] at *; exact aon.1 this
theorem zV (l:List Nat) (h: ∀b∈l,b<256):lg l=pQ (l.map UInt8.ofNat):=by unfold lg pQ;congr 1;rw [am7];apply anH;intro b hb;have:=h b hb;simp [ang this]
theorem h! (s:ByteArray):(tz s).l.length=s.size:=by unfold tz pQ;rw [bJ,aL];rfl
inductive e9 where
 |len
 |at
 |cell (j:Nat)
 |num
 |mk
 |cons
 |snoc
 |cat
 |take
 |drop
 |set
 |bit
 |norm
 |sub
 |fill
 |idx
 |cnt
 |con
 |slt
 |Ld
 |DV
 |uS
 |Lg
 |rep
 |sort
 |comp
 |My
 deriving DecidableEq,Inhabited
def eY (d:D) (l:List D):D:=match l with
 |[]=>if d= .i 1 then .i 1 else .i 2
 |l=>dL l
theorem gw (d:D) (l:List D):(eY d l).l=l:=by
 cases l with
 |nil=>simp only [eY]; split<;>rfl
 |cons a l=>simp [eY]
theorem vv {d:D} {l:List D} (h:l≠[]):eY d l=dL l:=by
 cases l with
 |nil=>exact absurd rfl h
 |cons a l=>rfl
theorem oX {d:D} (h:d≠.i 1):eY d []= .i 2:=by
 show (if d= .i 1 then D.i 1 else D.i 2)= .i 2
 grind
theorem UH {d:D} (h:d≠.i 1) (l:List D):eY d l≠.i 1:=by
 cases l with
 |nil=>rw [oX h]; simp
 |cons a l=>simp [eY,dL]
theorem xV {d:D} {l m:List D} (h:d= .i 1->l= []):eY (eY d l) m=eY d m:=by
 cases m with
 |cons a m=>rfl
 |nil=>
  by_cases U:d= .i 1
  ·rw [h U,U]; rfl
  ·rw [oX U,oX (UH U l)]
def qL (z:Int):List D->Int->Int
 |[],_=> -1
 |d::l,i=>match d with
  | .i n=>if n=z then i else qL z l (i+1)
  |_=>qL z l (i+1)
def Fe (l:List D) (z:Int):Int:=qL z l 0
def Pl:List D->List D->Bool
 |[],_=>true
 |_::_,[]=>false
 |a::x,b::y=>decide (a=b)&&Pl x y
def UJ (l x:List D):Bool:=match l with
 |[]=>Pl x []
 |a::l=>Pl x (a::l)||UJ l x
def j! (l:List D) (z:Int):Int:=match l with
 |[]=>0
 |d::l=>(if d= .i z then 1 else 0)+j! l z
def Mr:List D->List D->Bool
 |[],[]=>false
 |[],_::_=>true
 |_::_,[]=>false
 |a::x,b::y=>if a.n<b.n then true else if b.n<a.n then false else Mr x y
def fC (ds:List D) (z:Int) (x:D):List D:=if z<0 then ds else ds.set z.toNat x
theorem gu (ds:List D) (z:Int) (x:D):(fC ds z x).length=ds.length:=by
 unfold fC; split
 all_goals grind
theorem pe (ds:List D) (k:Nat) (x:D):fC ds (k:Int) x=ds.set k x:=by unfold fC; rw [af J]; rfl
def jk:D->D
 | .p k _=>k
 |d=>d
def FY:D->D
 | .p _ v=>v
 |d=>d
def gf:List D->D->Option D
 |[],_=>none
 |d::l,k=>if jk d=k then some (FY d) else gf l k
def j8:List D->D->D->List D
 |[],k,v=>[.p k v]
 |d::l,k,v=>if jk d=k then .p k v::l else d::j8 l k v
def FP:List D->D->List D
 |[],_=>[]
 |d::l,k=>if jk d=k then l else d::FP l k
def eO (l:List D):List D:=((l.map D.n).mergeSort fun x y=>decide (x<=y)).map D.i
def gk (l:List D):List D:=(Lib.compact (l.map D.n)).map D.i
noncomputable def e9.den (o:e9) (x y:Int):Int:=match o with
 | .len=>((dec x).l.length:Int)
 | .at=>enc ((dec x).at y)
 | .cell j=>enc ((dec x).hd j)
 | .num=>(dec x).n
 | .mk=>enc (.i x)
 | .cons=>enc (.p (dec x) (dec y))
 | .snoc=>enc (dL ((dec x).l++ [dec y]))
 | .cat=>enc (dL ((dec x).l++(dec y).l))
 | .take=>enc (eY (dec x) ((dec x).l.take y.toNat))
 | .drop=>enc (eY (dec x) ((dec x).l.drop y.toNat))
 | .set=>match dec y with
   | .p q v=>enc (dL (fC (dec x).l q.n v))
   |_=>x
 | .bit=>enc (.i (if (dec x).n=0 then 0 else 1))
 | .norm=>enc (dec x)
 | .sub=>enc (dL (((dec x).l.take ((dec y).hd 1).n.toNat).drop ((dec y).hd 0).n.toNat))
 | .fill=>match dec y with
   | .p q v=>enc (dL ((dec x).l.take q.n.toNat++List.replicate ((dec x).l.length-q.n.toNat) v))
   |_=>x
 | .idx=>Fe (dec x).l y
 | .cnt=>j! (dec x).l y
 | .con=>if UJ (dec x).l (dec y).l then 1 else 0
 | .slt=>if Mr (dec x).l (dec y).l then 1 else 0
 | .Ld=>if (gf (dec x).l (dec y)).isSome then 1 else 0
 | .DV=>enc ((gf (dec x).l (dec y)).getD (.i 0))
 | .uS=>match dec y with
   | .p k v=>enc (dL (j8 (dec x).l k v))
   |_=>x
 | .Lg=>enc (dL (FP (dec x).l (dec y)))
 | .rep=>enc (dL (List.replicate x.toNat (dec y)))
 | .sort=>enc (dL (eO (dec x).l))
 | .comp=>enc (dL (gk (dec x).l++List.replicate ((dec x).l.length-(gk (dec x).l).length) (.i 0)))
 | .My=>((gk (dec x).l).length:Int)
def e9.tag:e9->Nat
 | .len=>0
 | .at=>1
 | .cell j=>j+26
 | .num=>2
 | .mk=>3
 | .cons=>4
 | .snoc=>5
 | .cat=>6
 | .take=>7
 | .drop=>8
 | .set=>9
 | .bit=>10
 | .norm=>11
 | .sub=>12
 | .fill=>13
 | .idx=>14
 | .cnt=>15
 | .con=>16
 | .slt=>17
 | .Ld=>18
 | .DV=>19
 | .uS=>20
 | .Lg=>21
 | .rep=>22
 | .sort=>23
 | .comp=>24
 | .My=>25
theorem e9.O! {a b:e9} (h:a.tag=b.tag):a=b:=by
 cases a<;>cases b<;>simp only [e9.tag] at h<;>first |rfl|(congr 1; omega)|omega
inductive CK where
 |int (k:IntKind)
 |bool
 |str
 |sl (t:Nat)
 deriving DecidableEq,Inhabited
inductive Row where
 |one (c:CK)
 |many (cs:List CK)
 deriving DecidableEq,Inhabited
def Row.es:Row->Nat
 | .one _=>1
 | .many cs=>cs.length
def rowOf (t:Nat):Row:=match t with
 |0=> .one (.int .i64)
 |1=> .one (.int .i64)
 |2=> .one .str
 |3=> .many [.int .u8,.str,.int .i64,.str,.int .i64]
 |4=> .many [.str,.sl 2,.sl 5]
 |5=> .many [.int .u8,.int .u8,.int .i64,.int .i64,.int .i64,.int .i64,.sl 6]
 |6=> .many [.int .u8,.str,.int .i64,.sl 6]
 |7=> .many [.int .i64,.int .i64,.bool,.int .i64,.sl 0,.sl 0]
 |8=> .many [.int .i64,.sl 0,.int .u8,.int .i64,.int .i64,.int .i64]
 |9=> .many [.int .i64,.int .u8,.int .i64,.int .i64,.int .i64]
 |10=> .one (.sl 0)
 |11=> .many [.int .i64,.int .i64,.int .i64]
 |12=> .many [.int .i64,.int .i64]
 |13=> .many [.int .i64,.int .u8,.int .i64,.int .i64,.int .i64]
 |14=> .one (.int .u8)
 |15=> .one (.sl 0)
 |16=> .many [.sl 7,.sl 8]
 |_=> .one .bool
def mapOf (t:Nat):Row×Row:=match t with
 |0=>(.one (.int .i64),.one (.int .i64))
 |1=>(.one .str,.one (.int .i64))
 |2=>(.one (.int .i64),.one (.sl 0))
 |4=>(.many [.int .i64,.int .i64],.one (.int .i64))
 |5=>(.many [.int .i64,.int .i64],.one (.sl 0))
 |6=>(.one (.int .i64),.many [.int .i64,.int .i64,.int .i64])
 |_=>(.one (.int .i64),.one .bool)
inductive FC where
 |ck (c:CK)
 |own (t:Nat)
 |mp (t:Nat)
 deriving DecidableEq,Inhabited
structure FK where
 ptr:Bool
 cs:List FC
def qI (t:Nat):FK:=match t with
 |0=> ⟨false,[.own 0]⟩
 |1=> ⟨true,[.ck (.int .i64),.mp 0,.ck (.int .i64),.ck (.int .i64),.ck .bool,.own 0]⟩
 |_=> ⟨true,[.ck (.sl 0),.ck (.int .i64),.ck .bool,.ck .bool]⟩
def oo (c:CK) (d:D):Prop:=match c with
 | .int _=>d= .i d.n
 | .bool=>d= .i 0\/d= .i 1
 |_=>True
def wF (cs:List CK) (d:D):Prop:=d=dL d.l/\d.l.length=cs.length/\∀(j:Nat) (c:CK) (x:D),cs[j]?=some c->d.l[j]?=some x->oo c x
def oH (r:Row) (d:D):Prop:=match r with
 | .one c=>oo c d
 | .many cs=>wF cs d
def sg (r:Row) (d:D):Prop:=d=dL d.l/\(∀x∈d.l,oH r x)/\d.l≠[]
end Go.As
end
section
namespace Go.As
noncomputable section
inductive V where
 |lit (n:Int)
 |dG (i:Nat)
 |add (a b:V)
 |sub (a b:V)
 |mul (a b:V)
 |quo (a b:V)
 |rem (a b:V)
 |wrap (k:IntKind) (a:V)
 |v7 (b:Nat) (e:V)
 |ei (d:D)
 |op (o:e9) (a b:V)
 |ap (f:Nat) (a:V)
 deriving DecidableEq,Inhabited
def ja (f:Nat) (z:Int):Nat:=1000+oz f (zN z)*64+63
noncomputable def V.den (ρ:Nat->Int):V->Int
 | .lit n=>n
 | .dG i=>ρ i
 | .add a b=>a.den ρ+b.den ρ
 | .sub a b=>a.den ρ-b.den ρ
 | .mul a b=>a.den ρ*b.den ρ
 | .quo a b=>(a.den ρ).tdiv (b.den ρ)
 | .rem a b=>(a.den ρ).tmod (b.den ρ)
 | .wrap k a=>k.wrap (a.den ρ)
 | .v7 b e=>ρ (1000+(e.den ρ).toNat*64+b)
 | .ei d=>enc d
 | .op o a b=>o.den (a.den ρ) (b.den ρ)
 | .ap f a=>ρ (ja f (a.den ρ))
def uU:Int->Int->Bool
 | .ofNat a,.ofNat b=>Nat.beq a b
 | .negSucc a,.negSucc b=>Nat.beq a b
 |_,_=>false
def D.eqb:D->D->Bool
 | .i a,.i b=>uU a b
 | .p a b,.p c d=>match D.eqb a c with |true=>D.eqb b d|false=>false
 |_,_=>false
theorem vZ {a b:Int} (h:uU a b=true):a=b:=by cases a<;>cases b<;>simp [uU] at h<;>rw [h]
theorem D.O3: ∀{a b:D},D.eqb a b=true->a=b
 | .i a,.i b,h=>by simp only [D.eqb] at h; rw [vZ h]
 | .p a b,.p c d,h=>by
   simp only [D.eqb] at h;split at h
   ·rename_i U; rw [D.O3 U,D.O3 h]
   grind
 | .i _,.p _ _,h=>by simp [D.eqb] at h
 | .p _ _,.i _,h=>by simp [D.eqb] at h
def eV:V->V->Bool
 | .lit a,.lit b=>a == b
 | .dG i,.dG j=>Nat.beq i j
 | .add a b,.add c d=>match eV a c with |true=>eV b d|false=>false
 | .sub a b,.sub c d=>match eV a c with |true=>eV b d|false=>false
 | .mul a b,.mul c d=>match eV a c with |true=>eV b d|false=>false
 | .quo a b,.quo c d=>match eV a c with |true=>eV b d|false=>false
 | .rem a b,.rem c d=>match eV a c with |true=>eV b d|false=>false
 | .wrap k a,.wrap l b=>match eV a b with |true=>decide (k=l)|false=>false
 | .v7 i a,.v7 j b=>match Nat.beq i j with |true=>eV a b|false=>false
 | .ei a,.ei b=>D.eqb a b
 | .op o a b,.op q c d=>match Nat.beq o.tag q.tag with
   |true=>match eV a c with |true=>eV b d|false=>false
   |false=>false
 | .ap f a,.ap g b=>match Nat.beq f g with |true=>eV a b|false=>false
 |_,_=>false
theorem cG: ∀(a b:V),eV a b=true->a=b
 | .lit a,b,h=>by cases b<;>simp [eV] at h; rw [h]
 | .dG i,b,h=>by cases b<;>simp [eV] at h; rw [h]
 | .add a b,c,h=>by cases c<;>simp only [eV,aP] at h; split at h<;>first |(rename_i U; rw [cG _ _ U,cG _ _ h]; done)|simp at h
 | .sub a b,c,h=>by cases c<;>simp only [eV,aP] at h; split at h<;>first |(rename_i U; rw [cG _ _ U,cG _ _ h]; done)|simp at h
 | .mul a b,c,h=>by cases c<;>simp only [eV,aP] at h; split at h<;>first |(rename_i U; rw [cG _ _ U,cG _ _ h]; done)|simp at h
 | .quo a b,c,h=>by cases c<;>simp only [eV,aP] at h; split at h<;>first |(rename_i U; rw [cG _ _ U,cG _ _ h]; done)|simp at h
 | .rem a b,c,h=>by cases c<;>simp only [eV,aP] at h; split at h<;>first |(rename_i U; rw [cG _ _ U,cG _ _ h]; done)|simp at h
 | .wrap k a,c,h=>by cases c<;>simp only [eV,aP] at h; split at h<;>first |(rename_i U; rw [cG _ _ U,of_decide_eq_true h]; done)|simp at h
 | .v7 i a,c,h=>by cases c<;>simp only [eV,aP] at h; split at h<;>first |(rename_i U; rw [aq U,cG _ _ h]; done)|simp at h
 | .ei a,c,h=>by cases c<;>simp only [eV,aP] at h; rw [D.O3 h]
 | .op o a b,c,h=>by
   cases c<;>simp only [eV,aP] at h;split at h
   ·rename_i h0;split at h
    ·rename_i U;rw [e9.O! (aq h0),cG _ _ U,cG _ _ h]
    grind
   grind
 | .ap f a,c,h=>by cases c<;>simp only [eV,aP] at h; split at h<;>first |(rename_i U; rw [aq U,cG _ _ h]; done)|simp at h
inductive SB where
 |lit (b:Bool)
 |lt (a b:V)
 |le (a b:V)
 |eq (a b:V)
 |not (s:SB)
 |and (a b:SB)
 deriving DecidableEq,Inhabited
noncomputable def SB.den (ρ:Nat->Int):SB->Bool
 | .lit b=>b
 | .lt a b=>decide (a.den ρ<b.den ρ)
 | .le a b=>decide (a.den ρ<=b.den ρ)
 | .eq a b=>a.den ρ == b.den ρ
 | .not s=>!(s.den ρ)
 | .and a b=>a.den ρ&&b.den ρ
def rZ (k:IntKind) (n:Int):Int:=
 match k with
 | .i64=>if -9223372036854775808<=n/\n<=9223372036854775807 then n else k.wrap n
 | .u8=>if 0<=n/\n<=255 then n else k.wrap n
 |_=>k.wrap n
inductive MS where
 |exact (c:Nat)
 |rest (es:Nat)
 deriving DecidableEq,Inhabited
inductive W where
 |bool (b:SB)
 |int (k:IntKind) (e:V)
 |str (s:List Nat)
 |ptr (id off:Nat)
 |sL
 |mK (cells:List W)
 |slice (id off len:Nat) (c:MS)
 |dq
 |ro (cells:List W) (n:Nat) (full:Bool)
 |map (id:Nat)
 |qX
 |func (fn:Fn) (fs cs:List W)
 |uR
 |iface (t:Nat) (v:W)
 |wI
 |agg (cs:List W)
 |tuple (vs:List W)
 |Kh (i:Nat)
 |v7 (k:Nat) (ks:List IntKind)
 |ei (e:V) (t:Nat)
 |jC (e:V)
 |ow (id:Nat) (n:V) (t:Nat)
 |yi (id es:Nat) (i:V) (off:Nat)
 |emp
 |sk (id:Nat) (lo n:V) (t:Nat)
 |any
 |wL (z:V) (t:Nat)
 deriving Inhabited
def W.undef:W:=.tuple []
def W.cells:W->List W
 | .agg cs=>cs
 |v=>[v]
def W.one:W->Bool
 | .agg _=>false
 | .tuple _=>false
 | .Kh _=>false
 | .any=>false
 |_=>true
inductive dN where
 |cells (cs:List W) (e:TypeId)
 |map (es:List (W×W×Nat)) (clock:Nat)
 |j4 (s:List Nat) (pos:Nat)
 |jt (m:Option Nat) (since:Nat) (seen:List Nat) (last:Nat)
 |vec (e:V) (t:Nat) (ty:TypeId) (ov:List (V×List W))
 |jS (e:V) (t:Nat)
 |uc (e:V) (t:Nat) (e8:List Nat) (ov:List (V×W))
 deriving Inhabited
structure Hp where
 m:Tr dN
 next:Nat
 res:Option Nat:=none
 deriving Inhabited
def Hp.get (h:Hp) (i:Nat):Option dN:=h.m.get i
def Hp.put (h:Hp) (i:Nat) (o:dN):Hp:=⟨h.m.put i (some o),h.next,h.res⟩
def Hp.drop (h:Hp) (i:Nat):Hp:=⟨h.m.put i none,h.next,h.res⟩
def Hp.fresh (h:Hp):Nat:=match h.res with
 |none=>h.next
 |some r=>r
def Hp.new (h:Hp) (o:dN):Hp:=match h.res with
 |none=> ⟨h.m.put h.next (some o),h.next+1,none⟩
 |some r=> ⟨h.m.put r (some o),h.next,none⟩
inductive T (α:Type) where
 |fail
 |ret (a:α)
 |split (c:SB) (t f:T α)
 deriving Inhabited
def T.bind {α β:Type}:T α->(α->T β)->T β
 | .fail,_=> .fail
 | .ret a,f=>f a
 | .split c x y,f=> .split c (x.bind f) (y.bind f)
def T.leaf {α:Type} (ρ:Nat->Int):T α->Option α
 | .fail=>none
 | .ret a=>some a
 | .split c x y=>match c.den ρ with
   |true=>x.leaf ρ
   |false=>y.leaf ρ
inductive TK where
 |bool
 |int (k:IntKind)
 |string
 |pointer (e:Nat)
 |slice (e:Nat)
 |array (n e:Nat)
 |map (k e:Nat)
 |struct (fs:List (Nat×Nat×Nat))
 |func
 |iface (plain:Bool)
 |tuple
 deriving DecidableEq,Inhabited
structure TI where
 kind:TK
 size:Nat
 bytes:Nat
 zero:List W
 eqs:Bool
 own:Option Nat:=none
 deriving Inhabited
def TK.agg (k:TK):Bool:=match k with | .struct _=>true| .array _ _=>true|_=>false
def TI.agg (i:TI):Bool:=i.kind.agg
abbrev TT:=Nat->Option TI
def bytesOf (s:ByteArray):List Nat:=s.data.toList.map (·.toNat)
def gH:Value->Option W
 | .bool b=>some (.bool (.lit b))
 | .int k n=>some (.int k (.lit n))
 | .string s=>some (.str (bytesOf s))
 | .pointer none=>some .sL
 | .slice none 0 0=>some .dq
 | .map none=>some .qX
 | .nilFunc=>some .uR
 | .nilIface=>some .wI
 | .func fn f c=>if f.isEmpty&&c.isEmpty then some (.func fn [] []) else none
 |_=>none
def kJ:List Value->Option (List W)
 |[]=>some []
 |v::vs=>match gH v with
  |none=>none
  |some a=>match kJ vs with
   |none=>none
   |some amP=>some (a::amP)
def ofConst:Value->Option W
 | .agg cs=>(kJ cs.toList).map .agg
 | .tuple vs=>(kJ vs.toList).map .tuple
 |v=>gH v
def qp (a b:V):SB:=match eV a b with
 |true=> .lit true
 |false=>match a with
  | .ei _=> .eq b a
  |_=> .eq a b
def yz (x:V):V:=match x with
 | .op o a _=>match o with
   | .mk=>a
   |_=> .op .num x (.lit 0)
 | .ei d=>match d with
   | .i n=> .lit n
   |_=> .op .num x (.lit 0)
 |_=> .op .num x (.lit 0)
def ng (x:V):V:=match x with
 | .lit n=> .ei (.i n)
 |x=> .op .mk x (.lit 0)
def iK (j:Nat) (x:V):V:=match x with
 | .op o a b=>match o with
   | .cons=>match j with
     |0=>a
     |j+1=>iK j b
   |_=> .op (.cell j) x (.lit 0)
 |_=> .op (.cell j) x (.lit 0)
def dM (x:V):V:=match x with
 | .op o a _=>match o with
   | .set=>dM a
   |_=> .op .len x (.lit 0)
 | .ei d=> .lit (Int.ofNat d.l.length)
 |_=> .op .len x (.lit 0)
def eE (a b:V):V:=.op .cons a b
def Og (x:V):Bool:=match x with
 | .ei d=>match d with
   | .i n=>uU n 0
   |_=>false
 |_=>false
def vx (c:CK) (x:V):W:=match c with
 | .int k=> .int k (yz x)
 | .bool=> .bool (.not (.eq (yz x) (.lit 0)))
 | .str=> .jC x
 | .sl t=> .ei x t
def iw:List CK->Nat->V->List W
 |[],_,_=>[]
 |c::cs,j,x=>vx c (iK j x)::iw cs (j+1) x
def gz (r:Row) (x:V):List W:=match r with
 | .one c=>[vx c x]
 | .many cs=>iw cs 0 x
def my (x:V):V:=match x with
 | .ei d=> .ei d
 | .op o a b=>match o with
   | .cell j=> .op (.cell j) a b
   | .at=> .op .at a b
   |o=> .op .norm (.op o a b) (.lit 0)
 |x=> .op .norm x (.lit 0)
def tJ:W->Option V
 | .str l=>some (.ei (lg l))
 | .jC e=>some e
 |_=>none
def Br (x y:W):Option SB:=match tJ x with
 |none=>none
 |some a=>match tJ y with
  |none=>none
  |some b=>some (qp (my a) (my b))
def lQ (c:CK) (v:W):Option V:=match c with
 | .int k=>match v with
   | .int k' e=>if k=k' then some (ng e) else none
   |_=>none
 | .bool=>match v with
   | .bool c=>match c with
     | .lit b=>some (.ei (.i (if b then 1 else 0)))
     | .not d=>match d with
       | .eq x z=>match z with
         | .lit n=>if n=0 then some (.op .bit (ng x) (.lit 0)) else none
         |_=>none
       |_=>none
     |_=>none
   |_=>none
 | .str=>tJ v
 | .sl t=>match v with
   | .ei e t'=>if t=t' then some e else none
   | .dq=>some (.ei (.i 1))
   | .wL z t'=>if t=t' then some z else none
   | .slice _ _ n _=>match n with
     |0=>some (.ei (.i 2))
     |_=>none
   |_=>none
def iu:List CK->List W->Option V
 |[],[]=>some (.ei (.i 0))
 |c::cs,v::vs=>match lQ c v with
  |none=>none
  |some a=>match iu cs vs with
   |none=>none
   |some b=>some (eE a b)
 |_,_=>none
def qN (r:Row) (cs:List W):Option V:=match r with
 | .one c=>match cs with
   |[v]=>lQ c v
   |_=>none
 | .many ks=>iu ks cs
def kz (r:Row) (e:V):Nat->List W->Option V
 |0,[]=>some e
 |0,_::_=>none
 |m+1,cs=>match qN r (cs.take r.es) with
  |none=>none
  |some x=>kz r (.op .snoc e x) m (cs.drop r.es)
structure St where
 bF:Tr W
 h:Hp
 pc:List (SB×Bool)
 deriving Inhabited
def St.set (s:St) (t:Nat) (v:W):St:={ s with bF:=s.bF.put t (some v) }
def St.KL (s:St) (d:Option Nat) (v:W):St:=match d with |some t=>s.set t v|none=>s
def ev (s:St):Operand->Option W
 | .tmp t=>s.bF.get t
 | .const v=>ofConst v
 | .func f=>some (.func (.func f) [] [])
 | .global _=>none
def evs (s:St):List Operand->Option (List W)
 |[]=>some []
 |x::xs=>match ev s x with
  |none=>none
  |some a=>match evs s xs with
   |none=>none
   |some amP=>some (a::amP)
def oe:SB->SB->Bool
 | .lit a,.lit b=>a == b
 | .lt a b,.lt c d=>match eV a c with |true=>eV b d|false=>false
 | .le a b,.le c d=>match eV a c with |true=>eV b d|false=>false
 | .eq a b,.eq c d=>match eV a c with |true=>eV b d|false=>false
 | .not a,.not b=>oe a b
 | .and a b,.and c d=>match oe a c with |true=>oe b d|false=>false
 |_,_=>false
theorem rI: ∀(a b:SB),oe a b=true->a=b
 | .lit a,b,h=>by cases b<;>simp [oe] at h; rw [h]
 | .lt a b,c,h=>by cases c<;>simp only [oe,aP] at h; split at h<;>first |(rename_i U; rw [cG _ _ U,cG _ _ h]; done)|simp at h
 | .le a b,c,h=>by cases c<;>simp only [oe,aP] at h; split at h<;>first |(rename_i U; rw [cG _ _ U,cG _ _ h]; done)|simp at h
 | .eq a b,c,h=>by cases c<;>simp only [oe,aP] at h; split at h<;>first |(rename_i U; rw [cG _ _ U,cG _ _ h]; done)|simp at h
 | .not a,c,h=>by cases c<;>simp only [oe,aP] at h; rw [rI _ _ h]
 | .and a b,c,h=>by cases c<;>simp only [oe,aP] at h; split at h<;>first |(rename_i U; rw [rI _ _ U,rI _ _ h]; done)|simp at h
def nj (c:SB):List (SB×Bool)->Option Bool
 |[]=>none
 |(d,b)::l=>match oe c d with
  |true=>some b
  |false=>nj c l
def XS (a:Option Int) (z:Int):Option Int:=match a with
 |none=>some z
 |some y=>some (if y<z then z else y)
def XQ (a:Option Int) (z:Int):Option Int:=match a with
 |none=>some z
 |some y=>some (if z<y then z else y)
def XD (a:Option Int) (z:Int):Option Int:=match a with
 |none=>none
 |some y=>some (if y=z then z+1 else y)
def XF (a:Option Int) (z:Int):Option Int:=match a with
 |none=>none
 |some y=>some (if y=z then z-1 else y)
def SG (e:V):Option Int×Option Int:=match e with
 | .rem a c=>match c with
   | .lit k=>match a with
     | .add b d=>match d with
       | .lit m=>match b with
         | .rem _ f=>match f with
           | .lit n=>if 0<n/\n=m/\m=k then (some 0,some (n-1)) else (none,none)
           |_=>(none,none)
         |_=>(none,none)
       |_=>(none,none)
     |_=>(none,none)
   |_=>(none,none)
 | .op o _ _=>match o with
   | .len=>(some 0,none)
   |_=>(none,none)
 |_=>(none,none)
def bounds (e:V):List (SB×Bool)->Option Int×Option Int
 |[]=>SG e
 |(c,v)::l=>match c with
  | .lt x y=>match x with
    | .lit z=>match eV y e with
      |false=>bounds e l
      |true=>match bounds e l with
       |(lo,hi)=>match v with
        |true=>(XS lo (z+1),hi)
        |false=>(lo,XQ hi z)
    |x=>match y with
     | .lit z=>match eV x e with
       |false=>bounds e l
       |true=>match bounds e l with
        |(lo,hi)=>match v with
         |true=>(lo,XQ hi (z-1))
         |false=>(XS lo z,hi)
     |_=>bounds e l
  | .eq x y=>match y with
    | .lit z=>match v with
      |false=>match eV x e with
       |false=>bounds e l
       |true=>match bounds e l with
        |(lo,hi)=>(XD lo z,XF hi z)
      |true=>match eV x e with
       |false=>bounds e l
       |true=>(some z,some z)
    |_=>bounds e l
  |_=>bounds e l
def oP (e:V) (pc:List (SB×Bool)):Option Int×Option Int:=match e with
 | .wrap k s=>match k with
   | .i64=>match s with
     | .add b d=>match d with
       | .lit c=>match bounds b pc with
         |(some lo,some hi)=>if -9223372036854775808<=lo+c/\hi+c<=9223372036854775807 then (match bounds e pc with
          |(l2,Z)=>(XS l2 (lo+c),XQ Z (hi+c))) else bounds e pc
         |_=>bounds e pc
       |_=>bounds e pc
     |_=>bounds e pc
   |_=>bounds e pc
 |_=>bounds e pc
def QS (a b:V) (pc:List (SB×Bool)):Option Bool:=match nj (.eq a b) pc with
 |some v=>some v
 |none=>nj (.eq b a) pc
def decLt (pc:List (SB×Bool)) (a b:V):Option Bool:=match nj (.lt a b) pc with
 |some v=>some v
 |none=>match a with
  | .lit z=>match oP b pc with
    |(lo,hi)=>match lo with
     |some l=>if z<l then some true else match hi with
      |some h=>if h<=z then some false else none
      |none=>none
     |none=>match hi with
      |some h=>if h<=z then some false else none
      |none=>none
  |a=>match b with
   | .lit z=>match oP a pc with
     |(lo,hi)=>match hi with
      |some h=>if h<z then some true else match lo with
       |some l=>if z<=l then some false else none
       |none=>none
      |none=>match lo with
       |some l=>if z<=l then some false else none
       |none=>none
   |b=>match QS a b pc with
    |some true=>some false
    |some false=>match nj (.lt b a) pc with
     |some v=>some !v
     |none=>none
    |none=>match nj (.lt b a) pc with
     |some true=>some false
     |_=>none
def decEq (pc:List (SB×Bool)) (a b:V):Option Bool:=match QS a b pc with
 |some v=>some v
 |none=>match b with
  | .lit z=>match oP a pc with
    |(lo,hi)=>match lo with
     |some l=>if z<l then some false else match hi with
      |some h=>if h<z then some false else if l=z/\h=z then some true else none
      |none=>none
     |none=>match hi with
      |some h=>if h<z then some false else none
      |none=>none
  |b=>match nj (.lt a b) pc with
   |some true=>some false
   |some false=>match nj (.lt b a) pc with
    |some v=>some !v
    |none=>none
   |none=>match nj (.lt b a) pc with
    |some true=>some false
    |_=>none
def jK:V->Option (Sum Int D)
 | .lit n=>some (.inl n)
 | .ei d=>some (.inr d)
 | .op o a b=>match o with
   | .num=>match jK a with
     |some (.inr d)=>some (.inl d.n)
     |_=>none
   | .mk=>match jK a with
     |some (.inl n)=>some (.inr (.i n))
     |_=>none
   | .cons=>match jK a,jK b with
     |some (.inr x),some (.inr y)=>some (.inr (.p x y))
     |_,_=>none
   | .DV=>match jK a,jK b with
     |some (.inr x),some (.inr y)=>some (.inr ((gf x.l y).getD (.i 0)))
     |_,_=>none
   | .uS=>match jK a,jK b with
     |some (.inr x),some (.inr (.p k v))=>some (.inr (dL (j8 x.l k v)))
     |_,_=>none
   | .Lg=>match jK a,jK b with
     |some (.inr x),some (.inr y)=>some (.inr (dL (FP x.l y)))
     |_,_=>none
   | .Ld=>match jK a,jK b with
     |some (.inr x),some (.inr y)=>some (.inl (if (gf x.l y).isSome then 1 else 0))
     |_,_=>none
   | .norm=>match jK a with
     |some (.inr x)=>some (.inr x)
     |_=>none
   |_=>none
 | .wrap k a=>match jK a with
   |some (.inl n)=>some (.inl (rZ k n))
   |_=>none
 | .mul a b=>match jK a,jK b with
   |some (.inl x),some (.inl y)=>some (.inl (x*y))
   |_,_=>none
 | .quo a b=>match jK a,jK b with
   |some (.inl x),some (.inl y)=>some (.inl (x.tdiv y))
   |_,_=>none
 | .rem a b=>match jK a,jK b with
   |some (.inl x),some (.inl y)=>some (.inl (x.tmod y))
   |_,_=>none
 |_=>none
def C3 (pc:List (SB×Bool)) (c:SB):Option Bool:=
 match c with
 | .lit b=>some b
 | .lt a b=>match jK a,jK b with
   |some (.inl x),some (.inl y)=>some (decide (x<y))
   |_,_=>decLt pc a b
 | .eq a b=>match jK a,jK b with
   |some (.inl x),some (.inl y)=>some (decide (x=y))
   |_,_=>decEq pc a b
 |c=>nj c pc
def jQ (pc:List (SB×Bool)) (c:SB):Option Bool:=
 match c with
 | .not s=>(C3 pc s).map (!·)
 |c=>C3 pc c
def jo {α:Type} (s:St) (c:SB) (f:St->Bool->T α):T α:=
 match jQ s.pc c with
 |some b=>f s b
 |none=>match c with
  | .not d=> .split d (f { s with pc:=(d,true)::s.pc } false) (f { s with pc:=(d,false)::s.pc } true)
  |c=> .split c (f { s with pc:=(c,true)::s.pc } true) (f { s with pc:=(c,false)::s.pc } false)
def Xh (k:IntKind):V->V->V
 | .lit x,.lit y=> .lit (rZ k (x+y))
 |a,b=> .wrap k (.add a b)
def QA (k:IntKind):V->V->V
 | .lit x,.lit y=> .lit (rZ k (x-y))
 |a,b=> .wrap k (.sub a b)
def Xg (k:IntKind):V->V->V
 | .lit x,.lit y=> .lit (rZ k (x*y))
 |a,b=> .wrap k (.mul a b)
def gV:V->V->SB
 | .lit x,.lit y=> .lit (decide (x<y))
 |a,b=> .lt a b
def U':V->V->SB
 | .lit x,.lit y=> .lit (decide (x<=y))
 |a,b=> .not (.lt b a)
def qS:V->V->SB
 | .lit x,.lit y=> .lit (x == y)
 | .lit x,b=> .eq b (.lit x)
 |a,b=>match eV a b with
  |true=> .lit true
  |false=> .eq a b
def wT:SB->SB
 | .lit b=> .lit !b
 | .not s=>s
 |s=> .not s
def Xj:SB->SB->SB
 | .lit true,b=>b
 | .lit false,_=> .lit false
 |a,.lit true=>a
 |_,.lit false=> .lit false
 |a,b=> .and a b
def bytesLess:List Nat->List Nat->Bool
 |_,[]=>false
 |[],_::_=>true
 |a::x,b::y=>if a.blt b then true else if a.beq b then bytesLess x y else false
def gC:List Nat->List Nat->Bool
 |[],[]=>true
 |a::x,b::y=>if a.beq b then gC x y else false
 |_,_=>false
def KG (op:BinOp) (x y:List Nat):Option W:=
 match op with
 | .add=>if x.length+y.length<=1000000 then some (.str (x++y)) else none
 | .eql=>some (.bool (.lit (gC x y)))
 | .neq=>some (.bool (.lit !(gC x y)))
 | .lss=>some (.bool (.lit (bytesLess x y)))
 | .leq=>some (.bool (.lit (bytesLess x y||gC x y)))
 | .gtr=>some (.bool (.lit !(bytesLess x y||gC x y)))
 | .geq=>some (.bool (.lit !(bytesLess x y)))
 |_=>none
def Rr (op:BinOp) (k:IntKind) (a b:V):Option W:=
 match op with
 | .add=>some (.int k (Xh k a b))
 | .sub=>some (.int k (QA k a b))
 | .mul=>some (.int k (Xg k a b))
 | .quo=>match a,b with
   | .lit x,.lit y=>if y=0 then none else some (.int k (.lit (rZ k (x.tdiv y))))
   |a,.lit y=>if y=0 then none else some (.int k (.wrap k (.quo a (.lit y))))
   |_,_=>none
 | .rem=>match a,b with
   | .lit x,.lit y=>if y=0 then none else some (.int k (.lit (x.tmod y)))
   |a,.lit y=>if y=0 then none else some (.int k (.rem a (.lit y)))
   |_,_=>none
 | .shr=>match a,b with
   | .lit x,.lit y=>if y<0 then none else some (.int k (.lit (x.fdiv (2 ^ (min y.toNat k.bits)))))
   |_,_=>none
 | .eql=>some (.bool (qS a b))
 | .neq=>some (.bool (wT (qS a b)))
 | .lss=>some (.bool (gV a b))
 | .leq=>some (.bool (U' a b))
 | .gtr=>some (.bool (gV b a))
 | .geq=>some (.bool (U' b a))
 |_=>none
def eZ {α:Type}:List α->Nat->Option α
 |[],_=>none
 |x::_,0=>some x
 |_::xs,n+1=>eZ xs n
def C0 (a b:SB):Option SB:=
 match a,b with
 | .lit x,.lit y=>some (.lit (x == y))
 | .lit x,b=>some (if x then b else wT b)
 |a,.lit y=>some (if y then a else wT a)
 |a,b=>some (.not (.and (.not (.and a b)) (.not (.and (.not a) (.not b)))))
def O4 (k:TK) (x y:W):Option SB:=
 match k with
 | .int _=>match x,y with
   | .int k a,.int k' b=>if k=k' then some (qS a b) else none
   |_,_=>none
 | .string=>match x,y with
   | .str a,.str b=>some (.lit (gC a b))
   |x,y=>Br x y
 | .bool=>match x,y with
   | .bool a,.bool b=>C0 a b
   |_,_=>none
 |_=>none
def Y4 (tt:TT) (xs ys:List W):List (Nat×Nat×Nat)->Option SB
 |[]=>some (.lit true)
 |(off,ft,_)::fs=>match tt ft with
  |none=>none
  |some i=>match eZ xs off,eZ ys off with
   |some x,some y=>match O4 i.kind x y with
    |none=>none
    |some c=>match Y4 tt xs ys fs with
     |none=>none
     |some d=>some (Xj c d)
   |_,_=>none
def CY (tt:TT) (t:Nat) (xs ys:List W):Option SB:=
 match tt t with
 |none=>none
 |some i=>match i.kind with
  | .struct fs=>if i.eqs then Y4 tt xs ys fs else none
  |_=>none
def j9:W->Option Int
 | .int _ (.lit n)=>some n
 |_=>none
def isNil (k:TK) (x:W):Option Bool:=
 match k with
 | .slice _=>match x with
   | .dq=>some true
   | .slice _ _ _ _=>some false
   | .ro _ _ _=>some false
   | .ow _ _ _=>some false
   |_=>none
 | .pointer _=>match x with
   | .sL=>some true
   | .ptr _ _=>some false
   | .mK _=>some false
   |_=>none
 | .map _ _=>match x with
   | .qX=>some true
   | .map _=>some false
   |_=>none
 |_=>none
def afX (k:TK) (x y:W):Option SB:=
 match k with
 | .bool=>match x,y with
   | .bool a,.bool b=>C0 a b
   |_,_=>none
 |k=>match isNil k x,isNil k y with
  |some true,some b=>some (.lit b)
  |some false,some true=>some (.lit false)
  |_,_=>none
def Is (op:BinOp) (c:Option SB):Option W:=match c with
 |none=>none
 |some c=>match op with
  | .eql=>some (.bool c)
  | .neq=>some (.bool (.not c))
  |_=>none
def Y3 (tt:TT) (t:Nat) (op:BinOp) (x y:W):Option W:=
 match x with
 | .int k a=>match y with
   | .int k' b=>match op with
     | .shr=>Rr op k a b
     | .shl=>none
     |_=>if k=k' then Rr op k a b else none
   |_=>none
 | .str a=>match y with
   | .str b=>KG op a b
   | .jC e=>Is op (Br (.str a) (.jC e))
   |_=>none
 | .jC e=>Is op (Br (.jC e) y)
 |_=>match tt t with
  |none=>none
  |some i=>match op,afX i.kind x y with
   | .eql,some c=>some (.bool c)
   | .neq,some c=>some (.bool (wT c))
   |_,_=>none
def afV (op:UnOp) (x:W):Option W:=
 match op,x with
 | .not,.bool b=>some (.bool (wT b))
 | .neg,.int k e=>some (.int k (QA k (.lit 0) e))
 |_,_=>none
def iy {α:Type}:Nat->List α->Option (List α)
 |0,_=>some []
 |_+1,[]=>none
 |n+1,x::xs=>match iy n xs with
  |some l=>some (x::l)
  |none=>none
def eF {α:Type}:Nat->List α->Option (List α)
 |0,l=>some l
 |_+1,[]=>none
 |n+1,_::xs=>eF n xs
def dV:List W->Nat->List W->Option (List W)
 |cs,0,[]=>some cs
 |[],0,_::_=>none
 |_::cs,0,v::vs=>match dV cs 0 vs with
  |some l=>some (v::l)
  |none=>none
 |[],_+1,_=>none
 |c::cs,n+1,vs=>match dV cs n vs with
  |some l=>some (c::l)
  |none=>none
def rj:List W->Bool
 |[]=>true
 |v::vs=>v.one&&rj vs
def mD (h:Hp) (p:W) (n:Nat):Option (List W):=
 match p with
 | .ptr id off=>match h.get id with
   |some (.cells cs _)=>match eF off cs with
    |some l=>iy n l
    |none=>none
   |_=>none
 | .mK cs=>iy n cs
 |_=>none
def A8 (tt:TT) (t:Nat) (p:W) (h:Hp):Option W:=
 match tt t with
 |none=>none
 |some i=>match i.agg with
  |true=>(mD h p i.size).map .agg
  |false=>match mD h p 1 with
   |some (v::_)=>some v
   |_=>none
def Jt (tt:TT) (t:Nat) (p v:W) (h:Hp):Option Hp:=
 match tt t with
 |none=>none
 |some i=>
  if v.cells.length=i.size&&rj v.cells then
   match p with
   | .ptr id off=>match h.get id with
     |some (.cells cs e)=>match dV cs off v.cells with
      |some lE=>some (h.put id (.cells lE e))
      |none=>none
     |_=>none
   |_=>none
  else none
def tj (place:Nat->Option (Nat×Nat)) (cs:List W):List (Nat×W)->Option (List W)
 |[]=>some cs
 |(i,v)::rest=>match place i with
  |none=>none
  |some (off,size)=>
   if v.cells.length=size&&rj v.cells then
    match dV cs off v.cells with
    |some lE=>tj place lE rest
    |none=>none
   else none
def iz (tt:TT) (t:Nat):Option Nat:=(tt t).map (·.size)
def JH (tt:TT) (t:Nat) (parts:List (Nat×W)):Option W:=
 match tt t with
 |some i=>match i.kind with
  | .struct fs=>(tj (fun j=>(eZ fs j).map fun f=>(f.1,f.2.2)) i.zero parts).map .agg
  | .array _ e=>match iz tt e with
    |some s=>(tj (fun j=>some (j*s,s)) i.zero parts).map .agg
    |none=>none
  |_=>none
 |none=>none
def dQ {α:Type} (l:List α):Nat->List α
 |0=>[]
 |n+1=>l++dQ l n
def tm (tt:TT) (t len:Nat) (parts:List (Nat×W)) (h:Hp):Option (W×Hp):=
 match tt t with
 |some i=>match i.kind with
  | .slice e=>match tt e with
    |some ie=>
     if len<=1000/\ie.size<=1000/\ie.zero.length=ie.size then
      match tj (fun j=>some (j*ie.size,ie.size)) (dQ ie.zero len) parts with
      |some cs=>some (.slice h.fresh 0 len (.exact len),h.new (.cells cs e))
      |none=>none
     else none
    |none=>none
  |_=>none
 |none=>none
def qK (tt:TT) (t:Nat) (l c:W) (h:Hp):Option (W×Hp):=
 match j9 l with
 |some (.ofNat n)=>match j9 c with
  |some (.ofNat m)=>match tt t with
   |some i=>match i.kind with
    | .slice e=>match tt e with
      |some ie=>
       if n<=m/\m<=1000/\ie.size<=1000/\ie.bytes<=1000000/\ie.zero.length=ie.size then
        some (.slice h.fresh 0 n (.exact m),h.new (.cells (dQ ie.zero m) e))
       else none
      |none=>none
    |_=>none
   |none=>none
  |_=>none
 |_=>none
def QP (off:Nat) (x:W):Option W:=match x with
 | .ptr id o=>some (.ptr id (o+off))
 | .yi id es i o=>some (.yi id es i (o+off))
 | .mK cs=>(eF off cs).map .mK
 |_=>none
def partOf (i:TI) (l:List W):Option W:=match i.agg with
 |true=>(iy i.size l).map .agg
 |false=>match l with
  |v::_=>some v
  |[]=>none
def vo (tt:TT) (t:Nat) (p:W) (f:Nat):Option W:=
 match tt t with
 |some i=>match i.kind with
  | .struct fs=>match eZ fs f with
    |some (off,_,size)=>match size with
     |0=>none
     |_=>QP off p
    |none=>none
  |_=>none
 |none=>none
def Jz (tt:TT) (t:Nat) (x:W) (f:Nat):Option W:=
 match tt t with
 |some i=>match i.kind with
  | .struct fs=>match eZ fs f with
    |some (off,ft,_)=>match tt ft,x with
     |some fi,.agg cs=>match eF off cs with
      |some l=>partOf fi l
      |none=>none
     |_,_=>none
    |none=>none
  |_=>none
 |none=>none
def n5 (tt:TT) (t:Nat) (x ix:W):Option W:=
 match j9 ix with
 |some (.ofNat i)=>match tt t with
  |some ti=>match ti.kind with
   | .array n e=>if i<n then match iz tt e with
    |some s=>QP (i*s) x
    |none=>none
    else none
   | .slice e=>match iz tt e with
     |some s=>match x with
      | .slice id o len _=>if i<len then some (.ptr id (o+i*s)) else none
      | .ro cs n _=>if i<n then (eF (i*s) cs).map .mK else none
      |_=>none
     |none=>none
   |_=>none
  |none=>none
 |_=>none
def uV (k:Nat) (e:V):List IntKind->Nat->List W
 |[],_=>[]
 |kd::ks,j=> .int kd (.v7 (k*8+j) e)::uV k e ks (j+1)
def Jy (tt:TT) (pc:List (SB×Bool)) (t k:Nat) (ks:List IntKind) (ix:W):Option W:=
 match ix with
 | .int _ e=>match tt t with
   |some ti=>match ti.kind with
    | .slice el=>match iz tt el with
      |some s=>if s=ks.length/\k<8/\s<=8 then match jQ pc (gV e (.lit 0)),jQ pc (gV e (.dG (900+k))) with
       |some false,some true=>some (.mK (uV k e ks 0))
       |_,_=>none
       else none
      |none=>none
    |_=>none
   |none=>none
 |_=>none
def zM (tt:TT) (t:Nat) (x ix:W):Option W:=
 match j9 ix with
 |some (.ofNat i)=>match tt t with
  |some ti=>match ti.kind,x with
   | .string,.str s=>(eZ s i).map fun b=> .int .u8 (.lit (Int.ofNat b))
   | .array n e,.agg cs=>if i<n then match tt e with
    |some ie=>match eF (i*ie.size) cs with
     |some l=>partOf ie l
     |none=>none
    |none=>none
    else none
   |_,_=>none
  |none=>none
 |_=>none
def nG (x:Option W) (d:Nat) (y:Nat):Option Nat:=
 match x with
 |none=>if d<=y then some d else none
 |some v=>match j9 v with
  |some (.ofNat i)=>if i<=y then some i else none
  |_=>none
def zF (tt:TT) (t:Nat) (x:W) (lo hi mx:Option W):Option W:=
 match tt t with
 |none=>none
 |some ti=>match ti.kind with
  | .string=>match x,mx with
    | .str s,none=>match nG hi s.length s.length with
      |some h=>match nG lo 0 h with
       |some l=>some (.str ((s.take h).drop l))
       |none=>none
      |none=>none
    |_,_=>none
  | .slice e=>match iz tt e with
    |none=>none
    |some s=>match x with
     | .dq=>if mx.isSome&&hi.isNone then none else match nG hi 0 0,nG lo 0 0,nG mx 0 0 with
       |some _,some _,some _=>some .dq
       |_,_,_=>none
     | .slice id o len (.exact c)=>if mx.isSome&&hi.isNone then none else match nG mx c c with
       |none=>none
       |some m=>match nG hi len m with
        |none=>none
        |some h=>match nG lo 0 h with
         |none=>none
         |some l=>some (.slice id (o+l*s) (h-l) (.exact (m-l)))
     | .slice id o len (.rest es)=>match mx with
       |none=>match nG hi len len with
        |none=>none
        |some h=>match nG lo 0 h with
         |none=>none
         |some l=>if es=s then some (.slice id (o+l*s) (h-l) (.rest es)) else none
       |some _=>match hi,nG mx 0 len with
        |none,_=>none
        |_,none=>none
        |some _,some m=>match nG hi 0 m with
         |none=>none
         |some h=>match nG lo 0 h with
          |none=>none
          |some l=>some (.slice id (o+l*s) (h-l) (.exact (m-l)))
     | .ro cs n full=>match mx with
       |none=>match nG hi n n with
        |none=>none
        |some h=>match nG lo 0 h with
         |none=>none
         |some l=>match eF (l*s) cs with
          |none=>none
          |some d=>match iy ((h-l)*s) d with
           |none=>none
           |some d'=>some (.ro d' (h-l) (full&&h == n))
       |some _=>match hi,nG mx 0 n with
        |none,_=>none
        |_,none=>none
        |some _,some m=>match nG hi 0 m with
         |none=>none
         |some h=>match nG lo 0 h with
          |none=>none
          |some l=>match eF (l*s) cs with
           |none=>none
           |some d=>match iy ((h-l)*s) d with
            |none=>none
            |some d'=>some (.ro d' (h-l) (h == m))
     |_=>none
  | .array n e=>match iz tt e with
    |none=>none
    |some s=>match x with
     | .ptr id o=>if mx.isSome&&hi.isNone then none else match nG mx n n with
       |none=>none
       |some m=>match nG hi n m with
        |none=>none
        |some h=>match nG lo 0 h with
         |none=>none
         |some l=>some (.slice id (o+l*s) (h-l) (.exact (m-l)))
     |_=>none
  |_=>none
def EE (tt:TT) (t:Nat) (x:W) (lo hi mx:Option W) (h:Hp):Option W:=
 match mx with
 |some _=>none
 |none=>match tt t with
  |none=>none
  |some ti=>match ti.kind with
   | .slice e=>match iz tt e with
     |none=>none
     |some s=>match x with
      | .slice id o len (.rest es)=>if es=s/\0<s then match h.get id with
       |some (.cells cs _)=>match nG hi len ((cs.length-o) / s) with
        |none=>none
        |some hh=>match nG lo 0 hh with
         |none=>none
         |some l=>some (.slice id (o+l*s) (hh-l) (.rest es))
       |_=>none
       else none
      |_=>none
   |_=>none
def vy:List W->Option (List Nat)
 |[]=>some []
 | .int .u8 (.lit (.ofNat b))::xs=>if b<256 then match vy xs with
  |some l=>some (b::l)
  |none=>none
  else none
 |_::_=>none
def oW (tt:TT) (sT dT:Nat) (x:W) (h:Hp):Option (W×Hp):=
 match tt sT with
 |none=>none
 |some j=>match tt dT with
 |some i=>match i.kind with
  | .int k=>match x with
    | .int _ (.lit n)=>some (.int k (.lit (rZ k n)),h)
    | .int _ e=>some (.int k (.wrap k e),h)
    |_=>none
  | .string=>match j.kind with
   | .string=>match x with
     | .str s=>some (.str s,h)
     |_=>none
   | .slice e=>match tt e with
     |none=>none
     |some ie=>if ie.kind= .int .u8/\ie.size=1 then match x with
      | .dq=>some (.str [],h)
      | .slice id o len _=>match mD h (.ptr id o) len with
        |some cs=>(vy cs).map fun l=>(.str l,h)
        |none=>none
      |_=>none
      else none
   |_=>none
  | .slice e=>match tt e with
    |none=>none
    |some ie=>if ie.kind= .int .u8/\j.kind= .string then match x with
     | .str s=>some (.slice h.fresh 0 s.length (.rest 1),h.new (.cells (s.map fun c=> .int .u8 (.lit (Int.ofNat c))) e))
     |_=>none
     else none
  |_=>none
 |none=>none
def Rg (pc:List (SB×Bool)) (kk:TK) (a b:W):Option Bool:=
 match kk with
 | .int _=>match a,b with
   | .int k x,.int k' y=>if k=k' then jQ pc (qS x y) else none
   |_,_=>none
 | .string=>match a,b with
   | .str x,.str y=>some (gC x y)
   |x,y=>match Br x y with
    |some c=>jQ pc c
    |none=>none
 | .bool=>match a,b with
   | .bool (.lit x),.bool (.lit y)=>some (x == y)
   |_,_=>none
 |_=>none
def BW (pc:List (SB×Bool)) (kk:TK) (k:W):List (W×W×Nat)->Nat->Option (Option (Nat×W))
 |[],_=>some none
 |(k',v,_)::es,i=>match Rg pc kk k k' with
  |some true=>some (some (i,v))
  |some false=>BW pc kk k es (i+1)
  |none=>none
def mw (k v:W):List (W×W×Nat)->Nat->List (W×W×Nat)
 |[],_=>[]
 |(_,_,b)::es,0=>(k,v,b)::es
 |e::es,n+1=>e::mw k v es n
def jB {α:Type}:List α->Nat->List α
 |[],_=>[]
 |_::xs,0=>xs
 |x::xs,n+1=>x::jB xs n
def vW (tt:TT) (t:Nat):Option TK:=match tt t with
 |some i=>match i.kind with
  | .int k=>some (.int k)
  | .string=>some .string
  | .bool=>some .bool
  |_=>none
 |none=>none
def zeroOf (i:TI):Option W:=
 match i.agg with
 |true=>some (.agg i.zero)
 |false=>match i.zero with
  |[v]=>some v
  |_=>none
def IQ (m:W) (h:Hp):Option (List (W×W×Nat)):=match m with
 | .qX=>some []
 | .map id=>match h.get id with
   |some (.map es _)=>some es
   |_=>none
 |_=>none
def EH (tt:TT) (pc:List (SB×Bool)) (t:Nat) (m k:W) (ok:Bool) (h:Hp):Option W:=
 match tt t with
 |some ti=>match ti.kind with
  | .map kt et=>
    match vW tt kt with
    |none=>none
    |some kk=>
     match tt et with
     |none=>none
     |some ie=>
      match IQ m h with
      |none=>none
      |some es=>match BW pc kk k es 0 with
       |none=>none
       |some (some (_,v))=>some (if ok then .tuple [v,.bool (.lit true)] else v)
       |some none=>match zeroOf ie with
        |none=>none
        |some z=>some (if ok then .tuple [z,.bool (.lit false)] else z)
  |_=>none
 |none=>none
def qJ (tt:TT) (pc:List (SB×Bool)) (t:Nat) (m k v:W) (h:Hp):Option Hp:=
 match tt t with
 |some ti=>match ti.kind with
  | .map kt _=>
    match vW tt kt with
    |none=>none
    |some kk=>match m with
     | .map id=>match h.get id with
       |some (.map es c)=>match BW pc kk k es 0 with
        |none=>none
        |some (some (i,_))=>some (h.put id (.map (mw k v es i) c))
        |some none=>some (h.put id (match c with
         |0=> .map (es++ [(k,v,0)]) 0
         |c+1=> .map (es++ [(k,v,c)]) (c+2)))
       |_=>none
     |_=>none
  |_=>none
 |none=>none
def EK (tt:TT) (pc:List (SB×Bool)) (t:Nat) (m k:W) (h:Hp):Option Hp:=
 match tt t with
 |some ti=>match ti.kind with
  | .map kt _=>
    match vW tt kt with
    |none=>none
    |some kk=>match m with
     | .qX=>some h
     | .map id=>match h.get id with
       |some (.map es c)=>match BW pc kk k es 0 with
        |none=>none
        |some (some (i,_))=>some (h.put id (.map (jB es i) c))
        |some none=>some (h.put id (.map es c))
       |_=>none
     |_=>none
  |_=>none
 |none=>none
def Y1 (tt:TT) (t:Nat) (x:W) (h:Hp):Option W:=
 let n (k:Nat):Option W:=some (.int .i64 (.lit (Int.ofNat k)))
 match tt t with
 |some ti=>match ti.kind with
  | .string=>match x with
    | .str s=>n s.length
    | .jC e=>some (.int .i64 (dM e))
    |_=>none
  | .slice _=>match x with
    | .dq=>n 0
    | .emp=>n 0
    | .wL _ _=>n 0
    | .slice _ _ len _=>n len
    | .ro _ k _=>n k
    | .ei e _=>some (.int .i64 (dM e))
    | .ow _ e _=>some (.int .i64 e)
    | .sk _ _ e _=>some (.int .i64 e)
    | .v7 k _=>some (.int .i64 (.dG (900+k)))
    |_=>none
  | .array k _=>n k
  | .map _ _=>match x with
    | .qX=>n 0
    | .map id=>match h.get id with
      |some (.map es _)=>n es.length
      |some (.jS e _)=>some (.int .i64 (dM e))
      |some (.uc e _ _ _)=>some (.int .i64 (dM e))
      |_=>none
    |_=>none
  |_=>none
 |none=>none
def rE (s:Nat) (x:W) (h:Hp):Option (Nat×List W):=
 match x with
 | .dq=>some (0,[])
 | .slice id o len _=>(mD h (.ptr id o) (len*s)).map fun l=>(len,l)
 | .ro cs n _=>(iy (n*s) cs).map fun l=>(n,l)
 | .str b=>if s=1 then some (b.length,b.map fun c=> .int .u8 (.lit (Int.ofNat c))) else none
 |_=>none
def np (ie:TI) (e len m:Nat) (cs:List W) (h:Hp):Option (W×Hp):=
 if (len+m)*ie.bytes<=140737488355328 then some (.slice h.fresh 0 (len+m) (.rest ie.size),h.new (.cells cs e)) else none
def pZ (ie:TI) (e m:Nat) (news:List W) (x:W) (h:Hp):Option (W×Hp):=
 match x with
 | .dq=>if m=0 then some (.dq,h) else np ie e 0 m news h
 | .slice id o len (.exact c)=>
   if len+m<=c then
    match h.get id with
    |some (.cells cs e')=>match dV cs (o+len*ie.size) news with
     |some lE=>some (.slice id o (len+m) (.exact c),h.put id (.cells lE e'))
     |none=>none
    |_=>none
   else match mD h (.ptr id o) (len*ie.size) with
    |some old=>np ie e len m (old++news) h
    |none=>none
 | .slice id o len (.rest es)=>
   if es=ie.size then
    match h.get id with
    |some (.cells cs e')=>
     if o+(len+m)*ie.size<=cs.length then
      match dV cs (o+len*ie.size) news with
      |some lE=>some (.slice id o (len+m) (.rest es),h.put id (.cells lE e'))
      |none=>none
     else if o+len*ie.size=cs.length/\e'=e then
      match eF o cs with
      |some old=>np ie e len m (old++news) (h.drop id)
      |none=>none
     else none
    |_=>none
   else none
 | .ro cs n full=>
   if m=0 then some (.ro cs n full,h)
   else if full then match iy (n*ie.size) cs with
    |some old=>np ie e n m (old++news) h
    |none=>none
   else none
 |_=>none
def EL (tt:TT) (t t2:Nat) (x y:W) (h:Hp):Option (W×Hp):=
 match tt t with
 |some ti=>match ti.kind with
  | .slice e=>match tt e with
    |some ie=>match tt t2 with
     |none=>none
     |some PV=>match PV.kind with
      | .int _=>none
      |_=>
       if ie.size=0\/ie.bytes=0\/¬ie.zero.length=ie.size then none else
       match rE ie.size y h with
       |none=>none
       |some (m,news)=>pZ ie e m news x h
    |none=>none
  |_=>none
 |none=>none
def JE (tt:TT) (t:Nat) (x:W) (h:Hp):Option Hp:=
 match tt t with
 |some ti=>match ti.kind with
  | .slice e=>match tt e with
    |some ie=>match x with
     | .dq=>some h
     | .wL _ _=>some h
     | .slice id o len _=>match len with
       |0=>some h
       |_=>match ie.zero with
        |[]=>none
        |_=>match h.get id with
         |some (.cells cs e')=>match dV cs o (dQ ie.zero len) with
          |some lE=>some (h.put id (.cells lE e'))
          |none=>none
         |_=>none
     |_=>none
    |none=>none
  |_=>none
 |none=>none
def Ju (tt:TT) (t:Nat) (x:W) (h:Hp):Option (W×Hp):=
 match tt t with
 |some ti=>match ti.kind with
  | .string=>match x with
    | .str b=>some (.ptr h.fresh 0,h.new (.j4 b 0))
    |_=>none
  | .map _ _=>match x with
    | .qX=>some (.ptr h.fresh 0,h.new (.jt none 0 [] 0))
    | .map id=>match h.get id with
      |some (.map _ (c+1))=>some (.ptr h.fresh 0,h.new (.jt (some id) c [] c))
      |_=>none
    |_=>none
  |_=>none
 |none=>none
def ON (x:W) (isS:Bool) (h:Hp):Option (W×Hp):=
 match isS with
 |false=>match x with
  | .ptr id 0=>match h.get id with
    |some (.jt none _ _ _)=>some (.tuple [.bool (.lit false)],h)
    |some (.jt (some m) since seen last)=>match h.get m with
     |some (.map [] (_+1))=>some (.tuple [.bool (.lit false)],h)
     |some (.map [(k,v,n)] (c+1))=>match seen with
      |[]=>if n<since then some (.tuple [.bool (.lit true),k,v],h.put id (.jt (some m) since [n] c)) else none
      |[y]=>if y=n/\n<last then some (.tuple [.bool (.lit false)],h) else none
      |_=>none
     |_=>none
    |_=>none
  |_=>none
 |true=>match x with
  | .ptr id 0=>match h.get id with
    |some (.j4 b p)=>match eZ b p with
     |none=>some (.tuple [.bool (.lit false)],h)
     |some c=>if c<128 then some (.tuple [.bool (.lit true),.int .i64 (.lit (Int.ofNat p)),.int .i32 (.lit (Int.ofNat c))],h.put id (.j4 b (p+1))) else none
    |_=>none
  |_=>none
def JB (x:W) (h:Hp):Option W:=match x with
 | .ptr id 0=>match h.get id with
   |some (.jt (some m) _ [y] last)=>match h.get m with
    |some (.map [(k,v,n)] (c+1))=>if n=y/\c=last then some (.tuple [k,v]) else none
    |_=>none
   |_=>none
 |_=>none
def tf (mx:Bool):List W->V->IntKind->St->T (W×St)
 |[],a,k,s=> .ret (.int k a,s)
 | .int _ b::xs,a,k,s=>jo s (if mx then gV a b else gV b a) fun s c=>if c then tf mx xs b k s else tf mx xs a k s
 |_,_,_,_=> .fail
def aeW (s:St) (q:Bool) (k:IntKind) (e d:V):T (W×St):=jo s (qS d (.lit 0)) fun s c=>match c with
 |true=> .fail
 |false=> .ret (.int k (match q with |true=> .wrap k (.quo e d)|false=> .rem e d),s)
def H9 (s:St) (h:Option W) (k:Option W->St->T (W×St)):T (W×St):=match h with
 |some (.int .i64 e)=>jo s (qS e (.lit 0)) fun s c=>match c with
  |true=>k (some (.int .i64 (.lit 0))) s
  |false=> .fail
 |h=>k h s
def NU (op:BinOp) (a b:W):Option (Bool×IntKind×V×V):=
 match (match op with | .rem=>some false| .quo=>some true|_=>none) with
 |some q=>match a with
  | .int k e=>match b with
    | .int k' d=>match d with
      | .lit _=>none
      |d=>if k=k' then some (q,k,e,d) else none
    |_=>none
  |_=>none
 |none=>none
def pn (s:St) (v:Option W):T (W×St):=match v with |some v=> .ret (v,s)|none=> .fail
def NR (s:St) (h:Option Hp):T (W×St):=match h with |some h=> .ret (W.undef,{ s with h:=h })|none=> .fail
def By (s:St) (r:Option (W×Hp)):T (W×St):=match r with |some (v,h)=> .ret (v,{ s with h:=h })|none=> .fail
def HD (s:St):Option Operand->Option (Option W)
 |none=>some none
 |some x=>(ev s x).map some
def wj (s:St):List (Nat×Operand)->Option (List (Nat×W))
 |[]=>some []
 |(i,x)::xs=>match ev s x with
  |none=>none
  |some a=>match wj s xs with
   |none=>none
   |some amP=>some ((i,a)::amP)
def yS {α:Type} (s:St) (i n:V) (f:St->T α):T α:=
 jo s (gV i (.lit 0)) fun s b=>match b with
  |true=> .fail
  |false=>jo s (gV i n) fun s b=>match b with
   |true=>f s
   |false=> .fail
def N6 (tt:TT) (t:Nat) (a b:W):Option V:=match a with
 | .ei e _=>match b with
   | .dq=>match tt t with
     |some ti=>match ti.kind with
      | .slice _=>some e
      |_=>none
     |none=>none
   |_=>none
 |_=>none
def XN (s:St) (op:BinOp) (r:Bool):T (W×St):=match op with
 | .eql=> .ret (.bool (.lit r),s)
 | .neq=> .ret (.bool (.lit (!r)),s)
 |_=> .fail
def ae9 (s:St) (e:V) (op:BinOp):T (W×St):=jo s (gV (.lit 0) (dM e)) fun s b=>match b with
 |true=>XN s op false
 |false=>jo s (qp (my e) (.ei (.i 1))) fun s b=>match b with
  |true=>XN s op true
  |false=>jo s (qp (my e) (.ei (.i 2))) fun s b=>match b with
   |true=>XN s op false
   |false=> .fail
def ai3 (kk:TK) (a b:W):Option SB:=match kk with
 | .int _=>match a with
   | .int k x=>match b with
     | .int k' y=>if k=k' then some (qS x y) else none
     |_=>none
   |_=>none
 | .string=>Br a b
 |_=>none
def tx {α:Type} (kk:TK) (k:W):List (W×W×Nat)->St->(St->T α)->T α
 |[],s,f=>f s
 |(k',_,_)::es,s,f=>match Rg s.pc kk k k' with
  |some b=>match b with
   |true=>f s
   |false=>tx kk k es s f
  |none=>match ai3 kk k k' with
   |some c=>jo s c fun s b=>match b with
    |true=>f s
    |false=>tx kk k es s f
   |none=>f s
def nH {α:Type} (tt:TT) (t:Nat) (m k:W) (s:St) (f:St->T α):T α:=match tt t with
 |some ti=>match ti.kind with
  | .map kt _=>match vW tt kt with
    |some kk=>match IQ m s.h with
     |some es=>tx kk k es s f
     |none=>f s
    |none=>f s
  |_=>f s
 |none=>f s
def Mg (k:IntKind) (e:V) (f:W->St->T (W×St)):Nat->Nat->St->T (W×St)
 |0,_,_=> .fail
 |n+1,j,s=>match n with
  |0=>f (.int k (.lit (Int.ofNat j))) s
  |_=>jo s (qS e (.lit (Int.ofNat j))) fun s b=>match b with
   |true=>f (.int k (.lit (Int.ofNat j))) s
   |false=>Mg k e f n (j+1) s
def aj0 (tt:TT) (t:Nat) (x:W):Option Nat:=match tt t with
 |some ti=>match ti.kind with
  | .array n _=>if n<=64 then some n else none
  | .slice _=>match x with
    | .slice _ _ len _=>if len<=64 then some len else none
    |_=>none
  |_=>none
 |none=>none
def HX (tt:TT) (t:Nat) (x ix:W) (s:St) (f:W->St->T (W×St)):T (W×St):=match j9 ix with
 |some _=>f ix s
 |none=>match ix with
  | .int k e=>match aj0 tt t x with
    |some n=>yS s e (.lit (Int.ofNat n)) fun s=>Mg k e f n 0 s
    |none=> .fail
  |_=> .fail
def tn (tt:TT) (ty:Nat):Option Nat:=match tt ty with
 |some ti=>match ti.kind with
  | .slice el=>iz tt el
  |_=>none
 |none=>none
def JD (tt:TT) (s:St) (ty t:Nat) (e:V) (ix:W):T (W×St):=match ix with
 | .int _ i=>match tn tt ty with
   |some z=>if z=(rowOf t).es then yS s i (dM e) fun s=> .ret (.mK (gz (rowOf t) (.op .at e i)),s) else .fail
   |none=> .fail
 |_=> .fail
def Jq (tt:TT) (s:St) (ty id t:Nat) (n:V) (ix:W):T (W×St):=match ix with
 | .int _ i=>match tn tt ty with
   |some z=>if z=(rowOf t).es then yS s i n fun s=> .ret (.yi id z i 0,s) else .fail
   |none=> .fail
 |_=> .fail
def nL (pc:List (SB×Bool)) (f?:List W) (i:V):List (V×List W)->Option (List W)
 |[]=>some f?
 |(j,cs)::l=>match eV i j with
  |true=>some cs
  |false=>match jQ pc (qS i j) with
   |some b=>match b with
    |true=>some cs
    |false=>nL pc f? i l
   |none=>none
def GA (pc:List (SB×Bool)) (i:V) (lE:List W):List (V×List W)->Option (List (V×List W))
 |[]=>none
 |(j,cs)::l=>match eV i j with
  |true=>some ((j,lE)::l)
  |false=>match jQ pc (qS i j) with
   |some b=>match b with
    |true=>some ((j,lE)::l)
    |false=>match GA pc i lE l with
     |some l'=>some ((j,cs)::l')
     |none=>none
   |none=>none
def vD (pc:List (SB×Bool)) (i:V):List (V×List W)->Bool
 |[]=>true
 |(j,_)::l=>match jQ pc (qS i j) with
  |some false=>vD pc i l
  |_=>false
def uz {α:Type} (i:V):List (V×List W)->St->(St->T α)->T α
 |[],s,k=>k s
 |(j,_)::l,s,k=>match eV i j with
  |true=>k s
  |false=>jo s (qS i j) fun s b=>match b with
   |true=>k s
   |false=>uz i l s k
def D1 (k:IntKind):List W->Option (List D)
 |[]=>some []
 |v::vs=>match v with
  | .int k' e=>match e with
    | .lit n=>if k=k' then match D1 k vs with
     |some ds=>some (.i n::ds)
     |none=>none
     else none
    |_=>none
  |_=>none
def P_:List W->Option IntKind
 |v::_=>match v with
  | .int k _=>some k
  |_=>none
 |[]=>none
def SF (tt:TT) (t:Nat) (ix:W):Option (Nat×V):=match j9 ix with
 |some _=>none
 |none=>match ix with
  | .int _ e=>match tt t with
    |some ti=>match ti.kind with
     | .array n el=>if 64<n then match tt el with
      |some ie=>if ie.size=1/\ie.agg=false then some (n,e) else none
      |none=>none
      else none
     |_=>none
    |none=>none
  |_=>none
def HB (s:St) (cs:List W) (e:V):T (W×St):=match P_ cs with
 |none=> .fail
 |some k=>match D1 k cs with
  |none=> .fail
  |some ds=>yS s e (.lit (Int.ofNat ds.length)) fun s=> .ret (.int k (yz (.op .at (.ei (dL ds)) e)),s)
def zL (tt:TT) (s:St) (ty id es:Nat) (i:V) (off:Nat):T (W×St):=match s.h.get id with
 |some o=>match o with
  | .cells cs _=>match tt ty with
    |some ti=>match ti.agg||!(Nat.beq es 1)||!(Nat.beq off 0) with
     |true=> .fail
     |false=>HB s cs i
    |none=> .fail
  | .vec e t _ ov=>match tt ty with
    |some ti=>if (rowOf t).es=es then yS s i (dM e) fun s=>uz i ov s fun s=>match nL s.pc (gz (rowOf t) (.op .at e i)) i ov with
     |some cs=>match eF off cs with
      |some l=>pn s (partOf ti l)
      |none=> .fail
     |none=> .fail
     else .fail
    |none=> .fail
  |_=> .fail
 |none=> .fail
def Uq (v:W) (h:Hp):W×Hp:=match v with
 | .ow id n t=>match h.get id with
   |some o=>match o with
    | .vec e t' _ ov=>match ov with
      |[]=>match Nat.beq t t' with
       |true=>match eV n (dM e) with
        |true=>(.ei e t,h.drop id)
        |false=>(v,h)
       |false=>(v,h)
      |_=>(v,h)
    |_=>(v,h)
   |none=>(v,h)
 | .wL z t=>(.ei z t,h)
 |v=>(v,h)
def isZ (e:V):Bool:=match e with
 | .lit n=>uU n 0
 |_=>false
def sc (a b:V):V:=match isZ a with
 |true=>b
 |false=> .add a b
def Dp (a b:V):V:=match isZ b with
 |true=>a
 |false=> .sub a b
def DM (e lo n:V):V:=match isZ lo with
 |true=> .op .take e n
 |false=> .op .drop (.op .take e (.add lo n)) lo
def xx {α:Type} (e lo n:V) (s:St) (k:St->T α):T α:=
 jo s (gV lo (.lit 0)) fun s b=>match b with
  |true=> .fail
  |false=>jo s (gV n (.lit 0)) fun s b=>match b with
   |true=> .fail
   |false=>jo s (gV (dM e) (sc lo n)) fun s b=>match b with
    |true=> .fail
    |false=>k s
def Bm (h:Hp) (id t:Nat):Option (V×TypeId):=match h.get id with
 |some o=>match o with
  | .vec e t' ty ov=>match ov with
    |[]=>match Nat.beq t t' with
     |true=>some (e,ty)
     |false=>none
    |_=>none
  |_=>none
 |none=>none
def OE {α:Type} (v:W) (s:St) (k:W->St->T α):T α:=match v with
 | .sk id lo n t=>match Bm s.h id t with
   |some (e,_)=>xx e lo n s fun s=>k (.ei (DM e lo n) t) { s with h:=s.h.drop id }
   |none=>k v s
 |v=>match Uq v s.h with
  |(v',h')=>k v' { s with h:=h' }
def Hn {α:Type}:List W->St->(List W->St->T α)->T α
 |[],s,k=>k [] s
 |v::vs,s,k=>OE v s fun v' s=>Hn vs s fun MT s=>k (v'::MT) s
def GI {α:Type} (t:Nat):List (V×List W)->V->St->(V->St->T α)->T α
 |[],e,s,k=>k e s
 |(j,cs)::ov,e,s,k=>GI t ov e s fun e s=>Hn cs s fun cs s=>match qN (rowOf t) cs with
  |some x=>k (.op .set e (eE (ng j) x)) s
  |none=> .fail
def ae2 (v:W) (h:Hp):Option (Nat×V×Nat×List (V×List W)):=match v with
 | .ow id n t=>match h.get id with
   |some o=>match o with
    | .vec e t' _ ov=>match ov with
      |[]=>none
      |_=>match Nat.beq t t' with
       |true=>match eV n (dM e) with
        |true=>some (id,e,t,ov)
        |false=>none
       |false=>none
    |_=>none
   |none=>none
 |_=>none
def LU {α:Type} (v:W) (s:St) (k:W->St->T α):T α:=match ae2 v s.h with
 |some (id,e,t,ov)=>GI t ov e s fun e' s=>match s.h.get id with
  |some _=>k (.ei e' t) { s with h:=s.h.drop id }
  |none=> .fail
 |none=>OE v s k
def xe {α:Type}:List W->St->(List W->St->T α)->T α
 |[],s,k=>k [] s
 |v::vs,s,k=>LU v s fun v' s=>xe vs s fun MT s=>k (v'::MT) s
def setCells:List CK->Nat->List W->V->Option V
 |_,_,[],x=>some x
 |ks,off,v::vs,x=>match eZ ks off with
  |some c=>match lQ c v with
   |some a=>setCells ks (off+1) vs (.op .set x (eE (.ei (.i (Int.ofNat off))) a))
   |none=>none
  |none=>none
def JZ (r:Row) (e i:V) (off:Nat) (vs:List W):Option V:=match r with
 | .one c=>match off with
   |0=>match vs with
    |[v]=>match lQ c v with
     |some a=>some (.op .set e (eE (ng i) a))
     |none=>none
    |_=>none
   |_=>none
 | .many ks=>match setCells ks off vs (.op .at e i) with
   |some x=>some (.op .set e (eE (ng i) x))
   |none=>none
def EC (tt:TT) (s:St) (ty id es:Nat) (i:V) (off:Nat) (one:Bool) (vs:List W):T (W×St):=
 match s.h.get id with
  |some o=>match o with
   | .vec e t Aq ov=>match tt ty with
     |some ti=>if (rowOf t).es=es/\vs.length=ti.size/\one=true then yS s i (dM e) fun s=>uz i ov s fun s=>match nL s.pc (gz (rowOf t) (.op .at e i)) i ov with
      |some cs=>match dV cs off vs with
       |some lE=>match GA s.pc i lE ov with
        |some iQ=> .ret (W.undef,{ s with h:=s.h.put id (.vec e t Aq iQ) })
        |none=>match vD s.pc i ov with
         |true=>match JZ (rowOf t) e i off vs with
          |some e'=> .ret (W.undef,{ s with h:=s.h.put id (.vec e' t Aq ov) })
          |none=> .ret (W.undef,{ s with h:=s.h.put id (.vec e t Aq ((i,lE)::ov)) })
         |false=> .fail
       |none=> .fail
      |none=> .fail
      else .fail
     |none=> .fail
   |_=> .fail
  |none=> .fail
def ajd:W->Bool
 | .ow _ _ _=>true
 | .dq=>true
 | .wL _ _=>true
 | .slice _ _ n c=>match n with
   |0=>match c with
    | .exact k=>match k with
      |0=>true
      |_=>false
    |_=>false
   |_=>false
 |_=>false
def afS (c:CK) (v:W):W:=match c with
 | .sl t=>match v with
   | .dq=> .wL (.ei (.i 1)) t
   | .slice i o n k=>match n with
     |0=>match k with
      | .exact m=>match m with
        |0=> .wL (.ei (.i 2)) t
        |m+1=> .slice i o 0 (.exact (m+1))
      |k=> .slice i o 0 k
     |n+1=> .slice i o (n+1) k
   |v=>v
 |_=>v
def LZ:List CK->List W->List W
 |[],vs=>vs
 |_::_,[]=>[]
 |c::cs,v::vs=>afS c v::LZ cs vs
def NO (r:Row):List CK:=match r with
 | .one c=>[c]
 | .many cs=>cs
def RU (i:V):List (SB×Bool)->Option V
 |[]=>none
 |(c,b)::l=>match c with
  | .eq x y=>match b with
    |true=>match eV x i with
     |true=>some y
     |false=>RU i l
    |false=>RU i l
  |_=>RU i l
def EB (tt:TT) (s:St) (ty id es:Nat) (i j:V) (off:Nat) (one:Bool) (vs:List W):T (W×St):=
 match s.h.get id with
  |some o=>match o with
   | .vec e t Aq ov=>match tt ty with
     |some ti=>if (rowOf t).es=es/\vs.length=ti.size/\one=true then yS s i (dM e) fun s=>uz j ov s fun s=>match jQ s.pc (.eq i j) with
      |some true=>match nL s.pc (gz (rowOf t) (.op .at e j)) j ov with
       |some cs=>match dV cs off (LZ ((NO (rowOf t)).drop off) vs) with
        |some lE=>match GA s.pc j lE ov with
         |some iQ=> .ret (W.undef,{ s with h:=s.h.put id (.vec e t Aq iQ) })
         |none=>match vD s.pc j ov with
          |true=> .ret (W.undef,{ s with h:=s.h.put id (.vec e t Aq ((j,lE)::ov)) })
          |false=> .fail
        |none=> .fail
       |none=> .fail
      |_=> .fail
      else .fail
     |none=> .fail
   |_=> .fail
  |none=> .fail
def ED (tt:TT) (s:St) (ty id es:Nat) (i:V) (off:Nat) (v:W):T (W×St):=
 match (if ajd v then RU i s.pc else none) with
 |some j=>EB tt s ty id es i j off (rj v.cells) v.cells
 |none=>xe v.cells s fun vs s=>EC tt s ty id es i off (rj v.cells) vs
def pX (e:Nat) (own:Option Nat) (x:W) (h:Hp):Option (V×Nat×Hp):=match x with
 | .ow id n t=>match h.get id with
   |some o=>match o with
    | .vec e0 t0 ty ov=>match ov with
      |[]=>match Nat.beq t t0 with
       |true=>match Nat.beq ty e with
        |true=>match eV n (dM e0) with
         |true=>some (e0,t,h.drop id)
         |false=>none
        |false=>none
       |false=>none
      |_=>none
    |_=>none
   |none=>none
 | .dq=>match own with
   |some t=>some (.ei (.i 0),t,h)
   |none=>none
 | .emp=>match own with
   |some t=>some (.ei (.i 0),t,h)
   |none=>none
 | .wL _ _=>match own with
   |some t=>some (.ei (.i 0),t,h)
   |none=>none
 | .slice _ _ n c=>match n with
   |0=>match c with
    | .exact k=>match k with
      |0=>match own with
       |some t=>some (.ei (.i 0),t,h)
       |none=>none
      |_=>none
    |_=>none
   |_=>none
 |_=>none
def acq:W->Bool
 | .ei _ _=>true
 |_=>false
def Yb (own:Option Nat):W->Bool
 | .ow _ _ _=>true
 | .sk _ _ _ _=>true
 | .dq=>own.isSome
 | .emp=>own.isSome
 | .wL _ _=>own.isSome
 | .slice _ _ n c=>match n with
   |0=>match c with
    | .exact k=>match k with
      |0=>own.isSome
      |_=>false
    |_=>false
   |_=>false
 |_=>false
def SI (id t:Nat) (ty:TypeId) (e0 n1 m sd:V) (s:St):T (W×St):=
 xx e0 n1 m s fun s=> .ret (.sk id (.lit 0) (sc n1 m) t,{ s with h:=s.h.put id (.vec (.op .cat (.op .cat (.op .take e0 n1) sd) (.op .drop e0 (sc n1 m))) t ty []) })
def EM (tt:TT) (t t2 id:Nat) (n1:V) (t':Nat) (y:W) (s:St):T (W×St):=
 match tt t with
 |some ti=>match ti.kind with
  | .slice e=>match tt e with
    |some ie=>match tt t2 with
     |none=> .fail
     |some PV=>match PV.kind with
      | .int _=> .fail
      |_=>
       if ie.size=0\/ie.bytes=0\/¬ie.zero.length=ie.size\/¬(rowOf t').es=ie.size then .fail else
       match Bm s.h id t' with
       |none=> .fail
       |some (e0,ty)=>match y with
        | .sk id2 U5 n2 Kg=>match Nat.beq id2 id with
          |true=>match Nat.beq Kg t' with
           |true=>xx e0 U5 n2 s fun s=>SI id t' ty e0 n1 n2 (DM e0 U5 n2) s
           |false=> .fail
          |false=> .fail
        |y=>match rE ie.size y s.h with
         |none=> .fail
         |some (m,news)=>match m with
          |0=> .fail
          |m+1=>if m<1000 then match kz (rowOf t') (.ei (.i 0)) (m+1) news with
           |some sd=>SI id t' ty e0 n1 (.lit (Int.ofNat (m+1))) sd s
           |none=> .fail
           else .fail
    |none=> .fail
  |_=> .fail
 |none=> .fail
def zP (tt:TT) (ty id:Nat) (lo n:V) (t:Nat) (s:St):T (W×St):=
 match tt ty with
 |some ti=>match ti.kind with
  | .slice e=>match tt e with
    |some ie=>if (rowOf t).es=ie.size/\0<ie.size then match Bm s.h id t with
     |none=> .fail
     |some (e0,Aq)=>match qN (rowOf t) ie.zero with
      |none=> .fail
      |some z=>jo s (gV lo (.lit 0)) fun s b=>match b with
       |true=> .fail
       |false=>jo s (gV n (.lit 0)) fun s b=>match b with
        |true=> .fail
        |false=>jo s (qS (sc lo n) (dM e0)) fun s b=>match b with
         |false=> .fail
         |true=> .ret (W.undef,{ s with h:=s.h.put id (.vec (.op .fill e0 (eE (ng lo) z)) t Aq []) })
     else .fail
    |none=> .fail
  |_=> .fail
 |none=> .fail
def qU (bytes k:Nat):Int:=Int.ofNat (140737488355328 / bytes-k)
def Xn (e0:V) (bytes:Nat):Int:=match Og e0 with
 |true=>qU bytes 0
 |false=>qU bytes 1000000
def aac:W->Bool
 | .ow _ _ _=>true
 | .wL _ _=>true
 | .slice _ _ n _=>match n with
   |0=>true
   |_=>false
 |_=>false
def zx:List (SB×Bool)->Bool
 |[]=>false
 |(b,v)::l=>match b with
  | .eq _ x=>match x with
    | .dG i=>match i with
      |0=>match v with
       |true=>true
       |false=>zx l
      |_=>zx l
    |_=>zx l
  |_=>zx l
def M? (m:Nat) (news:List W) (pc:List (SB×Bool)):Bool:=match m with
 |0=>match news.any aac with
  |true=>zx pc
  |false=>false
 |_=>false
def AJ (e:Nat) (x:W) (h:Hp):Option (V×Nat×V×List W×Hp):=match x with
 | .ow id n t=>match h.get id with
   |some o=>match o with
    | .vec e0 t0 ty ov=>match ov with
      |[]=>none
      |p::l=>match l with
       |[]=>match Nat.beq t t0 with
        |true=>match Nat.beq ty e with
         |true=>match eV n (dM e0) with
          |true=>some (e0,t,p.1,p.2,h.drop id)
          |false=>none
         |false=>none
        |false=>none
       |_=>none
    |_=>none
   |none=>none
 |_=>none
def zQ (e:Nat) (own:Option Nat) (x:W) (ie:TI) (m:Nat) (news:List W) (s:St):T (W×St):=
 xe news s fun BG s=>match pX e own x s.h with
  |some (e0,t',h0)=>if (rowOf t').es=ie.size/\m<1000 then
   jo s (gV (dM e0) (.lit (qU ie.bytes (m+1)))) fun s b=>match b with
    |true=>match kz (rowOf t') e0 (m+1) BG with
     |some e1=> .ret (.ow h0.fresh (dM e1) t',{ s with h:=h0.new (.vec e1 t' e []) })
     |none=> .fail
    |false=> .fail
   else .fail
  |none=> .fail
def Bb (e:Nat) (x:W) (ie:TI) (m:Nat) (news:List W) (s:St):T (W×St):=
 xe news s fun BG s=>match AJ e x s.h with
  |some (e0,t',p,cs,h0)=>if (rowOf t').es=ie.size/\m<1000 then
   jo s (gV (dM e0) (.lit (qU ie.bytes (m+1)))) fun s b=>match b with
    |true=>jo s (gV p (dM e0)) fun s b=>match b with
     |true=>match kz (rowOf t') e0 (m+1) BG with
      |some e1=> .ret (.ow h0.fresh (dM e1) t',{ s with h:=h0.new (.vec e1 t' e [(p,cs)]) })
      |none=> .fail
     |false=> .fail
    |false=> .fail
   else .fail
  |none=> .fail
def Ba (e:Nat) (own:Option Nat) (x:W) (ie:TI) (m:Nat) (news:List W) (s:St):T (W×St):=
 match pX e own x s.h with
 |some (e0,t',h0)=>if (rowOf t').es=ie.size/\m=0 then
  jo s (qS (dM e0) (.dG 0)) fun s b=>match b with
   |true=>jo s (gV (dM e0) (.lit (qU ie.bytes 1))) fun s b=>match b with
    |true=>match kz (rowOf t') e0 1 ie.zero with
     |some e1=> .ret (.ow h0.fresh (dM e1) t',{ s with h:=h0.new (.vec e1 t' e [(.dG 0,news)]) })
     |none=> .fail
    |false=> .fail
   |false=>zQ e own x ie m news s
  else .fail
 |none=> .fail
def A9 (tt:TT) (t t2:Nat) (x y:W) (s:St):T (W×St):=
 match tt t with
 |some ti=>match ti.kind with
  | .slice e=>match tt e with
    |some ie=>match tt t2 with
     |none=> .fail
     |some PV=>match PV.kind with
      | .int _=> .fail
      |_=>
       if ie.size=0\/ie.bytes=0\/¬ie.zero.length=ie.size\/¬ie.bytes<=400 then .fail else
       match y with
       | .ei e2 ty2=>match pX e ti.own x s.h with
         |some (e0,t',h0)=>if (rowOf t').es=ie.size/\rowOf ty2=rowOf t' then
          jo s (qp (dM e2) (.lit 0)) fun s b=>match b with
           |true=> .ret (x,s)
           |false=>jo s (gV (dM e2) (.lit (Xn e0 ie.bytes))) fun s b=>match b with
            |true=>jo s (gV (dM e0) (.lit 1000000)) fun s b=>match b with
             |true=>match Og e0 with
              |true=> .ret (.ow h0.fresh (dM e2) t',{ s with h:=h0.new (.vec e2 t' e []) })
              |false=> .ret (.ow h0.fresh (dM (.op .cat e0 e2)) t',{ s with h:=h0.new (.vec (.op .cat e0 e2) t' e []) })
             |false=> .fail
            |false=> .fail
          else .fail
         |none=> .fail
       |y=>match rE ie.size y s.h with
        |some (m,news)=>match m with
         |0=> .ret (x,s)
         |m+1=>match AJ e x s.h with
          |some _=>Bb e x ie m news s
          |none=>match M? m news s.pc with
           |true=>Ba e ti.own x ie m news s
           |false=>zQ e ti.own x ie m news s
        |none=> .fail
    |none=> .fail
  |_=> .fail
 |none=> .fail
def Jx (tt:TT) (t:Nat) (l c:W) (s:St):T (W×St):=match l with
 | .int k n=>match c with
   | .int k2 n2=>match eV n n2 with
     |false=> .fail
     |true=>match tt t with
      |none=> .fail
      |some i=>match i.own with
       |none=> .fail
       |some o=>match i.kind with
        | .slice e=>match tt e with
          |none=> .fail
          |some ie=>match qN (rowOf o) ie.zero with
           |none=> .fail
           |some z=>if ie.size=(rowOf o).es/\0<ie.size/\ie.bytes≠0/\ie.zero.length=ie.size then
            jo s (gV n (.lit 0)) fun s b=>match b with
             |true=> .fail
             |false=>jo s (qp n (.lit 0)) fun s b=>match b with
              |true=>match qK tt t (.int k (.lit 0)) (.int k2 (.lit 0)) s.h with
               |some (v,h)=> .ret (v,{ s with h:=h })
               |none=> .fail
              |false=>jo s (gV n (.lit (qU ie.bytes 0))) fun s b=>match b with
               |true=> .ret (.ow s.h.fresh (dM (.op .rep n z)) o,{ s with h:=s.h.new (.vec (.op .rep n z) o e []) })
               |false=> .fail
            else .fail
        |_=> .fail
   |_=> .fail
 |_=> .fail
def Cv (v:W):Bool:=match j9 v with
 |some n=>uU n 0
 |none=>false
def JC (tt:TT) (s:St) (ty t:Nat) (e:V) (lo hi:Option W) (mx:Option W):T (W×St):=match mx with
 |some m=>match Cv m with
  |true=>match tn tt ty with
   |none=> .fail
   |some _=>match lo with
    |none=>match hi with
     |some hv=>match Cv hv with
      |true=> .ret (.wL (.op .take e (.lit 0)) t,s)
      |false=> .fail
     |none=> .fail
    |some _=> .fail
  |false=> .fail
 |none=>match tn tt ty with
  |none=> .fail
  |some z=>if z=(rowOf t).es then
   (match hi with
   |none=>match lo with
    |some (.int _ l)=>jo s (gV l (.lit 0)) fun s b=>match b with
     |true=> .fail
     |false=>jo s (gV (dM e) l) fun s b=>match b with
      |true=> .fail
      |false=> .ret (.ei (.op .drop e l) t,s)
    |_=> .fail
   |some (.int _ h)=>jo s (gV (dM e) h) fun s b=>match b with
    |true=> .fail
    |false=>match lo with
     |none=>jo s (gV h (.lit 0)) fun s b=>match b with
      |true=> .fail
      |false=> .ret (.ei (.op .take e h) t,s)
     |some (.int _ l)=>jo s (gV l (.lit 0)) fun s b=>match b with
      |true=> .fail
      |false=>jo s (gV h l) fun s b=>match b with
       |true=> .fail
       |false=> .ret (.ei (.op .drop (.op .take e h) l) t,s)
     |_=> .fail
   |_=> .fail)
   else .fail
def loE (lo:Option W):Option V:=match lo with
 |none=>some (.lit 0)
 |some v=>match v with
  | .int _ l=>some l
  |_=>none
def CX (tt:TT) (s:St) (ty id t:Nat) (D! n0:V) (lo hi mx:Option W):T (W×St):=
 match tn tt ty with
 |none=> .fail
 |some z=>if z=(rowOf t).es/\z≠0 then match loE lo with
  |none=> .fail
  |some l=>jo s (gV l (.lit 0)) fun s b=>match b with
   |true=> .fail
   |false=>match hi with
    |none=>match mx with
     |some _=> .fail
     |none=>jo s (gV n0 l) fun s b=>match b with
      |true=> .fail
      |false=> .ret (.sk id (sc D! l) (Dp n0 l) t,s)
    |some hv=>match hv with
     | .int _ h=>jo s (gV h l) fun s b=>match b with
       |true=> .fail
       |false=>match mx with
        |some mv=>match mv with
         | .int _ m=>jo s (gV m h) fun s b=>match b with
           |true=> .fail
           |false=>jo s (gV n0 m) fun s b=>match b with
            |true=> .fail
            |false=> .ret (.any,s)
         |_=> .fail
        |none=>jo s (gV n0 h) fun s b=>match b with
         |false=> .ret (.sk id (sc D! l) (Dp h l) t,s)
         |true=>match isZ D! with
          |false=> .fail
          |true=>match Bm s.h id t with
           |none=> .fail
           |some (e,_)=>jo s (gV (dM e) h) fun s b=>match b with
            |true=> .fail
            |false=> .ret (.sk id (sc D! l) (Dp h l) t,s)
     |_=> .fail
  else .fail
def JA (tt:TT) (s:St) (ty:Nat) (z:V) (t:Nat) (lo hi mx:Option W):T (W×St):=
 match mx with
 |some _=> .fail
 |none=>match tn tt ty with
  |none=> .fail
  |some _=>match nG hi 0 0 with
   |some 0=>match nG lo 0 0 with
    |some 0=> .ret (.wL z t,s)
    |_=> .fail
   |_=> .fail
def Jp (tt:TT) (s:St) (ty id t:Nat) (lo n:V) (ix:W):T (W×St):=match ix with
 | .int _ i=>match tn tt ty with
   |some z=>if z=(rowOf t).es then yS s i n fun s=> .ret (.yi id z (sc lo i) 0,s) else .fail
   |none=> .fail
 |_=> .fail
def Yg:W->Bool
 | .jC _=>true
 |_=>false
def Js (tt:TT) (s:St) (ty:Nat) (e:V) (ix:W):T (W×St):=match ix with
 | .int _ i=>match tt ty with
   |some ti=>match ti.kind with
    | .string=>yS s i (dM e) fun s=> .ret (.int .u8 (yz (.op .at e i)),s)
    |_=> .fail
   |none=> .fail
 |_=> .fail
def hiE (e:V) (hi:Option W):Option V:=match hi with
 |none=>some (dM e)
 |some v=>match v with
  | .int _ h=>some h
  |_=>none
def Jr (tt:TT) (s:St) (ty:Nat) (e:V) (lo hi mx:Option W):T (W×St):=match mx with
 |some _=> .fail
 |none=>match tt ty with
  |none=> .fail
  |some ti=>match ti.kind with
   | .string=>match loE lo with
     |none=> .fail
     |some l=>match hiE e hi with
      |none=> .fail
      |some h=>jo s (gV l (.lit 0)) fun s b=>match b with
       |true=> .fail
       |false=>jo s (gV h l) fun s b=>match b with
        |true=> .fail
        |false=>jo s (gV (dM e) h) fun s b=>match b with
         |true=> .fail
         |false=> .ret (.jC (.op .sub e (eE (ng l) (eE (ng h) (.ei (.i 0))))),s)
   |_=> .fail
def Cy (x y:W):Option (V×V):=match Yg x||Yg y with
 |false=>none
 |true=>match tJ x with
  |none=>none
  |some a=>match tJ y with
   |none=>none
   |some b=>some (a,b)
def Gi (a b:V):SB:=.not (.eq (.op .slt a b) (.lit 0))
def OJ (op:BinOp) (a b:V) (s:St):T (W×St):=match op with
 | .add=>jo s (gV (dM a) (.lit 1000000000)) fun s c=>match c with
   |false=> .fail
   |true=>jo s (gV (dM b) (.lit 1000000000)) fun s c=>match c with
    |false=> .fail
    |true=> .ret (.jC (.op .cat a b),s)
 | .eql=> .ret (.bool (qp (my a) (my b)),s)
 | .neq=> .ret (.bool (.not (qp (my a) (my b))),s)
 | .lss=> .ret (.bool (Gi a b),s)
 | .gtr=> .ret (.bool (Gi b a),s)
 | .leq=> .ret (.bool (wT (Gi b a)),s)
 | .geq=> .ret (.bool (wT (Gi a b)),s)
 |_=> .fail
def CZ (tt:TT) (sT dT:Nat) (e:V) (s:St):T (W×St):=match tt sT with
 |none=> .fail
 |some j=>match j.kind with
  | .string=>match tt dT with
    |none=> .fail
    |some i=>match i.kind with
     | .slice el=>match tt el with
       |some ie=>match ie.kind with
        | .int k=>match k with
          | .u8=>jo s (qp (dM e) (.lit 0)) fun s c=>match c with
            |true=> .ret (.slice s.h.fresh 0 0 (.rest 1),{ s with h:=s.h.new (.cells [] el) })
            |false=> .ret (.ow s.h.fresh (dM e) 14,{ s with h:=s.h.new (.vec e 14 el []) })
          |_=> .fail
        |_=> .fail
       |none=> .fail
     |_=> .fail
  |_=> .fail
def Lp (c:CK):TK:=match c with
 | .int k=> .int k
 |_=> .string
def w4 (m:W) (h:Hp):Option (Nat×V×Nat):=match m with
 | .map id=>match h.get id with
   |some o=>match o with
    | .jS e t=>some (id,e,t)
    |_=>none
   |none=>none
 |_=>none
def A4 (tt:TT):List CK->Nat->List (Nat×Nat×Nat)->Bool
 |[],_,[]=>true
 |c::cs,j,(o,ft,_)::fs=>match Nat.beq o j with
  |true=>match tt ft with
   |some i=>match c with
    | .int k=>match decide (i.kind= .int k) with
      |true=>A4 tt cs (j+1) fs
      |false=>false
    |_=>false
   |none=>false
  |false=>false
 |_,_,_=>false
def X5 (tt:TT) (ki:TI) (r:Row):Bool:=match r with
 | .one c=>decide (ki.kind=Lp c)
 | .many cs=>match ki.kind with
   | .struct fs=>match ki.eqs with
     |true=>A4 tt cs 0 fs
     |false=>false
   |_=>false
def Sz (r:Row) (v:W):Option V:=match r with
 | .one c=>lQ c v
 | .many cs=>match v with
   | .agg vs=>iu cs vs
   |_=>none
def MC (r:Row) (x:V):W:=match r with
 | .one c=>vx c x
 | .many cs=> .agg (iw cs 0 x)
def mapKey (tt:TT) (ty t:Nat) (k:W):Option (V×TI):=match tt ty with
 |none=>none
 |some ti=>match ti.kind with
  | .map kt et=>match tt kt with
    |none=>none
    |some ki=>match X5 tt ki (mapOf t).1 with
     |true=>match tt et with
      |none=>none
      |some ie=>match Sz (mapOf t).1 k with
       |none=>none
       |some a=>some (my a,ie)
     |false=>none
  |_=>none
def Hj (e a:V):SB:=match e with
 | .ei d=>match a with
   | .ei k=> .lit (!(gf d.l k).isSome)
   |a=> .eq (.op .Ld (.ei d) a) (.lit 0)
 |e=> .eq (.op .Ld e a) (.lit 0)
def zK (tt:TT) (ty:Nat) (k:W) (ok:Bool) (e:V) (t:Nat) (s:St):T (W×St):=match mapKey tt ty t k with
 |none=> .fail
 |some (a,ie)=>match zeroOf ie with
  |none=> .fail
  |some z=>jo s (Hj e a) fun s b=>match b with
   |true=> .ret (if ok then .tuple [z,.bool (.lit false)] else z,s)
   |false=> .ret (if ok then .tuple [MC (mapOf t).2 (.op .DV e a),.bool (.lit true)] else MC (mapOf t).2 (.op .DV e a),s)
def OM (tt:TT) (ty id:Nat) (k x:W) (e:V) (t:Nat) (s:St):T (W×St):=match mapKey tt ty t k with
 |none=> .fail
 |some (a,_)=>match Sz (mapOf t).2 x with
  |none=> .fail
  |some b=> .ret (W.undef,{ s with h:=s.h.put id (.jS (.op .uS e (eE a b)) t) })
def Jv (tt:TT) (ty:Nat) (m k x:W) (s:St):T (W×St):=xe [x] s fun xs s=>match xs with
 |[x]=>match w4 m s.h with
  |some (id,e,t)=>OM tt ty id k x e t s
  |none=> .fail
 |_=> .fail
def OX (tt:TT) (ty id:Nat) (k:W) (e:V) (t:Nat) (s:St):T (W×St):=match mapKey tt ty t k with
 |none=> .fail
 |some (a,_)=> .ret (W.undef,{ s with h:=s.h.put id (.jS (.op .Lg e a) t) })
def Ey (m:W) (h:Hp):Option (Nat×V×Nat×List Nat×List (V×W)):=match m with
 | .map id=>match h.get id with
   |some o=>match o with
    | .uc e t e8 ov=>some (id,e,t,e8,ov)
    |_=>none
   |none=>none
 |_=>none
def Jn (tt:TT) (ty:Nat) (k:W):Option (V×TI):=match tt ty with
 |none=>none
 |some ti=>match ti.kind with
  | .map kt et=>match tt kt with
    |none=>none
    |some ki=>if ki.kind= .int .i64 then match tt et with
     |none=>none
     |some ie=>match k with
      | .int kk x=>if kk= .i64 then some (x,ie) else none
      |_=>none
     else none
  |_=>none
def tk {α:Type} (x:V):List (V×W)->St->(Option W->St->T α)->T α
 |[],s,k=>k none s
 |(y,v)::l,s,k=>match eV x y with
  |true=>k (some v) s
  |false=>jo s (qS x y) fun s b=>match b with
   |true=>k (some v) s
   |false=>tk x l s k
def Jm {α:Type} (x:V) (v:W):List (V×W)->St->(Option (List (V×W))->St->T α)->T α
 |[],s,k=>k none s
 |(y,u)::l,s,k=>match eV x y with
  |true=>k (some ((y,v)::l)) s
  |false=>jo s (qS x y) fun s b=>match b with
   |true=>k (some ((y,v)::l)) s
   |false=>Jm x v l s fun r s=>match r with
    |some l'=>k (some ((y,u)::l')) s
    |none=>k none s
def zJ (tt:TT) (ty:Nat) (k:W) (ok:Bool) (e:V) (ov:List (V×W)) (s:St):T (W×St):=match Jn tt ty k with
 |none=> .fail
 |some (x,ie)=>match zeroOf ie with
  |none=> .fail
  |some z=>tk x ov s fun r s=>match r with
   |some v=> .ret (if ok then .tuple [v,.bool (.lit true)] else v,s)
   |none=>jo s (Hj e (ng x)) fun s b=>match b with
    |true=> .ret (if ok then .tuple [z,.bool (.lit false)] else z,s)
    |false=> .fail
def zH (tt:TT) (ty id:Nat) (k v:W) (e:V) (t:Nat) (e8:List Nat) (ov:List (V×W)) (s:St):T (W×St):=match Jn tt ty k with
 |none=> .fail
 |some (x,_)=>Jm x v ov s fun r s=>match r with
  |some iQ=> .ret (W.undef,{ s with h:=s.h.put id (.uc e t e8 iQ) })
  |none=>jo s (Hj e (ng x)) fun s b=>match b with
   |true=> .ret (W.undef,{ s with h:=s.h.put id (.uc (.op .uS e (eE (ng x) (.ei (.i 0)))) t e8 ((x,v)::ov)) })
   |false=> .fail
def al8 (tt:TT) (t:Nat):Nat:=match tt t with
 |some ti=>match ti.kind with
  | .slice e=>e
  |_=>0
 |none=>0
def YZ (tt:TT) (t:Nat):List Nat:=match tt t with
 |some ti=>match ti.kind with
  | .map _ et=>match tt et with
    |some ie=>match ie.kind with
     | .pointer s=>match tt s with
       |some si=>match si.kind with
        | .struct fs=>s::0::fs.map fun f=>al8 tt f.2.1
        |_=>[]
       |none=>[]
     | .slice e=>[0,e]
     |_=>[]
    |none=>[]
  |_=>[]
 |none=>[]
abbrev eu:=Nat->List W->St->T (W×St)
def yR (s:St) (x:Operand) (f:W->T (W×St)):T (W×St):=match ev s x with |some v=>f v|none=> .fail
def aci (tt:TT) (t:Nat):Option Nat:=match tt t with
 |some ti=>ti.own
 |none=>none
def wu (tt:TT) (s:St) (b:Builtin) (ts:List Nat) (args:List W):T (W×St):=
 match b,ts,args with
 | .len,[t],[x]=>pn s (Y1 tt t x s.h)
 | .append,[t,t2],[.sk id lo n t',y]=>match isZ lo with
   |true=>EM tt t t2 id n t' y s
   |false=> .fail
 | .append,[t,t2],[x,y]=>match Yb (aci tt t) x||acq y with
   |true=>A9 tt t t2 x y s
   |false=>By s (EL tt t t2 x y s.h)
 | .delete,[t,_],[m,k]=>match w4 m s.h with
   |some (id,e,t')=>OX tt t id k e t' s
   |none=>nH tt t m k s fun s=>NR s (EK tt s.pc t m k s.h)
 | .clear,[t],[.ow id n t']=>zP tt t id (.lit 0) n t' s
 | .clear,[t],[.sk id lo n t']=>zP tt t id lo n t' s
 | .clear,[t],[x]=>NR s (JE tt t x s.h)
 | .min,_,.int k a::xs=>tf false xs a k s
 | .max,_,.int k a::xs=>tf true xs a k s
 |_,_,_=> .fail
def JF (tt:TT) (call:eu) (s:St) (c:Call):T (W×St):=
 match evs s c.args.toList with
 |none=> .fail
 |some args=>match c.callee with
  | .builtin b=>wu tt s b c.argTypes.toList args
  | .value f=>match ev s f with
    |some (.func (.func g) fs cs)=>call g (fs++args++cs) s
    |_=> .fail
  | .invoke _ _=> .fail
def ahE:SB->Bool
 | .lit _=>true
 | .not c=>match c with
   | .eq _ z=>match z with
     | .lit n=>uU n 0
     |_=>false
   |_=>false
 |_=>false
def o? {α:Type} (v:W) (s:St) (k:W->St->T α):T α:=match v with
 | .bool c=>match ahE c with
   |true=>k (.bool c) s
   |false=>jo s c fun s b=>k (.bool (.lit b)) s
 |v=>k v s
def Jw (tt:TT) (call:eu) (s:St) (op:Op):T (W×St):=
 match op with
 | .move x=>yR s x fun v=> .ret (v,s)
 | .assign x=>yR s x fun v=> .ret (v,s)
 | .pick c a b=>yR s c fun c=>match c with
   | .bool c=>jo s c fun s b'=>if b' then yR s a fun v=> .ret (v,s) else yR s b fun v=> .ret (v,s)
   |_=> .fail
 | .alloc t=>match tt t with
   |some i=> .ret (.ptr s.h.fresh 0,{ s with h:=s.h.new (.cells i.zero t) })
   |none=> .fail
 | .box t x=>yR s x fun v=>if rj v.cells then .ret (.ptr s.h.fresh 0,{ s with h:=s.h.new (.cells v.cells t) }) else .fail
 | .build t parts=>match wj s parts.toList with
   |some ps=>pn s (JH tt t ps)
   |none=> .fail
 | .buildSlice t n parts=>match wj s parts.toList with
   |some ps=>By s (tm tt t n ps s.h)
   |none=> .fail
 | .makeSlice t l c=>yR s l fun lv=>match ev s c with
   |some cv=>match qK tt t lv cv s.h with
    |some r=>By s (some r)
    |none=>Jx tt t lv cv s
   |none=> .fail
 | .load t x=>yR s x fun p=>match p with
   | .yi id es i off=>zL tt s t id es i off
   |p=>pn s (A8 tt t p s.h)
 | .store t x y=>yR s x fun p=>match ev s y with
   |some v=>o? v s fun v s=>match p with
    | .yi id es i off=>ED tt s t id es i off v
    |p=>NR s (Jt tt t p v s.h)
   |none=> .fail
 | .nilCheck x=>yR s x fun v=>match v with
   | .ptr _ _=> .ret (v,s)
   | .mK _=> .ret (v,s)
   | .yi _ _ _ _=> .ret (v,s)
   |_=> .fail
 | .binOp op t x y _=>yR s x fun a=>match ev s y with
   |some b=>match a with
    | .agg xs=>match b,op with
      | .agg ys,.eql=>match CY tt t xs ys with
        |some c=> .ret (.bool c,s)
        |none=> .fail
      | .agg ys,.neq=>match CY tt t xs ys with
        |some c=> .ret (.bool (wT c),s)
        |none=> .fail
      |_,_=> .fail
    |a=>match N6 tt t a b with
     |some e=>ae9 s e op
     |none=>match NU op a b with
      |some (q,k,e,d)=>aeW s q k e d
      |none=>match Cy a b with
       |some (x,y)=>OJ op x y s
       |none=>pn s (Y3 tt t op a b)
   |none=> .fail
 | .unOp op _ x=>yR s x fun v=>pn s (afV op v)
 | .convert sT dT x=>yR s x fun v=>match v with
   | .jC e=>CZ tt sT dT e s
   |v=>By s (oW tt sT dT v s.h)
 | .makeFunc fn fs cs=>match evs s fs.toList,evs s cs.toList with
   |some f,some c=> .ret (.func fn f c,s)
   |_,_=> .fail
 | .makeMap t r=>match r with
   |none=>match aci tt t with
    |some m=>match Nat.ble 100 m with
     |true=> .ret (.map s.h.fresh,{ s with h:=s.h.new (.uc (.ei (.i 0)) (m-100) (YZ tt t) []) })
     |false=> .ret (.map s.h.fresh,{ s with h:=s.h.new (.jS (.ei (.i 0)) m) })
    |none=> .ret (.map s.h.fresh,{ s with h:=s.h.new (.map [] 1) })
   |some _=> .fail
 | .slice t x lo hi mx=>yR s x fun v=>match HD s lo,HD s hi,HD s mx with
   |some l,some h,some m=>match v with
    | .ei e t'=>JC tt s t t' e l h m
    | .ow id n t'=>CX tt s t id t' (.lit 0) n l h m
    | .sk id lo n t'=>CX tt s t id t' lo n l h m
    | .jC e=>Jr tt s t e l h m
    | .wL z t'=>JA tt s t z t' l h m
    | .dq=>H9 s h fun h s=>pn s (zF tt t .dq l h m)
    | .slice id o 0 (.exact 0)=>H9 s h fun h s=>pn s (zF tt t (.slice id o 0 (.exact 0)) l h m)
    |v=>match zF tt t v l h m with
    |some v=> .ret (v,s)
    |none=>pn s (EE tt t v l h m s.h)
   |_,_,_=> .fail
 | .fieldAddr t x f=>yR s x fun v=>pn s (vo tt t v f)
 | .field t x f=>yR s x fun v=>pn s (Jz tt t v f)
 | .indexAddr t x i=>yR s x fun v=>match ev s i with
   |some i=>match v with
    | .v7 k ks=>pn s (Jy tt s.pc t k ks i)
    | .ei e t'=>JD tt s t t' e i
    | .ow id n t'=>Jq tt s t id t' n i
    | .sk id lo n t'=>Jp tt s t id t' lo n i
    | .ptr id o=>match SF tt t i with
      |some (n,e)=>if o=0 then yS s e (.lit (Int.ofNat n)) fun s=> .ret (.yi id 1 e 0,s) else .fail
      |none=>HX tt t (.ptr id o) i s fun i s=>pn s (n5 tt t (.ptr id o) i)
    |v=>HX tt t v i s fun i s=>pn s (n5 tt t v i)
   |none=> .fail
 | .index t x i=>yR s x fun v=>match ev s i with
   |some i=>match v with
    | .jC e=>Js tt s t e i
    | .agg cs=>match SF tt t i with
      |some (n,e)=>match Nat.beq cs.length n with
       |true=>HB s cs e
       |false=> .fail
      |none=>HX tt t (.agg cs) i s fun i s=>pn s (zM tt t (.agg cs) i)
    |v=>HX tt t v i s fun i s=>pn s (zM tt t v i)
   |none=> .fail
 | .lookup t m k ok=>yR s m fun v=>match ev s k with
   |some k=>match w4 v s.h with
    |some (_,e,t')=>zK tt t k ok e t' s
    |none=>match Ey v s.h with
     |some (_,e,_,_,ov)=>zJ tt t k ok e ov s
     |none=>nH tt t v k s fun s=>pn s (EH tt s.pc t v k ok s.h)
   |none=> .fail
 | .mapUpdate t m k x=>yR s m fun v=>match ev s k,ev s x with
   |some k,some x=>match w4 v s.h with
    |some _=>Jv tt t v k x s
    |none=>match Ey v s.h with
     |some (id,e,t',e8,ov)=>zH tt t id k x e t' e8 ov s
     |none=>nH tt t v k s fun s=>NR s (qJ tt s.pc t v k x s.h)
   |_,_=> .fail
 | .insert t m k x=>yR s m fun v=>match ev s k,ev s x with
   |some k,some x=>match w4 v s.h with
    |some _=>Jv tt t v k x s
    |none=>match Ey v s.h with
     |some (id,e,t',e8,ov)=>zH tt t id k x e t' e8 ov s
     |none=>nH tt t v k s fun s=>NR s (qJ tt s.pc t v k x s.h)
   |_,_=> .fail
 | .range t x=>yR s x fun v=>By s (Ju tt t v s.h)
 | .next x isS=>yR s x fun v=>By s (ON v isS s.h)
 | .entry x=>yR s x fun v=>pn s (JB v s.h)
 | .extract x i=>yR s x fun v=>match v with
   | .tuple vs=>pn s (eZ vs i)
   |_=> .fail
 | .call c=>JF tt call s c
 |_=> .fail
def vQ {α:Type} (ops:List Oper) (s:St) (o:Oper) (f:St->Bool->T α):T α:=
 match o.guard with
 |none=>f s true
 |some (j,want)=>match eZ ops j with
  |some oj=>match oj.dst with
   |some d=>match s.bF.get d with
    |some (.bool c)=>jo s c fun s b=>f s (b == want)
    |some (.tuple _)=>f s false
    |_=> .fail
   |none=> .fail
  |none=> .fail
def Ma (tt:TT) (call:eu) (all:List Oper):List Oper->St->T St
 |[],s=> .ret s
 |o::rest,s=>vQ all s o fun s b=>
  if b then (Jw tt call s o.op).bind fun (v,s')=>Ma tt call all rest (s'.KL o.dst v)
  else Ma tt call all rest (s.KL o.dst W.undef)
inductive Ex where
 |normal
 |exit (id:Nat)
 |ret
 deriving DecidableEq,Inhabited
def vn (body:St->T (Ex×St)):Nat->St->T (Ex×St)
 |0,_=> .fail
 |n+1,s=>(body s).bind fun (e,s')=>match e with
  | .normal=>vn body n s'
  |e=> .ret (e,s')
def iZ (tt:TT) (call:eu) (draw:Nat->List Oper->St->T St) (lf:Nat):Code->St->T (Ex×St)
 | .skip,s=> .ret (.normal,s)
 | .region id ops d,s=>
   if d then (draw id ops.toList s).bind fun s'=> .ret (.normal,s')
   else (Ma tt call ops.toList ops.toList s).bind fun s'=> .ret (.normal,s')
 | .seq a b,s=>(iZ tt call draw lf a s).bind fun (e,s')=>match e with
   | .normal=>iZ tt call draw lf b s'
   |e=> .ret (e,s')
 | .cond c x y,s=>match ev s c with
   |some (.bool c)=>jo s c fun s b=>if b then iZ tt call draw lf x s else iZ tt call draw lf y s
   |_=> .fail
 | .block id b,s=>(iZ tt call draw lf b s).bind fun (e,s')=>match e with
   | .exit j=> .ret (if j=id then .normal else .exit j,s')
   |e=> .ret (e,s')
 | .loop b,s=>vn (iZ tt call draw lf b) lf s
 | .exit id,s=> .ret (.exit id,s)
 | .scope b,s=>iZ tt call draw lf b s
 | .label _,s=> .ret (.normal,s)
 | .ret,s=> .ret (.ret,s)
 |_,_=> .fail
def cq:List W->Nat->Tr W->Tr W
 |[],_,t=>t
 |v::vs,i,t=>cq vs (i+1) (t.put i (some v))
def zG (tt:TT) (s:St):ResultVar->Option W
 | .tmp t=>s.bF.get t
 | .cell a t=>match s.bF.get a with
   |some p=>A8 tt t p s.h
   |none=>none
def kQ (tt:TT) (s:St):List ResultVar->Option (List W)
 |[]=>some []
 |r::rs=>match zG tt s r with
  |none=>none
  |some v=>match kQ tt s rs with
   |none=>none
   |some vs=>some (v::vs)
def FX (tt:TT) (ft:Nat->Option Func) (hook:Nat->Option (List W->St->T (W×St))) (draw:eu->Nat->Nat->List Oper->St->T St) (lf:Nat):Nat->eu
 |0,_,_,_=> .fail
 |n+1,g,args,s=>
  match hook g with
  |some h=>h args s
  |none=>match ft g with
   |none=> .fail
   |some fn=>match fn.body with
    |none=> .fail
    |some c=>
     (iZ tt (FX tt ft hook draw lf n) (draw (FX tt ft hook draw lf n) g) lf c { s with bF:=cq args 0 .nil }).bind fun (e,s')=>
      match e with
      | .exit _=> .fail
      |_=>match kQ tt s' fn.results.toList with
       |some [v]=> .ret (v,{ s' with bF:=s.bF })
       |some vs=> .ret (.tuple vs,{ s' with bF:=s.bF })
       |none=> .fail
end
end Go.As
end
section
namespace Go.As
structure En where
 ρ:Nat->Int
 θ:Nat->Nat×Nat
 κ:Nat->Nat
 dm:Nat->Prop
 ro:Nat->Prop
 hd:Nat->Option (Nat×D×Nat):=fun _=>none
def dc (s:List Nat):ByteArray:=⟨(s.map UInt8.ofNat).toArray⟩
def iX (h:Array Obj) (b o:Nat):Option Value:=
 match h[b]? with
 |some (.cells c _ _)=>c[o]?
 |_=>none
theorem lF (w:World) (b o:Nat):w.cell? ⟨b,o,none⟩ = iX w.heap b o:=by
 unfold World.cell? iX
 grind
def fS (h:Array Obj) (b o:Nat) (us:List Value):Prop:= ∀i u,us[i]?=some u->iX h b (o+i)=some u
inductive Rd (ro:Nat->Prop) (h:Array Obj):CK->D->Value->Prop where
 |int (k:IntKind) (n:Int):Rd ro h (.int k) (.i n) (.int k n)
 |bool (b:Bool):Rd ro h .bool (.i (if b then 1 else 0)) (.bool b)
 |str (s:ByteArray):Rd ro h .str (tz s) (.string s)
 |nil (t:Nat):Rd ro h (.sl t) (.i 1) (.slice none 0 0)
 |uQ (t:Nat) (a:Addr) (cap:Nat):Rd ro h (.sl t) (.i 2) (.slice (some a) 0 cap)
 |one (t:Nat) (c:CK) (b o cap:Nat) (ds:List D) (f:Nat->Value) (hr:rowOf t= .one c) (hc:ds.length<=cap) (hb:ro b)
  (U: ∀i d,ds[i]?=some d->iX h b (o+i)=some (f i)) (Z: ∀i d,ds[i]?=some d->Rd ro h c d (f i)):Rd ro h (.sl t) (dL ds) (.slice (some ⟨b,o,none⟩) ds.length cap)
 |many (t:Nat) (cs:List CK) (b o cap:Nat) (rows:List (List D)) (f:Nat->Nat->Value) (hr:rowOf t= .many cs) (hc:rows.length<=cap) (hb:ro b) (Y: ∀r∈rows,r.length=cs.length)
  (U: ∀i r j d,rows[i]?=some r->r[j]?=some d->iX h b (o+i*cs.length+j)=some (f i j))
  (Z: ∀i r j d c,rows[i]?=some r->r[j]?=some d->cs[j]?=some c->Rd ro h c d (f i j)):Rd ro h (.sl t) (dL (rows.map dL)) (.slice (some ⟨b,o,none⟩) rows.length cap)
theorem Rd.aah {ro:Nat->Prop} {h:Array Obj} {c:CK} {d:D} {v:Value} (r:Rd ro h c d v):v.oneCell'=true:=by cases r<;>rfl
theorem Rd.keep {ro me:Nat->Prop} {h h':Array Obj} (k1: ∀b,ro b->me b) (k2: ∀b,ro b->h'[b]?=h[b]?) {c:CK} {d:D} {v:Value} (r:Rd ro h c d v):Rd me h' c d v:=by
 have hk: ∀b o u,ro b->iX h b o=some u->iX h' b o=some u:=by
  intro b o u hb hu
  grind [iX]
 induction r with
 |int k n=>exact .int k n
 |bool b=>exact .bool b
 |str s=>exact .str s
 |nil t=>exact .nil t
 |uQ t a cap=>exact .uQ t a cap
 |one t c b o cap ds f hr hc hb U Z ih=>exact .one t c b o cap ds f hr hc (k1 b hb) (fun i d hi=>hk _ _ _ hb (U i d hi)) ih
 |many t cs b o cap rows f hr hc hb Y U Z ih=>exact .many t cs b o cap rows f hr hc (k1 b hb) Y (fun i r j d hi hj=>hk _ _ _ hb (U i r j d hi hj)) ih
def eD (E:En) (id off len:Nat) (a:Addr) (cap:Nat):MS->Prop
 | .exact c=>cap=c/\((a=⟨(E.θ id).1,(E.θ id).2+off,none⟩)\/c=0)
 | .rest es=>(a=⟨(E.θ id).1,(E.θ id).2+off,none⟩/\off+cap*es=E.κ id)\/(cap=0/\len=0/\off=E.κ id)
mutual
def VR (E:En) (h:Array Obj):W->Value->Prop
 | .bool b,v=>v= .bool (b.den E.ρ)
 | .int k e,v=>v= .int k (e.den E.ρ)
 | .str s,v=>v= .string (dc s)/\∀b∈s,b<256
 | .ptr id off,v=>v= .pointer (some ⟨(E.θ id).1,(E.θ id).2+off,none⟩)/\E.dm id
 | .sL,v=>v= .pointer none
 | .mK cs,v=> ∃b o us,v= .pointer (some ⟨b,o,none⟩)/\E.ro b/\ct E h cs us/\fS h b o us/\∀u∈us,u.oneCell'=true
 | .slice id off len c,v=>E.dm id/\∃a cap,v= .slice (some a) len cap/\len<=cap/\eD E id off len a cap c
 | .dq,v=>v= .slice none 0 0
 | .ro cs n full,v=> ∃b o cap us,v= .slice (some ⟨b,o,none⟩) n cap/\n<=cap/\(full=true->cap=n)/\E.ro b/\ct E h cs us/\fS h b o us/\∀u∈us,u.oneCell'=true
 | .map id,v=>v= .map (some (E.θ id).1)/\E.dm id
 | .qX,v=>v= .map none
 | .func fn fs cs,v=> ∃us ws,v= .func fn us.toArray ws.toArray/\ct E h fs us/\ct E h cs ws
 | .uR,v=>v= .nilFunc
 | .iface t x,v=> ∃u,v= .iface t u/\VR E h x u
 | .wI,v=>v= .nilIface
 | .agg cs,v=> ∃us,v= .agg us.toArray/\ct E h cs us
 | .tuple cs,v=> ∃us,v= .tuple us.toArray/\ct E h cs us
 | .Kh _,_=>False
 | .emp,v=> ∃x,v= .slice x 0 0
 | .ei e t,v=>Rd E.ro h (.sl t) (dec (e.den E.ρ)) v
 | .jC e,v=>Rd E.ro h .str (dec (e.den E.ρ)) v
 | .ow id n t,v=>E.dm id/\∃(k:Nat) (a:Addr) (cap:Nat),n.den E.ρ=(k:Int)/\v= .slice (some a) k cap/\k<=cap/\eD E id 0 k a cap (.rest (rowOf t).es)
 | .yi id es i off,v=>E.dm id/\∃k:Nat,i.den E.ρ=(k:Int)/\v= .pointer (some ⟨(E.θ id).1,(E.θ id).2+(k*es+off),none⟩)
 | .any,_=>True
 | .wL z t,v=>(∃x,v= .slice x 0 0)/\Rd E.ro h (.sl t) (dec (z.den E.ρ)) v
 | .sk id lo n t,v=>E.dm id/\∃(l k:Nat) (a:Addr) (cap:Nat),lo.den E.ρ=(l:Int)/\n.den E.ρ=(k:Int)/\v= .slice (some a) k cap/\k<=cap/\eD E id (l*(rowOf t).es) k a cap (.rest (rowOf t).es)
 | .v7 k ks,v=>((∃x cap,v= .slice x 0 cap)/\E.ρ (900+k)=0)\/∃b o n cap,v= .slice (some ⟨b,o,none⟩) n cap/\n<=cap/\E.ρ (900+k)=(n:Int)/\E.ro b/\
  ∀i j kd,i<n->ks[j]?=some kd->iX h b (o+i*ks.length+j)=some (.int kd (E.ρ (1000+i*64+(k*8+j))))
def ct (E:En) (h:Array Obj):List W->List Value->Prop
 |[],us=>us= []
 |x::xs,us=> ∃u vs,us=u::vs/\VR E h x u/\ct E h xs vs
end
theorem fQ {E:En} {h:Array Obj} {us:List Value}:ct E h [] us↔us= []:=by simp [ct]
theorem bP {E:En} {h:Array Obj} {x:W} {xs:List W} {us:List Value}:ct E h (x::xs) us↔∃u vs,us=u::vs/\VR E h x u/\ct E h xs vs:=by simp [ct]
theorem ct.length {E:En} {h:Array Obj}: ∀{xs:List W} {us:List Value},ct E h xs us->us.length=xs.length
 |[],us,hh=>by rw [fQ] at hh; simp [hh]
 |x::xs,us,hh=>by rw [bP] at hh;obtain⟨u,vs,rfl,_,Z⟩:=hh;simp [Z.length]
theorem ct.append {E:En} {h:Array Obj}: ∀{xs ys:List W} {us vs:List Value},ct E h xs us->ct E h ys vs->ct E h (xs++ys) (us++vs)
 |[],_,us,vs,U,Z=>by rw [fQ] at U; subst U; simpa using Z
 |x::xs,ys,us,vs,U,Z=>by rw [bP] at U;obtain⟨u,gx,rfl,hx,mP⟩:=U;simp only [aR];rw [bP];exact⟨u,gx++vs,rfl,hx,mP.append Z⟩
theorem ct.iy {E:En} {h:Array Obj}: ∀{n:Nat} {xs ys:List W} {us:List Value},ct E h xs us->As.iy n xs=some ys->ct E h ys (us.take n)/\n<=xs.length
 |0,xs,ys,us,_,Z=>by simp [As.iy] at Z; subst Z; simp [ct]
 |n+1,[],ys,us,_,Z=>by simp [As.iy] at Z
 |n+1,x::xs,ys,us,U,Z=>by
  rw [bP] at U;obtain⟨u,vs,rfl,hx,mP⟩:=U;simp only [As.iy] at Z;split at Z
  ·rename_i l Y;simp at Z;subst Z;have:=mP.iy Y
   grind [bP]
  grind
theorem ct.eF {E:En} {h:Array Obj}: ∀{n:Nat} {xs ys:List W} {us:List Value},ct E h xs us->As.eF n xs=some ys->ct E h ys (us.drop n)/\n<=xs.length/\ys.length=xs.length-n
 |0,xs,ys,us,U,Z=>by simp [As.eF] at Z; subst Z; simpa using U
 |n+1,[],ys,us,_,Z=>by simp [As.eF] at Z
 |n+1,x::xs,ys,us,U,Z=>by
  rw [bP] at U;obtain⟨u,vs,rfl,hx,mP⟩:=U;simp only [As.eF] at Z;have:=mP.eF Z
  grind
theorem ct.nth {E:En} {h:Array Obj}: ∀{i:Nat} {xs:List W} {x:W} {us:List Value},ct E h xs us->eZ xs i=some x->∃u,us[i]?=some u/\VR E h x u
 |_,[],_,us,_,Z=>by simp [eZ] at Z
 |0,x::xs,y,us,U,Z=>by
  rw [bP] at U;obtain⟨u,vs,rfl,hx,mP⟩:=U
  grind [eZ]
 |i+1,x::xs,y,us,U,Z=>by
  rw [bP] at U;obtain⟨u,vs,rfl,hx,mP⟩:=U;simp only [eZ] at Z;obtain⟨v,h3,h4⟩:=mP.nth Z
  grind
def eL (E:En) (h:Array Obj):List (W×W×Nat)->List MapEntry->Prop
 |[],es=>es= []
 |(k,v,b)::xs,es=> ∃e r,es=e::r/\VR E h k e.key/\VR E h v e.val/\b=b/\eL E h xs r
def HZ (ro:Nat->Prop) (h:Array Obj):List CK->Nat->D->List Value->Prop
 |[],_,_,us=>us= []
 |c::cs,j,d,us=> ∃u vs,us=u::vs/\Rd ro h c (d.hd j) u/\HZ ro h cs (j+1) d vs
def F0 (ro:Nat->Prop) (h:Array Obj) (r:Row) (d:D) (v:Value):Prop:=match r with
 | .one c=>Rd ro h c d v
 | .many cs=>wF cs d/\∃us,v= .agg us.toArray/\HZ ro h cs 0 d us
theorem HZ.keep {ro me:Nat->Prop} {h h':Array Obj} (k1: ∀b,ro b->me b) (k2: ∀b,ro b->h'[b]?=h[b]?) {d:D}: ∀{cs:List CK} {j:Nat} {us:List Value},HZ ro h cs j d us->HZ me h' cs j d us
 |[],_,_,hh=>hh
 |_::_,_,_,hh=>by obtain⟨u,vs,U,Z,h3⟩:=hh;exact⟨u,vs,U,Z.keep k1 k2,HZ.keep k1 k2 h3⟩
theorem F0.keep {ro me:Nat->Prop} {h h':Array Obj} (k1: ∀b,ro b->me b) (k2: ∀b,ro b->h'[b]?=h[b]?) {r:Row} {d:D} {v:Value} (hh:F0 ro h r d v):F0 me h' r d v:=by
 cases r with
 |one c=>exact Rd.keep k1 k2 hh
 |many cs=> obtain⟨h0,us,U,Z⟩:=hh;exact⟨h0,us,U,Z.keep k1 k2⟩
def jV (ro:Nat->Prop) (h:Array Obj) (t:Nat):List D->List MapEntry->Prop
 |[],es=>es= []
 |d::ds,es=> ∃e r,es=e::r/\d= .p (jk d) (FY d)/\F0 ro h (mapOf t).1 (jk d) e.key/\F0 ro h (mapOf t).2 (FY d) e.val/\jV ro h t ds r
theorem jV.keep {ro me:Nat->Prop} {h h':Array Obj} (k1: ∀b,ro b->me b) (k2: ∀b,ro b->h'[b]?=h[b]?) {t:Nat}: ∀{ds:List D} {es:List MapEntry},jV ro h t ds es->jV me h' t ds es
 |[],_,hh=>hh
 |_::_,_,hh=>by obtain⟨e,r,U,Z,h3,h4,h5⟩:=hh;exact⟨e,r,U,Z,h3.keep k1 k2,h4.keep k1 k2,jV.keep k1 k2 h5⟩
theorem jV.length {ro:Nat->Prop} {h:Array Obj} {t:Nat}: ∀{ds:List D} {es:List MapEntry},jV ro h t ds es->es.length=ds.length
 |[],_,hh=>by simp only [jV] at hh; rw [hh]; rfl
 |_::_,_,hh=>by obtain⟨e,r,U,_,_,_,h5⟩:=hh;rw [U,aM,aM,jV.length h5]
noncomputable def dW (ρ:Nat->Int) (i:Nat):List (V×List W)->Option (List W)
 |[]=>none
 |(j,cs)::l=>if j.den ρ=(i:Int) then some cs else dW ρ i l
noncomputable def bE (ρ:Nat->Int) (r:Row) (ov:List (V×List W)):List D->Nat->List W
 |[],_=>[]
 |d::ds,i=>(match dW ρ i ov with |some cs=>cs|none=>gz r (.ei d))++bE ρ r ov ds (i+1)
def sK (r:Row) (ov:List (V×List W)):Prop:= ∀p∈ov,p.2.length=r.es
noncomputable def lJ (ρ:Nat->Int) (n:Int):List (V×W)->Option W
 |[]=>none
 |(x,v)::l=>if x.den ρ=n then some v else lJ ρ n l
def amn (E:En) (h:Array Obj) (B:Nat) (k:D) (j ty t:Nat) (d:D) (u:Value):Prop:=
 ∃b o n cap a arr lo hi,u= .slice (some a) n cap/\n<=cap/\E.hd b=some (B,k,j)/\h[b]?=some (.cells arr ty (lo,hi))/\((a=⟨b,o,none⟩/\o+cap*(rowOf t).es=arr.size)\/(cap=0/\n=0/\o=arr.size))/\(∀q,lo<=q->q<hi->arr.size<=q)/\
  ((n=0/\d= .i 3)\/(sg (rowOf t) d/\d.l.length=n/\∃us,ct E h (bE E.ρ (rowOf t) [] d.l 0) us/\(∀i u,us[i]?=some u->arr[o+i]?=some u)/\∀u∈us,u.oneCell'=true))
def oR (E:En) (h:Array Obj) (B:Nat) (k:D) (j ty:Nat) (c:FC) (d:D) (u:Value):Prop:=match c with
 | .ck c=>Rd E.ro h c d u
 | .own t=>((∃x,u= .slice x 0 0)/\Rd E.ro h (.sl t) d u)\/amn E h B k j ty t d u
 | .mp t=> ∃b bK c,u= .map (some b)/\E.hd b=some (B,k,j)/\h[b]?=some (.map bK c)/\jV E.ro h t d.l bK.toList
def p9 (E:En) (h:Array Obj) (B t:Nat) (e8:List Nat) (k d:D) (v:Value):Prop:=match (qI t).ptr with
 |false=> ∃c,(qI t).cs= [c]/\oR E h B k 1 (e8.getD 1 0) c d v
 |true=> ∃b o arr lo hi,v= .pointer (some ⟨b,o,none⟩)/\E.hd b=some (B,k,0)/\h[b]?=some (.cells arr (e8.getD 0 0) (lo,hi))/\o+(qI t).cs.length<=arr.size/\(∀q,lo<=q->q<hi->arr.size<=q)/\
  ∀j c,(qI t).cs[j]?=some c->∃u,arr[o+j]?=some u/\u.oneCell'=true/\oR E h B k (j+1) (e8.getD (j+2) 0) c (d.hd j) u
def eR (E:En) (h:Array Obj) (B t:Nat) (e8:List Nat) (ov:List (V×W)):List D->List MapEntry->Prop
 |[],es=>es= []
 |d::ds,es=> ∃e r n,es=e::r/\d= .p (.i n) (FY d)/\e.key= .int .i64 n/\(match lJ E.ρ n ov with |some v=>VR E h v e.val|none=>p9 E h B t e8 (.i n) (FY d) e.val)/\eR E h B t e8 ov ds r
def Ah (ρ:Nat->Int) (ds:List D) (ov:List (V×W)):Prop:=(ds.map jk).Nodup/\(∀p∈ov,D.i (p.1.den ρ)∈ds.map jk)/\(ov.map fun p=>p.1.den ρ).Nodup
def SM:Nat->List (W×W×Nat)->List MapEntry->Nat->Prop
 |0,_,_,_=>True
 |c+1,es,bK,c'=>c'=c/\bK.map (·.born)=es.map (·.2.2)
def OR (E:En) (h:Array Obj) (id:Nat):dN->Prop
 | .cells cs e=> ∃arr lo hi us,h[(E.θ id).1]?=some (.cells arr e (lo,hi))/\ct E h cs us/\(∀i u,us[i]?=some u->arr[(E.θ id).2+i]?=some u)/\
  cs.length<=E.κ id/\(E.θ id).2+E.κ id=arr.size/\(∀o,lo<=o->o<hi->arr.size<=o)/\(∀u∈us,u.oneCell'=true)
 | .map es k=> ∃bK c,h[(E.θ id).1]?=some (.map bK c)/\eL E h es bK.toList/\SM k es bK.toList c
 | .vec e t ty ov=>(sK (rowOf t) ov/\sg (rowOf t) (dec (e.den E.ρ)))/\∃arr lo hi us,h[(E.θ id).1]?=some (.cells arr ty (lo,hi))/\ct E h (bE E.ρ (rowOf t) ov (dec (e.den E.ρ)).l 0) us/\(∀i u,us[i]?=some u->arr[(E.θ id).2+i]?=some u)/\
  (bE E.ρ (rowOf t) ov (dec (e.den E.ρ)).l 0).length<=E.κ id/\(E.θ id).2+E.κ id=arr.size/\(∀o,lo<=o->o<hi->arr.size<=o)/\(∀u∈us,u.oneCell'=true)
 | .j4 s p=>h[(E.θ id).1]?=some (.stringIter (dc s) p)/\(E.θ id).2=0/\∀b∈s,b<256
 | .jt m s l z=>match m with
   |none=>h[(E.θ id).1]?=some (.mapIter none s l.toArray z)/\(E.θ id).2=0
   |some i=>h[(E.θ id).1]?=some (.mapIter (some (E.θ i).1) s l.toArray z)/\(E.θ id).2=0/\E.dm i
 | .jS e t=> ∃bK c,h[(E.θ id).1]?=some (.map bK c)/\jV E.ro h t (dec (e.den E.ρ)).l bK.toList
 | .uc e t e8 ov=>Ah E.ρ (dec (e.den E.ρ)).l ov/\∃bK c,h[(E.θ id).1]?=some (.map bK c)/\eR E h (E.θ id).1 t e8 ov (dec (e.den E.ρ)).l bK.toList
class bH where
 ok:(Nat->Int)->(Nat->Prop)->Array Obj->Prop
 keep: ∀{ρ:Nat->Int} {ro me:Nat->Prop} {h h':Array Obj},ok ρ ro h->(∀b,ro b->me b)->(∀b,ro b->h'[b]?=h[b]?)->ok ρ me h'
 gL: ∀{ρ ρ':Nat->Int} {ro:Nat->Prop} {h:Array Obj},ok ρ ro h->(∀i,900<=i->ρ' i=ρ i)->ok ρ' ro h
structure bO [bH] (E:En) (H:Hp) (w:World):Prop where
 fresh: ∀id,H.next<=id->¬E.dm id
 res: ∀r,H.res=some r->r<H.next/\¬E.dm r
 live: ∀id o,H.get id=some o->E.dm id/\OR E w.heap id o/\¬E.ro (E.θ id).1
 inj: ∀id Oi o o',H.get id=some o->H.get Oi=some o'->(E.θ id).1=(E.θ Oi).1->id=Oi
 qt: ∀b,E.ro b->b<w.heap.size
 iY:bH.ok E.ρ E.ro w.heap
 hid: ∀b x,E.hd b=some x->b<w.heap.size/\¬E.ro b/\∀id o,H.get id=some o->(E.θ id).1≠b
structure eU (E:En) (H:Hp) (w:World) (E':En) (H':Hp) (w':World):Prop where
 ρ:E'.ρ=E.ρ
 dm: ∀id,E.dm id->E'.dm id
 θ: ∀id,E.dm id->E'.θ id=E.θ id
 κ: ∀id,E.dm id->E'.κ id=E.κ id
 ro: ∀b,E.ro b->E'.ro b
 ru: ∀b,E'.ro b->E.ro b\/(∃id o,H.get id=some o/\(E.θ id).1=b)\/w.heap.size<=b
 N3:H.next<=H'.next
 rsm:H'.res=none\/H'.res=H.res
 f_: ∀id,E'.dm id->E.dm id\/(H.next<=id/\id<H'.next)\/H.res=some id
 os:w'.os=w.os
 tape:w'.tape=w.tape
 output:w'.output=w.output
 size:w.heap.size<=w'.heap.size
 keep: ∀b,b<w.heap.size->(∀id o,H.get id=some o->(E.θ id).1≠b)->w'.heap[b]?=w.heap[b]?
 own: ∀id o,H'.get id=some o->(E'.θ id).1<w.heap.size->∃rv o0,H.get rv=some o0/\(E.θ rv).1=(E'.θ id).1
 hd:E'.hd=E.hd
theorem eU.refl (E:En) (H:Hp) (w:World):eU E H w E H w:=
 ⟨rfl,fun _ h=>h,fun _ _=>rfl,fun _ _=>rfl,fun _ h=>h,fun _ h=> .inl h,au _,.inr rfl,fun _ h=> .inl h,rfl,rfl,rfl,au _,fun _ _ _=>rfl,fun id o h _=> ⟨id,o,h,rfl⟩,rfl⟩
theorem eU.trans {E E1 E2:En} {H H1 H2:Hp} {w w1 w2:World} (a:eU E H w E1 H1 w1) (b:eU E1 H1 w1 E2 H2 w2):eU E H w E2 H2 w2 where
 ρ:=b.ρ.trans a.ρ
 dm:=fun id h=>b.dm id (a.dm id h)
 θ:=fun id h=>(b.θ id (a.dm id h)).trans (a.θ id h)
 κ:=fun id h=>(b.κ id (a.dm id h)).trans (a.κ id h)
 ro:=fun x h=>b.ro x (a.ro x h)
 ru:=fun x h=>by
  rcases b.ru x h with h|⟨id,o,U,Z⟩|h
  ·exact a.ru x h
  ·rcases aW x w.heap.size with hx|hx
   ·obtain⟨rv,o0,h3,h4⟩:=a.own id o U (by rw [Z]; exact hx);exact .inr (.inl ⟨rv,o0,h3,h4.trans Z⟩)
   ·exact .inr (.inr hx)
  ·exact .inr (.inr (bn a.size h))
 N3:=bn a.N3 b.N3
 rsm:=by
  rcases b.rsm with h|h
  ·exact .inl h
  ·rw [h]; exact a.rsm
 f_:=fun id h=>by
  rcases b.f_ id h with h|h|h
  ·rcases a.f_ id h with h|h|h
   ·exact .inl h
   ·exact .inr (.inl ⟨h.1,anh h.2 b.N3⟩)
   ·exact .inr (.inr h)
  ·exact .inr (.inl ⟨bn a.N3 h.1,h.2⟩)
  ·rcases a.rsm with h'|h'
   ·rw [h'] at h; simp at h
   ·exact .inr (.inr (h'.symm.trans h))
 os:=b.os.trans a.os
 tape:=b.tape.trans a.tape
 output:=b.output.trans a.output
 size:=bn a.size b.size
 keep:=fun x hx hn=>by rw [b.keep x (anh hx a.size) ?_,a.keep x hx hn];intro id o ho he;obtain⟨rv,o0,h0,he0⟩:=a.own id o ho (by rw [he]; exact hx);exact hn rv o0 h0 (he0.trans he)
 own:=fun id o ho ff=>by obtain⟨id1,o1,U,YH⟩:=b.own id o ho (anh ff a.size);obtain⟨rv,o0,h0,he0⟩:=a.own id1 o1 U (by rw [YH]; exact ff);exact⟨rv,o0,h0,he0.trans YH⟩
 hd:=b.hd.trans a.hd
structure fy (E:En) (h:Array Obj) (E':En) (h':Array Obj):Prop where
 ρ:E'.ρ=E.ρ
 dm: ∀id,E.dm id->E'.dm id
 θ: ∀id,E.dm id->E'.θ id=E.θ id
 κ: ∀id,E.dm id->E'.κ id=E.κ id
 ro: ∀b,E.ro b->E'.ro b
 Bx: ∀b,E.ro b->h'[b]?=h[b]?
theorem eU.keeps [bH] {E E':En} {H H':Hp} {w w':World} (s:eU E H w E' H' w') (r:bO E H w):fy E w.heap E' w'.heap:=
 ⟨s.ρ,s.dm,s.θ,s.κ,s.ro,fun b hb=>s.keep b (r.qt b hb) fun id o ho he=>(r.live id o ho).2.2 (by rw [he]; exact hb)⟩
theorem fS.keep {E E':En} {h h':Array Obj} (k:fy E h E' h') {b o:Nat} {us:List Value} (hb:E.ro b) (hc:fS h b o us):fS h' b o us:=by
 intro i u hu;have:=hc i u hu;unfold iX at *;rw [k.Bx b hb]
 grind
theorem eD.keep {E E':En} {h h':Array Obj} (k:fy E h E' h') {id off len:Nat} {a:Addr} {cap:Nat} {c:MS} (hid:E.dm id) (hc:eD E id off len a cap c):eD E' id off len a cap c:=by
 cases c<;>simp only [eD] at*<;>rw [k.θ id hid]
 ·exact hc
 ·rw [k.κ id hid]; exact hc
mutual
theorem VR.keep {E E':En} {h h':Array Obj} (k:fy E h E' h'): ∀(x:W) (v:Value),VR E h x v->VR E' h' x v
 | .bool b,v,hv=>by simp only [VR] at *; rw [k.ρ]; exact hv
 | .int _ e,v,hv=>by simp only [VR] at *; rw [k.ρ]; exact hv
 | .str s,v,hv=>by simp only [VR] at *; exact hv
 | .ptr id off,v,hv=>by simp only [VR] at *; rw [k.θ id hv.2]; exact⟨hv.1,k.dm _ hv.2⟩
 | .sL,v,hv=>by simp only [VR] at *; exact hv
 | .mK cs,v,hv=>by simp only [VR] at *;obtain⟨b,o,us,U,Z,h3,h4,h5⟩:=hv;exact⟨b,o,us,U,k.ro b Z,ct.keep k cs us h3,h4.keep k Z,h5⟩
 | .slice id off len c,v,hv=>by simp only [VR] at *;obtain⟨U,a,cap,Z,h3,h4⟩:=hv;exact⟨k.dm _ U,a,cap,Z,h3,h4.keep k U⟩
 | .dq,v,hv=>by simp only [VR] at *; exact hv
 | .ro cs n full,v,hv=>by simp only [VR] at *;obtain⟨b,o,cap,us,U,Z,h3,h4,h5,h6,h7⟩:=hv;exact⟨b,o,cap,us,U,Z,h3,k.ro b h4,ct.keep k cs us h5,h6.keep k h4,h7⟩
 | .map id,v,hv=>by simp only [VR] at *; rw [k.θ id hv.2]; exact⟨hv.1,k.dm _ hv.2⟩
 | .qX,v,hv=>by simp only [VR] at *; exact hv
 | .func fn fs cs,v,hv=>by simp only [VR] at *;obtain⟨us,ws,U,Z,h3⟩:=hv;exact⟨us,ws,U,ct.keep k fs us Z,ct.keep k cs ws h3⟩
 | .uR,v,hv=>by simp only [VR] at *; exact hv
 | .iface t x,v,hv=>by simp only [VR] at *;obtain⟨u,U,Z⟩:=hv;exact⟨u,U,VR.keep k x u Z⟩
 | .wI,v,hv=>by simp only [VR] at *; exact hv
 | .agg cs,v,hv=>by simp only [VR] at *;obtain⟨us,U,Z⟩:=hv;exact⟨us,U,ct.keep k cs us Z⟩
 | .tuple cs,v,hv=>by simp only [VR] at *;obtain⟨us,U,Z⟩:=hv;exact⟨us,U,ct.keep k cs us Z⟩
 | .Kh _,v,hv=>by simp only [VR] at hv
 | .emp,v,hv=>by simp only [VR] at *; exact hv
 | .ei e t,v,hv=>by simp only [VR] at *; rw [k.ρ]; exact hv.keep k.ro k.Bx
 | .jC e,v,hv=>by simp only [VR] at *; rw [k.ρ]; exact hv.keep k.ro k.Bx
 | .ow id n t,v,hv=>by simp only [VR] at *;obtain⟨U,m,a,cap,Z,h3,h4,h5⟩:=hv;exact⟨k.dm _ U,m,a,cap,by rw [k.ρ]; exact Z,h3,h4,h5.keep k U⟩
 | .any,_,_=>by simp only [VR]
 | .wL z t,v,hv=>by simp only [VR] at *; rw [k.ρ]; exact⟨hv.1,hv.2.keep k.ro k.Bx⟩
 | .sk id lo n t,v,hv=>by simp only [VR] at *;obtain⟨U,l,m,a,cap,Z,h3,h4,h5,h6⟩:=hv;exact⟨k.dm _ U,l,m,a,cap,by rw [k.ρ]; exact Z,by rw [k.ρ]; exact h3,h4,h5,h6.keep k U⟩
 | .yi id es i off,v,hv=>by simp only [VR] at *;obtain⟨U,m,Z,h3⟩:=hv;exact⟨k.dm _ U,m,by rw [k.ρ]; exact Z,by rw [k.θ id U]; exact h3⟩
 | .v7 kk ks,v,hv=>by
   simp only [VR] at *;rw [k.ρ];rcases hv with hv|⟨b,o,n,cap,U,Z,h3,h4,h5⟩
   ·grind
   ·refine .inr ⟨b,o,n,cap,U,Z,h3,k.ro b h4,fun i j kd hi hj=>?_⟩;have:=h5 i j kd hi hj;unfold iX at *;rw [k.Bx b h4]
    grind
theorem ct.keep {E E':En} {h h':Array Obj} (k:fy E h E' h'): ∀(xs:List W) (us:List Value),ct E h xs us->ct E' h' xs us
 |[],us,hv=>by simp only [ct] at *; exact hv
 |x::xs,us,hv=>by simp only [ct] at *;obtain⟨u,vs,U,Z,h3⟩:=hv;exact⟨u,vs,U,VR.keep k x u Z,ct.keep k xs vs h3⟩
end
theorem eL.keep {E E':En} {h h':Array Obj} (k:fy E h E' h'): ∀(xs:List (W×W×Nat)) (es:List MapEntry),eL E h xs es->eL E' h' xs es
 |[],es,hv=>by simp only [eL] at *; exact hv
 |(a,b,c)::xs,es,hv=>by simp only [eL] at *;obtain⟨e,r,U,Z,h3,h4,h5⟩:=hv;exact⟨e,r,U,VR.keep k _ _ Z,VR.keep k _ _ h3,h4,eL.keep k xs r h5⟩
theorem bO.Ug [bH] {E E':En} {H H':Hp} {w w':World} (r:bO E H w) (he:E'.hd=E.hd) (hs:w.heap.size<=w'.heap.size) (ru: ∀b,E'.ro b->E.ro b\/(∃id o,H.get id=some o/\(E.θ id).1=b)\/w.heap.size<=b)
 (own: ∀id o,H'.get id=some o->(E'.θ id).1<w.heap.size->∃rv o0,H.get rv=some o0/\(E.θ rv).1=(E'.θ id).1): ∀b x,E'.hd b=some x->b<w'.heap.size/\¬E'.ro b/\∀id o,H'.get id=some o->(E'.θ id).1≠b:=by
 intro b x hb;rw [he] at hb;obtain⟨q1,q2,q3⟩:=r.hid b x hb;refine⟨J,fun hr=>?_,fun id o ho e=>?_⟩
 ·rcases ru b hr with h|⟨id,o,U,Z⟩|h
  ·exact q2 h
  ·exact q3 id o U Z
  ·omega
 ·obtain⟨rv,o0,h0,e0⟩:=own id o ho (by rw [e]; exact q1);exact q3 rv o0 h0 (e0.trans e)
def HdK (E:En) (h:Array Obj) (E':En) (h':Array Obj) (B:Nat) (k:D):Prop:= ∀b j,E.hd b=some (B,k,j)->E'.hd b=some (B,k,j)/\h'[b]?=h[b]?
theorem bO.Uj [bH] {E E':En} {H:Hp} {w:World} {h':Array Obj} (r:bO E H w) (he:E'.hd=E.hd) (hk: ∀b,b<w.heap.size->(∀id o,H.get id=some o->(E.θ id).1≠b)->h'[b]?=w.heap[b]?) (B:Nat) (key:D):HdK E w.heap E' h' B key:=
 fun b _ hb=> ⟨by rw [he]; exact hb,hk b (r.hid b _ hb).1 (r.hid b _ hb).2.2⟩
theorem oR.keep {E E':En} {h h':Array Obj} (k:fy E h E' h') {B:Nat} {key:D} {j ty:Nat} (hh: ∀b,E.hd b=some (B,key,j)->E'.hd b=some (B,key,j)/\h'[b]?=h[b]?) {c:FC} {d:D} {u:Value} (ho:oR E h B key j ty c d u):oR E' h' B key j ty c d u:=by
 cases c with
 |ck c=>exact Rd.keep k.ro k.Bx ho
 |own t=>
  rcases ho with ⟨U,Z⟩|⟨b,o,n,cap,a,arr,lo,hi,U,Z,h3,h4,h5,h6,h7⟩
  ·exact .inl ⟨U,Rd.keep k.ro k.Bx Z⟩
  ·obtain⟨q1,q2⟩:=hh b h3;refine .inr ⟨b,o,n,cap,a,arr,lo,hi,U,Z,q1,by rw [q2]; exact h4,h5,h6,?_⟩;rcases h7 with h7|⟨g1,g2,us,g3,g4⟩
   ·exact .inl h7
   ·exact .inr ⟨g1,g2,us,by rw [k.ρ]; exact ct.keep k _ us g3,g4⟩
 |mp t=> obtain⟨b,bK,c,U,Z,h3,h4⟩:=ho;obtain⟨q1,q2⟩:=hh b Z;exact⟨b,bK,c,U,q1,by rw [q2]; exact h3,h4.keep k.ro k.Bx⟩
theorem p9.keep {E E':En} {h h':Array Obj} (k:fy E h E' h') {B t:Nat} {e8:List Nat} {key d:D} {v:Value} (hh:HdK E h E' h' B key) (ho:p9 E h B t e8 key d v):p9 E' h' B t e8 key d v:=by
 unfold p9 at *;split at ho
 ·obtain⟨c,U,Z⟩:=ho;exact⟨c,U,Z.keep k fun b=>hh b _⟩
 ·obtain⟨b,o,arr,lo,hi,U,Z,h3,h4,h5,h6⟩:=ho;obtain⟨q1,q2⟩:=hh b 0 Z;refine⟨b,o,arr,lo,hi,U,q1,by rw [q2]; exact h3,h4,h5,fun j c hc=>?_⟩;obtain⟨u,g1,g2,g3⟩:=h6 j c hc;exact⟨u,g1,g2,g3.keep k fun b=>hh b _⟩
theorem eR.keep {E E':En} {h h':Array Obj} (k:fy E h E' h') {B t:Nat} {e8:List Nat} {ov:List (V×W)} (hh: ∀n,lJ E.ρ n ov=none->HdK E h E' h' B (.i n)): ∀{ds:List D} {es:List MapEntry},eR E h B t e8 ov ds es->eR E' h' B t e8 ov ds es
 |[],_,ho=>ho
 |d::ds,_,⟨e,r,n,U,Z,h3,h4,h5⟩=>by
  refine⟨e,r,n,U,Z,h3,?_,eR.keep k hh h5⟩;rw [k.ρ];split at h4
  ·rename_i v hv;exact VR.keep k _ _ h4
  ·rename_i hv;exact h4.keep k (hh n hv)
def nf:dN->Bool
 | .uc _ _ _ _=>false
 |_=>true
theorem eR.length {E:En} {h:Array Obj} {B t:Nat} {e8:List Nat} {ov:List (V×W)}: ∀{ds:List D} {es:List MapEntry},eR E h B t e8 ov ds es->es.length=ds.length
 |[],_,ho=>by simp only [eR] at ho; rw [ho]; rfl
 |d::ds,_,⟨e,r,n,U,_,_,_,h5⟩=>by rw [U,aM,aM,eR.length h5]
theorem OR.X6 {E E':En} {h h':Array Obj} (k:fy E h E' h') {id:Nat} {o:dN} (hid:E.dm id) (hb:h'[(E.θ id).1]?=h[(E.θ id).1]?) (hh:nf o=true\/∀key,HdK E h E' h' (E.θ id).1 key) (ho:OR E h id o):OR E' h' id o:=by
 cases o with
 |cells cs e=> simp only [OR] at *;obtain⟨arr,lo,hi,us,U,Z,h3,h4,h5,h6,h7⟩:=ho;rw [k.θ id hid,k.κ id hid,hb];exact⟨arr,lo,hi,us,U,ct.keep k cs us Z,h3,h4,h5,h6,h7⟩
 |map es c=> simp only [OR] at *;obtain⟨bK,c,U,Z,h3⟩:=ho;rw [k.θ id hid,hb];exact⟨bK,c,U,eL.keep k _ _ Z,h3⟩
 |j4 s p=> simp only [OR] at *;rw [k.θ id hid,hb];exact ho
 |jt m s l z=>
  cases m with
  |none=> simp only [OR] at *;rw [k.θ id hid,hb];exact ho
  |some i=> simp only [OR] at *;obtain⟨U,Z,h3⟩:=ho;rw [k.θ id hid,hb,k.θ i h3];exact⟨U,Z,k.dm _ h3⟩
 |jS e t=> simp only [OR] at *;obtain⟨bK,c,U,Z⟩:=ho;rw [k.θ id hid,hb,k.ρ];exact⟨bK,c,U,Z.keep k.ro k.Bx⟩
 |vec e t ty ov=> simp only [OR] at *;obtain⟨h0,arr,lo,hi,us,U,Z,h3,h4,h5,h6,h7⟩:=ho;rw [k.θ id hid,k.κ id hid,hb,k.ρ];exact⟨h0,arr,lo,hi,us,U,ct.keep k _ us Z,h3,h4,h5,h6,h7⟩
 |uc e t e8 ov=>
  simp only [OR] at *;obtain⟨h0,bK,c,U,Z⟩:=ho;rw [k.θ id hid,hb,k.ρ];rcases hh with hh|hh
  ·simp [nf] at hh
  exact⟨h0,bK,c,U,Z.keep k fun n _=>hh _⟩
theorem OR.keep {E E':En} {h h':Array Obj} (k:fy E h E' h') {id:Nat} {o:dN} (hid:E.dm id) (hb:h'[(E.θ id).1]?=h[(E.θ id).1]?) (hh: ∀key,HdK E h E' h' (E.θ id).1 key) (ho:OR E h id o):OR E' h' id o:=ho.X6 k hid hb (.inr hh)
theorem OR.acn {E E':En} {h h':Array Obj} (k:fy E h E' h') {id:Nat} {o:dN} (hid:E.dm id) (hb:h'[(E.θ id).1]?=h[(E.θ id).1]?) (hn:nf o=true) (ho:OR E h id o):OR E' h' id o:=ho.X6 k hid hb (.inl hn)
end Go.As
end
section
namespace Go.As
theorem Hp.bQ (h:Hp) (i:Nat) (o:dN) (j:Nat):(h.put i o).get j=if j=i then some o else h.get j:=by simp [Hp.get,Hp.put,Tr.bQ]
theorem Hp.ga (h:Hp) (o:dN) (j:Nat):(h.new o).get j=if j=h.fresh then some o else h.get j:=by
 grind [Hp.new,Hp.fresh,Hp.get,Tr.bQ]
theorem bO.L! [bH] {E:En} {H:Hp} {w:World} (r:bO E H w): ¬E.dm H.fresh:=by
 unfold Hp.fresh
 cases hr:H.res with
 |none=>exact r.fresh _ (au _)
 |some x=>exact (r.res x hr).2
theorem bO.qQ [bH] {E:En} {H:Hp} {w:World} (r:bO E H w) {i:Nat} (h:E.dm i):i≠H.fresh:=fun e=>r.L! (e▸h)
theorem Hp.kq (h:Hp) (i j:Nat):(h.drop i).get j=if j=i then none else h.get j:=by simp [Hp.get,Hp.drop,Tr.bQ]
def En.ext (E:En) (n:Nat) (p:Nat×Nat) (c:Nat):En:=
 { E with θ:=fun i=>if i=n then p else E.θ i,κ:=fun i=>if i=n then c else E.κ i,dm:=fun i=>i=n\/E.dm i }
theorem En.ext_θ_new (E:En) (n:Nat) (p:Nat×Nat) (c:Nat):(E.ext n p c).θ n=p:=by simp [En.ext]
theorem En.ext_κ_new (E:En) (n:Nat) (p:Nat×Nat) (c:Nat):(E.ext n p c).κ n=c:=by simp [En.ext]
theorem En.gB (E:En) (n:Nat) (p:Nat×Nat) (c:Nat):(E.ext n p c).dm n:=.inl rfl
theorem En.ext_θ (E:En) (n:Nat) (p:Nat×Nat) (c:Nat) {i:Nat} (h:i≠n):(E.ext n p c).θ i=E.θ i:=by simp [En.ext,h]
theorem En.ext_κ (E:En) (n:Nat) (p:Nat×Nat) (c:Nat) {i:Nat} (h:i≠n):(E.ext n p c).κ i=E.κ i:=by simp [En.ext,h]
theorem Hz [bH] {E:En} {H:Hp} {w:World} (r:bO E H w) (p:Nat×Nat) (c:Nat) (o:dN):(∀id,(H.new o).next<=id->¬(E.ext H.fresh p c).dm id)/\∀q,(H.new o).res=some q->q<(H.new o).next/\¬(E.ext H.fresh p c).dm q:=by
 have U:=r.fresh;have Z:=r.res;unfold Hp.new Hp.fresh
 cases hr:H.res with
 |none=>
  refine⟨fun id hid hd=>?_,ad⟩;simp at hid;rcases hd with hd|hd
  all_goals grind
 |some q=>
  refine⟨fun id hid hd=>?_,ad⟩;simp at hid;have:=Z q hr;rcases hd with hd|hd
  all_goals grind
theorem rO (H:Hp) (o:dN):H.next<=(H.new o).next/\((H.new o).res=none\/(H.new o).res=H.res)/\∀id,id=H.fresh->(H.next<=id/\id<(H.new o).next)\/H.res=some id:=by
 grind [Hp.new,Hp.fresh]
structure Alike (w w':World):Prop where
 os:w'.os=w.os
 tape:w'.tape=w.tape
 output:w'.output=w.output
theorem yJ {h:Array Obj} {o:Obj} {b:Nat} (hb:b<h.size):(h.push o)[b]?=h[b]?:=by
 grind
theorem D4 [bH] {E:En} {H:Hp} {w:World} (r:bO E H w) (p:Nat×Nat) (c:Nat) (o:Obj):fy E w.heap (E.ext H.fresh p c) (w.heap.push o):=
 ⟨rfl,fun _ h=> .inr h,fun _ h=>En.ext_θ E _ p c (r.qQ h),fun _ h=>En.ext_κ E _ p c (r.qQ h),fun _ h=>h,fun b hb=>yJ (r.qt b hb)⟩
theorem fq [bH] {E:En} {H:Hp} {w:World} (r:bO E H w) {id:Nat} {o:dN} (h:H.get id=some o):(E.θ id).1<w.heap.size:=by
 have Z:=(r.live id o h).2.1
 cases o with
 |cells cs e=>
  obtain⟨arr,lo,hi,us,U,_⟩:=Z
  grind
 |map es c=>
  obtain⟨bK,c',U,_⟩:=Z
  grind
 |j4 s p=>exact (amZ.1 Z.1).1
 |jt m s l z=>cases m with
  |none=>exact (amZ.1 Z.1).1
  |some i=>exact (amZ.1 Z.1).1
 |jS e t=>
  obtain⟨bK,c',U,_⟩:=Z
  grind
 |uc e t e8 ov=>
  obtain⟨_,bK,c',U,_⟩:=Z
  grind
 |vec e t ty ov=>
  obtain⟨_,arr,lo,hi,us,U,_⟩:=Z
  grind
theorem pr [bH] {E:En} {H:Hp} {w w':World} (r:bO E H w) (o:Obj) (ao:dN) (c:Nat) (hw:w'.heap=w.heap.push o) (al:Alike w w')
 (ho:OR (E.ext H.fresh (w.heap.size,0) c) w'.heap H.fresh ao) :
 eU E H w (E.ext H.fresh (w.heap.size,0) c) (H.new ao) w'/\bO (E.ext H.fresh (w.heap.size,0) c) (H.new ao) w':=by
 have k:=D4 r (w.heap.size,0) c o;rw [<- hw] at k;have hf:=Hz r (w.heap.size,0) c ao;refine⟨⟨k.ρ,k.dm,k.θ,k.κ,k.ro,fun _ h=> .inl h,(rO H ao).1,(rO H ao).2.1,fun id h=>h.elim (fun e=> .inr ((rO H ao).2.2 id e)) .inl,al.os,al.tape,al.output,by rw [hw]; simp,fun b hb _=>by rw [hw,yJ hb],?_,rfl⟩,⟨hf.1,hf.2,?_,?_,?_,bH.keep r.iY k.ro k.Bx,?_⟩⟩
 ·intro id o2 Z ff;rw [Hp.ga] at Z;split at Z
  ·rename_i he
   grind [En.ext_θ_new]
  ·have h3:=(r.live id o2 Z).1;exact⟨id,o2,Z,by rw [En.ext_θ _ _ _ _ (r.qQ h3)]⟩
 ·intro id o2 Z;rw [Hp.ga] at Z;split at Z
  ·rename_i he;simp at Z;subst Z;rw [he,En.ext_θ_new];refine⟨En.gB _ _ _ _,ho,fun hr=>?_⟩;have:=r.qt _ hr
   grind
  ·obtain⟨h3,h4,h5⟩:=r.live id o2 Z;refine⟨.inr h3,h4.keep k h3 ?_ (fun key b j hb=> ⟨hb,by rw [hw,yJ (r.hid b _ hb).1]⟩),?_⟩
   ·grind [yJ,fq]
   ·rw [En.ext_θ _ _ _ _ (r.qQ h3)]; exact h5
 ·intro id Oi o1 o2 U Z he;rw [Hp.ga] at U Z;split at U<;>split at Z
  ·omega
  ·rename_i e1 _;have h3:=(r.live Oi o2 Z).1;rw [e1,En.ext_θ_new,En.ext_θ _ _ _ _ (r.qQ h3)] at he;have:=fq r Z
   grind
  ·rename_i _ e1;have h3:=(r.live id o1 U).1;rw [e1,En.ext_θ_new,En.ext_θ _ _ _ _ (r.qQ h3)] at he;have:=fq r U
   grind
  ·have h3:=(r.live id o1 U).1;have h4:=(r.live Oi o2 Z).1;rw [En.ext_θ _ _ _ _ (r.qQ h3),En.ext_θ _ _ _ _ (r.qQ h4)] at he;exact r.inj id Oi o1 o2 U Z he
 ·intro b hb;have:=r.qt b hb
  grind
 ·intro b x hb;obtain⟨q1,q2,q3⟩:=r.hid b x hb;refine⟨by rw [hw,Array.size_push]; omega,q2,fun id o2 Z=>?_⟩;rw [Hp.ga] at Z;split at Z
  ·rename_i he;rw [he,En.ext_θ_new];exact fun e=>by have e:w.heap.size=b:=e; omega
  ·rw [En.ext_θ _ _ _ _ (r.qQ (r.live id o2 Z).1)];exact q3 id o2 Z
theorem kb [bH] {E:En} {H:Hp} {w w':World} (r:bO E H w) {id:Nat} {o:dN} (Y:H.get id=some o)
 (lq: ∀b,b≠(E.θ id).1->w'.heap[b]?=w.heap[b]?):fy E w.heap E w'.heap:=
 ⟨rfl,fun _ h=>h,fun _ _=>rfl,fun _ _=>rfl,fun _ h=>h,fun b hb=>lq b fun e=>(r.live id o Y).2.2 (by rw [<- e]; exact hb)⟩
theorem yI [bH] {E:En} {H:Hp} {w w':World} (r:bO E H w) {id:Nat} {o:dN} (Y:H.get id=some o) (ao:dN)
 (Lx:w'.heap.size=w.heap.size) (lq: ∀b,b≠(E.θ id).1->w'.heap[b]?=w.heap[b]?) (al:Alike w w') (ho:OR E w'.heap id ao) :
 eU E H w E (H.put id ao) w'/\bO E (H.put id ao) w':=by
 have k:=kb r Y lq;refine⟨⟨rfl,fun _ h=>h,fun _ _=>rfl,fun _ _=>rfl,fun _ h=>h,fun _ h=> .inl h,au _,.inr rfl,fun _ h=> .inl h,al.os,al.tape,al.output,J,?_,?_,rfl⟩,⟨r.fresh,r.res,?_,?_,?_,bH.keep r.iY k.ro k.Bx,?_⟩⟩
 ·intro b _ hn
  grind
 ·intro j o2 Z _
  grind [Hp.bQ]
 ·intro j o2 Z;rw [Hp.bQ] at Z;split at Z
  ·rename_i e;subst e;simp at Z;subst Z;exact⟨(r.live j o Y).1,ho,(r.live j o Y).2.2⟩
  ·rename_i e;obtain⟨h3,h4,h5⟩:=r.live j o2 Z;refine⟨h3,h4.keep k h3 (lq _ fun e2=>e (r.inj j id o2 o Z Y e2)) (fun key b q hb=> ⟨hb,lq b fun e2=>(r.hid b _ hb).2.2 id o Y e2.symm⟩),h5⟩
 ·intro i j o1 o2 U Z he;rw [Hp.bQ] at U Z;split at U<;>split at Z
  ·omega
  ·rename_i e1 _; subst e1; exact r.inj i j o o2 Y Z he
  ·rename_i _ e1; subst e1; exact r.inj i j o1 o U Y he
  ·exact r.inj i j o1 o2 U Z he
 ·intro b hb;rw [Lx];exact r.qt b hb
 ·intro b x hb;obtain⟨q1,q2,q3⟩:=r.hid b x hb;refine⟨by rw [Lx]; exact q1,q2,fun j o2 Z=>?_⟩;rw [Hp.bQ] at Z;split at Z
  ·rename_i e;rw [e];exact q3 id o Y
  ·exact q3 j o2 Z
theorem wv [bH] {E:En} {H:Hp} {w:World} (r:bO E H w) (id:Nat):eU E H w E (H.drop id) w/\bO E (H.drop id) w:=by
 have hg: ∀j o,(H.drop id).get j=some o->H.get j=some o:=by
  intro j o h
  grind [Hp.kq]
 exact⟨⟨rfl,fun _ h=>h,fun _ _=>rfl,fun _ _=>rfl,fun _ h=>h,fun _ h=> .inl h,au _,.inr rfl,fun _ h=> .inl h,rfl,rfl,rfl,au _,fun _ _ _=>rfl,fun j o h _=> ⟨j,o,hg j o h,rfl⟩,rfl⟩,
  ⟨r.fresh,r.res,fun j o h=>r.live j o (hg j o h),fun i j o1 o2 U Z he=>r.inj i j o1 o2 (hg _ _ U) (hg _ _ Z) he,r.qt,r.iY,fun b x hb=> ⟨(r.hid b x hb).1,(r.hid b x hb).2.1,fun j o h=>(r.hid b x hb).2.2 j o (hg j o h)⟩⟩⟩
theorem NT [bH] {E:En} {H:Hp} {w w':World} (r:bO E H w) {id:Nat} {o:dN} (Y:H.get id=some o) (ao:dN) (off c:Nat)
 (Lx:w'.heap.size=w.heap.size) (lq: ∀b,b≠(E.θ id).1->w'.heap[b]?=w.heap[b]?) (al:Alike w w')
 (ho:OR (E.ext H.fresh ((E.θ id).1,(E.θ id).2+off) c) w'.heap H.fresh ao) :
 eU E H w (E.ext H.fresh ((E.θ id).1,(E.θ id).2+off) c) ((H.drop id).new ao) w'/\bO (E.ext H.fresh ((E.θ id).1,(E.θ id).2+off) c) ((H.drop id).new ao) w':=by
 have hdn:(H.drop id).fresh=H.fresh:=rfl;have hf:=Hz (wv r id).2 ((E.θ id).1,(E.θ id).2+off) c ao;rw [hdn] at hf
 have k:fy E w.heap (E.ext H.fresh ((E.θ id).1,(E.θ id).2+off) c) w'.heap:=
  ⟨rfl,fun _ h=> .inr h,fun _ h=>En.ext_θ E _ _ c (r.qQ h),fun _ h=>En.ext_κ E _ _ c (r.qQ h),fun _ h=>h,(kb r Y lq).Bx⟩
 have hg: ∀j o2,((H.drop id).new ao).get j=some o2->(j=H.fresh/\o2=ao)\/(j≠id/\H.get j=some o2):=by
  intro j o2 h
  grind [Hp.ga,Hp.kq]
 refine⟨⟨rfl,k.dm,k.θ,k.κ,k.ro,fun _ h=> .inl h,(rO (H.drop id) ao).1,(rO (H.drop id) ao).2.1,fun j h=>h.elim (fun e=> .inr ((rO (H.drop id) ao).2.2 j e)) .inl,al.os,al.tape,al.output,J,?_,?_,rfl⟩,⟨hf.1,hf.2,?_,?_,?_,bH.keep r.iY k.ro k.Bx,?_⟩⟩
 ·intro b _ hn
  grind
 ·intro j o2 Z ff;rcases hg j o2 Z with ⟨rfl,rfl⟩|⟨_,h3⟩
  ·grind [En.ext_θ_new]
  ·have:=(r.live j o2 h3).1;exact⟨j,o2,h3,by rw [En.ext_θ _ _ _ _ (r.qQ this)]⟩
 ·intro j o2 Z;rcases hg j o2 Z with ⟨rfl,rfl⟩|⟨fJ,h3⟩
  ·rw [En.ext_θ_new];exact⟨En.gB _ _ _ _,ho,(r.live id o Y).2.2⟩
  ·obtain⟨h4,h5,h6⟩:=r.live j o2 h3;refine⟨.inr h4,h5.keep k h4 (lq _ fun e=>fJ (r.inj j id o2 o h3 Y e)) (fun key b q hb=> ⟨hb,lq b fun e2=>(r.hid b _ hb).2.2 id o Y e2.symm⟩),?_⟩;rw [En.ext_θ _ _ _ _ (r.qQ h4)]; exact h6
 ·intro i j o1 o2 U Z he;rcases hg i o1 U with ⟨e1,_⟩|⟨e1,h3⟩ <;>rcases hg j o2 Z with ⟨e2,_⟩|⟨e2,h4⟩
  ·omega
  ·have:=(r.live j o2 h4).1;rw [e1,En.ext_θ_new,En.ext_θ _ _ _ _ (r.qQ this)] at he;exact absurd (r.inj id j o o2 Y h4 he).symm e2
  ·have:=(r.live i o1 h3).1;rw [e2,En.ext_θ_new,En.ext_θ _ _ _ _ (r.qQ this)] at he;exact absurd (r.inj i id o1 o h3 Y he) e1
  ·have h5:=(r.live i o1 h3).1;have h6:=(r.live j o2 h4).1;rw [En.ext_θ _ _ _ _ (r.qQ h5),En.ext_θ _ _ _ _ (r.qQ h6)] at he;exact r.inj i j o1 o2 h3 h4 he
 ·intro b hb;rw [Lx];exact r.qt b hb
 ·intro b x hb;obtain⟨q1,q2,q3⟩:=r.hid b x hb;refine⟨by rw [Lx]; exact q1,q2,fun j o2 Z=>?_⟩;rcases hg j o2 Z with ⟨rfl,rfl⟩|⟨_,h3⟩
  ·rw [En.ext_θ_new];exact q3 id o Y
  ·rw [En.ext_θ _ _ _ _ (r.qQ (r.live j o2 h3).1)];exact q3 j o2 h3
def I2:Value->Bool
 | .agg _=>true
 |_=>false
def VX (P:Program):TypeDesc->Option TK
 | .bool=>some .bool
 | .int k=>some (.int k)
 | .string=>some .string
 | .pointer e=>some (.pointer e)
 | .slice e=>some (.slice e)
 | .array n e=>some (.array n e)
 | .map k e=>some (.map k e)
 | .struct fs=>(fs.toList.mapM fun f=>(P.info? f.type).map fun i=>(f.offset,f.type,i.size)).map .struct
 | .func _ _ _=>some .func
 | .interface ms=>some (.iface ms.isEmpty)
 | .tuple _=>some .tuple
 |_=>none
def RZ (P:Program) (t:Nat):Bool:=
 match P.underlying t with
 |some (.struct fs)=>!P.stoodInHeld t&&!P.eqGuardType P.depth t&&fs.toList.all fun f=>f.name != "_"&&(match P.underlying f.type with |some .bool|some .string|some (.int _)=>true|_=>false)
 |_=>false
def ahD (i:TypeInfo) (z:Value) (k:TK) (q:Bool):Option TI:=
 match kJ z.cells.toList with
 |some zs=>if I2 z=k.agg then some { kind:=k,size:=i.size,bytes:=i.bytes,zero:=zs,eqs:=q } else none
 |none=>none
def N? (P:Program) (t:Nat):Option TI:=
 match P.info? t with
 |none=>none
 |some i=>match P.underlying t with
  |none=>none
  |some d=>match VX P d with
   |none=>none
   |some k=>match i.zero with
    |none=>none
    |some z=>ahD i z k (RZ P t)
theorem fb (b o n:Nat):(⟨b,o,none⟩ : Addr).add n=⟨b,o+n,none⟩:=by unfold Addr.add; split<;>simp_all
def H6 (P:Program):TypeDesc->TK->Prop
 | .bool,.bool=>True
 | .int k,.int k'=>k=k'
 | .string,.string=>True
 | .pointer e,.pointer e'=>e=e'
 | .slice e,.slice e'=>e=e'
 | .array n e,.array n' e'=>n=n'/\e=e'
 | .map k e,.map k' e'=>k=k'/\e=e'
 | .struct fs,.struct l=>(fs.toList.mapM fun f=>(P.info? f.type).map fun i=>(f.offset,f.type,i.size))=some l
 | .func _ _ _,.func=>True
 | .interface _,.iface _=>True
 | .tuple _,.tuple=>True
 |_,_=>False
structure mc (P:Program) (t:Nat) (i:TI):Prop where
 eqs:i.eqs=true->RZ P t=true
 all: ∃inf d z,P.info? t=some inf/\P.underlying t=some d/\inf.zero=some z/\kJ z.cells.toList=some i.zero/\inf.size=i.size/\inf.bytes=i.bytes/\H6 P d i.kind/\I2 z=i.agg
def eC (P:Program) (tt:TT):Prop:= ∀t i,tt t=some i->mc P t i
theorem N_ {P:Program} {d:TypeDesc} {k:TK} (h:VX P d=some k):H6 P d k:=by
 cases d
 case struct fs=>
  simp only [VX,aQ] at h;obtain⟨l,U,rfl⟩:=h;exact U
 all_goals first
  |(simp only [VX,ah] at h; subst h; simp [H6]; done)
  |(simp [VX] at h; done)
theorem N! {P:Program} {t:Nat} {i:TI} (h:N? P t=some i):mc P t i:=by
 unfold N? at h;split at h
 ·grind
 ·rename_i inf U;split at h
  ·grind
  ·rename_i d Z;split at h
   ·grind
   ·rename_i k hk;split at h
    ·grind
    ·rename_i z h3;unfold ahD at h;split at h
     ·rename_i zs h4;split at h
      ·rename_i ha;simp only [ah] at h;subst h;exact⟨fun hq=>hq,inf,d,z,U,Z,h3,h4,rfl,rfl,N_ hk,ha⟩
      grind
     grind
theorem kH (s:ByteArray):dc (bytesOf s)=s:=by
 unfold dc bytesOf
 have:(List.map UInt8.ofNat (List.map (fun x=>x.toNat) s.data.toList))=s.data.toList:=by
  rw [am7]
  conv=>rhs; rw [<- ano s.data.toList]
  apply anH;intro b _;simp
 rw [this]
theorem xX (s:ByteArray): ∀b∈bytesOf s,b<256:=by intro b hb;unfold bytesOf at hb;rw [aH] at hb;obtain⟨c,_,rfl⟩:=hb;exact c.toNat_lt
theorem BD {E:En} {h:Array Obj} {v:Value} {a:W} (hv:gH v=some a):VR E h a v/\v.oneCell'=true:=by
 cases v with
 |bool b=>simp [gH] at hv; subst hv; simp [VR,SB.den,Value.oneCell']
 |int k n=>simp [gH] at hv; subst hv; simp [VR,V.den,Value.oneCell']
 |string s=>simp [gH] at hv; subst hv; exact⟨by simp only [VR]; exact⟨by rw [kH],xX s⟩,rfl⟩
 |pointer a=>cases a<;>simp [gH] at hv; subst hv; simp [VR,Value.oneCell']
 |slice a l c=>
  cases a with
  |some a=>simp [gH] at hv
  |none=>
   cases l with
   |succ l=>simp [gH] at hv
   |zero=>cases c with
    |succ c=>simp [gH] at hv
    |zero=>simp [gH] at hv; subst hv; simp [VR,Value.oneCell']
 |map r=>cases r<;>simp [gH] at hv; subst hv; simp [VR,Value.oneCell']
 |nilFunc=>simp [gH] at hv; subst hv; simp [VR,Value.oneCell']
 |nilIface=>simp [gH] at hv; subst hv; simp [VR,Value.oneCell']
 |func fn f c=>
  simp only [gH] at hv;split at hv
  ·rename_i hx;simp at hx hv;subst hv;obtain⟨rfl,rfl⟩:=hx;exact⟨by simp only [VR]; exact⟨[],[],rfl,rfl,rfl⟩,rfl⟩
  grind
 |_=>simp [gH] at hv
theorem eX {E:En} {h:Array Obj}: ∀{vs:List Value} {amP:List W},kJ vs=some amP->ct E h amP vs/\∀v∈vs,v.oneCell'=true
 |[],amP,hv=>by simp [kJ] at hv; subst hv; simp [ct]
 |v::vs,amP,hv=>by
  simp only [kJ] at hv;split at hv
  ·grind
  ·rename_i a ha;split at hv
   ·grind
   ·rename_i as' has;simp at hv;subst hv;have U:=BD (E:=E) (h:=h) ha;have Z:=eX (E:=E) (h:=h) has;refine⟨by rw [bP]; exact⟨v,vs,rfl,U.1,Z.1⟩,?_⟩;intro u hu
    grind
theorem N2 {E:En} {h:Array Obj} {v:Value} {a:W} (hv:ofConst v=some a):VR E h a v:=by
 cases v with
 |agg cs=>
  simp only [ofConst,aQ] at hv;obtain⟨l,U,rfl⟩:=hv;simp only [VR]
  grind [eX]
 |tuple cs=>
  simp only [ofConst,aQ] at hv;obtain⟨l,U,rfl⟩:=hv;simp only [VR]
  grind [eX]
 |_=>exact (BD (by simpa [ofConst] using hv)).1
theorem VR.one {E:En} {h:Array Obj} {x:W} {v:Value} (hv:VR E h x v) (U:x.one=true):v.oneCell'=true:=by
 cases x with
 |agg cs=>simp [W.one] at U
 |tuple cs=>simp [W.one] at U
 |Kh i=>simp [W.one] at U
 |v7 k ks=>simp only [VR] at hv; rcases hv with ⟨⟨x,cap,rfl⟩,_⟩|⟨b,o,n,cap,rfl,_⟩ <;>rfl
 |slice id off len c=>simp only [VR] at hv; obtain⟨_,a,cap,rfl,_⟩:=hv; rfl
 |ro cs n full=>simp only [VR] at hv; obtain⟨b,o,cap,us,rfl,_⟩:=hv; rfl
 |mK cs=>simp only [VR] at hv; obtain⟨b,o,us,rfl,_⟩:=hv; rfl
 |func fn fs cs=>simp only [VR] at hv; obtain⟨us,ws,rfl,_⟩:=hv; rfl
 |iface t x=>simp only [VR] at hv; obtain⟨u,rfl,_⟩:=hv; rfl
 |str s=>simp only [VR] at hv; rw [hv.1]; rfl
 |ptr id off=>simp only [VR] at hv; rw [hv.1]; rfl
 |map id=>simp only [VR] at hv; rw [hv.1]; rfl
 |emp=>simp only [VR] at hv; obtain⟨x,rfl⟩:=hv; rfl
 |ei e t=>simp only [VR] at hv; exact hv.aah
 |jC e=>simp only [VR] at hv; exact hv.aah
 |ow id n t=>simp only [VR] at hv; obtain⟨_,k,a,cap,_,rfl,_⟩:=hv; rfl
 |sk id lo n t=>simp only [VR] at hv; obtain⟨_,l,k,a,cap,_,_,rfl,_⟩:=hv; rfl
 |any=>simp [W.one] at U
 |wL z t=>simp only [VR] at hv; obtain⟨⟨x,rfl⟩,_⟩:=hv; rfl
 |yi id es i off=>simp only [VR] at hv; obtain⟨_,k,_,rfl⟩:=hv; rfl
 |_=>simp only [VR] at hv; rw [hv]; rfl
theorem ct.rN {E:En} {h:Array Obj}: ∀{xs:List W} {us:List Value},ct E h xs us->rj xs=true->∀u∈us,u.oneCell'=true
 |[],us,hv,_=>by rw [fQ] at hv; subst hv; simp
 |x::xs,us,hv,U=>by
  rw [bP] at hv;obtain⟨u,vs,rfl,Z,h3⟩:=hv;simp [rj] at U;intro y hy;rcases ax.1 hy with rfl|hy
  ·exact Z.one U.1
  ·exact h3.rN U.2 y hy
theorem VR.cells {E:En} {h:Array Obj} {x:W} {v:Value} (hv:VR E h x v) (U:rj x.cells=true):ct E h x.cells v.cells.toList:=by
 cases x with
 |agg cs=> simp only [VR] at hv;obtain⟨us,rfl,Z⟩:=hv;simpa [W.cells,Value.cells] using Z
 |_=>
  all_goals
   simp only [W.cells] at U ⊢;have Z:=hv.one (by simpa [rj] using U);rw [bP];refine⟨v,[],?_,hv,rfl⟩;cases v<;>first |rfl|simp [Value.oneCell'] at Z
theorem rL {P:Program} {w:World} {b o n:Nat} {us:List Value} (hn:us.length=n) (h:fS w.heap b o us) :
 (loadCells ⟨b,o,none⟩ n).run P w= .ok us.toArray w:=by
 subst hn;refine run_loadCells_list w _ us fun j v hj=>?_;rw [fb,lF];exact h j v hj
theorem fS.drop {h:Array Obj} {b o:Nat} {us:List Value} (hc:fS h b o us) (k:Nat):fS h b (o+k) (us.drop k):=by
 intro i u hu;rw [anp] at hu;have:=hc (k+i) u hu
 grind
theorem fS.take {h:Array Obj} {b o:Nat} {us:List Value} (hc:fS h b o us) (k:Nat):fS h b o (us.take k):=by
 intro i u hu;rw [anq] at hu;split at hu
 ·exact hc i u hu
 grind
theorem xi {E:En} {h:Array Obj} {id:Nat} {cs:List W} {e:TypeId} (ho:OR E h id (.cells cs e)) :
 ∃us,ct E h cs us/\fS h (E.θ id).1 (E.θ id).2 us/\∀u∈us,u.oneCell'=true:=by
 obtain⟨arr,lo,hi,us,U,Z,h3,h4,h5,h6,h7⟩:=ho;refine⟨us,Z,fun i u hu=>?_,h7⟩;simp only [iX,U]
 grind
theorem vO [bH] {E:En} {H:Hp} {w:World} (r:bO E H w) {p:W} {u:Value} {n:Nat} {l:List W} (hp:VR E w.heap p u) (h:mD H p n=some l) :
 ∃b o us,u= .pointer (some ⟨b,o,none⟩)/\us.length=n/\ct E w.heap l us/\fS w.heap b o us/\∀u∈us,u.oneCell'=true:=by
 cases p with
 |ptr id off=>
  simp only [mD] at h;split at h
  ·rename_i cs e Y;split at h
   ·rename_i l' hd;obtain⟨us,Z,h3,h4⟩:=xi (r.live id _ Y).2.1;obtain⟨h5,h6,h7⟩:=Z.eF hd;obtain⟨h8,h9⟩:=h5.iy h;simp only [VR] at hp;refine⟨_,_,_,hp.1,?_,h8,(h3.drop off).take n,fun x hx=>h4 x (bu (amV hx))⟩;have:=h5.length
    grind
   grind
  grind
 |mK cs=>
  simp only [mD] at h;simp only [VR] at hp;obtain⟨b,o,us,rfl,_,Z,h3,h4⟩:=hp;obtain⟨h5,h6⟩:=Z.iy h;refine⟨b,o,_,rfl,?_,h5,h3.take n,fun x hx=>h4 x (amV hx)⟩;have:=Z.length
  grind
 |_=>simp [mD] at h
theorem vK {E:En} {h:Array Obj}: ∀{cs:List W} {o:Nat} {vs lE:List W} {us ws:List Value},dV cs o vs=some lE->ct E h cs us->ct E h vs ws->
 lE.length=cs.length/\o+vs.length<=cs.length/\∃gx,ct E h lE gx/\∀i,gx[i]?=if o<=i/\i<o+ws.length then ws[i-o]? else us[i]?
 |cs,0,[],lE,us,ws,U,Z,h3=>by cases cs<;>simp [dV] at U<;>subst U<;>rw [fQ] at h3<;>subst h3<;>exact⟨rfl,ad,us,Z,fun i=>by simp⟩
 |[],0,_::_,lE,us,ws,U,Z,h3=>by simp [dV] at U
 |c::cs,0,v::vs,lE,us,ws,U,Z,h3=>by
  simp only [dV] at U;split at U
  ·rename_i l Y;simp at U;subst U;rw [bP] at Z h3;obtain⟨u,gx,rfl,ha,hb⟩:=Z;obtain⟨x,ws',rfl,hc,hd⟩:=h3;obtain⟨e1,e2,VL,e3,e4⟩:=vK Y hb hd;refine⟨by simp [e1],by simp at e2 ⊢; omega,x::VL,by rw [bP]; exact⟨x,VL,rfl,hc,e3⟩,?_⟩;intro i
   grind
  grind
 |[],_+1,vs,lE,us,ws,U,Z,h3=>by cases vs<;>simp [dV] at U
 |c::cs,o+1,vs,lE,us,ws,U,Z,h3=>by
  have RO:(match dV cs o vs with |some l=>some (c::l)|none=>none)=some lE:=by cases vs<;>exact U
  split at RO
  ·rename_i l Y;simp at RO;subst RO;rw [bP] at Z;obtain⟨u,gx,rfl,ha,hb⟩:=Z;obtain⟨e1,e2,VL,e3,e4⟩:=vK Y hb h3;refine⟨by simp [e1],by simp; omega,u::VL,by rw [bP]; exact⟨u,VL,rfl,ha,e3⟩,?_⟩;intro i
   grind
  grind
theorem mB {P:Program} (b o:Nat) (e:TypeId) (lo hi:Nat): ∀(vs:List Value) (i:Nat) (arr:Array Value) (w:World),
 w.heap[b]?=some (.cells arr e (lo,hi))->(∀x,lo<=x->x<hi->arr.size<=x)->o+i+vs.length<=arr.size->(∀v∈vs,v.oneCell'=true)->
 ∃w' J8,(storeCells ⟨b,o,none⟩ vs i).run P w= .ok () w'/\Alike w w'/\w'.heap.size=w.heap.size/\(∀j,j≠b->w'.heap[j]?=w.heap[j]?)/\
  w'.heap[b]?=some (.cells J8 e (lo,hi))/\J8.size=arr.size/\∀j,J8[j]?=if o+i<=j/\j<o+i+vs.length then vs[j-(o+i)]? else arr[j]?
 |[],i,arr,w,hb,_,_,_=> ⟨w,arr,rfl,⟨rfl,rfl,rfl⟩,rfl,fun _ _=>rfl,hb,rfl,fun j=>by rw [af ad]⟩
 |v::vs,i,arr,w,hb,hf,Y,U=>by
  have u6:o+i<arr.size:=by simp at Y; omega
  have iX:w.cell? ⟨b,o+i,none⟩ = some arr[o+i]:=by simp [World.cell?,hb,u6]
  have amM:w.frozen? ⟨b,o+i,none⟩ = false:=by
   simp only [World.frozen?,hb,aoo,decide_eq_false_iff_not]
   grind
  have AT:(store ((⟨b,o,none⟩ : Addr).add i) v).run P w= .ok () (w.setCell ⟨b,o+i,none⟩ v):=by
   rw [fb,run_store P w _ v _ (U v ad),iX]
   grind
  have LM:(w.setCell ⟨b,o+i,none⟩ v).heap[b]?=some (.cells (arr.setIfInBounds (o+i) v) e (lo,hi)):=by simp [World.setCell,anR,hb]
  have gT:(w.setCell ⟨b,o+i,none⟩ v).heap.size=w.heap.size:=by simp [World.setCell]
  have hot: ∀j,j≠b->(w.setCell ⟨b,o+i,none⟩ v).heap[j]?=w.heap[j]?:=by
   intro j hj;simp only [World.setCell,anR]
   grind
  obtain⟨w',J8,e1,e2,e3,e4,e5,e6,e7⟩:=mB (P:=P) b o e lo hi vs (i+1) _ _ LM (by simpa using hf) (by simp at Y ⊢; omega) (fun x hx=>U x (by simp [hx]));refine⟨w',J8,?_,⟨e2.os,e2.tape,e2.output⟩,e3.trans gT,fun j hj=>(e4 j hj).trans (hot j hj),e5,by simpa using e6,?_⟩
  ·simp only [storeCells,Sem.run_bind,AT,Result.andThen_ok];exact e1
  grind
theorem lL [bH] {P:Program} {E:En} {H:Hp} {w:World} (r:bO E H w) {id off:Nat} {cs vs lE:List W} {e:TypeId} {ws:List Value} (Y:H.get id=some (.cells cs e))
 (hs:dV cs off vs=some lE) (hv:ct E w.heap vs ws) (U: ∀u∈ws,u.oneCell'=true) :
 ∃w',(storeCells ⟨(E.θ id).1,(E.θ id).2+off,none⟩ ws).run P w= .ok () w'/\eU E H w E (H.put id (.cells lE e)) w'/\bO E (H.put id (.cells lE e)) w':=by
 obtain⟨arr,lo,hi,us,g1,g2,g3,g4,g5,g6,g7⟩:=(r.live id _ Y).2.1;obtain⟨s1,s2,gx,s3,s4⟩:=vK hs g2 hv;have hlen:=hv.length;have hlu:=g2.length;obtain⟨w',J8,e1,e2,e3,e4,e5,e6,e7⟩:=mB (P:=P) (E.θ id).1 ((E.θ id).2+off) e lo hi ws 0 arr w g1 g6 J U;refine⟨w',e1,yI r Y _ e3 e4 e2 ?_⟩;have k:=kb r Y e4;refine⟨J8,lo,hi,gx,e5,ct.keep k _ _ s3,?_,J,by rw [e6]; exact g5,by rw [e6]; exact g6,?_⟩
 ·intro i u hu
  grind
 ·intro u hu;rw [anS] at hu
  grind
def bV (ρ:Nat->Int) (pc:List (SB×Bool)):Prop:= ∀c b,(c,b)∈pc->c.den ρ=b
def SR (E:En) (h:Array Obj) (bF:Tr W) (a:Act):Prop:= ∀t v,bF.get t=some v->∃u,a.tmps[t]?=some u/\VR E h v u
def oS (P:Program) (o:Oper) (a:Act) (w:World) (R:Value->World->Prop):Prop:=
 ∀(K:Act->World->Prop) (Q:Exit->Act->World->Prop),(∀u w',R u w'->K (a.put o.dst u) w')->o.wp P a w K Q
theorem oS.value {P:Program} {o:Oper} {a:Act} {w w':World} {R:Value->World->Prop} {u:Value} (h:(execOp a.eval o).run P w= .ok (.value u) w') (hr:R u w'):oS P o a w R:=
 fun K Q hk=>by unfold Oper.wp; rw [h]; exact hk u w' hr
theorem oS.skip {P:Program} {o:Oper} {a:Act} {w w':World} {R:Value->World->Prop} (h:(execOp a.eval o).run P w= .ok .skip w') (hr:R undef w'):oS P o a w R:=
 fun K Q hk=>by unfold Oper.wp; rw [h]; exact hk _ w' hr
theorem gj {E:En} {w:World} {s:St} {a:Act} (sr:SR E w.heap s.bF a) {x:Operand} {v:W} (h:ev s x=some v):VR E w.heap v (a.eval x):=by
 cases x with
 |tmp t=> obtain⟨u,U,Z⟩:=sr t v h;simp only [Act.eval,anx,U,aC];exact Z
 |const c=>exact N2 h
 |func f=> simp [ev] at h;subst h;simp only [VR,Act.eval];exact⟨[],[],rfl,rfl,rfl⟩
 |global g=>simp [ev] at h
theorem Jo {E:En} {w:World} {s:St} {a:Act} (sr:SR E w.heap s.bF a): ∀{xs:List Operand} {vs:List W},evs s xs=some vs->ct E w.heap vs (xs.map a.eval)
 |[],vs,h=>by simp [evs] at h; subst h; simp [ct]
 |x::xs,vs,h=>by
  simp only [evs] at h;split at h
  ·grind
  ·rename_i b hb;split at h
   ·grind
   ·rename_i bs hbs;simp at h;subst h;rw [aw,bP];exact⟨_,_,rfl,gj sr hb,Jo sr hbs⟩
section
variable {P:Program} {t:Nat} {i:TI}
theorem kN (h:mc P t i) (w:World):(isAgg t).run P w= .ok i.agg w:=by obtain⟨inf,d,z,U,Z,h3,h4,h5,h6,h7,_⟩:=h.all;unfold isAgg;simp only [Sem.run_bind,run_underlying Z,Result.andThen_ok];cases d<;>cases hk:i.kind<;>simp only [hk,H6] at h7<;>simp [TI.agg,TK.agg,hk]
theorem eA (h:mc P t i) (w:World):(sizeOf t).run P w= .ok i.size w:=by obtain⟨inf,d,z,U,Z,h3,h4,h5,h6,h7,_⟩:=h.all;simp [sizeOf,typeInfo,U,h5]
theorem fg (h:mc P t i) {e:Nat} (hk:i.kind= .slice e):P.underlying t=some (.slice e):=by obtain⟨inf,d,z,U,Z,h3,h4,h5,h6,h7,_⟩:=h.all;rw [Z];cases d<;>simp [hk,H6] at h7;rw [h7]
theorem rB (h:mc P t i) {n e:Nat} (hk:i.kind= .array n e):P.underlying t=some (.array n e):=by
 obtain⟨inf,d,z,U,Z,h3,h4,h5,h6,h7,_⟩:=h.all;rw [Z];cases d<;>simp [hk,H6] at h7
 grind
theorem sA (h:mc P t i) {k e:Nat} (hk:i.kind= .map k e):P.underlying t=some (.map k e):=by
 obtain⟨inf,d,z,U,Z,h3,h4,h5,h6,h7,_⟩:=h.all;rw [Z];cases d<;>simp [hk,H6] at h7
 grind
theorem oI (h:mc P t i) {k:IntKind} (hk:i.kind= .int k):P.underlying t=some (.int k):=by obtain⟨inf,d,z,U,Z,h3,h4,h5,h6,h7,_⟩:=h.all;rw [Z];cases d<;>simp [hk,H6] at h7;rw [h7]
theorem fK (h:mc P t i) (hk:i.kind= .string):P.underlying t=some .string:=by
 obtain⟨inf,d,z,U,Z,h3,h4,h5,h6,h7,_⟩:=h.all
 grind [H6]
theorem Kz (h:mc P t i) (hk:i.kind= .bool):P.underlying t=some .bool:=by
 obtain⟨inf,d,z,U,Z,h3,h4,h5,h6,h7,_⟩:=h.all
 grind [H6]
theorem sv (h:mc P t i) {l:List (Nat×Nat×Nat)} (hk:i.kind= .struct l): ∃fs:Array Field,P.underlying t=some (.struct fs)/\(fs.toList.mapM fun f=>(P.info? f.type).map fun i=>(f.offset,f.type,i.size))=some l:=by
 obtain⟨inf,d,z,U,Z,h3,h4,h5,h6,h7,_⟩:=h.all;rw [Z];cases d<;>simp [hk,H6] at h7
 grind
theorem v8 (h:mc P t i): ∃inf z,P.info? t=some inf/\inf.size=i.size/\inf.bytes=i.bytes/\inf.zero=some z/\kJ z.cells.toList=some i.zero:=by
 obtain⟨inf,d,z,U,Z,h3,h4,h5,h6,h7,_⟩:=h.all
 grind
end
theorem A7 [bH] {P:Program} {tt:TT} (cI:eC P tt) {E:En} {H:Hp} {w:World} (r:bO E H w) {t:Nat} {p v:W} {u:Value} (hp:VR E w.heap p u) (h:A8 tt t p H=some v) :
 ∃x b o,u= .pointer (some ⟨b,o,none⟩)/\(loadVar t ⟨b,o,none⟩).run P w= .ok x w/\VR E w.heap v x:=by
 unfold A8 at h;split at h
 ·grind
 ·rename_i i hi;have fP:=cI t i hi;split at h
  ·rename_i Oz;rw [aQ] at h;obtain⟨l,Y,rfl⟩:=h;obtain⟨b,o,us,rfl,Z,h3,h4,_⟩:=vO r hp Y;refine⟨.agg us.toArray,b,o,rfl,?_,by simp only [VR]; exact⟨us,rfl,h3⟩⟩;simp [loadVar,kN fP,Oz,eA fP,rL Z h4]
  ·rename_i Oz;split at h
   ·rename_i v' l Y;simp at h;subst h;obtain⟨b,o,us,rfl,Z,h3,h4,_⟩:=vO r hp Y;rw [bP] at h3;obtain⟨x,vs,rfl,h5,_⟩:=h3;refine⟨x,b,o,rfl,?_,h5⟩;have hc:w.cell? ⟨b,o,none⟩ = some x:=by rw [lF]; exact h4 0 x rfl
    simp [loadVar,kN fP,Oz,hc]
   grind
theorem kr (k:IntKind) (n:Int):rZ k n=k.wrap n:=by
 unfold rZ;split
 ·split
  ·rename_i h; exact (IntWalk.i64_in n h).symm
  ·rfl
 ·split
  ·rename_i h; exact (IntWalk.u8_in n h).symm
  ·rfl
 ·rfl
theorem Tq (ρ:Nat->Int) (k:IntKind) (a b:V):(Xh k a b).den ρ=k.wrap (a.den ρ+b.den ρ):=by
 unfold Xh
 grind [V.den,kr]
theorem Gm (ρ:Nat->Int) (k:IntKind) (a b:V):(QA k a b).den ρ=k.wrap (a.den ρ-b.den ρ):=by
 unfold QA
 grind [V.den,kr]
theorem Tp (ρ:Nat->Int) (k:IntKind) (a b:V):(Xg k a b).den ρ=k.wrap (a.den ρ*b.den ρ):=by
 unfold Xg
 grind [V.den,kr]
theorem dR (ρ:Nat->Int) (a b:V):(gV a b).den ρ=decide (a.den ρ<b.den ρ):=by
 unfold gV;split
 ·rfl
 ·simp [SB.den]
theorem Xi (ρ:Nat->Int) (a b:V):(U' a b).den ρ=decide (a.den ρ<=b.den ρ):=by
 unfold U';split
 ·rfl
 ·simp only [SB.den]
  grind
theorem gG (ρ:Nat->Int) (a b:V):(qS a b).den ρ=(a.den ρ == b.den ρ):=by
 unfold qS;split
 ·simp [SB.den,V.den]
 ·simp only [SB.den,V.den]
  grind
 grind [cG,SB.den]
theorem nh (ρ:Nat->Int) (s:SB):(wT s).den ρ=!(s.den ρ):=by
 unfold wT
 grind [SB.den]
theorem ku: ∀(x y:List Nat),gC x y=true↔x=y
 |[],[]=>by simp [gC]
 |[],_::_=>by simp [gC]
 |_::_,[]=>by simp [gC]
 |a::x,b::y=>by
  simp only [gC]
  cases h:a.beq b with
  |true=>have:=aq h; subst this; simp [ku x y]
  |false=>have:=anT h; simp [this]
theorem qn (s:List Nat):(dc s).toList=s.map UInt8.ofNat:=by simp_all [dc]
theorem kG (s:List Nat):(dc s).size=s.length:=by show (List.map UInt8.ofNat s).toArray.size=_;simp
theorem ofNat_inj {a b:Nat} (ha:a<256) (hb:b<256) (h:UInt8.ofNat a=UInt8.ofNat b):a=b:=by have:=congrArg UInt8.toNat h;simpa [anr,ang ha,ang hb] using this
theorem map_inj: ∀{x y:List Nat},(∀b∈x,b<256)->(∀b∈y,b<256)->x.map UInt8.ofNat=y.map UInt8.ofNat->x=y
 |[],[],_,_,_=>rfl
 |[],_::_,_,_,h=>by simp at h
 |_::_,[],_,_,h=>by simp at h
 |a::x,b::y,hx,hy,h=>by simp only [aw,List.cons.injEq] at h;rw [ofNat_inj (hx a ad) (hy b ad) h.1,map_inj (fun c hc=>hx c (by simp [hc])) (fun c hc=>hy c (by simp [hc])) h.2]
theorem P8 {x y:List Nat} (hx: ∀b∈x,b<256) (hy: ∀b∈y,b<256):((dc x).toList == (dc y).toList)=gC x y:=by
 grind [qn,ku,map_inj]
theorem Gf: ∀{x y:List Nat},(∀b∈x,b<256)->(∀b∈y,b<256)->Op.bytesLess (x.map UInt8.ofNat) (y.map UInt8.ofNat)=bytesLess x y
 |[],[],_,_=>by simp [Op.bytesLess,bytesLess]
 |[],_::_,_,_=>by simp [Op.bytesLess,bytesLess]
 |_::_,[],_,_=>by simp [Op.bytesLess,bytesLess]
 |a::x,b::y,hx,hy=>by
  have ha:=hx a ad;have hb:=hy b ad;have ih:=Gf (x:=x) (y:=y) (fun c hc=>hx c (by simp [hc])) (fun c hc=>hy c (by simp [hc]));simp only [aw,Op.bytesLess,bytesLess,ih]
  have U:decide (UInt8.ofNat a<UInt8.ofNat b)=a.blt b:=by rw [am6,decide_eq_true_iff,UInt8.lt_iff_toNat_lt,anr,anr,ang ha,ang hb];simp_all
  have Z:(UInt8.ofNat a == UInt8.ofNat b)=a.beq b:=by rw [am6,beq_iff_eq];exact⟨fun h=>by rw [ofNat_inj ha hb h]; simp,fun h=>by rw [aq h]⟩
  grind
theorem KF {P:Program} {E:En} {w:World} {op:BinOp} {x y:List Nat} {v:W} (hx: ∀b∈x,b<256) (hy: ∀b∈y,b<256) (h:KG op x y=some v) :
 ∃u,(Op.stringOp op (dc x) (dc y)).run P w= .ok u w/\VR E w.heap v u:=by
 have he:=P8 hx hy;have Y:Op.bytesLess (dc x).toList (dc y).toList=bytesLess x y:=by rw [qn,qn]; exact Gf hx hy
 unfold KG at h;cases op<;>simp only [ah,reduceCtorEq] at h
 case add=>
  split at h
  ·rename_i hh;simp at h;subst h;have hm:IntKind.i64.max=9223372036854775807:=ae
   refine⟨.string (dc x++dc y),?_,?_⟩
   ·simp only [Op.stringOp,kG,hm];rw [af J];rfl
   ·simp only [VR];refine⟨?_,?_⟩
    ·congr 1;apply ByteArray.ext;simp [dc]
    ·intro b hb;rcases amW.1 hb with hb|hb
     ·exact hx b hb
     ·exact hy b hb
  ·simp at h
 all_goals
  subst h;exact⟨_,rfl,by simp only [VR,SB.den,he,Y]⟩
theorem iW {ρ:Nat->Int} {c:SB} {b:Bool}: ∀{pc:List (SB×Bool)},bV ρ pc->nj c pc=some b->c.den ρ=b
 |[],_,h=>by simp [nj] at h
 |(d,x)::l,hp,h=>by
  simp only [nj] at h;split at h
  ·rename_i he;have he:=rI _ _ he;simp at h;subst he h;exact hp _ _ ad
  ·exact iW (fun c b hm=>hp c b (by simp [hm])) h
def rk (lo hi:Option Int) (x:Int):Prop:=(∀l,lo=some l->l<=x)/\∀h,hi=some h->x<=h
theorem IP {lo:Option Int} {z x:Int} (h: ∀l,lo=some l->l<=x) (hz:z<=x): ∀l,XS lo z=some l->l<=x:=by
 intro l Y;unfold XS at Y
 grind
theorem IN {hi:Option Int} {z x:Int} (h: ∀l,hi=some l->x<=l) (hz:x<=z): ∀l,XQ hi z=some l->x<=l:=by
 intro l Y;unfold XQ at Y
 grind
theorem XC {lo:Option Int} {z x:Int} (h: ∀l,lo=some l->l<=x) (hz:x≠z): ∀l,XD lo z=some l->l<=x:=by
 intro l Y;unfold XD at Y
 grind
theorem XE {hi:Option Int} {z x:Int} (h: ∀l,hi=some l->x<=l) (hz:x≠z): ∀l,XF hi z=some l->x<=l:=by
 intro l Y;unfold XF at Y
 grind
theorem qy {ρ:Nat->Int} {x y:V} {v:Bool} (h:(SB.lt x y).den ρ=v):(x.den ρ<y.den ρ)↔v=true:=by subst h; simp [SB.den]
theorem R2 {ρ:Nat->Int} {x y:V} {v:Bool} (h:(SB.eq x y).den ρ=v):(x.den ρ=y.den ρ)↔v=true:=by subst h; simp [SB.den]
theorem q? {ρ:Nat->Int} (e:V):rk (SG e).1 (SG e).2 (e.den ρ):=by
 have h0:rk none none (e.den ρ):=⟨ad,ad⟩;unfold SG;split
 ·split
  ·split
   ·split
    ·split
     ·split
      ·split
       ·rename_i k m x n hn;obtain⟨hn,rfl,rfl⟩:=hn;simp only [V.den];have U:=anU (m.den ρ) (b:=n) J
        have Z: -n<(m.den ρ).tmod n:=by have U:=anU (-(m.den ρ)) (b:=n) J;rw [Int.neg_tmod] at U;omega
        have h3:=Int.tmod_nonneg n (a:=(m.den ρ).tmod n+n) J;have h4:=anU ((m.den ρ).tmod n+n) (b:=n) J;constructor<;>intro l Y<;>simp at Y<;>omega
       grind
      grind
     grind
    grind
   grind
  grind
 ·rename_i o a b
  cases o with
  |len=> refine⟨fun l Y=>?_,ad⟩;simp only [ah] at Y;subst Y;simp only [V.den,e9.den];omega
  |_=>exact h0
 grind
theorem lS {ρ:Nat->Int} {e:V}: ∀{pc:List (SB×Bool)},bV ρ pc->rk (bounds e pc).1 (bounds e pc).2 (e.den ρ)
 |[],_=>q? e
 |(c,v)::l,hp=>by
  have ih:=lS (e:=e) (pc:=l) (fun c b hm=>hp c b (by simp [hm]));have hc:=hp c v ad;unfold bounds;split
  ·have hc:=qy hc;split
   ·split
    ·exact ih
    ·rename_i he;have he:=cG _ _ he;subst he;revert ih;split;rename_i lo hi hb;rw [hb];intro ih;simp only [V.den] at hc;cases v
     ·exact⟨ih.1,IN ih.2 (by simp at hc; omega)⟩
     ·exact⟨IP ih.1 (by simp at hc; omega),ih.2⟩
   ·split
    ·split
     ·exact ih
     ·rename_i he;have he:=cG _ _ he;subst he;revert ih;split;rename_i lo hi hb;rw [hb];intro ih;simp only [V.den] at hc;cases v
      ·exact⟨IP ih.1 (by simp at hc; omega),ih.2⟩
      ·exact⟨ih.1,IN ih.2 (by simp at hc; omega)⟩
    grind
  ·split
   ·split
    ·split
     ·exact ih
     ·rename_i he;have he:=cG _ _ he;subst he;revert ih;split;rename_i lo hi hb;rw [hb];intro ih;simp only [SB.den,V.den,beq_eq_false_iff_ne] at hc;exact⟨XC ih.1 hc,XE ih.2 hc⟩
    ·split
     ·exact ih
     ·rename_i he;have he:=cG _ _ he;subst he;simp only [SB.den,V.den,beq_iff_eq] at hc;exact⟨fun l Y=>by simp at Y; omega,fun l Y=>by simp at Y; omega⟩
   grind
  grind
theorem xl {ρ:Nat->Int} {e:V} {pc:List (SB×Bool)} (hp:bV ρ pc):rk (oP e pc).1 (oP e pc).2 (e.den ρ):=by
 have h0:=lS (e:=e) hp;unfold oP;split
 ·split
  ·split
   ·split
    ·rename_i b _ c;have hb:=lS (e:=b) hp;split
     ·rename_i lo hi MZ;rw [MZ] at hb;have b1:=hb.1 lo rfl;have b2:=hb.2 hi rfl;split
      ·rename_i hr;revert h0;split;rename_i l2 Z hee;rw [hee];intro h0
       have hw:(V.wrap .i64 (.add b (.lit c))).den ρ=b.den ρ+c:=by
        simp only [V.den];rw [<- kr];simp only [rZ]
        grind
       exact⟨IP h0.1 (by rw [hw]; omega),IN h0.2 (by rw [hw]; omega)⟩
      grind
     grind
    grind
   grind
  grind
 grind
theorem DZ {ρ:Nat->Int} {pc:List (SB×Bool)} (hp:bV ρ pc) {a b:V} {v:Bool} (h:QS a b pc=some v):a.den ρ=b.den ρ↔v=true:=by
 unfold QS at h;split at h
 ·rename_i U;simp at h;subst h;exact R2 (iW hp U)
 ·rw [<- R2 (iW hp h)]
  grind
theorem g! {ρ:Nat->Int} {pc:List (SB×Bool)} (hp:bV ρ pc) {a b:V} {v:Bool} (h:decLt pc a b=some v):a.den ρ<b.den ρ↔v=true:=by
 unfold decLt at h;split at h
 ·rename_i U;simp at h;subst h;exact qy (iW hp U)
 ·split at h
  ·have hb:=xl (e:=b) hp;have hz: ∀z,(V.lit z).den ρ=z:=fun _=>rfl;simp only [hz] at *;generalize MZ:oP _ pc=p at h hb;obtain⟨lo,hi⟩:=p;simp only [rk] at h hb
   grind
  ·split at h
   ·have hb:=xl (e:=a) hp;have hz: ∀z,(V.lit z).den ρ=z:=fun _=>rfl;simp only [hz] at *;generalize MZ:oP _ pc=p at h hb;obtain⟨lo,hi⟩:=p;simp only [rk] at h hb
    grind
   ·split at h
    ·rename_i U;have U:=DZ hp U
     grind
    ·rename_i U;have U:=DZ hp U;simp at U;split at h
     ·rename_i Z;have Z:=qy (iW hp Z)
      grind
     grind
    ·split at h
     ·rename_i Z;have Z:=qy (iW hp Z)
      grind
     grind
theorem h_ {ρ:Nat->Int} {pc:List (SB×Bool)} (hp:bV ρ pc) {a b:V} {v:Bool} (h:decEq pc a b=some v):a.den ρ=b.den ρ↔v=true:=by
 unfold decEq at h;split at h
 ·rename_i U;simp at h;subst h;exact DZ hp U
 ·split at h
  ·have hb:=xl (e:=a) hp;have hz: ∀z,(V.lit z).den ρ=z:=fun _=>rfl;simp only [hz] at *;generalize MZ:oP _ pc=p at h hb;obtain⟨lo,hi⟩:=p;simp only [rk] at h hb
   grind
  ·split at h
   ·rename_i Z;have Z:=qy (iW hp Z)
    grind
   ·rename_i Z;have Z:=qy (iW hp Z);simp at Z;split at h
    ·rename_i h3;have h3:=qy (iW hp h3)
     grind
    grind
   ·split at h
    ·rename_i Z;have Z:=qy (iW hp Z)
     grind
    grind
theorem kE {ρ:Nat->Int}: ∀{e:V} {x:Sum Int D},jK e=some x->e.den ρ=(match x with | .inl n=>n| .inr d=>enc d)
 | .lit n,x,h=>by simp only [jK,ah] at h; subst h; rfl
 | .ei d,x,h=>by simp only [jK,ah] at h; subst h; rfl
 | .op o a b,x,h=>by
   have ha:=fun y=>kE (ρ:=ρ) (e:=a) (x:=y);have hb:=fun y=>kE (ρ:=ρ) (e:=b) (x:=y);simp only [jK] at h;split at h
   ·split at h
    ·rename_i d hd;simp only [ah] at h; subst h;simp only [V.den,e9.den,ha _ hd,bB]
    ·simp at h
   ·split at h
    ·rename_i d hd;simp only [ah] at h; subst h;simp only [V.den,e9.den,ha _ hd]
    ·simp at h
   ·split at h
    ·rename_i u v hu hv;simp only [ah] at h; subst h;simp only [V.den,e9.den,ha _ hu,hb _ hv,bB]
    ·simp at h
   ·split at h
    ·rename_i u v hu hv;simp only [ah] at h; subst h;simp only [V.den,e9.den,ha _ hu,hb _ hv,bB]
    ·simp at h
   ·split at h
    ·rename_i u k v hu hv;simp only [ah] at h; subst h;simp only [V.den,e9.den,ha _ hu,hb _ hv,bB]
    ·simp at h
   ·split at h
    ·rename_i u v hu hv;simp only [ah] at h; subst h;simp only [V.den,e9.den,ha _ hu,hb _ hv,bB]
    ·simp at h
   ·split at h
    ·rename_i u v hu hv;simp only [ah] at h; subst h;simp only [V.den,e9.den,ha _ hu,hb _ hv,bB]
    ·simp at h
   ·split at h
    ·rename_i d hd;simp only [ah] at h; subst h;simp only [V.den,e9.den,ha _ hd,bB]
    ·simp at h
   ·simp at h
 | .dG _,x,h=>by simp [jK] at h
 | .add _ _,x,h=>by simp [jK] at h
 | .sub _ _,x,h=>by simp [jK] at h
 | .mul a b,x,h=>by
   have ha:=fun y=>kE (ρ:=ρ) (e:=a) (x:=y);have hb:=fun y=>kE (ρ:=ρ) (e:=b) (x:=y);simp only [jK] at h;split at h
   ·rename_i u v hu hv;simp only [ah] at h; subst h;simp only [V.den,ha _ hu,hb _ hv]
   ·simp at h
 | .quo a b,x,h=>by
   have ha:=fun y=>kE (ρ:=ρ) (e:=a) (x:=y);have hb:=fun y=>kE (ρ:=ρ) (e:=b) (x:=y);simp only [jK] at h;split at h
   ·rename_i u v hu hv;simp only [ah] at h; subst h;simp only [V.den,ha _ hu,hb _ hv]
   ·simp at h
 | .rem a b,x,h=>by
   have ha:=fun y=>kE (ρ:=ρ) (e:=a) (x:=y);have hb:=fun y=>kE (ρ:=ρ) (e:=b) (x:=y);simp only [jK] at h;split at h
   ·rename_i u v hu hv;simp only [ah] at h; subst h;simp only [V.den,ha _ hu,hb _ hv]
   ·simp at h
 | .wrap k a,x,h=>by
   have ha:=fun y=>kE (ρ:=ρ) (e:=a) (x:=y);simp only [jK] at h;split at h
   ·rename_i u hu;simp only [ah] at h; subst h;simp only [V.den,ha _ hu,kr]
   ·simp at h
 | .v7 _ _,x,h=>by simp [jK] at h
 | .ap _ _,x,h=>by simp [jK] at h
theorem E8 {ρ:Nat->Int} {pc:List (SB×Bool)} (hp:bV ρ pc) {c:SB} {b:Bool} (h:C3 pc c=some b):c.den ρ=b:=by
 unfold C3 at h;split at h
 ·simp at h; simp [SB.den,h]
 ·split at h
  ·rename_i x y hx hy;simp only [ah] at h; subst h;simp only [SB.den,kE (ρ:=ρ) hx,kE (ρ:=ρ) hy]
  ·have:=g! hp h;simp only [SB.den]
   grind
 ·split at h
  ·rename_i x y hx hy;simp only [ah] at h; subst h;simp only [SB.den,kE (ρ:=ρ) hx,kE (ρ:=ρ) hy]
   grind
  ·have:=h_ hp h;simp only [SB.den]
   grind
 ·exact iW hp h
theorem gD {ρ:Nat->Int} {pc:List (SB×Bool)} (hp:bV ρ pc) {c:SB} {b:Bool} (h:jQ pc c=some b):c.den ρ=b:=by
 unfold jQ at h;split at h
 ·rw [aQ] at h;obtain⟨x,U,rfl⟩:=h;simp only [SB.den,E8 hp U]
 ·exact E8 hp h
section
variable {P:Program} {E:En} {w:World}
theorem Yh {op:BinOp} {t:Nat} {k k':IntKind} {a b:V} {v:W} (hk:op= .shr\/k=k') (h:Rr op k a b=some v) :
 ∃u,(binOp op t (.int k (a.den E.ρ)) (.int k' (b.den E.ρ))).run P w= .ok u w/\VR E w.heap v u:=by
 unfold Rr at h;cases op<;>simp only [ah,reduceCtorEq] at h
 case add=>obtain rfl:k=k':=by simpa using hk
           subst h; exact⟨_,by simp [binOp,Op.intArith]; rfl,by simp only [VR,Tq]⟩
 case sub=>obtain rfl:k=k':=by simpa using hk
           subst h; exact⟨_,by simp [binOp,Op.intArith]; rfl,by simp only [VR,Gm]⟩
 case mul=>obtain rfl:k=k':=by simpa using hk
           subst h; exact⟨_,by simp [binOp,Op.intArith]; rfl,by simp only [VR,Tp]⟩
 case quo=>
  obtain rfl:k=k':=by simpa using hk
  split at h
  ·split at h
   ·simp at h
   ·rename_i hy;simp at h;subst h;exact⟨_,by simp [binOp,Op.intDiv,V.den,hy]; rfl,by simp only [VR,V.den,kr]⟩
  ·split at h
   ·simp at h
   ·rename_i hy;simp at h;subst h;exact⟨_,by simp [binOp,Op.intDiv,V.den,hy]; rfl,by simp only [VR,V.den]⟩
  ·simp at h
 case rem=>
  obtain rfl:k=k':=by simpa using hk
  split at h
  ·split at h
   ·simp at h
   ·rename_i hy;simp at h;subst h;exact⟨_,by simp [binOp,Op.intDiv,V.den,hy]; rfl,by simp only [VR,V.den]⟩
  ·split at h
   ·simp at h
   ·rename_i hy;simp at h;subst h;exact⟨_,by simp [binOp,Op.intDiv,V.den,hy]; rfl,by simp only [VR,V.den]⟩
  ·simp at h
 case shr=>
  split at h
  ·split at h
   ·simp at h
   ·rename_i hy;simp at h;subst h;exact⟨_,by simp [binOp,Op.shift,V.den,hy]; rfl,by simp only [VR,V.den]⟩
  ·simp at h
 all_goals
  obtain rfl:k=k':=by simpa using hk
  subst h;refine⟨_,by simp [binOp,Op.intCmp]; rfl,?_⟩;simp only [VR,gG,nh,dR,Xi]
  first |rfl|(congr 1; simp [bne]; done)|(congr 1; rw [am6]; simp; done)|skip
theorem vp {op:BinOp} {t:Nat} {x y:Operand} {a b:Value} (U: ∀cs ds,¬(a= .agg cs/\b= .agg ds)) (Z: ¬(a= .nilIface/\b= .nilIface)) :
 (eqGuard op t x y a b).run P w= .ok () w:=by
 cases op
 case eql=>
  cases a<;>first
   |(cases b<;>first |(exact absurd ⟨rfl,rfl⟩ (U _ _))|(exact absurd ⟨rfl,rfl⟩ Z)|rfl)
   |rfl
 case neq=>
  cases a<;>first
   |(cases b<;>first |(exact absurd ⟨rfl,rfl⟩ (U _ _))|(exact absurd ⟨rfl,rfl⟩ Z)|rfl)
   |rfl
 all_goals rfl
theorem B0 {ρ:Nat->Int} {a b c:SB} (h:C0 a b=some c):c.den ρ=(a.den ρ == b.den ρ):=by
 unfold C0 at h;split at h<;>simp only [ah,reduceCtorEq] at h<;>subst h
 ·simp [SB.den]
 ·grind [SB.den,nh]
 ·grind [SB.den,nh]
 ·simp only [SB.den];cases a.den ρ<;>cases b.den ρ<;>rfl
theorem yC {d:TypeDesc} {t:Nat} (h:P.underlying t=some d) (w:World):(underlying t).run P w= .ok d w:=run_underlying h w
theorem rS {i:TI} {t:Nat} (h:mc P t i): ∃d,P.underlying t=some d/\H6 P d i.kind:=by
 obtain⟨inf,d,z,U,Z,h3,h4,h5,h6,h7,_⟩:=h.all
 grind
theorem RY {i:TI} {t:Nat} (ht:mc P t i) {x y:W} {u u':Value} (hx:VR E w.heap x u) (hy:VR E w.heap y u') {c:SB} (h:afX i.kind x y=some c) :
 (Op.equal t u u').run P w= .ok (c.den E.ρ) w/\(∀cs ds,¬(u= .agg cs/\u'= .agg ds))/\¬(u= .nilIface/\u'= .nilIface)/\(∀k n,u≠.int k n)/\(∀s,u≠.string s)/\(∀k n,u≠.float k n)/\(∀k n m,u≠.complex k n m):=by
 obtain⟨d,U,Z⟩:=rS ht;have hm: ∀a b,Op.equal t a b=Op.equalIn (9999+1) t a b:=fun _ _=>rfl;rw [hm];clear hm;generalize (9999:Nat)=n;unfold afX at h;split at h
 ·rename_i hk;rw [hk] at Z;cases d<;>simp only [H6] at Z;split at h
  ·simp only [VR] at hx hy;subst hx hy;refine⟨?_,ad,ad,ad,ad,ad,ad⟩;rw [B0 h];simp [Op.equalIn,yC U]
  grind
 ·rename_i k hk;cases sZ:i.kind<;>rw [sZ] at h Z<;>simp only [isNil,reduceCtorEq] at h
  case pointer e=>
   cases d<;>simp only [H6] at Z;cases x<;>simp only [reduceCtorEq] at h<;>cases y<;>simp only [reduceCtorEq,ah] at h<;>subst h<;>simp only [VR] at hx hy
   all_goals
    first |(obtain⟨b,o,us,rfl,_⟩:=hx)|(obtain⟨rfl,_⟩:=hx)|subst hx
    first |(obtain⟨b',o',gx,rfl,_⟩:=hy)|(obtain⟨rfl,_⟩:=hy)|subst hy
    exact⟨by simp [Op.equalIn,yC U,SB.den],ad,ad,ad,ad,ad,ad⟩
  case slice e=>
   cases d<;>simp only [H6] at Z;cases x<;>simp only [reduceCtorEq] at h<;>cases y<;>simp only [reduceCtorEq,ah] at h<;>subst h<;>simp only [VR] at hx hy
   all_goals
    first |(obtain⟨b,o,cap,us,rfl,_⟩:=hx)|(obtain⟨_,b,cap,rfl,_⟩:=hx)|(obtain⟨_,k,b,cap,_,rfl,_⟩:=hx)|subst hx
    first |(obtain⟨b',o',pV,gx,rfl,_⟩:=hy)|(obtain⟨_,b',pV,rfl,_⟩:=hy)|(obtain⟨_,k',b',pV,_,rfl,_⟩:=hy)|subst hy
    exact⟨by simp [Op.equalIn,yC U,SB.den],ad,ad,ad,ad,ad,ad⟩
  case map k' e=>
   cases d<;>simp only [H6] at Z;cases x<;>simp only [reduceCtorEq] at h<;>cases y<;>simp only [reduceCtorEq,ah] at h<;>subst h<;>simp only [VR] at hx hy
   all_goals
    first |(obtain⟨rfl,_⟩:=hx)|subst hx
    first |(obtain⟨rfl,_⟩:=hy)|subst hy
    exact⟨by simp [Op.equalIn,yC U,SB.den],ad,ad,ad,ad,ad,ad⟩
theorem binOp_eql {t:Nat} {u u':Value} {b:Bool} (h:(Op.equal t u u').run P w= .ok b w) (U: ∀k n,u≠.int k n) (Z: ∀s,u≠.string s) (h3: ∀k n,u≠.float k n) (h4: ∀k n m,u≠.complex k n m) :
 (binOp .eql t u u').run P w= .ok (.bool b) w/\(binOp .neq t u u').run P w= .ok (.bool (!b)) w:=by
 cases u<;>first
  |exact absurd rfl (U _ _)
  |exact absurd rfl (Z _)
  |exact absurd rfl (h3 _ _)
  |exact absurd rfl (h4 _ _ _)
  |(constructor<;>(cases u'<;>simp [binOp,h]))
theorem iq (ρ:Nat->Int) (a b:V):(qp a b).den ρ=(a.den ρ == b.den ρ):=by
 unfold qp;split
 ·rename_i h
  grind [cG,SB.den]
 ·split
  ·simp only [SB.den]
   grind
  ·simp only [SB.den]
theorem lM (ρ:Nat->Int) (x:V):(my x).den ρ=enc (dec (x.den ρ)):=by
 unfold my;split
 ·simp only [V.den,bB]
 ·split
  ·simp only [V.den,e9.den,bB]
  ·simp only [V.den,e9.den,bB]
  ·simp only [V.den,e9.den]
 ·simp only [V.den,e9.den]
theorem yp {E:En} {h:Array Obj} {x:W} {u:Value} {e:V} (hx:VR E h x u) (hs:tJ x=some e): ∃s,u= .string s/\dec (e.den E.ρ)=tz s:=by
 unfold tJ at hs;split at hs
 ·simp only [ah] at hs;subst hs;simp only [VR] at hx;obtain⟨rfl,hb⟩:=hx;refine⟨_,rfl,?_⟩;simp only [V.den,bB]
  grind [zV,tz,dc]
 ·simp only [ah] at hs;subst hs;simp only [VR] at hx;generalize dec (V.den E.ρ _)=d at hx ⊢
  cases hx with
  |str s=>exact⟨s,rfl,rfl⟩
 grind
theorem Ds {E:En} {h:Array Obj} {x y:W} {u v:Value} {c:SB} (hx:VR E h x u) (hy:VR E h y v) (hs:Br x y=some c): ∃a b:ByteArray,u= .string a/\v= .string b/\c.den E.ρ=decide (a=b):=by
 unfold Br at hs;split at hs
 ·grind
 ·rename_i e he;split at hs
  ·grind
  ·rename_i f hf;simp only [ah] at hs;subst hs;obtain⟨a,rfl,ha⟩:=yp hx he;obtain⟨b,rfl,hb⟩:=yp hy hf;refine⟨a,b,rfl,rfl,?_⟩
   grind [iq,lM,E9,hU]
theorem xm (a b:ByteArray):(a.toList == b.toList)=decide (a=b):=by
 rw [am6,beq_iff_eq,decide_eq_true_eq];constructor
 ·intro h;rw [<- kH a,<- kH b]
  have e: ∀x:ByteArray,x.toList=x.data.toList:=by
   intro x;have:=qn (bytesOf x);rw [kH] at this;rw [this]
   have e2:(UInt8.ofNat ∘ fun b:UInt8=>b.toNat)=id:=by funext b;simp
   simp_all [bytesOf,e2]
  grind [bytesOf]
 grind
theorem Ge {E:En} {op:BinOp} {x y v:W} {u u':Value} {t:Nat} (hx:VR E w.heap x u) (hy:VR E w.heap y u') (h:Is op (Br x y)=some v) :
 (∃r,(binOp op t u u').run P w= .ok r w/\VR E w.heap v r)/\(∀cs ds,¬(u= .agg cs/\u'= .agg ds))/\¬(u= .nilIface/\u'= .nilIface):=by
 unfold Is at h;split at h
 ·grind
 ·rename_i c hc;obtain⟨a,b,rfl,rfl,hd⟩:=Ds hx hy hc;refine⟨?_,ad,ad⟩;split at h
  ·simp only [ah] at h;subst h;refine⟨.bool (decide (a=b)),?_,by simp only [VR,hd]⟩;rw [<- xm];rfl
  ·simp only [ah] at h;subst h;refine⟨.bool (!decide (a=b)),?_,by simp only [VR,SB.den,hd]⟩;rw [<- xm];rfl
  grind
theorem Y2 {tt:TT} (cI:eC P tt) {t:Nat} {op:BinOp} {x y v:W} {u u':Value} (hx:VR E w.heap x u) (hy:VR E w.heap y u') (h:Y3 tt t op x y=some v) :
 (∃r,(binOp op t u u').run P w= .ok r w/\VR E w.heap v r)/\(∀cs ds,¬(u= .agg cs/\u'= .agg ds))/\¬(u= .nilIface/\u'= .nilIface):=by
 unfold Y3 at h;split at h
 ·split at h
  ·simp only [VR] at hx hy;subst hx hy;refine⟨?_,ad,ad⟩;split at h
   all_goals simp_all [Yh]
  grind
 ·split at h
  ·simp only [VR] at hx hy;obtain⟨rfl,hx⟩:=hx;obtain⟨rfl,hy⟩:=hy;refine⟨?_,ad,ad⟩;obtain⟨r,U,Z⟩:=KF (P:=P) (E:=E) (w:=w) hx hy h;refine⟨r,?_,Z⟩;cases op<;>first |(simp [KG] at h; done)|(simpa [binOp] using U)
  ·exact Ge hx hy h
  grind
 ·exact Ge hx hy h
 ·split at h
  ·grind
  ·rename_i i hi;split at h
   ·rename_i c hc;simp at h;subst h;obtain⟨e1,e2,e3,e4,e5,e6,e7⟩:=RY (w:=w) (cI t i hi) hx hy hc;exact⟨⟨_,(binOp_eql e1 e4 e5 e6 e7).1,by simp only [VR]⟩,e2,e3⟩
   ·rename_i c hc;simp at h;subst h;obtain⟨e1,e2,e3,e4,e5,e6,e7⟩:=RY (w:=w) (cI t i hi) hx hy hc;exact⟨⟨_,(binOp_eql e1 e4 e5 e6 e7).2,by simp only [VR,nh]⟩,e2,e3⟩
   grind
theorem aaN {op:UnOp} {x v:W} {u:Value} (hx:VR E w.heap x u) (h:afV op x=some v): ∃r,(Op.unary op u).run P w= .ok r w/\VR E w.heap v r:=by
 unfold afV at h;split at h
 ·simp at h; subst h;simp only [VR] at hx; subst hx;exact⟨_,rfl,by simp only [VR,nh]⟩
 ·simp at h; subst h;simp only [VR] at hx; subst hx;exact⟨_,rfl,by simp only [VR,Gm,V.den]⟩
 grind
end
section
variable {P:Program} {E:En} {w:World}
theorem iM [bH] {H:Hp} {w':World} (r:bO E H w) {cs:List W} {us:List Value} (arr:Array Value) (lo hi:Nat) (e:TypeId) (hv:ct E w.heap cs us) (U: ∀u∈us,u.oneCell'=true)
 (ha: ∀(i:Nat) (u:Value),us[i]?=some u->arr[i]?=some u) (hf: ∀o:Nat,lo<=o->o<hi->arr.size<=o) (hw:w'.heap=w.heap.push (.cells arr e (lo,hi))) (al:Alike w w') :
 eU E H w (E.ext H.fresh (w.heap.size,0) arr.size) (H.new (.cells cs e)) w'/\bO (E.ext H.fresh (w.heap.size,0) arr.size) (H.new (.cells cs e)) w':=by
 refine pr r _ _ _ hw al ?_;have k:=D4 r (w.heap.size,0) arr.size (.cells arr e (lo,hi));rw [<- hw] at k;have hlen:=hv.length;simp only [OR,En.ext_θ_new,En.ext_κ_new];refine⟨arr,lo,hi,us,by rw [hw]; simp,ct.keep k _ _ hv,fun i u hu=>by rw [aA]; exact ha i u hu,?_,J,hf,U⟩;rw [<- hlen];rcases aW arr.size us.length with hh|hh
 ·have:=ha arr.size us[arr.size] (by simp [hh])
  grind
 grind
theorem yK [bH] {H:Hp} (_:bO E H w) (c:Nat) (h:Array Obj) (off:Nat):VR (E.ext H.fresh (w.heap.size,0) c) h (.ptr H.fresh off) (.pointer (some ⟨w.heap.size,off,none⟩)):=by
 simp only [VR,En.ext_θ_new]
 grind [En.gB]
theorem OK [bH] {tt:TT} (cI:eC P tt) {H H':Hp} (r:bO E H w) {t:Nat} {p v:W} {u x:Value} (hp:VR E w.heap p u) (hx:VR E w.heap v x) (h:Jt tt t p v H=some H') :
 ∃w',(Instr.storeAt t u x).run P w= .ok () w'/\eU E H w E H' w'/\bO E H' w':=by
 unfold Jt at h;split at h
 ·grind
 ·rename_i i hi;split at h
  ·rename_i hc;simp only [an,decide_eq_true_eq] at hc;split at h
   ·split at h
    ·rename_i id off cs e Y;split at h
     ·rename_i lE hs;simp at h;subst h;simp only [VR] at hp;obtain⟨rfl,_⟩:=hp;have MY:=hx.cells hc.2;have hlen:x.cells.size=i.size:=by have:=MY.length; simp only [bo] at this; omega
      obtain⟨w',U,Z,h3⟩:=lL (P:=P) r Y hs MY (MY.rN hc.2);refine⟨w',?_,Z,h3⟩;simp [Instr.storeAt,Instr.sureAddr,storeVar,eA (cI t i hi),hlen,U]
     grind
    grind
   grind
  grind
theorem Hr: ∀(vs:List Value) (off k:Nat) (arr:Array Value),off+k+vs.length<=arr.size->
 ((vs.zipIdx k).foldl (fun cs p=>cs.setIfInBounds (off+p.2) p.1) arr).size=arr.size/\
 ∀i,((vs.zipIdx k).foldl (fun cs p=>cs.setIfInBounds (off+p.2) p.1) arr)[i]?=if off+k<=i/\i<off+k+vs.length then vs[i-(off+k)]? else arr[i]?
 |[],off,k,arr,_=> ⟨rfl,fun i=>by rw [af ad]; rfl⟩
 |v::vs,off,k,arr,h=>by
  simp only [List.zipIdx_cons,List.foldl_cons];obtain⟨U,Z⟩:=Hr vs off (k+1) (arr.setIfInBounds (off+k) v) (by simp at h ⊢; omega)
  grind
def tG (E:En) (h:Array Obj):List (Nat×W)->List (Nat×Value)->Prop
 |[],ps=>ps= []
 |(i,v)::xs,ps=> ∃x r,ps=(i,x)::r/\VR E h v x/\tG E h xs r
theorem pL {place:Nat->Option (Nat×Nat)} {h:Array Obj}: ∀{parts:List (Nat×W)} {cs lE:List W} {us:Array Value} {ps:List (Nat×Value)},
 tj place cs parts=some lE->ct E h cs us.toList->tG E h parts ps->(∀u∈us.toList,u.oneCell'=true)->
 ∃gx:Array Value,Instr.fill place us ps=some gx/\ct E h lE gx.toList/\∀u∈gx.toList,u.oneCell'=true
 |[],cs,lE,us,ps,U,Z,h3,h4=>by simp only [tG] at h3;subst h3;simp [tj] at U;subst U;exact⟨us,rfl,Z,h4⟩
 |(i,v)::parts,cs,lE,us,ps,U,Z,h3,h4=>by
  simp only [tG] at h3;obtain⟨x,ps',rfl,hx,hb⟩:=h3;simp only [tj] at U;split at U
  ·simp at U
  ·rename_i off size hp;split at U
   ·rename_i hc;simp only [an,decide_eq_true_eq] at hc;split at U
    ·rename_i cs2 hs;have MY:=hx.cells hc.2;have hlen:=MY.length;simp only [bo] at hlen;obtain⟨e1,e2,gx,e3,e4⟩:=vK hs Z MY;have hul:=Z.length;simp only [bo] at hul;have ajC:=Hr x.cells.toList off 0 us (by simp; omega)
     have heq:(x.cells.zipIdx.foldl (fun cs (c,j)=>cs.setIfInBounds (off+j) c) us).toList=gx:=by apply anV;intro k;rw [e4 k];have h5:=ajC.2 k;simp only [bj,bo] at h5;rw [bw,<- Array.foldl_toList,Array.toList_zipIdx];rw [h5];simp only [bo,bw]
     have h6: ∀u∈(x.cells.zipIdx.foldl (fun cs (c,j)=>cs.setIfInBounds (off+j) c) us).toList,u.oneCell'=true:=by
      rw [heq];intro u hu;rw [anS] at hu;obtain⟨k,hk⟩:=hu;rw [e4 k] at hk;split at hk
      ·exact MY.rN hc.2 u (amQ hk)
      ·exact h4 u (amQ hk)
     obtain⟨us2,g1,g2,g3⟩:=pL (us:=x.cells.zipIdx.foldl (fun cs (c,j)=>cs.setIfInBounds (off+j) c) us) U (by rw [heq]; exact e3) hb h6;refine⟨us2,?_,g2,g3⟩;simp only [Instr.fill,hp];rw [af]
     ·exact g1
     ·simp only [anz,decide_eq_true_eq,not_or];constructor
      ·omega
      ·omega
    ·simp at U
   ·simp at U
theorem xS {s:St} {a:Act} (sr:SR E w.heap s.bF a): ∀{xs:List (Nat×Operand)} {ps:List (Nat×W)},wj s xs=some ps->tG E w.heap ps (xs.map fun p=>(p.1,a.eval p.2))
 |[],ps,h=>by simp [wj] at h; subst h; simp [tG]
 |(i,x)::xs,ps,h=>by
  simp only [wj] at h;split at h
  ·grind
  ·rename_i b hb;split at h
   ·grind
   ·rename_i bs hbs;simp at h;subst h;simp only [aw,tG];exact⟨_,_,rfl,gj sr hb,xS sr hbs⟩
theorem de {α:Type}: ∀(l:List α) (i:Nat),eZ l i=l[i]?
 |[],i=>by cases i<;>rfl
 |x::xs,0=>rfl
 |x::xs,i+1=>by simp [eZ,de xs i]
theorem DY {α β:Type} {f:α->Option β}: ∀{l:List α} {r:List β},l.mapM f=some r->∀i:Nat,r[i]?=(l[i]?).bind f
 |[],r,h,i=>by simp at h; subst h; simp
 |x::xs,r,h,i=>by
  simp only [anA,anW,anI] at h;obtain⟨y,U,ys,Z,h3⟩:=h;simp only [pure,ah] at h3;subst h3
  cases i with
  |zero=>simp [U]
  |succ i=>simpa using DY Z i
theorem QQ {α β:Type} {f:α->Option β}: ∀{l:List α} {r:List β},r.length=l.length->(∀i:Nat,r[i]?=(l[i]?).bind f)->l.mapM f=some r
 |[],r,h,_=>by simp at h; subst h; simp
 |x::xs,[],h,_=>by simp at h
 |x::xs,y::ys,h,Z=>by have h0:=Z 0;simp at h0;have ih:=QQ (l:=xs) (r:=ys) (by simpa using h) (fun i=>by simpa using Z (i+1));simp [anA,h0.symm,ih]
theorem BK {α β:Type} {f:α->Option β}: ∀{l:List α} {r:List β},l.mapM f=some r->r.length=l.length
 |[],r,h=>by simp at h; subst h; simp
 |x::xs,r,h=>by simp only [anA,anW,anI] at h;obtain⟨y,U,ys,Z,h3⟩:=h;simp only [pure,ah] at h3;subst h3;simp [BK Z]
theorem O2 {tt:TT} (cI:eC P tt) {t:Nat} {parts:List (Nat×W)} {ps:Array (Nat×Value)} {v:W} (hp:tG E w.heap parts ps.toList) (h:JH tt t parts=some v) :
 ∃x,(Instr.build t ps).run P w= .ok x w/\VR E w.heap v x:=by
 unfold JH at h;split at h
 ·rename_i i hi;have fP:=cI t i hi;obtain⟨inf,z,g1,g2,g3,g4,g5⟩:=v8 fP;have hz:=eX (E:=E) (h:=w.heap) g5;split at h
  ·rename_i fs hk;rw [aQ] at h;obtain⟨lE,U,rfl⟩:=h;obtain⟨gx,e1,e2,e3⟩:=pL U hz.1 hp hz.2;obtain⟨lP,hu,hm⟩:=sv fP hk
   have hb:P.built t ps.toList=some gx:=by
    unfold Program.built
    have hm2:(lP.toList.mapM fun f=>(P.info? f.type).map fun i=>(f.offset,i.size))=some (fs.map fun x=>(x.1,x.2.2)):=by
     refine QQ (by simp [BK hm]) fun i=>?_;have:=DY hm i;rw [bp,this]
     cases lP.toList[i]? with
     |none=>rfl
     |some f=>simp only [Option.bind_some,Option.map_map]; rfl
    simp only [g1,hu,g4,hm2];simp_all [e1,de]
   exact⟨_,run_build w t ps gx hb,by simp only [VR]; exact⟨gx.toList,ad,e2⟩⟩
  ·rename_i n e hk;split at h
   ·rename_i s hs;rw [aQ] at h;obtain⟨lE,U,rfl⟩:=h;obtain⟨gx,e1,e2,e3⟩:=pL U hz.1 hp hz.2;simp only [iz,aQ] at hs;obtain⟨ie,kO,rfl⟩:=hs;obtain⟨amB,z',f1,f2,f3,f4,f5⟩:=v8 (cI e ie kO)
    have hb:P.built t ps.toList=some gx:=by unfold Program.built;simp only [g1,rB fP hk,g4,f1];simp_all
    exact⟨_,run_build w t ps gx hb,by simp only [VR]; exact⟨gx.toList,ad,e2⟩⟩
   grind
  grind
 grind
theorem Bz {α:Type} (l:List α) (Y:l≠[]): ∀(n i:Nat),i<n*l.length->(dQ l n)[i]?=l[i % l.length]?
 |0,i,h=>by simp at h
 |n+1,i,h=>by
  have jT:0<l.length:=am3.2 Y;simp only [dQ];rw [aop];split
  ·rename_i Z; rw [ang Z]
  ·rename_i Z;rw [Bz l Y n (i-l.length) (by rw [am0] at h; omega)];congr 1;rw [<- Nat.mod_eq_sub_mod J]
theorem iU {α:Type} (l:List α): ∀n,(dQ l n).length=n*l.length
 |0=>by simp [dQ]
 |n+1=>by simp [dQ,iU l n,am0]; omega
theorem lV {h:Array Obj} {cs:List W} {us:List Value} (hv:ct E h cs us): ∀n,ct E h (dQ cs n) (dQ us n)
 |0=>by simp [dQ,ct]
 |n+1=>hv.append (lV hv n)
theorem lU {α:Type} {l:List α} {x:α}: ∀{n},x∈dQ l n->x∈l
 |0,h=>by simp [dQ] at h
 |n+1,h=>by
  simp only [dQ,amW] at h;rcases h with h|h
  ·exact h
  ·exact lU h
theorem uw (z:Array Value) (hz:z.toList≠[]) (n:Nat):((Array.range (n*z.size)).map (z[·% z.size]!)).toList=dQ z.toList n:=by
 apply anV;intro i
 grind [Bz,iU]
theorem Cl [bH] {tt:TT} (cI:eC P tt) {H H':Hp} (r:bO E H w) {t len:Nat} {parts:List (Nat×W)} {ps:Array (Nat×Value)} {v:W} (hp:tG E w.heap parts ps.toList) (h:tm tt t len parts H=some (v,H')) :
 ∃x w' E',(Instr.buildSlice t len ps).run P w= .ok x w'/\eU E H w E' H' w'/\bO E' H' w'/\VR E' w'.heap v x:=by
 unfold tm at h;split at h
 ·rename_i i hi;have fP:=cI t i hi;split at h
  ·rename_i e hk;split at h
   ·rename_i ie kO;have Yl:=cI e ie kO;obtain⟨inf,z,g1,g2,g3,g4,g5⟩:=v8 Yl;have hz:=eX (E:=E) (h:=w.heap) g5;split at h
    ·rename_i hb;split at h
     ·rename_i cs U;simp only [ah,ak] at h;obtain⟨rfl,rfl⟩:=h
      have gT:len*ie.size<=2 ^ 24:=by have:len*ie.size<=1000*1000:=aoq hb.1 hb.2.1;omega
      have wa:z.cells.size=ie.size:=by have:=hz.1.length; simp only [bo] at this; omega
      have key: ∃gx:Array Value,Instr.fill (fun i=>some (i*inf.size,inf.size)) ((Array.range (len*inf.size)).map ((if len*inf.size=0 then #[] else z.cells)[·% (if len*inf.size=0 then #[] else z.cells).size]!)) ps.toList=some gx/\ct E w.heap cs gx.toList/\∀u∈gx.toList,u.oneCell'=true:=by
       rw [g2];by_cases h0:len*ie.size=0
       ·rw [ag h0,h0]
        have afr:dQ ie.zero len= []:=by
         grind [iU]
        refine pL U ?_ hp ?_
        all_goals grind [ct]
       ·rw [af h0]
        have fJ:z.cells.toList≠[]:=by
         intro hx;have I6:z.cells.size=0:=by have:=congrArg List.length hx; simpa using this
         grind
        have hzz:=uw z.cells fJ len;rw [wa] at hzz;refine pL U ?_ hp ?_
        all_goals grind [lV,lU]
      obtain⟨gx,e1,e2,e3⟩:=key;refine⟨.slice (some ⟨w.heap.size,0,none⟩) len len,{ w with heap:=w.heap.push (.cells gx e) },E.ext H.fresh (w.heap.size,0) gx.size,?_,?_⟩
      ·by_cases h0:len*inf.size=0
       ·rw [ag h0] at e1;rw [h0] at e1;have e0: ∀f:Nat->Value,(Array.range 0).map f= #[]:=by intro f; simp
        rw [e0] at e1;simp [Instr.buildSlice,run_underlying (fg fP hk),sizeOf,typeInfo,g1,h0,e0,e1,newRow]
       ·rw [af h0] at e1;have h24: ¬(2 ^ 24<len*inf.size):=by rw [g2]; omega
        simp only [Instr.buildSlice,Sem.run_bind,run_underlying (fg fP hk),Result.andThen_ok,sizeOf,typeInfo,zeroValue,run_program,g1,g4,Sem.run_pure,newRow,gt_iff_lt,h24,h0,if_false,Sem.run_ite];rw [e1];rfl
      ·obtain⟨s1,s2⟩:=iM r gx 0 0 e e2 e3 (fun i u hu=>by rw [<- bw]; exact hu) J (w':={ w with heap:=w.heap.push (.cells gx e) }) rfl ⟨rfl,rfl,rfl⟩;refine⟨s1,s2,?_⟩;simp only [VR]
       grind [En.gB,eD,En.ext_θ_new]
     grind
    grind
   grind
  grind
 grind
theorem G3 {E:En} {h:Array Obj} {v:W} {u:Value} {n:Int} (hv:VR E h v u) (Y:j9 v=some n): ∃k,u= .int k n:=by
 unfold j9 at Y;split at Y
 ·simp only [ah] at Y;subst Y;simp only [VR,V.den] at hv
  grind
 grind
theorem vm [bH] {tt:TT} (cI:eC P tt) {H H':Hp} (r:bO E H w) {t:Nat} {l c:W} {lu cu:Value} {v:W} (Y:VR E w.heap l lu) (hc:VR E w.heap c cu) (h:qK tt t l c H=some (v,H')) :
 ∃x w' E',(Instr.makeSlice t lu cu).run P w= .ok x w'/\eU E H w E' H' w'/\bO E' H' w'/\VR E' w'.heap v x:=by
 unfold qK at h;split at h
 ·rename_i n E_;split at h
  ·rename_i m hcm;obtain⟨k1,rfl⟩:=G3 Y E_;obtain⟨k2,rfl⟩:=G3 hc hcm;split at h
   ·rename_i i hi;have fP:=cI t i hi;split at h
    ·rename_i e hk;split at h
     ·rename_i ie kO;have Yl:=cI e ie kO;obtain⟨inf,z,g1,g2,g3,g4,g5⟩:=v8 Yl;have hz:=eX (E:=E) (h:=w.heap) g5;split at h
      ·rename_i hb;obtain⟨b1,b2,b3,b4,b5⟩:=hb;simp only [ah,ak] at h;obtain⟨rfl,rfl⟩:=h;have wa:z.cells.size=ie.size:=by have:=hz.1.length; simp only [bo] at this; omega
       have wn:IntKind.i64.wrap (Int.ofNat n)=Int.ofNat n:=by rw [<- kr]; simp only [rZ]; rw [ag (by constructor<;>simp<;>omega)]
       have wm:IntKind.i64.wrap (Int.ofNat m)=Int.ofNat m:=by rw [<- kr]; simp only [rZ]; rw [ag (by constructor<;>simp<;>omega)]
       have Ei:inf.bytes*m<=1000000000:=by rw [g3]; exact aoq b4 b2
       have ai: ∀(k:IntKind) (x:Int) (w:World),(asInt (Value.int k x)).run P w= .ok x w:=fun _ _ _=>rfl
       have key: ∃gx:Array Value,((Array.range (m*inf.size)).map ((if m*inf.size=0 then #[] else z.cells)[·% (if m*inf.size=0 then #[] else z.cells).size]!))=gx/\ct E w.heap (dQ ie.zero m) gx.toList/\∀u∈gx.toList,u.oneCell'=true:=by
        rw [g2];by_cases h0:m*ie.size=0
        ·grind [dQ,iU,ct]
        ·rw [af h0]
         have fJ:z.cells.toList≠[]:=by
          intro hx;have I6:z.cells.size=0:=by have:=congrArg List.length hx; simpa using this
          grind
         grind [uw,lV,lU]
       obtain⟨gx,e1,e2,e3⟩:=key;refine⟨.slice (some ⟨w.heap.size,0,none⟩) n m,{ w with heap:=w.heap.push (.cells gx e) },E.ext H.fresh (w.heap.size,0) gx.size,?_,?_⟩
       ·have t1: ¬(Int.ofNat m<0):=ad
        have t2: ¬((inf.bytes:Int)*Int.ofNat m > 2 ^ 48):=by
         grind
        have t3: ¬(Int.ofNat n<0):=ad
        have t4: ¬(Int.ofNat n > Int.ofNat m):=by simp; omega
        have t5:(askRoom (m*inf.bytes)).run P w= .ok () w:=by simp_all
        have t6:(Int.ofNat m).toNat=m:=rfl;have t7:(Int.ofNat n).toNat=n:=rfl;by_cases h0:m*inf.size=0
        ·rw [ag h0] at e1;rw [h0] at e1;simp only [Instr.makeSlice,Sem.run_bind,run_underlying (fg fP hk),Result.andThen_ok,ai,sizeOf,typeInfo,zeroValue,run_program,g1,g4,Sem.run_pure,newRow,Sem.run_ite,wn,wm,t1,t2,t3,t4,t6,t7,h0,decide_false,an8,aP,if_false,if_true];simp_all
        ·rw [af h0] at e1;simp only [Instr.makeSlice,Sem.run_bind,run_underlying (fg fP hk),Result.andThen_ok,ai,sizeOf,typeInfo,zeroValue,run_program,g1,g4,Sem.run_pure,newRow,Sem.run_ite,wn,wm,t1,t2,t3,t4,t6,t7,h0,decide_false,an8,aP,if_false];simp_all
       ·obtain⟨s1,s2⟩:=iM r gx 0 0 e e2 e3 (fun i u hu=>by rw [<- bw]; exact hu) J (w':={ w with heap:=w.heap.push (.cells gx e) }) rfl ⟨rfl,rfl,rfl⟩;refine⟨s1,s2,?_⟩;simp only [VR];exact⟨En.gB _ _ _ _,⟨w.heap.size,0,none⟩,m,rfl,b1,by simp [eD,En.ext_θ_new]⟩
      grind
     grind
    grind
   grind
  grind
 grind
end
section
variable {P:Program} {E:En} {w:World}
theorem KV {i:TI} {t:Nat} (fP:mc P t i) {fs:List (Nat×Nat×Nat)} (hk:i.kind= .struct fs) {f off ft sz:Nat} (h:eZ fs f=some (off,ft,sz)) :
 ∃(lP:Array Field) (fd:Field) (inf:TypeInfo),P.underlying t=some (.struct lP)/\lP[f]?=some fd/\fd.offset=off/\fd.type=ft/\P.info? ft=some inf/\inf.size=sz:=by
 obtain⟨lP,hu,hm⟩:=sv fP hk;have U:=DY hm f;rw [<- de,h,bw] at U
 cases hf:lP[f]? with
 |none=>rw [hf] at U; simp at U
 |some fd=>
  rw [hf] at U;simp only [Option.bind_some] at U
  cases hi:P.info? fd.type with
  |none=>rw [hi] at U; simp at U
  |some inf=>
   grind
theorem GD {x v:W} {u:Value} {off:Nat} (hx:VR E w.heap x u) (h:QP off x=some v) :
 ∃b o,u= .pointer (some ⟨b,o,none⟩)/\VR E w.heap v (.pointer (some ⟨b,o+off,none⟩)):=by
 unfold QP at h;cases x<;>simp only [ah,reduceCtorEq,aQ] at h
 case ptr id o=>
  subst h;simp only [VR] at hx ⊢;obtain⟨rfl,hid⟩:=hx;exact⟨_,_,rfl,by rw [amR],hid⟩
 case yi id es i o=>
  subst h;simp only [VR] at hx ⊢;obtain⟨hid,k,U,rfl⟩:=hx;exact⟨_,_,rfl,hid,k,U,by rw [amR,amR]⟩
 case mK cs=>
  obtain⟨l,U,rfl⟩:=h;simp only [VR] at hx ⊢;obtain⟨b,o,us,rfl,Z,h3,h4,h5⟩:=hx;exact⟨b,o,rfl,b,o+off,us.drop off,rfl,Z,(h3.eF U).1,h4.drop off,fun u hu=>h5 u (bu hu)⟩
theorem EI {tt:TT} (cI:eC P tt) {t f:Nat} {x v:W} {u:Value} (hx:VR E w.heap x u) (h:vo tt t x f=some v) :
 ∃r,(Instr.fieldAt t u f).run P w= .ok r w/\VR E w.heap v r:=by
 unfold vo at h;split at h
 ·rename_i i hi;split at h
  ·rename_i fs hk;split at h
   ·rename_i off ft sz hn;obtain⟨lP,fd,inf,hu,hf,U,Z,h3,h4⟩:=KV (cI t i hi) hk hn;split at h
    ·grind
    ·rename_i gT;obtain⟨b,o,rfl,hv⟩:=GD hx h;refine⟨_,?_,hv⟩;have fJ: ¬inf.size=0:=by rw [h4]; exact gT
     simp [Instr.fieldAt,run_underlying hu,hf,Instr.sureAddr,fieldPlace,sizeOf,typeInfo,Z,h3,fJ,fb,U]
   grind
  grind
 grind
theorem QJ {i:TI} {t:Nat} (fP:mc P t i) {cs l:List W} {us:List Value} {off:Nat} {v:W} (hv:ct E w.heap cs us) (hd:eF off cs=some l)
 (h:partOf i l=some v) :
 ∃r,(part t us.toArray off).run P w= .ok r w/\VR E w.heap v r:=by
 obtain⟨U,Z,h3⟩:=hv.eF hd;have hlen:=hv.length;unfold partOf at h;split at h
 ·rename_i Oz;rw [aQ] at h;obtain⟨l',h4,rfl⟩:=h;obtain⟨h5,h6⟩:=U.iy h4;refine⟨.agg (us.toArray.extract off (off+i.size)),?_,?_⟩
  ·simp [part,kN fP,Oz,eA fP]
  ·simp only [VR]
   grind
 ·rename_i Oz;split at h
  ·rename_i x l';simp at h;subst h;rw [bP] at U;obtain⟨u,vs,he,h5,_⟩:=U;refine⟨u,?_,h5⟩
   have hg:us[off]?=some u:=by
    have:=congrArg (·[0]?) he
    grind
   simp [part,kN fP,Oz,hg]
  grind
theorem OU {tt:TT} (cI:eC P tt) {t f:Nat} {x v:W} {u:Value} (hx:VR E w.heap x u) (h:Jz tt t x f=some v) :
 ∃r,(Instr.field t u f).run P w= .ok r w/\VR E w.heap v r:=by
 unfold Jz at h;split at h
 ·rename_i i hi;split at h
  ·rename_i fs hk;split at h
   ·rename_i off ft sz hn;obtain⟨lP,fd,inf,hu,hf,U,Z,h3,h4⟩:=KV (cI t i hi) hk hn;split at h
    ·rename_i fi cs hfi;split at h
     ·rename_i l Y;simp only [VR] at hx;obtain⟨us,rfl,hv⟩:=hx;obtain⟨r,e1,e2⟩:=QJ (w:=w) (cI ft fi hfi) hv Y h;refine⟨r,?_,e2⟩;simp [Instr.field,run_underlying hu,hf,asAgg,U,Z,e1]
     grind
    grind
   grind
  grind
 grind
theorem AP {x:W} {u:Value} {n:Int} (hx:VR E w.heap x u) (h:j9 x=some n): ∃k,u= .int k n:=by
 cases x<;>simp [j9] at h;rename_i k e;cases e<;>simp at h;subst h;simp only [VR,V.den] at hx
 grind
theorem pM {tt:TT} (cI:eC P tt) {t:Nat} {x ix v:W} {u ui:Value} (hx:VR E w.heap x u) (zo:VR E w.heap ix ui) (h:n5 tt t x ix=some v) :
 ∃r,(Instr.indexAt t u ui).run P w= .ok r w/\VR E w.heap v r:=by
 unfold n5 at h;split at h
 ·rename_i i hi;obtain⟨k,rfl⟩:=AP zo hi;split at h
  ·rename_i ti fP;have uW:=cI t ti fP;split at h
   ·rename_i n e hk;split at h
    ·rename_i ff;split at h
     ·rename_i s hs;simp only [iz,aQ] at hs;obtain⟨ie,kO,rfl⟩:=hs;obtain⟨b,o,rfl,hv⟩:=GD hx h;refine⟨_,?_,hv⟩;have hu:=rB uW hk;simp [Instr.indexAt,asIntOf,run_underlying hu,Instr.sureAddr,eA (cI e ie kO),ff,fb]
     grind
    grind
   ·rename_i e hk;have hu:=fg uW hk;split at h
    ·rename_i s hs;simp only [iz,aQ] at hs;obtain⟨ie,kO,rfl⟩:=hs;split at h
     ·rename_i id o len c;split at h
      ·rename_i ff;simp at h;subst h;simp only [VR] at hx;obtain⟨hid,a,cap,rfl,fW,hc⟩:=hx
       have ha:a=⟨(E.θ id).1,(E.θ id).2+o,none⟩:=by
        cases c with
        |exact c=>
         simp only [eD] at hc
         grind
        |rest es=>
         simp only [eD] at hc
         grind
       subst ha;refine⟨.pointer (some ⟨(E.θ id).1,(E.θ id).2+o+i*ie.size,none⟩),?_,by simp only [VR]; exact⟨by rw [amR],hid⟩⟩;simp [Instr.indexAt,asIntOf,run_underlying hu,eA (cI e ie kO),ff,fb]
      grind
     ·rename_i cs n full;split at h
      ·rename_i ff;rw [aQ] at h;obtain⟨l,U,rfl⟩:=h;simp only [VR] at hx;obtain⟨b,o,cap,us,rfl,Z,h3,h4,h5,h6,h7⟩:=hx;refine⟨.pointer (some ⟨b,o+i*ie.size,none⟩),?_,?_⟩
       ·simp [Instr.indexAt,asIntOf,run_underlying hu,eA (cI e ie kO),ff,fb]
       ·simp only [VR];exact⟨b,_,us.drop (i*ie.size),rfl,h4,(h5.eF U).1,h6.drop _,fun u hu=>h7 u (bu hu)⟩
      grind
     grind
    grind
   grind
  grind
 grind
theorem Dt (s:List Nat) (i:Nat):(dc s)[i]?=(s[i]?).map UInt8.ofNat:=by have U:(dc s)[i]?=(dc s).data[i]?:=rfl;rw [U];simp [dc]
theorem xT {tt:TT} (cI:eC P tt) {t:Nat} {x ix v:W} {u ui:Value} (hx:VR E w.heap x u) (zo:VR E w.heap ix ui) (h:zM tt t x ix=some v) :
 ∃r,(Instr.index t u ui).run P w= .ok r w/\VR E w.heap v r:=by
 unfold zM at h;split at h
 ·rename_i i hi;obtain⟨k,rfl⟩:=AP zo hi;split at h
  ·rename_i ti fP;have uW:=cI t ti fP;split at h
   ·rename_i s hk;rw [aQ] at h;obtain⟨b,hb,rfl⟩:=h;simp only [VR] at hx;obtain⟨rfl,ff⟩:=hx;rw [de] at hb;have hg:(dc s)[i]?=some (UInt8.ofNat b):=by rw [Dt,hb]; rfl
    have alV:=ff b (amQ hb);refine⟨_,by simp [Instr.index,asIntOf,run_underlying (fK uW hk),hg]; rfl,?_⟩;simp only [VR,V.den]
    grind
   ·rename_i n e cs hk;split at h
    ·rename_i ff;split at h
     ·rename_i ie kO;split at h
      ·rename_i l Y;simp only [VR] at hx;obtain⟨us,rfl,hv⟩:=hx;obtain⟨r,e1,e2⟩:=QJ (w:=w) (cI e ie kO) hv Y h;refine⟨r,?_,e2⟩;simp [Instr.index,asIntOf,run_underlying (rB uW hk),ff,eA (cI e ie kO),e1]
      grind
     grind
    grind
   grind
  grind
 grind
end
section
variable {P:Program} {E:En} {w:World}
def gn (E:En) (h:Array Obj):Option W->Option Value->Prop
 |none,o=>o=none
 |some x,o=> ∃u,o=some u/\VR E h x u
theorem eB {s:St} {a:Act} (sr:SR E w.heap s.bF a) {x:Option Operand} {v:Option W} (h:HD s x=some v):gn E w.heap v (x.map a.eval):=by
 cases x with
 |none=>simp [HD] at h; subst h; simp [gn]
 |some x=> simp only [HD,aQ] at h;obtain⟨b,U,rfl⟩:=h;exact⟨_,rfl,gj sr U⟩
theorem Aa {x:W} {u:Value} {d y k:Nat} (hx:VR E w.heap x u) (h:nG (some x) d y=some k) {y':Nat} (hy:y<=y') (code:BoundsCode) :
 (Instr.sliceBound u y' code).run P w= .ok k w/\k<=y:=by
 unfold nG at h;simp only at h;split at h
 ·rename_i i hi;obtain⟨kk,rfl⟩:=AP hx hi;split at h
  ·rename_i hle;simp at h;subst h;refine⟨?_,hle⟩;have:((i:Int)<=(y':Int)):=J
   simp [Instr.sliceBound,asIntOf];omega
  grind
 grind
theorem Ab {d y k:Nat} (h:nG none d y=some k):k=d/\d<=y:=by
 grind [nG]
theorem fT {isSlice:Bool} {len cap m0 h0:Nat} {lo hi mx:Option W} {yd hi' mx':Option Value} (mJ:gn E w.heap lo yd) (yg:gn E w.heap hi hi') (xL:gn E w.heap mx mx')
 (hmh:mx.isSome=true->hi.isSome=true) {m h l d:Nat}
 (hm:(mx=none/\m=cap/\m0<=cap)\/(∃x,mx=some x/\nG mx d m0=some m/\m0<=cap))
 (hh:nG hi len h0=some h) (hh0:(mx=none->h0<=cap)/\(mx≠none->h0=m)) (Y:nG lo 0 h=some l) :
 (Instr.sliceBounds isSlice len cap yd hi' mx').run P w= .ok (l,h,m) w/\l<=h:=by
 have key: ∀(c:BoundsCode) (v:W) (u:Value),lo=some v->VR E w.heap v u->(Instr.sliceBound u h c).run P w= .ok l w/\l<=h:=by intro c v u hv hu;subst hv;exact Aa hu Y (au _) c
 have amz:lo=none->l=0:=fun hv=>by subst hv; exact (Ab Y).1
 unfold Instr.sliceBounds;rcases hm with ⟨rfl,rfl,hm0⟩|⟨x,rfl,hm1,hm0⟩
 ·simp only [gn] at xL;subst xL;have hb:=hh0.1 rfl
  cases hi with
  |none=>
   simp only [gn] at yg;subst yg;obtain⟨rfl,_⟩:=Ab hh
   cases lo with
   |none=> simp only [gn] at mJ;simp_all
   |some v=> obtain⟨u,rfl,hu⟩:=mJ;obtain⟨k1,k2⟩:=key .sliceB v u rfl hu;simp_all
  |some y=>
   obtain⟨uy,rfl,huy⟩:=yg;have U:=fun c=>(Aa (P:=P) huy hh hb c).1
   cases lo with
   |none=> simp only [gn] at mJ;simp_all
   |some v=> obtain⟨u,rfl,hu⟩:=mJ;obtain⟨k1,k2⟩:=key .sliceB v u rfl hu;simp_all
 ·obtain⟨ux,rfl,hux⟩:=xL;have Z:=fun c=>(Aa (P:=P) hux hm1 hm0 c).1;have hb:=hh0.2 ad;subst hb
  cases hi with
  |none=>simp at hmh
  |some y=>
   obtain⟨uy,rfl,huy⟩:=yg;have U:=fun c=>(Aa (P:=P) huy hh (au _) c).1
   cases lo with
   |none=> simp only [gn] at mJ;simp_all
   |some v=> obtain⟨u,rfl,hu⟩:=mJ;obtain⟨k1,k2⟩:=key .slice3C v u rfl hu;simp_all
theorem sC (s:List Nat) (l h:Nat):(dc s).extract l h=dc ((s.take h).drop l):=by apply ByteArray.ext;apply Array.ext';rw [Lib.extract_data];simp [dc,aor,aos,List.drop_take]
theorem pU {id o len cap l h m es:Nat} {a:Addr} {c c':MS} (hc:eD E id o len a cap c) (hlen:len<=cap) (hlh:l<=h) (hhm:h<=m) (hmc:m<=cap)
 (U8:(∃k,c= .exact k/\c'= .exact (m-l))\/(c= .rest es/\c'= .exact (m-l))\/(c= .rest es/\c'= .rest es/\m=cap)) (s:Nat) (lr:c'= .rest es->es=s) :
 eD E id (o+l*s) (h-l) (if m=l then a else a.add (l*s)) (m-l) c':=by
 rcases U8 with ⟨k,rfl,rfl⟩|⟨rfl,rfl⟩|⟨rfl,rfl,rfl⟩
 ·simp only [eD] at *;refine⟨trivial,?_⟩;by_cases U6:m=l
  ·grind
  ·left
   grind [fb]
 ·simp only [eD] at *;refine⟨trivial,?_⟩;by_cases U6:m=l
  ·grind
  ·left
   grind [fb]
 ·simp only [eD] at *;obtain rfl:=lr trivial;by_cases U6:m=l
  ·grind
  ·left;rw [af U6];rcases hc with ha|ha
   ·refine⟨by rw [ha.1,fb,amR],?_⟩;rw [<- ha.2,amR,<- am0]
    grind
   ·omega
theorem lx {x:Option W} {d y k:Nat} (h:nG x d y=some k):k<=y:=by
 unfold nG at h;split at h
 ·grind
 ·split at h
  all_goals grind
theorem L8 [bH] {tt:TT} (cI:eC P tt) {H:Hp} (r:bO E H w) {t:Nat} {x v:W} {u:Value} {lo hi mx:Option W} {yd hi' mx':Option Value} (hx:VR E w.heap x u)
 (mJ:gn E w.heap lo yd) (yg:gn E w.heap hi hi') (xL:gn E w.heap mx mx') (h:EE tt t x lo hi mx H=some v) :
 ∃r,(Instr.sliceAt t u yd hi' mx').run P w= .ok r w/\VR E w.heap v r:=by
 unfold EE at h;split at h
 ·grind
 ·split at h
  ·grind
  ·rename_i ti fP;have uW:=cI t ti fP;split at h
   ·rename_i e hk;have hu:=fg uW hk;split at h
    ·grind
    ·rename_i s hs;simp only [iz,aQ] at hs;obtain⟨ie,kO,rfl⟩:=hs;have gT:=eA (w:=w) (cI e ie kO);split at h
     ·rename_i id o len es;split at h
      ·rename_i lr;split at h
       ·rename_i cs ty Y;split at h
        ·grind
        ·rename_i b Ak;split at h
         ·grind
         ·rename_i l nk;simp at h;subst h;obtain⟨lr,jT⟩:=lr;subst lr;simp only [VR] at hx;obtain⟨hid,a,cap,rfl,hlen,hc⟩:=hx;have zl:=(r.live id _ Y).2.1;simp only [OR] at zl;obtain⟨arr,lo1,hi1,us,q1,q2,q3,q4,q5,q6,q7⟩:=zl
          have fW:(cs.length-o) / ie.size<=cap:=by
           simp only [eD] at hc;rcases hc with hc|hc
           ·have:cs.length-o<=cap*ie.size:=J
            exact Nat.div_le_of_le_mul (by rw [aom]; exact this)
           simp_all
          obtain⟨e1,e2⟩:=fT (P:=P) (w:=w) (isSlice:=true) (len:=len) (cap:=cap) (m0:=cap) (d:=0) (m:=cap) mJ yg xL ad (.inl ⟨rfl,rfl,au _⟩) Ak ⟨fun _=>fW,ad⟩ nk;have afD:=lx Ak;refine⟨.slice (some (if cap=l then a else a.add (l*ie.size))) (b-l) (cap-l),?_,?_⟩
          ·simp [Instr.sliceAt,run_underlying hu,Instr.slice,e1,gT]<;>split<;>rfl
          ·simp only [VR];exact⟨hid,_,_,rfl,J,pU (es:=ie.size) hc hlen e2 J (au _) (.inr (.inr ⟨rfl,rfl,rfl⟩)) _ (fun _=>rfl)⟩
       grind
      grind
     grind
   grind
theorem xR {tt:TT} (cI:eC P tt) {t:Nat} {x v:W} {u:Value} {lo hi mx:Option W} {yd hi' mx':Option Value} (hx:VR E w.heap x u)
 (mJ:gn E w.heap lo yd) (yg:gn E w.heap hi hi') (xL:gn E w.heap mx mx') (h:zF tt t x lo hi mx=some v) :
 ∃r,(Instr.sliceAt t u yd hi' mx').run P w= .ok r w/\VR E w.heap v r:=by
 unfold zF at h;split at h
 ·grind
 ·rename_i ti fP;have uW:=cI t ti fP;split at h
  ·rename_i hk;have hu:=fK uW hk;split at h
   ·rename_i s;simp only [gn] at xL;subst xL;split at h
    ·rename_i b hb;split at h
     ·rename_i l Y;simp at h;subst h;simp only [VR] at hx;obtain⟨rfl,ff⟩:=hx;obtain⟨e1,e2⟩:=fT (P:=P) (w:=w) (isSlice:=false) (len:=s.length) (cap:=s.length) (m0:=s.length) (d:=0) mJ yg (mx:=none) (mx':=none) rfl ad (.inl ⟨rfl,rfl,au _⟩) hb ⟨fun _=>au _,ad⟩ Y;refine⟨.string ((dc s).extract l b),?_,?_⟩
      ·rw [<- kG] at e1;simp [Instr.sliceAt,run_underlying hu,Instr.slice,e1]
      ·simp only [VR,sC]
       grind
     grind
    grind
   grind
  ·rename_i e hk;have hu:=fg uW hk;split at h
   ·grind
   ·rename_i s hs;simp only [iz,aQ] at hs;obtain⟨ie,kO,rfl⟩:=hs;have gT:=fun w'=>eA (cI e ie kO) w';split at h
    ·split at h
     ·grind
     ·rename_i hmh;split at h
      ·rename_i kh kl km Ak nk Ei;simp at h;subst h;simp only [VR] at hx;subst hx;obtain rfl:kh=0:=by have:=lx Ak; omega
       obtain rfl:kl=0:=by have:=lx nk; omega
       obtain rfl:km=0:=by have:=lx Ei; omega
       have hm:(mx=none/\0=0/\0<=0)\/(∃x,mx=some x/\nG mx 0 0=some 0/\0<=0):=by
        cases mx with
        |none=>exact .inl ⟨rfl,rfl,au _⟩
        |some y=>exact .inr ⟨y,rfl,Ei,au _⟩
       obtain⟨e1,e2⟩:=fT (P:=P) (w:=w) (isSlice:=true) (len:=0) (cap:=0) (m0:=0) (d:=0) (m:=0) mJ yg xL (by cases mx<;>cases hi<;>simp_all) hm Ak ⟨fun _=>au _,fun _=>rfl⟩ nk;refine⟨.slice none 0 0,?_,by simp only [VR]⟩;simp [Instr.sliceAt,run_underlying hu,Instr.slice,e1,gT]
      grind
    ·rename_i id o len c;split at h
     ·grind
     ·rename_i hmh;split at h
      ·grind
      ·rename_i m Ei;split at h
       ·grind
       ·rename_i b Ak;split at h
        ·grind
        ·rename_i l nk;simp at h;subst h;simp only [VR] at hx;obtain⟨hid,a,cap,rfl,hlen,hc⟩:=hx;have fW:cap=c:=by simp only [eD] at hc; exact hc.1
         subst fW
         have hm:(mx=none/\m=cap/\cap<=cap)\/(∃x,mx=some x/\nG mx cap cap=some m/\cap<=cap):=by
          cases mx with
          |none=>exact .inl ⟨rfl,(Ab Ei).1,au _⟩
          |some y=>exact .inr ⟨y,rfl,Ei,au _⟩
         obtain⟨e1,e2⟩:=fT (P:=P) (w:=w) (isSlice:=true) (len:=len) (cap:=cap) (m0:=cap) (d:=cap) (m:=m) mJ yg xL (by cases mx<;>cases hi<;>simp_all) hm Ak ⟨fun _=>lx Ei,fun _=>rfl⟩ nk;refine⟨.slice (some (if m=l then a else a.add (l*ie.size))) (b-l) (m-l),?_,?_⟩
         ·simp [Instr.sliceAt,run_underlying hu,Instr.slice,e1,gT]<;>split<;>rfl
         ·simp only [VR];exact⟨hid,_,_,rfl,by have:=lx Ak; omega,pU (es:=0) hc hlen e2 (lx Ak) (lx Ei) (.inl ⟨_,rfl,rfl⟩) _ ad⟩
    ·rename_i id o len es;split at h
     ·split at h
      ·grind
      ·rename_i b Ak;split at h
       ·grind
       ·rename_i l nk;split at h
        ·rename_i lr;simp at h;subst h;simp only [VR] at hx;obtain⟨hid,a,cap,rfl,hlen,hc⟩:=hx;obtain⟨e1,e2⟩:=fT (P:=P) (w:=w) (isSlice:=true) (len:=len) (cap:=cap) (m0:=cap) (d:=0) (m:=cap) mJ yg xL ad (.inl ⟨rfl,rfl,au _⟩) Ak ⟨fun _=>hlen,ad⟩ nk;have afD:=lx Ak;refine⟨.slice (some (if cap=l then a else a.add (l*ie.size))) (b-l) (cap-l),?_,?_⟩
         ·simp [Instr.sliceAt,run_underlying hu,Instr.slice,e1,gT]<;>split<;>rfl
         ·simp only [VR];exact⟨hid,_,_,rfl,J,pU (es:=es) hc hlen e2 J (au _) (.inr (.inr ⟨rfl,rfl,rfl⟩)) _ (fun _=>lr)⟩
        grind
     ·rename_i y;split at h
      ·grind
      ·grind
      ·rename_i b0 m Ei;split at h
       ·grind
       ·rename_i b Ak;split at h
        ·grind
        ·rename_i l nk;simp at h;subst h;simp only [VR] at hx;obtain⟨hid,a,cap,rfl,hlen,hc⟩:=hx;obtain⟨e1,e2⟩:=fT (P:=P) (w:=w) (isSlice:=true) (len:=len) (cap:=cap) (m0:=len) (d:=0) (m:=m) mJ yg xL ad (.inr ⟨y,rfl,Ei,hlen⟩) Ak ⟨ad,fun _=>rfl⟩ nk;have LM:=lx Ak;have hm2:=lx Ei;refine⟨.slice (some (if m=l then a else a.add (l*ie.size))) (b-l) (m-l),?_,?_⟩
         ·simp [Instr.sliceAt,run_underlying hu,Instr.slice,e1,gT]<;>split<;>rfl
         ·simp only [VR];exact⟨hid,_,_,rfl,J,pU (es:=es) hc hlen e2 LM J (.inr (.inl ⟨rfl,rfl⟩)) _ ad⟩
    ·rename_i cs n full;split at h
     ·split at h
      ·grind
      ·rename_i b Ak;split at h
       ·grind
       ·rename_i l nk;split at h
        ·grind
        ·rename_i d hd;split at h
         ·grind
         ·rename_i d' uu;simp at h;subst h;simp only [VR] at hx;obtain⟨bb,o,cap,us,rfl,hn,Hi,h4,h5,h6,h7⟩:=hx;obtain⟨e1,e2⟩:=fT (P:=P) (w:=w) (isSlice:=true) (len:=n) (cap:=cap) (m0:=cap) (d:=0) (m:=cap) mJ yg xL ad (.inl ⟨rfl,rfl,au _⟩) Ak ⟨fun _=>hn,ad⟩ nk;have LM:=lx Ak;obtain⟨g1,g2,g3⟩:=h5.eF hd;obtain⟨g4,g5⟩:=g1.iy uu;refine⟨.slice (some (if cap=l then⟨bb,o,none⟩ else (⟨bb,o,none⟩ : Addr).add (l*ie.size))) (b-l) (cap-l),?_,?_⟩
          ·simp [Instr.sliceAt,run_underlying hu,Instr.slice,e1,gT]<;>split<;>rfl
          ·simp only [VR];by_cases U6:cap=l
           ·have h0:b-l=0:=J
            refine⟨bb,o,cap-l,(us.drop (l*ie.size)).take ((b-l)*ie.size),by rw [ag U6],J,fun _=>by omega,h4,g4,?_,fun u hu=>h7 u (bu (amV hu))⟩;rw [h0,amS];intro i u hu
            grind
           ·refine⟨bb,o+l*ie.size,cap-l,(us.drop (l*ie.size)).take ((b-l)*ie.size),by rw [af U6,fb],J,?_,h4,g4,(h6.drop _).take _,fun u hu=>h7 u (bu (amV hu))⟩;intro hf
            grind
     ·rename_i y;split at h
      ·grind
      ·grind
      ·rename_i b0 m Ei;split at h
       ·grind
       ·rename_i b Ak;split at h
        ·grind
        ·rename_i l nk;split at h
         ·grind
         ·rename_i d hd;split at h
          ·grind
          ·rename_i d' uu;simp at h;subst h;simp only [VR] at hx;obtain⟨bb,o,cap,us,rfl,hn,Hi,h4,h5,h6,h7⟩:=hx;obtain⟨e1,e2⟩:=fT (P:=P) (w:=w) (isSlice:=true) (len:=n) (cap:=cap) (m0:=n) (d:=0) (m:=m) mJ yg xL ad (.inr ⟨y,rfl,Ei,hn⟩) Ak ⟨ad,fun _=>rfl⟩ nk;have LM:=lx Ak;obtain⟨g1,g2,g3⟩:=h5.eF hd;obtain⟨g4,g5⟩:=g1.iy uu;refine⟨.slice (some (if m=l then⟨bb,o,none⟩ else (⟨bb,o,none⟩ : Addr).add (l*ie.size))) (b-l) (m-l),?_,?_⟩
           ·simp [Instr.sliceAt,run_underlying hu,Instr.slice,e1,gT]<;>split<;>rfl
           ·simp only [VR];by_cases U6:m=l
            ·have h0:b-l=0:=J
             refine⟨bb,o,m-l,(us.drop (l*ie.size)).take ((b-l)*ie.size),by rw [ag U6],J,fun _=>by omega,h4,g4,?_,fun u hu=>h7 u (bu (amV hu))⟩;rw [h0,amS];intro i u hu
             grind
            ·refine⟨bb,o+l*ie.size,m-l,(us.drop (l*ie.size)).take ((b-l)*ie.size),by rw [af U6,fb],J,?_,h4,g4,(h6.drop _).take _,fun u hu=>h7 u (bu (amV hu))⟩;intro hf
             grind
    grind
  ·rename_i n e hk;have hu:=rB uW hk;split at h
   ·grind
   ·rename_i s hs;simp only [iz,aQ] at hs;obtain⟨ie,kO,rfl⟩:=hs;have gT:=fun w'=>eA (cI e ie kO) w';split at h
    ·rename_i id o;split at h
     ·grind
     ·rename_i hmh;split at h
      ·grind
      ·rename_i m Ei;split at h
       ·grind
       ·rename_i b Ak;split at h
        ·grind
        ·rename_i l nk;simp at h;subst h;simp only [VR] at hx;obtain⟨rfl,hid⟩:=hx
         have hm:(mx=none/\m=n/\n<=n)\/(∃x,mx=some x/\nG mx n n=some m/\n<=n):=by
          cases mx with
          |none=>exact .inl ⟨rfl,(Ab Ei).1,au _⟩
          |some y=>exact .inr ⟨y,rfl,Ei,au _⟩
         obtain⟨e1,e2⟩:=fT (P:=P) (w:=w) (isSlice:=false) (len:=n) (cap:=n) (m0:=n) (d:=n) (m:=m) mJ yg xL (by cases mx<;>cases hi<;>simp_all) hm Ak ⟨fun _=>lx Ei,fun _=>rfl⟩ nk;refine⟨.slice (some (if m=l then⟨(E.θ id).1,(E.θ id).2+o,none⟩ else (⟨(E.θ id).1,(E.θ id).2+o,none⟩ : Addr).add (l*ie.size))) (b-l) (m-l),?_,?_⟩
         ·simp [Instr.sliceAt,run_underlying hu,Instr.sureAddr,e1,gT]<;>split<;>rfl
         ·simp only [VR,eD];refine⟨hid,_,_,rfl,by have:=lx Ak; omega,rfl,?_⟩;by_cases U6:m=l
          ·grind
          ·left; rw [af U6,fb,amR]
    grind
  grind
end
section
variable {P:Program} {E:En} {w:World}
theorem B6 {h:Array Obj}: ∀{cs:List W} {us:List Value} {l:List Nat},vy cs=some l->ct E h cs us->us=(l.map UInt8.ofNat).map (fun b=>Value.int .u8 (b.toNat:Int))/\∀b∈l,b<256
 |[],us,l,U,Z=>by
  simp [vy] at U;subst U;rw [fQ] at Z
  grind
 |x::cs,us,l,U,Z=>by
  rw [bP] at Z;obtain⟨u,vs,rfl,h3,h4⟩:=Z;unfold vy at U;split at U
  ·rename_i he; simp at he
  ·rename_i b xs he;simp only [List.cons.injEq] at he;obtain⟨rfl,rfl⟩:=he;split at U
   ·rename_i hb;split at U
    ·rename_i l' Y;simp at U;subst U;obtain⟨e1,e2⟩:=B6 Y h4;simp only [VR,V.den] at h3;refine⟨?_,?_⟩
     ·rw [h3,e1];simp [anr,ang hb]
     grind
    grind
   grind
  grind
theorem zO [bH] {tt:TT} (cI:eC P tt) {H H':Hp} (r:bO E H w) {sT dT:Nat} {x v:W} {u:Value} (hx:VR E w.heap x u) (h:oW tt sT dT x H=some (v,H')) :
 ∃y w' E',(convert sT dT u).run P w= .ok y w'/\eU E H w E' H' w'/\bO E' H' w'/\VR E' w'.heap v y:=by
 unfold oW at h;split at h
 ·grind
 ·rename_i j hj;obtain⟨sd,hsd,hsk⟩:=rS (cI sT j hj);split at h
  ·rename_i i hi;have fP:=cI dT i hi;split at h
   ·rename_i k hk;have hd:=oI fP hk;split at h
    ·rename_i kk n;simp only [ah,ak] at h;obtain⟨rfl,rfl⟩:=h;simp only [VR] at hx;subst hx;refine⟨.int k (k.wrap n),w,E,?_,eU.refl _ _ _,r,by simp only [VR,V.den,kr]⟩;simp [convert,run_underlying hsd,run_underlying hd,Conv.intToInt,V.den]
    ·rename_i kk e fJ;simp only [ah,ak] at h;obtain⟨rfl,rfl⟩:=h;simp only [VR] at hx;subst hx;refine⟨.int k (k.wrap (e.den E.ρ)),w,E,?_,eU.refl _ _ _,r,by simp only [VR,V.den]⟩;simp [convert,run_underlying hsd,run_underlying hd,Conv.intToInt]
    grind
   ·rename_i hk;have hd:=fK fP hk;split at h
    ·rename_i hjk;split at h
     ·rename_i s;simp only [ah,ak] at h;obtain⟨rfl,rfl⟩:=h;have I6:=hx;simp only [VR] at hx;obtain⟨rfl,_⟩:=hx;refine⟨_,w,E,?_,eU.refl _ _ _,r,I6⟩;simp [convert,run_underlying (fK (cI sT j hj) hjk),run_underlying hd]
     grind
    ·rename_i e hjk;have hs:=fg (cI sT j hj) hjk;split at h
     ·grind
     ·rename_i ie kO;split at h
      ·rename_i hu8;have he:=oI (cI e ie kO) hu8.1;split at h
       ·simp only [ah,ak] at h;obtain⟨rfl,rfl⟩:=h;simp only [VR] at hx;subst hx;refine⟨.string .empty,w,E,?_,eU.refl _ _ _,r,?_⟩
        ·rw [run_convert_bytes_string w sT dT e none 0 0 hs he hd];rfl
        ·simp only [VR];exact⟨rfl,ad⟩
       ·rename_i id o len c;split at h
        ·rename_i cs U7;rw [aQ] at h;obtain⟨l,Y,he2⟩:=h;simp only [ak] at he2;obtain⟨rfl,rfl⟩:=he2;simp only [VR] at hx;obtain⟨hid,a,cap,rfl,fW,hc⟩:=hx;obtain⟨b,o',us,e1,e2,e3,e4,e5⟩:=vO r (p:=.ptr id o) (u:=.pointer (some ⟨(E.θ id).1,(E.θ id).2+o,none⟩)) (by simp only [VR]; exact⟨trivial,hid⟩) U7;obtain⟨e6,e7⟩:=B6 Y e3
         have hlen:len=(l.map UInt8.ofNat).length:=by
          grind
         have ha:a=⟨(E.θ id).1,(E.θ id).2+o,none⟩\/len=0:=by
          cases c with
          |exact c=>
           simp only [eD] at hc
           grind
          |rest es=>
           simp only [eD] at hc
           grind
         refine⟨.string (dc l),w,E,?_,eU.refl _ _ _,r,by simp only [VR]; exact⟨trivial,e7⟩⟩;rw [hlen];refine run_convert_bytes_back w sT dT e a cap (l.map UInt8.ofNat) hs he hd fun k hk=>?_;rcases ha with ha|ha
         ·subst ha;rw [fb,lF];simp only [Value.pointer.injEq,ah,Addr.mk.injEq] at e1;obtain⟨e1a,e1b,_⟩:=e1;rw [e1a,e1b];refine e4 k _ ?_
          grind
         ·omega
        grind
       grind
      grind
    grind
   ·rename_i e hk;have hd:=fg fP hk;split at h
    ·grind
    ·rename_i ie kO;split at h
     ·rename_i hu8;have he:=oI (cI e ie kO) hu8.1;split at h
      ·rename_i s;simp only [ah,ak] at h;obtain⟨rfl,rfl⟩:=h;simp only [VR] at hx;obtain⟨rfl,ff⟩:=hx;have hs:=fK (cI sT j hj) hu8.2;have gT:(dc s).size=s.length:=kG s;have Ow:=grownCap_ge w (dc s).size 0 e
       have iR:(bytesRow (dc s) (grownCap w (dc s).size 0 e)).size=grownCap w (dc s).size 0 e:=by have U:(dc s).data.size=s.length:=gT;simp only [bytesRow,Array.size_append,Array.size_map,Array.size_replicate,U];omega
       have hv:ct E w.heap (s.map fun c=>W.int .u8 (.lit (Int.ofNat c))) ((s.map UInt8.ofNat).map (fun b=>Value.int .u8 (b.toNat:Int))):=by
        clear Ow iR gT
        induction s with
        |nil=>simp [ct]
        |cons b s ih=> have hb:=ff b ad;rw [aw,aw,aw,bP];refine⟨_,_,rfl,?_,ih fun c hc=>ff c (by simp [hc])⟩;simp [VR,V.den,anr,ang hb]
       obtain⟨s1,s2⟩:=iM r (bytesRow (dc s) (grownCap w (dc s).size 0 e)) (bytesRow (dc s) (grownCap w (dc s).size 0 e)).size ((bytesRow (dc s) (grownCap w (dc s).size 0 e)).size+1) e hv
        (by intro u hu; simp only [aH] at hu; obtain⟨b,_,rfl⟩:=hu; rfl)
        (by
         intro k u hu;have hk:=(aX.1 hu).1;simp only [aL] at hk;simp only [bytesRow];rw [aot (by have U:(dc s).data.size=s.length:=gT; simp only [Array.size_map,U]; exact hk)];rw [<- hu]
         simp [dc])
        (by intro o U Z; omega)
        (w':=w.drew.alloc (.cells (bytesRow (dc s) (grownCap w (dc s).size 0 e)) e ((bytesRow (dc s) (grownCap w (dc s).size 0 e)).size,(bytesRow (dc s) (grownCap w (dc s).size 0 e)).size+1))) rfl ⟨rfl,rfl,rfl⟩
       refine⟨_,_,_,run_bytes_of_string w sT dT e (dc s) hs hd he,s1,s2,?_⟩;simp only [VR,gT];refine⟨En.gB _ _ _ _,⟨w.heap.size,0,none⟩,_,rfl,by rw [<- gT]; exact Ow,?_⟩;simp only [eD,En.ext_θ_new,En.ext_κ_new]
       grind
      grind
     grind
   grind
  grind
end
section
variable {P:Program} {E:En} {w:World}
def Cu (d:TypeDesc):TK->Prop
 | .int _=> ∃k,d= .int k
 | .string=>d= .string
 | .bool=>d= .bool
 |_=>False
theorem xG {tt:TT} (cI:eC P tt) {t:Nat} {kk:TK} (h:vW tt t=some kk): ∃d,P.underlying t=some d/\Cu d kk:=by
 unfold vW at h;split at h
 ·rename_i i hi;split at h<;>simp only [ah,reduceCtorEq] at h<;>subst h
  ·rename_i k hk; exact⟨_,oI (cI t i hi) hk,k,rfl⟩
  ·rename_i hk; exact⟨_,fK (cI t i hi) hk,rfl⟩
  ·rename_i hk; exact⟨_,Kz (cI t i hi) hk,rfl⟩
 grind
theorem WZ {x y:List Nat} (hx: ∀b∈x,b<256) (hy: ∀b∈y,b<256):(dc x == dc y)=gC x y:=by
 have e:(dc x == dc y)=((dc x).data == (dc y).data):=rfl;rw [e,am6,beq_iff_eq,ku];constructor
 ·intro h;have Z:=congrArg (fun b=>b.toList) h;simp only [dc] at Z
  grind [map_inj]
 grind
theorem Lo {h:Array Obj} {pc:List (SB×Bool)} (hp:bV E.ρ pc) {kk:TK} {d:TypeDesc} (hd:Cu d kk) {a b:W} {u u':Value} (ha:VR E h a u) (hb:VR E h b u') {c:Bool} (hc:Rg pc kk a b=some c) :
 Instr.sameNow d u u'=some c/\(c=true->∀n,Instr.sameBits (n+1) u' u=true):=by
 unfold Rg at hc;split at hc
 ·obtain⟨k,rfl⟩:=hd;split at hc
  ·simp only [VR] at ha hb;subst ha hb;split at hc
   ·rename_i hk;subst hk;have hc:=gD hp hc;rw [gG] at hc;subst hc;refine⟨by simp [Instr.sameNow],fun hh n=>?_⟩;simp at hh;simp [Instr.sameBits,hh]
   grind
  grind
 ·simp only [Cu] at hd;subst hd;split at hc
  ·simp only [VR] at ha hb;obtain⟨rfl,ha⟩:=ha;obtain⟨rfl,hb⟩:=hb;simp at hc;subst hc;have he:=WZ ha hb;refine⟨by simp only [Instr.sameNow,he],fun hh n=>?_⟩;simp only [Instr.sameBits]
   grind [ku]
  ·split at hc
   ·rename_i c0 h0;obtain⟨x,y,rfl,rfl,hd⟩:=Ds ha hb h0;have hc:=gD hp hc;rw [hd] at hc
    have hbe: ∀p q:ByteArray,(p == q)=decide (p=q):=by
     intro p q;rw [am6,decide_eq_true_eq];have e:(p == q)=(p.data == q.data):=rfl;rw [e,beq_iff_eq];constructor
     ·intro h; cases p; cases q; simp only at h; rw [h]
     grind
    refine⟨by simp only [Instr.sameNow,hbe,hc],fun hh n=>?_⟩;simp only [Instr.sameBits,hbe]
    grind
   grind
 ·simp only [Cu] at hd;subst hd;split at hc
  ·simp only [VR,SB.den] at ha hb;subst ha hb;simp at hc;subst hc;refine⟨by simp [Instr.sameNow],fun hh n=>?_⟩;simp at hh;simp [Instr.sameBits,hh]
  grind
 grind
theorem eK {t:Nat} {kk:TK} {d:TypeDesc} (hu:P.underlying t=some d) (hd:Cu d kk) (b:Bool) (v:Value):(Instr.checkKey b 10000 t v).run P w= .ok () w:=by
 have h0:(10000:Nat)=9999+1:=rfl;rw [h0];generalize (9999:Nat)=n;cases kk<;>simp only [Cu] at hd
 ·subst hd; simp [Instr.checkKey,run_underlying hu]
 ·obtain⟨k,rfl⟩:=hd; simp [Instr.checkKey,run_underlying hu]
 ·subst hd; simp [Instr.checkKey,run_underlying hu]
theorem pK {h:Array Obj} {pc:List (SB×Bool)} (hp:bV E.ρ pc) {kk:TK} {d:TypeDesc} (hd:Cu d kk) {k:W} {u:Value} (hk:VR E h k u): ∀{es:List (W×W×Nat)} {bK:List MapEntry} {i:Nat} {res:Option (Nat×W)},
 eL E h es bK->BW pc kk k es i=some res->
 (res=none/\Instr.findNow d u bK i=some none)\/
 (∃j v e,res=some (i+j,v)/\bK[j]?=some e/\VR E h v e.val/\Instr.findNow d u bK i=some (some (i+j,e.val))/\∀n,Instr.sameBits (n+1) e.key u=true)
 |[],bK,i,res,he,hf=>by simp only [eL] at he;subst he;simp [BW] at hf;exact .inl ⟨hf.symm,by simp [Instr.findNow]⟩
 |(k',v,b)::es,bK,i,res,he,hf=>by
  simp only [eL] at he;obtain⟨e,r,rfl,U,Z,h3,h4⟩:=he;simp only [BW] at hf;split at hf
  ·rename_i hc;simp at hf;subst hf;obtain⟨g1,g2⟩:=Lo hp hd hk U hc;exact .inr ⟨0,v,e,rfl,rfl,Z,by simp [Instr.findNow,g1],g2 rfl⟩
  ·rename_i hc;obtain⟨g1,g2⟩:=Lo hp hd hk U hc;rcases pK hp hd hk h4 hf with ⟨q1,q2⟩|⟨j,v',e',q1,q2,q3,q4,q5⟩
   ·exact .inl ⟨q1,by simp [Instr.findNow,g1,q2]⟩
   ·refine .inr ⟨j+1,v',e',?_,by simpa using q2,q3,?_,q5⟩
    ·grind
    ·simp only [Instr.findNow,g1,q4]; congr 3; omega
  grind
theorem fE {t:Nat} {d:TypeDesc} (hu:P.underlying t=some d) {u:Value} {bK:List MapEntry} {r:Option (Nat×Value)} (h:Instr.findNow d u bK 0=some r):(Instr.findKey t u bK).run P w= .ok r w:=by simp [Instr.findKey,run_underlying hu,h]
theorem eJ {r:Nat} {o:Obj} (h:w.heap[r]?=some o) (hn: ∀c e f,o≠.cells c e f):(getObj r).run P w= .ok o w:=by
 unfold getObj;cases o<;>first |exact absurd rfl (hn _ _ _)|simp only [Sem.run,h]
theorem gy {r:Nat} {o o':Obj} (h:w.heap[r]?=some o) (hn: ∀c e f,o≠.cells c e f):(setObj r o').run P w= .ok () { w with heap:=w.heap.setIfInBounds r o' }:=by
 unfold setObj;cases o<;>first |exact absurd rfl (hn _ _ _)|simp only [Sem.run,h]
theorem fD [bH] {H:Hp} (r:bO E H w) {id:Nat} {o:dN} (Y:H.get id=some o) (ao:dN) (o':Obj)
 (ho: ∀h',h'[(E.θ id).1]?=some o'->fy E w.heap E h'->OR E h' id ao) :
 eU E H w E (H.put id ao) { w with heap:=w.heap.setIfInBounds (E.θ id).1 o' }/\bO E (H.put id ao) { w with heap:=w.heap.setIfInBounds (E.θ id).1 o' }:=by
 have ff:=fq r Y
 have lq: ∀b,b≠(E.θ id).1->({ w with heap:=w.heap.setIfInBounds (E.θ id).1 o' }:World).heap[b]?=w.heap[b]?:=fun b hb=>by
  grind
 refine yI r Y ao ad lq ⟨rfl,rfl,rfl⟩ (ho _ ?_ (kb r Y lq))
 grind
theorem SM.yy {k v:W}: ∀(es:List (W×W×Nat)) (i:Nat),(mw k v es i).map (·.2.2)=es.map (·.2.2)
 |[],_=>rfl
 |_::_,0=>rfl
 |_::es,i+1=>by simp only [mw,aw,SM.yy es i]
theorem SM.HF: ∀(es:List (W×W×Nat)) (i:Nat),(jB es i).map (·.2.2)=(es.map (·.2.2)).eraseIdx i
 |[],_=>by simp [jB]
 |_::_,0=>by simp [jB]
 |_::es,i+1=>by simp only [jB,aw,an9,SM.HF es i]
theorem zR {α β:Type} (f:α->β): ∀(l:List α) (i:Nat),(l.eraseIdx i).map f=(l.map f).eraseIdx i
 |[],_=>by simp
 |_::_,0=>by simp
 |_::l,i+1=>by simp [zR f l i]
theorem SM.erase {c c':Nat} {es:List (W×W×Nat)} {l:List MapEntry} {i:Nat} (h:SM c es l c'):SM c (jB es i) (l.eraseIdx i) c':=by
 cases c with
 |zero=>trivial
 |succ c=>exact⟨h.1,by rw [SM.HF,zR,h.2]⟩
theorem SM.set {k v:W} {f:MapEntry->MapEntry} (hf: ∀e,(f e).born=e.born) {c c':Nat} {es:List (W×W×Nat)} {bK:Array MapEntry} {i:Nat} (h:SM c es bK.toList c'):SM c (mw k v es i) (bK.modify i f).toList c':=by
 cases c with
 |zero=>trivial
 |succ c=>
  refine⟨h.1,?_⟩;rw [SM.yy,<- h.2];apply anV;intro j;simp only [bp,bw,anR];split
  ·cases bK[j]?<;>simp [hf]
  ·rfl
theorem eL.length {h:Array Obj}: ∀{es:List (W×W×Nat)} {bK:List MapEntry},eL E h es bK->bK.length=es.length
 |[],bK,he=>by simp only [eL] at he; simp [he]
 |(k,v,b)::es,bK,he=>by simp only [eL] at he;obtain⟨e,r,rfl,_,_,_,h4⟩:=he;simp [h4.length]
theorem eL.set {h:Array Obj} {k v:W} {uk uv:Value} (hk:VR E h k uk) (hv:VR E h v uv): ∀{es:List (W×W×Nat)} {bK:List MapEntry} {i:Nat} {e:MapEntry},eL E h es bK->bK[i]?=some e->
 eL E h (mw k v es i) (bK.set i { e with key:=uk,val:=uv })
 |[],bK,i,e,he,hi=>by simp only [eL] at he; subst he; simp at hi
 |(k',v',b)::es,bK,0,e,he,hi=>by
  simp only [eL] at he;obtain⟨e0,r,rfl,U,Z,h3,h4⟩:=he;simp at hi;subst hi;simp only [mw,anJ,eL]
  grind
 |(k',v',b)::es,bK,i+1,e,he,hi=>by simp only [eL] at he;obtain⟨e0,r,rfl,U,Z,h3,h4⟩:=he;simp only [mw,anK,eL];exact⟨e0,_,rfl,U,Z,h3,eL.set hk hv h4 (by simpa using hi)⟩
theorem eL.push {h:Array Obj} {k v:W} {uk uv:Value} {c c':Nat} (hk:VR E h k uk) (hv:VR E h v uv): ∀{es:List (W×W×Nat)} {bK:List MapEntry},eL E h es bK->
 eL E h (es++ [(k,v,c)]) (bK++ [{ key:=uk,val:=uv,born:=c' }])
 |[],bK,he=>by
  simp only [eL] at he;subst he;simp only [ay,eL]
  grind
 |(k',v',b)::es,bK,he=>by simp only [eL] at he;obtain⟨e0,r,rfl,U,Z,h3,h4⟩:=he;simp only [aR,eL];exact⟨e0,_,rfl,U,Z,h3,eL.push hk hv h4⟩
theorem eL.erase {h:Array Obj}: ∀{es:List (W×W×Nat)} {bK:List MapEntry} {i:Nat},eL E h es bK->eL E h (jB es i) (bK.eraseIdx i)
 |[],bK,i,he=>by simp only [eL] at he; subst he; simp [jB,eL]
 |(k',v',b)::es,bK,0,he=>by
  simp only [eL] at he;obtain⟨e0,r,rfl,U,Z,h3,h4⟩:=he
  grind [jB]
 |(k',v',b)::es,bK,i+1,he=>by simp only [eL] at he;obtain⟨e0,r,rfl,U,Z,h3,h4⟩:=he;simp only [jB,an9,eL];exact⟨e0,_,rfl,U,Z,h3,eL.erase h4⟩
theorem Ao {t:Nat} {i:TI} (fP:mc P t i) {z:W} (h:zeroOf i=some z): ∃u,(zeroValue t).run P w= .ok u w/\VR E w.heap z u:=by
 obtain⟨inf,d,zv,U,Z,h3,h4,h5,h6,h7,h8⟩:=fP.all;have hz:=eX (E:=E) (h:=w.heap) h4;have hr:(zeroValue t).run P w= .ok zv w:=by simp [zeroValue,typeInfo,U,h3]
 refine⟨zv,hr,?_⟩;unfold zeroOf at h;split at h
 ·rename_i ha;simp at h;subst h;rw [ha] at h8;cases zv<;>simp only [I2,reduceCtorEq] at h8;rename_i cs;simp only [VR];exact⟨cs.toList,ad,hz.1⟩
 ·rename_i ha;split at h
  ·rename_i v hv;simp at h;subst h;rw [hv] at hz;obtain⟨u,vs,e1,e2,e3⟩:=bP.1 hz.1;rw [fQ] at e3;subst e3;rw [ha] at h8;have:zv=u:=by cases zv<;>simp_all [I2,Value.cells]
   grind
  grind
end
theorem AA (ρ:Nat->Int) (x:V):(yz x).den ρ=(dec (x.den ρ)).n:=by
 unfold yz;split
 ·split
  ·simp only [V.den,e9.den,bB,D.n]
  ·simp only [V.den,e9.den]
 ·split
  ·simp only [V.den,bB,D.n]
  ·simp only [V.den,e9.den]
 ·simp only [V.den,e9.den]
theorem lz (ρ:Nat->Int) (x:V):(ng x).den ρ=enc (.i (x.den ρ)):=by unfold ng;split<;>simp only [V.den,e9.den]
theorem zp (a b:D):(D.p a b).hd 0=a:=by simp [D.hd,D.l]
theorem zq (a b:D) (j:Nat):(D.p a b).hd (j+1)=b.hd j:=by simp [D.hd,D.l]
theorem ph (ρ:Nat->Int): ∀(j:Nat) (x:V),dec ((iK j x).den ρ)=(dec (x.den ρ)).hd j
 |j,.op o a b=>by
  unfold iK
  cases o with
  |cons=>
   cases j with
   |zero=>simp only [V.den,e9.den,bB,zp]
   |succ j=>simp only [ph ρ j b,V.den,e9.den,bB,zq]
  |_=>simp only [V.den,e9.den,bB]
 |j,.lit n=>by simp only [iK,V.den,e9.den,bB]
 |j,.dG n=>by simp only [iK,V.den,e9.den,bB]
 |j,.add _ _=>by simp only [iK,V.den,e9.den,bB]
 |j,.sub _ _=>by simp only [iK,V.den,e9.den,bB]
 |j,.mul _ _=>by simp only [iK,V.den,e9.den,bB]
 |j,.quo _ _=>by simp only [iK,V.den,e9.den,bB]
 |j,.rem _ _=>by simp only [iK,V.den,e9.den,bB]
 |j,.wrap _ _=>by simp only [iK,V.den,e9.den,bB]
 |j,.v7 _ _=>by simp only [iK,V.den,e9.den,bB]
 |j,.ei _=>by simp only [iK,V.den,e9.den,bB]
 |j,.ap _ _=>by simp only [iK,V.den,e9.den,bB]
theorem cm (ρ:Nat->Int): ∀x:V,(dM x).den ρ=((dec (x.den ρ)).l.length:Int)
 | .op o a b=>by
   unfold dM
   cases o with
   |set=>
    simp only [cm ρ a,V.den,e9.den];split
    ·simp only [bB,bJ,gu]
    ·rfl
   |_=>simp only [V.den,e9.den]
 | .lit n=>by simp only [dM,V.den,e9.den]
 | .dG n=>by simp only [dM,V.den,e9.den]
 | .add _ _=>by simp only [dM,V.den,e9.den]
 | .sub _ _=>by simp only [dM,V.den,e9.den]
 | .mul _ _=>by simp only [dM,V.den,e9.den]
 | .quo _ _=>by simp only [dM,V.den,e9.den]
 | .rem _ _=>by simp only [dM,V.den,e9.den]
 | .wrap _ _=>by simp only [dM,V.den,e9.den]
 | .v7 _ _=>by simp only [dM,V.den,e9.den]
 | .ei d=>by simp only [dM,V.den,bB]; rfl
 | .ap _ _=>by simp only [dM,V.den,e9.den]
theorem Rd.slice {ro:Nat->Prop} {h:Array Obj} {t:Nat} {d:D} {v:Value} (r:Rd ro h (.sl t) d v): ∃x cap,v= .slice x d.l.length cap/\d.l.length<=cap:=by
 generalize hc:CK.sl t=c at r
 cases r with
 |int k n=>simp at hc
 |bool b=>simp at hc
 |str s=>simp at hc
 |nil t=>exact⟨none,0,rfl,by simp [D.l]⟩
 |uQ t a cap=>exact⟨some a,cap,rfl,by simp [D.l]⟩
 |one t c b o cap ds f hr fZ hb U Z=>exact⟨_,cap,by rw [bJ],by rw [bJ]; exact fZ⟩
 |many t cs b o cap rows f hr fZ hb Y U Z=>exact⟨some ⟨b,o,none⟩,cap,ad,by simpa using fZ⟩
theorem Rd.string {ro:Nat->Prop} {h:Array Obj} {d:D} {v:Value} (r:Rd ro h .str d v): ∃s,v= .string s/\d=tz s:=by
 cases r with
 |str s=>exact⟨s,rfl,rfl⟩
def iI (ro:Nat->Prop) (h:Array Obj) (c:CK) (d:D) (u:Value):Prop:=match c with
 | .int k=>u= .int k d.n
 | .bool=>u= .bool (!(d.n == 0))
 |c=>Rd ro h c d u
theorem nu {E:En} {h:Array Obj} {c:CK} {x:V} {u:Value}:VR E h (vx c x) u↔iI E.ro h c (dec (x.den E.ρ)) u:=by cases c<;>simp only [vx,iI,VR,SB.den,AA,V.den]
theorem Rd.cell {ro:Nat->Prop} {h:Array Obj} {c:CK} {d:D} {u:Value} (r:Rd ro h c d u):iI ro h c d u:=by
 cases r with
 |int k n=>simp [iI,D.n]
 |bool b=>cases b<;>simp [iI,D.n]
 |str s=>exact .str s
 |nil t=>exact .nil t
 |uQ t a cap=>exact .uQ t a cap
 |one t c b o cap ds f hr hc hb U Z=>exact .one t c b o cap ds f hr hc hb U Z
 |many t cs b o cap rows f hr hc hb Y U Z=>exact .many t cs b o cap rows f hr hc hb Y U Z
theorem iI.one {ro:Nat->Prop} {h:Array Obj} {c:CK} {d:D} {u:Value} (r:iI ro h c d u):u.oneCell'=true:=by
 cases c with
 |int k=>simp only [iI] at r; subst r; rfl
 |bool=>simp only [iI] at r; subst r; rfl
 |str=>exact Rd.aah r
 |sl t=>exact Rd.aah r
def dS (ro:Nat->Prop) (h:Array Obj):List CK->Nat->D->List Value->Prop
 |[],_,_,us=>us= []
 |c::cs,j,d,us=> ∃u vs,us=u::vs/\iI ro h c (d.hd j) u/\dS ro h cs (j+1) d vs
def uh (ro:Nat->Prop) (h:Array Obj) (r:Row) (d:D) (us:List Value):Prop:=match r with
 | .one c=> ∃u,us= [u]/\iI ro h c d u
 | .many cs=>dS ro h cs 0 d us
theorem nF {E:En} {h:Array Obj} {x:V}: ∀{cs:List CK} {j:Nat} {us:List Value},ct E h (iw cs j x) us↔dS E.ro h cs j (dec (x.den E.ρ)) us
 |[],j,us=>by simp only [iw,ct,dS]
 |c::cs,j,us=>by
  simp only [iw,bP,dS];constructor
  ·rintro⟨u,vs,rfl,U,Z⟩;exact⟨u,vs,rfl,by rw [nu,ph] at U; exact U,nF.1 Z⟩
  ·rintro⟨u,vs,rfl,U,Z⟩;exact⟨u,vs,rfl,by rw [nu,ph]; exact U,nF.2 Z⟩
theorem fA {E:En} {h:Array Obj} {r:Row} {x:V} {us:List Value}:ct E h (gz r x) us↔uh E.ro h r (dec (x.den E.ρ)) us:=by
 cases r with
 |one c=>
  simp only [gz,bP,fQ,uh];constructor
  ·rintro⟨u,vs,rfl,U,rfl⟩
   grind [nu]
  grind [nu]
 |many cs=>simp only [gz,uh,nF]
theorem r9 (x:V): ∀(cs:List CK) (j:Nat),(iw cs j x).length=cs.length
 |[],_=>rfl
 |_::cs,j=>by simp [iw,r9 x cs]
theorem gQ (r:Row) (x:V):(gz r x).length=r.es:=by cases r<;>simp [gz,Row.es,r9]
theorem dS.rN {ro:Nat->Prop} {h:Array Obj} {d:D}: ∀{cs:List CK} {j:Nat} {us:List Value},dS ro h cs j d us->∀u∈us,u.oneCell'=true
 |[],_,_,hh,u,hu=>by simp only [dS] at hh; subst hh; simp at hu
 |c::cs,j,us,hh,u,hu=>by
  simp only [dS] at hh;obtain⟨x,vs,rfl,U,Z⟩:=hh;rcases ax.1 hu with rfl|hu
  ·exact U.one
  ·exact Z.rN u hu
theorem uh.rN {ro:Nat->Prop} {h:Array Obj} {r:Row} {d:D} {us:List Value} (hh:uh ro h r d us): ∀u∈us,u.oneCell'=true:=by
 cases r with
 |one c=> obtain⟨u,rfl,U⟩:=hh;intro x hx;simp at hx;subst hx;exact U.one
 |many cs=>exact dS.rN hh
theorem ct.split {E:En} {h:Array Obj}: ∀{xs ys:List W} {us:List Value},ct E h (xs++ys) us->∃a b,us=a++b/\ct E h xs a/\ct E h ys b
 |[],ys,us,hh=> ⟨[],us,rfl,by simp only [ct],hh⟩
 |x::xs,ys,us,hh=>by rw [aR,bP] at hh;obtain⟨u,vs,rfl,U,Z⟩:=hh;obtain⟨a,b,rfl,h3,h4⟩:=Z.split;exact⟨u::a,b,rfl,by rw [bP]; exact⟨u,a,rfl,U,h3⟩,h4⟩
theorem kI {ρ:Nat->Int} {i:Nat} {cs:List W}: ∀{ov:List (V×List W)},dW ρ i ov=some cs->∃p∈ov,p.2=cs/\p.1.den ρ=(i:Int)
 |[],h=>by simp [dW] at h
 |(j,c)::l,h=>by
  simp only [dW] at h;split at h
  ·rename_i hj;simp only [ah] at h;exact⟨(j,c),ad,h,hj⟩
  ·obtain⟨p,U,Z⟩:=kI h
   grind
theorem cD {ρ:Nat->Int} {r:Row} {ov:List (V×List W)} (ho:sK r ov): ∀(ds:List D) (i:Nat),(bE ρ r ov ds i).length=ds.length*r.es
 |[],i=>by simp [bE]
 |d::ds,i=>by
  simp only [bE,aT,cD ho ds (i+1),aM,am0,ann];split
  ·rename_i cs h;obtain⟨p,U,Z,_⟩:=kI h;rw [<- Z,ho p U]; omega
  grind [gQ]
theorem lK {ρ:Nat->Int} {r:Row} {ov:List (V×List W)}: ∀(xs ys:List D) (i:Nat),bE ρ r ov (xs++ys) i=bE ρ r ov xs i++bE ρ r ov ys (i+xs.length)
 |[],ys,i=>by simp [bE]
 |d::ds,ys,i=>by
  simp only [aR,bE,lK ds ys (i+1),am8,aM]
  grind
section
variable {P:Program} {E:En} {w:World}
theorem yX [bH] {H:Hp} (r:bO E H w) {id c:Nat} {es:List (W×W×Nat)} (Y:H.get id=some (.map es c)): ∃bK c',w.heap[(E.θ id).1]?=some (.map bK c')/\eL E w.heap es bK.toList/\SM c es bK.toList c':=
 (r.live id _ Y).2.1
theorem Mb [bH] {tt:TT} (cI:eC P tt) {pc:List (SB×Bool)} (hp:bV E.ρ pc) {H:Hp} (r:bO E H w) {t:Nat} {m k v:W} {um uk:Value} {ok:Bool} (hm:VR E w.heap m um) (hk:VR E w.heap k uk) (h:EH tt pc t m k ok H=some v) :
 ∃x,(Instr.lookup t um uk ok).run P w= .ok x w/\VR E w.heap v x:=by
 unfold EH at h;split at h
 ·rename_i ti fP;split at h
  ·rename_i kt et zm;have hu:=sA (cI t ti fP) zm;split at h
   ·grind
   ·rename_i kk sZ;obtain⟨d,xM,jW⟩:=xG cI sZ;split at h
    ·grind
    ·rename_i ie kO
     have key: ∀(es:List (W×W×Nat)) (bK:Array MapEntry),eL E w.heap es bK.toList->
      (match BW pc kk k es 0 with
       |none=>none
       |some (some (_,v))=>some (if ok then .tuple [v,.bool (.lit true)] else v)
       |some none=>match zeroOf ie with
        |none=>none
        |some z=>some (if ok then .tuple [z,.bool (.lit false)] else z))=some v->
      ∃(o:Option (Nat×Value)) (x:Value),(Instr.findKey kt uk bK.toList).run P w= .ok o w/\
       (match o with
        |some (_,y)=>x=(if ok then .tuple #[y,.bool true] else y)
        |none=> ∃z,(zeroValue et).run P w= .ok z w/\x=(if ok then .tuple #[z,.bool false] else z))/\VR E w.heap v x:=by
      intro es bK he hh;split at hh
      ·simp at hh
      ·rename_i j v' hf;simp at hh;subst hh;rcases pK hp jW hk he hf with ⟨q1,_⟩|⟨jj,v2,e,q1,q2,q3,q4,q5⟩
       ·simp at q1
       ·simp only [ah,ak] at q1;obtain⟨rfl,rfl⟩:=q1;refine⟨_,_,fE xM q4,rfl,?_⟩;cases ok
        ·exact q3
        ·simp only [if_true,VR,ct];exact⟨[e.val,.bool true],rfl,_,_,rfl,q3,_,_,rfl,by simp [SB.den],rfl⟩
      ·rename_i hf;split at hh
       ·simp at hh
       ·rename_i z hz;simp at hh;subst hh;obtain⟨u,e1,e2⟩:=Ao (P:=P) (w:=w) (E:=E) (cI et ie kO) hz;rcases pK hp jW hk he hf with ⟨_,q2⟩|⟨jj,v2,e,q1,_⟩
        ·refine⟨none,_,fE xM q2,⟨u,e1,rfl⟩,?_⟩;cases ok
         ·exact e2
         ·simp only [if_true,VR,ct];exact⟨[u,.bool false],rfl,_,_,rfl,e2,_,_,rfl,by simp [SB.den],rfl⟩
        ·simp at q1
     split at h
     ·grind
     ·rename_i es lr;unfold IQ at lr;split at lr
      ·simp at lr;subst lr;simp only [VR] at hm;subst hm;obtain⟨o,x,e1,e2,e3⟩:=key [] #[] (by simp [eL]) h;refine⟨x,?_,e3⟩
       cases o with
       |none=> obtain⟨z,e4,rfl⟩:=e2;cases ok<;>simp [Instr.lookup,run_underlying hu,eK xM jW,e1,e4]
       |some p=> obtain⟨j,y⟩:=p;simp only at e2;subst e2;cases ok<;>simp [Instr.lookup,run_underlying hu,eK xM jW,e1]
      ·rename_i id;split at lr
       ·rename_i es' c Y;simp at lr;subst lr;simp only [VR] at hm;obtain⟨rfl,hid⟩:=hm;obtain⟨bK,c',g1,g2,gS⟩:=yX r Y;have hg:=eJ (P:=P) g1 ad;obtain⟨o,x,e1,e2,e3⟩:=key es' bK g2 h;refine⟨x,?_,e3⟩
        cases o with
        |none=> obtain⟨z,e4,rfl⟩:=e2;cases ok<;>simp [Instr.lookup,run_underlying hu,hg,eK xM jW,e1,e4]
        |some p=> obtain⟨j,y⟩:=p;simp only at e2;subst e2;cases ok<;>simp [Instr.lookup,run_underlying hu,hg,eK xM jW,e1]
       grind
      grind
  grind
 grind
theorem xA {α:Type} (bK:Array α) (i:Nat) (e:α) (f:α->α) (h:bK.toList[i]?=some e):(bK.modify i f).toList=bK.toList.set i (f e):=by
 apply anV;intro j
 grind
theorem vk [bH] {tt:TT} (cI:eC P tt) {pc:List (SB×Bool)} (hp:bV E.ρ pc) {H H':Hp} (r:bO E H w) {t:Nat} {m k v:W} {um uk uv:Value} (hm:VR E w.heap m um) (hk:VR E w.heap k uk) (hv:VR E w.heap v uv) (h:qJ tt pc t m k v H=some H') :
 ∃w',(Instr.mapUpdate t um uk uv).run P w= .ok () w'/\eU E H w E H' w'/\bO E H' w':=by
 unfold qJ at h;split at h
 ·rename_i ti fP;split at h
  ·rename_i kt et zm;have hu:=sA (cI t ti fP) zm;split at h
   ·grind
   ·rename_i kk sZ;obtain⟨d,xM,jW⟩:=xG cI sZ;split at h
    ·rename_i id;split at h
     ·rename_i es c Y;simp only [VR] at hm;obtain⟨rfl,hid⟩:=hm;obtain⟨bK,c',g1,g2,gS⟩:=yX r Y;have hg:=eJ (P:=P) g1 ad;split at h
      ·grind
      ·rename_i i v' hf;simp at h;subst h;rcases pK hp jW hk g2 hf with ⟨q1,_⟩|⟨jj,v2,e,q1,q2,q3,q4,q5⟩
       ·grind
       ·simp only [ah,ak,aA] at q1;obtain⟨rfl,rfl⟩:=q1;simp only [aA] at q4
        have hkt:(Instr.keyThatStays (((bK[i]?).map (·.key)).getD uk) uk).run P w= .ok uk w:=by rw [bw] at q2;simp only [q2,br,aC,Instr.keyThatStays];simp_all
        refine⟨_,?_,fD r Y (.map (mw k v es i) c) (.map (bK.modify i fun e=>{ e with key:=uk,val:=uv }) c') ?_⟩
        ·simp [Instr.mapUpdate,run_underlying hu,hg,eK xM jW,fE xM q4,hkt,gy (P:=P) g1]
        ·intro h' hh kp;simp only [OR];refine⟨_,_,hh,?_,gS.set (f:=fun e=>{ e with key:=uk,val:=uv }) fun _=>rfl⟩
         grind [xA,eL.set,VR.keep,eL.keep]
      ·rename_i hf;simp at h;subst h;rcases pK hp jW hk g2 hf with ⟨_,q2⟩|⟨jj,v2,e,q1,_⟩
       ·cases c with
        |zero=>
         refine⟨_,?_,fD r Y (.map (es++ [(k,v,0)]) 0) (.map (bK.push { key:=uk,val:=uv,born:=c' }) (c'+1)) ?_⟩
         ·simp [Instr.mapUpdate,run_underlying hu,hg,eK xM jW,fE xM q2,gy (P:=P) g1]
         ·intro h' hh kp;simp only [OR];refine⟨_,_,hh,?_,trivial⟩
          grind [eL.push,VR.keep,eL.keep]
        |succ c=>
         refine⟨_,?_,fD r Y (.map (es++ [(k,v,c)]) (c+2)) (.map (bK.push { key:=uk,val:=uv,born:=c' }) (c'+1)) ?_⟩
         ·simp [Instr.mapUpdate,run_underlying hu,hg,eK xM jW,fE xM q2,gy (P:=P) g1]
         ·intro h' hh kp;simp only [OR];refine⟨_,_,hh,?_,by rw [gS.1],?_⟩
          ·grind [eL.push,VR.keep,eL.keep]
          ·simp [gS.2,gS.1]
       grind
     grind
    grind
  grind
 grind
theorem Mc [bH] {tt:TT} (cI:eC P tt) {pc:List (SB×Bool)} (hp:bV E.ρ pc) {H H':Hp} (r:bO E H w) {t:Nat} {ts:Nat} {m k:W} {um uk:Value} (hm:VR E w.heap m um) (hk:VR E w.heap k uk) (h:EK tt pc t m k H=some H') (ty:Nat) :
 ∃w',(Builtin.delete_ #[t,ts] ty #[um,uk]).run P w= .ok (.tuple #[]) w'/\eU E H w E H' w'/\bO E H' w':=by
 unfold EK at h;split at h
 ·rename_i ti fP;split at h
  ·rename_i kt et zm;have hu:=sA (cI t ti fP) zm;split at h
   ·grind
   ·rename_i kk sZ;obtain⟨d,xM,jW⟩:=xG cI sZ;split at h
    ·simp at h;subst h;simp only [VR] at hm;subst hm;exact⟨w,by simp [Builtin.delete_,run_underlying hu,eK xM jW],eU.refl _ _ _,r⟩
    ·rename_i id;split at h
     ·rename_i es c Y;simp only [VR] at hm;obtain⟨rfl,hid⟩:=hm;obtain⟨bK,c',g1,g2,gS⟩:=yX r Y;have hg:=eJ (P:=P) g1 ad;split at h
      ·grind
      ·rename_i i v' hf;simp at h;subst h;rcases pK hp jW hk g2 hf with ⟨q1,_⟩|⟨jj,v2,e,q1,q2,q3,q4,q5⟩
       ·grind
       ·simp only [ah,ak,aA] at q1;obtain⟨rfl,rfl⟩:=q1;simp only [aA] at q4;refine⟨_,?_,fD r Y (.map (jB es i) c) (.map (bK.eraseIdxIfInBounds i) c') ?_⟩
        ·simp [Builtin.delete_,run_underlying hu,hg,eK xM jW,fE xM q4,gy (P:=P) g1]
        ·intro h' hh kp;simp only [OR];refine⟨_,_,hh,?_⟩;have gS2:=gS.erase (i:=i);have dX:i<bK.size:=by have:=(aX.1 q2).1; simpa using this
         have:(bK.eraseIdxIfInBounds i).toList=bK.toList.eraseIdx i:=by simp_all
         rw [this];exact⟨eL.erase (eL.keep kp _ _ g2),gS2⟩
      ·rename_i hf;simp at h;subst h;rcases pK hp jW hk g2 hf with ⟨_,q2⟩|⟨jj,v2,e,q1,_⟩
       ·refine⟨_,?_,fD r Y (.map es c) (.map bK c') ?_⟩
        ·simp [Builtin.delete_,run_underlying hu,hg,eK xM jW,fE xM q2,gy (P:=P) g1]
        ·intro h' hh kp;simp only [OR];exact⟨_,_,hh,eL.keep kp _ _ g2,gS⟩
       grind
     grind
    grind
  grind
 grind
theorem Y0 [bH] {tt:TT} (cI:eC P tt) {H:Hp} (r:bO E H w) {t ty:Nat} {x v:W} {u:Value} (hx:VR E w.heap x u) (h:Y1 tt t x H=some v) :
 ∃y,(Builtin.len_ #[t] ty #[u]).run P w= .ok y w/\VR E w.heap v y:=by
 unfold Y1 at h;simp only at h;split at h
 ·rename_i ti fP;have uW:=cI t ti fP;split at h
  ·rename_i hk;split at h
   ·rename_i s;simp at h;subst h;simp only [VR] at hx;obtain⟨rfl,_⟩:=hx;exact⟨_,by simp [Builtin.len_,run_underlying (fK uW hk)]; rfl,by simp [VR,V.den,goInt,kG]⟩
   ·simp at h; subst h; simp only [VR] at hx;obtain⟨s,rfl,hs⟩:=hx.string;exact⟨_,by simp [Builtin.len_,run_underlying (fK uW hk)]; rfl,by simp only [VR,cm,hs,h!]; rfl⟩
   grind
  ·rename_i e hk;have hu:=fg uW hk;split at h
   ·simp at h; subst h; simp only [VR] at hx; subst hx;exact⟨_,by simp [Builtin.len_,run_underlying hu]; rfl,by simp [VR,V.den,goInt]⟩
   ·simp at h; subst h; simp only [VR] at hx; obtain⟨x,rfl⟩:=hx;exact⟨_,by simp [Builtin.len_,run_underlying hu]; rfl,by simp [VR,V.den,goInt]⟩
   ·simp at h; subst h; simp only [VR] at hx; obtain⟨⟨x,rfl⟩,_⟩:=hx;exact⟨_,by simp [Builtin.len_,run_underlying hu]; rfl,by simp [VR,V.den,goInt]⟩
   ·simp at h; subst h; simp only [VR] at hx; obtain⟨_,a,cap,rfl,_⟩:=hx;exact⟨_,by simp [Builtin.len_,run_underlying hu]; rfl,by simp [VR,V.den,goInt]⟩
   ·simp at h; subst h; simp only [VR] at hx; obtain⟨b,o,cap,us,rfl,_⟩:=hx;exact⟨_,by simp [Builtin.len_,run_underlying hu]; rfl,by simp [VR,V.den,goInt]⟩
   ·simp at h; subst h; simp only [VR] at hx; obtain⟨x,cap,rfl,_⟩:=hx.slice;exact⟨_,by simp [Builtin.len_,run_underlying hu]; rfl,by simp [VR,cm,goInt]⟩
   ·simp at h; subst h; simp only [VR] at hx; obtain⟨_,k,a,cap,h0,rfl,_⟩:=hx;exact⟨_,by simp [Builtin.len_,run_underlying hu]; rfl,by simp [VR,h0,goInt]⟩
   ·simp at h; subst h; simp only [VR] at hx; obtain⟨_,l,k,a,cap,_,h0,rfl,_⟩:=hx;exact⟨_,by simp [Builtin.len_,run_underlying hu]; rfl,by simp [VR,h0,goInt]⟩
   ·simp at h; subst h; simp only [VR] at hx;rcases hx with ⟨⟨x,cap,rfl⟩,h0⟩|⟨b,o,n,cap,rfl,_,h0,_⟩
    ·exact⟨_,by simp [Builtin.len_,run_underlying hu]; rfl,by simp [VR,V.den,goInt,h0]⟩
    ·exact⟨_,by simp [Builtin.len_,run_underlying hu]; rfl,by simp [VR,V.den,goInt,h0]⟩
   grind
  ·rename_i k e hk;have hu:=rB uW hk;simp at h;subst h;exact⟨_,by simp [Builtin.len_,run_underlying hu]; rfl,by simp [VR,V.den,goInt]⟩
  ·rename_i kt et hk;have hu:=sA uW hk;split at h
   ·simp at h; subst h; simp only [VR] at hx; subst hx;exact⟨_,by simp [Builtin.len_,run_underlying hu]; rfl,by simp [VR,V.den,goInt]⟩
   ·rename_i id;split at h
    ·rename_i es c Y;simp at h;subst h;simp only [VR] at hx;obtain⟨rfl,hid⟩:=hx;obtain⟨bK,c',g1,g2,gS⟩:=yX r Y;have hg:=eJ (P:=P) g1 ad;have hlen:=g2.length;simp only [bo] at hlen;exact⟨_,by simp [Builtin.len_,run_underlying hu,hg]; rfl,by simp [VR,V.den,goInt,hlen]⟩
    ·rename_i e t' Y;simp at h;subst h;simp only [VR] at hx;obtain⟨rfl,hid⟩:=hx;obtain⟨_,ho,_⟩:=r.live _ _ Y;simp only [OR] at ho;obtain⟨bK,c',g1,g2⟩:=ho;have hg:=eJ (P:=P) g1 ad;have hlen:=g2.length;simp only [bo] at hlen;exact⟨_,by simp [Builtin.len_,run_underlying hu,hg]; rfl,by simp [VR,cm,goInt,hlen]⟩
    ·rename_i e t' e8 ov Y;simp at h;subst h;simp only [VR] at hx;obtain⟨rfl,hid⟩:=hx;obtain⟨_,ho,_⟩:=r.live _ _ Y;simp only [OR] at ho;obtain⟨_,bK,c',g1,g2⟩:=ho;have hg:=eJ (P:=P) g1 ad;have hlen:=g2.length;simp only [bo] at hlen;exact⟨_,by simp [Builtin.len_,run_underlying hu,hg]; rfl,by simp [VR,cm,goInt,hlen]⟩
    grind
   grind
  grind
 grind
end
section
variable {P:Program} {E:En} {w:World}
structure Src (P:Program) (E:En) (w:World) (s m:Nat) (news:List W) (u:Value) (us:Array Value):Prop where
 len: ∀w2,(Builtin.lenOf u).run P w2= .ok m w2
 first: ∀w2:World,w2.heap=w.heap->(Builtin.firstCells s m u).run P w2= .ok us w2
 U1:ct E w.heap news us.toList
 size:us.size=m*s
 rN: ∀x∈us.toList,x.oneCell'=true
theorem fS.QT {b o n:Nat} {us:List Value} (hn:us.length=n) (h:fS w.heap b o us) (w2:World) (hw:w2.heap=w.heap):(loadCells ⟨b,o,none⟩ n).run P w2= .ok us.toArray w2:=
 rL hn (by rw [hw]; exact h)
theorem sG {id off len cap:Nat} {a:Addr} {c:MS} (hc:eD E id off len a cap c):a=⟨(E.θ id).1,(E.θ id).2+off,none⟩\/cap=0:=by
 cases c with
 |exact c=>
  simp only [eD] at hc
  grind
 |rest es=>
  simp only [eD] at hc
  grind
theorem uF [bH] {H:Hp} (r:bO E H w) {id o len cap s:Nat} {a:Addr} {c:MS} {l:List W} (hid:E.dm id) (hc:eD E id o len a cap c) (hlen:len<=cap) (h:mD H (.ptr id o) (len*s)=some l) :
 ∃us:List Value,us.length=len*s/\ct E w.heap l us/\(∀u∈us,u.oneCell'=true)/\∀w2:World,w2.heap=w.heap->(loadCells a (len*s)).run P w2= .ok us.toArray w2:=by
 obtain⟨b,o',us,e1,e2,e3,e4,e5⟩:=vO r (p:=.ptr id o) (u:=.pointer (some ⟨(E.θ id).1,(E.θ id).2+o,none⟩)) (by simp only [VR]; exact⟨trivial,hid⟩) h;simp only [Value.pointer.injEq,ah,Addr.mk.injEq] at e1;obtain⟨e1a,e1b,_⟩:=e1;refine⟨us,e2,e3,e5,fun w2 hw=>?_⟩;rcases sG hc with ha|ha
 ·rw [ha,e1a,e1b];exact e4.QT e2 w2 hw
 ·obtain rfl:len=0:=J
  rw [amS] at e2 ⊢;rw [amT e2];rfl
theorem qo [bH] {H:Hp} (r:bO E H w) {s m:Nat} {y:W} {u:Value} {news:List W} (hy:VR E w.heap y u) (h:rE s y H=some (m,news)): ∃us,Src P E w s m news u us:=by
 unfold rE at h;split at h
 ·simp only [ah,ak] at h;obtain⟨rfl,rfl⟩:=h;simp only [VR] at hy;subst hy;exact⟨#[],fun _=>rfl,fun w2 _=>by simp [Builtin.firstCells],by simp [ct],ad,ad⟩
 ·rename_i id o len c;rw [aQ] at h;obtain⟨l,U,Z⟩:=h;simp only [ak] at Z;obtain⟨rfl,rfl⟩:=Z;simp only [VR] at hy;obtain⟨hid,a,cap,rfl,hlen,hc⟩:=hy;obtain⟨us,e1,e2,e3,e4⟩:=uF (P:=P) r hid hc hlen U;exact⟨us.toArray,fun _=>rfl,fun w2 hw=>by simp only [Builtin.firstCells]; exact e4 w2 hw,by simpa using e2,by simpa using e1,by simpa using e3⟩
 ·rename_i cs n full;rw [aQ] at h;obtain⟨l,U,Z⟩:=h;simp only [ak] at Z;obtain⟨rfl,rfl⟩:=Z;simp only [VR] at hy;obtain⟨b,o,cap,us,rfl,hn,hf,h4,h5,h6,h7⟩:=hy;obtain⟨g1,g2⟩:=h5.iy U;have Y:=h5.length;have htl:(us.take (n*s)).length=n*s:=by rw [a8]; omega
  exact⟨(us.take (n*s)).toArray,fun _=>rfl,fun w2 hw=>by simp only [Builtin.firstCells]; exact (h6.take (n*s)).QT htl w2 hw,by simpa using g1,by simpa using htl,
   fun x hx=>h7 x (amV (by simpa using hx))⟩
 ·rename_i b;split at h
  ·rename_i hs;simp only [ah,ak] at h;obtain⟨rfl,rfl⟩:=h;simp only [VR] at hy;obtain⟨rfl,ff⟩:=hy;have gT:(dc b).size=b.length:=kG b;have hex:(dc b).extract 0 b.length=dc b:=by rw [sC]; simp
   refine⟨(dc b).data.map fun c=>Value.int .u8 (c.toNat:Int),fun w2=>by simp [Builtin.lenOf,gT],fun w2 _=>by simp [Builtin.firstCells,hex],?_,?_,?_⟩
   ·have:((dc b).data.map fun c=>Value.int .u8 (c.toNat:Int)).toList=(b.map UInt8.ofNat).map fun c=>Value.int .u8 (c.toNat:Int):=by simp [dc]
    rw [this];clear hex gT this
    induction b with
    |nil=>simp [ct]
    |cons x b ih=> have hx:=ff x ad;rw [aw,aw,aw,bP];refine⟨_,_,rfl,?_,ih fun c hc=>ff c (by simp [hc])⟩;simp [VR,V.den,anr,ang hx]
   ·simp_all
   ·intro x hx;simp only [aou,aH] at hx;obtain⟨c,_,rfl⟩:=hx;rfl
  grind
 grind
theorem kA {t t2 ty e s m n cap:Nat} {d2:TypeDesc} {inf:TypeInfo} {a:Option Addr} {u2:Value} {us:Array Value} {news:List W} {w':World} (ht:P.underlying t=some (.slice e)) (ye:P.underlying t2=some d2)
 (jW: ∀k,d2≠.int k) (hi:P.info? e=some inf) (hs:inf.size=s) (src:Src P E w s m news u2 us) (kc:n+m<=cap)
 (AT:match a with |some a=>(storeCells (a.add (n*s)) us.toList).run P w= .ok () w'|none=>w'=w) :
 (Builtin.append_ #[t,t2] ty #[.slice a n cap,u2]).run P w= .ok (.slice a (n+m) cap) w':=by
 have hf:=src.first w rfl;have Y:=src.len w
 cases a with
 |none=> simp only at AT;subst AT;simp [Builtin.append_,run_underlying ht,run_underlying ye,sizeOf,typeInfo,hi,hs,Y,kc,hf]
 |some a=> simp only at AT;simp [Builtin.append_,run_underlying ht,run_underlying ye,sizeOf,typeInfo,hi,hs,Y,kc,hf,AT]
theorem MG {t t2 ty e s m n cap:Nat} {d2:TypeDesc} {inf:TypeInfo} {z u u2:Value} {us olds:Array Value} {news:List W} (ht:P.underlying t=some (.slice e)) (ye:P.underlying t2=some d2)
 (jW: ∀k,d2≠.int k) (hi:P.info? e=some inf) (hs:inf.size=s) (hz:inf.zero=some z) (hb:inf.bytes≠0) (src:Src P E w s m news u2 us) (kc:cap<n+m) (hbound:(n+m)*inf.bytes<=140737488355328)
 (a:Option Addr) (hu:u= .slice a n cap) (hold: ∀w2:World,w2.heap=w.heap->(Builtin.firstCells s n u).run P w2= .ok olds w2) :
 (Builtin.append_ #[t,t2] ty #[u,u2]).run P w= .ok (.slice (some ⟨w.heap.size,0,none⟩) (n+m) (grownCap w (n+m) cap e))
  (w.drew.alloc (.cells (olds++us++Builtin.zeroCells z.cells (grownCap w (n+m) cap e-(n+m))) e)):=by
 subst hu;have hf:=src.first w.drew rfl;have ho:=hold w.drew rfl;have Y:=src.len w;have hn: ¬(n+m<=cap):=J
 have h48: ¬(281474976710656<Builtin.nextslicecap (n+m) cap*inf.bytes):=by
  have U:Builtin.nextslicecap (n+m) cap*inf.bytes<=2*(n+m)*inf.bytes:=ans _ (nextslicecap_le kc)
  grind
 have alU: ¬(2 ^ 48<Builtin.nextslicecap (n+m) cap*inf.bytes):=h48;simp [Builtin.append_,run_underlying ht,run_underlying ye,sizeOf,typeInfo,zeroValue,hi,hs,hz,Y,hn,hb,alU,Question.forced,ho,hf,newRow,grownCap]
theorem oV [bH] {t t2 ty:Nat} {H H':Hp} (r:bO E H w) {ie:TI} {e n m cap:Nat} {cs news old:List W} {v:W} {d2:TypeDesc} {u2:Value} {us olds:Array Value} (uX:mc P e ie)
 (ht:P.underlying t=some (.slice e)) (ye:P.underlying t2=some d2) (jW: ∀k,d2≠.int k) (rz:ie.bytes≠0) (wa:ie.zero.length=ie.size)
 (src:Src P E w ie.size m news u2 us) (kc:cap<n+m) (a:Option Addr) (U7:cs=old++news)
 (qz:ct E w.heap old olds.toList) (ho1: ∀x∈olds.toList,x.oneCell'=true) (hos:olds.size=n*ie.size)
 (hold: ∀w2:World,w2.heap=w.heap->(Builtin.firstCells ie.size n (.slice a n cap)).run P w2= .ok olds w2) (h:np ie e n m cs H=some (v,H')) :
 ∃x w' E',(Builtin.append_ #[t,t2] ty #[.slice a n cap,u2]).run P w= .ok x w'/\eU E H w E' H' w'/\bO E' H' w'/\VR E' w'.heap v x:=by
 subst U7;unfold np at h;split at h
 ·rename_i hbound;simp only [ah,ak] at h;obtain⟨rfl,rfl⟩:=h;obtain⟨inf,d,z,U,Z,h3,h4,h5,h6,h7,h8⟩:=uX.all;have hz:=eX (E:=E) (h:=w.heap) h4;have hzs:z.cells.size=ie.size:=by have:=hz.1.length; simp only [bo] at this; omega
  have Ow:=grownCap_ge w (n+m) cap e;have On:=src.size
  obtain⟨s1,s2⟩:=iM r (olds++us++Builtin.zeroCells z.cells (grownCap w (n+m) cap e-(n+m))) 0 0 e (qz.append src.U1)
   (by intro x hx; rcases amW.1 hx with hx|hx; exact ho1 x hx; exact src.rN x hx)
   (by
    intro i x hx;have hi:=(aX.1 hx).1;rw [aot (by simpa using hi)];rw [<- bw,Array.toList_append]
    exact hx)
   J (w':=w.drew.alloc (.cells (olds++us++Builtin.zeroCells z.cells (grownCap w (n+m) cap e-(n+m))) e)) rfl ⟨rfl,rfl,rfl⟩
  refine⟨_,_,_,MG (s:=ie.size) ht ye jW U h5 h3 (by rw [h6]; exact rz) src kc (by rw [h6]; exact hbound) a rfl hold,s1,s2,?_⟩;simp only [VR];refine⟨En.gB _ _ _ _,_,_,rfl,Ow,?_⟩;simp only [eD,En.ext_θ_new,En.ext_κ_new];left;refine⟨trivial,?_⟩;simp only [Array.size_append,size_zeroCells,hos,On,hzs,<- am0]
  grind
 grind
set_option maxHeartbeats 800000 in
theorem vB [bH] {t t2 ty:Nat} {H H':Hp} (r:bO E H w) {ie:TI} {e m:Nat} {news:List W} {x v:W} {d2:TypeDesc} {u u2:Value} {us:Array Value} (uX:mc P e ie)
 (ht:P.underlying t=some (.slice e)) (ye:P.underlying t2=some d2) (jW: ∀k,d2≠.int k) (w5:ie.size≠0) (rz:ie.bytes≠0) (wa:ie.zero.length=ie.size)
 (src:Src P E w ie.size m news u2 us) (hx:VR E w.heap x u) (h:pZ ie e m news x H=some (v,H')) :
 ∃y w' E',(Builtin.append_ #[t,t2] ty #[u,u2]).run P w= .ok y w'/\eU E H w E' H' w'/\bO E' H' w'/\VR E' w'.heap v y:=by
 obtain⟨inf,d,z,U,Z,h3,h4,h5,h6,h7,h8⟩:=uX.all;have jT:0<ie.size:=J
 have hnl:=src.U1.length;have ur:=src.size;simp only [bo] at hnl;unfold pZ at h;split at h
 ·
  simp only [VR] at hx;subst hx;split at h
  ·rename_i hm;subst hm;simp only [ah,ak] at h;obtain⟨rfl,rfl⟩:=h;exact⟨_,w,E,kA (s:=ie.size) ht ye jW U h5 src (au _) (by simp only),eU.refl _ _ _,r,by simp [VR]⟩
  ·rename_i hm;exact oV (cap:=0) r uX ht ye jW rz wa src J none (old:=[]) (olds:=#[]) ad (by simp [ct]) ad ad (fun w2 _=>by simp [Builtin.firstCells]) h
 ·
  rename_i id o len c;have hx0:=hx;simp only [VR] at hx;obtain⟨hid,a,cap,rfl,hlen,hc⟩:=hx;have fW:cap=c:=by simp only [eD] at hc; exact hc.1
  subst fW;split at h
  ·rename_i kc;split at h
   ·rename_i cs e' Y;split at h
    ·rename_i lE hs;simp only [ah,ak] at h;obtain⟨rfl,rfl⟩:=h;obtain⟨w',g1,g2,g3⟩:=lL (P:=P) r Y hs src.U1 src.rN
     have AT:(storeCells (a.add (len*ie.size)) us.toList).run P w= .ok () w':=by
      rcases sG hc with ha|ha
      ·rw [ha,fb,amR]; exact g1
      ·obtain rfl:m=0:=J
       have nP:us.toList= []:=amT (by rw [bo,ur,amS]);rw [nP] at g1 ⊢;exact g1
     refine⟨_,w',E,kA (s:=ie.size) ht ye jW U h5 src kc AT,g2,g3,?_⟩;simp only [VR];refine⟨hid,a,cap,rfl,kc,?_⟩;simp only [eD] at hc ⊢;exact hc
    ·simp at h
   ·simp at h
  ·rename_i kc;split at h
   ·rename_i old hold;obtain⟨ols,f1,f2,f3,f4⟩:=uF (P:=P) r hid hc hlen hold
    exact oV (cap:=cap) r uX ht ye jW rz wa src J (some a) (old:=old) (olds:=ols.toArray) rfl (by simpa using f2) (by simpa using f3) (by simpa using f1)
     (fun w2 hw=>by simp only [Builtin.firstCells]; exact f4 w2 hw) h
   ·simp at h
 ·
  rename_i id o len es;split at h
  ·rename_i lr;subst lr;simp only [VR] at hx;obtain⟨hid,a,cap,rfl,hlen,hc⟩:=hx;split at h
   ·rename_i cs e' Y;obtain⟨arr,lo,hi,cus,b1,b2,b3,b4,b5,b6,b7⟩:=(r.live id _ Y).2.1;split at h
    ·rename_i hle;split at h
     ·rename_i lE hs;simp only [ah,ak] at h;obtain⟨rfl,rfl⟩:=h;obtain⟨w',g1,g2,g3⟩:=lL (P:=P) r Y hs src.U1 src.rN
      have kc:len+m<=cap:=by
       simp only [eD] at hc;rcases hc with ⟨_,hc⟩|⟨rfl,rfl,hc⟩
       ·have:(len+m)*ie.size<=cap*ie.size:=J
        exact aov this jT
       ·have:(0+m)*ie.size=0:=J
        rcases Nat.mul_eq_zero.1 this with hh|hh<;>omega
      have AT:(storeCells (a.add (len*ie.size)) us.toList).run P w= .ok () w':=by
       rcases sG hc with ha|ha
       ·rw [ha,fb,amR]; exact g1
       ·obtain rfl:m=0:=J
        have nP:us.toList= []:=amT (by rw [bo,ur,amS]);rw [nP] at g1 ⊢;exact g1
      refine⟨_,w',E,kA (s:=ie.size) ht ye jW U h5 src kc AT,g2,g3,?_⟩;simp only [VR];refine⟨hid,a,cap,rfl,kc,?_⟩;simp only [eD] at hc ⊢;rcases hc with hc|⟨rfl,rfl,hc⟩
      ·exact .inl hc
      ·exact .inr ⟨rfl,J,hc⟩
     ·simp at h
    ·rename_i alv;split at h
     ·rename_i YF;obtain⟨YF,rfl⟩:=YF;split at h
      ·rename_i old hd;obtain⟨d1,d2',d3⟩:=b2.eF hd;have BQ:=b2.length
       have hm0:m≠0:=by intro hm;subst hm;rw [bj] at alv;omega
       by_cases kc:len+m<=cap
       ·
        have afA:a=⟨(E.θ id).1,(E.θ id).2+o,none⟩/\o+cap*ie.size=E.κ id:=by
         simp only [eD] at hc;rcases hc with hc|hc
         ·exact hc
         ·omega
        obtain⟨rfl,amJ⟩:=afA;unfold np at h;split at h
        ·simp only [ah,ak] at h;obtain⟨rfl,rfl⟩:=h;have U6:len*ie.size+m*ie.size<=cap*ie.size:=by rw [<- am0]; exact ans _ kc
         have hul:us.toList.length=m*ie.size:=by simpa using ur
         obtain⟨w',J8,e1,e2,e3,e4,e5,e6,e7⟩:=mB (P:=P) (E.θ id).1 ((E.θ id).2+(o+len*ie.size)) e' lo hi us.toList 0 arr w b1 b6 J src.rN
         have AT:(storeCells ((⟨(E.θ id).1,(E.θ id).2+o,none⟩ : Addr).add (len*ie.size)) us.toList).run P w= .ok () w':=by rw [fb,amR]; exact e1
         have kp:fy E w.heap (E.ext H.fresh ((E.θ id).1,(E.θ id).2+o) (cap*ie.size)) w'.heap:=
          ⟨rfl,fun _ hh=> .inr hh,fun _ hh=>En.ext_θ E _ _ _ (r.qQ hh),fun _ hh=>En.ext_κ E _ _ _ (r.qQ hh),fun _ hh=>hh,(kb r Y e4).Bx⟩
         have BM:=NT r Y (.cells (old++news) e') o (cap*ie.size) e3 e4 e2 (by
          simp only [OR,En.ext_θ_new,En.ext_κ_new];refine⟨J8,lo,hi,cus.drop o++us.toList,e5,ct.keep kp _ _ (d1.append src.U1),?_,?_,J,by rw [e6]; exact b6,?_⟩
          ·intro i y hy;rw [e7];have hdl:(cus.drop o).length=len*ie.size:=by rw [amU]; omega
           rw [aop] at hy;split at hy
           ·rename_i hi';rw [af J];rw [anp] at hy;rw [amR];exact b3 _ _ hy
           ·rename_i hi';have Jb:=(aX.1 hy).1;rw [ag J];rw [show (E.θ id).2+o+i-((E.θ id).2+(o+len*ie.size)+0)=i-(cus.drop o).length from by omega];exact hy
          ·rw [aT,d3]; omega
          ·intro y hy;rcases amW.1 hy with hy|hy
           ·exact b7 y (bu hy)
           ·exact src.rN y hy)
         refine⟨_,w',_,kA (s:=ie.size) ht ye jW U h5 src kc AT,BM.1,BM.2,?_⟩;simp only [VR,show (H.drop id).fresh=H.fresh from rfl];refine⟨En.gB _ _ _ _,_,_,rfl,kc,?_⟩;simp only [eD,En.ext_θ_new,En.ext_κ_new];left;exact⟨ad,J⟩
        ·simp at h
       ·
        have ajq:mD H (.ptr id o) (len*ie.size)=some old:=by
         simp only [mD,Y,hd];have:len*ie.size=old.length:=J
         rw [this];clear h hd d1 d3 this
         induction old with
         |nil=>rfl
         |cons y ys ih=>simp [As.iy,ih]
        obtain⟨ols,f1,f2,f3,f4⟩:=uF (P:=P) r hid hc hlen ajq;obtain⟨q1,q2⟩:=wv r id;have akX:Src P E w ie.size m news u2 us:=src
        obtain⟨y,w',E',p1,p2,p3,p4⟩:=oV (t:=t) (t2:=t2) (ty:=ty) (cap:=cap) q2 uX ht ye jW rz wa akX J (some a) (old:=old) (olds:=ols.toArray) rfl (by simpa using f2) (by simpa using f3) (by simpa using f1)
         (fun w2 hw=>by simp only [Builtin.firstCells]; exact f4 w2 hw) h
        exact⟨y,w',E',p1,q1.trans p2,p3,p4⟩
      ·simp at h
     ·simp at h
   ·simp at h
  ·simp at h
 ·
  rename_i cs n full;have hx0:=hx;simp only [VR] at hx;obtain⟨b,o,cap,cus,rfl,hn,hf,g4,g5,g6,g7⟩:=hx;split at h
  ·rename_i hm;subst hm;simp only [ah,ak] at h;obtain⟨rfl,rfl⟩:=h;have nP:us.toList= []:=amT (by rw [bo,ur,amS]);exact⟨_,w,E,kA (s:=ie.size) ht ye jW U h5 src J (by simp only [nP]; rfl),eU.refl _ _ _,r,hx0⟩
  ·rename_i hm;split at h
   ·rename_i Hi;have fW:=hf Hi;subst fW;split at h
    ·rename_i old hold;obtain⟨j1,j2⟩:=g5.iy hold;have BQ:=g5.length;have htl:(cus.take (cap*ie.size)).length=cap*ie.size:=by rw [a8]; omega
     exact oV (cap:=cap) r uX ht ye jW rz wa src J (some ⟨b,o,none⟩) (old:=old) (olds:=(cus.take (cap*ie.size)).toArray) rfl (by simpa using j1)
      (fun x hx=>g7 x (amV (by simpa using hx))) (by simpa using htl)
      (fun w2 hw=>by simp only [Builtin.firstCells]; exact (g6.take _).QT htl w2 hw) h
    ·simp at h
   ·simp at h
 ·simp at h
theorem Md [bH] {tt:TT} (cI:eC P tt) {H H':Hp} (r:bO E H w) {t t2 ty:Nat} {x y v:W} {u u2:Value} (hx:VR E w.heap x u) (hy:VR E w.heap y u2) (h:EL tt t t2 x y H=some (v,H')) :
 ∃z w' E',(Builtin.append_ #[t,t2] ty #[u,u2]).run P w= .ok z w'/\eU E H w E' H' w'/\bO E' H' w'/\VR E' w'.heap v z:=by
 unfold EL at h;split at h
 ·rename_i ti fP;split at h
  ·rename_i e hk;split at h
   ·rename_i ie kO;split at h
    ·grind
    ·rename_i PV Ym;obtain⟨d2,jW,CP⟩:=rS (cI t2 PV Ym);split at h
     ·grind
     ·rename_i k2 fJ;split at h
      ·grind
      ·rename_i jf;simp only [not_or,Classical.not_not] at jf;split at h
       ·grind
       ·rename_i m news On;obtain⟨us,src⟩:=qo (P:=P) r hy On;refine vB r (cI e ie kO) (fg (cI t ti fP) hk) jW ?_ jf.1 jf.2.1 jf.2.2 src hx h;intro k hd;subst hd;cases sZ:PV.kind<;>rw [sZ] at CP<;>simp only [H6] at CP
        grind
   grind
  grind
 grind
end
section
variable {P:Program} {E:En} {w:World}
theorem O0 [bH] {tt:TT} (cI:eC P tt) {H H':Hp} (r:bO E H w) {t ty:Nat} {x:W} {u:Value} (hx:VR E w.heap x u) (h:JE tt t x H=some H') :
 ∃w',(Builtin.clear_ #[t] ty #[u]).run P w= .ok (.tuple #[]) w'/\eU E H w E H' w'/\bO E H' w':=by
 unfold JE at h;split at h
 ·rename_i ti fP;split at h
  ·rename_i e hk;have hu:=fg (cI t ti fP) hk;split at h
   ·rename_i ie kO;obtain⟨inf,d,z,U,Z,h3,h4,h5,h6,h7,h8⟩:=(cI e ie kO).all;have hz:=eX (E:=E) (h:=w.heap) h4;split at h
    ·simp at h;subst h;simp only [VR] at hx;subst hx;exact⟨w,by simp [Builtin.clear_,run_underlying hu],eU.refl _ _ _,r⟩
    ·simp at h;subst h;simp only [VR] at hx;obtain⟨⟨x,rfl⟩,_⟩:=hx;exact⟨w,by cases x<;>simp [Builtin.clear_,run_underlying hu],eU.refl _ _ _,r⟩
    ·rename_i id o len c;simp only [VR] at hx;obtain⟨hid,a,cap,rfl,hlen,hc⟩:=hx;split at h
     ·simp at h;subst h;exact⟨w,by simp [Builtin.clear_,run_underlying hu],eU.refl _ _ _,r⟩
     ·rename_i hl0;split at h
      ·grind
      ·rename_i fJ;split at h
       ·rename_i cs e' Y;split at h
        ·rename_i lE hs;simp at h;subst h
         have ha:a=⟨(E.θ id).1,(E.θ id).2+o,none⟩:=by
          grind [sG]
         have afn:z.cells.toList≠[]:=by
          intro hx;have:=hz.1.length
          grind
         have hzc:(Builtin.zeroCells z.cells len).toList=dQ z.cells.toList len:=uw z.cells afn len;obtain⟨w',g1,g2,g3⟩:=lL (P:=P) r Y hs (lV hz.1 len) (fun u hu=>hz.2 u (lU hu));refine⟨w',?_,g2,g3⟩;subst ha;obtain⟨l,rfl⟩ : ∃l,len=l+1:=⟨len-1,by have:len≠0:=fun hh=>hl0 hh; omega⟩;simp [Builtin.clear_,run_underlying hu,zeroValue,typeInfo,U,h3,hzc,g1]
        grind
       grind
    grind
   grind
  grind
 grind
theorem OL [bH] {tt:TT} (cI:eC P tt) {H H':Hp} (r:bO E H w) {t:Nat} {x v:W} {u:Value} (hx:VR E w.heap x u) (h:Ju tt t x H=some (v,H')) :
 ∃y w' E',(Instr.range t u).run P w= .ok y w'/\eU E H w E' H' w'/\bO E' H' w'/\VR E' w'.heap v y:=by
 unfold Ju at h;split at h
 ·rename_i ti fP;split at h
  ·rename_i hk;split at h
   ·rename_i b;simp only [ah,ak] at h;obtain⟨rfl,rfl⟩:=h;simp only [VR] at hx;obtain⟨rfl,ff⟩:=hx
    obtain⟨s1,s2⟩:=pr r (.stringIter (dc b) 0) (.j4 b 0) 0 (w':=w.iter (dc b) 0) rfl ⟨rfl,rfl,rfl⟩ (by
     simp only [OR,En.ext_θ_new]
     exact⟨World.iter_heap _ _ _,trivial,ff⟩)
    exact⟨_,_,_,run_range_string w t (dc b) (fK (cI t ti fP) hk),s1,s2,yK r 0 _ 0⟩
   grind
  ·rename_i kt et hk;have hu:=sA (cI t ti fP) hk;split at h
   ·simp only [ah,ak] at h;obtain⟨rfl,rfl⟩:=h;simp only [VR] at hx;subst hx
    obtain⟨s1,s2⟩:=pr r (.mapIter none 0 #[] 0) (.jt none 0 [] 0) 0 (w':={ w with heap:=w.heap.push (.mapIter none 0 #[] 0) }) rfl ⟨rfl,rfl,rfl⟩ (by
     simp only [OR,En.ext_θ_new]
     exact⟨ad,trivial⟩)
    exact⟨.pointer (some ⟨w.heap.size,0,none⟩),_,_,by simp [Instr.range,run_underlying hu],s1,s2,yK r 0 _ 0⟩
   ·rename_i id;split at h
    ·rename_i es c Y;simp only [ah,ak] at h;obtain⟨rfl,rfl⟩:=h;simp only [VR] at hx;obtain⟨rfl,hid⟩:=hx;obtain⟨bK,c',g1,g2,gS⟩:=(r.live id _ Y).2.1;have hg:=eJ (P:=P) g1 ad;have hc:=gS.1;subst hc
     obtain⟨s1,s2⟩:=pr r (.mapIter (some (E.θ id).1) c' #[] c') (.jt (some id) c' [] c') 0 (w':={ w with heap:=w.heap.push (.mapIter (some (E.θ id).1) c' #[] c') }) rfl ⟨rfl,rfl,rfl⟩ (by
      simp only [OR,En.ext_θ_new];rw [En.ext_θ _ _ _ _ (r.qQ hid)]
      exact⟨ad,trivial,.inr hid⟩)
     exact⟨.pointer (some ⟨w.heap.size,0,none⟩),_,_,by simp [Instr.range,run_underlying hu,hg],s1,s2,yK r 0 _ 0⟩
    ·simp at h
   ·simp at h
  grind
 grind
theorem Uy [bH] {H H':Hp} (r:bO E H w) {x v:W} {u:Value} {isS:Bool} (hx:VR E w.heap x u) (h:ON x isS H=some (v,H')) (ty:Nat) :
 ∃y w',(Instr.next u isS ty).run P w= .ok y w'/\eU E H w E H' w'/\bO E H' w'/\VR E w'.heap v y:=by
 unfold ON at h;split at h
 ·have over:VR E w.heap (.tuple [.bool (.lit false)]) (.tuple #[.bool false]):=by
   simp only [VR,ct]; exact⟨[.bool false],rfl,_,_,rfl,by simp [SB.den],rfl⟩
  split at h
  ·rename_i id;simp only [VR] at hx;obtain⟨rfl,hid⟩:=hx;split at h
   ·rename_i s l z Y;simp only [ah,ak] at h;obtain⟨rfl,rfl⟩:=h;obtain⟨g1,g2⟩:=(r.live id _ Y).2.1;rw [g2];have hg:=eJ (P:=P) g1 ad;exact⟨_,w,by simp only [Instr.next,Sem.run_bind,hg,Result.andThen_ok,bj]; rfl,eU.refl _ _ _,r,over⟩
   ·rename_i m s l z Y;obtain⟨g1,g2,g3⟩:=(r.live id _ Y).2.1;rw [g2];have hg:=eJ (P:=P) g1 ad;split at h
    ·rename_i cc hm;simp only [ah,ak] at h;obtain⟨rfl,rfl⟩:=h;obtain⟨bK,c',m1,m2,m3⟩:=(r.live m _ hm).2.1;simp only [eL] at m2;have LK:bK= #[]:=by simpa using m2
     subst LK;have hgm:=eJ (P:=P) m1 ad;refine⟨_,w,?_,eU.refl _ _ _,r,over⟩;simp only [Instr.next,Sem.run_bind,hg,hgm,Result.andThen_ok,bj];have hf: ∀p:MapEntry->Bool,Array.filter p #[] 0 0= #[]:=fun _=>rfl;simp [choose,Sem.run,Question.forced,Result.andThen,hf]
    ·rename_i k v n c hm;obtain⟨bK,c',m1,m2,m3⟩:=(r.live m _ hm).2.1;simp only [eL] at m2;obtain⟨e,r0,he,hek,hev,_,rfl⟩:=m2;have LK:bK= #[e]:=by apply aon.1; simpa using he
     subst LK;have hgm:=eJ (P:=P) m1 ad;obtain⟨hc,hb⟩:=m3;simp at hb;subst hc;subst hb;split at h
     ·split at h
      ·rename_i ff;simp only [ah,ak] at h;obtain⟨rfl,rfl⟩:=h
       obtain⟨s1,s2⟩:=fD r Y (.jt (some m) s [e.born] c') (.mapIter (some (E.θ m).1) s #[e.born] c') (by
        intro h' hh _
        exact⟨hh,g2,g3⟩)
       refine⟨.tuple #[.bool true,e.key,e.val],_,?_,s1,s2,?_⟩
       ·simp only [Instr.next,Sem.run_bind,hg,hgm,Result.andThen_ok,bj];have h0: ¬s<=e.born:=J
        simp [choose,Sem.run,Question.forced,Result.andThen,ff,h0,g1,setObj,Sem.run_bind]
       ·have kp:fy E w.heap E (w.heap.setIfInBounds (E.θ id).1 (.mapIter (some (E.θ m).1) s #[e.born] c')):=
         kb (w':={ w with heap:=w.heap.setIfInBounds (E.θ id).1 (.mapIter (some (E.θ m).1) s #[e.born] c') }) r Y fun b hb=>by
          show (w.heap.setIfInBounds (E.θ id).1 _)[b]?=_
          grind
        simp only [VR,ct];exact⟨_,rfl,_,_,rfl,by simp [SB.den],_,_,rfl,VR.keep kp _ _ hek,_,_,rfl,VR.keep kp _ _ hev,rfl⟩
      ·simp at h
     ·rename_i y;split at h
      ·rename_i hy;obtain⟨rfl,ff⟩:=hy;simp only [ah,ak] at h;obtain⟨rfl,rfl⟩:=h;refine⟨_,w,?_,eU.refl _ _ _,r,over⟩;simp only [Instr.next,Sem.run_bind,hg,hgm,Result.andThen_ok,bj];have h0: ¬z<=e.born:=J
       simp [choose,Sem.run,Question.forced,Result.andThen,h0]
      ·simp at h
     ·simp at h
    ·simp at h
   ·simp at h
  ·simp at h
 ·split at h
  ·rename_i id;split at h
   ·rename_i b p Y;obtain⟨g1,g2,g3⟩:=(r.live id _ Y).2.1;simp only [VR] at hx;obtain⟨rfl,hid⟩:=hx;rw [g2];have hg:=eJ (P:=P) g1 ad;split at h
    ·rename_i hn;simp only [ah,ak] at h;obtain⟨rfl,rfl⟩:=h;rw [de,anX] at hn;have hp: ¬p<(dc b).size:=by rw [kG]; omega
     refine⟨.tuple #[.bool false],w,?_,eU.refl _ _ _,r,?_⟩
     ·simp [Instr.next,hg,hp]
     ·simp only [VR,ct]; exact⟨[.bool false],rfl,_,_,rfl,by simp [SB.den],rfl⟩
    ·rename_i c hn;split at h
     ·rename_i hc;simp only [ah,ak] at h;obtain⟨rfl,rfl⟩:=h;rw [de] at hn;have hpl:=(aX.1 hn).1;have hp:p<(dc b).size:=by rw [kG]; exact hpl
      have hb:(dc b)[p]'hp=UInt8.ofNat c:=by
       have U:(dc b)[p]?=some ((dc b)[p]'hp):=getElem?_pos (dc b) p hp
       grind [Dt]
      have hbn:((dc b)[p]'hp).toNat=c:=by rw [hb]; simp; omega
      have alO:=decode_ascii (dc b) p hp (by rw [hbn]; exact hc)
      obtain⟨s1,s2⟩:=fD r Y (.j4 b (p+1)) (.stringIter (dc b) (p+1)) (by
       intro h' hh _
       exact⟨hh,g2,g3⟩)
      refine⟨.tuple #[.bool true,goInt p,.int .i32 ((dc b)[p]'hp).toNat],_,?_,s1,s2,?_⟩
      ·simp only [Instr.next,Sem.run_bind,hg,Result.andThen_ok,hp,if_true,alO,gy (P:=P) g1 ad,Sem.run_pure]
      ·simp only [VR,ct,hbn];exact⟨_,rfl,_,_,rfl,by simp [SB.den],_,_,rfl,by simp [V.den,goInt],_,_,rfl,by simp [V.den],rfl⟩
     grind
   grind
  grind
theorem OW [bH] {H:Hp} (r:bO E H w) {x v:W} {u:Value} (hx:VR E w.heap x u) (h:JB x H=some v) :
 ∃y,(Instr.entry u).run P w= .ok y w/\VR E w.heap v y:=by
 unfold JB at h;split at h
 ·rename_i id;simp only [VR] at hx;obtain⟨rfl,hid⟩:=hx;split at h
  ·rename_i m s y z Y;obtain⟨g1,g2,g3⟩:=(r.live id _ Y).2.1;rw [g2];have hg:=eJ (P:=P) g1 ad;split at h
   ·rename_i k v n c hm;obtain⟨bK,c',m1,m2,m3⟩:=(r.live m _ hm).2.1;simp only [eL] at m2;obtain⟨e,r0,he,hek,hev,_,rfl⟩:=m2;have LK:bK= #[e]:=by apply aon.1; simpa using he
    subst LK;have hgm:=eJ (P:=P) m1 ad;obtain⟨hc,hb⟩:=m3;simp at hb;split at h
    ·rename_i hy;obtain⟨rfl,rfl⟩:=hy;simp only [ah] at h;subst h hc hb;refine⟨.tuple #[e.key,e.val],?_,?_⟩
     ·simp only [Instr.entry,Sem.run_bind,hg,hgm,Result.andThen_ok,bj];simp [hgm]
     ·simp only [VR,ct];exact⟨_,rfl,_,_,rfl,hek,_,_,rfl,hev,rfl⟩
    ·simp at h
   ·simp at h
  ·simp at h
 ·simp at h
theorem IG {ρ:Nat->Int} {pc:List (SB×Bool)} (hp:bV ρ pc) {c:SB} {b:Bool} (h:c.den ρ=b):bV ρ ((c,b)::pc):=by
 intro d x hm;rcases ax.1 hm with hm|hm
 ·grind
 ·exact hp d x hm
theorem cC {α:Type} {ρ:Nat->Int} {s:St} (hp:bV ρ s.pc) {c:SB} {f:St->Bool->T α} {r:α} (h:(jo s c f).leaf ρ=some r) :
 ∃ec,bV ρ ec/\(f { s with pc:=ec } (c.den ρ)).leaf ρ=some r:=by
 unfold jo at h;split at h
 ·rename_i b hb;exact⟨s.pc,hp,by rw [gD hp hb]; exact h⟩
 ·split at h
  ·rename_i d;simp only [T.leaf] at h;split at h
   ·rename_i hc;exact⟨_,IG hp hc,by simp only [SB.den,hc]; exact h⟩
   ·rename_i hc;exact⟨_,IG hp hc,by simp only [SB.den,hc]; exact h⟩
  ·simp only [T.leaf] at h
   grind [IG]
theorem T.fh {α β:Type} {ρ:Nat->Int} {f:α->T β} {r:β}: ∀{x:T α},(x.bind f).leaf ρ=some r->∃a,x.leaf ρ=some a/\(f a).leaf ρ=some r
 | .fail,h=>by simp [T.bind,T.leaf] at h
 | .ret a,h=> ⟨a,rfl,h⟩
 | .split c x y,h=>by simp only [T.bind,T.leaf] at h ⊢;split at h<;>exact T.fh h
theorem nq {mx:Bool}: ∀{xs:List W} {a:V} {k:IntKind} {s s':St} {us:List Value} {v:W},bV E.ρ s.pc->ct E w.heap xs us->(tf mx xs a k s).leaf E.ρ=some (v,s')->
 s'.h=s.h/\s'.bF=s.bF/\bV E.ρ s'.pc/\∃u,(us.foldlM (if mx then Builtin.max2 else Builtin.min2) (.int k (a.den E.ρ))).run P w= .ok u w/\VR E w.heap v u
 |[],a,k,s,s',us,v,hp,hv,h=>by simp only [tf,T.leaf,ah,ak] at h;obtain⟨rfl,rfl⟩:=h;rw [fQ] at hv;subst hv;exact⟨rfl,rfl,hp,_,rfl,by simp only [VR]⟩
 |x::xs,a,k,s,s',us,v,hp,hv,h=>by
  rw [bP] at hv;obtain⟨u,vs,rfl,hx,mP⟩:=hv;cases x<;>simp only [tf,T.leaf,reduceCtorEq] at h;rename_i k' b;simp only [VR] at hx;subst hx;obtain⟨ec,fB,U⟩:=cC hp h;cases mx
  ·simp only [aP,if_false,dR] at U ⊢;by_cases hc:b.den E.ρ<a.den E.ρ
   ·simp only [hc,decide_true,if_true] at U;obtain⟨q1,q2,q3,u,q4,q5⟩:=nq fB mP U;refine⟨q1,q2,q3,u,?_,q5⟩;simp only [aoa,Sem.run_bind,Builtin.min2,Sem.run_pure,Result.andThen_ok,hc,if_true]
    grind
   ·simp only [hc,decide_false,aP,if_false] at U;obtain⟨q1,q2,q3,u,q4,q5⟩:=nq fB mP U;refine⟨q1,q2,q3,u,?_,q5⟩;simp only [aoa,Sem.run_bind,Builtin.min2,Sem.run_pure,Result.andThen_ok,hc,if_false]
    grind
  ·simp only [if_true,dR] at U ⊢;by_cases hc:a.den E.ρ<b.den E.ρ
   ·simp only [hc,decide_true,if_true] at U;obtain⟨q1,q2,q3,u,q4,q5⟩:=nq fB mP U;refine⟨q1,q2,q3,u,?_,q5⟩;simp only [aoa,Sem.run_bind,Builtin.max2,Sem.run_pure,Result.andThen_ok,gt_iff_lt,hc,if_true]
    grind
   ·simp only [hc,decide_false,aP,if_false] at U;obtain⟨q1,q2,q3,u,q4,q5⟩:=nq fB mP U;refine⟨q1,q2,q3,u,?_,q5⟩;simp only [aoa,Sem.run_bind,Builtin.max2,Sem.run_pure,Result.andThen_ok,gt_iff_lt,hc,if_false]
    grind
end
section
variable {P:Program} {E:En} {w:World}
theorem Ts (ρ:Nat->Int) (a b:SB):(Xj a b).den ρ=(a.den ρ&&b.den ρ):=by unfold Xj;split<;>simp [SB.den]
theorem UE {i:TI} {t:Nat} (fP:mc P t i) {x y:W} {u v:Value} (hx:VR E w.heap x u) (hy:VR E w.heap y v) {c:SB} (h:O4 i.kind x y=some c) (d:Nat) :
 (Op.equalIn (d+1) t u v).run P w= .ok (c.den E.ρ) w/\u.oneCell'=true/\v.oneCell'=true/\i.agg=false:=by
 unfold O4 at h;split at h
 ·rename_i k hk;split at h
  ·split at h
   ·rename_i sZ;subst sZ;simp at h;subst h;simp only [VR] at hx hy;subst hx hy;exact⟨by rw [run_equalIn_int w d t _ _ _ _ (oI fP hk),gG],rfl,rfl,by simp [TI.agg,TK.agg,hk]⟩
   grind
  grind
 ·rename_i hk;split at h
  ·simp at h;subst h;simp only [VR] at hx hy;obtain⟨rfl,hx⟩:=hx;obtain⟨rfl,hy⟩:=hy;exact⟨by rw [run_equalIn_string w d t _ _ (fK fP hk),P8 hx hy]; rfl,rfl,rfl,by simp [TI.agg,TK.agg,hk]⟩
  ·obtain⟨a,b,rfl,rfl,hd⟩:=Ds hx hy h;exact⟨by rw [run_equalIn_string w d t _ _ (fK fP hk),xm,hd],rfl,rfl,by simp [TI.agg,TK.agg,hk]⟩
 ·rename_i hk;split at h
  ·simp only [VR] at hx hy;subst hx hy;exact⟨by rw [run_equalIn_bool' w d t _ _ (Kz fP hk),B0 h],rfl,rfl,by simp [TI.agg,TK.agg,hk]⟩
  grind
 grind
theorem R3 {tt:TT} (cI:eC P tt) {xs ys:List W} {us vs:List Value} (hx:ct E w.heap xs us) (hy:ct E w.heap ys vs) (d:Nat): ∀{lP:List Field} {l:List (Nat×Nat×Nat)} {c:SB},
 (lP.mapM fun f=>(P.info? f.type).map fun i=>(f.offset,f.type,i.size))=some l->(∀f∈lP,f.name≠ "_")->Y4 tt xs ys l=some c->
 (Op.eqFields (d+1) us.toArray vs.toArray lP).run P w= .ok (c.den E.ρ) w
 |[],l,c,hm,_,h=>by simp at hm;subst hm;simp [Y4] at h;subst h;simp [Op.eqFields,SB.den]
 |f::lP,l,c,hm,hn,h=>by
  simp only [anA,anW,anI] at hm;obtain⟨p,U,ls,Z,h3⟩:=hm;simp only [pure,ah] at h3;subst h3;rw [aQ] at U;obtain⟨inf,alD,rfl⟩:=U;simp only [Y4] at h;split at h
  ·grind
  ·rename_i i hi;split at h
   ·rename_i x y hxn hyn;split at h
    ·grind
    ·rename_i c1 hc1;split at h
     ·grind
     ·rename_i c2 hc2;simp at h;subst h;obtain⟨u,Ol,Rz⟩:=hx.nth hxn;obtain⟨v,Rx,hv2⟩:=hy.nth hyn;obtain⟨e1,e2,e3,e4⟩:=UE (w:=w) (cI f.type i hi) Rz hv2 hc1 d;have ih:=R3 cI hx hy d Z (fun g hg=>hn g (by simp [hg])) hc2;have p1:(part f.type us.toArray f.offset).run P w= .ok u w:=by simp [part,kN (cI f.type i hi),e4,Ol]
      have p2:(part f.type vs.toArray f.offset).run P w= .ok v w:=by simp [part,kN (cI f.type i hi),e4,Rx]
      simp only [Op.eqFields];rw [ag (hn f ad)];simp only [Sem.run_bind,p1,p2,e1,Result.andThen_ok,Ts];cases RJ:c1.den E.ρ
      ·simp
      grind
   grind
theorem EJ {tt:TT} (cI:eC P tt) {t:Nat} {xs ys:List W} {us vs:List Value} {c:SB} (hx:ct E w.heap xs us) (hy:ct E w.heap ys vs) (h:CY tt t xs ys=some c) (op:BinOp) (x y:Operand) :
 (eqGuard op t x y (.agg us.toArray) (.agg vs.toArray)).run P w= .ok () w/\(binOp .eql t (.agg us.toArray) (.agg vs.toArray)).run P w= .ok (.bool (c.den E.ρ)) w/\(binOp .neq t (.agg us.toArray) (.agg vs.toArray)).run P w= .ok (.bool (!(c.den E.ρ))) w:=by
 unfold CY at h;split at h
 ·grind
 ·rename_i i hi;split at h
  ·rename_i fs hk;split at h
   ·rename_i hq;have fP:=cI t i hi;have he:=fP.eqs hq;obtain⟨lP,hu,hm⟩:=sv fP hk;unfold RZ at he;rw [hu] at he;simp only [an,ana,aZ,bne_iff_ne,ne_eq] at he;obtain⟨⟨U,Z⟩,h3⟩:=he;have hf:P.fieldsOf t=lP:=by simp [Program.fieldsOf,hu]
    have h10:(10000:Nat)=9998+1+1:=rfl
    have key:(Op.equalIn 10000 t (.agg us.toArray) (.agg vs.toArray)).run P w= .ok (c.den E.ρ) w:=by rw [h10];generalize (9998:Nat)=n;rw [run_equalIn_struct w (n+1) t _ _ (by rw [hf]; exact hu) U,hf];exact R3 cI hx hy n hm (fun f hf=>(h3 f hf).1) h
    refine⟨run_eqGuard_agg w op t x y _ _ Z,?_,?_⟩
    ·rw [run_eql_struct,key]; rfl
    ·rw [run_neq_struct,key]; rfl
   grind
  grind
def MQ [bH] (E:En) (s:St) (w:World) (v:W) (s':St) (u:Value) (w':World):Prop:= ∃E',eU E s.h w E' s'.h w'/\bO E' s'.h w'/\VR E' w'.heap v u
def jN [bH] (P:Program) (E:En) (s:St) (o:Oper) (a:Act) (w:World) (v:W) (s':St):Prop:=
 s'.bF=s.bF/\bV E.ρ s'.pc/\oS P o a w (MQ E s w v s')
theorem bD {α:Type} {ρ:Nat->Int} {a b:α} (h:(T.ret a).leaf ρ=some b):a=b:=by simpa [T.leaf] using h
theorem gA {s:St} {a:Act} {x:Operand} {f:W->T (W×St)} {r:W×St} (sr:SR E w.heap s.bF a) (h:(yR s x f).leaf E.ρ=some r): ∃v,VR E w.heap v (a.eval x)/\(f v).leaf E.ρ=some r:=by
 unfold yR at h;split at h
 ·rename_i v hv; exact⟨v,gj sr hv,h⟩
 ·simp [T.leaf] at h
theorem gK {s s':St} {v:W} {r:Option W} {ρ:Nat->Int} (h:(pn s r).leaf ρ=some (v,s')):r=some v/\s'=s:=by
 unfold pn at h;split at h
 ·have:=bD h; simp only [ak] at this; exact⟨by rw [this.1],this.2.symm⟩
 ·simp [T.leaf] at h
theorem yH {s s':St} {v:W} {r:Option Hp} {ρ:Nat->Int} (h:(NR s r).leaf ρ=some (v,s')): ∃H,r=some H/\v=W.undef/\s'= { s with h:=H }:=by
 unfold NR at h;split at h
 ·rename_i H; have:=bD h; simp only [ak] at this; exact⟨H,rfl,this.1.symm,this.2.symm⟩
 ·simp [T.leaf] at h
theorem pj {s s':St} {v:W} {r:Option (W×Hp)} {ρ:Nat->Int} (h:(By s r).leaf ρ=some (v,s')): ∃H,r=some (v,H)/\s'= { s with h:=H }:=by
 unfold By at h;split at h
 ·rename_i x H; have:=bD h; simp only [ak] at this; obtain⟨rfl,rfl⟩:=this; exact⟨H,rfl,rfl⟩
 ·simp [T.leaf] at h
theorem jY {h:Array Obj}:VR E h W.undef undef:=by simp only [W.undef,VR,ct]; exact⟨[],rfl,rfl⟩
variable {s s':St} {o:Oper} {a:Act} {v:W}
theorem jN.pure [bH] (hp:bV E.ρ s.pc) (r:bO E s.h w) {u:Value} (h:(execOp a.eval o).run P w= .ok (.value u) w) (hv:VR E w.heap v u):jN P E s o a w v s:=
 ⟨rfl,hp,oS.value h ⟨E,eU.refl _ _ _,r,hv⟩⟩
theorem jN.heap [bH] {H':Hp} {E':En} {w':World} (hp:bV E.ρ s.pc) {u:Value} (h:(execOp a.eval o).run P w= .ok (.value u) w') (U:eU E s.h w E' H' w') (Z:bO E' H' w') (hv:VR E' w'.heap v u) :
 jN P E s o a w v { s with h:=H' }:=
 ⟨rfl,hp,oS.value h ⟨E',U,Z,hv⟩⟩
theorem jN.unit [bH] {H':Hp} {w':World} (hp:bV E.ρ s.pc) (h:(execOp a.eval o).run P w= .ok .skip w') (U:eU E s.h w E H' w') (Z:bO E H' w') :
 jN P E s o a w W.undef { s with h:=H' }:=
 ⟨rfl,hp,oS.skip h ⟨E,U,Z,jY⟩⟩
end
theorem xU {α:Type} {ρ:Nat->Int} {kk:TK} {k:W} {r:α} {f:St->T α}: ∀{es:List (W×W×Nat)} {s:St},bV ρ s.pc->(tx kk k es s f).leaf ρ=some r->∃ec,bV ρ ec/\(f { s with pc:=ec }).leaf ρ=some r
 |[],s,hp,h=> ⟨s.pc,hp,h⟩
 |(k',v,b)::es,s,hp,h=>by
  simp only [tx] at h;split at h
  ·split at h
   ·exact⟨s.pc,hp,h⟩
   ·exact xU hp h
  ·split at h
   ·obtain⟨fI,fu,U⟩:=cC hp h;split at U
    ·grind
    ·obtain⟨jG,jy,Z⟩:=xU (s:={ s with pc:=fI }) fu U
     grind
   ·exact⟨s.pc,hp,h⟩
theorem qk {α:Type} {ρ:Nat->Int} {tt:TT} {t:Nat} {m k:W} {r:α} {f:St->T α} {s:St} (hp:bV ρ s.pc) (h:(nH tt t m k s f).leaf ρ=some r): ∃ec,bV ρ ec/\(f { s with pc:=ec }).leaf ρ=some r:=by
 unfold nH at h;split at h
 ·split at h
  ·split at h
   ·split at h
    ·exact xU hp h
    ·exact⟨s.pc,hp,h⟩
   ·exact⟨s.pc,hp,h⟩
  ·exact⟨s.pc,hp,h⟩
 ·exact⟨s.pc,hp,h⟩
theorem Mf {ρ:Nat->Int} {k:IntKind} {e:V} {f:W->St->T (W×St)} {r:W×St}: ∀(n j:Nat) {s:St},bV ρ s.pc->(j:Int)<=e.den ρ->e.den ρ<(j:Int)+n->(Mg k e f n j s).leaf ρ=some r->
 ∃(i:Nat) (ec:List (SB×Bool)),bV ρ ec/\e.den ρ=(i:Int)/\(f (.int k (.lit (Int.ofNat i))) { s with pc:=ec }).leaf ρ=some r
 |0,j,s,_,_,_,h=>by simp [Mg,T.leaf] at h
 |n+1,j,s,hp,U,Z,h=>by
  simp only [Mg] at h;split at h
  ·exact⟨j,s.pc,hp,J,h⟩
  ·obtain⟨fI,fu,h3⟩:=cC hp h;rw [gG] at h3;split at h3
   ·rename_i he;simp only [V.den,beq_iff_eq] at he
    grind
   ·rename_i he;simp only [V.den,beq_eq_false_iff_ne,ne_eq] at he;have hj:(Int.ofNat j)=(j:Int):=rfl;rw [hj] at he;obtain⟨i,jG,jy,q1,q2⟩:=Mf n (j+1) (s:={ s with pc:=fI }) fu (by push_cast; omega) (by push_cast at Z ⊢; omega) h3
    grind
theorem ny {α:Type} {ρ:Nat->Int} {s:St} (hp:bV ρ s.pc) {i n:V} {f:St->T α} {r:α} (h:(yS s i n f).leaf ρ=some r) :
 ∃ec,bV ρ ec/\0<=i.den ρ/\i.den ρ<n.den ρ/\(f { s with pc:=ec }).leaf ρ=some r:=by
 unfold yS at h;obtain⟨fI,fu,U⟩:=cC hp h;split at U
 ·simp [T.leaf] at U
 ·rename_i e1;rw [dR,decide_eq_false_iff_not] at e1;obtain⟨jG,jy,Z⟩:=cC (s:={ s with pc:=fI }) fu U;split at Z
  ·rename_i e2;rw [dR,decide_eq_true_eq] at e2;simp only [V.den,anB] at e1
   grind
  ·simp [T.leaf] at Z
theorem Ae {E:En} {h0:Array Obj} {tt:TT} {t:Nat} {x ix:W} {ui:Value} {f:W->St->T (W×St)} {r:W×St} {s:St} (hp:bV E.ρ s.pc) (zo:VR E h0 ix ui) (h:(HX tt t x ix s f).leaf E.ρ=some r) :
 ∃ix' ec,bV E.ρ ec/\VR E h0 ix' ui/\(f ix' { s with pc:=ec }).leaf E.ρ=some r:=by
 unfold HX at h;split at h
 ·exact⟨ix,s.pc,hp,zo,h⟩
 ·split at h
  ·rename_i k e _;split at h
   ·rename_i n hn;obtain⟨fI,fu,U,Z,h3⟩:=ny hp h;simp only [V.den] at Z;obtain⟨i,jG,jy,q1,q2⟩:=Mf n 0 (s:={ s with pc:=fI }) fu (by simpa using U) (by simpa using Z) h3;refine⟨_,jG,jy,?_,q2⟩;simp only [VR,V.den] at zo ⊢
    grind
   ·simp [T.leaf] at h
  ·simp [T.leaf] at h
theorem GR {ro:Nat->Prop} {h:Array Obj} {t:Nat} {d:D} {v:Value} (r:Rd ro h (.sl t) d v):(0<d.l.length->∃a n cap,v= .slice (some a) n cap)/\(d= .i 1->v= .slice none 0 0)/\(d= .i 2->∃a n cap,v= .slice (some a) n cap):=by
 generalize hc:CK.sl t=c at r
 cases r with
 |int k n=>simp at hc
 |bool b=>simp at hc
 |str s=>simp at hc
 |nil t=>exact⟨by simp [D.l],fun _=>rfl,ad⟩
 |uQ t a cap=>exact⟨by simp [D.l],ad,fun _=> ⟨a,0,cap,rfl⟩⟩
 |one t c b o cap ds f hr fZ hb U Z=>exact⟨fun _=> ⟨_,_,_,rfl⟩,fun q=>by cases ds<;>simp [dL] at q,fun q=>by cases ds<;>simp [dL] at q⟩
 |many t cs b o cap rows f hr fZ hb Y U Z=>exact⟨fun _=> ⟨_,_,_,rfl⟩,fun q=>by cases rows<;>simp [dL] at q,fun q=>by cases rows<;>simp [dL] at q⟩
theorem IK {P:Program} {E:En} {w:World} {tt:TT} (cI:eC P tt) {t e:Nat} {ti:TI} (fP:tt t=some ti) (hk:ti.kind= .slice e) {u:Value} {b:Bool} (hu:(b=true/\u= .slice none 0 0)\/(b=false/\∃a n cap,u= .slice (some a) n cap)) {s s':St} {op:BinOp} {v:W} {ρ:Nat->Int}
 (h:(XN s op b).leaf ρ=some (v,s')):s'=s/\∃y,(binOp op t u (.slice none 0 0)).run P w= .ok y w/\VR E w.heap v y/\(∀cs ds,¬(u= .agg cs/\(Value.slice none 0 0)= .agg ds))/\¬(u= .nilIface/\(Value.slice none 0 0)= .nilIface):=by
 obtain⟨d,U,Z⟩:=rS (cI t ti fP);rw [hk] at Z
 have he:(Op.equal t u (.slice none 0 0)).run P w= .ok b w:=by have hm:Op.equal t u (.slice none 0 0)=Op.equalIn (9999+1) t u (.slice none 0 0):=rfl;rw [hm];generalize (9999:Nat)=n;cases d<;>simp only [H6] at Z;rcases hu with ⟨rfl,rfl⟩|⟨rfl,a,m,cap,rfl⟩ <;>simp [Op.equalIn,yC U]
 have ur:(∀k n,u≠.int k n)/\(∀s,u≠.string s)/\(∀k n,u≠.float k n)/\(∀k n m,u≠.complex k n m):=by
  grind
 obtain⟨q1,q2⟩:=binOp_eql he ur.1 ur.2.1 ur.2.2.1 ur.2.2.2;unfold XN at h;split at h
 ·simp only [T.leaf,ah,ak] at h;obtain⟨rfl,rfl⟩:=h;exact⟨rfl,_,q1,by simp only [VR,SB.den],ad,ad⟩
 ·simp only [T.leaf,ah,ak] at h;obtain⟨rfl,rfl⟩:=h;exact⟨rfl,_,q2,by simp only [VR,SB.den],ad,ad⟩
 ·simp [T.leaf] at h
theorem aaj {P:Program} {E:En} {w:World} {tt:TT} (cI:eC P tt) {t:Nat} {a b:W} {e:V} (hn:N6 tt t a b=some e) {u u':Value} (ha:VR E w.heap a u) (hb:VR E w.heap b u') {s s':St} (hp:bV E.ρ s.pc) {op:BinOp} {v:W} (h:(ae9 s e op).leaf E.ρ=some (v,s')) :
 s'.bF=s.bF/\s'.h=s.h/\bV E.ρ s'.pc/\∃y,(binOp op t u u').run P w= .ok y w/\VR E w.heap v y/\(∀cs ds,¬(u= .agg cs/\u'= .agg ds))/\¬(u= .nilIface/\u'= .nilIface):=by
 unfold N6 at hn;split at hn
 ·split at hn
  ·split at hn
   ·rename_i ti fP;split at hn
    ·rename_i el hk;simp only [ah] at hn;subst hn;simp only [VR] at ha hb;subst hb;obtain⟨k1,k2,k3⟩:=GR ha;unfold ae9 at h;obtain⟨fI,fu,U⟩:=cC hp h;split at U
     ·rename_i t1;rw [dR,decide_eq_true_eq,cm] at t1;simp only [V.den] at t1;obtain⟨rfl,q⟩:=IK (P:=P) (E:=E) (w:=w) cI fP hk (.inr ⟨rfl,k1 J⟩) U
      grind
     ·obtain⟨jG,jy,Z⟩:=cC (s:={ s with pc:=fI }) fu U;split at Z
      ·rename_i t2;rw [iq,lM,beq_iff_eq] at t2;simp only [V.den] at t2;obtain⟨rfl,q⟩:=IK (P:=P) (E:=E) (w:=w) cI fP hk (.inl ⟨rfl,k2 (hU t2)⟩) Z
       grind
      ·obtain⟨U4,I8,h3⟩:=cC (s:={ s with pc:=jG }) jy Z;split at h3
       ·rename_i t3;rw [iq,lM,beq_iff_eq] at t3;simp only [V.den] at t3;obtain⟨rfl,q⟩:=IK (P:=P) (E:=E) (w:=w) cI fP hk (.inr ⟨rfl,k3 (hU t3)⟩) h3
        grind
       ·simp [T.leaf] at h3
    grind
   grind
  grind
 grind
end Go.As
end

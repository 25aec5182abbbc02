import GoSem.Claim
import Derived.Orders
import Derived.Scope
import Derived.LoopN
import Derived.Below
import GoSem.Core.View
import GoSem.Core.Layout
import GoSem.Op.Equal
import Derived.WalkKit
import Derived.Lib.Strings
import Derived.Laws.IdiomStrings
import Derived.Laws.RangeString
import Derived.Laws.StructEq
set_option linter.unusedSectionVars false
set_option linter.unusedVariables false
set_option linter.unusedSimpArgs false
abbrev af:=@if_neg
abbrev ag:=@if_pos
abbrev ah:=@Option.some.injEq
abbrev ak:=@Prod.mk.injEq
abbrev an:=@Bool.and_eq_true
abbrev aq:=@Nat.eq_of_beq_eq_true
abbrev au:=@Nat.le_refl
abbrev aw:=@List.map_cons
abbrev ax:=@Option.getD_some
abbrev ay:=@List.mem_cons
abbrev az:=@List.getElem_mem
abbrev aA:=@Nat.zero_add
abbrev aC:=@List.nil_append
abbrev aF:=@List.getElem?_cons_zero
abbrev aG:=@List.getElem?_cons_succ
abbrev aH:=@Int.lt_irrefl
abbrev aK:=@Bool.false_eq_true
abbrev aL:=@List.getElem?_eq_getElem
abbrev aM:=@List.length_cons
abbrev aO:=@List.cons_append
abbrev aP:=@Option.map_eq_some_iff
abbrev aQ:=@List.mem_map
abbrev aR:=@List.length_nil
abbrev aT:=@Nat.lt_or_ge
abbrev aW:=@List.all_eq_true
abbrev aX:=@List.getElem?_eq_some_iff
abbrev aZ:=@List.length_append
abbrev a8:=@Nat.add_zero
abbrev bd:=@Option.isSome_some
abbrev bg:=@List.getElem?_map
abbrev bh:=@List.length_take
abbrev bj:=@Int.natCast_one
abbrev bk:=@Nat.le_trans
abbrev bn:=@Array.length_toList
abbrev bo:=@List.length_map
abbrev bp:=@Int.toNat_natCast
abbrev bq:=@List.length_drop
abbrev br:=@List.mem_of_getElem?
abbrev bu:=@List.drop_eq_getElem_cons
abbrev bw:=@List.mem_of_mem_drop
abbrev alM:=@Array.getElem?_toList
abbrev alN:=@Option.map_some
abbrev alO:=@List.mem_append
abbrev alP:=@Nat.add_assoc
abbrev alQ:=@Nat.zero_mul
abbrev alR:=@List.eq_nil_of_length_eq_zero
abbrev alS:=@List.mem_of_mem_take
abbrev alT:=@List.not_mem_nil
abbrev alU:=@Nat.le_succ
abbrev alV:=@List.append_nil
abbrev alW:=@Array.getElem?_eq_some_iff
abbrev alX:=@Nat.add_mul
abbrev alY:=@List.mem_range
abbrev alZ:=@Bool.eq_iff_iff
abbrev al0:=@List.nodup_cons
abbrev al3:=@Nat.le_of_ble_eq_true
abbrev al4:=@Int.natCast_zero
abbrev al5:=@Bool.not_eq_true'
abbrev al6:=@List.take_append_drop
abbrev al7:=@List.map_append
abbrev al8:=@List.mem_filter
abbrev al9:=@Nat.mod_eq_of_lt
abbrev ama:=@Nat.lt_of_lt_of_le
abbrev amb:=@List.length_pos_iff
abbrev amc:=@List.drop_zero
abbrev amd:=@Option.isSome_none
abbrev ame:=@UInt8.toNat_ofNat'
abbrev amf:=@List.append_assoc
abbrev amg:=@Nat.mul_le_mul_right
abbrev amh:=@Nat.zero_le
abbrev ami:=@Option.isSome_iff_exists
abbrev amj:=@List.length_replicate
abbrev amk:=@Option.getD_none
abbrev aml:=@List.map_map
abbrev amm:=@List.getElem?_drop
abbrev amn:=@List.getElem?_take
abbrev amo:=@Array.getD_eq_getD_getElem?
abbrev amp:=@Bool.or_eq_true
abbrev amq:=@List.mapM_cons
abbrev amr:=@Int.not_lt
abbrev ams:=@Nat.eq_zero_or_pos
abbrev amt:=@List.map_nil
abbrev amu:=@List.getElem_of_mem
abbrev amv:=@Nat.one_mul
abbrev amw:=@Option.bind_eq_some_iff
abbrev amx:=@List.set_cons_zero
abbrev amy:=@List.set_cons_succ
abbrev amz:=@List.take_succ_cons
abbrev amA:=@List.take_length
abbrev amB:=@Bool.eq_false_iff
abbrev amC:=@List.nodup_append
abbrev amD:=@List.getElem?_eq_none
abbrev amE:=@Array.getElem?_replicate
abbrev amF:=@Nat.blt_eq
abbrev amG:=@List.getElem?_nil
abbrev amH:=@List.map_congr_left
abbrev amI:=@List.mem_iff_getElem?
abbrev amJ:=@Nat.ne_of_beq_eq_false
abbrev amK:=@Int.tmod_lt_of_pos
abbrev amL:=@List.ext_getElem?
abbrev amM:=@Option.bind_eq_bind
abbrev amN:=@List.getElem?_eq_none_iff
abbrev amO:=@Nat.mul_pos
abbrev amP:=@List.mem_singleton
abbrev amQ:=@Bool.not_true
abbrev amR:=@List.take_of_length_le
abbrev amS:=@Bool.false_or
abbrev amT:=@Nat.ble_eq_true_of_le
abbrev amU:=@List.getElem?_range
abbrev amV:=@List.mem_cons_of_mem
abbrev amW:=@List.drop_of_length_le
abbrev amX:=@Int.le_refl
abbrev amY:=@Nat.pow_succ
abbrev amZ:=@Int.ofNat_inj
abbrev am0:=@Bool.or_false
abbrev am1:=@List.eraseIdx_cons_succ
abbrev am2:=@List.foldlM_cons
abbrev am3:=@Nat.mul_one
abbrev am4:=@List.getElem?_append_right
abbrev am5:=@List.length_set
abbrev am6:=@Int.ofNat_lt
abbrev am7:=@List.eq_nil_iff_forall_not_mem
abbrev am8:=@List.getElem?_of_mem
abbrev am9:=@List.getD_eq_getElem?_getD
abbrev ana:=@List.all_append
abbrev anb:=@Nat.add_right_cancel_iff
abbrev anc:=@Nat.pow_zero
abbrev ane:=@Nat.mul_comm
abbrev anf:=@Array.toList_inj
abbrev ang:=@Array.getElem?_modify
abbrev anh:=@List.getElem?_append
abbrev ani:=@Nat.mul_le_mul
abbrev anj:=@List.map_take
abbrev ank:=@List.map_drop
abbrev anl:=@Array.toList_map
abbrev anm:=@Nat.le_of_mul_le_mul_right
abbrev ann:=@List.drop_succ_cons
abbrev ano:=@List.getElem?_append_left
abbrev anp:=@List.take_set_of_le
abbrev anq:=@List.drop_set_of_lt
abbrev anr:=@Nat.div_mul_le_self
abbrev ans:=@List.replicate_succ
abbrev ant:=@Nat.lt_trichotomy
abbrev anu:=@List.all_cons
abbrev anv:=@Array.mem_of_getElem?
abbrev anw:=@List.length_reverse
abbrev anx:=@Nat.min_eq_left
abbrev anz:=@List.getElem?_toArray
abbrev anA:=@Array.getElem?_eq_none
abbrev anB:=@Array.getElem?_setIfInBounds
abbrev anC:=@List.any_eq_true
abbrev anD:=@List.drop_drop
abbrev anE:=@Nat.add_sub_cancel_left
abbrev anF:=@Nat.sub_zero
abbrev anG:=@List.take_succ_eq_append_getElem
abbrev anH:=@List.mem_cons_self
abbrev anI:=@Array.getElem?_append_left
abbrev anJ:=@List.eq_of_mem_replicate
abbrev anK:=@List.singleton_append
abbrev anL:=@Array.mapM_eq_mapM_toList
abbrev anM:=@Array.getElem?_eq_none_iff
abbrev anN:=@Array.getElem?_eq_getElem
abbrev anO:=@List.contains_iff_mem
abbrev anP:=@List.length_filter_le
abbrev anQ:=@List.getElem_set_self
abbrev anR:=@List.mem_append_right
theorem J{P:Prop}(h:P:=by omega):P:=h
theorem aa{P:Prop}(h:P:=by kernel_rfl):P:=h
theorem ad{P:Prop}(h:P:=by simp):P:=h
theorem ae{P:Prop}(h:P:=by decide):P:=h
section
namespace Go.As
inductive Tr (α:Type) where
 |nil
 |node (v:Option α) (l r:Tr α)
 deriving Inhabited
noncomputable def Tr.get {α:Type} (t:Tr α) (k:Nat):Option α:=
 Tr.rec (motive:=fun _=>Nat->Option α) (fun _=>none)
  (fun v _ _ il ir k=>Nat.rec (motive:=fun _=>Option α) v (fun k' _=>Bool.rec (motive:=fun _=>Option α) (ir (Nat.div k' 2)) (il (Nat.div k' 2)) (Nat.beq (Nat.mod k' 2) 0)) k) t k
def Tr.val {α:Type}:Tr α->Option α
 | .nil=>none
 | .node v _ _=>v
def Tr.left {α:Type}:Tr α->Tr α
 | .nil=> .nil
 | .node _ l _=>l
def Tr.right {α:Type}:Tr α->Tr α
 | .nil=> .nil
 | .node _ _ r=>r
noncomputable def Tr.mkL {α:Type} (v:Option α) (x r:Tr α):Tr α:=Tr.rec (motive:=fun _=>Tr α) (.node v .nil r) (fun a b c _ _=> .node v (.node a b c) r) x
noncomputable def Tr.mkR {α:Type} (v:Option α) (l x:Tr α):Tr α:=Tr.rec (motive:=fun _=>Tr α) (.node v l .nil) (fun a b c _ _=> .node v l (.node a b c)) x
noncomputable def Tr.TA {α:Type} (f:Nat):Tr α->Nat->Option α->Tr α:=
 Nat.rec (motive:=fun _=>Tr α->Nat->Option α->Tr α) (fun t _ _=>t)
  (fun _ ih t k x=>Tr.rec (motive:=fun _=>Tr α)
   (Nat.rec (motive:=fun _=>Tr α) (.node x .nil .nil) (fun k' _=>Bool.rec (motive:=fun _=>Tr α) (Tr.mkR none .nil (ih .nil (Nat.div k' 2) x)) (Tr.mkL none (ih .nil (Nat.div k' 2) x) .nil) (Nat.beq (Nat.mod k' 2) 0)) k)
   (fun v l r _ _=>Nat.rec (motive:=fun _=>Tr α) (.node x l r) (fun k' _=>Bool.rec (motive:=fun _=>Tr α) (Tr.mkR v l (ih r (Nat.div k' 2) x)) (Tr.mkL v (ih l (Nat.div k' 2) x) r) (Nat.beq (Nat.mod k' 2) 0)) k) t) f
noncomputable def Tr.put {α:Type} (t:Tr α) (k:Nat) (v:Option α):Tr α:=Tr.TA (Nat.succ k) t k v
theorem aaW (a b:Nat):Nat.beq a b=decide (a=b):=by rw [alZ];simp
theorem BW {β:Sort _} (a b:β) (c:Nat):Bool.rec (motive:=fun _=>β) a b (Nat.beq c 0)=if c=0 then b else a:=by
 by_cases h:c=0
 ·subst h; rfl
 ·rw [af h];have:Nat.beq c 0=false:=by rw [aaW]; simpa using h
  rw [this]
theorem Tr.nU {α:Type} (v:Option α) (l r:Tr α) (k:Nat) :
 (Tr.node v l r).get k=if k=0 then v else if (k-1) % 2=0 then l.get ((k-1) / 2) else r.get ((k-1) / 2):=by
 cases k with
 |zero=>rfl
 |succ k=> simp only [Nat.add_sub_cancel,Nat.succ_ne_zero,if_false];exact BW _ _ _
theorem Tr.wc {α:Type} (t:Tr α) (k:Nat) :
 t.get k=if k=0 then t.val else if (k-1) % 2=0 then t.left.get ((k-1) / 2) else t.right.get ((k-1) / 2):=by
 cases t with
 |nil=> have h: ∀j,(Tr.nil:Tr α).get j=none:=fun _=>rfl;simp [h,Tr.val,Tr.left,Tr.right]
 |node v l r=>rw [Tr.nU]; rfl
theorem Tr.aeI {α:Type} (v:Option α) (x r:Tr α):Tr.mkL v x r= .node v x r:=by cases x<;>rfl
theorem Tr.aeH {α:Type} (v:Option α) (l x:Tr α):Tr.mkR v l x= .node v l x:=by cases x<;>rfl
theorem Tr.Ty {α:Type} (f:Nat) (t:Tr α) (v:Option α):Tr.TA (f+1) t 0 v= .node v t.left t.right:=by cases t<;>rfl
theorem Tr.Tz {α:Type} (f:Nat) (t:Tr α) (k:Nat) (v:Option α):Tr.TA (f+1) t (k+1) v=if k % 2=0 then .node t.val (Tr.TA f t.left (k / 2) v) t.right else .node t.val t.left (Tr.TA f t.right (k / 2) v):=by rw [<- Tr.aeI,<- Tr.aeH];cases t<;>exact BW _ _ _
theorem Tr.Yy {α:Type}: ∀(f:Nat) (t:Tr α) (k:Nat) (v:Option α) (j:Nat),k<f->(Tr.TA f t k v).get j=if j=k then v else t.get j:=by
 intro f
 induction f with
 |zero=>intro t k v j hk; omega
 |succ f ih=>
  intro t k v j hk
  cases k with
  |zero=> rw [Tr.Ty,Tr.nU,Tr.wc t];split<;>simp_all
  |succ k=>
   rw [Tr.Tz,Tr.wc t j];split
   ·rename_i h;rw [Tr.nU];by_cases hj:j=0
    ·subst hj; simp
    ·rw [af hj,af hj];by_cases Z:(j-1) % 2=0
     ·rw [ag Z,ag Z,ih _ _ _ _ J];by_cases h3:j=k+1
      ·subst h3; simp
      ·rw [af h3,af J]
     ·rw [af Z,af Z,af (by intro h3; subst h3; simp at Z; omega)]
   ·rename_i h;rw [Tr.nU];by_cases hj:j=0
    ·subst hj; simp
    ·rw [af hj,af hj];by_cases Z:(j-1) % 2=0
     ·rw [ag Z,ag Z,af (by intro h3; subst h3; simp at Z; omega)]
     ·rw [af Z,af Z,ih _ _ _ _ J];by_cases h3:j=k+1
      ·subst h3; simp
      ·rw [af h3,af J]
theorem Tr.bQ {α:Type} (t:Tr α) (k:Nat) (v:Option α) (j:Nat):(t.put k v).get j=if j=k then v else t.get j:=
 Tr.Yy (Nat.succ k) t k v j (Nat.lt_succ_self _)
inductive D where
 |i (n:Int)
 |p (a b:D)
 deriving DecidableEq,Inhabited
def zN:Int->Nat
 | .ofNat n=>2*n
 | .negSucc n=>2*n+1
theorem VA {a b:Int} (h:zN a=zN b):a=b:=by
 cases a<;>cases b<;>simp only [zN] at h
 all_goals grind
def ox (a b:Nat):Nat:=2 ^ a*(2*b+1)
theorem AA: ∀{a a' b b':Nat},ox a b=ox a' b'->a=a'/\b=b'
 |0,0,b,b',h=>by simp only [ox,anc,amv] at h; omega
 |0,a'+1,b,b',h=>by
  simp only [ox,anc,amv,amY] at h
  grind
 |a+1,0,b,b',h=>by
  simp only [ox,anc,amv,amY] at h
  grind
 |a+1,a'+1,b,b',h=>by
  have U:2 ^ (a+1)*(2*b+1)=2*ox a b:=by unfold ox; rw [amY,ane (2 ^ a) 2,Nat.mul_assoc]
  have Z:2 ^ (a'+1)*(2*b'+1)=2*ox a' b':=by unfold ox; rw [amY,ane (2 ^ a') 2,Nat.mul_assoc]
  have h3:ox a b=ox a' b':=by
   have:ox (a+1) b=ox (a'+1) b':=h;unfold ox at this
   grind
  obtain⟨e1,e2⟩:=AA h3
  grind
def D.enc:D->Nat
 | .i n=>2*zN n
 | .p a b=>2*ox a.enc b.enc+1
theorem D.iJ: ∀{a b:D},a.enc=b.enc->a=b
 | .i n,.i m,h=>by simp only [D.enc] at h;rw [VA (a:=n) (b:=m) J]
 | .i n,.p a b,h=>by simp only [D.enc] at h; omega
 | .p a b,.i n,h=>by simp only [D.enc] at h; omega
 | .p a b,.p c d,h=>by simp only [D.enc] at h;obtain⟨U,Z⟩:=AA (a:=a.enc) (b:=b.enc) (a':=c.enc) (b':=d.enc) J;rw [D.iJ U,D.iJ Z]
open Classical in
noncomputable def dec (z:Int):D:=if h: ∃d:D,(d.enc:Int)=z then h.choose else .i 0
def enc (d:D):Int:=(d.enc:Int)
theorem bB (d:D):dec (enc d)=d:=by unfold dec;have h: ∃d':D,(d'.enc:Int)=enc d:=⟨d,rfl⟩;rw [dif_pos h];have:=h.choose_spec;apply D.iJ;unfold enc at this;exact Int.ofNat.inj this
theorem iJ {a b:D} (h:enc a=enc b):a=b:=by rw [<- bB a,h,bB]
def D.n:D->Int
 | .i n=>n
 | .p _ _=>0
def D.l:D->List D
 | .i _=>[]
 | .p a b=>a::b.l
def dL:List D->D
 |[]=> .i 0
 |a::l=> .p a (dL l)
@[simp] theorem bJ: ∀l:List D,(dL l).l=l
 |[]=>rfl
 |a::l=>by simp [dL,D.l,bJ l]
theorem ET {a b:List D} (h:dL a=dL b):a=b:=by rw [<- bJ a,h,bJ]
def D.at (d:D) (i:Int):D:=(d.l[i.toNat]?).getD (.i 0)
def D.hd (d:D) (j:Nat):D:=(d.l[j]?).getD (.i 0)
def pJ (l:List UInt8):D:=dL (l.map fun b=> .i (b.toNat:Int))
def tq (s:ByteArray):D:=pJ s.data.toList
def lA (l:List Nat):D:=dL (l.map fun b=> .i (Int.ofNat b))
theorem Ph {a b:List UInt8} (h:pJ a=pJ b):a=b:=by
 have:=ET h
 have Lx: ∀{x y:UInt8},(D.i (x.toNat:Int))= .i (y.toNat:Int)->x=y:=by intro x y h;simp only [D.i.injEq,amZ] at h;exact UInt8.toNat_inj.1 h
 induction a generalizing b with
 |nil=>cases b with
  |nil=>rfl
  |cons y b=>simp at this
 |cons x a ih=>cases b with
  |nil=>simp at this
  |cons y b=> simp only [aw,List.cons.injEq] at this;rw [Lx this.1,ih (by unfold pJ; rw [this.2]) this.2]
theorem EP {a b:ByteArray} (h:tq a=tq b):a=b:=by
 have:=Ph h
 cases a with
 |mk x=>cases b with
  |mk y=>simp only [ByteArray.mk.injEq] at *; exact anf.1 this
theorem zL (l:List Nat) (h: ∀b∈l,b<256):lA l=pJ (l.map UInt8.ofNat):=by unfold lA pJ;congr 1;rw [aml];apply amH;intro b hb;have:=h b hb;simp [al9 this]
theorem Z3 (s:ByteArray):(tq s).l.length=s.size:=by unfold tq pJ;rw [bJ,bo];rfl
inductive fu where
 |len
 |at
 |cell (j:Nat)
 |num
 |mk
 |cons
 |snoc
 |cat
 |take
 |drop
 |set
 |bit
 |norm
 |sub
 |fill
 |idx
 |cnt
 |con
 |slt
 |K9
 |DJ
 |xB
 |B5
 |rep
 deriving DecidableEq,Inhabited
def fT (d:D) (l:List D):D:=match l with
 |[]=>if d= .i 1 then .i 1 else .i 2
 |l=>dL l
theorem gz (d:D) (l:List D):(fT d l).l=l:=by
 cases l with
 |nil=>simp only [fT]; split<;>rfl
 |cons a l=>simp [fT]
theorem vh {d:D} {l:List D} (h:l≠[]):fT d l=dL l:=by
 cases l with
 |nil=>exact absurd rfl h
 |cons a l=>rfl
theorem oW {d:D} (h:d≠.i 1):fT d []= .i 2:=by
 show (if d= .i 1 then D.i 1 else D.i 2)= .i 2
 grind
theorem Ut {d:D} (h:d≠.i 1) (l:List D):fT d l≠.i 1:=by
 cases l with
 |nil=>rw [oW h]; simp
 |cons a l=>simp [fT,dL]
theorem xW {d:D} {l m:List D} (h:d= .i 1->l= []):fT (fT d l) m=fT d m:=by
 cases m with
 |cons a m=>rfl
 |nil=>
  by_cases U:d= .i 1
  ·rw [h U,U]; rfl
  ·rw [oW U,oW (Ut U l)]
def qD (z:Int):List D->Int->Int
 |[],_=> -1
 |d::l,i=>match d with
  | .i n=>if n=z then i else qD z l (i+1)
  |_=>qD z l (i+1)
def EU (l:List D) (z:Int):Int:=qD z l 0
def Pg:List D->List D->Bool
 |[],_=>true
 |_::_,[]=>false
 |a::x,b::y=>decide (a=b)&&Pg x y
def Uv (l x:List D):Bool:=match l with
 |[]=>Pg x []
 |a::l=>Pg x (a::l)||Uv l x
def Z8 (l:List D) (z:Int):Int:=match l with
 |[]=>0
 |d::l=>(if d= .i z then 1 else 0)+Z8 l z
def Mg:List D->List D->Bool
 |[],[]=>false
 |[],_::_=>true
 |_::_,[]=>false
 |a::x,b::y=>if a.n<b.n then true else if b.n<a.n then false else Mg x y
def eY (ds:List D) (z:Int) (x:D):List D:=if z<0 then ds else ds.set z.toNat x
theorem fQ (ds:List D) (z:Int) (x:D):(eY ds z x).length=ds.length:=by
 unfold eY; split
 all_goals grind
theorem rz (ds:List D) (k:Nat) (x:D):eY ds (k:Int) x=ds.set k x:=by unfold eY; rw [af J]; rfl
def gw:D->D
 | .p k _=>k
 |d=>d
def FA:D->D
 | .p _ v=>v
 |d=>d
def eN:List D->D->Option D
 |[],_=>none
 |d::l,k=>if gw d=k then some (FA d) else eN l k
def jO:List D->D->D->List D
 |[],k,v=>[.p k v]
 |d::l,k,v=>if gw d=k then .p k v::l else d::jO l k v
def rM:List D->D->List D
 |[],_=>[]
 |d::l,k=>if gw d=k then l else d::rM l k
noncomputable def fu.den (o:fu) (x y:Int):Int:=match o with
 | .len=>((dec x).l.length:Int)
 | .at=>enc ((dec x).at y)
 | .cell j=>enc ((dec x).hd j)
 | .num=>(dec x).n
 | .mk=>enc (.i x)
 | .cons=>enc (.p (dec x) (dec y))
 | .snoc=>enc (dL ((dec x).l++ [dec y]))
 | .cat=>enc (dL ((dec x).l++(dec y).l))
 | .take=>enc (fT (dec x) ((dec x).l.take y.toNat))
 | .drop=>enc (fT (dec x) ((dec x).l.drop y.toNat))
 | .set=>match dec y with
   | .p q v=>enc (dL (eY (dec x).l q.n v))
   |_=>x
 | .bit=>enc (.i (if (dec x).n=0 then 0 else 1))
 | .norm=>enc (dec x)
 | .sub=>enc (dL (((dec x).l.take ((dec y).hd 1).n.toNat).drop ((dec y).hd 0).n.toNat))
 | .fill=>match dec y with
   | .p q v=>enc (dL ((dec x).l.take q.n.toNat++List.replicate ((dec x).l.length-q.n.toNat) v))
   |_=>x
 | .idx=>EU (dec x).l y
 | .cnt=>Z8 (dec x).l y
 | .con=>if Uv (dec x).l (dec y).l then 1 else 0
 | .slt=>if Mg (dec x).l (dec y).l then 1 else 0
 | .K9=>if (eN (dec x).l (dec y)).isSome then 1 else 0
 | .DJ=>enc ((eN (dec x).l (dec y)).getD (.i 0))
 | .xB=>match dec y with
   | .p k v=>enc (dL (jO (dec x).l k v))
   |_=>x
 | .B5=>enc (dL (rM (dec x).l (dec y)))
 | .rep=>enc (dL (List.replicate x.toNat (dec y)))
def fu.tag:fu->Nat
 | .len=>0
 | .at=>1
 | .cell j=>j+23
 | .num=>2
 | .mk=>3
 | .cons=>4
 | .snoc=>5
 | .cat=>6
 | .take=>7
 | .drop=>8
 | .set=>9
 | .bit=>10
 | .norm=>11
 | .sub=>12
 | .fill=>13
 | .idx=>14
 | .cnt=>15
 | .con=>16
 | .slt=>17
 | .K9=>18
 | .DJ=>19
 | .xB=>20
 | .B5=>21
 | .rep=>22
theorem fu.H? {a b:fu} (h:a.tag=b.tag):a=b:=by
 cases a<;>cases b<;>simp only [fu.tag] at h<;>first |rfl|(congr 1; omega)|omega
inductive CK where
 |int (k:IntKind)
 |bool
 |str
 |sl (t:Nat)
 deriving DecidableEq,Inhabited
inductive Row where
 |one (c:CK)
 |many (cs:List CK)
 deriving DecidableEq,Inhabited
def Row.es:Row->Nat
 | .one _=>1
 | .many cs=>cs.length
def rowOf (t:Nat):Row:=match t with
 |0=> .one (.int .i64)
 |1=> .one (.int .i64)
 |2=> .one .str
 |3=> .many [.int .u8,.str,.int .i64,.str,.int .i64]
 |4=> .many [.str,.sl 2,.sl 5]
 |5=> .many [.int .u8,.int .u8,.int .i64,.int .i64,.int .i64,.int .i64,.sl 6]
 |6=> .many [.int .u8,.str,.int .i64,.sl 6]
 |7=> .many [.int .i64,.int .i64,.bool,.int .i64,.sl 0,.sl 0]
 |8=> .many [.int .i64,.sl 0,.int .u8,.int .i64,.int .i64,.int .i64]
 |9=> .many [.int .i64,.int .u8,.int .i64,.int .i64,.int .i64]
 |10=> .one (.sl 0)
 |11=> .many [.int .i64,.int .i64,.int .i64]
 |12=> .many [.int .i64,.int .i64]
 |13=> .many [.int .i64,.int .u8,.int .i64,.int .i64,.int .i64]
 |14=> .one (.int .u8)
 |15=> .one (.sl 0)
 |16=> .many [.sl 7,.sl 8]
 |_=> .one .bool
def mapOf (t:Nat):Row×Row:=match t with
 |0=>(.one (.int .i64),.one (.int .i64))
 |1=>(.one .str,.one (.int .i64))
 |2=>(.one (.int .i64),.one (.sl 0))
 |4=>(.many [.int .i64,.int .i64],.one (.int .i64))
 |5=>(.many [.int .i64,.int .i64],.one (.sl 0))
 |6=>(.one (.int .i64),.many [.int .i64,.int .i64,.int .i64])
 |_=>(.one (.int .i64),.one .bool)
inductive FC where
 |ck (c:CK)
 |own (t:Nat)
 |mp (t:Nat)
 deriving DecidableEq,Inhabited
structure FK where
 ptr:Bool
 cs:List FC
def qA (t:Nat):FK:=match t with
 |0=> ⟨false,[.own 0]⟩
 |1=> ⟨true,[.ck (.int .i64),.mp 0,.ck (.int .i64),.ck (.int .i64),.ck .bool,.own 0]⟩
 |_=> ⟨true,[.ck (.sl 0),.ck (.int .i64),.ck .bool,.ck .bool]⟩
def oq (c:CK) (d:D):Prop:=match c with
 | .int _=>d= .i d.n
 | .bool=>d= .i 0\/d= .i 1
 |_=>True
def wD (cs:List CK) (d:D):Prop:=d=dL d.l/\d.l.length=cs.length/\∀(j:Nat) (c:CK) (x:D),cs[j]?=some c->d.l[j]?=some x->oq c x
def pS (r:Row) (d:D):Prop:=match r with
 | .one c=>oq c d
 | .many cs=>wD cs d
def sg (r:Row) (d:D):Prop:=d=dL d.l/\(∀x∈d.l,pS r x)/\d.l≠[]
end Go.As
end
section
namespace Go.As
noncomputable section
inductive V where
 |lit (n:Int)
 |dD (i:Nat)
 |add (a b:V)
 |sub (a b:V)
 |mul (a b:V)
 |quo (a b:V)
 |rem (a b:V)
 |wrap (k:IntKind) (a:V)
 |wI (b:Nat) (e:V)
 |ep (d:D)
 |op (o:fu) (a b:V)
 |ap (f:Nat) (a:V)
 deriving DecidableEq,Inhabited
def jg (f:Nat) (z:Int):Nat:=1000+ox f (zN z)*64+63
noncomputable def V.den (ρ:Nat->Int):V->Int
 | .lit n=>n
 | .dD i=>ρ i
 | .add a b=>a.den ρ+b.den ρ
 | .sub a b=>a.den ρ-b.den ρ
 | .mul a b=>a.den ρ*b.den ρ
 | .quo a b=>(a.den ρ).tdiv (b.den ρ)
 | .rem a b=>(a.den ρ).tmod (b.den ρ)
 | .wrap k a=>k.wrap (a.den ρ)
 | .wI b e=>ρ (1000+(e.den ρ).toNat*64+b)
 | .ep d=>enc d
 | .op o a b=>o.den (a.den ρ) (b.den ρ)
 | .ap f a=>ρ (jg f (a.den ρ))
def uL:Int->Int->Bool
 | .ofNat a,.ofNat b=>Nat.beq a b
 | .negSucc a,.negSucc b=>Nat.beq a b
 |_,_=>false
def D.eqb:D->D->Bool
 | .i a,.i b=>uL a b
 | .p a b,.p c d=>match D.eqb a c with |true=>D.eqb b d|false=>false
 |_,_=>false
theorem vX {a b:Int} (h:uL a b=true):a=b:=by cases a<;>cases b<;>simp [uL] at h<;>rw [h]
theorem D.O0: ∀{a b:D},D.eqb a b=true->a=b
 | .i a,.i b,h=>by simp only [D.eqb] at h; rw [vX h]
 | .p a b,.p c d,h=>by
   simp only [D.eqb] at h;split at h
   ·rename_i U; rw [D.O0 U,D.O0 h]
   grind
 | .i _,.p _ _,h=>by simp [D.eqb] at h
 | .p _ _,.i _,h=>by simp [D.eqb] at h
def eW:V->V->Bool
 | .lit a,.lit b=>a == b
 | .dD i,.dD j=>Nat.beq i j
 | .add a b,.add c d=>match eW a c with |true=>eW b d|false=>false
 | .sub a b,.sub c d=>match eW a c with |true=>eW b d|false=>false
 | .mul a b,.mul c d=>match eW a c with |true=>eW b d|false=>false
 | .quo a b,.quo c d=>match eW a c with |true=>eW b d|false=>false
 | .rem a b,.rem c d=>match eW a c with |true=>eW b d|false=>false
 | .wrap k a,.wrap l b=>match eW a b with |true=>decide (k=l)|false=>false
 | .wI i a,.wI j b=>match Nat.beq i j with |true=>eW a b|false=>false
 | .ep a,.ep b=>D.eqb a b
 | .op o a b,.op q c d=>match Nat.beq o.tag q.tag with
   |true=>match eW a c with |true=>eW b d|false=>false
   |false=>false
 | .ap f a,.ap g b=>match Nat.beq f g with |true=>eW a b|false=>false
 |_,_=>false
theorem cM: ∀(a b:V),eW a b=true->a=b
 | .lit a,b,h=>by cases b<;>simp [eW] at h; rw [h]
 | .dD i,b,h=>by cases b<;>simp [eW] at h; rw [h]
 | .add a b,c,h=>by cases c<;>simp only [eW,aK] at h; split at h<;>first |(rename_i U; rw [cM _ _ U,cM _ _ h]; done)|simp at h
 | .sub a b,c,h=>by cases c<;>simp only [eW,aK] at h; split at h<;>first |(rename_i U; rw [cM _ _ U,cM _ _ h]; done)|simp at h
 | .mul a b,c,h=>by cases c<;>simp only [eW,aK] at h; split at h<;>first |(rename_i U; rw [cM _ _ U,cM _ _ h]; done)|simp at h
 | .quo a b,c,h=>by cases c<;>simp only [eW,aK] at h; split at h<;>first |(rename_i U; rw [cM _ _ U,cM _ _ h]; done)|simp at h
 | .rem a b,c,h=>by cases c<;>simp only [eW,aK] at h; split at h<;>first |(rename_i U; rw [cM _ _ U,cM _ _ h]; done)|simp at h
 | .wrap k a,c,h=>by cases c<;>simp only [eW,aK] at h; split at h<;>first |(rename_i U; rw [cM _ _ U,of_decide_eq_true h]; done)|simp at h
 | .wI i a,c,h=>by cases c<;>simp only [eW,aK] at h; split at h<;>first |(rename_i U; rw [aq U,cM _ _ h]; done)|simp at h
 | .ep a,c,h=>by cases c<;>simp only [eW,aK] at h; rw [D.O0 h]
 | .op o a b,c,h=>by
   cases c<;>simp only [eW,aK] at h;split at h
   ·rename_i h0;split at h
    ·rename_i U;rw [fu.H? (aq h0),cM _ _ U,cM _ _ h]
    grind
   grind
 | .ap f a,c,h=>by cases c<;>simp only [eW,aK] at h; split at h<;>first |(rename_i U; rw [aq U,cM _ _ h]; done)|simp at h
inductive SB where
 |lit (b:Bool)
 |lt (a b:V)
 |le (a b:V)
 |eq (a b:V)
 |not (s:SB)
 |and (a b:SB)
 deriving DecidableEq,Inhabited
noncomputable def SB.den (ρ:Nat->Int):SB->Bool
 | .lit b=>b
 | .lt a b=>decide (a.den ρ<b.den ρ)
 | .le a b=>decide (a.den ρ<=b.den ρ)
 | .eq a b=>a.den ρ == b.den ρ
 | .not s=>!(s.den ρ)
 | .and a b=>a.den ρ&&b.den ρ
def rY (k:IntKind) (n:Int):Int:=
 match k with
 | .i64=>if -9223372036854775808<=n/\n<=9223372036854775807 then n else k.wrap n
 | .u8=>if 0<=n/\n<=255 then n else k.wrap n
 |_=>k.wrap n
inductive MN where
 |exact (c:Nat)
 |rest (es:Nat)
 deriving DecidableEq,Inhabited
inductive W where
 |bool (b:SB)
 |int (k:IntKind) (e:V)
 |str (s:List Nat)
 |ptr (id off:Nat)
 |tY
 |mY (cells:List W)
 |slice (id off len:Nat) (c:MN)
 |fZ
 |ro (cells:List W) (n:Nat) (full:Bool)
 |map (id:Nat)
 |rI
 |func (fn:Fn) (fs cs:List W)
 |wG
 |iface (t:Nat) (v:W)
 |xA
 |agg (cs:List W)
 |tuple (vs:List W)
 |KY (i:Nat)
 |wI (k:Nat) (ks:List IntKind)
 |ep (e:V) (t:Nat)
 |jP (e:V)
 |pb (id:Nat) (n:V) (t:Nat)
 |zG (id es:Nat) (i:V) (off:Nat)
 |emp
 |tV (id:Nat) (lo n:V) (t:Nat)
 |any
 |xg (z:V) (t:Nat)
 deriving Inhabited
def W.undef:W:=.tuple []
def W.cells:W->List W
 | .agg cs=>cs
 |v=>[v]
def W.one:W->Bool
 | .agg _=>false
 | .tuple _=>false
 | .KY _=>false
 | .any=>false
 |_=>true
inductive dM where
 |cells (cs:List W) (e:TypeId)
 |map (es:List (W×W×Nat)) (clock:Nat)
 |kg (s:List Nat) (pos:Nat)
 |jC (m:Option Nat) (since:Nat) (seen:List Nat) (last:Nat)
 |vec (e:V) (t:Nat) (ty:TypeId) (ov:List (V×List W))
 |j6 (e:V) (t:Nat)
 |tT (e:V) (t:Nat) (eX:List Nat) (ov:List (V×W))
 deriving Inhabited
structure Hp where
 m:Tr dM
 next:Nat
 res:Option Nat:=none
 deriving Inhabited
def Hp.get (h:Hp) (i:Nat):Option dM:=h.m.get i
def Hp.put (h:Hp) (i:Nat) (o:dM):Hp:=⟨h.m.put i (some o),h.next,h.res⟩
def Hp.drop (h:Hp) (i:Nat):Hp:=⟨h.m.put i none,h.next,h.res⟩
def Hp.fresh (h:Hp):Nat:=match h.res with
 |none=>h.next
 |some r=>r
def Hp.new (h:Hp) (o:dM):Hp:=match h.res with
 |none=> ⟨h.m.put h.next (some o),h.next+1,none⟩
 |some r=> ⟨h.m.put r (some o),h.next,none⟩
inductive T (α:Type) where
 |fail
 |ret (a:α)
 |split (c:SB) (t f:T α)
 deriving Inhabited
def T.bind {α β:Type}:T α->(α->T β)->T β
 | .fail,_=> .fail
 | .ret a,f=>f a
 | .split c x y,f=> .split c (x.bind f) (y.bind f)
def T.leaf {α:Type} (ρ:Nat->Int):T α->Option α
 | .fail=>none
 | .ret a=>some a
 | .split c x y=>match c.den ρ with
   |true=>x.leaf ρ
   |false=>y.leaf ρ
inductive TK where
 |bool
 |int (k:IntKind)
 |string
 |pointer (e:Nat)
 |slice (e:Nat)
 |array (n e:Nat)
 |map (k e:Nat)
 |struct (fs:List (Nat×Nat×Nat))
 |func
 |iface (plain:Bool)
 |tuple
 deriving DecidableEq,Inhabited
structure TI where
 kind:TK
 size:Nat
 bytes:Nat
 zero:List W
 eqs:Bool
 own:Option Nat:=none
 deriving Inhabited
def TK.agg (k:TK):Bool:=match k with | .struct _=>true| .array _ _=>true|_=>false
def TI.agg (i:TI):Bool:=i.kind.agg
abbrev TT:=Nat->Option TI
def bytesOf (s:ByteArray):List Nat:=s.data.toList.map (·.toNat)
def gI:Value->Option W
 | .bool b=>some (.bool (.lit b))
 | .int k n=>some (.int k (.lit n))
 | .string s=>some (.str (bytesOf s))
 | .pointer none=>some .tY
 | .slice none 0 0=>some .fZ
 | .map none=>some .rI
 | .nilFunc=>some .wG
 | .nilIface=>some .xA
 | .func fn f c=>if f.isEmpty&&c.isEmpty then some (.func fn [] []) else none
 |_=>none
def kU:List Value->Option (List W)
 |[]=>some []
 |v::vs=>match gI v with
  |none=>none
  |some a=>match kU vs with
   |none=>none
   |some alL=>some (a::alL)
def ofConst:Value->Option W
 | .agg cs=>(kU cs.toList).map .agg
 | .tuple vs=>(kU vs.toList).map .tuple
 |v=>gI v
def qi (a b:V):SB:=match eW a b with
 |true=> .lit true
 |false=>match a with
  | .ep _=> .eq b a
  |_=> .eq a b
def yo (x:V):V:=match x with
 | .op o a _=>match o with
   | .mk=>a
   |_=> .op .num x (.lit 0)
 | .ep d=>match d with
   | .i n=> .lit n
   |_=> .op .num x (.lit 0)
 |_=> .op .num x (.lit 0)
def mW (x:V):V:=match x with
 | .lit n=> .ep (.i n)
 |x=> .op .mk x (.lit 0)
def iO (j:Nat) (x:V):V:=match x with
 | .op o a b=>match o with
   | .cons=>match j with
     |0=>a
     |j+1=>iO j b
   |_=> .op (.cell j) x (.lit 0)
 |_=> .op (.cell j) x (.lit 0)
def dR (x:V):V:=match x with
 | .op o a _=>match o with
   | .set=>dR a
   |_=> .op .len x (.lit 0)
 | .ep d=> .lit (Int.ofNat d.l.length)
 |_=> .op .len x (.lit 0)
def eD (a b:V):V:=.op .cons a b
def N8 (x:V):Bool:=match x with
 | .ep d=>match d with
   | .i n=>uL n 0
   |_=>false
 |_=>false
def vk (c:CK) (x:V):W:=match c with
 | .int k=> .int k (yo x)
 | .bool=> .bool (.not (.eq (yo x) (.lit 0)))
 | .str=> .jP x
 | .sl t=> .ep x t
def iz:List CK->Nat->V->List W
 |[],_,_=>[]
 |c::cs,j,x=>vk c (iO j x)::iz cs (j+1) x
def gL (r:Row) (x:V):List W:=match r with
 | .one c=>[vk c x]
 | .many cs=>iz cs 0 x
def mF (x:V):V:=match x with
 | .ep d=> .ep d
 | .op o a b=>match o with
   | .cell j=> .op (.cell j) a b
   | .at=> .op .at a b
   |o=> .op .norm (.op o a b) (.lit 0)
 |x=> .op .norm x (.lit 0)
def tE:W->Option V
 | .str l=>some (.ep (lA l))
 | .jP e=>some e
 |_=>none
def Bj (x y:W):Option SB:=match tE x with
 |none=>none
 |some a=>match tE y with
  |none=>none
  |some b=>some (qi (mF a) (mF b))
def nq (c:CK) (v:W):Option V:=match c with
 | .int k=>match v with
   | .int k' e=>if k=k' then some (mW e) else none
   |_=>none
 | .bool=>match v with
   | .bool c=>match c with
     | .lit b=>some (.ep (.i (if b then 1 else 0)))
     | .not d=>match d with
       | .eq x z=>match z with
         | .lit n=>if n=0 then some (.op .bit (mW x) (.lit 0)) else none
         |_=>none
       |_=>none
     |_=>none
   |_=>none
 | .str=>tE v
 | .sl t=>match v with
   | .ep e t'=>if t=t' then some e else none
   | .fZ=>some (.ep (.i 1))
   | .xg z t'=>if t=t' then some z else none
   | .slice _ _ n _=>match n with
     |0=>some (.ep (.i 2))
     |_=>none
   |_=>none
def iy:List CK->List W->Option V
 |[],[]=>some (.ep (.i 0))
 |c::cs,v::vs=>match nq c v with
  |none=>none
  |some a=>match iy cs vs with
   |none=>none
   |some b=>some (eD a b)
 |_,_=>none
def qF (r:Row) (cs:List W):Option V:=match r with
 | .one c=>match cs with
   |[v]=>nq c v
   |_=>none
 | .many ks=>iy ks cs
def kM (r:Row) (e:V):Nat->List W->Option V
 |0,[]=>some e
 |0,_::_=>none
 |m+1,cs=>match qF r (cs.take r.es) with
  |none=>none
  |some x=>kM r (.op .snoc e x) m (cs.drop r.es)
structure St where
 bD:Tr W
 h:Hp
 pc:List (SB×Bool)
 deriving Inhabited
def St.set (s:St) (t:Nat) (v:W):St:={ s with bD:=s.bD.put t (some v) }
def St.KG (s:St) (d:Option Nat) (v:W):St:=match d with |some t=>s.set t v|none=>s
def ev (s:St):Operand->Option W
 | .tmp t=>s.bD.get t
 | .const v=>ofConst v
 | .func f=>some (.func (.func f) [] [])
 | .global _=>none
def evs (s:St):List Operand->Option (List W)
 |[]=>some []
 |x::xs=>match ev s x with
  |none=>none
  |some a=>match evs s xs with
   |none=>none
   |some alL=>some (a::alL)
def oe:SB->SB->Bool
 | .lit a,.lit b=>a == b
 | .lt a b,.lt c d=>match eW a c with |true=>eW b d|false=>false
 | .le a b,.le c d=>match eW a c with |true=>eW b d|false=>false
 | .eq a b,.eq c d=>match eW a c with |true=>eW b d|false=>false
 | .not a,.not b=>oe a b
 | .and a b,.and c d=>match oe a c with |true=>oe b d|false=>false
 |_,_=>false
theorem rB: ∀(a b:SB),oe a b=true->a=b
 | .lit a,b,h=>by cases b<;>simp [oe] at h; rw [h]
 | .lt a b,c,h=>by cases c<;>simp only [oe,aK] at h; split at h<;>first |(rename_i U; rw [cM _ _ U,cM _ _ h]; done)|simp at h
 | .le a b,c,h=>by cases c<;>simp only [oe,aK] at h; split at h<;>first |(rename_i U; rw [cM _ _ U,cM _ _ h]; done)|simp at h
 | .eq a b,c,h=>by cases c<;>simp only [oe,aK] at h; split at h<;>first |(rename_i U; rw [cM _ _ U,cM _ _ h]; done)|simp at h
 | .not a,c,h=>by cases c<;>simp only [oe,aK] at h; rw [rB _ _ h]
 | .and a b,c,h=>by cases c<;>simp only [oe,aK] at h; split at h<;>first |(rename_i U; rw [rB _ _ U,rB _ _ h]; done)|simp at h
def ng (c:SB):List (SB×Bool)->Option Bool
 |[]=>none
 |(d,b)::l=>match oe c d with
  |true=>some b
  |false=>ng c l
def XF (a:Option Int) (z:Int):Option Int:=match a with
 |none=>some z
 |some y=>some (if y<z then z else y)
def XD (a:Option Int) (z:Int):Option Int:=match a with
 |none=>some z
 |some y=>some (if z<y then z else y)
def Xr (a:Option Int) (z:Int):Option Int:=match a with
 |none=>none
 |some y=>some (if y=z then z+1 else y)
def Xt (a:Option Int) (z:Int):Option Int:=match a with
 |none=>none
 |some y=>some (if y=z then z-1 else y)
def SI (e:V):Option Int×Option Int:=match e with
 | .rem a c=>match c with
   | .lit k=>match a with
     | .add b d=>match d with
       | .lit m=>match b with
         | .rem _ f=>match f with
           | .lit n=>if 0<n/\n=m/\m=k then (some 0,some (n-1)) else (none,none)
           |_=>(none,none)
         |_=>(none,none)
       |_=>(none,none)
     |_=>(none,none)
   |_=>(none,none)
 | .op o _ _=>match o with
   | .len=>(some 0,none)
   |_=>(none,none)
 |_=>(none,none)
def bounds (e:V):List (SB×Bool)->Option Int×Option Int
 |[]=>SI e
 |(c,v)::l=>match c with
  | .lt x y=>match x with
    | .lit z=>match eW y e with
      |false=>bounds e l
      |true=>match bounds e l with
       |(lo,hi)=>match v with
        |true=>(XF lo (z+1),hi)
        |false=>(lo,XD hi z)
    |x=>match y with
     | .lit z=>match eW x e with
       |false=>bounds e l
       |true=>match bounds e l with
        |(lo,hi)=>match v with
         |true=>(lo,XD hi (z-1))
         |false=>(XF lo z,hi)
     |_=>bounds e l
  | .eq x y=>match y with
    | .lit z=>match v with
      |false=>match eW x e with
       |false=>bounds e l
       |true=>match bounds e l with
        |(lo,hi)=>(Xr lo z,Xt hi z)
      |true=>match eW x e with
       |false=>bounds e l
       |true=>(some z,some z)
    |_=>bounds e l
  |_=>bounds e l
def oL (e:V) (pc:List (SB×Bool)):Option Int×Option Int:=match e with
 | .wrap k s=>match k with
   | .i64=>match s with
     | .add b d=>match d with
       | .lit c=>match bounds b pc with
         |(some lo,some hi)=>if -9223372036854775808<=lo+c/\hi+c<=9223372036854775807 then (match bounds e pc with
          |(l2,Z)=>(XF l2 (lo+c),XD Z (hi+c))) else bounds e pc
         |_=>bounds e pc
       |_=>bounds e pc
     |_=>bounds e pc
   |_=>bounds e pc
 |_=>bounds e pc
def QN (a b:V) (pc:List (SB×Bool)):Option Bool:=match ng (.eq a b) pc with
 |some v=>some v
 |none=>ng (.eq b a) pc
def decLt (pc:List (SB×Bool)) (a b:V):Option Bool:=match ng (.lt a b) pc with
 |some v=>some v
 |none=>match a with
  | .lit z=>match oL b pc with
    |(lo,hi)=>match lo with
     |some l=>if z<l then some true else match hi with
      |some h=>if h<=z then some false else none
      |none=>none
     |none=>match hi with
      |some h=>if h<=z then some false else none
      |none=>none
  |a=>match b with
   | .lit z=>match oL a pc with
     |(lo,hi)=>match hi with
      |some h=>if h<z then some true else match lo with
       |some l=>if z<=l then some false else none
       |none=>none
      |none=>match lo with
       |some l=>if z<=l then some false else none
       |none=>none
   |b=>match QN a b pc with
    |some true=>some false
    |some false=>match ng (.lt b a) pc with
     |some v=>some !v
     |none=>none
    |none=>match ng (.lt b a) pc with
     |some true=>some false
     |_=>none
def decEq (pc:List (SB×Bool)) (a b:V):Option Bool:=match QN a b pc with
 |some v=>some v
 |none=>match b with
  | .lit z=>match oL a pc with
    |(lo,hi)=>match lo with
     |some l=>if z<l then some false else match hi with
      |some h=>if h<z then some false else if l=z/\h=z then some true else none
      |none=>none
     |none=>match hi with
      |some h=>if h<z then some false else none
      |none=>none
  |b=>match ng (.lt a b) pc with
   |some true=>some false
   |some false=>match ng (.lt b a) pc with
    |some v=>some !v
    |none=>none
   |none=>match ng (.lt b a) pc with
    |some true=>some false
    |_=>none
def jM:V->Option (Sum Int D)
 | .lit n=>some (.inl n)
 | .ep d=>some (.inr d)
 | .op o a b=>match o with
   | .num=>match jM a with
     |some (.inr d)=>some (.inl d.n)
     |_=>none
   | .mk=>match jM a with
     |some (.inl n)=>some (.inr (.i n))
     |_=>none
   | .cons=>match jM a,jM b with
     |some (.inr x),some (.inr y)=>some (.inr (.p x y))
     |_,_=>none
   | .DJ=>match jM a,jM b with
     |some (.inr x),some (.inr y)=>some (.inr ((eN x.l y).getD (.i 0)))
     |_,_=>none
   | .xB=>match jM a,jM b with
     |some (.inr x),some (.inr (.p k v))=>some (.inr (dL (jO x.l k v)))
     |_,_=>none
   | .B5=>match jM a,jM b with
     |some (.inr x),some (.inr y)=>some (.inr (dL (rM x.l y)))
     |_,_=>none
   | .K9=>match jM a,jM b with
     |some (.inr x),some (.inr y)=>some (.inl (if (eN x.l y).isSome then 1 else 0))
     |_,_=>none
   | .norm=>match jM a with
     |some (.inr x)=>some (.inr x)
     |_=>none
   |_=>none
 | .wrap k a=>match jM a with
   |some (.inl n)=>some (.inl (rY k n))
   |_=>none
 | .mul a b=>match jM a,jM b with
   |some (.inl x),some (.inl y)=>some (.inl (x*y))
   |_,_=>none
 | .quo a b=>match jM a,jM b with
   |some (.inl x),some (.inl y)=>some (.inl (x.tdiv y))
   |_,_=>none
 | .rem a b=>match jM a,jM b with
   |some (.inl x),some (.inl y)=>some (.inl (x.tmod y))
   |_,_=>none
 |_=>none
def CR (pc:List (SB×Bool)) (c:SB):Option Bool:=
 match c with
 | .lit b=>some b
 | .lt a b=>match jM a,jM b with
   |some (.inl x),some (.inl y)=>some (decide (x<y))
   |_,_=>decLt pc a b
 | .eq a b=>match jM a,jM b with
   |some (.inl x),some (.inl y)=>some (decide (x=y))
   |_,_=>decEq pc a b
 |c=>ng c pc
def jY (pc:List (SB×Bool)) (c:SB):Option Bool:=
 match c with
 | .not s=>(CR pc s).map (!·)
 |c=>CR pc c
def jN {α:Type} (s:St) (c:SB) (f:St->Bool->T α):T α:=
 match jY s.pc c with
 |some b=>f s b
 |none=>match c with
  | .not d=> .split d (f { s with pc:=(d,true)::s.pc } false) (f { s with pc:=(d,false)::s.pc } true)
  |c=> .split c (f { s with pc:=(c,true)::s.pc } true) (f { s with pc:=(c,false)::s.pc } false)
def W5 (k:IntKind):V->V->V
 | .lit x,.lit y=> .lit (rY k (x+y))
 |a,b=> .wrap k (.add a b)
def P0 (k:IntKind):V->V->V
 | .lit x,.lit y=> .lit (rY k (x-y))
 |a,b=> .wrap k (.sub a b)
def W4 (k:IntKind):V->V->V
 | .lit x,.lit y=> .lit (rY k (x*y))
 |a,b=> .wrap k (.mul a b)
def ig:V->V->SB
 | .lit x,.lit y=> .lit (decide (x<y))
 |a,b=> .lt a b
def M!:V->V->SB
 | .lit x,.lit y=> .lit (decide (x<=y))
 |a,b=> .not (.lt b a)
def qM:V->V->SB
 | .lit x,.lit y=> .lit (x == y)
 | .lit x,b=> .eq b (.lit x)
 |a,b=>match eW a b with
  |true=> .lit true
  |false=> .eq a b
def wU:SB->SB
 | .lit b=> .lit !b
 | .not s=>s
 |s=> .not s
def W7:SB->SB->SB
 | .lit true,b=>b
 | .lit false,_=> .lit false
 |a,.lit true=>a
 |_,.lit false=> .lit false
 |a,b=> .and a b
def bytesLess:List Nat->List Nat->Bool
 |_,[]=>false
 |[],_::_=>true
 |a::x,b::y=>if a.blt b then true else if a.beq b then bytesLess x y else false
def gR:List Nat->List Nat->Bool
 |[],[]=>true
 |a::x,b::y=>if a.beq b then gR x y else false
 |_,_=>false
def KC (op:BinOp) (x y:List Nat):Option W:=
 match op with
 | .add=>if x.length+y.length<=1000000 then some (.str (x++y)) else none
 | .eql=>some (.bool (.lit (gR x y)))
 | .neq=>some (.bool (.lit !(gR x y)))
 | .lss=>some (.bool (.lit (bytesLess x y)))
 | .leq=>some (.bool (.lit (bytesLess x y||gR x y)))
 | .gtr=>some (.bool (.lit !(bytesLess x y||gR x y)))
 | .geq=>some (.bool (.lit !(bytesLess x y)))
 |_=>none
def Rh (op:BinOp) (k:IntKind) (a b:V):Option W:=
 match op with
 | .add=>some (.int k (W5 k a b))
 | .sub=>some (.int k (P0 k a b))
 | .mul=>some (.int k (W4 k a b))
 | .quo=>match a,b with
   | .lit x,.lit y=>if y=0 then none else some (.int k (.lit (rY k (x.tdiv y))))
   |a,.lit y=>if y=0 then none else some (.int k (.wrap k (.quo a (.lit y))))
   |_,_=>none
 | .rem=>match a,b with
   | .lit x,.lit y=>if y=0 then none else some (.int k (.lit (x.tmod y)))
   |a,.lit y=>if y=0 then none else some (.int k (.rem a (.lit y)))
   |_,_=>none
 | .shr=>match a,b with
   | .lit x,.lit y=>if y<0 then none else some (.int k (.lit (x.fdiv (2 ^ (min y.toNat k.bits)))))
   |_,_=>none
 | .eql=>some (.bool (qM a b))
 | .neq=>some (.bool (wU (qM a b)))
 | .lss=>some (.bool (ig a b))
 | .leq=>some (.bool (M! a b))
 | .gtr=>some (.bool (ig b a))
 | .geq=>some (.bool (M! b a))
 |_=>none
def eZ {α:Type}:List α->Nat->Option α
 |[],_=>none
 |x::_,0=>some x
 |_::xs,n+1=>eZ xs n
def CO (a b:SB):Option SB:=
 match a,b with
 | .lit x,.lit y=>some (.lit (x == y))
 | .lit x,b=>some (if x then b else wU b)
 |a,.lit y=>some (if y then a else wU a)
 |a,b=>some (.not (.and (.not (.and a b)) (.not (.and (.not a) (.not b)))))
def O1 (k:TK) (x y:W):Option SB:=
 match k with
 | .int _=>match x,y with
   | .int k a,.int k' b=>if k=k' then some (qM a b) else none
   |_,_=>none
 | .string=>match x,y with
   | .str a,.str b=>some (.lit (gR a b))
   |x,y=>Bj x y
 | .bool=>match x,y with
   | .bool a,.bool b=>CO a b
   |_,_=>none
 |_=>none
def YO (tt:TT) (xs ys:List W):List (Nat×Nat×Nat)->Option SB
 |[]=>some (.lit true)
 |(off,ft,_)::fs=>match tt ft with
  |none=>none
  |some i=>match eZ xs off,eZ ys off with
   |some x,some y=>match O1 i.kind x y with
    |none=>none
    |some c=>match YO tt xs ys fs with
     |none=>none
     |some d=>some (W7 c d)
   |_,_=>none
def CM (tt:TT) (t:Nat) (xs ys:List W):Option SB:=
 match tt t with
 |none=>none
 |some i=>match i.kind with
  | .struct fs=>if i.eqs then YO tt xs ys fs else none
  |_=>none
def ky:W->Option Int
 | .int _ (.lit n)=>some n
 |_=>none
def isNil (k:TK) (x:W):Option Bool:=
 match k with
 | .slice _=>match x with
   | .fZ=>some true
   | .slice _ _ _ _=>some false
   | .ro _ _ _=>some false
   | .pb _ _ _=>some false
   |_=>none
 | .pointer _=>match x with
   | .tY=>some true
   | .ptr _ _=>some false
   | .mY _=>some false
   |_=>none
 | .map _ _=>match x with
   | .rI=>some true
   | .map _=>some false
   |_=>none
 |_=>none
def afB (k:TK) (x y:W):Option SB:=
 match k with
 | .bool=>match x,y with
   | .bool a,.bool b=>CO a b
   |_,_=>none
 |k=>match isNil k x,isNil k y with
  |some true,some b=>some (.lit b)
  |some false,some true=>some (.lit false)
  |_,_=>none
def Ie (op:BinOp) (c:Option SB):Option W:=match c with
 |none=>none
 |some c=>match op with
  | .eql=>some (.bool c)
  | .neq=>some (.bool (.not c))
  |_=>none
def YN (tt:TT) (t:Nat) (op:BinOp) (x y:W):Option W:=
 match x with
 | .int k a=>match y with
   | .int k' b=>match op with
     | .shr=>Rh op k a b
     | .shl=>none
     |_=>if k=k' then Rh op k a b else none
   |_=>none
 | .str a=>match y with
   | .str b=>KC op a b
   | .jP e=>Ie op (Bj (.str a) (.jP e))
   |_=>none
 | .jP e=>Ie op (Bj (.jP e) y)
 |_=>match tt t with
  |none=>none
  |some i=>match op,afB i.kind x y with
   | .eql,some c=>some (.bool c)
   | .neq,some c=>some (.bool (wU c))
   |_,_=>none
def afz (op:UnOp) (x:W):Option W:=
 match op,x with
 | .not,.bool b=>some (.bool (wU b))
 | .neg,.int k e=>some (.int k (P0 k (.lit 0) e))
 |_,_=>none
def iA {α:Type}:Nat->List α->Option (List α)
 |0,_=>some []
 |_+1,[]=>none
 |n+1,x::xs=>match iA n xs with
  |some l=>some (x::l)
  |none=>none
def eL {α:Type}:Nat->List α->Option (List α)
 |0,l=>some l
 |_+1,[]=>none
 |n+1,_::xs=>eL n xs
def dX:List W->Nat->List W->Option (List W)
 |cs,0,[]=>some cs
 |[],0,_::_=>none
 |_::cs,0,v::vs=>match dX cs 0 vs with
  |some l=>some (v::l)
  |none=>none
 |[],_+1,_=>none
 |c::cs,n+1,vs=>match dX cs n vs with
  |some l=>some (c::l)
  |none=>none
def ra:List W->Bool
 |[]=>true
 |v::vs=>v.one&&ra vs
def mJ (h:Hp) (p:W) (n:Nat):Option (List W):=
 match p with
 | .ptr id off=>match h.get id with
   |some (.cells cs _)=>match eL off cs with
    |some l=>iA n l
    |none=>none
   |_=>none
 | .mY cs=>iA n cs
 |_=>none
def A1 (tt:TT) (t:Nat) (p:W) (h:Hp):Option W:=
 match tt t with
 |none=>none
 |some i=>match i.agg with
  |true=>(mJ h p i.size).map .agg
  |false=>match mJ h p 1 with
   |some (v::_)=>some v
   |_=>none
def Jn (tt:TT) (t:Nat) (p v:W) (h:Hp):Option Hp:=
 match tt t with
 |none=>none
 |some i=>
  if v.cells.length=i.size&&ra v.cells then
   match p with
   | .ptr id off=>match h.get id with
     |some (.cells cs e)=>match dX cs off v.cells with
      |some lS=>some (h.put id (.cells lS e))
      |none=>none
     |_=>none
   |_=>none
  else none
def td (place:Nat->Option (Nat×Nat)) (cs:List W):List (Nat×W)->Option (List W)
 |[]=>some cs
 |(i,v)::rest=>match place i with
  |none=>none
  |some (off,size)=>
   if v.cells.length=size&&ra v.cells then
    match dX cs off v.cells with
    |some lS=>td place lS rest
    |none=>none
   else none
def iB (tt:TT) (t:Nat):Option Nat:=(tt t).map (·.size)
def JC (tt:TT) (t:Nat) (parts:List (Nat×W)):Option W:=
 match tt t with
 |some i=>match i.kind with
  | .struct fs=>(td (fun j=>(eZ fs j).map fun f=>(f.1,f.2.2)) i.zero parts).map .agg
  | .array _ e=>match iB tt e with
    |some s=>(td (fun j=>some (j*s,s)) i.zero parts).map .agg
    |none=>none
  |_=>none
 |none=>none
def dO {α:Type} (l:List α):Nat->List α
 |0=>[]
 |n+1=>l++dO l n
def tg (tt:TT) (t len:Nat) (parts:List (Nat×W)) (h:Hp):Option (W×Hp):=
 match tt t with
 |some i=>match i.kind with
  | .slice e=>match tt e with
    |some ie=>
     if len<=1000/\ie.size<=1000/\ie.zero.length=ie.size then
      match td (fun j=>some (j*ie.size,ie.size)) (dO ie.zero len) parts with
      |some cs=>some (.slice h.fresh 0 len (.exact len),h.new (.cells cs e))
      |none=>none
     else none
    |none=>none
  |_=>none
 |none=>none
def qC (tt:TT) (t:Nat) (l c:W) (h:Hp):Option (W×Hp):=
 match ky l with
 |some (.ofNat n)=>match ky c with
  |some (.ofNat m)=>match tt t with
   |some i=>match i.kind with
    | .slice e=>match tt e with
      |some ie=>
       if n<=m/\m<=1000/\ie.size<=1000/\ie.bytes<=1000000/\ie.zero.length=ie.size then
        some (.slice h.fresh 0 n (.exact m),h.new (.cells (dO ie.zero m) e))
       else none
      |none=>none
    |_=>none
   |none=>none
  |_=>none
 |_=>none
def QK (off:Nat) (x:W):Option W:=match x with
 | .ptr id o=>some (.ptr id (o+off))
 | .zG id es i o=>some (.zG id es i (o+off))
 | .mY cs=>(eL off cs).map .mY
 |_=>none
def partOf (i:TI) (l:List W):Option W:=match i.agg with
 |true=>(iA i.size l).map .agg
 |false=>match l with
  |v::_=>some v
  |[]=>none
def ve (tt:TT) (t:Nat) (p:W) (f:Nat):Option W:=
 match tt t with
 |some i=>match i.kind with
  | .struct fs=>match eZ fs f with
    |some (off,_,size)=>match size with
     |0=>none
     |_=>QK off p
    |none=>none
  |_=>none
 |none=>none
def Ju (tt:TT) (t:Nat) (x:W) (f:Nat):Option W:=
 match tt t with
 |some i=>match i.kind with
  | .struct fs=>match eZ fs f with
    |some (off,ft,_)=>match tt ft,x with
     |some fi,.agg cs=>match eL off cs with
      |some l=>partOf fi l
      |none=>none
     |_,_=>none
    |none=>none
  |_=>none
 |none=>none
def nV (tt:TT) (t:Nat) (x ix:W):Option W:=
 match ky ix with
 |some (.ofNat i)=>match tt t with
  |some ti=>match ti.kind with
   | .array n e=>if i<n then match iB tt e with
    |some s=>QK (i*s) x
    |none=>none
    else none
   | .slice e=>match iB tt e with
     |some s=>match x with
      | .slice id o len _=>if i<len then some (.ptr id (o+i*s)) else none
      | .ro cs n _=>if i<n then (eL (i*s) cs).map .mY else none
      |_=>none
     |none=>none
   |_=>none
  |none=>none
 |_=>none
def uM (k:Nat) (e:V):List IntKind->Nat->List W
 |[],_=>[]
 |kd::ks,j=> .int kd (.wI (k*8+j) e)::uM k e ks (j+1)
def Js (tt:TT) (pc:List (SB×Bool)) (t k:Nat) (ks:List IntKind) (ix:W):Option W:=
 match ix with
 | .int _ e=>match tt t with
   |some ti=>match ti.kind with
    | .slice el=>match iB tt el with
      |some s=>if s=ks.length/\k<8/\s<=8 then match jY pc (ig e (.lit 0)),jY pc (ig e (.dD (900+k))) with
       |some false,some true=>some (.mY (uM k e ks 0))
       |_,_=>none
       else none
      |none=>none
    |_=>none
   |none=>none
 |_=>none
def zA (tt:TT) (t:Nat) (x ix:W):Option W:=
 match ky ix with
 |some (.ofNat i)=>match tt t with
  |some ti=>match ti.kind,x with
   | .string,.str s=>(eZ s i).map fun b=> .int .u8 (.lit (Int.ofNat b))
   | .array n e,.agg cs=>if i<n then match tt e with
    |some ie=>match eL (i*ie.size) cs with
     |some l=>partOf ie l
     |none=>none
    |none=>none
    else none
   |_,_=>none
  |none=>none
 |_=>none
def nD (x:Option W) (d:Nat) (y:Nat):Option Nat:=
 match x with
 |none=>if d<=y then some d else none
 |some v=>match ky v with
  |some (.ofNat i)=>if i<=y then some i else none
  |_=>none
def zr (tt:TT) (t:Nat) (x:W) (lo hi mx:Option W):Option W:=
 match tt t with
 |none=>none
 |some ti=>match ti.kind with
  | .string=>match x,mx with
    | .str s,none=>match nD hi s.length s.length with
      |some h=>match nD lo 0 h with
       |some l=>some (.str ((s.take h).drop l))
       |none=>none
      |none=>none
    |_,_=>none
  | .slice e=>match iB tt e with
    |none=>none
    |some s=>match x with
     | .fZ=>if mx.isSome&&hi.isNone then none else match nD hi 0 0,nD lo 0 0,nD mx 0 0 with
       |some _,some _,some _=>some .fZ
       |_,_,_=>none
     | .slice id o len (.exact c)=>if mx.isSome&&hi.isNone then none else match nD mx c c with
       |none=>none
       |some m=>match nD hi len m with
        |none=>none
        |some h=>match nD lo 0 h with
         |none=>none
         |some l=>some (.slice id (o+l*s) (h-l) (.exact (m-l)))
     | .slice id o len (.rest es)=>match mx with
       |none=>match nD hi len len with
        |none=>none
        |some h=>match nD lo 0 h with
         |none=>none
         |some l=>if es=s then some (.slice id (o+l*s) (h-l) (.rest es)) else none
       |some _=>match hi,nD mx 0 len with
        |none,_=>none
        |_,none=>none
        |some _,some m=>match nD hi 0 m with
         |none=>none
         |some h=>match nD lo 0 h with
          |none=>none
          |some l=>some (.slice id (o+l*s) (h-l) (.exact (m-l)))
     | .ro cs n full=>match mx with
       |none=>match nD hi n n with
        |none=>none
        |some h=>match nD lo 0 h with
         |none=>none
         |some l=>match eL (l*s) cs with
          |none=>none
          |some d=>match iA ((h-l)*s) d with
           |none=>none
           |some d'=>some (.ro d' (h-l) (full&&h == n))
       |some _=>match hi,nD mx 0 n with
        |none,_=>none
        |_,none=>none
        |some _,some m=>match nD hi 0 m with
         |none=>none
         |some h=>match nD lo 0 h with
          |none=>none
          |some l=>match eL (l*s) cs with
           |none=>none
           |some d=>match iA ((h-l)*s) d with
            |none=>none
            |some d'=>some (.ro d' (h-l) (h == m))
     |_=>none
  | .array n e=>match iB tt e with
    |none=>none
    |some s=>match x with
     | .ptr id o=>if mx.isSome&&hi.isNone then none else match nD mx n n with
       |none=>none
       |some m=>match nD hi n m with
        |none=>none
        |some h=>match nD lo 0 h with
         |none=>none
         |some l=>some (.slice id (o+l*s) (h-l) (.exact (m-l)))
     |_=>none
  |_=>none
def Eu (tt:TT) (t:Nat) (x:W) (lo hi mx:Option W) (h:Hp):Option W:=
 match mx with
 |some _=>none
 |none=>match tt t with
  |none=>none
  |some ti=>match ti.kind with
   | .slice e=>match iB tt e with
     |none=>none
     |some s=>match x with
      | .slice id o len (.rest es)=>if es=s/\0<s then match h.get id with
       |some (.cells cs _)=>match nD hi len ((cs.length-o) / s) with
        |none=>none
        |some hh=>match nD lo 0 hh with
         |none=>none
         |some l=>some (.slice id (o+l*s) (hh-l) (.rest es))
       |_=>none
       else none
      |_=>none
   |_=>none
def vm:List W->Option (List Nat)
 |[]=>some []
 | .int .u8 (.lit (.ofNat b))::xs=>if b<256 then match vm xs with
  |some l=>some (b::l)
  |none=>none
  else none
 |_::_=>none
def oV (tt:TT) (sT dT:Nat) (x:W) (h:Hp):Option (W×Hp):=
 match tt sT with
 |none=>none
 |some j=>match tt dT with
 |some i=>match i.kind with
  | .int k=>match x with
    | .int _ (.lit n)=>some (.int k (.lit (rY k n)),h)
    | .int _ e=>some (.int k (.wrap k e),h)
    |_=>none
  | .string=>match j.kind with
   | .string=>match x with
     | .str s=>some (.str s,h)
     |_=>none
   | .slice e=>match tt e with
     |none=>none
     |some ie=>if ie.kind= .int .u8/\ie.size=1 then match x with
      | .fZ=>some (.str [],h)
      | .slice id o len _=>match mJ h (.ptr id o) len with
        |some cs=>(vm cs).map fun l=>(.str l,h)
        |none=>none
      |_=>none
      else none
   |_=>none
  | .slice e=>match tt e with
    |none=>none
    |some ie=>if ie.kind= .int .u8/\j.kind= .string then match x with
     | .str s=>some (.slice h.fresh 0 s.length (.rest 1),h.new (.cells (s.map fun c=> .int .u8 (.lit (Int.ofNat c))) e))
     |_=>none
     else none
  |_=>none
 |none=>none
def Rb (pc:List (SB×Bool)) (kk:TK) (a b:W):Option Bool:=
 match kk with
 | .int _=>match a,b with
   | .int k x,.int k' y=>if k=k' then jY pc (qM x y) else none
   |_,_=>none
 | .string=>match a,b with
   | .str x,.str y=>some (gR x y)
   |x,y=>match Bj x y with
    |some c=>jY pc c
    |none=>none
 | .bool=>match a,b with
   | .bool (.lit x),.bool (.lit y)=>some (x == y)
   |_,_=>none
 |_=>none
def BL (pc:List (SB×Bool)) (kk:TK) (k:W):List (W×W×Nat)->Nat->Option (Option (Nat×W))
 |[],_=>some none
 |(k',v,_)::es,i=>match Rb pc kk k k' with
  |some true=>some (some (i,v))
  |some false=>BL pc kk k es (i+1)
  |none=>none
def mE (k v:W):List (W×W×Nat)->Nat->List (W×W×Nat)
 |[],_=>[]
 |(_,_,b)::es,0=>(k,v,b)::es
 |e::es,n+1=>e::mE k v es n
def jH {α:Type}:List α->Nat->List α
 |[],_=>[]
 |_::xs,0=>xs
 |x::xs,n+1=>x::jH xs n
def vT (tt:TT) (t:Nat):Option TK:=match tt t with
 |some i=>match i.kind with
  | .int k=>some (.int k)
  | .string=>some .string
  | .bool=>some .bool
  |_=>none
 |none=>none
def zeroOf (i:TI):Option W:=
 match i.agg with
 |true=>some (.agg i.zero)
 |false=>match i.zero with
  |[v]=>some v
  |_=>none
def IF (m:W) (h:Hp):Option (List (W×W×Nat)):=match m with
 | .rI=>some []
 | .map id=>match h.get id with
   |some (.map es _)=>some es
   |_=>none
 |_=>none
def Ey (tt:TT) (pc:List (SB×Bool)) (t:Nat) (m k:W) (ok:Bool) (h:Hp):Option W:=
 match tt t with
 |some ti=>match ti.kind with
  | .map kt et=>
    match vT tt kt with
    |none=>none
    |some kk=>
     match tt et with
     |none=>none
     |some ie=>
      match IF m h with
      |none=>none
      |some es=>match BL pc kk k es 0 with
       |none=>none
       |some (some (_,v))=>some (if ok then .tuple [v,.bool (.lit true)] else v)
       |some none=>match zeroOf ie with
        |none=>none
        |some z=>some (if ok then .tuple [z,.bool (.lit false)] else z)
  |_=>none
 |none=>none
def qB (tt:TT) (pc:List (SB×Bool)) (t:Nat) (m k v:W) (h:Hp):Option Hp:=
 match tt t with
 |some ti=>match ti.kind with
  | .map kt _=>
    match vT tt kt with
    |none=>none
    |some kk=>match m with
     | .map id=>match h.get id with
       |some (.map es c)=>match BL pc kk k es 0 with
        |none=>none
        |some (some (i,_))=>some (h.put id (.map (mE k v es i) c))
        |some none=>some (h.put id (match c with
         |0=> .map (es++ [(k,v,0)]) 0
         |c+1=> .map (es++ [(k,v,c)]) (c+2)))
       |_=>none
     |_=>none
  |_=>none
 |none=>none
def EB (tt:TT) (pc:List (SB×Bool)) (t:Nat) (m k:W) (h:Hp):Option Hp:=
 match tt t with
 |some ti=>match ti.kind with
  | .map kt _=>
    match vT tt kt with
    |none=>none
    |some kk=>match m with
     | .rI=>some h
     | .map id=>match h.get id with
       |some (.map es c)=>match BL pc kk k es 0 with
        |none=>none
        |some (some (i,_))=>some (h.put id (.map (jH es i) c))
        |some none=>some (h.put id (.map es c))
       |_=>none
     |_=>none
  |_=>none
 |none=>none
def YK (tt:TT) (t:Nat) (x:W) (h:Hp):Option W:=
 let n (k:Nat):Option W:=some (.int .i64 (.lit (Int.ofNat k)))
 match tt t with
 |some ti=>match ti.kind with
  | .string=>match x with
    | .str s=>n s.length
    | .jP e=>some (.int .i64 (dR e))
    |_=>none
  | .slice _=>match x with
    | .fZ=>n 0
    | .emp=>n 0
    | .xg _ _=>n 0
    | .slice _ _ len _=>n len
    | .ro _ k _=>n k
    | .ep e _=>some (.int .i64 (dR e))
    | .pb _ e _=>some (.int .i64 e)
    | .tV _ _ e _=>some (.int .i64 e)
    | .wI k _=>some (.int .i64 (.dD (900+k)))
    |_=>none
  | .array k _=>n k
  | .map _ _=>match x with
    | .rI=>n 0
    | .map id=>match h.get id with
      |some (.map es _)=>n es.length
      |some (.j6 e _)=>some (.int .i64 (dR e))
      |some (.tT e _ _ _)=>some (.int .i64 (dR e))
      |_=>none
    |_=>none
  |_=>none
 |none=>none
def ru (s:Nat) (x:W) (h:Hp):Option (Nat×List W):=
 match x with
 | .fZ=>some (0,[])
 | .slice id o len _=>(mJ h (.ptr id o) (len*s)).map fun l=>(len,l)
 | .ro cs n _=>(iA (n*s) cs).map fun l=>(n,l)
 | .str b=>if s=1 then some (b.length,b.map fun c=> .int .u8 (.lit (Int.ofNat c))) else none
 |_=>none
def ni (ie:TI) (e len m:Nat) (cs:List W) (h:Hp):Option (W×Hp):=
 if (len+m)*ie.bytes<=140737488355328 then some (.slice h.fresh 0 (len+m) (.rest ie.size),h.new (.cells cs e)) else none
def pQ (ie:TI) (e m:Nat) (news:List W) (x:W) (h:Hp):Option (W×Hp):=
 match x with
 | .fZ=>if m=0 then some (.fZ,h) else ni ie e 0 m news h
 | .slice id o len (.exact c)=>
   if len+m<=c then
    match h.get id with
    |some (.cells cs e')=>match dX cs (o+len*ie.size) news with
     |some lS=>some (.slice id o (len+m) (.exact c),h.put id (.cells lS e'))
     |none=>none
    |_=>none
   else match mJ h (.ptr id o) (len*ie.size) with
    |some old=>ni ie e len m (old++news) h
    |none=>none
 | .slice id o len (.rest es)=>
   if es=ie.size then
    match h.get id with
    |some (.cells cs e')=>
     if o+(len+m)*ie.size<=cs.length then
      match dX cs (o+len*ie.size) news with
      |some lS=>some (.slice id o (len+m) (.rest es),h.put id (.cells lS e'))
      |none=>none
     else if o+len*ie.size=cs.length/\e'=e then
      match eL o cs with
      |some old=>ni ie e len m (old++news) (h.drop id)
      |none=>none
     else none
    |_=>none
   else none
 | .ro cs n full=>
   if m=0 then some (.ro cs n full,h)
   else if full then match iA (n*ie.size) cs with
    |some old=>ni ie e n m (old++news) h
    |none=>none
   else none
 |_=>none
def EC (tt:TT) (t t2:Nat) (x y:W) (h:Hp):Option (W×Hp):=
 match tt t with
 |some ti=>match ti.kind with
  | .slice e=>match tt e with
    |some ie=>match tt t2 with
     |none=>none
     |some PM=>match PM.kind with
      | .int _=>none
      |_=>
       if ie.size=0\/ie.bytes=0\/¬ie.zero.length=ie.size then none else
       match ru ie.size y h with
       |none=>none
       |some (m,news)=>pQ ie e m news x h
    |none=>none
  |_=>none
 |none=>none
def Jz (tt:TT) (t:Nat) (x:W) (h:Hp):Option Hp:=
 match tt t with
 |some ti=>match ti.kind with
  | .slice e=>match tt e with
    |some ie=>match x with
     | .fZ=>some h
     | .xg _ _=>some h
     | .slice id o len _=>match len with
       |0=>some h
       |_=>match ie.zero with
        |[]=>none
        |_=>match h.get id with
         |some (.cells cs e')=>match dX cs o (dO ie.zero len) with
          |some lS=>some (h.put id (.cells lS e'))
          |none=>none
         |_=>none
     |_=>none
    |none=>none
  |_=>none
 |none=>none
def Jo (tt:TT) (t:Nat) (x:W) (h:Hp):Option (W×Hp):=
 match tt t with
 |some ti=>match ti.kind with
  | .string=>match x with
    | .str b=>some (.ptr h.fresh 0,h.new (.kg b 0))
    |_=>none
  | .map _ _=>match x with
    | .rI=>some (.ptr h.fresh 0,h.new (.jC none 0 [] 0))
    | .map id=>match h.get id with
      |some (.map _ (c+1))=>some (.ptr h.fresh 0,h.new (.jC (some id) c [] c))
      |_=>none
    |_=>none
  |_=>none
 |none=>none
def OK (x:W) (isS:Bool) (h:Hp):Option (W×Hp):=
 match isS with
 |false=>match x with
  | .ptr id 0=>match h.get id with
    |some (.jC none _ _ _)=>some (.tuple [.bool (.lit false)],h)
    |some (.jC (some m) since seen last)=>match h.get m with
     |some (.map [] (_+1))=>some (.tuple [.bool (.lit false)],h)
     |some (.map [(k,v,n)] (c+1))=>match seen with
      |[]=>if n<since then some (.tuple [.bool (.lit true),k,v],h.put id (.jC (some m) since [n] c)) else none
      |[y]=>if y=n/\n<last then some (.tuple [.bool (.lit false)],h) else none
      |_=>none
     |_=>none
    |_=>none
  |_=>none
 |true=>match x with
  | .ptr id 0=>match h.get id with
    |some (.kg b p)=>match eZ b p with
     |none=>some (.tuple [.bool (.lit false)],h)
     |some c=>if c<128 then some (.tuple [.bool (.lit true),.int .i64 (.lit (Int.ofNat p)),.int .i32 (.lit (Int.ofNat c))],h.put id (.kg b (p+1))) else none
    |_=>none
  |_=>none
def Jw (x:W) (h:Hp):Option W:=match x with
 | .ptr id 0=>match h.get id with
   |some (.jC (some m) _ [y] last)=>match h.get m with
    |some (.map [(k,v,n)] (c+1))=>if n=y/\c=last then some (.tuple [k,v]) else none
    |_=>none
   |_=>none
 |_=>none
def tb (mx:Bool):List W->V->IntKind->St->T (W×St)
 |[],a,k,s=> .ret (.int k a,s)
 | .int _ b::xs,a,k,s=>jN s (if mx then ig a b else ig b a) fun s c=>if c then tb mx xs b k s else tb mx xs a k s
 |_,_,_,_=> .fail
def aer (s:St) (q:Bool) (k:IntKind) (e d:V):T (W×St):=jN s (qM d (.lit 0)) fun s c=>match c with
 |true=> .fail
 |false=> .ret (.int k (match q with |true=> .wrap k (.quo e d)|false=> .rem e d),s)
def HV (s:St) (h:Option W) (k:Option W->St->T (W×St)):T (W×St):=match h with
 |some (.int .i64 e)=>jN s (qM e (.lit 0)) fun s c=>match c with
  |true=>k (some (.int .i64 (.lit 0))) s
  |false=> .fail
 |h=>k h s
def NP (op:BinOp) (a b:W):Option (Bool×IntKind×V×V):=
 match (match op with | .rem=>some false| .quo=>some true|_=>none) with
 |some q=>match a with
  | .int k e=>match b with
    | .int k' d=>match d with
      | .lit _=>none
      |d=>if k=k' then some (q,k,e,d) else none
    |_=>none
  |_=>none
 |none=>none
def ph (s:St) (v:Option W):T (W×St):=match v with |some v=> .ret (v,s)|none=> .fail
def NL (s:St) (h:Option Hp):T (W×St):=match h with |some h=> .ret (W.undef,{ s with h:=h })|none=> .fail
def Bp (s:St) (r:Option (W×Hp)):T (W×St):=match r with |some (v,h)=> .ret (v,{ s with h:=h })|none=> .fail
def Hs (s:St):Option Operand->Option (Option W)
 |none=>some none
 |some x=>(ev s x).map some
def wj (s:St):List (Nat×Operand)->Option (List (Nat×W))
 |[]=>some []
 |(i,x)::xs=>match ev s x with
  |none=>none
  |some a=>match wj s xs with
   |none=>none
   |some alL=>some ((i,a)::alL)
def yG {α:Type} (s:St) (i n:V) (f:St->T α):T α:=
 jN s (ig i (.lit 0)) fun s b=>match b with
  |true=> .fail
  |false=>jN s (ig i n) fun s b=>match b with
   |true=>f s
   |false=> .fail
def NW (tt:TT) (t:Nat) (a b:W):Option V:=match a with
 | .ep e _=>match b with
   | .fZ=>match tt t with
     |some ti=>match ti.kind with
      | .slice _=>some e
      |_=>none
     |none=>none
   |_=>none
 |_=>none
def Xz (s:St) (op:BinOp) (r:Bool):T (W×St):=match op with
 | .eql=> .ret (.bool (.lit r),s)
 | .neq=> .ret (.bool (.lit (!r)),s)
 |_=> .fail
def aeC (s:St) (e:V) (op:BinOp):T (W×St):=jN s (ig (.lit 0) (dR e)) fun s b=>match b with
 |true=>Xz s op false
 |false=>jN s (qi (mF e) (.ep (.i 1))) fun s b=>match b with
  |true=>Xz s op true
  |false=>jN s (qi (mF e) (.ep (.i 2))) fun s b=>match b with
   |true=>Xz s op false
   |false=> .fail
def aia (kk:TK) (a b:W):Option SB:=match kk with
 | .int _=>match a with
   | .int k x=>match b with
     | .int k' y=>if k=k' then some (qM x y) else none
     |_=>none
   |_=>none
 | .string=>Bj a b
 |_=>none
def tp {α:Type} (kk:TK) (k:W):List (W×W×Nat)->St->(St->T α)->T α
 |[],s,f=>f s
 |(k',_,_)::es,s,f=>match Rb s.pc kk k k' with
  |some b=>match b with
   |true=>f s
   |false=>tp kk k es s f
  |none=>match aia kk k k' with
   |some c=>jN s c fun s b=>match b with
    |true=>f s
    |false=>tp kk k es s f
   |none=>f s
def nG {α:Type} (tt:TT) (t:Nat) (m k:W) (s:St) (f:St->T α):T α:=match tt t with
 |some ti=>match ti.kind with
  | .map kt _=>match vT tt kt with
    |some kk=>match IF m s.h with
     |some es=>tp kk k es s f
     |none=>f s
    |none=>f s
  |_=>f s
 |none=>f s
def L5 (k:IntKind) (e:V) (f:W->St->T (W×St)):Nat->Nat->St->T (W×St)
 |0,_,_=> .fail
 |n+1,j,s=>match n with
  |0=>f (.int k (.lit (Int.ofNat j))) s
  |_=>jN s (qM e (.lit (Int.ofNat j))) fun s b=>match b with
   |true=>f (.int k (.lit (Int.ofNat j))) s
   |false=>L5 k e f n (j+1) s
def ai7 (tt:TT) (t:Nat) (x:W):Option Nat:=match tt t with
 |some ti=>match ti.kind with
  | .array n _=>if n<=64 then some n else none
  | .slice _=>match x with
    | .slice _ _ len _=>if len<=64 then some len else none
    |_=>none
  |_=>none
 |none=>none
def HL (tt:TT) (t:Nat) (x ix:W) (s:St) (f:W->St->T (W×St)):T (W×St):=match ky ix with
 |some _=>f ix s
 |none=>match ix with
  | .int k e=>match ai7 tt t x with
    |some n=>yG s e (.lit (Int.ofNat n)) fun s=>L5 k e f n 0 s
    |none=> .fail
  |_=> .fail
def tj (tt:TT) (ty:Nat):Option Nat:=match tt ty with
 |some ti=>match ti.kind with
  | .slice el=>iB tt el
  |_=>none
 |none=>none
def Jy (tt:TT) (s:St) (ty t:Nat) (e:V) (ix:W):T (W×St):=match ix with
 | .int _ i=>match tj tt ty with
   |some z=>if z=(rowOf t).es then yG s i (dR e) fun s=> .ret (.mY (gL (rowOf t) (.op .at e i)),s) else .fail
   |none=> .fail
 |_=> .fail
def Jk (tt:TT) (s:St) (ty id t:Nat) (n:V) (ix:W):T (W×St):=match ix with
 | .int _ i=>match tj tt ty with
   |some z=>if z=(rowOf t).es then yG s i n fun s=> .ret (.zG id z i 0,s) else .fail
   |none=> .fail
 |_=> .fail
def nJ (pc:List (SB×Bool)) (ZZ:List W) (i:V):List (V×List W)->Option (List W)
 |[]=>some ZZ
 |(j,cs)::l=>match eW i j with
  |true=>some cs
  |false=>match jY pc (qM i j) with
   |some b=>match b with
    |true=>some cs
    |false=>nJ pc ZZ i l
   |none=>none
def Gc (pc:List (SB×Bool)) (i:V) (lS:List W):List (V×List W)->Option (List (V×List W))
 |[]=>none
 |(j,cs)::l=>match eW i j with
  |true=>some ((j,lS)::l)
  |false=>match jY pc (qM i j) with
   |some b=>match b with
    |true=>some ((j,lS)::l)
    |false=>match Gc pc i lS l with
     |some l'=>some ((j,cs)::l')
     |none=>none
   |none=>none
def vt (pc:List (SB×Bool)) (i:V):List (V×List W)->Bool
 |[]=>true
 |(j,_)::l=>match jY pc (qM i j) with
  |some false=>vt pc i l
  |_=>false
def ug {α:Type} (i:V):List (V×List W)->St->(St->T α)->T α
 |[],s,k=>k s
 |(j,_)::l,s,k=>match eW i j with
  |true=>k s
  |false=>jN s (qM i j) fun s b=>match b with
   |true=>k s
   |false=>ug i l s k
def DP (k:IntKind):List W->Option (List D)
 |[]=>some []
 |v::vs=>match v with
  | .int k' e=>match e with
    | .lit n=>if k=k' then match DP k vs with
     |some ds=>some (.i n::ds)
     |none=>none
     else none
    |_=>none
  |_=>none
def I':List W->Option IntKind
 |v::_=>match v with
  | .int k _=>some k
  |_=>none
 |[]=>none
def SH (tt:TT) (t:Nat) (ix:W):Option (Nat×V):=match ky ix with
 |some _=>none
 |none=>match ix with
  | .int _ e=>match tt t with
    |some ti=>match ti.kind with
     | .array n el=>if 64<n then match tt el with
      |some ie=>if ie.size=1/\ie.agg=false then some (n,e) else none
      |none=>none
      else none
     |_=>none
    |none=>none
  |_=>none
def Hq (s:St) (cs:List W) (e:V):T (W×St):=match I' cs with
 |none=> .fail
 |some k=>match DP k cs with
  |none=> .fail
  |some ds=>yG s e (.lit (Int.ofNat ds.length)) fun s=> .ret (.int k (yo (.op .at (.ep (dL ds)) e)),s)
def zy (tt:TT) (s:St) (ty id es:Nat) (i:V) (off:Nat):T (W×St):=match s.h.get id with
 |some o=>match o with
  | .cells cs _=>match tt ty with
    |some ti=>match ti.agg||!(Nat.beq es 1)||!(Nat.beq off 0) with
     |true=> .fail
     |false=>Hq s cs i
    |none=> .fail
  | .vec e t _ ov=>match tt ty with
    |some ti=>if (rowOf t).es=es then yG s i (dR e) fun s=>ug i ov s fun s=>match nJ s.pc (gL (rowOf t) (.op .at e i)) i ov with
     |some cs=>match eL off cs with
      |some l=>ph s (partOf ti l)
      |none=> .fail
     |none=> .fail
     else .fail
    |none=> .fail
  |_=> .fail
 |none=> .fail
def w_ (v:W) (h:Hp):W×Hp:=match v with
 | .pb id n t=>match h.get id with
   |some o=>match o with
    | .vec e t' _ ov=>match ov with
      |[]=>match Nat.beq t t' with
       |true=>match eW n (dR e) with
        |true=>(.ep e t,h.drop id)
        |false=>(v,h)
       |false=>(v,h)
      |_=>(v,h)
    |_=>(v,h)
   |none=>(v,h)
 | .xg z t=>(.ep z t,h)
 |v=>(v,h)
def X_ (e:V):Bool:=match e with
 | .lit n=>uL n 0
 |_=>false
def sc (a b:V):V:=match X_ a with
 |true=>b
 |false=> .add a b
def Da (a b:V):V:=match X_ b with
 |true=>a
 |false=> .sub a b
def Dz (e lo n:V):V:=match X_ lo with
 |true=> .op .take e n
 |false=> .op .drop (.op .take e (.add lo n)) lo
def xx {α:Type} (e lo n:V) (s:St) (k:St->T α):T α:=
 jN s (ig lo (.lit 0)) fun s b=>match b with
  |true=> .fail
  |false=>jN s (ig n (.lit 0)) fun s b=>match b with
   |true=> .fail
   |false=>jN s (ig (dR e) (sc lo n)) fun s b=>match b with
    |true=> .fail
    |false=>k s
def Be (h:Hp) (id t:Nat):Option (V×TypeId):=match h.get id with
 |some o=>match o with
  | .vec e t' ty ov=>match ov with
    |[]=>match Nat.beq t t' with
     |true=>some (e,ty)
     |false=>none
    |_=>none
  |_=>none
 |none=>none
def OA {α:Type} (v:W) (s:St) (k:W->St->T α):T α:=match v with
 | .tV id lo n t=>match Be s.h id t with
   |some (e,_)=>xx e lo n s fun s=>k (.ep (Dz e lo n) t) { s with h:=s.h.drop id }
   |none=>k v s
 |v=>match w_ v s.h with
  |(v',h')=>k v' { s with h:=h' }
def Ha {α:Type}:List W->St->(List W->St->T α)->T α
 |[],s,k=>k [] s
 |v::vs,s,k=>OA v s fun v' s=>Ha vs s fun MO s=>k (v'::MO) s
def Gm {α:Type} (t:Nat):List (V×List W)->V->St->(V->St->T α)->T α
 |[],e,s,k=>k e s
 |(j,cs)::ov,e,s,k=>Gm t ov e s fun e s=>Ha cs s fun cs s=>match qF (rowOf t) cs with
  |some x=>k (.op .set e (eD (mW j) x)) s
  |none=> .fail
def aev (v:W) (h:Hp):Option (Nat×V×Nat×List (V×List W)):=match v with
 | .pb id n t=>match h.get id with
   |some o=>match o with
    | .vec e t' _ ov=>match ov with
      |[]=>none
      |_=>match Nat.beq t t' with
       |true=>match eW n (dR e) with
        |true=>some (id,e,t,ov)
        |false=>none
       |false=>none
    |_=>none
   |none=>none
 |_=>none
def Oz {α:Type} (v:W) (s:St) (k:W->St->T α):T α:=match aev v s.h with
 |some (id,e,t,ov)=>Gm t ov e s fun e' s=>match s.h.get id with
  |some _=>k (.ep e' t) { s with h:=s.h.drop id }
  |none=> .fail
 |none=>OA v s k
def xe {α:Type}:List W->St->(List W->St->T α)->T α
 |[],s,k=>k [] s
 |v::vs,s,k=>Oz v s fun v' s=>xe vs s fun MO s=>k (v'::MO) s
def setCells:List CK->Nat->List W->V->Option V
 |_,_,[],x=>some x
 |ks,off,v::vs,x=>match eZ ks off with
  |some c=>match nq c v with
   |some a=>setCells ks (off+1) vs (.op .set x (eD (.ep (.i (Int.ofNat off))) a))
   |none=>none
  |none=>none
def JS (r:Row) (e i:V) (off:Nat) (vs:List W):Option V:=match r with
 | .one c=>match off with
   |0=>match vs with
    |[v]=>match nq c v with
     |some a=>some (.op .set e (eD (mW i) a))
     |none=>none
    |_=>none
   |_=>none
 | .many ks=>match setCells ks off vs (.op .at e i) with
   |some x=>some (.op .set e (eD (mW i) x))
   |none=>none
def Es (tt:TT) (s:St) (ty id es:Nat) (i:V) (off:Nat) (one:Bool) (vs:List W):T (W×St):=
 match s.h.get id with
  |some o=>match o with
   | .vec e t Ah ov=>match tt ty with
     |some ti=>if (rowOf t).es=es/\vs.length=ti.size/\one=true then yG s i (dR e) fun s=>ug i ov s fun s=>match nJ s.pc (gL (rowOf t) (.op .at e i)) i ov with
      |some cs=>match dX cs off vs with
       |some lS=>match Gc s.pc i lS ov with
        |some iY=> .ret (W.undef,{ s with h:=s.h.put id (.vec e t Ah iY) })
        |none=>match vt s.pc i ov with
         |true=>match JS (rowOf t) e i off vs with
          |some e'=> .ret (W.undef,{ s with h:=s.h.put id (.vec e' t Ah ov) })
          |none=> .ret (W.undef,{ s with h:=s.h.put id (.vec e t Ah ((i,lS)::ov)) })
         |false=> .fail
       |none=> .fail
      |none=> .fail
      else .fail
     |none=> .fail
   |_=> .fail
  |none=> .fail
def aif:W->Bool
 | .pb _ _ _=>true
 | .fZ=>true
 | .xg _ _=>true
 | .slice _ _ n c=>match n with
   |0=>match c with
    | .exact k=>match k with
      |0=>true
      |_=>false
    |_=>false
   |_=>false
 |_=>false
def afy (c:CK) (v:W):W:=match c with
 | .sl t=>match v with
   | .fZ=> .xg (.ep (.i 1)) t
   | .slice i o n k=>match n with
     |0=>match k with
      | .exact m=>match m with
        |0=> .xg (.ep (.i 2)) t
        |m+1=> .slice i o 0 (.exact (m+1))
      |k=> .slice i o 0 k
     |n+1=> .slice i o (n+1) k
   |v=>v
 |_=>v
def LN:List CK->List W->List W
 |[],vs=>vs
 |_::_,[]=>[]
 |c::cs,v::vs=>afy c v::LN cs vs
def NJ (r:Row):List CK:=match r with
 | .one c=>[c]
 | .many cs=>cs
def RJ (i:V):List (SB×Bool)->Option V
 |[]=>none
 |(c,b)::l=>match c with
  | .eq x y=>match b with
    |true=>match eW x i with
     |true=>some y
     |false=>RJ i l
    |false=>RJ i l
  |_=>RJ i l
def Er (tt:TT) (s:St) (ty id es:Nat) (i j:V) (off:Nat) (one:Bool) (vs:List W):T (W×St):=
 match s.h.get id with
  |some o=>match o with
   | .vec e t Ah ov=>match tt ty with
     |some ti=>if (rowOf t).es=es/\vs.length=ti.size/\one=true then yG s i (dR e) fun s=>ug j ov s fun s=>match jY s.pc (.eq i j) with
      |some true=>match nJ s.pc (gL (rowOf t) (.op .at e j)) j ov with
       |some cs=>match dX cs off (LN ((NJ (rowOf t)).drop off) vs) with
        |some lS=>match Gc s.pc j lS ov with
         |some iY=> .ret (W.undef,{ s with h:=s.h.put id (.vec e t Ah iY) })
         |none=>match vt s.pc j ov with
          |true=> .ret (W.undef,{ s with h:=s.h.put id (.vec e t Ah ((j,lS)::ov)) })
          |false=> .fail
        |none=> .fail
       |none=> .fail
      |_=> .fail
      else .fail
     |none=> .fail
   |_=> .fail
  |none=> .fail
def Et (tt:TT) (s:St) (ty id es:Nat) (i:V) (off:Nat) (v:W):T (W×St):=
 match (if aif v then RJ i s.pc else none) with
 |some j=>Er tt s ty id es i j off (ra v.cells) v.cells
 |none=>xe v.cells s fun vs s=>Es tt s ty id es i off (ra v.cells) vs
def pO (e:Nat) (own:Option Nat) (x:W) (h:Hp):Option (V×Nat×Hp):=match x with
 | .pb id n t=>match h.get id with
   |some o=>match o with
    | .vec e0 t0 ty ov=>match ov with
      |[]=>match Nat.beq t t0 with
       |true=>match Nat.beq ty e with
        |true=>match eW n (dR e0) with
         |true=>some (e0,t,h.drop id)
         |false=>none
        |false=>none
       |false=>none
      |_=>none
    |_=>none
   |none=>none
 | .fZ=>match own with
   |some t=>some (.ep (.i 0),t,h)
   |none=>none
 | .emp=>match own with
   |some t=>some (.ep (.i 0),t,h)
   |none=>none
 | .xg _ _=>match own with
   |some t=>some (.ep (.i 0),t,h)
   |none=>none
 | .slice _ _ n c=>match n with
   |0=>match c with
    | .exact k=>match k with
      |0=>match own with
       |some t=>some (.ep (.i 0),t,h)
       |none=>none
      |_=>none
    |_=>none
   |_=>none
 |_=>none
def ab1:W->Bool
 | .ep _ _=>true
 |_=>false
def XU (own:Option Nat):W->Bool
 | .pb _ _ _=>true
 | .tV _ _ _ _=>true
 | .fZ=>own.isSome
 | .emp=>own.isSome
 | .xg _ _=>own.isSome
 | .slice _ _ n c=>match n with
   |0=>match c with
    | .exact k=>match k with
      |0=>own.isSome
      |_=>false
    |_=>false
   |_=>false
 |_=>false
def SJ (id t:Nat) (ty:TypeId) (e0 n1 m sd:V) (s:St):T (W×St):=
 xx e0 n1 m s fun s=> .ret (.tV id (.lit 0) (sc n1 m) t,{ s with h:=s.h.put id (.vec (.op .cat (.op .cat (.op .take e0 n1) sd) (.op .drop e0 (sc n1 m))) t ty []) })
def ED (tt:TT) (t t2 id:Nat) (n1:V) (t':Nat) (y:W) (s:St):T (W×St):=
 match tt t with
 |some ti=>match ti.kind with
  | .slice e=>match tt e with
    |some ie=>match tt t2 with
     |none=> .fail
     |some PM=>match PM.kind with
      | .int _=> .fail
      |_=>
       if ie.size=0\/ie.bytes=0\/¬ie.zero.length=ie.size\/¬(rowOf t').es=ie.size then .fail else
       match Be s.h id t' with
       |none=> .fail
       |some (e0,ty)=>match y with
        | .tV id2 US n2 Kb=>match Nat.beq id2 id with
          |true=>match Nat.beq Kb t' with
           |true=>xx e0 US n2 s fun s=>SJ id t' ty e0 n1 n2 (Dz e0 US n2) s
           |false=> .fail
          |false=> .fail
        |y=>match ru ie.size y s.h with
         |none=> .fail
         |some (m,news)=>match m with
          |0=> .fail
          |m+1=>if m<1000 then match kM (rowOf t') (.ep (.i 0)) (m+1) news with
           |some sd=>SJ id t' ty e0 n1 (.lit (Int.ofNat (m+1))) sd s
           |none=> .fail
           else .fail
    |none=> .fail
  |_=> .fail
 |none=> .fail
def zD (tt:TT) (ty id:Nat) (lo n:V) (t:Nat) (s:St):T (W×St):=
 match tt ty with
 |some ti=>match ti.kind with
  | .slice e=>match tt e with
    |some ie=>if (rowOf t).es=ie.size/\0<ie.size then match Be s.h id t with
     |none=> .fail
     |some (e0,Ah)=>match qF (rowOf t) ie.zero with
      |none=> .fail
      |some z=>jN s (ig lo (.lit 0)) fun s b=>match b with
       |true=> .fail
       |false=>jN s (ig n (.lit 0)) fun s b=>match b with
        |true=> .fail
        |false=>jN s (qM (sc lo n) (dR e0)) fun s b=>match b with
         |false=> .fail
         |true=> .ret (W.undef,{ s with h:=s.h.put id (.vec (.op .fill e0 (eD (mW lo) z)) t Ah []) })
     else .fail
    |none=> .fail
  |_=> .fail
 |none=> .fail
def qN (bytes k:Nat):Int:=Int.ofNat (140737488355328 / bytes-k)
def Xb (e0:V) (bytes:Nat):Int:=match N8 e0 with
 |true=>qN bytes 0
 |false=>qN bytes 1000000
def S_:W->Bool
 | .pb _ _ _=>true
 | .xg _ _=>true
 | .slice _ _ n _=>match n with
   |0=>true
   |_=>false
 |_=>false
def zj:List (SB×Bool)->Bool
 |[]=>false
 |(b,v)::l=>match b with
  | .eq _ x=>match x with
    | .dD i=>match i with
      |0=>match v with
       |true=>true
       |false=>zj l
      |_=>zj l
    |_=>zj l
  |_=>zj l
def G_ (m:Nat) (news:List W) (pc:List (SB×Bool)):Bool:=match m with
 |0=>match news.any S_ with
  |true=>zj pc
  |false=>false
 |_=>false
def Ax (e:Nat) (x:W) (h:Hp):Option (V×Nat×V×List W×Hp):=match x with
 | .pb id n t=>match h.get id with
   |some o=>match o with
    | .vec e0 t0 ty ov=>match ov with
      |[]=>none
      |p::l=>match l with
       |[]=>match Nat.beq t t0 with
        |true=>match Nat.beq ty e with
         |true=>match eW n (dR e0) with
          |true=>some (e0,t,p.1,p.2,h.drop id)
          |false=>none
         |false=>none
        |false=>none
       |_=>none
    |_=>none
   |none=>none
 |_=>none
def zE (e:Nat) (own:Option Nat) (x:W) (ie:TI) (m:Nat) (news:List W) (s:St):T (W×St):=
 xe news s fun By s=>match pO e own x s.h with
  |some (e0,t',h0)=>if (rowOf t').es=ie.size/\m<1000 then
   jN s (ig (dR e0) (.lit (qN ie.bytes (m+1)))) fun s b=>match b with
    |true=>match kM (rowOf t') e0 (m+1) By with
     |some e1=> .ret (.pb h0.fresh (dR e1) t',{ s with h:=h0.new (.vec e1 t' e []) })
     |none=> .fail
    |false=> .fail
   else .fail
  |none=> .fail
def A4 (e:Nat) (x:W) (ie:TI) (m:Nat) (news:List W) (s:St):T (W×St):=
 xe news s fun By s=>match Ax e x s.h with
  |some (e0,t',p,cs,h0)=>if (rowOf t').es=ie.size/\m<1000 then
   jN s (ig (dR e0) (.lit (qN ie.bytes (m+1)))) fun s b=>match b with
    |true=>jN s (ig p (dR e0)) fun s b=>match b with
     |true=>match kM (rowOf t') e0 (m+1) By with
      |some e1=> .ret (.pb h0.fresh (dR e1) t',{ s with h:=h0.new (.vec e1 t' e [(p,cs)]) })
      |none=> .fail
     |false=> .fail
    |false=> .fail
   else .fail
  |none=> .fail
def A3 (e:Nat) (own:Option Nat) (x:W) (ie:TI) (m:Nat) (news:List W) (s:St):T (W×St):=
 match pO e own x s.h with
 |some (e0,t',h0)=>if (rowOf t').es=ie.size/\m=0 then
  jN s (qM (dR e0) (.dD 0)) fun s b=>match b with
   |true=>jN s (ig (dR e0) (.lit (qN ie.bytes 1))) fun s b=>match b with
    |true=>match kM (rowOf t') e0 1 ie.zero with
     |some e1=> .ret (.pb h0.fresh (dR e1) t',{ s with h:=h0.new (.vec e1 t' e [(.dD 0,news)]) })
     |none=> .fail
    |false=> .fail
   |false=>zE e own x ie m news s
  else .fail
 |none=> .fail
def A2 (tt:TT) (t t2:Nat) (x y:W) (s:St):T (W×St):=
 match tt t with
 |some ti=>match ti.kind with
  | .slice e=>match tt e with
    |some ie=>match tt t2 with
     |none=> .fail
     |some PM=>match PM.kind with
      | .int _=> .fail
      |_=>
       if ie.size=0\/ie.bytes=0\/¬ie.zero.length=ie.size\/¬ie.bytes<=400 then .fail else
       match y with
       | .ep e2 ty2=>match pO e ti.own x s.h with
         |some (e0,t',h0)=>if (rowOf t').es=ie.size/\rowOf ty2=rowOf t' then
          jN s (qi (dR e2) (.lit 0)) fun s b=>match b with
           |true=> .ret (x,s)
           |false=>jN s (ig (dR e2) (.lit (Xb e0 ie.bytes))) fun s b=>match b with
            |true=>jN s (ig (dR e0) (.lit 1000000)) fun s b=>match b with
             |true=>match N8 e0 with
              |true=> .ret (.pb h0.fresh (dR e2) t',{ s with h:=h0.new (.vec e2 t' e []) })
              |false=> .ret (.pb h0.fresh (dR (.op .cat e0 e2)) t',{ s with h:=h0.new (.vec (.op .cat e0 e2) t' e []) })
             |false=> .fail
            |false=> .fail
          else .fail
         |none=> .fail
       |y=>match ru ie.size y s.h with
        |some (m,news)=>match m with
         |0=> .ret (x,s)
         |m+1=>match Ax e x s.h with
          |some _=>A4 e x ie m news s
          |none=>match G_ m news s.pc with
           |true=>A3 e ti.own x ie m news s
           |false=>zE e ti.own x ie m news s
        |none=> .fail
    |none=> .fail
  |_=> .fail
 |none=> .fail
def Jr (tt:TT) (t:Nat) (l c:W) (s:St):T (W×St):=match l with
 | .int k n=>match c with
   | .int k2 n2=>match eW n n2 with
     |false=> .fail
     |true=>match tt t with
      |none=> .fail
      |some i=>match i.own with
       |none=> .fail
       |some o=>match i.kind with
        | .slice e=>match tt e with
          |none=> .fail
          |some ie=>match qF (rowOf o) ie.zero with
           |none=> .fail
           |some z=>if ie.size=(rowOf o).es/\0<ie.size/\ie.bytes≠0/\ie.zero.length=ie.size then
            jN s (ig n (.lit 0)) fun s b=>match b with
             |true=> .fail
             |false=>jN s (qi n (.lit 0)) fun s b=>match b with
              |true=>match qC tt t (.int k (.lit 0)) (.int k2 (.lit 0)) s.h with
               |some (v,h)=> .ret (v,{ s with h:=h })
               |none=> .fail
              |false=>jN s (ig n (.lit (qN ie.bytes 0))) fun s b=>match b with
               |true=> .ret (.pb s.h.fresh (dR (.op .rep n z)) o,{ s with h:=s.h.new (.vec (.op .rep n z) o e []) })
               |false=> .fail
            else .fail
        |_=> .fail
   |_=> .fail
 |_=> .fail
def Ch (v:W):Bool:=match ky v with
 |some n=>uL n 0
 |none=>false
def Jx (tt:TT) (s:St) (ty t:Nat) (e:V) (lo hi:Option W) (mx:Option W):T (W×St):=match mx with
 |some m=>match Ch m with
  |true=>match tj tt ty with
   |none=> .fail
   |some _=>match lo with
    |none=>match hi with
     |some hv=>match Ch hv with
      |true=> .ret (.xg (.op .take e (.lit 0)) t,s)
      |false=> .fail
     |none=> .fail
    |some _=> .fail
  |false=> .fail
 |none=>match tj tt ty with
  |none=> .fail
  |some z=>if z=(rowOf t).es then
   (match hi with
   |none=>match lo with
    |some (.int _ l)=>jN s (ig l (.lit 0)) fun s b=>match b with
     |true=> .fail
     |false=>jN s (ig (dR e) l) fun s b=>match b with
      |true=> .fail
      |false=> .ret (.ep (.op .drop e l) t,s)
    |_=> .fail
   |some (.int _ h)=>jN s (ig (dR e) h) fun s b=>match b with
    |true=> .fail
    |false=>match lo with
     |none=>jN s (ig h (.lit 0)) fun s b=>match b with
      |true=> .fail
      |false=> .ret (.ep (.op .take e h) t,s)
     |some (.int _ l)=>jN s (ig l (.lit 0)) fun s b=>match b with
      |true=> .fail
      |false=>jN s (ig h l) fun s b=>match b with
       |true=> .fail
       |false=> .ret (.ep (.op .drop (.op .take e h) l) t,s)
     |_=> .fail
   |_=> .fail)
   else .fail
def loE (lo:Option W):Option V:=match lo with
 |none=>some (.lit 0)
 |some v=>match v with
  | .int _ l=>some l
  |_=>none
def CL (tt:TT) (s:St) (ty id t:Nat) (u_ n0:V) (lo hi mx:Option W):T (W×St):=
 match tj tt ty with
 |none=> .fail
 |some z=>if z=(rowOf t).es/\z≠0 then match loE lo with
  |none=> .fail
  |some l=>jN s (ig l (.lit 0)) fun s b=>match b with
   |true=> .fail
   |false=>match hi with
    |none=>match mx with
     |some _=> .fail
     |none=>jN s (ig n0 l) fun s b=>match b with
      |true=> .fail
      |false=> .ret (.tV id (sc u_ l) (Da n0 l) t,s)
    |some hv=>match hv with
     | .int _ h=>jN s (ig h l) fun s b=>match b with
       |true=> .fail
       |false=>match mx with
        |some mv=>match mv with
         | .int _ m=>jN s (ig m h) fun s b=>match b with
           |true=> .fail
           |false=>jN s (ig n0 m) fun s b=>match b with
            |true=> .fail
            |false=> .ret (.any,s)
         |_=> .fail
        |none=>jN s (ig n0 h) fun s b=>match b with
         |false=> .ret (.tV id (sc u_ l) (Da h l) t,s)
         |true=>match X_ u_ with
          |false=> .fail
          |true=>match Be s.h id t with
           |none=> .fail
           |some (e,_)=>jN s (ig (dR e) h) fun s b=>match b with
            |true=> .fail
            |false=> .ret (.tV id (sc u_ l) (Da h l) t,s)
     |_=> .fail
  else .fail
def Jv (tt:TT) (s:St) (ty:Nat) (z:V) (t:Nat) (lo hi mx:Option W):T (W×St):=
 match mx with
 |some _=> .fail
 |none=>match tj tt ty with
  |none=> .fail
  |some _=>match nD hi 0 0 with
   |some 0=>match nD lo 0 0 with
    |some 0=> .ret (.xg z t,s)
    |_=> .fail
   |_=> .fail
def Jj (tt:TT) (s:St) (ty id t:Nat) (lo n:V) (ix:W):T (W×St):=match ix with
 | .int _ i=>match tj tt ty with
   |some z=>if z=(rowOf t).es then yG s i n fun s=> .ret (.zG id z (sc lo i) 0,s) else .fail
   |none=> .fail
 |_=> .fail
def XY:W->Bool
 | .jP _=>true
 |_=>false
def Jm (tt:TT) (s:St) (ty:Nat) (e:V) (ix:W):T (W×St):=match ix with
 | .int _ i=>match tt ty with
   |some ti=>match ti.kind with
    | .string=>yG s i (dR e) fun s=> .ret (.int .u8 (yo (.op .at e i)),s)
    |_=> .fail
   |none=> .fail
 |_=> .fail
def hiE (e:V) (hi:Option W):Option V:=match hi with
 |none=>some (dR e)
 |some v=>match v with
  | .int _ h=>some h
  |_=>none
def Jl (tt:TT) (s:St) (ty:Nat) (e:V) (lo hi mx:Option W):T (W×St):=match mx with
 |some _=> .fail
 |none=>match tt ty with
  |none=> .fail
  |some ti=>match ti.kind with
   | .string=>match loE lo with
     |none=> .fail
     |some l=>match hiE e hi with
      |none=> .fail
      |some h=>jN s (ig l (.lit 0)) fun s b=>match b with
       |true=> .fail
       |false=>jN s (ig h l) fun s b=>match b with
        |true=> .fail
        |false=>jN s (ig (dR e) h) fun s b=>match b with
         |true=> .fail
         |false=> .ret (.jP (.op .sub e (eD (mW l) (eD (mW h) (.ep (.i 0))))),s)
   |_=> .fail
def Ck (x y:W):Option (V×V):=match XY x||XY y with
 |false=>none
 |true=>match tE x with
  |none=>none
  |some a=>match tE y with
   |none=>none
   |some b=>some (a,b)
def FX (a b:V):SB:=.not (.eq (.op .slt a b) (.lit 0))
def OG (op:BinOp) (a b:V) (s:St):T (W×St):=match op with
 | .add=>jN s (ig (dR a) (.lit 1000000000)) fun s c=>match c with
   |false=> .fail
   |true=>jN s (ig (dR b) (.lit 1000000000)) fun s c=>match c with
    |false=> .fail
    |true=> .ret (.jP (.op .cat a b),s)
 | .eql=> .ret (.bool (qi (mF a) (mF b)),s)
 | .neq=> .ret (.bool (.not (qi (mF a) (mF b))),s)
 | .lss=> .ret (.bool (FX a b),s)
 | .gtr=> .ret (.bool (FX b a),s)
 | .leq=> .ret (.bool (wU (FX b a)),s)
 | .geq=> .ret (.bool (wU (FX a b)),s)
 |_=> .fail
def CN (tt:TT) (sT dT:Nat) (e:V) (s:St):T (W×St):=match tt sT with
 |none=> .fail
 |some j=>match j.kind with
  | .string=>match tt dT with
    |none=> .fail
    |some i=>match i.kind with
     | .slice el=>match tt el with
       |some ie=>match ie.kind with
        | .int k=>match k with
          | .u8=>jN s (qi (dR e) (.lit 0)) fun s c=>match c with
            |true=> .ret (.slice s.h.fresh 0 0 (.rest 1),{ s with h:=s.h.new (.cells [] el) })
            |false=> .ret (.pb s.h.fresh (dR e) 14,{ s with h:=s.h.new (.vec e 14 el []) })
          |_=> .fail
        |_=> .fail
       |none=> .fail
     |_=> .fail
  |_=> .fail
def Ln (c:CK):TK:=match c with
 | .int k=> .int k
 |_=> .string
def wY (m:W) (h:Hp):Option (Nat×V×Nat):=match m with
 | .map id=>match h.get id with
   |some o=>match o with
    | .j6 e t=>some (id,e,t)
    |_=>none
   |none=>none
 |_=>none
def AT (tt:TT):List CK->Nat->List (Nat×Nat×Nat)->Bool
 |[],_,[]=>true
 |c::cs,j,(o,ft,_)::fs=>match Nat.beq o j with
  |true=>match tt ft with
   |some i=>match c with
    | .int k=>match decide (i.kind= .int k) with
      |true=>AT tt cs (j+1) fs
      |false=>false
    |_=>false
   |none=>false
  |false=>false
 |_,_,_=>false
def XQ (tt:TT) (ki:TI) (r:Row):Bool:=match r with
 | .one c=>decide (ki.kind=Ln c)
 | .many cs=>match ki.kind with
   | .struct fs=>match ki.eqs with
     |true=>AT tt cs 0 fs
     |false=>false
   |_=>false
def SA (r:Row) (v:W):Option V:=match r with
 | .one c=>nq c v
 | .many cs=>match v with
   | .agg vs=>iy cs vs
   |_=>none
def Mr (r:Row) (x:V):W:=match r with
 | .one c=>vk c x
 | .many cs=> .agg (iz cs 0 x)
def mapKey (tt:TT) (ty t:Nat) (k:W):Option (V×TI):=match tt ty with
 |none=>none
 |some ti=>match ti.kind with
  | .map kt et=>match tt kt with
    |none=>none
    |some ki=>match XQ tt ki (mapOf t).1 with
     |true=>match tt et with
      |none=>none
      |some ie=>match SA (mapOf t).1 k with
       |none=>none
       |some a=>some (mF a,ie)
     |false=>none
  |_=>none
def G5 (e a:V):SB:=match e with
 | .ep d=>match a with
   | .ep k=> .lit (!(eN d.l k).isSome)
   |a=> .eq (.op .K9 (.ep d) a) (.lit 0)
 |e=> .eq (.op .K9 e a) (.lit 0)
def zx (tt:TT) (ty:Nat) (k:W) (ok:Bool) (e:V) (t:Nat) (s:St):T (W×St):=match mapKey tt ty t k with
 |none=> .fail
 |some (a,ie)=>match zeroOf ie with
  |none=> .fail
  |some z=>jN s (G5 e a) fun s b=>match b with
   |true=> .ret (if ok then .tuple [z,.bool (.lit false)] else z,s)
   |false=> .ret (if ok then .tuple [Mr (mapOf t).2 (.op .DJ e a),.bool (.lit true)] else Mr (mapOf t).2 (.op .DJ e a),s)
def OJ (tt:TT) (ty id:Nat) (k x:W) (e:V) (t:Nat) (s:St):T (W×St):=match mapKey tt ty t k with
 |none=> .fail
 |some (a,_)=>match SA (mapOf t).2 x with
  |none=> .fail
  |some b=> .ret (W.undef,{ s with h:=s.h.put id (.j6 (.op .xB e (eD a b)) t) })
def Jp (tt:TT) (ty:Nat) (m k x:W) (s:St):T (W×St):=xe [x] s fun xs s=>match xs with
 |[x]=>match wY m s.h with
  |some (id,e,t)=>OJ tt ty id k x e t s
  |none=> .fail
 |_=> .fail
def OU (tt:TT) (ty id:Nat) (k:W) (e:V) (t:Nat) (s:St):T (W×St):=match mapKey tt ty t k with
 |none=> .fail
 |some (a,_)=> .ret (W.undef,{ s with h:=s.h.put id (.j6 (.op .B5 e a) t) })
def Ej (m:W) (h:Hp):Option (Nat×V×Nat×List Nat×List (V×W)):=match m with
 | .map id=>match h.get id with
   |some o=>match o with
    | .tT e t eX ov=>some (id,e,t,eX,ov)
    |_=>none
   |none=>none
 |_=>none
def Jh (tt:TT) (ty:Nat) (k:W):Option (V×TI):=match tt ty with
 |none=>none
 |some ti=>match ti.kind with
  | .map kt et=>match tt kt with
    |none=>none
    |some ki=>if ki.kind= .int .i64 then match tt et with
     |none=>none
     |some ie=>match k with
      | .int kk x=>if kk= .i64 then some (x,ie) else none
      |_=>none
     else none
  |_=>none
def te {α:Type} (x:V):List (V×W)->St->(Option W->St->T α)->T α
 |[],s,k=>k none s
 |(y,v)::l,s,k=>match eW x y with
  |true=>k (some v) s
  |false=>jN s (qM x y) fun s b=>match b with
   |true=>k (some v) s
   |false=>te x l s k
def Jg {α:Type} (x:V) (v:W):List (V×W)->St->(Option (List (V×W))->St->T α)->T α
 |[],s,k=>k none s
 |(y,u)::l,s,k=>match eW x y with
  |true=>k (some ((y,v)::l)) s
  |false=>jN s (qM x y) fun s b=>match b with
   |true=>k (some ((y,v)::l)) s
   |false=>Jg x v l s fun r s=>match r with
    |some l'=>k (some ((y,u)::l')) s
    |none=>k none s
def zw (tt:TT) (ty:Nat) (k:W) (ok:Bool) (e:V) (ov:List (V×W)) (s:St):T (W×St):=match Jh tt ty k with
 |none=> .fail
 |some (x,ie)=>match zeroOf ie with
  |none=> .fail
  |some z=>te x ov s fun r s=>match r with
   |some v=> .ret (if ok then .tuple [v,.bool (.lit true)] else v,s)
   |none=>jN s (G5 e (mW x)) fun s b=>match b with
    |true=> .ret (if ok then .tuple [z,.bool (.lit false)] else z,s)
    |false=> .fail
def zu (tt:TT) (ty id:Nat) (k v:W) (e:V) (t:Nat) (eX:List Nat) (ov:List (V×W)) (s:St):T (W×St):=match Jh tt ty k with
 |none=> .fail
 |some (x,_)=>Jg x v ov s fun r s=>match r with
  |some iY=> .ret (W.undef,{ s with h:=s.h.put id (.tT e t eX iY) })
  |none=>jN s (G5 e (mW x)) fun s b=>match b with
   |true=> .ret (W.undef,{ s with h:=s.h.put id (.tT (.op .xB e (eD (mW x) (.ep (.i 0)))) t eX ((x,v)::ov)) })
   |false=> .fail
def ak6 (tt:TT) (t:Nat):Nat:=match tt t with
 |some ti=>match ti.kind with
  | .slice e=>e
  |_=>0
 |none=>0
def YI (tt:TT) (t:Nat):List Nat:=match tt t with
 |some ti=>match ti.kind with
  | .map _ et=>match tt et with
    |some ie=>match ie.kind with
     | .pointer s=>match tt s with
       |some si=>match si.kind with
        | .struct fs=>s::0::fs.map fun f=>ak6 tt f.2.1
        |_=>[]
       |none=>[]
     | .slice e=>[0,e]
     |_=>[]
    |none=>[]
  |_=>[]
 |none=>[]
abbrev ei:=Nat->List W->St->T (W×St)
def yF (s:St) (x:Operand) (f:W->T (W×St)):T (W×St):=match ev s x with |some v=>f v|none=> .fail
def abW (tt:TT) (t:Nat):Option Nat:=match tt t with
 |some ti=>ti.own
 |none=>none
def wq (tt:TT) (s:St) (b:Builtin) (ts:List Nat) (args:List W):T (W×St):=
 match b,ts,args with
 | .len,[t],[x]=>ph s (YK tt t x s.h)
 | .append,[t,t2],[.tV id lo n t',y]=>match X_ lo with
   |true=>ED tt t t2 id n t' y s
   |false=> .fail
 | .append,[t,t2],[x,y]=>match XU (abW tt t) x||ab1 y with
   |true=>A2 tt t t2 x y s
   |false=>Bp s (EC tt t t2 x y s.h)
 | .delete,[t,_],[m,k]=>match wY m s.h with
   |some (id,e,t')=>OU tt t id k e t' s
   |none=>nG tt t m k s fun s=>NL s (EB tt s.pc t m k s.h)
 | .clear,[t],[.pb id n t']=>zD tt t id (.lit 0) n t' s
 | .clear,[t],[.tV id lo n t']=>zD tt t id lo n t' s
 | .clear,[t],[x]=>NL s (Jz tt t x s.h)
 | .min,_,.int k a::xs=>tb false xs a k s
 | .max,_,.int k a::xs=>tb true xs a k s
 |_,_,_=> .fail
def JA (tt:TT) (call:ei) (s:St) (c:Call):T (W×St):=
 match evs s c.args.toList with
 |none=> .fail
 |some args=>match c.callee with
  | .builtin b=>wq tt s b c.argTypes.toList args
  | .value f=>match ev s f with
    |some (.func (.func g) fs cs)=>call g (fs++args++cs) s
    |_=> .fail
  | .invoke _ _=> .fail
def ag7:SB->Bool
 | .lit _=>true
 | .not c=>match c with
   | .eq _ z=>match z with
     | .lit n=>uL n 0
     |_=>false
   |_=>false
 |_=>false
def d! {α:Type} (v:W) (s:St) (k:W->St->T α):T α:=match v with
 | .bool c=>match ag7 c with
   |true=>k (.bool c) s
   |false=>jN s c fun s b=>k (.bool (.lit b)) s
 |v=>k v s
def Jq (tt:TT) (call:ei) (s:St) (op:Op):T (W×St):=
 match op with
 | .move x=>yF s x fun v=> .ret (v,s)
 | .assign x=>yF s x fun v=> .ret (v,s)
 | .pick c a b=>yF s c fun c=>match c with
   | .bool c=>jN s c fun s b'=>if b' then yF s a fun v=> .ret (v,s) else yF s b fun v=> .ret (v,s)
   |_=> .fail
 | .alloc t=>match tt t with
   |some i=> .ret (.ptr s.h.fresh 0,{ s with h:=s.h.new (.cells i.zero t) })
   |none=> .fail
 | .box t x=>yF s x fun v=>if ra v.cells then .ret (.ptr s.h.fresh 0,{ s with h:=s.h.new (.cells v.cells t) }) else .fail
 | .build t parts=>match wj s parts.toList with
   |some ps=>ph s (JC tt t ps)
   |none=> .fail
 | .buildSlice t n parts=>match wj s parts.toList with
   |some ps=>Bp s (tg tt t n ps s.h)
   |none=> .fail
 | .makeSlice t l c=>yF s l fun lv=>match ev s c with
   |some cv=>match qC tt t lv cv s.h with
    |some r=>Bp s (some r)
    |none=>Jr tt t lv cv s
   |none=> .fail
 | .load t x=>yF s x fun p=>match p with
   | .zG id es i off=>zy tt s t id es i off
   |p=>ph s (A1 tt t p s.h)
 | .store t x y=>yF s x fun p=>match ev s y with
   |some v=>d! v s fun v s=>match p with
    | .zG id es i off=>Et tt s t id es i off v
    |p=>NL s (Jn tt t p v s.h)
   |none=> .fail
 | .nilCheck x=>yF s x fun v=>match v with
   | .ptr _ _=> .ret (v,s)
   | .mY _=> .ret (v,s)
   | .zG _ _ _ _=> .ret (v,s)
   |_=> .fail
 | .binOp op t x y _=>yF s x fun a=>match ev s y with
   |some b=>match a with
    | .agg xs=>match b,op with
      | .agg ys,.eql=>match CM tt t xs ys with
        |some c=> .ret (.bool c,s)
        |none=> .fail
      | .agg ys,.neq=>match CM tt t xs ys with
        |some c=> .ret (.bool (wU c),s)
        |none=> .fail
      |_,_=> .fail
    |a=>match NW tt t a b with
     |some e=>aeC s e op
     |none=>match NP op a b with
      |some (q,k,e,d)=>aer s q k e d
      |none=>match Ck a b with
       |some (x,y)=>OG op x y s
       |none=>ph s (YN tt t op a b)
   |none=> .fail
 | .unOp op _ x=>yF s x fun v=>ph s (afz op v)
 | .convert sT dT x=>yF s x fun v=>match v with
   | .jP e=>CN tt sT dT e s
   |v=>Bp s (oV tt sT dT v s.h)
 | .makeFunc fn fs cs=>match evs s fs.toList,evs s cs.toList with
   |some f,some c=> .ret (.func fn f c,s)
   |_,_=> .fail
 | .makeMap t r=>match r with
   |none=>match abW tt t with
    |some m=>match Nat.ble 100 m with
     |true=> .ret (.map s.h.fresh,{ s with h:=s.h.new (.tT (.ep (.i 0)) (m-100) (YI tt t) []) })
     |false=> .ret (.map s.h.fresh,{ s with h:=s.h.new (.j6 (.ep (.i 0)) m) })
    |none=> .ret (.map s.h.fresh,{ s with h:=s.h.new (.map [] 1) })
   |some _=> .fail
 | .slice t x lo hi mx=>yF s x fun v=>match Hs s lo,Hs s hi,Hs s mx with
   |some l,some h,some m=>match v with
    | .ep e t'=>Jx tt s t t' e l h m
    | .pb id n t'=>CL tt s t id t' (.lit 0) n l h m
    | .tV id lo n t'=>CL tt s t id t' lo n l h m
    | .jP e=>Jl tt s t e l h m
    | .xg z t'=>Jv tt s t z t' l h m
    | .fZ=>HV s h fun h s=>ph s (zr tt t .fZ l h m)
    | .slice id o 0 (.exact 0)=>HV s h fun h s=>ph s (zr tt t (.slice id o 0 (.exact 0)) l h m)
    |v=>match zr tt t v l h m with
    |some v=> .ret (v,s)
    |none=>ph s (Eu tt t v l h m s.h)
   |_,_,_=> .fail
 | .fieldAddr t x f=>yF s x fun v=>ph s (ve tt t v f)
 | .field t x f=>yF s x fun v=>ph s (Ju tt t v f)
 | .indexAddr t x i=>yF s x fun v=>match ev s i with
   |some i=>match v with
    | .wI k ks=>ph s (Js tt s.pc t k ks i)
    | .ep e t'=>Jy tt s t t' e i
    | .pb id n t'=>Jk tt s t id t' n i
    | .tV id lo n t'=>Jj tt s t id t' lo n i
    | .ptr id o=>match SH tt t i with
      |some (n,e)=>if o=0 then yG s e (.lit (Int.ofNat n)) fun s=> .ret (.zG id 1 e 0,s) else .fail
      |none=>HL tt t (.ptr id o) i s fun i s=>ph s (nV tt t (.ptr id o) i)
    |v=>HL tt t v i s fun i s=>ph s (nV tt t v i)
   |none=> .fail
 | .index t x i=>yF s x fun v=>match ev s i with
   |some i=>match v with
    | .jP e=>Jm tt s t e i
    | .agg cs=>match SH tt t i with
      |some (n,e)=>match Nat.beq cs.length n with
       |true=>Hq s cs e
       |false=> .fail
      |none=>HL tt t (.agg cs) i s fun i s=>ph s (zA tt t (.agg cs) i)
    |v=>HL tt t v i s fun i s=>ph s (zA tt t v i)
   |none=> .fail
 | .lookup t m k ok=>yF s m fun v=>match ev s k with
   |some k=>match wY v s.h with
    |some (_,e,t')=>zx tt t k ok e t' s
    |none=>match Ej v s.h with
     |some (_,e,_,_,ov)=>zw tt t k ok e ov s
     |none=>nG tt t v k s fun s=>ph s (Ey tt s.pc t v k ok s.h)
   |none=> .fail
 | .mapUpdate t m k x=>yF s m fun v=>match ev s k,ev s x with
   |some k,some x=>match wY v s.h with
    |some _=>Jp tt t v k x s
    |none=>match Ej v s.h with
     |some (id,e,t',eX,ov)=>zu tt t id k x e t' eX ov s
     |none=>nG tt t v k s fun s=>NL s (qB tt s.pc t v k x s.h)
   |_,_=> .fail
 | .insert t m k x=>yF s m fun v=>match ev s k,ev s x with
   |some k,some x=>match wY v s.h with
    |some _=>Jp tt t v k x s
    |none=>match Ej v s.h with
     |some (id,e,t',eX,ov)=>zu tt t id k x e t' eX ov s
     |none=>nG tt t v k s fun s=>NL s (qB tt s.pc t v k x s.h)
   |_,_=> .fail
 | .range t x=>yF s x fun v=>Bp s (Jo tt t v s.h)
 | .next x isS=>yF s x fun v=>Bp s (OK v isS s.h)
 | .entry x=>yF s x fun v=>ph s (Jw v s.h)
 | .extract x i=>yF s x fun v=>match v with
   | .tuple vs=>ph s (eZ vs i)
   |_=> .fail
 | .call c=>JA tt call s c
 |_=> .fail
def vM {α:Type} (ops:List Oper) (s:St) (o:Oper) (f:St->Bool->T α):T α:=
 match o.guard with
 |none=>f s true
 |some (j,want)=>match eZ ops j with
  |some oj=>match oj.dst with
   |some d=>match s.bD.get d with
    |some (.bool c)=>jN s c fun s b=>f s (b == want)
    |some (.tuple _)=>f s false
    |_=> .fail
   |none=> .fail
  |none=> .fail
def LZ (tt:TT) (call:ei) (all:List Oper):List Oper->St->T St
 |[],s=> .ret s
 |o::rest,s=>vM all s o fun s b=>
  if b then (Jq tt call s o.op).bind fun (v,s')=>LZ tt call all rest (s'.KG o.dst v)
  else LZ tt call all rest (s.KG o.dst W.undef)
inductive Ex where
 |normal
 |exit (id:Nat)
 |ret
 deriving DecidableEq,Inhabited
def vc (body:St->T (Ex×St)):Nat->St->T (Ex×St)
 |0,_=> .fail
 |n+1,s=>(body s).bind fun (e,s')=>match e with
  | .normal=>vc body n s'
  |e=> .ret (e,s')
def jf (tt:TT) (call:ei) (draw:Nat->List Oper->St->T St) (lf:Nat):Code->St->T (Ex×St)
 | .skip,s=> .ret (.normal,s)
 | .region id ops d,s=>
   if d then (draw id ops.toList s).bind fun s'=> .ret (.normal,s')
   else (LZ tt call ops.toList ops.toList s).bind fun s'=> .ret (.normal,s')
 | .seq a b,s=>(jf tt call draw lf a s).bind fun (e,s')=>match e with
   | .normal=>jf tt call draw lf b s'
   |e=> .ret (e,s')
 | .cond c x y,s=>match ev s c with
   |some (.bool c)=>jN s c fun s b=>if b then jf tt call draw lf x s else jf tt call draw lf y s
   |_=> .fail
 | .block id b,s=>(jf tt call draw lf b s).bind fun (e,s')=>match e with
   | .exit j=> .ret (if j=id then .normal else .exit j,s')
   |e=> .ret (e,s')
 | .loop b,s=>vc (jf tt call draw lf b) lf s
 | .exit id,s=> .ret (.exit id,s)
 | .scope b,s=>jf tt call draw lf b s
 | .label _,s=> .ret (.normal,s)
 | .ret,s=> .ret (.ret,s)
 |_,_=> .fail
def cm:List W->Nat->Tr W->Tr W
 |[],_,t=>t
 |v::vs,i,t=>cm vs (i+1) (t.put i (some v))
def zt (tt:TT) (s:St):ResultVar->Option W
 | .tmp t=>s.bD.get t
 | .cell a t=>match s.bD.get a with
   |some p=>A1 tt t p s.h
   |none=>none
def kZ (tt:TT) (s:St):List ResultVar->Option (List W)
 |[]=>some []
 |r::rs=>match zt tt s r with
  |none=>none
  |some v=>match kZ tt s rs with
   |none=>none
   |some vs=>some (v::vs)
def Jt (tt:TT) (ft:Nat->Option Func) (hook:Nat->Option (List W->St->T (W×St))) (draw:ei->Nat->Nat->List Oper->St->T St) (lf:Nat):Nat->ei
 |0,_,_,_=> .fail
 |n+1,g,args,s=>
  match hook g with
  |some h=>h args s
  |none=>match ft g with
   |none=> .fail
   |some fn=>match fn.body with
    |none=> .fail
    |some c=>
     (jf tt (Jt tt ft hook draw lf n) (draw (Jt tt ft hook draw lf n) g) lf c { s with bD:=cm args 0 .nil }).bind fun (e,s')=>
      match e with
      | .exit _=> .fail
      |_=>match kZ tt s' fn.results.toList with
       |some [v]=> .ret (v,{ s' with bD:=s.bD })
       |some vs=> .ret (.tuple vs,{ s' with bD:=s.bD })
       |none=> .fail
end
end Go.As
end
section
namespace Go.As
structure En where
 ρ:Nat->Int
 θ:Nat->Nat×Nat
 κ:Nat->Nat
 dm:Nat->Prop
 ro:Nat->Prop
 hd:Nat->Option (Nat×D×Nat):=fun _=>none
def dh (s:List Nat):ByteArray:=⟨(s.map UInt8.ofNat).toArray⟩
def jU (h:Array Obj) (b o:Nat):Option Value:=
 match h[b]? with
 |some (.cells c _ _)=>c[o]?
 |_=>none
theorem nY (w:World) (b o:Nat):w.cell? ⟨b,o,none⟩ = jU w.heap b o:=by
 unfold World.cell? jU
 grind
def fU (h:Array Obj) (b o:Nat) (us:List Value):Prop:= ∀i u,us[i]?=some u->jU h b (o+i)=some u
inductive Rd (ro:Nat->Prop) (h:Array Obj):CK->D->Value->Prop where
 |int (k:IntKind) (n:Int):Rd ro h (.int k) (.i n) (.int k n)
 |bool (b:Bool):Rd ro h .bool (.i (if b then 1 else 0)) (.bool b)
 |str (s:ByteArray):Rd ro h .str (tq s) (.string s)
 |nil (t:Nat):Rd ro h (.sl t) (.i 1) (.slice none 0 0)
 |vO (t:Nat) (a:Addr) (cap:Nat):Rd ro h (.sl t) (.i 2) (.slice (some a) 0 cap)
 |one (t:Nat) (c:CK) (b o cap:Nat) (ds:List D) (f:Nat->Value) (hr:rowOf t= .one c) (hc:ds.length<=cap) (hb:ro b)
  (U: ∀i d,ds[i]?=some d->jU h b (o+i)=some (f i)) (Z: ∀i d,ds[i]?=some d->Rd ro h c d (f i)):Rd ro h (.sl t) (dL ds) (.slice (some ⟨b,o,none⟩) ds.length cap)
 |many (t:Nat) (cs:List CK) (b o cap:Nat) (rows:List (List D)) (f:Nat->Nat->Value) (hr:rowOf t= .many cs) (hc:rows.length<=cap) (hb:ro b) (Y: ∀r∈rows,r.length=cs.length)
  (U: ∀i r j d,rows[i]?=some r->r[j]?=some d->jU h b (o+i*cs.length+j)=some (f i j))
  (Z: ∀i r j d c,rows[i]?=some r->r[j]?=some d->cs[j]?=some c->Rd ro h c d (f i j)):Rd ro h (.sl t) (dL (rows.map dL)) (.slice (some ⟨b,o,none⟩) rows.length cap)
theorem Rd.U' {ro:Nat->Prop} {h:Array Obj} {c:CK} {d:D} {v:Value} (r:Rd ro h c d v):v.oneCell'=true:=by cases r<;>rfl
theorem Rd.cf {ro my:Nat->Prop} {h h':Array Obj} (k1: ∀b,ro b->my b) (k2: ∀b,ro b->h'[b]?=h[b]?) {c:CK} {d:D} {v:Value} (r:Rd ro h c d v):Rd my h' c d v:=by
 have hk: ∀b o u,ro b->jU h b o=some u->jU h' b o=some u:=by
  intro b o u hb hu
  grind [jU]
 induction r with
 |int k n=>exact .int k n
 |bool b=>exact .bool b
 |str s=>exact .str s
 |nil t=>exact .nil t
 |vO t a cap=>exact .vO t a cap
 |one t c b o cap ds f hr hc hb U Z ih=>exact .one t c b o cap ds f hr hc (k1 b hb) (fun i d hi=>hk _ _ _ hb (U i d hi)) ih
 |many t cs b o cap rows f hr hc hb Y U Z ih=>exact .many t cs b o cap rows f hr hc (k1 b hb) Y (fun i r j d hi hj=>hk _ _ _ hb (U i r j d hi hj)) ih
def eQ (E:En) (id off len:Nat) (a:Addr) (cap:Nat):MN->Prop
 | .exact c=>cap=c/\((a=⟨(E.θ id).1,(E.θ id).2+off,none⟩)\/c=0)
 | .rest es=>(a=⟨(E.θ id).1,(E.θ id).2+off,none⟩/\off+cap*es=E.κ id)\/(cap=0/\len=0/\off=E.κ id)
mutual
def VR (E:En) (h:Array Obj):W->Value->Prop
 | .bool b,v=>v= .bool (b.den E.ρ)
 | .int k e,v=>v= .int k (e.den E.ρ)
 | .str s,v=>v= .string (dh s)/\∀b∈s,b<256
 | .ptr id off,v=>v= .pointer (some ⟨(E.θ id).1,(E.θ id).2+off,none⟩)/\E.dm id
 | .tY,v=>v= .pointer none
 | .mY cs,v=> ∃b o us,v= .pointer (some ⟨b,o,none⟩)/\E.ro b/\cA E h cs us/\fU h b o us/\∀u∈us,u.oneCell'=true
 | .slice id off len c,v=>E.dm id/\∃a cap,v= .slice (some a) len cap/\len<=cap/\eQ E id off len a cap c
 | .fZ,v=>v= .slice none 0 0
 | .ro cs n full,v=> ∃b o cap us,v= .slice (some ⟨b,o,none⟩) n cap/\n<=cap/\(full=true->cap=n)/\E.ro b/\cA E h cs us/\fU h b o us/\∀u∈us,u.oneCell'=true
 | .map id,v=>v= .map (some (E.θ id).1)/\E.dm id
 | .rI,v=>v= .map none
 | .func fn fs cs,v=> ∃us ws,v= .func fn us.toArray ws.toArray/\cA E h fs us/\cA E h cs ws
 | .wG,v=>v= .nilFunc
 | .iface t x,v=> ∃u,v= .iface t u/\VR E h x u
 | .xA,v=>v= .nilIface
 | .agg cs,v=> ∃us,v= .agg us.toArray/\cA E h cs us
 | .tuple cs,v=> ∃us,v= .tuple us.toArray/\cA E h cs us
 | .KY _,_=>False
 | .emp,v=> ∃x,v= .slice x 0 0
 | .ep e t,v=>Rd E.ro h (.sl t) (dec (e.den E.ρ)) v
 | .jP e,v=>Rd E.ro h .str (dec (e.den E.ρ)) v
 | .pb id n t,v=>E.dm id/\∃(k:Nat) (a:Addr) (cap:Nat),n.den E.ρ=(k:Int)/\v= .slice (some a) k cap/\k<=cap/\eQ E id 0 k a cap (.rest (rowOf t).es)
 | .zG id es i off,v=>E.dm id/\∃k:Nat,i.den E.ρ=(k:Int)/\v= .pointer (some ⟨(E.θ id).1,(E.θ id).2+(k*es+off),none⟩)
 | .any,_=>True
 | .xg z t,v=>(∃x,v= .slice x 0 0)/\Rd E.ro h (.sl t) (dec (z.den E.ρ)) v
 | .tV id lo n t,v=>E.dm id/\∃(l k:Nat) (a:Addr) (cap:Nat),lo.den E.ρ=(l:Int)/\n.den E.ρ=(k:Int)/\v= .slice (some a) k cap/\k<=cap/\eQ E id (l*(rowOf t).es) k a cap (.rest (rowOf t).es)
 | .wI k ks,v=>((∃x cap,v= .slice x 0 cap)/\E.ρ (900+k)=0)\/∃b o n cap,v= .slice (some ⟨b,o,none⟩) n cap/\n<=cap/\E.ρ (900+k)=(n:Int)/\E.ro b/\
  ∀i j kd,i<n->ks[j]?=some kd->jU h b (o+i*ks.length+j)=some (.int kd (E.ρ (1000+i*64+(k*8+j))))
def cA (E:En) (h:Array Obj):List W->List Value->Prop
 |[],us=>us= []
 |x::xs,us=> ∃u vs,us=u::vs/\VR E h x u/\cA E h xs vs
end
theorem ia {E:En} {h:Array Obj} {us:List Value}:cA E h [] us↔us= []:=by simp [cA]
theorem bT {E:En} {h:Array Obj} {x:W} {xs:List W} {us:List Value}:cA E h (x::xs) us↔∃u vs,us=u::vs/\VR E h x u/\cA E h xs vs:=by simp [cA]
theorem cA.length {E:En} {h:Array Obj}: ∀{xs:List W} {us:List Value},cA E h xs us->us.length=xs.length
 |[],us,hh=>by rw [ia] at hh; simp [hh]
 |x::xs,us,hh=>by rw [bT] at hh;obtain⟨u,vs,rfl,_,Z⟩:=hh;simp [Z.length]
theorem cA.append {E:En} {h:Array Obj}: ∀{xs ys:List W} {us vs:List Value},cA E h xs us->cA E h ys vs->cA E h (xs++ys) (us++vs)
 |[],_,us,vs,U,Z=>by rw [ia] at U; subst U; simpa using Z
 |x::xs,ys,us,vs,U,Z=>by rw [bT] at U;obtain⟨u,gF,rfl,hx,mR⟩:=U;simp only [aO];rw [bT];exact⟨u,gF++vs,rfl,hx,mR.append Z⟩
theorem cA.iA {E:En} {h:Array Obj}: ∀{n:Nat} {xs ys:List W} {us:List Value},cA E h xs us->As.iA n xs=some ys->cA E h ys (us.take n)/\n<=xs.length
 |0,xs,ys,us,_,Z=>by simp [As.iA] at Z; subst Z; simp [cA]
 |n+1,[],ys,us,_,Z=>by simp [As.iA] at Z
 |n+1,x::xs,ys,us,U,Z=>by
  rw [bT] at U;obtain⟨u,vs,rfl,hx,mR⟩:=U;simp only [As.iA] at Z;split at Z
  ·rename_i l Y;simp at Z;subst Z;have:=mR.iA Y
   grind [bT]
  grind
theorem cA.eL {E:En} {h:Array Obj}: ∀{n:Nat} {xs ys:List W} {us:List Value},cA E h xs us->As.eL n xs=some ys->cA E h ys (us.drop n)/\n<=xs.length/\ys.length=xs.length-n
 |0,xs,ys,us,U,Z=>by simp [As.eL] at Z; subst Z; simpa using U
 |n+1,[],ys,us,_,Z=>by simp [As.eL] at Z
 |n+1,x::xs,ys,us,U,Z=>by
  rw [bT] at U;obtain⟨u,vs,rfl,hx,mR⟩:=U;simp only [As.eL] at Z;have:=mR.eL Z
  grind
theorem cA.nth {E:En} {h:Array Obj}: ∀{i:Nat} {xs:List W} {x:W} {us:List Value},cA E h xs us->eZ xs i=some x->∃u,us[i]?=some u/\VR E h x u
 |_,[],_,us,_,Z=>by simp [eZ] at Z
 |0,x::xs,y,us,U,Z=>by
  rw [bT] at U;obtain⟨u,vs,rfl,hx,mR⟩:=U
  grind [eZ]
 |i+1,x::xs,y,us,U,Z=>by
  rw [bT] at U;obtain⟨u,vs,rfl,hx,mR⟩:=U;simp only [eZ] at Z;obtain⟨v,h3,h4⟩:=mR.nth Z
  grind
def eI (E:En) (h:Array Obj):List (W×W×Nat)->List MapEntry->Prop
 |[],es=>es= []
 |(k,v,b)::xs,es=> ∃e r,es=e::r/\VR E h k e.key/\VR E h v e.val/\b=b/\eI E h xs r
def HN (ro:Nat->Prop) (h:Array Obj):List CK->Nat->D->List Value->Prop
 |[],_,_,us=>us= []
 |c::cs,j,d,us=> ∃u vs,us=u::vs/\Rd ro h c (d.hd j) u/\HN ro h cs (j+1) d vs
def FF (ro:Nat->Prop) (h:Array Obj) (r:Row) (d:D) (v:Value):Prop:=match r with
 | .one c=>Rd ro h c d v
 | .many cs=>wD cs d/\∃us,v= .agg us.toArray/\HN ro h cs 0 d us
theorem HN.cf {ro my:Nat->Prop} {h h':Array Obj} (k1: ∀b,ro b->my b) (k2: ∀b,ro b->h'[b]?=h[b]?) {d:D}: ∀{cs:List CK} {j:Nat} {us:List Value},HN ro h cs j d us->HN my h' cs j d us
 |[],_,_,hh=>hh
 |_::_,_,_,hh=>by obtain⟨u,vs,U,Z,h3⟩:=hh;exact⟨u,vs,U,Z.cf k1 k2,HN.cf k1 k2 h3⟩
theorem FF.cf {ro my:Nat->Prop} {h h':Array Obj} (k1: ∀b,ro b->my b) (k2: ∀b,ro b->h'[b]?=h[b]?) {r:Row} {d:D} {v:Value} (hh:FF ro h r d v):FF my h' r d v:=by
 cases r with
 |one c=>exact Rd.cf k1 k2 hh
 |many cs=> obtain⟨h0,us,U,Z⟩:=hh;exact⟨h0,us,U,Z.cf k1 k2⟩
def kb (ro:Nat->Prop) (h:Array Obj) (t:Nat):List D->List MapEntry->Prop
 |[],es=>es= []
 |d::ds,es=> ∃e r,es=e::r/\d= .p (gw d) (FA d)/\FF ro h (mapOf t).1 (gw d) e.key/\FF ro h (mapOf t).2 (FA d) e.val/\kb ro h t ds r
theorem kb.cf {ro my:Nat->Prop} {h h':Array Obj} (k1: ∀b,ro b->my b) (k2: ∀b,ro b->h'[b]?=h[b]?) {t:Nat}: ∀{ds:List D} {es:List MapEntry},kb ro h t ds es->kb my h' t ds es
 |[],_,hh=>hh
 |_::_,_,hh=>by obtain⟨e,r,U,Z,h3,h4,h5⟩:=hh;exact⟨e,r,U,Z,h3.cf k1 k2,h4.cf k1 k2,kb.cf k1 k2 h5⟩
theorem kb.length {ro:Nat->Prop} {h:Array Obj} {t:Nat}: ∀{ds:List D} {es:List MapEntry},kb ro h t ds es->es.length=ds.length
 |[],_,hh=>by simp only [kb] at hh; rw [hh]; rfl
 |_::_,_,hh=>by obtain⟨e,r,U,_,_,_,h5⟩:=hh;rw [U,aM,aM,kb.length h5]
noncomputable def ed (ρ:Nat->Int) (i:Nat):List (V×List W)->Option (List W)
 |[]=>none
 |(j,cs)::l=>if j.den ρ=(i:Int) then some cs else ed ρ i l
noncomputable def bE (ρ:Nat->Int) (r:Row) (ov:List (V×List W)):List D->Nat->List W
 |[],_=>[]
 |d::ds,i=>(match ed ρ i ov with |some cs=>cs|none=>gL r (.ep d))++bE ρ r ov ds (i+1)
def sM (r:Row) (ov:List (V×List W)):Prop:= ∀p∈ov,p.2.length=r.es
noncomputable def lR (ρ:Nat->Int) (n:Int):List (V×W)->Option W
 |[]=>none
 |(x,v)::l=>if x.den ρ=n then some v else lR ρ n l
def alj (E:En) (h:Array Obj) (B:Nat) (k:D) (j ty t:Nat) (d:D) (u:Value):Prop:=
 ∃b o n cap a arr lo hi,u= .slice (some a) n cap/\n<=cap/\E.hd b=some (B,k,j)/\h[b]?=some (.cells arr ty (lo,hi))/\((a=⟨b,o,none⟩/\o+cap*(rowOf t).es=arr.size)\/(cap=0/\n=0/\o=arr.size))/\(∀q,lo<=q->q<hi->arr.size<=q)/\
  ((n=0/\d= .i 3)\/(sg (rowOf t) d/\d.l.length=n/\∃us,cA E h (bE E.ρ (rowOf t) [] d.l 0) us/\(∀i u,us[i]?=some u->arr[o+i]?=some u)/\∀u∈us,u.oneCell'=true))
def oO (E:En) (h:Array Obj) (B:Nat) (k:D) (j ty:Nat) (c:FC) (d:D) (u:Value):Prop:=match c with
 | .ck c=>Rd E.ro h c d u
 | .own t=>((∃x,u= .slice x 0 0)/\Rd E.ro h (.sl t) d u)\/alj E h B k j ty t d u
 | .mp t=> ∃b bK c,u= .map (some b)/\E.hd b=some (B,k,j)/\h[b]?=some (.map bK c)/\kb E.ro h t d.l bK.toList
def pU (E:En) (h:Array Obj) (B t:Nat) (eX:List Nat) (k d:D) (v:Value):Prop:=match (qA t).ptr with
 |false=> ∃c,(qA t).cs= [c]/\oO E h B k 1 (eX.getD 1 0) c d v
 |true=> ∃b o arr lo hi,v= .pointer (some ⟨b,o,none⟩)/\E.hd b=some (B,k,0)/\h[b]?=some (.cells arr (eX.getD 0 0) (lo,hi))/\o+(qA t).cs.length<=arr.size/\(∀q,lo<=q->q<hi->arr.size<=q)/\
  ∀j c,(qA t).cs[j]?=some c->∃u,arr[o+j]?=some u/\u.oneCell'=true/\oO E h B k (j+1) (eX.getD (j+2) 0) c (d.hd j) u
def eP (E:En) (h:Array Obj) (B t:Nat) (eX:List Nat) (ov:List (V×W)):List D->List MapEntry->Prop
 |[],es=>es= []
 |d::ds,es=> ∃e r n,es=e::r/\d= .p (.i n) (FA d)/\e.key= .int .i64 n/\(match lR E.ρ n ov with |some v=>VR E h v e.val|none=>pU E h B t eX (.i n) (FA d) e.val)/\eP E h B t eX ov ds r
def Aa (ρ:Nat->Int) (ds:List D) (ov:List (V×W)):Prop:=(ds.map gw).Nodup/\(∀p∈ov,D.i (p.1.den ρ)∈ds.map gw)/\(ov.map fun p=>p.1.den ρ).Nodup
def SO:Nat->List (W×W×Nat)->List MapEntry->Nat->Prop
 |0,_,_,_=>True
 |c+1,es,bK,c'=>c'=c/\bK.map (·.born)=es.map (·.2.2)
def OR (E:En) (h:Array Obj) (id:Nat):dM->Prop
 | .cells cs e=> ∃arr lo hi us,h[(E.θ id).1]?=some (.cells arr e (lo,hi))/\cA E h cs us/\(∀i u,us[i]?=some u->arr[(E.θ id).2+i]?=some u)/\
  cs.length<=E.κ id/\(E.θ id).2+E.κ id=arr.size/\(∀o,lo<=o->o<hi->arr.size<=o)/\(∀u∈us,u.oneCell'=true)
 | .map es k=> ∃bK c,h[(E.θ id).1]?=some (.map bK c)/\eI E h es bK.toList/\SO k es bK.toList c
 | .vec e t ty ov=>(sM (rowOf t) ov/\sg (rowOf t) (dec (e.den E.ρ)))/\∃arr lo hi us,h[(E.θ id).1]?=some (.cells arr ty (lo,hi))/\cA E h (bE E.ρ (rowOf t) ov (dec (e.den E.ρ)).l 0) us/\(∀i u,us[i]?=some u->arr[(E.θ id).2+i]?=some u)/\
  (bE E.ρ (rowOf t) ov (dec (e.den E.ρ)).l 0).length<=E.κ id/\(E.θ id).2+E.κ id=arr.size/\(∀o,lo<=o->o<hi->arr.size<=o)/\(∀u∈us,u.oneCell'=true)
 | .kg s p=>h[(E.θ id).1]?=some (.stringIter (dh s) p)/\(E.θ id).2=0/\∀b∈s,b<256
 | .jC m s l z=>match m with
   |none=>h[(E.θ id).1]?=some (.mapIter none s l.toArray z)/\(E.θ id).2=0
   |some i=>h[(E.θ id).1]?=some (.mapIter (some (E.θ i).1) s l.toArray z)/\(E.θ id).2=0/\E.dm i
 | .j6 e t=> ∃bK c,h[(E.θ id).1]?=some (.map bK c)/\kb E.ro h t (dec (e.den E.ρ)).l bK.toList
 | .tT e t eX ov=>Aa E.ρ (dec (e.den E.ρ)).l ov/\∃bK c,h[(E.θ id).1]?=some (.map bK c)/\eP E h (E.θ id).1 t eX ov (dec (e.den E.ρ)).l bK.toList
class bI where
 ok:(Nat->Int)->(Nat->Prop)->Array Obj->Prop
 cf: ∀{ρ:Nat->Int} {ro my:Nat->Prop} {h h':Array Obj},ok ρ ro h->(∀b,ro b->my b)->(∀b,ro b->h'[b]?=h[b]?)->ok ρ my h'
 gN: ∀{ρ ρ':Nat->Int} {ro:Nat->Prop} {h:Array Obj},ok ρ ro h->(∀i,900<=i->ρ' i=ρ i)->ok ρ' ro h
structure bO [bI] (E:En) (H:Hp) (w:World):Prop where
 fresh: ∀id,H.next<=id->¬E.dm id
 res: ∀r,H.res=some r->r<H.next/\¬E.dm r
 live: ∀id o,H.get id=some o->E.dm id/\OR E w.heap id o/\¬E.ro (E.θ id).1
 inj: ∀id Oa o o',H.get id=some o->H.get Oa=some o'->(E.θ id).1=(E.θ Oa).1->id=Oa
 rh: ∀b,E.ro b->b<w.heap.size
 jG:bI.ok E.ρ E.ro w.heap
 hid: ∀b x,E.hd b=some x->b<w.heap.size/\¬E.ro b/\∀id o,H.get id=some o->(E.θ id).1≠b
structure eT (E:En) (H:Hp) (w:World) (E':En) (H':Hp) (w':World):Prop where
 ρ:E'.ρ=E.ρ
 dm: ∀id,E.dm id->E'.dm id
 θ: ∀id,E.dm id->E'.θ id=E.θ id
 κ: ∀id,E.dm id->E'.κ id=E.κ id
 ro: ∀b,E.ro b->E'.ro b
 rF: ∀b,E'.ro b->E.ro b\/(∃id o,H.get id=some o/\(E.θ id).1=b)\/w.heap.size<=b
 QI:H.next<=H'.next
 rsm:H'.res=none\/H'.res=H.res
 w?: ∀id,E'.dm id->E.dm id\/(H.next<=id/\id<H'.next)\/H.res=some id
 os:w'.os=w.os
 tape:w'.tape=w.tape
 output:w'.output=w.output
 size:w.heap.size<=w'.heap.size
 cf: ∀b,b<w.heap.size->(∀id o,H.get id=some o->(E.θ id).1≠b)->w'.heap[b]?=w.heap[b]?
 own: ∀id o,H'.get id=some o->(E'.θ id).1<w.heap.size->∃rO o0,H.get rO=some o0/\(E.θ rO).1=(E'.θ id).1
 hd:E'.hd=E.hd
theorem eT.refl (E:En) (H:Hp) (w:World):eT E H w E H w:=
 ⟨rfl,fun _ h=>h,fun _ _=>rfl,fun _ _=>rfl,fun _ h=>h,fun _ h=> .inl h,au _,.inr rfl,fun _ h=> .inl h,rfl,rfl,rfl,au _,fun _ _ _=>rfl,fun id o h _=> ⟨id,o,h,rfl⟩,rfl⟩
theorem eT.trans {E E1 E2:En} {H H1 H2:Hp} {w w1 w2:World} (a:eT E H w E1 H1 w1) (b:eT E1 H1 w1 E2 H2 w2):eT E H w E2 H2 w2 where
 ρ:=b.ρ.trans a.ρ
 dm:=fun id h=>b.dm id (a.dm id h)
 θ:=fun id h=>(b.θ id (a.dm id h)).trans (a.θ id h)
 κ:=fun id h=>(b.κ id (a.dm id h)).trans (a.κ id h)
 ro:=fun x h=>b.ro x (a.ro x h)
 rF:=fun x h=>by
  rcases b.rF x h with h|⟨id,o,U,Z⟩|h
  ·exact a.rF x h
  ·rcases aT x w.heap.size with hx|hx
   ·obtain⟨rO,o0,h3,h4⟩:=a.own id o U (by rw [Z]; exact hx);exact .inr (.inl ⟨rO,o0,h3,h4.trans Z⟩)
   ·exact .inr (.inr hx)
  ·exact .inr (.inr (bk a.size h))
 QI:=bk a.QI b.QI
 rsm:=by
  rcases b.rsm with h|h
  ·exact .inl h
  ·rw [h]; exact a.rsm
 w?:=fun id h=>by
  rcases b.w? id h with h|h|h
  ·rcases a.w? id h with h|h|h
   ·exact .inl h
   ·exact .inr (.inl ⟨h.1,ama h.2 b.QI⟩)
   ·exact .inr (.inr h)
  ·exact .inr (.inl ⟨bk a.QI h.1,h.2⟩)
  ·rcases a.rsm with h'|h'
   ·rw [h'] at h; simp at h
   ·exact .inr (.inr (h'.symm.trans h))
 os:=b.os.trans a.os
 tape:=b.tape.trans a.tape
 output:=b.output.trans a.output
 size:=bk a.size b.size
 cf:=fun x hx hn=>by rw [b.cf x (ama hx a.size) ?_,a.cf x hx hn];intro id o ho he;obtain⟨rO,o0,h0,he0⟩:=a.own id o ho (by rw [he]; exact hx);exact hn rO o0 h0 (he0.trans he)
 own:=fun id o ho fW=>by obtain⟨id1,o1,U,Yn⟩:=b.own id o ho (ama fW a.size);obtain⟨rO,o0,h0,he0⟩:=a.own id1 o1 U (by rw [Yn]; exact fW);exact⟨rO,o0,h0,he0.trans Yn⟩
 hd:=b.hd.trans a.hd
structure fC (E:En) (h:Array Obj) (E':En) (h':Array Obj):Prop where
 ρ:E'.ρ=E.ρ
 dm: ∀id,E.dm id->E'.dm id
 θ: ∀id,E.dm id->E'.θ id=E.θ id
 κ: ∀id,E.dm id->E'.κ id=E.κ id
 ro: ∀b,E.ro b->E'.ro b
 Bo: ∀b,E.ro b->h'[b]?=h[b]?
theorem eT.keeps [bI] {E E':En} {H H':Hp} {w w':World} (s:eT E H w E' H' w') (r:bO E H w):fC E w.heap E' w'.heap:=
 ⟨s.ρ,s.dm,s.θ,s.κ,s.ro,fun b hb=>s.cf b (r.rh b hb) fun id o ho he=>(r.live id o ho).2.2 (by rw [he]; exact hb)⟩
theorem fU.cf {E E':En} {h h':Array Obj} (k:fC E h E' h') {b o:Nat} {us:List Value} (hb:E.ro b) (hc:fU h b o us):fU h' b o us:=by
 intro i u hu;have:=hc i u hu;unfold jU at *;rw [k.Bo b hb]
 grind
theorem eQ.cf {E E':En} {h h':Array Obj} (k:fC E h E' h') {id off len:Nat} {a:Addr} {cap:Nat} {c:MN} (hid:E.dm id) (hc:eQ E id off len a cap c):eQ E' id off len a cap c:=by
 cases c<;>simp only [eQ] at*<;>rw [k.θ id hid]
 ·exact hc
 ·rw [k.κ id hid]; exact hc
mutual
theorem VR.cf {E E':En} {h h':Array Obj} (k:fC E h E' h'): ∀(x:W) (v:Value),VR E h x v->VR E' h' x v
 | .bool b,v,hv=>by simp only [VR] at *; rw [k.ρ]; exact hv
 | .int _ e,v,hv=>by simp only [VR] at *; rw [k.ρ]; exact hv
 | .str s,v,hv=>by simp only [VR] at *; exact hv
 | .ptr id off,v,hv=>by simp only [VR] at *; rw [k.θ id hv.2]; exact⟨hv.1,k.dm _ hv.2⟩
 | .tY,v,hv=>by simp only [VR] at *; exact hv
 | .mY cs,v,hv=>by simp only [VR] at *;obtain⟨b,o,us,U,Z,h3,h4,h5⟩:=hv;exact⟨b,o,us,U,k.ro b Z,cA.cf k cs us h3,h4.cf k Z,h5⟩
 | .slice id off len c,v,hv=>by simp only [VR] at *;obtain⟨U,a,cap,Z,h3,h4⟩:=hv;exact⟨k.dm _ U,a,cap,Z,h3,h4.cf k U⟩
 | .fZ,v,hv=>by simp only [VR] at *; exact hv
 | .ro cs n full,v,hv=>by simp only [VR] at *;obtain⟨b,o,cap,us,U,Z,h3,h4,h5,h6,h7⟩:=hv;exact⟨b,o,cap,us,U,Z,h3,k.ro b h4,cA.cf k cs us h5,h6.cf k h4,h7⟩
 | .map id,v,hv=>by simp only [VR] at *; rw [k.θ id hv.2]; exact⟨hv.1,k.dm _ hv.2⟩
 | .rI,v,hv=>by simp only [VR] at *; exact hv
 | .func fn fs cs,v,hv=>by simp only [VR] at *;obtain⟨us,ws,U,Z,h3⟩:=hv;exact⟨us,ws,U,cA.cf k fs us Z,cA.cf k cs ws h3⟩
 | .wG,v,hv=>by simp only [VR] at *; exact hv
 | .iface t x,v,hv=>by simp only [VR] at *;obtain⟨u,U,Z⟩:=hv;exact⟨u,U,VR.cf k x u Z⟩
 | .xA,v,hv=>by simp only [VR] at *; exact hv
 | .agg cs,v,hv=>by simp only [VR] at *;obtain⟨us,U,Z⟩:=hv;exact⟨us,U,cA.cf k cs us Z⟩
 | .tuple cs,v,hv=>by simp only [VR] at *;obtain⟨us,U,Z⟩:=hv;exact⟨us,U,cA.cf k cs us Z⟩
 | .KY _,v,hv=>by simp only [VR] at hv
 | .emp,v,hv=>by simp only [VR] at *; exact hv
 | .ep e t,v,hv=>by simp only [VR] at *; rw [k.ρ]; exact hv.cf k.ro k.Bo
 | .jP e,v,hv=>by simp only [VR] at *; rw [k.ρ]; exact hv.cf k.ro k.Bo
 | .pb id n t,v,hv=>by simp only [VR] at *;obtain⟨U,m,a,cap,Z,h3,h4,h5⟩:=hv;exact⟨k.dm _ U,m,a,cap,by rw [k.ρ]; exact Z,h3,h4,h5.cf k U⟩
 | .any,_,_=>by simp only [VR]
 | .xg z t,v,hv=>by simp only [VR] at *; rw [k.ρ]; exact⟨hv.1,hv.2.cf k.ro k.Bo⟩
 | .tV id lo n t,v,hv=>by simp only [VR] at *;obtain⟨U,l,m,a,cap,Z,h3,h4,h5,h6⟩:=hv;exact⟨k.dm _ U,l,m,a,cap,by rw [k.ρ]; exact Z,by rw [k.ρ]; exact h3,h4,h5,h6.cf k U⟩
 | .zG id es i off,v,hv=>by simp only [VR] at *;obtain⟨U,m,Z,h3⟩:=hv;exact⟨k.dm _ U,m,by rw [k.ρ]; exact Z,by rw [k.θ id U]; exact h3⟩
 | .wI kk ks,v,hv=>by
   simp only [VR] at *;rw [k.ρ];rcases hv with hv|⟨b,o,n,cap,U,Z,h3,h4,h5⟩
   ·grind
   ·refine .inr ⟨b,o,n,cap,U,Z,h3,k.ro b h4,fun i j kd hi hj=>?_⟩;have:=h5 i j kd hi hj;unfold jU at *;rw [k.Bo b h4]
    grind
theorem cA.cf {E E':En} {h h':Array Obj} (k:fC E h E' h'): ∀(xs:List W) (us:List Value),cA E h xs us->cA E' h' xs us
 |[],us,hv=>by simp only [cA] at *; exact hv
 |x::xs,us,hv=>by simp only [cA] at *;obtain⟨u,vs,U,Z,h3⟩:=hv;exact⟨u,vs,U,VR.cf k x u Z,cA.cf k xs vs h3⟩
end
theorem eI.cf {E E':En} {h h':Array Obj} (k:fC E h E' h'): ∀(xs:List (W×W×Nat)) (es:List MapEntry),eI E h xs es->eI E' h' xs es
 |[],es,hv=>by simp only [eI] at *; exact hv
 |(a,b,c)::xs,es,hv=>by simp only [eI] at *;obtain⟨e,r,U,Z,h3,h4,h5⟩:=hv;exact⟨e,r,U,VR.cf k _ _ Z,VR.cf k _ _ h3,h4,eI.cf k xs r h5⟩
theorem bO.T4 [bI] {E E':En} {H H':Hp} {w w':World} (r:bO E H w) (he:E'.hd=E.hd) (hs:w.heap.size<=w'.heap.size) (rF: ∀b,E'.ro b->E.ro b\/(∃id o,H.get id=some o/\(E.θ id).1=b)\/w.heap.size<=b)
 (own: ∀id o,H'.get id=some o->(E'.θ id).1<w.heap.size->∃rO o0,H.get rO=some o0/\(E.θ rO).1=(E'.θ id).1): ∀b x,E'.hd b=some x->b<w'.heap.size/\¬E'.ro b/\∀id o,H'.get id=some o->(E'.θ id).1≠b:=by
 intro b x hb;rw [he] at hb;obtain⟨q1,q2,q3⟩:=r.hid b x hb;refine⟨J,fun hr=>?_,fun id o ho e=>?_⟩
 ·rcases rF b hr with h|⟨id,o,U,Z⟩|h
  ·exact q2 h
  ·exact q3 id o U Z
  ·omega
 ·obtain⟨rO,o0,h0,e0⟩:=own id o ho (by rw [e]; exact q1);exact q3 rO o0 h0 (e0.trans e)
def HdK (E:En) (h:Array Obj) (E':En) (h':Array Obj) (B:Nat) (k:D):Prop:= ∀b j,E.hd b=some (B,k,j)->E'.hd b=some (B,k,j)/\h'[b]?=h[b]?
theorem bO.UZ [bI] {E E':En} {H:Hp} {w:World} {h':Array Obj} (r:bO E H w) (he:E'.hd=E.hd) (hk: ∀b,b<w.heap.size->(∀id o,H.get id=some o->(E.θ id).1≠b)->h'[b]?=w.heap[b]?) (B:Nat) (key:D):HdK E w.heap E' h' B key:=
 fun b _ hb=> ⟨by rw [he]; exact hb,hk b (r.hid b _ hb).1 (r.hid b _ hb).2.2⟩
theorem oO.cf {E E':En} {h h':Array Obj} (k:fC E h E' h') {B:Nat} {key:D} {j ty:Nat} (hh: ∀b,E.hd b=some (B,key,j)->E'.hd b=some (B,key,j)/\h'[b]?=h[b]?) {c:FC} {d:D} {u:Value} (ho:oO E h B key j ty c d u):oO E' h' B key j ty c d u:=by
 cases c with
 |ck c=>exact Rd.cf k.ro k.Bo ho
 |own t=>
  rcases ho with ⟨U,Z⟩|⟨b,o,n,cap,a,arr,lo,hi,U,Z,h3,h4,h5,h6,h7⟩
  ·exact .inl ⟨U,Rd.cf k.ro k.Bo Z⟩
  ·obtain⟨q1,q2⟩:=hh b h3;refine .inr ⟨b,o,n,cap,a,arr,lo,hi,U,Z,q1,by rw [q2]; exact h4,h5,h6,?_⟩;rcases h7 with h7|⟨g1,g2,us,g3,g4⟩
   ·exact .inl h7
   ·exact .inr ⟨g1,g2,us,by rw [k.ρ]; exact cA.cf k _ us g3,g4⟩
 |mp t=> obtain⟨b,bK,c,U,Z,h3,h4⟩:=ho;obtain⟨q1,q2⟩:=hh b Z;exact⟨b,bK,c,U,q1,by rw [q2]; exact h3,h4.cf k.ro k.Bo⟩
theorem pU.cf {E E':En} {h h':Array Obj} (k:fC E h E' h') {B t:Nat} {eX:List Nat} {key d:D} {v:Value} (hh:HdK E h E' h' B key) (ho:pU E h B t eX key d v):pU E' h' B t eX key d v:=by
 unfold pU at *;split at ho
 ·obtain⟨c,U,Z⟩:=ho;exact⟨c,U,Z.cf k fun b=>hh b _⟩
 ·obtain⟨b,o,arr,lo,hi,U,Z,h3,h4,h5,h6⟩:=ho;obtain⟨q1,q2⟩:=hh b 0 Z;refine⟨b,o,arr,lo,hi,U,q1,by rw [q2]; exact h3,h4,h5,fun j c hc=>?_⟩;obtain⟨u,g1,g2,g3⟩:=h6 j c hc;exact⟨u,g1,g2,g3.cf k fun b=>hh b _⟩
theorem eP.cf {E E':En} {h h':Array Obj} (k:fC E h E' h') {B t:Nat} {eX:List Nat} {ov:List (V×W)} (hh: ∀n,lR E.ρ n ov=none->HdK E h E' h' B (.i n)): ∀{ds:List D} {es:List MapEntry},eP E h B t eX ov ds es->eP E' h' B t eX ov ds es
 |[],_,ho=>ho
 |d::ds,_,⟨e,r,n,U,Z,h3,h4,h5⟩=>by
  refine⟨e,r,n,U,Z,h3,?_,eP.cf k hh h5⟩;rw [k.ρ];split at h4
  ·rename_i v hv;exact VR.cf k _ _ h4
  ·rename_i hv;exact h4.cf k (hh n hv)
def nf:dM->Bool
 | .tT _ _ _ _=>false
 |_=>true
theorem eP.length {E:En} {h:Array Obj} {B t:Nat} {eX:List Nat} {ov:List (V×W)}: ∀{ds:List D} {es:List MapEntry},eP E h B t eX ov ds es->es.length=ds.length
 |[],_,ho=>by simp only [eP] at ho; rw [ho]; rfl
 |d::ds,_,⟨e,r,n,U,_,_,_,h5⟩=>by rw [U,aM,aM,eP.length h5]
theorem OR.XR {E E':En} {h h':Array Obj} (k:fC E h E' h') {id:Nat} {o:dM} (hid:E.dm id) (hb:h'[(E.θ id).1]?=h[(E.θ id).1]?) (hh:nf o=true\/∀key,HdK E h E' h' (E.θ id).1 key) (ho:OR E h id o):OR E' h' id o:=by
 cases o with
 |cells cs e=> simp only [OR] at *;obtain⟨arr,lo,hi,us,U,Z,h3,h4,h5,h6,h7⟩:=ho;rw [k.θ id hid,k.κ id hid,hb];exact⟨arr,lo,hi,us,U,cA.cf k cs us Z,h3,h4,h5,h6,h7⟩
 |map es c=> simp only [OR] at *;obtain⟨bK,c,U,Z,h3⟩:=ho;rw [k.θ id hid,hb];exact⟨bK,c,U,eI.cf k _ _ Z,h3⟩
 |kg s p=> simp only [OR] at *;rw [k.θ id hid,hb];exact ho
 |jC m s l z=>
  cases m with
  |none=> simp only [OR] at *;rw [k.θ id hid,hb];exact ho
  |some i=> simp only [OR] at *;obtain⟨U,Z,h3⟩:=ho;rw [k.θ id hid,hb,k.θ i h3];exact⟨U,Z,k.dm _ h3⟩
 |j6 e t=> simp only [OR] at *;obtain⟨bK,c,U,Z⟩:=ho;rw [k.θ id hid,hb,k.ρ];exact⟨bK,c,U,Z.cf k.ro k.Bo⟩
 |vec e t ty ov=> simp only [OR] at *;obtain⟨h0,arr,lo,hi,us,U,Z,h3,h4,h5,h6,h7⟩:=ho;rw [k.θ id hid,k.κ id hid,hb,k.ρ];exact⟨h0,arr,lo,hi,us,U,cA.cf k _ us Z,h3,h4,h5,h6,h7⟩
 |tT e t eX ov=>
  simp only [OR] at *;obtain⟨h0,bK,c,U,Z⟩:=ho;rw [k.θ id hid,hb,k.ρ];rcases hh with hh|hh
  ·simp [nf] at hh
  exact⟨h0,bK,c,U,Z.cf k fun n _=>hh _⟩
theorem OR.cf {E E':En} {h h':Array Obj} (k:fC E h E' h') {id:Nat} {o:dM} (hid:E.dm id) (hb:h'[(E.θ id).1]?=h[(E.θ id).1]?) (hh: ∀key,HdK E h E' h' (E.θ id).1 key) (ho:OR E h id o):OR E' h' id o:=ho.XR k hid hb (.inr hh)
theorem OR.abY {E E':En} {h h':Array Obj} (k:fC E h E' h') {id:Nat} {o:dM} (hid:E.dm id) (hb:h'[(E.θ id).1]?=h[(E.θ id).1]?) (hn:nf o=true) (ho:OR E h id o):OR E' h' id o:=ho.XR k hid hb (.inl hn)
end Go.As
end
section
namespace Go.As
theorem Hp.bQ (h:Hp) (i:Nat) (o:dM) (j:Nat):(h.put i o).get j=if j=i then some o else h.get j:=by simp [Hp.get,Hp.put,Tr.bQ]
theorem Hp.gg (h:Hp) (o:dM) (j:Nat):(h.new o).get j=if j=h.fresh then some o else h.get j:=by
 grind [Hp.new,Hp.fresh,Hp.get,Tr.bQ]
theorem bO.E_ [bI] {E:En} {H:Hp} {w:World} (r:bO E H w): ¬E.dm H.fresh:=by
 unfold Hp.fresh
 cases hr:H.res with
 |none=>exact r.fresh _ (au _)
 |some x=>exact (r.res x hr).2
theorem bO.qK [bI] {E:En} {H:Hp} {w:World} (r:bO E H w) {i:Nat} (h:E.dm i):i≠H.fresh:=fun e=>r.E_ (e▸h)
theorem Hp.kG (h:Hp) (i j:Nat):(h.drop i).get j=if j=i then none else h.get j:=by simp [Hp.get,Hp.drop,Tr.bQ]
def En.ext (E:En) (n:Nat) (p:Nat×Nat) (c:Nat):En:=
 { E with θ:=fun i=>if i=n then p else E.θ i,κ:=fun i=>if i=n then c else E.κ i,dm:=fun i=>i=n\/E.dm i }
theorem En.ext_θ_new (E:En) (n:Nat) (p:Nat×Nat) (c:Nat):(E.ext n p c).θ n=p:=by simp [En.ext]
theorem En.ext_κ_new (E:En) (n:Nat) (p:Nat×Nat) (c:Nat):(E.ext n p c).κ n=c:=by simp [En.ext]
theorem En.gC (E:En) (n:Nat) (p:Nat×Nat) (c:Nat):(E.ext n p c).dm n:=.inl rfl
theorem En.ext_θ (E:En) (n:Nat) (p:Nat×Nat) (c:Nat) {i:Nat} (h:i≠n):(E.ext n p c).θ i=E.θ i:=by simp [En.ext,h]
theorem En.ext_κ (E:En) (n:Nat) (p:Nat×Nat) (c:Nat) {i:Nat} (h:i≠n):(E.ext n p c).κ i=E.κ i:=by simp [En.ext,h]
theorem Ho [bI] {E:En} {H:Hp} {w:World} (r:bO E H w) (p:Nat×Nat) (c:Nat) (o:dM):(∀id,(H.new o).next<=id->¬(E.ext H.fresh p c).dm id)/\∀q,(H.new o).res=some q->q<(H.new o).next/\¬(E.ext H.fresh p c).dm q:=by
 have U:=r.fresh;have Z:=r.res;unfold Hp.new Hp.fresh
 cases hr:H.res with
 |none=>
  refine⟨fun id hid hd=>?_,ad⟩;simp at hid;rcases hd with hd|hd
  all_goals grind
 |some q=>
  refine⟨fun id hid hd=>?_,ad⟩;simp at hid;have:=Z q hr;rcases hd with hd|hd
  all_goals grind
theorem rJ (H:Hp) (o:dM):H.next<=(H.new o).next/\((H.new o).res=none\/(H.new o).res=H.res)/\∀id,id=H.fresh->(H.next<=id/\id<(H.new o).next)\/H.res=some id:=by
 grind [Hp.new,Hp.fresh]
structure Alike (w w':World):Prop where
 os:w'.os=w.os
 tape:w'.tape=w.tape
 output:w'.output=w.output
theorem yA {h:Array Obj} {o:Obj} {b:Nat} (hb:b<h.size):(h.push o)[b]?=h[b]?:=by
 grind
theorem DT [bI] {E:En} {H:Hp} {w:World} (r:bO E H w) (p:Nat×Nat) (c:Nat) (o:Obj):fC E w.heap (E.ext H.fresh p c) (w.heap.push o):=
 ⟨rfl,fun _ h=> .inr h,fun _ h=>En.ext_θ E _ p c (r.qK h),fun _ h=>En.ext_κ E _ p c (r.qK h),fun _ h=>h,fun b hb=>yA (r.rh b hb)⟩
theorem gf [bI] {E:En} {H:Hp} {w:World} (r:bO E H w) {id:Nat} {o:dM} (h:H.get id=some o):(E.θ id).1<w.heap.size:=by
 have Z:=(r.live id o h).2.1
 cases o with
 |cells cs e=>
  obtain⟨arr,lo,hi,us,U,_⟩:=Z
  grind
 |map es c=>
  obtain⟨bK,c',U,_⟩:=Z
  grind
 |kg s p=>exact (alW.1 Z.1).1
 |jC m s l z=>cases m with
  |none=>exact (alW.1 Z.1).1
  |some i=>exact (alW.1 Z.1).1
 |j6 e t=>
  obtain⟨bK,c',U,_⟩:=Z
  grind
 |tT e t eX ov=>
  obtain⟨_,bK,c',U,_⟩:=Z
  grind
 |vec e t ty ov=>
  obtain⟨_,arr,lo,hi,us,U,_⟩:=Z
  grind
theorem pj [bI] {E:En} {H:Hp} {w w':World} (r:bO E H w) (o:Obj) (ao:dM) (c:Nat) (hw:w'.heap=w.heap.push o) (al:Alike w w')
 (ho:OR (E.ext H.fresh (w.heap.size,0) c) w'.heap H.fresh ao) :
 eT E H w (E.ext H.fresh (w.heap.size,0) c) (H.new ao) w'/\bO (E.ext H.fresh (w.heap.size,0) c) (H.new ao) w':=by
 have k:=DT r (w.heap.size,0) c o;rw [<- hw] at k;have hf:=Ho r (w.heap.size,0) c ao;refine⟨⟨k.ρ,k.dm,k.θ,k.κ,k.ro,fun _ h=> .inl h,(rJ H ao).1,(rJ H ao).2.1,fun id h=>h.elim (fun e=> .inr ((rJ H ao).2.2 id e)) .inl,al.os,al.tape,al.output,by rw [hw]; simp,fun b hb _=>by rw [hw,yA hb],?_,rfl⟩,⟨hf.1,hf.2,?_,?_,?_,bI.cf r.jG k.ro k.Bo,?_⟩⟩
 ·intro id o2 Z fW;rw [Hp.gg] at Z;split at Z
  ·rename_i he
   grind [En.ext_θ_new]
  ·have h3:=(r.live id o2 Z).1;exact⟨id,o2,Z,by rw [En.ext_θ _ _ _ _ (r.qK h3)]⟩
 ·intro id o2 Z;rw [Hp.gg] at Z;split at Z
  ·rename_i he;simp at Z;subst Z;rw [he,En.ext_θ_new];refine⟨En.gC _ _ _ _,ho,fun hr=>?_⟩;have:=r.rh _ hr
   grind
  ·obtain⟨h3,h4,h5⟩:=r.live id o2 Z;refine⟨.inr h3,h4.cf k h3 ?_ (fun key b j hb=> ⟨hb,by rw [hw,yA (r.hid b _ hb).1]⟩),?_⟩
   ·grind [yA,gf]
   ·rw [En.ext_θ _ _ _ _ (r.qK h3)]; exact h5
 ·intro id Oa o1 o2 U Z he;rw [Hp.gg] at U Z;split at U<;>split at Z
  ·omega
  ·rename_i e1 _;have h3:=(r.live Oa o2 Z).1;rw [e1,En.ext_θ_new,En.ext_θ _ _ _ _ (r.qK h3)] at he;have:=gf r Z
   grind
  ·rename_i _ e1;have h3:=(r.live id o1 U).1;rw [e1,En.ext_θ_new,En.ext_θ _ _ _ _ (r.qK h3)] at he;have:=gf r U
   grind
  ·have h3:=(r.live id o1 U).1;have h4:=(r.live Oa o2 Z).1;rw [En.ext_θ _ _ _ _ (r.qK h3),En.ext_θ _ _ _ _ (r.qK h4)] at he;exact r.inj id Oa o1 o2 U Z he
 ·intro b hb;have:=r.rh b hb
  grind
 ·intro b x hb;obtain⟨q1,q2,q3⟩:=r.hid b x hb;refine⟨by rw [hw,Array.size_push]; omega,q2,fun id o2 Z=>?_⟩;rw [Hp.gg] at Z;split at Z
  ·rename_i he;rw [he,En.ext_θ_new];exact fun e=>by have e:w.heap.size=b:=e; omega
  ·rw [En.ext_θ _ _ _ _ (r.qK (r.live id o2 Z).1)];exact q3 id o2 Z
theorem kz [bI] {E:En} {H:Hp} {w w':World} (r:bO E H w) {id:Nat} {o:dM} (Y:H.get id=some o)
 (lD: ∀b,b≠(E.θ id).1->w'.heap[b]?=w.heap[b]?):fC E w.heap E w'.heap:=
 ⟨rfl,fun _ h=>h,fun _ _=>rfl,fun _ _=>rfl,fun _ h=>h,fun b hb=>lD b fun e=>(r.live id o Y).2.2 (by rw [<- e]; exact hb)⟩
theorem Du [bI] {E:En} {H:Hp} {w w':World} (r:bO E H w) {id:Nat} {o:dM} (Y:H.get id=some o) (ao:dM)
 (Ls:w'.heap.size=w.heap.size) (lD: ∀b,b≠(E.θ id).1->w'.heap[b]?=w.heap[b]?) (al:Alike w w') (ho:OR E w'.heap id ao) :
 eT E H w E (H.put id ao) w'/\bO E (H.put id ao) w':=by
 have k:=kz r Y lD;refine⟨⟨rfl,fun _ h=>h,fun _ _=>rfl,fun _ _=>rfl,fun _ h=>h,fun _ h=> .inl h,au _,.inr rfl,fun _ h=> .inl h,al.os,al.tape,al.output,J,?_,?_,rfl⟩,⟨r.fresh,r.res,?_,?_,?_,bI.cf r.jG k.ro k.Bo,?_⟩⟩
 ·intro b _ hn
  grind
 ·intro j o2 Z _
  grind [Hp.bQ]
 ·intro j o2 Z;rw [Hp.bQ] at Z;split at Z
  ·rename_i e;subst e;simp at Z;subst Z;exact⟨(r.live j o Y).1,ho,(r.live j o Y).2.2⟩
  ·rename_i e;obtain⟨h3,h4,h5⟩:=r.live j o2 Z;refine⟨h3,h4.cf k h3 (lD _ fun e2=>e (r.inj j id o2 o Z Y e2)) (fun key b q hb=> ⟨hb,lD b fun e2=>(r.hid b _ hb).2.2 id o Y e2.symm⟩),h5⟩
 ·intro i j o1 o2 U Z he;rw [Hp.bQ] at U Z;split at U<;>split at Z
  ·omega
  ·rename_i e1 _; subst e1; exact r.inj i j o o2 Y Z he
  ·rename_i _ e1; subst e1; exact r.inj i j o1 o U Y he
  ·exact r.inj i j o1 o2 U Z he
 ·intro b hb;rw [Ls];exact r.rh b hb
 ·intro b x hb;obtain⟨q1,q2,q3⟩:=r.hid b x hb;refine⟨by rw [Ls]; exact q1,q2,fun j o2 Z=>?_⟩;rw [Hp.bQ] at Z;split at Z
  ·rename_i e;rw [e];exact q3 id o Y
  ·exact q3 j o2 Z
theorem wu [bI] {E:En} {H:Hp} {w:World} (r:bO E H w) (id:Nat):eT E H w E (H.drop id) w/\bO E (H.drop id) w:=by
 have hg: ∀j o,(H.drop id).get j=some o->H.get j=some o:=by
  intro j o h
  grind [Hp.kG]
 exact⟨⟨rfl,fun _ h=>h,fun _ _=>rfl,fun _ _=>rfl,fun _ h=>h,fun _ h=> .inl h,au _,.inr rfl,fun _ h=> .inl h,rfl,rfl,rfl,au _,fun _ _ _=>rfl,fun j o h _=> ⟨j,o,hg j o h,rfl⟩,rfl⟩,
  ⟨r.fresh,r.res,fun j o h=>r.live j o (hg j o h),fun i j o1 o2 U Z he=>r.inj i j o1 o2 (hg _ _ U) (hg _ _ Z) he,r.rh,r.jG,fun b x hb=> ⟨(r.hid b x hb).1,(r.hid b x hb).2.1,fun j o h=>(r.hid b x hb).2.2 j o (hg j o h)⟩⟩⟩
theorem NO [bI] {E:En} {H:Hp} {w w':World} (r:bO E H w) {id:Nat} {o:dM} (Y:H.get id=some o) (ao:dM) (off c:Nat)
 (Ls:w'.heap.size=w.heap.size) (lD: ∀b,b≠(E.θ id).1->w'.heap[b]?=w.heap[b]?) (al:Alike w w')
 (ho:OR (E.ext H.fresh ((E.θ id).1,(E.θ id).2+off) c) w'.heap H.fresh ao) :
 eT E H w (E.ext H.fresh ((E.θ id).1,(E.θ id).2+off) c) ((H.drop id).new ao) w'/\bO (E.ext H.fresh ((E.θ id).1,(E.θ id).2+off) c) ((H.drop id).new ao) w':=by
 have hdn:(H.drop id).fresh=H.fresh:=rfl;have hf:=Ho (wu r id).2 ((E.θ id).1,(E.θ id).2+off) c ao;rw [hdn] at hf
 have k:fC E w.heap (E.ext H.fresh ((E.θ id).1,(E.θ id).2+off) c) w'.heap:=
  ⟨rfl,fun _ h=> .inr h,fun _ h=>En.ext_θ E _ _ c (r.qK h),fun _ h=>En.ext_κ E _ _ c (r.qK h),fun _ h=>h,(kz r Y lD).Bo⟩
 have hg: ∀j o2,((H.drop id).new ao).get j=some o2->(j=H.fresh/\o2=ao)\/(j≠id/\H.get j=some o2):=by
  intro j o2 h
  grind [Hp.gg,Hp.kG]
 refine⟨⟨rfl,k.dm,k.θ,k.κ,k.ro,fun _ h=> .inl h,(rJ (H.drop id) ao).1,(rJ (H.drop id) ao).2.1,fun j h=>h.elim (fun e=> .inr ((rJ (H.drop id) ao).2.2 j e)) .inl,al.os,al.tape,al.output,J,?_,?_,rfl⟩,⟨hf.1,hf.2,?_,?_,?_,bI.cf r.jG k.ro k.Bo,?_⟩⟩
 ·intro b _ hn
  grind
 ·intro j o2 Z fW;rcases hg j o2 Z with ⟨rfl,rfl⟩|⟨_,h3⟩
  ·grind [En.ext_θ_new]
  ·have:=(r.live j o2 h3).1;exact⟨j,o2,h3,by rw [En.ext_θ _ _ _ _ (r.qK this)]⟩
 ·intro j o2 Z;rcases hg j o2 Z with ⟨rfl,rfl⟩|⟨gp,h3⟩
  ·rw [En.ext_θ_new];exact⟨En.gC _ _ _ _,ho,(r.live id o Y).2.2⟩
  ·obtain⟨h4,h5,h6⟩:=r.live j o2 h3;refine⟨.inr h4,h5.cf k h4 (lD _ fun e=>gp (r.inj j id o2 o h3 Y e)) (fun key b q hb=> ⟨hb,lD b fun e2=>(r.hid b _ hb).2.2 id o Y e2.symm⟩),?_⟩;rw [En.ext_θ _ _ _ _ (r.qK h4)]; exact h6
 ·intro i j o1 o2 U Z he;rcases hg i o1 U with ⟨e1,_⟩|⟨e1,h3⟩ <;>rcases hg j o2 Z with ⟨e2,_⟩|⟨e2,h4⟩
  ·omega
  ·have:=(r.live j o2 h4).1;rw [e1,En.ext_θ_new,En.ext_θ _ _ _ _ (r.qK this)] at he;exact absurd (r.inj id j o o2 Y h4 he).symm e2
  ·have:=(r.live i o1 h3).1;rw [e2,En.ext_θ_new,En.ext_θ _ _ _ _ (r.qK this)] at he;exact absurd (r.inj i id o1 o h3 Y he) e1
  ·have h5:=(r.live i o1 h3).1;have h6:=(r.live j o2 h4).1;rw [En.ext_θ _ _ _ _ (r.qK h5),En.ext_θ _ _ _ _ (r.qK h6)] at he;exact r.inj i j o1 o2 h3 h4 he
 ·intro b hb;rw [Ls];exact r.rh b hb
 ·intro b x hb;obtain⟨q1,q2,q3⟩:=r.hid b x hb;refine⟨by rw [Ls]; exact q1,q2,fun j o2 Z=>?_⟩;rcases hg j o2 Z with ⟨rfl,rfl⟩|⟨_,h3⟩
  ·rw [En.ext_θ_new];exact q3 id o Y
  ·rw [En.ext_θ _ _ _ _ (r.qK (r.live j o2 h3).1)];exact q3 j o2 h3
def IT:Value->Bool
 | .agg _=>true
 |_=>false
def VS (P:Program):TypeDesc->Option TK
 | .bool=>some .bool
 | .int k=>some (.int k)
 | .string=>some .string
 | .pointer e=>some (.pointer e)
 | .slice e=>some (.slice e)
 | .array n e=>some (.array n e)
 | .map k e=>some (.map k e)
 | .struct fs=>(fs.toList.mapM fun f=>(P.info? f.type).map fun i=>(f.offset,f.type,i.size)).map .struct
 | .func _ _ _=>some .func
 | .interface ms=>some (.iface ms.isEmpty)
 | .tuple _=>some .tuple
 |_=>none
def RU (P:Program) (t:Nat):Bool:=
 match P.underlying t with
 |some (.struct fs)=>!P.stoodInHeld t&&!P.eqGuardType P.depth t&&fs.toList.all fun f=>f.name != "_"&&(match P.underlying f.type with |some .bool|some .string|some (.int _)=>true|_=>false)
 |_=>false
def ag6 (i:TypeInfo) (z:Value) (k:TK) (q:Bool):Option TI:=
 match kU z.cells.toList with
 |some zs=>if IT z=k.agg then some { kind:=k,size:=i.size,bytes:=i.bytes,zero:=zs,eqs:=q } else none
 |none=>none
def H_ (P:Program) (t:Nat):Option TI:=
 match P.info? t with
 |none=>none
 |some i=>match P.underlying t with
  |none=>none
  |some d=>match VS P d with
   |none=>none
   |some k=>match i.zero with
    |none=>none
    |some z=>ag6 i z k (RU P t)
theorem e9 (b o n:Nat):(⟨b,o,none⟩ : Addr).add n=⟨b,o+n,none⟩:=by unfold Addr.add; split<;>simp_all
def HT (P:Program):TypeDesc->TK->Prop
 | .bool,.bool=>True
 | .int k,.int k'=>k=k'
 | .string,.string=>True
 | .pointer e,.pointer e'=>e=e'
 | .slice e,.slice e'=>e=e'
 | .array n e,.array n' e'=>n=n'/\e=e'
 | .map k e,.map k' e'=>k=k'/\e=e'
 | .struct fs,.struct l=>(fs.toList.mapM fun f=>(P.info? f.type).map fun i=>(f.offset,f.type,i.size))=some l
 | .func _ _ _,.func=>True
 | .interface _,.iface _=>True
 | .tuple _,.tuple=>True
 |_,_=>False
structure mw (P:Program) (t:Nat) (i:TI):Prop where
 eqs:i.eqs=true->RU P t=true
 all: ∃inf d z,P.info? t=some inf/\P.underlying t=some d/\inf.zero=some z/\kU z.cells.toList=some i.zero/\inf.size=i.size/\inf.bytes=i.bytes/\HT P d i.kind/\IT z=i.agg
def eA (P:Program) (tt:TT):Prop:= ∀t i,tt t=some i->mw P t i
theorem G! {P:Program} {d:TypeDesc} {k:TK} (h:VS P d=some k):HT P d k:=by
 cases d
 case struct fs=>
  simp only [VS,aP] at h;obtain⟨l,U,rfl⟩:=h;exact U
 all_goals first
  |(simp only [VS,ah] at h; subst h; simp [HT]; done)
  |(simp [VS] at h; done)
theorem G? {P:Program} {t:Nat} {i:TI} (h:H_ P t=some i):mw P t i:=by
 unfold H_ at h;split at h
 ·grind
 ·rename_i inf U;split at h
  ·grind
  ·rename_i d Z;split at h
   ·grind
   ·rename_i k hk;split at h
    ·grind
    ·rename_i z h3;unfold ag6 at h;split at h
     ·rename_i zs h4;split at h
      ·rename_i ha;simp only [ah] at h;subst h;exact⟨fun hq=>hq,inf,d,z,U,Z,h3,h4,rfl,rfl,G! hk,ha⟩
      grind
     grind
theorem kS (s:ByteArray):dh (bytesOf s)=s:=by
 unfold dh bytesOf
 have:(List.map UInt8.ofNat (List.map (fun x=>x.toNat) s.data.toList))=s.data.toList:=by
  rw [aml]
  conv=>rhs; rw [<- List.map_id s.data.toList]
  apply amH;intro b _;simp
 rw [this]
theorem xX (s:ByteArray): ∀b∈bytesOf s,b<256:=by intro b hb;unfold bytesOf at hb;rw [aQ] at hb;obtain⟨c,_,rfl⟩:=hb;exact c.toNat_lt
theorem Bv {E:En} {h:Array Obj} {v:Value} {a:W} (hv:gI v=some a):VR E h a v/\v.oneCell'=true:=by
 cases v with
 |bool b=>simp [gI] at hv; subst hv; simp [VR,SB.den,Value.oneCell']
 |int k n=>simp [gI] at hv; subst hv; simp [VR,V.den,Value.oneCell']
 |string s=>simp [gI] at hv; subst hv; exact⟨by simp only [VR]; exact⟨by rw [kS],xX s⟩,rfl⟩
 |pointer a=>cases a<;>simp [gI] at hv; subst hv; simp [VR,Value.oneCell']
 |slice a l c=>
  cases a with
  |some a=>simp [gI] at hv
  |none=>
   cases l with
   |succ l=>simp [gI] at hv
   |zero=>cases c with
    |succ c=>simp [gI] at hv
    |zero=>simp [gI] at hv; subst hv; simp [VR,Value.oneCell']
 |map r=>cases r<;>simp [gI] at hv; subst hv; simp [VR,Value.oneCell']
 |nilFunc=>simp [gI] at hv; subst hv; simp [VR,Value.oneCell']
 |nilIface=>simp [gI] at hv; subst hv; simp [VR,Value.oneCell']
 |func fn f c=>
  simp only [gI] at hv;split at hv
  ·rename_i hx;simp at hx hv;subst hv;obtain⟨rfl,rfl⟩:=hx;exact⟨by simp only [VR]; exact⟨[],[],rfl,rfl,rfl⟩,rfl⟩
  grind
 |_=>simp [gI] at hv
theorem eU {E:En} {h:Array Obj}: ∀{vs:List Value} {alL:List W},kU vs=some alL->cA E h alL vs/\∀v∈vs,v.oneCell'=true
 |[],alL,hv=>by simp [kU] at hv; subst hv; simp [cA]
 |v::vs,alL,hv=>by
  simp only [kU] at hv;split at hv
  ·grind
  ·rename_i a ha;split at hv
   ·grind
   ·rename_i as' has;simp at hv;subst hv;have U:=Bv (E:=E) (h:=h) ha;have Z:=eU (E:=E) (h:=h) has;refine⟨by rw [bT]; exact⟨v,vs,rfl,U.1,Z.1⟩,?_⟩;intro u hu
    grind
theorem NU {E:En} {h:Array Obj} {v:Value} {a:W} (hv:ofConst v=some a):VR E h a v:=by
 cases v with
 |agg cs=>
  simp only [ofConst,aP] at hv;obtain⟨l,U,rfl⟩:=hv;simp only [VR]
  grind [eU]
 |tuple cs=>
  simp only [ofConst,aP] at hv;obtain⟨l,U,rfl⟩:=hv;simp only [VR]
  grind [eU]
 |_=>exact (Bv (by simpa [ofConst] using hv)).1
theorem VR.one {E:En} {h:Array Obj} {x:W} {v:Value} (hv:VR E h x v) (U:x.one=true):v.oneCell'=true:=by
 cases x with
 |agg cs=>simp [W.one] at U
 |tuple cs=>simp [W.one] at U
 |KY i=>simp [W.one] at U
 |wI k ks=>simp only [VR] at hv; rcases hv with ⟨⟨x,cap,rfl⟩,_⟩|⟨b,o,n,cap,rfl,_⟩ <;>rfl
 |slice id off len c=>simp only [VR] at hv; obtain⟨_,a,cap,rfl,_⟩:=hv; rfl
 |ro cs n full=>simp only [VR] at hv; obtain⟨b,o,cap,us,rfl,_⟩:=hv; rfl
 |mY cs=>simp only [VR] at hv; obtain⟨b,o,us,rfl,_⟩:=hv; rfl
 |func fn fs cs=>simp only [VR] at hv; obtain⟨us,ws,rfl,_⟩:=hv; rfl
 |iface t x=>simp only [VR] at hv; obtain⟨u,rfl,_⟩:=hv; rfl
 |str s=>simp only [VR] at hv; rw [hv.1]; rfl
 |ptr id off=>simp only [VR] at hv; rw [hv.1]; rfl
 |map id=>simp only [VR] at hv; rw [hv.1]; rfl
 |emp=>simp only [VR] at hv; obtain⟨x,rfl⟩:=hv; rfl
 |ep e t=>simp only [VR] at hv; exact hv.U'
 |jP e=>simp only [VR] at hv; exact hv.U'
 |pb id n t=>simp only [VR] at hv; obtain⟨_,k,a,cap,_,rfl,_⟩:=hv; rfl
 |tV id lo n t=>simp only [VR] at hv; obtain⟨_,l,k,a,cap,_,_,rfl,_⟩:=hv; rfl
 |any=>simp [W.one] at U
 |xg z t=>simp only [VR] at hv; obtain⟨⟨x,rfl⟩,_⟩:=hv; rfl
 |zG id es i off=>simp only [VR] at hv; obtain⟨_,k,_,rfl⟩:=hv; rfl
 |_=>simp only [VR] at hv; rw [hv]; rfl
theorem cA.rH {E:En} {h:Array Obj}: ∀{xs:List W} {us:List Value},cA E h xs us->ra xs=true->∀u∈us,u.oneCell'=true
 |[],us,hv,_=>by rw [ia] at hv; subst hv; simp
 |x::xs,us,hv,U=>by
  rw [bT] at hv;obtain⟨u,vs,rfl,Z,h3⟩:=hv;simp [ra] at U;intro y hy;rcases ay.1 hy with rfl|hy
  ·exact Z.one U.1
  ·exact h3.rH U.2 y hy
theorem VR.cells {E:En} {h:Array Obj} {x:W} {v:Value} (hv:VR E h x v) (U:ra x.cells=true):cA E h x.cells v.cells.toList:=by
 cases x with
 |agg cs=> simp only [VR] at hv;obtain⟨us,rfl,Z⟩:=hv;simpa [W.cells,Value.cells] using Z
 |_=>
  all_goals
   simp only [W.cells] at U ⊢;have Z:=hv.one (by simpa [ra] using U);rw [bT];refine⟨v,[],?_,hv,rfl⟩;cases v<;>first |rfl|simp [Value.oneCell'] at Z
theorem rE {P:Program} {w:World} {b o n:Nat} {us:List Value} (hn:us.length=n) (h:fU w.heap b o us) :
 (loadCells ⟨b,o,none⟩ n).run P w= .ok us.toArray w:=by
 subst hn;refine run_loadCells_list w _ us fun j v hj=>?_;rw [e9,nY];exact h j v hj
theorem fU.drop {h:Array Obj} {b o:Nat} {us:List Value} (hc:fU h b o us) (k:Nat):fU h b (o+k) (us.drop k):=by
 intro i u hu;rw [amm] at hu;have:=hc (k+i) u hu
 grind
theorem fU.take {h:Array Obj} {b o:Nat} {us:List Value} (hc:fU h b o us) (k:Nat):fU h b o (us.take k):=by
 intro i u hu;rw [amn] at hu;split at hu
 ·exact hc i u hu
 grind
theorem xj {E:En} {h:Array Obj} {id:Nat} {cs:List W} {e:TypeId} (ho:OR E h id (.cells cs e)) :
 ∃us,cA E h cs us/\fU h (E.θ id).1 (E.θ id).2 us/\∀u∈us,u.oneCell'=true:=by
 obtain⟨arr,lo,hi,us,U,Z,h3,h4,h5,h6,h7⟩:=ho;refine⟨us,Z,fun i u hu=>?_,h7⟩;simp only [jU,U]
 grind
theorem vI [bI] {E:En} {H:Hp} {w:World} (r:bO E H w) {p:W} {u:Value} {n:Nat} {l:List W} (hp:VR E w.heap p u) (h:mJ H p n=some l) :
 ∃b o us,u= .pointer (some ⟨b,o,none⟩)/\us.length=n/\cA E w.heap l us/\fU w.heap b o us/\∀u∈us,u.oneCell'=true:=by
 cases p with
 |ptr id off=>
  simp only [mJ] at h;split at h
  ·rename_i cs e Y;split at h
   ·rename_i l' hd;obtain⟨us,Z,h3,h4⟩:=xj (r.live id _ Y).2.1;obtain⟨h5,h6,h7⟩:=Z.eL hd;obtain⟨h8,h9⟩:=h5.iA h;simp only [VR] at hp;refine⟨_,_,_,hp.1,?_,h8,(h3.drop off).take n,fun x hx=>h4 x (bw (alS hx))⟩;have:=h5.length
    grind
   grind
  grind
 |mY cs=>
  simp only [mJ] at h;simp only [VR] at hp;obtain⟨b,o,us,rfl,_,Z,h3,h4⟩:=hp;obtain⟨h5,h6⟩:=Z.iA h;refine⟨b,o,_,rfl,?_,h5,h3.take n,fun x hx=>h4 x (alS hx)⟩;have:=Z.length
  grind
 |_=>simp [mJ] at h
theorem vC {E:En} {h:Array Obj}: ∀{cs:List W} {o:Nat} {vs lS:List W} {us ws:List Value},dX cs o vs=some lS->cA E h cs us->cA E h vs ws->
 lS.length=cs.length/\o+vs.length<=cs.length/\∃gF,cA E h lS gF/\∀i,gF[i]?=if o<=i/\i<o+ws.length then ws[i-o]? else us[i]?
 |cs,0,[],lS,us,ws,U,Z,h3=>by cases cs<;>simp [dX] at U<;>subst U<;>rw [ia] at h3<;>subst h3<;>exact⟨rfl,ad,us,Z,fun i=>by simp⟩
 |[],0,_::_,lS,us,ws,U,Z,h3=>by simp [dX] at U
 |c::cs,0,v::vs,lS,us,ws,U,Z,h3=>by
  simp only [dX] at U;split at U
  ·rename_i l Y;simp at U;subst U;rw [bT] at Z h3;obtain⟨u,gF,rfl,ha,hb⟩:=Z;obtain⟨x,ws',rfl,hc,hd⟩:=h3;obtain⟨e1,e2,VI,e3,e4⟩:=vC Y hb hd;refine⟨by simp [e1],by simp at e2 ⊢; omega,x::VI,by rw [bT]; exact⟨x,VI,rfl,hc,e3⟩,?_⟩;intro i
   grind
  grind
 |[],_+1,vs,lS,us,ws,U,Z,h3=>by cases vs<;>simp [dX] at U
 |c::cs,o+1,vs,lS,us,ws,U,Z,h3=>by
  have RB:(match dX cs o vs with |some l=>some (c::l)|none=>none)=some lS:=by cases vs<;>exact U
  split at RB
  ·rename_i l Y;simp at RB;subst RB;rw [bT] at Z;obtain⟨u,gF,rfl,ha,hb⟩:=Z;obtain⟨e1,e2,VI,e3,e4⟩:=vC Y hb h3;refine⟨by simp [e1],by simp; omega,u::VI,by rw [bT]; exact⟨u,VI,rfl,ha,e3⟩,?_⟩;intro i
   grind
  grind
theorem mI {P:Program} (b o:Nat) (e:TypeId) (lo hi:Nat): ∀(vs:List Value) (i:Nat) (arr:Array Value) (w:World),
 w.heap[b]?=some (.cells arr e (lo,hi))->(∀x,lo<=x->x<hi->arr.size<=x)->o+i+vs.length<=arr.size->(∀v∈vs,v.oneCell'=true)->
 ∃w' J0,(storeCells ⟨b,o,none⟩ vs i).run P w= .ok () w'/\Alike w w'/\w'.heap.size=w.heap.size/\(∀j,j≠b->w'.heap[j]?=w.heap[j]?)/\
  w'.heap[b]?=some (.cells J0 e (lo,hi))/\J0.size=arr.size/\∀j,J0[j]?=if o+i<=j/\j<o+i+vs.length then vs[j-(o+i)]? else arr[j]?
 |[],i,arr,w,hb,_,_,_=> ⟨w,arr,rfl,⟨rfl,rfl,rfl⟩,rfl,fun _ _=>rfl,hb,rfl,fun j=>by rw [af ad]⟩
 |v::vs,i,arr,w,hb,hf,Y,U=>by
  have wK:o+i<arr.size:=by simp at Y; omega
  have jU:w.cell? ⟨b,o+i,none⟩ = some arr[o+i]:=by simp [World.cell?,hb,wK]
  have alJ:w.frozen? ⟨b,o+i,none⟩ = false:=by
   simp only [World.frozen?,hb,Bool.and_eq_false_iff,decide_eq_false_iff_not]
   grind
  have Cz:(store ((⟨b,o,none⟩ : Addr).add i) v).run P w= .ok () (w.setCell ⟨b,o+i,none⟩ v):=by
   rw [e9,run_store P w _ v _ (U v ad),jU]
   grind
  have LB:(w.setCell ⟨b,o+i,none⟩ v).heap[b]?=some (.cells (arr.setIfInBounds (o+i) v) e (lo,hi)):=by simp [World.setCell,ang,hb]
  have ik:(w.setCell ⟨b,o+i,none⟩ v).heap.size=w.heap.size:=by simp [World.setCell]
  have hot: ∀j,j≠b->(w.setCell ⟨b,o+i,none⟩ v).heap[j]?=w.heap[j]?:=by
   intro j hj;simp only [World.setCell,ang]
   grind
  obtain⟨w',J0,e1,e2,e3,e4,e5,e6,e7⟩:=mI (P:=P) b o e lo hi vs (i+1) _ _ LB (by simpa using hf) (by simp at Y ⊢; omega) (fun x hx=>U x (by simp [hx]));refine⟨w',J0,?_,⟨e2.os,e2.tape,e2.output⟩,e3.trans ik,fun j hj=>(e4 j hj).trans (hot j hj),e5,by simpa using e6,?_⟩
  ·simp only [storeCells,Sem.run_bind,Cz,Result.andThen_ok];exact e1
  grind
theorem lU [bI] {P:Program} {E:En} {H:Hp} {w:World} (r:bO E H w) {id off:Nat} {cs vs lS:List W} {e:TypeId} {ws:List Value} (Y:H.get id=some (.cells cs e))
 (hs:dX cs off vs=some lS) (hv:cA E w.heap vs ws) (U: ∀u∈ws,u.oneCell'=true) :
 ∃w',(storeCells ⟨(E.θ id).1,(E.θ id).2+off,none⟩ ws).run P w= .ok () w'/\eT E H w E (H.put id (.cells lS e)) w'/\bO E (H.put id (.cells lS e)) w':=by
 obtain⟨arr,lo,hi,us,g1,g2,g3,g4,g5,g6,g7⟩:=(r.live id _ Y).2.1;obtain⟨s1,s2,gF,s3,s4⟩:=vC hs g2 hv;have hlen:=hv.length;have hlu:=g2.length;obtain⟨w',J0,e1,e2,e3,e4,e5,e6,e7⟩:=mI (P:=P) (E.θ id).1 ((E.θ id).2+off) e lo hi ws 0 arr w g1 g6 J U;refine⟨w',e1,Du r Y _ e3 e4 e2 ?_⟩;have k:=kz r Y e4;refine⟨J0,lo,hi,gF,e5,cA.cf k _ _ s3,?_,J,by rw [e6]; exact g5,by rw [e6]; exact g6,?_⟩
 ·intro i u hu
  grind
 ·intro u hu;rw [amI] at hu
  grind
def bV (ρ:Nat->Int) (pc:List (SB×Bool)):Prop:= ∀c b,(c,b)∈pc->c.den ρ=b
def SR (E:En) (h:Array Obj) (bD:Tr W) (a:Act):Prop:= ∀t v,bD.get t=some v->∃u,a.tmps[t]?=some u/\VR E h v u
def oP (P:Program) (o:Oper) (a:Act) (w:World) (R:Value->World->Prop):Prop:=
 ∀(K:Act->World->Prop) (Q:Exit->Act->World->Prop),(∀u w',R u w'->K (a.put o.dst u) w')->o.wp P a w K Q
theorem oP.value {P:Program} {o:Oper} {a:Act} {w w':World} {R:Value->World->Prop} {u:Value} (h:(execOp a.eval o).run P w= .ok (.value u) w') (hr:R u w'):oP P o a w R:=
 fun K Q hk=>by unfold Oper.wp; rw [h]; exact hk u w' hr
theorem oP.skip {P:Program} {o:Oper} {a:Act} {w w':World} {R:Value->World->Prop} (h:(execOp a.eval o).run P w= .ok .skip w') (hr:R undef w'):oP P o a w R:=
 fun K Q hk=>by unfold Oper.wp; rw [h]; exact hk _ w' hr
theorem gk {E:En} {w:World} {s:St} {a:Act} (sr:SR E w.heap s.bD a) {x:Operand} {v:W} (h:ev s x=some v):VR E w.heap v (a.eval x):=by
 cases x with
 |tmp t=> obtain⟨u,U,Z⟩:=sr t v h;simp only [Act.eval,amo,U,ax];exact Z
 |const c=>exact NU h
 |func f=> simp [ev] at h;subst h;simp only [VR,Act.eval];exact⟨[],[],rfl,rfl,rfl⟩
 |global g=>simp [ev] at h
theorem Ji {E:En} {w:World} {s:St} {a:Act} (sr:SR E w.heap s.bD a): ∀{xs:List Operand} {vs:List W},evs s xs=some vs->cA E w.heap vs (xs.map a.eval)
 |[],vs,h=>by simp [evs] at h; subst h; simp [cA]
 |x::xs,vs,h=>by
  simp only [evs] at h;split at h
  ·grind
  ·rename_i b hb;split at h
   ·grind
   ·rename_i bs hbs;simp at h;subst h;rw [aw,bT];exact⟨_,_,rfl,gk sr hb,Ji sr hbs⟩
section
variable {P:Program} {t:Nat} {i:TI}
theorem kV (h:mw P t i) (w:World):(isAgg t).run P w= .ok i.agg w:=by obtain⟨inf,d,z,U,Z,h3,h4,h5,h6,h7,_⟩:=h.all;unfold isAgg;simp only [Sem.run_bind,run_underlying Z,Result.andThen_ok];cases d<;>cases hk:i.kind<;>simp only [hk,HT] at h7<;>simp [TI.agg,TK.agg,hk]
theorem ey (h:mw P t i) (w:World):(sizeOf t).run P w= .ok i.size w:=by obtain⟨inf,d,z,U,Z,h3,h4,h5,h6,h7,_⟩:=h.all;simp [sizeOf,typeInfo,U,h5]
theorem ff (h:mw P t i) {e:Nat} (hk:i.kind= .slice e):P.underlying t=some (.slice e):=by obtain⟨inf,d,z,U,Z,h3,h4,h5,h6,h7,_⟩:=h.all;rw [Z];cases d<;>simp [hk,HT] at h7;rw [h7]
theorem rk (h:mw P t i) {n e:Nat} (hk:i.kind= .array n e):P.underlying t=some (.array n e):=by
 obtain⟨inf,d,z,U,Z,h3,h4,h5,h6,h7,_⟩:=h.all;rw [Z];cases d<;>simp [hk,HT] at h7
 grind
theorem sB (h:mw P t i) {k e:Nat} (hk:i.kind= .map k e):P.underlying t=some (.map k e):=by
 obtain⟨inf,d,z,U,Z,h3,h4,h5,h6,h7,_⟩:=h.all;rw [Z];cases d<;>simp [hk,HT] at h7
 grind
theorem oF (h:mw P t i) {k:IntKind} (hk:i.kind= .int k):P.underlying t=some (.int k):=by obtain⟨inf,d,z,U,Z,h3,h4,h5,h6,h7,_⟩:=h.all;rw [Z];cases d<;>simp [hk,HT] at h7;rw [h7]
theorem fP (h:mw P t i) (hk:i.kind= .string):P.underlying t=some .string:=by
 obtain⟨inf,d,z,U,Z,h3,h4,h5,h6,h7,_⟩:=h.all
 grind [HT]
theorem Kq (h:mw P t i) (hk:i.kind= .bool):P.underlying t=some .bool:=by
 obtain⟨inf,d,z,U,Z,h3,h4,h5,h6,h7,_⟩:=h.all
 grind [HT]
theorem sA (h:mw P t i) {l:List (Nat×Nat×Nat)} (hk:i.kind= .struct l): ∃fs:Array Field,P.underlying t=some (.struct fs)/\(fs.toList.mapM fun f=>(P.info? f.type).map fun i=>(f.offset,f.type,i.size))=some l:=by
 obtain⟨inf,d,z,U,Z,h3,h4,h5,h6,h7,_⟩:=h.all;rw [Z];cases d<;>simp [hk,HT] at h7
 grind
theorem vY (h:mw P t i): ∃inf z,P.info? t=some inf/\inf.size=i.size/\inf.bytes=i.bytes/\inf.zero=some z/\kU z.cells.toList=some i.zero:=by
 obtain⟨inf,d,z,U,Z,h3,h4,h5,h6,h7,_⟩:=h.all
 grind
end
theorem A0 [bI] {P:Program} {tt:TT} (cJ:eA P tt) {E:En} {H:Hp} {w:World} (r:bO E H w) {t:Nat} {p v:W} {u:Value} (hp:VR E w.heap p u) (h:A1 tt t p H=some v) :
 ∃x b o,u= .pointer (some ⟨b,o,none⟩)/\(loadVar t ⟨b,o,none⟩).run P w= .ok x w/\VR E w.heap v x:=by
 unfold A1 at h;split at h
 ·grind
 ·rename_i i hi;have fm:=cJ t i hi;split at h
  ·rename_i Ou;rw [aP] at h;obtain⟨l,Y,rfl⟩:=h;obtain⟨b,o,us,rfl,Z,h3,h4,_⟩:=vI r hp Y;refine⟨.agg us.toArray,b,o,rfl,?_,by simp only [VR]; exact⟨us,rfl,h3⟩⟩;simp [loadVar,kV fm,Ou,ey fm,rE Z h4]
  ·rename_i Ou;split at h
   ·rename_i v' l Y;simp at h;subst h;obtain⟨b,o,us,rfl,Z,h3,h4,_⟩:=vI r hp Y;rw [bT] at h3;obtain⟨x,vs,rfl,h5,_⟩:=h3;refine⟨x,b,o,rfl,?_,h5⟩;have hc:w.cell? ⟨b,o,none⟩ = some x:=by rw [nY]; exact h4 0 x rfl
    simp [loadVar,kV fm,Ou,hc]
   grind
theorem kH (k:IntKind) (n:Int):rY k n=k.wrap n:=by
 unfold rY;split
 ·split
  ·rename_i h; exact (IntWalk.i64_in n h).symm
  ·rfl
 ·split
  ·rename_i h; exact (IntWalk.u8_in n h).symm
  ·rfl
 ·rfl
theorem Tq (ρ:Nat->Int) (k:IntKind) (a b:V):(W5 k a b).den ρ=k.wrap (a.den ρ+b.den ρ):=by
 unfold W5
 grind [V.den,kH]
theorem F0 (ρ:Nat->Int) (k:IntKind) (a b:V):(P0 k a b).den ρ=k.wrap (a.den ρ-b.den ρ):=by
 unfold P0
 grind [V.den,kH]
theorem Tp (ρ:Nat->Int) (k:IntKind) (a b:V):(W4 k a b).den ρ=k.wrap (a.den ρ*b.den ρ):=by
 unfold W4
 grind [V.den,kH]
theorem dY (ρ:Nat->Int) (a b:V):(ig a b).den ρ=decide (a.den ρ<b.den ρ):=by
 unfold ig;split
 ·rfl
 ·simp [SB.den]
theorem W6 (ρ:Nat->Int) (a b:V):(M! a b).den ρ=decide (a.den ρ<=b.den ρ):=by
 unfold M!;split
 ·rfl
 ·simp only [SB.den]
  grind
theorem gH (ρ:Nat->Int) (a b:V):(qM a b).den ρ=(a.den ρ == b.den ρ):=by
 unfold qM;split
 ·simp [SB.den,V.den]
 ·simp only [SB.den,V.den]
  grind
 grind [cM,SB.den]
theorem mX (ρ:Nat->Int) (s:SB):(wU s).den ρ=!(s.den ρ):=by
 unfold wU
 grind [SB.den]
theorem l7: ∀(x y:List Nat),gR x y=true↔x=y
 |[],[]=>by simp [gR]
 |[],_::_=>by simp [gR]
 |_::_,[]=>by simp [gR]
 |a::x,b::y=>by
  simp only [gR]
  cases h:a.beq b with
  |true=>have:=aq h; subst this; simp [l7 x y]
  |false=>have:=amJ h; simp [this]
theorem qf (s:List Nat):(dh s).toList=s.map UInt8.ofNat:=by simp_all [dh]
theorem kR (s:List Nat):(dh s).size=s.length:=by show (List.map UInt8.ofNat s).toArray.size=_;simp
theorem ofNat_inj {a b:Nat} (ha:a<256) (hb:b<256) (h:UInt8.ofNat a=UInt8.ofNat b):a=b:=by have:=congrArg UInt8.toNat h;simpa [ame,al9 ha,al9 hb] using this
theorem map_inj: ∀{x y:List Nat},(∀b∈x,b<256)->(∀b∈y,b<256)->x.map UInt8.ofNat=y.map UInt8.ofNat->x=y
 |[],[],_,_,_=>rfl
 |[],_::_,_,_,h=>by simp at h
 |_::_,[],_,_,h=>by simp at h
 |a::x,b::y,hx,hy,h=>by simp only [aw,List.cons.injEq] at h;rw [ofNat_inj (hx a ad) (hy b ad) h.1,map_inj (fun c hc=>hx c (by simp [hc])) (fun c hc=>hy c (by simp [hc])) h.2]
theorem PX {x y:List Nat} (hx: ∀b∈x,b<256) (hy: ∀b∈y,b<256):((dh x).toList == (dh y).toList)=gR x y:=by
 grind [qf,l7,map_inj]
theorem FU: ∀{x y:List Nat},(∀b∈x,b<256)->(∀b∈y,b<256)->Op.bytesLess (x.map UInt8.ofNat) (y.map UInt8.ofNat)=bytesLess x y
 |[],[],_,_=>by simp [Op.bytesLess,bytesLess]
 |[],_::_,_,_=>by simp [Op.bytesLess,bytesLess]
 |_::_,[],_,_=>by simp [Op.bytesLess,bytesLess]
 |a::x,b::y,hx,hy=>by
  have ha:=hx a ad;have hb:=hy b ad;have ih:=FU (x:=x) (y:=y) (fun c hc=>hx c (by simp [hc])) (fun c hc=>hy c (by simp [hc]));simp only [aw,Op.bytesLess,bytesLess,ih]
  have U:decide (UInt8.ofNat a<UInt8.ofNat b)=a.blt b:=by rw [alZ,decide_eq_true_iff,UInt8.lt_iff_toNat_lt,ame,ame,al9 ha,al9 hb];simp_all
  have Z:(UInt8.ofNat a == UInt8.ofNat b)=a.beq b:=by rw [alZ,beq_iff_eq];exact⟨fun h=>by rw [ofNat_inj ha hb h]; simp,fun h=>by rw [aq h]⟩
  grind
theorem KB {P:Program} {E:En} {w:World} {op:BinOp} {x y:List Nat} {v:W} (hx: ∀b∈x,b<256) (hy: ∀b∈y,b<256) (h:KC op x y=some v) :
 ∃u,(Op.stringOp op (dh x) (dh y)).run P w= .ok u w/\VR E w.heap v u:=by
 have he:=PX hx hy;have Y:Op.bytesLess (dh x).toList (dh y).toList=bytesLess x y:=by rw [qf,qf]; exact FU hx hy
 unfold KC at h;cases op<;>simp only [ah,reduceCtorEq] at h
 case add=>
  split at h
  ·rename_i hh;simp at h;subst h;have hm:IntKind.i64.max=9223372036854775807:=ae
   refine⟨.string (dh x++dh y),?_,?_⟩
   ·simp only [Op.stringOp,kR,hm];rw [af J];rfl
   ·simp only [VR];refine⟨?_,?_⟩
    ·congr 1;apply ByteArray.ext;simp [dh]
    ·intro b hb;rcases alO.1 hb with hb|hb
     ·exact hx b hb
     ·exact hy b hb
  ·simp at h
 all_goals
  subst h;exact⟨_,rfl,by simp only [VR,SB.den,he,Y]⟩
theorem je {ρ:Nat->Int} {c:SB} {b:Bool}: ∀{pc:List (SB×Bool)},bV ρ pc->ng c pc=some b->c.den ρ=b
 |[],_,h=>by simp [ng] at h
 |(d,x)::l,hp,h=>by
  simp only [ng] at h;split at h
  ·rename_i he;have he:=rB _ _ he;simp at h;subst he h;exact hp _ _ ad
  ·exact je (fun c b hm=>hp c b (by simp [hm])) h
def rb (lo hi:Option Int) (x:Int):Prop:=(∀l,lo=some l->l<=x)/\∀h,hi=some h->x<=h
theorem IE {lo:Option Int} {z x:Int} (h: ∀l,lo=some l->l<=x) (hz:z<=x): ∀l,XF lo z=some l->l<=x:=by
 intro l Y;unfold XF at Y
 grind
theorem ID {hi:Option Int} {z x:Int} (h: ∀l,hi=some l->x<=l) (hz:x<=z): ∀l,XD hi z=some l->x<=l:=by
 intro l Y;unfold XD at Y
 grind
theorem Xq {lo:Option Int} {z x:Int} (h: ∀l,lo=some l->l<=x) (hz:x≠z): ∀l,Xr lo z=some l->l<=x:=by
 intro l Y;unfold Xr at Y
 grind
theorem Xs {hi:Option Int} {z x:Int} (h: ∀l,hi=some l->x<=l) (hz:x≠z): ∀l,Xt hi z=some l->x<=l:=by
 intro l Y;unfold Xt at Y
 grind
theorem qp {ρ:Nat->Int} {x y:V} {v:Bool} (h:(SB.lt x y).den ρ=v):(x.den ρ<y.den ρ)↔v=true:=by subst h; simp [SB.den]
theorem RV {ρ:Nat->Int} {x y:V} {v:Bool} (h:(SB.eq x y).den ρ=v):(x.den ρ=y.den ρ)↔v=true:=by subst h; simp [SB.den]
theorem f? {ρ:Nat->Int} (e:V):rb (SI e).1 (SI e).2 (e.den ρ):=by
 have h0:rb none none (e.den ρ):=⟨ad,ad⟩;unfold SI;split
 ·split
  ·split
   ·split
    ·split
     ·split
      ·split
       ·rename_i k m x n hn;obtain⟨hn,rfl,rfl⟩:=hn;simp only [V.den];have U:=amK (m.den ρ) (b:=n) J
        have Z: -n<(m.den ρ).tmod n:=by have U:=amK (-(m.den ρ)) (b:=n) J;rw [Int.neg_tmod] at U;omega
        have h3:=Int.tmod_nonneg n (a:=(m.den ρ).tmod n+n) J;have h4:=amK ((m.den ρ).tmod n+n) (b:=n) J;constructor<;>intro l Y<;>simp at Y<;>omega
       grind
      grind
     grind
    grind
   grind
  grind
 ·rename_i o a b
  cases o with
  |len=> refine⟨fun l Y=>?_,ad⟩;simp only [ah] at Y;subst Y;simp only [V.den,fu.den];omega
  |_=>exact h0
 grind
theorem l9 {ρ:Nat->Int} {e:V}: ∀{pc:List (SB×Bool)},bV ρ pc->rb (bounds e pc).1 (bounds e pc).2 (e.den ρ)
 |[],_=>f? e
 |(c,v)::l,hp=>by
  have ih:=l9 (e:=e) (pc:=l) (fun c b hm=>hp c b (by simp [hm]));have hc:=hp c v ad;unfold bounds;split
  ·have hc:=qp hc;split
   ·split
    ·exact ih
    ·rename_i he;have he:=cM _ _ he;subst he;revert ih;split;rename_i lo hi hb;rw [hb];intro ih;simp only [V.den] at hc;cases v
     ·exact⟨ih.1,ID ih.2 (by simp at hc; omega)⟩
     ·exact⟨IE ih.1 (by simp at hc; omega),ih.2⟩
   ·split
    ·split
     ·exact ih
     ·rename_i he;have he:=cM _ _ he;subst he;revert ih;split;rename_i lo hi hb;rw [hb];intro ih;simp only [V.den] at hc;cases v
      ·exact⟨IE ih.1 (by simp at hc; omega),ih.2⟩
      ·exact⟨ih.1,ID ih.2 (by simp at hc; omega)⟩
    grind
  ·split
   ·split
    ·split
     ·exact ih
     ·rename_i he;have he:=cM _ _ he;subst he;revert ih;split;rename_i lo hi hb;rw [hb];intro ih;simp only [SB.den,V.den,beq_eq_false_iff_ne] at hc;exact⟨Xq ih.1 hc,Xs ih.2 hc⟩
    ·split
     ·exact ih
     ·rename_i he;have he:=cM _ _ he;subst he;simp only [SB.den,V.den,beq_iff_eq] at hc;exact⟨fun l Y=>by simp at Y; omega,fun l Y=>by simp at Y; omega⟩
   grind
  grind
theorem xm {ρ:Nat->Int} {e:V} {pc:List (SB×Bool)} (hp:bV ρ pc):rb (oL e pc).1 (oL e pc).2 (e.den ρ):=by
 have h0:=l9 (e:=e) hp;unfold oL;split
 ·split
  ·split
   ·split
    ·rename_i b _ c;have hb:=l9 (e:=b) hp;split
     ·rename_i lo hi MV;rw [MV] at hb;have b1:=hb.1 lo rfl;have b2:=hb.2 hi rfl;split
      ·rename_i hr;revert h0;split;rename_i l2 Z hee;rw [hee];intro h0
       have hw:(V.wrap .i64 (.add b (.lit c))).den ρ=b.den ρ+c:=by
        simp only [V.den];rw [<- kH];simp only [rY]
        grind
       exact⟨IE h0.1 (by rw [hw]; omega),ID h0.2 (by rw [hw]; omega)⟩
      grind
     grind
    grind
   grind
  grind
 grind
theorem DM {ρ:Nat->Int} {pc:List (SB×Bool)} (hp:bV ρ pc) {a b:V} {v:Bool} (h:QN a b pc=some v):a.den ρ=b.den ρ↔v=true:=by
 unfold QN at h;split at h
 ·rename_i U;simp at h;subst h;exact RV (je hp U)
 ·rw [<- RV (je hp h)]
  grind
theorem Z1 {ρ:Nat->Int} {pc:List (SB×Bool)} (hp:bV ρ pc) {a b:V} {v:Bool} (h:decLt pc a b=some v):a.den ρ<b.den ρ↔v=true:=by
 unfold decLt at h;split at h
 ·rename_i U;simp at h;subst h;exact qp (je hp U)
 ·split at h
  ·have hb:=xm (e:=b) hp;have hz: ∀z,(V.lit z).den ρ=z:=fun _=>rfl;simp only [hz] at *;generalize MV:oL _ pc=p at h hb;obtain⟨lo,hi⟩:=p;simp only [rb] at h hb
   grind
  ·split at h
   ·have hb:=xm (e:=a) hp;have hz: ∀z,(V.lit z).den ρ=z:=fun _=>rfl;simp only [hz] at *;generalize MV:oL _ pc=p at h hb;obtain⟨lo,hi⟩:=p;simp only [rb] at h hb
    grind
   ·split at h
    ·rename_i U;have U:=DM hp U
     grind
    ·rename_i U;have U:=DM hp U;simp at U;split at h
     ·rename_i Z;have Z:=qp (je hp Z)
      grind
     grind
    ·split at h
     ·rename_i Z;have Z:=qp (je hp Z)
      grind
     grind
theorem Z2 {ρ:Nat->Int} {pc:List (SB×Bool)} (hp:bV ρ pc) {a b:V} {v:Bool} (h:decEq pc a b=some v):a.den ρ=b.den ρ↔v=true:=by
 unfold decEq at h;split at h
 ·rename_i U;simp at h;subst h;exact DM hp U
 ·split at h
  ·have hb:=xm (e:=a) hp;have hz: ∀z,(V.lit z).den ρ=z:=fun _=>rfl;simp only [hz] at *;generalize MV:oL _ pc=p at h hb;obtain⟨lo,hi⟩:=p;simp only [rb] at h hb
   grind
  ·split at h
   ·rename_i Z;have Z:=qp (je hp Z)
    grind
   ·rename_i Z;have Z:=qp (je hp Z);simp at Z;split at h
    ·rename_i h3;have h3:=qp (je hp h3)
     grind
    grind
   ·split at h
    ·rename_i Z;have Z:=qp (je hp Z)
     grind
    grind
theorem kQ {ρ:Nat->Int}: ∀{e:V} {x:Sum Int D},jM e=some x->e.den ρ=(match x with | .inl n=>n| .inr d=>enc d)
 | .lit n,x,h=>by simp only [jM,ah] at h; subst h; rfl
 | .ep d,x,h=>by simp only [jM,ah] at h; subst h; rfl
 | .op o a b,x,h=>by
   have ha:=fun y=>kQ (ρ:=ρ) (e:=a) (x:=y);have hb:=fun y=>kQ (ρ:=ρ) (e:=b) (x:=y);simp only [jM] at h;split at h
   ·split at h
    ·rename_i d hd;simp only [ah] at h; subst h;simp only [V.den,fu.den,ha _ hd,bB]
    ·simp at h
   ·split at h
    ·rename_i d hd;simp only [ah] at h; subst h;simp only [V.den,fu.den,ha _ hd]
    ·simp at h
   ·split at h
    ·rename_i u v hu hv;simp only [ah] at h; subst h;simp only [V.den,fu.den,ha _ hu,hb _ hv,bB]
    ·simp at h
   ·split at h
    ·rename_i u v hu hv;simp only [ah] at h; subst h;simp only [V.den,fu.den,ha _ hu,hb _ hv,bB]
    ·simp at h
   ·split at h
    ·rename_i u k v hu hv;simp only [ah] at h; subst h;simp only [V.den,fu.den,ha _ hu,hb _ hv,bB]
    ·simp at h
   ·split at h
    ·rename_i u v hu hv;simp only [ah] at h; subst h;simp only [V.den,fu.den,ha _ hu,hb _ hv,bB]
    ·simp at h
   ·split at h
    ·rename_i u v hu hv;simp only [ah] at h; subst h;simp only [V.den,fu.den,ha _ hu,hb _ hv,bB]
    ·simp at h
   ·split at h
    ·rename_i d hd;simp only [ah] at h; subst h;simp only [V.den,fu.den,ha _ hd,bB]
    ·simp at h
   ·simp at h
 | .dD _,x,h=>by simp [jM] at h
 | .add _ _,x,h=>by simp [jM] at h
 | .sub _ _,x,h=>by simp [jM] at h
 | .mul a b,x,h=>by
   have ha:=fun y=>kQ (ρ:=ρ) (e:=a) (x:=y);have hb:=fun y=>kQ (ρ:=ρ) (e:=b) (x:=y);simp only [jM] at h;split at h
   ·rename_i u v hu hv;simp only [ah] at h; subst h;simp only [V.den,ha _ hu,hb _ hv]
   ·simp at h
 | .quo a b,x,h=>by
   have ha:=fun y=>kQ (ρ:=ρ) (e:=a) (x:=y);have hb:=fun y=>kQ (ρ:=ρ) (e:=b) (x:=y);simp only [jM] at h;split at h
   ·rename_i u v hu hv;simp only [ah] at h; subst h;simp only [V.den,ha _ hu,hb _ hv]
   ·simp at h
 | .rem a b,x,h=>by
   have ha:=fun y=>kQ (ρ:=ρ) (e:=a) (x:=y);have hb:=fun y=>kQ (ρ:=ρ) (e:=b) (x:=y);simp only [jM] at h;split at h
   ·rename_i u v hu hv;simp only [ah] at h; subst h;simp only [V.den,ha _ hu,hb _ hv]
   ·simp at h
 | .wrap k a,x,h=>by
   have ha:=fun y=>kQ (ρ:=ρ) (e:=a) (x:=y);simp only [jM] at h;split at h
   ·rename_i u hu;simp only [ah] at h; subst h;simp only [V.den,ha _ hu,kH]
   ·simp at h
 | .wI _ _,x,h=>by simp [jM] at h
 | .ap _ _,x,h=>by simp [jM] at h
theorem EO {ρ:Nat->Int} {pc:List (SB×Bool)} (hp:bV ρ pc) {c:SB} {b:Bool} (h:CR pc c=some b):c.den ρ=b:=by
 unfold CR at h;split at h
 ·simp at h; simp [SB.den,h]
 ·split at h
  ·rename_i x y hx hy;simp only [ah] at h; subst h;simp only [SB.den,kQ (ρ:=ρ) hx,kQ (ρ:=ρ) hy]
  ·have:=Z1 hp h;simp only [SB.den]
   grind
 ·split at h
  ·rename_i x y hx hy;simp only [ah] at h; subst h;simp only [SB.den,kQ (ρ:=ρ) hx,kQ (ρ:=ρ) hy]
   grind
  ·have:=Z2 hp h;simp only [SB.den]
   grind
 ·exact je hp h
theorem gD {ρ:Nat->Int} {pc:List (SB×Bool)} (hp:bV ρ pc) {c:SB} {b:Bool} (h:jY pc c=some b):c.den ρ=b:=by
 unfold jY at h;split at h
 ·rw [aP] at h;obtain⟨x,U,rfl⟩:=h;simp only [SB.den,EO hp U]
 ·exact EO hp h
section
variable {P:Program} {E:En} {w:World}
theorem XZ {op:BinOp} {t:Nat} {k k':IntKind} {a b:V} {v:W} (hk:op= .shr\/k=k') (h:Rh op k a b=some v) :
 ∃u,(binOp op t (.int k (a.den E.ρ)) (.int k' (b.den E.ρ))).run P w= .ok u w/\VR E w.heap v u:=by
 unfold Rh at h;cases op<;>simp only [ah,reduceCtorEq] at h
 case add=>obtain rfl:k=k':=by simpa using hk
           subst h; exact⟨_,by simp [binOp,Op.intArith]; rfl,by simp only [VR,Tq]⟩
 case sub=>obtain rfl:k=k':=by simpa using hk
           subst h; exact⟨_,by simp [binOp,Op.intArith]; rfl,by simp only [VR,F0]⟩
 case mul=>obtain rfl:k=k':=by simpa using hk
           subst h; exact⟨_,by simp [binOp,Op.intArith]; rfl,by simp only [VR,Tp]⟩
 case quo=>
  obtain rfl:k=k':=by simpa using hk
  split at h
  ·split at h
   ·simp at h
   ·rename_i hy;simp at h;subst h;exact⟨_,by simp [binOp,Op.intDiv,V.den,hy]; rfl,by simp only [VR,V.den,kH]⟩
  ·split at h
   ·simp at h
   ·rename_i hy;simp at h;subst h;exact⟨_,by simp [binOp,Op.intDiv,V.den,hy]; rfl,by simp only [VR,V.den]⟩
  ·simp at h
 case rem=>
  obtain rfl:k=k':=by simpa using hk
  split at h
  ·split at h
   ·simp at h
   ·rename_i hy;simp at h;subst h;exact⟨_,by simp [binOp,Op.intDiv,V.den,hy]; rfl,by simp only [VR,V.den]⟩
  ·split at h
   ·simp at h
   ·rename_i hy;simp at h;subst h;exact⟨_,by simp [binOp,Op.intDiv,V.den,hy]; rfl,by simp only [VR,V.den]⟩
  ·simp at h
 case shr=>
  split at h
  ·split at h
   ·simp at h
   ·rename_i hy;simp at h;subst h;exact⟨_,by simp [binOp,Op.shift,V.den,hy]; rfl,by simp only [VR,V.den]⟩
  ·simp at h
 all_goals
  obtain rfl:k=k':=by simpa using hk
  subst h;refine⟨_,by simp [binOp,Op.intCmp]; rfl,?_⟩;simp only [VR,gH,mX,dY,W6]
  first |rfl|(congr 1; simp [bne]; done)|(congr 1; rw [alZ]; simp; done)|skip
theorem vf {op:BinOp} {t:Nat} {x y:Operand} {a b:Value} (U: ∀cs ds,¬(a= .agg cs/\b= .agg ds)) (Z: ¬(a= .nilIface/\b= .nilIface)) :
 (eqGuard op t x y a b).run P w= .ok () w:=by
 cases op
 case eql=>
  cases a<;>first
   |(cases b<;>first |(exact absurd ⟨rfl,rfl⟩ (U _ _))|(exact absurd ⟨rfl,rfl⟩ Z)|rfl)
   |rfl
 case neq=>
  cases a<;>first
   |(cases b<;>first |(exact absurd ⟨rfl,rfl⟩ (U _ _))|(exact absurd ⟨rfl,rfl⟩ Z)|rfl)
   |rfl
 all_goals rfl
theorem BP {ρ:Nat->Int} {a b c:SB} (h:CO a b=some c):c.den ρ=(a.den ρ == b.den ρ):=by
 unfold CO at h;split at h<;>simp only [ah,reduceCtorEq] at h<;>subst h
 ·simp [SB.den]
 ·grind [SB.den,mX]
 ·grind [SB.den,mX]
 ·simp only [SB.den];cases a.den ρ<;>cases b.den ρ<;>rfl
theorem yr {d:TypeDesc} {t:Nat} (h:P.underlying t=some d) (w:World):(underlying t).run P w= .ok d w:=run_underlying h w
theorem rN {i:TI} {t:Nat} (h:mw P t i): ∃d,P.underlying t=some d/\HT P d i.kind:=by
 obtain⟨inf,d,z,U,Z,h3,h4,h5,h6,h7,_⟩:=h.all
 grind
theorem RQ {i:TI} {t:Nat} (ht:mw P t i) {x y:W} {u u':Value} (hx:VR E w.heap x u) (hy:VR E w.heap y u') {c:SB} (h:afB i.kind x y=some c) :
 (Op.equal t u u').run P w= .ok (c.den E.ρ) w/\(∀cs ds,¬(u= .agg cs/\u'= .agg ds))/\¬(u= .nilIface/\u'= .nilIface)/\(∀k n,u≠.int k n)/\(∀s,u≠.string s)/\(∀k n,u≠.float k n)/\(∀k n m,u≠.complex k n m):=by
 obtain⟨d,U,Z⟩:=rN ht;have hm: ∀a b,Op.equal t a b=Op.equalIn (9999+1) t a b:=fun _ _=>rfl;rw [hm];clear hm;generalize (9999:Nat)=n;unfold afB at h;split at h
 ·rename_i hk;rw [hk] at Z;cases d<;>simp only [HT] at Z;split at h
  ·simp only [VR] at hx hy;subst hx hy;refine⟨?_,ad,ad,ad,ad,ad,ad⟩;rw [BP h];simp [Op.equalIn,yr U]
  grind
 ·rename_i k hk;cases sZ:i.kind<;>rw [sZ] at h Z<;>simp only [isNil,reduceCtorEq] at h
  case pointer e=>
   cases d<;>simp only [HT] at Z;cases x<;>simp only [reduceCtorEq] at h<;>cases y<;>simp only [reduceCtorEq,ah] at h<;>subst h<;>simp only [VR] at hx hy
   all_goals
    first |(obtain⟨b,o,us,rfl,_⟩:=hx)|(obtain⟨rfl,_⟩:=hx)|subst hx
    first |(obtain⟨b',o',gF,rfl,_⟩:=hy)|(obtain⟨rfl,_⟩:=hy)|subst hy
    exact⟨by simp [Op.equalIn,yr U,SB.den],ad,ad,ad,ad,ad,ad⟩
  case slice e=>
   cases d<;>simp only [HT] at Z;cases x<;>simp only [reduceCtorEq] at h<;>cases y<;>simp only [reduceCtorEq,ah] at h<;>subst h<;>simp only [VR] at hx hy
   all_goals
    first |(obtain⟨b,o,cap,us,rfl,_⟩:=hx)|(obtain⟨_,b,cap,rfl,_⟩:=hx)|(obtain⟨_,k,b,cap,_,rfl,_⟩:=hx)|subst hx
    first |(obtain⟨b',o',pN,gF,rfl,_⟩:=hy)|(obtain⟨_,b',pN,rfl,_⟩:=hy)|(obtain⟨_,k',b',pN,_,rfl,_⟩:=hy)|subst hy
    exact⟨by simp [Op.equalIn,yr U,SB.den],ad,ad,ad,ad,ad,ad⟩
  case map k' e=>
   cases d<;>simp only [HT] at Z;cases x<;>simp only [reduceCtorEq] at h<;>cases y<;>simp only [reduceCtorEq,ah] at h<;>subst h<;>simp only [VR] at hx hy
   all_goals
    first |(obtain⟨rfl,_⟩:=hx)|subst hx
    first |(obtain⟨rfl,_⟩:=hy)|subst hy
    exact⟨by simp [Op.equalIn,yr U,SB.den],ad,ad,ad,ad,ad,ad⟩
theorem binOp_eql {t:Nat} {u u':Value} {b:Bool} (h:(Op.equal t u u').run P w= .ok b w) (U: ∀k n,u≠.int k n) (Z: ∀s,u≠.string s) (h3: ∀k n,u≠.float k n) (h4: ∀k n m,u≠.complex k n m) :
 (binOp .eql t u u').run P w= .ok (.bool b) w/\(binOp .neq t u u').run P w= .ok (.bool (!b)) w:=by
 cases u<;>first
  |exact absurd rfl (U _ _)
  |exact absurd rfl (Z _)
  |exact absurd rfl (h3 _ _)
  |exact absurd rfl (h4 _ _ _)
  |(constructor<;>(cases u'<;>simp [binOp,h]))
theorem iw (ρ:Nat->Int) (a b:V):(qi a b).den ρ=(a.den ρ == b.den ρ):=by
 unfold qi;split
 ·rename_i h
  grind [cM,SB.den]
 ·split
  ·simp only [SB.den]
   grind
  ·simp only [SB.den]
theorem lV (ρ:Nat->Int) (x:V):(mF x).den ρ=enc (dec (x.den ρ)):=by
 unfold mF;split
 ·simp only [V.den,bB]
 ·split
  ·simp only [V.den,fu.den,bB]
  ·simp only [V.den,fu.den,bB]
  ·simp only [V.den,fu.den]
 ·simp only [V.den,fu.den]
theorem yi {E:En} {h:Array Obj} {x:W} {u:Value} {e:V} (hx:VR E h x u) (hs:tE x=some e): ∃s,u= .string s/\dec (e.den E.ρ)=tq s:=by
 unfold tE at hs;split at hs
 ·simp only [ah] at hs;subst hs;simp only [VR] at hx;obtain⟨rfl,hb⟩:=hx;refine⟨_,rfl,?_⟩;simp only [V.den,bB]
  grind [zL,tq,dh]
 ·simp only [ah] at hs;subst hs;simp only [VR] at hx;generalize dec (V.den E.ρ _)=d at hx ⊢
  cases hx with
  |str s=>exact⟨s,rfl,rfl⟩
 grind
theorem Dc {E:En} {h:Array Obj} {x y:W} {u v:Value} {c:SB} (hx:VR E h x u) (hy:VR E h y v) (hs:Bj x y=some c): ∃a b:ByteArray,u= .string a/\v= .string b/\c.den E.ρ=decide (a=b):=by
 unfold Bj at hs;split at hs
 ·grind
 ·rename_i e he;split at hs
  ·grind
  ·rename_i f hf;simp only [ah] at hs;subst hs;obtain⟨a,rfl,ha⟩:=yi hx he;obtain⟨b,rfl,hb⟩:=yi hy hf;refine⟨a,b,rfl,rfl,?_⟩
   grind [iw,lV,EP,iJ]
theorem xn (a b:ByteArray):(a.toList == b.toList)=decide (a=b):=by
 rw [alZ,beq_iff_eq,decide_eq_true_eq];constructor
 ·intro h;rw [<- kS a,<- kS b]
  have e: ∀x:ByteArray,x.toList=x.data.toList:=by
   intro x;have:=qf (bytesOf x);rw [kS] at this;rw [this]
   have e2:(UInt8.ofNat ∘ fun b:UInt8=>b.toNat)=id:=by funext b;simp
   simp_all [bytesOf,e2]
  grind [bytesOf]
 grind
theorem FT {E:En} {op:BinOp} {x y v:W} {u u':Value} {t:Nat} (hx:VR E w.heap x u) (hy:VR E w.heap y u') (h:Ie op (Bj x y)=some v) :
 (∃r,(binOp op t u u').run P w= .ok r w/\VR E w.heap v r)/\(∀cs ds,¬(u= .agg cs/\u'= .agg ds))/\¬(u= .nilIface/\u'= .nilIface):=by
 unfold Ie at h;split at h
 ·grind
 ·rename_i c hc;obtain⟨a,b,rfl,rfl,hd⟩:=Dc hx hy hc;refine⟨?_,ad,ad⟩;split at h
  ·simp only [ah] at h;subst h;refine⟨.bool (decide (a=b)),?_,by simp only [VR,hd]⟩;rw [<- xn];rfl
  ·simp only [ah] at h;subst h;refine⟨.bool (!decide (a=b)),?_,by simp only [VR,SB.den,hd]⟩;rw [<- xn];rfl
  grind
theorem YL {tt:TT} (cJ:eA P tt) {t:Nat} {op:BinOp} {x y v:W} {u u':Value} (hx:VR E w.heap x u) (hy:VR E w.heap y u') (h:YN tt t op x y=some v) :
 (∃r,(binOp op t u u').run P w= .ok r w/\VR E w.heap v r)/\(∀cs ds,¬(u= .agg cs/\u'= .agg ds))/\¬(u= .nilIface/\u'= .nilIface):=by
 unfold YN at h;split at h
 ·split at h
  ·simp only [VR] at hx hy;subst hx hy;refine⟨?_,ad,ad⟩;split at h
   all_goals simp_all [XZ]
  grind
 ·split at h
  ·simp only [VR] at hx hy;obtain⟨rfl,hx⟩:=hx;obtain⟨rfl,hy⟩:=hy;refine⟨?_,ad,ad⟩;obtain⟨r,U,Z⟩:=KB (P:=P) (E:=E) (w:=w) hx hy h;refine⟨r,?_,Z⟩;cases op<;>first |(simp [KC] at h; done)|(simpa [binOp] using U)
  ·exact FT hx hy h
  grind
 ·exact FT hx hy h
 ·split at h
  ·grind
  ·rename_i i hi;split at h
   ·rename_i c hc;simp at h;subst h;obtain⟨e1,e2,e3,e4,e5,e6,e7⟩:=RQ (w:=w) (cJ t i hi) hx hy hc;exact⟨⟨_,(binOp_eql e1 e4 e5 e6 e7).1,by simp only [VR]⟩,e2,e3⟩
   ·rename_i c hc;simp at h;subst h;obtain⟨e1,e2,e3,e4,e5,e6,e7⟩:=RQ (w:=w) (cJ t i hi) hx hy hc;exact⟨⟨_,(binOp_eql e1 e4 e5 e6 e7).2,by simp only [VR,mX]⟩,e2,e3⟩
   grind
theorem aaw {op:UnOp} {x v:W} {u:Value} (hx:VR E w.heap x u) (h:afz op x=some v): ∃r,(Op.unary op u).run P w= .ok r w/\VR E w.heap v r:=by
 unfold afz at h;split at h
 ·simp at h; subst h;simp only [VR] at hx; subst hx;exact⟨_,rfl,by simp only [VR,mX]⟩
 ·simp at h; subst h;simp only [VR] at hx; subst hx;exact⟨_,rfl,by simp only [VR,F0,V.den]⟩
 grind
end
section
variable {P:Program} {E:En} {w:World}
theorem iQ [bI] {H:Hp} {w':World} (r:bO E H w) {cs:List W} {us:List Value} (arr:Array Value) (lo hi:Nat) (e:TypeId) (hv:cA E w.heap cs us) (U: ∀u∈us,u.oneCell'=true)
 (ha: ∀(i:Nat) (u:Value),us[i]?=some u->arr[i]?=some u) (hf: ∀o:Nat,lo<=o->o<hi->arr.size<=o) (hw:w'.heap=w.heap.push (.cells arr e (lo,hi))) (al:Alike w w') :
 eT E H w (E.ext H.fresh (w.heap.size,0) arr.size) (H.new (.cells cs e)) w'/\bO (E.ext H.fresh (w.heap.size,0) arr.size) (H.new (.cells cs e)) w':=by
 refine pj r _ _ _ hw al ?_;have k:=DT r (w.heap.size,0) arr.size (.cells arr e (lo,hi));rw [<- hw] at k;have hlen:=hv.length;simp only [OR,En.ext_θ_new,En.ext_κ_new];refine⟨arr,lo,hi,us,by rw [hw]; simp,cA.cf k _ _ hv,fun i u hu=>by rw [aA]; exact ha i u hu,?_,J,hf,U⟩;rw [<- hlen];rcases aT arr.size us.length with hh|hh
 ·have:=ha arr.size us[arr.size] (by simp [hh])
  grind
 grind
theorem yB [bI] {H:Hp} (_:bO E H w) (c:Nat) (h:Array Obj) (off:Nat):VR (E.ext H.fresh (w.heap.size,0) c) h (.ptr H.fresh off) (.pointer (some ⟨w.heap.size,off,none⟩)):=by
 simp only [VR,En.ext_θ_new]
 grind [En.gC]
theorem OH [bI] {tt:TT} (cJ:eA P tt) {H H':Hp} (r:bO E H w) {t:Nat} {p v:W} {u x:Value} (hp:VR E w.heap p u) (hx:VR E w.heap v x) (h:Jn tt t p v H=some H') :
 ∃w',(Instr.storeAt t u x).run P w= .ok () w'/\eT E H w E H' w'/\bO E H' w':=by
 unfold Jn at h;split at h
 ·grind
 ·rename_i i hi;split at h
  ·rename_i hc;simp only [an,decide_eq_true_eq] at hc;split at h
   ·split at h
    ·rename_i id off cs e Y;split at h
     ·rename_i lS hs;simp at h;subst h;simp only [VR] at hp;obtain⟨rfl,_⟩:=hp;have MT:=hx.cells hc.2;have hlen:x.cells.size=i.size:=by have:=MT.length; simp only [bn] at this; omega
      obtain⟨w',U,Z,h3⟩:=lU (P:=P) r Y hs MT (MT.rH hc.2);refine⟨w',?_,Z,h3⟩;simp [Instr.storeAt,Instr.sureAddr,storeVar,ey (cJ t i hi),hlen,U]
     grind
    grind
   grind
  grind
theorem He: ∀(vs:List Value) (off k:Nat) (arr:Array Value),off+k+vs.length<=arr.size->
 ((vs.zipIdx k).foldl (fun cs p=>cs.setIfInBounds (off+p.2) p.1) arr).size=arr.size/\
 ∀i,((vs.zipIdx k).foldl (fun cs p=>cs.setIfInBounds (off+p.2) p.1) arr)[i]?=if off+k<=i/\i<off+k+vs.length then vs[i-(off+k)]? else arr[i]?
 |[],off,k,arr,_=> ⟨rfl,fun i=>by rw [af ad]; rfl⟩
 |v::vs,off,k,arr,h=>by
  simp only [List.zipIdx_cons,List.foldl_cons];obtain⟨U,Z⟩:=He vs off (k+1) (arr.setIfInBounds (off+k) v) (by simp at h ⊢; omega)
  grind
def tB (E:En) (h:Array Obj):List (Nat×W)->List (Nat×Value)->Prop
 |[],ps=>ps= []
 |(i,v)::xs,ps=> ∃x r,ps=(i,x)::r/\VR E h v x/\tB E h xs r
theorem pH {place:Nat->Option (Nat×Nat)} {h:Array Obj}: ∀{parts:List (Nat×W)} {cs lS:List W} {us:Array Value} {ps:List (Nat×Value)},
 td place cs parts=some lS->cA E h cs us.toList->tB E h parts ps->(∀u∈us.toList,u.oneCell'=true)->
 ∃gF:Array Value,Instr.fill place us ps=some gF/\cA E h lS gF.toList/\∀u∈gF.toList,u.oneCell'=true
 |[],cs,lS,us,ps,U,Z,h3,h4=>by simp only [tB] at h3;subst h3;simp [td] at U;subst U;exact⟨us,rfl,Z,h4⟩
 |(i,v)::parts,cs,lS,us,ps,U,Z,h3,h4=>by
  simp only [tB] at h3;obtain⟨x,ps',rfl,hx,hb⟩:=h3;simp only [td] at U;split at U
  ·simp at U
  ·rename_i off size hp;split at U
   ·rename_i hc;simp only [an,decide_eq_true_eq] at hc;split at U
    ·rename_i cs2 hs;have MT:=hx.cells hc.2;have hlen:=MT.length;simp only [bn] at hlen;obtain⟨e1,e2,gF,e3,e4⟩:=vC hs Z MT;have hul:=Z.length;simp only [bn] at hul;have aiF:=He x.cells.toList off 0 us (by simp; omega)
     have heq:(x.cells.zipIdx.foldl (fun cs (c,j)=>cs.setIfInBounds (off+j) c) us).toList=gF:=by apply amL;intro k;rw [e4 k];have h5:=aiF.2 k;simp only [a8,bn] at h5;rw [alM,<- Array.foldl_toList,Array.toList_zipIdx];rw [h5];simp only [bn,alM]
     have h6: ∀u∈(x.cells.zipIdx.foldl (fun cs (c,j)=>cs.setIfInBounds (off+j) c) us).toList,u.oneCell'=true:=by
      rw [heq];intro u hu;rw [amI] at hu;obtain⟨k,hk⟩:=hu;rw [e4 k] at hk;split at hk
      ·exact MT.rH hc.2 u (br hk)
      ·exact h4 u (br hk)
     obtain⟨us2,g1,g2,g3⟩:=pH (us:=x.cells.zipIdx.foldl (fun cs (c,j)=>cs.setIfInBounds (off+j) c) us) U (by rw [heq]; exact e3) hb h6;refine⟨us2,?_,g2,g3⟩;simp only [Instr.fill,hp];rw [af]
     ·exact g1
     ·simp only [amp,decide_eq_true_eq,not_or];constructor
      ·omega
      ·omega
    ·simp at U
   ·simp at U
theorem xT {s:St} {a:Act} (sr:SR E w.heap s.bD a): ∀{xs:List (Nat×Operand)} {ps:List (Nat×W)},wj s xs=some ps->tB E w.heap ps (xs.map fun p=>(p.1,a.eval p.2))
 |[],ps,h=>by simp [wj] at h; subst h; simp [tB]
 |(i,x)::xs,ps,h=>by
  simp only [wj] at h;split at h
  ·grind
  ·rename_i b hb;split at h
   ·grind
   ·rename_i bs hbs;simp at h;subst h;simp only [aw,tB];exact⟨_,_,rfl,gk sr hb,xT sr hbs⟩
theorem dq {α:Type}: ∀(l:List α) (i:Nat),eZ l i=l[i]?
 |[],i=>by cases i<;>rfl
 |x::xs,0=>rfl
 |x::xs,i+1=>by simp [eZ,dq xs i]
theorem DK {α β:Type} {f:α->Option β}: ∀{l:List α} {r:List β},l.mapM f=some r->∀i:Nat,r[i]?=(l[i]?).bind f
 |[],r,h,i=>by simp at h; subst h; simp
 |x::xs,r,h,i=>by
  simp only [amq,amM,amw] at h;obtain⟨y,U,ys,Z,h3⟩:=h;simp only [pure,ah] at h3;subst h3
  cases i with
  |zero=>simp [U]
  |succ i=>simpa using DK Z i
theorem QM {α β:Type} {f:α->Option β}: ∀{l:List α} {r:List β},r.length=l.length->(∀i:Nat,r[i]?=(l[i]?).bind f)->l.mapM f=some r
 |[],r,h,_=>by simp at h; subst h; simp
 |x::xs,[],h,_=>by simp at h
 |x::xs,y::ys,h,Z=>by have h0:=Z 0;simp at h0;have ih:=QM (l:=xs) (r:=ys) (by simpa using h) (fun i=>by simpa using Z (i+1));simp [amq,h0.symm,ih]
theorem BB {α β:Type} {f:α->Option β}: ∀{l:List α} {r:List β},l.mapM f=some r->r.length=l.length
 |[],r,h=>by simp at h; subst h; simp
 |x::xs,r,h=>by simp only [amq,amM,amw] at h;obtain⟨y,U,ys,Z,h3⟩:=h;simp only [pure,ah] at h3;subst h3;simp [BB Z]
theorem OZ {tt:TT} (cJ:eA P tt) {t:Nat} {parts:List (Nat×W)} {ps:Array (Nat×Value)} {v:W} (hp:tB E w.heap parts ps.toList) (h:JC tt t parts=some v) :
 ∃x,(Instr.build t ps).run P w= .ok x w/\VR E w.heap v x:=by
 unfold JC at h;split at h
 ·rename_i i hi;have fm:=cJ t i hi;obtain⟨inf,z,g1,g2,g3,g4,g5⟩:=vY fm;have hz:=eU (E:=E) (h:=w.heap) g5;split at h
  ·rename_i fs hk;rw [aP] at h;obtain⟨lS,U,rfl⟩:=h;obtain⟨gF,e1,e2,e3⟩:=pH U hz.1 hp hz.2;obtain⟨lZ,hu,hm⟩:=sA fm hk
   have hb:P.built t ps.toList=some gF:=by
    unfold Program.built
    have hm2:(lZ.toList.mapM fun f=>(P.info? f.type).map fun i=>(f.offset,i.size))=some (fs.map fun x=>(x.1,x.2.2)):=by
     refine QM (by simp [BB hm]) fun i=>?_;have:=DK hm i;rw [bg,this]
     cases lZ.toList[i]? with
     |none=>rfl
     |some f=>simp only [Option.bind_some,Option.map_map]; rfl
    simp only [g1,hu,g4,hm2];simp_all [e1,dq]
   exact⟨_,run_build w t ps gF hb,by simp only [VR]; exact⟨gF.toList,ad,e2⟩⟩
  ·rename_i n e hk;split at h
   ·rename_i s hs;rw [aP] at h;obtain⟨lS,U,rfl⟩:=h;obtain⟨gF,e1,e2,e3⟩:=pH U hz.1 hp hz.2;simp only [iB,aP] at hs;obtain⟨ie,kX,rfl⟩:=hs;obtain⟨aly,z',f1,f2,f3,f4,f5⟩:=vY (cJ e ie kX)
    have hb:P.built t ps.toList=some gF:=by unfold Program.built;simp only [g1,rk fm hk,g4,f1];simp_all
    exact⟨_,run_build w t ps gF hb,by simp only [VR]; exact⟨gF.toList,ad,e2⟩⟩
   grind
  grind
 grind
theorem Bq {α:Type} (l:List α) (Y:l≠[]): ∀(n i:Nat),i<n*l.length->(dO l n)[i]?=l[i % l.length]?
 |0,i,h=>by simp at h
 |n+1,i,h=>by
  have lK:0<l.length:=amb.2 Y;simp only [dO];rw [anh];split
  ·rename_i Z; rw [al9 Z]
  ·rename_i Z;rw [Bq l Y n (i-l.length) (by rw [alX] at h; omega)];congr 1;rw [<- Nat.mod_eq_sub_mod J]
theorem jc {α:Type} (l:List α): ∀n,(dO l n).length=n*l.length
 |0=>by simp [dO]
 |n+1=>by simp [dO,jc l n,alX]; omega
theorem mf {h:Array Obj} {cs:List W} {us:List Value} (hv:cA E h cs us): ∀n,cA E h (dO cs n) (dO us n)
 |0=>by simp [dO,cA]
 |n+1=>hv.append (mf hv n)
theorem me {α:Type} {l:List α} {x:α}: ∀{n},x∈dO l n->x∈l
 |0,h=>by simp [dO] at h
 |n+1,h=>by
  simp only [dO,alO] at h;rcases h with h|h
  ·exact h
  ·exact me h
theorem uf (z:Array Value) (hz:z.toList≠[]) (n:Nat):((Array.range (n*z.size)).map (z[·% z.size]!)).toList=dO z.toList n:=by
 apply amL;intro i
 grind [Bq,jc]
theorem B7 [bI] {tt:TT} (cJ:eA P tt) {H H':Hp} (r:bO E H w) {t len:Nat} {parts:List (Nat×W)} {ps:Array (Nat×Value)} {v:W} (hp:tB E w.heap parts ps.toList) (h:tg tt t len parts H=some (v,H')) :
 ∃x w' E',(Instr.buildSlice t len ps).run P w= .ok x w'/\eT E H w E' H' w'/\bO E' H' w'/\VR E' w'.heap v x:=by
 unfold tg at h;split at h
 ·rename_i i hi;have fm:=cJ t i hi;split at h
  ·rename_i e hk;split at h
   ·rename_i ie kX;have X3:=cJ e ie kX;obtain⟨inf,z,g1,g2,g3,g4,g5⟩:=vY X3;have hz:=eU (E:=E) (h:=w.heap) g5;split at h
    ·rename_i hb;split at h
     ·rename_i cs U;simp only [ah,ak] at h;obtain⟨rfl,rfl⟩:=h
      have ik:len*ie.size<=2 ^ 24:=by have:len*ie.size<=1000*1000:=ani hb.1 hb.2.1;omega
      have vZ:z.cells.size=ie.size:=by have:=hz.1.length; simp only [bn] at this; omega
      have key: ∃gF:Array Value,Instr.fill (fun i=>some (i*inf.size,inf.size)) ((Array.range (len*inf.size)).map ((if len*inf.size=0 then #[] else z.cells)[·% (if len*inf.size=0 then #[] else z.cells).size]!)) ps.toList=some gF/\cA E w.heap cs gF.toList/\∀u∈gF.toList,u.oneCell'=true:=by
       rw [g2];by_cases h0:len*ie.size=0
       ·rw [ag h0,h0]
        have aeY:dO ie.zero len= []:=by
         grind [jc]
        refine pH U ?_ hp ?_
        all_goals grind [cA]
       ·rw [af h0]
        have gp:z.cells.toList≠[]:=by
         intro hx;have UT:z.cells.size=0:=by have:=congrArg List.length hx; simpa using this
         grind
        have hzz:=uf z.cells gp len;rw [vZ] at hzz;refine pH U ?_ hp ?_
        all_goals grind [mf,me]
      obtain⟨gF,e1,e2,e3⟩:=key;refine⟨.slice (some ⟨w.heap.size,0,none⟩) len len,{ w with heap:=w.heap.push (.cells gF e) },E.ext H.fresh (w.heap.size,0) gF.size,?_,?_⟩
      ·by_cases h0:len*inf.size=0
       ·rw [ag h0] at e1;rw [h0] at e1;have e0: ∀f:Nat->Value,(Array.range 0).map f= #[]:=by intro f; simp
        rw [e0] at e1;simp [Instr.buildSlice,run_underlying (ff fm hk),sizeOf,typeInfo,g1,h0,e0,e1,newRow]
       ·rw [af h0] at e1;have h24: ¬(2 ^ 24<len*inf.size):=by rw [g2]; omega
        simp only [Instr.buildSlice,Sem.run_bind,run_underlying (ff fm hk),Result.andThen_ok,sizeOf,typeInfo,zeroValue,run_program,g1,g4,Sem.run_pure,newRow,gt_iff_lt,h24,h0,if_false,Sem.run_ite];rw [e1];rfl
      ·obtain⟨s1,s2⟩:=iQ r gF 0 0 e e2 e3 (fun i u hu=>by rw [<- alM]; exact hu) J (w':={ w with heap:=w.heap.push (.cells gF e) }) rfl ⟨rfl,rfl,rfl⟩;refine⟨s1,s2,?_⟩;simp only [VR]
       grind [En.gC,eQ,En.ext_θ_new]
     grind
    grind
   grind
  grind
 grind
theorem GL {E:En} {h:Array Obj} {v:W} {u:Value} {n:Int} (hv:VR E h v u) (Y:ky v=some n): ∃k,u= .int k n:=by
 unfold ky at Y;split at Y
 ·simp only [ah] at Y;subst Y;simp only [VR,V.den] at hv
  grind
 grind
theorem vb [bI] {tt:TT} (cJ:eA P tt) {H H':Hp} (r:bO E H w) {t:Nat} {l c:W} {lu cu:Value} {v:W} (Y:VR E w.heap l lu) (hc:VR E w.heap c cu) (h:qC tt t l c H=some (v,H')) :
 ∃x w' E',(Instr.makeSlice t lu cu).run P w= .ok x w'/\eT E H w E' H' w'/\bO E' H' w'/\VR E' w'.heap v x:=by
 unfold qC at h;split at h
 ·rename_i n On;split at h
  ·rename_i m hcm;obtain⟨k1,rfl⟩:=GL Y On;obtain⟨k2,rfl⟩:=GL hc hcm;split at h
   ·rename_i i hi;have fm:=cJ t i hi;split at h
    ·rename_i e hk;split at h
     ·rename_i ie kX;have X3:=cJ e ie kX;obtain⟨inf,z,g1,g2,g3,g4,g5⟩:=vY X3;have hz:=eU (E:=E) (h:=w.heap) g5;split at h
      ·rename_i hb;obtain⟨b1,b2,b3,b4,b5⟩:=hb;simp only [ah,ak] at h;obtain⟨rfl,rfl⟩:=h;have vZ:z.cells.size=ie.size:=by have:=hz.1.length; simp only [bn] at this; omega
       have wn:IntKind.i64.wrap (Int.ofNat n)=Int.ofNat n:=by rw [<- kH]; simp only [rY]; rw [ag (by constructor<;>simp<;>omega)]
       have wm:IntKind.i64.wrap (Int.ofNat m)=Int.ofNat m:=by rw [<- kH]; simp only [rY]; rw [ag (by constructor<;>simp<;>omega)]
       have D7:inf.bytes*m<=1000000000:=by rw [g3]; exact ani b4 b2
       have ai: ∀(k:IntKind) (x:Int) (w:World),(asInt (Value.int k x)).run P w= .ok x w:=fun _ _ _=>rfl
       have key: ∃gF:Array Value,((Array.range (m*inf.size)).map ((if m*inf.size=0 then #[] else z.cells)[·% (if m*inf.size=0 then #[] else z.cells).size]!))=gF/\cA E w.heap (dO ie.zero m) gF.toList/\∀u∈gF.toList,u.oneCell'=true:=by
        rw [g2];by_cases h0:m*ie.size=0
        ·grind [dO,jc,cA]
        ·rw [af h0]
         have gp:z.cells.toList≠[]:=by
          intro hx;have UT:z.cells.size=0:=by have:=congrArg List.length hx; simpa using this
          grind
         grind [uf,mf,me]
       obtain⟨gF,e1,e2,e3⟩:=key;refine⟨.slice (some ⟨w.heap.size,0,none⟩) n m,{ w with heap:=w.heap.push (.cells gF e) },E.ext H.fresh (w.heap.size,0) gF.size,?_,?_⟩
       ·have t1: ¬(Int.ofNat m<0):=ad
        have t2: ¬((inf.bytes:Int)*Int.ofNat m > 2 ^ 48):=by
         grind
        have t3: ¬(Int.ofNat n<0):=ad
        have t4: ¬(Int.ofNat n > Int.ofNat m):=by simp; omega
        have t5:(askRoom (m*inf.bytes)).run P w= .ok () w:=by simp_all
        have t6:(Int.ofNat m).toNat=m:=rfl;have t7:(Int.ofNat n).toNat=n:=rfl;by_cases h0:m*inf.size=0
        ·rw [ag h0] at e1;rw [h0] at e1;simp only [Instr.makeSlice,Sem.run_bind,run_underlying (ff fm hk),Result.andThen_ok,ai,sizeOf,typeInfo,zeroValue,run_program,g1,g4,Sem.run_pure,newRow,Sem.run_ite,wn,wm,t1,t2,t3,t4,t6,t7,h0,decide_false,am0,aK,if_false,if_true];simp_all
        ·rw [af h0] at e1;simp only [Instr.makeSlice,Sem.run_bind,run_underlying (ff fm hk),Result.andThen_ok,ai,sizeOf,typeInfo,zeroValue,run_program,g1,g4,Sem.run_pure,newRow,Sem.run_ite,wn,wm,t1,t2,t3,t4,t6,t7,h0,decide_false,am0,aK,if_false];simp_all
       ·obtain⟨s1,s2⟩:=iQ r gF 0 0 e e2 e3 (fun i u hu=>by rw [<- alM]; exact hu) J (w':={ w with heap:=w.heap.push (.cells gF e) }) rfl ⟨rfl,rfl,rfl⟩;refine⟨s1,s2,?_⟩;simp only [VR];exact⟨En.gC _ _ _ _,⟨w.heap.size,0,none⟩,m,rfl,b1,by simp [eQ,En.ext_θ_new]⟩
      grind
     grind
    grind
   grind
  grind
 grind
end
section
variable {P:Program} {E:En} {w:World}
theorem KP {i:TI} {t:Nat} (fm:mw P t i) {fs:List (Nat×Nat×Nat)} (hk:i.kind= .struct fs) {f off ft sz:Nat} (h:eZ fs f=some (off,ft,sz)) :
 ∃(lZ:Array Field) (fd:Field) (inf:TypeInfo),P.underlying t=some (.struct lZ)/\lZ[f]?=some fd/\fd.offset=off/\fd.type=ft/\P.info? ft=some inf/\inf.size=sz:=by
 obtain⟨lZ,hu,hm⟩:=sA fm hk;have U:=DK hm f;rw [<- dq,h,alM] at U
 cases hf:lZ[f]? with
 |none=>rw [hf] at U; simp at U
 |some fd=>
  rw [hf] at U;simp only [Option.bind_some] at U
  cases hi:P.info? fd.type with
  |none=>rw [hi] at U; simp at U
  |some inf=>
   grind
theorem Ge {x v:W} {u:Value} {off:Nat} (hx:VR E w.heap x u) (h:QK off x=some v) :
 ∃b o,u= .pointer (some ⟨b,o,none⟩)/\VR E w.heap v (.pointer (some ⟨b,o+off,none⟩)):=by
 unfold QK at h;cases x<;>simp only [ah,reduceCtorEq,aP] at h
 case ptr id o=>
  subst h;simp only [VR] at hx ⊢;obtain⟨rfl,hid⟩:=hx;exact⟨_,_,rfl,by rw [alP],hid⟩
 case zG id es i o=>
  subst h;simp only [VR] at hx ⊢;obtain⟨hid,k,U,rfl⟩:=hx;exact⟨_,_,rfl,hid,k,U,by rw [alP,alP]⟩
 case mY cs=>
  obtain⟨l,U,rfl⟩:=h;simp only [VR] at hx ⊢;obtain⟨b,o,us,rfl,Z,h3,h4,h5⟩:=hx;exact⟨b,o,rfl,b,o+off,us.drop off,rfl,Z,(h3.eL U).1,h4.drop off,fun u hu=>h5 u (bw hu)⟩
theorem Ez {tt:TT} (cJ:eA P tt) {t f:Nat} {x v:W} {u:Value} (hx:VR E w.heap x u) (h:ve tt t x f=some v) :
 ∃r,(Instr.fieldAt t u f).run P w= .ok r w/\VR E w.heap v r:=by
 unfold ve at h;split at h
 ·rename_i i hi;split at h
  ·rename_i fs hk;split at h
   ·rename_i off ft sz hn;obtain⟨lZ,fd,inf,hu,hf,U,Z,h3,h4⟩:=KP (cJ t i hi) hk hn;split at h
    ·grind
    ·rename_i ik;obtain⟨b,o,rfl,hv⟩:=Ge hx h;refine⟨_,?_,hv⟩;have gp: ¬inf.size=0:=by rw [h4]; exact ik
     simp [Instr.fieldAt,run_underlying hu,hf,Instr.sureAddr,fieldPlace,sizeOf,typeInfo,Z,h3,gp,e9,U]
   grind
  grind
 grind
theorem QB {i:TI} {t:Nat} (fm:mw P t i) {cs l:List W} {us:List Value} {off:Nat} {v:W} (hv:cA E w.heap cs us) (hd:eL off cs=some l)
 (h:partOf i l=some v) :
 ∃r,(part t us.toArray off).run P w= .ok r w/\VR E w.heap v r:=by
 obtain⟨U,Z,h3⟩:=hv.eL hd;have hlen:=hv.length;unfold partOf at h;split at h
 ·rename_i Ou;rw [aP] at h;obtain⟨l',h4,rfl⟩:=h;obtain⟨h5,h6⟩:=U.iA h4;refine⟨.agg (us.toArray.extract off (off+i.size)),?_,?_⟩
  ·simp [part,kV fm,Ou,ey fm]
  ·simp only [VR]
   grind
 ·rename_i Ou;split at h
  ·rename_i x l';simp at h;subst h;rw [bT] at U;obtain⟨u,vs,he,h5,_⟩:=U;refine⟨u,?_,h5⟩
   have hg:us[off]?=some u:=by
    have:=congrArg (·[0]?) he
    grind
   simp [part,kV fm,Ou,hg]
  grind
theorem OQ {tt:TT} (cJ:eA P tt) {t f:Nat} {x v:W} {u:Value} (hx:VR E w.heap x u) (h:Ju tt t x f=some v) :
 ∃r,(Instr.field t u f).run P w= .ok r w/\VR E w.heap v r:=by
 unfold Ju at h;split at h
 ·rename_i i hi;split at h
  ·rename_i fs hk;split at h
   ·rename_i off ft sz hn;obtain⟨lZ,fd,inf,hu,hf,U,Z,h3,h4⟩:=KP (cJ t i hi) hk hn;split at h
    ·rename_i fi cs hfi;split at h
     ·rename_i l Y;simp only [VR] at hx;obtain⟨us,rfl,hv⟩:=hx;obtain⟨r,e1,e2⟩:=QB (w:=w) (cJ ft fi hfi) hv Y h;refine⟨r,?_,e2⟩;simp [Instr.field,run_underlying hu,hf,asAgg,U,Z,e1]
     grind
    grind
   grind
  grind
 grind
theorem AF {x:W} {u:Value} {n:Int} (hx:VR E w.heap x u) (h:ky x=some n): ∃k,u= .int k n:=by
 cases x<;>simp [ky] at h;rename_i k e;cases e<;>simp at h;subst h;simp only [VR,V.den] at hx
 grind
theorem pI {tt:TT} (cJ:eA P tt) {t:Nat} {x ix v:W} {u ui:Value} (hx:VR E w.heap x u) (yX:VR E w.heap ix ui) (h:nV tt t x ix=some v) :
 ∃r,(Instr.indexAt t u ui).run P w= .ok r w/\VR E w.heap v r:=by
 unfold nV at h;split at h
 ·rename_i i hi;obtain⟨k,rfl⟩:=AF yX hi;split at h
  ·rename_i ti fm;have uN:=cJ t ti fm;split at h
   ·rename_i n e hk;split at h
    ·rename_i fW;split at h
     ·rename_i s hs;simp only [iB,aP] at hs;obtain⟨ie,kX,rfl⟩:=hs;obtain⟨b,o,rfl,hv⟩:=Ge hx h;refine⟨_,?_,hv⟩;have hu:=rk uN hk;simp [Instr.indexAt,asIntOf,run_underlying hu,Instr.sureAddr,ey (cJ e ie kX),fW,e9]
     grind
    grind
   ·rename_i e hk;have hu:=ff uN hk;split at h
    ·rename_i s hs;simp only [iB,aP] at hs;obtain⟨ie,kX,rfl⟩:=hs;split at h
     ·rename_i id o len c;split at h
      ·rename_i fW;simp at h;subst h;simp only [VR] at hx;obtain⟨hid,a,cap,rfl,iR,hc⟩:=hx
       have ha:a=⟨(E.θ id).1,(E.θ id).2+o,none⟩:=by
        cases c with
        |exact c=>
         simp only [eQ] at hc
         grind
        |rest es=>
         simp only [eQ] at hc
         grind
       subst ha;refine⟨.pointer (some ⟨(E.θ id).1,(E.θ id).2+o+i*ie.size,none⟩),?_,by simp only [VR]; exact⟨by rw [alP],hid⟩⟩;simp [Instr.indexAt,asIntOf,run_underlying hu,ey (cJ e ie kX),fW,e9]
      grind
     ·rename_i cs n full;split at h
      ·rename_i fW;rw [aP] at h;obtain⟨l,U,rfl⟩:=h;simp only [VR] at hx;obtain⟨b,o,cap,us,rfl,Z,h3,h4,h5,h6,h7⟩:=hx;refine⟨.pointer (some ⟨b,o+i*ie.size,none⟩),?_,?_⟩
       ·simp [Instr.indexAt,asIntOf,run_underlying hu,ey (cJ e ie kX),fW,e9]
       ·simp only [VR];exact⟨b,_,us.drop (i*ie.size),rfl,h4,(h5.eL U).1,h6.drop _,fun u hu=>h7 u (bw hu)⟩
      grind
     grind
    grind
   grind
  grind
 grind
theorem Dd (s:List Nat) (i:Nat):(dh s)[i]?=(s[i]?).map UInt8.ofNat:=by have U:(dh s)[i]?=(dh s).data[i]?:=rfl;rw [U];simp [dh]
theorem xU {tt:TT} (cJ:eA P tt) {t:Nat} {x ix v:W} {u ui:Value} (hx:VR E w.heap x u) (yX:VR E w.heap ix ui) (h:zA tt t x ix=some v) :
 ∃r,(Instr.index t u ui).run P w= .ok r w/\VR E w.heap v r:=by
 unfold zA at h;split at h
 ·rename_i i hi;obtain⟨k,rfl⟩:=AF yX hi;split at h
  ·rename_i ti fm;have uN:=cJ t ti fm;split at h
   ·rename_i s hk;rw [aP] at h;obtain⟨b,hb,rfl⟩:=h;simp only [VR] at hx;obtain⟨rfl,fW⟩:=hx;rw [dq] at hb;have hg:(dh s)[i]?=some (UInt8.ofNat b):=by rw [Dd,hb]; rfl
    have akU:=fW b (br hb);refine⟨_,by simp [Instr.index,asIntOf,run_underlying (fP uN hk),hg]; rfl,?_⟩;simp only [VR,V.den]
    grind
   ·rename_i n e cs hk;split at h
    ·rename_i fW;split at h
     ·rename_i ie kX;split at h
      ·rename_i l Y;simp only [VR] at hx;obtain⟨us,rfl,hv⟩:=hx;obtain⟨r,e1,e2⟩:=QB (w:=w) (cJ e ie kX) hv Y h;refine⟨r,?_,e2⟩;simp [Instr.index,asIntOf,run_underlying (rk uN hk),fW,ey (cJ e ie kX),e1]
      grind
     grind
    grind
   grind
  grind
 grind
end
section
variable {P:Program} {E:En} {w:World}
def gq (E:En) (h:Array Obj):Option W->Option Value->Prop
 |none,o=>o=none
 |some x,o=> ∃u,o=some u/\VR E h x u
theorem ez {s:St} {a:Act} (sr:SR E w.heap s.bD a) {x:Option Operand} {v:Option W} (h:Hs s x=some v):gq E w.heap v (x.map a.eval):=by
 cases x with
 |none=>simp [Hs] at h; subst h; simp [gq]
 |some x=> simp only [Hs,aP] at h;obtain⟨b,U,rfl⟩:=h;exact⟨_,rfl,gk sr U⟩
theorem zQ {x:W} {u:Value} {d y k:Nat} (hx:VR E w.heap x u) (h:nD (some x) d y=some k) {y':Nat} (hy:y<=y') (code:BoundsCode) :
 (Instr.sliceBound u y' code).run P w= .ok k w/\k<=y:=by
 unfold nD at h;simp only at h;split at h
 ·rename_i i hi;obtain⟨kk,rfl⟩:=AF hx hi;split at h
  ·rename_i hle;simp at h;subst h;refine⟨?_,hle⟩;have:((i:Int)<=(y':Int)):=J
   simp [Instr.sliceBound,asIntOf];omega
  grind
 grind
theorem zR {d y k:Nat} (h:nD none d y=some k):k=d/\d<=y:=by
 grind [nD]
theorem fV {isSlice:Bool} {len cap m0 h0:Nat} {lo hi mx:Option W} {yb hi' mx':Option Value} (oa:gq E w.heap lo yb) (yd:gq E w.heap hi hi') (xM:gq E w.heap mx mx')
 (hmh:mx.isSome=true->hi.isSome=true) {m h l d:Nat}
 (hm:(mx=none/\m=cap/\m0<=cap)\/(∃x,mx=some x/\nD mx d m0=some m/\m0<=cap))
 (hh:nD hi len h0=some h) (hh0:(mx=none->h0<=cap)/\(mx≠none->h0=m)) (Y:nD lo 0 h=some l) :
 (Instr.sliceBounds isSlice len cap yb hi' mx').run P w= .ok (l,h,m) w/\l<=h:=by
 have key: ∀(c:BoundsCode) (v:W) (u:Value),lo=some v->VR E w.heap v u->(Instr.sliceBound u h c).run P w= .ok l w/\l<=h:=by intro c v u hv hu;subst hv;exact zQ hu Y (au _) c
 have alw:lo=none->l=0:=fun hv=>by subst hv; exact (zR Y).1
 unfold Instr.sliceBounds;rcases hm with ⟨rfl,rfl,hm0⟩|⟨x,rfl,hm1,hm0⟩
 ·simp only [gq] at xM;subst xM;have hb:=hh0.1 rfl
  cases hi with
  |none=>
   simp only [gq] at yd;subst yd;obtain⟨rfl,_⟩:=zR hh
   cases lo with
   |none=> simp only [gq] at oa;simp_all
   |some v=> obtain⟨u,rfl,hu⟩:=oa;obtain⟨k1,k2⟩:=key .sliceB v u rfl hu;simp_all
  |some y=>
   obtain⟨uy,rfl,huy⟩:=yd;have U:=fun c=>(zQ (P:=P) huy hh hb c).1
   cases lo with
   |none=> simp only [gq] at oa;simp_all
   |some v=> obtain⟨u,rfl,hu⟩:=oa;obtain⟨k1,k2⟩:=key .sliceB v u rfl hu;simp_all
 ·obtain⟨ux,rfl,hux⟩:=xM;have Z:=fun c=>(zQ (P:=P) hux hm1 hm0 c).1;have hb:=hh0.2 ad;subst hb
  cases hi with
  |none=>simp at hmh
  |some y=>
   obtain⟨uy,rfl,huy⟩:=yd;have U:=fun c=>(zQ (P:=P) huy hh (au _) c).1
   cases lo with
   |none=> simp only [gq] at oa;simp_all
   |some v=> obtain⟨u,rfl,hu⟩:=oa;obtain⟨k1,k2⟩:=key .slice3C v u rfl hu;simp_all
theorem sF (s:List Nat) (l h:Nat):(dh s).extract l h=dh ((s.take h).drop l):=by apply ByteArray.ext;apply Array.ext';rw [Lib.extract_data];simp [dh,anj,ank,List.drop_take]
theorem pM {id o len cap l h m es:Nat} {a:Addr} {c c':MN} (hc:eQ E id o len a cap c) (hlen:len<=cap) (hlh:l<=h) (hhm:h<=m) (hmc:m<=cap)
 (U0:(∃k,c= .exact k/\c'= .exact (m-l))\/(c= .rest es/\c'= .exact (m-l))\/(c= .rest es/\c'= .rest es/\m=cap)) (s:Nat) (lE:c'= .rest es->es=s) :
 eQ E id (o+l*s) (h-l) (if m=l then a else a.add (l*s)) (m-l) c':=by
 rcases U0 with ⟨k,rfl,rfl⟩|⟨rfl,rfl⟩|⟨rfl,rfl,rfl⟩
 ·simp only [eQ] at *;refine⟨trivial,?_⟩;by_cases UW:m=l
  ·grind
  ·left
   grind [e9]
 ·simp only [eQ] at *;refine⟨trivial,?_⟩;by_cases UW:m=l
  ·grind
  ·left
   grind [e9]
 ·simp only [eQ] at *;obtain rfl:=lE trivial;by_cases UW:m=l
  ·grind
  ·left;rw [af UW];rcases hc with ha|ha
   ·refine⟨by rw [ha.1,e9,alP],?_⟩;rw [<- ha.2,alP,<- alX]
    grind
   ·omega
theorem lF {x:Option W} {d y k:Nat} (h:nD x d y=some k):k<=y:=by
 unfold nD at h;split at h
 ·grind
 ·split at h
  all_goals grind
theorem LX [bI] {tt:TT} (cJ:eA P tt) {H:Hp} (r:bO E H w) {t:Nat} {x v:W} {u:Value} {lo hi mx:Option W} {yb hi' mx':Option Value} (hx:VR E w.heap x u)
 (oa:gq E w.heap lo yb) (yd:gq E w.heap hi hi') (xM:gq E w.heap mx mx') (h:Eu tt t x lo hi mx H=some v) :
 ∃r,(Instr.sliceAt t u yb hi' mx').run P w= .ok r w/\VR E w.heap v r:=by
 unfold Eu at h;split at h
 ·grind
 ·split at h
  ·grind
  ·rename_i ti fm;have uN:=cJ t ti fm;split at h
   ·rename_i e hk;have hu:=ff uN hk;split at h
    ·grind
    ·rename_i s hs;simp only [iB,aP] at hs;obtain⟨ie,kX,rfl⟩:=hs;have ik:=ey (w:=w) (cJ e ie kX);split at h
     ·rename_i id o len es;split at h
      ·rename_i lE;split at h
       ·rename_i cs ty Y;split at h
        ·grind
        ·rename_i b Ad;split at h
         ·grind
         ·rename_i l nh;simp at h;subst h;obtain⟨lE,lK⟩:=lE;subst lE;simp only [VR] at hx;obtain⟨hid,a,cap,rfl,hlen,hc⟩:=hx;have yV:=(r.live id _ Y).2.1;simp only [OR] at yV;obtain⟨arr,lo1,hi1,us,q1,q2,q3,q4,q5,q6,q7⟩:=yV
          have iR:(cs.length-o) / ie.size<=cap:=by
           simp only [eQ] at hc;rcases hc with hc|hc
           ·have:cs.length-o<=cap*ie.size:=J
            exact Nat.div_le_of_le_mul (by rw [ane]; exact this)
           simp_all
          obtain⟨e1,e2⟩:=fV (P:=P) (w:=w) (isSlice:=true) (len:=len) (cap:=cap) (m0:=cap) (d:=0) (m:=cap) oa yd xM ad (.inl ⟨rfl,rfl,au _⟩) Ad ⟨fun _=>iR,ad⟩ nh;have ae8:=lF Ad;refine⟨.slice (some (if cap=l then a else a.add (l*ie.size))) (b-l) (cap-l),?_,?_⟩
          ·simp [Instr.sliceAt,run_underlying hu,Instr.slice,e1,ik]<;>split<;>rfl
          ·simp only [VR];exact⟨hid,_,_,rfl,J,pM (es:=ie.size) hc hlen e2 J (au _) (.inr (.inr ⟨rfl,rfl,rfl⟩)) _ (fun _=>rfl)⟩
       grind
      grind
     grind
   grind
theorem xS {tt:TT} (cJ:eA P tt) {t:Nat} {x v:W} {u:Value} {lo hi mx:Option W} {yb hi' mx':Option Value} (hx:VR E w.heap x u)
 (oa:gq E w.heap lo yb) (yd:gq E w.heap hi hi') (xM:gq E w.heap mx mx') (h:zr tt t x lo hi mx=some v) :
 ∃r,(Instr.sliceAt t u yb hi' mx').run P w= .ok r w/\VR E w.heap v r:=by
 unfold zr at h;split at h
 ·grind
 ·rename_i ti fm;have uN:=cJ t ti fm;split at h
  ·rename_i hk;have hu:=fP uN hk;split at h
   ·rename_i s;simp only [gq] at xM;subst xM;split at h
    ·rename_i b hb;split at h
     ·rename_i l Y;simp at h;subst h;simp only [VR] at hx;obtain⟨rfl,fW⟩:=hx;obtain⟨e1,e2⟩:=fV (P:=P) (w:=w) (isSlice:=false) (len:=s.length) (cap:=s.length) (m0:=s.length) (d:=0) oa yd (mx:=none) (mx':=none) rfl ad (.inl ⟨rfl,rfl,au _⟩) hb ⟨fun _=>au _,ad⟩ Y;refine⟨.string ((dh s).extract l b),?_,?_⟩
      ·rw [<- kR] at e1;simp [Instr.sliceAt,run_underlying hu,Instr.slice,e1]
      ·simp only [VR,sF]
       grind
     grind
    grind
   grind
  ·rename_i e hk;have hu:=ff uN hk;split at h
   ·grind
   ·rename_i s hs;simp only [iB,aP] at hs;obtain⟨ie,kX,rfl⟩:=hs;have ik:=fun w'=>ey (cJ e ie kX) w';split at h
    ·split at h
     ·grind
     ·rename_i hmh;split at h
      ·rename_i kh kl km Ad nh D7;simp at h;subst h;simp only [VR] at hx;subst hx;obtain rfl:kh=0:=by have:=lF Ad; omega
       obtain rfl:kl=0:=by have:=lF nh; omega
       obtain rfl:km=0:=by have:=lF D7; omega
       have hm:(mx=none/\0=0/\0<=0)\/(∃x,mx=some x/\nD mx 0 0=some 0/\0<=0):=by
        cases mx with
        |none=>exact .inl ⟨rfl,rfl,au _⟩
        |some y=>exact .inr ⟨y,rfl,D7,au _⟩
       obtain⟨e1,e2⟩:=fV (P:=P) (w:=w) (isSlice:=true) (len:=0) (cap:=0) (m0:=0) (d:=0) (m:=0) oa yd xM (by cases mx<;>cases hi<;>simp_all) hm Ad ⟨fun _=>au _,fun _=>rfl⟩ nh;refine⟨.slice none 0 0,?_,by simp only [VR]⟩;simp [Instr.sliceAt,run_underlying hu,Instr.slice,e1,ik]
      grind
    ·rename_i id o len c;split at h
     ·grind
     ·rename_i hmh;split at h
      ·grind
      ·rename_i m D7;split at h
       ·grind
       ·rename_i b Ad;split at h
        ·grind
        ·rename_i l nh;simp at h;subst h;simp only [VR] at hx;obtain⟨hid,a,cap,rfl,hlen,hc⟩:=hx;have iR:cap=c:=by simp only [eQ] at hc; exact hc.1
         subst iR
         have hm:(mx=none/\m=cap/\cap<=cap)\/(∃x,mx=some x/\nD mx cap cap=some m/\cap<=cap):=by
          cases mx with
          |none=>exact .inl ⟨rfl,(zR D7).1,au _⟩
          |some y=>exact .inr ⟨y,rfl,D7,au _⟩
         obtain⟨e1,e2⟩:=fV (P:=P) (w:=w) (isSlice:=true) (len:=len) (cap:=cap) (m0:=cap) (d:=cap) (m:=m) oa yd xM (by cases mx<;>cases hi<;>simp_all) hm Ad ⟨fun _=>lF D7,fun _=>rfl⟩ nh;refine⟨.slice (some (if m=l then a else a.add (l*ie.size))) (b-l) (m-l),?_,?_⟩
         ·simp [Instr.sliceAt,run_underlying hu,Instr.slice,e1,ik]<;>split<;>rfl
         ·simp only [VR];exact⟨hid,_,_,rfl,by have:=lF Ad; omega,pM (es:=0) hc hlen e2 (lF Ad) (lF D7) (.inl ⟨_,rfl,rfl⟩) _ ad⟩
    ·rename_i id o len es;split at h
     ·split at h
      ·grind
      ·rename_i b Ad;split at h
       ·grind
       ·rename_i l nh;split at h
        ·rename_i lE;simp at h;subst h;simp only [VR] at hx;obtain⟨hid,a,cap,rfl,hlen,hc⟩:=hx;obtain⟨e1,e2⟩:=fV (P:=P) (w:=w) (isSlice:=true) (len:=len) (cap:=cap) (m0:=cap) (d:=0) (m:=cap) oa yd xM ad (.inl ⟨rfl,rfl,au _⟩) Ad ⟨fun _=>hlen,ad⟩ nh;have ae8:=lF Ad;refine⟨.slice (some (if cap=l then a else a.add (l*ie.size))) (b-l) (cap-l),?_,?_⟩
         ·simp [Instr.sliceAt,run_underlying hu,Instr.slice,e1,ik]<;>split<;>rfl
         ·simp only [VR];exact⟨hid,_,_,rfl,J,pM (es:=es) hc hlen e2 J (au _) (.inr (.inr ⟨rfl,rfl,rfl⟩)) _ (fun _=>lE)⟩
        grind
     ·rename_i y;split at h
      ·grind
      ·grind
      ·rename_i b0 m D7;split at h
       ·grind
       ·rename_i b Ad;split at h
        ·grind
        ·rename_i l nh;simp at h;subst h;simp only [VR] at hx;obtain⟨hid,a,cap,rfl,hlen,hc⟩:=hx;obtain⟨e1,e2⟩:=fV (P:=P) (w:=w) (isSlice:=true) (len:=len) (cap:=cap) (m0:=len) (d:=0) (m:=m) oa yd xM ad (.inr ⟨y,rfl,D7,hlen⟩) Ad ⟨ad,fun _=>rfl⟩ nh;have LB:=lF Ad;have hm2:=lF D7;refine⟨.slice (some (if m=l then a else a.add (l*ie.size))) (b-l) (m-l),?_,?_⟩
         ·simp [Instr.sliceAt,run_underlying hu,Instr.slice,e1,ik]<;>split<;>rfl
         ·simp only [VR];exact⟨hid,_,_,rfl,J,pM (es:=es) hc hlen e2 LB J (.inr (.inl ⟨rfl,rfl⟩)) _ ad⟩
    ·rename_i cs n full;split at h
     ·split at h
      ·grind
      ·rename_i b Ad;split at h
       ·grind
       ·rename_i l nh;split at h
        ·grind
        ·rename_i d hd;split at h
         ·grind
         ·rename_i d' D6;simp at h;subst h;simp only [VR] at hx;obtain⟨bb,o,cap,us,rfl,hn,G3,h4,h5,h6,h7⟩:=hx;obtain⟨e1,e2⟩:=fV (P:=P) (w:=w) (isSlice:=true) (len:=n) (cap:=cap) (m0:=cap) (d:=0) (m:=cap) oa yd xM ad (.inl ⟨rfl,rfl,au _⟩) Ad ⟨fun _=>hn,ad⟩ nh;have LB:=lF Ad;obtain⟨g1,g2,g3⟩:=h5.eL hd;obtain⟨g4,g5⟩:=g1.iA D6;refine⟨.slice (some (if cap=l then⟨bb,o,none⟩ else (⟨bb,o,none⟩ : Addr).add (l*ie.size))) (b-l) (cap-l),?_,?_⟩
          ·simp [Instr.sliceAt,run_underlying hu,Instr.slice,e1,ik]<;>split<;>rfl
          ·simp only [VR];by_cases UW:cap=l
           ·have h0:b-l=0:=J
            refine⟨bb,o,cap-l,(us.drop (l*ie.size)).take ((b-l)*ie.size),by rw [ag UW],J,fun _=>by omega,h4,g4,?_,fun u hu=>h7 u (bw (alS hu))⟩;rw [h0,alQ];intro i u hu
            grind
           ·refine⟨bb,o+l*ie.size,cap-l,(us.drop (l*ie.size)).take ((b-l)*ie.size),by rw [af UW,e9],J,?_,h4,g4,(h6.drop _).take _,fun u hu=>h7 u (bw (alS hu))⟩;intro hf
            grind
     ·rename_i y;split at h
      ·grind
      ·grind
      ·rename_i b0 m D7;split at h
       ·grind
       ·rename_i b Ad;split at h
        ·grind
        ·rename_i l nh;split at h
         ·grind
         ·rename_i d hd;split at h
          ·grind
          ·rename_i d' D6;simp at h;subst h;simp only [VR] at hx;obtain⟨bb,o,cap,us,rfl,hn,G3,h4,h5,h6,h7⟩:=hx;obtain⟨e1,e2⟩:=fV (P:=P) (w:=w) (isSlice:=true) (len:=n) (cap:=cap) (m0:=n) (d:=0) (m:=m) oa yd xM ad (.inr ⟨y,rfl,D7,hn⟩) Ad ⟨ad,fun _=>rfl⟩ nh;have LB:=lF Ad;obtain⟨g1,g2,g3⟩:=h5.eL hd;obtain⟨g4,g5⟩:=g1.iA D6;refine⟨.slice (some (if m=l then⟨bb,o,none⟩ else (⟨bb,o,none⟩ : Addr).add (l*ie.size))) (b-l) (m-l),?_,?_⟩
           ·simp [Instr.sliceAt,run_underlying hu,Instr.slice,e1,ik]<;>split<;>rfl
           ·simp only [VR];by_cases UW:m=l
            ·have h0:b-l=0:=J
             refine⟨bb,o,m-l,(us.drop (l*ie.size)).take ((b-l)*ie.size),by rw [ag UW],J,fun _=>by omega,h4,g4,?_,fun u hu=>h7 u (bw (alS hu))⟩;rw [h0,alQ];intro i u hu
             grind
            ·refine⟨bb,o+l*ie.size,m-l,(us.drop (l*ie.size)).take ((b-l)*ie.size),by rw [af UW,e9],J,?_,h4,g4,(h6.drop _).take _,fun u hu=>h7 u (bw (alS hu))⟩;intro hf
             grind
    grind
  ·rename_i n e hk;have hu:=rk uN hk;split at h
   ·grind
   ·rename_i s hs;simp only [iB,aP] at hs;obtain⟨ie,kX,rfl⟩:=hs;have ik:=fun w'=>ey (cJ e ie kX) w';split at h
    ·rename_i id o;split at h
     ·grind
     ·rename_i hmh;split at h
      ·grind
      ·rename_i m D7;split at h
       ·grind
       ·rename_i b Ad;split at h
        ·grind
        ·rename_i l nh;simp at h;subst h;simp only [VR] at hx;obtain⟨rfl,hid⟩:=hx
         have hm:(mx=none/\m=n/\n<=n)\/(∃x,mx=some x/\nD mx n n=some m/\n<=n):=by
          cases mx with
          |none=>exact .inl ⟨rfl,(zR D7).1,au _⟩
          |some y=>exact .inr ⟨y,rfl,D7,au _⟩
         obtain⟨e1,e2⟩:=fV (P:=P) (w:=w) (isSlice:=false) (len:=n) (cap:=n) (m0:=n) (d:=n) (m:=m) oa yd xM (by cases mx<;>cases hi<;>simp_all) hm Ad ⟨fun _=>lF D7,fun _=>rfl⟩ nh;refine⟨.slice (some (if m=l then⟨(E.θ id).1,(E.θ id).2+o,none⟩ else (⟨(E.θ id).1,(E.θ id).2+o,none⟩ : Addr).add (l*ie.size))) (b-l) (m-l),?_,?_⟩
         ·simp [Instr.sliceAt,run_underlying hu,Instr.sureAddr,e1,ik]<;>split<;>rfl
         ·simp only [VR,eQ];refine⟨hid,_,_,rfl,by have:=lF Ad; omega,rfl,?_⟩;by_cases UW:m=l
          ·grind
          ·left; rw [af UW,e9,alP]
    grind
  grind
end
section
variable {P:Program} {E:En} {w:World}
theorem BV {h:Array Obj}: ∀{cs:List W} {us:List Value} {l:List Nat},vm cs=some l->cA E h cs us->us=(l.map UInt8.ofNat).map (fun b=>Value.int .u8 (b.toNat:Int))/\∀b∈l,b<256
 |[],us,l,U,Z=>by
  simp [vm] at U;subst U;rw [ia] at Z
  grind
 |x::cs,us,l,U,Z=>by
  rw [bT] at Z;obtain⟨u,vs,rfl,h3,h4⟩:=Z;unfold vm at U;split at U
  ·rename_i he; simp at he
  ·rename_i b xs he;simp only [List.cons.injEq] at he;obtain⟨rfl,rfl⟩:=he;split at U
   ·rename_i hb;split at U
    ·rename_i l' Y;simp at U;subst U;obtain⟨e1,e2⟩:=BV Y h4;simp only [VR,V.den] at h3;refine⟨?_,?_⟩
     ·rw [h3,e1];simp [ame,al9 hb]
     grind
    grind
   grind
  grind
theorem zC [bI] {tt:TT} (cJ:eA P tt) {H H':Hp} (r:bO E H w) {sT dT:Nat} {x v:W} {u:Value} (hx:VR E w.heap x u) (h:oV tt sT dT x H=some (v,H')) :
 ∃y w' E',(convert sT dT u).run P w= .ok y w'/\eT E H w E' H' w'/\bO E' H' w'/\VR E' w'.heap v y:=by
 unfold oV at h;split at h
 ·grind
 ·rename_i j hj;obtain⟨sd,hsd,hsk⟩:=rN (cJ sT j hj);split at h
  ·rename_i i hi;have fm:=cJ dT i hi;split at h
   ·rename_i k hk;have hd:=oF fm hk;split at h
    ·rename_i kk n;simp only [ah,ak] at h;obtain⟨rfl,rfl⟩:=h;simp only [VR] at hx;subst hx;refine⟨.int k (k.wrap n),w,E,?_,eT.refl _ _ _,r,by simp only [VR,V.den,kH]⟩;simp [convert,run_underlying hsd,run_underlying hd,Conv.intToInt,V.den]
    ·rename_i kk e gp;simp only [ah,ak] at h;obtain⟨rfl,rfl⟩:=h;simp only [VR] at hx;subst hx;refine⟨.int k (k.wrap (e.den E.ρ)),w,E,?_,eT.refl _ _ _,r,by simp only [VR,V.den]⟩;simp [convert,run_underlying hsd,run_underlying hd,Conv.intToInt]
    grind
   ·rename_i hk;have hd:=fP fm hk;split at h
    ·rename_i hjk;split at h
     ·rename_i s;simp only [ah,ak] at h;obtain⟨rfl,rfl⟩:=h;have UT:=hx;simp only [VR] at hx;obtain⟨rfl,_⟩:=hx;refine⟨_,w,E,?_,eT.refl _ _ _,r,UT⟩;simp [convert,run_underlying (fP (cJ sT j hj) hjk),run_underlying hd]
     grind
    ·rename_i e hjk;have hs:=ff (cJ sT j hj) hjk;split at h
     ·grind
     ·rename_i ie kX;split at h
      ·rename_i hu8;have he:=oF (cJ e ie kX) hu8.1;split at h
       ·simp only [ah,ak] at h;obtain⟨rfl,rfl⟩:=h;simp only [VR] at hx;subst hx;refine⟨.string .empty,w,E,?_,eT.refl _ _ _,r,?_⟩
        ·rw [run_convert_bytes_string w sT dT e none 0 0 hs he hd];rfl
        ·simp only [VR];exact⟨rfl,ad⟩
       ·rename_i id o len c;split at h
        ·rename_i cs MU;rw [aP] at h;obtain⟨l,Y,he2⟩:=h;simp only [ak] at he2;obtain⟨rfl,rfl⟩:=he2;simp only [VR] at hx;obtain⟨hid,a,cap,rfl,iR,hc⟩:=hx;obtain⟨b,o',us,e1,e2,e3,e4,e5⟩:=vI r (p:=.ptr id o) (u:=.pointer (some ⟨(E.θ id).1,(E.θ id).2+o,none⟩)) (by simp only [VR]; exact⟨trivial,hid⟩) MU;obtain⟨e6,e7⟩:=BV Y e3
         have hlen:len=(l.map UInt8.ofNat).length:=by
          grind
         have ha:a=⟨(E.θ id).1,(E.θ id).2+o,none⟩\/len=0:=by
          cases c with
          |exact c=>
           simp only [eQ] at hc
           grind
          |rest es=>
           simp only [eQ] at hc
           grind
         refine⟨.string (dh l),w,E,?_,eT.refl _ _ _,r,by simp only [VR]; exact⟨trivial,e7⟩⟩;rw [hlen];refine run_convert_bytes_back w sT dT e a cap (l.map UInt8.ofNat) hs he hd fun k hk=>?_;rcases ha with ha|ha
         ·subst ha;rw [e9,nY];simp only [Value.pointer.injEq,ah,Addr.mk.injEq] at e1;obtain⟨e1a,e1b,_⟩:=e1;rw [e1a,e1b];refine e4 k _ ?_
          grind
         ·omega
        grind
       grind
      grind
    grind
   ·rename_i e hk;have hd:=ff fm hk;split at h
    ·grind
    ·rename_i ie kX;split at h
     ·rename_i hu8;have he:=oF (cJ e ie kX) hu8.1;split at h
      ·rename_i s;simp only [ah,ak] at h;obtain⟨rfl,rfl⟩:=h;simp only [VR] at hx;obtain⟨rfl,fW⟩:=hx;have hs:=fP (cJ sT j hj) hu8.2;have ik:(dh s).size=s.length:=kR s;have T7:=grownCap_ge w (dh s).size 0 e
       have im:(bytesRow (dh s) (grownCap w (dh s).size 0 e)).size=grownCap w (dh s).size 0 e:=by have U:(dh s).data.size=s.length:=ik;simp only [bytesRow,Array.size_append,Array.size_map,Array.size_replicate,U];omega
       have hv:cA E w.heap (s.map fun c=>W.int .u8 (.lit (Int.ofNat c))) ((s.map UInt8.ofNat).map (fun b=>Value.int .u8 (b.toNat:Int))):=by
        clear T7 im ik
        induction s with
        |nil=>simp [cA]
        |cons b s ih=> have hb:=fW b ad;rw [aw,aw,aw,bT];refine⟨_,_,rfl,?_,ih fun c hc=>fW c (by simp [hc])⟩;simp [VR,V.den,ame,al9 hb]
       obtain⟨s1,s2⟩:=iQ r (bytesRow (dh s) (grownCap w (dh s).size 0 e)) (bytesRow (dh s) (grownCap w (dh s).size 0 e)).size ((bytesRow (dh s) (grownCap w (dh s).size 0 e)).size+1) e hv
        (by intro u hu; simp only [aQ] at hu; obtain⟨b,_,rfl⟩:=hu; rfl)
        (by
         intro k u hu;have hk:=(aX.1 hu).1;simp only [bo] at hk;simp only [bytesRow];rw [anI (by have U:(dh s).data.size=s.length:=ik; simp only [Array.size_map,U]; exact hk)];rw [<- hu]
         simp [dh])
        (by intro o U Z; omega)
        (w':=w.drew.alloc (.cells (bytesRow (dh s) (grownCap w (dh s).size 0 e)) e ((bytesRow (dh s) (grownCap w (dh s).size 0 e)).size,(bytesRow (dh s) (grownCap w (dh s).size 0 e)).size+1))) rfl ⟨rfl,rfl,rfl⟩
       refine⟨_,_,_,run_bytes_of_string w sT dT e (dh s) hs hd he,s1,s2,?_⟩;simp only [VR,ik];refine⟨En.gC _ _ _ _,⟨w.heap.size,0,none⟩,_,rfl,by rw [<- ik]; exact T7,?_⟩;simp only [eQ,En.ext_θ_new,En.ext_κ_new]
       grind
      grind
     grind
   grind
  grind
end
section
variable {P:Program} {E:En} {w:World}
def Cg (d:TypeDesc):TK->Prop
 | .int _=> ∃k,d= .int k
 | .string=>d= .string
 | .bool=>d= .bool
 |_=>False
theorem xH {tt:TT} (cJ:eA P tt) {t:Nat} {kk:TK} (h:vT tt t=some kk): ∃d,P.underlying t=some d/\Cg d kk:=by
 unfold vT at h;split at h
 ·rename_i i hi;split at h<;>simp only [ah,reduceCtorEq] at h<;>subst h
  ·rename_i k hk; exact⟨_,oF (cJ t i hi) hk,k,rfl⟩
  ·rename_i hk; exact⟨_,fP (cJ t i hi) hk,rfl⟩
  ·rename_i hk; exact⟨_,Kq (cJ t i hi) hk,rfl⟩
 grind
theorem WO {x y:List Nat} (hx: ∀b∈x,b<256) (hy: ∀b∈y,b<256):(dh x == dh y)=gR x y:=by
 have e:(dh x == dh y)=((dh x).data == (dh y).data):=rfl;rw [e,alZ,beq_iff_eq,l7];constructor
 ·intro h;have Z:=congrArg (fun b=>b.toList) h;simp only [dh] at Z
  grind [map_inj]
 grind
theorem Lm {h:Array Obj} {pc:List (SB×Bool)} (hp:bV E.ρ pc) {kk:TK} {d:TypeDesc} (hd:Cg d kk) {a b:W} {u u':Value} (ha:VR E h a u) (hb:VR E h b u') {c:Bool} (hc:Rb pc kk a b=some c) :
 Instr.sameNow d u u'=some c/\(c=true->∀n,Instr.sameBits (n+1) u' u=true):=by
 unfold Rb at hc;split at hc
 ·obtain⟨k,rfl⟩:=hd;split at hc
  ·simp only [VR] at ha hb;subst ha hb;split at hc
   ·rename_i hk;subst hk;have hc:=gD hp hc;rw [gH] at hc;subst hc;refine⟨by simp [Instr.sameNow],fun hh n=>?_⟩;simp at hh;simp [Instr.sameBits,hh]
   grind
  grind
 ·simp only [Cg] at hd;subst hd;split at hc
  ·simp only [VR] at ha hb;obtain⟨rfl,ha⟩:=ha;obtain⟨rfl,hb⟩:=hb;simp at hc;subst hc;have he:=WO ha hb;refine⟨by simp only [Instr.sameNow,he],fun hh n=>?_⟩;simp only [Instr.sameBits]
   grind [l7]
  ·split at hc
   ·rename_i c0 h0;obtain⟨x,y,rfl,rfl,hd⟩:=Dc ha hb h0;have hc:=gD hp hc;rw [hd] at hc
    have hbe: ∀p q:ByteArray,(p == q)=decide (p=q):=by
     intro p q;rw [alZ,decide_eq_true_eq];have e:(p == q)=(p.data == q.data):=rfl;rw [e,beq_iff_eq];constructor
     ·intro h; cases p; cases q; simp only at h; rw [h]
     grind
    refine⟨by simp only [Instr.sameNow,hbe,hc],fun hh n=>?_⟩;simp only [Instr.sameBits,hbe]
    grind
   grind
 ·simp only [Cg] at hd;subst hd;split at hc
  ·simp only [VR,SB.den] at ha hb;subst ha hb;simp at hc;subst hc;refine⟨by simp [Instr.sameNow],fun hh n=>?_⟩;simp at hh;simp [Instr.sameBits,hh]
  grind
 grind
theorem eG {t:Nat} {kk:TK} {d:TypeDesc} (hu:P.underlying t=some d) (hd:Cg d kk) (b:Bool) (v:Value):(Instr.checkKey b 10000 t v).run P w= .ok () w:=by
 have h0:(10000:Nat)=9999+1:=rfl;rw [h0];generalize (9999:Nat)=n;cases kk<;>simp only [Cg] at hd
 ·subst hd; simp [Instr.checkKey,run_underlying hu]
 ·obtain⟨k,rfl⟩:=hd; simp [Instr.checkKey,run_underlying hu]
 ·subst hd; simp [Instr.checkKey,run_underlying hu]
theorem pG {h:Array Obj} {pc:List (SB×Bool)} (hp:bV E.ρ pc) {kk:TK} {d:TypeDesc} (hd:Cg d kk) {k:W} {u:Value} (hk:VR E h k u): ∀{es:List (W×W×Nat)} {bK:List MapEntry} {i:Nat} {res:Option (Nat×W)},
 eI E h es bK->BL pc kk k es i=some res->
 (res=none/\Instr.findNow d u bK i=some none)\/
 (∃j v e,res=some (i+j,v)/\bK[j]?=some e/\VR E h v e.val/\Instr.findNow d u bK i=some (some (i+j,e.val))/\∀n,Instr.sameBits (n+1) e.key u=true)
 |[],bK,i,res,he,hf=>by simp only [eI] at he;subst he;simp [BL] at hf;exact .inl ⟨hf.symm,by simp [Instr.findNow]⟩
 |(k',v,b)::es,bK,i,res,he,hf=>by
  simp only [eI] at he;obtain⟨e,r,rfl,U,Z,h3,h4⟩:=he;simp only [BL] at hf;split at hf
  ·rename_i hc;simp at hf;subst hf;obtain⟨g1,g2⟩:=Lm hp hd hk U hc;exact .inr ⟨0,v,e,rfl,rfl,Z,by simp [Instr.findNow,g1],g2 rfl⟩
  ·rename_i hc;obtain⟨g1,g2⟩:=Lm hp hd hk U hc;rcases pG hp hd hk h4 hf with ⟨q1,q2⟩|⟨j,v',e',q1,q2,q3,q4,q5⟩
   ·exact .inl ⟨q1,by simp [Instr.findNow,g1,q2]⟩
   ·refine .inr ⟨j+1,v',e',?_,by simpa using q2,q3,?_,q5⟩
    ·grind
    ·simp only [Instr.findNow,g1,q4]; congr 3; omega
  grind
theorem fB {t:Nat} {d:TypeDesc} (hu:P.underlying t=some d) {u:Value} {bK:List MapEntry} {r:Option (Nat×Value)} (h:Instr.findNow d u bK 0=some r):(Instr.findKey t u bK).run P w= .ok r w:=by simp [Instr.findKey,run_underlying hu,h]
theorem eF {r:Nat} {o:Obj} (h:w.heap[r]?=some o) (hn: ∀c e f,o≠.cells c e f):(getObj r).run P w= .ok o w:=by
 unfold getObj;cases o<;>first |exact absurd rfl (hn _ _ _)|simp only [Sem.run,h]
theorem gA {r:Nat} {o o':Obj} (h:w.heap[r]?=some o) (hn: ∀c e f,o≠.cells c e f):(setObj r o').run P w= .ok () { w with heap:=w.heap.setIfInBounds r o' }:=by
 unfold setObj;cases o<;>first |exact absurd rfl (hn _ _ _)|simp only [Sem.run,h]
theorem gv [bI] {H:Hp} (r:bO E H w) {id:Nat} {o:dM} (Y:H.get id=some o) (ao:dM) (o':Obj)
 (ho: ∀h',h'[(E.θ id).1]?=some o'->fC E w.heap E h'->OR E h' id ao) :
 eT E H w E (H.put id ao) { w with heap:=w.heap.setIfInBounds (E.θ id).1 o' }/\bO E (H.put id ao) { w with heap:=w.heap.setIfInBounds (E.θ id).1 o' }:=by
 have fW:=gf r Y
 have lD: ∀b,b≠(E.θ id).1->({ w with heap:=w.heap.setIfInBounds (E.θ id).1 o' }:World).heap[b]?=w.heap[b]?:=fun b hb=>by
  grind
 refine Du r Y ao ad lD ⟨rfl,rfl,rfl⟩ (ho _ ?_ (kz r Y lD))
 grind
theorem SO.yn {k v:W}: ∀(es:List (W×W×Nat)) (i:Nat),(mE k v es i).map (·.2.2)=es.map (·.2.2)
 |[],_=>rfl
 |_::_,0=>rfl
 |_::es,i+1=>by simp only [mE,aw,SO.yn es i]
theorem SO.Hu: ∀(es:List (W×W×Nat)) (i:Nat),(jH es i).map (·.2.2)=(es.map (·.2.2)).eraseIdx i
 |[],_=>by simp [jH]
 |_::_,0=>by simp [jH]
 |_::es,i+1=>by simp only [jH,aw,am1,SO.Hu es i]
theorem zF {α β:Type} (f:α->β): ∀(l:List α) (i:Nat),(l.eraseIdx i).map f=(l.map f).eraseIdx i
 |[],_=>by simp
 |_::_,0=>by simp
 |_::l,i+1=>by simp [zF f l i]
theorem SO.erase {c c':Nat} {es:List (W×W×Nat)} {l:List MapEntry} {i:Nat} (h:SO c es l c'):SO c (jH es i) (l.eraseIdx i) c':=by
 cases c with
 |zero=>trivial
 |succ c=>exact⟨h.1,by rw [SO.Hu,zF,h.2]⟩
theorem SO.set {k v:W} {f:MapEntry->MapEntry} (hf: ∀e,(f e).born=e.born) {c c':Nat} {es:List (W×W×Nat)} {bK:Array MapEntry} {i:Nat} (h:SO c es bK.toList c'):SO c (mE k v es i) (bK.modify i f).toList c':=by
 cases c with
 |zero=>trivial
 |succ c=>
  refine⟨h.1,?_⟩;rw [SO.yn,<- h.2];apply amL;intro j;simp only [bg,alM,ang];split
  ·cases bK[j]?<;>simp [hf]
  ·rfl
theorem eI.length {h:Array Obj}: ∀{es:List (W×W×Nat)} {bK:List MapEntry},eI E h es bK->bK.length=es.length
 |[],bK,he=>by simp only [eI] at he; simp [he]
 |(k,v,b)::es,bK,he=>by simp only [eI] at he;obtain⟨e,r,rfl,_,_,_,h4⟩:=he;simp [h4.length]
theorem eI.set {h:Array Obj} {k v:W} {uk uv:Value} (hk:VR E h k uk) (hv:VR E h v uv): ∀{es:List (W×W×Nat)} {bK:List MapEntry} {i:Nat} {e:MapEntry},eI E h es bK->bK[i]?=some e->
 eI E h (mE k v es i) (bK.set i { e with key:=uk,val:=uv })
 |[],bK,i,e,he,hi=>by simp only [eI] at he; subst he; simp at hi
 |(k',v',b)::es,bK,0,e,he,hi=>by
  simp only [eI] at he;obtain⟨e0,r,rfl,U,Z,h3,h4⟩:=he;simp at hi;subst hi;simp only [mE,amx,eI]
  grind
 |(k',v',b)::es,bK,i+1,e,he,hi=>by simp only [eI] at he;obtain⟨e0,r,rfl,U,Z,h3,h4⟩:=he;simp only [mE,amy,eI];exact⟨e0,_,rfl,U,Z,h3,eI.set hk hv h4 (by simpa using hi)⟩
theorem eI.push {h:Array Obj} {k v:W} {uk uv:Value} {c c':Nat} (hk:VR E h k uk) (hv:VR E h v uv): ∀{es:List (W×W×Nat)} {bK:List MapEntry},eI E h es bK->
 eI E h (es++ [(k,v,c)]) (bK++ [{ key:=uk,val:=uv,born:=c' }])
 |[],bK,he=>by
  simp only [eI] at he;subst he;simp only [aC,eI]
  grind
 |(k',v',b)::es,bK,he=>by simp only [eI] at he;obtain⟨e0,r,rfl,U,Z,h3,h4⟩:=he;simp only [aO,eI];exact⟨e0,_,rfl,U,Z,h3,eI.push hk hv h4⟩
theorem eI.erase {h:Array Obj}: ∀{es:List (W×W×Nat)} {bK:List MapEntry} {i:Nat},eI E h es bK->eI E h (jH es i) (bK.eraseIdx i)
 |[],bK,i,he=>by simp only [eI] at he; subst he; simp [jH,eI]
 |(k',v',b)::es,bK,0,he=>by
  simp only [eI] at he;obtain⟨e0,r,rfl,U,Z,h3,h4⟩:=he
  grind [jH]
 |(k',v',b)::es,bK,i+1,he=>by simp only [eI] at he;obtain⟨e0,r,rfl,U,Z,h3,h4⟩:=he;simp only [jH,am1,eI];exact⟨e0,_,rfl,U,Z,h3,eI.erase h4⟩
theorem Ag {t:Nat} {i:TI} (fm:mw P t i) {z:W} (h:zeroOf i=some z): ∃u,(zeroValue t).run P w= .ok u w/\VR E w.heap z u:=by
 obtain⟨inf,d,zv,U,Z,h3,h4,h5,h6,h7,h8⟩:=fm.all;have hz:=eU (E:=E) (h:=w.heap) h4;have hr:(zeroValue t).run P w= .ok zv w:=by simp [zeroValue,typeInfo,U,h3]
 refine⟨zv,hr,?_⟩;unfold zeroOf at h;split at h
 ·rename_i ha;simp at h;subst h;rw [ha] at h8;cases zv<;>simp only [IT,reduceCtorEq] at h8;rename_i cs;simp only [VR];exact⟨cs.toList,ad,hz.1⟩
 ·rename_i ha;split at h
  ·rename_i v hv;simp at h;subst h;rw [hv] at hz;obtain⟨u,vs,e1,e2,e3⟩:=bT.1 hz.1;rw [ia] at e3;subst e3;rw [ha] at h8;have:zv=u:=by cases zv<;>simp_all [IT,Value.cells]
   grind
  grind
end
theorem Ao (ρ:Nat->Int) (x:V):(yo x).den ρ=(dec (x.den ρ)).n:=by
 unfold yo;split
 ·split
  ·simp only [V.den,fu.den,bB,D.n]
  ·simp only [V.den,fu.den]
 ·split
  ·simp only [V.den,bB,D.n]
  ·simp only [V.den,fu.den]
 ·simp only [V.den,fu.den]
theorem lI (ρ:Nat->Int) (x:V):(mW x).den ρ=enc (.i (x.den ρ)):=by unfold mW;split<;>simp only [V.den,fu.den]
theorem yY (a b:D):(D.p a b).hd 0=a:=by simp [D.hd,D.l]
theorem yZ (a b:D) (j:Nat):(D.p a b).hd (j+1)=b.hd j:=by simp [D.hd,D.l]
theorem pf (ρ:Nat->Int): ∀(j:Nat) (x:V),dec ((iO j x).den ρ)=(dec (x.den ρ)).hd j
 |j,.op o a b=>by
  unfold iO
  cases o with
  |cons=>
   cases j with
   |zero=>simp only [V.den,fu.den,bB,yY]
   |succ j=>simp only [pf ρ j b,V.den,fu.den,bB,yZ]
  |_=>simp only [V.den,fu.den,bB]
 |j,.lit n=>by simp only [iO,V.den,fu.den,bB]
 |j,.dD n=>by simp only [iO,V.den,fu.den,bB]
 |j,.add _ _=>by simp only [iO,V.den,fu.den,bB]
 |j,.sub _ _=>by simp only [iO,V.den,fu.den,bB]
 |j,.mul _ _=>by simp only [iO,V.den,fu.den,bB]
 |j,.quo _ _=>by simp only [iO,V.den,fu.den,bB]
 |j,.rem _ _=>by simp only [iO,V.den,fu.den,bB]
 |j,.wrap _ _=>by simp only [iO,V.den,fu.den,bB]
 |j,.wI _ _=>by simp only [iO,V.den,fu.den,bB]
 |j,.ep _=>by simp only [iO,V.den,fu.den,bB]
 |j,.ap _ _=>by simp only [iO,V.den,fu.den,bB]
theorem cE (ρ:Nat->Int): ∀x:V,(dR x).den ρ=((dec (x.den ρ)).l.length:Int)
 | .op o a b=>by
   unfold dR
   cases o with
   |set=>
    simp only [cE ρ a,V.den,fu.den];split
    ·simp only [bB,bJ,fQ]
    ·rfl
   |_=>simp only [V.den,fu.den]
 | .lit n=>by simp only [dR,V.den,fu.den]
 | .dD n=>by simp only [dR,V.den,fu.den]
 | .add _ _=>by simp only [dR,V.den,fu.den]
 | .sub _ _=>by simp only [dR,V.den,fu.den]
 | .mul _ _=>by simp only [dR,V.den,fu.den]
 | .quo _ _=>by simp only [dR,V.den,fu.den]
 | .rem _ _=>by simp only [dR,V.den,fu.den]
 | .wrap _ _=>by simp only [dR,V.den,fu.den]
 | .wI _ _=>by simp only [dR,V.den,fu.den]
 | .ep d=>by simp only [dR,V.den,bB]; rfl
 | .ap _ _=>by simp only [dR,V.den,fu.den]
theorem Rd.slice {ro:Nat->Prop} {h:Array Obj} {t:Nat} {d:D} {v:Value} (r:Rd ro h (.sl t) d v): ∃x cap,v= .slice x d.l.length cap/\d.l.length<=cap:=by
 generalize hc:CK.sl t=c at r
 cases r with
 |int k n=>simp at hc
 |bool b=>simp at hc
 |str s=>simp at hc
 |nil t=>exact⟨none,0,rfl,by simp [D.l]⟩
 |vO t a cap=>exact⟨some a,cap,rfl,by simp [D.l]⟩
 |one t c b o cap ds f hr eJ hb U Z=>exact⟨_,cap,by rw [bJ],by rw [bJ]; exact eJ⟩
 |many t cs b o cap rows f hr eJ hb Y U Z=>exact⟨some ⟨b,o,none⟩,cap,ad,by simpa using eJ⟩
theorem Rd.string {ro:Nat->Prop} {h:Array Obj} {d:D} {v:Value} (r:Rd ro h .str d v): ∃s,v= .string s/\d=tq s:=by
 cases r with
 |str s=>exact⟨s,rfl,rfl⟩
def jh (ro:Nat->Prop) (h:Array Obj) (c:CK) (d:D) (u:Value):Prop:=match c with
 | .int k=>u= .int k d.n
 | .bool=>u= .bool (!(d.n == 0))
 |c=>Rd ro h c d u
theorem nt {E:En} {h:Array Obj} {c:CK} {x:V} {u:Value}:VR E h (vk c x) u↔jh E.ro h c (dec (x.den E.ρ)) u:=by cases c<;>simp only [vk,jh,VR,SB.den,Ao,V.den]
theorem Rd.cell {ro:Nat->Prop} {h:Array Obj} {c:CK} {d:D} {u:Value} (r:Rd ro h c d u):jh ro h c d u:=by
 cases r with
 |int k n=>simp [jh,D.n]
 |bool b=>cases b<;>simp [jh,D.n]
 |str s=>exact .str s
 |nil t=>exact .nil t
 |vO t a cap=>exact .vO t a cap
 |one t c b o cap ds f hr hc hb U Z=>exact .one t c b o cap ds f hr hc hb U Z
 |many t cs b o cap rows f hr hc hb Y U Z=>exact .many t cs b o cap rows f hr hc hb Y U Z
theorem jh.one {ro:Nat->Prop} {h:Array Obj} {c:CK} {d:D} {u:Value} (r:jh ro h c d u):u.oneCell'=true:=by
 cases c with
 |int k=>simp only [jh] at r; subst r; rfl
 |bool=>simp only [jh] at r; subst r; rfl
 |str=>exact Rd.U' r
 |sl t=>exact Rd.U' r
def dV (ro:Nat->Prop) (h:Array Obj):List CK->Nat->D->List Value->Prop
 |[],_,_,us=>us= []
 |c::cs,j,d,us=> ∃u vs,us=u::vs/\jh ro h c (d.hd j) u/\dV ro h cs (j+1) d vs
def wO (ro:Nat->Prop) (h:Array Obj) (r:Row) (d:D) (us:List Value):Prop:=match r with
 | .one c=> ∃u,us= [u]/\jh ro h c d u
 | .many cs=>dV ro h cs 0 d us
theorem nC {E:En} {h:Array Obj} {x:V}: ∀{cs:List CK} {j:Nat} {us:List Value},cA E h (iz cs j x) us↔dV E.ro h cs j (dec (x.den E.ρ)) us
 |[],j,us=>by simp only [iz,cA,dV]
 |c::cs,j,us=>by
  simp only [iz,bT,dV];constructor
  ·rintro⟨u,vs,rfl,U,Z⟩;exact⟨u,vs,rfl,by rw [nt,pf] at U; exact U,nC.1 Z⟩
  ·rintro⟨u,vs,rfl,U,Z⟩;exact⟨u,vs,rfl,by rw [nt,pf]; exact U,nC.2 Z⟩
theorem gm {E:En} {h:Array Obj} {r:Row} {x:V} {us:List Value}:cA E h (gL r x) us↔wO E.ro h r (dec (x.den E.ρ)) us:=by
 cases r with
 |one c=>
  simp only [gL,bT,ia,wO];constructor
  ·rintro⟨u,vs,rfl,U,rfl⟩
   grind [nt]
  grind [nt]
 |many cs=>simp only [gL,wO,nC]
theorem r8 (x:V): ∀(cs:List CK) (j:Nat),(iz cs j x).length=cs.length
 |[],_=>rfl
 |_::cs,j=>by simp [iz,r8 x cs]
theorem gX (r:Row) (x:V):(gL r x).length=r.es:=by cases r<;>simp [gL,Row.es,r8]
theorem dV.rH {ro:Nat->Prop} {h:Array Obj} {d:D}: ∀{cs:List CK} {j:Nat} {us:List Value},dV ro h cs j d us->∀u∈us,u.oneCell'=true
 |[],_,_,hh,u,hu=>by simp only [dV] at hh; subst hh; simp at hu
 |c::cs,j,us,hh,u,hu=>by
  simp only [dV] at hh;obtain⟨x,vs,rfl,U,Z⟩:=hh;rcases ay.1 hu with rfl|hu
  ·exact U.one
  ·exact Z.rH u hu
theorem wO.rH {ro:Nat->Prop} {h:Array Obj} {r:Row} {d:D} {us:List Value} (hh:wO ro h r d us): ∀u∈us,u.oneCell'=true:=by
 cases r with
 |one c=> obtain⟨u,rfl,U⟩:=hh;intro x hx;simp at hx;subst hx;exact U.one
 |many cs=>exact dV.rH hh
theorem cA.split {E:En} {h:Array Obj}: ∀{xs ys:List W} {us:List Value},cA E h (xs++ys) us->∃a b,us=a++b/\cA E h xs a/\cA E h ys b
 |[],ys,us,hh=> ⟨[],us,rfl,by simp only [cA],hh⟩
 |x::xs,ys,us,hh=>by rw [aO,bT] at hh;obtain⟨u,vs,rfl,U,Z⟩:=hh;obtain⟨a,b,rfl,h3,h4⟩:=Z.split;exact⟨u::a,b,rfl,by rw [bT]; exact⟨u,a,rfl,U,h3⟩,h4⟩
theorem kT {ρ:Nat->Int} {i:Nat} {cs:List W}: ∀{ov:List (V×List W)},ed ρ i ov=some cs->∃p∈ov,p.2=cs/\p.1.den ρ=(i:Int)
 |[],h=>by simp [ed] at h
 |(j,c)::l,h=>by
  simp only [ed] at h;split at h
  ·rename_i hj;simp only [ah] at h;exact⟨(j,c),ad,h,hj⟩
  ·obtain⟨p,U,Z⟩:=kT h
   grind
theorem cF {ρ:Nat->Int} {r:Row} {ov:List (V×List W)} (ho:sM r ov): ∀(ds:List D) (i:Nat),(bE ρ r ov ds i).length=ds.length*r.es
 |[],i=>by simp [bE]
 |d::ds,i=>by
  simp only [bE,aZ,cF ho ds (i+1),aM,alX,amv];split
  ·rename_i cs h;obtain⟨p,U,Z,_⟩:=kT h;rw [<- Z,ho p U]; omega
  grind [gX]
theorem lT {ρ:Nat->Int} {r:Row} {ov:List (V×List W)}: ∀(xs ys:List D) (i:Nat),bE ρ r ov (xs++ys) i=bE ρ r ov xs i++bE ρ r ov ys (i+xs.length)
 |[],ys,i=>by simp [bE]
 |d::ds,ys,i=>by
  simp only [aO,bE,lT ds ys (i+1),amf,aM]
  grind
section
variable {P:Program} {E:En} {w:World}
theorem yJ [bI] {H:Hp} (r:bO E H w) {id c:Nat} {es:List (W×W×Nat)} (Y:H.get id=some (.map es c)): ∃bK c',w.heap[(E.θ id).1]?=some (.map bK c')/\eI E w.heap es bK.toList/\SO c es bK.toList c':=
 (r.live id _ Y).2.1
theorem L0 [bI] {tt:TT} (cJ:eA P tt) {pc:List (SB×Bool)} (hp:bV E.ρ pc) {H:Hp} (r:bO E H w) {t:Nat} {m k v:W} {um uk:Value} {ok:Bool} (hm:VR E w.heap m um) (hk:VR E w.heap k uk) (h:Ey tt pc t m k ok H=some v) :
 ∃x,(Instr.lookup t um uk ok).run P w= .ok x w/\VR E w.heap v x:=by
 unfold Ey at h;split at h
 ·rename_i ti fm;split at h
  ·rename_i kt et yW;have hu:=sB (cJ t ti fm) yW;split at h
   ·grind
   ·rename_i kk sZ;obtain⟨d,xO,kc⟩:=xH cJ sZ;split at h
    ·grind
    ·rename_i ie kX
     have key: ∀(es:List (W×W×Nat)) (bK:Array MapEntry),eI E w.heap es bK.toList->
      (match BL pc kk k es 0 with
       |none=>none
       |some (some (_,v))=>some (if ok then .tuple [v,.bool (.lit true)] else v)
       |some none=>match zeroOf ie with
        |none=>none
        |some z=>some (if ok then .tuple [z,.bool (.lit false)] else z))=some v->
      ∃(o:Option (Nat×Value)) (x:Value),(Instr.findKey kt uk bK.toList).run P w= .ok o w/\
       (match o with
        |some (_,y)=>x=(if ok then .tuple #[y,.bool true] else y)
        |none=> ∃z,(zeroValue et).run P w= .ok z w/\x=(if ok then .tuple #[z,.bool false] else z))/\VR E w.heap v x:=by
      intro es bK he hh;split at hh
      ·simp at hh
      ·rename_i j v' hf;simp at hh;subst hh;rcases pG hp kc hk he hf with ⟨q1,_⟩|⟨jj,v2,e,q1,q2,q3,q4,q5⟩
       ·simp at q1
       ·simp only [ah,ak] at q1;obtain⟨rfl,rfl⟩:=q1;refine⟨_,_,fB xO q4,rfl,?_⟩;cases ok
        ·exact q3
        ·simp only [if_true,VR,cA];exact⟨[e.val,.bool true],rfl,_,_,rfl,q3,_,_,rfl,by simp [SB.den],rfl⟩
      ·rename_i hf;split at hh
       ·simp at hh
       ·rename_i z hz;simp at hh;subst hh;obtain⟨u,e1,e2⟩:=Ag (P:=P) (w:=w) (E:=E) (cJ et ie kX) hz;rcases pG hp kc hk he hf with ⟨_,q2⟩|⟨jj,v2,e,q1,_⟩
        ·refine⟨none,_,fB xO q2,⟨u,e1,rfl⟩,?_⟩;cases ok
         ·exact e2
         ·simp only [if_true,VR,cA];exact⟨[u,.bool false],rfl,_,_,rfl,e2,_,_,rfl,by simp [SB.den],rfl⟩
        ·simp at q1
     split at h
     ·grind
     ·rename_i es lE;unfold IF at lE;split at lE
      ·simp at lE;subst lE;simp only [VR] at hm;subst hm;obtain⟨o,x,e1,e2,e3⟩:=key [] #[] (by simp [eI]) h;refine⟨x,?_,e3⟩
       cases o with
       |none=> obtain⟨z,e4,rfl⟩:=e2;cases ok<;>simp [Instr.lookup,run_underlying hu,eG xO kc,e1,e4]
       |some p=> obtain⟨j,y⟩:=p;simp only at e2;subst e2;cases ok<;>simp [Instr.lookup,run_underlying hu,eG xO kc,e1]
      ·rename_i id;split at lE
       ·rename_i es' c Y;simp at lE;subst lE;simp only [VR] at hm;obtain⟨rfl,hid⟩:=hm;obtain⟨bK,c',g1,g2,gS⟩:=yJ r Y;have hg:=eF (P:=P) g1 ad;obtain⟨o,x,e1,e2,e3⟩:=key es' bK g2 h;refine⟨x,?_,e3⟩
        cases o with
        |none=> obtain⟨z,e4,rfl⟩:=e2;cases ok<;>simp [Instr.lookup,run_underlying hu,hg,eG xO kc,e1,e4]
        |some p=> obtain⟨j,y⟩:=p;simp only at e2;subst e2;cases ok<;>simp [Instr.lookup,run_underlying hu,hg,eG xO kc,e1]
       grind
      grind
  grind
 grind
theorem xC {α:Type} (bK:Array α) (i:Nat) (e:α) (f:α->α) (h:bK.toList[i]?=some e):(bK.modify i f).toList=bK.toList.set i (f e):=by
 apply amL;intro j
 grind
theorem va [bI] {tt:TT} (cJ:eA P tt) {pc:List (SB×Bool)} (hp:bV E.ρ pc) {H H':Hp} (r:bO E H w) {t:Nat} {m k v:W} {um uk uv:Value} (hm:VR E w.heap m um) (hk:VR E w.heap k uk) (hv:VR E w.heap v uv) (h:qB tt pc t m k v H=some H') :
 ∃w',(Instr.mapUpdate t um uk uv).run P w= .ok () w'/\eT E H w E H' w'/\bO E H' w':=by
 unfold qB at h;split at h
 ·rename_i ti fm;split at h
  ·rename_i kt et yW;have hu:=sB (cJ t ti fm) yW;split at h
   ·grind
   ·rename_i kk sZ;obtain⟨d,xO,kc⟩:=xH cJ sZ;split at h
    ·rename_i id;split at h
     ·rename_i es c Y;simp only [VR] at hm;obtain⟨rfl,hid⟩:=hm;obtain⟨bK,c',g1,g2,gS⟩:=yJ r Y;have hg:=eF (P:=P) g1 ad;split at h
      ·grind
      ·rename_i i v' hf;simp at h;subst h;rcases pG hp kc hk g2 hf with ⟨q1,_⟩|⟨jj,v2,e,q1,q2,q3,q4,q5⟩
       ·grind
       ·simp only [ah,ak,aA] at q1;obtain⟨rfl,rfl⟩:=q1;simp only [aA] at q4
        have hkt:(Instr.keyThatStays (((bK[i]?).map (·.key)).getD uk) uk).run P w= .ok uk w:=by rw [alM] at q2;simp only [q2,alN,ax,Instr.keyThatStays];simp_all
        refine⟨_,?_,gv r Y (.map (mE k v es i) c) (.map (bK.modify i fun e=>{ e with key:=uk,val:=uv }) c') ?_⟩
        ·simp [Instr.mapUpdate,run_underlying hu,hg,eG xO kc,fB xO q4,hkt,gA (P:=P) g1]
        ·intro h' hh kp;simp only [OR];refine⟨_,_,hh,?_,gS.set (f:=fun e=>{ e with key:=uk,val:=uv }) fun _=>rfl⟩
         grind [xC,eI.set,VR.cf,eI.cf]
      ·rename_i hf;simp at h;subst h;rcases pG hp kc hk g2 hf with ⟨_,q2⟩|⟨jj,v2,e,q1,_⟩
       ·cases c with
        |zero=>
         refine⟨_,?_,gv r Y (.map (es++ [(k,v,0)]) 0) (.map (bK.push { key:=uk,val:=uv,born:=c' }) (c'+1)) ?_⟩
         ·simp [Instr.mapUpdate,run_underlying hu,hg,eG xO kc,fB xO q2,gA (P:=P) g1]
         ·intro h' hh kp;simp only [OR];refine⟨_,_,hh,?_,trivial⟩
          grind [eI.push,VR.cf,eI.cf]
        |succ c=>
         refine⟨_,?_,gv r Y (.map (es++ [(k,v,c)]) (c+2)) (.map (bK.push { key:=uk,val:=uv,born:=c' }) (c'+1)) ?_⟩
         ·simp [Instr.mapUpdate,run_underlying hu,hg,eG xO kc,fB xO q2,gA (P:=P) g1]
         ·intro h' hh kp;simp only [OR];refine⟨_,_,hh,?_,by rw [gS.1],?_⟩
          ·grind [eI.push,VR.cf,eI.cf]
          ·simp [gS.2,gS.1]
       grind
     grind
    grind
  grind
 grind
theorem L1 [bI] {tt:TT} (cJ:eA P tt) {pc:List (SB×Bool)} (hp:bV E.ρ pc) {H H':Hp} (r:bO E H w) {t:Nat} {ts:Nat} {m k:W} {um uk:Value} (hm:VR E w.heap m um) (hk:VR E w.heap k uk) (h:EB tt pc t m k H=some H') (ty:Nat) :
 ∃w',(Builtin.delete_ #[t,ts] ty #[um,uk]).run P w= .ok (.tuple #[]) w'/\eT E H w E H' w'/\bO E H' w':=by
 unfold EB at h;split at h
 ·rename_i ti fm;split at h
  ·rename_i kt et yW;have hu:=sB (cJ t ti fm) yW;split at h
   ·grind
   ·rename_i kk sZ;obtain⟨d,xO,kc⟩:=xH cJ sZ;split at h
    ·simp at h;subst h;simp only [VR] at hm;subst hm;exact⟨w,by simp [Builtin.delete_,run_underlying hu,eG xO kc],eT.refl _ _ _,r⟩
    ·rename_i id;split at h
     ·rename_i es c Y;simp only [VR] at hm;obtain⟨rfl,hid⟩:=hm;obtain⟨bK,c',g1,g2,gS⟩:=yJ r Y;have hg:=eF (P:=P) g1 ad;split at h
      ·grind
      ·rename_i i v' hf;simp at h;subst h;rcases pG hp kc hk g2 hf with ⟨q1,_⟩|⟨jj,v2,e,q1,q2,q3,q4,q5⟩
       ·grind
       ·simp only [ah,ak,aA] at q1;obtain⟨rfl,rfl⟩:=q1;simp only [aA] at q4;refine⟨_,?_,gv r Y (.map (jH es i) c) (.map (bK.eraseIdxIfInBounds i) c') ?_⟩
        ·simp [Builtin.delete_,run_underlying hu,hg,eG xO kc,fB xO q4,gA (P:=P) g1]
        ·intro h' hh kp;simp only [OR];refine⟨_,_,hh,?_⟩;have gS2:=gS.erase (i:=i);have dS:i<bK.size:=by have:=(aX.1 q2).1; simpa using this
         have:(bK.eraseIdxIfInBounds i).toList=bK.toList.eraseIdx i:=by simp_all
         rw [this];exact⟨eI.erase (eI.cf kp _ _ g2),gS2⟩
      ·rename_i hf;simp at h;subst h;rcases pG hp kc hk g2 hf with ⟨_,q2⟩|⟨jj,v2,e,q1,_⟩
       ·refine⟨_,?_,gv r Y (.map es c) (.map bK c') ?_⟩
        ·simp [Builtin.delete_,run_underlying hu,hg,eG xO kc,fB xO q2,gA (P:=P) g1]
        ·intro h' hh kp;simp only [OR];exact⟨_,_,hh,eI.cf kp _ _ g2,gS⟩
       grind
     grind
    grind
  grind
 grind
theorem YJ [bI] {tt:TT} (cJ:eA P tt) {H:Hp} (r:bO E H w) {t ty:Nat} {x v:W} {u:Value} (hx:VR E w.heap x u) (h:YK tt t x H=some v) :
 ∃y,(Builtin.len_ #[t] ty #[u]).run P w= .ok y w/\VR E w.heap v y:=by
 unfold YK at h;simp only at h;split at h
 ·rename_i ti fm;have uN:=cJ t ti fm;split at h
  ·rename_i hk;split at h
   ·rename_i s;simp at h;subst h;simp only [VR] at hx;obtain⟨rfl,_⟩:=hx;exact⟨_,by simp [Builtin.len_,run_underlying (fP uN hk)]; rfl,by simp [VR,V.den,goInt,kR]⟩
   ·simp at h; subst h; simp only [VR] at hx;obtain⟨s,rfl,hs⟩:=hx.string;exact⟨_,by simp [Builtin.len_,run_underlying (fP uN hk)]; rfl,by simp only [VR,cE,hs,Z3]; rfl⟩
   grind
  ·rename_i e hk;have hu:=ff uN hk;split at h
   ·simp at h; subst h; simp only [VR] at hx; subst hx;exact⟨_,by simp [Builtin.len_,run_underlying hu]; rfl,by simp [VR,V.den,goInt]⟩
   ·simp at h; subst h; simp only [VR] at hx; obtain⟨x,rfl⟩:=hx;exact⟨_,by simp [Builtin.len_,run_underlying hu]; rfl,by simp [VR,V.den,goInt]⟩
   ·simp at h; subst h; simp only [VR] at hx; obtain⟨⟨x,rfl⟩,_⟩:=hx;exact⟨_,by simp [Builtin.len_,run_underlying hu]; rfl,by simp [VR,V.den,goInt]⟩
   ·simp at h; subst h; simp only [VR] at hx; obtain⟨_,a,cap,rfl,_⟩:=hx;exact⟨_,by simp [Builtin.len_,run_underlying hu]; rfl,by simp [VR,V.den,goInt]⟩
   ·simp at h; subst h; simp only [VR] at hx; obtain⟨b,o,cap,us,rfl,_⟩:=hx;exact⟨_,by simp [Builtin.len_,run_underlying hu]; rfl,by simp [VR,V.den,goInt]⟩
   ·simp at h; subst h; simp only [VR] at hx; obtain⟨x,cap,rfl,_⟩:=hx.slice;exact⟨_,by simp [Builtin.len_,run_underlying hu]; rfl,by simp [VR,cE,goInt]⟩
   ·simp at h; subst h; simp only [VR] at hx; obtain⟨_,k,a,cap,h0,rfl,_⟩:=hx;exact⟨_,by simp [Builtin.len_,run_underlying hu]; rfl,by simp [VR,h0,goInt]⟩
   ·simp at h; subst h; simp only [VR] at hx; obtain⟨_,l,k,a,cap,_,h0,rfl,_⟩:=hx;exact⟨_,by simp [Builtin.len_,run_underlying hu]; rfl,by simp [VR,h0,goInt]⟩
   ·simp at h; subst h; simp only [VR] at hx;rcases hx with ⟨⟨x,cap,rfl⟩,h0⟩|⟨b,o,n,cap,rfl,_,h0,_⟩
    ·exact⟨_,by simp [Builtin.len_,run_underlying hu]; rfl,by simp [VR,V.den,goInt,h0]⟩
    ·exact⟨_,by simp [Builtin.len_,run_underlying hu]; rfl,by simp [VR,V.den,goInt,h0]⟩
   grind
  ·rename_i k e hk;have hu:=rk uN hk;simp at h;subst h;exact⟨_,by simp [Builtin.len_,run_underlying hu]; rfl,by simp [VR,V.den,goInt]⟩
  ·rename_i kt et hk;have hu:=sB uN hk;split at h
   ·simp at h; subst h; simp only [VR] at hx; subst hx;exact⟨_,by simp [Builtin.len_,run_underlying hu]; rfl,by simp [VR,V.den,goInt]⟩
   ·rename_i id;split at h
    ·rename_i es c Y;simp at h;subst h;simp only [VR] at hx;obtain⟨rfl,hid⟩:=hx;obtain⟨bK,c',g1,g2,gS⟩:=yJ r Y;have hg:=eF (P:=P) g1 ad;have hlen:=g2.length;simp only [bn] at hlen;exact⟨_,by simp [Builtin.len_,run_underlying hu,hg]; rfl,by simp [VR,V.den,goInt,hlen]⟩
    ·rename_i e t' Y;simp at h;subst h;simp only [VR] at hx;obtain⟨rfl,hid⟩:=hx;obtain⟨_,ho,_⟩:=r.live _ _ Y;simp only [OR] at ho;obtain⟨bK,c',g1,g2⟩:=ho;have hg:=eF (P:=P) g1 ad;have hlen:=g2.length;simp only [bn] at hlen;exact⟨_,by simp [Builtin.len_,run_underlying hu,hg]; rfl,by simp [VR,cE,goInt,hlen]⟩
    ·rename_i e t' eX ov Y;simp at h;subst h;simp only [VR] at hx;obtain⟨rfl,hid⟩:=hx;obtain⟨_,ho,_⟩:=r.live _ _ Y;simp only [OR] at ho;obtain⟨_,bK,c',g1,g2⟩:=ho;have hg:=eF (P:=P) g1 ad;have hlen:=g2.length;simp only [bn] at hlen;exact⟨_,by simp [Builtin.len_,run_underlying hu,hg]; rfl,by simp [VR,cE,goInt,hlen]⟩
    grind
   grind
  grind
 grind
end
section
variable {P:Program} {E:En} {w:World}
structure Src (P:Program) (E:En) (w:World) (s m:Nat) (news:List W) (u:Value) (us:Array Value):Prop where
 len: ∀w2,(Builtin.lenOf u).run P w2= .ok m w2
 first: ∀w2:World,w2.heap=w.heap->(Builtin.firstCells s m u).run P w2= .ok us w2
 UO:cA E w.heap news us.toList
 size:us.size=m*s
 rH: ∀x∈us.toList,x.oneCell'=true
theorem fU.QO {b o n:Nat} {us:List Value} (hn:us.length=n) (h:fU w.heap b o us) (w2:World) (hw:w2.heap=w.heap):(loadCells ⟨b,o,none⟩ n).run P w2= .ok us.toArray w2:=
 rE hn (by rw [hw]; exact h)
theorem sI {id off len cap:Nat} {a:Addr} {c:MN} (hc:eQ E id off len a cap c):a=⟨(E.θ id).1,(E.θ id).2+off,none⟩\/cap=0:=by
 cases c with
 |exact c=>
  simp only [eQ] at hc
  grind
 |rest es=>
  simp only [eQ] at hc
  grind
theorem uA [bI] {H:Hp} (r:bO E H w) {id o len cap s:Nat} {a:Addr} {c:MN} {l:List W} (hid:E.dm id) (hc:eQ E id o len a cap c) (hlen:len<=cap) (h:mJ H (.ptr id o) (len*s)=some l) :
 ∃us:List Value,us.length=len*s/\cA E w.heap l us/\(∀u∈us,u.oneCell'=true)/\∀w2:World,w2.heap=w.heap->(loadCells a (len*s)).run P w2= .ok us.toArray w2:=by
 obtain⟨b,o',us,e1,e2,e3,e4,e5⟩:=vI r (p:=.ptr id o) (u:=.pointer (some ⟨(E.θ id).1,(E.θ id).2+o,none⟩)) (by simp only [VR]; exact⟨trivial,hid⟩) h;simp only [Value.pointer.injEq,ah,Addr.mk.injEq] at e1;obtain⟨e1a,e1b,_⟩:=e1;refine⟨us,e2,e3,e5,fun w2 hw=>?_⟩;rcases sI hc with ha|ha
 ·rw [ha,e1a,e1b];exact e4.QO e2 w2 hw
 ·obtain rfl:len=0:=J
  rw [alQ] at e2 ⊢;rw [alR e2];rfl
theorem qg [bI] {H:Hp} (r:bO E H w) {s m:Nat} {y:W} {u:Value} {news:List W} (hy:VR E w.heap y u) (h:ru s y H=some (m,news)): ∃us,Src P E w s m news u us:=by
 unfold ru at h;split at h
 ·simp only [ah,ak] at h;obtain⟨rfl,rfl⟩:=h;simp only [VR] at hy;subst hy;exact⟨#[],fun _=>rfl,fun w2 _=>by simp [Builtin.firstCells],by simp [cA],ad,ad⟩
 ·rename_i id o len c;rw [aP] at h;obtain⟨l,U,Z⟩:=h;simp only [ak] at Z;obtain⟨rfl,rfl⟩:=Z;simp only [VR] at hy;obtain⟨hid,a,cap,rfl,hlen,hc⟩:=hy;obtain⟨us,e1,e2,e3,e4⟩:=uA (P:=P) r hid hc hlen U;exact⟨us.toArray,fun _=>rfl,fun w2 hw=>by simp only [Builtin.firstCells]; exact e4 w2 hw,by simpa using e2,by simpa using e1,by simpa using e3⟩
 ·rename_i cs n full;rw [aP] at h;obtain⟨l,U,Z⟩:=h;simp only [ak] at Z;obtain⟨rfl,rfl⟩:=Z;simp only [VR] at hy;obtain⟨b,o,cap,us,rfl,hn,hf,h4,h5,h6,h7⟩:=hy;obtain⟨g1,g2⟩:=h5.iA U;have Y:=h5.length;have htl:(us.take (n*s)).length=n*s:=by rw [bh]; omega
  exact⟨(us.take (n*s)).toArray,fun _=>rfl,fun w2 hw=>by simp only [Builtin.firstCells]; exact (h6.take (n*s)).QO htl w2 hw,by simpa using g1,by simpa using htl,
   fun x hx=>h7 x (alS (by simpa using hx))⟩
 ·rename_i b;split at h
  ·rename_i hs;simp only [ah,ak] at h;obtain⟨rfl,rfl⟩:=h;simp only [VR] at hy;obtain⟨rfl,fW⟩:=hy;have ik:(dh b).size=b.length:=kR b;have hex:(dh b).extract 0 b.length=dh b:=by rw [sF]; simp
   refine⟨(dh b).data.map fun c=>Value.int .u8 (c.toNat:Int),fun w2=>by simp [Builtin.lenOf,ik],fun w2 _=>by simp [Builtin.firstCells,hex],?_,?_,?_⟩
   ·have:((dh b).data.map fun c=>Value.int .u8 (c.toNat:Int)).toList=(b.map UInt8.ofNat).map fun c=>Value.int .u8 (c.toNat:Int):=by simp [dh]
    rw [this];clear hex ik this
    induction b with
    |nil=>simp [cA]
    |cons x b ih=> have hx:=fW x ad;rw [aw,aw,aw,bT];refine⟨_,_,rfl,?_,ih fun c hc=>fW c (by simp [hc])⟩;simp [VR,V.den,ame,al9 hx]
   ·simp_all
   ·intro x hx;simp only [anl,aQ] at hx;obtain⟨c,_,rfl⟩:=hx;rfl
  grind
 grind
theorem kO {t t2 ty e s m n cap:Nat} {d2:TypeDesc} {inf:TypeInfo} {a:Option Addr} {u2:Value} {us:Array Value} {news:List W} {w':World} (ht:P.underlying t=some (.slice e)) (yc:P.underlying t2=some d2)
 (kc: ∀k,d2≠.int k) (hi:P.info? e=some inf) (hs:inf.size=s) (src:Src P E w s m news u2 us) (kA:n+m<=cap)
 (Cz:match a with |some a=>(storeCells (a.add (n*s)) us.toList).run P w= .ok () w'|none=>w'=w) :
 (Builtin.append_ #[t,t2] ty #[.slice a n cap,u2]).run P w= .ok (.slice a (n+m) cap) w':=by
 have hf:=src.first w rfl;have Y:=src.len w
 cases a with
 |none=> simp only at Cz;subst Cz;simp [Builtin.append_,run_underlying ht,run_underlying yc,sizeOf,typeInfo,hi,hs,Y,kA,hf]
 |some a=> simp only at Cz;simp [Builtin.append_,run_underlying ht,run_underlying yc,sizeOf,typeInfo,hi,hs,Y,kA,hf,Cz]
theorem Mu {t t2 ty e s m n cap:Nat} {d2:TypeDesc} {inf:TypeInfo} {z u u2:Value} {us olds:Array Value} {news:List W} (ht:P.underlying t=some (.slice e)) (yc:P.underlying t2=some d2)
 (kc: ∀k,d2≠.int k) (hi:P.info? e=some inf) (hs:inf.size=s) (hz:inf.zero=some z) (hb:inf.bytes≠0) (src:Src P E w s m news u2 us) (kA:cap<n+m) (hbound:(n+m)*inf.bytes<=140737488355328)
 (a:Option Addr) (hu:u= .slice a n cap) (hold: ∀w2:World,w2.heap=w.heap->(Builtin.firstCells s n u).run P w2= .ok olds w2) :
 (Builtin.append_ #[t,t2] ty #[u,u2]).run P w= .ok (.slice (some ⟨w.heap.size,0,none⟩) (n+m) (grownCap w (n+m) cap e))
  (w.drew.alloc (.cells (olds++us++Builtin.zeroCells z.cells (grownCap w (n+m) cap e-(n+m))) e)):=by
 subst hu;have hf:=src.first w.drew rfl;have ho:=hold w.drew rfl;have Y:=src.len w;have hn: ¬(n+m<=cap):=J
 have h48: ¬(281474976710656<Builtin.nextslicecap (n+m) cap*inf.bytes):=by
  have U:Builtin.nextslicecap (n+m) cap*inf.bytes<=2*(n+m)*inf.bytes:=amg _ (nextslicecap_le kA)
  grind
 have akT: ¬(2 ^ 48<Builtin.nextslicecap (n+m) cap*inf.bytes):=h48;simp [Builtin.append_,run_underlying ht,run_underlying yc,sizeOf,typeInfo,zeroValue,hi,hs,hz,Y,hn,hb,akT,Question.forced,ho,hf,newRow,grownCap]
theorem oU [bI] {t t2 ty:Nat} {H H':Hp} (r:bO E H w) {ie:TI} {e n m cap:Nat} {cs news old:List W} {v:W} {d2:TypeDesc} {u2:Value} {us olds:Array Value} (tZ:mw P e ie)
 (ht:P.underlying t=some (.slice e)) (yc:P.underlying t2=some d2) (kc: ∀k,d2≠.int k) (ri:ie.bytes≠0) (vZ:ie.zero.length=ie.size)
 (src:Src P E w ie.size m news u2 us) (kA:cap<n+m) (a:Option Addr) (MU:cs=old++news)
 (ss:cA E w.heap old olds.toList) (ho1: ∀x∈olds.toList,x.oneCell'=true) (hos:olds.size=n*ie.size)
 (hold: ∀w2:World,w2.heap=w.heap->(Builtin.firstCells ie.size n (.slice a n cap)).run P w2= .ok olds w2) (h:ni ie e n m cs H=some (v,H')) :
 ∃x w' E',(Builtin.append_ #[t,t2] ty #[.slice a n cap,u2]).run P w= .ok x w'/\eT E H w E' H' w'/\bO E' H' w'/\VR E' w'.heap v x:=by
 subst MU;unfold ni at h;split at h
 ·rename_i hbound;simp only [ah,ak] at h;obtain⟨rfl,rfl⟩:=h;obtain⟨inf,d,z,U,Z,h3,h4,h5,h6,h7,h8⟩:=tZ.all;have hz:=eU (E:=E) (h:=w.heap) h4;have hzs:z.cells.size=ie.size:=by have:=hz.1.length; simp only [bn] at this; omega
  have T7:=grownCap_ge w (n+m) cap e;have Of:=src.size
  obtain⟨s1,s2⟩:=iQ r (olds++us++Builtin.zeroCells z.cells (grownCap w (n+m) cap e-(n+m))) 0 0 e (ss.append src.UO)
   (by intro x hx; rcases alO.1 hx with hx|hx; exact ho1 x hx; exact src.rH x hx)
   (by
    intro i x hx;have hi:=(aX.1 hx).1;rw [anI (by simpa using hi)];rw [<- alM,Array.toList_append]
    exact hx)
   J (w':=w.drew.alloc (.cells (olds++us++Builtin.zeroCells z.cells (grownCap w (n+m) cap e-(n+m))) e)) rfl ⟨rfl,rfl,rfl⟩
  refine⟨_,_,_,Mu (s:=ie.size) ht yc kc U h5 h3 (by rw [h6]; exact ri) src kA (by rw [h6]; exact hbound) a rfl hold,s1,s2,?_⟩;simp only [VR];refine⟨En.gC _ _ _ _,_,_,rfl,T7,?_⟩;simp only [eQ,En.ext_θ_new,En.ext_κ_new];left;refine⟨trivial,?_⟩;simp only [Array.size_append,size_zeroCells,hos,Of,hzs,<- alX]
  grind
 grind
set_option maxHeartbeats 800000 in
theorem vp [bI] {t t2 ty:Nat} {H H':Hp} (r:bO E H w) {ie:TI} {e m:Nat} {news:List W} {x v:W} {d2:TypeDesc} {u u2:Value} {us:Array Value} (tZ:mw P e ie)
 (ht:P.underlying t=some (.slice e)) (yc:P.underlying t2=some d2) (kc: ∀k,d2≠.int k) (wZ:ie.size≠0) (ri:ie.bytes≠0) (vZ:ie.zero.length=ie.size)
 (src:Src P E w ie.size m news u2 us) (hx:VR E w.heap x u) (h:pQ ie e m news x H=some (v,H')) :
 ∃y w' E',(Builtin.append_ #[t,t2] ty #[u,u2]).run P w= .ok y w'/\eT E H w E' H' w'/\bO E' H' w'/\VR E' w'.heap v y:=by
 obtain⟨inf,d,z,U,Z,h3,h4,h5,h6,h7,h8⟩:=tZ.all;have lK:0<ie.size:=J
 have hnl:=src.UO.length;have I0:=src.size;simp only [bn] at hnl;unfold pQ at h;split at h
 ·
  simp only [VR] at hx;subst hx;split at h
  ·rename_i hm;subst hm;simp only [ah,ak] at h;obtain⟨rfl,rfl⟩:=h;exact⟨_,w,E,kO (s:=ie.size) ht yc kc U h5 src (au _) (by simp only),eT.refl _ _ _,r,by simp [VR]⟩
  ·rename_i hm;exact oU (cap:=0) r tZ ht yc kc ri vZ src J none (old:=[]) (olds:=#[]) ad (by simp [cA]) ad ad (fun w2 _=>by simp [Builtin.firstCells]) h
 ·
  rename_i id o len c;have hx0:=hx;simp only [VR] at hx;obtain⟨hid,a,cap,rfl,hlen,hc⟩:=hx;have iR:cap=c:=by simp only [eQ] at hc; exact hc.1
  subst iR;split at h
  ·rename_i kA;split at h
   ·rename_i cs e' Y;split at h
    ·rename_i lS hs;simp only [ah,ak] at h;obtain⟨rfl,rfl⟩:=h;obtain⟨w',g1,g2,g3⟩:=lU (P:=P) r Y hs src.UO src.rH
     have Cz:(storeCells (a.add (len*ie.size)) us.toList).run P w= .ok () w':=by
      rcases sI hc with ha|ha
      ·rw [ha,e9,alP]; exact g1
      ·obtain rfl:m=0:=J
       have nO:us.toList= []:=alR (by rw [bn,I0,alQ]);rw [nO] at g1 ⊢;exact g1
     refine⟨_,w',E,kO (s:=ie.size) ht yc kc U h5 src kA Cz,g2,g3,?_⟩;simp only [VR];refine⟨hid,a,cap,rfl,kA,?_⟩;simp only [eQ] at hc ⊢;exact hc
    ·simp at h
   ·simp at h
  ·rename_i kA;split at h
   ·rename_i old hold;obtain⟨ols,f1,f2,f3,f4⟩:=uA (P:=P) r hid hc hlen hold
    exact oU (cap:=cap) r tZ ht yc kc ri vZ src J (some a) (old:=old) (olds:=ols.toArray) rfl (by simpa using f2) (by simpa using f3) (by simpa using f1)
     (fun w2 hw=>by simp only [Builtin.firstCells]; exact f4 w2 hw) h
   ·simp at h
 ·
  rename_i id o len es;split at h
  ·rename_i lE;subst lE;simp only [VR] at hx;obtain⟨hid,a,cap,rfl,hlen,hc⟩:=hx;split at h
   ·rename_i cs e' Y;obtain⟨arr,lo,hi,cus,b1,b2,b3,b4,b5,b6,b7⟩:=(r.live id _ Y).2.1;split at h
    ·rename_i hle;split at h
     ·rename_i lS hs;simp only [ah,ak] at h;obtain⟨rfl,rfl⟩:=h;obtain⟨w',g1,g2,g3⟩:=lU (P:=P) r Y hs src.UO src.rH
      have kA:len+m<=cap:=by
       simp only [eQ] at hc;rcases hc with ⟨_,hc⟩|⟨rfl,rfl,hc⟩
       ·have:(len+m)*ie.size<=cap*ie.size:=J
        exact anm this lK
       ·have:(0+m)*ie.size=0:=J
        rcases Nat.mul_eq_zero.1 this with hh|hh<;>omega
      have Cz:(storeCells (a.add (len*ie.size)) us.toList).run P w= .ok () w':=by
       rcases sI hc with ha|ha
       ·rw [ha,e9,alP]; exact g1
       ·obtain rfl:m=0:=J
        have nO:us.toList= []:=alR (by rw [bn,I0,alQ]);rw [nO] at g1 ⊢;exact g1
      refine⟨_,w',E,kO (s:=ie.size) ht yc kc U h5 src kA Cz,g2,g3,?_⟩;simp only [VR];refine⟨hid,a,cap,rfl,kA,?_⟩;simp only [eQ] at hc ⊢;rcases hc with hc|⟨rfl,rfl,hc⟩
      ·exact .inl hc
      ·exact .inr ⟨rfl,J,hc⟩
     ·simp at h
    ·rename_i akr;split at h
     ·rename_i Ym;obtain⟨Ym,rfl⟩:=Ym;split at h
      ·rename_i old hd;obtain⟨d1,d2',d3⟩:=b2.eL hd;have CF:=b2.length
       have hm0:m≠0:=by intro hm;subst hm;rw [a8] at akr;omega
       by_cases kA:len+m<=cap
       ·
        have ae5:a=⟨(E.θ id).1,(E.θ id).2+o,none⟩/\o+cap*ie.size=E.κ id:=by
         simp only [eQ] at hc;rcases hc with hc|hc
         ·exact hc
         ·omega
        obtain⟨rfl,alG⟩:=ae5;unfold ni at h;split at h
        ·simp only [ah,ak] at h;obtain⟨rfl,rfl⟩:=h;have UW:len*ie.size+m*ie.size<=cap*ie.size:=by rw [<- alX]; exact amg _ kA
         have hul:us.toList.length=m*ie.size:=by simpa using I0
         obtain⟨w',J0,e1,e2,e3,e4,e5,e6,e7⟩:=mI (P:=P) (E.θ id).1 ((E.θ id).2+(o+len*ie.size)) e' lo hi us.toList 0 arr w b1 b6 J src.rH
         have Cz:(storeCells ((⟨(E.θ id).1,(E.θ id).2+o,none⟩ : Addr).add (len*ie.size)) us.toList).run P w= .ok () w':=by rw [e9,alP]; exact e1
         have kp:fC E w.heap (E.ext H.fresh ((E.θ id).1,(E.θ id).2+o) (cap*ie.size)) w'.heap:=
          ⟨rfl,fun _ hh=> .inr hh,fun _ hh=>En.ext_θ E _ _ _ (r.qK hh),fun _ hh=>En.ext_κ E _ _ _ (r.qK hh),fun _ hh=>hh,(kz r Y e4).Bo⟩
         have BC:=NO r Y (.cells (old++news) e') o (cap*ie.size) e3 e4 e2 (by
          simp only [OR,En.ext_θ_new,En.ext_κ_new];refine⟨J0,lo,hi,cus.drop o++us.toList,e5,cA.cf kp _ _ (d1.append src.UO),?_,?_,J,by rw [e6]; exact b6,?_⟩
          ·intro i y hy;rw [e7];have hdl:(cus.drop o).length=len*ie.size:=by rw [bq]; omega
           rw [anh] at hy;split at hy
           ·rename_i hi';rw [af J];rw [amm] at hy;rw [alP];exact b3 _ _ hy
           ·rename_i hi';have I1:=(aX.1 hy).1;rw [ag J];rw [show (E.θ id).2+o+i-((E.θ id).2+(o+len*ie.size)+0)=i-(cus.drop o).length from by omega];exact hy
          ·rw [aZ,d3]; omega
          ·intro y hy;rcases alO.1 hy with hy|hy
           ·exact b7 y (bw hy)
           ·exact src.rH y hy)
         refine⟨_,w',_,kO (s:=ie.size) ht yc kc U h5 src kA Cz,BC.1,BC.2,?_⟩;simp only [VR,show (H.drop id).fresh=H.fresh from rfl];refine⟨En.gC _ _ _ _,_,_,rfl,kA,?_⟩;simp only [eQ,En.ext_θ_new,En.ext_κ_new];left;exact⟨ad,J⟩
        ·simp at h
       ·
        have ait:mJ H (.ptr id o) (len*ie.size)=some old:=by
         simp only [mJ,Y,hd];have:len*ie.size=old.length:=J
         rw [this];clear h hd d1 d3 this
         induction old with
         |nil=>rfl
         |cons y ys ih=>simp [As.iA,ih]
        obtain⟨ols,f1,f2,f3,f4⟩:=uA (P:=P) r hid hc hlen ait;obtain⟨q1,q2⟩:=wu r id;have ajR:Src P E w ie.size m news u2 us:=src
        obtain⟨y,w',E',p1,p2,p3,p4⟩:=oU (t:=t) (t2:=t2) (ty:=ty) (cap:=cap) q2 tZ ht yc kc ri vZ ajR J (some a) (old:=old) (olds:=ols.toArray) rfl (by simpa using f2) (by simpa using f3) (by simpa using f1)
         (fun w2 hw=>by simp only [Builtin.firstCells]; exact f4 w2 hw) h
        exact⟨y,w',E',p1,q1.trans p2,p3,p4⟩
      ·simp at h
     ·simp at h
   ·simp at h
  ·simp at h
 ·
  rename_i cs n full;have hx0:=hx;simp only [VR] at hx;obtain⟨b,o,cap,cus,rfl,hn,hf,g4,g5,g6,g7⟩:=hx;split at h
  ·rename_i hm;subst hm;simp only [ah,ak] at h;obtain⟨rfl,rfl⟩:=h;have nO:us.toList= []:=alR (by rw [bn,I0,alQ]);exact⟨_,w,E,kO (s:=ie.size) ht yc kc U h5 src J (by simp only [nO]; rfl),eT.refl _ _ _,r,hx0⟩
  ·rename_i hm;split at h
   ·rename_i G3;have iR:=hf G3;subst iR;split at h
    ·rename_i old hold;obtain⟨j1,j2⟩:=g5.iA hold;have CF:=g5.length;have htl:(cus.take (cap*ie.size)).length=cap*ie.size:=by rw [bh]; omega
     exact oU (cap:=cap) r tZ ht yc kc ri vZ src J (some ⟨b,o,none⟩) (old:=old) (olds:=(cus.take (cap*ie.size)).toArray) rfl (by simpa using j1)
      (fun x hx=>g7 x (alS (by simpa using hx))) (by simpa using htl)
      (fun w2 hw=>by simp only [Builtin.firstCells]; exact (g6.take _).QO htl w2 hw) h
    ·simp at h
   ·simp at h
 ·simp at h
theorem L2 [bI] {tt:TT} (cJ:eA P tt) {H H':Hp} (r:bO E H w) {t t2 ty:Nat} {x y v:W} {u u2:Value} (hx:VR E w.heap x u) (hy:VR E w.heap y u2) (h:EC tt t t2 x y H=some (v,H')) :
 ∃z w' E',(Builtin.append_ #[t,t2] ty #[u,u2]).run P w= .ok z w'/\eT E H w E' H' w'/\bO E' H' w'/\VR E' w'.heap v z:=by
 unfold EC at h;split at h
 ·rename_i ti fm;split at h
  ·rename_i e hk;split at h
   ·rename_i ie kX;split at h
    ·grind
    ·rename_i PM X4;obtain⟨d2,kc,CC⟩:=rN (cJ t2 PM X4);split at h
     ·grind
     ·rename_i k2 gp;split at h
      ·grind
      ·rename_i jl;simp only [not_or,Classical.not_not] at jl;split at h
       ·grind
       ·rename_i m news Of;obtain⟨us,src⟩:=qg (P:=P) r hy Of;refine vp r (cJ e ie kX) (ff (cJ t ti fm) hk) kc ?_ jl.1 jl.2.1 jl.2.2 src hx h;intro k hd;subst hd;cases sZ:PM.kind<;>rw [sZ] at CC<;>simp only [HT] at CC
        grind
   grind
  grind
 grind
end
section
variable {P:Program} {E:En} {w:World}
theorem OX [bI] {tt:TT} (cJ:eA P tt) {H H':Hp} (r:bO E H w) {t ty:Nat} {x:W} {u:Value} (hx:VR E w.heap x u) (h:Jz tt t x H=some H') :
 ∃w',(Builtin.clear_ #[t] ty #[u]).run P w= .ok (.tuple #[]) w'/\eT E H w E H' w'/\bO E H' w':=by
 unfold Jz at h;split at h
 ·rename_i ti fm;split at h
  ·rename_i e hk;have hu:=ff (cJ t ti fm) hk;split at h
   ·rename_i ie kX;obtain⟨inf,d,z,U,Z,h3,h4,h5,h6,h7,h8⟩:=(cJ e ie kX).all;have hz:=eU (E:=E) (h:=w.heap) h4;split at h
    ·simp at h;subst h;simp only [VR] at hx;subst hx;exact⟨w,by simp [Builtin.clear_,run_underlying hu],eT.refl _ _ _,r⟩
    ·simp at h;subst h;simp only [VR] at hx;obtain⟨⟨x,rfl⟩,_⟩:=hx;exact⟨w,by cases x<;>simp [Builtin.clear_,run_underlying hu],eT.refl _ _ _,r⟩
    ·rename_i id o len c;simp only [VR] at hx;obtain⟨hid,a,cap,rfl,hlen,hc⟩:=hx;split at h
     ·simp at h;subst h;exact⟨w,by simp [Builtin.clear_,run_underlying hu],eT.refl _ _ _,r⟩
     ·rename_i hl0;split at h
      ·grind
      ·rename_i gp;split at h
       ·rename_i cs e' Y;split at h
        ·rename_i lS hs;simp at h;subst h
         have ha:a=⟨(E.θ id).1,(E.θ id).2+o,none⟩:=by
          grind [sI]
         have aeV:z.cells.toList≠[]:=by
          intro hx;have:=hz.1.length
          grind
         have hzc:(Builtin.zeroCells z.cells len).toList=dO z.cells.toList len:=uf z.cells aeV len;obtain⟨w',g1,g2,g3⟩:=lU (P:=P) r Y hs (mf hz.1 len) (fun u hu=>hz.2 u (me hu));refine⟨w',?_,g2,g3⟩;subst ha;obtain⟨l,rfl⟩ : ∃l,len=l+1:=⟨len-1,by have:len≠0:=fun hh=>hl0 hh; omega⟩;simp [Builtin.clear_,run_underlying hu,zeroValue,typeInfo,U,h3,hzc,g1]
        grind
       grind
    grind
   grind
  grind
 grind
theorem OI [bI] {tt:TT} (cJ:eA P tt) {H H':Hp} (r:bO E H w) {t:Nat} {x v:W} {u:Value} (hx:VR E w.heap x u) (h:Jo tt t x H=some (v,H')) :
 ∃y w' E',(Instr.range t u).run P w= .ok y w'/\eT E H w E' H' w'/\bO E' H' w'/\VR E' w'.heap v y:=by
 unfold Jo at h;split at h
 ·rename_i ti fm;split at h
  ·rename_i hk;split at h
   ·rename_i b;simp only [ah,ak] at h;obtain⟨rfl,rfl⟩:=h;simp only [VR] at hx;obtain⟨rfl,fW⟩:=hx
    obtain⟨s1,s2⟩:=pj r (.stringIter (dh b) 0) (.kg b 0) 0 (w':=w.iter (dh b) 0) rfl ⟨rfl,rfl,rfl⟩ (by
     simp only [OR,En.ext_θ_new]
     exact⟨World.iter_heap _ _ _,trivial,fW⟩)
    exact⟨_,_,_,run_range_string w t (dh b) (fP (cJ t ti fm) hk),s1,s2,yB r 0 _ 0⟩
   grind
  ·rename_i kt et hk;have hu:=sB (cJ t ti fm) hk;split at h
   ·simp only [ah,ak] at h;obtain⟨rfl,rfl⟩:=h;simp only [VR] at hx;subst hx
    obtain⟨s1,s2⟩:=pj r (.mapIter none 0 #[] 0) (.jC none 0 [] 0) 0 (w':={ w with heap:=w.heap.push (.mapIter none 0 #[] 0) }) rfl ⟨rfl,rfl,rfl⟩ (by
     simp only [OR,En.ext_θ_new]
     exact⟨ad,trivial⟩)
    exact⟨.pointer (some ⟨w.heap.size,0,none⟩),_,_,by simp [Instr.range,run_underlying hu],s1,s2,yB r 0 _ 0⟩
   ·rename_i id;split at h
    ·rename_i es c Y;simp only [ah,ak] at h;obtain⟨rfl,rfl⟩:=h;simp only [VR] at hx;obtain⟨rfl,hid⟩:=hx;obtain⟨bK,c',g1,g2,gS⟩:=(r.live id _ Y).2.1;have hg:=eF (P:=P) g1 ad;have hc:=gS.1;subst hc
     obtain⟨s1,s2⟩:=pj r (.mapIter (some (E.θ id).1) c' #[] c') (.jC (some id) c' [] c') 0 (w':={ w with heap:=w.heap.push (.mapIter (some (E.θ id).1) c' #[] c') }) rfl ⟨rfl,rfl,rfl⟩ (by
      simp only [OR,En.ext_θ_new];rw [En.ext_θ _ _ _ _ (r.qK hid)]
      exact⟨ad,trivial,.inr hid⟩)
     exact⟨.pointer (some ⟨w.heap.size,0,none⟩),_,_,by simp [Instr.range,run_underlying hu,hg],s1,s2,yB r 0 _ 0⟩
    ·simp at h
   ·simp at h
  grind
 grind
theorem Uj [bI] {H H':Hp} (r:bO E H w) {x v:W} {u:Value} {isS:Bool} (hx:VR E w.heap x u) (h:OK x isS H=some (v,H')) (ty:Nat) :
 ∃y w',(Instr.next u isS ty).run P w= .ok y w'/\eT E H w E H' w'/\bO E H' w'/\VR E w'.heap v y:=by
 unfold OK at h;split at h
 ·have over:VR E w.heap (.tuple [.bool (.lit false)]) (.tuple #[.bool false]):=by
   simp only [VR,cA]; exact⟨[.bool false],rfl,_,_,rfl,by simp [SB.den],rfl⟩
  split at h
  ·rename_i id;simp only [VR] at hx;obtain⟨rfl,hid⟩:=hx;split at h
   ·rename_i s l z Y;simp only [ah,ak] at h;obtain⟨rfl,rfl⟩:=h;obtain⟨g1,g2⟩:=(r.live id _ Y).2.1;rw [g2];have hg:=eF (P:=P) g1 ad;exact⟨_,w,by simp only [Instr.next,Sem.run_bind,hg,Result.andThen_ok,a8]; rfl,eT.refl _ _ _,r,over⟩
   ·rename_i m s l z Y;obtain⟨g1,g2,g3⟩:=(r.live id _ Y).2.1;rw [g2];have hg:=eF (P:=P) g1 ad;split at h
    ·rename_i cc hm;simp only [ah,ak] at h;obtain⟨rfl,rfl⟩:=h;obtain⟨bK,c',m1,m2,m3⟩:=(r.live m _ hm).2.1;simp only [eI] at m2;have LA:bK= #[]:=by simpa using m2
     subst LA;have hgm:=eF (P:=P) m1 ad;refine⟨_,w,?_,eT.refl _ _ _,r,over⟩;simp only [Instr.next,Sem.run_bind,hg,hgm,Result.andThen_ok,a8];have hf: ∀p:MapEntry->Bool,Array.filter p #[] 0 0= #[]:=fun _=>rfl;simp [choose,Sem.run,Question.forced,Result.andThen,hf]
    ·rename_i k v n c hm;obtain⟨bK,c',m1,m2,m3⟩:=(r.live m _ hm).2.1;simp only [eI] at m2;obtain⟨e,r0,he,hek,hev,_,rfl⟩:=m2;have LA:bK= #[e]:=by apply anf.1; simpa using he
     subst LA;have hgm:=eF (P:=P) m1 ad;obtain⟨hc,hb⟩:=m3;simp at hb;subst hc;subst hb;split at h
     ·split at h
      ·rename_i fW;simp only [ah,ak] at h;obtain⟨rfl,rfl⟩:=h
       obtain⟨s1,s2⟩:=gv r Y (.jC (some m) s [e.born] c') (.mapIter (some (E.θ m).1) s #[e.born] c') (by
        intro h' hh _
        exact⟨hh,g2,g3⟩)
       refine⟨.tuple #[.bool true,e.key,e.val],_,?_,s1,s2,?_⟩
       ·simp only [Instr.next,Sem.run_bind,hg,hgm,Result.andThen_ok,a8];have h0: ¬s<=e.born:=J
        simp [choose,Sem.run,Question.forced,Result.andThen,fW,h0,g1,setObj,Sem.run_bind]
       ·have kp:fC E w.heap E (w.heap.setIfInBounds (E.θ id).1 (.mapIter (some (E.θ m).1) s #[e.born] c')):=
         kz (w':={ w with heap:=w.heap.setIfInBounds (E.θ id).1 (.mapIter (some (E.θ m).1) s #[e.born] c') }) r Y fun b hb=>by
          show (w.heap.setIfInBounds (E.θ id).1 _)[b]?=_
          grind
        simp only [VR,cA];exact⟨_,rfl,_,_,rfl,by simp [SB.den],_,_,rfl,VR.cf kp _ _ hek,_,_,rfl,VR.cf kp _ _ hev,rfl⟩
      ·simp at h
     ·rename_i y;split at h
      ·rename_i hy;obtain⟨rfl,fW⟩:=hy;simp only [ah,ak] at h;obtain⟨rfl,rfl⟩:=h;refine⟨_,w,?_,eT.refl _ _ _,r,over⟩;simp only [Instr.next,Sem.run_bind,hg,hgm,Result.andThen_ok,a8];have h0: ¬z<=e.born:=J
       simp [choose,Sem.run,Question.forced,Result.andThen,h0]
      ·simp at h
     ·simp at h
    ·simp at h
   ·simp at h
  ·simp at h
 ·split at h
  ·rename_i id;split at h
   ·rename_i b p Y;obtain⟨g1,g2,g3⟩:=(r.live id _ Y).2.1;simp only [VR] at hx;obtain⟨rfl,hid⟩:=hx;rw [g2];have hg:=eF (P:=P) g1 ad;split at h
    ·rename_i hn;simp only [ah,ak] at h;obtain⟨rfl,rfl⟩:=h;rw [dq,amN] at hn;have hp: ¬p<(dh b).size:=by rw [kR]; omega
     refine⟨.tuple #[.bool false],w,?_,eT.refl _ _ _,r,?_⟩
     ·simp [Instr.next,hg,hp]
     ·simp only [VR,cA]; exact⟨[.bool false],rfl,_,_,rfl,by simp [SB.den],rfl⟩
    ·rename_i c hn;split at h
     ·rename_i hc;simp only [ah,ak] at h;obtain⟨rfl,rfl⟩:=h;rw [dq] at hn;have hpl:=(aX.1 hn).1;have hp:p<(dh b).size:=by rw [kR]; exact hpl
      have hb:(dh b)[p]'hp=UInt8.ofNat c:=by
       have U:(dh b)[p]?=some ((dh b)[p]'hp):=getElem?_pos (dh b) p hp
       grind [Dd]
      have hbn:((dh b)[p]'hp).toNat=c:=by rw [hb]; simp; omega
      have akM:=decode_ascii (dh b) p hp (by rw [hbn]; exact hc)
      obtain⟨s1,s2⟩:=gv r Y (.kg b (p+1)) (.stringIter (dh b) (p+1)) (by
       intro h' hh _
       exact⟨hh,g2,g3⟩)
      refine⟨.tuple #[.bool true,goInt p,.int .i32 ((dh b)[p]'hp).toNat],_,?_,s1,s2,?_⟩
      ·simp only [Instr.next,Sem.run_bind,hg,Result.andThen_ok,hp,if_true,akM,gA (P:=P) g1 ad,Sem.run_pure]
      ·simp only [VR,cA,hbn];exact⟨_,rfl,_,_,rfl,by simp [SB.den],_,_,rfl,by simp [V.den,goInt],_,_,rfl,by simp [V.den],rfl⟩
     grind
   grind
  grind
theorem OT [bI] {H:Hp} (r:bO E H w) {x v:W} {u:Value} (hx:VR E w.heap x u) (h:Jw x H=some v) :
 ∃y,(Instr.entry u).run P w= .ok y w/\VR E w.heap v y:=by
 unfold Jw at h;split at h
 ·rename_i id;simp only [VR] at hx;obtain⟨rfl,hid⟩:=hx;split at h
  ·rename_i m s y z Y;obtain⟨g1,g2,g3⟩:=(r.live id _ Y).2.1;rw [g2];have hg:=eF (P:=P) g1 ad;split at h
   ·rename_i k v n c hm;obtain⟨bK,c',m1,m2,m3⟩:=(r.live m _ hm).2.1;simp only [eI] at m2;obtain⟨e,r0,he,hek,hev,_,rfl⟩:=m2;have LA:bK= #[e]:=by apply anf.1; simpa using he
    subst LA;have hgm:=eF (P:=P) m1 ad;obtain⟨hc,hb⟩:=m3;simp at hb;split at h
    ·rename_i hy;obtain⟨rfl,rfl⟩:=hy;simp only [ah] at h;subst h hc hb;refine⟨.tuple #[e.key,e.val],?_,?_⟩
     ·simp only [Instr.entry,Sem.run_bind,hg,hgm,Result.andThen_ok,a8];simp [hgm]
     ·simp only [VR,cA];exact⟨_,rfl,_,_,rfl,hek,_,_,rfl,hev,rfl⟩
    ·simp at h
   ·simp at h
  ·simp at h
 ·simp at h
theorem It {ρ:Nat->Int} {pc:List (SB×Bool)} (hp:bV ρ pc) {c:SB} {b:Bool} (h:c.den ρ=b):bV ρ ((c,b)::pc):=by
 intro d x hm;rcases ay.1 hm with hm|hm
 ·grind
 ·exact hp d x hm
theorem cH {α:Type} {ρ:Nat->Int} {s:St} (hp:bV ρ s.pc) {c:SB} {f:St->Bool->T α} {r:α} (h:(jN s c f).leaf ρ=some r) :
 ∃ef,bV ρ ef/\(f { s with pc:=ef } (c.den ρ)).leaf ρ=some r:=by
 unfold jN at h;split at h
 ·rename_i b hb;exact⟨s.pc,hp,by rw [gD hp hb]; exact h⟩
 ·split at h
  ·rename_i d;simp only [T.leaf] at h;split at h
   ·rename_i hc;exact⟨_,It hp hc,by simp only [SB.den,hc]; exact h⟩
   ·rename_i hc;exact⟨_,It hp hc,by simp only [SB.den,hc]; exact h⟩
  ·simp only [T.leaf] at h
   grind [It]
theorem T.fg {α β:Type} {ρ:Nat->Int} {f:α->T β} {r:β}: ∀{x:T α},(x.bind f).leaf ρ=some r->∃a,x.leaf ρ=some a/\(f a).leaf ρ=some r
 | .fail,h=>by simp [T.bind,T.leaf] at h
 | .ret a,h=> ⟨a,rfl,h⟩
 | .split c x y,h=>by simp only [T.bind,T.leaf] at h ⊢;split at h<;>exact T.fg h
theorem nk {mx:Bool}: ∀{xs:List W} {a:V} {k:IntKind} {s s':St} {us:List Value} {v:W},bV E.ρ s.pc->cA E w.heap xs us->(tb mx xs a k s).leaf E.ρ=some (v,s')->
 s'.h=s.h/\s'.bD=s.bD/\bV E.ρ s'.pc/\∃u,(us.foldlM (if mx then Builtin.max2 else Builtin.min2) (.int k (a.den E.ρ))).run P w= .ok u w/\VR E w.heap v u
 |[],a,k,s,s',us,v,hp,hv,h=>by simp only [tb,T.leaf,ah,ak] at h;obtain⟨rfl,rfl⟩:=h;rw [ia] at hv;subst hv;exact⟨rfl,rfl,hp,_,rfl,by simp only [VR]⟩
 |x::xs,a,k,s,s',us,v,hp,hv,h=>by
  rw [bT] at hv;obtain⟨u,vs,rfl,hx,mR⟩:=hv;cases x<;>simp only [tb,T.leaf,reduceCtorEq] at h;rename_i k' b;simp only [VR] at hx;subst hx;obtain⟨ef,fy,U⟩:=cH hp h;cases mx
  ·simp only [aK,if_false,dY] at U ⊢;by_cases hc:b.den E.ρ<a.den E.ρ
   ·simp only [hc,decide_true,if_true] at U;obtain⟨q1,q2,q3,u,q4,q5⟩:=nk fy mR U;refine⟨q1,q2,q3,u,?_,q5⟩;simp only [am2,Sem.run_bind,Builtin.min2,Sem.run_pure,Result.andThen_ok,hc,if_true]
    grind
   ·simp only [hc,decide_false,aK,if_false] at U;obtain⟨q1,q2,q3,u,q4,q5⟩:=nk fy mR U;refine⟨q1,q2,q3,u,?_,q5⟩;simp only [am2,Sem.run_bind,Builtin.min2,Sem.run_pure,Result.andThen_ok,hc,if_false]
    grind
  ·simp only [if_true,dY] at U ⊢;by_cases hc:a.den E.ρ<b.den E.ρ
   ·simp only [hc,decide_true,if_true] at U;obtain⟨q1,q2,q3,u,q4,q5⟩:=nk fy mR U;refine⟨q1,q2,q3,u,?_,q5⟩;simp only [am2,Sem.run_bind,Builtin.max2,Sem.run_pure,Result.andThen_ok,gt_iff_lt,hc,if_true]
    grind
   ·simp only [hc,decide_false,aK,if_false] at U;obtain⟨q1,q2,q3,u,q4,q5⟩:=nk fy mR U;refine⟨q1,q2,q3,u,?_,q5⟩;simp only [am2,Sem.run_bind,Builtin.max2,Sem.run_pure,Result.andThen_ok,gt_iff_lt,hc,if_false]
    grind
end
section
variable {P:Program} {E:En} {w:World}
theorem Ts (ρ:Nat->Int) (a b:SB):(W7 a b).den ρ=(a.den ρ&&b.den ρ):=by unfold W7;split<;>simp [SB.den]
theorem Up {i:TI} {t:Nat} (fm:mw P t i) {x y:W} {u v:Value} (hx:VR E w.heap x u) (hy:VR E w.heap y v) {c:SB} (h:O1 i.kind x y=some c) (d:Nat) :
 (Op.equalIn (d+1) t u v).run P w= .ok (c.den E.ρ) w/\u.oneCell'=true/\v.oneCell'=true/\i.agg=false:=by
 unfold O1 at h;split at h
 ·rename_i k hk;split at h
  ·split at h
   ·rename_i sZ;subst sZ;simp at h;subst h;simp only [VR] at hx hy;subst hx hy;exact⟨by rw [run_equalIn_int w d t _ _ _ _ (oF fm hk),gH],rfl,rfl,by simp [TI.agg,TK.agg,hk]⟩
   grind
  grind
 ·rename_i hk;split at h
  ·simp at h;subst h;simp only [VR] at hx hy;obtain⟨rfl,hx⟩:=hx;obtain⟨rfl,hy⟩:=hy;exact⟨by rw [run_equalIn_string w d t _ _ (fP fm hk),PX hx hy]; rfl,rfl,rfl,by simp [TI.agg,TK.agg,hk]⟩
  ·obtain⟨a,b,rfl,rfl,hd⟩:=Dc hx hy h;exact⟨by rw [run_equalIn_string w d t _ _ (fP fm hk),xn,hd],rfl,rfl,by simp [TI.agg,TK.agg,hk]⟩
 ·rename_i hk;split at h
  ·simp only [VR] at hx hy;subst hx hy;exact⟨by rw [run_equalIn_bool' w d t _ _ (Kq fm hk),BP h],rfl,rfl,by simp [TI.agg,TK.agg,hk]⟩
  grind
 grind
theorem RW {tt:TT} (cJ:eA P tt) {xs ys:List W} {us vs:List Value} (hx:cA E w.heap xs us) (hy:cA E w.heap ys vs) (d:Nat): ∀{lZ:List Field} {l:List (Nat×Nat×Nat)} {c:SB},
 (lZ.mapM fun f=>(P.info? f.type).map fun i=>(f.offset,f.type,i.size))=some l->(∀f∈lZ,f.name≠ "_")->YO tt xs ys l=some c->
 (Op.eqFields (d+1) us.toArray vs.toArray lZ).run P w= .ok (c.den E.ρ) w
 |[],l,c,hm,_,h=>by simp at hm;subst hm;simp [YO] at h;subst h;simp [Op.eqFields,SB.den]
 |f::lZ,l,c,hm,hn,h=>by
  simp only [amq,amM,amw] at hm;obtain⟨p,U,ls,Z,h3⟩:=hm;simp only [pure,ah] at h3;subst h3;rw [aP] at U;obtain⟨inf,akC,rfl⟩:=U;simp only [YO] at h;split at h
  ·grind
  ·rename_i i hi;split at h
   ·rename_i x y hxn hyn;split at h
    ·grind
    ·rename_i c1 hc1;split at h
     ·grind
     ·rename_i c2 hc2;simp at h;subst h;obtain⟨u,Oc,Rl⟩:=hx.nth hxn;obtain⟨v,Rk,Y!⟩:=hy.nth hyn;obtain⟨e1,e2,e3,e4⟩:=Up (w:=w) (cJ f.type i hi) Rl Y! hc1 d;have ih:=RW cJ hx hy d Z (fun g hg=>hn g (by simp [hg])) hc2;have p1:(part f.type us.toArray f.offset).run P w= .ok u w:=by simp [part,kV (cJ f.type i hi),e4,Oc]
      have p2:(part f.type vs.toArray f.offset).run P w= .ok v w:=by simp [part,kV (cJ f.type i hi),e4,Rk]
      simp only [Op.eqFields];rw [ag (hn f ad)];simp only [Sem.run_bind,p1,p2,e1,Result.andThen_ok,Ts];cases Ry:c1.den E.ρ
      ·simp
      grind
   grind
theorem EA {tt:TT} (cJ:eA P tt) {t:Nat} {xs ys:List W} {us vs:List Value} {c:SB} (hx:cA E w.heap xs us) (hy:cA E w.heap ys vs) (h:CM tt t xs ys=some c) (op:BinOp) (x y:Operand) :
 (eqGuard op t x y (.agg us.toArray) (.agg vs.toArray)).run P w= .ok () w/\(binOp .eql t (.agg us.toArray) (.agg vs.toArray)).run P w= .ok (.bool (c.den E.ρ)) w/\(binOp .neq t (.agg us.toArray) (.agg vs.toArray)).run P w= .ok (.bool (!(c.den E.ρ))) w:=by
 unfold CM at h;split at h
 ·grind
 ·rename_i i hi;split at h
  ·rename_i fs hk;split at h
   ·rename_i hq;have fm:=cJ t i hi;have he:=fm.eqs hq;obtain⟨lZ,hu,hm⟩:=sA fm hk;unfold RU at he;rw [hu] at he;simp only [an,al5,aW,bne_iff_ne,ne_eq] at he;obtain⟨⟨U,Z⟩,h3⟩:=he;have hf:P.fieldsOf t=lZ:=by simp [Program.fieldsOf,hu]
    have h10:(10000:Nat)=9998+1+1:=rfl
    have key:(Op.equalIn 10000 t (.agg us.toArray) (.agg vs.toArray)).run P w= .ok (c.den E.ρ) w:=by rw [h10];generalize (9998:Nat)=n;rw [run_equalIn_struct w (n+1) t _ _ (by rw [hf]; exact hu) U,hf];exact RW cJ hx hy n hm (fun f hf=>(h3 f hf).1) h
    refine⟨run_eqGuard_agg w op t x y _ _ Z,?_,?_⟩
    ·rw [run_eql_struct,key]; rfl
    ·rw [run_neq_struct,key]; rfl
   grind
  grind
def MM [bI] (E:En) (s:St) (w:World) (v:W) (s':St) (u:Value) (w':World):Prop:= ∃E',eT E s.h w E' s'.h w'/\bO E' s'.h w'/\VR E' w'.heap v u
def jS [bI] (P:Program) (E:En) (s:St) (o:Oper) (a:Act) (w:World) (v:W) (s':St):Prop:=
 s'.bD=s.bD/\bV E.ρ s'.pc/\oP P o a w (MM E s w v s')
theorem bC {α:Type} {ρ:Nat->Int} {a b:α} (h:(T.ret a).leaf ρ=some b):a=b:=by simpa [T.leaf] using h
theorem gB {s:St} {a:Act} {x:Operand} {f:W->T (W×St)} {r:W×St} (sr:SR E w.heap s.bD a) (h:(yF s x f).leaf E.ρ=some r): ∃v,VR E w.heap v (a.eval x)/\(f v).leaf E.ρ=some r:=by
 unfold yF at h;split at h
 ·rename_i v hv; exact⟨v,gk sr hv,h⟩
 ·simp [T.leaf] at h
theorem gM {s s':St} {v:W} {r:Option W} {ρ:Nat->Int} (h:(ph s r).leaf ρ=some (v,s')):r=some v/\s'=s:=by
 unfold ph at h;split at h
 ·have:=bC h; simp only [ak] at this; exact⟨by rw [this.1],this.2.symm⟩
 ·simp [T.leaf] at h
theorem yy {s s':St} {v:W} {r:Option Hp} {ρ:Nat->Int} (h:(NL s r).leaf ρ=some (v,s')): ∃H,r=some H/\v=W.undef/\s'= { s with h:=H }:=by
 unfold NL at h;split at h
 ·rename_i H; have:=bC h; simp only [ak] at this; exact⟨H,rfl,this.1.symm,this.2.symm⟩
 ·simp [T.leaf] at h
theorem pg {s s':St} {v:W} {r:Option (W×Hp)} {ρ:Nat->Int} (h:(Bp s r).leaf ρ=some (v,s')): ∃H,r=some (v,H)/\s'= { s with h:=H }:=by
 unfold Bp at h;split at h
 ·rename_i x H; have:=bC h; simp only [ak] at this; obtain⟨rfl,rfl⟩:=this; exact⟨H,rfl,rfl⟩
 ·simp [T.leaf] at h
theorem kf {h:Array Obj}:VR E h W.undef undef:=by simp only [W.undef,VR,cA]; exact⟨[],rfl,rfl⟩
variable {s s':St} {o:Oper} {a:Act} {v:W}
theorem jS.pure [bI] (hp:bV E.ρ s.pc) (r:bO E s.h w) {u:Value} (h:(execOp a.eval o).run P w= .ok (.value u) w) (hv:VR E w.heap v u):jS P E s o a w v s:=
 ⟨rfl,hp,oP.value h ⟨E,eT.refl _ _ _,r,hv⟩⟩
theorem jS.heap [bI] {H':Hp} {E':En} {w':World} (hp:bV E.ρ s.pc) {u:Value} (h:(execOp a.eval o).run P w= .ok (.value u) w') (U:eT E s.h w E' H' w') (Z:bO E' H' w') (hv:VR E' w'.heap v u) :
 jS P E s o a w v { s with h:=H' }:=
 ⟨rfl,hp,oP.value h ⟨E',U,Z,hv⟩⟩
theorem jS.unit [bI] {H':Hp} {w':World} (hp:bV E.ρ s.pc) (h:(execOp a.eval o).run P w= .ok .skip w') (U:eT E s.h w E H' w') (Z:bO E H' w') :
 jS P E s o a w W.undef { s with h:=H' }:=
 ⟨rfl,hp,oP.skip h ⟨E,U,Z,kf⟩⟩
end
theorem xV {α:Type} {ρ:Nat->Int} {kk:TK} {k:W} {r:α} {f:St->T α}: ∀{es:List (W×W×Nat)} {s:St},bV ρ s.pc->(tp kk k es s f).leaf ρ=some r->∃ef,bV ρ ef/\(f { s with pc:=ef }).leaf ρ=some r
 |[],s,hp,h=> ⟨s.pc,hp,h⟩
 |(k',v,b)::es,s,hp,h=>by
  simp only [tp] at h;split at h
  ·split at h
   ·exact⟨s.pc,hp,h⟩
   ·exact xV hp h
  ·split at h
   ·obtain⟨fN,fA,U⟩:=cH hp h;split at U
    ·grind
    ·obtain⟨jK,jD,Z⟩:=xV (s:={ s with pc:=fN }) fA U
     grind
   ·exact⟨s.pc,hp,h⟩
theorem qd {α:Type} {ρ:Nat->Int} {tt:TT} {t:Nat} {m k:W} {r:α} {f:St->T α} {s:St} (hp:bV ρ s.pc) (h:(nG tt t m k s f).leaf ρ=some r): ∃ef,bV ρ ef/\(f { s with pc:=ef }).leaf ρ=some r:=by
 unfold nG at h;split at h
 ·split at h
  ·split at h
   ·split at h
    ·exact xV hp h
    ·exact⟨s.pc,hp,h⟩
   ·exact⟨s.pc,hp,h⟩
  ·exact⟨s.pc,hp,h⟩
 ·exact⟨s.pc,hp,h⟩
theorem L4 {ρ:Nat->Int} {k:IntKind} {e:V} {f:W->St->T (W×St)} {r:W×St}: ∀(n j:Nat) {s:St},bV ρ s.pc->(j:Int)<=e.den ρ->e.den ρ<(j:Int)+n->(L5 k e f n j s).leaf ρ=some r->
 ∃(i:Nat) (ef:List (SB×Bool)),bV ρ ef/\e.den ρ=(i:Int)/\(f (.int k (.lit (Int.ofNat i))) { s with pc:=ef }).leaf ρ=some r
 |0,j,s,_,_,_,h=>by simp [L5,T.leaf] at h
 |n+1,j,s,hp,U,Z,h=>by
  simp only [L5] at h;split at h
  ·exact⟨j,s.pc,hp,J,h⟩
  ·obtain⟨fN,fA,h3⟩:=cH hp h;rw [gH] at h3;split at h3
   ·rename_i he;simp only [V.den,beq_iff_eq] at he
    grind
   ·rename_i he;simp only [V.den,beq_eq_false_iff_ne,ne_eq] at he;have hj:(Int.ofNat j)=(j:Int):=rfl;rw [hj] at he;obtain⟨i,jK,jD,q1,q2⟩:=L4 n (j+1) (s:={ s with pc:=fN }) fA (by push_cast; omega) (by push_cast at Z ⊢; omega) h3
    grind
theorem nw {α:Type} {ρ:Nat->Int} {s:St} (hp:bV ρ s.pc) {i n:V} {f:St->T α} {r:α} (h:(yG s i n f).leaf ρ=some r) :
 ∃ef,bV ρ ef/\0<=i.den ρ/\i.den ρ<n.den ρ/\(f { s with pc:=ef }).leaf ρ=some r:=by
 unfold yG at h;obtain⟨fN,fA,U⟩:=cH hp h;split at U
 ·simp [T.leaf] at U
 ·rename_i e1;rw [dY,decide_eq_false_iff_not] at e1;obtain⟨jK,jD,Z⟩:=cH (s:={ s with pc:=fN }) fA U;split at Z
  ·rename_i e2;rw [dY,decide_eq_true_eq] at e2;simp only [V.den,amr] at e1
   grind
  ·simp [T.leaf] at Z
theorem zV {E:En} {h0:Array Obj} {tt:TT} {t:Nat} {x ix:W} {ui:Value} {f:W->St->T (W×St)} {r:W×St} {s:St} (hp:bV E.ρ s.pc) (yX:VR E h0 ix ui) (h:(HL tt t x ix s f).leaf E.ρ=some r) :
 ∃ix' ef,bV E.ρ ef/\VR E h0 ix' ui/\(f ix' { s with pc:=ef }).leaf E.ρ=some r:=by
 unfold HL at h;split at h
 ·exact⟨ix,s.pc,hp,yX,h⟩
 ·split at h
  ·rename_i k e _;split at h
   ·rename_i n hn;obtain⟨fN,fA,U,Z,h3⟩:=nw hp h;simp only [V.den] at Z;obtain⟨i,jK,jD,q1,q2⟩:=L4 n 0 (s:={ s with pc:=fN }) fA (by simpa using U) (by simpa using Z) h3;refine⟨_,jK,jD,?_,q2⟩;simp only [VR,V.den] at yX ⊢
    grind
   ·simp [T.leaf] at h
  ·simp [T.leaf] at h
theorem Gx {ro:Nat->Prop} {h:Array Obj} {t:Nat} {d:D} {v:Value} (r:Rd ro h (.sl t) d v):(0<d.l.length->∃a n cap,v= .slice (some a) n cap)/\(d= .i 1->v= .slice none 0 0)/\(d= .i 2->∃a n cap,v= .slice (some a) n cap):=by
 generalize hc:CK.sl t=c at r
 cases r with
 |int k n=>simp at hc
 |bool b=>simp at hc
 |str s=>simp at hc
 |nil t=>exact⟨by simp [D.l],fun _=>rfl,ad⟩
 |vO t a cap=>exact⟨by simp [D.l],ad,fun _=> ⟨a,0,cap,rfl⟩⟩
 |one t c b o cap ds f hr eJ hb U Z=>exact⟨fun _=> ⟨_,_,_,rfl⟩,fun q=>by cases ds<;>simp [dL] at q,fun q=>by cases ds<;>simp [dL] at q⟩
 |many t cs b o cap rows f hr eJ hb Y U Z=>exact⟨fun _=> ⟨_,_,_,rfl⟩,fun q=>by cases rows<;>simp [dL] at q,fun q=>by cases rows<;>simp [dL] at q⟩
theorem IA {P:Program} {E:En} {w:World} {tt:TT} (cJ:eA P tt) {t e:Nat} {ti:TI} (fm:tt t=some ti) (hk:ti.kind= .slice e) {u:Value} {b:Bool} (hu:(b=true/\u= .slice none 0 0)\/(b=false/\∃a n cap,u= .slice (some a) n cap)) {s s':St} {op:BinOp} {v:W} {ρ:Nat->Int}
 (h:(Xz s op b).leaf ρ=some (v,s')):s'=s/\∃y,(binOp op t u (.slice none 0 0)).run P w= .ok y w/\VR E w.heap v y/\(∀cs ds,¬(u= .agg cs/\(Value.slice none 0 0)= .agg ds))/\¬(u= .nilIface/\(Value.slice none 0 0)= .nilIface):=by
 obtain⟨d,U,Z⟩:=rN (cJ t ti fm);rw [hk] at Z
 have he:(Op.equal t u (.slice none 0 0)).run P w= .ok b w:=by have hm:Op.equal t u (.slice none 0 0)=Op.equalIn (9999+1) t u (.slice none 0 0):=rfl;rw [hm];generalize (9999:Nat)=n;cases d<;>simp only [HT] at Z;rcases hu with ⟨rfl,rfl⟩|⟨rfl,a,m,cap,rfl⟩ <;>simp [Op.equalIn,yr U]
 have I0:(∀k n,u≠.int k n)/\(∀s,u≠.string s)/\(∀k n,u≠.float k n)/\(∀k n m,u≠.complex k n m):=by
  grind
 obtain⟨q1,q2⟩:=binOp_eql he I0.1 I0.2.1 I0.2.2.1 I0.2.2.2;unfold Xz at h;split at h
 ·simp only [T.leaf,ah,ak] at h;obtain⟨rfl,rfl⟩:=h;exact⟨rfl,_,q1,by simp only [VR,SB.den],ad,ad⟩
 ·simp only [T.leaf,ah,ak] at h;obtain⟨rfl,rfl⟩:=h;exact⟨rfl,_,q2,by simp only [VR,SB.den],ad,ad⟩
 ·simp [T.leaf] at h
theorem U! {P:Program} {E:En} {w:World} {tt:TT} (cJ:eA P tt) {t:Nat} {a b:W} {e:V} (hn:NW tt t a b=some e) {u u':Value} (ha:VR E w.heap a u) (hb:VR E w.heap b u') {s s':St} (hp:bV E.ρ s.pc) {op:BinOp} {v:W} (h:(aeC s e op).leaf E.ρ=some (v,s')) :
 s'.bD=s.bD/\s'.h=s.h/\bV E.ρ s'.pc/\∃y,(binOp op t u u').run P w= .ok y w/\VR E w.heap v y/\(∀cs ds,¬(u= .agg cs/\u'= .agg ds))/\¬(u= .nilIface/\u'= .nilIface):=by
 unfold NW at hn;split at hn
 ·split at hn
  ·split at hn
   ·rename_i ti fm;split at hn
    ·rename_i el hk;simp only [ah] at hn;subst hn;simp only [VR] at ha hb;subst hb;obtain⟨k1,k2,k3⟩:=Gx ha;unfold aeC at h;obtain⟨fN,fA,U⟩:=cH hp h;split at U
     ·rename_i t1;rw [dY,decide_eq_true_eq,cE] at t1;simp only [V.den] at t1;obtain⟨rfl,q⟩:=IA (P:=P) (E:=E) (w:=w) cJ fm hk (.inr ⟨rfl,k1 J⟩) U
      grind
     ·obtain⟨jK,jD,Z⟩:=cH (s:={ s with pc:=fN }) fA U;split at Z
      ·rename_i t2;rw [iw,lV,beq_iff_eq] at t2;simp only [V.den] at t2;obtain⟨rfl,q⟩:=IA (P:=P) (E:=E) (w:=w) cJ fm hk (.inl ⟨rfl,k2 (iJ t2)⟩) Z
       grind
      ·obtain⟨UR,IZ,h3⟩:=cH (s:={ s with pc:=jK }) jD Z;split at h3
       ·rename_i t3;rw [iw,lV,beq_iff_eq] at t3;simp only [V.den] at t3;obtain⟨rfl,q⟩:=IA (P:=P) (E:=E) (w:=w) cJ fm hk (.inr ⟨rfl,k3 (iJ t3)⟩) h3
        grind
       ·simp [T.leaf] at h3
    grind
   grind
  grind
 grind
end Go.As
end

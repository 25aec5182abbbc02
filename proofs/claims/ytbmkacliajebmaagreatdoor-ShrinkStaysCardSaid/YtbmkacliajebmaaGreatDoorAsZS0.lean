import GoSem.Claim
import Derived.Orders
import Derived.Scope
import Derived.LoopN
import Derived.Below
import GoSem.Core.View
import GoSem.Core.Layout
import GoSem.Op.Equal
import Derived.WalkKit
import Derived.Lib.Strings
import Derived.Laws.IdiomStrings
import Derived.Laws.RangeString
import Derived.Laws.StructEq
set_option linter.unusedSectionVars false
set_option linter.unusedVariables false
set_option linter.unusedSimpArgs false
abbrev af:=@if_neg
abbrev ag:=@Option.some.injEq
abbrev ah:=@if_pos
abbrev ak:=@Prod.mk.injEq
abbrev an:=@Bool.and_eq_true
abbrev aq:=@Nat.eq_of_beq_eq_true
abbrev au:=@Nat.le_refl
abbrev aw:=@List.mem_cons
abbrev ax:=@List.map_cons
abbrev ay:=@Nat.zero_add
abbrev az:=@Option.getD_some
abbrev aA:=@List.getElem_mem
abbrev aC:=@Int.lt_irrefl
abbrev aF:=@List.nil_append
abbrev aG:=@List.getElem?_cons_zero
abbrev aH:=@List.getElem?_cons_succ
abbrev aK:=@List.length_cons
abbrev aL:=@Bool.false_eq_true
abbrev aM:=@List.getElem?_eq_getElem
abbrev aO:=@Option.map_eq_some_iff
abbrev aP:=@List.cons_append
abbrev aQ:=@Nat.lt_or_ge
abbrev aR:=@List.all_eq_true
abbrev aT:=@List.mem_map
abbrev aW:=@List.getElem?_eq_some_iff
abbrev aX:=@List.length_nil
abbrev aZ:=@List.length_take
abbrev a8:=@List.length_append
abbrev bd:=@Nat.add_zero
abbrev bg:=@Int.natCast_one
abbrev bh:=@Array.length_toList
abbrev bj:=@Int.toNat_natCast
abbrev bk:=@Nat.le_trans
abbrev bn:=@List.getElem?_map
abbrev bo:=@Option.isSome_some
abbrev bp:=@List.drop_eq_getElem_cons
abbrev bq:=@List.mem_of_mem_drop
abbrev br:=@Array.getElem?_toList
abbrev bu:=@List.mem_of_getElem?
abbrev bw:=@Option.map_some
abbrev al6:=@List.length_drop
abbrev al7:=@List.length_map
abbrev al8:=@Nat.add_assoc
abbrev al9:=@List.mem_of_mem_take
abbrev ama:=@Nat.zero_mul
abbrev amb:=@List.mem_append
abbrev amc:=@Array.getElem?_eq_some_iff
abbrev amd:=@Nat.add_mul
abbrev ame:=@List.eq_nil_of_length_eq_zero
abbrev amf:=@Nat.le_of_ble_eq_true
abbrev amg:=@Bool.eq_iff_iff
abbrev amh:=@List.drop_zero
abbrev ami:=@List.mem_range
abbrev amj:=@List.append_assoc
abbrev amk:=@Bool.not_eq_true'
abbrev aml:=@Nat.zero_le
abbrev amm:=@List.append_nil
abbrev amn:=@List.not_mem_nil
abbrev amo:=@Nat.mod_eq_of_lt
abbrev amp:=@Nat.lt_of_lt_of_le
abbrev amq:=@List.length_pos_iff
abbrev amr:=@List.take_append_drop
abbrev ams:=@List.nodup_cons
abbrev amt:=@Nat.le_succ
abbrev amu:=@UInt8.toNat_ofNat'
abbrev amv:=@Nat.mul_le_mul_right
abbrev amw:=@List.take_succ_cons
abbrev amx:=@List.take_length
abbrev amy:=@Option.isSome_iff_exists
abbrev amz:=@List.length_replicate
abbrev amA:=@List.mem_filter
abbrev amB:=@Option.getD_none
abbrev amC:=@List.drop_of_length_le
abbrev amD:=@List.length_eq_zero_iff
abbrev amE:=@List.map_map
abbrev amF:=@List.getElem?_drop
abbrev amG:=@List.getElem?_take
abbrev amH:=@Array.getD_eq_getD_getElem?
abbrev amI:=@Bool.or_eq_true
abbrev amJ:=@List.mapM_cons
abbrev amK:=@Int.not_lt
abbrev amL:=@Nat.eq_zero_or_pos
abbrev amM:=@Int.natCast_zero
abbrev amN:=@Nat.one_mul
abbrev amO:=@Option.bind_eq_some_iff
abbrev amP:=@List.set_cons_zero
abbrev amQ:=@List.set_cons_succ
abbrev amR:=@Bool.eq_false_iff
abbrev amS:=@List.getElem_of_mem
abbrev amT:=@Array.getElem?_replicate
abbrev amU:=@Nat.blt_eq
abbrev amV:=@List.getElem?_nil
abbrev amW:=@List.map_congr_left
abbrev amX:=@List.mem_iff_getElem?
abbrev amY:=@Nat.ne_of_beq_eq_false
abbrev amZ:=@Int.tmod_lt_of_pos
abbrev am0:=@List.ext_getElem?
abbrev am1:=@Option.bind_eq_bind
abbrev am2:=@List.getElem?_eq_none_iff
abbrev am3:=@Nat.mul_pos
abbrev am4:=@Bool.not_true
abbrev am5:=@Bool.false_or
abbrev am6:=@List.getElem?_eq_none
abbrev am7:=@Nat.ble_eq_true_of_le
abbrev am8:=@List.getElem?_range
abbrev am9:=@List.mem_cons_of_mem
abbrev ana:=@Nat.pow_succ
abbrev anb:=@Int.ofNat_inj
abbrev anc:=@List.foldl_cons
abbrev ane:=@Bool.or_false
abbrev anf:=@List.eraseIdx_cons_succ
abbrev ang:=@List.foldlM_cons
abbrev anh:=@Nat.mul_one
abbrev ani:=@List.length_set
abbrev anj:=@Int.ofNat_lt
abbrev ank:=@List.map_append
abbrev anl:=@List.map_nil
abbrev anm:=@List.eq_nil_iff_forall_not_mem
abbrev ann:=@List.take_of_length_le
abbrev ano:=@List.getElem?_of_mem
abbrev anp:=@List.getD_eq_getElem?_getD
abbrev anq:=@List.all_append
abbrev anr:=@Option.isSome_none
abbrev ans:=@Nat.pow_zero
abbrev ant:=@Nat.mul_comm
abbrev anu:=@Array.toList_inj
abbrev anv:=@Array.getElem?_modify
abbrev anw:=@List.getElem?_append
abbrev anx:=@Nat.mul_le_mul
abbrev anz:=@List.map_take
abbrev anA:=@List.map_drop
abbrev anB:=@Array.toList_map
abbrev anC:=@Nat.le_of_mul_le_mul_right
abbrev anD:=@List.drop_succ_cons
abbrev anE:=@List.getElem?_append_right
abbrev anF:=@List.take_set_of_le
abbrev anG:=@List.drop_set_of_lt
abbrev anH:=@Nat.div_mul_le_self
abbrev anI:=@List.mem_singleton
abbrev anJ:=@List.replicate_succ
abbrev anK:=@Nat.lt_trichotomy
abbrev anL:=@List.all_cons
abbrev anM:=@Array.mem_of_getElem?
abbrev anN:=@List.length_reverse
abbrev anO:=@Nat.min_eq_left
abbrev anP:=@List.getElem?_toArray
abbrev anQ:=@Array.getElem?_eq_none
abbrev anR:=@Array.getElem?_setIfInBounds
abbrev anS:=@List.any_eq_true
abbrev anT:=@List.drop_drop
abbrev anU:=@Nat.add_sub_cancel_left
abbrev anV:=@Nat.sub_zero
abbrev anW:=@List.take_succ_eq_append_getElem
abbrev anX:=@List.take_left
abbrev anY:=@List.mem_append_right
abbrev anZ:=@Array.getElem?_append_left
abbrev an0:=@List.getElem?_append_left
abbrev an1:=@List.eq_of_mem_replicate
abbrev an2:=@List.singleton_append
abbrev an3:=@Array.mapM_eq_mapM_toList
abbrev an4:=@Array.getElem?_eq_none_iff
abbrev an5:=@Array.getElem?_eq_getElem
abbrev an6:=@List.contains_iff_mem
abbrev an7:=@List.getElem_set_self
abbrev an8:=@Int.tmod_eq_emod_of_nonneg
theorem J{P:Prop}(h:P:=by omega):P:=h
theorem aa{P:Prop}(h:P:=by kernel_rfl):P:=h
theorem ad{P:Prop}(h:P:=by simp):P:=h
theorem ae{P:Prop}(h:P:=by decide):P:=h
section
namespace Go.As
inductive Tr (α:Type) where
 |nil
 |node (v:Option α) (l r:Tr α)
 deriving Inhabited
noncomputable def Tr.get {α:Type} (t:Tr α) (k:Nat):Option α:=
 Tr.rec (motive:=fun _=>Nat->Option α) (fun _=>none)
  (fun v _ _ il ir k=>Nat.rec (motive:=fun _=>Option α) v (fun k' _=>Bool.rec (motive:=fun _=>Option α) (ir (Nat.div k' 2)) (il (Nat.div k' 2)) (Nat.beq (Nat.mod k' 2) 0)) k) t k
def Tr.val {α:Type}:Tr α->Option α
 | .nil=>none
 | .node v _ _=>v
def Tr.left {α:Type}:Tr α->Tr α
 | .nil=> .nil
 | .node _ l _=>l
def Tr.right {α:Type}:Tr α->Tr α
 | .nil=> .nil
 | .node _ _ r=>r
noncomputable def Tr.mkL {α:Type} (v:Option α) (x r:Tr α):Tr α:=Tr.rec (motive:=fun _=>Tr α) (.node v .nil r) (fun a b c _ _=> .node v (.node a b c) r) x
noncomputable def Tr.mkR {α:Type} (v:Option α) (l x:Tr α):Tr α:=Tr.rec (motive:=fun _=>Tr α) (.node v l .nil) (fun a b c _ _=> .node v l (.node a b c)) x
noncomputable def Tr.Tj {α:Type} (f:Nat):Tr α->Nat->Option α->Tr α:=
 Nat.rec (motive:=fun _=>Tr α->Nat->Option α->Tr α) (fun t _ _=>t)
  (fun _ ih t k x=>Tr.rec (motive:=fun _=>Tr α)
   (Nat.rec (motive:=fun _=>Tr α) (.node x .nil .nil) (fun k' _=>Bool.rec (motive:=fun _=>Tr α) (Tr.mkR none .nil (ih .nil (Nat.div k' 2) x)) (Tr.mkL none (ih .nil (Nat.div k' 2) x) .nil) (Nat.beq (Nat.mod k' 2) 0)) k)
   (fun v l r _ _=>Nat.rec (motive:=fun _=>Tr α) (.node x l r) (fun k' _=>Bool.rec (motive:=fun _=>Tr α) (Tr.mkR v l (ih r (Nat.div k' 2) x)) (Tr.mkL v (ih l (Nat.div k' 2) x) r) (Nat.beq (Nat.mod k' 2) 0)) k) t) f
noncomputable def Tr.put {α:Type} (t:Tr α) (k:Nat) (v:Option α):Tr α:=Tr.Tj (Nat.succ k) t k v
theorem aaN (a b:Nat):Nat.beq a b=decide (a=b):=by rw [amg];simp
theorem BO {β:Sort _} (a b:β) (c:Nat):Bool.rec (motive:=fun _=>β) a b (Nat.beq c 0)=if c=0 then b else a:=by
 by_cases h:c=0
 ·subst h; rfl
 ·rw [af h];have:Nat.beq c 0=false:=by rw [aaN]; simpa using h
  rw [this]
theorem Tr.nN {α:Type} (v:Option α) (l r:Tr α) (k:Nat) :
 (Tr.node v l r).get k=if k=0 then v else if (k-1) % 2=0 then l.get ((k-1) / 2) else r.get ((k-1) / 2):=by
 cases k with
 |zero=>rfl
 |succ k=> simp only [Nat.add_sub_cancel,Nat.succ_ne_zero,if_false];exact BO _ _ _
theorem Tr.vS {α:Type} (t:Tr α) (k:Nat) :
 t.get k=if k=0 then t.val else if (k-1) % 2=0 then t.left.get ((k-1) / 2) else t.right.get ((k-1) / 2):=by
 cases t with
 |nil=> have h: ∀j,(Tr.nil:Tr α).get j=none:=fun _=>rfl;simp [h,Tr.val,Tr.left,Tr.right]
 |node v l r=>rw [Tr.nN]; rfl
theorem Tr.aeA {α:Type} (v:Option α) (x r:Tr α):Tr.mkL v x r= .node v x r:=by cases x<;>rfl
theorem Tr.aez {α:Type} (v:Option α) (l x:Tr α):Tr.mkR v l x= .node v l x:=by cases x<;>rfl
theorem Tr.Tf {α:Type} (f:Nat) (t:Tr α) (v:Option α):Tr.Tj (f+1) t 0 v= .node v t.left t.right:=by cases t<;>rfl
theorem Tr.Ti {α:Type} (f:Nat) (t:Tr α) (k:Nat) (v:Option α):Tr.Tj (f+1) t (k+1) v=if k % 2=0 then .node t.val (Tr.Tj f t.left (k / 2) v) t.right else .node t.val t.left (Tr.Tj f t.right (k / 2) v):=by rw [<- Tr.aeA,<- Tr.aez];cases t<;>exact BO _ _ _
theorem Tr.Yv {α:Type}: ∀(f:Nat) (t:Tr α) (k:Nat) (v:Option α) (j:Nat),k<f->(Tr.Tj f t k v).get j=if j=k then v else t.get j:=by
 intro f
 induction f with
 |zero=>intro t k v j hk; omega
 |succ f ih=>
  intro t k v j hk
  cases k with
  |zero=> rw [Tr.Tf,Tr.nN,Tr.vS t];split<;>simp_all
  |succ k=>
   rw [Tr.Ti,Tr.vS t j];split
   ·rename_i h;rw [Tr.nN];by_cases hj:j=0
    ·subst hj; simp
    ·rw [af hj,af hj];by_cases Z:(j-1) % 2=0
     ·rw [ah Z,ah Z,ih _ _ _ _ J];by_cases h3:j=k+1
      ·subst h3; simp
      ·rw [af h3,af J]
     ·rw [af Z,af Z,af (by intro h3; subst h3; simp at Z; omega)]
   ·rename_i h;rw [Tr.nN];by_cases hj:j=0
    ·subst hj; simp
    ·rw [af hj,af hj];by_cases Z:(j-1) % 2=0
     ·rw [ah Z,ah Z,af (by intro h3; subst h3; simp at Z; omega)]
     ·rw [af Z,af Z,ih _ _ _ _ J];by_cases h3:j=k+1
      ·subst h3; simp
      ·rw [af h3,af J]
theorem Tr.bR {α:Type} (t:Tr α) (k:Nat) (v:Option α) (j:Nat):(t.put k v).get j=if j=k then v else t.get j:=
 Tr.Yv (Nat.succ k) t k v j (Nat.lt_succ_self _)
inductive D where
 |i (n:Int)
 |p (a b:D)
 deriving DecidableEq,Inhabited
def zN:Int->Nat
 | .ofNat n=>2*n
 | .negSucc n=>2*n+1
theorem Vi {a b:Int} (h:zN a=zN b):a=b:=by
 cases a<;>cases b<;>simp only [zN] at h
 all_goals grind
def om (a b:Nat):Nat:=2 ^ a*(2*b+1)
theorem Ai: ∀{a a' b b':Nat},om a b=om a' b'->a=a'/\b=b'
 |0,0,b,b',h=>by simp only [om,ans,amN] at h; omega
 |0,a'+1,b,b',h=>by
  simp only [om,ans,amN,ana] at h
  grind
 |a+1,0,b,b',h=>by
  simp only [om,ans,amN,ana] at h
  grind
 |a+1,a'+1,b,b',h=>by
  have U:2 ^ (a+1)*(2*b+1)=2*om a b:=by unfold om; rw [ana,ant (2 ^ a) 2,Nat.mul_assoc]
  have Z:2 ^ (a'+1)*(2*b'+1)=2*om a' b':=by unfold om; rw [ana,ant (2 ^ a') 2,Nat.mul_assoc]
  have h3:om a b=om a' b':=by
   have:om (a+1) b=om (a'+1) b':=h;unfold om at this
   grind
  obtain⟨e1,e2⟩:=Ai h3
  grind
def D.enc:D->Nat
 | .i n=>2*zN n
 | .p a b=>2*om a.enc b.enc+1
theorem D.fT: ∀{a b:D},a.enc=b.enc->a=b
 | .i n,.i m,h=>by simp only [D.enc] at h;rw [Vi (a:=n) (b:=m) J]
 | .i n,.p a b,h=>by simp only [D.enc] at h; omega
 | .p a b,.i n,h=>by simp only [D.enc] at h; omega
 | .p a b,.p c d,h=>by simp only [D.enc] at h;obtain⟨U,Z⟩:=Ai (a:=a.enc) (b:=b.enc) (a':=c.enc) (b':=d.enc) J;rw [D.fT U,D.fT Z]
open Classical in
noncomputable def dec (z:Int):D:=if h: ∃d:D,(d.enc:Int)=z then h.choose else .i 0
def enc (d:D):Int:=(d.enc:Int)
theorem bB (d:D):dec (enc d)=d:=by unfold dec;have h: ∃d':D,(d'.enc:Int)=enc d:=⟨d,rfl⟩;rw [dif_pos h];have:=h.choose_spec;apply D.fT;unfold enc at this;exact Int.ofNat.inj this
theorem fT {a b:D} (h:enc a=enc b):a=b:=by rw [<- bB a,h,bB]
def D.n:D->Int
 | .i n=>n
 | .p _ _=>0
def D.l:D->List D
 | .i _=>[]
 | .p a b=>a::b.l
def dL:List D->D
 |[]=> .i 0
 |a::l=> .p a (dL l)
@[simp] theorem bM: ∀l:List D,(dL l).l=l
 |[]=>rfl
 |a::l=>by simp [dL,D.l,bM l]
theorem EE {a b:List D} (h:dL a=dL b):a=b:=by rw [<- bM a,h,bM]
def D.at (d:D) (i:Int):D:=(d.l[i.toNat]?).getD (.i 0)
def D.hd (d:D) (j:Nat):D:=(d.l[j]?).getD (.i 0)
def py (l:List UInt8):D:=dL (l.map fun b=> .i (b.toNat:Int))
def td (s:ByteArray):D:=py s.data.toList
def kU (l:List Nat):D:=dL (l.map fun b=> .i (Int.ofNat b))
theorem Pb {a b:List UInt8} (h:py a=py b):a=b:=by
 have:=EE h
 have Ld: ∀{x y:UInt8},(D.i (x.toNat:Int))= .i (y.toNat:Int)->x=y:=by intro x y h;simp only [D.i.injEq,anb] at h;exact UInt8.toNat_inj.1 h
 induction a generalizing b with
 |nil=>cases b with
  |nil=>rfl
  |cons y b=>simp at this
 |cons x a ih=>cases b with
  |nil=>simp at this
  |cons y b=> simp only [ax,List.cons.injEq] at this;rw [Ld this.1,ih (by unfold py; rw [this.2]) this.2]
theorem EB {a b:ByteArray} (h:td a=td b):a=b:=by
 have:=Pb h
 cases a with
 |mk x=>cases b with
  |mk y=>simp only [ByteArray.mk.injEq] at *; exact anu.1 this
theorem zt (l:List Nat) (h: ∀b∈l,b<256):kU l=py (l.map UInt8.ofNat):=by unfold kU py;congr 1;rw [amE];apply amW;intro b Y;have:=h b Y;simp [amo this]
theorem Z1 (s:ByteArray):(td s).l.length=s.size:=by unfold td py;rw [bM,al7];rfl
inductive e9 where
 |len
 |at
 |cell (j:Nat)
 |num
 |mk
 |cons
 |snoc
 |cat
 |take
 |drop
 |set
 |bit
 |norm
 |sub
 |fill
 |idx
 |cnt
 |con
 |slt
 |KO
 |Ds
 |xo
 |KP
 |rep
 deriving DecidableEq,Inhabited
def fu (d:D) (l:List D):D:=match l with
 |[]=>if d= .i 1 then .i 1 else .i 2
 |l=>dL l
theorem fb (d:D) (l:List D):(fu d l).l=l:=by
 cases l with
 |nil=>simp only [fu]; split<;>rfl
 |cons a l=>simp [fu]
theorem vc {d:D} {l:List D} (h:l≠[]):fu d l=dL l:=by
 cases l with
 |nil=>exact absurd rfl h
 |cons a l=>rfl
theorem oP {d:D} (h:d≠.i 1):fu d []= .i 2:=by
 show (if d= .i 1 then D.i 1 else D.i 2)= .i 2
 grind
theorem Uf {d:D} (h:d≠.i 1) (l:List D):fu d l≠.i 1:=by
 cases l with
 |nil=>rw [oP h]; simp
 |cons a l=>simp [fu,dL]
theorem xL {d:D} {l m:List D} (h:d= .i 1->l= []):fu (fu d l) m=fu d m:=by
 cases m with
 |cons a m=>rfl
 |nil=>
  by_cases U:d= .i 1
  ·rw [h U,U]; rfl
  ·rw [oP U,oP (Uf U l)]
def qo (z:Int):List D->Int->Int
 |[],_=> -1
 |d::l,i=>match d with
  | .i n=>if n=z then i else qo z l (i+1)
  |_=>qo z l (i+1)
def EF (l:List D) (z:Int):Int:=qo z l 0
def Pa:List D->List D->Bool
 |[],_=>true
 |_::_,[]=>false
 |a::x,b::y=>decide (a=b)&&Pa x y
def Uh (l x:List D):Bool:=match l with
 |[]=>Pa x []
 |a::l=>Pa x (a::l)||Uh l x
def Z6 (l:List D) (z:Int):Int:=match l with
 |[]=>0
 |d::l=>(if d= .i z then 1 else 0)+Z6 l z
def LR:List D->List D->Bool
 |[],[]=>false
 |[],_::_=>true
 |_::_,[]=>false
 |a::x,b::y=>if a.n<b.n then true else if b.n<a.n then false else LR x y
def fC (ds:List D) (z:Int) (x:D):List D:=if z<0 then ds else ds.set z.toNat x
theorem gu (ds:List D) (z:Int) (x:D):(fC ds z x).length=ds.length:=by
 unfold fC; split
 all_goals grind
theorem ud (ds:List D) (k:Nat) (x:D):fC ds (k:Int) x=ds.set k x:=by unfold fC; rw [af J]; rfl
def jd:D->D
 | .p k _=>k
 |d=>d
def Fm:D->D
 | .p _ v=>v
 |d=>d
def dH:List D->D->Option D
 |[],_=>none
 |d::l,k=>if jd d=k then some (Fm d) else dH l k
def gW:List D->D->D->List D
 |[],k,v=>[.p k v]
 |d::l,k,v=>if jd d=k then .p k v::l else d::gW l k v
def Ff:List D->D->List D
 |[],_=>[]
 |d::l,k=>if jd d=k then l else d::Ff l k
noncomputable def e9.den (o:e9) (x y:Int):Int:=match o with
 | .len=>((dec x).l.length:Int)
 | .at=>enc ((dec x).at y)
 | .cell j=>enc ((dec x).hd j)
 | .num=>(dec x).n
 | .mk=>enc (.i x)
 | .cons=>enc (.p (dec x) (dec y))
 | .snoc=>enc (dL ((dec x).l++ [dec y]))
 | .cat=>enc (dL ((dec x).l++(dec y).l))
 | .take=>enc (fu (dec x) ((dec x).l.take y.toNat))
 | .drop=>enc (fu (dec x) ((dec x).l.drop y.toNat))
 | .set=>match dec y with
   | .p q v=>enc (dL (fC (dec x).l q.n v))
   |_=>x
 | .bit=>enc (.i (if (dec x).n=0 then 0 else 1))
 | .norm=>enc (dec x)
 | .sub=>enc (dL (((dec x).l.take ((dec y).hd 1).n.toNat).drop ((dec y).hd 0).n.toNat))
 | .fill=>match dec y with
   | .p q v=>enc (dL ((dec x).l.take q.n.toNat++List.replicate ((dec x).l.length-q.n.toNat) v))
   |_=>x
 | .idx=>EF (dec x).l y
 | .cnt=>Z6 (dec x).l y
 | .con=>if Uh (dec x).l (dec y).l then 1 else 0
 | .slt=>if LR (dec x).l (dec y).l then 1 else 0
 | .KO=>if (dH (dec x).l (dec y)).isSome then 1 else 0
 | .Ds=>enc ((dH (dec x).l (dec y)).getD (.i 0))
 | .xo=>match dec y with
   | .p k v=>enc (dL (gW (dec x).l k v))
   |_=>x
 | .KP=>enc (dL (Ff (dec x).l (dec y)))
 | .rep=>enc (dL (List.replicate x.toNat (dec y)))
def e9.tag:e9->Nat
 | .len=>0
 | .at=>1
 | .cell j=>j+23
 | .num=>2
 | .mk=>3
 | .cons=>4
 | .snoc=>5
 | .cat=>6
 | .take=>7
 | .drop=>8
 | .set=>9
 | .bit=>10
 | .norm=>11
 | .sub=>12
 | .fill=>13
 | .idx=>14
 | .cnt=>15
 | .con=>16
 | .slt=>17
 | .KO=>18
 | .Ds=>19
 | .xo=>20
 | .KP=>21
 | .rep=>22
theorem e9.H! {a b:e9} (h:a.tag=b.tag):a=b:=by
 cases a<;>cases b<;>simp only [e9.tag] at h<;>first |rfl|(congr 1; omega)|omega
inductive CK where
 |int (k:IntKind)
 |bool
 |str
 |sl (t:Nat)
 deriving DecidableEq,Inhabited
inductive Row where
 |one (c:CK)
 |many (cs:List CK)
 deriving DecidableEq,Inhabited
def Row.es:Row->Nat
 | .one _=>1
 | .many cs=>cs.length
def rowOf (t:Nat):Row:=match t with
 |0=> .one (.int .i64)
 |1=> .one (.int .i64)
 |2=> .one .str
 |3=> .many [.int .u8,.str,.int .i64,.str,.int .i64]
 |4=> .many [.str,.sl 2,.sl 5]
 |5=> .many [.int .u8,.int .u8,.int .i64,.int .i64,.int .i64,.int .i64,.sl 6]
 |6=> .many [.int .u8,.str,.int .i64,.sl 6]
 |7=> .many [.int .i64,.int .i64,.bool,.int .i64,.sl 0,.sl 0]
 |8=> .many [.int .i64,.sl 0,.int .u8,.int .i64,.int .i64,.int .i64]
 |9=> .many [.int .i64,.int .u8,.int .i64,.int .i64,.int .i64]
 |10=> .one (.sl 0)
 |11=> .many [.int .i64,.int .i64,.int .i64]
 |12=> .many [.int .i64,.int .i64]
 |13=> .many [.int .i64,.int .u8,.int .i64,.int .i64,.int .i64]
 |14=> .one (.int .u8)
 |15=> .one (.sl 0)
 |16=> .many [.sl 7,.sl 8]
 |_=> .one .bool
def mapOf (t:Nat):Row×Row:=match t with
 |0=>(.one (.int .i64),.one (.int .i64))
 |1=>(.one .str,.one (.int .i64))
 |2=>(.one (.int .i64),.one (.sl 0))
 |4=>(.many [.int .i64,.int .i64],.one (.int .i64))
 |5=>(.many [.int .i64,.int .i64],.one (.sl 0))
 |6=>(.one (.int .i64),.many [.int .i64,.int .i64,.int .i64])
 |_=>(.one (.int .i64),.one .bool)
inductive FC where
 |ck (c:CK)
 |own (t:Nat)
 |mp (t:Nat)
 deriving DecidableEq,Inhabited
structure FK where
 ptr:Bool
 cs:List FC
def qj (t:Nat):FK:=match t with
 |0=> ⟨false,[.own 0]⟩
 |1=> ⟨true,[.ck (.int .i64),.mp 0,.ck (.int .i64),.ck (.int .i64),.ck .bool,.own 0]⟩
 |_=> ⟨true,[.ck (.sl 0),.ck (.int .i64),.ck .bool,.ck .bool]⟩
def oa (c:CK) (d:D):Prop:=match c with
 | .int _=>d= .i d.n
 | .bool=>d= .i 0\/d= .i 1
 |_=>True
def wg (cs:List CK) (d:D):Prop:=d=dL d.l/\d.l.length=cs.length/\∀(j:Nat) (c:CK) (x:D),cs[j]?=some c->d.l[j]?=some x->oa c x
def pF (r:Row) (d:D):Prop:=match r with
 | .one c=>oa c d
 | .many cs=>wg cs d
def rX (r:Row) (d:D):Prop:=d=dL d.l/\(∀x∈d.l,pF r x)/\d.l≠[]
end Go.As
end
section
namespace Go.As
noncomputable section
inductive V where
 |lit (n:Int)
 |du (i:Nat)
 |add (a b:V)
 |sub (a b:V)
 |mul (a b:V)
 |quo (a b:V)
 |rem (a b:V)
 |wrap (k:IntKind) (a:V)
 |wz (b:Nat) (e:V)
 |ej (d:D)
 |op (o:e9) (a b:V)
 |ap (f:Nat) (a:V)
 deriving DecidableEq,Inhabited
def iQ (f:Nat) (z:Int):Nat:=1000+om f (zN z)*64+63
noncomputable def V.den (ρ:Nat->Int):V->Int
 | .lit n=>n
 | .du i=>ρ i
 | .add a b=>a.den ρ+b.den ρ
 | .sub a b=>a.den ρ-b.den ρ
 | .mul a b=>a.den ρ*b.den ρ
 | .quo a b=>(a.den ρ).tdiv (b.den ρ)
 | .rem a b=>(a.den ρ).tmod (b.den ρ)
 | .wrap k a=>k.wrap (a.den ρ)
 | .wz b e=>ρ (1000+(e.den ρ).toNat*64+b)
 | .ej d=>enc d
 | .op o a b=>o.den (a.den ρ) (b.den ρ)
 | .ap f a=>ρ (iQ f (a.den ρ))
def uD:Int->Int->Bool
 | .ofNat a,.ofNat b=>Nat.beq a b
 | .negSucc a,.negSucc b=>Nat.beq a b
 |_,_=>false
def D.eqb:D->D->Bool
 | .i a,.i b=>uD a b
 | .p a b,.p c d=>match D.eqb a c with |true=>D.eqb b d|false=>false
 |_,_=>false
theorem vM {a b:Int} (h:uD a b=true):a=b:=by cases a<;>cases b<;>simp [uD] at h<;>rw [h]
theorem D.OL: ∀{a b:D},D.eqb a b=true->a=b
 | .i a,.i b,h=>by simp only [D.eqb] at h; rw [vM h]
 | .p a b,.p c d,h=>by
   simp only [D.eqb] at h;split at h
   ·rename_i U; rw [D.OL U,D.OL h]
   grind
 | .i _,.p _ _,h=>by simp [D.eqb] at h
 | .p _ _,.i _,h=>by simp [D.eqb] at h
def eQ:V->V->Bool
 | .lit a,.lit b=>a == b
 | .du i,.du j=>Nat.beq i j
 | .add a b,.add c d=>match eQ a c with |true=>eQ b d|false=>false
 | .sub a b,.sub c d=>match eQ a c with |true=>eQ b d|false=>false
 | .mul a b,.mul c d=>match eQ a c with |true=>eQ b d|false=>false
 | .quo a b,.quo c d=>match eQ a c with |true=>eQ b d|false=>false
 | .rem a b,.rem c d=>match eQ a c with |true=>eQ b d|false=>false
 | .wrap k a,.wrap l b=>match eQ a b with |true=>decide (k=l)|false=>false
 | .wz i a,.wz j b=>match Nat.beq i j with |true=>eQ a b|false=>false
 | .ej a,.ej b=>D.eqb a b
 | .op o a b,.op q c d=>match Nat.beq o.tag q.tag with
   |true=>match eQ a c with |true=>eQ b d|false=>false
   |false=>false
 | .ap f a,.ap g b=>match Nat.beq f g with |true=>eQ a b|false=>false
 |_,_=>false
theorem cO: ∀(a b:V),eQ a b=true->a=b
 | .lit a,b,h=>by cases b<;>simp [eQ] at h; rw [h]
 | .du i,b,h=>by cases b<;>simp [eQ] at h; rw [h]
 | .add a b,c,h=>by cases c<;>simp only [eQ,aL] at h; split at h<;>first |(rename_i U; rw [cO _ _ U,cO _ _ h]; done)|simp at h
 | .sub a b,c,h=>by cases c<;>simp only [eQ,aL] at h; split at h<;>first |(rename_i U; rw [cO _ _ U,cO _ _ h]; done)|simp at h
 | .mul a b,c,h=>by cases c<;>simp only [eQ,aL] at h; split at h<;>first |(rename_i U; rw [cO _ _ U,cO _ _ h]; done)|simp at h
 | .quo a b,c,h=>by cases c<;>simp only [eQ,aL] at h; split at h<;>first |(rename_i U; rw [cO _ _ U,cO _ _ h]; done)|simp at h
 | .rem a b,c,h=>by cases c<;>simp only [eQ,aL] at h; split at h<;>first |(rename_i U; rw [cO _ _ U,cO _ _ h]; done)|simp at h
 | .wrap k a,c,h=>by cases c<;>simp only [eQ,aL] at h; split at h<;>first |(rename_i U; rw [cO _ _ U,of_decide_eq_true h]; done)|simp at h
 | .wz i a,c,h=>by cases c<;>simp only [eQ,aL] at h; split at h<;>first |(rename_i U; rw [aq U,cO _ _ h]; done)|simp at h
 | .ej a,c,h=>by cases c<;>simp only [eQ,aL] at h; rw [D.OL h]
 | .op o a b,c,h=>by
   cases c<;>simp only [eQ,aL] at h;split at h
   ·rename_i h0;split at h
    ·rename_i U;rw [e9.H! (aq h0),cO _ _ U,cO _ _ h]
    grind
   grind
 | .ap f a,c,h=>by cases c<;>simp only [eQ,aL] at h; split at h<;>first |(rename_i U; rw [aq U,cO _ _ h]; done)|simp at h
inductive SB where
 |lit (b:Bool)
 |lt (a b:V)
 |le (a b:V)
 |eq (a b:V)
 |not (s:SB)
 |and (a b:SB)
 deriving DecidableEq,Inhabited
noncomputable def SB.den (ρ:Nat->Int):SB->Bool
 | .lit b=>b
 | .lt a b=>decide (a.den ρ<b.den ρ)
 | .le a b=>decide (a.den ρ<=b.den ρ)
 | .eq a b=>a.den ρ == b.den ρ
 | .not s=>!(s.den ρ)
 | .and a b=>a.den ρ&&b.den ρ
def rM (k:IntKind) (n:Int):Int:=
 match k with
 | .i64=>if -9223372036854775808<=n/\n<=9223372036854775807 then n else k.wrap n
 | .u8=>if 0<=n/\n<=255 then n else k.wrap n
 |_=>k.wrap n
inductive Mq where
 |exact (c:Nat)
 |rest (es:Nat)
 deriving DecidableEq,Inhabited
inductive W where
 |bool (b:SB)
 |int (k:IntKind) (e:V)
 |str (s:List Nat)
 |ptr (id off:Nat)
 |tN
 |mY (cells:List W)
 |slice (id off len:Nat) (c:Mq)
 |eg
 |ro (cells:List W) (n:Nat) (full:Bool)
 |map (id:Nat)
 |rD
 |func (fn:Fn) (fs cs:List W)
 |wv
 |iface (t:Nat) (v:W)
 |xn
 |agg (cs:List W)
 |tuple (vs:List W)
 |KG (i:Nat)
 |wz (k:Nat) (ks:List IntKind)
 |ej (e:V) (t:Nat)
 |jA (e:V)
 |oS (id:Nat) (n:V) (t:Nat)
 |zq (id es:Nat) (i:V) (off:Nat)
 |emp
 |tK (id:Nat) (lo n:V) (t:Nat)
 |any
 |wZ (z:V) (t:Nat)
 deriving Inhabited
def W.undef:W:=.tuple []
def W.cells:W->List W
 | .agg cs=>cs
 |v=>[v]
def W.one:W->Bool
 | .agg _=>false
 | .tuple _=>false
 | .KG _=>false
 | .any=>false
 |_=>true
inductive dG where
 |cells (cs:List W) (e:TypeId)
 |map (es:List (W×W×Nat)) (clock:Nat)
 |jS (s:List Nat) (pos:Nat)
 |ji (m:Option Nat) (since:Nat) (seen:List Nat) (last:Nat)
 |vec (e:V) (t:Nat) (ty:TypeId) (ov:List (V×List W))
 |jM (e:V) (t:Nat)
 |qY (e:V) (t:Nat) (eR:List Nat) (ov:List (V×W))
 deriving Inhabited
structure Hp where
 m:Tr dG
 next:Nat
 res:Option Nat:=none
 deriving Inhabited
def Hp.get (h:Hp) (i:Nat):Option dG:=h.m.get i
def Hp.put (h:Hp) (i:Nat) (o:dG):Hp:=⟨h.m.put i (some o),h.next,h.res⟩
def Hp.drop (h:Hp) (i:Nat):Hp:=⟨h.m.put i none,h.next,h.res⟩
def Hp.fresh (h:Hp):Nat:=match h.res with
 |none=>h.next
 |some r=>r
def Hp.new (h:Hp) (o:dG):Hp:=match h.res with
 |none=> ⟨h.m.put h.next (some o),h.next+1,none⟩
 |some r=> ⟨h.m.put r (some o),h.next,none⟩
inductive T (α:Type) where
 |fail
 |ret (a:α)
 |split (c:SB) (t f:T α)
 deriving Inhabited
def T.bind {α β:Type}:T α->(α->T β)->T β
 | .fail,_=> .fail
 | .ret a,f=>f a
 | .split c x y,f=> .split c (x.bind f) (y.bind f)
def T.leaf {α:Type} (ρ:Nat->Int):T α->Option α
 | .fail=>none
 | .ret a=>some a
 | .split c x y=>match c.den ρ with
   |true=>x.leaf ρ
   |false=>y.leaf ρ
inductive TK where
 |bool
 |int (k:IntKind)
 |string
 |pointer (e:Nat)
 |slice (e:Nat)
 |array (n e:Nat)
 |map (k e:Nat)
 |struct (fs:List (Nat×Nat×Nat))
 |func
 |iface (plain:Bool)
 |tuple
 deriving DecidableEq,Inhabited
structure TI where
 kind:TK
 size:Nat
 bytes:Nat
 zero:List W
 eqs:Bool
 own:Option Nat:=none
 deriving Inhabited
def TK.agg (k:TK):Bool:=match k with | .struct _=>true| .array _ _=>true|_=>false
def TI.agg (i:TI):Bool:=i.kind.agg
abbrev TT:=Nat->Option TI
def bytesOf (s:ByteArray):List Nat:=s.data.toList.map (·.toNat)
def gx:Value->Option W
 | .bool b=>some (.bool (.lit b))
 | .int k n=>some (.int k (.lit n))
 | .string s=>some (.str (bytesOf s))
 | .pointer none=>some .tN
 | .slice none 0 0=>some .eg
 | .map none=>some .rD
 | .nilFunc=>some .wv
 | .nilIface=>some .xn
 | .func fn f c=>if f.isEmpty&&c.isEmpty then some (.func fn [] []) else none
 |_=>none
def ky:List Value->Option (List W)
 |[]=>some []
 |v::vs=>match gx v with
  |none=>none
  |some a=>match ky vs with
   |none=>none
   |some al5=>some (a::al5)
def ofConst:Value->Option W
 | .agg cs=>(ky cs.toList).map .agg
 | .tuple vs=>(ky vs.toList).map .tuple
 |v=>gx v
def pQ (a b:V):SB:=match eQ a b with
 |true=> .lit true
 |false=>match a with
  | .ej _=> .eq b a
  |_=> .eq a b
def yg (x:V):V:=match x with
 | .op o a _=>match o with
   | .mk=>a
   |_=> .op .num x (.lit 0)
 | .ej d=>match d with
   | .i n=> .lit n
   |_=> .op .num x (.lit 0)
 |_=> .op .num x (.lit 0)
def mW (x:V):V:=match x with
 | .lit n=> .ej (.i n)
 |x=> .op .mk x (.lit 0)
def iu (j:Nat) (x:V):V:=match x with
 | .op o a b=>match o with
   | .cons=>match j with
     |0=>a
     |j+1=>iu j b
   |_=> .op (.cell j) x (.lit 0)
 |_=> .op (.cell j) x (.lit 0)
def dO (x:V):V:=match x with
 | .op o a _=>match o with
   | .set=>dO a
   |_=> .op .len x (.lit 0)
 | .ej d=> .lit (Int.ofNat d.l.length)
 |_=> .op .len x (.lit 0)
def ew (a b:V):V:=.op .cons a b
def NV (x:V):Bool:=match x with
 | .ej d=>match d with
   | .i n=>uD n 0
   |_=>false
 |_=>false
def vf (c:CK) (x:V):W:=match c with
 | .int k=> .int k (yg x)
 | .bool=> .bool (.not (.eq (yg x) (.lit 0)))
 | .str=> .jA x
 | .sl t=> .ej x t
def hJ:List CK->Nat->V->List W
 |[],_,_=>[]
 |c::cs,j,x=>vf c (iu j x)::hJ cs (j+1) x
def gz (r:Row) (x:V):List W:=match r with
 | .one c=>[vf c x]
 | .many cs=>hJ cs 0 x
def mn (x:V):V:=match x with
 | .ej d=> .ej d
 | .op o a b=>match o with
   | .cell j=> .op (.cell j) a b
   | .at=> .op .at a b
   |o=> .op .norm (.op o a b) (.lit 0)
 |x=> .op .norm x (.lit 0)
def tq:W->Option V
 | .str l=>some (.ej (kU l))
 | .jA e=>some e
 |_=>none
def A4 (x y:W):Option SB:=match tq x with
 |none=>none
 |some a=>match tq y with
  |none=>none
  |some b=>some (pQ (mn a) (mn b))
def mC (c:CK) (v:W):Option V:=match c with
 | .int k=>match v with
   | .int k' e=>if k=k' then some (mW e) else none
   |_=>none
 | .bool=>match v with
   | .bool c=>match c with
     | .lit b=>some (.ej (.i (if b then 1 else 0)))
     | .not d=>match d with
       | .eq x z=>match z with
         | .lit n=>if n=0 then some (.op .bit (mW x) (.lit 0)) else none
         |_=>none
       |_=>none
     |_=>none
   |_=>none
 | .str=>tq v
 | .sl t=>match v with
   | .ej e t'=>if t=t' then some e else none
   | .eg=>some (.ej (.i 1))
   | .wZ z t'=>if t=t' then some z else none
   | .slice _ _ n _=>match n with
     |0=>some (.ej (.i 2))
     |_=>none
   |_=>none
def hD:List CK->List W->Option V
 |[],[]=>some (.ej (.i 0))
 |c::cs,v::vs=>match mC c v with
  |none=>none
  |some a=>match hD cs vs with
   |none=>none
   |some b=>some (ew a b)
 |_,_=>none
def qt (r:Row) (cs:List W):Option V:=match r with
 | .one c=>match cs with
   |[v]=>mC c v
   |_=>none
 | .many ks=>hD ks cs
def ke (r:Row) (e:V):Nat->List W->Option V
 |0,[]=>some e
 |0,_::_=>none
 |m+1,cs=>match qt r (cs.take r.es) with
  |none=>none
  |some x=>ke r (.op .snoc e x) m (cs.drop r.es)
structure St where
 bD:Tr W
 h:Hp
 pc:List (SB×Bool)
 deriving Inhabited
def St.set (s:St) (t:Nat) (v:W):St:={ s with bD:=s.bD.put t (some v) }
def St.Kl (s:St) (d:Option Nat) (v:W):St:=match d with |some t=>s.set t v|none=>s
def ev (s:St):Operand->Option W
 | .tmp t=>s.bD.get t
 | .const v=>ofConst v
 | .func f=>some (.func (.func f) [] [])
 | .global _=>none
def evs (s:St):List Operand->Option (List W)
 |[]=>some []
 |x::xs=>match ev s x with
  |none=>none
  |some a=>match evs s xs with
   |none=>none
   |some al5=>some (a::al5)
def nX:SB->SB->Bool
 | .lit a,.lit b=>a == b
 | .lt a b,.lt c d=>match eQ a c with |true=>eQ b d|false=>false
 | .le a b,.le c d=>match eQ a c with |true=>eQ b d|false=>false
 | .eq a b,.eq c d=>match eQ a c with |true=>eQ b d|false=>false
 | .not a,.not b=>nX a b
 | .and a b,.and c d=>match nX a c with |true=>nX b d|false=>false
 |_,_=>false
theorem rp: ∀(a b:SB),nX a b=true->a=b
 | .lit a,b,h=>by cases b<;>simp [nX] at h; rw [h]
 | .lt a b,c,h=>by cases c<;>simp only [nX,aL] at h; split at h<;>first |(rename_i U; rw [cO _ _ U,cO _ _ h]; done)|simp at h
 | .le a b,c,h=>by cases c<;>simp only [nX,aL] at h; split at h<;>first |(rename_i U; rw [cO _ _ U,cO _ _ h]; done)|simp at h
 | .eq a b,c,h=>by cases c<;>simp only [nX,aL] at h; split at h<;>first |(rename_i U; rw [cO _ _ U,cO _ _ h]; done)|simp at h
 | .not a,c,h=>by cases c<;>simp only [nX,aL] at h; rw [rp _ _ h]
 | .and a b,c,h=>by cases c<;>simp only [nX,aL] at h; split at h<;>first |(rename_i U; rw [rp _ _ U,rp _ _ h]; done)|simp at h
def nd (c:SB):List (SB×Bool)->Option Bool
 |[]=>none
 |(d,b)::l=>match nX c d with
  |true=>some b
  |false=>nd c l
def Xt (a:Option Int) (z:Int):Option Int:=match a with
 |none=>some z
 |some y=>some (if y<z then z else y)
def Xr (a:Option Int) (z:Int):Option Int:=match a with
 |none=>some z
 |some y=>some (if z<y then z else y)
def Xg (a:Option Int) (z:Int):Option Int:=match a with
 |none=>none
 |some y=>some (if y=z then z+1 else y)
def Xi (a:Option Int) (z:Int):Option Int:=match a with
 |none=>none
 |some y=>some (if y=z then z-1 else y)
def Sj (e:V):Option Int×Option Int:=match e with
 | .rem a c=>match c with
   | .lit k=>match a with
     | .add b d=>match d with
       | .lit m=>match b with
         | .rem _ f=>match f with
           | .lit n=>if 0<n/\n=m/\m=k then (some 0,some (n-1)) else (none,none)
           |_=>(none,none)
         |_=>(none,none)
       |_=>(none,none)
     |_=>(none,none)
   |_=>(none,none)
 | .op o _ _=>match o with
   | .len=>(some 0,none)
   |_=>(none,none)
 |_=>(none,none)
def bounds (e:V):List (SB×Bool)->Option Int×Option Int
 |[]=>Sj e
 |(c,v)::l=>match c with
  | .lt x y=>match x with
    | .lit z=>match eQ y e with
      |false=>bounds e l
      |true=>match bounds e l with
       |(lo,hi)=>match v with
        |true=>(Xt lo (z+1),hi)
        |false=>(lo,Xr hi z)
    |x=>match y with
     | .lit z=>match eQ x e with
       |false=>bounds e l
       |true=>match bounds e l with
        |(lo,hi)=>match v with
         |true=>(lo,Xr hi (z-1))
         |false=>(Xt lo z,hi)
     |_=>bounds e l
  | .eq x y=>match y with
    | .lit z=>match v with
      |false=>match eQ x e with
       |false=>bounds e l
       |true=>match bounds e l with
        |(lo,hi)=>(Xg lo z,Xi hi z)
      |true=>match eQ x e with
       |false=>bounds e l
       |true=>(some z,some z)
    |_=>bounds e l
  |_=>bounds e l
def oF (e:V) (pc:List (SB×Bool)):Option Int×Option Int:=match e with
 | .wrap k s=>match k with
   | .i64=>match s with
     | .add b d=>match d with
       | .lit c=>match bounds b pc with
         |(some lo,some hi)=>if -9223372036854775808<=lo+c/\hi+c<=9223372036854775807 then (match bounds e pc with
          |(l2,Z)=>(Xt l2 (lo+c),Xr Z (hi+c))) else bounds e pc
         |_=>bounds e pc
       |_=>bounds e pc
     |_=>bounds e pc
   |_=>bounds e pc
 |_=>bounds e pc
def QI (a b:V) (pc:List (SB×Bool)):Option Bool:=match nd (.eq a b) pc with
 |some v=>some v
 |none=>nd (.eq b a) pc
def decLt (pc:List (SB×Bool)) (a b:V):Option Bool:=match nd (.lt a b) pc with
 |some v=>some v
 |none=>match a with
  | .lit z=>match oF b pc with
    |(lo,hi)=>match lo with
     |some l=>if z<l then some true else match hi with
      |some h=>if h<=z then some false else none
      |none=>none
     |none=>match hi with
      |some h=>if h<=z then some false else none
      |none=>none
  |a=>match b with
   | .lit z=>match oF a pc with
     |(lo,hi)=>match hi with
      |some h=>if h<z then some true else match lo with
       |some l=>if z<=l then some false else none
       |none=>none
      |none=>match lo with
       |some l=>if z<=l then some false else none
       |none=>none
   |b=>match QI a b pc with
    |some true=>some false
    |some false=>match nd (.lt b a) pc with
     |some v=>some !v
     |none=>none
    |none=>match nd (.lt b a) pc with
     |some true=>some false
     |_=>none
def decEq (pc:List (SB×Bool)) (a b:V):Option Bool:=match QI a b pc with
 |some v=>some v
 |none=>match b with
  | .lit z=>match oF a pc with
    |(lo,hi)=>match lo with
     |some l=>if z<l then some false else match hi with
      |some h=>if h<z then some false else if l=z/\h=z then some true else none
      |none=>none
     |none=>match hi with
      |some h=>if h<z then some false else none
      |none=>none
  |b=>match nd (.lt a b) pc with
   |some true=>some false
   |some false=>match nd (.lt b a) pc with
    |some v=>some !v
    |none=>none
   |none=>match nd (.lt b a) pc with
    |some true=>some false
    |_=>none
def jy:V->Option (Sum Int D)
 | .lit n=>some (.inl n)
 | .ej d=>some (.inr d)
 | .op o a b=>match o with
   | .num=>match jy a with
     |some (.inr d)=>some (.inl d.n)
     |_=>none
   | .mk=>match jy a with
     |some (.inl n)=>some (.inr (.i n))
     |_=>none
   | .cons=>match jy a,jy b with
     |some (.inr x),some (.inr y)=>some (.inr (.p x y))
     |_,_=>none
   | .Ds=>match jy a,jy b with
     |some (.inr x),some (.inr y)=>some (.inr ((dH x.l y).getD (.i 0)))
     |_,_=>none
   | .xo=>match jy a,jy b with
     |some (.inr x),some (.inr (.p k v))=>some (.inr (dL (gW x.l k v)))
     |_,_=>none
   | .KP=>match jy a,jy b with
     |some (.inr x),some (.inr y)=>some (.inr (dL (Ff x.l y)))
     |_,_=>none
   | .KO=>match jy a,jy b with
     |some (.inr x),some (.inr y)=>some (.inl (if (dH x.l y).isSome then 1 else 0))
     |_,_=>none
   | .norm=>match jy a with
     |some (.inr x)=>some (.inr x)
     |_=>none
   |_=>none
 | .wrap k a=>match jy a with
   |some (.inl n)=>some (.inl (rM k n))
   |_=>none
 | .mul a b=>match jy a,jy b with
   |some (.inl x),some (.inl y)=>some (.inl (x*y))
   |_,_=>none
 | .quo a b=>match jy a,jy b with
   |some (.inl x),some (.inl y)=>some (.inl (x.tdiv y))
   |_,_=>none
 | .rem a b=>match jy a,jy b with
   |some (.inl x),some (.inl y)=>some (.inl (x.tmod y))
   |_,_=>none
 |_=>none
def CC (pc:List (SB×Bool)) (c:SB):Option Bool:=
 match c with
 | .lit b=>some b
 | .lt a b=>match jy a,jy b with
   |some (.inl x),some (.inl y)=>some (decide (x<y))
   |_,_=>decLt pc a b
 | .eq a b=>match jy a,jy b with
   |some (.inl x),some (.inl y)=>some (decide (x=y))
   |_,_=>decEq pc a b
 |c=>nd c pc
def jK (pc:List (SB×Bool)) (c:SB):Option Bool:=
 match c with
 | .not s=>(CC pc s).map (!·)
 |c=>CC pc c
def jz {α:Type} (s:St) (c:SB) (f:St->Bool->T α):T α:=
 match jK s.pc c with
 |some b=>f s b
 |none=>match c with
  | .not d=> .split d (f { s with pc:=(d,true)::s.pc } false) (f { s with pc:=(d,false)::s.pc } true)
  |c=> .split c (f { s with pc:=(c,true)::s.pc } true) (f { s with pc:=(c,false)::s.pc } false)
def WT (k:IntKind):V->V->V
 | .lit x,.lit y=> .lit (rM k (x+y))
 |a,b=> .wrap k (.add a b)
def PM (k:IntKind):V->V->V
 | .lit x,.lit y=> .lit (rM k (x-y))
 |a,b=> .wrap k (.sub a b)
def WS (k:IntKind):V->V->V
 | .lit x,.lit y=> .lit (rM k (x*y))
 |a,b=> .wrap k (.mul a b)
def gV:V->V->SB
 | .lit x,.lit y=> .lit (decide (x<y))
 |a,b=> .lt a b
def L?:V->V->SB
 | .lit x,.lit y=> .lit (decide (x<=y))
 |a,b=> .not (.lt b a)
def qA:V->V->SB
 | .lit x,.lit y=> .lit (x == y)
 | .lit x,b=> .eq b (.lit x)
 |a,b=>match eQ a b with
  |true=> .lit true
  |false=> .eq a b
def wJ:SB->SB
 | .lit b=> .lit !b
 | .not s=>s
 |s=> .not s
def WV:SB->SB->SB
 | .lit true,b=>b
 | .lit false,_=> .lit false
 |a,.lit true=>a
 |_,.lit false=> .lit false
 |a,b=> .and a b
def bytesLess:List Nat->List Nat->Bool
 |_,[]=>false
 |[],_::_=>true
 |a::x,b::y=>if a.blt b then true else if a.beq b then bytesLess x y else false
def gD:List Nat->List Nat->Bool
 |[],[]=>true
 |a::x,b::y=>if a.beq b then gD x y else false
 |_,_=>false
def Kh (op:BinOp) (x y:List Nat):Option W:=
 match op with
 | .add=>if x.length+y.length<=1000000 then some (.str (x++y)) else none
 | .eql=>some (.bool (.lit (gD x y)))
 | .neq=>some (.bool (.lit !(gD x y)))
 | .lss=>some (.bool (.lit (bytesLess x y)))
 | .leq=>some (.bool (.lit (bytesLess x y||gD x y)))
 | .gtr=>some (.bool (.lit !(bytesLess x y||gD x y)))
 | .geq=>some (.bool (.lit !(bytesLess x y)))
 |_=>none
def Rb (op:BinOp) (k:IntKind) (a b:V):Option W:=
 match op with
 | .add=>some (.int k (WT k a b))
 | .sub=>some (.int k (PM k a b))
 | .mul=>some (.int k (WS k a b))
 | .quo=>match a,b with
   | .lit x,.lit y=>if y=0 then none else some (.int k (.lit (rM k (x.tdiv y))))
   |a,.lit y=>if y=0 then none else some (.int k (.wrap k (.quo a (.lit y))))
   |_,_=>none
 | .rem=>match a,b with
   | .lit x,.lit y=>if y=0 then none else some (.int k (.lit (x.tmod y)))
   |a,.lit y=>if y=0 then none else some (.int k (.rem a (.lit y)))
   |_,_=>none
 | .shr=>match a,b with
   | .lit x,.lit y=>if y<0 then none else some (.int k (.lit (x.fdiv (2 ^ (min y.toNat k.bits)))))
   |_,_=>none
 | .eql=>some (.bool (qA a b))
 | .neq=>some (.bool (wJ (qA a b)))
 | .lss=>some (.bool (gV a b))
 | .leq=>some (.bool (L? a b))
 | .gtr=>some (.bool (gV b a))
 | .geq=>some (.bool (L? b a))
 |_=>none
def eS {α:Type}:List α->Nat->Option α
 |[],_=>none
 |x::_,0=>some x
 |_::xs,n+1=>eS xs n
def Cz (a b:SB):Option SB:=
 match a,b with
 | .lit x,.lit y=>some (.lit (x == y))
 | .lit x,b=>some (if x then b else wJ b)
 |a,.lit y=>some (if y then a else wJ a)
 |a,b=>some (.not (.and (.not (.and a b)) (.not (.and (.not a) (.not b)))))
def OM (k:TK) (x y:W):Option SB:=
 match k with
 | .int _=>match x,y with
   | .int k a,.int k' b=>if k=k' then some (qA a b) else none
   |_,_=>none
 | .string=>match x,y with
   | .str a,.str b=>some (.lit (gD a b))
   |x,y=>A4 x y
 | .bool=>match x,y with
   | .bool a,.bool b=>Cz a b
   |_,_=>none
 |_=>none
def YF (tt:TT) (xs ys:List W):List (Nat×Nat×Nat)->Option SB
 |[]=>some (.lit true)
 |(off,ft,_)::fs=>match tt ft with
  |none=>none
  |some i=>match eS xs off,eS ys off with
   |some x,some y=>match OM i.kind x y with
    |none=>none
    |some c=>match YF tt xs ys fs with
     |none=>none
     |some d=>some (WV c d)
   |_,_=>none
def Cx (tt:TT) (t:Nat) (xs ys:List W):Option SB:=
 match tt t with
 |none=>none
 |some i=>match i.kind with
  | .struct fs=>if i.eqs then YF tt xs ys fs else none
  |_=>none
def jX:W->Option Int
 | .int _ (.lit n)=>some n
 |_=>none
def isNil (k:TK) (x:W):Option Bool:=
 match k with
 | .slice _=>match x with
   | .eg=>some true
   | .slice _ _ _ _=>some false
   | .ro _ _ _=>some false
   | .oS _ _ _=>some false
   |_=>none
 | .pointer _=>match x with
   | .tN=>some true
   | .ptr _ _=>some false
   | .mY _=>some false
   |_=>none
 | .map _ _=>match x with
   | .rD=>some true
   | .map _=>some false
   |_=>none
 |_=>none
def afn (k:TK) (x y:W):Option SB:=
 match k with
 | .bool=>match x,y with
   | .bool a,.bool b=>Cz a b
   |_,_=>none
 |k=>match isNil k x,isNil k y with
  |some true,some b=>some (.lit b)
  |some false,some true=>some (.lit false)
  |_,_=>none
def HZ (op:BinOp) (c:Option SB):Option W:=match c with
 |none=>none
 |some c=>match op with
  | .eql=>some (.bool c)
  | .neq=>some (.bool (.not c))
  |_=>none
def YE (tt:TT) (t:Nat) (op:BinOp) (x y:W):Option W:=
 match x with
 | .int k a=>match y with
   | .int k' b=>match op with
     | .shr=>Rb op k a b
     | .shl=>none
     |_=>if k=k' then Rb op k a b else none
   |_=>none
 | .str a=>match y with
   | .str b=>Kh op a b
   | .jA e=>HZ op (A4 (.str a) (.jA e))
   |_=>none
 | .jA e=>HZ op (A4 (.jA e) y)
 |_=>match tt t with
  |none=>none
  |some i=>match op,afn i.kind x y with
   | .eql,some c=>some (.bool c)
   | .neq,some c=>some (.bool (wJ c))
   |_,_=>none
def afl (op:UnOp) (x:W):Option W:=
 match op,x with
 | .not,.bool b=>some (.bool (wJ b))
 | .neg,.int k e=>some (.int k (PM k (.lit 0) e))
 |_,_=>none
def hU {α:Type}:Nat->List α->Option (List α)
 |0,_=>some []
 |_+1,[]=>none
 |n+1,x::xs=>match hU n xs with
  |some l=>some (x::l)
  |none=>none
def eD {α:Type}:Nat->List α->Option (List α)
 |0,l=>some l
 |_+1,[]=>none
 |n+1,_::xs=>eD n xs
def dQ:List W->Nat->List W->Option (List W)
 |cs,0,[]=>some cs
 |[],0,_::_=>none
 |_::cs,0,v::vs=>match dQ cs 0 vs with
  |some l=>some (v::l)
  |none=>none
 |[],_+1,_=>none
 |c::cs,n+1,vs=>match dQ cs n vs with
  |some l=>some (c::l)
  |none=>none
def qU:List W->Bool
 |[]=>true
 |v::vs=>v.one&&qU vs
def mw (h:Hp) (p:W) (n:Nat):Option (List W):=
 match p with
 | .ptr id off=>match h.get id with
   |some (.cells cs _)=>match eD off cs with
    |some l=>hU n l
    |none=>none
   |_=>none
 | .mY cs=>hU n cs
 |_=>none
def AI (tt:TT) (t:Nat) (p:W) (h:Hp):Option W:=
 match tt t with
 |none=>none
 |some i=>match i.agg with
  |true=>(mw h p i.size).map .agg
  |false=>match mw h p 1 with
   |some (v::_)=>some v
   |_=>none
def I3 (tt:TT) (t:Nat) (p v:W) (h:Hp):Option Hp:=
 match tt t with
 |none=>none
 |some i=>
  if v.cells.length=i.size&&qU v.cells then
   match p with
   | .ptr id off=>match h.get id with
     |some (.cells cs e)=>match dQ cs off v.cells with
      |some lJ=>some (h.put id (.cells lJ e))
      |none=>none
     |_=>none
   |_=>none
  else none
def sX (place:Nat->Option (Nat×Nat)) (cs:List W):List (Nat×W)->Option (List W)
 |[]=>some cs
 |(i,v)::rest=>match place i with
  |none=>none
  |some (off,size)=>
   if v.cells.length=size&&qU v.cells then
    match dQ cs off v.cells with
    |some lJ=>sX place lJ rest
    |none=>none
   else none
def hY (tt:TT) (t:Nat):Option Nat:=(tt t).map (·.size)
def Jh (tt:TT) (t:Nat) (parts:List (Nat×W)):Option W:=
 match tt t with
 |some i=>match i.kind with
  | .struct fs=>(sX (fun j=>(eS fs j).map fun f=>(f.1,f.2.2)) i.zero parts).map .agg
  | .array _ e=>match hY tt e with
    |some s=>(sX (fun j=>some (j*s,s)) i.zero parts).map .agg
    |none=>none
  |_=>none
 |none=>none
def dK {α:Type} (l:List α):Nat->List α
 |0=>[]
 |n+1=>l++dK l n
def s6 (tt:TT) (t len:Nat) (parts:List (Nat×W)) (h:Hp):Option (W×Hp):=
 match tt t with
 |some i=>match i.kind with
  | .slice e=>match tt e with
    |some ie=>
     if len<=1000/\ie.size<=1000/\ie.zero.length=ie.size then
      match sX (fun j=>some (j*ie.size,ie.size)) (dK ie.zero len) parts with
      |some cs=>some (.slice h.fresh 0 len (.exact len),h.new (.cells cs e))
      |none=>none
     else none
    |none=>none
  |_=>none
 |none=>none
def qn (tt:TT) (t:Nat) (l c:W) (h:Hp):Option (W×Hp):=
 match jX l with
 |some (.ofNat n)=>match jX c with
  |some (.ofNat m)=>match tt t with
   |some i=>match i.kind with
    | .slice e=>match tt e with
      |some ie=>
       if n<=m/\m<=1000/\ie.size<=1000/\ie.bytes<=1000000/\ie.zero.length=ie.size then
        some (.slice h.fresh 0 n (.exact m),h.new (.cells (dK ie.zero m) e))
       else none
      |none=>none
    |_=>none
   |none=>none
  |_=>none
 |_=>none
def QG (off:Nat) (x:W):Option W:=match x with
 | .ptr id o=>some (.ptr id (o+off))
 | .zq id es i o=>some (.zq id es i (o+off))
 | .mY cs=>(eD off cs).map .mY
 |_=>none
def partOf (i:TI) (l:List W):Option W:=match i.agg with
 |true=>(hU i.size l).map .agg
 |false=>match l with
  |v::_=>some v
  |[]=>none
def u9 (tt:TT) (t:Nat) (p:W) (f:Nat):Option W:=
 match tt t with
 |some i=>match i.kind with
  | .struct fs=>match eS fs f with
    |some (off,_,size)=>match size with
     |0=>none
     |_=>QG off p
    |none=>none
  |_=>none
 |none=>none
def I9 (tt:TT) (t:Nat) (x:W) (f:Nat):Option W:=
 match tt t with
 |some i=>match i.kind with
  | .struct fs=>match eS fs f with
    |some (off,ft,_)=>match tt ft,x with
     |some fi,.agg cs=>match eD off cs with
      |some l=>partOf fi l
      |none=>none
     |_,_=>none
    |none=>none
  |_=>none
 |none=>none
def nO (tt:TT) (t:Nat) (x ix:W):Option W:=
 match jX ix with
 |some (.ofNat i)=>match tt t with
  |some ti=>match ti.kind with
   | .array n e=>if i<n then match hY tt e with
    |some s=>QG (i*s) x
    |none=>none
    else none
   | .slice e=>match hY tt e with
     |some s=>match x with
      | .slice id o len _=>if i<len then some (.ptr id (o+i*s)) else none
      | .ro cs n _=>if i<n then (eD (i*s) cs).map .mY else none
      |_=>none
     |none=>none
   |_=>none
  |none=>none
 |_=>none
def uE (k:Nat) (e:V):List IntKind->Nat->List W
 |[],_=>[]
 |kd::ks,j=> .int kd (.wz (k*8+j) e)::uE k e ks (j+1)
def I8 (tt:TT) (pc:List (SB×Bool)) (t k:Nat) (ks:List IntKind) (ix:W):Option W:=
 match ix with
 | .int _ e=>match tt t with
   |some ti=>match ti.kind with
    | .slice el=>match hY tt el with
      |some s=>if s=ks.length/\k<8/\s<=8 then match jK pc (gV e (.lit 0)),jK pc (gV e (.du (900+k))) with
       |some false,some true=>some (.mY (uE k e ks 0))
       |_,_=>none
       else none
      |none=>none
    |_=>none
   |none=>none
 |_=>none
def zl (tt:TT) (t:Nat) (x ix:W):Option W:=
 match jX ix with
 |some (.ofNat i)=>match tt t with
  |some ti=>match ti.kind,x with
   | .string,.str s=>(eS s i).map fun b=> .int .u8 (.lit (Int.ofNat b))
   | .array n e,.agg cs=>if i<n then match tt e with
    |some ie=>match eD (i*ie.size) cs with
     |some l=>partOf ie l
     |none=>none
    |none=>none
    else none
   |_,_=>none
  |none=>none
 |_=>none
def nA (x:Option W) (d:Nat) (y:Nat):Option Nat:=
 match x with
 |none=>if d<=y then some d else none
 |some v=>match jX v with
  |some (.ofNat i)=>if i<=y then some i else none
  |_=>none
def ze (tt:TT) (t:Nat) (x:W) (lo hi mx:Option W):Option W:=
 match tt t with
 |none=>none
 |some ti=>match ti.kind with
  | .string=>match x,mx with
    | .str s,none=>match nA hi s.length s.length with
      |some h=>match nA lo 0 h with
       |some l=>some (.str ((s.take h).drop l))
       |none=>none
      |none=>none
    |_,_=>none
  | .slice e=>match hY tt e with
    |none=>none
    |some s=>match x with
     | .eg=>if mx.isSome&&hi.isNone then none else match nA hi 0 0,nA lo 0 0,nA mx 0 0 with
       |some _,some _,some _=>some .eg
       |_,_,_=>none
     | .slice id o len (.exact c)=>if mx.isSome&&hi.isNone then none else match nA mx c c with
       |none=>none
       |some m=>match nA hi len m with
        |none=>none
        |some h=>match nA lo 0 h with
         |none=>none
         |some l=>some (.slice id (o+l*s) (h-l) (.exact (m-l)))
     | .slice id o len (.rest es)=>match mx with
       |none=>match nA hi len len with
        |none=>none
        |some h=>match nA lo 0 h with
         |none=>none
         |some l=>if es=s then some (.slice id (o+l*s) (h-l) (.rest es)) else none
       |some _=>match hi,nA mx 0 len with
        |none,_=>none
        |_,none=>none
        |some _,some m=>match nA hi 0 m with
         |none=>none
         |some h=>match nA lo 0 h with
          |none=>none
          |some l=>some (.slice id (o+l*s) (h-l) (.exact (m-l)))
     | .ro cs n full=>match mx with
       |none=>match nA hi n n with
        |none=>none
        |some h=>match nA lo 0 h with
         |none=>none
         |some l=>match eD (l*s) cs with
          |none=>none
          |some d=>match hU ((h-l)*s) d with
           |none=>none
           |some d'=>some (.ro d' (h-l) (full&&h == n))
       |some _=>match hi,nA mx 0 n with
        |none,_=>none
        |_,none=>none
        |some _,some m=>match nA hi 0 m with
         |none=>none
         |some h=>match nA lo 0 h with
          |none=>none
          |some l=>match eD (l*s) cs with
           |none=>none
           |some d=>match hU ((h-l)*s) d with
            |none=>none
            |some d'=>some (.ro d' (h-l) (h == m))
     |_=>none
  | .array n e=>match hY tt e with
    |none=>none
    |some s=>match x with
     | .ptr id o=>if mx.isSome&&hi.isNone then none else match nA mx n n with
       |none=>none
       |some m=>match nA hi n m with
        |none=>none
        |some h=>match nA lo 0 h with
         |none=>none
         |some l=>some (.slice id (o+l*s) (h-l) (.exact (m-l)))
     |_=>none
  |_=>none
def Ea (tt:TT) (t:Nat) (x:W) (lo hi mx:Option W) (h:Hp):Option W:=
 match mx with
 |some _=>none
 |none=>match tt t with
  |none=>none
  |some ti=>match ti.kind with
   | .slice e=>match hY tt e with
     |none=>none
     |some s=>match x with
      | .slice id o len (.rest es)=>if es=s/\0<s then match h.get id with
       |some (.cells cs _)=>match nA hi len ((cs.length-o) / s) with
        |none=>none
        |some hh=>match nA lo 0 hh with
         |none=>none
         |some l=>some (.slice id (o+l*s) (hh-l) (.rest es))
       |_=>none
       else none
      |_=>none
   |_=>none
def vg:List W->Option (List Nat)
 |[]=>some []
 | .int .u8 (.lit (.ofNat b))::xs=>if b<256 then match vg xs with
  |some l=>some (b::l)
  |none=>none
  else none
 |_::_=>none
def oO (tt:TT) (sT dT:Nat) (x:W) (h:Hp):Option (W×Hp):=
 match tt sT with
 |none=>none
 |some j=>match tt dT with
 |some i=>match i.kind with
  | .int k=>match x with
    | .int _ (.lit n)=>some (.int k (.lit (rM k n)),h)
    | .int _ e=>some (.int k (.wrap k e),h)
    |_=>none
  | .string=>match j.kind with
   | .string=>match x with
     | .str s=>some (.str s,h)
     |_=>none
   | .slice e=>match tt e with
     |none=>none
     |some ie=>if ie.kind= .int .u8/\ie.size=1 then match x with
      | .eg=>some (.str [],h)
      | .slice id o len _=>match mw h (.ptr id o) len with
        |some cs=>(vg cs).map fun l=>(.str l,h)
        |none=>none
      |_=>none
      else none
   |_=>none
  | .slice e=>match tt e with
    |none=>none
    |some ie=>if ie.kind= .int .u8/\j.kind= .string then match x with
     | .str s=>some (.slice h.fresh 0 s.length (.rest 1),h.new (.cells (s.map fun c=> .int .u8 (.lit (Int.ofNat c))) e))
     |_=>none
     else none
  |_=>none
 |none=>none
def QU (pc:List (SB×Bool)) (kk:TK) (a b:W):Option Bool:=
 match kk with
 | .int _=>match a,b with
   | .int k x,.int k' y=>if k=k' then jK pc (qA x y) else none
   |_,_=>none
 | .string=>match a,b with
   | .str x,.str y=>some (gD x y)
   |x,y=>match A4 x y with
    |some c=>jK pc c
    |none=>none
 | .bool=>match a,b with
   | .bool (.lit x),.bool (.lit y)=>some (x == y)
   |_,_=>none
 |_=>none
def BC (pc:List (SB×Bool)) (kk:TK) (k:W):List (W×W×Nat)->Nat->Option (Option (Nat×W))
 |[],_=>some none
 |(k',v,_)::es,i=>match QU pc kk k k' with
  |some true=>some (some (i,v))
  |some false=>BC pc kk k es (i+1)
  |none=>none
def ml (k v:W):List (W×W×Nat)->Nat->List (W×W×Nat)
 |[],_=>[]
 |(_,_,b)::es,0=>(k,v,b)::es
 |e::es,n+1=>e::ml k v es n
def jq {α:Type}:List α->Nat->List α
 |[],_=>[]
 |_::xs,0=>xs
 |x::xs,n+1=>x::jq xs n
def vJ (tt:TT) (t:Nat):Option TK:=match tt t with
 |some i=>match i.kind with
  | .int k=>some (.int k)
  | .string=>some .string
  | .bool=>some .bool
  |_=>none
 |none=>none
def zeroOf (i:TI):Option W:=
 match i.agg with
 |true=>some (.agg i.zero)
 |false=>match i.zero with
  |[v]=>some v
  |_=>none
def Is (m:W) (h:Hp):Option (List (W×W×Nat)):=match m with
 | .rD=>some []
 | .map id=>match h.get id with
   |some (.map es _)=>some es
   |_=>none
 |_=>none
def Ed (tt:TT) (pc:List (SB×Bool)) (t:Nat) (m k:W) (ok:Bool) (h:Hp):Option W:=
 match tt t with
 |some ti=>match ti.kind with
  | .map kt et=>
    match vJ tt kt with
    |none=>none
    |some kk=>
     match tt et with
     |none=>none
     |some ie=>
      match Is m h with
      |none=>none
      |some es=>match BC pc kk k es 0 with
       |none=>none
       |some (some (_,v))=>some (if ok then .tuple [v,.bool (.lit true)] else v)
       |some none=>match zeroOf ie with
        |none=>none
        |some z=>some (if ok then .tuple [z,.bool (.lit false)] else z)
  |_=>none
 |none=>none
def qk (tt:TT) (pc:List (SB×Bool)) (t:Nat) (m k v:W) (h:Hp):Option Hp:=
 match tt t with
 |some ti=>match ti.kind with
  | .map kt _=>
    match vJ tt kt with
    |none=>none
    |some kk=>match m with
     | .map id=>match h.get id with
       |some (.map es c)=>match BC pc kk k es 0 with
        |none=>none
        |some (some (i,_))=>some (h.put id (.map (ml k v es i) c))
        |some none=>some (h.put id (match c with
         |0=> .map (es++ [(k,v,0)]) 0
         |c+1=> .map (es++ [(k,v,c)]) (c+2)))
       |_=>none
     |_=>none
  |_=>none
 |none=>none
def Eh (tt:TT) (pc:List (SB×Bool)) (t:Nat) (m k:W) (h:Hp):Option Hp:=
 match tt t with
 |some ti=>match ti.kind with
  | .map kt _=>
    match vJ tt kt with
    |none=>none
    |some kk=>match m with
     | .rD=>some h
     | .map id=>match h.get id with
       |some (.map es c)=>match BC pc kk k es 0 with
        |none=>none
        |some (some (i,_))=>some (h.put id (.map (jq es i) c))
        |some none=>some (h.put id (.map es c))
       |_=>none
     |_=>none
  |_=>none
 |none=>none
def YC (tt:TT) (t:Nat) (x:W) (h:Hp):Option W:=
 let n (k:Nat):Option W:=some (.int .i64 (.lit (Int.ofNat k)))
 match tt t with
 |some ti=>match ti.kind with
  | .string=>match x with
    | .str s=>n s.length
    | .jA e=>some (.int .i64 (dO e))
    |_=>none
  | .slice _=>match x with
    | .eg=>n 0
    | .emp=>n 0
    | .wZ _ _=>n 0
    | .slice _ _ len _=>n len
    | .ro _ k _=>n k
    | .ej e _=>some (.int .i64 (dO e))
    | .oS _ e _=>some (.int .i64 e)
    | .tK _ _ e _=>some (.int .i64 e)
    | .wz k _=>some (.int .i64 (.du (900+k)))
    |_=>none
  | .array k _=>n k
  | .map _ _=>match x with
    | .rD=>n 0
    | .map id=>match h.get id with
      |some (.map es _)=>n es.length
      |some (.jM e _)=>some (.int .i64 (dO e))
      |some (.qY e _ _ _)=>some (.int .i64 (dO e))
      |_=>none
    |_=>none
  |_=>none
 |none=>none
def ri (s:Nat) (x:W) (h:Hp):Option (Nat×List W):=
 match x with
 | .eg=>some (0,[])
 | .slice id o len _=>(mw h (.ptr id o) (len*s)).map fun l=>(len,l)
 | .ro cs n _=>(hU (n*s) cs).map fun l=>(n,l)
 | .str b=>if s=1 then some (b.length,b.map fun c=> .int .u8 (.lit (Int.ofNat c))) else none
 |_=>none
def nh (ie:TI) (e len m:Nat) (cs:List W) (h:Hp):Option (W×Hp):=
 if (len+m)*ie.bytes<=140737488355328 then some (.slice h.fresh 0 (len+m) (.rest ie.size),h.new (.cells cs e)) else none
def pE (ie:TI) (e m:Nat) (news:List W) (x:W) (h:Hp):Option (W×Hp):=
 match x with
 | .eg=>if m=0 then some (.eg,h) else nh ie e 0 m news h
 | .slice id o len (.exact c)=>
   if len+m<=c then
    match h.get id with
    |some (.cells cs e')=>match dQ cs (o+len*ie.size) news with
     |some lJ=>some (.slice id o (len+m) (.exact c),h.put id (.cells lJ e'))
     |none=>none
    |_=>none
   else match mw h (.ptr id o) (len*ie.size) with
    |some old=>nh ie e len m (old++news) h
    |none=>none
 | .slice id o len (.rest es)=>
   if es=ie.size then
    match h.get id with
    |some (.cells cs e')=>
     if o+(len+m)*ie.size<=cs.length then
      match dQ cs (o+len*ie.size) news with
      |some lJ=>some (.slice id o (len+m) (.rest es),h.put id (.cells lJ e'))
      |none=>none
     else if o+len*ie.size=cs.length/\e'=e then
      match eD o cs with
      |some old=>nh ie e len m (old++news) (h.drop id)
      |none=>none
     else none
    |_=>none
   else none
 | .ro cs n full=>
   if m=0 then some (.ro cs n full,h)
   else if full then match hU (n*ie.size) cs with
    |some old=>nh ie e n m (old++news) h
    |none=>none
   else none
 |_=>none
def Ei (tt:TT) (t t2:Nat) (x y:W) (h:Hp):Option (W×Hp):=
 match tt t with
 |some ti=>match ti.kind with
  | .slice e=>match tt e with
    |some ie=>match tt t2 with
     |none=>none
     |some PC=>match PC.kind with
      | .int _=>none
      |_=>
       if ie.size=0\/ie.bytes=0\/¬ie.zero.length=ie.size then none else
       match ri ie.size y h with
       |none=>none
       |some (m,news)=>pE ie e m news x h
    |none=>none
  |_=>none
 |none=>none
def Je (tt:TT) (t:Nat) (x:W) (h:Hp):Option Hp:=
 match tt t with
 |some ti=>match ti.kind with
  | .slice e=>match tt e with
    |some ie=>match x with
     | .eg=>some h
     | .wZ _ _=>some h
     | .slice id o len _=>match len with
       |0=>some h
       |_=>match ie.zero with
        |[]=>none
        |_=>match h.get id with
         |some (.cells cs e')=>match dQ cs o (dK ie.zero len) with
          |some lJ=>some (h.put id (.cells lJ e'))
          |none=>none
         |_=>none
     |_=>none
    |none=>none
  |_=>none
 |none=>none
def I4 (tt:TT) (t:Nat) (x:W) (h:Hp):Option (W×Hp):=
 match tt t with
 |some ti=>match ti.kind with
  | .string=>match x with
    | .str b=>some (.ptr h.fresh 0,h.new (.jS b 0))
    |_=>none
  | .map _ _=>match x with
    | .rD=>some (.ptr h.fresh 0,h.new (.ji none 0 [] 0))
    | .map id=>match h.get id with
      |some (.map _ (c+1))=>some (.ptr h.fresh 0,h.new (.ji (some id) c [] c))
      |_=>none
    |_=>none
  |_=>none
 |none=>none
def Ow (x:W) (isS:Bool) (h:Hp):Option (W×Hp):=
 match isS with
 |false=>match x with
  | .ptr id 0=>match h.get id with
    |some (.ji none _ _ _)=>some (.tuple [.bool (.lit false)],h)
    |some (.ji (some m) since seen last)=>match h.get m with
     |some (.map [] (_+1))=>some (.tuple [.bool (.lit false)],h)
     |some (.map [(k,v,n)] (c+1))=>match seen with
      |[]=>if n<since then some (.tuple [.bool (.lit true),k,v],h.put id (.ji (some m) since [n] c)) else none
      |[y]=>if y=n/\n<last then some (.tuple [.bool (.lit false)],h) else none
      |_=>none
     |_=>none
    |_=>none
  |_=>none
 |true=>match x with
  | .ptr id 0=>match h.get id with
    |some (.jS b p)=>match eS b p with
     |none=>some (.tuple [.bool (.lit false)],h)
     |some c=>if c<128 then some (.tuple [.bool (.lit true),.int .i64 (.lit (Int.ofNat p)),.int .i32 (.lit (Int.ofNat c))],h.put id (.jS b (p+1))) else none
    |_=>none
  |_=>none
def Jb (x:W) (h:Hp):Option W:=match x with
 | .ptr id 0=>match h.get id with
   |some (.ji (some m) _ [y] last)=>match h.get m with
    |some (.map [(k,v,n)] (c+1))=>if n=y/\c=last then some (.tuple [k,v]) else none
    |_=>none
   |_=>none
 |_=>none
def sV (mx:Bool):List W->V->IntKind->St->T (W×St)
 |[],a,k,s=> .ret (.int k a,s)
 | .int _ b::xs,a,k,s=>jz s (if mx then gV a b else gV b a) fun s c=>if c then sV mx xs b k s else sV mx xs a k s
 |_,_,_,_=> .fail
def aei (s:St) (q:Bool) (k:IntKind) (e d:V):T (W×St):=jz s (qA d (.lit 0)) fun s c=>match c with
 |true=> .fail
 |false=> .ret (.int k (match q with |true=> .wrap k (.quo e d)|false=> .rem e d),s)
def HF (s:St) (h:Option W) (k:Option W->St->T (W×St)):T (W×St):=match h with
 |some (.int .i64 e)=>jz s (qA e (.lit 0)) fun s c=>match c with
  |true=>k (some (.int .i64 (.lit 0))) s
  |false=> .fail
 |h=>k h s
def Nx (op:BinOp) (a b:W):Option (Bool×IntKind×V×V):=
 match (match op with | .rem=>some false| .quo=>some true|_=>none) with
 |some q=>match a with
  | .int k e=>match b with
    | .int k' d=>match d with
      | .lit _=>none
      |d=>if k=k' then some (q,k,e,d) else none
    |_=>none
  |_=>none
 |none=>none
def oW (s:St) (v:Option W):T (W×St):=match v with |some v=> .ret (v,s)|none=> .fail
def Nu (s:St) (h:Option Hp):T (W×St):=match h with |some h=> .ret (W.undef,{ s with h:=h })|none=> .fail
def Bb (s:St) (r:Option (W×Hp)):T (W×St):=match r with |some (v,h)=> .ret (v,{ s with h:=h })|none=> .fail
def Hd (s:St):Option Operand->Option (Option W)
 |none=>some none
 |some x=>(ev s x).map some
def vW (s:St):List (Nat×Operand)->Option (List (Nat×W))
 |[]=>some []
 |(i,x)::xs=>match ev s x with
  |none=>none
  |some a=>match vW s xs with
   |none=>none
   |some al5=>some ((i,a)::al5)
def yx {α:Type} (s:St) (i n:V) (f:St->T α):T α:=
 jz s (gV i (.lit 0)) fun s b=>match b with
  |true=> .fail
  |false=>jz s (gV i n) fun s b=>match b with
   |true=>f s
   |false=> .fail
def NN (tt:TT) (t:Nat) (a b:W):Option V:=match a with
 | .ej e _=>match b with
   | .eg=>match tt t with
     |some ti=>match ti.kind with
      | .slice _=>some e
      |_=>none
     |none=>none
   |_=>none
 |_=>none
def Xo (s:St) (op:BinOp) (r:Bool):T (W×St):=match op with
 | .eql=> .ret (.bool (.lit r),s)
 | .neq=> .ret (.bool (.lit (!r)),s)
 |_=> .fail
def aev (s:St) (e:V) (op:BinOp):T (W×St):=jz s (gV (.lit 0) (dO e)) fun s b=>match b with
 |true=>Xo s op false
 |false=>jz s (pQ (mn e) (.ej (.i 1))) fun s b=>match b with
  |true=>Xo s op true
  |false=>jz s (pQ (mn e) (.ej (.i 2))) fun s b=>match b with
   |true=>Xo s op false
   |false=> .fail
def aih (kk:TK) (a b:W):Option SB:=match kk with
 | .int _=>match a with
   | .int k x=>match b with
     | .int k' y=>if k=k' then some (qA x y) else none
     |_=>none
   |_=>none
 | .string=>A4 a b
 |_=>none
def tc {α:Type} (kk:TK) (k:W):List (W×W×Nat)->St->(St->T α)->T α
 |[],s,f=>f s
 |(k',_,_)::es,s,f=>match QU s.pc kk k k' with
  |some b=>match b with
   |true=>f s
   |false=>tc kk k es s f
  |none=>match aih kk k k' with
   |some c=>jz s c fun s b=>match b with
    |true=>f s
    |false=>tc kk k es s f
   |none=>f s
def nC {α:Type} (tt:TT) (t:Nat) (m k:W) (s:St) (f:St->T α):T α:=match tt t with
 |some ti=>match ti.kind with
  | .map kt _=>match vJ tt kt with
    |some kk=>match Is m s.h with
     |some es=>tc kk k es s f
     |none=>f s
    |none=>f s
  |_=>f s
 |none=>f s
def LI (k:IntKind) (e:V) (f:W->St->T (W×St)):Nat->Nat->St->T (W×St)
 |0,_,_=> .fail
 |n+1,j,s=>match n with
  |0=>f (.int k (.lit (Int.ofNat j))) s
  |_=>jz s (qA e (.lit (Int.ofNat j))) fun s b=>match b with
   |true=>f (.int k (.lit (Int.ofNat j))) s
   |false=>LI k e f n (j+1) s
def ai6 (tt:TT) (t:Nat) (x:W):Option Nat:=match tt t with
 |some ti=>match ti.kind with
  | .array n _=>if n<=64 then some n else none
  | .slice _=>match x with
    | .slice _ _ len _=>if len<=64 then some len else none
    |_=>none
  |_=>none
 |none=>none
def Hx (tt:TT) (t:Nat) (x ix:W) (s:St) (f:W->St->T (W×St)):T (W×St):=match jX ix with
 |some _=>f ix s
 |none=>match ix with
  | .int k e=>match ai6 tt t x with
    |some n=>yx s e (.lit (Int.ofNat n)) fun s=>LI k e f n 0 s
    |none=> .fail
  |_=> .fail
def s7 (tt:TT) (ty:Nat):Option Nat:=match tt ty with
 |some ti=>match ti.kind with
  | .slice el=>hY tt el
  |_=>none
 |none=>none
def Jd (tt:TT) (s:St) (ty t:Nat) (e:V) (ix:W):T (W×St):=match ix with
 | .int _ i=>match s7 tt ty with
   |some z=>if z=(rowOf t).es then yx s i (dO e) fun s=> .ret (.mY (gz (rowOf t) (.op .at e i)),s) else .fail
   |none=> .fail
 |_=> .fail
def I0 (tt:TT) (s:St) (ty id t:Nat) (n:V) (ix:W):T (W×St):=match ix with
 | .int _ i=>match s7 tt ty with
   |some z=>if z=(rowOf t).es then yx s i n fun s=> .ret (.zq id z i 0,s) else .fail
   |none=> .fail
 |_=> .fail
def nG (pc:List (SB×Bool)) (ZX:List W) (i:V):List (V×List W)->Option (List W)
 |[]=>some ZX
 |(j,cs)::l=>match eQ i j with
  |true=>some cs
  |false=>match jK pc (qA i j) with
   |some b=>match b with
    |true=>some cs
    |false=>nG pc ZX i l
   |none=>none
def F2 (pc:List (SB×Bool)) (i:V) (lJ:List W):List (V×List W)->Option (List (V×List W))
 |[]=>none
 |(j,cs)::l=>match eQ i j with
  |true=>some ((j,lJ)::l)
  |false=>match jK pc (qA i j) with
   |some b=>match b with
    |true=>some ((j,lJ)::l)
    |false=>match F2 pc i lJ l with
     |some l'=>some ((j,cs)::l')
     |none=>none
   |none=>none
def vn (pc:List (SB×Bool)) (i:V):List (V×List W)->Bool
 |[]=>true
 |(j,_)::l=>match jK pc (qA i j) with
  |some false=>vn pc i l
  |_=>false
def tU {α:Type} (i:V):List (V×List W)->St->(St->T α)->T α
 |[],s,k=>k s
 |(j,_)::l,s,k=>match eQ i j with
  |true=>k s
  |false=>jz s (qA i j) fun s b=>match b with
   |true=>k s
   |false=>tU i l s k
def Dx (k:IntKind):List W->Option (List D)
 |[]=>some []
 |v::vs=>match v with
  | .int k' e=>match e with
    | .lit n=>if k=k' then match Dx k vs with
     |some ds=>some (.i n::ds)
     |none=>none
     else none
    |_=>none
  |_=>none
def I_:List W->Option IntKind
 |v::_=>match v with
  | .int k _=>some k
  |_=>none
 |[]=>none
def Sg (tt:TT) (t:Nat) (ix:W):Option (Nat×V):=match jX ix with
 |some _=>none
 |none=>match ix with
  | .int _ e=>match tt t with
    |some ti=>match ti.kind with
     | .array n el=>if 64<n then match tt el with
      |some ie=>if ie.size=1/\ie.agg=false then some (n,e) else none
      |none=>none
      else none
     |_=>none
    |none=>none
  |_=>none
def Ha (s:St) (cs:List W) (e:V):T (W×St):=match I_ cs with
 |none=> .fail
 |some k=>match Dx k cs with
  |none=> .fail
  |some ds=>yx s e (.lit (Int.ofNat ds.length)) fun s=> .ret (.int k (yg (.op .at (.ej (dL ds)) e)),s)
def zk (tt:TT) (s:St) (ty id es:Nat) (i:V) (off:Nat):T (W×St):=match s.h.get id with
 |some o=>match o with
  | .cells cs _=>match tt ty with
    |some ti=>match ti.agg||!(Nat.beq es 1)||!(Nat.beq off 0) with
     |true=> .fail
     |false=>Ha s cs i
    |none=> .fail
  | .vec e t _ ov=>match tt ty with
    |some ti=>if (rowOf t).es=es then yx s i (dO e) fun s=>tU i ov s fun s=>match nG s.pc (gz (rowOf t) (.op .at e i)) i ov with
     |some cs=>match eD off cs with
      |some l=>oW s (partOf ti l)
      |none=> .fail
     |none=> .fail
     else .fail
    |none=> .fail
  |_=> .fail
 |none=> .fail
def MA (v:W) (h:Hp):W×Hp:=match v with
 | .oS id n t=>match h.get id with
   |some o=>match o with
    | .vec e t' _ ov=>match ov with
      |[]=>match Nat.beq t t' with
       |true=>match eQ n (dO e) with
        |true=>(.ej e t,h.drop id)
        |false=>(v,h)
       |false=>(v,h)
      |_=>(v,h)
    |_=>(v,h)
   |none=>(v,h)
 | .wZ z t=>(.ej z t,h)
 |v=>(v,h)
def V_ (e:V):Bool:=match e with
 | .lit n=>uD n 0
 |_=>false
def rW (a b:V):V:=match V_ a with
 |true=>b
 |false=> .add a b
def CT (a b:V):V:=match V_ b with
 |true=>a
 |false=> .sub a b
def Di (e lo n:V):V:=match V_ lo with
 |true=> .op .take e n
 |false=> .op .drop (.op .take e (.add lo n)) lo
def xj {α:Type} (e lo n:V) (s:St) (k:St->T α):T α:=
 jz s (gV lo (.lit 0)) fun s b=>match b with
  |true=> .fail
  |false=>jz s (gV n (.lit 0)) fun s b=>match b with
   |true=> .fail
   |false=>jz s (gV (dO e) (rW lo n)) fun s b=>match b with
    |true=> .fail
    |false=>k s
def AY (h:Hp) (id t:Nat):Option (V×TypeId):=match h.get id with
 |some o=>match o with
  | .vec e t' ty ov=>match ov with
    |[]=>match Nat.beq t t' with
     |true=>some (e,ty)
     |false=>none
    |_=>none
  |_=>none
 |none=>none
def Oj {α:Type} (v:W) (s:St) (k:W->St->T α):T α:=match v with
 | .tK id lo n t=>match AY s.h id t with
   |some (e,_)=>xj e lo n s fun s=>k (.ej (Di e lo n) t) { s with h:=s.h.drop id }
   |none=>k v s
 |v=>match MA v s.h with
  |(v',h')=>k v' { s with h:=h' }
def GW {α:Type}:List W->St->(List W->St->T α)->T α
 |[],s,k=>k [] s
 |v::vs,s,k=>Oj v s fun v' s=>GW vs s fun Mr s=>k (v'::Mr) s
def F8 {α:Type} (t:Nat):List (V×List W)->V->St->(V->St->T α)->T α
 |[],e,s,k=>k e s
 |(j,cs)::ov,e,s,k=>F8 t ov e s fun e s=>GW cs s fun cs s=>match qt (rowOf t) cs with
  |some x=>k (.op .set e (ew (mW j) x)) s
  |none=> .fail
def aen (v:W) (h:Hp):Option (Nat×V×Nat×List (V×List W)):=match v with
 | .oS id n t=>match h.get id with
   |some o=>match o with
    | .vec e t' _ ov=>match ov with
      |[]=>none
      |_=>match Nat.beq t t' with
       |true=>match eQ n (dO e) with
        |true=>some (id,e,t,ov)
        |false=>none
       |false=>none
    |_=>none
   |none=>none
 |_=>none
def Oi {α:Type} (v:W) (s:St) (k:W->St->T α):T α:=match aen v s.h with
 |some (id,e,t,ov)=>F8 t ov e s fun e' s=>match s.h.get id with
  |some _=>k (.ej e' t) { s with h:=s.h.drop id }
  |none=> .fail
 |none=>Oj v s k
def wW {α:Type}:List W->St->(List W->St->T α)->T α
 |[],s,k=>k [] s
 |v::vs,s,k=>Oi v s fun v' s=>wW vs s fun Mr s=>k (v'::Mr) s
def setCells:List CK->Nat->List W->V->Option V
 |_,_,[],x=>some x
 |ks,off,v::vs,x=>match eS ks off with
  |some c=>match mC c v with
   |some a=>setCells ks (off+1) vs (.op .set x (ew (.ej (.i (Int.ofNat off))) a))
   |none=>none
  |none=>none
def JA (r:Row) (e i:V) (off:Nat) (vs:List W):Option V:=match r with
 | .one c=>match off with
   |0=>match vs with
    |[v]=>match mC c v with
     |some a=>some (.op .set e (ew (mW i) a))
     |none=>none
    |_=>none
   |_=>none
 | .many ks=>match setCells ks off vs (.op .at e i) with
   |some x=>some (.op .set e (ew (mW i) x))
   |none=>none
def D8 (tt:TT) (s:St) (ty id es:Nat) (i:V) (off:Nat) (one:Bool) (vs:List W):T (W×St):=
 match s.h.get id with
  |some o=>match o with
   | .vec e t zO ov=>match tt ty with
     |some ti=>if (rowOf t).es=es/\vs.length=ti.size/\one=true then yx s i (dO e) fun s=>tU i ov s fun s=>match nG s.pc (gz (rowOf t) (.op .at e i)) i ov with
      |some cs=>match dQ cs off vs with
       |some lJ=>match F2 s.pc i lJ ov with
        |some iD=> .ret (W.undef,{ s with h:=s.h.put id (.vec e t zO iD) })
        |none=>match vn s.pc i ov with
         |true=>match JA (rowOf t) e i off vs with
          |some e'=> .ret (W.undef,{ s with h:=s.h.put id (.vec e' t zO ov) })
          |none=> .ret (W.undef,{ s with h:=s.h.put id (.vec e t zO ((i,lJ)::ov)) })
         |false=> .fail
       |none=> .fail
      |none=> .fail
      else .fail
     |none=> .fail
   |_=> .fail
  |none=> .fail
def aio:W->Bool
 | .oS _ _ _=>true
 | .eg=>true
 | .wZ _ _=>true
 | .slice _ _ n c=>match n with
   |0=>match c with
    | .exact k=>match k with
      |0=>true
      |_=>false
    |_=>false
   |_=>false
 |_=>false
def afk (c:CK) (v:W):W:=match c with
 | .sl t=>match v with
   | .eg=> .wZ (.ej (.i 1)) t
   | .slice i o n k=>match n with
     |0=>match k with
      | .exact m=>match m with
        |0=> .wZ (.ej (.i 2)) t
        |m+1=> .slice i o 0 (.exact (m+1))
      |k=> .slice i o 0 k
     |n+1=> .slice i o (n+1) k
   |v=>v
 |_=>v
def Lq:List CK->List W->List W
 |[],vs=>vs
 |_::_,[]=>[]
 |c::cs,v::vs=>afk c v::Lq cs vs
def Nt (r:Row):List CK:=match r with
 | .one c=>[c]
 | .many cs=>cs
def RB (i:V):List (SB×Bool)->Option V
 |[]=>none
 |(c,b)::l=>match c with
  | .eq x y=>match b with
    |true=>match eQ x i with
     |true=>some y
     |false=>RB i l
    |false=>RB i l
  |_=>RB i l
def D7 (tt:TT) (s:St) (ty id es:Nat) (i j:V) (off:Nat) (one:Bool) (vs:List W):T (W×St):=
 match s.h.get id with
  |some o=>match o with
   | .vec e t zO ov=>match tt ty with
     |some ti=>if (rowOf t).es=es/\vs.length=ti.size/\one=true then yx s i (dO e) fun s=>tU j ov s fun s=>match jK s.pc (.eq i j) with
      |some true=>match nG s.pc (gz (rowOf t) (.op .at e j)) j ov with
       |some cs=>match dQ cs off (Lq ((Nt (rowOf t)).drop off) vs) with
        |some lJ=>match F2 s.pc j lJ ov with
         |some iD=> .ret (W.undef,{ s with h:=s.h.put id (.vec e t zO iD) })
         |none=>match vn s.pc j ov with
          |true=> .ret (W.undef,{ s with h:=s.h.put id (.vec e t zO ((j,lJ)::ov)) })
          |false=> .fail
        |none=> .fail
       |none=> .fail
      |_=> .fail
      else .fail
     |none=> .fail
   |_=> .fail
  |none=> .fail
def D9 (tt:TT) (s:St) (ty id es:Nat) (i:V) (off:Nat) (v:W):T (W×St):=
 match (if aio v then RB i s.pc else none) with
 |some j=>D7 tt s ty id es i j off (qU v.cells) v.cells
 |none=>wW v.cells s fun vs s=>D8 tt s ty id es i off (qU v.cells) vs
def pC (e:Nat) (own:Option Nat) (x:W) (h:Hp):Option (V×Nat×Hp):=match x with
 | .oS id n t=>match h.get id with
   |some o=>match o with
    | .vec e0 t0 ty ov=>match ov with
      |[]=>match Nat.beq t t0 with
       |true=>match Nat.beq ty e with
        |true=>match eQ n (dO e0) with
         |true=>some (e0,t,h.drop id)
         |false=>none
        |false=>none
       |false=>none
      |_=>none
    |_=>none
   |none=>none
 | .eg=>match own with
   |some t=>some (.ej (.i 0),t,h)
   |none=>none
 | .emp=>match own with
   |some t=>some (.ej (.i 0),t,h)
   |none=>none
 | .wZ _ _=>match own with
   |some t=>some (.ej (.i 0),t,h)
   |none=>none
 | .slice _ _ n c=>match n with
   |0=>match c with
    | .exact k=>match k with
      |0=>match own with
       |some t=>some (.ej (.i 0),t,h)
       |none=>none
      |_=>none
    |_=>none
   |_=>none
 |_=>none
def abU:W->Bool
 | .ej _ _=>true
 |_=>false
def XM (own:Option Nat):W->Bool
 | .oS _ _ _=>true
 | .tK _ _ _ _=>true
 | .eg=>own.isSome
 | .emp=>own.isSome
 | .wZ _ _=>own.isSome
 | .slice _ _ n c=>match n with
   |0=>match c with
    | .exact k=>match k with
      |0=>own.isSome
      |_=>false
    |_=>false
   |_=>false
 |_=>false
def Sm (id t:Nat) (ty:TypeId) (e0 n1 m sd:V) (s:St):T (W×St):=
 xj e0 n1 m s fun s=> .ret (.tK id (.lit 0) (rW n1 m) t,{ s with h:=s.h.put id (.vec (.op .cat (.op .cat (.op .take e0 n1) sd) (.op .drop e0 (rW n1 m))) t ty []) })
def Ej (tt:TT) (t t2 id:Nat) (n1:V) (t':Nat) (y:W) (s:St):T (W×St):=
 match tt t with
 |some ti=>match ti.kind with
  | .slice e=>match tt e with
    |some ie=>match tt t2 with
     |none=> .fail
     |some PC=>match PC.kind with
      | .int _=> .fail
      |_=>
       if ie.size=0\/ie.bytes=0\/¬ie.zero.length=ie.size\/¬(rowOf t').es=ie.size then .fail else
       match AY s.h id t' with
       |none=> .fail
       |some (e0,ty)=>match y with
        | .tK id2 UE n2 JN=>match Nat.beq id2 id with
          |true=>match Nat.beq JN t' with
           |true=>xj e0 UE n2 s fun s=>Sm id t' ty e0 n1 n2 (Di e0 UE n2) s
           |false=> .fail
          |false=> .fail
        |y=>match ri ie.size y s.h with
         |none=> .fail
         |some (m,news)=>match m with
          |0=> .fail
          |m+1=>if m<1000 then match ke (rowOf t') (.ej (.i 0)) (m+1) news with
           |some sd=>Sm id t' ty e0 n1 (.lit (Int.ofNat (m+1))) sd s
           |none=> .fail
           else .fail
    |none=> .fail
  |_=> .fail
 |none=> .fail
def zn (tt:TT) (ty id:Nat) (lo n:V) (t:Nat) (s:St):T (W×St):=
 match tt ty with
 |some ti=>match ti.kind with
  | .slice e=>match tt e with
    |some ie=>if (rowOf t).es=ie.size/\0<ie.size then match AY s.h id t with
     |none=> .fail
     |some (e0,zO)=>match qt (rowOf t) ie.zero with
      |none=> .fail
      |some z=>jz s (gV lo (.lit 0)) fun s b=>match b with
       |true=> .fail
       |false=>jz s (gV n (.lit 0)) fun s b=>match b with
        |true=> .fail
        |false=>jz s (qA (rW lo n) (dO e0)) fun s b=>match b with
         |false=> .fail
         |true=> .ret (W.undef,{ s with h:=s.h.put id (.vec (.op .fill e0 (ew (mW lo) z)) t zO []) })
     else .fail
    |none=> .fail
  |_=> .fail
 |none=> .fail
def qB (bytes k:Nat):Int:=Int.ofNat (140737488355328 / bytes-k)
def W0 (e0:V) (bytes:Nat):Int:=match NV e0 with
 |true=>qB bytes 0
 |false=>qB bytes 1000000
def R_:W->Bool
 | .oS _ _ _=>true
 | .wZ _ _=>true
 | .slice _ _ n _=>match n with
   |0=>true
   |_=>false
 |_=>false
def yW:List (SB×Bool)->Bool
 |[]=>false
 |(b,v)::l=>match b with
  | .eq _ x=>match x with
    | .du i=>match i with
      |0=>match v with
       |true=>true
       |false=>yW l
      |_=>yW l
    |_=>yW l
  |_=>yW l
def G_ (m:Nat) (news:List W) (pc:List (SB×Bool)):Bool:=match m with
 |0=>match news.any R_ with
  |true=>yW pc
  |false=>false
 |_=>false
def Ad (e:Nat) (x:W) (h:Hp):Option (V×Nat×V×List W×Hp):=match x with
 | .oS id n t=>match h.get id with
   |some o=>match o with
    | .vec e0 t0 ty ov=>match ov with
      |[]=>none
      |p::l=>match l with
       |[]=>match Nat.beq t t0 with
        |true=>match Nat.beq ty e with
         |true=>match eQ n (dO e0) with
          |true=>some (e0,t,p.1,p.2,h.drop id)
          |false=>none
         |false=>none
        |false=>none
       |_=>none
    |_=>none
   |none=>none
 |_=>none
def zo (e:Nat) (own:Option Nat) (x:W) (ie:TI) (m:Nat) (news:List W) (s:St):T (W×St):=
 wW news s fun Bl s=>match pC e own x s.h with
  |some (e0,t',h0)=>if (rowOf t').es=ie.size/\m<1000 then
   jz s (gV (dO e0) (.lit (qB ie.bytes (m+1)))) fun s b=>match b with
    |true=>match ke (rowOf t') e0 (m+1) Bl with
     |some e1=> .ret (.oS h0.fresh (dO e1) t',{ s with h:=h0.new (.vec e1 t' e []) })
     |none=> .fail
    |false=> .fail
   else .fail
  |none=> .fail
def AL (e:Nat) (x:W) (ie:TI) (m:Nat) (news:List W) (s:St):T (W×St):=
 wW news s fun Bl s=>match Ad e x s.h with
  |some (e0,t',p,cs,h0)=>if (rowOf t').es=ie.size/\m<1000 then
   jz s (gV (dO e0) (.lit (qB ie.bytes (m+1)))) fun s b=>match b with
    |true=>jz s (gV p (dO e0)) fun s b=>match b with
     |true=>match ke (rowOf t') e0 (m+1) Bl with
      |some e1=> .ret (.oS h0.fresh (dO e1) t',{ s with h:=h0.new (.vec e1 t' e [(p,cs)]) })
      |none=> .fail
     |false=> .fail
    |false=> .fail
   else .fail
  |none=> .fail
def AK (e:Nat) (own:Option Nat) (x:W) (ie:TI) (m:Nat) (news:List W) (s:St):T (W×St):=
 match pC e own x s.h with
 |some (e0,t',h0)=>if (rowOf t').es=ie.size/\m=0 then
  jz s (qA (dO e0) (.du 0)) fun s b=>match b with
   |true=>jz s (gV (dO e0) (.lit (qB ie.bytes 1))) fun s b=>match b with
    |true=>match ke (rowOf t') e0 1 ie.zero with
     |some e1=> .ret (.oS h0.fresh (dO e1) t',{ s with h:=h0.new (.vec e1 t' e [(.du 0,news)]) })
     |none=> .fail
    |false=> .fail
   |false=>zo e own x ie m news s
  else .fail
 |none=> .fail
def AJ (tt:TT) (t t2:Nat) (x y:W) (s:St):T (W×St):=
 match tt t with
 |some ti=>match ti.kind with
  | .slice e=>match tt e with
    |some ie=>match tt t2 with
     |none=> .fail
     |some PC=>match PC.kind with
      | .int _=> .fail
      |_=>
       if ie.size=0\/ie.bytes=0\/¬ie.zero.length=ie.size\/¬ie.bytes<=400 then .fail else
       match y with
       | .ej e2 ty2=>match pC e ti.own x s.h with
         |some (e0,t',h0)=>if (rowOf t').es=ie.size/\rowOf ty2=rowOf t' then
          jz s (pQ (dO e2) (.lit 0)) fun s b=>match b with
           |true=> .ret (x,s)
           |false=>jz s (gV (dO e2) (.lit (W0 e0 ie.bytes))) fun s b=>match b with
            |true=>jz s (gV (dO e0) (.lit 1000000)) fun s b=>match b with
             |true=>match NV e0 with
              |true=> .ret (.oS h0.fresh (dO e2) t',{ s with h:=h0.new (.vec e2 t' e []) })
              |false=> .ret (.oS h0.fresh (dO (.op .cat e0 e2)) t',{ s with h:=h0.new (.vec (.op .cat e0 e2) t' e []) })
             |false=> .fail
            |false=> .fail
          else .fail
         |none=> .fail
       |y=>match ri ie.size y s.h with
        |some (m,news)=>match m with
         |0=> .ret (x,s)
         |m+1=>match Ad e x s.h with
          |some _=>AL e x ie m news s
          |none=>match G_ m news s.pc with
           |true=>AK e ti.own x ie m news s
           |false=>zo e ti.own x ie m news s
        |none=> .fail
    |none=> .fail
  |_=> .fail
 |none=> .fail
def I7 (tt:TT) (t:Nat) (l c:W) (s:St):T (W×St):=match l with
 | .int k n=>match c with
   | .int k2 n2=>match eQ n n2 with
     |false=> .fail
     |true=>match tt t with
      |none=> .fail
      |some i=>match i.own with
       |none=> .fail
       |some o=>match i.kind with
        | .slice e=>match tt e with
          |none=> .fail
          |some ie=>match qt (rowOf o) ie.zero with
           |none=> .fail
           |some z=>if ie.size=(rowOf o).es/\0<ie.size/\ie.bytes≠0/\ie.zero.length=ie.size then
            jz s (gV n (.lit 0)) fun s b=>match b with
             |true=> .fail
             |false=>jz s (pQ n (.lit 0)) fun s b=>match b with
              |true=>match qn tt t (.int k (.lit 0)) (.int k2 (.lit 0)) s.h with
               |some (v,h)=> .ret (v,{ s with h:=h })
               |none=> .fail
              |false=>jz s (gV n (.lit (qB ie.bytes 0))) fun s b=>match b with
               |true=> .ret (.oS s.h.fresh (dO (.op .rep n z)) o,{ s with h:=s.h.new (.vec (.op .rep n z) o e []) })
               |false=> .fail
            else .fail
        |_=> .fail
   |_=> .fail
 |_=> .fail
def B7 (v:W):Bool:=match jX v with
 |some n=>uD n 0
 |none=>false
def Jc (tt:TT) (s:St) (ty t:Nat) (e:V) (lo hi:Option W) (mx:Option W):T (W×St):=match mx with
 |some m=>match B7 m with
  |true=>match s7 tt ty with
   |none=> .fail
   |some _=>match lo with
    |none=>match hi with
     |some hv=>match B7 hv with
      |true=> .ret (.wZ (.op .take e (.lit 0)) t,s)
      |false=> .fail
     |none=> .fail
    |some _=> .fail
  |false=> .fail
 |none=>match s7 tt ty with
  |none=> .fail
  |some z=>if z=(rowOf t).es then
   (match hi with
   |none=>match lo with
    |some (.int _ l)=>jz s (gV l (.lit 0)) fun s b=>match b with
     |true=> .fail
     |false=>jz s (gV (dO e) l) fun s b=>match b with
      |true=> .fail
      |false=> .ret (.ej (.op .drop e l) t,s)
    |_=> .fail
   |some (.int _ h)=>jz s (gV (dO e) h) fun s b=>match b with
    |true=> .fail
    |false=>match lo with
     |none=>jz s (gV h (.lit 0)) fun s b=>match b with
      |true=> .fail
      |false=> .ret (.ej (.op .take e h) t,s)
     |some (.int _ l)=>jz s (gV l (.lit 0)) fun s b=>match b with
      |true=> .fail
      |false=>jz s (gV h l) fun s b=>match b with
       |true=> .fail
       |false=> .ret (.ej (.op .drop (.op .take e h) l) t,s)
     |_=> .fail
   |_=> .fail)
   else .fail
def loE (lo:Option W):Option V:=match lo with
 |none=>some (.lit 0)
 |some v=>match v with
  | .int _ l=>some l
  |_=>none
def Cw (tt:TT) (s:St) (ty id t:Nat) (s_ n0:V) (lo hi mx:Option W):T (W×St):=
 match s7 tt ty with
 |none=> .fail
 |some z=>if z=(rowOf t).es/\z≠0 then match loE lo with
  |none=> .fail
  |some l=>jz s (gV l (.lit 0)) fun s b=>match b with
   |true=> .fail
   |false=>match hi with
    |none=>match mx with
     |some _=> .fail
     |none=>jz s (gV n0 l) fun s b=>match b with
      |true=> .fail
      |false=> .ret (.tK id (rW s_ l) (CT n0 l) t,s)
    |some hv=>match hv with
     | .int _ h=>jz s (gV h l) fun s b=>match b with
       |true=> .fail
       |false=>match mx with
        |some mv=>match mv with
         | .int _ m=>jz s (gV m h) fun s b=>match b with
           |true=> .fail
           |false=>jz s (gV n0 m) fun s b=>match b with
            |true=> .fail
            |false=> .ret (.any,s)
         |_=> .fail
        |none=>jz s (gV n0 h) fun s b=>match b with
         |false=> .ret (.tK id (rW s_ l) (CT h l) t,s)
         |true=>match V_ s_ with
          |false=> .fail
          |true=>match AY s.h id t with
           |none=> .fail
           |some (e,_)=>jz s (gV (dO e) h) fun s b=>match b with
            |true=> .fail
            |false=> .ret (.tK id (rW s_ l) (CT h l) t,s)
     |_=> .fail
  else .fail
def Ja (tt:TT) (s:St) (ty:Nat) (z:V) (t:Nat) (lo hi mx:Option W):T (W×St):=
 match mx with
 |some _=> .fail
 |none=>match s7 tt ty with
  |none=> .fail
  |some _=>match nA hi 0 0 with
   |some 0=>match nA lo 0 0 with
    |some 0=> .ret (.wZ z t,s)
    |_=> .fail
   |_=> .fail
def IZ (tt:TT) (s:St) (ty id t:Nat) (lo n:V) (ix:W):T (W×St):=match ix with
 | .int _ i=>match s7 tt ty with
   |some z=>if z=(rowOf t).es then yx s i n fun s=> .ret (.zq id z (rW lo i) 0,s) else .fail
   |none=> .fail
 |_=> .fail
def XQ:W->Bool
 | .jA _=>true
 |_=>false
def I2 (tt:TT) (s:St) (ty:Nat) (e:V) (ix:W):T (W×St):=match ix with
 | .int _ i=>match tt ty with
   |some ti=>match ti.kind with
    | .string=>yx s i (dO e) fun s=> .ret (.int .u8 (yg (.op .at e i)),s)
    |_=> .fail
   |none=> .fail
 |_=> .fail
def hiE (e:V) (hi:Option W):Option V:=match hi with
 |none=>some (dO e)
 |some v=>match v with
  | .int _ h=>some h
  |_=>none
def I1 (tt:TT) (s:St) (ty:Nat) (e:V) (lo hi mx:Option W):T (W×St):=match mx with
 |some _=> .fail
 |none=>match tt ty with
  |none=> .fail
  |some ti=>match ti.kind with
   | .string=>match loE lo with
     |none=> .fail
     |some l=>match hiE e hi with
      |none=> .fail
      |some h=>jz s (gV l (.lit 0)) fun s b=>match b with
       |true=> .fail
       |false=>jz s (gV h l) fun s b=>match b with
        |true=> .fail
        |false=>jz s (gV (dO e) h) fun s b=>match b with
         |true=> .fail
         |false=> .ret (.jA (.op .sub e (ew (mW l) (ew (mW h) (.ej (.i 0))))),s)
   |_=> .fail
def Cb (x y:W):Option (V×V):=match XQ x||XQ y with
 |false=>none
 |true=>match tq x with
  |none=>none
  |some a=>match tq y with
   |none=>none
   |some b=>some (a,b)
def FM (a b:V):SB:=.not (.eq (.op .slt a b) (.lit 0))
def Oq (op:BinOp) (a b:V) (s:St):T (W×St):=match op with
 | .add=>jz s (gV (dO a) (.lit 1000000000)) fun s c=>match c with
   |false=> .fail
   |true=>jz s (gV (dO b) (.lit 1000000000)) fun s c=>match c with
    |false=> .fail
    |true=> .ret (.jA (.op .cat a b),s)
 | .eql=> .ret (.bool (pQ (mn a) (mn b)),s)
 | .neq=> .ret (.bool (.not (pQ (mn a) (mn b))),s)
 | .lss=> .ret (.bool (FM a b),s)
 | .gtr=> .ret (.bool (FM b a),s)
 | .leq=> .ret (.bool (wJ (FM b a)),s)
 | .geq=> .ret (.bool (wJ (FM a b)),s)
 |_=> .fail
def Cy (tt:TT) (sT dT:Nat) (e:V) (s:St):T (W×St):=match tt sT with
 |none=> .fail
 |some j=>match j.kind with
  | .string=>match tt dT with
    |none=> .fail
    |some i=>match i.kind with
     | .slice el=>match tt el with
       |some ie=>match ie.kind with
        | .int k=>match k with
          | .u8=>jz s (pQ (dO e) (.lit 0)) fun s c=>match c with
            |true=> .ret (.slice s.h.fresh 0 0 (.rest 1),{ s with h:=s.h.new (.cells [] el) })
            |false=> .ret (.oS s.h.fresh (dO e) 14,{ s with h:=s.h.new (.vec e 14 el []) })
          |_=> .fail
        |_=> .fail
       |none=> .fail
     |_=> .fail
  |_=> .fail
def KY (c:CK):TK:=match c with
 | .int k=> .int k
 |_=> .string
def wO (m:W) (h:Hp):Option (Nat×V×Nat):=match m with
 | .map id=>match h.get id with
   |some o=>match o with
    | .jM e t=>some (id,e,t)
    |_=>none
   |none=>none
 |_=>none
def AF (tt:TT):List CK->Nat->List (Nat×Nat×Nat)->Bool
 |[],_,[]=>true
 |c::cs,j,(o,ft,_)::fs=>match Nat.beq o j with
  |true=>match tt ft with
   |some i=>match c with
    | .int k=>match decide (i.kind= .int k) with
      |true=>AF tt cs (j+1) fs
      |false=>false
    |_=>false
   |none=>false
  |false=>false
 |_,_,_=>false
def XH (tt:TT) (ki:TI) (r:Row):Bool:=match r with
 | .one c=>decide (ki.kind=KY c)
 | .many cs=>match ki.kind with
   | .struct fs=>match ki.eqs with
     |true=>AF tt cs 0 fs
     |false=>false
   |_=>false
def R9 (r:Row) (v:W):Option V:=match r with
 | .one c=>mC c v
 | .many cs=>match v with
   | .agg vs=>hD cs vs
   |_=>none
def L3 (r:Row) (x:V):W:=match r with
 | .one c=>vf c x
 | .many cs=> .agg (hJ cs 0 x)
def mapKey (tt:TT) (ty t:Nat) (k:W):Option (V×TI):=match tt ty with
 |none=>none
 |some ti=>match ti.kind with
  | .map kt et=>match tt kt with
    |none=>none
    |some ki=>match XH tt ki (mapOf t).1 with
     |true=>match tt et with
      |none=>none
      |some ie=>match R9 (mapOf t).1 k with
       |none=>none
       |some a=>some (mn a,ie)
     |false=>none
  |_=>none
def GP (e a:V):SB:=match e with
 | .ej d=>match a with
   | .ej k=> .lit (!(dH d.l k).isSome)
   |a=> .eq (.op .KO (.ej d) a) (.lit 0)
 |e=> .eq (.op .KO e a) (.lit 0)
def zj (tt:TT) (ty:Nat) (k:W) (ok:Bool) (e:V) (t:Nat) (s:St):T (W×St):=match mapKey tt ty t k with
 |none=> .fail
 |some (a,ie)=>match zeroOf ie with
  |none=> .fail
  |some z=>jz s (GP e a) fun s b=>match b with
   |true=> .ret (if ok then .tuple [z,.bool (.lit false)] else z,s)
   |false=> .ret (if ok then .tuple [L3 (mapOf t).2 (.op .Ds e a),.bool (.lit true)] else L3 (mapOf t).2 (.op .Ds e a),s)
def Ov (tt:TT) (ty id:Nat) (k x:W) (e:V) (t:Nat) (s:St):T (W×St):=match mapKey tt ty t k with
 |none=> .fail
 |some (a,_)=>match R9 (mapOf t).2 x with
  |none=> .fail
  |some b=> .ret (W.undef,{ s with h:=s.h.put id (.jM (.op .xo e (ew a b)) t) })
def I5 (tt:TT) (ty:Nat) (m k x:W) (s:St):T (W×St):=wW [x] s fun xs s=>match xs with
 |[x]=>match wO m s.h with
  |some (id,e,t)=>Ov tt ty id k x e t s
  |none=> .fail
 |_=> .fail
def OF (tt:TT) (ty id:Nat) (k:W) (e:V) (t:Nat) (s:St):T (W×St):=match mapKey tt ty t k with
 |none=> .fail
 |some (a,_)=> .ret (W.undef,{ s with h:=s.h.put id (.jM (.op .KP e a) t) })
def D4 (m:W) (h:Hp):Option (Nat×V×Nat×List Nat×List (V×W)):=match m with
 | .map id=>match h.get id with
   |some o=>match o with
    | .qY e t eR ov=>some (id,e,t,eR,ov)
    |_=>none
   |none=>none
 |_=>none
def IX (tt:TT) (ty:Nat) (k:W):Option (V×TI):=match tt ty with
 |none=>none
 |some ti=>match ti.kind with
  | .map kt et=>match tt kt with
    |none=>none
    |some ki=>if ki.kind= .int .i64 then match tt et with
     |none=>none
     |some ie=>match k with
      | .int kk x=>if kk= .i64 then some (x,ie) else none
      |_=>none
     else none
  |_=>none
def sY {α:Type} (x:V):List (V×W)->St->(Option W->St->T α)->T α
 |[],s,k=>k none s
 |(y,v)::l,s,k=>match eQ x y with
  |true=>k (some v) s
  |false=>jz s (qA x y) fun s b=>match b with
   |true=>k (some v) s
   |false=>sY x l s k
def IW {α:Type} (x:V) (v:W):List (V×W)->St->(Option (List (V×W))->St->T α)->T α
 |[],s,k=>k none s
 |(y,u)::l,s,k=>match eQ x y with
  |true=>k (some ((y,v)::l)) s
  |false=>jz s (qA x y) fun s b=>match b with
   |true=>k (some ((y,v)::l)) s
   |false=>IW x v l s fun r s=>match r with
    |some l'=>k (some ((y,u)::l')) s
    |none=>k none s
def zi (tt:TT) (ty:Nat) (k:W) (ok:Bool) (e:V) (ov:List (V×W)) (s:St):T (W×St):=match IX tt ty k with
 |none=> .fail
 |some (x,ie)=>match zeroOf ie with
  |none=> .fail
  |some z=>sY x ov s fun r s=>match r with
   |some v=> .ret (if ok then .tuple [v,.bool (.lit true)] else v,s)
   |none=>jz s (GP e (mW x)) fun s b=>match b with
    |true=> .ret (if ok then .tuple [z,.bool (.lit false)] else z,s)
    |false=> .fail
def zh (tt:TT) (ty id:Nat) (k v:W) (e:V) (t:Nat) (eR:List Nat) (ov:List (V×W)) (s:St):T (W×St):=match IX tt ty k with
 |none=> .fail
 |some (x,_)=>IW x v ov s fun r s=>match r with
  |some iD=> .ret (W.undef,{ s with h:=s.h.put id (.qY e t eR iD) })
  |none=>jz s (GP e (mW x)) fun s b=>match b with
   |true=> .ret (W.undef,{ s with h:=s.h.put id (.qY (.op .xo e (ew (mW x) (.ej (.i 0)))) t eR ((x,v)::ov)) })
   |false=> .fail
def alp (tt:TT) (t:Nat):Nat:=match tt t with
 |some ti=>match ti.kind with
  | .slice e=>e
  |_=>0
 |none=>0
def YA (tt:TT) (t:Nat):List Nat:=match tt t with
 |some ti=>match ti.kind with
  | .map _ et=>match tt et with
    |some ie=>match ie.kind with
     | .pointer s=>match tt s with
       |some si=>match si.kind with
        | .struct fs=>s::0::fs.map fun f=>alp tt f.2.1
        |_=>[]
       |none=>[]
     | .slice e=>[0,e]
     |_=>[]
    |none=>[]
  |_=>[]
 |none=>[]
abbrev eh:=Nat->List W->St->T (W×St)
def yw (s:St) (x:Operand) (f:W->T (W×St)):T (W×St):=match ev s x with |some v=>f v|none=> .fail
def abO (tt:TT) (t:Nat):Option Nat:=match tt t with
 |some ti=>ti.own
 |none=>none
def vX (tt:TT) (s:St) (b:Builtin) (ts:List Nat) (args:List W):T (W×St):=
 match b,ts,args with
 | .len,[t],[x]=>oW s (YC tt t x s.h)
 | .append,[t,t2],[.tK id lo n t',y]=>match V_ lo with
   |true=>Ej tt t t2 id n t' y s
   |false=> .fail
 | .append,[t,t2],[x,y]=>match XM (abO tt t) x||abU y with
   |true=>AJ tt t t2 x y s
   |false=>Bb s (Ei tt t t2 x y s.h)
 | .delete,[t,_],[m,k]=>match wO m s.h with
   |some (id,e,t')=>OF tt t id k e t' s
   |none=>nC tt t m k s fun s=>Nu s (Eh tt s.pc t m k s.h)
 | .clear,[t],[.oS id n t']=>zn tt t id (.lit 0) n t' s
 | .clear,[t],[.tK id lo n t']=>zn tt t id lo n t' s
 | .clear,[t],[x]=>Nu s (Je tt t x s.h)
 | .min,_,.int k a::xs=>sV false xs a k s
 | .max,_,.int k a::xs=>sV true xs a k s
 |_,_,_=> .fail
def Jf (tt:TT) (call:eh) (s:St) (c:Call):T (W×St):=
 match evs s c.args.toList with
 |none=> .fail
 |some args=>match c.callee with
  | .builtin b=>vX tt s b c.argTypes.toList args
  | .value f=>match ev s f with
    |some (.func (.func g) fs cs)=>call g (fs++args++cs) s
    |_=> .fail
  | .invoke _ _=> .fail
def ag1:SB->Bool
 | .lit _=>true
 | .not c=>match c with
   | .eq _ z=>match z with
     | .lit n=>uD n 0
     |_=>false
   |_=>false
 |_=>false
def d_ {α:Type} (v:W) (s:St) (k:W->St->T α):T α:=match v with
 | .bool c=>match ag1 c with
   |true=>k (.bool c) s
   |false=>jz s c fun s b=>k (.bool (.lit b)) s
 |v=>k v s
def I6 (tt:TT) (call:eh) (s:St) (op:Op):T (W×St):=
 match op with
 | .move x=>yw s x fun v=> .ret (v,s)
 | .assign x=>yw s x fun v=> .ret (v,s)
 | .pick c a b=>yw s c fun c=>match c with
   | .bool c=>jz s c fun s b'=>if b' then yw s a fun v=> .ret (v,s) else yw s b fun v=> .ret (v,s)
   |_=> .fail
 | .alloc t=>match tt t with
   |some i=> .ret (.ptr s.h.fresh 0,{ s with h:=s.h.new (.cells i.zero t) })
   |none=> .fail
 | .box t x=>yw s x fun v=>if qU v.cells then .ret (.ptr s.h.fresh 0,{ s with h:=s.h.new (.cells v.cells t) }) else .fail
 | .build t parts=>match vW s parts.toList with
   |some ps=>oW s (Jh tt t ps)
   |none=> .fail
 | .buildSlice t n parts=>match vW s parts.toList with
   |some ps=>Bb s (s6 tt t n ps s.h)
   |none=> .fail
 | .makeSlice t l c=>yw s l fun lv=>match ev s c with
   |some cv=>match qn tt t lv cv s.h with
    |some r=>Bb s (some r)
    |none=>I7 tt t lv cv s
   |none=> .fail
 | .load t x=>yw s x fun p=>match p with
   | .zq id es i off=>zk tt s t id es i off
   |p=>oW s (AI tt t p s.h)
 | .store t x y=>yw s x fun p=>match ev s y with
   |some v=>d_ v s fun v s=>match p with
    | .zq id es i off=>D9 tt s t id es i off v
    |p=>Nu s (I3 tt t p v s.h)
   |none=> .fail
 | .nilCheck x=>yw s x fun v=>match v with
   | .ptr _ _=> .ret (v,s)
   | .mY _=> .ret (v,s)
   | .zq _ _ _ _=> .ret (v,s)
   |_=> .fail
 | .binOp op t x y _=>yw s x fun a=>match ev s y with
   |some b=>match a with
    | .agg xs=>match b,op with
      | .agg ys,.eql=>match Cx tt t xs ys with
        |some c=> .ret (.bool c,s)
        |none=> .fail
      | .agg ys,.neq=>match Cx tt t xs ys with
        |some c=> .ret (.bool (wJ c),s)
        |none=> .fail
      |_,_=> .fail
    |a=>match NN tt t a b with
     |some e=>aev s e op
     |none=>match Nx op a b with
      |some (q,k,e,d)=>aei s q k e d
      |none=>match Cb a b with
       |some (x,y)=>Oq op x y s
       |none=>oW s (YE tt t op a b)
   |none=> .fail
 | .unOp op _ x=>yw s x fun v=>oW s (afl op v)
 | .convert sT dT x=>yw s x fun v=>match v with
   | .jA e=>Cy tt sT dT e s
   |v=>Bb s (oO tt sT dT v s.h)
 | .makeFunc fn fs cs=>match evs s fs.toList,evs s cs.toList with
   |some f,some c=> .ret (.func fn f c,s)
   |_,_=> .fail
 | .makeMap t r=>match r with
   |none=>match abO tt t with
    |some m=>match Nat.ble 100 m with
     |true=> .ret (.map s.h.fresh,{ s with h:=s.h.new (.qY (.ej (.i 0)) (m-100) (YA tt t) []) })
     |false=> .ret (.map s.h.fresh,{ s with h:=s.h.new (.jM (.ej (.i 0)) m) })
    |none=> .ret (.map s.h.fresh,{ s with h:=s.h.new (.map [] 1) })
   |some _=> .fail
 | .slice t x lo hi mx=>yw s x fun v=>match Hd s lo,Hd s hi,Hd s mx with
   |some l,some h,some m=>match v with
    | .ej e t'=>Jc tt s t t' e l h m
    | .oS id n t'=>Cw tt s t id t' (.lit 0) n l h m
    | .tK id lo n t'=>Cw tt s t id t' lo n l h m
    | .jA e=>I1 tt s t e l h m
    | .wZ z t'=>Ja tt s t z t' l h m
    | .eg=>HF s h fun h s=>oW s (ze tt t .eg l h m)
    | .slice id o 0 (.exact 0)=>HF s h fun h s=>oW s (ze tt t (.slice id o 0 (.exact 0)) l h m)
    |v=>match ze tt t v l h m with
    |some v=> .ret (v,s)
    |none=>oW s (Ea tt t v l h m s.h)
   |_,_,_=> .fail
 | .fieldAddr t x f=>yw s x fun v=>oW s (u9 tt t v f)
 | .field t x f=>yw s x fun v=>oW s (I9 tt t v f)
 | .indexAddr t x i=>yw s x fun v=>match ev s i with
   |some i=>match v with
    | .wz k ks=>oW s (I8 tt s.pc t k ks i)
    | .ej e t'=>Jd tt s t t' e i
    | .oS id n t'=>I0 tt s t id t' n i
    | .tK id lo n t'=>IZ tt s t id t' lo n i
    | .ptr id o=>match Sg tt t i with
      |some (n,e)=>if o=0 then yx s e (.lit (Int.ofNat n)) fun s=> .ret (.zq id 1 e 0,s) else .fail
      |none=>Hx tt t (.ptr id o) i s fun i s=>oW s (nO tt t (.ptr id o) i)
    |v=>Hx tt t v i s fun i s=>oW s (nO tt t v i)
   |none=> .fail
 | .index t x i=>yw s x fun v=>match ev s i with
   |some i=>match v with
    | .jA e=>I2 tt s t e i
    | .agg cs=>match Sg tt t i with
      |some (n,e)=>match Nat.beq cs.length n with
       |true=>Ha s cs e
       |false=> .fail
      |none=>Hx tt t (.agg cs) i s fun i s=>oW s (zl tt t (.agg cs) i)
    |v=>Hx tt t v i s fun i s=>oW s (zl tt t v i)
   |none=> .fail
 | .lookup t m k ok=>yw s m fun v=>match ev s k with
   |some k=>match wO v s.h with
    |some (_,e,t')=>zj tt t k ok e t' s
    |none=>match D4 v s.h with
     |some (_,e,_,_,ov)=>zi tt t k ok e ov s
     |none=>nC tt t v k s fun s=>oW s (Ed tt s.pc t v k ok s.h)
   |none=> .fail
 | .mapUpdate t m k x=>yw s m fun v=>match ev s k,ev s x with
   |some k,some x=>match wO v s.h with
    |some _=>I5 tt t v k x s
    |none=>match D4 v s.h with
     |some (id,e,t',eR,ov)=>zh tt t id k x e t' eR ov s
     |none=>nC tt t v k s fun s=>Nu s (qk tt s.pc t v k x s.h)
   |_,_=> .fail
 | .insert t m k x=>yw s m fun v=>match ev s k,ev s x with
   |some k,some x=>match wO v s.h with
    |some _=>I5 tt t v k x s
    |none=>match D4 v s.h with
     |some (id,e,t',eR,ov)=>zh tt t id k x e t' eR ov s
     |none=>nC tt t v k s fun s=>Nu s (qk tt s.pc t v k x s.h)
   |_,_=> .fail
 | .range t x=>yw s x fun v=>Bb s (I4 tt t v s.h)
 | .next x isS=>yw s x fun v=>Bb s (Ow v isS s.h)
 | .entry x=>yw s x fun v=>oW s (Jb v s.h)
 | .extract x i=>yw s x fun v=>match v with
   | .tuple vs=>oW s (eS vs i)
   |_=> .fail
 | .call c=>Jf tt call s c
 |_=> .fail
def vE {α:Type} (ops:List Oper) (s:St) (o:Oper) (f:St->Bool->T α):T α:=
 match o.guard with
 |none=>f s true
 |some (j,want)=>match eS ops j with
  |some oj=>match oj.dst with
   |some d=>match s.bD.get d with
    |some (.bool c)=>jz s c fun s b=>f s (b == want)
    |some (.tuple _)=>f s false
    |_=> .fail
   |none=> .fail
  |none=> .fail
def LB (tt:TT) (call:eh) (all:List Oper):List Oper->St->T St
 |[],s=> .ret s
 |o::rest,s=>vE all s o fun s b=>
  if b then (I6 tt call s o.op).bind fun (v,s')=>LB tt call all rest (s'.Kl o.dst v)
  else LB tt call all rest (s.Kl o.dst W.undef)
inductive Ex where
 |normal
 |exit (id:Nat)
 |ret
 deriving DecidableEq,Inhabited
def u7 (body:St->T (Ex×St)):Nat->St->T (Ex×St)
 |0,_=> .fail
 |n+1,s=>(body s).bind fun (e,s')=>match e with
  | .normal=>u7 body n s'
  |e=> .ret (e,s')
def iP (tt:TT) (call:eh) (draw:Nat->List Oper->St->T St) (lf:Nat):Code->St->T (Ex×St)
 | .skip,s=> .ret (.normal,s)
 | .region id ops d,s=>
   if d then (draw id ops.toList s).bind fun s'=> .ret (.normal,s')
   else (LB tt call ops.toList ops.toList s).bind fun s'=> .ret (.normal,s')
 | .seq a b,s=>(iP tt call draw lf a s).bind fun (e,s')=>match e with
   | .normal=>iP tt call draw lf b s'
   |e=> .ret (e,s')
 | .cond c x y,s=>match ev s c with
   |some (.bool c)=>jz s c fun s b=>if b then iP tt call draw lf x s else iP tt call draw lf y s
   |_=> .fail
 | .block id b,s=>(iP tt call draw lf b s).bind fun (e,s')=>match e with
   | .exit j=> .ret (if j=id then .normal else .exit j,s')
   |e=> .ret (e,s')
 | .loop b,s=>u7 (iP tt call draw lf b) lf s
 | .exit id,s=> .ret (.exit id,s)
 | .scope b,s=>iP tt call draw lf b s
 | .label _,s=> .ret (.normal,s)
 | .ret,s=> .ret (.ret,s)
 |_,_=> .fail
def cf:List W->Nat->Tr W->Tr W
 |[],_,t=>t
 |v::vs,i,t=>cf vs (i+1) (t.put i (some v))
def zf (tt:TT) (s:St):ResultVar->Option W
 | .tmp t=>s.bD.get t
 | .cell a t=>match s.bD.get a with
   |some p=>AI tt t p s.h
   |none=>none
def kE (tt:TT) (s:St):List ResultVar->Option (List W)
 |[]=>some []
 |r::rs=>match zf tt s r with
  |none=>none
  |some v=>match kE tt s rs with
   |none=>none
   |some vs=>some (v::vs)
def Ee (tt:TT) (ft:Nat->Option Func) (hook:Nat->Option (List W->St->T (W×St))) (draw:eh->Nat->Nat->List Oper->St->T St) (lf:Nat):Nat->eh
 |0,_,_,_=> .fail
 |n+1,g,args,s=>
  match hook g with
  |some h=>h args s
  |none=>match ft g with
   |none=> .fail
   |some fn=>match fn.body with
    |none=> .fail
    |some c=>
     (iP tt (Ee tt ft hook draw lf n) (draw (Ee tt ft hook draw lf n) g) lf c { s with bD:=cf args 0 .nil }).bind fun (e,s')=>
      match e with
      | .exit _=> .fail
      |_=>match kE tt s' fn.results.toList with
       |some [v]=> .ret (v,{ s' with bD:=s.bD })
       |some vs=> .ret (.tuple vs,{ s' with bD:=s.bD })
       |none=> .fail
end
end Go.As
end
section
namespace Go.As
structure En where
 ρ:Nat->Int
 θ:Nat->Nat×Nat
 κ:Nat->Nat
 dm:Nat->Prop
 ro:Nat->Prop
 hd:Nat->Option (Nat×D×Nat):=fun _=>none
def de (s:List Nat):ByteArray:=⟨(s.map UInt8.ofNat).toArray⟩
def jE (h:Array Obj) (b o:Nat):Option Value:=
 match h[b]? with
 |some (.cells c _ _)=>c[o]?
 |_=>none
theorem nQ (w:World) (b o:Nat):w.cell? ⟨b,o,none⟩ = jE w.heap b o:=by
 unfold World.cell? jE
 grind
def fI (h:Array Obj) (b o:Nat) (us:List Value):Prop:= ∀i u,us[i]?=some u->jE h b (o+i)=some u
inductive Rd (ro:Nat->Prop) (h:Array Obj):CK->D->Value->Prop where
 |int (k:IntKind) (n:Int):Rd ro h (.int k) (.i n) (.int k n)
 |bool (b:Bool):Rd ro h .bool (.i (if b then 1 else 0)) (.bool b)
 |str (s:ByteArray):Rd ro h .str (td s) (.string s)
 |nil (t:Nat):Rd ro h (.sl t) (.i 1) (.slice none 0 0)
 |vG (t:Nat) (a:Addr) (cap:Nat):Rd ro h (.sl t) (.i 2) (.slice (some a) 0 cap)
 |one (t:Nat) (c:CK) (b o cap:Nat) (ds:List D) (f:Nat->Value) (hr:rowOf t= .one c) (hc:ds.length<=cap) (Y:ro b)
  (U: ∀i d,ds[i]?=some d->jE h b (o+i)=some (f i)) (Z: ∀i d,ds[i]?=some d->Rd ro h c d (f i)):Rd ro h (.sl t) (dL ds) (.slice (some ⟨b,o,none⟩) ds.length cap)
 |many (t:Nat) (cs:List CK) (b o cap:Nat) (rows:List (List D)) (f:Nat->Nat->Value) (hr:rowOf t= .many cs) (hc:rows.length<=cap) (Y:ro b) (hl: ∀r∈rows,r.length=cs.length)
  (U: ∀i r j d,rows[i]?=some r->r[j]?=some d->jE h b (o+i*cs.length+j)=some (f i j))
  (Z: ∀i r j d c,rows[i]?=some r->r[j]?=some d->cs[j]?=some c->Rd ro h c d (f i j)):Rd ro h (.sl t) (dL (rows.map dL)) (.slice (some ⟨b,o,none⟩) rows.length cap)
theorem Rd.S! {ro:Nat->Prop} {h:Array Obj} {c:CK} {d:D} {v:Value} (r:Rd ro h c d v):v.oneCell'=true:=by cases r<;>rfl
theorem Rd.bX {ro mb:Nat->Prop} {h h':Array Obj} (k1: ∀b,ro b->mb b) (k2: ∀b,ro b->h'[b]?=h[b]?) {c:CK} {d:D} {v:Value} (r:Rd ro h c d v):Rd mb h' c d v:=by
 have hk: ∀b o u,ro b->jE h b o=some u->jE h' b o=some u:=by
  intro b o u Y hu
  grind [jE]
 induction r with
 |int k n=>exact .int k n
 |bool b=>exact .bool b
 |str s=>exact .str s
 |nil t=>exact .nil t
 |vG t a cap=>exact .vG t a cap
 |one t c b o cap ds f hr hc Y U Z ih=>exact .one t c b o cap ds f hr hc (k1 b Y) (fun i d hi=>hk _ _ _ Y (U i d hi)) ih
 |many t cs b o cap rows f hr hc Y hl U Z ih=>exact .many t cs b o cap rows f hr hc (k1 b Y) hl (fun i r j d hi hj=>hk _ _ _ Y (U i r j d hi hj)) ih
def eE (E:En) (id off len:Nat) (a:Addr) (cap:Nat):Mq->Prop
 | .exact c=>cap=c/\((a=⟨(E.θ id).1,(E.θ id).2+off,none⟩)\/c=0)
 | .rest es=>(a=⟨(E.θ id).1,(E.θ id).2+off,none⟩/\off+cap*es=E.κ id)\/(cap=0/\len=0/\off=E.κ id)
mutual
def VR (E:En) (h:Array Obj):W->Value->Prop
 | .bool b,v=>v= .bool (b.den E.ρ)
 | .int k e,v=>v= .int k (e.den E.ρ)
 | .str s,v=>v= .string (de s)/\∀b∈s,b<256
 | .ptr id off,v=>v= .pointer (some ⟨(E.θ id).1,(E.θ id).2+off,none⟩)/\E.dm id
 | .tN,v=>v= .pointer none
 | .mY cs,v=> ∃b o us,v= .pointer (some ⟨b,o,none⟩)/\E.ro b/\cB E h cs us/\fI h b o us/\∀u∈us,u.oneCell'=true
 | .slice id off len c,v=>E.dm id/\∃a cap,v= .slice (some a) len cap/\len<=cap/\eE E id off len a cap c
 | .eg,v=>v= .slice none 0 0
 | .ro cs n full,v=> ∃b o cap us,v= .slice (some ⟨b,o,none⟩) n cap/\n<=cap/\(full=true->cap=n)/\E.ro b/\cB E h cs us/\fI h b o us/\∀u∈us,u.oneCell'=true
 | .map id,v=>v= .map (some (E.θ id).1)/\E.dm id
 | .rD,v=>v= .map none
 | .func fn fs cs,v=> ∃us ws,v= .func fn us.toArray ws.toArray/\cB E h fs us/\cB E h cs ws
 | .wv,v=>v= .nilFunc
 | .iface t x,v=> ∃u,v= .iface t u/\VR E h x u
 | .xn,v=>v= .nilIface
 | .agg cs,v=> ∃us,v= .agg us.toArray/\cB E h cs us
 | .tuple cs,v=> ∃us,v= .tuple us.toArray/\cB E h cs us
 | .KG _,_=>False
 | .emp,v=> ∃x,v= .slice x 0 0
 | .ej e t,v=>Rd E.ro h (.sl t) (dec (e.den E.ρ)) v
 | .jA e,v=>Rd E.ro h .str (dec (e.den E.ρ)) v
 | .oS id n t,v=>E.dm id/\∃(k:Nat) (a:Addr) (cap:Nat),n.den E.ρ=(k:Int)/\v= .slice (some a) k cap/\k<=cap/\eE E id 0 k a cap (.rest (rowOf t).es)
 | .zq id es i off,v=>E.dm id/\∃k:Nat,i.den E.ρ=(k:Int)/\v= .pointer (some ⟨(E.θ id).1,(E.θ id).2+(k*es+off),none⟩)
 | .any,_=>True
 | .wZ z t,v=>(∃x,v= .slice x 0 0)/\Rd E.ro h (.sl t) (dec (z.den E.ρ)) v
 | .tK id lo n t,v=>E.dm id/\∃(l k:Nat) (a:Addr) (cap:Nat),lo.den E.ρ=(l:Int)/\n.den E.ρ=(k:Int)/\v= .slice (some a) k cap/\k<=cap/\eE E id (l*(rowOf t).es) k a cap (.rest (rowOf t).es)
 | .wz k ks,v=>((∃x cap,v= .slice x 0 cap)/\E.ρ (900+k)=0)\/∃b o n cap,v= .slice (some ⟨b,o,none⟩) n cap/\n<=cap/\E.ρ (900+k)=(n:Int)/\E.ro b/\
  ∀i j kd,i<n->ks[j]?=some kd->jE h b (o+i*ks.length+j)=some (.int kd (E.ρ (1000+i*64+(k*8+j))))
def cB (E:En) (h:Array Obj):List W->List Value->Prop
 |[],us=>us= []
 |x::xs,us=> ∃u vs,us=u::vs/\VR E h x u/\cB E h xs vs
end
theorem gP {E:En} {h:Array Obj} {us:List Value}:cB E h [] us↔us= []:=by simp [cB]
theorem bV {E:En} {h:Array Obj} {x:W} {xs:List W} {us:List Value}:cB E h (x::xs) us↔∃u vs,us=u::vs/\VR E h x u/\cB E h xs vs:=by simp [cB]
theorem cB.length {E:En} {h:Array Obj}: ∀{xs:List W} {us:List Value},cB E h xs us->us.length=xs.length
 |[],us,hh=>by rw [gP] at hh; simp [hh]
 |x::xs,us,hh=>by rw [bV] at hh;obtain⟨u,vs,rfl,_,Z⟩:=hh;simp [Z.length]
theorem cB.append {E:En} {h:Array Obj}: ∀{xs ys:List W} {us vs:List Value},cB E h xs us->cB E h ys vs->cB E h (xs++ys) (us++vs)
 |[],_,us,vs,U,Z=>by rw [gP] at U; subst U; simpa using Z
 |x::xs,ys,us,vs,U,Z=>by rw [bV] at U;obtain⟨u,gr,rfl,hx,mJ⟩:=U;simp only [aP];rw [bV];exact⟨u,gr++vs,rfl,hx,mJ.append Z⟩
theorem cB.hU {E:En} {h:Array Obj}: ∀{n:Nat} {xs ys:List W} {us:List Value},cB E h xs us->As.hU n xs=some ys->cB E h ys (us.take n)/\n<=xs.length
 |0,xs,ys,us,_,Z=>by simp [As.hU] at Z; subst Z; simp [cB]
 |n+1,[],ys,us,_,Z=>by simp [As.hU] at Z
 |n+1,x::xs,ys,us,U,Z=>by
  rw [bV] at U;obtain⟨u,vs,rfl,hx,mJ⟩:=U;simp only [As.hU] at Z;split at Z
  ·rename_i l hl;simp at Z;subst Z;have:=mJ.hU hl
   grind [bV]
  grind
theorem cB.eD {E:En} {h:Array Obj}: ∀{n:Nat} {xs ys:List W} {us:List Value},cB E h xs us->As.eD n xs=some ys->cB E h ys (us.drop n)/\n<=xs.length/\ys.length=xs.length-n
 |0,xs,ys,us,U,Z=>by simp [As.eD] at Z; subst Z; simpa using U
 |n+1,[],ys,us,_,Z=>by simp [As.eD] at Z
 |n+1,x::xs,ys,us,U,Z=>by
  rw [bV] at U;obtain⟨u,vs,rfl,hx,mJ⟩:=U;simp only [As.eD] at Z;have:=mJ.eD Z
  grind
theorem cB.nth {E:En} {h:Array Obj}: ∀{i:Nat} {xs:List W} {x:W} {us:List Value},cB E h xs us->eS xs i=some x->∃u,us[i]?=some u/\VR E h x u
 |_,[],_,us,_,Z=>by simp [eS] at Z
 |0,x::xs,y,us,U,Z=>by
  rw [bV] at U;obtain⟨u,vs,rfl,hx,mJ⟩:=U
  grind [eS]
 |i+1,x::xs,y,us,U,Z=>by
  rw [bV] at U;obtain⟨u,vs,rfl,hx,mJ⟩:=U;simp only [eS] at Z;obtain⟨v,h3,h4⟩:=mJ.nth Z
  grind
def eB (E:En) (h:Array Obj):List (W×W×Nat)->List MapEntry->Prop
 |[],es=>es= []
 |(k,v,b)::xs,es=> ∃e r,es=e::r/\VR E h k e.key/\VR E h v e.val/\b=b/\eB E h xs r
def HB (ro:Nat->Prop) (h:Array Obj):List CK->Nat->D->List Value->Prop
 |[],_,_,us=>us= []
 |c::cs,j,d,us=> ∃u vs,us=u::vs/\Rd ro h c (d.hd j) u/\HB ro h cs (j+1) d vs
def Fp (ro:Nat->Prop) (h:Array Obj) (r:Row) (d:D) (v:Value):Prop:=match r with
 | .one c=>Rd ro h c d v
 | .many cs=>wg cs d/\∃us,v= .agg us.toArray/\HB ro h cs 0 d us
theorem HB.bX {ro mb:Nat->Prop} {h h':Array Obj} (k1: ∀b,ro b->mb b) (k2: ∀b,ro b->h'[b]?=h[b]?) {d:D}: ∀{cs:List CK} {j:Nat} {us:List Value},HB ro h cs j d us->HB mb h' cs j d us
 |[],_,_,hh=>hh
 |_::_,_,_,hh=>by obtain⟨u,vs,U,Z,h3⟩:=hh;exact⟨u,vs,U,Z.bX k1 k2,HB.bX k1 k2 h3⟩
theorem Fp.bX {ro mb:Nat->Prop} {h h':Array Obj} (k1: ∀b,ro b->mb b) (k2: ∀b,ro b->h'[b]?=h[b]?) {r:Row} {d:D} {v:Value} (hh:Fp ro h r d v):Fp mb h' r d v:=by
 cases r with
 |one c=>exact Rd.bX k1 k2 hh
 |many cs=> obtain⟨h0,us,U,Z⟩:=hh;exact⟨h0,us,U,Z.bX k1 k2⟩
def jO (ro:Nat->Prop) (h:Array Obj) (t:Nat):List D->List MapEntry->Prop
 |[],es=>es= []
 |d::ds,es=> ∃e r,es=e::r/\d= .p (jd d) (Fm d)/\Fp ro h (mapOf t).1 (jd d) e.key/\Fp ro h (mapOf t).2 (Fm d) e.val/\jO ro h t ds r
theorem jO.bX {ro mb:Nat->Prop} {h h':Array Obj} (k1: ∀b,ro b->mb b) (k2: ∀b,ro b->h'[b]?=h[b]?) {t:Nat}: ∀{ds:List D} {es:List MapEntry},jO ro h t ds es->jO mb h' t ds es
 |[],_,hh=>hh
 |_::_,_,hh=>by obtain⟨e,r,U,Z,h3,h4,h5⟩:=hh;exact⟨e,r,U,Z,h3.bX k1 k2,h4.bX k1 k2,jO.bX k1 k2 h5⟩
theorem jO.length {ro:Nat->Prop} {h:Array Obj} {t:Nat}: ∀{ds:List D} {es:List MapEntry},jO ro h t ds es->es.length=ds.length
 |[],_,hh=>by simp only [jO] at hh; rw [hh]; rfl
 |_::_,_,hh=>by obtain⟨e,r,U,_,_,_,h5⟩:=hh;rw [U,aK,aK,jO.length h5]
noncomputable def dX (ρ:Nat->Int) (i:Nat):List (V×List W)->Option (List W)
 |[]=>none
 |(j,cs)::l=>if j.den ρ=(i:Int) then some cs else dX ρ i l
noncomputable def bF (ρ:Nat->Int) (r:Row) (ov:List (V×List W)):List D->Nat->List W
 |[],_=>[]
 |d::ds,i=>(match dX ρ i ov with |some cs=>cs|none=>gz r (.ej d))++bF ρ r ov ds (i+1)
def sA (r:Row) (ov:List (V×List W)):Prop:= ∀p∈ov,p.2.length=r.es
noncomputable def lI (ρ:Nat->Int) (n:Int):List (V×W)->Option W
 |[]=>none
 |(x,v)::l=>if x.den ρ=n then some v else lI ρ n l
def alE (E:En) (h:Array Obj) (B:Nat) (k:D) (j ty t:Nat) (d:D) (u:Value):Prop:=
 ∃b o n cap a arr lo hi,u= .slice (some a) n cap/\n<=cap/\E.hd b=some (B,k,j)/\h[b]?=some (.cells arr ty (lo,hi))/\((a=⟨b,o,none⟩/\o+cap*(rowOf t).es=arr.size)\/(cap=0/\n=0/\o=arr.size))/\(∀q,lo<=q->q<hi->arr.size<=q)/\
  ((n=0/\d= .i 3)\/(rX (rowOf t) d/\d.l.length=n/\∃us,cB E h (bF E.ρ (rowOf t) [] d.l 0) us/\(∀i u,us[i]?=some u->arr[o+i]?=some u)/\∀u∈us,u.oneCell'=true))
def oH (E:En) (h:Array Obj) (B:Nat) (k:D) (j ty:Nat) (c:FC) (d:D) (u:Value):Prop:=match c with
 | .ck c=>Rd E.ro h c d u
 | .own t=>((∃x,u= .slice x 0 0)/\Rd E.ro h (.sl t) d u)\/alE E h B k j ty t d u
 | .mp t=> ∃b bL c,u= .map (some b)/\E.hd b=some (B,k,j)/\h[b]?=some (.map bL c)/\jO E.ro h t d.l bL.toList
def pH (E:En) (h:Array Obj) (B t:Nat) (eR:List Nat) (k d:D) (v:Value):Prop:=match (qj t).ptr with
 |false=> ∃c,(qj t).cs= [c]/\oH E h B k 1 (eR.getD 1 0) c d v
 |true=> ∃b o arr lo hi,v= .pointer (some ⟨b,o,none⟩)/\E.hd b=some (B,k,0)/\h[b]?=some (.cells arr (eR.getD 0 0) (lo,hi))/\o+(qj t).cs.length<=arr.size/\(∀q,lo<=q->q<hi->arr.size<=q)/\
  ∀j c,(qj t).cs[j]?=some c->∃u,arr[o+j]?=some u/\u.oneCell'=true/\oH E h B k (j+1) (eR.getD (j+2) 0) c (d.hd j) u
def eI (E:En) (h:Array Obj) (B t:Nat) (eR:List Nat) (ov:List (V×W)):List D->List MapEntry->Prop
 |[],es=>es= []
 |d::ds,es=> ∃e r n,es=e::r/\d= .p (.i n) (Fm d)/\e.key= .int .i64 n/\(match lI E.ρ n ov with |some v=>VR E h v e.val|none=>pH E h B t eR (.i n) (Fm d) e.val)/\eI E h B t eR ov ds r
def zG (ρ:Nat->Int) (ds:List D) (ov:List (V×W)):Prop:=(ds.map jd).Nodup/\(∀p∈ov,D.i (p.1.den ρ)∈ds.map jd)/\(ov.map fun p=>p.1.den ρ).Nodup
def Sq:Nat->List (W×W×Nat)->List MapEntry->Nat->Prop
 |0,_,_,_=>True
 |c+1,es,bL,c'=>c'=c/\bL.map (·.born)=es.map (·.2.2)
def OR (E:En) (h:Array Obj) (id:Nat):dG->Prop
 | .cells cs e=> ∃arr lo hi us,h[(E.θ id).1]?=some (.cells arr e (lo,hi))/\cB E h cs us/\(∀i u,us[i]?=some u->arr[(E.θ id).2+i]?=some u)/\
  cs.length<=E.κ id/\(E.θ id).2+E.κ id=arr.size/\(∀o,lo<=o->o<hi->arr.size<=o)/\(∀u∈us,u.oneCell'=true)
 | .map es k=> ∃bL c,h[(E.θ id).1]?=some (.map bL c)/\eB E h es bL.toList/\Sq k es bL.toList c
 | .vec e t ty ov=>(sA (rowOf t) ov/\rX (rowOf t) (dec (e.den E.ρ)))/\∃arr lo hi us,h[(E.θ id).1]?=some (.cells arr ty (lo,hi))/\cB E h (bF E.ρ (rowOf t) ov (dec (e.den E.ρ)).l 0) us/\(∀i u,us[i]?=some u->arr[(E.θ id).2+i]?=some u)/\
  (bF E.ρ (rowOf t) ov (dec (e.den E.ρ)).l 0).length<=E.κ id/\(E.θ id).2+E.κ id=arr.size/\(∀o,lo<=o->o<hi->arr.size<=o)/\(∀u∈us,u.oneCell'=true)
 | .jS s p=>h[(E.θ id).1]?=some (.stringIter (de s) p)/\(E.θ id).2=0/\∀b∈s,b<256
 | .ji m s l z=>match m with
   |none=>h[(E.θ id).1]?=some (.mapIter none s l.toArray z)/\(E.θ id).2=0
   |some i=>h[(E.θ id).1]?=some (.mapIter (some (E.θ i).1) s l.toArray z)/\(E.θ id).2=0/\E.dm i
 | .jM e t=> ∃bL c,h[(E.θ id).1]?=some (.map bL c)/\jO E.ro h t (dec (e.den E.ρ)).l bL.toList
 | .qY e t eR ov=>zG E.ρ (dec (e.den E.ρ)).l ov/\∃bL c,h[(E.θ id).1]?=some (.map bL c)/\eI E h (E.θ id).1 t eR ov (dec (e.den E.ρ)).l bL.toList
class bI where
 ok:(Nat->Int)->(Nat->Prop)->Array Obj->Prop
 bX: ∀{ρ:Nat->Int} {ro mb:Nat->Prop} {h h':Array Obj},ok ρ ro h->(∀b,ro b->mb b)->(∀b,ro b->h'[b]?=h[b]?)->ok ρ mb h'
 gB: ∀{ρ ρ':Nat->Int} {ro:Nat->Prop} {h:Array Obj},ok ρ ro h->(∀i,900<=i->ρ' i=ρ i)->ok ρ' ro h
structure bP [bI] (E:En) (H:Hp) (w:World):Prop where
 fresh: ∀id,H.next<=id->¬E.dm id
 res: ∀r,H.res=some r->r<H.next/\¬E.dm r
 live: ∀id o,H.get id=some o->E.dm id/\OR E w.heap id o/\¬E.ro (E.θ id).1
 inj: ∀id NY o o',H.get id=some o->H.get NY=some o'->(E.θ id).1=(E.θ NY).1->id=NY
 pS: ∀b,E.ro b->b<w.heap.size
 iT:bI.ok E.ρ E.ro w.heap
 hid: ∀b x,E.hd b=some x->b<w.heap.size/\¬E.ro b/\∀id o,H.get id=some o->(E.θ id).1≠b
structure eM (E:En) (H:Hp) (w:World) (E':En) (H':Hp) (w':World):Prop where
 ρ:E'.ρ=E.ρ
 dm: ∀id,E.dm id->E'.dm id
 θ: ∀id,E.dm id->E'.θ id=E.θ id
 κ: ∀id,E.dm id->E'.κ id=E.κ id
 ro: ∀b,E.ro b->E'.ro b
 qW: ∀b,E'.ro b->E.ro b\/(∃id o,H.get id=some o/\(E.θ id).1=b)\/w.heap.size<=b
 NK:H.next<=H'.next
 rsm:H'.res=none\/H'.res=H.res
 ZW: ∀id,E'.dm id->E.dm id\/(H.next<=id/\id<H'.next)\/H.res=some id
 os:w'.os=w.os
 tape:w'.tape=w.tape
 output:w'.output=w.output
 size:w.heap.size<=w'.heap.size
 bX: ∀b,b<w.heap.size->(∀id o,H.get id=some o->(E.θ id).1≠b)->w'.heap[b]?=w.heap[b]?
 own: ∀id o,H'.get id=some o->(E'.θ id).1<w.heap.size->∃qX o0,H.get qX=some o0/\(E.θ qX).1=(E'.θ id).1
 hd:E'.hd=E.hd
theorem eM.refl (E:En) (H:Hp) (w:World):eM E H w E H w:=
 ⟨rfl,fun _ h=>h,fun _ _=>rfl,fun _ _=>rfl,fun _ h=>h,fun _ h=> .inl h,au _,.inr rfl,fun _ h=> .inl h,rfl,rfl,rfl,au _,fun _ _ _=>rfl,fun id o h _=> ⟨id,o,h,rfl⟩,rfl⟩
theorem eM.trans {E E1 E2:En} {H H1 H2:Hp} {w w1 w2:World} (a:eM E H w E1 H1 w1) (b:eM E1 H1 w1 E2 H2 w2):eM E H w E2 H2 w2 where
 ρ:=b.ρ.trans a.ρ
 dm:=fun id h=>b.dm id (a.dm id h)
 θ:=fun id h=>(b.θ id (a.dm id h)).trans (a.θ id h)
 κ:=fun id h=>(b.κ id (a.dm id h)).trans (a.κ id h)
 ro:=fun x h=>b.ro x (a.ro x h)
 qW:=fun x h=>by
  rcases b.qW x h with h|⟨id,o,U,Z⟩|h
  ·exact a.qW x h
  ·rcases aQ x w.heap.size with hx|hx
   ·obtain⟨qX,o0,h3,h4⟩:=a.own id o U (by rw [Z]; exact hx);exact .inr (.inl ⟨qX,o0,h3,h4.trans Z⟩)
   ·exact .inr (.inr hx)
  ·exact .inr (.inr (bk a.size h))
 NK:=bk a.NK b.NK
 rsm:=by
  rcases b.rsm with h|h
  ·exact .inl h
  ·rw [h]; exact a.rsm
 ZW:=fun id h=>by
  rcases b.ZW id h with h|h|h
  ·rcases a.ZW id h with h|h|h
   ·exact .inl h
   ·exact .inr (.inl ⟨h.1,amp h.2 b.NK⟩)
   ·exact .inr (.inr h)
  ·exact .inr (.inl ⟨bk a.NK h.1,h.2⟩)
  ·rcases a.rsm with h'|h'
   ·rw [h'] at h; simp at h
   ·exact .inr (.inr (h'.symm.trans h))
 os:=b.os.trans a.os
 tape:=b.tape.trans a.tape
 output:=b.output.trans a.output
 size:=bk a.size b.size
 bX:=fun x hx hn=>by rw [b.bX x (amp hx a.size) ?_,a.bX x hx hn];intro id o ho he;obtain⟨qX,o0,h0,he0⟩:=a.own id o ho (by rw [he]; exact hx);exact hn qX o0 h0 (he0.trans he)
 own:=fun id o ho fe=>by obtain⟨id1,o1,U,Yh⟩:=b.own id o ho (amp fe a.size);obtain⟨qX,o0,h0,he0⟩:=a.own id1 o1 U (by rw [Yh]; exact fe);exact⟨qX,o0,h0,he0.trans Yh⟩
 hd:=b.hd.trans a.hd
structure fg (E:En) (h:Array Obj) (E':En) (h':Array Obj):Prop where
 ρ:E'.ρ=E.ρ
 dm: ∀id,E.dm id->E'.dm id
 θ: ∀id,E.dm id->E'.θ id=E.θ id
 κ: ∀id,E.dm id->E'.κ id=E.κ id
 ro: ∀b,E.ro b->E'.ro b
 Ba: ∀b,E.ro b->h'[b]?=h[b]?
theorem eM.keeps [bI] {E E':En} {H H':Hp} {w w':World} (s:eM E H w E' H' w') (r:bP E H w):fg E w.heap E' w'.heap:=
 ⟨s.ρ,s.dm,s.θ,s.κ,s.ro,fun b Y=>s.bX b (r.pS b Y) fun id o ho he=>(r.live id o ho).2.2 (by rw [he]; exact Y)⟩
theorem fI.bX {E E':En} {h h':Array Obj} (k:fg E h E' h') {b o:Nat} {us:List Value} (Y:E.ro b) (hc:fI h b o us):fI h' b o us:=by
 intro i u hu;have:=hc i u hu;unfold jE at *;rw [k.Ba b Y]
 grind
theorem eE.bX {E E':En} {h h':Array Obj} (k:fg E h E' h') {id off len:Nat} {a:Addr} {cap:Nat} {c:Mq} (hid:E.dm id) (hc:eE E id off len a cap c):eE E' id off len a cap c:=by
 cases c<;>simp only [eE] at*<;>rw [k.θ id hid]
 ·exact hc
 ·rw [k.κ id hid]; exact hc
mutual
theorem VR.bX {E E':En} {h h':Array Obj} (k:fg E h E' h'): ∀(x:W) (v:Value),VR E h x v->VR E' h' x v
 | .bool b,v,hv=>by simp only [VR] at *; rw [k.ρ]; exact hv
 | .int _ e,v,hv=>by simp only [VR] at *; rw [k.ρ]; exact hv
 | .str s,v,hv=>by simp only [VR] at *; exact hv
 | .ptr id off,v,hv=>by simp only [VR] at *; rw [k.θ id hv.2]; exact⟨hv.1,k.dm _ hv.2⟩
 | .tN,v,hv=>by simp only [VR] at *; exact hv
 | .mY cs,v,hv=>by simp only [VR] at *;obtain⟨b,o,us,U,Z,h3,h4,h5⟩:=hv;exact⟨b,o,us,U,k.ro b Z,cB.bX k cs us h3,h4.bX k Z,h5⟩
 | .slice id off len c,v,hv=>by simp only [VR] at *;obtain⟨U,a,cap,Z,h3,h4⟩:=hv;exact⟨k.dm _ U,a,cap,Z,h3,h4.bX k U⟩
 | .eg,v,hv=>by simp only [VR] at *; exact hv
 | .ro cs n full,v,hv=>by simp only [VR] at *;obtain⟨b,o,cap,us,U,Z,h3,h4,h5,h6,h7⟩:=hv;exact⟨b,o,cap,us,U,Z,h3,k.ro b h4,cB.bX k cs us h5,h6.bX k h4,h7⟩
 | .map id,v,hv=>by simp only [VR] at *; rw [k.θ id hv.2]; exact⟨hv.1,k.dm _ hv.2⟩
 | .rD,v,hv=>by simp only [VR] at *; exact hv
 | .func fn fs cs,v,hv=>by simp only [VR] at *;obtain⟨us,ws,U,Z,h3⟩:=hv;exact⟨us,ws,U,cB.bX k fs us Z,cB.bX k cs ws h3⟩
 | .wv,v,hv=>by simp only [VR] at *; exact hv
 | .iface t x,v,hv=>by simp only [VR] at *;obtain⟨u,U,Z⟩:=hv;exact⟨u,U,VR.bX k x u Z⟩
 | .xn,v,hv=>by simp only [VR] at *; exact hv
 | .agg cs,v,hv=>by simp only [VR] at *;obtain⟨us,U,Z⟩:=hv;exact⟨us,U,cB.bX k cs us Z⟩
 | .tuple cs,v,hv=>by simp only [VR] at *;obtain⟨us,U,Z⟩:=hv;exact⟨us,U,cB.bX k cs us Z⟩
 | .KG _,v,hv=>by simp only [VR] at hv
 | .emp,v,hv=>by simp only [VR] at *; exact hv
 | .ej e t,v,hv=>by simp only [VR] at *; rw [k.ρ]; exact hv.bX k.ro k.Ba
 | .jA e,v,hv=>by simp only [VR] at *; rw [k.ρ]; exact hv.bX k.ro k.Ba
 | .oS id n t,v,hv=>by simp only [VR] at *;obtain⟨U,m,a,cap,Z,h3,h4,h5⟩:=hv;exact⟨k.dm _ U,m,a,cap,by rw [k.ρ]; exact Z,h3,h4,h5.bX k U⟩
 | .any,_,_=>by simp only [VR]
 | .wZ z t,v,hv=>by simp only [VR] at *; rw [k.ρ]; exact⟨hv.1,hv.2.bX k.ro k.Ba⟩
 | .tK id lo n t,v,hv=>by simp only [VR] at *;obtain⟨U,l,m,a,cap,Z,h3,h4,h5,h6⟩:=hv;exact⟨k.dm _ U,l,m,a,cap,by rw [k.ρ]; exact Z,by rw [k.ρ]; exact h3,h4,h5,h6.bX k U⟩
 | .zq id es i off,v,hv=>by simp only [VR] at *;obtain⟨U,m,Z,h3⟩:=hv;exact⟨k.dm _ U,m,by rw [k.ρ]; exact Z,by rw [k.θ id U]; exact h3⟩
 | .wz kk ks,v,hv=>by
   simp only [VR] at *;rw [k.ρ];rcases hv with hv|⟨b,o,n,cap,U,Z,h3,h4,h5⟩
   ·grind
   ·refine .inr ⟨b,o,n,cap,U,Z,h3,k.ro b h4,fun i j kd hi hj=>?_⟩;have:=h5 i j kd hi hj;unfold jE at *;rw [k.Ba b h4]
    grind
theorem cB.bX {E E':En} {h h':Array Obj} (k:fg E h E' h'): ∀(xs:List W) (us:List Value),cB E h xs us->cB E' h' xs us
 |[],us,hv=>by simp only [cB] at *; exact hv
 |x::xs,us,hv=>by simp only [cB] at *;obtain⟨u,vs,U,Z,h3⟩:=hv;exact⟨u,vs,U,VR.bX k x u Z,cB.bX k xs vs h3⟩
end
theorem eB.bX {E E':En} {h h':Array Obj} (k:fg E h E' h'): ∀(xs:List (W×W×Nat)) (es:List MapEntry),eB E h xs es->eB E' h' xs es
 |[],es,hv=>by simp only [eB] at *; exact hv
 |(a,b,c)::xs,es,hv=>by simp only [eB] at *;obtain⟨e,r,U,Z,h3,h4,h5⟩:=hv;exact⟨e,r,U,VR.bX k _ _ Z,VR.bX k _ _ h3,h4,eB.bX k xs r h5⟩
theorem bP.TP [bI] {E E':En} {H H':Hp} {w w':World} (r:bP E H w) (he:E'.hd=E.hd) (hs:w.heap.size<=w'.heap.size) (qW: ∀b,E'.ro b->E.ro b\/(∃id o,H.get id=some o/\(E.θ id).1=b)\/w.heap.size<=b)
 (own: ∀id o,H'.get id=some o->(E'.θ id).1<w.heap.size->∃qX o0,H.get qX=some o0/\(E.θ qX).1=(E'.θ id).1): ∀b x,E'.hd b=some x->b<w'.heap.size/\¬E'.ro b/\∀id o,H'.get id=some o->(E'.θ id).1≠b:=by
 intro b x Y;rw [he] at Y;obtain⟨q1,q2,q3⟩:=r.hid b x Y;refine⟨J,fun hr=>?_,fun id o ho e=>?_⟩
 ·rcases qW b hr with h|⟨id,o,U,Z⟩|h
  ·exact q2 h
  ·exact q3 id o U Z
  ·omega
 ·obtain⟨qX,o0,h0,e0⟩:=own id o ho (by rw [e]; exact q1);exact q3 qX o0 h0 (e0.trans e)
def HdK (E:En) (h:Array Obj) (E':En) (h':Array Obj) (B:Nat) (k:D):Prop:= ∀b j,E.hd b=some (B,k,j)->E'.hd b=some (B,k,j)/\h'[b]?=h[b]?
theorem bP.TU [bI] {E E':En} {H:Hp} {w:World} {h':Array Obj} (r:bP E H w) (he:E'.hd=E.hd) (hk: ∀b,b<w.heap.size->(∀id o,H.get id=some o->(E.θ id).1≠b)->h'[b]?=w.heap[b]?) (B:Nat) (key:D):HdK E w.heap E' h' B key:=
 fun b _ Y=> ⟨by rw [he]; exact Y,hk b (r.hid b _ Y).1 (r.hid b _ Y).2.2⟩
theorem oH.bX {E E':En} {h h':Array Obj} (k:fg E h E' h') {B:Nat} {key:D} {j ty:Nat} (hh: ∀b,E.hd b=some (B,key,j)->E'.hd b=some (B,key,j)/\h'[b]?=h[b]?) {c:FC} {d:D} {u:Value} (ho:oH E h B key j ty c d u):oH E' h' B key j ty c d u:=by
 cases c with
 |ck c=>exact Rd.bX k.ro k.Ba ho
 |own t=>
  rcases ho with ⟨U,Z⟩|⟨b,o,n,cap,a,arr,lo,hi,U,Z,h3,h4,h5,h6,h7⟩
  ·exact .inl ⟨U,Rd.bX k.ro k.Ba Z⟩
  ·obtain⟨q1,q2⟩:=hh b h3;refine .inr ⟨b,o,n,cap,a,arr,lo,hi,U,Z,q1,by rw [q2]; exact h4,h5,h6,?_⟩;rcases h7 with h7|⟨g1,g2,us,g3,g4⟩
   ·exact .inl h7
   ·exact .inr ⟨g1,g2,us,by rw [k.ρ]; exact cB.bX k _ us g3,g4⟩
 |mp t=> obtain⟨b,bL,c,U,Z,h3,h4⟩:=ho;obtain⟨q1,q2⟩:=hh b Z;exact⟨b,bL,c,U,q1,by rw [q2]; exact h3,h4.bX k.ro k.Ba⟩
theorem pH.bX {E E':En} {h h':Array Obj} (k:fg E h E' h') {B t:Nat} {eR:List Nat} {key d:D} {v:Value} (hh:HdK E h E' h' B key) (ho:pH E h B t eR key d v):pH E' h' B t eR key d v:=by
 unfold pH at *;split at ho
 ·obtain⟨c,U,Z⟩:=ho;exact⟨c,U,Z.bX k fun b=>hh b _⟩
 ·obtain⟨b,o,arr,lo,hi,U,Z,h3,h4,h5,h6⟩:=ho;obtain⟨q1,q2⟩:=hh b 0 Z;refine⟨b,o,arr,lo,hi,U,q1,by rw [q2]; exact h3,h4,h5,fun j c hc=>?_⟩;obtain⟨u,g1,g2,g3⟩:=h6 j c hc;exact⟨u,g1,g2,g3.bX k fun b=>hh b _⟩
theorem eI.bX {E E':En} {h h':Array Obj} (k:fg E h E' h') {B t:Nat} {eR:List Nat} {ov:List (V×W)} (hh: ∀n,lI E.ρ n ov=none->HdK E h E' h' B (.i n)): ∀{ds:List D} {es:List MapEntry},eI E h B t eR ov ds es->eI E' h' B t eR ov ds es
 |[],_,ho=>ho
 |d::ds,_,⟨e,r,n,U,Z,h3,h4,h5⟩=>by
  refine⟨e,r,n,U,Z,h3,?_,eI.bX k hh h5⟩;rw [k.ρ];split at h4
  ·rename_i v hv;exact VR.bX k _ _ h4
  ·rename_i hv;exact h4.bX k (hh n hv)
def nf:dG->Bool
 | .qY _ _ _ _=>false
 |_=>true
theorem eI.length {E:En} {h:Array Obj} {B t:Nat} {eR:List Nat} {ov:List (V×W)}: ∀{ds:List D} {es:List MapEntry},eI E h B t eR ov ds es->es.length=ds.length
 |[],_,ho=>by simp only [eI] at ho; rw [ho]; rfl
 |d::ds,_,⟨e,r,n,U,_,_,_,h5⟩=>by rw [U,aK,aK,eI.length h5]
theorem OR.XJ {E E':En} {h h':Array Obj} (k:fg E h E' h') {id:Nat} {o:dG} (hid:E.dm id) (Y:h'[(E.θ id).1]?=h[(E.θ id).1]?) (hh:nf o=true\/∀key,HdK E h E' h' (E.θ id).1 key) (ho:OR E h id o):OR E' h' id o:=by
 cases o with
 |cells cs e=> simp only [OR] at *;obtain⟨arr,lo,hi,us,U,Z,h3,h4,h5,h6,h7⟩:=ho;rw [k.θ id hid,k.κ id hid,Y];exact⟨arr,lo,hi,us,U,cB.bX k cs us Z,h3,h4,h5,h6,h7⟩
 |map es c=> simp only [OR] at *;obtain⟨bL,c,U,Z,h3⟩:=ho;rw [k.θ id hid,Y];exact⟨bL,c,U,eB.bX k _ _ Z,h3⟩
 |jS s p=> simp only [OR] at *;rw [k.θ id hid,Y];exact ho
 |ji m s l z=>
  cases m with
  |none=> simp only [OR] at *;rw [k.θ id hid,Y];exact ho
  |some i=> simp only [OR] at *;obtain⟨U,Z,h3⟩:=ho;rw [k.θ id hid,Y,k.θ i h3];exact⟨U,Z,k.dm _ h3⟩
 |jM e t=> simp only [OR] at *;obtain⟨bL,c,U,Z⟩:=ho;rw [k.θ id hid,Y,k.ρ];exact⟨bL,c,U,Z.bX k.ro k.Ba⟩
 |vec e t ty ov=> simp only [OR] at *;obtain⟨h0,arr,lo,hi,us,U,Z,h3,h4,h5,h6,h7⟩:=ho;rw [k.θ id hid,k.κ id hid,Y,k.ρ];exact⟨h0,arr,lo,hi,us,U,cB.bX k _ us Z,h3,h4,h5,h6,h7⟩
 |qY e t eR ov=>
  simp only [OR] at *;obtain⟨h0,bL,c,U,Z⟩:=ho;rw [k.θ id hid,Y,k.ρ];rcases hh with hh|hh
  ·simp [nf] at hh
  exact⟨h0,bL,c,U,Z.bX k fun n _=>hh _⟩
theorem OR.bX {E E':En} {h h':Array Obj} (k:fg E h E' h') {id:Nat} {o:dG} (hid:E.dm id) (Y:h'[(E.θ id).1]?=h[(E.θ id).1]?) (hh: ∀key,HdK E h E' h' (E.θ id).1 key) (ho:OR E h id o):OR E' h' id o:=ho.XJ k hid Y (.inr hh)
theorem OR.abR {E E':En} {h h':Array Obj} (k:fg E h E' h') {id:Nat} {o:dG} (hid:E.dm id) (Y:h'[(E.θ id).1]?=h[(E.θ id).1]?) (hn:nf o=true) (ho:OR E h id o):OR E' h' id o:=ho.XJ k hid Y (.inl hn)
end Go.As
end
section
namespace Go.As
theorem Hp.bR (h:Hp) (i:Nat) (o:dG) (j:Nat):(h.put i o).get j=if j=i then some o else h.get j:=by simp [Hp.get,Hp.put,Tr.bR]
theorem Hp.fS (h:Hp) (o:dG) (j:Nat):(h.new o).get j=if j=h.fresh then some o else h.get j:=by
 grind [Hp.new,Hp.fresh,Hp.get,Tr.bR]
theorem bP.E? [bI] {E:En} {H:Hp} {w:World} (r:bP E H w): ¬E.dm H.fresh:=by
 unfold Hp.fresh
 cases hr:H.res with
 |none=>exact r.fresh _ (au _)
 |some x=>exact (r.res x hr).2
theorem bP.qz [bI] {E:En} {H:Hp} {w:World} (r:bP E H w) {i:Nat} (h:E.dm i):i≠H.fresh:=fun e=>r.E? (e▸h)
theorem Hp.j8 (h:Hp) (i j:Nat):(h.drop i).get j=if j=i then none else h.get j:=by simp [Hp.get,Hp.drop,Tr.bR]
def En.ext (E:En) (n:Nat) (p:Nat×Nat) (c:Nat):En:=
 { E with θ:=fun i=>if i=n then p else E.θ i,κ:=fun i=>if i=n then c else E.κ i,dm:=fun i=>i=n\/E.dm i }
theorem En.ext_θ_new (E:En) (n:Nat) (p:Nat×Nat) (c:Nat):(E.ext n p c).θ n=p:=by simp [En.ext]
theorem En.ext_κ_new (E:En) (n:Nat) (p:Nat×Nat) (c:Nat):(E.ext n p c).κ n=c:=by simp [En.ext]
theorem En.gp (E:En) (n:Nat) (p:Nat×Nat) (c:Nat):(E.ext n p c).dm n:=.inl rfl
theorem En.ext_θ (E:En) (n:Nat) (p:Nat×Nat) (c:Nat) {i:Nat} (h:i≠n):(E.ext n p c).θ i=E.θ i:=by simp [En.ext,h]
theorem En.ext_κ (E:En) (n:Nat) (p:Nat×Nat) (c:Nat) {i:Nat} (h:i≠n):(E.ext n p c).κ i=E.κ i:=by simp [En.ext,h]
theorem G9 [bI] {E:En} {H:Hp} {w:World} (r:bP E H w) (p:Nat×Nat) (c:Nat) (o:dG):(∀id,(H.new o).next<=id->¬(E.ext H.fresh p c).dm id)/\∀q,(H.new o).res=some q->q<(H.new o).next/\¬(E.ext H.fresh p c).dm q:=by
 have U:=r.fresh;have Z:=r.res;unfold Hp.new Hp.fresh
 cases hr:H.res with
 |none=>
  refine⟨fun id hid hd=>?_,ad⟩;simp at hid;rcases hd with hd|hd
  all_goals grind
 |some q=>
  refine⟨fun id hid hd=>?_,ad⟩;simp at hid;have:=Z q hr;rcases hd with hd|hd
  all_goals grind
theorem rE (H:Hp) (o:dG):H.next<=(H.new o).next/\((H.new o).res=none\/(H.new o).res=H.res)/\∀id,id=H.fresh->(H.next<=id/\id<(H.new o).next)\/H.res=some id:=by
 grind [Hp.new,Hp.fresh]
structure Alike (w w':World):Prop where
 os:w'.os=w.os
 tape:w'.tape=w.tape
 output:w'.output=w.output
theorem yo {h:Array Obj} {o:Obj} {b:Nat} (Y:b<h.size):(h.push o)[b]?=h[b]?:=by
 grind
theorem DB [bI] {E:En} {H:Hp} {w:World} (r:bP E H w) (p:Nat×Nat) (c:Nat) (o:Obj):fg E w.heap (E.ext H.fresh p c) (w.heap.push o):=
 ⟨rfl,fun _ h=> .inr h,fun _ h=>En.ext_θ E _ p c (r.qz h),fun _ h=>En.ext_κ E _ p c (r.qz h),fun _ h=>h,fun b Y=>yo (r.pS b Y)⟩
theorem fF [bI] {E:En} {H:Hp} {w:World} (r:bP E H w) {id:Nat} {o:dG} (h:H.get id=some o):(E.θ id).1<w.heap.size:=by
 have Z:=(r.live id o h).2.1
 cases o with
 |cells cs e=>
  obtain⟨arr,lo,hi,us,U,_⟩:=Z
  grind
 |map es c=>
  obtain⟨bL,c',U,_⟩:=Z
  grind
 |jS s p=>exact (amc.1 Z.1).1
 |ji m s l z=>cases m with
  |none=>exact (amc.1 Z.1).1
  |some i=>exact (amc.1 Z.1).1
 |jM e t=>
  obtain⟨bL,c',U,_⟩:=Z
  grind
 |qY e t eR ov=>
  obtain⟨_,bL,c',U,_⟩:=Z
  grind
 |vec e t ty ov=>
  obtain⟨_,arr,lo,hi,us,U,_⟩:=Z
  grind
theorem oX [bI] {E:En} {H:Hp} {w w':World} (r:bP E H w) (o:Obj) (ao:dG) (c:Nat) (hw:w'.heap=w.heap.push o) (al:Alike w w')
 (ho:OR (E.ext H.fresh (w.heap.size,0) c) w'.heap H.fresh ao) :
 eM E H w (E.ext H.fresh (w.heap.size,0) c) (H.new ao) w'/\bP (E.ext H.fresh (w.heap.size,0) c) (H.new ao) w':=by
 have k:=DB r (w.heap.size,0) c o;rw [<- hw] at k;have hf:=G9 r (w.heap.size,0) c ao;refine⟨⟨k.ρ,k.dm,k.θ,k.κ,k.ro,fun _ h=> .inl h,(rE H ao).1,(rE H ao).2.1,fun id h=>h.elim (fun e=> .inr ((rE H ao).2.2 id e)) .inl,al.os,al.tape,al.output,by rw [hw]; simp,fun b Y _=>by rw [hw,yo Y],?_,rfl⟩,⟨hf.1,hf.2,?_,?_,?_,bI.bX r.iT k.ro k.Ba,?_⟩⟩
 ·intro id o2 Z fe;rw [Hp.fS] at Z;split at Z
  ·rename_i he
   grind [En.ext_θ_new]
  ·have h3:=(r.live id o2 Z).1;exact⟨id,o2,Z,by rw [En.ext_θ _ _ _ _ (r.qz h3)]⟩
 ·intro id o2 Z;rw [Hp.fS] at Z;split at Z
  ·rename_i he;simp at Z;subst Z;rw [he,En.ext_θ_new];refine⟨En.gp _ _ _ _,ho,fun hr=>?_⟩;have:=r.pS _ hr
   grind
  ·obtain⟨h3,h4,h5⟩:=r.live id o2 Z;refine⟨.inr h3,h4.bX k h3 ?_ (fun key b j Y=> ⟨Y,by rw [hw,yo (r.hid b _ Y).1]⟩),?_⟩
   ·grind [yo,fF]
   ·rw [En.ext_θ _ _ _ _ (r.qz h3)]; exact h5
 ·intro id NY o1 o2 U Z he;rw [Hp.fS] at U Z;split at U<;>split at Z
  ·omega
  ·rename_i e1 _;have h3:=(r.live NY o2 Z).1;rw [e1,En.ext_θ_new,En.ext_θ _ _ _ _ (r.qz h3)] at he;have:=fF r Z
   grind
  ·rename_i _ e1;have h3:=(r.live id o1 U).1;rw [e1,En.ext_θ_new,En.ext_θ _ _ _ _ (r.qz h3)] at he;have:=fF r U
   grind
  ·have h3:=(r.live id o1 U).1;have h4:=(r.live NY o2 Z).1;rw [En.ext_θ _ _ _ _ (r.qz h3),En.ext_θ _ _ _ _ (r.qz h4)] at he;exact r.inj id NY o1 o2 U Z he
 ·intro b Y;have:=r.pS b Y
  grind
 ·intro b x Y;obtain⟨q1,q2,q3⟩:=r.hid b x Y;refine⟨by rw [hw,Array.size_push]; omega,q2,fun id o2 Z=>?_⟩;rw [Hp.fS] at Z;split at Z
  ·rename_i he;rw [he,En.ext_θ_new];exact fun e=>by have e:w.heap.size=b:=e; omega
  ·rw [En.ext_θ _ _ _ _ (r.qz (r.live id o2 Z).1)];exact q3 id o2 Z
theorem jY [bI] {E:En} {H:Hp} {w w':World} (r:bP E H w) {id:Nat} {o:dG} (hl:H.get id=some o)
 (k7: ∀b,b≠(E.θ id).1->w'.heap[b]?=w.heap[b]?):fg E w.heap E w'.heap:=
 ⟨rfl,fun _ h=>h,fun _ _=>rfl,fun _ _=>rfl,fun _ h=>h,fun b Y=>k7 b fun e=>(r.live id o hl).2.2 (by rw [<- e]; exact Y)⟩
theorem De [bI] {E:En} {H:Hp} {w w':World} (r:bP E H w) {id:Nat} {o:dG} (hl:H.get id=some o) (ao:dG)
 (K5:w'.heap.size=w.heap.size) (k7: ∀b,b≠(E.θ id).1->w'.heap[b]?=w.heap[b]?) (al:Alike w w') (ho:OR E w'.heap id ao) :
 eM E H w E (H.put id ao) w'/\bP E (H.put id ao) w':=by
 have k:=jY r hl k7;refine⟨⟨rfl,fun _ h=>h,fun _ _=>rfl,fun _ _=>rfl,fun _ h=>h,fun _ h=> .inl h,au _,.inr rfl,fun _ h=> .inl h,al.os,al.tape,al.output,J,?_,?_,rfl⟩,⟨r.fresh,r.res,?_,?_,?_,bI.bX r.iT k.ro k.Ba,?_⟩⟩
 ·intro b _ hn
  grind
 ·intro j o2 Z _
  grind [Hp.bR]
 ·intro j o2 Z;rw [Hp.bR] at Z;split at Z
  ·rename_i e;subst e;simp at Z;subst Z;exact⟨(r.live j o hl).1,ho,(r.live j o hl).2.2⟩
  ·rename_i e;obtain⟨h3,h4,h5⟩:=r.live j o2 Z;refine⟨h3,h4.bX k h3 (k7 _ fun e2=>e (r.inj j id o2 o Z hl e2)) (fun key b q Y=> ⟨Y,k7 b fun e2=>(r.hid b _ Y).2.2 id o hl e2.symm⟩),h5⟩
 ·intro i j o1 o2 U Z he;rw [Hp.bR] at U Z;split at U<;>split at Z
  ·omega
  ·rename_i e1 _; subst e1; exact r.inj i j o o2 hl Z he
  ·rename_i _ e1; subst e1; exact r.inj i j o1 o U hl he
  ·exact r.inj i j o1 o2 U Z he
 ·intro b Y;rw [K5];exact r.pS b Y
 ·intro b x Y;obtain⟨q1,q2,q3⟩:=r.hid b x Y;refine⟨by rw [K5]; exact q1,q2,fun j o2 Z=>?_⟩;rw [Hp.bR] at Z;split at Z
  ·rename_i e;rw [e];exact q3 id o hl
  ·exact q3 j o2 Z
theorem vZ [bI] {E:En} {H:Hp} {w:World} (r:bP E H w) (id:Nat):eM E H w E (H.drop id) w/\bP E (H.drop id) w:=by
 have hg: ∀j o,(H.drop id).get j=some o->H.get j=some o:=by
  intro j o h
  grind [Hp.j8]
 exact⟨⟨rfl,fun _ h=>h,fun _ _=>rfl,fun _ _=>rfl,fun _ h=>h,fun _ h=> .inl h,au _,.inr rfl,fun _ h=> .inl h,rfl,rfl,rfl,au _,fun _ _ _=>rfl,fun j o h _=> ⟨j,o,hg j o h,rfl⟩,rfl⟩,
  ⟨r.fresh,r.res,fun j o h=>r.live j o (hg j o h),fun i j o1 o2 U Z he=>r.inj i j o1 o2 (hg _ _ U) (hg _ _ Z) he,r.pS,r.iT,fun b x Y=> ⟨(r.hid b x Y).1,(r.hid b x Y).2.1,fun j o h=>(r.hid b x Y).2.2 j o (hg j o h)⟩⟩⟩
theorem Nw [bI] {E:En} {H:Hp} {w w':World} (r:bP E H w) {id:Nat} {o:dG} (hl:H.get id=some o) (ao:dG) (off c:Nat)
 (K5:w'.heap.size=w.heap.size) (k7: ∀b,b≠(E.θ id).1->w'.heap[b]?=w.heap[b]?) (al:Alike w w')
 (ho:OR (E.ext H.fresh ((E.θ id).1,(E.θ id).2+off) c) w'.heap H.fresh ao) :
 eM E H w (E.ext H.fresh ((E.θ id).1,(E.θ id).2+off) c) ((H.drop id).new ao) w'/\bP (E.ext H.fresh ((E.θ id).1,(E.θ id).2+off) c) ((H.drop id).new ao) w':=by
 have hdn:(H.drop id).fresh=H.fresh:=rfl;have hf:=G9 (vZ r id).2 ((E.θ id).1,(E.θ id).2+off) c ao;rw [hdn] at hf
 have k:fg E w.heap (E.ext H.fresh ((E.θ id).1,(E.θ id).2+off) c) w'.heap:=
  ⟨rfl,fun _ h=> .inr h,fun _ h=>En.ext_θ E _ _ c (r.qz h),fun _ h=>En.ext_κ E _ _ c (r.qz h),fun _ h=>h,(jY r hl k7).Ba⟩
 have hg: ∀j o2,((H.drop id).new ao).get j=some o2->(j=H.fresh/\o2=ao)\/(j≠id/\H.get j=some o2):=by
  intro j o2 h
  grind [Hp.fS,Hp.j8]
 refine⟨⟨rfl,k.dm,k.θ,k.κ,k.ro,fun _ h=> .inl h,(rE (H.drop id) ao).1,(rE (H.drop id) ao).2.1,fun j h=>h.elim (fun e=> .inr ((rE (H.drop id) ao).2.2 j e)) .inl,al.os,al.tape,al.output,J,?_,?_,rfl⟩,⟨hf.1,hf.2,?_,?_,?_,bI.bX r.iT k.ro k.Ba,?_⟩⟩
 ·intro b _ hn
  grind
 ·intro j o2 Z fe;rcases hg j o2 Z with ⟨rfl,rfl⟩|⟨_,h3⟩
  ·grind [En.ext_θ_new]
  ·have:=(r.live j o2 h3).1;exact⟨j,o2,h3,by rw [En.ext_θ _ _ _ _ (r.qz this)]⟩
 ·intro j o2 Z;rcases hg j o2 Z with ⟨rfl,rfl⟩|⟨fZ,h3⟩
  ·rw [En.ext_θ_new];exact⟨En.gp _ _ _ _,ho,(r.live id o hl).2.2⟩
  ·obtain⟨h4,h5,h6⟩:=r.live j o2 h3;refine⟨.inr h4,h5.bX k h4 (k7 _ fun e=>fZ (r.inj j id o2 o h3 hl e)) (fun key b q Y=> ⟨Y,k7 b fun e2=>(r.hid b _ Y).2.2 id o hl e2.symm⟩),?_⟩;rw [En.ext_θ _ _ _ _ (r.qz h4)]; exact h6
 ·intro i j o1 o2 U Z he;rcases hg i o1 U with ⟨e1,_⟩|⟨e1,h3⟩ <;>rcases hg j o2 Z with ⟨e2,_⟩|⟨e2,h4⟩
  ·omega
  ·have:=(r.live j o2 h4).1;rw [e1,En.ext_θ_new,En.ext_θ _ _ _ _ (r.qz this)] at he;exact absurd (r.inj id j o o2 hl h4 he).symm e2
  ·have:=(r.live i o1 h3).1;rw [e2,En.ext_θ_new,En.ext_θ _ _ _ _ (r.qz this)] at he;exact absurd (r.inj i id o1 o h3 hl he) e1
  ·have h5:=(r.live i o1 h3).1;have h6:=(r.live j o2 h4).1;rw [En.ext_θ _ _ _ _ (r.qz h5),En.ext_θ _ _ _ _ (r.qz h6)] at he;exact r.inj i j o1 o2 h3 h4 he
 ·intro b Y;rw [K5];exact r.pS b Y
 ·intro b x Y;obtain⟨q1,q2,q3⟩:=r.hid b x Y;refine⟨by rw [K5]; exact q1,q2,fun j o2 Z=>?_⟩;rcases hg j o2 Z with ⟨rfl,rfl⟩|⟨_,h3⟩
  ·rw [En.ext_θ_new];exact q3 id o hl
  ·rw [En.ext_θ _ _ _ _ (r.qz (r.live j o2 h3).1)];exact q3 j o2 h3
def IE:Value->Bool
 | .agg _=>true
 |_=>false
def VB (P:Program):TypeDesc->Option TK
 | .bool=>some .bool
 | .int k=>some (.int k)
 | .string=>some .string
 | .pointer e=>some (.pointer e)
 | .slice e=>some (.slice e)
 | .array n e=>some (.array n e)
 | .map k e=>some (.map k e)
 | .struct fs=>(fs.toList.mapM fun f=>(P.info? f.type).map fun i=>(f.offset,f.type,i.size)).map .struct
 | .func _ _ _=>some .func
 | .interface ms=>some (.iface ms.isEmpty)
 | .tuple _=>some .tuple
 |_=>none
def RG (P:Program) (t:Nat):Bool:=
 match P.underlying t with
 |some (.struct fs)=>!P.stoodInHeld t&&!P.eqGuardType P.depth t&&fs.toList.all fun f=>f.name != "_"&&(match P.underlying f.type with |some .bool|some .string|some (.int _)=>true|_=>false)
 |_=>false
def ag0 (i:TypeInfo) (z:Value) (k:TK) (q:Bool):Option TI:=
 match ky z.cells.toList with
 |some zs=>if IE z=k.agg then some { kind:=k,size:=i.size,bytes:=i.bytes,zero:=zs,eqs:=q } else none
 |none=>none
def G? (P:Program) (t:Nat):Option TI:=
 match P.info? t with
 |none=>none
 |some i=>match P.underlying t with
  |none=>none
  |some d=>match VB P d with
   |none=>none
   |some k=>match i.zero with
    |none=>none
    |some z=>ag0 i z k (RG P t)
theorem eT (b o n:Nat):(⟨b,o,none⟩ : Addr).add n=⟨b,o+n,none⟩:=by unfold Addr.add; split<;>simp_all
def HD (P:Program):TypeDesc->TK->Prop
 | .bool,.bool=>True
 | .int k,.int k'=>k=k'
 | .string,.string=>True
 | .pointer e,.pointer e'=>e=e'
 | .slice e,.slice e'=>e=e'
 | .array n e,.array n' e'=>n=n'/\e=e'
 | .map k e,.map k' e'=>k=k'/\e=e'
 | .struct fs,.struct l=>(fs.toList.mapM fun f=>(P.info? f.type).map fun i=>(f.offset,f.type,i.size))=some l
 | .func _ _ _,.func=>True
 | .interface _,.iface _=>True
 | .tuple _,.tuple=>True
 |_,_=>False
structure ma (P:Program) (t:Nat) (i:TI):Prop where
 eqs:i.eqs=true->RG P t=true
 all: ∃inf d z,P.info? t=some inf/\P.underlying t=some d/\inf.zero=some z/\ky z.cells.toList=some i.zero/\inf.size=i.size/\inf.bytes=i.bytes/\HD P d i.kind/\IE z=i.agg
def ep (P:Program) (tt:TT):Prop:= ∀t i,tt t=some i->ma P t i
theorem G' {P:Program} {d:TypeDesc} {k:TK} (h:VB P d=some k):HD P d k:=by
 cases d
 case struct fs=>
  simp only [VB,aO] at h;obtain⟨l,U,rfl⟩:=h;exact U
 all_goals first
  |(simp only [VB,ag] at h; subst h; simp [HD]; done)
  |(simp [VB] at h; done)
theorem G! {P:Program} {t:Nat} {i:TI} (h:G? P t=some i):ma P t i:=by
 unfold G? at h;split at h
 ·grind
 ·rename_i inf U;split at h
  ·grind
  ·rename_i d Z;split at h
   ·grind
   ·rename_i k hk;split at h
    ·grind
    ·rename_i z h3;unfold ag0 at h;split at h
     ·rename_i zs h4;split at h
      ·rename_i ha;simp only [ag] at h;subst h;exact⟨fun hq=>hq,inf,d,z,U,Z,h3,h4,rfl,rfl,G' hk,ha⟩
      grind
     grind
theorem ku (s:ByteArray):de (bytesOf s)=s:=by
 unfold de bytesOf
 have:(List.map UInt8.ofNat (List.map (fun x=>x.toNat) s.data.toList))=s.data.toList:=by
  rw [amE]
  conv=>rhs; rw [<- List.map_id s.data.toList]
  apply amW;intro b _;simp
 rw [this]
theorem xN (s:ByteArray): ∀b∈bytesOf s,b<256:=by intro b Y;unfold bytesOf at Y;rw [aT] at Y;obtain⟨c,_,rfl⟩:=Y;exact c.toNat_lt
theorem Bh {E:En} {h:Array Obj} {v:Value} {a:W} (hv:gx v=some a):VR E h a v/\v.oneCell'=true:=by
 cases v with
 |bool b=>simp [gx] at hv; subst hv; simp [VR,SB.den,Value.oneCell']
 |int k n=>simp [gx] at hv; subst hv; simp [VR,V.den,Value.oneCell']
 |string s=>simp [gx] at hv; subst hv; exact⟨by simp only [VR]; exact⟨by rw [ku],xN s⟩,rfl⟩
 |pointer a=>cases a<;>simp [gx] at hv; subst hv; simp [VR,Value.oneCell']
 |slice a l c=>
  cases a with
  |some a=>simp [gx] at hv
  |none=>
   cases l with
   |succ l=>simp [gx] at hv
   |zero=>cases c with
    |succ c=>simp [gx] at hv
    |zero=>simp [gx] at hv; subst hv; simp [VR,Value.oneCell']
 |map r=>cases r<;>simp [gx] at hv; subst hv; simp [VR,Value.oneCell']
 |nilFunc=>simp [gx] at hv; subst hv; simp [VR,Value.oneCell']
 |nilIface=>simp [gx] at hv; subst hv; simp [VR,Value.oneCell']
 |func fn f c=>
  simp only [gx] at hv;split at hv
  ·rename_i hx;simp at hx hv;subst hv;obtain⟨rfl,rfl⟩:=hx;exact⟨by simp only [VR]; exact⟨[],[],rfl,rfl,rfl⟩,rfl⟩
  grind
 |_=>simp [gx] at hv
theorem eO {E:En} {h:Array Obj}: ∀{vs:List Value} {al5:List W},ky vs=some al5->cB E h al5 vs/\∀v∈vs,v.oneCell'=true
 |[],al5,hv=>by simp [ky] at hv; subst hv; simp [cB]
 |v::vs,al5,hv=>by
  simp only [ky] at hv;split at hv
  ·grind
  ·rename_i a ha;split at hv
   ·grind
   ·rename_i as' has;simp at hv;subst hv;have U:=Bh (E:=E) (h:=h) ha;have Z:=eO (E:=E) (h:=h) has;refine⟨by rw [bV]; exact⟨v,vs,rfl,U.1,Z.1⟩,?_⟩;intro u hu
    grind
theorem NJ {E:En} {h:Array Obj} {v:Value} {a:W} (hv:ofConst v=some a):VR E h a v:=by
 cases v with
 |agg cs=>
  simp only [ofConst,aO] at hv;obtain⟨l,U,rfl⟩:=hv;simp only [VR]
  grind [eO]
 |tuple cs=>
  simp only [ofConst,aO] at hv;obtain⟨l,U,rfl⟩:=hv;simp only [VR]
  grind [eO]
 |_=>exact (Bh (by simpa [ofConst] using hv)).1
theorem VR.one {E:En} {h:Array Obj} {x:W} {v:Value} (hv:VR E h x v) (U:x.one=true):v.oneCell'=true:=by
 cases x with
 |agg cs=>simp [W.one] at U
 |tuple cs=>simp [W.one] at U
 |KG i=>simp [W.one] at U
 |wz k ks=>simp only [VR] at hv; rcases hv with ⟨⟨x,cap,rfl⟩,_⟩|⟨b,o,n,cap,rfl,_⟩ <;>rfl
 |slice id off len c=>simp only [VR] at hv; obtain⟨_,a,cap,rfl,_⟩:=hv; rfl
 |ro cs n full=>simp only [VR] at hv; obtain⟨b,o,cap,us,rfl,_⟩:=hv; rfl
 |mY cs=>simp only [VR] at hv; obtain⟨b,o,us,rfl,_⟩:=hv; rfl
 |func fn fs cs=>simp only [VR] at hv; obtain⟨us,ws,rfl,_⟩:=hv; rfl
 |iface t x=>simp only [VR] at hv; obtain⟨u,rfl,_⟩:=hv; rfl
 |str s=>simp only [VR] at hv; rw [hv.1]; rfl
 |ptr id off=>simp only [VR] at hv; rw [hv.1]; rfl
 |map id=>simp only [VR] at hv; rw [hv.1]; rfl
 |emp=>simp only [VR] at hv; obtain⟨x,rfl⟩:=hv; rfl
 |ej e t=>simp only [VR] at hv; exact hv.S!
 |jA e=>simp only [VR] at hv; exact hv.S!
 |oS id n t=>simp only [VR] at hv; obtain⟨_,k,a,cap,_,rfl,_⟩:=hv; rfl
 |tK id lo n t=>simp only [VR] at hv; obtain⟨_,l,k,a,cap,_,_,rfl,_⟩:=hv; rfl
 |any=>simp [W.one] at U
 |wZ z t=>simp only [VR] at hv; obtain⟨⟨x,rfl⟩,_⟩:=hv; rfl
 |zq id es i off=>simp only [VR] at hv; obtain⟨_,k,_,rfl⟩:=hv; rfl
 |_=>simp only [VR] at hv; rw [hv]; rfl
theorem cB.rB {E:En} {h:Array Obj}: ∀{xs:List W} {us:List Value},cB E h xs us->qU xs=true->∀u∈us,u.oneCell'=true
 |[],us,hv,_=>by rw [gP] at hv; subst hv; simp
 |x::xs,us,hv,U=>by
  rw [bV] at hv;obtain⟨u,vs,rfl,Z,h3⟩:=hv;simp [qU] at U;intro y hy;rcases aw.1 hy with rfl|hy
  ·exact Z.one U.1
  ·exact h3.rB U.2 y hy
theorem VR.cells {E:En} {h:Array Obj} {x:W} {v:Value} (hv:VR E h x v) (U:qU x.cells=true):cB E h x.cells v.cells.toList:=by
 cases x with
 |agg cs=> simp only [VR] at hv;obtain⟨us,rfl,Z⟩:=hv;simpa [W.cells,Value.cells] using Z
 |_=>
  all_goals
   simp only [W.cells] at U ⊢;have Z:=hv.one (by simpa [qU] using U);rw [bV];refine⟨v,[],?_,hv,rfl⟩;cases v<;>first |rfl|simp [Value.oneCell'] at Z
theorem rv {P:Program} {w:World} {b o n:Nat} {us:List Value} (hn:us.length=n) (h:fI w.heap b o us) :
 (loadCells ⟨b,o,none⟩ n).run P w= .ok us.toArray w:=by
 subst hn;refine run_loadCells_list w _ us fun j v hj=>?_;rw [eT,nQ];exact h j v hj
theorem fI.drop {h:Array Obj} {b o:Nat} {us:List Value} (hc:fI h b o us) (k:Nat):fI h b (o+k) (us.drop k):=by
 intro i u hu;rw [amF] at hu;have:=hc (k+i) u hu
 grind
theorem fI.take {h:Array Obj} {b o:Nat} {us:List Value} (hc:fI h b o us) (k:Nat):fI h b o (us.take k):=by
 intro i u hu;rw [amG] at hu;split at hu
 ·exact hc i u hu
 grind
theorem w7 {E:En} {h:Array Obj} {id:Nat} {cs:List W} {e:TypeId} (ho:OR E h id (.cells cs e)) :
 ∃us,cB E h cs us/\fI h (E.θ id).1 (E.θ id).2 us/\∀u∈us,u.oneCell'=true:=by
 obtain⟨arr,lo,hi,us,U,Z,h3,h4,h5,h6,h7⟩:=ho;refine⟨us,Z,fun i u hu=>?_,h7⟩;simp only [jE,U]
 grind
theorem vB [bI] {E:En} {H:Hp} {w:World} (r:bP E H w) {p:W} {u:Value} {n:Nat} {l:List W} (hp:VR E w.heap p u) (h:mw H p n=some l) :
 ∃b o us,u= .pointer (some ⟨b,o,none⟩)/\us.length=n/\cB E w.heap l us/\fI w.heap b o us/\∀u∈us,u.oneCell'=true:=by
 cases p with
 |ptr id off=>
  simp only [mw] at h;split at h
  ·rename_i cs e hl;split at h
   ·rename_i l' hd;obtain⟨us,Z,h3,h4⟩:=w7 (r.live id _ hl).2.1;obtain⟨h5,h6,h7⟩:=Z.eD hd;obtain⟨h8,h9⟩:=h5.hU h;simp only [VR] at hp;refine⟨_,_,_,hp.1,?_,h8,(h3.drop off).take n,fun x hx=>h4 x (bq (al9 hx))⟩;have:=h5.length
    grind
   grind
  grind
 |mY cs=>
  simp only [mw] at h;simp only [VR] at hp;obtain⟨b,o,us,rfl,_,Z,h3,h4⟩:=hp;obtain⟨h5,h6⟩:=Z.hU h;refine⟨b,o,_,rfl,?_,h5,h3.take n,fun x hx=>h4 x (al9 hx)⟩;have:=Z.length
  grind
 |_=>simp [mw] at h
theorem vx {E:En} {h:Array Obj}: ∀{cs:List W} {o:Nat} {vs lJ:List W} {us ws:List Value},dQ cs o vs=some lJ->cB E h cs us->cB E h vs ws->
 lJ.length=cs.length/\o+vs.length<=cs.length/\∃gr,cB E h lJ gr/\∀i,gr[i]?=if o<=i/\i<o+ws.length then ws[i-o]? else us[i]?
 |cs,0,[],lJ,us,ws,U,Z,h3=>by cases cs<;>simp [dQ] at U<;>subst U<;>rw [gP] at h3<;>subst h3<;>exact⟨rfl,ad,us,Z,fun i=>by simp⟩
 |[],0,_::_,lJ,us,ws,U,Z,h3=>by simp [dQ] at U
 |c::cs,0,v::vs,lJ,us,ws,U,Z,h3=>by
  simp only [dQ] at U;split at U
  ·rename_i l hl;simp at U;subst U;rw [bV] at Z h3;obtain⟨u,gr,rfl,ha,Y⟩:=Z;obtain⟨x,ws',rfl,hc,hd⟩:=h3;obtain⟨e1,e2,Vp,e3,e4⟩:=vx hl Y hd;refine⟨by simp [e1],by simp at e2 ⊢; omega,x::Vp,by rw [bV]; exact⟨x,Vp,rfl,hc,e3⟩,?_⟩;intro i
   grind
  grind
 |[],_+1,vs,lJ,us,ws,U,Z,h3=>by cases vs<;>simp [dQ] at U
 |c::cs,o+1,vs,lJ,us,ws,U,Z,h3=>by
  have UJ:(match dQ cs o vs with |some l=>some (c::l)|none=>none)=some lJ:=by cases vs<;>exact U
  split at UJ
  ·rename_i l hl;simp at UJ;subst UJ;rw [bV] at Z;obtain⟨u,gr,rfl,ha,Y⟩:=Z;obtain⟨e1,e2,Vp,e3,e4⟩:=vx hl Y h3;refine⟨by simp [e1],by simp; omega,u::Vp,by rw [bV]; exact⟨u,Vp,rfl,ha,e3⟩,?_⟩;intro i
   grind
  grind
theorem mu {P:Program} (b o:Nat) (e:TypeId) (lo hi:Nat): ∀(vs:List Value) (i:Nat) (arr:Array Value) (w:World),
 w.heap[b]?=some (.cells arr e (lo,hi))->(∀x,lo<=x->x<hi->arr.size<=x)->o+i+vs.length<=arr.size->(∀v∈vs,v.oneCell'=true)->
 ∃w' JH,(storeCells ⟨b,o,none⟩ vs i).run P w= .ok () w'/\Alike w w'/\w'.heap.size=w.heap.size/\(∀j,j≠b->w'.heap[j]?=w.heap[j]?)/\
  w'.heap[b]?=some (.cells JH e (lo,hi))/\JH.size=arr.size/\∀j,JH[j]?=if o+i<=j/\j<o+i+vs.length then vs[j-(o+i)]? else arr[j]?
 |[],i,arr,w,Y,_,_,_=> ⟨w,arr,rfl,⟨rfl,rfl,rfl⟩,rfl,fun _ _=>rfl,Y,rfl,fun j=>by rw [af ad]⟩
 |v::vs,i,arr,w,Y,hf,hl,U=>by
  have xS:o+i<arr.size:=by simp at hl; omega
  have jE:w.cell? ⟨b,o+i,none⟩ = some arr[o+i]:=by simp [World.cell?,Y,xS]
  have al3:w.frozen? ⟨b,o+i,none⟩ = false:=by
   simp only [World.frozen?,Y,Bool.and_eq_false_iff,decide_eq_false_iff_not]
   grind
  have Br:(store ((⟨b,o,none⟩ : Addr).add i) v).run P w= .ok () (w.setCell ⟨b,o+i,none⟩ v):=by
   rw [eT,run_store P w _ v _ (U v ad),jE]
   grind
  have Li:(w.setCell ⟨b,o+i,none⟩ v).heap[b]?=some (.cells (arr.setIfInBounds (o+i) v) e (lo,hi)):=by simp [World.setCell,anv,Y]
  have gX:(w.setCell ⟨b,o+i,none⟩ v).heap.size=w.heap.size:=by simp [World.setCell]
  have hot: ∀j,j≠b->(w.setCell ⟨b,o+i,none⟩ v).heap[j]?=w.heap[j]?:=by
   intro j hj;simp only [World.setCell,anv]
   grind
  obtain⟨w',JH,e1,e2,e3,e4,e5,e6,e7⟩:=mu (P:=P) b o e lo hi vs (i+1) _ _ Li (by simpa using hf) (by simp at hl ⊢; omega) (fun x hx=>U x (by simp [hx]));refine⟨w',JH,?_,⟨e2.os,e2.tape,e2.output⟩,e3.trans gX,fun j hj=>(e4 j hj).trans (hot j hj),e5,by simpa using e6,?_⟩
  ·simp only [storeCells,Sem.run_bind,Br,Result.andThen_ok];exact e1
  grind
theorem lL [bI] {P:Program} {E:En} {H:Hp} {w:World} (r:bP E H w) {id off:Nat} {cs vs lJ:List W} {e:TypeId} {ws:List Value} (hl:H.get id=some (.cells cs e))
 (hs:dQ cs off vs=some lJ) (hv:cB E w.heap vs ws) (U: ∀u∈ws,u.oneCell'=true) :
 ∃w',(storeCells ⟨(E.θ id).1,(E.θ id).2+off,none⟩ ws).run P w= .ok () w'/\eM E H w E (H.put id (.cells lJ e)) w'/\bP E (H.put id (.cells lJ e)) w':=by
 obtain⟨arr,lo,hi,us,g1,g2,g3,g4,g5,g6,g7⟩:=(r.live id _ hl).2.1;obtain⟨s1,s2,gr,s3,s4⟩:=vx hs g2 hv;have hlen:=hv.length;have hlu:=g2.length;obtain⟨w',JH,e1,e2,e3,e4,e5,e6,e7⟩:=mu (P:=P) (E.θ id).1 ((E.θ id).2+off) e lo hi ws 0 arr w g1 g6 J U;refine⟨w',e1,De r hl _ e3 e4 e2 ?_⟩;have k:=jY r hl e4;refine⟨JH,lo,hi,gr,e5,cB.bX k _ _ s3,?_,J,by rw [e6]; exact g5,by rw [e6]; exact g6,?_⟩
 ·intro i u hu
  grind
 ·intro u hu;rw [amX] at hu
  grind
def bW (ρ:Nat->Int) (pc:List (SB×Bool)):Prop:= ∀c b,(c,b)∈pc->c.den ρ=b
def SR (E:En) (h:Array Obj) (bD:Tr W) (a:Act):Prop:= ∀t v,bD.get t=some v->∃u,a.tmps[t]?=some u/\VR E h v u
def oI (P:Program) (o:Oper) (a:Act) (w:World) (R:Value->World->Prop):Prop:=
 ∀(K:Act->World->Prop) (Q:Exit->Act->World->Prop),(∀u w',R u w'->K (a.put o.dst u) w')->o.wp P a w K Q
theorem oI.value {P:Program} {o:Oper} {a:Act} {w w':World} {R:Value->World->Prop} {u:Value} (h:(execOp a.eval o).run P w= .ok (.value u) w') (hr:R u w'):oI P o a w R:=
 fun K Q hk=>by unfold Oper.wp; rw [h]; exact hk u w' hr
theorem oI.skip {P:Program} {o:Oper} {a:Act} {w w':World} {R:Value->World->Prop} (h:(execOp a.eval o).run P w= .ok .skip w') (hr:R undef w'):oI P o a w R:=
 fun K Q hk=>by unfold Oper.wp; rw [h]; exact hk _ w' hr
theorem fU {E:En} {w:World} {s:St} {a:Act} (sr:SR E w.heap s.bD a) {x:Operand} {v:W} (h:ev s x=some v):VR E w.heap v (a.eval x):=by
 cases x with
 |tmp t=> obtain⟨u,U,Z⟩:=sr t v h;simp only [Act.eval,amH,U,az];exact Z
 |const c=>exact NJ h
 |func f=> simp [ev] at h;subst h;simp only [VR,Act.eval];exact⟨[],[],rfl,rfl,rfl⟩
 |global g=>simp [ev] at h
theorem IY {E:En} {w:World} {s:St} {a:Act} (sr:SR E w.heap s.bD a): ∀{xs:List Operand} {vs:List W},evs s xs=some vs->cB E w.heap vs (xs.map a.eval)
 |[],vs,h=>by simp [evs] at h; subst h; simp [cB]
 |x::xs,vs,h=>by
  simp only [evs] at h;split at h
  ·grind
  ·rename_i b Y;split at h
   ·grind
   ·rename_i bs hbs;simp at h;subst h;rw [ax,bV];exact⟨_,_,rfl,fU sr Y,IY sr hbs⟩
section
variable {P:Program} {t:Nat} {i:TI}
theorem kz (h:ma P t i) (w:World):(isAgg t).run P w= .ok i.agg w:=by obtain⟨inf,d,z,U,Z,h3,h4,h5,h6,h7,_⟩:=h.all;unfold isAgg;simp only [Sem.run_bind,run_underlying Z,Result.andThen_ok];cases d<;>cases hk:i.kind<;>simp only [hk,HD] at h7<;>simp [TI.agg,TK.agg,hk]
theorem ek (h:ma P t i) (w:World):(sizeOf t).run P w= .ok i.size w:=by obtain⟨inf,d,z,U,Z,h3,h4,h5,h6,h7,_⟩:=h.all;simp [sizeOf,typeInfo,U,h5]
theorem eW (h:ma P t i) {e:Nat} (hk:i.kind= .slice e):P.underlying t=some (.slice e):=by obtain⟨inf,d,z,U,Z,h3,h4,h5,h6,h7,_⟩:=h.all;rw [Z];cases d<;>simp [hk,HD] at h7;rw [h7]
theorem ra (h:ma P t i) {n e:Nat} (hk:i.kind= .array n e):P.underlying t=some (.array n e):=by
 obtain⟨inf,d,z,U,Z,h3,h4,h5,h6,h7,_⟩:=h.all;rw [Z];cases d<;>simp [hk,HD] at h7
 grind
theorem sc (h:ma P t i) {k e:Nat} (hk:i.kind= .map k e):P.underlying t=some (.map k e):=by
 obtain⟨inf,d,z,U,Z,h3,h4,h5,h6,h7,_⟩:=h.all;rw [Z];cases d<;>simp [hk,HD] at h7
 grind
theorem oz (h:ma P t i) {k:IntKind} (hk:i.kind= .int k):P.underlying t=some (.int k):=by obtain⟨inf,d,z,U,Z,h3,h4,h5,h6,h7,_⟩:=h.all;rw [Z];cases d<;>simp [hk,HD] at h7;rw [h7]
theorem fB (h:ma P t i) (hk:i.kind= .string):P.underlying t=some .string:=by
 obtain⟨inf,d,z,U,Z,h3,h4,h5,h6,h7,_⟩:=h.all
 grind [HD]
theorem J7 (h:ma P t i) (hk:i.kind= .bool):P.underlying t=some .bool:=by
 obtain⟨inf,d,z,U,Z,h3,h4,h5,h6,h7,_⟩:=h.all
 grind [HD]
theorem sa (h:ma P t i) {l:List (Nat×Nat×Nat)} (hk:i.kind= .struct l): ∃fs:Array Field,P.underlying t=some (.struct fs)/\(fs.toList.mapM fun f=>(P.info? f.type).map fun i=>(f.offset,f.type,i.size))=some l:=by
 obtain⟨inf,d,z,U,Z,h3,h4,h5,h6,h7,_⟩:=h.all;rw [Z];cases d<;>simp [hk,HD] at h7
 grind
theorem vN (h:ma P t i): ∃inf z,P.info? t=some inf/\inf.size=i.size/\inf.bytes=i.bytes/\inf.zero=some z/\ky z.cells.toList=some i.zero:=by
 obtain⟨inf,d,z,U,Z,h3,h4,h5,h6,h7,_⟩:=h.all
 grind
end
theorem AH [bI] {P:Program} {tt:TT} (cJ:ep P tt) {E:En} {H:Hp} {w:World} (r:bP E H w) {t:Nat} {p v:W} {u:Value} (hp:VR E w.heap p u) (h:AI tt t p H=some v) :
 ∃x b o,u= .pointer (some ⟨b,o,none⟩)/\(loadVar t ⟨b,o,none⟩).run P w= .ok x w/\VR E w.heap v x:=by
 unfold AI at h;split at h
 ·grind
 ·rename_i i hi;have fL:=cJ t i hi;split at h
  ·rename_i Oc;rw [aO] at h;obtain⟨l,hl,rfl⟩:=h;obtain⟨b,o,us,rfl,Z,h3,h4,_⟩:=vB r hp hl;refine⟨.agg us.toArray,b,o,rfl,?_,by simp only [VR]; exact⟨us,rfl,h3⟩⟩;simp [loadVar,kz fL,Oc,ek fL,rv Z h4]
  ·rename_i Oc;split at h
   ·rename_i v' l hl;simp at h;subst h;obtain⟨b,o,us,rfl,Z,h3,h4,_⟩:=vB r hp hl;rw [bV] at h3;obtain⟨x,vs,rfl,h5,_⟩:=h3;refine⟨x,b,o,rfl,?_,h5⟩;have hc:w.cell? ⟨b,o,none⟩ = some x:=by rw [nQ]; exact h4 0 x rfl
    simp [loadVar,kz fL,Oc,hc]
   grind
theorem j9 (k:IntKind) (n:Int):rM k n=k.wrap n:=by
 unfold rM;split
 ·split
  ·rename_i h; exact (IntWalk.i64_in n h).symm
  ·rfl
 ·split
  ·rename_i h; exact (IntWalk.u8_in n h).symm
  ·rfl
 ·rfl
theorem S6 (ρ:Nat->Int) (k:IntKind) (a b:V):(WT k a b).den ρ=k.wrap (a.den ρ+b.den ρ):=by
 unfold WT
 grind [V.den,j9]
theorem FR (ρ:Nat->Int) (k:IntKind) (a b:V):(PM k a b).den ρ=k.wrap (a.den ρ-b.den ρ):=by
 unfold PM
 grind [V.den,j9]
theorem S5 (ρ:Nat->Int) (k:IntKind) (a b:V):(WS k a b).den ρ=k.wrap (a.den ρ*b.den ρ):=by
 unfold WS
 grind [V.den,j9]
theorem dR (ρ:Nat->Int) (a b:V):(gV a b).den ρ=decide (a.den ρ<b.den ρ):=by
 unfold gV;split
 ·rfl
 ·simp [SB.den]
theorem WU (ρ:Nat->Int) (a b:V):(L? a b).den ρ=decide (a.den ρ<=b.den ρ):=by
 unfold L?;split
 ·rfl
 ·simp only [SB.den]
  grind
theorem gw (ρ:Nat->Int) (a b:V):(qA a b).den ρ=(a.den ρ == b.den ρ):=by
 unfold qA;split
 ·simp [SB.den,V.den]
 ·simp only [SB.den,V.den]
  grind
 grind [cO,SB.den]
theorem mX (ρ:Nat->Int) (s:SB):(wJ s).den ρ=!(s.den ρ):=by
 unfold wJ
 grind [SB.den]
theorem lQ: ∀(x y:List Nat),gD x y=true↔x=y
 |[],[]=>by simp [gD]
 |[],_::_=>by simp [gD]
 |_::_,[]=>by simp [gD]
 |a::x,b::y=>by
  simp only [gD]
  cases h:a.beq b with
  |true=>have:=aq h; subst this; simp [lQ x y]
  |false=>have:=amY h; simp [this]
theorem pO (s:List Nat):(de s).toList=s.map UInt8.ofNat:=by simp_all [de]
theorem kr (s:List Nat):(de s).size=s.length:=by show (List.map UInt8.ofNat s).toArray.size=_;simp
theorem ofNat_inj {a b:Nat} (ha:a<256) (Y:b<256) (h:UInt8.ofNat a=UInt8.ofNat b):a=b:=by have:=congrArg UInt8.toNat h;simpa [amu,amo ha,amo Y] using this
theorem map_inj: ∀{x y:List Nat},(∀b∈x,b<256)->(∀b∈y,b<256)->x.map UInt8.ofNat=y.map UInt8.ofNat->x=y
 |[],[],_,_,_=>rfl
 |[],_::_,_,_,h=>by simp at h
 |_::_,[],_,_,h=>by simp at h
 |a::x,b::y,hx,hy,h=>by simp only [ax,List.cons.injEq] at h;rw [ofNat_inj (hx a ad) (hy b ad) h.1,map_inj (fun c hc=>hx c (by simp [hc])) (fun c hc=>hy c (by simp [hc])) h.2]
theorem PI {x y:List Nat} (hx: ∀b∈x,b<256) (hy: ∀b∈y,b<256):((de x).toList == (de y).toList)=gD x y:=by
 grind [pO,lQ,map_inj]
theorem FI: ∀{x y:List Nat},(∀b∈x,b<256)->(∀b∈y,b<256)->Op.bytesLess (x.map UInt8.ofNat) (y.map UInt8.ofNat)=bytesLess x y
 |[],[],_,_=>by simp [Op.bytesLess,bytesLess]
 |[],_::_,_,_=>by simp [Op.bytesLess,bytesLess]
 |_::_,[],_,_=>by simp [Op.bytesLess,bytesLess]
 |a::x,b::y,hx,hy=>by
  have ha:=hx a ad;have Y:=hy b ad;have ih:=FI (x:=x) (y:=y) (fun c hc=>hx c (by simp [hc])) (fun c hc=>hy c (by simp [hc]));simp only [ax,Op.bytesLess,bytesLess,ih]
  have U:decide (UInt8.ofNat a<UInt8.ofNat b)=a.blt b:=by rw [amg,decide_eq_true_iff,UInt8.lt_iff_toNat_lt,amu,amu,amo ha,amo Y];simp_all
  have Z:(UInt8.ofNat a == UInt8.ofNat b)=a.beq b:=by rw [amg,beq_iff_eq];exact⟨fun h=>by rw [ofNat_inj ha Y h]; simp,fun h=>by rw [aq h]⟩
  grind
theorem Kg {P:Program} {E:En} {w:World} {op:BinOp} {x y:List Nat} {v:W} (hx: ∀b∈x,b<256) (hy: ∀b∈y,b<256) (h:Kh op x y=some v) :
 ∃u,(Op.stringOp op (de x) (de y)).run P w= .ok u w/\VR E w.heap v u:=by
 have he:=PI hx hy;have hl:Op.bytesLess (de x).toList (de y).toList=bytesLess x y:=by rw [pO,pO]; exact FI hx hy
 unfold Kh at h;cases op<;>simp only [ag,reduceCtorEq] at h
 case add=>
  split at h
  ·rename_i hh;simp at h;subst h;have hm:IntKind.i64.max=9223372036854775807:=ae
   refine⟨.string (de x++de y),?_,?_⟩
   ·simp only [Op.stringOp,kr,hm];rw [af J];rfl
   ·simp only [VR];refine⟨?_,?_⟩
    ·congr 1;apply ByteArray.ext;simp [de]
    ·intro b Y;rcases amb.1 Y with Y|Y
     ·exact hx b Y
     ·exact hy b Y
  ·simp at h
 all_goals
  subst h;exact⟨_,rfl,by simp only [VR,SB.den,he,hl]⟩
theorem iM {ρ:Nat->Int} {c:SB} {b:Bool}: ∀{pc:List (SB×Bool)},bW ρ pc->nd c pc=some b->c.den ρ=b
 |[],_,h=>by simp [nd] at h
 |(d,x)::l,hp,h=>by
  simp only [nd] at h;split at h
  ·rename_i he;have he:=rp _ _ he;simp at h;subst he h;exact hp _ _ ad
  ·exact iM (fun c b hm=>hp c b (by simp [hm])) h
def qV (lo hi:Option Int) (x:Int):Prop:=(∀l,lo=some l->l<=x)/\∀h,hi=some h->x<=h
theorem Ir {lo:Option Int} {z x:Int} (h: ∀l,lo=some l->l<=x) (hz:z<=x): ∀l,Xt lo z=some l->l<=x:=by
 intro l hl;unfold Xt at hl
 grind
theorem Iq {hi:Option Int} {z x:Int} (h: ∀l,hi=some l->x<=l) (hz:x<=z): ∀l,Xr hi z=some l->x<=l:=by
 intro l hl;unfold Xr at hl
 grind
theorem Xf {lo:Option Int} {z x:Int} (h: ∀l,lo=some l->l<=x) (hz:x≠z): ∀l,Xg lo z=some l->l<=x:=by
 intro l hl;unfold Xg at hl
 grind
theorem Xh {hi:Option Int} {z x:Int} (h: ∀l,hi=some l->x<=l) (hz:x≠z): ∀l,Xi hi z=some l->x<=l:=by
 intro l hl;unfold Xi at hl
 grind
theorem pY {ρ:Nat->Int} {x y:V} {v:Bool} (h:(SB.lt x y).den ρ=v):(x.den ρ<y.den ρ)↔v=true:=by subst h; simp [SB.den]
theorem RH {ρ:Nat->Int} {x y:V} {v:Bool} (h:(SB.eq x y).den ρ=v):(x.den ρ=y.den ρ)↔v=true:=by subst h; simp [SB.den]
theorem f_ {ρ:Nat->Int} (e:V):qV (Sj e).1 (Sj e).2 (e.den ρ):=by
 have h0:qV none none (e.den ρ):=⟨ad,ad⟩;unfold Sj;split
 ·split
  ·split
   ·split
    ·split
     ·split
      ·split
       ·rename_i k m x n hn;obtain⟨hn,rfl,rfl⟩:=hn;simp only [V.den];have U:=amZ (m.den ρ) (b:=n) J
        have Z: -n<(m.den ρ).tmod n:=by have U:=amZ (-(m.den ρ)) (b:=n) J;rw [Int.neg_tmod] at U;omega
        have h3:=Int.tmod_nonneg n (a:=(m.den ρ).tmod n+n) J;have h4:=amZ ((m.den ρ).tmod n+n) (b:=n) J;constructor<;>intro l hl<;>simp at hl<;>omega
       grind
      grind
     grind
    grind
   grind
  grind
 ·rename_i o a b
  cases o with
  |len=> refine⟨fun l hl=>?_,ad⟩;simp only [ag] at hl;subst hl;simp only [V.den,e9.den];omega
  |_=>exact h0
 grind
theorem lT {ρ:Nat->Int} {e:V}: ∀{pc:List (SB×Bool)},bW ρ pc->qV (bounds e pc).1 (bounds e pc).2 (e.den ρ)
 |[],_=>f_ e
 |(c,v)::l,hp=>by
  have ih:=lT (e:=e) (pc:=l) (fun c b hm=>hp c b (by simp [hm]));have hc:=hp c v ad;unfold bounds;split
  ·have hc:=pY hc;split
   ·split
    ·exact ih
    ·rename_i he;have he:=cO _ _ he;subst he;revert ih;split;rename_i lo hi Y;rw [Y];intro ih;simp only [V.den] at hc;cases v
     ·exact⟨ih.1,Iq ih.2 (by simp at hc; omega)⟩
     ·exact⟨Ir ih.1 (by simp at hc; omega),ih.2⟩
   ·split
    ·split
     ·exact ih
     ·rename_i he;have he:=cO _ _ he;subst he;revert ih;split;rename_i lo hi Y;rw [Y];intro ih;simp only [V.den] at hc;cases v
      ·exact⟨Ir ih.1 (by simp at hc; omega),ih.2⟩
      ·exact⟨ih.1,Iq ih.2 (by simp at hc; omega)⟩
    grind
  ·split
   ·split
    ·split
     ·exact ih
     ·rename_i he;have he:=cO _ _ he;subst he;revert ih;split;rename_i lo hi Y;rw [Y];intro ih;simp only [SB.den,V.den,beq_eq_false_iff_ne] at hc;exact⟨Xf ih.1 hc,Xh ih.2 hc⟩
    ·split
     ·exact ih
     ·rename_i he;have he:=cO _ _ he;subst he;simp only [SB.den,V.den,beq_iff_eq] at hc;exact⟨fun l hl=>by simp at hl; omega,fun l hl=>by simp at hl; omega⟩
   grind
  grind
theorem w9 {ρ:Nat->Int} {e:V} {pc:List (SB×Bool)} (hp:bW ρ pc):qV (oF e pc).1 (oF e pc).2 (e.den ρ):=by
 have h0:=lT (e:=e) hp;unfold oF;split
 ·split
  ·split
   ·split
    ·rename_i b _ c;have Y:=lT (e:=b) hp;split
     ·rename_i lo hi My;rw [My] at Y;have b1:=Y.1 lo rfl;have b2:=Y.2 hi rfl;split
      ·rename_i hr;revert h0;split;rename_i l2 Z hee;rw [hee];intro h0
       have hw:(V.wrap .i64 (.add b (.lit c))).den ρ=b.den ρ+c:=by
        simp only [V.den];rw [<- j9];simp only [rM]
        grind
       exact⟨Ir h0.1 (by rw [hw]; omega),Iq h0.2 (by rw [hw]; omega)⟩
      grind
     grind
    grind
   grind
  grind
 grind
theorem Dv {ρ:Nat->Int} {pc:List (SB×Bool)} (hp:bW ρ pc) {a b:V} {v:Bool} (h:QI a b pc=some v):a.den ρ=b.den ρ↔v=true:=by
 unfold QI at h;split at h
 ·rename_i U;simp at h;subst h;exact RH (iM hp U)
 ·rw [<- RH (iM hp h)]
  grind
theorem ZZ {ρ:Nat->Int} {pc:List (SB×Bool)} (hp:bW ρ pc) {a b:V} {v:Bool} (h:decLt pc a b=some v):a.den ρ<b.den ρ↔v=true:=by
 unfold decLt at h;split at h
 ·rename_i U;simp at h;subst h;exact pY (iM hp U)
 ·split at h
  ·have Y:=w9 (e:=b) hp;have hz: ∀z,(V.lit z).den ρ=z:=fun _=>rfl;simp only [hz] at *;generalize My:oF _ pc=p at h Y;obtain⟨lo,hi⟩:=p;simp only [qV] at h Y
   grind
  ·split at h
   ·have Y:=w9 (e:=a) hp;have hz: ∀z,(V.lit z).den ρ=z:=fun _=>rfl;simp only [hz] at *;generalize My:oF _ pc=p at h Y;obtain⟨lo,hi⟩:=p;simp only [qV] at h Y
    grind
   ·split at h
    ·rename_i U;have U:=Dv hp U
     grind
    ·rename_i U;have U:=Dv hp U;simp at U;split at h
     ·rename_i Z;have Z:=pY (iM hp Z)
      grind
     grind
    ·split at h
     ·rename_i Z;have Z:=pY (iM hp Z)
      grind
     grind
theorem Z0 {ρ:Nat->Int} {pc:List (SB×Bool)} (hp:bW ρ pc) {a b:V} {v:Bool} (h:decEq pc a b=some v):a.den ρ=b.den ρ↔v=true:=by
 unfold decEq at h;split at h
 ·rename_i U;simp at h;subst h;exact Dv hp U
 ·split at h
  ·have Y:=w9 (e:=a) hp;have hz: ∀z,(V.lit z).den ρ=z:=fun _=>rfl;simp only [hz] at *;generalize My:oF _ pc=p at h Y;obtain⟨lo,hi⟩:=p;simp only [qV] at h Y
   grind
  ·split at h
   ·rename_i Z;have Z:=pY (iM hp Z)
    grind
   ·rename_i Z;have Z:=pY (iM hp Z);simp at Z;split at h
    ·rename_i h3;have h3:=pY (iM hp h3)
     grind
    grind
   ·split at h
    ·rename_i Z;have Z:=pY (iM hp Z)
     grind
    grind
theorem kq {ρ:Nat->Int}: ∀{e:V} {x:Sum Int D},jy e=some x->e.den ρ=(match x with | .inl n=>n| .inr d=>enc d)
 | .lit n,x,h=>by simp only [jy,ag] at h; subst h; rfl
 | .ej d,x,h=>by simp only [jy,ag] at h; subst h; rfl
 | .op o a b,x,h=>by
   have ha:=fun y=>kq (ρ:=ρ) (e:=a) (x:=y);have Y:=fun y=>kq (ρ:=ρ) (e:=b) (x:=y);simp only [jy] at h;split at h
   ·split at h
    ·rename_i d hd;simp only [ag] at h; subst h;simp only [V.den,e9.den,ha _ hd,bB]
    ·simp at h
   ·split at h
    ·rename_i d hd;simp only [ag] at h; subst h;simp only [V.den,e9.den,ha _ hd]
    ·simp at h
   ·split at h
    ·rename_i u v hu hv;simp only [ag] at h; subst h;simp only [V.den,e9.den,ha _ hu,Y _ hv,bB]
    ·simp at h
   ·split at h
    ·rename_i u v hu hv;simp only [ag] at h; subst h;simp only [V.den,e9.den,ha _ hu,Y _ hv,bB]
    ·simp at h
   ·split at h
    ·rename_i u k v hu hv;simp only [ag] at h; subst h;simp only [V.den,e9.den,ha _ hu,Y _ hv,bB]
    ·simp at h
   ·split at h
    ·rename_i u v hu hv;simp only [ag] at h; subst h;simp only [V.den,e9.den,ha _ hu,Y _ hv,bB]
    ·simp at h
   ·split at h
    ·rename_i u v hu hv;simp only [ag] at h; subst h;simp only [V.den,e9.den,ha _ hu,Y _ hv,bB]
    ·simp at h
   ·split at h
    ·rename_i d hd;simp only [ag] at h; subst h;simp only [V.den,e9.den,ha _ hd,bB]
    ·simp at h
   ·simp at h
 | .du _,x,h=>by simp [jy] at h
 | .add _ _,x,h=>by simp [jy] at h
 | .sub _ _,x,h=>by simp [jy] at h
 | .mul a b,x,h=>by
   have ha:=fun y=>kq (ρ:=ρ) (e:=a) (x:=y);have Y:=fun y=>kq (ρ:=ρ) (e:=b) (x:=y);simp only [jy] at h;split at h
   ·rename_i u v hu hv;simp only [ag] at h; subst h;simp only [V.den,ha _ hu,Y _ hv]
   ·simp at h
 | .quo a b,x,h=>by
   have ha:=fun y=>kq (ρ:=ρ) (e:=a) (x:=y);have Y:=fun y=>kq (ρ:=ρ) (e:=b) (x:=y);simp only [jy] at h;split at h
   ·rename_i u v hu hv;simp only [ag] at h; subst h;simp only [V.den,ha _ hu,Y _ hv]
   ·simp at h
 | .rem a b,x,h=>by
   have ha:=fun y=>kq (ρ:=ρ) (e:=a) (x:=y);have Y:=fun y=>kq (ρ:=ρ) (e:=b) (x:=y);simp only [jy] at h;split at h
   ·rename_i u v hu hv;simp only [ag] at h; subst h;simp only [V.den,ha _ hu,Y _ hv]
   ·simp at h
 | .wrap k a,x,h=>by
   have ha:=fun y=>kq (ρ:=ρ) (e:=a) (x:=y);simp only [jy] at h;split at h
   ·rename_i u hu;simp only [ag] at h; subst h;simp only [V.den,ha _ hu,j9]
   ·simp at h
 | .wz _ _,x,h=>by simp [jy] at h
 | .ap _ _,x,h=>by simp [jy] at h
theorem EA {ρ:Nat->Int} {pc:List (SB×Bool)} (hp:bW ρ pc) {c:SB} {b:Bool} (h:CC pc c=some b):c.den ρ=b:=by
 unfold CC at h;split at h
 ·simp at h; simp [SB.den,h]
 ·split at h
  ·rename_i x y hx hy;simp only [ag] at h; subst h;simp only [SB.den,kq (ρ:=ρ) hx,kq (ρ:=ρ) hy]
  ·have:=ZZ hp h;simp only [SB.den]
   grind
 ·split at h
  ·rename_i x y hx hy;simp only [ag] at h; subst h;simp only [SB.den,kq (ρ:=ρ) hx,kq (ρ:=ρ) hy]
   grind
  ·have:=Z0 hp h;simp only [SB.den]
   grind
 ·exact iM hp h
theorem gq {ρ:Nat->Int} {pc:List (SB×Bool)} (hp:bW ρ pc) {c:SB} {b:Bool} (h:jK pc c=some b):c.den ρ=b:=by
 unfold jK at h;split at h
 ·rw [aO] at h;obtain⟨x,U,rfl⟩:=h;simp only [SB.den,EA hp U]
 ·exact EA hp h
section
variable {P:Program} {E:En} {w:World}
theorem XS {op:BinOp} {t:Nat} {k k':IntKind} {a b:V} {v:W} (hk:op= .shr\/k=k') (h:Rb op k a b=some v) :
 ∃u,(binOp op t (.int k (a.den E.ρ)) (.int k' (b.den E.ρ))).run P w= .ok u w/\VR E w.heap v u:=by
 unfold Rb at h;cases op<;>simp only [ag,reduceCtorEq] at h
 case add=>obtain rfl:k=k':=by simpa using hk
           subst h; exact⟨_,by simp [binOp,Op.intArith]; rfl,by simp only [VR,S6]⟩
 case sub=>obtain rfl:k=k':=by simpa using hk
           subst h; exact⟨_,by simp [binOp,Op.intArith]; rfl,by simp only [VR,FR]⟩
 case mul=>obtain rfl:k=k':=by simpa using hk
           subst h; exact⟨_,by simp [binOp,Op.intArith]; rfl,by simp only [VR,S5]⟩
 case quo=>
  obtain rfl:k=k':=by simpa using hk
  split at h
  ·split at h
   ·simp at h
   ·rename_i hy;simp at h;subst h;exact⟨_,by simp [binOp,Op.intDiv,V.den,hy]; rfl,by simp only [VR,V.den,j9]⟩
  ·split at h
   ·simp at h
   ·rename_i hy;simp at h;subst h;exact⟨_,by simp [binOp,Op.intDiv,V.den,hy]; rfl,by simp only [VR,V.den]⟩
  ·simp at h
 case rem=>
  obtain rfl:k=k':=by simpa using hk
  split at h
  ·split at h
   ·simp at h
   ·rename_i hy;simp at h;subst h;exact⟨_,by simp [binOp,Op.intDiv,V.den,hy]; rfl,by simp only [VR,V.den]⟩
  ·split at h
   ·simp at h
   ·rename_i hy;simp at h;subst h;exact⟨_,by simp [binOp,Op.intDiv,V.den,hy]; rfl,by simp only [VR,V.den]⟩
  ·simp at h
 case shr=>
  split at h
  ·split at h
   ·simp at h
   ·rename_i hy;simp at h;subst h;exact⟨_,by simp [binOp,Op.shift,V.den,hy]; rfl,by simp only [VR,V.den]⟩
  ·simp at h
 all_goals
  obtain rfl:k=k':=by simpa using hk
  subst h;refine⟨_,by simp [binOp,Op.intCmp]; rfl,?_⟩;simp only [VR,gw,mX,dR,WU]
  first |rfl|(congr 1; simp [bne]; done)|(congr 1; rw [amg]; simp; done)|skip
theorem va {op:BinOp} {t:Nat} {x y:Operand} {a b:Value} (U: ∀cs ds,¬(a= .agg cs/\b= .agg ds)) (Z: ¬(a= .nilIface/\b= .nilIface)) :
 (eqGuard op t x y a b).run P w= .ok () w:=by
 cases op
 case eql=>
  cases a<;>first
   |(cases b<;>first |(exact absurd ⟨rfl,rfl⟩ (U _ _))|(exact absurd ⟨rfl,rfl⟩ Z)|rfl)
   |rfl
 case neq=>
  cases a<;>first
   |(cases b<;>first |(exact absurd ⟨rfl,rfl⟩ (U _ _))|(exact absurd ⟨rfl,rfl⟩ Z)|rfl)
   |rfl
 all_goals rfl
theorem BG {ρ:Nat->Int} {a b c:SB} (h:Cz a b=some c):c.den ρ=(a.den ρ == b.den ρ):=by
 unfold Cz at h;split at h<;>simp only [ag,reduceCtorEq] at h<;>subst h
 ·simp [SB.den]
 ·grind [SB.den,mX]
 ·grind [SB.den,mX]
 ·simp only [SB.den];cases a.den ρ<;>cases b.den ρ<;>rfl
theorem yk {d:TypeDesc} {t:Nat} (h:P.underlying t=some d) (w:World):(underlying t).run P w= .ok d w:=run_underlying h w
theorem rG {i:TI} {t:Nat} (h:ma P t i): ∃d,P.underlying t=some d/\HD P d i.kind:=by
 obtain⟨inf,d,z,U,Z,h3,h4,h5,h6,h7,_⟩:=h.all
 grind
theorem RF {i:TI} {t:Nat} (ht:ma P t i) {x y:W} {u u':Value} (hx:VR E w.heap x u) (hy:VR E w.heap y u') {c:SB} (h:afn i.kind x y=some c) :
 (Op.equal t u u').run P w= .ok (c.den E.ρ) w/\(∀cs ds,¬(u= .agg cs/\u'= .agg ds))/\¬(u= .nilIface/\u'= .nilIface)/\(∀k n,u≠.int k n)/\(∀s,u≠.string s)/\(∀k n,u≠.float k n)/\(∀k n m,u≠.complex k n m):=by
 obtain⟨d,U,Z⟩:=rG ht;have hm: ∀a b,Op.equal t a b=Op.equalIn (9999+1) t a b:=fun _ _=>rfl;rw [hm];clear hm;generalize (9999:Nat)=n;unfold afn at h;split at h
 ·rename_i hk;rw [hk] at Z;cases d<;>simp only [HD] at Z;split at h
  ·simp only [VR] at hx hy;subst hx hy;refine⟨?_,ad,ad,ad,ad,ad,ad⟩;rw [BG h];simp [Op.equalIn,yk U]
  grind
 ·rename_i k hk;cases sK:i.kind<;>rw [sK] at h Z<;>simp only [isNil,reduceCtorEq] at h
  case pointer e=>
   cases d<;>simp only [HD] at Z;cases x<;>simp only [reduceCtorEq] at h<;>cases y<;>simp only [reduceCtorEq,ag] at h<;>subst h<;>simp only [VR] at hx hy
   all_goals
    first |(obtain⟨b,o,us,rfl,_⟩:=hx)|(obtain⟨rfl,_⟩:=hx)|subst hx
    first |(obtain⟨b',o',gr,rfl,_⟩:=hy)|(obtain⟨rfl,_⟩:=hy)|subst hy
    exact⟨by simp [Op.equalIn,yk U,SB.den],ad,ad,ad,ad,ad,ad⟩
  case slice e=>
   cases d<;>simp only [HD] at Z;cases x<;>simp only [reduceCtorEq] at h<;>cases y<;>simp only [reduceCtorEq,ag] at h<;>subst h<;>simp only [VR] at hx hy
   all_goals
    first |(obtain⟨b,o,cap,us,rfl,_⟩:=hx)|(obtain⟨_,b,cap,rfl,_⟩:=hx)|(obtain⟨_,k,b,cap,_,rfl,_⟩:=hx)|subst hx
    first |(obtain⟨b',o',oE,gr,rfl,_⟩:=hy)|(obtain⟨_,b',oE,rfl,_⟩:=hy)|(obtain⟨_,k',b',oE,_,rfl,_⟩:=hy)|subst hy
    exact⟨by simp [Op.equalIn,yk U,SB.den],ad,ad,ad,ad,ad,ad⟩
  case map k' e=>
   cases d<;>simp only [HD] at Z;cases x<;>simp only [reduceCtorEq] at h<;>cases y<;>simp only [reduceCtorEq,ag] at h<;>subst h<;>simp only [VR] at hx hy
   all_goals
    first |(obtain⟨rfl,_⟩:=hx)|subst hx
    first |(obtain⟨rfl,_⟩:=hy)|subst hy
    exact⟨by simp [Op.equalIn,yk U,SB.den],ad,ad,ad,ad,ad,ad⟩
theorem binOp_eql {t:Nat} {u u':Value} {b:Bool} (h:(Op.equal t u u').run P w= .ok b w) (U: ∀k n,u≠.int k n) (Z: ∀s,u≠.string s) (h3: ∀k n,u≠.float k n) (h4: ∀k n m,u≠.complex k n m) :
 (binOp .eql t u u').run P w= .ok (.bool b) w/\(binOp .neq t u u').run P w= .ok (.bool (!b)) w:=by
 cases u<;>first
  |exact absurd rfl (U _ _)
  |exact absurd rfl (Z _)
  |exact absurd rfl (h3 _ _)
  |exact absurd rfl (h4 _ _ _)
  |(constructor<;>(cases u'<;>simp [binOp,h]))
theorem gZ (ρ:Nat->Int) (a b:V):(pQ a b).den ρ=(a.den ρ == b.den ρ):=by
 unfold pQ;split
 ·rename_i h
  grind [cO,SB.den]
 ·split
  ·simp only [SB.den]
   grind
  ·simp only [SB.den]
theorem lM (ρ:Nat->Int) (x:V):(mn x).den ρ=enc (dec (x.den ρ)):=by
 unfold mn;split
 ·simp only [V.den,bB]
 ·split
  ·simp only [V.den,e9.den,bB]
  ·simp only [V.den,e9.den,bB]
  ·simp only [V.den,e9.den]
 ·simp only [V.den,e9.den]
theorem xY {E:En} {h:Array Obj} {x:W} {u:Value} {e:V} (hx:VR E h x u) (hs:tq x=some e): ∃s,u= .string s/\dec (e.den E.ρ)=td s:=by
 unfold tq at hs;split at hs
 ·simp only [ag] at hs;subst hs;simp only [VR] at hx;obtain⟨rfl,Y⟩:=hx;refine⟨_,rfl,?_⟩;simp only [V.den,bB]
  grind [zt,td,de]
 ·simp only [ag] at hs;subst hs;simp only [VR] at hx;generalize dec (V.den E.ρ _)=d at hx ⊢
  cases hx with
  |str s=>exact⟨s,rfl,rfl⟩
 grind
theorem CW {E:En} {h:Array Obj} {x y:W} {u v:Value} {c:SB} (hx:VR E h x u) (hy:VR E h y v) (hs:A4 x y=some c): ∃a b:ByteArray,u= .string a/\v= .string b/\c.den E.ρ=decide (a=b):=by
 unfold A4 at hs;split at hs
 ·grind
 ·rename_i e he;split at hs
  ·grind
  ·rename_i f hf;simp only [ag] at hs;subst hs;obtain⟨a,rfl,ha⟩:=xY hx he;obtain⟨b,rfl,Y⟩:=xY hy hf;refine⟨a,b,rfl,rfl,?_⟩
   grind [gZ,lM,EB,fT]
theorem xb (a b:ByteArray):(a.toList == b.toList)=decide (a=b):=by
 rw [amg,beq_iff_eq,decide_eq_true_eq];constructor
 ·intro h;rw [<- ku a,<- ku b]
  have e: ∀x:ByteArray,x.toList=x.data.toList:=by
   intro x;have:=pO (bytesOf x);rw [ku] at this;rw [this]
   have e2:(UInt8.ofNat ∘ fun b:UInt8=>b.toNat)=id:=by funext b;simp
   simp_all [bytesOf,e2]
  grind [bytesOf]
 grind
theorem FG {E:En} {op:BinOp} {x y v:W} {u u':Value} {t:Nat} (hx:VR E w.heap x u) (hy:VR E w.heap y u') (h:HZ op (A4 x y)=some v) :
 (∃r,(binOp op t u u').run P w= .ok r w/\VR E w.heap v r)/\(∀cs ds,¬(u= .agg cs/\u'= .agg ds))/\¬(u= .nilIface/\u'= .nilIface):=by
 unfold HZ at h;split at h
 ·grind
 ·rename_i c hc;obtain⟨a,b,rfl,rfl,hd⟩:=CW hx hy hc;refine⟨?_,ad,ad⟩;split at h
  ·simp only [ag] at h;subst h;refine⟨.bool (decide (a=b)),?_,by simp only [VR,hd]⟩;rw [<- xb];rfl
  ·simp only [ag] at h;subst h;refine⟨.bool (!decide (a=b)),?_,by simp only [VR,SB.den,hd]⟩;rw [<- xb];rfl
  grind
theorem YD {tt:TT} (cJ:ep P tt) {t:Nat} {op:BinOp} {x y v:W} {u u':Value} (hx:VR E w.heap x u) (hy:VR E w.heap y u') (h:YE tt t op x y=some v) :
 (∃r,(binOp op t u u').run P w= .ok r w/\VR E w.heap v r)/\(∀cs ds,¬(u= .agg cs/\u'= .agg ds))/\¬(u= .nilIface/\u'= .nilIface):=by
 unfold YE at h;split at h
 ·split at h
  ·simp only [VR] at hx hy;subst hx hy;refine⟨?_,ad,ad⟩;split at h
   all_goals simp_all [XS]
  grind
 ·split at h
  ·simp only [VR] at hx hy;obtain⟨rfl,hx⟩:=hx;obtain⟨rfl,hy⟩:=hy;refine⟨?_,ad,ad⟩;obtain⟨r,U,Z⟩:=Kg (P:=P) (E:=E) (w:=w) hx hy h;refine⟨r,?_,Z⟩;cases op<;>first |(simp [Kh] at h; done)|(simpa [binOp] using U)
  ·exact FG hx hy h
  grind
 ·exact FG hx hy h
 ·split at h
  ·grind
  ·rename_i i hi;split at h
   ·rename_i c hc;simp at h;subst h;obtain⟨e1,e2,e3,e4,e5,e6,e7⟩:=RF (w:=w) (cJ t i hi) hx hy hc;exact⟨⟨_,(binOp_eql e1 e4 e5 e6 e7).1,by simp only [VR]⟩,e2,e3⟩
   ·rename_i c hc;simp at h;subst h;obtain⟨e1,e2,e3,e4,e5,e6,e7⟩:=RF (w:=w) (cJ t i hi) hx hy hc;exact⟨⟨_,(binOp_eql e1 e4 e5 e6 e7).2,by simp only [VR,mX]⟩,e2,e3⟩
   grind
theorem aap {op:UnOp} {x v:W} {u:Value} (hx:VR E w.heap x u) (h:afl op x=some v): ∃r,(Op.unary op u).run P w= .ok r w/\VR E w.heap v r:=by
 unfold afl at h;split at h
 ·simp at h; subst h;simp only [VR] at hx; subst hx;exact⟨_,rfl,by simp only [VR,mX]⟩
 ·simp at h; subst h;simp only [VR] at hx; subst hx;exact⟨_,rfl,by simp only [VR,FR,V.den]⟩
 grind
end
section
variable {P:Program} {E:En} {w:World}
theorem iy [bI] {H:Hp} {w':World} (r:bP E H w) {cs:List W} {us:List Value} (arr:Array Value) (lo hi:Nat) (e:TypeId) (hv:cB E w.heap cs us) (U: ∀u∈us,u.oneCell'=true)
 (ha: ∀(i:Nat) (u:Value),us[i]?=some u->arr[i]?=some u) (hf: ∀o:Nat,lo<=o->o<hi->arr.size<=o) (hw:w'.heap=w.heap.push (.cells arr e (lo,hi))) (al:Alike w w') :
 eM E H w (E.ext H.fresh (w.heap.size,0) arr.size) (H.new (.cells cs e)) w'/\bP (E.ext H.fresh (w.heap.size,0) arr.size) (H.new (.cells cs e)) w':=by
 refine oX r _ _ _ hw al ?_;have k:=DB r (w.heap.size,0) arr.size (.cells arr e (lo,hi));rw [<- hw] at k;have hlen:=hv.length;simp only [OR,En.ext_θ_new,En.ext_κ_new];refine⟨arr,lo,hi,us,by rw [hw]; simp,cB.bX k _ _ hv,fun i u hu=>by rw [ay]; exact ha i u hu,?_,J,hf,U⟩;rw [<- hlen];rcases aQ arr.size us.length with hh|hh
 ·have:=ha arr.size us[arr.size] (by simp [hh])
  grind
 grind
theorem yp [bI] {H:Hp} (_:bP E H w) (c:Nat) (h:Array Obj) (off:Nat):VR (E.ext H.fresh (w.heap.size,0) c) h (.ptr H.fresh off) (.pointer (some ⟨w.heap.size,off,none⟩)):=by
 simp only [VR,En.ext_θ_new]
 grind [En.gp]
theorem Ot [bI] {tt:TT} (cJ:ep P tt) {H H':Hp} (r:bP E H w) {t:Nat} {p v:W} {u x:Value} (hp:VR E w.heap p u) (hx:VR E w.heap v x) (h:I3 tt t p v H=some H') :
 ∃w',(Instr.storeAt t u x).run P w= .ok () w'/\eM E H w E H' w'/\bP E H' w':=by
 unfold I3 at h;split at h
 ·grind
 ·rename_i i hi;split at h
  ·rename_i hc;simp only [an,decide_eq_true_eq] at hc;split at h
   ·split at h
    ·rename_i id off cs e hl;split at h
     ·rename_i lJ hs;simp at h;subst h;simp only [VR] at hp;obtain⟨rfl,_⟩:=hp;have Mw:=hx.cells hc.2;have hlen:x.cells.size=i.size:=by have:=Mw.length; simp only [bh] at this; omega
      obtain⟨w',U,Z,h3⟩:=lL (P:=P) r hl hs Mw (Mw.rB hc.2);refine⟨w',?_,Z,h3⟩;simp [Instr.storeAt,Instr.sureAddr,storeVar,ek (cJ t i hi),hlen,U]
     grind
    grind
   grind
  grind
theorem GZ: ∀(vs:List Value) (off k:Nat) (arr:Array Value),off+k+vs.length<=arr.size->
 ((vs.zipIdx k).foldl (fun cs p=>cs.setIfInBounds (off+p.2) p.1) arr).size=arr.size/\
 ∀i,((vs.zipIdx k).foldl (fun cs p=>cs.setIfInBounds (off+p.2) p.1) arr)[i]?=if off+k<=i/\i<off+k+vs.length then vs[i-(off+k)]? else arr[i]?
 |[],off,k,arr,_=> ⟨rfl,fun i=>by rw [af ad]; rfl⟩
 |v::vs,off,k,arr,h=>by
  simp only [List.zipIdx_cons,anc];obtain⟨U,Z⟩:=GZ vs off (k+1) (arr.setIfInBounds (off+k) v) (by simp at h ⊢; omega)
  grind
def tn (E:En) (h:Array Obj):List (Nat×W)->List (Nat×Value)->Prop
 |[],ps=>ps= []
 |(i,v)::xs,ps=> ∃x r,ps=(i,x)::r/\VR E h v x/\tn E h xs r
theorem pw {place:Nat->Option (Nat×Nat)} {h:Array Obj}: ∀{parts:List (Nat×W)} {cs lJ:List W} {us:Array Value} {ps:List (Nat×Value)},
 sX place cs parts=some lJ->cB E h cs us.toList->tn E h parts ps->(∀u∈us.toList,u.oneCell'=true)->
 ∃gr:Array Value,Instr.fill place us ps=some gr/\cB E h lJ gr.toList/\∀u∈gr.toList,u.oneCell'=true
 |[],cs,lJ,us,ps,U,Z,h3,h4=>by simp only [tn] at h3;subst h3;simp [sX] at U;subst U;exact⟨us,rfl,Z,h4⟩
 |(i,v)::parts,cs,lJ,us,ps,U,Z,h3,h4=>by
  simp only [tn] at h3;obtain⟨x,ps',rfl,hx,Y⟩:=h3;simp only [sX] at U;split at U
  ·simp at U
  ·rename_i off size hp;split at U
   ·rename_i hc;simp only [an,decide_eq_true_eq] at hc;split at U
    ·rename_i cs2 hs;have Mw:=hx.cells hc.2;have hlen:=Mw.length;simp only [bh] at hlen;obtain⟨e1,e2,gr,e3,e4⟩:=vx hs Z Mw;have hul:=Z.length;simp only [bh] at hul;have aiJ:=GZ x.cells.toList off 0 us (by simp; omega)
     have heq:(x.cells.zipIdx.foldl (fun cs (c,j)=>cs.setIfInBounds (off+j) c) us).toList=gr:=by apply am0;intro k;rw [e4 k];have h5:=aiJ.2 k;simp only [bd,bh] at h5;rw [br,<- Array.foldl_toList,Array.toList_zipIdx];rw [h5];simp only [bh,br]
     have h6: ∀u∈(x.cells.zipIdx.foldl (fun cs (c,j)=>cs.setIfInBounds (off+j) c) us).toList,u.oneCell'=true:=by
      rw [heq];intro u hu;rw [amX] at hu;obtain⟨k,hk⟩:=hu;rw [e4 k] at hk;split at hk
      ·exact Mw.rB hc.2 u (bu hk)
      ·exact h4 u (bu hk)
     obtain⟨us2,g1,g2,g3⟩:=pw (us:=x.cells.zipIdx.foldl (fun cs (c,j)=>cs.setIfInBounds (off+j) c) us) U (by rw [heq]; exact e3) Y h6;refine⟨us2,?_,g2,g3⟩;simp only [Instr.fill,hp];rw [af]
     ·exact g1
     ·simp only [amI,decide_eq_true_eq,not_or];constructor
      ·omega
      ·omega
    ·simp at U
   ·simp at U
theorem xH {s:St} {a:Act} (sr:SR E w.heap s.bD a): ∀{xs:List (Nat×Operand)} {ps:List (Nat×W)},vW s xs=some ps->tn E w.heap ps (xs.map fun p=>(p.1,a.eval p.2))
 |[],ps,h=>by simp [vW] at h; subst h; simp [tn]
 |(i,x)::xs,ps,h=>by
  simp only [vW] at h;split at h
  ·grind
  ·rename_i b Y;split at h
   ·grind
   ·rename_i bs hbs;simp at h;subst h;simp only [ax,tn];exact⟨_,_,rfl,fU sr Y,xH sr hbs⟩
theorem di {α:Type}: ∀(l:List α) (i:Nat),eS l i=l[i]?
 |[],i=>by cases i<;>rfl
 |x::xs,0=>rfl
 |x::xs,i+1=>by simp [eS,di xs i]
theorem Dt {α β:Type} {f:α->Option β}: ∀{l:List α} {r:List β},l.mapM f=some r->∀i:Nat,r[i]?=(l[i]?).bind f
 |[],r,h,i=>by simp at h; subst h; simp
 |x::xs,r,h,i=>by
  simp only [amJ,am1,amO] at h;obtain⟨y,U,ys,Z,h3⟩:=h;simp only [pure,ag] at h3;subst h3
  cases i with
  |zero=>simp [U]
  |succ i=>simpa using Dt Z i
theorem QH {α β:Type} {f:α->Option β}: ∀{l:List α} {r:List β},r.length=l.length->(∀i:Nat,r[i]?=(l[i]?).bind f)->l.mapM f=some r
 |[],r,h,_=>by simp at h; subst h; simp
 |x::xs,[],h,_=>by simp at h
 |x::xs,y::ys,h,Z=>by have h0:=Z 0;simp at h0;have ih:=QH (l:=xs) (r:=ys) (by simpa using h) (fun i=>by simpa using Z (i+1));simp [amJ,h0.symm,ih]
theorem Bo {α β:Type} {f:α->Option β}: ∀{l:List α} {r:List β},l.mapM f=some r->r.length=l.length
 |[],r,h=>by simp at h; subst h; simp
 |x::xs,r,h=>by simp only [amJ,am1,amO] at h;obtain⟨y,U,ys,Z,h3⟩:=h;simp only [pure,ag] at h3;subst h3;simp [Bo Z]
theorem OK {tt:TT} (cJ:ep P tt) {t:Nat} {parts:List (Nat×W)} {ps:Array (Nat×Value)} {v:W} (hp:tn E w.heap parts ps.toList) (h:Jh tt t parts=some v) :
 ∃x,(Instr.build t ps).run P w= .ok x w/\VR E w.heap v x:=by
 unfold Jh at h;split at h
 ·rename_i i hi;have fL:=cJ t i hi;obtain⟨inf,z,g1,g2,g3,g4,g5⟩:=vN fL;have hz:=eO (E:=E) (h:=w.heap) g5;split at h
  ·rename_i fs hk;rw [aO] at h;obtain⟨lJ,U,rfl⟩:=h;obtain⟨gr,e1,e2,e3⟩:=pw U hz.1 hp hz.2;obtain⟨lP,hu,hm⟩:=sa fL hk
   have Y:P.built t ps.toList=some gr:=by
    unfold Program.built
    have Y!:(lP.toList.mapM fun f=>(P.info? f.type).map fun i=>(f.offset,i.size))=some (fs.map fun x=>(x.1,x.2.2)):=by
     refine QH (by simp [Bo hm]) fun i=>?_;have:=Dt hm i;rw [bn,this]
     cases lP.toList[i]? with
     |none=>rfl
     |some f=>simp only [Option.bind_some,Option.map_map]; rfl
    simp only [g1,hu,g4,Y!];simp_all [e1,di]
   exact⟨_,run_build w t ps gr Y,by simp only [VR]; exact⟨gr.toList,ad,e2⟩⟩
  ·rename_i n e hk;split at h
   ·rename_i s hs;rw [aO] at h;obtain⟨lJ,U,rfl⟩:=h;obtain⟨gr,e1,e2,e3⟩:=pw U hz.1 hp hz.2;simp only [hY,aO] at hs;obtain⟨ie,kA,rfl⟩:=hs;obtain⟨alR,z',f1,f2,f3,f4,f5⟩:=vN (cJ e ie kA)
    have Y:P.built t ps.toList=some gr:=by unfold Program.built;simp only [g1,ra fL hk,g4,f1];simp_all
    exact⟨_,run_build w t ps gr Y,by simp only [VR]; exact⟨gr.toList,ad,e2⟩⟩
   grind
  grind
 grind
theorem Bc {α:Type} (l:List α) (hl:l≠[]): ∀(n i:Nat),i<n*l.length->(dK l n)[i]?=l[i % l.length]?
 |0,i,h=>by simp at h
 |n+1,i,h=>by
  have lA:0<l.length:=amq.2 hl;simp only [dK];rw [anw];split
  ·rename_i Z; rw [amo Z]
  ·rename_i Z;rw [Bc l hl n (i-l.length) (by rw [amd] at h; omega)];congr 1;rw [<- Nat.mod_eq_sub_mod J]
theorem iK {α:Type} (l:List α): ∀n,(dK l n).length=n*l.length
 |0=>by simp [dK]
 |n+1=>by simp [dK,iK l n,amd]; omega
theorem lW {h:Array Obj} {cs:List W} {us:List Value} (hv:cB E h cs us): ∀n,cB E h (dK cs n) (dK us n)
 |0=>by simp [dK,cB]
 |n+1=>hv.append (lW hv n)
theorem lV {α:Type} {l:List α} {x:α}: ∀{n},x∈dK l n->x∈l
 |0,h=>by simp [dK] at h
 |n+1,h=>by
  simp only [dK,amb] at h;rcases h with h|h
  ·exact h
  ·exact lV h
theorem tT (z:Array Value) (hz:z.toList≠[]) (n:Nat):((Array.range (n*z.size)).map (z[·% z.size]!)).toList=dK z.toList n:=by
 apply am0;intro i
 grind [Bc,iK]
theorem BY [bI] {tt:TT} (cJ:ep P tt) {H H':Hp} (r:bP E H w) {t len:Nat} {parts:List (Nat×W)} {ps:Array (Nat×Value)} {v:W} (hp:tn E w.heap parts ps.toList) (h:s6 tt t len parts H=some (v,H')) :
 ∃x w' E',(Instr.buildSlice t len ps).run P w= .ok x w'/\eM E H w E' H' w'/\bP E' H' w'/\VR E' w'.heap v x:=by
 unfold s6 at h;split at h
 ·rename_i i hi;have fL:=cJ t i hi;split at h
  ·rename_i e hk;split at h
   ·rename_i ie kA;have XX:=cJ e ie kA;obtain⟨inf,z,g1,g2,g3,g4,g5⟩:=vN XX;have hz:=eO (E:=E) (h:=w.heap) g5;split at h
    ·rename_i Y;split at h
     ·rename_i cs U;simp only [ag,ak] at h;obtain⟨rfl,rfl⟩:=h
      have gX:len*ie.size<=2 ^ 24:=by have:len*ie.size<=1000*1000:=anx Y.1 Y.2.1;omega
      have vP:z.cells.size=ie.size:=by have:=hz.1.length; simp only [bh] at this; omega
      have key: ∃gr:Array Value,Instr.fill (fun i=>some (i*inf.size,inf.size)) ((Array.range (len*inf.size)).map ((if len*inf.size=0 then #[] else z.cells)[·% (if len*inf.size=0 then #[] else z.cells).size]!)) ps.toList=some gr/\cB E w.heap cs gr.toList/\∀u∈gr.toList,u.oneCell'=true:=by
       rw [g2];by_cases h0:len*ie.size=0
       ·rw [ah h0,h0]
        have aeS:dK ie.zero len= []:=by
         grind [iK]
        refine pw U ?_ hp ?_
        all_goals grind [cB]
       ·rw [af h0]
        have fZ:z.cells.toList≠[]:=by
         intro hx;have UF:z.cells.size=0:=by have:=congrArg List.length hx; simpa using this
         grind
        have hzz:=tT z.cells fZ len;rw [vP] at hzz;refine pw U ?_ hp ?_
        all_goals grind [lW,lV]
      obtain⟨gr,e1,e2,e3⟩:=key;refine⟨.slice (some ⟨w.heap.size,0,none⟩) len len,{ w with heap:=w.heap.push (.cells gr e) },E.ext H.fresh (w.heap.size,0) gr.size,?_,?_⟩
      ·by_cases h0:len*inf.size=0
       ·rw [ah h0] at e1;rw [h0] at e1;have e0: ∀f:Nat->Value,(Array.range 0).map f= #[]:=by intro f; simp
        rw [e0] at e1;simp [Instr.buildSlice,run_underlying (eW fL hk),sizeOf,typeInfo,g1,h0,e0,e1,newRow]
       ·rw [af h0] at e1;have h24: ¬(2 ^ 24<len*inf.size):=by rw [g2]; omega
        simp only [Instr.buildSlice,Sem.run_bind,run_underlying (eW fL hk),Result.andThen_ok,sizeOf,typeInfo,zeroValue,run_program,g1,g4,Sem.run_pure,newRow,gt_iff_lt,h24,h0,if_false,Sem.run_ite];rw [e1];rfl
      ·obtain⟨s1,s2⟩:=iy r gr 0 0 e e2 e3 (fun i u hu=>by rw [<- br]; exact hu) J (w':={ w with heap:=w.heap.push (.cells gr e) }) rfl ⟨rfl,rfl,rfl⟩;refine⟨s1,s2,?_⟩;simp only [VR]
       grind [En.gp,eE,En.ext_θ_new]
     grind
    grind
   grind
  grind
 grind
theorem Gw {E:En} {h:Array Obj} {v:W} {u:Value} {n:Int} (hv:VR E h v u) (hl:jX v=some n): ∃k,u= .int k n:=by
 unfold jX at hl;split at hl
 ·simp only [ag] at hl;subst hl;simp only [VR,V.den] at hv
  grind
 grind
theorem u6 [bI] {tt:TT} (cJ:ep P tt) {H H':Hp} (r:bP E H w) {t:Nat} {l c:W} {lu cu:Value} {v:W} (hl:VR E w.heap l lu) (hc:VR E w.heap c cu) (h:qn tt t l c H=some (v,H')) :
 ∃x w' E',(Instr.makeSlice t lu cu).run P w= .ok x w'/\eM E H w E' H' w'/\bP E' H' w'/\VR E' w'.heap v x:=by
 unfold qn at h;split at h
 ·rename_i n t?;split at h
  ·rename_i m hcm;obtain⟨k1,rfl⟩:=Gw hl t?;obtain⟨k2,rfl⟩:=Gw hc hcm;split at h
   ·rename_i i hi;have fL:=cJ t i hi;split at h
    ·rename_i e hk;split at h
     ·rename_i ie kA;have XX:=cJ e ie kA;obtain⟨inf,z,g1,g2,g3,g4,g5⟩:=vN XX;have hz:=eO (E:=E) (h:=w.heap) g5;split at h
      ·rename_i Y;obtain⟨b1,b2,b3,b4,b5⟩:=Y;simp only [ag,ak] at h;obtain⟨rfl,rfl⟩:=h;have vP:z.cells.size=ie.size:=by have:=hz.1.length; simp only [bh] at this; omega
       have wn:IntKind.i64.wrap (Int.ofNat n)=Int.ofNat n:=by rw [<- j9]; simp only [rM]; rw [ah (by constructor<;>simp<;>omega)]
       have wm:IntKind.i64.wrap (Int.ofNat m)=Int.ofNat m:=by rw [<- j9]; simp only [rM]; rw [ah (by constructor<;>simp<;>omega)]
       have DQ:inf.bytes*m<=1000000000:=by rw [g3]; exact anx b4 b2
       have ai: ∀(k:IntKind) (x:Int) (w:World),(asInt (Value.int k x)).run P w= .ok x w:=fun _ _ _=>rfl
       have key: ∃gr:Array Value,((Array.range (m*inf.size)).map ((if m*inf.size=0 then #[] else z.cells)[·% (if m*inf.size=0 then #[] else z.cells).size]!))=gr/\cB E w.heap (dK ie.zero m) gr.toList/\∀u∈gr.toList,u.oneCell'=true:=by
        rw [g2];by_cases h0:m*ie.size=0
        ·grind [dK,iK,cB]
        ·rw [af h0]
         have fZ:z.cells.toList≠[]:=by
          intro hx;have UF:z.cells.size=0:=by have:=congrArg List.length hx; simpa using this
          grind
         grind [tT,lW,lV]
       obtain⟨gr,e1,e2,e3⟩:=key;refine⟨.slice (some ⟨w.heap.size,0,none⟩) n m,{ w with heap:=w.heap.push (.cells gr e) },E.ext H.fresh (w.heap.size,0) gr.size,?_,?_⟩
       ·have t1: ¬(Int.ofNat m<0):=ad
        have t2: ¬((inf.bytes:Int)*Int.ofNat m > 2 ^ 48):=by
         grind
        have t3: ¬(Int.ofNat n<0):=ad
        have t4: ¬(Int.ofNat n > Int.ofNat m):=by simp; omega
        have t5:(askRoom (m*inf.bytes)).run P w= .ok () w:=by simp_all
        have t6:(Int.ofNat m).toNat=m:=rfl;have t7:(Int.ofNat n).toNat=n:=rfl;by_cases h0:m*inf.size=0
        ·rw [ah h0] at e1;rw [h0] at e1;simp only [Instr.makeSlice,Sem.run_bind,run_underlying (eW fL hk),Result.andThen_ok,ai,sizeOf,typeInfo,zeroValue,run_program,g1,g4,Sem.run_pure,newRow,Sem.run_ite,wn,wm,t1,t2,t3,t4,t6,t7,h0,decide_false,ane,aL,if_false,if_true];simp_all
        ·rw [af h0] at e1;simp only [Instr.makeSlice,Sem.run_bind,run_underlying (eW fL hk),Result.andThen_ok,ai,sizeOf,typeInfo,zeroValue,run_program,g1,g4,Sem.run_pure,newRow,Sem.run_ite,wn,wm,t1,t2,t3,t4,t6,t7,h0,decide_false,ane,aL,if_false];simp_all
       ·obtain⟨s1,s2⟩:=iy r gr 0 0 e e2 e3 (fun i u hu=>by rw [<- br]; exact hu) J (w':={ w with heap:=w.heap.push (.cells gr e) }) rfl ⟨rfl,rfl,rfl⟩;refine⟨s1,s2,?_⟩;simp only [VR];exact⟨En.gp _ _ _ _,⟨w.heap.size,0,none⟩,m,rfl,b1,by simp [eE,En.ext_θ_new]⟩
      grind
     grind
    grind
   grind
  grind
 grind
end
section
variable {P:Program} {E:En} {w:World}
theorem Kx {i:TI} {t:Nat} (fL:ma P t i) {fs:List (Nat×Nat×Nat)} (hk:i.kind= .struct fs) {f off ft sz:Nat} (h:eS fs f=some (off,ft,sz)) :
 ∃(lP:Array Field) (fd:Field) (inf:TypeInfo),P.underlying t=some (.struct lP)/\lP[f]?=some fd/\fd.offset=off/\fd.type=ft/\P.info? ft=some inf/\inf.size=sz:=by
 obtain⟨lP,hu,hm⟩:=sa fL hk;have U:=Dt hm f;rw [<- di,h,br] at U
 cases hf:lP[f]? with
 |none=>rw [hf] at U; simp at U
 |some fd=>
  rw [hf] at U;simp only [Option.bind_some] at U
  cases hi:P.info? fd.type with
  |none=>rw [hi] at U; simp at U
  |some inf=>
   grind
theorem F4 {x v:W} {u:Value} {off:Nat} (hx:VR E w.heap x u) (h:QG off x=some v) :
 ∃b o,u= .pointer (some ⟨b,o,none⟩)/\VR E w.heap v (.pointer (some ⟨b,o+off,none⟩)):=by
 unfold QG at h;cases x<;>simp only [ag,reduceCtorEq,aO] at h
 case ptr id o=>
  subst h;simp only [VR] at hx ⊢;obtain⟨rfl,hid⟩:=hx;exact⟨_,_,rfl,by rw [al8],hid⟩
 case zq id es i o=>
  subst h;simp only [VR] at hx ⊢;obtain⟨hid,k,U,rfl⟩:=hx;exact⟨_,_,rfl,hid,k,U,by rw [al8,al8]⟩
 case mY cs=>
  obtain⟨l,U,rfl⟩:=h;simp only [VR] at hx ⊢;obtain⟨b,o,us,rfl,Z,h3,h4,h5⟩:=hx;exact⟨b,o,rfl,b,o+off,us.drop off,rfl,Z,(h3.eD U).1,h4.drop off,fun u hu=>h5 u (bq hu)⟩
theorem Ef {tt:TT} (cJ:ep P tt) {t f:Nat} {x v:W} {u:Value} (hx:VR E w.heap x u) (h:u9 tt t x f=some v) :
 ∃r,(Instr.fieldAt t u f).run P w= .ok r w/\VR E w.heap v r:=by
 unfold u9 at h;split at h
 ·rename_i i hi;split at h
  ·rename_i fs hk;split at h
   ·rename_i off ft sz hn;obtain⟨lP,fd,inf,hu,hf,U,Z,h3,h4⟩:=Kx (cJ t i hi) hk hn;split at h
    ·grind
    ·rename_i gX;obtain⟨b,o,rfl,hv⟩:=F4 hx h;refine⟨_,?_,hv⟩;have fZ: ¬inf.size=0:=by rw [h4]; exact gX
     simp [Instr.fieldAt,run_underlying hu,hf,Instr.sureAddr,fieldPlace,sizeOf,typeInfo,Z,h3,fZ,eT,U]
   grind
  grind
 grind
theorem P6 {i:TI} {t:Nat} (fL:ma P t i) {cs l:List W} {us:List Value} {off:Nat} {v:W} (hv:cB E w.heap cs us) (hd:eD off cs=some l)
 (h:partOf i l=some v) :
 ∃r,(part t us.toArray off).run P w= .ok r w/\VR E w.heap v r:=by
 obtain⟨U,Z,h3⟩:=hv.eD hd;have hlen:=hv.length;unfold partOf at h;split at h
 ·rename_i Oc;rw [aO] at h;obtain⟨l',h4,rfl⟩:=h;obtain⟨h5,h6⟩:=U.hU h4;refine⟨.agg (us.toArray.extract off (off+i.size)),?_,?_⟩
  ·simp [part,kz fL,Oc,ek fL]
  ·simp only [VR]
   grind
 ·rename_i Oc;split at h
  ·rename_i x l';simp at h;subst h;rw [bV] at U;obtain⟨u,vs,he,h5,_⟩:=U;refine⟨u,?_,h5⟩
   have hg:us[off]?=some u:=by
    have:=congrArg (·[0]?) he
    grind
   simp [part,kz fL,Oc,hg]
  grind
theorem OC {tt:TT} (cJ:ep P tt) {t f:Nat} {x v:W} {u:Value} (hx:VR E w.heap x u) (h:I9 tt t x f=some v) :
 ∃r,(Instr.field t u f).run P w= .ok r w/\VR E w.heap v r:=by
 unfold I9 at h;split at h
 ·rename_i i hi;split at h
  ·rename_i fs hk;split at h
   ·rename_i off ft sz hn;obtain⟨lP,fd,inf,hu,hf,U,Z,h3,h4⟩:=Kx (cJ t i hi) hk hn;split at h
    ·rename_i fi cs hfi;split at h
     ·rename_i l hl;simp only [VR] at hx;obtain⟨us,rfl,hv⟩:=hx;obtain⟨r,e1,e2⟩:=P6 (w:=w) (cJ ft fi hfi) hv hl h;refine⟨r,?_,e2⟩;simp [Instr.field,run_underlying hu,hf,asAgg,U,Z,e1]
     grind
    grind
   grind
  grind
 grind
theorem Ao {x:W} {u:Value} {n:Int} (hx:VR E w.heap x u) (h:jX x=some n): ∃k,u= .int k n:=by
 cases x<;>simp [jX] at h;rename_i k e;cases e<;>simp at h;subst h;simp only [VR,V.den] at hx
 grind
theorem px {tt:TT} (cJ:ep P tt) {t:Nat} {x ix v:W} {u ui:Value} (hx:VR E w.heap x u) (yQ:VR E w.heap ix ui) (h:nO tt t x ix=some v) :
 ∃r,(Instr.indexAt t u ui).run P w= .ok r w/\VR E w.heap v r:=by
 unfold nO at h;split at h
 ·rename_i i hi;obtain⟨k,rfl⟩:=Ao yQ hi;split at h
  ·rename_i ti fL;have uF:=cJ t ti fL;split at h
   ·rename_i n e hk;split at h
    ·rename_i fe;split at h
     ·rename_i s hs;simp only [hY,aO] at hs;obtain⟨ie,kA,rfl⟩:=hs;obtain⟨b,o,rfl,hv⟩:=F4 hx h;refine⟨_,?_,hv⟩;have hu:=ra uF hk;simp [Instr.indexAt,asIntOf,run_underlying hu,Instr.sureAddr,ek (cJ e ie kA),fe,eT]
     grind
    grind
   ·rename_i e hk;have hu:=eW uF hk;split at h
    ·rename_i s hs;simp only [hY,aO] at hs;obtain⟨ie,kA,rfl⟩:=hs;split at h
     ·rename_i id o len c;split at h
      ·rename_i fe;simp at h;subst h;simp only [VR] at hx;obtain⟨hid,a,cap,rfl,gJ,hc⟩:=hx
       have ha:a=⟨(E.θ id).1,(E.θ id).2+o,none⟩:=by
        cases c with
        |exact c=>
         simp only [eE] at hc
         grind
        |rest es=>
         simp only [eE] at hc
         grind
       subst ha;refine⟨.pointer (some ⟨(E.θ id).1,(E.θ id).2+o+i*ie.size,none⟩),?_,by simp only [VR]; exact⟨by rw [al8],hid⟩⟩;simp [Instr.indexAt,asIntOf,run_underlying hu,ek (cJ e ie kA),fe,eT]
      grind
     ·rename_i cs n full;split at h
      ·rename_i fe;rw [aO] at h;obtain⟨l,U,rfl⟩:=h;simp only [VR] at hx;obtain⟨b,o,cap,us,rfl,Z,h3,h4,h5,h6,h7⟩:=hx;refine⟨.pointer (some ⟨b,o+i*ie.size,none⟩),?_,?_⟩
       ·simp [Instr.indexAt,asIntOf,run_underlying hu,ek (cJ e ie kA),fe,eT]
       ·simp only [VR];exact⟨b,_,us.drop (i*ie.size),rfl,h4,(h5.eD U).1,h6.drop _,fun u hu=>h7 u (bq hu)⟩
      grind
     grind
    grind
   grind
  grind
 grind
theorem CX (s:List Nat) (i:Nat):(de s)[i]?=(s[i]?).map UInt8.ofNat:=by have U:(de s)[i]?=(de s).data[i]?:=rfl;rw [U];simp [de]
theorem xI {tt:TT} (cJ:ep P tt) {t:Nat} {x ix v:W} {u ui:Value} (hx:VR E w.heap x u) (yQ:VR E w.heap ix ui) (h:zl tt t x ix=some v) :
 ∃r,(Instr.index t u ui).run P w= .ok r w/\VR E w.heap v r:=by
 unfold zl at h;split at h
 ·rename_i i hi;obtain⟨k,rfl⟩:=Ao yQ hi;split at h
  ·rename_i ti fL;have uF:=cJ t ti fL;split at h
   ·rename_i s hk;rw [aO] at h;obtain⟨b,Y,rfl⟩:=h;simp only [VR] at hx;obtain⟨rfl,fe⟩:=hx;rw [di] at Y;have hg:(de s)[i]?=some (UInt8.ofNat b):=by rw [CX,Y]; rfl
    have ald:=fe b (bu Y);refine⟨_,by simp [Instr.index,asIntOf,run_underlying (fB uF hk),hg]; rfl,?_⟩;simp only [VR,V.den]
    grind
   ·rename_i n e cs hk;split at h
    ·rename_i fe;split at h
     ·rename_i ie kA;split at h
      ·rename_i l hl;simp only [VR] at hx;obtain⟨us,rfl,hv⟩:=hx;obtain⟨r,e1,e2⟩:=P6 (w:=w) (cJ e ie kA) hv hl h;refine⟨r,?_,e2⟩;simp [Instr.index,asIntOf,run_underlying (ra uF hk),fe,ek (cJ e ie kA),e1]
      grind
     grind
    grind
   grind
  grind
 grind
end
section
variable {P:Program} {E:En} {w:World}
def fW (E:En) (h:Array Obj):Option W->Option Value->Prop
 |none,o=>o=none
 |some x,o=> ∃u,o=some u/\VR E h x u
theorem eo {s:St} {a:Act} (sr:SR E w.heap s.bD a) {x:Option Operand} {v:Option W} (h:Hd s x=some v):fW E w.heap v (x.map a.eval):=by
 cases x with
 |none=>simp [Hd] at h; subst h; simp [fW]
 |some x=> simp only [Hd,aO] at h;obtain⟨b,U,rfl⟩:=h;exact⟨_,rfl,fU sr U⟩
theorem zy {x:W} {u:Value} {d y k:Nat} (hx:VR E w.heap x u) (h:nA (some x) d y=some k) {y':Nat} (hy:y<=y') (code:BoundsCode) :
 (Instr.sliceBound u y' code).run P w= .ok k w/\k<=y:=by
 unfold nA at h;simp only at h;split at h
 ·rename_i i hi;obtain⟨kk,rfl⟩:=Ao hx hi;split at h
  ·rename_i hle;simp at h;subst h;refine⟨?_,hle⟩;have:((i:Int)<=(y':Int)):=J
   simp [Instr.sliceBound,asIntOf];omega
  grind
 grind
theorem zA {d y k:Nat} (h:nA none d y=some k):k=d/\d<=y:=by
 grind [nA]
theorem fJ {isSlice:Bool} {len cap m0 h0:Nat} {lo hi mx:Option W} {xQ hi' mx':Option Value} (nV:fW E w.heap lo xQ) (xT:fW E w.heap hi hi') (xB:fW E w.heap mx mx')
 (hmh:mx.isSome=true->hi.isSome=true) {m h l d:Nat}
 (hm:(mx=none/\m=cap/\m0<=cap)\/(∃x,mx=some x/\nA mx d m0=some m/\m0<=cap))
 (hh:nA hi len h0=some h) (hh0:(mx=none->h0<=cap)/\(mx≠none->h0=m)) (hl:nA lo 0 h=some l) :
 (Instr.sliceBounds isSlice len cap xQ hi' mx').run P w= .ok (l,h,m) w/\l<=h:=by
 have key: ∀(c:BoundsCode) (v:W) (u:Value),lo=some v->VR E w.heap v u->(Instr.sliceBound u h c).run P w= .ok l w/\l<=h:=by intro c v u hv hu;subst hv;exact zy hu hl (au _) c
 have alP:lo=none->l=0:=fun hv=>by subst hv; exact (zA hl).1
 unfold Instr.sliceBounds;rcases hm with ⟨rfl,rfl,hm0⟩|⟨x,rfl,hm1,hm0⟩
 ·simp only [fW] at xB;subst xB;have Y:=hh0.1 rfl
  cases hi with
  |none=>
   simp only [fW] at xT;subst xT;obtain⟨rfl,_⟩:=zA hh
   cases lo with
   |none=> simp only [fW] at nV;simp_all
   |some v=> obtain⟨u,rfl,hu⟩:=nV;obtain⟨k1,k2⟩:=key .sliceB v u rfl hu;simp_all
  |some y=>
   obtain⟨uy,rfl,huy⟩:=xT;have U:=fun c=>(zy (P:=P) huy hh Y c).1
   cases lo with
   |none=> simp only [fW] at nV;simp_all
   |some v=> obtain⟨u,rfl,hu⟩:=nV;obtain⟨k1,k2⟩:=key .sliceB v u rfl hu;simp_all
 ·obtain⟨ux,rfl,hux⟩:=xB;have Z:=fun c=>(zy (P:=P) hux hm1 hm0 c).1;have Y:=hh0.2 ad;subst Y
  cases hi with
  |none=>simp at hmh
  |some y=>
   obtain⟨uy,rfl,huy⟩:=xT;have U:=fun c=>(zy (P:=P) huy hh (au _) c).1
   cases lo with
   |none=> simp only [fW] at nV;simp_all
   |some v=> obtain⟨u,rfl,hu⟩:=nV;obtain⟨k1,k2⟩:=key .slice3C v u rfl hu;simp_all
theorem sg (s:List Nat) (l h:Nat):(de s).extract l h=de ((s.take h).drop l):=by apply ByteArray.ext;apply Array.ext';rw [Lib.extract_data];simp [de,anz,anA,List.drop_take]
theorem pB {id o len cap l h m es:Nat} {a:Addr} {c c':Mq} (hc:eE E id o len a cap c) (hlen:len<=cap) (hlh:l<=h) (hhm:h<=m) (hmc:m<=cap)
 (UI:(∃k,c= .exact k/\c'= .exact (m-l))\/(c= .rest es/\c'= .exact (m-l))\/(c= .rest es/\c'= .rest es/\m=cap)) (s:Nat) (jD:c'= .rest es->es=s) :
 eE E id (o+l*s) (h-l) (if m=l then a else a.add (l*s)) (m-l) c':=by
 rcases UI with ⟨k,rfl,rfl⟩|⟨rfl,rfl⟩|⟨rfl,rfl,rfl⟩
 ·simp only [eE] at *;refine⟨trivial,?_⟩;by_cases UG:m=l
  ·grind
  ·left
   grind [eT]
 ·simp only [eE] at *;refine⟨trivial,?_⟩;by_cases UG:m=l
  ·grind
  ·left
   grind [eT]
 ·simp only [eE] at *;obtain rfl:=jD trivial;by_cases UG:m=l
  ·grind
  ·left;rw [af UG];rcases hc with ha|ha
   ·refine⟨by rw [ha.1,eT,al8],?_⟩;rw [<- ha.2,al8,<- amd]
    grind
   ·omega
theorem ld {x:Option W} {d y k:Nat} (h:nA x d y=some k):k<=y:=by
 unfold nA at h;split at h
 ·grind
 ·split at h
  all_goals grind
theorem Lz [bI] {tt:TT} (cJ:ep P tt) {H:Hp} (r:bP E H w) {t:Nat} {x v:W} {u:Value} {lo hi mx:Option W} {xQ hi' mx':Option Value} (hx:VR E w.heap x u)
 (nV:fW E w.heap lo xQ) (xT:fW E w.heap hi hi') (xB:fW E w.heap mx mx') (h:Ea tt t x lo hi mx H=some v) :
 ∃r,(Instr.sliceAt t u xQ hi' mx').run P w= .ok r w/\VR E w.heap v r:=by
 unfold Ea at h;split at h
 ·grind
 ·split at h
  ·grind
  ·rename_i ti fL;have uF:=cJ t ti fL;split at h
   ·rename_i e hk;have hu:=eW uF hk;split at h
    ·grind
    ·rename_i s hs;simp only [hY,aO] at hs;obtain⟨ie,kA,rfl⟩:=hs;have gX:=ek (w:=w) (cJ e ie kA);split at h
     ·rename_i id o len es;split at h
      ·rename_i jD;split at h
       ·rename_i cs ty hl;split at h
        ·grind
        ·rename_i b zJ;split at h
         ·grind
         ·rename_i l ng;simp at h;subst h;obtain⟨jD,lA⟩:=jD;subst jD;simp only [VR] at hx;obtain⟨hid,a,cap,rfl,hlen,hc⟩:=hx;have yN:=(r.live id _ hl).2.1;simp only [OR] at yN;obtain⟨arr,lo1,hi1,us,q1,q2,q3,q4,q5,q6,q7⟩:=yN
          have gJ:(cs.length-o) / ie.size<=cap:=by
           simp only [eE] at hc;rcases hc with hc|hc
           ·have:cs.length-o<=cap*ie.size:=J
            exact Nat.div_le_of_le_mul (by rw [ant]; exact this)
           simp_all
          obtain⟨e1,e2⟩:=fJ (P:=P) (w:=w) (isSlice:=true) (len:=len) (cap:=cap) (m0:=cap) (d:=0) (m:=cap) nV xT xB ad (.inl ⟨rfl,rfl,au _⟩) zJ ⟨fun _=>gJ,ad⟩ ng;have ae4:=ld zJ;refine⟨.slice (some (if cap=l then a else a.add (l*ie.size))) (b-l) (cap-l),?_,?_⟩
          ·simp [Instr.sliceAt,run_underlying hu,Instr.slice,e1,gX]<;>split<;>rfl
          ·simp only [VR];exact⟨hid,_,_,rfl,J,pB (es:=ie.size) hc hlen e2 J (au _) (.inr (.inr ⟨rfl,rfl,rfl⟩)) _ (fun _=>rfl)⟩
       grind
      grind
     grind
   grind
theorem xG {tt:TT} (cJ:ep P tt) {t:Nat} {x v:W} {u:Value} {lo hi mx:Option W} {xQ hi' mx':Option Value} (hx:VR E w.heap x u)
 (nV:fW E w.heap lo xQ) (xT:fW E w.heap hi hi') (xB:fW E w.heap mx mx') (h:ze tt t x lo hi mx=some v) :
 ∃r,(Instr.sliceAt t u xQ hi' mx').run P w= .ok r w/\VR E w.heap v r:=by
 unfold ze at h;split at h
 ·grind
 ·rename_i ti fL;have uF:=cJ t ti fL;split at h
  ·rename_i hk;have hu:=fB uF hk;split at h
   ·rename_i s;simp only [fW] at xB;subst xB;split at h
    ·rename_i b Y;split at h
     ·rename_i l hl;simp at h;subst h;simp only [VR] at hx;obtain⟨rfl,fe⟩:=hx;obtain⟨e1,e2⟩:=fJ (P:=P) (w:=w) (isSlice:=false) (len:=s.length) (cap:=s.length) (m0:=s.length) (d:=0) nV xT (mx:=none) (mx':=none) rfl ad (.inl ⟨rfl,rfl,au _⟩) Y ⟨fun _=>au _,ad⟩ hl;refine⟨.string ((de s).extract l b),?_,?_⟩
      ·rw [<- kr] at e1;simp [Instr.sliceAt,run_underlying hu,Instr.slice,e1]
      ·simp only [VR,sg]
       grind
     grind
    grind
   grind
  ·rename_i e hk;have hu:=eW uF hk;split at h
   ·grind
   ·rename_i s hs;simp only [hY,aO] at hs;obtain⟨ie,kA,rfl⟩:=hs;have gX:=fun w'=>ek (cJ e ie kA) w';split at h
    ·split at h
     ·grind
     ·rename_i hmh;split at h
      ·rename_i kh kl km zJ ng DQ;simp at h;subst h;simp only [VR] at hx;subst hx;obtain rfl:kh=0:=by have:=ld zJ; omega
       obtain rfl:kl=0:=by have:=ld ng; omega
       obtain rfl:km=0:=by have:=ld DQ; omega
       have hm:(mx=none/\0=0/\0<=0)\/(∃x,mx=some x/\nA mx 0 0=some 0/\0<=0):=by
        cases mx with
        |none=>exact .inl ⟨rfl,rfl,au _⟩
        |some y=>exact .inr ⟨y,rfl,DQ,au _⟩
       obtain⟨e1,e2⟩:=fJ (P:=P) (w:=w) (isSlice:=true) (len:=0) (cap:=0) (m0:=0) (d:=0) (m:=0) nV xT xB (by cases mx<;>cases hi<;>simp_all) hm zJ ⟨fun _=>au _,fun _=>rfl⟩ ng;refine⟨.slice none 0 0,?_,by simp only [VR]⟩;simp [Instr.sliceAt,run_underlying hu,Instr.slice,e1,gX]
      grind
    ·rename_i id o len c;split at h
     ·grind
     ·rename_i hmh;split at h
      ·grind
      ·rename_i m DQ;split at h
       ·grind
       ·rename_i b zJ;split at h
        ·grind
        ·rename_i l ng;simp at h;subst h;simp only [VR] at hx;obtain⟨hid,a,cap,rfl,hlen,hc⟩:=hx;have gJ:cap=c:=by simp only [eE] at hc; exact hc.1
         subst gJ
         have hm:(mx=none/\m=cap/\cap<=cap)\/(∃x,mx=some x/\nA mx cap cap=some m/\cap<=cap):=by
          cases mx with
          |none=>exact .inl ⟨rfl,(zA DQ).1,au _⟩
          |some y=>exact .inr ⟨y,rfl,DQ,au _⟩
         obtain⟨e1,e2⟩:=fJ (P:=P) (w:=w) (isSlice:=true) (len:=len) (cap:=cap) (m0:=cap) (d:=cap) (m:=m) nV xT xB (by cases mx<;>cases hi<;>simp_all) hm zJ ⟨fun _=>ld DQ,fun _=>rfl⟩ ng;refine⟨.slice (some (if m=l then a else a.add (l*ie.size))) (b-l) (m-l),?_,?_⟩
         ·simp [Instr.sliceAt,run_underlying hu,Instr.slice,e1,gX]<;>split<;>rfl
         ·simp only [VR];exact⟨hid,_,_,rfl,by have:=ld zJ; omega,pB (es:=0) hc hlen e2 (ld zJ) (ld DQ) (.inl ⟨_,rfl,rfl⟩) _ ad⟩
    ·rename_i id o len es;split at h
     ·split at h
      ·grind
      ·rename_i b zJ;split at h
       ·grind
       ·rename_i l ng;split at h
        ·rename_i jD;simp at h;subst h;simp only [VR] at hx;obtain⟨hid,a,cap,rfl,hlen,hc⟩:=hx;obtain⟨e1,e2⟩:=fJ (P:=P) (w:=w) (isSlice:=true) (len:=len) (cap:=cap) (m0:=cap) (d:=0) (m:=cap) nV xT xB ad (.inl ⟨rfl,rfl,au _⟩) zJ ⟨fun _=>hlen,ad⟩ ng;have ae4:=ld zJ;refine⟨.slice (some (if cap=l then a else a.add (l*ie.size))) (b-l) (cap-l),?_,?_⟩
         ·simp [Instr.sliceAt,run_underlying hu,Instr.slice,e1,gX]<;>split<;>rfl
         ·simp only [VR];exact⟨hid,_,_,rfl,J,pB (es:=es) hc hlen e2 J (au _) (.inr (.inr ⟨rfl,rfl,rfl⟩)) _ (fun _=>jD)⟩
        grind
     ·rename_i y;split at h
      ·grind
      ·grind
      ·rename_i b0 m DQ;split at h
       ·grind
       ·rename_i b zJ;split at h
        ·grind
        ·rename_i l ng;simp at h;subst h;simp only [VR] at hx;obtain⟨hid,a,cap,rfl,hlen,hc⟩:=hx;obtain⟨e1,e2⟩:=fJ (P:=P) (w:=w) (isSlice:=true) (len:=len) (cap:=cap) (m0:=len) (d:=0) (m:=m) nV xT xB ad (.inr ⟨y,rfl,DQ,hlen⟩) zJ ⟨ad,fun _=>rfl⟩ ng;have Li:=ld zJ;have Y!:=ld DQ;refine⟨.slice (some (if m=l then a else a.add (l*ie.size))) (b-l) (m-l),?_,?_⟩
         ·simp [Instr.sliceAt,run_underlying hu,Instr.slice,e1,gX]<;>split<;>rfl
         ·simp only [VR];exact⟨hid,_,_,rfl,J,pB (es:=es) hc hlen e2 Li J (.inr (.inl ⟨rfl,rfl⟩)) _ ad⟩
    ·rename_i cs n full;split at h
     ·split at h
      ·grind
      ·rename_i b zJ;split at h
       ·grind
       ·rename_i l ng;split at h
        ·grind
        ·rename_i d hd;split at h
         ·grind
         ·rename_i d' DP;simp at h;subst h;simp only [VR] at hx;obtain⟨bb,o,cap,us,rfl,hn,GO,h4,h5,h6,h7⟩:=hx;obtain⟨e1,e2⟩:=fJ (P:=P) (w:=w) (isSlice:=true) (len:=n) (cap:=cap) (m0:=cap) (d:=0) (m:=cap) nV xT xB ad (.inl ⟨rfl,rfl,au _⟩) zJ ⟨fun _=>hn,ad⟩ ng;have Li:=ld zJ;obtain⟨g1,g2,g3⟩:=h5.eD hd;obtain⟨g4,g5⟩:=g1.hU DP;refine⟨.slice (some (if cap=l then⟨bb,o,none⟩ else (⟨bb,o,none⟩ : Addr).add (l*ie.size))) (b-l) (cap-l),?_,?_⟩
          ·simp [Instr.sliceAt,run_underlying hu,Instr.slice,e1,gX]<;>split<;>rfl
          ·simp only [VR];by_cases UG:cap=l
           ·have h0:b-l=0:=J
            refine⟨bb,o,cap-l,(us.drop (l*ie.size)).take ((b-l)*ie.size),by rw [ah UG],J,fun _=>by omega,h4,g4,?_,fun u hu=>h7 u (bq (al9 hu))⟩;rw [h0,ama];intro i u hu
            grind
           ·refine⟨bb,o+l*ie.size,cap-l,(us.drop (l*ie.size)).take ((b-l)*ie.size),by rw [af UG,eT],J,?_,h4,g4,(h6.drop _).take _,fun u hu=>h7 u (bq (al9 hu))⟩;intro hf
            grind
     ·rename_i y;split at h
      ·grind
      ·grind
      ·rename_i b0 m DQ;split at h
       ·grind
       ·rename_i b zJ;split at h
        ·grind
        ·rename_i l ng;split at h
         ·grind
         ·rename_i d hd;split at h
          ·grind
          ·rename_i d' DP;simp at h;subst h;simp only [VR] at hx;obtain⟨bb,o,cap,us,rfl,hn,GO,h4,h5,h6,h7⟩:=hx;obtain⟨e1,e2⟩:=fJ (P:=P) (w:=w) (isSlice:=true) (len:=n) (cap:=cap) (m0:=n) (d:=0) (m:=m) nV xT xB ad (.inr ⟨y,rfl,DQ,hn⟩) zJ ⟨ad,fun _=>rfl⟩ ng;have Li:=ld zJ;obtain⟨g1,g2,g3⟩:=h5.eD hd;obtain⟨g4,g5⟩:=g1.hU DP;refine⟨.slice (some (if m=l then⟨bb,o,none⟩ else (⟨bb,o,none⟩ : Addr).add (l*ie.size))) (b-l) (m-l),?_,?_⟩
           ·simp [Instr.sliceAt,run_underlying hu,Instr.slice,e1,gX]<;>split<;>rfl
           ·simp only [VR];by_cases UG:m=l
            ·have h0:b-l=0:=J
             refine⟨bb,o,m-l,(us.drop (l*ie.size)).take ((b-l)*ie.size),by rw [ah UG],J,fun _=>by omega,h4,g4,?_,fun u hu=>h7 u (bq (al9 hu))⟩;rw [h0,ama];intro i u hu
             grind
            ·refine⟨bb,o+l*ie.size,m-l,(us.drop (l*ie.size)).take ((b-l)*ie.size),by rw [af UG,eT],J,?_,h4,g4,(h6.drop _).take _,fun u hu=>h7 u (bq (al9 hu))⟩;intro hf
             grind
    grind
  ·rename_i n e hk;have hu:=ra uF hk;split at h
   ·grind
   ·rename_i s hs;simp only [hY,aO] at hs;obtain⟨ie,kA,rfl⟩:=hs;have gX:=fun w'=>ek (cJ e ie kA) w';split at h
    ·rename_i id o;split at h
     ·grind
     ·rename_i hmh;split at h
      ·grind
      ·rename_i m DQ;split at h
       ·grind
       ·rename_i b zJ;split at h
        ·grind
        ·rename_i l ng;simp at h;subst h;simp only [VR] at hx;obtain⟨rfl,hid⟩:=hx
         have hm:(mx=none/\m=n/\n<=n)\/(∃x,mx=some x/\nA mx n n=some m/\n<=n):=by
          cases mx with
          |none=>exact .inl ⟨rfl,(zA DQ).1,au _⟩
          |some y=>exact .inr ⟨y,rfl,DQ,au _⟩
         obtain⟨e1,e2⟩:=fJ (P:=P) (w:=w) (isSlice:=false) (len:=n) (cap:=n) (m0:=n) (d:=n) (m:=m) nV xT xB (by cases mx<;>cases hi<;>simp_all) hm zJ ⟨fun _=>ld DQ,fun _=>rfl⟩ ng;refine⟨.slice (some (if m=l then⟨(E.θ id).1,(E.θ id).2+o,none⟩ else (⟨(E.θ id).1,(E.θ id).2+o,none⟩ : Addr).add (l*ie.size))) (b-l) (m-l),?_,?_⟩
         ·simp [Instr.sliceAt,run_underlying hu,Instr.sureAddr,e1,gX]<;>split<;>rfl
         ·simp only [VR,eE];refine⟨hid,_,_,rfl,by have:=ld zJ; omega,rfl,?_⟩;by_cases UG:m=l
          ·grind
          ·left; rw [af UG,eT,al8]
    grind
  grind
end
section
variable {P:Program} {E:En} {w:World}
theorem BN {h:Array Obj}: ∀{cs:List W} {us:List Value} {l:List Nat},vg cs=some l->cB E h cs us->us=(l.map UInt8.ofNat).map (fun b=>Value.int .u8 (b.toNat:Int))/\∀b∈l,b<256
 |[],us,l,U,Z=>by
  simp [vg] at U;subst U;rw [gP] at Z
  grind
 |x::cs,us,l,U,Z=>by
  rw [bV] at Z;obtain⟨u,vs,rfl,h3,h4⟩:=Z;unfold vg at U;split at U
  ·rename_i he; simp at he
  ·rename_i b xs he;simp only [List.cons.injEq] at he;obtain⟨rfl,rfl⟩:=he;split at U
   ·rename_i Y;split at U
    ·rename_i l' hl;simp at U;subst U;obtain⟨e1,e2⟩:=BN hl h4;simp only [VR,V.den] at h3;refine⟨?_,?_⟩
     ·rw [h3,e1];simp [amu,amo Y]
     grind
    grind
   grind
  grind
theorem zm [bI] {tt:TT} (cJ:ep P tt) {H H':Hp} (r:bP E H w) {sT dT:Nat} {x v:W} {u:Value} (hx:VR E w.heap x u) (h:oO tt sT dT x H=some (v,H')) :
 ∃y w' E',(convert sT dT u).run P w= .ok y w'/\eM E H w E' H' w'/\bP E' H' w'/\VR E' w'.heap v y:=by
 unfold oO at h;split at h
 ·grind
 ·rename_i j hj;obtain⟨sd,hsd,hsk⟩:=rG (cJ sT j hj);split at h
  ·rename_i i hi;have fL:=cJ dT i hi;split at h
   ·rename_i k hk;have hd:=oz fL hk;split at h
    ·rename_i kk n;simp only [ag,ak] at h;obtain⟨rfl,rfl⟩:=h;simp only [VR] at hx;subst hx;refine⟨.int k (k.wrap n),w,E,?_,eM.refl _ _ _,r,by simp only [VR,V.den,j9]⟩;simp [convert,run_underlying hsd,run_underlying hd,Conv.intToInt,V.den]
    ·rename_i kk e fZ;simp only [ag,ak] at h;obtain⟨rfl,rfl⟩:=h;simp only [VR] at hx;subst hx;refine⟨.int k (k.wrap (e.den E.ρ)),w,E,?_,eM.refl _ _ _,r,by simp only [VR,V.den]⟩;simp [convert,run_underlying hsd,run_underlying hd,Conv.intToInt]
    grind
   ·rename_i hk;have hd:=fB fL hk;split at h
    ·rename_i hjk;split at h
     ·rename_i s;simp only [ag,ak] at h;obtain⟨rfl,rfl⟩:=h;have UF:=hx;simp only [VR] at hx;obtain⟨rfl,_⟩:=hx;refine⟨_,w,E,?_,eM.refl _ _ _,r,UF⟩;simp [convert,run_underlying (fB (cJ sT j hj) hjk),run_underlying hd]
     grind
    ·rename_i e hjk;have hs:=eW (cJ sT j hj) hjk;split at h
     ·grind
     ·rename_i ie kA;split at h
      ·rename_i hu8;have he:=oz (cJ e ie kA) hu8.1;split at h
       ·simp only [ag,ak] at h;obtain⟨rfl,rfl⟩:=h;simp only [VR] at hx;subst hx;refine⟨.string .empty,w,E,?_,eM.refl _ _ _,r,?_⟩
        ·rw [run_convert_bytes_string w sT dT e none 0 0 hs he hd];rfl
        ·simp only [VR];exact⟨rfl,ad⟩
       ·rename_i id o len c;split at h
        ·rename_i cs UH;rw [aO] at h;obtain⟨l,hl,he2⟩:=h;simp only [ak] at he2;obtain⟨rfl,rfl⟩:=he2;simp only [VR] at hx;obtain⟨hid,a,cap,rfl,gJ,hc⟩:=hx;obtain⟨b,o',us,e1,e2,e3,e4,e5⟩:=vB r (p:=.ptr id o) (u:=.pointer (some ⟨(E.θ id).1,(E.θ id).2+o,none⟩)) (by simp only [VR]; exact⟨trivial,hid⟩) UH;obtain⟨e6,e7⟩:=BN hl e3
         have hlen:len=(l.map UInt8.ofNat).length:=by
          grind
         have ha:a=⟨(E.θ id).1,(E.θ id).2+o,none⟩\/len=0:=by
          cases c with
          |exact c=>
           simp only [eE] at hc
           grind
          |rest es=>
           simp only [eE] at hc
           grind
         refine⟨.string (de l),w,E,?_,eM.refl _ _ _,r,by simp only [VR]; exact⟨trivial,e7⟩⟩;rw [hlen];refine run_convert_bytes_back w sT dT e a cap (l.map UInt8.ofNat) hs he hd fun k hk=>?_;rcases ha with ha|ha
         ·subst ha;rw [eT,nQ];simp only [Value.pointer.injEq,ag,Addr.mk.injEq] at e1;obtain⟨e1a,e1b,_⟩:=e1;rw [e1a,e1b];refine e4 k _ ?_
          grind
         ·omega
        grind
       grind
      grind
    grind
   ·rename_i e hk;have hd:=eW fL hk;split at h
    ·grind
    ·rename_i ie kA;split at h
     ·rename_i hu8;have he:=oz (cJ e ie kA) hu8.1;split at h
      ·rename_i s;simp only [ag,ak] at h;obtain⟨rfl,rfl⟩:=h;simp only [VR] at hx;obtain⟨rfl,fe⟩:=hx;have hs:=fB (cJ sT j hj) hu8.2;have gX:(de s).size=s.length:=kr s;have N8:=grownCap_ge w (de s).size 0 e
       have lz:(bytesRow (de s) (grownCap w (de s).size 0 e)).size=grownCap w (de s).size 0 e:=by have U:(de s).data.size=s.length:=gX;simp only [bytesRow,Array.size_append,Array.size_map,Array.size_replicate,U];omega
       have hv:cB E w.heap (s.map fun c=>W.int .u8 (.lit (Int.ofNat c))) ((s.map UInt8.ofNat).map (fun b=>Value.int .u8 (b.toNat:Int))):=by
        clear N8 lz gX
        induction s with
        |nil=>simp [cB]
        |cons b s ih=> have Y:=fe b ad;rw [ax,ax,ax,bV];refine⟨_,_,rfl,?_,ih fun c hc=>fe c (by simp [hc])⟩;simp [VR,V.den,amu,amo Y]
       obtain⟨s1,s2⟩:=iy r (bytesRow (de s) (grownCap w (de s).size 0 e)) (bytesRow (de s) (grownCap w (de s).size 0 e)).size ((bytesRow (de s) (grownCap w (de s).size 0 e)).size+1) e hv
        (by intro u hu; simp only [aT] at hu; obtain⟨b,_,rfl⟩:=hu; rfl)
        (by
         intro k u hu;have hk:=(aW.1 hu).1;simp only [al7] at hk;simp only [bytesRow];rw [anZ (by have U:(de s).data.size=s.length:=gX; simp only [Array.size_map,U]; exact hk)];rw [<- hu]
         simp [de])
        (by intro o U Z; omega)
        (w':=w.drew.alloc (.cells (bytesRow (de s) (grownCap w (de s).size 0 e)) e ((bytesRow (de s) (grownCap w (de s).size 0 e)).size,(bytesRow (de s) (grownCap w (de s).size 0 e)).size+1))) rfl ⟨rfl,rfl,rfl⟩
       refine⟨_,_,_,run_bytes_of_string w sT dT e (de s) hs hd he,s1,s2,?_⟩;simp only [VR,gX];refine⟨En.gp _ _ _ _,⟨w.heap.size,0,none⟩,_,rfl,by rw [<- gX]; exact N8,?_⟩;simp only [eE,En.ext_θ_new,En.ext_κ_new]
       grind
      grind
     grind
   grind
  grind
end
section
variable {P:Program} {E:En} {w:World}
def B6 (d:TypeDesc):TK->Prop
 | .int _=> ∃k,d= .int k
 | .string=>d= .string
 | .bool=>d= .bool
 |_=>False
theorem xw {tt:TT} (cJ:ep P tt) {t:Nat} {kk:TK} (h:vJ tt t=some kk): ∃d,P.underlying t=some d/\B6 d kk:=by
 unfold vJ at h;split at h
 ·rename_i i hi;split at h<;>simp only [ag,reduceCtorEq] at h<;>subst h
  ·rename_i k hk; exact⟨_,oz (cJ t i hi) hk,k,rfl⟩
  ·rename_i hk; exact⟨_,fB (cJ t i hi) hk,rfl⟩
  ·rename_i hk; exact⟨_,J7 (cJ t i hi) hk,rfl⟩
 grind
theorem Wz {x y:List Nat} (hx: ∀b∈x,b<256) (hy: ∀b∈y,b<256):(de x == de y)=gD x y:=by
 have e:(de x == de y)=((de x).data == (de y).data):=rfl;rw [e,amg,beq_iff_eq,lQ];constructor
 ·intro h;have Z:=congrArg (fun b=>b.toList) h;simp only [de] at Z
  grind [map_inj]
 grind
theorem KW {h:Array Obj} {pc:List (SB×Bool)} (hp:bW E.ρ pc) {kk:TK} {d:TypeDesc} (hd:B6 d kk) {a b:W} {u u':Value} (ha:VR E h a u) (Y:VR E h b u') {c:Bool} (hc:QU pc kk a b=some c) :
 Instr.sameNow d u u'=some c/\(c=true->∀n,Instr.sameBits (n+1) u' u=true):=by
 unfold QU at hc;split at hc
 ·obtain⟨k,rfl⟩:=hd;split at hc
  ·simp only [VR] at ha Y;subst ha Y;split at hc
   ·rename_i hk;subst hk;have hc:=gq hp hc;rw [gw] at hc;subst hc;refine⟨by simp [Instr.sameNow],fun hh n=>?_⟩;simp at hh;simp [Instr.sameBits,hh]
   grind
  grind
 ·simp only [B6] at hd;subst hd;split at hc
  ·simp only [VR] at ha Y;obtain⟨rfl,ha⟩:=ha;obtain⟨rfl,Y⟩:=Y;simp at hc;subst hc;have he:=Wz ha Y;refine⟨by simp only [Instr.sameNow,he],fun hh n=>?_⟩;simp only [Instr.sameBits]
   grind [lQ]
  ·split at hc
   ·rename_i c0 h0;obtain⟨x,y,rfl,rfl,hd⟩:=CW ha Y h0;have hc:=gq hp hc;rw [hd] at hc
    have hbe: ∀p q:ByteArray,(p == q)=decide (p=q):=by
     intro p q;rw [amg,decide_eq_true_eq];have e:(p == q)=(p.data == q.data):=rfl;rw [e,beq_iff_eq];constructor
     ·intro h; cases p; cases q; simp only at h; rw [h]
     grind
    refine⟨by simp only [Instr.sameNow,hbe,hc],fun hh n=>?_⟩;simp only [Instr.sameBits,hbe]
    grind
   grind
 ·simp only [B6] at hd;subst hd;split at hc
  ·simp only [VR,SB.den] at ha Y;subst ha Y;simp at hc;subst hc;refine⟨by simp [Instr.sameNow],fun hh n=>?_⟩;simp at hh;simp [Instr.sameBits,hh]
  grind
 grind
theorem eA {t:Nat} {kk:TK} {d:TypeDesc} (hu:P.underlying t=some d) (hd:B6 d kk) (b:Bool) (v:Value):(Instr.checkKey b 10000 t v).run P w= .ok () w:=by
 have h0:(10000:Nat)=9999+1:=rfl;rw [h0];generalize (9999:Nat)=n;cases kk<;>simp only [B6] at hd
 ·subst hd; simp [Instr.checkKey,run_underlying hu]
 ·obtain⟨k,rfl⟩:=hd; simp [Instr.checkKey,run_underlying hu]
 ·subst hd; simp [Instr.checkKey,run_underlying hu]
theorem pr {h:Array Obj} {pc:List (SB×Bool)} (hp:bW E.ρ pc) {kk:TK} {d:TypeDesc} (hd:B6 d kk) {k:W} {u:Value} (hk:VR E h k u): ∀{es:List (W×W×Nat)} {bL:List MapEntry} {i:Nat} {res:Option (Nat×W)},
 eB E h es bL->BC pc kk k es i=some res->
 (res=none/\Instr.findNow d u bL i=some none)\/
 (∃j v e,res=some (i+j,v)/\bL[j]?=some e/\VR E h v e.val/\Instr.findNow d u bL i=some (some (i+j,e.val))/\∀n,Instr.sameBits (n+1) e.key u=true)
 |[],bL,i,res,he,hf=>by simp only [eB] at he;subst he;simp [BC] at hf;exact .inl ⟨hf.symm,by simp [Instr.findNow]⟩
 |(k',v,b)::es,bL,i,res,he,hf=>by
  simp only [eB] at he;obtain⟨e,r,rfl,U,Z,h3,h4⟩:=he;simp only [BC] at hf;split at hf
  ·rename_i hc;simp at hf;subst hf;obtain⟨g1,g2⟩:=KW hp hd hk U hc;exact .inr ⟨0,v,e,rfl,rfl,Z,by simp [Instr.findNow,g1],g2 rfl⟩
  ·rename_i hc;obtain⟨g1,g2⟩:=KW hp hd hk U hc;rcases pr hp hd hk h4 hf with ⟨q1,q2⟩|⟨j,v',e',q1,q2,q3,q4,q5⟩
   ·exact .inl ⟨q1,by simp [Instr.findNow,g1,q2]⟩
   ·refine .inr ⟨j+1,v',e',?_,by simpa using q2,q3,?_,q5⟩
    ·grind
    ·simp only [Instr.findNow,g1,q4]; congr 3; omega
  grind
theorem fk {t:Nat} {d:TypeDesc} (hu:P.underlying t=some d) {u:Value} {bL:List MapEntry} {r:Option (Nat×Value)} (h:Instr.findNow d u bL 0=some r):(Instr.findKey t u bL).run P w= .ok r w:=by simp [Instr.findKey,run_underlying hu,h]
theorem ez {r:Nat} {o:Obj} (h:w.heap[r]?=some o) (hn: ∀c e f,o≠.cells c e f):(getObj r).run P w= .ok o w:=by
 unfold getObj;cases o<;>first |exact absurd rfl (hn _ _ _)|simp only [Sem.run,h]
theorem gk {r:Nat} {o o':Obj} (h:w.heap[r]?=some o) (hn: ∀c e f,o≠.cells c e f):(setObj r o').run P w= .ok () { w with heap:=w.heap.setIfInBounds r o' }:=by
 unfold setObj;cases o<;>first |exact absurd rfl (hn _ _ _)|simp only [Sem.run,h]
theorem gb [bI] {H:Hp} (r:bP E H w) {id:Nat} {o:dG} (hl:H.get id=some o) (ao:dG) (o':Obj)
 (ho: ∀h',h'[(E.θ id).1]?=some o'->fg E w.heap E h'->OR E h' id ao) :
 eM E H w E (H.put id ao) { w with heap:=w.heap.setIfInBounds (E.θ id).1 o' }/\bP E (H.put id ao) { w with heap:=w.heap.setIfInBounds (E.θ id).1 o' }:=by
 have fe:=fF r hl
 have k7: ∀b,b≠(E.θ id).1->({ w with heap:=w.heap.setIfInBounds (E.θ id).1 o' }:World).heap[b]?=w.heap[b]?:=fun b Y=>by
  grind
 refine De r hl ao ad k7 ⟨rfl,rfl,rfl⟩ (ho _ ?_ (jY r hl k7))
 grind
theorem Sq.ye {k v:W}: ∀(es:List (W×W×Nat)) (i:Nat),(ml k v es i).map (·.2.2)=es.map (·.2.2)
 |[],_=>rfl
 |_::_,0=>rfl
 |_::es,i+1=>by simp only [ml,ax,Sq.ye es i]
theorem Sq.Hf: ∀(es:List (W×W×Nat)) (i:Nat),(jq es i).map (·.2.2)=(es.map (·.2.2)).eraseIdx i
 |[],_=>by simp [jq]
 |_::_,0=>by simp [jq]
 |_::es,i+1=>by simp only [jq,ax,anf,Sq.Hf es i]
theorem zp {α β:Type} (f:α->β): ∀(l:List α) (i:Nat),(l.eraseIdx i).map f=(l.map f).eraseIdx i
 |[],_=>by simp
 |_::_,0=>by simp
 |_::l,i+1=>by simp [zp f l i]
theorem Sq.erase {c c':Nat} {es:List (W×W×Nat)} {l:List MapEntry} {i:Nat} (h:Sq c es l c'):Sq c (jq es i) (l.eraseIdx i) c':=by
 cases c with
 |zero=>trivial
 |succ c=>exact⟨h.1,by rw [Sq.Hf,zp,h.2]⟩
theorem Sq.set {k v:W} {f:MapEntry->MapEntry} (hf: ∀e,(f e).born=e.born) {c c':Nat} {es:List (W×W×Nat)} {bL:Array MapEntry} {i:Nat} (h:Sq c es bL.toList c'):Sq c (ml k v es i) (bL.modify i f).toList c':=by
 cases c with
 |zero=>trivial
 |succ c=>
  refine⟨h.1,?_⟩;rw [Sq.ye,<- h.2];apply am0;intro j;simp only [bn,br,anv];split
  ·cases bL[j]?<;>simp [hf]
  ·rfl
theorem eB.length {h:Array Obj}: ∀{es:List (W×W×Nat)} {bL:List MapEntry},eB E h es bL->bL.length=es.length
 |[],bL,he=>by simp only [eB] at he; simp [he]
 |(k,v,b)::es,bL,he=>by simp only [eB] at he;obtain⟨e,r,rfl,_,_,_,h4⟩:=he;simp [h4.length]
theorem eB.set {h:Array Obj} {k v:W} {uk uv:Value} (hk:VR E h k uk) (hv:VR E h v uv): ∀{es:List (W×W×Nat)} {bL:List MapEntry} {i:Nat} {e:MapEntry},eB E h es bL->bL[i]?=some e->
 eB E h (ml k v es i) (bL.set i { e with key:=uk,val:=uv })
 |[],bL,i,e,he,hi=>by simp only [eB] at he; subst he; simp at hi
 |(k',v',b)::es,bL,0,e,he,hi=>by
  simp only [eB] at he;obtain⟨e0,r,rfl,U,Z,h3,h4⟩:=he;simp at hi;subst hi;simp only [ml,amP,eB]
  grind
 |(k',v',b)::es,bL,i+1,e,he,hi=>by simp only [eB] at he;obtain⟨e0,r,rfl,U,Z,h3,h4⟩:=he;simp only [ml,amQ,eB];exact⟨e0,_,rfl,U,Z,h3,eB.set hk hv h4 (by simpa using hi)⟩
theorem eB.push {h:Array Obj} {k v:W} {uk uv:Value} {c c':Nat} (hk:VR E h k uk) (hv:VR E h v uv): ∀{es:List (W×W×Nat)} {bL:List MapEntry},eB E h es bL->
 eB E h (es++ [(k,v,c)]) (bL++ [{ key:=uk,val:=uv,born:=c' }])
 |[],bL,he=>by
  simp only [eB] at he;subst he;simp only [aF,eB]
  grind
 |(k',v',b)::es,bL,he=>by simp only [eB] at he;obtain⟨e0,r,rfl,U,Z,h3,h4⟩:=he;simp only [aP,eB];exact⟨e0,_,rfl,U,Z,h3,eB.push hk hv h4⟩
theorem eB.erase {h:Array Obj}: ∀{es:List (W×W×Nat)} {bL:List MapEntry} {i:Nat},eB E h es bL->eB E h (jq es i) (bL.eraseIdx i)
 |[],bL,i,he=>by simp only [eB] at he; subst he; simp [jq,eB]
 |(k',v',b)::es,bL,0,he=>by
  simp only [eB] at he;obtain⟨e0,r,rfl,U,Z,h3,h4⟩:=he
  grind [jq]
 |(k',v',b)::es,bL,i+1,he=>by simp only [eB] at he;obtain⟨e0,r,rfl,U,Z,h3,h4⟩:=he;simp only [jq,anf,eB];exact⟨e0,_,rfl,U,Z,h3,eB.erase h4⟩
theorem zM {t:Nat} {i:TI} (fL:ma P t i) {z:W} (h:zeroOf i=some z): ∃u,(zeroValue t).run P w= .ok u w/\VR E w.heap z u:=by
 obtain⟨inf,d,zv,U,Z,h3,h4,h5,h6,h7,h8⟩:=fL.all;have hz:=eO (E:=E) (h:=w.heap) h4;have hr:(zeroValue t).run P w= .ok zv w:=by simp [zeroValue,typeInfo,U,h3]
 refine⟨zv,hr,?_⟩;unfold zeroOf at h;split at h
 ·rename_i ha;simp at h;subst h;rw [ha] at h8;cases zv<;>simp only [IE,reduceCtorEq] at h8;rename_i cs;simp only [VR];exact⟨cs.toList,ad,hz.1⟩
 ·rename_i ha;split at h
  ·rename_i v hv;simp at h;subst h;rw [hv] at hz;obtain⟨u,vs,e1,e2,e3⟩:=bV.1 hz.1;rw [gP] at e3;subst e3;rw [ha] at h8;have:zv=u:=by cases zv<;>simp_all [IE,Value.cells]
   grind
  grind
end
theorem zT (ρ:Nat->Int) (x:V):(yg x).den ρ=(dec (x.den ρ)).n:=by
 unfold yg;split
 ·split
  ·simp only [V.den,e9.den,bB,D.n]
  ·simp only [V.den,e9.den]
 ·split
  ·simp only [V.den,bB,D.n]
  ·simp only [V.den,e9.den]
 ·simp only [V.den,e9.den]
theorem lr (ρ:Nat->Int) (x:V):(mW x).den ρ=enc (.i (x.den ρ)):=by unfold mW;split<;>simp only [V.den,e9.den]
theorem yR (a b:D):(D.p a b).hd 0=a:=by simp [D.hd,D.l]
theorem yS (a b:D) (j:Nat):(D.p a b).hd (j+1)=b.hd j:=by simp [D.hd,D.l]
theorem oU (ρ:Nat->Int): ∀(j:Nat) (x:V),dec ((iu j x).den ρ)=(dec (x.den ρ)).hd j
 |j,.op o a b=>by
  unfold iu
  cases o with
  |cons=>
   cases j with
   |zero=>simp only [V.den,e9.den,bB,yR]
   |succ j=>simp only [oU ρ j b,V.den,e9.den,bB,yS]
  |_=>simp only [V.den,e9.den,bB]
 |j,.lit n=>by simp only [iu,V.den,e9.den,bB]
 |j,.du n=>by simp only [iu,V.den,e9.den,bB]
 |j,.add _ _=>by simp only [iu,V.den,e9.den,bB]
 |j,.sub _ _=>by simp only [iu,V.den,e9.den,bB]
 |j,.mul _ _=>by simp only [iu,V.den,e9.den,bB]
 |j,.quo _ _=>by simp only [iu,V.den,e9.den,bB]
 |j,.rem _ _=>by simp only [iu,V.den,e9.den,bB]
 |j,.wrap _ _=>by simp only [iu,V.den,e9.den,bB]
 |j,.wz _ _=>by simp only [iu,V.den,e9.den,bB]
 |j,.ej _=>by simp only [iu,V.den,e9.den,bB]
 |j,.ap _ _=>by simp only [iu,V.den,e9.den,bB]
theorem cC (ρ:Nat->Int): ∀x:V,(dO x).den ρ=((dec (x.den ρ)).l.length:Int)
 | .op o a b=>by
   unfold dO
   cases o with
   |set=>
    simp only [cC ρ a,V.den,e9.den];split
    ·simp only [bB,bM,gu]
    ·rfl
   |_=>simp only [V.den,e9.den]
 | .lit n=>by simp only [dO,V.den,e9.den]
 | .du n=>by simp only [dO,V.den,e9.den]
 | .add _ _=>by simp only [dO,V.den,e9.den]
 | .sub _ _=>by simp only [dO,V.den,e9.den]
 | .mul _ _=>by simp only [dO,V.den,e9.den]
 | .quo _ _=>by simp only [dO,V.den,e9.den]
 | .rem _ _=>by simp only [dO,V.den,e9.den]
 | .wrap _ _=>by simp only [dO,V.den,e9.den]
 | .wz _ _=>by simp only [dO,V.den,e9.den]
 | .ej d=>by simp only [dO,V.den,bB]; rfl
 | .ap _ _=>by simp only [dO,V.den,e9.den]
theorem Rd.slice {ro:Nat->Prop} {h:Array Obj} {t:Nat} {d:D} {v:Value} (r:Rd ro h (.sl t) d v): ∃x cap,v= .slice x d.l.length cap/\d.l.length<=cap:=by
 generalize hc:CK.sl t=c at r
 cases r with
 |int k n=>simp at hc
 |bool b=>simp at hc
 |str s=>simp at hc
 |nil t=>exact⟨none,0,rfl,by simp [D.l]⟩
 |vG t a cap=>exact⟨some a,cap,rfl,by simp [D.l]⟩
 |one t c b o cap ds f hr fR Y U Z=>exact⟨_,cap,by rw [bM],by rw [bM]; exact fR⟩
 |many t cs b o cap rows f hr fR Y hl U Z=>exact⟨some ⟨b,o,none⟩,cap,ad,by simpa using fR⟩
theorem Rd.string {ro:Nat->Prop} {h:Array Obj} {d:D} {v:Value} (r:Rd ro h .str d v): ∃s,v= .string s/\d=td s:=by
 cases r with
 |str s=>exact⟨s,rfl,rfl⟩
def iR (ro:Nat->Prop) (h:Array Obj) (c:CK) (d:D) (u:Value):Prop:=match c with
 | .int k=>u= .int k d.n
 | .bool=>u= .bool (!(d.n == 0))
 |c=>Rd ro h c d u
theorem np {E:En} {h:Array Obj} {c:CK} {x:V} {u:Value}:VR E h (vf c x) u↔iR E.ro h c (dec (x.den E.ρ)) u:=by cases c<;>simp only [vf,iR,VR,SB.den,zT,V.den]
theorem Rd.cell {ro:Nat->Prop} {h:Array Obj} {c:CK} {d:D} {u:Value} (r:Rd ro h c d u):iR ro h c d u:=by
 cases r with
 |int k n=>simp [iR,D.n]
 |bool b=>cases b<;>simp [iR,D.n]
 |str s=>exact .str s
 |nil t=>exact .nil t
 |vG t a cap=>exact .vG t a cap
 |one t c b o cap ds f hr hc Y U Z=>exact .one t c b o cap ds f hr hc Y U Z
 |many t cs b o cap rows f hr hc Y hl U Z=>exact .many t cs b o cap rows f hr hc Y hl U Z
theorem iR.one {ro:Nat->Prop} {h:Array Obj} {c:CK} {d:D} {u:Value} (r:iR ro h c d u):u.oneCell'=true:=by
 cases c with
 |int k=>simp only [iR] at r; subst r; rfl
 |bool=>simp only [iR] at r; subst r; rfl
 |str=>exact Rd.S! r
 |sl t=>exact Rd.S! r
def dP (ro:Nat->Prop) (h:Array Obj):List CK->Nat->D->List Value->Prop
 |[],_,_,us=>us= []
 |c::cs,j,d,us=> ∃u vs,us=u::vs/\iR ro h c (d.hd j) u/\dP ro h cs (j+1) d vs
def wH (ro:Nat->Prop) (h:Array Obj) (r:Row) (d:D) (us:List Value):Prop:=match r with
 | .one c=> ∃u,us= [u]/\iR ro h c d u
 | .many cs=>dP ro h cs 0 d us
theorem nz {E:En} {h:Array Obj} {x:V}: ∀{cs:List CK} {j:Nat} {us:List Value},cB E h (hJ cs j x) us↔dP E.ro h cs j (dec (x.den E.ρ)) us
 |[],j,us=>by simp only [hJ,cB,dP]
 |c::cs,j,us=>by
  simp only [hJ,bV,dP];constructor
  ·rintro⟨u,vs,rfl,U,Z⟩;exact⟨u,vs,rfl,by rw [np,oU] at U; exact U,nz.1 Z⟩
  ·rintro⟨u,vs,rfl,U,Z⟩;exact⟨u,vs,rfl,by rw [np,oU]; exact U,nz.2 Z⟩
theorem fV {E:En} {h:Array Obj} {r:Row} {x:V} {us:List Value}:cB E h (gz r x) us↔wH E.ro h r (dec (x.den E.ρ)) us:=by
 cases r with
 |one c=>
  simp only [gz,bV,gP,wH];constructor
  ·rintro⟨u,vs,rfl,U,rfl⟩
   grind [np]
  grind [np]
 |many cs=>simp only [gz,wH,nz]
theorem rS (x:V): ∀(cs:List CK) (j:Nat),(hJ cs j x).length=cs.length
 |[],_=>rfl
 |_::cs,j=>by simp [hJ,rS x cs]
theorem gH (r:Row) (x:V):(gz r x).length=r.es:=by cases r<;>simp [gz,Row.es,rS]
theorem dP.rB {ro:Nat->Prop} {h:Array Obj} {d:D}: ∀{cs:List CK} {j:Nat} {us:List Value},dP ro h cs j d us->∀u∈us,u.oneCell'=true
 |[],_,_,hh,u,hu=>by simp only [dP] at hh; subst hh; simp at hu
 |c::cs,j,us,hh,u,hu=>by
  simp only [dP] at hh;obtain⟨x,vs,rfl,U,Z⟩:=hh;rcases aw.1 hu with rfl|hu
  ·exact U.one
  ·exact Z.rB u hu
theorem wH.rB {ro:Nat->Prop} {h:Array Obj} {r:Row} {d:D} {us:List Value} (hh:wH ro h r d us): ∀u∈us,u.oneCell'=true:=by
 cases r with
 |one c=> obtain⟨u,rfl,U⟩:=hh;intro x hx;simp at hx;subst hx;exact U.one
 |many cs=>exact dP.rB hh
theorem cB.split {E:En} {h:Array Obj}: ∀{xs ys:List W} {us:List Value},cB E h (xs++ys) us->∃a b,us=a++b/\cB E h xs a/\cB E h ys b
 |[],ys,us,hh=> ⟨[],us,rfl,by simp only [cB],hh⟩
 |x::xs,ys,us,hh=>by rw [aP,bV] at hh;obtain⟨u,vs,rfl,U,Z⟩:=hh;obtain⟨a,b,rfl,h3,h4⟩:=Z.split;exact⟨u::a,b,rfl,by rw [bV]; exact⟨u,a,rfl,U,h3⟩,h4⟩
theorem kx {ρ:Nat->Int} {i:Nat} {cs:List W}: ∀{ov:List (V×List W)},dX ρ i ov=some cs->∃p∈ov,p.2=cs/\p.1.den ρ=(i:Int)
 |[],h=>by simp [dX] at h
 |(j,c)::l,h=>by
  simp only [dX] at h;split at h
  ·rename_i hj;simp only [ag] at h;exact⟨(j,c),ad,h,hj⟩
  ·obtain⟨p,U,Z⟩:=kx h
   grind
theorem cD {ρ:Nat->Int} {r:Row} {ov:List (V×List W)} (ho:sA r ov): ∀(ds:List D) (i:Nat),(bF ρ r ov ds i).length=ds.length*r.es
 |[],i=>by simp [bF]
 |d::ds,i=>by
  simp only [bF,a8,cD ho ds (i+1),aK,amd,amN];split
  ·rename_i cs h;obtain⟨p,U,Z,_⟩:=kx h;rw [<- Z,ho p U]; omega
  grind [gH]
theorem lK {ρ:Nat->Int} {r:Row} {ov:List (V×List W)}: ∀(xs ys:List D) (i:Nat),bF ρ r ov (xs++ys) i=bF ρ r ov xs i++bF ρ r ov ys (i+xs.length)
 |[],ys,i=>by simp [bF]
 |d::ds,ys,i=>by
  simp only [aP,bF,lK ds ys (i+1),amj,aK]
  grind
section
variable {P:Program} {E:En} {w:World}
theorem yC [bI] {H:Hp} (r:bP E H w) {id c:Nat} {es:List (W×W×Nat)} (hl:H.get id=some (.map es c)): ∃bL c',w.heap[(E.θ id).1]?=some (.map bL c')/\eB E w.heap es bL.toList/\Sq c es bL.toList c':=
 (r.live id _ hl).2.1
theorem LC [bI] {tt:TT} (cJ:ep P tt) {pc:List (SB×Bool)} (hp:bW E.ρ pc) {H:Hp} (r:bP E H w) {t:Nat} {m k v:W} {um uk:Value} {ok:Bool} (hm:VR E w.heap m um) (hk:VR E w.heap k uk) (h:Ed tt pc t m k ok H=some v) :
 ∃x,(Instr.lookup t um uk ok).run P w= .ok x w/\VR E w.heap v x:=by
 unfold Ed at h;split at h
 ·rename_i ti fL;split at h
  ·rename_i kt et yO;have hu:=sc (cJ t ti fL) yO;split at h
   ·grind
   ·rename_i kk sK;obtain⟨d,xC,jP⟩:=xw cJ sK;split at h
    ·grind
    ·rename_i ie kA
     have key: ∀(es:List (W×W×Nat)) (bL:Array MapEntry),eB E w.heap es bL.toList->
      (match BC pc kk k es 0 with
       |none=>none
       |some (some (_,v))=>some (if ok then .tuple [v,.bool (.lit true)] else v)
       |some none=>match zeroOf ie with
        |none=>none
        |some z=>some (if ok then .tuple [z,.bool (.lit false)] else z))=some v->
      ∃(o:Option (Nat×Value)) (x:Value),(Instr.findKey kt uk bL.toList).run P w= .ok o w/\
       (match o with
        |some (_,y)=>x=(if ok then .tuple #[y,.bool true] else y)
        |none=> ∃z,(zeroValue et).run P w= .ok z w/\x=(if ok then .tuple #[z,.bool false] else z))/\VR E w.heap v x:=by
      intro es bL he hh;split at hh
      ·simp at hh
      ·rename_i j v' hf;simp at hh;subst hh;rcases pr hp jP hk he hf with ⟨q1,_⟩|⟨jj,v2,e,q1,q2,q3,q4,q5⟩
       ·simp at q1
       ·simp only [ag,ak] at q1;obtain⟨rfl,rfl⟩:=q1;refine⟨_,_,fk xC q4,rfl,?_⟩;cases ok
        ·exact q3
        ·simp only [if_true,VR,cB];exact⟨[e.val,.bool true],rfl,_,_,rfl,q3,_,_,rfl,by simp [SB.den],rfl⟩
      ·rename_i hf;split at hh
       ·simp at hh
       ·rename_i z hz;simp at hh;subst hh;obtain⟨u,e1,e2⟩:=zM (P:=P) (w:=w) (E:=E) (cJ et ie kA) hz;rcases pr hp jP hk he hf with ⟨_,q2⟩|⟨jj,v2,e,q1,_⟩
        ·refine⟨none,_,fk xC q2,⟨u,e1,rfl⟩,?_⟩;cases ok
         ·exact e2
         ·simp only [if_true,VR,cB];exact⟨[u,.bool false],rfl,_,_,rfl,e2,_,_,rfl,by simp [SB.den],rfl⟩
        ·simp at q1
     split at h
     ·grind
     ·rename_i es jD;unfold Is at jD;split at jD
      ·simp at jD;subst jD;simp only [VR] at hm;subst hm;obtain⟨o,x,e1,e2,e3⟩:=key [] #[] (by simp [eB]) h;refine⟨x,?_,e3⟩
       cases o with
       |none=> obtain⟨z,e4,rfl⟩:=e2;cases ok<;>simp [Instr.lookup,run_underlying hu,eA xC jP,e1,e4]
       |some p=> obtain⟨j,y⟩:=p;simp only at e2;subst e2;cases ok<;>simp [Instr.lookup,run_underlying hu,eA xC jP,e1]
      ·rename_i id;split at jD
       ·rename_i es' c hl;simp at jD;subst jD;simp only [VR] at hm;obtain⟨rfl,hid⟩:=hm;obtain⟨bL,c',g1,g2,gS⟩:=yC r hl;have hg:=ez (P:=P) g1 ad;obtain⟨o,x,e1,e2,e3⟩:=key es' bL g2 h;refine⟨x,?_,e3⟩
        cases o with
        |none=> obtain⟨z,e4,rfl⟩:=e2;cases ok<;>simp [Instr.lookup,run_underlying hu,hg,eA xC jP,e1,e4]
        |some p=> obtain⟨j,y⟩:=p;simp only at e2;subst e2;cases ok<;>simp [Instr.lookup,run_underlying hu,hg,eA xC jP,e1]
       grind
      grind
  grind
 grind
theorem xp {α:Type} (bL:Array α) (i:Nat) (e:α) (f:α->α) (h:bL.toList[i]?=some e):(bL.modify i f).toList=bL.toList.set i (f e):=by
 apply am0;intro j
 grind
theorem u5 [bI] {tt:TT} (cJ:ep P tt) {pc:List (SB×Bool)} (hp:bW E.ρ pc) {H H':Hp} (r:bP E H w) {t:Nat} {m k v:W} {um uk uv:Value} (hm:VR E w.heap m um) (hk:VR E w.heap k uk) (hv:VR E w.heap v uv) (h:qk tt pc t m k v H=some H') :
 ∃w',(Instr.mapUpdate t um uk uv).run P w= .ok () w'/\eM E H w E H' w'/\bP E H' w':=by
 unfold qk at h;split at h
 ·rename_i ti fL;split at h
  ·rename_i kt et yO;have hu:=sc (cJ t ti fL) yO;split at h
   ·grind
   ·rename_i kk sK;obtain⟨d,xC,jP⟩:=xw cJ sK;split at h
    ·rename_i id;split at h
     ·rename_i es c hl;simp only [VR] at hm;obtain⟨rfl,hid⟩:=hm;obtain⟨bL,c',g1,g2,gS⟩:=yC r hl;have hg:=ez (P:=P) g1 ad;split at h
      ·grind
      ·rename_i i v' hf;simp at h;subst h;rcases pr hp jP hk g2 hf with ⟨q1,_⟩|⟨jj,v2,e,q1,q2,q3,q4,q5⟩
       ·grind
       ·simp only [ag,ak,ay] at q1;obtain⟨rfl,rfl⟩:=q1;simp only [ay] at q4
        have hkt:(Instr.keyThatStays (((bL[i]?).map (·.key)).getD uk) uk).run P w= .ok uk w:=by rw [br] at q2;simp only [q2,bw,az,Instr.keyThatStays];simp_all
        refine⟨_,?_,gb r hl (.map (ml k v es i) c) (.map (bL.modify i fun e=>{ e with key:=uk,val:=uv }) c') ?_⟩
        ·simp [Instr.mapUpdate,run_underlying hu,hg,eA xC jP,fk xC q4,hkt,gk (P:=P) g1]
        ·intro h' hh kp;simp only [OR];refine⟨_,_,hh,?_,gS.set (f:=fun e=>{ e with key:=uk,val:=uv }) fun _=>rfl⟩
         grind [xp,eB.set,VR.bX,eB.bX]
      ·rename_i hf;simp at h;subst h;rcases pr hp jP hk g2 hf with ⟨_,q2⟩|⟨jj,v2,e,q1,_⟩
       ·cases c with
        |zero=>
         refine⟨_,?_,gb r hl (.map (es++ [(k,v,0)]) 0) (.map (bL.push { key:=uk,val:=uv,born:=c' }) (c'+1)) ?_⟩
         ·simp [Instr.mapUpdate,run_underlying hu,hg,eA xC jP,fk xC q2,gk (P:=P) g1]
         ·intro h' hh kp;simp only [OR];refine⟨_,_,hh,?_,trivial⟩
          grind [eB.push,VR.bX,eB.bX]
        |succ c=>
         refine⟨_,?_,gb r hl (.map (es++ [(k,v,c)]) (c+2)) (.map (bL.push { key:=uk,val:=uv,born:=c' }) (c'+1)) ?_⟩
         ·simp [Instr.mapUpdate,run_underlying hu,hg,eA xC jP,fk xC q2,gk (P:=P) g1]
         ·intro h' hh kp;simp only [OR];refine⟨_,_,hh,?_,by rw [gS.1],?_⟩
          ·grind [eB.push,VR.bX,eB.bX]
          ·simp [gS.2,gS.1]
       grind
     grind
    grind
  grind
 grind
theorem LD [bI] {tt:TT} (cJ:ep P tt) {pc:List (SB×Bool)} (hp:bW E.ρ pc) {H H':Hp} (r:bP E H w) {t:Nat} {ts:Nat} {m k:W} {um uk:Value} (hm:VR E w.heap m um) (hk:VR E w.heap k uk) (h:Eh tt pc t m k H=some H') (ty:Nat) :
 ∃w',(Builtin.delete_ #[t,ts] ty #[um,uk]).run P w= .ok (.tuple #[]) w'/\eM E H w E H' w'/\bP E H' w':=by
 unfold Eh at h;split at h
 ·rename_i ti fL;split at h
  ·rename_i kt et yO;have hu:=sc (cJ t ti fL) yO;split at h
   ·grind
   ·rename_i kk sK;obtain⟨d,xC,jP⟩:=xw cJ sK;split at h
    ·simp at h;subst h;simp only [VR] at hm;subst hm;exact⟨w,by simp [Builtin.delete_,run_underlying hu,eA xC jP],eM.refl _ _ _,r⟩
    ·rename_i id;split at h
     ·rename_i es c hl;simp only [VR] at hm;obtain⟨rfl,hid⟩:=hm;obtain⟨bL,c',g1,g2,gS⟩:=yC r hl;have hg:=ez (P:=P) g1 ad;split at h
      ·grind
      ·rename_i i v' hf;simp at h;subst h;rcases pr hp jP hk g2 hf with ⟨q1,_⟩|⟨jj,v2,e,q1,q2,q3,q4,q5⟩
       ·grind
       ·simp only [ag,ak,ay] at q1;obtain⟨rfl,rfl⟩:=q1;simp only [ay] at q4;refine⟨_,?_,gb r hl (.map (jq es i) c) (.map (bL.eraseIdxIfInBounds i) c') ?_⟩
        ·simp [Builtin.delete_,run_underlying hu,hg,eA xC jP,fk xC q4,gk (P:=P) g1]
        ·intro h' hh kp;simp only [OR];refine⟨_,_,hh,?_⟩;have gS2:=gS.erase (i:=i);have eu:i<bL.size:=by have:=(aW.1 q2).1; simpa using this
         have:(bL.eraseIdxIfInBounds i).toList=bL.toList.eraseIdx i:=by simp_all
         rw [this];exact⟨eB.erase (eB.bX kp _ _ g2),gS2⟩
      ·rename_i hf;simp at h;subst h;rcases pr hp jP hk g2 hf with ⟨_,q2⟩|⟨jj,v2,e,q1,_⟩
       ·refine⟨_,?_,gb r hl (.map es c) (.map bL c') ?_⟩
        ·simp [Builtin.delete_,run_underlying hu,hg,eA xC jP,fk xC q2,gk (P:=P) g1]
        ·intro h' hh kp;simp only [OR];exact⟨_,_,hh,eB.bX kp _ _ g2,gS⟩
       grind
     grind
    grind
  grind
 grind
theorem YB [bI] {tt:TT} (cJ:ep P tt) {H:Hp} (r:bP E H w) {t ty:Nat} {x v:W} {u:Value} (hx:VR E w.heap x u) (h:YC tt t x H=some v) :
 ∃y,(Builtin.len_ #[t] ty #[u]).run P w= .ok y w/\VR E w.heap v y:=by
 unfold YC at h;simp only at h;split at h
 ·rename_i ti fL;have uF:=cJ t ti fL;split at h
  ·rename_i hk;split at h
   ·rename_i s;simp at h;subst h;simp only [VR] at hx;obtain⟨rfl,_⟩:=hx;exact⟨_,by simp [Builtin.len_,run_underlying (fB uF hk)]; rfl,by simp [VR,V.den,goInt,kr]⟩
   ·simp at h; subst h; simp only [VR] at hx;obtain⟨s,rfl,hs⟩:=hx.string;exact⟨_,by simp [Builtin.len_,run_underlying (fB uF hk)]; rfl,by simp only [VR,cC,hs,Z1]; rfl⟩
   grind
  ·rename_i e hk;have hu:=eW uF hk;split at h
   ·simp at h; subst h; simp only [VR] at hx; subst hx;exact⟨_,by simp [Builtin.len_,run_underlying hu]; rfl,by simp [VR,V.den,goInt]⟩
   ·simp at h; subst h; simp only [VR] at hx; obtain⟨x,rfl⟩:=hx;exact⟨_,by simp [Builtin.len_,run_underlying hu]; rfl,by simp [VR,V.den,goInt]⟩
   ·simp at h; subst h; simp only [VR] at hx; obtain⟨⟨x,rfl⟩,_⟩:=hx;exact⟨_,by simp [Builtin.len_,run_underlying hu]; rfl,by simp [VR,V.den,goInt]⟩
   ·simp at h; subst h; simp only [VR] at hx; obtain⟨_,a,cap,rfl,_⟩:=hx;exact⟨_,by simp [Builtin.len_,run_underlying hu]; rfl,by simp [VR,V.den,goInt]⟩
   ·simp at h; subst h; simp only [VR] at hx; obtain⟨b,o,cap,us,rfl,_⟩:=hx;exact⟨_,by simp [Builtin.len_,run_underlying hu]; rfl,by simp [VR,V.den,goInt]⟩
   ·simp at h; subst h; simp only [VR] at hx; obtain⟨x,cap,rfl,_⟩:=hx.slice;exact⟨_,by simp [Builtin.len_,run_underlying hu]; rfl,by simp [VR,cC,goInt]⟩
   ·simp at h; subst h; simp only [VR] at hx; obtain⟨_,k,a,cap,h0,rfl,_⟩:=hx;exact⟨_,by simp [Builtin.len_,run_underlying hu]; rfl,by simp [VR,h0,goInt]⟩
   ·simp at h; subst h; simp only [VR] at hx; obtain⟨_,l,k,a,cap,_,h0,rfl,_⟩:=hx;exact⟨_,by simp [Builtin.len_,run_underlying hu]; rfl,by simp [VR,h0,goInt]⟩
   ·simp at h; subst h; simp only [VR] at hx;rcases hx with ⟨⟨x,cap,rfl⟩,h0⟩|⟨b,o,n,cap,rfl,_,h0,_⟩
    ·exact⟨_,by simp [Builtin.len_,run_underlying hu]; rfl,by simp [VR,V.den,goInt,h0]⟩
    ·exact⟨_,by simp [Builtin.len_,run_underlying hu]; rfl,by simp [VR,V.den,goInt,h0]⟩
   grind
  ·rename_i k e hk;have hu:=ra uF hk;simp at h;subst h;exact⟨_,by simp [Builtin.len_,run_underlying hu]; rfl,by simp [VR,V.den,goInt]⟩
  ·rename_i kt et hk;have hu:=sc uF hk;split at h
   ·simp at h; subst h; simp only [VR] at hx; subst hx;exact⟨_,by simp [Builtin.len_,run_underlying hu]; rfl,by simp [VR,V.den,goInt]⟩
   ·rename_i id;split at h
    ·rename_i es c hl;simp at h;subst h;simp only [VR] at hx;obtain⟨rfl,hid⟩:=hx;obtain⟨bL,c',g1,g2,gS⟩:=yC r hl;have hg:=ez (P:=P) g1 ad;have hlen:=g2.length;simp only [bh] at hlen;exact⟨_,by simp [Builtin.len_,run_underlying hu,hg]; rfl,by simp [VR,V.den,goInt,hlen]⟩
    ·rename_i e t' hl;simp at h;subst h;simp only [VR] at hx;obtain⟨rfl,hid⟩:=hx;obtain⟨_,ho,_⟩:=r.live _ _ hl;simp only [OR] at ho;obtain⟨bL,c',g1,g2⟩:=ho;have hg:=ez (P:=P) g1 ad;have hlen:=g2.length;simp only [bh] at hlen;exact⟨_,by simp [Builtin.len_,run_underlying hu,hg]; rfl,by simp [VR,cC,goInt,hlen]⟩
    ·rename_i e t' eR ov hl;simp at h;subst h;simp only [VR] at hx;obtain⟨rfl,hid⟩:=hx;obtain⟨_,ho,_⟩:=r.live _ _ hl;simp only [OR] at ho;obtain⟨_,bL,c',g1,g2⟩:=ho;have hg:=ez (P:=P) g1 ad;have hlen:=g2.length;simp only [bh] at hlen;exact⟨_,by simp [Builtin.len_,run_underlying hu,hg]; rfl,by simp [VR,cC,goInt,hlen]⟩
    grind
   grind
  grind
 grind
end
section
variable {P:Program} {E:En} {w:World}
structure Src (P:Program) (E:En) (w:World) (s m:Nat) (news:List W) (u:Value) (us:Array Value):Prop where
 len: ∀w2,(Builtin.lenOf u).run P w2= .ok m w2
 first: ∀w2:World,w2.heap=w.heap->(Builtin.firstCells s m u).run P w2= .ok us w2
 Uz:cB E w.heap news us.toList
 size:us.size=m*s
 rB: ∀x∈us.toList,x.oneCell'=true
theorem fI.QJ {b o n:Nat} {us:List Value} (hn:us.length=n) (h:fI w.heap b o us) (w2:World) (hw:w2.heap=w.heap):(loadCells ⟨b,o,none⟩ n).run P w2= .ok us.toArray w2:=
 rv hn (by rw [hw]; exact h)
theorem so {id off len cap:Nat} {a:Addr} {c:Mq} (hc:eE E id off len a cap c):a=⟨(E.θ id).1,(E.θ id).2+off,none⟩\/cap=0:=by
 cases c with
 |exact c=>
  simp only [eE] at hc
  grind
 |rest es=>
  simp only [eE] at hc
  grind
theorem uc [bI] {H:Hp} (r:bP E H w) {id o len cap s:Nat} {a:Addr} {c:Mq} {l:List W} (hid:E.dm id) (hc:eE E id o len a cap c) (hlen:len<=cap) (h:mw H (.ptr id o) (len*s)=some l) :
 ∃us:List Value,us.length=len*s/\cB E w.heap l us/\(∀u∈us,u.oneCell'=true)/\∀w2:World,w2.heap=w.heap->(loadCells a (len*s)).run P w2= .ok us.toArray w2:=by
 obtain⟨b,o',us,e1,e2,e3,e4,e5⟩:=vB r (p:=.ptr id o) (u:=.pointer (some ⟨(E.θ id).1,(E.θ id).2+o,none⟩)) (by simp only [VR]; exact⟨trivial,hid⟩) h;simp only [Value.pointer.injEq,ag,Addr.mk.injEq] at e1;obtain⟨e1a,e1b,_⟩:=e1;refine⟨us,e2,e3,e5,fun w2 hw=>?_⟩;rcases so hc with ha|ha
 ·rw [ha,e1a,e1b];exact e4.QJ e2 w2 hw
 ·obtain rfl:len=0:=J
  rw [ama] at e2 ⊢;rw [ame e2];rfl
theorem pP [bI] {H:Hp} (r:bP E H w) {s m:Nat} {y:W} {u:Value} {news:List W} (hy:VR E w.heap y u) (h:ri s y H=some (m,news)): ∃us,Src P E w s m news u us:=by
 unfold ri at h;split at h
 ·simp only [ag,ak] at h;obtain⟨rfl,rfl⟩:=h;simp only [VR] at hy;subst hy;exact⟨#[],fun _=>rfl,fun w2 _=>by simp [Builtin.firstCells],by simp [cB],ad,ad⟩
 ·rename_i id o len c;rw [aO] at h;obtain⟨l,U,Z⟩:=h;simp only [ak] at Z;obtain⟨rfl,rfl⟩:=Z;simp only [VR] at hy;obtain⟨hid,a,cap,rfl,hlen,hc⟩:=hy;obtain⟨us,e1,e2,e3,e4⟩:=uc (P:=P) r hid hc hlen U;exact⟨us.toArray,fun _=>rfl,fun w2 hw=>by simp only [Builtin.firstCells]; exact e4 w2 hw,by simpa using e2,by simpa using e1,by simpa using e3⟩
 ·rename_i cs n full;rw [aO] at h;obtain⟨l,U,Z⟩:=h;simp only [ak] at Z;obtain⟨rfl,rfl⟩:=Z;simp only [VR] at hy;obtain⟨b,o,cap,us,rfl,hn,hf,h4,h5,h6,h7⟩:=hy;obtain⟨g1,g2⟩:=h5.hU U;have hl:=h5.length;have htl:(us.take (n*s)).length=n*s:=by rw [aZ]; omega
  exact⟨(us.take (n*s)).toArray,fun _=>rfl,fun w2 hw=>by simp only [Builtin.firstCells]; exact (h6.take (n*s)).QJ htl w2 hw,by simpa using g1,by simpa using htl,
   fun x hx=>h7 x (al9 (by simpa using hx))⟩
 ·rename_i b;split at h
  ·rename_i hs;simp only [ag,ak] at h;obtain⟨rfl,rfl⟩:=h;simp only [VR] at hy;obtain⟨rfl,fe⟩:=hy;have gX:(de b).size=b.length:=kr b;have hex:(de b).extract 0 b.length=de b:=by rw [sg]; simp
   refine⟨(de b).data.map fun c=>Value.int .u8 (c.toNat:Int),fun w2=>by simp [Builtin.lenOf,gX],fun w2 _=>by simp [Builtin.firstCells,hex],?_,?_,?_⟩
   ·have:((de b).data.map fun c=>Value.int .u8 (c.toNat:Int)).toList=(b.map UInt8.ofNat).map fun c=>Value.int .u8 (c.toNat:Int):=by simp [de]
    rw [this];clear hex gX this
    induction b with
    |nil=>simp [cB]
    |cons x b ih=> have hx:=fe x ad;rw [ax,ax,ax,bV];refine⟨_,_,rfl,?_,ih fun c hc=>fe c (by simp [hc])⟩;simp [VR,V.den,amu,amo hx]
   ·simp_all
   ·intro x hx;simp only [anB,aT] at hx;obtain⟨c,_,rfl⟩:=hx;rfl
  grind
 grind
theorem kg {t t2 ty e s m n cap:Nat} {d2:TypeDesc} {inf:TypeInfo} {a:Option Addr} {u2:Value} {us:Array Value} {news:List W} {w':World} (ht:P.underlying t=some (.slice e)) (xR:P.underlying t2=some d2)
 (jP: ∀k,d2≠.int k) (hi:P.info? e=some inf) (hs:inf.size=s) (src:Src P E w s m news u2 us) (jZ:n+m<=cap)
 (Br:match a with |some a=>(storeCells (a.add (n*s)) us.toList).run P w= .ok () w'|none=>w'=w) :
 (Builtin.append_ #[t,t2] ty #[.slice a n cap,u2]).run P w= .ok (.slice a (n+m) cap) w':=by
 have hf:=src.first w rfl;have hl:=src.len w
 cases a with
 |none=> simp only at Br;subst Br;simp [Builtin.append_,run_underlying ht,run_underlying xR,sizeOf,typeInfo,hi,hs,hl,jZ,hf]
 |some a=> simp only at Br;simp [Builtin.append_,run_underlying ht,run_underlying xR,sizeOf,typeInfo,hi,hs,hl,jZ,hf,Br]
theorem L7 {t t2 ty e s m n cap:Nat} {d2:TypeDesc} {inf:TypeInfo} {z u u2:Value} {us olds:Array Value} {news:List W} (ht:P.underlying t=some (.slice e)) (xR:P.underlying t2=some d2)
 (jP: ∀k,d2≠.int k) (hi:P.info? e=some inf) (hs:inf.size=s) (hz:inf.zero=some z) (Y:inf.bytes≠0) (src:Src P E w s m news u2 us) (jZ:cap<n+m) (hbound:(n+m)*inf.bytes<=140737488355328)
 (a:Option Addr) (hu:u= .slice a n cap) (hold: ∀w2:World,w2.heap=w.heap->(Builtin.firstCells s n u).run P w2= .ok olds w2) :
 (Builtin.append_ #[t,t2] ty #[u,u2]).run P w= .ok (.slice (some ⟨w.heap.size,0,none⟩) (n+m) (grownCap w (n+m) cap e))
  (w.drew.alloc (.cells (olds++us++Builtin.zeroCells z.cells (grownCap w (n+m) cap e-(n+m))) e)):=by
 subst hu;have hf:=src.first w.drew rfl;have ho:=hold w.drew rfl;have hl:=src.len w;have hn: ¬(n+m<=cap):=J
 have h48: ¬(281474976710656<Builtin.nextslicecap (n+m) cap*inf.bytes):=by
  have U:Builtin.nextslicecap (n+m) cap*inf.bytes<=2*(n+m)*inf.bytes:=amv _ (nextslicecap_le jZ)
  grind
 have alc: ¬(2 ^ 48<Builtin.nextslicecap (n+m) cap*inf.bytes):=h48;simp [Builtin.append_,run_underlying ht,run_underlying xR,sizeOf,typeInfo,zeroValue,hi,hs,hz,hl,hn,Y,alc,Question.forced,ho,hf,newRow,grownCap]
theorem oN [bI] {t t2 ty:Nat} {H H':Hp} (r:bP E H w) {ie:TI} {e n m cap:Nat} {cs news old:List W} {v:W} {d2:TypeDesc} {u2:Value} {us olds:Array Value} (uG:ma P e ie)
 (ht:P.underlying t=some (.slice e)) (xR:P.underlying t2=some d2) (jP: ∀k,d2≠.int k) (sO:ie.bytes≠0) (vP:ie.zero.length=ie.size)
 (src:Src P E w ie.size m news u2 us) (jZ:cap<n+m) (a:Option Addr) (UH:cs=old++news)
 (r7:cB E w.heap old olds.toList) (ho1: ∀x∈olds.toList,x.oneCell'=true) (hos:olds.size=n*ie.size)
 (hold: ∀w2:World,w2.heap=w.heap->(Builtin.firstCells ie.size n (.slice a n cap)).run P w2= .ok olds w2) (h:nh ie e n m cs H=some (v,H')) :
 ∃x w' E',(Builtin.append_ #[t,t2] ty #[.slice a n cap,u2]).run P w= .ok x w'/\eM E H w E' H' w'/\bP E' H' w'/\VR E' w'.heap v x:=by
 subst UH;unfold nh at h;split at h
 ·rename_i hbound;simp only [ag,ak] at h;obtain⟨rfl,rfl⟩:=h;obtain⟨inf,d,z,U,Z,h3,h4,h5,h6,h7,h8⟩:=uG.all;have hz:=eO (E:=E) (h:=w.heap) h4;have hzs:z.cells.size=ie.size:=by have:=hz.1.length; simp only [bh] at this; omega
  have N8:=grownCap_ge w (n+m) cap e;have N2:=src.size
  obtain⟨s1,s2⟩:=iy r (olds++us++Builtin.zeroCells z.cells (grownCap w (n+m) cap e-(n+m))) 0 0 e (r7.append src.Uz)
   (by intro x hx; rcases amb.1 hx with hx|hx; exact ho1 x hx; exact src.rB x hx)
   (by
    intro i x hx;have hi:=(aW.1 hx).1;rw [anZ (by simpa using hi)];rw [<- br,Array.toList_append]
    exact hx)
   J (w':=w.drew.alloc (.cells (olds++us++Builtin.zeroCells z.cells (grownCap w (n+m) cap e-(n+m))) e)) rfl ⟨rfl,rfl,rfl⟩
  refine⟨_,_,_,L7 (s:=ie.size) ht xR jP U h5 h3 (by rw [h6]; exact sO) src jZ (by rw [h6]; exact hbound) a rfl hold,s1,s2,?_⟩;simp only [VR];refine⟨En.gp _ _ _ _,_,_,rfl,N8,?_⟩;simp only [eE,En.ext_θ_new,En.ext_κ_new];left;refine⟨trivial,?_⟩;simp only [Array.size_append,size_zeroCells,hos,N2,hzs,<- amd]
  grind
 grind
set_option maxHeartbeats 800000 in
theorem vk [bI] {t t2 ty:Nat} {H H':Hp} (r:bP E H w) {ie:TI} {e m:Nat} {news:List W} {x v:W} {d2:TypeDesc} {u u2:Value} {us:Array Value} (uG:ma P e ie)
 (ht:P.underlying t=some (.slice e)) (xR:P.underlying t2=some d2) (jP: ∀k,d2≠.int k) (wP:ie.size≠0) (sO:ie.bytes≠0) (vP:ie.zero.length=ie.size)
 (src:Src P E w ie.size m news u2 us) (hx:VR E w.heap x u) (h:pE ie e m news x H=some (v,H')) :
 ∃y w' E',(Builtin.append_ #[t,t2] ty #[u,u2]).run P w= .ok y w'/\eM E H w E' H' w'/\bP E' H' w'/\VR E' w'.heap v y:=by
 obtain⟨inf,d,z,U,Z,h3,h4,h5,h6,h7,h8⟩:=uG.all;have lA:0<ie.size:=J
 have TO:=src.Uz.length;have IH:=src.size;simp only [bh] at TO;unfold pE at h;split at h
 ·
  simp only [VR] at hx;subst hx;split at h
  ·rename_i hm;subst hm;simp only [ag,ak] at h;obtain⟨rfl,rfl⟩:=h;exact⟨_,w,E,kg (s:=ie.size) ht xR jP U h5 src (au _) (by simp only),eM.refl _ _ _,r,by simp [VR]⟩
  ·rename_i hm;exact oN (cap:=0) r uG ht xR jP sO vP src J none (old:=[]) (olds:=#[]) ad (by simp [cB]) ad ad (fun w2 _=>by simp [Builtin.firstCells]) h
 ·
  rename_i id o len c;have hx0:=hx;simp only [VR] at hx;obtain⟨hid,a,cap,rfl,hlen,hc⟩:=hx;have gJ:cap=c:=by simp only [eE] at hc; exact hc.1
  subst gJ;split at h
  ·rename_i jZ;split at h
   ·rename_i cs e' hl;split at h
    ·rename_i lJ hs;simp only [ag,ak] at h;obtain⟨rfl,rfl⟩:=h;obtain⟨w',g1,g2,g3⟩:=lL (P:=P) r hl hs src.Uz src.rB
     have Br:(storeCells (a.add (len*ie.size)) us.toList).run P w= .ok () w':=by
      rcases so hc with ha|ha
      ·rw [ha,eT,al8]; exact g1
      ·obtain rfl:m=0:=J
       have nJ:us.toList= []:=ame (by rw [bh,IH,ama]);rw [nJ] at g1 ⊢;exact g1
     refine⟨_,w',E,kg (s:=ie.size) ht xR jP U h5 src jZ Br,g2,g3,?_⟩;simp only [VR];refine⟨hid,a,cap,rfl,jZ,?_⟩;simp only [eE] at hc ⊢;exact hc
    ·simp at h
   ·simp at h
  ·rename_i jZ;split at h
   ·rename_i old hold;obtain⟨ols,f1,f2,f3,f4⟩:=uc (P:=P) r hid hc hlen hold
    exact oN (cap:=cap) r uG ht xR jP sO vP src J (some a) (old:=old) (olds:=ols.toArray) rfl (by simpa using f2) (by simpa using f3) (by simpa using f1)
     (fun w2 hw=>by simp only [Builtin.firstCells]; exact f4 w2 hw) h
   ·simp at h
 ·
  rename_i id o len es;split at h
  ·rename_i jD;subst jD;simp only [VR] at hx;obtain⟨hid,a,cap,rfl,hlen,hc⟩:=hx;split at h
   ·rename_i cs e' hl;obtain⟨arr,lo,hi,cus,b1,b2,b3,b4,b5,b6,b7⟩:=(r.live id _ hl).2.1;split at h
    ·rename_i hle;split at h
     ·rename_i lJ hs;simp only [ag,ak] at h;obtain⟨rfl,rfl⟩:=h;obtain⟨w',g1,g2,g3⟩:=lL (P:=P) r hl hs src.Uz src.rB
      have jZ:len+m<=cap:=by
       simp only [eE] at hc;rcases hc with ⟨_,hc⟩|⟨rfl,rfl,hc⟩
       ·have:(len+m)*ie.size<=cap*ie.size:=J
        exact anC this lA
       ·have:(0+m)*ie.size=0:=J
        rcases Nat.mul_eq_zero.1 this with hh|hh<;>omega
      have Br:(storeCells (a.add (len*ie.size)) us.toList).run P w= .ok () w':=by
       rcases so hc with ha|ha
       ·rw [ha,eT,al8]; exact g1
       ·obtain rfl:m=0:=J
        have nJ:us.toList= []:=ame (by rw [bh,IH,ama]);rw [nJ] at g1 ⊢;exact g1
      refine⟨_,w',E,kg (s:=ie.size) ht xR jP U h5 src jZ Br,g2,g3,?_⟩;simp only [VR];refine⟨hid,a,cap,rfl,jZ,?_⟩;simp only [eE] at hc ⊢;rcases hc with hc|⟨rfl,rfl,hc⟩
      ·exact .inl hc
      ·exact .inr ⟨rfl,J,hc⟩
     ·simp at h
    ·rename_i akM;split at h
     ·rename_i Yg;obtain⟨Yg,rfl⟩:=Yg;split at h
      ·rename_i old hd;obtain⟨d1,d2',d3⟩:=b2.eD hd;have Cr:=b2.length
       have hm0:m≠0:=by intro hm;subst hm;rw [bd] at akM;omega
       by_cases jZ:len+m<=cap
       ·
        have ae1:a=⟨(E.θ id).1,(E.θ id).2+o,none⟩/\o+cap*ie.size=E.κ id:=by
         simp only [eE] at hc;rcases hc with hc|hc
         ·exact hc
         ·omega
        obtain⟨rfl,alY⟩:=ae1;unfold nh at h;split at h
        ·simp only [ag,ak] at h;obtain⟨rfl,rfl⟩:=h;have UG:len*ie.size+m*ie.size<=cap*ie.size:=by rw [<- amd]; exact amv _ jZ
         have hul:us.toList.length=m*ie.size:=by simpa using IH
         obtain⟨w',JH,e1,e2,e3,e4,e5,e6,e7⟩:=mu (P:=P) (E.θ id).1 ((E.θ id).2+(o+len*ie.size)) e' lo hi us.toList 0 arr w b1 b6 J src.rB
         have Br:(storeCells ((⟨(E.θ id).1,(E.θ id).2+o,none⟩ : Addr).add (len*ie.size)) us.toList).run P w= .ok () w':=by rw [eT,al8]; exact e1
         have kp:fg E w.heap (E.ext H.fresh ((E.θ id).1,(E.θ id).2+o) (cap*ie.size)) w'.heap:=
          ⟨rfl,fun _ hh=> .inr hh,fun _ hh=>En.ext_θ E _ _ _ (r.qz hh),fun _ hh=>En.ext_κ E _ _ _ (r.qz hh),fun _ hh=>hh,(jY r hl e4).Ba⟩
         have Bq:=Nw r hl (.cells (old++news) e') o (cap*ie.size) e3 e4 e2 (by
          simp only [OR,En.ext_θ_new,En.ext_κ_new];refine⟨JH,lo,hi,cus.drop o++us.toList,e5,cB.bX kp _ _ (d1.append src.Uz),?_,?_,J,by rw [e6]; exact b6,?_⟩
          ·intro i y hy;rw [e7];have hdl:(cus.drop o).length=len*ie.size:=by rw [al6]; omega
           rw [anw] at hy;split at hy
           ·rename_i hi';rw [af J];rw [amF] at hy;rw [al8];exact b3 _ _ hy
           ·rename_i hi';have II:=(aW.1 hy).1;rw [ah J];rw [show (E.θ id).2+o+i-((E.θ id).2+(o+len*ie.size)+0)=i-(cus.drop o).length from by omega];exact hy
          ·rw [a8,d3]; omega
          ·intro y hy;rcases amb.1 hy with hy|hy
           ·exact b7 y (bq hy)
           ·exact src.rB y hy)
         refine⟨_,w',_,kg (s:=ie.size) ht xR jP U h5 src jZ Br,Bq.1,Bq.2,?_⟩;simp only [VR,show (H.drop id).fresh=H.fresh from rfl];refine⟨En.gp _ _ _ _,_,_,rfl,jZ,?_⟩;simp only [eE,En.ext_θ_new,En.ext_κ_new];left;exact⟨ad,J⟩
        ·simp at h
       ·
        have aiz:mw H (.ptr id o) (len*ie.size)=some old:=by
         simp only [mw,hl,hd];have:len*ie.size=old.length:=J
         rw [this];clear h hd d1 d3 this
         induction old with
         |nil=>rfl
         |cons y ys ih=>simp [As.hU,ih]
        obtain⟨ols,f1,f2,f3,f4⟩:=uc (P:=P) r hid hc hlen aiz;obtain⟨q1,q2⟩:=vZ r id;have aj7:Src P E w ie.size m news u2 us:=src
        obtain⟨y,w',E',p1,p2,p3,p4⟩:=oN (t:=t) (t2:=t2) (ty:=ty) (cap:=cap) q2 uG ht xR jP sO vP aj7 J (some a) (old:=old) (olds:=ols.toArray) rfl (by simpa using f2) (by simpa using f3) (by simpa using f1)
         (fun w2 hw=>by simp only [Builtin.firstCells]; exact f4 w2 hw) h
        exact⟨y,w',E',p1,q1.trans p2,p3,p4⟩
      ·simp at h
     ·simp at h
   ·simp at h
  ·simp at h
 ·
  rename_i cs n full;have hx0:=hx;simp only [VR] at hx;obtain⟨b,o,cap,cus,rfl,hn,hf,g4,g5,g6,g7⟩:=hx;split at h
  ·rename_i hm;subst hm;simp only [ag,ak] at h;obtain⟨rfl,rfl⟩:=h;have nJ:us.toList= []:=ame (by rw [bh,IH,ama]);exact⟨_,w,E,kg (s:=ie.size) ht xR jP U h5 src J (by simp only [nJ]; rfl),eM.refl _ _ _,r,hx0⟩
  ·rename_i hm;split at h
   ·rename_i GO;have gJ:=hf GO;subst gJ;split at h
    ·rename_i old hold;obtain⟨j1,j2⟩:=g5.hU hold;have Cr:=g5.length;have htl:(cus.take (cap*ie.size)).length=cap*ie.size:=by rw [aZ]; omega
     exact oN (cap:=cap) r uG ht xR jP sO vP src J (some ⟨b,o,none⟩) (old:=old) (olds:=(cus.take (cap*ie.size)).toArray) rfl (by simpa using j1)
      (fun x hx=>g7 x (al9 (by simpa using hx))) (by simpa using htl)
      (fun w2 hw=>by simp only [Builtin.firstCells]; exact (g6.take _).QJ htl w2 hw) h
    ·simp at h
   ·simp at h
 ·simp at h
theorem LF [bI] {tt:TT} (cJ:ep P tt) {H H':Hp} (r:bP E H w) {t t2 ty:Nat} {x y v:W} {u u2:Value} (hx:VR E w.heap x u) (hy:VR E w.heap y u2) (h:Ei tt t t2 x y H=some (v,H')) :
 ∃z w' E',(Builtin.append_ #[t,t2] ty #[u,u2]).run P w= .ok z w'/\eM E H w E' H' w'/\bP E' H' w'/\VR E' w'.heap v z:=by
 unfold Ei at h;split at h
 ·rename_i ti fL;split at h
  ·rename_i e hk;split at h
   ·rename_i ie kA;split at h
    ·grind
    ·rename_i PC XY;obtain⟨d2,jP,Cp⟩:=rG (cJ t2 PC XY);split at h
     ·grind
     ·rename_i k2 fZ;split at h
      ·grind
      ·rename_i iV;simp only [not_or,Classical.not_not] at iV;split at h
       ·grind
       ·rename_i m news N2;obtain⟨us,src⟩:=pP (P:=P) r hy N2;refine vk r (cJ e ie kA) (eW (cJ t ti fL) hk) jP ?_ iV.1 iV.2.1 iV.2.2 src hx h;intro k hd;subst hd;cases sK:PC.kind<;>rw [sK] at Cp<;>simp only [HD] at Cp
        grind
   grind
  grind
 grind
end
section
variable {P:Program} {E:En} {w:World}
theorem OI [bI] {tt:TT} (cJ:ep P tt) {H H':Hp} (r:bP E H w) {t ty:Nat} {x:W} {u:Value} (hx:VR E w.heap x u) (h:Je tt t x H=some H') :
 ∃w',(Builtin.clear_ #[t] ty #[u]).run P w= .ok (.tuple #[]) w'/\eM E H w E H' w'/\bP E H' w':=by
 unfold Je at h;split at h
 ·rename_i ti fL;split at h
  ·rename_i e hk;have hu:=eW (cJ t ti fL) hk;split at h
   ·rename_i ie kA;obtain⟨inf,d,z,U,Z,h3,h4,h5,h6,h7,h8⟩:=(cJ e ie kA).all;have hz:=eO (E:=E) (h:=w.heap) h4;split at h
    ·simp at h;subst h;simp only [VR] at hx;subst hx;exact⟨w,by simp [Builtin.clear_,run_underlying hu],eM.refl _ _ _,r⟩
    ·simp at h;subst h;simp only [VR] at hx;obtain⟨⟨x,rfl⟩,_⟩:=hx;exact⟨w,by cases x<;>simp [Builtin.clear_,run_underlying hu],eM.refl _ _ _,r⟩
    ·rename_i id o len c;simp only [VR] at hx;obtain⟨hid,a,cap,rfl,hlen,hc⟩:=hx;split at h
     ·simp at h;subst h;exact⟨w,by simp [Builtin.clear_,run_underlying hu],eM.refl _ _ _,r⟩
     ·rename_i hl0;split at h
      ·grind
      ·rename_i fZ;split at h
       ·rename_i cs e' hl;split at h
        ·rename_i lJ hs;simp at h;subst h
         have ha:a=⟨(E.θ id).1,(E.θ id).2+o,none⟩:=by
          grind [so]
         have aeO:z.cells.toList≠[]:=by
          intro hx;have:=hz.1.length
          grind
         have hzc:(Builtin.zeroCells z.cells len).toList=dK z.cells.toList len:=tT z.cells aeO len;obtain⟨w',g1,g2,g3⟩:=lL (P:=P) r hl hs (lW hz.1 len) (fun u hu=>hz.2 u (lV hu));refine⟨w',?_,g2,g3⟩;subst ha;obtain⟨l,rfl⟩ : ∃l,len=l+1:=⟨len-1,by have:len≠0:=fun hh=>hl0 hh; omega⟩;simp [Builtin.clear_,run_underlying hu,zeroValue,typeInfo,U,h3,hzc,g1]
        grind
       grind
    grind
   grind
  grind
 grind
theorem Ou [bI] {tt:TT} (cJ:ep P tt) {H H':Hp} (r:bP E H w) {t:Nat} {x v:W} {u:Value} (hx:VR E w.heap x u) (h:I4 tt t x H=some (v,H')) :
 ∃y w' E',(Instr.range t u).run P w= .ok y w'/\eM E H w E' H' w'/\bP E' H' w'/\VR E' w'.heap v y:=by
 unfold I4 at h;split at h
 ·rename_i ti fL;split at h
  ·rename_i hk;split at h
   ·rename_i b;simp only [ag,ak] at h;obtain⟨rfl,rfl⟩:=h;simp only [VR] at hx;obtain⟨rfl,fe⟩:=hx
    obtain⟨s1,s2⟩:=oX r (.stringIter (de b) 0) (.jS b 0) 0 (w':=w.iter (de b) 0) rfl ⟨rfl,rfl,rfl⟩ (by
     simp only [OR,En.ext_θ_new]
     exact⟨World.iter_heap _ _ _,trivial,fe⟩)
    exact⟨_,_,_,run_range_string w t (de b) (fB (cJ t ti fL) hk),s1,s2,yp r 0 _ 0⟩
   grind
  ·rename_i kt et hk;have hu:=sc (cJ t ti fL) hk;split at h
   ·simp only [ag,ak] at h;obtain⟨rfl,rfl⟩:=h;simp only [VR] at hx;subst hx
    obtain⟨s1,s2⟩:=oX r (.mapIter none 0 #[] 0) (.ji none 0 [] 0) 0 (w':={ w with heap:=w.heap.push (.mapIter none 0 #[] 0) }) rfl ⟨rfl,rfl,rfl⟩ (by
     simp only [OR,En.ext_θ_new]
     exact⟨ad,trivial⟩)
    exact⟨.pointer (some ⟨w.heap.size,0,none⟩),_,_,by simp [Instr.range,run_underlying hu],s1,s2,yp r 0 _ 0⟩
   ·rename_i id;split at h
    ·rename_i es c hl;simp only [ag,ak] at h;obtain⟨rfl,rfl⟩:=h;simp only [VR] at hx;obtain⟨rfl,hid⟩:=hx;obtain⟨bL,c',g1,g2,gS⟩:=(r.live id _ hl).2.1;have hg:=ez (P:=P) g1 ad;have hc:=gS.1;subst hc
     obtain⟨s1,s2⟩:=oX r (.mapIter (some (E.θ id).1) c' #[] c') (.ji (some id) c' [] c') 0 (w':={ w with heap:=w.heap.push (.mapIter (some (E.θ id).1) c' #[] c') }) rfl ⟨rfl,rfl,rfl⟩ (by
      simp only [OR,En.ext_θ_new];rw [En.ext_θ _ _ _ _ (r.qz hid)]
      exact⟨ad,trivial,.inr hid⟩)
     exact⟨.pointer (some ⟨w.heap.size,0,none⟩),_,_,by simp [Instr.range,run_underlying hu,hg],s1,s2,yp r 0 _ 0⟩
    ·simp at h
   ·simp at h
  grind
 grind
theorem T6 [bI] {H H':Hp} (r:bP E H w) {x v:W} {u:Value} {isS:Bool} (hx:VR E w.heap x u) (h:Ow x isS H=some (v,H')) (ty:Nat) :
 ∃y w',(Instr.next u isS ty).run P w= .ok y w'/\eM E H w E H' w'/\bP E H' w'/\VR E w'.heap v y:=by
 unfold Ow at h;split at h
 ·have over:VR E w.heap (.tuple [.bool (.lit false)]) (.tuple #[.bool false]):=by
   simp only [VR,cB]; exact⟨[.bool false],rfl,_,_,rfl,by simp [SB.den],rfl⟩
  split at h
  ·rename_i id;simp only [VR] at hx;obtain⟨rfl,hid⟩:=hx;split at h
   ·rename_i s l z hl;simp only [ag,ak] at h;obtain⟨rfl,rfl⟩:=h;obtain⟨g1,g2⟩:=(r.live id _ hl).2.1;rw [g2];have hg:=ez (P:=P) g1 ad;exact⟨_,w,by simp only [Instr.next,Sem.run_bind,hg,Result.andThen_ok,bd]; rfl,eM.refl _ _ _,r,over⟩
   ·rename_i m s l z hl;obtain⟨g1,g2,g3⟩:=(r.live id _ hl).2.1;rw [g2];have hg:=ez (P:=P) g1 ad;split at h
    ·rename_i cc hm;simp only [ag,ak] at h;obtain⟨rfl,rfl⟩:=h;obtain⟨bL,c',m1,m2,m3⟩:=(r.live m _ hm).2.1;simp only [eB] at m2;have Lh:bL= #[]:=by simpa using m2
     subst Lh;have hgm:=ez (P:=P) m1 ad;refine⟨_,w,?_,eM.refl _ _ _,r,over⟩;simp only [Instr.next,Sem.run_bind,hg,hgm,Result.andThen_ok,bd];have hf: ∀p:MapEntry->Bool,Array.filter p #[] 0 0= #[]:=fun _=>rfl;simp [choose,Sem.run,Question.forced,Result.andThen,hf]
    ·rename_i k v n c hm;obtain⟨bL,c',m1,m2,m3⟩:=(r.live m _ hm).2.1;simp only [eB] at m2;obtain⟨e,r0,he,hek,hev,_,rfl⟩:=m2;have Lh:bL= #[e]:=by apply anu.1; simpa using he
     subst Lh;have hgm:=ez (P:=P) m1 ad;obtain⟨hc,Y⟩:=m3;simp at Y;subst hc;subst Y;split at h
     ·split at h
      ·rename_i fe;simp only [ag,ak] at h;obtain⟨rfl,rfl⟩:=h
       obtain⟨s1,s2⟩:=gb r hl (.ji (some m) s [e.born] c') (.mapIter (some (E.θ m).1) s #[e.born] c') (by
        intro h' hh _
        exact⟨hh,g2,g3⟩)
       refine⟨.tuple #[.bool true,e.key,e.val],_,?_,s1,s2,?_⟩
       ·simp only [Instr.next,Sem.run_bind,hg,hgm,Result.andThen_ok,bd];have h0: ¬s<=e.born:=J
        simp [choose,Sem.run,Question.forced,Result.andThen,fe,h0,g1,setObj,Sem.run_bind]
       ·have kp:fg E w.heap E (w.heap.setIfInBounds (E.θ id).1 (.mapIter (some (E.θ m).1) s #[e.born] c')):=
         jY (w':={ w with heap:=w.heap.setIfInBounds (E.θ id).1 (.mapIter (some (E.θ m).1) s #[e.born] c') }) r hl fun b Y=>by
          show (w.heap.setIfInBounds (E.θ id).1 _)[b]?=_
          grind
        simp only [VR,cB];exact⟨_,rfl,_,_,rfl,by simp [SB.den],_,_,rfl,VR.bX kp _ _ hek,_,_,rfl,VR.bX kp _ _ hev,rfl⟩
      ·simp at h
     ·rename_i y;split at h
      ·rename_i hy;obtain⟨rfl,fe⟩:=hy;simp only [ag,ak] at h;obtain⟨rfl,rfl⟩:=h;refine⟨_,w,?_,eM.refl _ _ _,r,over⟩;simp only [Instr.next,Sem.run_bind,hg,hgm,Result.andThen_ok,bd];have h0: ¬z<=e.born:=J
       simp [choose,Sem.run,Question.forced,Result.andThen,h0]
      ·simp at h
     ·simp at h
    ·simp at h
   ·simp at h
  ·simp at h
 ·split at h
  ·rename_i id;split at h
   ·rename_i b p hl;obtain⟨g1,g2,g3⟩:=(r.live id _ hl).2.1;simp only [VR] at hx;obtain⟨rfl,hid⟩:=hx;rw [g2];have hg:=ez (P:=P) g1 ad;split at h
    ·rename_i hn;simp only [ag,ak] at h;obtain⟨rfl,rfl⟩:=h;rw [di,am2] at hn;have hp: ¬p<(de b).size:=by rw [kr]; omega
     refine⟨.tuple #[.bool false],w,?_,eM.refl _ _ _,r,?_⟩
     ·simp [Instr.next,hg,hp]
     ·simp only [VR,cB]; exact⟨[.bool false],rfl,_,_,rfl,by simp [SB.den],rfl⟩
    ·rename_i c hn;split at h
     ·rename_i hc;simp only [ag,ak] at h;obtain⟨rfl,rfl⟩:=h;rw [di] at hn;have hpl:=(aW.1 hn).1;have hp:p<(de b).size:=by rw [kr]; exact hpl
      have Y:(de b)[p]'hp=UInt8.ofNat c:=by
       have U:(de b)[p]?=some ((de b)[p]'hp):=getElem?_pos (de b) p hp
       grind [CX]
      have hbn:((de b)[p]'hp).toNat=c:=by rw [Y]; simp; omega
      have ak5:=decode_ascii (de b) p hp (by rw [hbn]; exact hc)
      obtain⟨s1,s2⟩:=gb r hl (.jS b (p+1)) (.stringIter (de b) (p+1)) (by
       intro h' hh _
       exact⟨hh,g2,g3⟩)
      refine⟨.tuple #[.bool true,goInt p,.int .i32 ((de b)[p]'hp).toNat],_,?_,s1,s2,?_⟩
      ·simp only [Instr.next,Sem.run_bind,hg,Result.andThen_ok,hp,if_true,ak5,gk (P:=P) g1 ad,Sem.run_pure]
      ·simp only [VR,cB,hbn];exact⟨_,rfl,_,_,rfl,by simp [SB.den],_,_,rfl,by simp [V.den,goInt],_,_,rfl,by simp [V.den],rfl⟩
     grind
   grind
  grind
theorem OE [bI] {H:Hp} (r:bP E H w) {x v:W} {u:Value} (hx:VR E w.heap x u) (h:Jb x H=some v) :
 ∃y,(Instr.entry u).run P w= .ok y w/\VR E w.heap v y:=by
 unfold Jb at h;split at h
 ·rename_i id;simp only [VR] at hx;obtain⟨rfl,hid⟩:=hx;split at h
  ·rename_i m s y z hl;obtain⟨g1,g2,g3⟩:=(r.live id _ hl).2.1;rw [g2];have hg:=ez (P:=P) g1 ad;split at h
   ·rename_i k v n c hm;obtain⟨bL,c',m1,m2,m3⟩:=(r.live m _ hm).2.1;simp only [eB] at m2;obtain⟨e,r0,he,hek,hev,_,rfl⟩:=m2;have Lh:bL= #[e]:=by apply anu.1; simpa using he
    subst Lh;have hgm:=ez (P:=P) m1 ad;obtain⟨hc,Y⟩:=m3;simp at Y;split at h
    ·rename_i hy;obtain⟨rfl,rfl⟩:=hy;simp only [ag] at h;subst h hc Y;refine⟨.tuple #[e.key,e.val],?_,?_⟩
     ·simp only [Instr.entry,Sem.run_bind,hg,hgm,Result.andThen_ok,bd];simp [hgm]
     ·simp only [VR,cB];exact⟨_,rfl,_,_,rfl,hek,_,_,rfl,hev,rfl⟩
    ·simp at h
   ·simp at h
  ·simp at h
 ·simp at h
theorem Ig {ρ:Nat->Int} {pc:List (SB×Bool)} (hp:bW ρ pc) {c:SB} {b:Bool} (h:c.den ρ=b):bW ρ ((c,b)::pc):=by
 intro d x hm;rcases aw.1 hm with hm|hm
 ·grind
 ·exact hp d x hm
theorem cH {α:Type} {ρ:Nat->Int} {s:St} (hp:bW ρ s.pc) {c:SB} {f:St->Bool->T α} {r:α} (h:(jz s c f).leaf ρ=some r) :
 ∃dZ,bW ρ dZ/\(f { s with pc:=dZ } (c.den ρ)).leaf ρ=some r:=by
 unfold jz at h;split at h
 ·rename_i b Y;exact⟨s.pc,hp,by rw [gq hp Y]; exact h⟩
 ·split at h
  ·rename_i d;simp only [T.leaf] at h;split at h
   ·rename_i hc;exact⟨_,Ig hp hc,by simp only [SB.den,hc]; exact h⟩
   ·rename_i hc;exact⟨_,Ig hp hc,by simp only [SB.den,hc]; exact h⟩
  ·simp only [T.leaf] at h
   grind [Ig]
theorem T.eX {α β:Type} {ρ:Nat->Int} {f:α->T β} {r:β}: ∀{x:T α},(x.bind f).leaf ρ=some r->∃a,x.leaf ρ=some a/\(f a).leaf ρ=some r
 | .fail,h=>by simp [T.bind,T.leaf] at h
 | .ret a,h=> ⟨a,rfl,h⟩
 | .split c x y,h=>by simp only [T.bind,T.leaf] at h ⊢;split at h<;>exact T.eX h
theorem nj {mx:Bool}: ∀{xs:List W} {a:V} {k:IntKind} {s s':St} {us:List Value} {v:W},bW E.ρ s.pc->cB E w.heap xs us->(sV mx xs a k s).leaf E.ρ=some (v,s')->
 s'.h=s.h/\s'.bD=s.bD/\bW E.ρ s'.pc/\∃u,(us.foldlM (if mx then Builtin.max2 else Builtin.min2) (.int k (a.den E.ρ))).run P w= .ok u w/\VR E w.heap v u
 |[],a,k,s,s',us,v,hp,hv,h=>by simp only [sV,T.leaf,ag,ak] at h;obtain⟨rfl,rfl⟩:=h;rw [gP] at hv;subst hv;exact⟨rfl,rfl,hp,_,rfl,by simp only [VR]⟩
 |x::xs,a,k,s,s',us,v,hp,hv,h=>by
  rw [bV] at hv;obtain⟨u,vs,rfl,hx,mJ⟩:=hv;cases x<;>simp only [sV,T.leaf,reduceCtorEq] at h;rename_i k' b;simp only [VR] at hx;subst hx;obtain⟨dZ,fh,U⟩:=cH hp h;cases mx
  ·simp only [aL,if_false,dR] at U ⊢;by_cases hc:b.den E.ρ<a.den E.ρ
   ·simp only [hc,decide_true,if_true] at U;obtain⟨q1,q2,q3,u,q4,q5⟩:=nj fh mJ U;refine⟨q1,q2,q3,u,?_,q5⟩;simp only [ang,Sem.run_bind,Builtin.min2,Sem.run_pure,Result.andThen_ok,hc,if_true]
    grind
   ·simp only [hc,decide_false,aL,if_false] at U;obtain⟨q1,q2,q3,u,q4,q5⟩:=nj fh mJ U;refine⟨q1,q2,q3,u,?_,q5⟩;simp only [ang,Sem.run_bind,Builtin.min2,Sem.run_pure,Result.andThen_ok,hc,if_false]
    grind
  ·simp only [if_true,dR] at U ⊢;by_cases hc:a.den E.ρ<b.den E.ρ
   ·simp only [hc,decide_true,if_true] at U;obtain⟨q1,q2,q3,u,q4,q5⟩:=nj fh mJ U;refine⟨q1,q2,q3,u,?_,q5⟩;simp only [ang,Sem.run_bind,Builtin.max2,Sem.run_pure,Result.andThen_ok,gt_iff_lt,hc,if_true]
    grind
   ·simp only [hc,decide_false,aL,if_false] at U;obtain⟨q1,q2,q3,u,q4,q5⟩:=nj fh mJ U;refine⟨q1,q2,q3,u,?_,q5⟩;simp only [ang,Sem.run_bind,Builtin.max2,Sem.run_pure,Result.andThen_ok,gt_iff_lt,hc,if_false]
    grind
end
section
variable {P:Program} {E:En} {w:World}
theorem S7 (ρ:Nat->Int) (a b:SB):(WV a b).den ρ=(a.den ρ&&b.den ρ):=by unfold WV;split<;>simp [SB.den]
theorem Uc {i:TI} {t:Nat} (fL:ma P t i) {x y:W} {u v:Value} (hx:VR E w.heap x u) (hy:VR E w.heap y v) {c:SB} (h:OM i.kind x y=some c) (d:Nat) :
 (Op.equalIn (d+1) t u v).run P w= .ok (c.den E.ρ) w/\u.oneCell'=true/\v.oneCell'=true/\i.agg=false:=by
 unfold OM at h;split at h
 ·rename_i k hk;split at h
  ·split at h
   ·rename_i sK;subst sK;simp at h;subst h;simp only [VR] at hx hy;subst hx hy;exact⟨by rw [run_equalIn_int w d t _ _ _ _ (oz fL hk),gw],rfl,rfl,by simp [TI.agg,TK.agg,hk]⟩
   grind
  grind
 ·rename_i hk;split at h
  ·simp at h;subst h;simp only [VR] at hx hy;obtain⟨rfl,hx⟩:=hx;obtain⟨rfl,hy⟩:=hy;exact⟨by rw [run_equalIn_string w d t _ _ (fB fL hk),PI hx hy]; rfl,rfl,rfl,by simp [TI.agg,TK.agg,hk]⟩
  ·obtain⟨a,b,rfl,rfl,hd⟩:=CW hx hy h;exact⟨by rw [run_equalIn_string w d t _ _ (fB fL hk),xb,hd],rfl,rfl,by simp [TI.agg,TK.agg,hk]⟩
 ·rename_i hk;split at h
  ·simp only [VR] at hx hy;subst hx hy;exact⟨by rw [run_equalIn_bool' w d t _ _ (J7 fL hk),BG h],rfl,rfl,by simp [TI.agg,TK.agg,hk]⟩
  grind
 grind
theorem RI {tt:TT} (cJ:ep P tt) {xs ys:List W} {us vs:List Value} (hx:cB E w.heap xs us) (hy:cB E w.heap ys vs) (d:Nat): ∀{lP:List Field} {l:List (Nat×Nat×Nat)} {c:SB},
 (lP.mapM fun f=>(P.info? f.type).map fun i=>(f.offset,f.type,i.size))=some l->(∀f∈lP,f.name≠ "_")->YF tt xs ys l=some c->
 (Op.eqFields (d+1) us.toArray vs.toArray lP).run P w= .ok (c.den E.ρ) w
 |[],l,c,hm,_,h=>by simp at hm;subst hm;simp [YF] at h;subst h;simp [Op.eqFields,SB.den]
 |f::lP,l,c,hm,hn,h=>by
  simp only [amJ,am1,amO] at hm;obtain⟨p,U,ls,Z,h3⟩:=hm;simp only [pure,ag] at h3;subst h3;rw [aO] at U;obtain⟨inf,akV,rfl⟩:=U;simp only [YF] at h;split at h
  ·grind
  ·rename_i i hi;split at h
   ·rename_i x y hxn hyn;split at h
    ·grind
    ·rename_i c1 hc1;split at h
     ·grind
     ·rename_i c2 hc2;simp at h;subst h;obtain⟨u,N0,Rh⟩:=hx.nth hxn;obtain⟨v,Rg,W?⟩:=hy.nth hyn;obtain⟨e1,e2,e3,e4⟩:=Uc (w:=w) (cJ f.type i hi) Rh W? hc1 d;have ih:=RI cJ hx hy d Z (fun g hg=>hn g (by simp [hg])) hc2;have p1:(part f.type us.toArray f.offset).run P w= .ok u w:=by simp [part,kz (cJ f.type i hi),e4,N0]
      have p2:(part f.type vs.toArray f.offset).run P w= .ok v w:=by simp [part,kz (cJ f.type i hi),e4,Rg]
      simp only [Op.eqFields];rw [ah (hn f ad)];simp only [Sem.run_bind,p1,p2,e1,Result.andThen_ok,S7];cases Ru:c1.den E.ρ
      ·simp
      grind
   grind
theorem Eg {tt:TT} (cJ:ep P tt) {t:Nat} {xs ys:List W} {us vs:List Value} {c:SB} (hx:cB E w.heap xs us) (hy:cB E w.heap ys vs) (h:Cx tt t xs ys=some c) (op:BinOp) (x y:Operand) :
 (eqGuard op t x y (.agg us.toArray) (.agg vs.toArray)).run P w= .ok () w/\(binOp .eql t (.agg us.toArray) (.agg vs.toArray)).run P w= .ok (.bool (c.den E.ρ)) w/\(binOp .neq t (.agg us.toArray) (.agg vs.toArray)).run P w= .ok (.bool (!(c.den E.ρ))) w:=by
 unfold Cx at h;split at h
 ·grind
 ·rename_i i hi;split at h
  ·rename_i fs hk;split at h
   ·rename_i hq;have fL:=cJ t i hi;have he:=fL.eqs hq;obtain⟨lP,hu,hm⟩:=sa fL hk;unfold RG at he;rw [hu] at he;simp only [an,amk,aR,bne_iff_ne,ne_eq] at he;obtain⟨⟨U,Z⟩,h3⟩:=he;have hf:P.fieldsOf t=lP:=by simp [Program.fieldsOf,hu]
    have h10:(10000:Nat)=9998+1+1:=rfl
    have key:(Op.equalIn 10000 t (.agg us.toArray) (.agg vs.toArray)).run P w= .ok (c.den E.ρ) w:=by rw [h10];generalize (9998:Nat)=n;rw [run_equalIn_struct w (n+1) t _ _ (by rw [hf]; exact hu) U,hf];exact RI cJ hx hy n hm (fun f hf=>(h3 f hf).1) h
    refine⟨run_eqGuard_agg w op t x y _ _ Z,?_,?_⟩
    ·rw [run_eql_struct,key]; rfl
    ·rw [run_neq_struct,key]; rfl
   grind
  grind
def Mp [bI] (E:En) (s:St) (w:World) (v:W) (s':St) (u:Value) (w':World):Prop:= ∃E',eM E s.h w E' s'.h w'/\bP E' s'.h w'/\VR E' w'.heap v u
def jC [bI] (P:Program) (E:En) (s:St) (o:Oper) (a:Act) (w:World) (v:W) (s':St):Prop:=
 s'.bD=s.bD/\bW E.ρ s'.pc/\oI P o a w (Mp E s w v s')
theorem bC {α:Type} {ρ:Nat->Int} {a b:α} (h:(T.ret a).leaf ρ=some b):a=b:=by simpa [T.leaf] using h
theorem gm {s:St} {a:Act} {x:Operand} {f:W->T (W×St)} {r:W×St} (sr:SR E w.heap s.bD a) (h:(yw s x f).leaf E.ρ=some r): ∃v,VR E w.heap v (a.eval x)/\(f v).leaf E.ρ=some r:=by
 unfold yw at h;split at h
 ·rename_i v hv; exact⟨v,fU sr hv,h⟩
 ·simp [T.leaf] at h
theorem gA {s s':St} {v:W} {r:Option W} {ρ:Nat->Int} (h:(oW s r).leaf ρ=some (v,s')):r=some v/\s'=s:=by
 unfold oW at h;split at h
 ·have:=bC h; simp only [ak] at this; exact⟨by rw [this.1],this.2.symm⟩
 ·simp [T.leaf] at h
theorem yn {s s':St} {v:W} {r:Option Hp} {ρ:Nat->Int} (h:(Nu s r).leaf ρ=some (v,s')): ∃H,r=some H/\v=W.undef/\s'= { s with h:=H }:=by
 unfold Nu at h;split at h
 ·rename_i H; have:=bC h; simp only [ak] at this; exact⟨H,rfl,this.1.symm,this.2.symm⟩
 ·simp [T.leaf] at h
theorem oV {s s':St} {v:W} {r:Option (W×Hp)} {ρ:Nat->Int} (h:(Bb s r).leaf ρ=some (v,s')): ∃H,r=some (v,H)/\s'= { s with h:=H }:=by
 unfold Bb at h;split at h
 ·rename_i x H; have:=bC h; simp only [ak] at this; obtain⟨rfl,rfl⟩:=this; exact⟨H,rfl,rfl⟩
 ·simp [T.leaf] at h
theorem jQ {h:Array Obj}:VR E h W.undef undef:=by simp only [W.undef,VR,cB]; exact⟨[],rfl,rfl⟩
variable {s s':St} {o:Oper} {a:Act} {v:W}
theorem jC.pure [bI] (hp:bW E.ρ s.pc) (r:bP E s.h w) {u:Value} (h:(execOp a.eval o).run P w= .ok (.value u) w) (hv:VR E w.heap v u):jC P E s o a w v s:=
 ⟨rfl,hp,oI.value h ⟨E,eM.refl _ _ _,r,hv⟩⟩
theorem jC.heap [bI] {H':Hp} {E':En} {w':World} (hp:bW E.ρ s.pc) {u:Value} (h:(execOp a.eval o).run P w= .ok (.value u) w') (U:eM E s.h w E' H' w') (Z:bP E' H' w') (hv:VR E' w'.heap v u) :
 jC P E s o a w v { s with h:=H' }:=
 ⟨rfl,hp,oI.value h ⟨E',U,Z,hv⟩⟩
theorem jC.unit [bI] {H':Hp} {w':World} (hp:bW E.ρ s.pc) (h:(execOp a.eval o).run P w= .ok .skip w') (U:eM E s.h w E H' w') (Z:bP E H' w') :
 jC P E s o a w W.undef { s with h:=H' }:=
 ⟨rfl,hp,oI.skip h ⟨E,U,Z,jQ⟩⟩
end
theorem xK {α:Type} {ρ:Nat->Int} {kk:TK} {k:W} {r:α} {f:St->T α}: ∀{es:List (W×W×Nat)} {s:St},bW ρ s.pc->(tc kk k es s f).leaf ρ=some r->∃dZ,bW ρ dZ/\(f { s with pc:=dZ }).leaf ρ=some r
 |[],s,hp,h=> ⟨s.pc,hp,h⟩
 |(k',v,b)::es,s,hp,h=>by
  simp only [tc] at h;split at h
  ·split at h
   ·exact⟨s.pc,hp,h⟩
   ·exact xK hp h
  ·split at h
   ·obtain⟨fA,fj,U⟩:=cH hp h;split at U
    ·grind
    ·obtain⟨jw,jl,Z⟩:=xK (s:={ s with pc:=fA }) fj U
     grind
   ·exact⟨s.pc,hp,h⟩
theorem pN {α:Type} {ρ:Nat->Int} {tt:TT} {t:Nat} {m k:W} {r:α} {f:St->T α} {s:St} (hp:bW ρ s.pc) (h:(nC tt t m k s f).leaf ρ=some r): ∃dZ,bW ρ dZ/\(f { s with pc:=dZ }).leaf ρ=some r:=by
 unfold nC at h;split at h
 ·split at h
  ·split at h
   ·split at h
    ·exact xK hp h
    ·exact⟨s.pc,hp,h⟩
   ·exact⟨s.pc,hp,h⟩
  ·exact⟨s.pc,hp,h⟩
 ·exact⟨s.pc,hp,h⟩
theorem LH {ρ:Nat->Int} {k:IntKind} {e:V} {f:W->St->T (W×St)} {r:W×St}: ∀(n j:Nat) {s:St},bW ρ s.pc->(j:Int)<=e.den ρ->e.den ρ<(j:Int)+n->(LI k e f n j s).leaf ρ=some r->
 ∃(i:Nat) (dZ:List (SB×Bool)),bW ρ dZ/\e.den ρ=(i:Int)/\(f (.int k (.lit (Int.ofNat i))) { s with pc:=dZ }).leaf ρ=some r
 |0,j,s,_,_,_,h=>by simp [LI,T.leaf] at h
 |n+1,j,s,hp,U,Z,h=>by
  simp only [LI] at h;split at h
  ·exact⟨j,s.pc,hp,J,h⟩
  ·obtain⟨fA,fj,h3⟩:=cH hp h;rw [gw] at h3;split at h3
   ·rename_i he;simp only [V.den,beq_iff_eq] at he
    grind
   ·rename_i he;simp only [V.den,beq_eq_false_iff_ne,ne_eq] at he;have hj:(Int.ofNat j)=(j:Int):=rfl;rw [hj] at he;obtain⟨i,jw,jl,q1,q2⟩:=LH n (j+1) (s:={ s with pc:=fA }) fj (by push_cast; omega) (by push_cast at Z ⊢; omega) h3
    grind
theorem nr {α:Type} {ρ:Nat->Int} {s:St} (hp:bW ρ s.pc) {i n:V} {f:St->T α} {r:α} (h:(yx s i n f).leaf ρ=some r) :
 ∃dZ,bW ρ dZ/\0<=i.den ρ/\i.den ρ<n.den ρ/\(f { s with pc:=dZ }).leaf ρ=some r:=by
 unfold yx at h;obtain⟨fA,fj,U⟩:=cH hp h;split at U
 ·simp [T.leaf] at U
 ·rename_i e1;rw [dR,decide_eq_false_iff_not] at e1;obtain⟨jw,jl,Z⟩:=cH (s:={ s with pc:=fA }) fj U;split at Z
  ·rename_i e2;rw [dR,decide_eq_true_eq] at e2;simp only [V.den,amK] at e1
   grind
  ·simp [T.leaf] at Z
theorem zD {E:En} {h0:Array Obj} {tt:TT} {t:Nat} {x ix:W} {ui:Value} {f:W->St->T (W×St)} {r:W×St} {s:St} (hp:bW E.ρ s.pc) (yQ:VR E h0 ix ui) (h:(Hx tt t x ix s f).leaf E.ρ=some r) :
 ∃ix' dZ,bW E.ρ dZ/\VR E h0 ix' ui/\(f ix' { s with pc:=dZ }).leaf E.ρ=some r:=by
 unfold Hx at h;split at h
 ·exact⟨ix,s.pc,hp,yQ,h⟩
 ·split at h
  ·rename_i k e _;split at h
   ·rename_i n hn;obtain⟨fA,fj,U,Z,h3⟩:=nr hp h;simp only [V.den] at Z;obtain⟨i,jw,jl,q1,q2⟩:=LH n 0 (s:={ s with pc:=fA }) fj (by simpa using U) (by simpa using Z) h3;refine⟨_,jw,jl,?_,q2⟩;simp only [VR,V.den] at yQ ⊢
    grind
   ·simp [T.leaf] at h
  ·simp [T.leaf] at h
theorem Gi {ro:Nat->Prop} {h:Array Obj} {t:Nat} {d:D} {v:Value} (r:Rd ro h (.sl t) d v):(0<d.l.length->∃a n cap,v= .slice (some a) n cap)/\(d= .i 1->v= .slice none 0 0)/\(d= .i 2->∃a n cap,v= .slice (some a) n cap):=by
 generalize hc:CK.sl t=c at r
 cases r with
 |int k n=>simp at hc
 |bool b=>simp at hc
 |str s=>simp at hc
 |nil t=>exact⟨by simp [D.l],fun _=>rfl,ad⟩
 |vG t a cap=>exact⟨by simp [D.l],ad,fun _=> ⟨a,0,cap,rfl⟩⟩
 |one t c b o cap ds f hr fR Y U Z=>exact⟨fun _=> ⟨_,_,_,rfl⟩,fun q=>by cases ds<;>simp [dL] at q,fun q=>by cases ds<;>simp [dL] at q⟩
 |many t cs b o cap rows f hr fR Y hl U Z=>exact⟨fun _=> ⟨_,_,_,rfl⟩,fun q=>by cases rows<;>simp [dL] at q,fun q=>by cases rows<;>simp [dL] at q⟩
theorem Im {P:Program} {E:En} {w:World} {tt:TT} (cJ:ep P tt) {t e:Nat} {ti:TI} (fL:tt t=some ti) (hk:ti.kind= .slice e) {u:Value} {b:Bool} (hu:(b=true/\u= .slice none 0 0)\/(b=false/\∃a n cap,u= .slice (some a) n cap)) {s s':St} {op:BinOp} {v:W} {ρ:Nat->Int}
 (h:(Xo s op b).leaf ρ=some (v,s')):s'=s/\∃y,(binOp op t u (.slice none 0 0)).run P w= .ok y w/\VR E w.heap v y/\(∀cs ds,¬(u= .agg cs/\(Value.slice none 0 0)= .agg ds))/\¬(u= .nilIface/\(Value.slice none 0 0)= .nilIface):=by
 obtain⟨d,U,Z⟩:=rG (cJ t ti fL);rw [hk] at Z
 have he:(Op.equal t u (.slice none 0 0)).run P w= .ok b w:=by have hm:Op.equal t u (.slice none 0 0)=Op.equalIn (9999+1) t u (.slice none 0 0):=rfl;rw [hm];generalize (9999:Nat)=n;cases d<;>simp only [HD] at Z;rcases hu with ⟨rfl,rfl⟩|⟨rfl,a,m,cap,rfl⟩ <;>simp [Op.equalIn,yk U]
 have IH:(∀k n,u≠.int k n)/\(∀s,u≠.string s)/\(∀k n,u≠.float k n)/\(∀k n m,u≠.complex k n m):=by
  grind
 obtain⟨q1,q2⟩:=binOp_eql he IH.1 IH.2.1 IH.2.2.1 IH.2.2.2;unfold Xo at h;split at h
 ·simp only [T.leaf,ag,ak] at h;obtain⟨rfl,rfl⟩:=h;exact⟨rfl,_,q1,by simp only [VR,SB.den],ad,ad⟩
 ·simp only [T.leaf,ag,ak] at h;obtain⟨rfl,rfl⟩:=h;exact⟨rfl,_,q2,by simp only [VR,SB.den],ad,ad⟩
 ·simp [T.leaf] at h
theorem S? {P:Program} {E:En} {w:World} {tt:TT} (cJ:ep P tt) {t:Nat} {a b:W} {e:V} (hn:NN tt t a b=some e) {u u':Value} (ha:VR E w.heap a u) (Y:VR E w.heap b u') {s s':St} (hp:bW E.ρ s.pc) {op:BinOp} {v:W} (h:(aev s e op).leaf E.ρ=some (v,s')) :
 s'.bD=s.bD/\s'.h=s.h/\bW E.ρ s'.pc/\∃y,(binOp op t u u').run P w= .ok y w/\VR E w.heap v y/\(∀cs ds,¬(u= .agg cs/\u'= .agg ds))/\¬(u= .nilIface/\u'= .nilIface):=by
 unfold NN at hn;split at hn
 ·split at hn
  ·split at hn
   ·rename_i ti fL;split at hn
    ·rename_i el hk;simp only [ag] at hn;subst hn;simp only [VR] at ha Y;subst Y;obtain⟨k1,k2,k3⟩:=Gi ha;unfold aev at h;obtain⟨fA,fj,U⟩:=cH hp h;split at U
     ·rename_i t1;rw [dR,decide_eq_true_eq,cC] at t1;simp only [V.den] at t1;obtain⟨rfl,q⟩:=Im (P:=P) (E:=E) (w:=w) cJ fL hk (.inr ⟨rfl,k1 J⟩) U
      grind
     ·obtain⟨jw,jl,Z⟩:=cH (s:={ s with pc:=fA }) fj U;split at Z
      ·rename_i t2;rw [gZ,lM,beq_iff_eq] at t2;simp only [V.den] at t2;obtain⟨rfl,q⟩:=Im (P:=P) (E:=E) (w:=w) cJ fL hk (.inl ⟨rfl,k2 (fT t2)⟩) Z
       grind
      ·obtain⟨UD,IG,h3⟩:=cH (s:={ s with pc:=jw }) jl Z;split at h3
       ·rename_i t3;rw [gZ,lM,beq_iff_eq] at t3;simp only [V.den] at t3;obtain⟨rfl,q⟩:=Im (P:=P) (E:=E) (w:=w) cJ fL hk (.inr ⟨rfl,k3 (fT t3)⟩) h3
        grind
       ·simp [T.leaf] at h3
    grind
   grind
  grind
 grind
end Go.As
end

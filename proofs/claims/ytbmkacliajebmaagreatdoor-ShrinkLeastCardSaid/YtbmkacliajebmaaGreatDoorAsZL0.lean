import GoSem.Claim
import Derived.Orders
import Derived.Scope
import Derived.LoopN
import Derived.Below
import GoSem.Core.View
import GoSem.Core.Layout
import GoSem.Op.Equal
import Derived.WalkKit
import Derived.Lib.Strings
import Derived.Laws.IdiomStrings
import Derived.Laws.RangeString
import Derived.Laws.StructEq
set_option linter.unusedSectionVars false
set_option linter.unusedVariables false
set_option linter.unusedSimpArgs false
abbrev af:=@if_neg
abbrev ag:=@Option.some.injEq
abbrev ah:=@if_pos
abbrev ak:=@Prod.mk.injEq
abbrev an:=@Bool.and_eq_true
abbrev aq:=@Nat.eq_of_beq_eq_true
abbrev au:=@Nat.le_refl
abbrev aw:=@List.map_cons
abbrev ax:=@List.mem_cons
abbrev ay:=@Nat.zero_add
abbrev az:=@Option.getD_some
abbrev aA:=@Int.lt_irrefl
abbrev aC:=@List.nil_append
abbrev aF:=@List.getElem_mem
abbrev aG:=@List.getElem?_cons_zero
abbrev aH:=@List.getElem?_cons_succ
abbrev aK:=@List.length_cons
abbrev aL:=@Bool.false_eq_true
abbrev aM:=@List.getElem?_eq_getElem
abbrev aO:=@Option.map_eq_some_iff
abbrev aP:=@List.cons_append
abbrev aQ:=@Nat.lt_or_ge
abbrev aR:=@List.all_eq_true
abbrev aT:=@List.mem_map
abbrev aW:=@List.getElem?_eq_some_iff
abbrev aX:=@List.length_nil
abbrev aZ:=@Int.toNat_natCast
abbrev a8:=@List.length_append
abbrev bd:=@List.length_take
abbrev bg:=@Nat.add_zero
abbrev bh:=@Int.natCast_one
abbrev bj:=@Array.length_toList
abbrev bk:=@Nat.le_trans
abbrev bn:=@List.getElem?_map
abbrev bo:=@Option.isSome_some
abbrev bp:=@List.drop_eq_getElem_cons
abbrev bq:=@List.length_drop
abbrev br:=@List.mem_of_mem_drop
abbrev bu:=@Array.getElem?_toList
abbrev bw:=@List.mem_of_getElem?
abbrev alE:=@Option.map_some
abbrev alF:=@Nat.add_assoc
abbrev alG:=@Nat.zero_mul
abbrev alH:=@List.length_map
abbrev alI:=@List.mem_of_mem_take
abbrev alJ:=@List.mem_append
abbrev alK:=@Array.getElem?_eq_some_iff
abbrev alL:=@Nat.add_mul
abbrev alM:=@List.eq_nil_of_length_eq_zero
abbrev alN:=@List.drop_zero
abbrev alO:=@Nat.le_of_ble_eq_true
abbrev alP:=@List.length_eq_zero_iff
abbrev alQ:=@Bool.eq_iff_iff
abbrev alR:=@List.mem_range
abbrev alS:=@Bool.not_eq_true'
abbrev alT:=@Nat.zero_le
abbrev alU:=@List.not_mem_nil
abbrev alV:=@Nat.mod_eq_of_lt
abbrev alW:=@Nat.lt_of_lt_of_le
abbrev alX:=@List.length_pos_iff
abbrev alY:=@List.append_assoc
abbrev alZ:=@List.append_nil
abbrev al0:=@List.nodup_cons
abbrev al3:=@List.drop_of_length_le
abbrev al4:=@UInt8.toNat_ofNat'
abbrev al5:=@Nat.mul_le_mul_right
abbrev al6:=@List.take_append_drop
abbrev al7:=@List.take_length
abbrev al8:=@Option.isSome_iff_exists
abbrev al9:=@List.length_replicate
abbrev ama:=@List.mem_filter
abbrev amb:=@Option.getD_none
abbrev amc:=@List.map_map
abbrev amd:=@List.getElem?_drop
abbrev ame:=@List.getElem?_take
abbrev amf:=@Array.getD_eq_getD_getElem?
abbrev amg:=@Bool.or_eq_true
abbrev amh:=@List.mapM_cons
abbrev ami:=@Int.not_lt
abbrev amj:=@Nat.eq_zero_or_pos
abbrev amk:=@Int.natCast_zero
abbrev aml:=@Nat.one_mul
abbrev amm:=@Option.bind_eq_some_iff
abbrev amn:=@List.set_cons_zero
abbrev amo:=@List.set_cons_succ
abbrev amp:=@List.take_succ_cons
abbrev amq:=@Bool.eq_false_iff
abbrev amr:=@List.getElem_of_mem
abbrev ams:=@Array.getElem?_replicate
abbrev amt:=@Nat.blt_eq
abbrev amu:=@Nat.le_succ
abbrev amv:=@List.getElem?_nil
abbrev amw:=@List.map_congr_left
abbrev amx:=@List.mem_iff_getElem?
abbrev amy:=@Nat.ne_of_beq_eq_false
abbrev amz:=@Int.tmod_lt_of_pos
abbrev amA:=@List.ext_getElem?
abbrev amB:=@Option.bind_eq_bind
abbrev amC:=@List.getElem?_eq_none_iff
abbrev amD:=@Nat.mul_pos
abbrev amE:=@Bool.not_true
abbrev amF:=@List.map_nil
abbrev amG:=@Bool.false_or
abbrev amH:=@List.getElem?_eq_none
abbrev amI:=@Nat.ble_eq_true_of_le
abbrev amJ:=@List.getElem?_range
abbrev amK:=@Nat.pow_succ
abbrev amL:=@Int.ofNat_inj
abbrev amM:=@List.foldl_cons
abbrev amN:=@Bool.or_false
abbrev amO:=@List.eraseIdx_cons_succ
abbrev amP:=@List.foldlM_cons
abbrev amQ:=@Nat.mul_one
abbrev amR:=@List.length_set
abbrev amS:=@Int.ofNat_lt
abbrev amT:=@List.eq_nil_iff_forall_not_mem
abbrev amU:=@List.take_of_length_le
abbrev amV:=@List.getElem?_of_mem
abbrev amW:=@List.getD_eq_getElem?_getD
abbrev amX:=@List.mem_cons_of_mem
abbrev amY:=@List.all_append
abbrev amZ:=@Option.isSome_none
abbrev am0:=@Nat.pow_zero
abbrev am1:=@Nat.mul_comm
abbrev am2:=@Array.toList_inj
abbrev am3:=@Array.getElem?_modify
abbrev am4:=@List.getElem?_append
abbrev am5:=@Nat.mul_le_mul
abbrev am6:=@List.map_take
abbrev am7:=@List.map_drop
abbrev am8:=@Array.toList_map
abbrev am9:=@Nat.le_of_mul_le_mul_right
abbrev ana:=@List.drop_succ_cons
abbrev anb:=@List.getElem?_append_right
abbrev anc:=@List.take_set_of_le
abbrev ane:=@List.drop_set_of_lt
abbrev anf:=@Nat.div_mul_le_self
abbrev ang:=@List.replicate_succ
abbrev anh:=@Nat.lt_trichotomy
abbrev ani:=@List.map_append
abbrev anj:=@List.all_cons
abbrev ank:=@Array.mem_of_getElem?
abbrev anl:=@List.length_reverse
abbrev anm:=@Nat.min_eq_left
abbrev ann:=@List.getElem?_toArray
abbrev ano:=@Array.getElem?_eq_none
abbrev anp:=@Array.getElem?_setIfInBounds
abbrev anq:=@List.any_eq_true
abbrev anr:=@List.drop_drop
abbrev ans:=@Nat.add_sub_cancel_left
abbrev ant:=@Nat.sub_zero
abbrev anu:=@List.take_succ_eq_append_getElem
abbrev anv:=@List.length_eraseIdx
abbrev anw:=@List.mem_append_right
abbrev anx:=@Array.getElem?_append_left
abbrev anz:=@List.getElem?_append_left
abbrev anA:=@List.eq_of_mem_replicate
abbrev anB:=@List.singleton_append
abbrev anC:=@Array.mapM_eq_mapM_toList
abbrev anD:=@Array.getElem?_eq_none_iff
abbrev anE:=@Array.getElem?_eq_getElem
abbrev anF:=@List.contains_iff_mem
abbrev anG:=@List.getElem_set_self
abbrev anH:=@List.eraseIdx_eq_take_drop_succ
theorem J{P:Prop}(h:P:=by omega):P:=h
theorem aa{P:Prop}(h:P:=by kernel_rfl):P:=h
theorem ad{P:Prop}(h:P:=by simp):P:=h
theorem ae{P:Prop}(h:P:=by decide):P:=h
section
namespace Go.As
inductive Tr (α:Type) where
 |nil
 |node (v:Option α) (l r:Tr α)
 deriving Inhabited
noncomputable def Tr.get {α:Type} (t:Tr α) (k:Nat):Option α:=
 Tr.rec (motive:=fun _=>Nat->Option α) (fun _=>none)
  (fun v _ _ il ir k=>Nat.rec (motive:=fun _=>Option α) v (fun k' _=>Bool.rec (motive:=fun _=>Option α) (ir (Nat.div k' 2)) (il (Nat.div k' 2)) (Nat.beq (Nat.mod k' 2) 0)) k) t k
def Tr.val {α:Type}:Tr α->Option α
 | .nil=>none
 | .node v _ _=>v
def Tr.left {α:Type}:Tr α->Tr α
 | .nil=> .nil
 | .node _ l _=>l
def Tr.right {α:Type}:Tr α->Tr α
 | .nil=> .nil
 | .node _ _ r=>r
noncomputable def Tr.mkL {α:Type} (v:Option α) (x r:Tr α):Tr α:=Tr.rec (motive:=fun _=>Tr α) (.node v .nil r) (fun a b c _ _=> .node v (.node a b c) r) x
noncomputable def Tr.mkR {α:Type} (v:Option α) (l x:Tr α):Tr α:=Tr.rec (motive:=fun _=>Tr α) (.node v l .nil) (fun a b c _ _=> .node v l (.node a b c)) x
noncomputable def Tr.SK {α:Type} (f:Nat):Tr α->Nat->Option α->Tr α:=
 Nat.rec (motive:=fun _=>Tr α->Nat->Option α->Tr α) (fun t _ _=>t)
  (fun _ ih t k x=>Tr.rec (motive:=fun _=>Tr α)
   (Nat.rec (motive:=fun _=>Tr α) (.node x .nil .nil) (fun k' _=>Bool.rec (motive:=fun _=>Tr α) (Tr.mkR none .nil (ih .nil (Nat.div k' 2) x)) (Tr.mkL none (ih .nil (Nat.div k' 2) x) .nil) (Nat.beq (Nat.mod k' 2) 0)) k)
   (fun v l r _ _=>Nat.rec (motive:=fun _=>Tr α) (.node x l r) (fun k' _=>Bool.rec (motive:=fun _=>Tr α) (Tr.mkR v l (ih r (Nat.div k' 2) x)) (Tr.mkL v (ih l (Nat.div k' 2) x) r) (Nat.beq (Nat.mod k' 2) 0)) k) t) f
noncomputable def Tr.put {α:Type} (t:Tr α) (k:Nat) (v:Option α):Tr α:=Tr.SK (Nat.succ k) t k v
theorem aam (a b:Nat):Nat.beq a b=decide (a=b):=by rw [alQ];simp
theorem BA {β:Sort _} (a b:β) (c:Nat):Bool.rec (motive:=fun _=>β) a b (Nat.beq c 0)=if c=0 then b else a:=by
 by_cases h:c=0
 ·subst h; rfl
 ·rw [af h];have:Nat.beq c 0=false:=by rw [aam]; simpa using h
  rw [this]
theorem Tr.nJ {α:Type} (v:Option α) (l r:Tr α) (k:Nat) :
 (Tr.node v l r).get k=if k=0 then v else if (k-1) % 2=0 then l.get ((k-1) / 2) else r.get ((k-1) / 2):=by
 cases k with
 |zero=>rfl
 |succ k=> simp only [Nat.add_sub_cancel,Nat.succ_ne_zero,if_false];exact BA _ _ _
theorem Tr.vM {α:Type} (t:Tr α) (k:Nat) :
 t.get k=if k=0 then t.val else if (k-1) % 2=0 then t.left.get ((k-1) / 2) else t.right.get ((k-1) / 2):=by
 cases t with
 |nil=> have h: ∀j,(Tr.nil:Tr α).get j=none:=fun _=>rfl;simp [h,Tr.val,Tr.left,Tr.right]
 |node v l r=>rw [Tr.nJ]; rfl
theorem Tr.aea {α:Type} (v:Option α) (x r:Tr α):Tr.mkL v x r= .node v x r:=by cases x<;>rfl
theorem Tr.ad9 {α:Type} (v:Option α) (l x:Tr α):Tr.mkR v l x= .node v l x:=by cases x<;>rfl
theorem Tr.SH {α:Type} (f:Nat) (t:Tr α) (v:Option α):Tr.SK (f+1) t 0 v= .node v t.left t.right:=by cases t<;>rfl
theorem Tr.SJ {α:Type} (f:Nat) (t:Tr α) (k:Nat) (v:Option α):Tr.SK (f+1) t (k+1) v=if k % 2=0 then .node t.val (Tr.SK f t.left (k / 2) v) t.right else .node t.val t.left (Tr.SK f t.right (k / 2) v):=by rw [<- Tr.aea,<- Tr.ad9];cases t<;>exact BA _ _ _
theorem Tr.XS {α:Type}: ∀(f:Nat) (t:Tr α) (k:Nat) (v:Option α) (j:Nat),k<f->(Tr.SK f t k v).get j=if j=k then v else t.get j:=by
 intro f
 induction f with
 |zero=>intro t k v j hk; omega
 |succ f ih=>
  intro t k v j hk
  cases k with
  |zero=> rw [Tr.SH,Tr.nJ,Tr.vM t];split<;>simp_all
  |succ k=>
   rw [Tr.SJ,Tr.vM t j];split
   ·rename_i h;rw [Tr.nJ];by_cases hj:j=0
    ·subst hj; simp
    ·rw [af hj,af hj];by_cases Z:(j-1) % 2=0
     ·rw [ah Z,ah Z,ih _ _ _ _ J];by_cases h3:j=k+1
      ·subst h3; simp
      ·rw [af h3,af J]
     ·rw [af Z,af Z,af (by intro h3; subst h3; simp at Z; omega)]
   ·rename_i h;rw [Tr.nJ];by_cases hj:j=0
    ·subst hj; simp
    ·rw [af hj,af hj];by_cases Z:(j-1) % 2=0
     ·rw [ah Z,ah Z,af (by intro h3; subst h3; simp at Z; omega)]
     ·rw [af Z,af Z,ih _ _ _ _ J];by_cases h3:j=k+1
      ·subst h3; simp
      ·rw [af h3,af J]
theorem Tr.bR {α:Type} (t:Tr α) (k:Nat) (v:Option α) (j:Nat):(t.put k v).get j=if j=k then v else t.get j:=
 Tr.XS (Nat.succ k) t k v j (Nat.lt_succ_self _)
inductive D where
 |i (n:Int)
 |p (a b:D)
 deriving DecidableEq,Inhabited
def zN:Int->Nat
 | .ofNat n=>2*n
 | .negSucc n=>2*n+1
theorem UJ {a b:Int} (h:zN a=zN b):a=b:=by
 cases a<;>cases b<;>simp only [zN] at h
 all_goals grind
def n8 (a b:Nat):Nat:=2 ^ a*(2*b+1)
theorem zX: ∀{a a' b b':Nat},n8 a b=n8 a' b'->a=a'/\b=b'
 |0,0,b,b',h=>by simp only [n8,am0,aml] at h; omega
 |0,a'+1,b,b',h=>by
  simp only [n8,am0,aml,amK] at h
  grind
 |a+1,0,b,b',h=>by
  simp only [n8,am0,aml,amK] at h
  grind
 |a+1,a'+1,b,b',h=>by
  have U:2 ^ (a+1)*(2*b+1)=2*n8 a b:=by unfold n8; rw [amK,am1 (2 ^ a) 2,Nat.mul_assoc]
  have Z:2 ^ (a'+1)*(2*b'+1)=2*n8 a' b':=by unfold n8; rw [amK,am1 (2 ^ a') 2,Nat.mul_assoc]
  have h3:n8 a b=n8 a' b':=by
   have:n8 (a+1) b=n8 (a'+1) b':=h;unfold n8 at this
   grind
  obtain⟨e1,e2⟩:=zX h3
  grind
def D.enc:D->Nat
 | .i n=>2*zN n
 | .p a b=>2*n8 a.enc b.enc+1
theorem D.gN: ∀{a b:D},a.enc=b.enc->a=b
 | .i n,.i m,h=>by simp only [D.enc] at h;rw [UJ (a:=n) (b:=m) J]
 | .i n,.p a b,h=>by simp only [D.enc] at h; omega
 | .p a b,.i n,h=>by simp only [D.enc] at h; omega
 | .p a b,.p c d,h=>by simp only [D.enc] at h;obtain⟨U,Z⟩:=zX (a:=a.enc) (b:=b.enc) (a':=c.enc) (b':=d.enc) J;rw [D.gN U,D.gN Z]
open Classical in
noncomputable def dec (z:Int):D:=if h: ∃d:D,(d.enc:Int)=z then h.choose else .i 0
def enc (d:D):Int:=(d.enc:Int)
theorem bB (d:D):dec (enc d)=d:=by unfold dec;have h: ∃d':D,(d'.enc:Int)=enc d:=⟨d,rfl⟩;rw [dif_pos h];have:=h.choose_spec;apply D.gN;unfold enc at this;exact Int.ofNat.inj this
theorem gN {a b:D} (h:enc a=enc b):a=b:=by rw [<- bB a,h,bB]
def D.n:D->Int
 | .i n=>n
 | .p _ _=>0
def D.l:D->List D
 | .i _=>[]
 | .p a b=>a::b.l
def dL:List D->D
 |[]=> .i 0
 |a::l=> .p a (dL l)
@[simp] theorem bM: ∀l:List D,(dL l).l=l
 |[]=>rfl
 |a::l=>by simp [dL,D.l,bM l]
theorem Er {a b:List D} (h:dL a=dL b):a=b:=by rw [<- bM a,h,bM]
def D.at (d:D) (i:Int):D:=(d.l[i.toNat]?).getD (.i 0)
def D.hd (d:D) (j:Nat):D:=(d.l[j]?).getD (.i 0)
def ph (l:List UInt8):D:=dL (l.map fun b=> .i (b.toNat:Int))
def s6 (s:ByteArray):D:=ph s.data.toList
def kR (l:List Nat):D:=dL (l.map fun b=> .i (Int.ofNat b))
theorem OP {a b:List UInt8} (h:ph a=ph b):a=b:=by
 have:=Er h
 have KP: ∀{x y:UInt8},(D.i (x.toNat:Int))= .i (y.toNat:Int)->x=y:=by intro x y h;simp only [D.i.injEq,amL] at h;exact UInt8.toNat_inj.1 h
 induction a generalizing b with
 |nil=>cases b with
  |nil=>rfl
  |cons y b=>simp at this
 |cons x a ih=>cases b with
  |nil=>simp at this
  |cons y b=> simp only [aw,List.cons.injEq] at this;rw [KP this.1,ih (by unfold ph; rw [this.2]) this.2]
theorem El {a b:ByteArray} (h:s6 a=s6 b):a=b:=by
 have:=OP h
 cases a with
 |mk x=>cases b with
  |mk y=>simp only [ByteArray.mk.injEq] at *; exact am2.1 this
theorem zf (l:List Nat) (h: ∀b∈l,b<256):kR l=ph (l.map UInt8.ofNat):=by unfold kR ph;congr 1;rw [amc];apply amw;intro b Y;have:=h b Y;simp [alV this]
theorem Zs (s:ByteArray):(s6 s).l.length=s.size:=by unfold s6 ph;rw [bM,alH];rfl
inductive fc where
 |len
 |at
 |cell (j:Nat)
 |num
 |mk
 |cons
 |snoc
 |cat
 |take
 |drop
 |set
 |bit
 |norm
 |sub
 |fill
 |idx
 |cnt
 |con
 |slt
 |Kq
 |Df
 |xf
 |Kr
 |rep
 deriving DecidableEq,Inhabited
def eW (d:D) (l:List D):D:=match l with
 |[]=>if d= .i 1 then .i 1 else .i 2
 |l=>dL l
theorem ej (d:D) (l:List D):(eW d l).l=l:=by
 cases l with
 |nil=>simp only [eW]; split<;>rfl
 |cons a l=>simp [eW]
theorem uZ {d:D} {l:List D} (h:l≠[]):eW d l=dL l:=by
 cases l with
 |nil=>exact absurd rfl h
 |cons a l=>rfl
theorem oI {d:D} (h:d≠.i 1):eW d []= .i 2:=by
 show (if d= .i 1 then D.i 1 else D.i 2)= .i 2
 grind
theorem TF {d:D} (h:d≠.i 1) (l:List D):eW d l≠.i 1:=by
 cases l with
 |nil=>rw [oI h]; simp
 |cons a l=>simp [eW,dL]
theorem xB {d:D} {l m:List D} (h:d= .i 1->l= []):eW (eW d l) m=eW d m:=by
 cases m with
 |cons a m=>rfl
 |nil=>
  by_cases U:d= .i 1
  ·rw [h U,U]; rfl
  ·rw [oI U,oI (TF U l)]
def qe (z:Int):List D->Int->Int
 |[],_=> -1
 |d::l,i=>match d with
  | .i n=>if n=z then i else qe z l (i+1)
  |_=>qe z l (i+1)
def Es (l:List D) (z:Int):Int:=qe z l 0
def OO:List D->List D->Bool
 |[],_=>true
 |_::_,[]=>false
 |a::x,b::y=>decide (a=b)&&OO x y
def TJ (l x:List D):Bool:=match l with
 |[]=>OO x []
 |a::l=>OO x (a::l)||TJ l x
def Zx (l:List D) (z:Int):Int:=match l with
 |[]=>0
 |d::l=>(if d= .i z then 1 else 0)+Zx l z
def Lw:List D->List D->Bool
 |[],[]=>false
 |[],_::_=>true
 |_::_,[]=>false
 |a::x,b::y=>if a.n<b.n then true else if b.n<a.n then false else Lw x y
def fC (ds:List D) (z:Int) (x:D):List D:=if z<0 then ds else ds.set z.toNat x
theorem gr (ds:List D) (z:Int) (x:D):(fC ds z x).length=ds.length:=by
 unfold fC; split
 all_goals grind
theorem tZ (ds:List D) (k:Nat) (x:D):fC ds (k:Int) x=ds.set k x:=by unfold fC; rw [af J]; rfl
def jc:D->D
 | .p k _=>k
 |d=>d
def E8:D->D
 | .p _ v=>v
 |d=>d
def ec:List D->D->Option D
 |[],_=>none
 |d::l,k=>if jc d=k then some (E8 d) else ec l k
def ib:List D->D->D->List D
 |[],k,v=>[.p k v]
 |d::l,k,v=>if jc d=k then .p k v::l else d::ib l k v
def EY:List D->D->List D
 |[],_=>[]
 |d::l,k=>if jc d=k then l else d::EY l k
noncomputable def fc.den (o:fc) (x y:Int):Int:=match o with
 | .len=>((dec x).l.length:Int)
 | .at=>enc ((dec x).at y)
 | .cell j=>enc ((dec x).hd j)
 | .num=>(dec x).n
 | .mk=>enc (.i x)
 | .cons=>enc (.p (dec x) (dec y))
 | .snoc=>enc (dL ((dec x).l++ [dec y]))
 | .cat=>enc (dL ((dec x).l++(dec y).l))
 | .take=>enc (eW (dec x) ((dec x).l.take y.toNat))
 | .drop=>enc (eW (dec x) ((dec x).l.drop y.toNat))
 | .set=>match dec y with
   | .p q v=>enc (dL (fC (dec x).l q.n v))
   |_=>x
 | .bit=>enc (.i (if (dec x).n=0 then 0 else 1))
 | .norm=>enc (dec x)
 | .sub=>enc (dL (((dec x).l.take ((dec y).hd 1).n.toNat).drop ((dec y).hd 0).n.toNat))
 | .fill=>match dec y with
   | .p q v=>enc (dL ((dec x).l.take q.n.toNat++List.replicate ((dec x).l.length-q.n.toNat) v))
   |_=>x
 | .idx=>Es (dec x).l y
 | .cnt=>Zx (dec x).l y
 | .con=>if TJ (dec x).l (dec y).l then 1 else 0
 | .slt=>if Lw (dec x).l (dec y).l then 1 else 0
 | .Kq=>if (ec (dec x).l (dec y)).isSome then 1 else 0
 | .Df=>enc ((ec (dec x).l (dec y)).getD (.i 0))
 | .xf=>match dec y with
   | .p k v=>enc (dL (ib (dec x).l k v))
   |_=>x
 | .Kr=>enc (dL (EY (dec x).l (dec y)))
 | .rep=>enc (dL (List.replicate x.toNat (dec y)))
def fc.tag:fc->Nat
 | .len=>0
 | .at=>1
 | .cell j=>j+23
 | .num=>2
 | .mk=>3
 | .cons=>4
 | .snoc=>5
 | .cat=>6
 | .take=>7
 | .drop=>8
 | .set=>9
 | .bit=>10
 | .norm=>11
 | .sub=>12
 | .fill=>13
 | .idx=>14
 | .cnt=>15
 | .con=>16
 | .slt=>17
 | .Kq=>18
 | .Df=>19
 | .xf=>20
 | .Kr=>21
 | .rep=>22
theorem fc.x_ {a b:fc} (h:a.tag=b.tag):a=b:=by
 cases a<;>cases b<;>simp only [fc.tag] at h<;>first |rfl|(congr 1; omega)|omega
inductive CK where
 |int (k:IntKind)
 |bool
 |str
 |sl (t:Nat)
 deriving DecidableEq,Inhabited
inductive Row where
 |one (c:CK)
 |many (cs:List CK)
 deriving DecidableEq,Inhabited
def Row.es:Row->Nat
 | .one _=>1
 | .many cs=>cs.length
def rowOf (t:Nat):Row:=match t with
 |0=> .one (.int .i64)
 |1=> .one (.int .i64)
 |2=> .one .str
 |3=> .many [.int .u8,.str,.int .i64,.str,.int .i64]
 |4=> .many [.str,.sl 2,.sl 5]
 |5=> .many [.int .u8,.int .u8,.int .i64,.int .i64,.int .i64,.int .i64,.sl 6]
 |6=> .many [.int .u8,.str,.int .i64,.sl 6]
 |7=> .many [.int .i64,.int .i64,.bool,.int .i64,.sl 0,.sl 0]
 |8=> .many [.int .i64,.sl 0,.int .u8,.int .i64,.int .i64,.int .i64]
 |9=> .many [.int .i64,.int .u8,.int .i64,.int .i64,.int .i64]
 |10=> .one (.sl 0)
 |11=> .many [.int .i64,.int .i64,.int .i64]
 |12=> .many [.int .i64,.int .i64]
 |13=> .many [.int .i64,.int .u8,.int .i64,.int .i64,.int .i64]
 |14=> .one (.int .u8)
 |15=> .one (.sl 0)
 |16=> .many [.sl 7,.sl 8]
 |_=> .one .bool
def mapOf (t:Nat):Row×Row:=match t with
 |0=>(.one (.int .i64),.one (.int .i64))
 |1=>(.one .str,.one (.int .i64))
 |2=>(.one (.int .i64),.one (.sl 0))
 |4=>(.many [.int .i64,.int .i64],.one (.int .i64))
 |5=>(.many [.int .i64,.int .i64],.one (.sl 0))
 |6=>(.one (.int .i64),.many [.int .i64,.int .i64,.int .i64])
 |_=>(.one (.int .i64),.one .bool)
inductive FC where
 |ck (c:CK)
 |own (t:Nat)
 |mp (t:Nat)
 deriving DecidableEq,Inhabited
structure FK where
 ptr:Bool
 cs:List FC
def qb (t:Nat):FK:=match t with
 |0=> ⟨false,[.own 0]⟩
 |1=> ⟨true,[.ck (.int .i64),.mp 0,.ck (.int .i64),.ck (.int .i64),.ck .bool,.own 0]⟩
 |_=> ⟨true,[.ck (.sl 0),.ck (.int .i64),.ck .bool,.ck .bool]⟩
def n4 (c:CK) (d:D):Prop:=match c with
 | .int _=>d= .i d.n
 | .bool=>d= .i 0\/d= .i 1
 |_=>True
def v7 (cs:List CK) (d:D):Prop:=d=dL d.l/\d.l.length=cs.length/\∀(j:Nat) (c:CK) (x:D),cs[j]?=some c->d.l[j]?=some x->n4 c x
def py (r:Row) (d:D):Prop:=match r with
 | .one c=>n4 c d
 | .many cs=>v7 cs d
def rQ (r:Row) (d:D):Prop:=d=dL d.l/\(∀x∈d.l,py r x)/\d.l≠[]
end Go.As
end
section
namespace Go.As
noncomputable section
inductive V where
 |lit (n:Int)
 |du (i:Nat)
 |add (a b:V)
 |sub (a b:V)
 |mul (a b:V)
 |quo (a b:V)
 |rem (a b:V)
 |wrap (k:IntKind) (a:V)
 |wi (b:Nat) (e:V)
 |eo (d:D)
 |op (o:fc) (a b:V)
 |ap (f:Nat) (a:V)
 deriving DecidableEq,Inhabited
def iQ (f:Nat) (z:Int):Nat:=1000+n8 f (zN z)*64+63
noncomputable def V.den (ρ:Nat->Int):V->Int
 | .lit n=>n
 | .du i=>ρ i
 | .add a b=>a.den ρ+b.den ρ
 | .sub a b=>a.den ρ-b.den ρ
 | .mul a b=>a.den ρ*b.den ρ
 | .quo a b=>(a.den ρ).tdiv (b.den ρ)
 | .rem a b=>(a.den ρ).tmod (b.den ρ)
 | .wrap k a=>k.wrap (a.den ρ)
 | .wi b e=>ρ (1000+(e.den ρ).toNat*64+b)
 | .eo d=>enc d
 | .op o a b=>o.den (a.den ρ) (b.den ρ)
 | .ap f a=>ρ (iQ f (a.den ρ))
def ur:Int->Int->Bool
 | .ofNat a,.ofNat b=>Nat.beq a b
 | .negSucc a,.negSucc b=>Nat.beq a b
 |_,_=>false
def D.eqb:D->D->Bool
 | .i a,.i b=>ur a b
 | .p a b,.p c d=>match D.eqb a c with |true=>D.eqb b d|false=>false
 |_,_=>false
theorem vG {a b:Int} (h:ur a b=true):a=b:=by cases a<;>cases b<;>simp [ur] at h<;>rw [h]
theorem D.Ok: ∀{a b:D},D.eqb a b=true->a=b
 | .i a,.i b,h=>by simp only [D.eqb] at h; rw [vG h]
 | .p a b,.p c d,h=>by
   simp only [D.eqb] at h;split at h
   ·rename_i U; rw [D.Ok U,D.Ok h]
   grind
 | .i _,.p _ _,h=>by simp [D.eqb] at h
 | .p _ _,.i _,h=>by simp [D.eqb] at h
def eR:V->V->Bool
 | .lit a,.lit b=>a == b
 | .du i,.du j=>Nat.beq i j
 | .add a b,.add c d=>match eR a c with |true=>eR b d|false=>false
 | .sub a b,.sub c d=>match eR a c with |true=>eR b d|false=>false
 | .mul a b,.mul c d=>match eR a c with |true=>eR b d|false=>false
 | .quo a b,.quo c d=>match eR a c with |true=>eR b d|false=>false
 | .rem a b,.rem c d=>match eR a c with |true=>eR b d|false=>false
 | .wrap k a,.wrap l b=>match eR a b with |true=>decide (k=l)|false=>false
 | .wi i a,.wi j b=>match Nat.beq i j with |true=>eR a b|false=>false
 | .eo a,.eo b=>D.eqb a b
 | .op o a b,.op q c d=>match Nat.beq o.tag q.tag with
   |true=>match eR a c with |true=>eR b d|false=>false
   |false=>false
 | .ap f a,.ap g b=>match Nat.beq f g with |true=>eR a b|false=>false
 |_,_=>false
theorem cO: ∀(a b:V),eR a b=true->a=b
 | .lit a,b,h=>by cases b<;>simp [eR] at h; rw [h]
 | .du i,b,h=>by cases b<;>simp [eR] at h; rw [h]
 | .add a b,c,h=>by cases c<;>simp only [eR,aL] at h; split at h<;>first |(rename_i U; rw [cO _ _ U,cO _ _ h]; done)|simp at h
 | .sub a b,c,h=>by cases c<;>simp only [eR,aL] at h; split at h<;>first |(rename_i U; rw [cO _ _ U,cO _ _ h]; done)|simp at h
 | .mul a b,c,h=>by cases c<;>simp only [eR,aL] at h; split at h<;>first |(rename_i U; rw [cO _ _ U,cO _ _ h]; done)|simp at h
 | .quo a b,c,h=>by cases c<;>simp only [eR,aL] at h; split at h<;>first |(rename_i U; rw [cO _ _ U,cO _ _ h]; done)|simp at h
 | .rem a b,c,h=>by cases c<;>simp only [eR,aL] at h; split at h<;>first |(rename_i U; rw [cO _ _ U,cO _ _ h]; done)|simp at h
 | .wrap k a,c,h=>by cases c<;>simp only [eR,aL] at h; split at h<;>first |(rename_i U; rw [cO _ _ U,of_decide_eq_true h]; done)|simp at h
 | .wi i a,c,h=>by cases c<;>simp only [eR,aL] at h; split at h<;>first |(rename_i U; rw [aq U,cO _ _ h]; done)|simp at h
 | .eo a,c,h=>by cases c<;>simp only [eR,aL] at h; rw [D.Ok h]
 | .op o a b,c,h=>by
   cases c<;>simp only [eR,aL] at h;split at h
   ·rename_i h0;split at h
    ·rename_i U;rw [fc.x_ (aq h0),cO _ _ U,cO _ _ h]
    grind
   grind
 | .ap f a,c,h=>by cases c<;>simp only [eR,aL] at h; split at h<;>first |(rename_i U; rw [aq U,cO _ _ h]; done)|simp at h
inductive SB where
 |lit (b:Bool)
 |lt (a b:V)
 |le (a b:V)
 |eq (a b:V)
 |not (s:SB)
 |and (a b:SB)
 deriving DecidableEq,Inhabited
noncomputable def SB.den (ρ:Nat->Int):SB->Bool
 | .lit b=>b
 | .lt a b=>decide (a.den ρ<b.den ρ)
 | .le a b=>decide (a.den ρ<=b.den ρ)
 | .eq a b=>a.den ρ == b.den ρ
 | .not s=>!(s.den ρ)
 | .and a b=>a.den ρ&&b.den ρ
def rF (k:IntKind) (n:Int):Int:=
 match k with
 | .i64=>if -9223372036854775808<=n/\n<=9223372036854775807 then n else k.wrap n
 | .u8=>if 0<=n/\n<=255 then n else k.wrap n
 |_=>k.wrap n
inductive L2 where
 |exact (c:Nat)
 |rest (es:Nat)
 deriving DecidableEq,Inhabited
inductive W where
 |bool (b:SB)
 |int (k:IntKind) (e:V)
 |str (s:List Nat)
 |ptr (id off:Nat)
 |tI
 |mU (cells:List W)
 |slice (id off len:Nat) (c:L2)
 |eg
 |ro (cells:List W) (n:Nat) (full:Bool)
 |map (id:Nat)
 |rq
 |func (fn:Fn) (fs cs:List W)
 |we
 |iface (t:Nat) (v:W)
 |xe
 |agg (cs:List W)
 |tuple (vs:List W)
 |Kh (i:Nat)
 |wi (k:Nat) (ks:List IntKind)
 |eo (e:V) (t:Nat)
 |jy (e:V)
 |oL (id:Nat) (n:V) (t:Nat)
 |zd (id es:Nat) (i:V) (off:Nat)
 |emp
 |tE (id:Nat) (lo n:V) (t:Nat)
 |any
 |wR (z:V) (t:Nat)
 deriving Inhabited
def W.undef:W:=.tuple []
def W.cells:W->List W
 | .agg cs=>cs
 |v=>[v]
def W.one:W->Bool
 | .agg _=>false
 | .tuple _=>false
 | .Kh _=>false
 | .any=>false
 |_=>true
inductive dG where
 |cells (cs:List W) (e:TypeId)
 |map (es:List (W×W×Nat)) (clock:Nat)
 |jP (s:List Nat) (pos:Nat)
 |jh (m:Option Nat) (since:Nat) (seen:List Nat) (last:Nat)
 |vec (e:V) (t:Nat) (ty:TypeId) (ov:List (V×List W))
 |jJ (e:V) (t:Nat)
 |qS (e:V) (t:Nat) (eS:List Nat) (ov:List (V×W))
 deriving Inhabited
structure Hp where
 m:Tr dG
 next:Nat
 res:Option Nat:=none
 deriving Inhabited
def Hp.get (h:Hp) (i:Nat):Option dG:=h.m.get i
def Hp.put (h:Hp) (i:Nat) (o:dG):Hp:=⟨h.m.put i (some o),h.next,h.res⟩
def Hp.drop (h:Hp) (i:Nat):Hp:=⟨h.m.put i none,h.next,h.res⟩
def Hp.fresh (h:Hp):Nat:=match h.res with
 |none=>h.next
 |some r=>r
def Hp.new (h:Hp) (o:dG):Hp:=match h.res with
 |none=> ⟨h.m.put h.next (some o),h.next+1,none⟩
 |some r=> ⟨h.m.put r (some o),h.next,none⟩
inductive T (α:Type) where
 |fail
 |ret (a:α)
 |split (c:SB) (t f:T α)
 deriving Inhabited
def T.bind {α β:Type}:T α->(α->T β)->T β
 | .fail,_=> .fail
 | .ret a,f=>f a
 | .split c x y,f=> .split c (x.bind f) (y.bind f)
def T.leaf {α:Type} (ρ:Nat->Int):T α->Option α
 | .fail=>none
 | .ret a=>some a
 | .split c x y=>match c.den ρ with
   |true=>x.leaf ρ
   |false=>y.leaf ρ
inductive TK where
 |bool
 |int (k:IntKind)
 |string
 |pointer (e:Nat)
 |slice (e:Nat)
 |array (n e:Nat)
 |map (k e:Nat)
 |struct (fs:List (Nat×Nat×Nat))
 |func
 |iface (plain:Bool)
 |tuple
 deriving DecidableEq,Inhabited
structure TI where
 kind:TK
 size:Nat
 bytes:Nat
 zero:List W
 eqs:Bool
 own:Option Nat:=none
 deriving Inhabited
def TK.agg (k:TK):Bool:=match k with | .struct _=>true| .array _ _=>true|_=>false
def TI.agg (i:TI):Bool:=i.kind.agg
abbrev TT:=Nat->Option TI
def bytesOf (s:ByteArray):List Nat:=s.data.toList.map (·.toNat)
def gw:Value->Option W
 | .bool b=>some (.bool (.lit b))
 | .int k n=>some (.int k (.lit n))
 | .string s=>some (.str (bytesOf s))
 | .pointer none=>some .tI
 | .slice none 0 0=>some .eg
 | .map none=>some .rq
 | .nilFunc=>some .we
 | .nilIface=>some .xe
 | .func fn f c=>if f.isEmpty&&c.isEmpty then some (.func fn [] []) else none
 |_=>none
def kr:List Value->Option (List W)
 |[]=>some []
 |v::vs=>match gw v with
  |none=>none
  |some a=>match kr vs with
   |none=>none
   |some alD=>some (a::alD)
def ofConst:Value->Option W
 | .agg cs=>(kr cs.toList).map .agg
 | .tuple vs=>(kr vs.toList).map .tuple
 |v=>gw v
def pJ (a b:V):SB:=match eR a b with
 |true=> .lit true
 |false=>match a with
  | .eo _=> .eq b a
  |_=> .eq a b
def xU (x:V):V:=match x with
 | .op o a _=>match o with
   | .mk=>a
   |_=> .op .num x (.lit 0)
 | .eo d=>match d with
   | .i n=> .lit n
   |_=> .op .num x (.lit 0)
 |_=> .op .num x (.lit 0)
def mS (x:V):V:=match x with
 | .lit n=> .eo (.i n)
 |x=> .op .mk x (.lit 0)
def iu (j:Nat) (x:V):V:=match x with
 | .op o a b=>match o with
   | .cons=>match j with
     |0=>a
     |j+1=>iu j b
   |_=> .op (.cell j) x (.lit 0)
 |_=> .op (.cell j) x (.lit 0)
def dN (x:V):V:=match x with
 | .op o a _=>match o with
   | .set=>dN a
   |_=> .op .len x (.lit 0)
 | .eo d=> .lit (Int.ofNat d.l.length)
 |_=> .op .len x (.lit 0)
def ey (a b:V):V:=.op .cons a b
def Nu (x:V):Bool:=match x with
 | .eo d=>match d with
   | .i n=>ur n 0
   |_=>false
 |_=>false
def u6 (c:CK) (x:V):W:=match c with
 | .int k=> .int k (xU x)
 | .bool=> .bool (.not (.eq (xU x) (.lit 0)))
 | .str=> .jy x
 | .sl t=> .eo x t
def hD:List CK->Nat->V->List W
 |[],_,_=>[]
 |c::cs,j,x=>u6 c (iu j x)::hD cs (j+1) x
def gy (r:Row) (x:V):List W:=match r with
 | .one c=>[u6 c x]
 | .many cs=>hD cs 0 x
def mi (x:V):V:=match x with
 | .eo d=> .eo d
 | .op o a b=>match o with
   | .cell j=> .op (.cell j) a b
   | .at=> .op .at a b
   |o=> .op .norm (.op o a b) (.lit 0)
 |x=> .op .norm x (.lit 0)
def tg:W->Option V
 | .str l=>some (.eo (kR l))
 | .jy e=>some e
 |_=>none
def AQ (x y:W):Option SB:=match tg x with
 |none=>none
 |some a=>match tg y with
  |none=>none
  |some b=>some (pJ (mi a) (mi b))
def mz (c:CK) (v:W):Option V:=match c with
 | .int k=>match v with
   | .int k' e=>if k=k' then some (mS e) else none
   |_=>none
 | .bool=>match v with
   | .bool c=>match c with
     | .lit b=>some (.eo (.i (if b then 1 else 0)))
     | .not d=>match d with
       | .eq x z=>match z with
         | .lit n=>if n=0 then some (.op .bit (mS x) (.lit 0)) else none
         |_=>none
       |_=>none
     |_=>none
   |_=>none
 | .str=>tg v
 | .sl t=>match v with
   | .eo e t'=>if t=t' then some e else none
   | .eg=>some (.eo (.i 1))
   | .wR z t'=>if t=t' then some z else none
   | .slice _ _ n _=>match n with
     |0=>some (.eo (.i 2))
     |_=>none
   |_=>none
def gZ:List CK->List W->Option V
 |[],[]=>some (.eo (.i 0))
 |c::cs,v::vs=>match mz c v with
  |none=>none
  |some a=>match gZ cs vs with
   |none=>none
   |some b=>some (ey a b)
 |_,_=>none
def qg (r:Row) (cs:List W):Option V:=match r with
 | .one c=>match cs with
   |[v]=>mz c v
   |_=>none
 | .many ks=>gZ ks cs
def j9 (r:Row) (e:V):Nat->List W->Option V
 |0,[]=>some e
 |0,_::_=>none
 |m+1,cs=>match qg r (cs.take r.es) with
  |none=>none
  |some x=>j9 r (.op .snoc e x) m (cs.drop r.es)
structure St where
 bE:Tr W
 h:Hp
 pc:List (SB×Bool)
 deriving Inhabited
def St.set (s:St) (t:Nat) (v:W):St:={ s with bE:=s.bE.put t (some v) }
def St.JZ (s:St) (d:Option Nat) (v:W):St:=match d with |some t=>s.set t v|none=>s
def ev (s:St):Operand->Option W
 | .tmp t=>s.bE.get t
 | .const v=>ofConst v
 | .func f=>some (.func (.func f) [] [])
 | .global _=>none
def evs (s:St):List Operand->Option (List W)
 |[]=>some []
 |x::xs=>match ev s x with
  |none=>none
  |some a=>match evs s xs with
   |none=>none
   |some alD=>some (a::alD)
def nS:SB->SB->Bool
 | .lit a,.lit b=>a == b
 | .lt a b,.lt c d=>match eR a c with |true=>eR b d|false=>false
 | .le a b,.le c d=>match eR a c with |true=>eR b d|false=>false
 | .eq a b,.eq c d=>match eR a c with |true=>eR b d|false=>false
 | .not a,.not b=>nS a b
 | .and a b,.and c d=>match nS a c with |true=>nS b d|false=>false
 |_,_=>false
theorem re: ∀(a b:SB),nS a b=true->a=b
 | .lit a,b,h=>by cases b<;>simp [nS] at h; rw [h]
 | .lt a b,c,h=>by cases c<;>simp only [nS,aL] at h; split at h<;>first |(rename_i U; rw [cO _ _ U,cO _ _ h]; done)|simp at h
 | .le a b,c,h=>by cases c<;>simp only [nS,aL] at h; split at h<;>first |(rename_i U; rw [cO _ _ U,cO _ _ h]; done)|simp at h
 | .eq a b,c,h=>by cases c<;>simp only [nS,aL] at h; split at h<;>first |(rename_i U; rw [cO _ _ U,cO _ _ h]; done)|simp at h
 | .not a,c,h=>by cases c<;>simp only [nS,aL] at h; rw [re _ _ h]
 | .and a b,c,h=>by cases c<;>simp only [nS,aL] at h; split at h<;>first |(rename_i U; rw [re _ _ U,re _ _ h]; done)|simp at h
def mW (c:SB):List (SB×Bool)->Option Bool
 |[]=>none
 |(d,b)::l=>match nS c d with
  |true=>some b
  |false=>mW c l
def WV (a:Option Int) (z:Int):Option Int:=match a with
 |none=>some z
 |some y=>some (if y<z then z else y)
def WT (a:Option Int) (z:Int):Option Int:=match a with
 |none=>some z
 |some y=>some (if z<y then z else y)
def WH (a:Option Int) (z:Int):Option Int:=match a with
 |none=>none
 |some y=>some (if y=z then z+1 else y)
def WJ (a:Option Int) (z:Int):Option Int:=match a with
 |none=>none
 |some y=>some (if y=z then z-1 else y)
def RI (e:V):Option Int×Option Int:=match e with
 | .rem a c=>match c with
   | .lit k=>match a with
     | .add b d=>match d with
       | .lit m=>match b with
         | .rem _ f=>match f with
           | .lit n=>if 0<n/\n=m/\m=k then (some 0,some (n-1)) else (none,none)
           |_=>(none,none)
         |_=>(none,none)
       |_=>(none,none)
     |_=>(none,none)
   |_=>(none,none)
 | .op o _ _=>match o with
   | .len=>(some 0,none)
   |_=>(none,none)
 |_=>(none,none)
def bounds (e:V):List (SB×Bool)->Option Int×Option Int
 |[]=>RI e
 |(c,v)::l=>match c with
  | .lt x y=>match x with
    | .lit z=>match eR y e with
      |false=>bounds e l
      |true=>match bounds e l with
       |(lo,hi)=>match v with
        |true=>(WV lo (z+1),hi)
        |false=>(lo,WT hi z)
    |x=>match y with
     | .lit z=>match eR x e with
       |false=>bounds e l
       |true=>match bounds e l with
        |(lo,hi)=>match v with
         |true=>(lo,WT hi (z-1))
         |false=>(WV lo z,hi)
     |_=>bounds e l
  | .eq x y=>match y with
    | .lit z=>match v with
      |false=>match eR x e with
       |false=>bounds e l
       |true=>match bounds e l with
        |(lo,hi)=>(WH lo z,WJ hi z)
      |true=>match eR x e with
       |false=>bounds e l
       |true=>(some z,some z)
    |_=>bounds e l
  |_=>bounds e l
def oz (e:V) (pc:List (SB×Bool)):Option Int×Option Int:=match e with
 | .wrap k s=>match k with
   | .i64=>match s with
     | .add b d=>match d with
       | .lit c=>match bounds b pc with
         |(some lo,some hi)=>if -9223372036854775808<=lo+c/\hi+c<=9223372036854775807 then (match bounds e pc with
          |(l2,Z)=>(WV l2 (lo+c),WT Z (hi+c))) else bounds e pc
         |_=>bounds e pc
       |_=>bounds e pc
     |_=>bounds e pc
   |_=>bounds e pc
 |_=>bounds e pc
def PM (a b:V) (pc:List (SB×Bool)):Option Bool:=match mW (.eq a b) pc with
 |some v=>some v
 |none=>mW (.eq b a) pc
def decLt (pc:List (SB×Bool)) (a b:V):Option Bool:=match mW (.lt a b) pc with
 |some v=>some v
 |none=>match a with
  | .lit z=>match oz b pc with
    |(lo,hi)=>match lo with
     |some l=>if z<l then some true else match hi with
      |some h=>if h<=z then some false else none
      |none=>none
     |none=>match hi with
      |some h=>if h<=z then some false else none
      |none=>none
  |a=>match b with
   | .lit z=>match oz a pc with
     |(lo,hi)=>match hi with
      |some h=>if h<z then some true else match lo with
       |some l=>if z<=l then some false else none
       |none=>none
      |none=>match lo with
       |some l=>if z<=l then some false else none
       |none=>none
   |b=>match PM a b pc with
    |some true=>some false
    |some false=>match mW (.lt b a) pc with
     |some v=>some !v
     |none=>none
    |none=>match mW (.lt b a) pc with
     |some true=>some false
     |_=>none
def decEq (pc:List (SB×Bool)) (a b:V):Option Bool:=match PM a b pc with
 |some v=>some v
 |none=>match b with
  | .lit z=>match oz a pc with
    |(lo,hi)=>match lo with
     |some l=>if z<l then some false else match hi with
      |some h=>if h<z then some false else if l=z/\h=z then some true else none
      |none=>none
     |none=>match hi with
      |some h=>if h<z then some false else none
      |none=>none
  |b=>match mW (.lt a b) pc with
   |some true=>some false
   |some false=>match mW (.lt b a) pc with
    |some v=>some !v
    |none=>none
   |none=>match mW (.lt b a) pc with
    |some true=>some false
    |_=>none
def jw:V->Option (Sum Int D)
 | .lit n=>some (.inl n)
 | .eo d=>some (.inr d)
 | .op o a b=>match o with
   | .num=>match jw a with
     |some (.inr d)=>some (.inl d.n)
     |_=>none
   | .mk=>match jw a with
     |some (.inl n)=>some (.inr (.i n))
     |_=>none
   | .cons=>match jw a,jw b with
     |some (.inr x),some (.inr y)=>some (.inr (.p x y))
     |_,_=>none
   | .Df=>match jw a,jw b with
     |some (.inr x),some (.inr y)=>some (.inr ((ec x.l y).getD (.i 0)))
     |_,_=>none
   | .xf=>match jw a,jw b with
     |some (.inr x),some (.inr (.p k v))=>some (.inr (dL (ib x.l k v)))
     |_,_=>none
   | .Kr=>match jw a,jw b with
     |some (.inr x),some (.inr y)=>some (.inr (dL (EY x.l y)))
     |_,_=>none
   | .Kq=>match jw a,jw b with
     |some (.inr x),some (.inr y)=>some (.inl (if (ec x.l y).isSome then 1 else 0))
     |_,_=>none
   | .norm=>match jw a with
     |some (.inr x)=>some (.inr x)
     |_=>none
   |_=>none
 | .wrap k a=>match jw a with
   |some (.inl n)=>some (.inl (rF k n))
   |_=>none
 | .mul a b=>match jw a,jw b with
   |some (.inl x),some (.inl y)=>some (.inl (x*y))
   |_,_=>none
 | .quo a b=>match jw a,jw b with
   |some (.inl x),some (.inl y)=>some (.inl (x.tdiv y))
   |_,_=>none
 | .rem a b=>match jw a,jw b with
   |some (.inl x),some (.inl y)=>some (.inl (x.tmod y))
   |_,_=>none
 |_=>none
def Cq (pc:List (SB×Bool)) (c:SB):Option Bool:=
 match c with
 | .lit b=>some b
 | .lt a b=>match jw a,jw b with
   |some (.inl x),some (.inl y)=>some (decide (x<y))
   |_,_=>decLt pc a b
 | .eq a b=>match jw a,jw b with
   |some (.inl x),some (.inl y)=>some (decide (x=y))
   |_,_=>decEq pc a b
 |c=>mW c pc
def jH (pc:List (SB×Bool)) (c:SB):Option Bool:=
 match c with
 | .not s=>(Cq pc s).map (!·)
 |c=>Cq pc c
def jx {α:Type} (s:St) (c:SB) (f:St->Bool->T α):T α:=
 match jH s.pc c with
 |some b=>f s b
 |none=>match c with
  | .not d=> .split d (f { s with pc:=(d,true)::s.pc } false) (f { s with pc:=(d,false)::s.pc } true)
  |c=> .split c (f { s with pc:=(c,true)::s.pc } true) (f { s with pc:=(c,false)::s.pc } false)
def Wi (k:IntKind):V->V->V
 | .lit x,.lit y=> .lit (rF k (x+y))
 |a,b=> .wrap k (.add a b)
def Pp (k:IntKind):V->V->V
 | .lit x,.lit y=> .lit (rF k (x-y))
 |a,b=> .wrap k (.sub a b)
def Wh (k:IntKind):V->V->V
 | .lit x,.lit y=> .lit (rF k (x*y))
 |a,b=> .wrap k (.mul a b)
def gV:V->V->SB
 | .lit x,.lit y=> .lit (decide (x<y))
 |a,b=> .lt a b
def B?:V->V->SB
 | .lit x,.lit y=> .lit (decide (x<=y))
 |a,b=> .not (.lt b a)
def qp:V->V->SB
 | .lit x,.lit y=> .lit (x == y)
 | .lit x,b=> .eq b (.lit x)
 |a,b=>match eR a b with
  |true=> .lit true
  |false=> .eq a b
def wC:SB->SB
 | .lit b=> .lit !b
 | .not s=>s
 |s=> .not s
def Wk:SB->SB->SB
 | .lit true,b=>b
 | .lit false,_=> .lit false
 |a,.lit true=>a
 |_,.lit false=> .lit false
 |a,b=> .and a b
def bytesLess:List Nat->List Nat->Bool
 |_,[]=>false
 |[],_::_=>true
 |a::x,b::y=>if a.blt b then true else if a.beq b then bytesLess x y else false
def gC:List Nat->List Nat->Bool
 |[],[]=>true
 |a::x,b::y=>if a.beq b then gC x y else false
 |_,_=>false
def JV (op:BinOp) (x y:List Nat):Option W:=
 match op with
 | .add=>if x.length+y.length<=1000000 then some (.str (x++y)) else none
 | .eql=>some (.bool (.lit (gC x y)))
 | .neq=>some (.bool (.lit !(gC x y)))
 | .lss=>some (.bool (.lit (bytesLess x y)))
 | .leq=>some (.bool (.lit (bytesLess x y||gC x y)))
 | .gtr=>some (.bool (.lit !(bytesLess x y||gC x y)))
 | .geq=>some (.bool (.lit !(bytesLess x y)))
 |_=>none
def P6 (op:BinOp) (k:IntKind) (a b:V):Option W:=
 match op with
 | .add=>some (.int k (Wi k a b))
 | .sub=>some (.int k (Pp k a b))
 | .mul=>some (.int k (Wh k a b))
 | .quo=>match a,b with
   | .lit x,.lit y=>if y=0 then none else some (.int k (.lit (rF k (x.tdiv y))))
   |a,.lit y=>if y=0 then none else some (.int k (.wrap k (.quo a (.lit y))))
   |_,_=>none
 | .rem=>match a,b with
   | .lit x,.lit y=>if y=0 then none else some (.int k (.lit (x.tmod y)))
   |a,.lit y=>if y=0 then none else some (.int k (.rem a (.lit y)))
   |_,_=>none
 | .shr=>match a,b with
   | .lit x,.lit y=>if y<0 then none else some (.int k (.lit (x.fdiv (2 ^ (min y.toNat k.bits)))))
   |_,_=>none
 | .eql=>some (.bool (qp a b))
 | .neq=>some (.bool (wC (qp a b)))
 | .lss=>some (.bool (gV a b))
 | .leq=>some (.bool (B? a b))
 | .gtr=>some (.bool (gV b a))
 | .geq=>some (.bool (B? b a))
 |_=>none
def eT {α:Type}:List α->Nat->Option α
 |[],_=>none
 |x::_,0=>some x
 |_::xs,n+1=>eT xs n
def Cn (a b:SB):Option SB:=
 match a,b with
 | .lit x,.lit y=>some (.lit (x == y))
 | .lit x,b=>some (if x then b else wC b)
 |a,.lit y=>some (if y then a else wC a)
 |a,b=>some (.not (.and (.not (.and a b)) (.not (.and (.not a) (.not b)))))
def Ol (k:TK) (x y:W):Option SB:=
 match k with
 | .int _=>match x,y with
   | .int k a,.int k' b=>if k=k' then some (qp a b) else none
   |_,_=>none
 | .string=>match x,y with
   | .str a,.str b=>some (.lit (gC a b))
   |x,y=>AQ x y
 | .bool=>match x,y with
   | .bool a,.bool b=>Cn a b
   |_,_=>none
 |_=>none
def X2 (tt:TT) (xs ys:List W):List (Nat×Nat×Nat)->Option SB
 |[]=>some (.lit true)
 |(off,ft,_)::fs=>match tt ft with
  |none=>none
  |some i=>match eT xs off,eT ys off with
   |some x,some y=>match Ol i.kind x y with
    |none=>none
    |some c=>match X2 tt xs ys fs with
     |none=>none
     |some d=>some (Wk c d)
   |_,_=>none
def Cl (tt:TT) (t:Nat) (xs ys:List W):Option SB:=
 match tt t with
 |none=>none
 |some i=>match i.kind with
  | .struct fs=>if i.eqs then X2 tt xs ys fs else none
  |_=>none
def jU:W->Option Int
 | .int _ (.lit n)=>some n
 |_=>none
def isNil (k:TK) (x:W):Option Bool:=
 match k with
 | .slice _=>match x with
   | .eg=>some true
   | .slice _ _ _ _=>some false
   | .ro _ _ _=>some false
   | .oL _ _ _=>some false
   |_=>none
 | .pointer _=>match x with
   | .tI=>some true
   | .ptr _ _=>some false
   | .mU _=>some false
   |_=>none
 | .map _ _=>match x with
   | .rq=>some true
   | .map _=>some false
   |_=>none
 |_=>none
def aeY (k:TK) (x y:W):Option SB:=
 match k with
 | .bool=>match x,y with
   | .bool a,.bool b=>Cn a b
   |_,_=>none
 |k=>match isNil k x,isNil k y with
  |some true,some b=>some (.lit b)
  |some false,some true=>some (.lit false)
  |_,_=>none
def HK (op:BinOp) (c:Option SB):Option W:=match c with
 |none=>none
 |some c=>match op with
  | .eql=>some (.bool c)
  | .neq=>some (.bool (.not c))
  |_=>none
def X1 (tt:TT) (t:Nat) (op:BinOp) (x y:W):Option W:=
 match x with
 | .int k a=>match y with
   | .int k' b=>match op with
     | .shr=>P6 op k a b
     | .shl=>none
     |_=>if k=k' then P6 op k a b else none
   |_=>none
 | .str a=>match y with
   | .str b=>JV op a b
   | .jy e=>HK op (AQ (.str a) (.jy e))
   |_=>none
 | .jy e=>HK op (AQ (.jy e) y)
 |_=>match tt t with
  |none=>none
  |some i=>match op,aeY i.kind x y with
   | .eql,some c=>some (.bool c)
   | .neq,some c=>some (.bool (wC c))
   |_,_=>none
def aeW (op:UnOp) (x:W):Option W:=
 match op,x with
 | .not,.bool b=>some (.bool (wC b))
 | .neg,.int k e=>some (.int k (Pp k (.lit 0) e))
 |_,_=>none
def hJ {α:Type}:Nat->List α->Option (List α)
 |0,_=>some []
 |_+1,[]=>none
 |n+1,x::xs=>match hJ n xs with
  |some l=>some (x::l)
  |none=>none
def eE {α:Type}:Nat->List α->Option (List α)
 |0,l=>some l
 |_+1,[]=>none
 |n+1,_::xs=>eE n xs
def dP:List W->Nat->List W->Option (List W)
 |cs,0,[]=>some cs
 |[],0,_::_=>none
 |_::cs,0,v::vs=>match dP cs 0 vs with
  |some l=>some (v::l)
  |none=>none
 |[],_+1,_=>none
 |c::cs,n+1,vs=>match dP cs n vs with
  |some l=>some (c::l)
  |none=>none
def qO:List W->Bool
 |[]=>true
 |v::vs=>v.one&&qO vs
def mq (h:Hp) (p:W) (n:Nat):Option (List W):=
 match p with
 | .ptr id off=>match h.get id with
   |some (.cells cs _)=>match eE off cs with
    |some l=>hJ n l
    |none=>none
   |_=>none
 | .mU cs=>hJ n cs
 |_=>none
def Av (tt:TT) (t:Nat) (p:W) (h:Hp):Option W:=
 match tt t with
 |none=>none
 |some i=>match i.agg with
  |true=>(mq h p i.size).map .agg
  |false=>match mq h p 1 with
   |some (v::_)=>some v
   |_=>none
def IK (tt:TT) (t:Nat) (p v:W) (h:Hp):Option Hp:=
 match tt t with
 |none=>none
 |some i=>
  if v.cells.length=i.size&&qO v.cells then
   match p with
   | .ptr id off=>match h.get id with
     |some (.cells cs e)=>match dP cs off v.cells with
      |some lF=>some (h.put id (.cells lF e))
      |none=>none
     |_=>none
   |_=>none
  else none
def sP (place:Nat->Option (Nat×Nat)) (cs:List W):List (Nat×W)->Option (List W)
 |[]=>some cs
 |(i,v)::rest=>match place i with
  |none=>none
  |some (off,size)=>
   if v.cells.length=size&&qO v.cells then
    match dP cs off v.cells with
    |some lF=>sP place lF rest
    |none=>none
   else none
def hU (tt:TT) (t:Nat):Option Nat:=(tt t).map (·.size)
def I0 (tt:TT) (t:Nat) (parts:List (Nat×W)):Option W:=
 match tt t with
 |some i=>match i.kind with
  | .struct fs=>(sP (fun j=>(eT fs j).map fun f=>(f.1,f.2.2)) i.zero parts).map .agg
  | .array _ e=>match hU tt e with
    |some s=>(sP (fun j=>some (j*s,s)) i.zero parts).map .agg
    |none=>none
  |_=>none
 |none=>none
def dJ {α:Type} (l:List α):Nat->List α
 |0=>[]
 |n+1=>l++dJ l n
def sU (tt:TT) (t len:Nat) (parts:List (Nat×W)) (h:Hp):Option (W×Hp):=
 match tt t with
 |some i=>match i.kind with
  | .slice e=>match tt e with
    |some ie=>
     if len<=1000/\ie.size<=1000/\ie.zero.length=ie.size then
      match sP (fun j=>some (j*ie.size,ie.size)) (dJ ie.zero len) parts with
      |some cs=>some (.slice h.fresh 0 len (.exact len),h.new (.cells cs e))
      |none=>none
     else none
    |none=>none
  |_=>none
 |none=>none
def qd (tt:TT) (t:Nat) (l c:W) (h:Hp):Option (W×Hp):=
 match jU l with
 |some (.ofNat n)=>match jU c with
  |some (.ofNat m)=>match tt t with
   |some i=>match i.kind with
    | .slice e=>match tt e with
      |some ie=>
       if n<=m/\m<=1000/\ie.size<=1000/\ie.bytes<=1000000/\ie.zero.length=ie.size then
        some (.slice h.fresh 0 n (.exact m),h.new (.cells (dJ ie.zero m) e))
       else none
      |none=>none
    |_=>none
   |none=>none
  |_=>none
 |_=>none
def PK (off:Nat) (x:W):Option W:=match x with
 | .ptr id o=>some (.ptr id (o+off))
 | .zd id es i o=>some (.zd id es i (o+off))
 | .mU cs=>(eE off cs).map .mU
 |_=>none
def partOf (i:TI) (l:List W):Option W:=match i.agg with
 |true=>(hJ i.size l).map .agg
 |false=>match l with
  |v::_=>some v
  |[]=>none
def uW (tt:TT) (t:Nat) (p:W) (f:Nat):Option W:=
 match tt t with
 |some i=>match i.kind with
  | .struct fs=>match eT fs f with
    |some (off,_,size)=>match size with
     |0=>none
     |_=>PK off p
    |none=>none
  |_=>none
 |none=>none
def IS (tt:TT) (t:Nat) (x:W) (f:Nat):Option W:=
 match tt t with
 |some i=>match i.kind with
  | .struct fs=>match eT fs f with
    |some (off,ft,_)=>match tt ft,x with
     |some fi,.agg cs=>match eE off cs with
      |some l=>partOf fi l
      |none=>none
     |_,_=>none
    |none=>none
  |_=>none
 |none=>none
def nK (tt:TT) (t:Nat) (x ix:W):Option W:=
 match jU ix with
 |some (.ofNat i)=>match tt t with
  |some ti=>match ti.kind with
   | .array n e=>if i<n then match hU tt e with
    |some s=>PK (i*s) x
    |none=>none
    else none
   | .slice e=>match hU tt e with
     |some s=>match x with
      | .slice id o len _=>if i<len then some (.ptr id (o+i*s)) else none
      | .ro cs n _=>if i<n then (eE (i*s) cs).map .mU else none
      |_=>none
     |none=>none
   |_=>none
  |none=>none
 |_=>none
def uu (k:Nat) (e:V):List IntKind->Nat->List W
 |[],_=>[]
 |kd::ks,j=> .int kd (.wi (k*8+j) e)::uu k e ks (j+1)
def IQ (tt:TT) (pc:List (SB×Bool)) (t k:Nat) (ks:List IntKind) (ix:W):Option W:=
 match ix with
 | .int _ e=>match tt t with
   |some ti=>match ti.kind with
    | .slice el=>match hU tt el with
      |some s=>if s=ks.length/\k<8/\s<=8 then match jH pc (gV e (.lit 0)),jH pc (gV e (.du (900+k))) with
       |some false,some true=>some (.mU (uu k e ks 0))
       |_,_=>none
       else none
      |none=>none
    |_=>none
   |none=>none
 |_=>none
def yX (tt:TT) (t:Nat) (x ix:W):Option W:=
 match jU ix with
 |some (.ofNat i)=>match tt t with
  |some ti=>match ti.kind,x with
   | .string,.str s=>(eT s i).map fun b=> .int .u8 (.lit (Int.ofNat b))
   | .array n e,.agg cs=>if i<n then match tt e with
    |some ie=>match eE (i*ie.size) cs with
     |some l=>partOf ie l
     |none=>none
    |none=>none
    else none
   |_,_=>none
  |none=>none
 |_=>none
def nv (x:Option W) (d:Nat) (y:Nat):Option Nat:=
 match x with
 |none=>if d<=y then some d else none
 |some v=>match jU v with
  |some (.ofNat i)=>if i<=y then some i else none
  |_=>none
def yR (tt:TT) (t:Nat) (x:W) (lo hi mx:Option W):Option W:=
 match tt t with
 |none=>none
 |some ti=>match ti.kind with
  | .string=>match x,mx with
    | .str s,none=>match nv hi s.length s.length with
      |some h=>match nv lo 0 h with
       |some l=>some (.str ((s.take h).drop l))
       |none=>none
      |none=>none
    |_,_=>none
  | .slice e=>match hU tt e with
    |none=>none
    |some s=>match x with
     | .eg=>if mx.isSome&&hi.isNone then none else match nv hi 0 0,nv lo 0 0,nv mx 0 0 with
       |some _,some _,some _=>some .eg
       |_,_,_=>none
     | .slice id o len (.exact c)=>if mx.isSome&&hi.isNone then none else match nv mx c c with
       |none=>none
       |some m=>match nv hi len m with
        |none=>none
        |some h=>match nv lo 0 h with
         |none=>none
         |some l=>some (.slice id (o+l*s) (h-l) (.exact (m-l)))
     | .slice id o len (.rest es)=>match mx with
       |none=>match nv hi len len with
        |none=>none
        |some h=>match nv lo 0 h with
         |none=>none
         |some l=>if es=s then some (.slice id (o+l*s) (h-l) (.rest es)) else none
       |some _=>match hi,nv mx 0 len with
        |none,_=>none
        |_,none=>none
        |some _,some m=>match nv hi 0 m with
         |none=>none
         |some h=>match nv lo 0 h with
          |none=>none
          |some l=>some (.slice id (o+l*s) (h-l) (.exact (m-l)))
     | .ro cs n full=>match mx with
       |none=>match nv hi n n with
        |none=>none
        |some h=>match nv lo 0 h with
         |none=>none
         |some l=>match eE (l*s) cs with
          |none=>none
          |some d=>match hJ ((h-l)*s) d with
           |none=>none
           |some d'=>some (.ro d' (h-l) (full&&h == n))
       |some _=>match hi,nv mx 0 n with
        |none,_=>none
        |_,none=>none
        |some _,some m=>match nv hi 0 m with
         |none=>none
         |some h=>match nv lo 0 h with
          |none=>none
          |some l=>match eE (l*s) cs with
           |none=>none
           |some d=>match hJ ((h-l)*s) d with
            |none=>none
            |some d'=>some (.ro d' (h-l) (h == m))
     |_=>none
  | .array n e=>match hU tt e with
    |none=>none
    |some s=>match x with
     | .ptr id o=>if mx.isSome&&hi.isNone then none else match nv mx n n with
       |none=>none
       |some m=>match nv hi n m with
        |none=>none
        |some h=>match nv lo 0 h with
         |none=>none
         |some l=>some (.slice id (o+l*s) (h-l) (.exact (m-l)))
     |_=>none
  |_=>none
def DZ (tt:TT) (t:Nat) (x:W) (lo hi mx:Option W) (h:Hp):Option W:=
 match mx with
 |some _=>none
 |none=>match tt t with
  |none=>none
  |some ti=>match ti.kind with
   | .slice e=>match hU tt e with
     |none=>none
     |some s=>match x with
      | .slice id o len (.rest es)=>if es=s/\0<s then match h.get id with
       |some (.cells cs _)=>match nv hi len ((cs.length-o) / s) with
        |none=>none
        |some hh=>match nv lo 0 hh with
         |none=>none
         |some l=>some (.slice id (o+l*s) (hh-l) (.rest es))
       |_=>none
       else none
      |_=>none
   |_=>none
def u7:List W->Option (List Nat)
 |[]=>some []
 | .int .u8 (.lit (.ofNat b))::xs=>if b<256 then match u7 xs with
  |some l=>some (b::l)
  |none=>none
  else none
 |_::_=>none
def oH (tt:TT) (sT dT:Nat) (x:W) (h:Hp):Option (W×Hp):=
 match tt sT with
 |none=>none
 |some j=>match tt dT with
 |some i=>match i.kind with
  | .int k=>match x with
    | .int _ (.lit n)=>some (.int k (.lit (rF k n)),h)
    | .int _ e=>some (.int k (.wrap k e),h)
    |_=>none
  | .string=>match j.kind with
   | .string=>match x with
     | .str s=>some (.str s,h)
     |_=>none
   | .slice e=>match tt e with
     |none=>none
     |some ie=>if ie.kind= .int .u8/\ie.size=1 then match x with
      | .eg=>some (.str [],h)
      | .slice id o len _=>match mq h (.ptr id o) len with
        |some cs=>(u7 cs).map fun l=>(.str l,h)
        |none=>none
      |_=>none
      else none
   |_=>none
  | .slice e=>match tt e with
    |none=>none
    |some ie=>if ie.kind= .int .u8/\j.kind= .string then match x with
     | .str s=>some (.slice h.fresh 0 s.length (.rest 1),h.new (.cells (s.map fun c=> .int .u8 (.lit (Int.ofNat c))) e))
     |_=>none
     else none
  |_=>none
 |none=>none
def P0 (pc:List (SB×Bool)) (kk:TK) (a b:W):Option Bool:=
 match kk with
 | .int _=>match a,b with
   | .int k x,.int k' y=>if k=k' then jH pc (qp x y) else none
   |_,_=>none
 | .string=>match a,b with
   | .str x,.str y=>some (gC x y)
   |x,y=>match AQ x y with
    |some c=>jH pc c
    |none=>none
 | .bool=>match a,b with
   | .bool (.lit x),.bool (.lit y)=>some (x == y)
   |_,_=>none
 |_=>none
def Bn (pc:List (SB×Bool)) (kk:TK) (k:W):List (W×W×Nat)->Nat->Option (Option (Nat×W))
 |[],_=>some none
 |(k',v,_)::es,i=>match P0 pc kk k k' with
  |some true=>some (some (i,v))
  |some false=>Bn pc kk k es (i+1)
  |none=>none
def mh (k v:W):List (W×W×Nat)->Nat->List (W×W×Nat)
 |[],_=>[]
 |(_,_,b)::es,0=>(k,v,b)::es
 |e::es,n+1=>e::mh k v es n
def jn {α:Type}:List α->Nat->List α
 |[],_=>[]
 |_::xs,0=>xs
 |x::xs,n+1=>x::jn xs n
def vD (tt:TT) (t:Nat):Option TK:=match tt t with
 |some i=>match i.kind with
  | .int k=>some (.int k)
  | .string=>some .string
  | .bool=>some .bool
  |_=>none
 |none=>none
def zeroOf (i:TI):Option W:=
 match i.agg with
 |true=>some (.agg i.zero)
 |false=>match i.zero with
  |[v]=>some v
  |_=>none
def H9 (m:W) (h:Hp):Option (List (W×W×Nat)):=match m with
 | .rq=>some []
 | .map id=>match h.get id with
   |some (.map es _)=>some es
   |_=>none
 |_=>none
def D2 (tt:TT) (pc:List (SB×Bool)) (t:Nat) (m k:W) (ok:Bool) (h:Hp):Option W:=
 match tt t with
 |some ti=>match ti.kind with
  | .map kt et=>
    match vD tt kt with
    |none=>none
    |some kk=>
     match tt et with
     |none=>none
     |some ie=>
      match H9 m h with
      |none=>none
      |some es=>match Bn pc kk k es 0 with
       |none=>none
       |some (some (_,v))=>some (if ok then .tuple [v,.bool (.lit true)] else v)
       |some none=>match zeroOf ie with
        |none=>none
        |some z=>some (if ok then .tuple [z,.bool (.lit false)] else z)
  |_=>none
 |none=>none
def qc (tt:TT) (pc:List (SB×Bool)) (t:Nat) (m k v:W) (h:Hp):Option Hp:=
 match tt t with
 |some ti=>match ti.kind with
  | .map kt _=>
    match vD tt kt with
    |none=>none
    |some kk=>match m with
     | .map id=>match h.get id with
       |some (.map es c)=>match Bn pc kk k es 0 with
        |none=>none
        |some (some (i,_))=>some (h.put id (.map (mh k v es i) c))
        |some none=>some (h.put id (match c with
         |0=> .map (es++ [(k,v,0)]) 0
         |c+1=> .map (es++ [(k,v,c)]) (c+2)))
       |_=>none
     |_=>none
  |_=>none
 |none=>none
def D6 (tt:TT) (pc:List (SB×Bool)) (t:Nat) (m k:W) (h:Hp):Option Hp:=
 match tt t with
 |some ti=>match ti.kind with
  | .map kt _=>
    match vD tt kt with
    |none=>none
    |some kk=>match m with
     | .rq=>some h
     | .map id=>match h.get id with
       |some (.map es c)=>match Bn pc kk k es 0 with
        |none=>none
        |some (some (i,_))=>some (h.put id (.map (jn es i) c))
        |some none=>some (h.put id (.map es c))
       |_=>none
     |_=>none
  |_=>none
 |none=>none
def XZ (tt:TT) (t:Nat) (x:W) (h:Hp):Option W:=
 let n (k:Nat):Option W:=some (.int .i64 (.lit (Int.ofNat k)))
 match tt t with
 |some ti=>match ti.kind with
  | .string=>match x with
    | .str s=>n s.length
    | .jy e=>some (.int .i64 (dN e))
    |_=>none
  | .slice _=>match x with
    | .eg=>n 0
    | .emp=>n 0
    | .wR _ _=>n 0
    | .slice _ _ len _=>n len
    | .ro _ k _=>n k
    | .eo e _=>some (.int .i64 (dN e))
    | .oL _ e _=>some (.int .i64 e)
    | .tE _ _ e _=>some (.int .i64 e)
    | .wi k _=>some (.int .i64 (.du (900+k)))
    |_=>none
  | .array k _=>n k
  | .map _ _=>match x with
    | .rq=>n 0
    | .map id=>match h.get id with
      |some (.map es _)=>n es.length
      |some (.jJ e _)=>some (.int .i64 (dN e))
      |some (.qS e _ _ _)=>some (.int .i64 (dN e))
      |_=>none
    |_=>none
  |_=>none
 |none=>none
def qY (s:Nat) (x:W) (h:Hp):Option (Nat×List W):=
 match x with
 | .eg=>some (0,[])
 | .slice id o len _=>(mq h (.ptr id o) (len*s)).map fun l=>(len,l)
 | .ro cs n _=>(hJ (n*s) cs).map fun l=>(n,l)
 | .str b=>if s=1 then some (b.length,b.map fun c=> .int .u8 (.lit (Int.ofNat c))) else none
 |_=>none
def mY (ie:TI) (e len m:Nat) (cs:List W) (h:Hp):Option (W×Hp):=
 if (len+m)*ie.bytes<=140737488355328 then some (.slice h.fresh 0 (len+m) (.rest ie.size),h.new (.cells cs e)) else none
def px (ie:TI) (e m:Nat) (news:List W) (x:W) (h:Hp):Option (W×Hp):=
 match x with
 | .eg=>if m=0 then some (.eg,h) else mY ie e 0 m news h
 | .slice id o len (.exact c)=>
   if len+m<=c then
    match h.get id with
    |some (.cells cs e')=>match dP cs (o+len*ie.size) news with
     |some lF=>some (.slice id o (len+m) (.exact c),h.put id (.cells lF e'))
     |none=>none
    |_=>none
   else match mq h (.ptr id o) (len*ie.size) with
    |some old=>mY ie e len m (old++news) h
    |none=>none
 | .slice id o len (.rest es)=>
   if es=ie.size then
    match h.get id with
    |some (.cells cs e')=>
     if o+(len+m)*ie.size<=cs.length then
      match dP cs (o+len*ie.size) news with
      |some lF=>some (.slice id o (len+m) (.rest es),h.put id (.cells lF e'))
      |none=>none
     else if o+len*ie.size=cs.length/\e'=e then
      match eE o cs with
      |some old=>mY ie e len m (old++news) (h.drop id)
      |none=>none
     else none
    |_=>none
   else none
 | .ro cs n full=>
   if m=0 then some (.ro cs n full,h)
   else if full then match hJ (n*ie.size) cs with
    |some old=>mY ie e n m (old++news) h
    |none=>none
   else none
 |_=>none
def D7 (tt:TT) (t t2:Nat) (x y:W) (h:Hp):Option (W×Hp):=
 match tt t with
 |some ti=>match ti.kind with
  | .slice e=>match tt e with
    |some ie=>match tt t2 with
     |none=>none
     |some Pf=>match Pf.kind with
      | .int _=>none
      |_=>
       if ie.size=0\/ie.bytes=0\/¬ie.zero.length=ie.size then none else
       match qY ie.size y h with
       |none=>none
       |some (m,news)=>px ie e m news x h
    |none=>none
  |_=>none
 |none=>none
def IX (tt:TT) (t:Nat) (x:W) (h:Hp):Option Hp:=
 match tt t with
 |some ti=>match ti.kind with
  | .slice e=>match tt e with
    |some ie=>match x with
     | .eg=>some h
     | .wR _ _=>some h
     | .slice id o len _=>match len with
       |0=>some h
       |_=>match ie.zero with
        |[]=>none
        |_=>match h.get id with
         |some (.cells cs e')=>match dP cs o (dJ ie.zero len) with
          |some lF=>some (h.put id (.cells lF e'))
          |none=>none
         |_=>none
     |_=>none
    |none=>none
  |_=>none
 |none=>none
def IL (tt:TT) (t:Nat) (x:W) (h:Hp):Option (W×Hp):=
 match tt t with
 |some ti=>match ti.kind with
  | .string=>match x with
    | .str b=>some (.ptr h.fresh 0,h.new (.jP b 0))
    |_=>none
  | .map _ _=>match x with
    | .rq=>some (.ptr h.fresh 0,h.new (.jh none 0 [] 0))
    | .map id=>match h.get id with
      |some (.map _ (c+1))=>some (.ptr h.fresh 0,h.new (.jh (some id) c [] c))
      |_=>none
    |_=>none
  |_=>none
 |none=>none
def N5 (x:W) (isS:Bool) (h:Hp):Option (W×Hp):=
 match isS with
 |false=>match x with
  | .ptr id 0=>match h.get id with
    |some (.jh none _ _ _)=>some (.tuple [.bool (.lit false)],h)
    |some (.jh (some m) since seen last)=>match h.get m with
     |some (.map [] (_+1))=>some (.tuple [.bool (.lit false)],h)
     |some (.map [(k,v,n)] (c+1))=>match seen with
      |[]=>if n<since then some (.tuple [.bool (.lit true),k,v],h.put id (.jh (some m) since [n] c)) else none
      |[y]=>if y=n/\n<last then some (.tuple [.bool (.lit false)],h) else none
      |_=>none
     |_=>none
    |_=>none
  |_=>none
 |true=>match x with
  | .ptr id 0=>match h.get id with
    |some (.jP b p)=>match eT b p with
     |none=>some (.tuple [.bool (.lit false)],h)
     |some c=>if c<128 then some (.tuple [.bool (.lit true),.int .i64 (.lit (Int.ofNat p)),.int .i32 (.lit (Int.ofNat c))],h.put id (.jP b (p+1))) else none
    |_=>none
  |_=>none
def IU (x:W) (h:Hp):Option W:=match x with
 | .ptr id 0=>match h.get id with
   |some (.jh (some m) _ [y] last)=>match h.get m with
    |some (.map [(k,v,n)] (c+1))=>if n=y/\c=last then some (.tuple [k,v]) else none
    |_=>none
   |_=>none
 |_=>none
def sM (mx:Bool):List W->V->IntKind->St->T (W×St)
 |[],a,k,s=> .ret (.int k a,s)
 | .int _ b::xs,a,k,s=>jx s (if mx then gV a b else gV b a) fun s c=>if c then sM mx xs b k s else sM mx xs a k s
 |_,_,_,_=> .fail
def adR (s:St) (q:Bool) (k:IntKind) (e d:V):T (W×St):=jx s (qp d (.lit 0)) fun s c=>match c with
 |true=> .fail
 |false=> .ret (.int k (match q with |true=> .wrap k (.quo e d)|false=> .rem e d),s)
def Hq (s:St) (h:Option W) (k:Option W->St->T (W×St)):T (W×St):=match h with
 |some (.int .i64 e)=>jx s (qp e (.lit 0)) fun s c=>match c with
  |true=>k (some (.int .i64 (.lit 0))) s
  |false=> .fail
 |h=>k h s
def M5 (op:BinOp) (a b:W):Option (Bool×IntKind×V×V):=
 match (match op with | .rem=>some false| .quo=>some true|_=>none) with
 |some q=>match a with
  | .int k e=>match b with
    | .int k' d=>match d with
      | .lit _=>none
      |d=>if k=k' then some (q,k,e,d) else none
    |_=>none
  |_=>none
 |none=>none
def oP (s:St) (v:Option W):T (W×St):=match v with |some v=> .ret (v,s)|none=> .fail
def M1 (s:St) (h:Option Hp):T (W×St):=match h with |some h=> .ret (W.undef,{ s with h:=h })|none=> .fail
def AY (s:St) (r:Option (W×Hp)):T (W×St):=match r with |some (v,h)=> .ret (v,{ s with h:=h })|none=> .fail
def GX (s:St):Option Operand->Option (Option W)
 |none=>some none
 |some x=>(ev s x).map some
def vQ (s:St):List (Nat×Operand)->Option (List (Nat×W))
 |[]=>some []
 |(i,x)::xs=>match ev s x with
  |none=>none
  |some a=>match vQ s xs with
   |none=>none
   |some alD=>some ((i,a)::alD)
def yi {α:Type} (s:St) (i n:V) (f:St->T α):T α:=
 jx s (gV i (.lit 0)) fun s b=>match b with
  |true=> .fail
  |false=>jx s (gV i n) fun s b=>match b with
   |true=>f s
   |false=> .fail
def Nj (tt:TT) (t:Nat) (a b:W):Option V:=match a with
 | .eo e _=>match b with
   | .eg=>match tt t with
     |some ti=>match ti.kind with
      | .slice _=>some e
      |_=>none
     |none=>none
   |_=>none
 |_=>none
def WQ (s:St) (op:BinOp) (r:Bool):T (W×St):=match op with
 | .eql=> .ret (.bool (.lit r),s)
 | .neq=> .ret (.bool (.lit (!r)),s)
 |_=> .fail
def ad5 (s:St) (e:V) (op:BinOp):T (W×St):=jx s (gV (.lit 0) (dN e)) fun s b=>match b with
 |true=>WQ s op false
 |false=>jx s (pJ (mi e) (.eo (.i 1))) fun s b=>match b with
  |true=>WQ s op true
  |false=>jx s (pJ (mi e) (.eo (.i 2))) fun s b=>match b with
   |true=>WQ s op false
   |false=> .fail
def ahQ (kk:TK) (a b:W):Option SB:=match kk with
 | .int _=>match a with
   | .int k x=>match b with
     | .int k' y=>if k=k' then some (qp x y) else none
     |_=>none
   |_=>none
 | .string=>AQ a b
 |_=>none
def s5 {α:Type} (kk:TK) (k:W):List (W×W×Nat)->St->(St->T α)->T α
 |[],s,f=>f s
 |(k',_,_)::es,s,f=>match P0 s.pc kk k k' with
  |some b=>match b with
   |true=>f s
   |false=>s5 kk k es s f
  |none=>match ahQ kk k k' with
   |some c=>jx s c fun s b=>match b with
    |true=>f s
    |false=>s5 kk k es s f
   |none=>f s
def ny {α:Type} (tt:TT) (t:Nat) (m k:W) (s:St) (f:St->T α):T α:=match tt t with
 |some ti=>match ti.kind with
  | .map kt _=>match vD tt kt with
    |some kk=>match H9 m s.h with
     |some es=>s5 kk k es s f
     |none=>f s
    |none=>f s
  |_=>f s
 |none=>f s
def Ln (k:IntKind) (e:V) (f:W->St->T (W×St)):Nat->Nat->St->T (W×St)
 |0,_,_=> .fail
 |n+1,j,s=>match n with
  |0=>f (.int k (.lit (Int.ofNat j))) s
  |_=>jx s (qp e (.lit (Int.ofNat j))) fun s b=>match b with
   |true=>f (.int k (.lit (Int.ofNat j))) s
   |false=>Ln k e f n (j+1) s
def aiG (tt:TT) (t:Nat) (x:W):Option Nat:=match tt t with
 |some ti=>match ti.kind with
  | .array n _=>if n<=64 then some n else none
  | .slice _=>match x with
    | .slice _ _ len _=>if len<=64 then some len else none
    |_=>none
  |_=>none
 |none=>none
def Hj (tt:TT) (t:Nat) (x ix:W) (s:St) (f:W->St->T (W×St)):T (W×St):=match jU ix with
 |some _=>f ix s
 |none=>match ix with
  | .int k e=>match aiG tt t x with
    |some n=>yi s e (.lit (Int.ofNat n)) fun s=>Ln k e f n 0 s
    |none=> .fail
  |_=> .fail
def sV (tt:TT) (ty:Nat):Option Nat:=match tt ty with
 |some ti=>match ti.kind with
  | .slice el=>hU tt el
  |_=>none
 |none=>none
def IW (tt:TT) (s:St) (ty t:Nat) (e:V) (ix:W):T (W×St):=match ix with
 | .int _ i=>match sV tt ty with
   |some z=>if z=(rowOf t).es then yi s i (dN e) fun s=> .ret (.mU (gy (rowOf t) (.op .at e i)),s) else .fail
   |none=> .fail
 |_=> .fail
def IH (tt:TT) (s:St) (ty id t:Nat) (n:V) (ix:W):T (W×St):=match ix with
 | .int _ i=>match sV tt ty with
   |some z=>if z=(rowOf t).es then yi s i n fun s=> .ret (.zd id z i 0,s) else .fail
   |none=> .fail
 |_=> .fail
def nB (pc:List (SB×Bool)) (Zo:List W) (i:V):List (V×List W)->Option (List W)
 |[]=>some Zo
 |(j,cs)::l=>match eR i j with
  |true=>some cs
  |false=>match jH pc (qp i j) with
   |some b=>match b with
    |true=>some cs
    |false=>nB pc Zo i l
   |none=>none
def FQ (pc:List (SB×Bool)) (i:V) (lF:List W):List (V×List W)->Option (List (V×List W))
 |[]=>none
 |(j,cs)::l=>match eR i j with
  |true=>some ((j,lF)::l)
  |false=>match jH pc (qp i j) with
   |some b=>match b with
    |true=>some ((j,lF)::l)
    |false=>match FQ pc i lF l with
     |some l'=>some ((j,cs)::l')
     |none=>none
   |none=>none
def ve (pc:List (SB×Bool)) (i:V):List (V×List W)->Bool
 |[]=>true
 |(j,_)::l=>match jH pc (qp i j) with
  |some false=>ve pc i l
  |_=>false
def tO {α:Type} (i:V):List (V×List W)->St->(St->T α)->T α
 |[],s,k=>k s
 |(j,_)::l,s,k=>match eR i j with
  |true=>k s
  |false=>jx s (qp i j) fun s b=>match b with
   |true=>k s
   |false=>tO i l s k
def Dk (k:IntKind):List W->Option (List D)
 |[]=>some []
 |v::vs=>match v with
  | .int k' e=>match e with
    | .lit n=>if k=k' then match Dk k vs with
     |some ds=>some (.i n::ds)
     |none=>none
     else none
    |_=>none
  |_=>none
def x?:List W->Option IntKind
 |v::_=>match v with
  | .int k _=>some k
  |_=>none
 |[]=>none
def RG (tt:TT) (t:Nat) (ix:W):Option (Nat×V):=match jU ix with
 |some _=>none
 |none=>match ix with
  | .int _ e=>match tt t with
    |some ti=>match ti.kind with
     | .array n el=>if 64<n then match tt el with
      |some ie=>if ie.size=1/\ie.agg=false then some (n,e) else none
      |none=>none
      else none
     |_=>none
    |none=>none
  |_=>none
def GV (s:St) (cs:List W) (e:V):T (W×St):=match x? cs with
 |none=> .fail
 |some k=>match Dk k cs with
  |none=> .fail
  |some ds=>yi s e (.lit (Int.ofNat ds.length)) fun s=> .ret (.int k (xU (.op .at (.eo (dL ds)) e)),s)
def yW (tt:TT) (s:St) (ty id es:Nat) (i:V) (off:Nat):T (W×St):=match s.h.get id with
 |some o=>match o with
  | .cells cs _=>match tt ty with
    |some ti=>match ti.agg||!(Nat.beq es 1)||!(Nat.beq off 0) with
     |true=> .fail
     |false=>GV s cs i
    |none=> .fail
  | .vec e t _ ov=>match tt ty with
    |some ti=>if (rowOf t).es=es then yi s i (dN e) fun s=>tO i ov s fun s=>match nB s.pc (gy (rowOf t) (.op .at e i)) i ov with
     |some cs=>match eE off cs with
      |some l=>oP s (partOf ti l)
      |none=> .fail
     |none=> .fail
     else .fail
    |none=> .fail
  |_=> .fail
 |none=> .fail
def Mc (v:W) (h:Hp):W×Hp:=match v with
 | .oL id n t=>match h.get id with
   |some o=>match o with
    | .vec e t' _ ov=>match ov with
      |[]=>match Nat.beq t t' with
       |true=>match eR n (dN e) with
        |true=>(.eo e t,h.drop id)
        |false=>(v,h)
       |false=>(v,h)
      |_=>(v,h)
    |_=>(v,h)
   |none=>(v,h)
 | .wR z t=>(.eo z t,h)
 |v=>(v,h)
def M' (e:V):Bool:=match e with
 | .lit n=>ur n 0
 |_=>false
def rP (a b:V):V:=match M' a with
 |true=>b
 |false=> .add a b
def CF (a b:V):V:=match M' b with
 |true=>a
 |false=> .sub a b
def C6 (e lo n:V):V:=match M' lo with
 |true=> .op .take e n
 |false=> .op .drop (.op .take e (.add lo n)) lo
def xb {α:Type} (e lo n:V) (s:St) (k:St->T α):T α:=
 jx s (gV lo (.lit 0)) fun s b=>match b with
  |true=> .fail
  |false=>jx s (gV n (.lit 0)) fun s b=>match b with
   |true=> .fail
   |false=>jx s (gV (dN e) (rP lo n)) fun s b=>match b with
    |true=> .fail
    |false=>k s
def AK (h:Hp) (id t:Nat):Option (V×TypeId):=match h.get id with
 |some o=>match o with
  | .vec e t' ty ov=>match ov with
    |[]=>match Nat.beq t t' with
     |true=>some (e,ty)
     |false=>none
    |_=>none
  |_=>none
 |none=>none
def NV {α:Type} (v:W) (s:St) (k:W->St->T α):T α:=match v with
 | .tE id lo n t=>match AK s.h id t with
   |some (e,_)=>xb e lo n s fun s=>k (.eo (C6 e lo n) t) { s with h:=s.h.drop id }
   |none=>k v s
 |v=>match Mc v s.h with
  |(v',h')=>k v' { s with h:=h' }
def GI {α:Type}:List W->St->(List W->St->T α)->T α
 |[],s,k=>k [] s
 |v::vs,s,k=>NV v s fun v' s=>GI vs s fun L3 s=>k (v'::L3) s
def FX {α:Type} (t:Nat):List (V×List W)->V->St->(V->St->T α)->T α
 |[],e,s,k=>k e s
 |(j,cs)::ov,e,s,k=>FX t ov e s fun e s=>GI cs s fun cs s=>match qg (rowOf t) cs with
  |some x=>k (.op .set e (ey (mS j) x)) s
  |none=> .fail
def adW (v:W) (h:Hp):Option (Nat×V×Nat×List (V×List W)):=match v with
 | .oL id n t=>match h.get id with
   |some o=>match o with
    | .vec e t' _ ov=>match ov with
      |[]=>none
      |_=>match Nat.beq t t' with
       |true=>match eR n (dN e) with
        |true=>some (id,e,t,ov)
        |false=>none
       |false=>none
    |_=>none
   |none=>none
 |_=>none
def NU {α:Type} (v:W) (s:St) (k:W->St->T α):T α:=match adW v s.h with
 |some (id,e,t,ov)=>FX t ov e s fun e' s=>match s.h.get id with
  |some _=>k (.eo e' t) { s with h:=s.h.drop id }
  |none=> .fail
 |none=>NV v s k
def wO {α:Type}:List W->St->(List W->St->T α)->T α
 |[],s,k=>k [] s
 |v::vs,s,k=>NU v s fun v' s=>wO vs s fun L3 s=>k (v'::L3) s
def setCells:List CK->Nat->List W->V->Option V
 |_,_,[],x=>some x
 |ks,off,v::vs,x=>match eT ks off with
  |some c=>match mz c v with
   |some a=>setCells ks (off+1) vs (.op .set x (ey (.eo (.i (Int.ofNat off))) a))
   |none=>none
  |none=>none
def Ji (r:Row) (e i:V) (off:Nat) (vs:List W):Option V:=match r with
 | .one c=>match off with
   |0=>match vs with
    |[v]=>match mz c v with
     |some a=>some (.op .set e (ey (mS i) a))
     |none=>none
    |_=>none
   |_=>none
 | .many ks=>match setCells ks off vs (.op .at e i) with
   |some x=>some (.op .set e (ey (mS i) x))
   |none=>none
def DX (tt:TT) (s:St) (ty id es:Nat) (i:V) (off:Nat) (one:Bool) (vs:List W):T (W×St):=
 match s.h.get id with
  |some o=>match o with
   | .vec e t zB ov=>match tt ty with
     |some ti=>if (rowOf t).es=es/\vs.length=ti.size/\one=true then yi s i (dN e) fun s=>tO i ov s fun s=>match nB s.pc (gy (rowOf t) (.op .at e i)) i ov with
      |some cs=>match dP cs off vs with
       |some lF=>match FQ s.pc i lF ov with
        |some iD=> .ret (W.undef,{ s with h:=s.h.put id (.vec e t zB iD) })
        |none=>match ve s.pc i ov with
         |true=>match Ji (rowOf t) e i off vs with
          |some e'=> .ret (W.undef,{ s with h:=s.h.put id (.vec e' t zB ov) })
          |none=> .ret (W.undef,{ s with h:=s.h.put id (.vec e t zB ((i,lF)::ov)) })
         |false=> .fail
       |none=> .fail
      |none=> .fail
      else .fail
     |none=> .fail
   |_=> .fail
  |none=> .fail
def ahX:W->Bool
 | .oL _ _ _=>true
 | .eg=>true
 | .wR _ _=>true
 | .slice _ _ n c=>match n with
   |0=>match c with
    | .exact k=>match k with
      |0=>true
      |_=>false
    |_=>false
   |_=>false
 |_=>false
def aeU (c:CK) (v:W):W:=match c with
 | .sl t=>match v with
   | .eg=> .wR (.eo (.i 1)) t
   | .slice i o n k=>match n with
     |0=>match k with
      | .exact m=>match m with
        |0=> .wR (.eo (.i 2)) t
        |m+1=> .slice i o 0 (.exact (m+1))
      |k=> .slice i o 0 k
     |n+1=> .slice i o (n+1) k
   |v=>v
 |_=>v
def K4:List CK->List W->List W
 |[],vs=>vs
 |_::_,[]=>[]
 |c::cs,v::vs=>aeU c v::K4 cs vs
def M0 (r:Row):List CK:=match r with
 | .one c=>[c]
 | .many cs=>cs
def QT (i:V):List (SB×Bool)->Option V
 |[]=>none
 |(c,b)::l=>match c with
  | .eq x y=>match b with
    |true=>match eR x i with
     |true=>some y
     |false=>QT i l
    |false=>QT i l
  |_=>QT i l
def DW (tt:TT) (s:St) (ty id es:Nat) (i j:V) (off:Nat) (one:Bool) (vs:List W):T (W×St):=
 match s.h.get id with
  |some o=>match o with
   | .vec e t zB ov=>match tt ty with
     |some ti=>if (rowOf t).es=es/\vs.length=ti.size/\one=true then yi s i (dN e) fun s=>tO j ov s fun s=>match jH s.pc (.eq i j) with
      |some true=>match nB s.pc (gy (rowOf t) (.op .at e j)) j ov with
       |some cs=>match dP cs off (K4 ((M0 (rowOf t)).drop off) vs) with
        |some lF=>match FQ s.pc j lF ov with
         |some iD=> .ret (W.undef,{ s with h:=s.h.put id (.vec e t zB iD) })
         |none=>match ve s.pc j ov with
          |true=> .ret (W.undef,{ s with h:=s.h.put id (.vec e t zB ((j,lF)::ov)) })
          |false=> .fail
        |none=> .fail
       |none=> .fail
      |_=> .fail
      else .fail
     |none=> .fail
   |_=> .fail
  |none=> .fail
def DY (tt:TT) (s:St) (ty id es:Nat) (i:V) (off:Nat) (v:W):T (W×St):=
 match (if ahX v then QT i s.pc else none) with
 |some j=>DW tt s ty id es i j off (qO v.cells) v.cells
 |none=>wO v.cells s fun vs s=>DX tt s ty id es i off (qO v.cells) vs
def pr (e:Nat) (own:Option Nat) (x:W) (h:Hp):Option (V×Nat×Hp):=match x with
 | .oL id n t=>match h.get id with
   |some o=>match o with
    | .vec e0 t0 ty ov=>match ov with
      |[]=>match Nat.beq t t0 with
       |true=>match Nat.beq ty e with
        |true=>match eR n (dN e0) with
         |true=>some (e0,t,h.drop id)
         |false=>none
        |false=>none
       |false=>none
      |_=>none
    |_=>none
   |none=>none
 | .eg=>match own with
   |some t=>some (.eo (.i 0),t,h)
   |none=>none
 | .emp=>match own with
   |some t=>some (.eo (.i 0),t,h)
   |none=>none
 | .wR _ _=>match own with
   |some t=>some (.eo (.i 0),t,h)
   |none=>none
 | .slice _ _ n c=>match n with
   |0=>match c with
    | .exact k=>match k with
      |0=>match own with
       |some t=>some (.eo (.i 0),t,h)
       |none=>none
      |_=>none
    |_=>none
   |_=>none
 |_=>none
def abv:W->Bool
 | .eo _ _=>true
 |_=>false
def Xd (own:Option Nat):W->Bool
 | .oL _ _ _=>true
 | .tE _ _ _ _=>true
 | .eg=>own.isSome
 | .emp=>own.isSome
 | .wR _ _=>own.isSome
 | .slice _ _ n c=>match n with
   |0=>match c with
    | .exact k=>match k with
      |0=>own.isSome
      |_=>false
    |_=>false
   |_=>false
 |_=>false
def RJ (id t:Nat) (ty:TypeId) (e0 n1 m sd:V) (s:St):T (W×St):=
 xb e0 n1 m s fun s=> .ret (.tE id (.lit 0) (rP n1 m) t,{ s with h:=s.h.put id (.vec (.op .cat (.op .cat (.op .take e0 n1) sd) (.op .drop e0 (rP n1 m))) t ty []) })
def D8 (tt:TT) (t t2 id:Nat) (n1:V) (t':Nat) (y:W) (s:St):T (W×St):=
 match tt t with
 |some ti=>match ti.kind with
  | .slice e=>match tt e with
    |some ie=>match tt t2 with
     |none=> .fail
     |some Pf=>match Pf.kind with
      | .int _=> .fail
      |_=>
       if ie.size=0\/ie.bytes=0\/¬ie.zero.length=ie.size\/¬(rowOf t').es=ie.size then .fail else
       match AK s.h id t' with
       |none=> .fail
       |some (e0,ty)=>match y with
        | .tE id2 T6 n2 Jv=>match Nat.beq id2 id with
          |true=>match Nat.beq Jv t' with
           |true=>xb e0 T6 n2 s fun s=>RJ id t' ty e0 n1 n2 (C6 e0 T6 n2) s
           |false=> .fail
          |false=> .fail
        |y=>match qY ie.size y s.h with
         |none=> .fail
         |some (m,news)=>match m with
          |0=> .fail
          |m+1=>if m<1000 then match j9 (rowOf t') (.eo (.i 0)) (m+1) news with
           |some sd=>RJ id t' ty e0 n1 (.lit (Int.ofNat (m+1))) sd s
           |none=> .fail
           else .fail
    |none=> .fail
  |_=> .fail
 |none=> .fail
def yZ (tt:TT) (ty id:Nat) (lo n:V) (t:Nat) (s:St):T (W×St):=
 match tt ty with
 |some ti=>match ti.kind with
  | .slice e=>match tt e with
    |some ie=>if (rowOf t).es=ie.size/\0<ie.size then match AK s.h id t with
     |none=> .fail
     |some (e0,zB)=>match qg (rowOf t) ie.zero with
      |none=> .fail
      |some z=>jx s (gV lo (.lit 0)) fun s b=>match b with
       |true=> .fail
       |false=>jx s (gV n (.lit 0)) fun s b=>match b with
        |true=> .fail
        |false=>jx s (qp (rP lo n) (dN e0)) fun s b=>match b with
         |false=> .fail
         |true=> .ret (W.undef,{ s with h:=s.h.put id (.vec (.op .fill e0 (ey (mS lo) z)) t zB []) })
     else .fail
    |none=> .fail
  |_=> .fail
 |none=> .fail
def qt (bytes k:Nat):Int:=Int.ofNat (140737488355328 / bytes-k)
def Wo (e0:V) (bytes:Nat):Int:=match Nu e0 with
 |true=>qt bytes 0
 |false=>qt bytes 1000000
def H?:W->Bool
 | .oL _ _ _=>true
 | .wR _ _=>true
 | .slice _ _ n _=>match n with
   |0=>true
   |_=>false
 |_=>false
def yK:List (SB×Bool)->Bool
 |[]=>false
 |(b,v)::l=>match b with
  | .eq _ x=>match x with
    | .du i=>match i with
      |0=>match v with
       |true=>true
       |false=>yK l
      |_=>yK l
    |_=>yK l
  |_=>yK l
def v! (m:Nat) (news:List W) (pc:List (SB×Bool)):Bool:=match m with
 |0=>match news.any H? with
  |true=>yK pc
  |false=>false
 |_=>false
def zQ (e:Nat) (x:W) (h:Hp):Option (V×Nat×V×List W×Hp):=match x with
 | .oL id n t=>match h.get id with
   |some o=>match o with
    | .vec e0 t0 ty ov=>match ov with
      |[]=>none
      |p::l=>match l with
       |[]=>match Nat.beq t t0 with
        |true=>match Nat.beq ty e with
         |true=>match eR n (dN e0) with
          |true=>some (e0,t,p.1,p.2,h.drop id)
          |false=>none
         |false=>none
        |false=>none
       |_=>none
    |_=>none
   |none=>none
 |_=>none
def za (e:Nat) (own:Option Nat) (x:W) (ie:TI) (m:Nat) (news:List W) (s:St):T (W×St):=
 wO news s fun A7 s=>match pr e own x s.h with
  |some (e0,t',h0)=>if (rowOf t').es=ie.size/\m<1000 then
   jx s (gV (dN e0) (.lit (qt ie.bytes (m+1)))) fun s b=>match b with
    |true=>match j9 (rowOf t') e0 (m+1) A7 with
     |some e1=> .ret (.oL h0.fresh (dN e1) t',{ s with h:=h0.new (.vec e1 t' e []) })
     |none=> .fail
    |false=> .fail
   else .fail
  |none=> .fail
def Ay (e:Nat) (x:W) (ie:TI) (m:Nat) (news:List W) (s:St):T (W×St):=
 wO news s fun A7 s=>match zQ e x s.h with
  |some (e0,t',p,cs,h0)=>if (rowOf t').es=ie.size/\m<1000 then
   jx s (gV (dN e0) (.lit (qt ie.bytes (m+1)))) fun s b=>match b with
    |true=>jx s (gV p (dN e0)) fun s b=>match b with
     |true=>match j9 (rowOf t') e0 (m+1) A7 with
      |some e1=> .ret (.oL h0.fresh (dN e1) t',{ s with h:=h0.new (.vec e1 t' e [(p,cs)]) })
      |none=> .fail
     |false=> .fail
    |false=> .fail
   else .fail
  |none=> .fail
def Ax (e:Nat) (own:Option Nat) (x:W) (ie:TI) (m:Nat) (news:List W) (s:St):T (W×St):=
 match pr e own x s.h with
 |some (e0,t',h0)=>if (rowOf t').es=ie.size/\m=0 then
  jx s (qp (dN e0) (.du 0)) fun s b=>match b with
   |true=>jx s (gV (dN e0) (.lit (qt ie.bytes 1))) fun s b=>match b with
    |true=>match j9 (rowOf t') e0 1 ie.zero with
     |some e1=> .ret (.oL h0.fresh (dN e1) t',{ s with h:=h0.new (.vec e1 t' e [(.du 0,news)]) })
     |none=> .fail
    |false=> .fail
   |false=>za e own x ie m news s
  else .fail
 |none=> .fail
def Aw (tt:TT) (t t2:Nat) (x y:W) (s:St):T (W×St):=
 match tt t with
 |some ti=>match ti.kind with
  | .slice e=>match tt e with
    |some ie=>match tt t2 with
     |none=> .fail
     |some Pf=>match Pf.kind with
      | .int _=> .fail
      |_=>
       if ie.size=0\/ie.bytes=0\/¬ie.zero.length=ie.size\/¬ie.bytes<=400 then .fail else
       match y with
       | .eo e2 ty2=>match pr e ti.own x s.h with
         |some (e0,t',h0)=>if (rowOf t').es=ie.size/\rowOf ty2=rowOf t' then
          jx s (pJ (dN e2) (.lit 0)) fun s b=>match b with
           |true=> .ret (x,s)
           |false=>jx s (gV (dN e2) (.lit (Wo e0 ie.bytes))) fun s b=>match b with
            |true=>jx s (gV (dN e0) (.lit 1000000)) fun s b=>match b with
             |true=>match Nu e0 with
              |true=> .ret (.oL h0.fresh (dN e2) t',{ s with h:=h0.new (.vec e2 t' e []) })
              |false=> .ret (.oL h0.fresh (dN (.op .cat e0 e2)) t',{ s with h:=h0.new (.vec (.op .cat e0 e2) t' e []) })
             |false=> .fail
            |false=> .fail
          else .fail
         |none=> .fail
       |y=>match qY ie.size y s.h with
        |some (m,news)=>match m with
         |0=> .ret (x,s)
         |m+1=>match zQ e x s.h with
          |some _=>Ay e x ie m news s
          |none=>match v! m news s.pc with
           |true=>Ax e ti.own x ie m news s
           |false=>za e ti.own x ie m news s
        |none=> .fail
    |none=> .fail
  |_=> .fail
 |none=> .fail
def IP (tt:TT) (t:Nat) (l c:W) (s:St):T (W×St):=match l with
 | .int k n=>match c with
   | .int k2 n2=>match eR n n2 with
     |false=> .fail
     |true=>match tt t with
      |none=> .fail
      |some i=>match i.own with
       |none=> .fail
       |some o=>match i.kind with
        | .slice e=>match tt e with
          |none=> .fail
          |some ie=>match qg (rowOf o) ie.zero with
           |none=> .fail
           |some z=>if ie.size=(rowOf o).es/\0<ie.size/\ie.bytes≠0/\ie.zero.length=ie.size then
            jx s (gV n (.lit 0)) fun s b=>match b with
             |true=> .fail
             |false=>jx s (pJ n (.lit 0)) fun s b=>match b with
              |true=>match qd tt t (.int k (.lit 0)) (.int k2 (.lit 0)) s.h with
               |some (v,h)=> .ret (v,{ s with h:=h })
               |none=> .fail
              |false=>jx s (gV n (.lit (qt ie.bytes 0))) fun s b=>match b with
               |true=> .ret (.oL s.h.fresh (dN (.op .rep n z)) o,{ s with h:=s.h.new (.vec (.op .rep n z) o e []) })
               |false=> .fail
            else .fail
        |_=> .fail
   |_=> .fail
 |_=> .fail
def BT (v:W):Bool:=match jU v with
 |some n=>ur n 0
 |none=>false
def IV (tt:TT) (s:St) (ty t:Nat) (e:V) (lo hi:Option W) (mx:Option W):T (W×St):=match mx with
 |some m=>match BT m with
  |true=>match sV tt ty with
   |none=> .fail
   |some _=>match lo with
    |none=>match hi with
     |some hv=>match BT hv with
      |true=> .ret (.wR (.op .take e (.lit 0)) t,s)
      |false=> .fail
     |none=> .fail
    |some _=> .fail
  |false=> .fail
 |none=>match sV tt ty with
  |none=> .fail
  |some z=>if z=(rowOf t).es then
   (match hi with
   |none=>match lo with
    |some (.int _ l)=>jx s (gV l (.lit 0)) fun s b=>match b with
     |true=> .fail
     |false=>jx s (gV (dN e) l) fun s b=>match b with
      |true=> .fail
      |false=> .ret (.eo (.op .drop e l) t,s)
    |_=> .fail
   |some (.int _ h)=>jx s (gV (dN e) h) fun s b=>match b with
    |true=> .fail
    |false=>match lo with
     |none=>jx s (gV h (.lit 0)) fun s b=>match b with
      |true=> .fail
      |false=> .ret (.eo (.op .take e h) t,s)
     |some (.int _ l)=>jx s (gV l (.lit 0)) fun s b=>match b with
      |true=> .fail
      |false=>jx s (gV h l) fun s b=>match b with
       |true=> .fail
       |false=> .ret (.eo (.op .drop (.op .take e h) l) t,s)
     |_=> .fail
   |_=> .fail)
   else .fail
def loE (lo:Option W):Option V:=match lo with
 |none=>some (.lit 0)
 |some v=>match v with
  | .int _ l=>some l
  |_=>none
def Ck (tt:TT) (s:St) (ty id t:Nat) (f_ n0:V) (lo hi mx:Option W):T (W×St):=
 match sV tt ty with
 |none=> .fail
 |some z=>if z=(rowOf t).es/\z≠0 then match loE lo with
  |none=> .fail
  |some l=>jx s (gV l (.lit 0)) fun s b=>match b with
   |true=> .fail
   |false=>match hi with
    |none=>match mx with
     |some _=> .fail
     |none=>jx s (gV n0 l) fun s b=>match b with
      |true=> .fail
      |false=> .ret (.tE id (rP f_ l) (CF n0 l) t,s)
    |some hv=>match hv with
     | .int _ h=>jx s (gV h l) fun s b=>match b with
       |true=> .fail
       |false=>match mx with
        |some mv=>match mv with
         | .int _ m=>jx s (gV m h) fun s b=>match b with
           |true=> .fail
           |false=>jx s (gV n0 m) fun s b=>match b with
            |true=> .fail
            |false=> .ret (.any,s)
         |_=> .fail
        |none=>jx s (gV n0 h) fun s b=>match b with
         |false=> .ret (.tE id (rP f_ l) (CF h l) t,s)
         |true=>match M' f_ with
          |false=> .fail
          |true=>match AK s.h id t with
           |none=> .fail
           |some (e,_)=>jx s (gV (dN e) h) fun s b=>match b with
            |true=> .fail
            |false=> .ret (.tE id (rP f_ l) (CF h l) t,s)
     |_=> .fail
  else .fail
def IT (tt:TT) (s:St) (ty:Nat) (z:V) (t:Nat) (lo hi mx:Option W):T (W×St):=
 match mx with
 |some _=> .fail
 |none=>match sV tt ty with
  |none=> .fail
  |some _=>match nv hi 0 0 with
   |some 0=>match nv lo 0 0 with
    |some 0=> .ret (.wR z t,s)
    |_=> .fail
   |_=> .fail
def IG (tt:TT) (s:St) (ty id t:Nat) (lo n:V) (ix:W):T (W×St):=match ix with
 | .int _ i=>match sV tt ty with
   |some z=>if z=(rowOf t).es then yi s i n fun s=> .ret (.zd id z (rP lo i) 0,s) else .fail
   |none=> .fail
 |_=> .fail
def Xh:W->Bool
 | .jy _=>true
 |_=>false
def IJ (tt:TT) (s:St) (ty:Nat) (e:V) (ix:W):T (W×St):=match ix with
 | .int _ i=>match tt ty with
   |some ti=>match ti.kind with
    | .string=>yi s i (dN e) fun s=> .ret (.int .u8 (xU (.op .at e i)),s)
    |_=> .fail
   |none=> .fail
 |_=> .fail
def hiE (e:V) (hi:Option W):Option V:=match hi with
 |none=>some (dN e)
 |some v=>match v with
  | .int _ h=>some h
  |_=>none
def II (tt:TT) (s:St) (ty:Nat) (e:V) (lo hi mx:Option W):T (W×St):=match mx with
 |some _=> .fail
 |none=>match tt ty with
  |none=> .fail
  |some ti=>match ti.kind with
   | .string=>match loE lo with
     |none=> .fail
     |some l=>match hiE e hi with
      |none=> .fail
      |some h=>jx s (gV l (.lit 0)) fun s b=>match b with
       |true=> .fail
       |false=>jx s (gV h l) fun s b=>match b with
        |true=> .fail
        |false=>jx s (gV (dN e) h) fun s b=>match b with
         |true=> .fail
         |false=> .ret (.jy (.op .sub e (ey (mS l) (ey (mS h) (.eo (.i 0))))),s)
   |_=> .fail
def BX (x y:W):Option (V×V):=match Xh x||Xh y with
 |false=>none
 |true=>match tg x with
  |none=>none
  |some a=>match tg y with
   |none=>none
   |some b=>some (a,b)
def Fv (a b:V):SB:=.not (.eq (.op .slt a b) (.lit 0))
def N1 (op:BinOp) (a b:V) (s:St):T (W×St):=match op with
 | .add=>jx s (gV (dN a) (.lit 1000000000)) fun s c=>match c with
   |false=> .fail
   |true=>jx s (gV (dN b) (.lit 1000000000)) fun s c=>match c with
    |false=> .fail
    |true=> .ret (.jy (.op .cat a b),s)
 | .eql=> .ret (.bool (pJ (mi a) (mi b)),s)
 | .neq=> .ret (.bool (.not (pJ (mi a) (mi b))),s)
 | .lss=> .ret (.bool (Fv a b),s)
 | .gtr=> .ret (.bool (Fv b a),s)
 | .leq=> .ret (.bool (wC (Fv b a)),s)
 | .geq=> .ret (.bool (wC (Fv a b)),s)
 |_=> .fail
def Cm (tt:TT) (sT dT:Nat) (e:V) (s:St):T (W×St):=match tt sT with
 |none=> .fail
 |some j=>match j.kind with
  | .string=>match tt dT with
    |none=> .fail
    |some i=>match i.kind with
     | .slice el=>match tt el with
       |some ie=>match ie.kind with
        | .int k=>match k with
          | .u8=>jx s (pJ (dN e) (.lit 0)) fun s c=>match c with
            |true=> .ret (.slice s.h.fresh 0 0 (.rest 1),{ s with h:=s.h.new (.cells [] el) })
            |false=> .ret (.oL s.h.fresh (dN e) 14,{ s with h:=s.h.new (.vec e 14 el []) })
          |_=> .fail
        |_=> .fail
       |none=> .fail
     |_=> .fail
  |_=> .fail
def Kz (c:CK):TK:=match c with
 | .int k=> .int k
 |_=> .string
def wG (m:W) (h:Hp):Option (Nat×V×Nat):=match m with
 | .map id=>match h.get id with
   |some o=>match o with
    | .jJ e t=>some (id,e,t)
    |_=>none
   |none=>none
 |_=>none
def Ar (tt:TT):List CK->Nat->List (Nat×Nat×Nat)->Bool
 |[],_,[]=>true
 |c::cs,j,(o,ft,_)::fs=>match Nat.beq o j with
  |true=>match tt ft with
   |some i=>match c with
    | .int k=>match decide (i.kind= .int k) with
      |true=>Ar tt cs (j+1) fs
      |false=>false
    |_=>false
   |none=>false
  |false=>false
 |_,_,_=>false
def W8 (tt:TT) (ki:TI) (r:Row):Bool:=match r with
 | .one c=>decide (ki.kind=Kz c)
 | .many cs=>match ki.kind with
   | .struct fs=>match ki.eqs with
     |true=>Ar tt cs 0 fs
     |false=>false
   |_=>false
def RB (r:Row) (v:W):Option V:=match r with
 | .one c=>mz c v
 | .many cs=>match v with
   | .agg vs=>gZ cs vs
   |_=>none
def LG (r:Row) (x:V):W:=match r with
 | .one c=>u6 c x
 | .many cs=> .agg (hD cs 0 x)
def mapKey (tt:TT) (ty t:Nat) (k:W):Option (V×TI):=match tt ty with
 |none=>none
 |some ti=>match ti.kind with
  | .map kt et=>match tt kt with
    |none=>none
    |some ki=>match W8 tt ki (mapOf t).1 with
     |true=>match tt et with
      |none=>none
      |some ie=>match RB (mapOf t).1 k with
       |none=>none
       |some a=>some (mi a,ie)
     |false=>none
  |_=>none
def GA (e a:V):SB:=match e with
 | .eo d=>match a with
   | .eo k=> .lit (!(ec d.l k).isSome)
   |a=> .eq (.op .Kq (.eo d) a) (.lit 0)
 |e=> .eq (.op .Kq e a) (.lit 0)
def yV (tt:TT) (ty:Nat) (k:W) (ok:Bool) (e:V) (t:Nat) (s:St):T (W×St):=match mapKey tt ty t k with
 |none=> .fail
 |some (a,ie)=>match zeroOf ie with
  |none=> .fail
  |some z=>jx s (GA e a) fun s b=>match b with
   |true=> .ret (if ok then .tuple [z,.bool (.lit false)] else z,s)
   |false=> .ret (if ok then .tuple [LG (mapOf t).2 (.op .Df e a),.bool (.lit true)] else LG (mapOf t).2 (.op .Df e a),s)
def N4 (tt:TT) (ty id:Nat) (k x:W) (e:V) (t:Nat) (s:St):T (W×St):=match mapKey tt ty t k with
 |none=> .fail
 |some (a,_)=>match RB (mapOf t).2 x with
  |none=> .fail
  |some b=> .ret (W.undef,{ s with h:=s.h.put id (.jJ (.op .xf e (ey a b)) t) })
def IM (tt:TT) (ty:Nat) (m k x:W) (s:St):T (W×St):=wO [x] s fun xs s=>match xs with
 |[x]=>match wG m s.h with
  |some (id,e,t)=>N4 tt ty id k x e t s
  |none=> .fail
 |_=> .fail
def Oe (tt:TT) (ty id:Nat) (k:W) (e:V) (t:Nat) (s:St):T (W×St):=match mapKey tt ty t k with
 |none=> .fail
 |some (a,_)=> .ret (W.undef,{ s with h:=s.h.put id (.jJ (.op .Kr e a) t) })
def DT (m:W) (h:Hp):Option (Nat×V×Nat×List Nat×List (V×W)):=match m with
 | .map id=>match h.get id with
   |some o=>match o with
    | .qS e t eS ov=>some (id,e,t,eS,ov)
    |_=>none
   |none=>none
 |_=>none
def IE (tt:TT) (ty:Nat) (k:W):Option (V×TI):=match tt ty with
 |none=>none
 |some ti=>match ti.kind with
  | .map kt et=>match tt kt with
    |none=>none
    |some ki=>if ki.kind= .int .i64 then match tt et with
     |none=>none
     |some ie=>match k with
      | .int kk x=>if kk= .i64 then some (x,ie) else none
      |_=>none
     else none
  |_=>none
def sQ {α:Type} (x:V):List (V×W)->St->(Option W->St->T α)->T α
 |[],s,k=>k none s
 |(y,v)::l,s,k=>match eR x y with
  |true=>k (some v) s
  |false=>jx s (qp x y) fun s b=>match b with
   |true=>k (some v) s
   |false=>sQ x l s k
def ID {α:Type} (x:V) (v:W):List (V×W)->St->(Option (List (V×W))->St->T α)->T α
 |[],s,k=>k none s
 |(y,u)::l,s,k=>match eR x y with
  |true=>k (some ((y,v)::l)) s
  |false=>jx s (qp x y) fun s b=>match b with
   |true=>k (some ((y,v)::l)) s
   |false=>ID x v l s fun r s=>match r with
    |some l'=>k (some ((y,u)::l')) s
    |none=>k none s
def yU (tt:TT) (ty:Nat) (k:W) (ok:Bool) (e:V) (ov:List (V×W)) (s:St):T (W×St):=match IE tt ty k with
 |none=> .fail
 |some (x,ie)=>match zeroOf ie with
  |none=> .fail
  |some z=>sQ x ov s fun r s=>match r with
   |some v=> .ret (if ok then .tuple [v,.bool (.lit true)] else v,s)
   |none=>jx s (GA e (mS x)) fun s b=>match b with
    |true=> .ret (if ok then .tuple [z,.bool (.lit false)] else z,s)
    |false=> .fail
def yT (tt:TT) (ty id:Nat) (k v:W) (e:V) (t:Nat) (eS:List Nat) (ov:List (V×W)) (s:St):T (W×St):=match IE tt ty k with
 |none=> .fail
 |some (x,_)=>ID x v ov s fun r s=>match r with
  |some iD=> .ret (W.undef,{ s with h:=s.h.put id (.qS e t eS iD) })
  |none=>jx s (GA e (mS x)) fun s b=>match b with
   |true=> .ret (W.undef,{ s with h:=s.h.put id (.qS (.op .xf e (ey (mS x) (.eo (.i 0)))) t eS ((x,v)::ov)) })
   |false=> .fail
def akX (tt:TT) (t:Nat):Nat:=match tt t with
 |some ti=>match ti.kind with
  | .slice e=>e
  |_=>0
 |none=>0
def XX (tt:TT) (t:Nat):List Nat:=match tt t with
 |some ti=>match ti.kind with
  | .map _ et=>match tt et with
    |some ie=>match ie.kind with
     | .pointer s=>match tt s with
       |some si=>match si.kind with
        | .struct fs=>s::0::fs.map fun f=>akX tt f.2.1
        |_=>[]
       |none=>[]
     | .slice e=>[0,e]
     |_=>[]
    |none=>[]
  |_=>[]
 |none=>[]
abbrev eh:=Nat->List W->St->T (W×St)
def yh (s:St) (x:Operand) (f:W->T (W×St)):T (W×St):=match ev s x with |some v=>f v|none=> .fail
def abo (tt:TT) (t:Nat):Option Nat:=match tt t with
 |some ti=>ti.own
 |none=>none
def vR (tt:TT) (s:St) (b:Builtin) (ts:List Nat) (args:List W):T (W×St):=
 match b,ts,args with
 | .len,[t],[x]=>oP s (XZ tt t x s.h)
 | .append,[t,t2],[.tE id lo n t',y]=>match M' lo with
   |true=>D8 tt t t2 id n t' y s
   |false=> .fail
 | .append,[t,t2],[x,y]=>match Xd (abo tt t) x||abv y with
   |true=>Aw tt t t2 x y s
   |false=>AY s (D7 tt t t2 x y s.h)
 | .delete,[t,_],[m,k]=>match wG m s.h with
   |some (id,e,t')=>Oe tt t id k e t' s
   |none=>ny tt t m k s fun s=>M1 s (D6 tt s.pc t m k s.h)
 | .clear,[t],[.oL id n t']=>yZ tt t id (.lit 0) n t' s
 | .clear,[t],[.tE id lo n t']=>yZ tt t id lo n t' s
 | .clear,[t],[x]=>M1 s (IX tt t x s.h)
 | .min,_,.int k a::xs=>sM false xs a k s
 | .max,_,.int k a::xs=>sM true xs a k s
 |_,_,_=> .fail
def IY (tt:TT) (call:eh) (s:St) (c:Call):T (W×St):=
 match evs s c.args.toList with
 |none=> .fail
 |some args=>match c.callee with
  | .builtin b=>vR tt s b c.argTypes.toList args
  | .value f=>match ev s f with
    |some (.func (.func g) fs cs)=>call g (fs++args++cs) s
    |_=> .fail
  | .invoke _ _=> .fail
def agB:SB->Bool
 | .lit _=>true
 | .not c=>match c with
   | .eq _ z=>match z with
     | .lit n=>ur n 0
     |_=>false
   |_=>false
 |_=>false
def ZI {α:Type} (v:W) (s:St) (k:W->St->T α):T α:=match v with
 | .bool c=>match agB c with
   |true=>k (.bool c) s
   |false=>jx s c fun s b=>k (.bool (.lit b)) s
 |v=>k v s
def IN (tt:TT) (call:eh) (s:St) (op:Op):T (W×St):=
 match op with
 | .move x=>yh s x fun v=> .ret (v,s)
 | .assign x=>yh s x fun v=> .ret (v,s)
 | .pick c a b=>yh s c fun c=>match c with
   | .bool c=>jx s c fun s b'=>if b' then yh s a fun v=> .ret (v,s) else yh s b fun v=> .ret (v,s)
   |_=> .fail
 | .alloc t=>match tt t with
   |some i=> .ret (.ptr s.h.fresh 0,{ s with h:=s.h.new (.cells i.zero t) })
   |none=> .fail
 | .box t x=>yh s x fun v=>if qO v.cells then .ret (.ptr s.h.fresh 0,{ s with h:=s.h.new (.cells v.cells t) }) else .fail
 | .build t parts=>match vQ s parts.toList with
   |some ps=>oP s (I0 tt t ps)
   |none=> .fail
 | .buildSlice t n parts=>match vQ s parts.toList with
   |some ps=>AY s (sU tt t n ps s.h)
   |none=> .fail
 | .makeSlice t l c=>yh s l fun lv=>match ev s c with
   |some cv=>match qd tt t lv cv s.h with
    |some r=>AY s (some r)
    |none=>IP tt t lv cv s
   |none=> .fail
 | .load t x=>yh s x fun p=>match p with
   | .zd id es i off=>yW tt s t id es i off
   |p=>oP s (Av tt t p s.h)
 | .store t x y=>yh s x fun p=>match ev s y with
   |some v=>ZI v s fun v s=>match p with
    | .zd id es i off=>DY tt s t id es i off v
    |p=>M1 s (IK tt t p v s.h)
   |none=> .fail
 | .nilCheck x=>yh s x fun v=>match v with
   | .ptr _ _=> .ret (v,s)
   | .mU _=> .ret (v,s)
   | .zd _ _ _ _=> .ret (v,s)
   |_=> .fail
 | .binOp op t x y _=>yh s x fun a=>match ev s y with
   |some b=>match a with
    | .agg xs=>match b,op with
      | .agg ys,.eql=>match Cl tt t xs ys with
        |some c=> .ret (.bool c,s)
        |none=> .fail
      | .agg ys,.neq=>match Cl tt t xs ys with
        |some c=> .ret (.bool (wC c),s)
        |none=> .fail
      |_,_=> .fail
    |a=>match Nj tt t a b with
     |some e=>ad5 s e op
     |none=>match M5 op a b with
      |some (q,k,e,d)=>adR s q k e d
      |none=>match BX a b with
       |some (x,y)=>N1 op x y s
       |none=>oP s (X1 tt t op a b)
   |none=> .fail
 | .unOp op _ x=>yh s x fun v=>oP s (aeW op v)
 | .convert sT dT x=>yh s x fun v=>match v with
   | .jy e=>Cm tt sT dT e s
   |v=>AY s (oH tt sT dT v s.h)
 | .makeFunc fn fs cs=>match evs s fs.toList,evs s cs.toList with
   |some f,some c=> .ret (.func fn f c,s)
   |_,_=> .fail
 | .makeMap t r=>match r with
   |none=>match abo tt t with
    |some m=>match Nat.ble 100 m with
     |true=> .ret (.map s.h.fresh,{ s with h:=s.h.new (.qS (.eo (.i 0)) (m-100) (XX tt t) []) })
     |false=> .ret (.map s.h.fresh,{ s with h:=s.h.new (.jJ (.eo (.i 0)) m) })
    |none=> .ret (.map s.h.fresh,{ s with h:=s.h.new (.map [] 1) })
   |some _=> .fail
 | .slice t x lo hi mx=>yh s x fun v=>match GX s lo,GX s hi,GX s mx with
   |some l,some h,some m=>match v with
    | .eo e t'=>IV tt s t t' e l h m
    | .oL id n t'=>Ck tt s t id t' (.lit 0) n l h m
    | .tE id lo n t'=>Ck tt s t id t' lo n l h m
    | .jy e=>II tt s t e l h m
    | .wR z t'=>IT tt s t z t' l h m
    | .eg=>Hq s h fun h s=>oP s (yR tt t .eg l h m)
    | .slice id o 0 (.exact 0)=>Hq s h fun h s=>oP s (yR tt t (.slice id o 0 (.exact 0)) l h m)
    |v=>match yR tt t v l h m with
    |some v=> .ret (v,s)
    |none=>oP s (DZ tt t v l h m s.h)
   |_,_,_=> .fail
 | .fieldAddr t x f=>yh s x fun v=>oP s (uW tt t v f)
 | .field t x f=>yh s x fun v=>oP s (IS tt t v f)
 | .indexAddr t x i=>yh s x fun v=>match ev s i with
   |some i=>match v with
    | .wi k ks=>oP s (IQ tt s.pc t k ks i)
    | .eo e t'=>IW tt s t t' e i
    | .oL id n t'=>IH tt s t id t' n i
    | .tE id lo n t'=>IG tt s t id t' lo n i
    | .ptr id o=>match RG tt t i with
      |some (n,e)=>if o=0 then yi s e (.lit (Int.ofNat n)) fun s=> .ret (.zd id 1 e 0,s) else .fail
      |none=>Hj tt t (.ptr id o) i s fun i s=>oP s (nK tt t (.ptr id o) i)
    |v=>Hj tt t v i s fun i s=>oP s (nK tt t v i)
   |none=> .fail
 | .index t x i=>yh s x fun v=>match ev s i with
   |some i=>match v with
    | .jy e=>IJ tt s t e i
    | .agg cs=>match RG tt t i with
      |some (n,e)=>match Nat.beq cs.length n with
       |true=>GV s cs e
       |false=> .fail
      |none=>Hj tt t (.agg cs) i s fun i s=>oP s (yX tt t (.agg cs) i)
    |v=>Hj tt t v i s fun i s=>oP s (yX tt t v i)
   |none=> .fail
 | .lookup t m k ok=>yh s m fun v=>match ev s k with
   |some k=>match wG v s.h with
    |some (_,e,t')=>yV tt t k ok e t' s
    |none=>match DT v s.h with
     |some (_,e,_,_,ov)=>yU tt t k ok e ov s
     |none=>ny tt t v k s fun s=>oP s (D2 tt s.pc t v k ok s.h)
   |none=> .fail
 | .mapUpdate t m k x=>yh s m fun v=>match ev s k,ev s x with
   |some k,some x=>match wG v s.h with
    |some _=>IM tt t v k x s
    |none=>match DT v s.h with
     |some (id,e,t',eS,ov)=>yT tt t id k x e t' eS ov s
     |none=>ny tt t v k s fun s=>M1 s (qc tt s.pc t v k x s.h)
   |_,_=> .fail
 | .insert t m k x=>yh s m fun v=>match ev s k,ev s x with
   |some k,some x=>match wG v s.h with
    |some _=>IM tt t v k x s
    |none=>match DT v s.h with
     |some (id,e,t',eS,ov)=>yT tt t id k x e t' eS ov s
     |none=>ny tt t v k s fun s=>M1 s (qc tt s.pc t v k x s.h)
   |_,_=> .fail
 | .range t x=>yh s x fun v=>AY s (IL tt t v s.h)
 | .next x isS=>yh s x fun v=>AY s (N5 v isS s.h)
 | .entry x=>yh s x fun v=>oP s (IU v s.h)
 | .extract x i=>yh s x fun v=>match v with
   | .tuple vs=>oP s (eT vs i)
   |_=> .fail
 | .call c=>IY tt call s c
 |_=> .fail
def vx {α:Type} (ops:List Oper) (s:St) (o:Oper) (f:St->Bool->T α):T α:=
 match o.guard with
 |none=>f s true
 |some (j,want)=>match eT ops j with
  |some oj=>match oj.dst with
   |some d=>match s.bE.get d with
    |some (.bool c)=>jx s c fun s b=>f s (b == want)
    |some (.tuple _)=>f s false
    |_=> .fail
   |none=> .fail
  |none=> .fail
def Lh (tt:TT) (call:eh) (all:List Oper):List Oper->St->T St
 |[],s=> .ret s
 |o::rest,s=>vx all s o fun s b=>
  if b then (IN tt call s o.op).bind fun (v,s')=>Lh tt call all rest (s'.JZ o.dst v)
  else Lh tt call all rest (s.JZ o.dst W.undef)
inductive Ex where
 |normal
 |exit (id:Nat)
 |ret
 deriving DecidableEq,Inhabited
def uV (body:St->T (Ex×St)):Nat->St->T (Ex×St)
 |0,_=> .fail
 |n+1,s=>(body s).bind fun (e,s')=>match e with
  | .normal=>uV body n s'
  |e=> .ret (e,s')
def iP (tt:TT) (call:eh) (draw:Nat->List Oper->St->T St) (lf:Nat):Code->St->T (Ex×St)
 | .skip,s=> .ret (.normal,s)
 | .region id ops d,s=>
   if d then (draw id ops.toList s).bind fun s'=> .ret (.normal,s')
   else (Lh tt call ops.toList ops.toList s).bind fun s'=> .ret (.normal,s')
 | .seq a b,s=>(iP tt call draw lf a s).bind fun (e,s')=>match e with
   | .normal=>iP tt call draw lf b s'
   |e=> .ret (e,s')
 | .cond c x y,s=>match ev s c with
   |some (.bool c)=>jx s c fun s b=>if b then iP tt call draw lf x s else iP tt call draw lf y s
   |_=> .fail
 | .block id b,s=>(iP tt call draw lf b s).bind fun (e,s')=>match e with
   | .exit j=> .ret (if j=id then .normal else .exit j,s')
   |e=> .ret (e,s')
 | .loop b,s=>uV (iP tt call draw lf b) lf s
 | .exit id,s=> .ret (.exit id,s)
 | .scope b,s=>iP tt call draw lf b s
 | .label _,s=> .ret (.normal,s)
 | .ret,s=> .ret (.ret,s)
 |_,_=> .fail
def cf:List W->Nat->Tr W->Tr W
 |[],_,t=>t
 |v::vs,i,t=>cf vs (i+1) (t.put i (some v))
def yS (tt:TT) (s:St):ResultVar->Option W
 | .tmp t=>s.bE.get t
 | .cell a t=>match s.bE.get a with
   |some p=>Av tt t p s.h
   |none=>none
def kA (tt:TT) (s:St):List ResultVar->Option (List W)
 |[]=>some []
 |r::rs=>match yS tt s r with
  |none=>none
  |some v=>match kA tt s rs with
   |none=>none
   |some vs=>some (v::vs)
def D3 (tt:TT) (ft:Nat->Option Func) (hook:Nat->Option (List W->St->T (W×St))) (draw:eh->Nat->Nat->List Oper->St->T St) (lf:Nat):Nat->eh
 |0,_,_,_=> .fail
 |n+1,g,args,s=>
  match hook g with
  |some h=>h args s
  |none=>match ft g with
   |none=> .fail
   |some fn=>match fn.body with
    |none=> .fail
    |some c=>
     (iP tt (D3 tt ft hook draw lf n) (draw (D3 tt ft hook draw lf n) g) lf c { s with bE:=cf args 0 .nil }).bind fun (e,s')=>
      match e with
      | .exit _=> .fail
      |_=>match kA tt s' fn.results.toList with
       |some [v]=> .ret (v,{ s' with bE:=s.bE })
       |some vs=> .ret (.tuple vs,{ s' with bE:=s.bE })
       |none=> .fail
end
end Go.As
end
section
namespace Go.As
structure En where
 ρ:Nat->Int
 θ:Nat->Nat×Nat
 κ:Nat->Nat
 dm:Nat->Prop
 ro:Nat->Prop
 hd:Nat->Option (Nat×D×Nat):=fun _=>none
def de (s:List Nat):ByteArray:=⟨(s.map UInt8.ofNat).toArray⟩
def jB (h:Array Obj) (b o:Nat):Option Value:=
 match h[b]? with
 |some (.cells c _ _)=>c[o]?
 |_=>none
theorem nM (w:World) (b o:Nat):w.cell? ⟨b,o,none⟩ = jB w.heap b o:=by
 unfold World.cell? jB
 grind
def fI (h:Array Obj) (b o:Nat) (us:List Value):Prop:= ∀i u,us[i]?=some u->jB h b (o+i)=some u
inductive Rd (ro:Nat->Prop) (h:Array Obj):CK->D->Value->Prop where
 |int (k:IntKind) (n:Int):Rd ro h (.int k) (.i n) (.int k n)
 |bool (b:Bool):Rd ro h .bool (.i (if b then 1 else 0)) (.bool b)
 |str (s:ByteArray):Rd ro h .str (s6 s) (.string s)
 |nil (t:Nat):Rd ro h (.sl t) (.i 1) (.slice none 0 0)
 |vz (t:Nat) (a:Addr) (cap:Nat):Rd ro h (.sl t) (.i 2) (.slice (some a) 0 cap)
 |one (t:Nat) (c:CK) (b o cap:Nat) (ds:List D) (f:Nat->Value) (hr:rowOf t= .one c) (hc:ds.length<=cap) (Y:ro b)
  (U: ∀i d,ds[i]?=some d->jB h b (o+i)=some (f i)) (Z: ∀i d,ds[i]?=some d->Rd ro h c d (f i)):Rd ro h (.sl t) (dL ds) (.slice (some ⟨b,o,none⟩) ds.length cap)
 |many (t:Nat) (cs:List CK) (b o cap:Nat) (rows:List (List D)) (f:Nat->Nat->Value) (hr:rowOf t= .many cs) (hc:rows.length<=cap) (Y:ro b) (hl: ∀r∈rows,r.length=cs.length)
  (U: ∀i r j d,rows[i]?=some r->r[j]?=some d->jB h b (o+i*cs.length+j)=some (f i j))
  (Z: ∀i r j d c,rows[i]?=some r->r[j]?=some d->cs[j]?=some c->Rd ro h c d (f i j)):Rd ro h (.sl t) (dL (rows.map dL)) (.slice (some ⟨b,o,none⟩) rows.length cap)
theorem Rd.J! {ro:Nat->Prop} {h:Array Obj} {c:CK} {d:D} {v:Value} (r:Rd ro h c d v):v.oneCell'=true:=by cases r<;>rfl
theorem Rd.bX {ro l8:Nat->Prop} {h h':Array Obj} (k1: ∀b,ro b->l8 b) (k2: ∀b,ro b->h'[b]?=h[b]?) {c:CK} {d:D} {v:Value} (r:Rd ro h c d v):Rd l8 h' c d v:=by
 have hk: ∀b o u,ro b->jB h b o=some u->jB h' b o=some u:=by
  intro b o u Y hu
  grind [jB]
 induction r with
 |int k n=>exact .int k n
 |bool b=>exact .bool b
 |str s=>exact .str s
 |nil t=>exact .nil t
 |vz t a cap=>exact .vz t a cap
 |one t c b o cap ds f hr hc Y U Z ih=>exact .one t c b o cap ds f hr hc (k1 b Y) (fun i d hi=>hk _ _ _ Y (U i d hi)) ih
 |many t cs b o cap rows f hr hc Y hl U Z ih=>exact .many t cs b o cap rows f hr hc (k1 b Y) hl (fun i r j d hi hj=>hk _ _ _ Y (U i r j d hi hj)) ih
def eF (E:En) (id off len:Nat) (a:Addr) (cap:Nat):L2->Prop
 | .exact c=>cap=c/\((a=⟨(E.θ id).1,(E.θ id).2+off,none⟩)\/c=0)
 | .rest es=>(a=⟨(E.θ id).1,(E.θ id).2+off,none⟩/\off+cap*es=E.κ id)\/(cap=0/\len=0/\off=E.κ id)
mutual
def VR (E:En) (h:Array Obj):W->Value->Prop
 | .bool b,v=>v= .bool (b.den E.ρ)
 | .int k e,v=>v= .int k (e.den E.ρ)
 | .str s,v=>v= .string (de s)/\∀b∈s,b<256
 | .ptr id off,v=>v= .pointer (some ⟨(E.θ id).1,(E.θ id).2+off,none⟩)/\E.dm id
 | .tI,v=>v= .pointer none
 | .mU cs,v=> ∃b o us,v= .pointer (some ⟨b,o,none⟩)/\E.ro b/\cA E h cs us/\fI h b o us/\∀u∈us,u.oneCell'=true
 | .slice id off len c,v=>E.dm id/\∃a cap,v= .slice (some a) len cap/\len<=cap/\eF E id off len a cap c
 | .eg,v=>v= .slice none 0 0
 | .ro cs n full,v=> ∃b o cap us,v= .slice (some ⟨b,o,none⟩) n cap/\n<=cap/\(full=true->cap=n)/\E.ro b/\cA E h cs us/\fI h b o us/\∀u∈us,u.oneCell'=true
 | .map id,v=>v= .map (some (E.θ id).1)/\E.dm id
 | .rq,v=>v= .map none
 | .func fn fs cs,v=> ∃us ws,v= .func fn us.toArray ws.toArray/\cA E h fs us/\cA E h cs ws
 | .we,v=>v= .nilFunc
 | .iface t x,v=> ∃u,v= .iface t u/\VR E h x u
 | .xe,v=>v= .nilIface
 | .agg cs,v=> ∃us,v= .agg us.toArray/\cA E h cs us
 | .tuple cs,v=> ∃us,v= .tuple us.toArray/\cA E h cs us
 | .Kh _,_=>False
 | .emp,v=> ∃x,v= .slice x 0 0
 | .eo e t,v=>Rd E.ro h (.sl t) (dec (e.den E.ρ)) v
 | .jy e,v=>Rd E.ro h .str (dec (e.den E.ρ)) v
 | .oL id n t,v=>E.dm id/\∃(k:Nat) (a:Addr) (cap:Nat),n.den E.ρ=(k:Int)/\v= .slice (some a) k cap/\k<=cap/\eF E id 0 k a cap (.rest (rowOf t).es)
 | .zd id es i off,v=>E.dm id/\∃k:Nat,i.den E.ρ=(k:Int)/\v= .pointer (some ⟨(E.θ id).1,(E.θ id).2+(k*es+off),none⟩)
 | .any,_=>True
 | .wR z t,v=>(∃x,v= .slice x 0 0)/\Rd E.ro h (.sl t) (dec (z.den E.ρ)) v
 | .tE id lo n t,v=>E.dm id/\∃(l k:Nat) (a:Addr) (cap:Nat),lo.den E.ρ=(l:Int)/\n.den E.ρ=(k:Int)/\v= .slice (some a) k cap/\k<=cap/\eF E id (l*(rowOf t).es) k a cap (.rest (rowOf t).es)
 | .wi k ks,v=>((∃x cap,v= .slice x 0 cap)/\E.ρ (900+k)=0)\/∃b o n cap,v= .slice (some ⟨b,o,none⟩) n cap/\n<=cap/\E.ρ (900+k)=(n:Int)/\E.ro b/\
  ∀i j kd,i<n->ks[j]?=some kd->jB h b (o+i*ks.length+j)=some (.int kd (E.ρ (1000+i*64+(k*8+j))))
def cA (E:En) (h:Array Obj):List W->List Value->Prop
 |[],us=>us= []
 |x::xs,us=> ∃u vs,us=u::vs/\VR E h x u/\cA E h xs vs
end
theorem gP {E:En} {h:Array Obj} {us:List Value}:cA E h [] us↔us= []:=by simp [cA]
theorem bV {E:En} {h:Array Obj} {x:W} {xs:List W} {us:List Value}:cA E h (x::xs) us↔∃u vs,us=u::vs/\VR E h x u/\cA E h xs vs:=by simp [cA]
theorem cA.length {E:En} {h:Array Obj}: ∀{xs:List W} {us:List Value},cA E h xs us->us.length=xs.length
 |[],us,hh=>by rw [gP] at hh; simp [hh]
 |x::xs,us,hh=>by rw [bV] at hh;obtain⟨u,vs,rfl,_,Z⟩:=hh;simp [Z.length]
theorem cA.append {E:En} {h:Array Obj}: ∀{xs ys:List W} {us vs:List Value},cA E h xs us->cA E h ys vs->cA E h (xs++ys) (us++vs)
 |[],_,us,vs,U,Z=>by rw [gP] at U; subst U; simpa using Z
 |x::xs,ys,us,vs,U,Z=>by rw [bV] at U;obtain⟨u,gq,rfl,hx,mG⟩:=U;simp only [aP];rw [bV];exact⟨u,gq++vs,rfl,hx,mG.append Z⟩
theorem cA.hJ {E:En} {h:Array Obj}: ∀{n:Nat} {xs ys:List W} {us:List Value},cA E h xs us->As.hJ n xs=some ys->cA E h ys (us.take n)/\n<=xs.length
 |0,xs,ys,us,_,Z=>by simp [As.hJ] at Z; subst Z; simp [cA]
 |n+1,[],ys,us,_,Z=>by simp [As.hJ] at Z
 |n+1,x::xs,ys,us,U,Z=>by
  rw [bV] at U;obtain⟨u,vs,rfl,hx,mG⟩:=U;simp only [As.hJ] at Z;split at Z
  ·rename_i l hl;simp at Z;subst Z;have:=mG.hJ hl
   grind [bV]
  grind
theorem cA.eE {E:En} {h:Array Obj}: ∀{n:Nat} {xs ys:List W} {us:List Value},cA E h xs us->As.eE n xs=some ys->cA E h ys (us.drop n)/\n<=xs.length/\ys.length=xs.length-n
 |0,xs,ys,us,U,Z=>by simp [As.eE] at Z; subst Z; simpa using U
 |n+1,[],ys,us,_,Z=>by simp [As.eE] at Z
 |n+1,x::xs,ys,us,U,Z=>by
  rw [bV] at U;obtain⟨u,vs,rfl,hx,mG⟩:=U;simp only [As.eE] at Z;have:=mG.eE Z
  grind
theorem cA.nth {E:En} {h:Array Obj}: ∀{i:Nat} {xs:List W} {x:W} {us:List Value},cA E h xs us->eT xs i=some x->∃u,us[i]?=some u/\VR E h x u
 |_,[],_,us,_,Z=>by simp [eT] at Z
 |0,x::xs,y,us,U,Z=>by
  rw [bV] at U;obtain⟨u,vs,rfl,hx,mG⟩:=U
  grind [eT]
 |i+1,x::xs,y,us,U,Z=>by
  rw [bV] at U;obtain⟨u,vs,rfl,hx,mG⟩:=U;simp only [eT] at Z;obtain⟨v,h3,h4⟩:=mG.nth Z
  grind
def eC (E:En) (h:Array Obj):List (W×W×Nat)->List MapEntry->Prop
 |[],es=>es= []
 |(k,v,b)::xs,es=> ∃e r,es=e::r/\VR E h k e.key/\VR E h v e.val/\b=b/\eC E h xs r
def Hl (ro:Nat->Prop) (h:Array Obj):List CK->Nat->D->List Value->Prop
 |[],_,_,us=>us= []
 |c::cs,j,d,us=> ∃u vs,us=u::vs/\Rd ro h c (d.hd j) u/\Hl ro h cs (j+1) d vs
def Fb (ro:Nat->Prop) (h:Array Obj) (r:Row) (d:D) (v:Value):Prop:=match r with
 | .one c=>Rd ro h c d v
 | .many cs=>v7 cs d/\∃us,v= .agg us.toArray/\Hl ro h cs 0 d us
theorem Hl.bX {ro l8:Nat->Prop} {h h':Array Obj} (k1: ∀b,ro b->l8 b) (k2: ∀b,ro b->h'[b]?=h[b]?) {d:D}: ∀{cs:List CK} {j:Nat} {us:List Value},Hl ro h cs j d us->Hl l8 h' cs j d us
 |[],_,_,hh=>hh
 |_::_,_,_,hh=>by obtain⟨u,vs,U,Z,h3⟩:=hh;exact⟨u,vs,U,Z.bX k1 k2,Hl.bX k1 k2 h3⟩
theorem Fb.bX {ro l8:Nat->Prop} {h h':Array Obj} (k1: ∀b,ro b->l8 b) (k2: ∀b,ro b->h'[b]?=h[b]?) {r:Row} {d:D} {v:Value} (hh:Fb ro h r d v):Fb l8 h' r d v:=by
 cases r with
 |one c=>exact Rd.bX k1 k2 hh
 |many cs=> obtain⟨h0,us,U,Z⟩:=hh;exact⟨h0,us,U,Z.bX k1 k2⟩
def jL (ro:Nat->Prop) (h:Array Obj) (t:Nat):List D->List MapEntry->Prop
 |[],es=>es= []
 |d::ds,es=> ∃e r,es=e::r/\d= .p (jc d) (E8 d)/\Fb ro h (mapOf t).1 (jc d) e.key/\Fb ro h (mapOf t).2 (E8 d) e.val/\jL ro h t ds r
theorem jL.bX {ro l8:Nat->Prop} {h h':Array Obj} (k1: ∀b,ro b->l8 b) (k2: ∀b,ro b->h'[b]?=h[b]?) {t:Nat}: ∀{ds:List D} {es:List MapEntry},jL ro h t ds es->jL l8 h' t ds es
 |[],_,hh=>hh
 |_::_,_,hh=>by obtain⟨e,r,U,Z,h3,h4,h5⟩:=hh;exact⟨e,r,U,Z,h3.bX k1 k2,h4.bX k1 k2,jL.bX k1 k2 h5⟩
theorem jL.length {ro:Nat->Prop} {h:Array Obj} {t:Nat}: ∀{ds:List D} {es:List MapEntry},jL ro h t ds es->es.length=ds.length
 |[],_,hh=>by simp only [jL] at hh; rw [hh]; rfl
 |_::_,_,hh=>by obtain⟨e,r,U,_,_,_,h5⟩:=hh;rw [U,aK,aK,jL.length h5]
noncomputable def dW (ρ:Nat->Int) (i:Nat):List (V×List W)->Option (List W)
 |[]=>none
 |(j,cs)::l=>if j.den ρ=(i:Int) then some cs else dW ρ i l
noncomputable def bG (ρ:Nat->Int) (r:Row) (ov:List (V×List W)):List D->Nat->List W
 |[],_=>[]
 |d::ds,i=>(match dW ρ i ov with |some cs=>cs|none=>gy r (.eo d))++bG ρ r ov ds (i+1)
def sg (r:Row) (ov:List (V×List W)):Prop:= ∀p∈ov,p.2.length=r.es
noncomputable def lE (ρ:Nat->Int) (n:Int):List (V×W)->Option W
 |[]=>none
 |(x,v)::l=>if x.den ρ=n then some v else lE ρ n l
def alc (E:En) (h:Array Obj) (B:Nat) (k:D) (j ty t:Nat) (d:D) (u:Value):Prop:=
 ∃b o n cap a arr lo hi,u= .slice (some a) n cap/\n<=cap/\E.hd b=some (B,k,j)/\h[b]?=some (.cells arr ty (lo,hi))/\((a=⟨b,o,none⟩/\o+cap*(rowOf t).es=arr.size)\/(cap=0/\n=0/\o=arr.size))/\(∀q,lo<=q->q<hi->arr.size<=q)/\
  ((n=0/\d= .i 3)\/(rQ (rowOf t) d/\d.l.length=n/\∃us,cA E h (bG E.ρ (rowOf t) [] d.l 0) us/\(∀i u,us[i]?=some u->arr[o+i]?=some u)/\∀u∈us,u.oneCell'=true))
def oB (E:En) (h:Array Obj) (B:Nat) (k:D) (j ty:Nat) (c:FC) (d:D) (u:Value):Prop:=match c with
 | .ck c=>Rd E.ro h c d u
 | .own t=>((∃x,u= .slice x 0 0)/\Rd E.ro h (.sl t) d u)\/alc E h B k j ty t d u
 | .mp t=> ∃b bL c,u= .map (some b)/\E.hd b=some (B,k,j)/\h[b]?=some (.map bL c)/\jL E.ro h t d.l bL.toList
def pA (E:En) (h:Array Obj) (B t:Nat) (eS:List Nat) (k d:D) (v:Value):Prop:=match (qb t).ptr with
 |false=> ∃c,(qb t).cs= [c]/\oB E h B k 1 (eS.getD 1 0) c d v
 |true=> ∃b o arr lo hi,v= .pointer (some ⟨b,o,none⟩)/\E.hd b=some (B,k,0)/\h[b]?=some (.cells arr (eS.getD 0 0) (lo,hi))/\o+(qb t).cs.length<=arr.size/\(∀q,lo<=q->q<hi->arr.size<=q)/\
  ∀j c,(qb t).cs[j]?=some c->∃u,arr[o+j]?=some u/\u.oneCell'=true/\oB E h B k (j+1) (eS.getD (j+2) 0) c (d.hd j) u
def eJ (E:En) (h:Array Obj) (B t:Nat) (eS:List Nat) (ov:List (V×W)):List D->List MapEntry->Prop
 |[],es=>es= []
 |d::ds,es=> ∃e r n,es=e::r/\d= .p (.i n) (E8 d)/\e.key= .int .i64 n/\(match lE E.ρ n ov with |some v=>VR E h v e.val|none=>pA E h B t eS (.i n) (E8 d) e.val)/\eJ E h B t eS ov ds r
def zr (ρ:Nat->Int) (ds:List D) (ov:List (V×W)):Prop:=(ds.map jc).Nodup/\(∀p∈ov,D.i (p.1.den ρ)∈ds.map jc)/\(ov.map fun p=>p.1.den ρ).Nodup
def RQ:Nat->List (W×W×Nat)->List MapEntry->Nat->Prop
 |0,_,_,_=>True
 |c+1,es,bL,c'=>c'=c/\bL.map (·.born)=es.map (·.2.2)
def OR (E:En) (h:Array Obj) (id:Nat):dG->Prop
 | .cells cs e=> ∃arr lo hi us,h[(E.θ id).1]?=some (.cells arr e (lo,hi))/\cA E h cs us/\(∀i u,us[i]?=some u->arr[(E.θ id).2+i]?=some u)/\
  cs.length<=E.κ id/\(E.θ id).2+E.κ id=arr.size/\(∀o,lo<=o->o<hi->arr.size<=o)/\(∀u∈us,u.oneCell'=true)
 | .map es k=> ∃bL c,h[(E.θ id).1]?=some (.map bL c)/\eC E h es bL.toList/\RQ k es bL.toList c
 | .vec e t ty ov=>(sg (rowOf t) ov/\rQ (rowOf t) (dec (e.den E.ρ)))/\∃arr lo hi us,h[(E.θ id).1]?=some (.cells arr ty (lo,hi))/\cA E h (bG E.ρ (rowOf t) ov (dec (e.den E.ρ)).l 0) us/\(∀i u,us[i]?=some u->arr[(E.θ id).2+i]?=some u)/\
  (bG E.ρ (rowOf t) ov (dec (e.den E.ρ)).l 0).length<=E.κ id/\(E.θ id).2+E.κ id=arr.size/\(∀o,lo<=o->o<hi->arr.size<=o)/\(∀u∈us,u.oneCell'=true)
 | .jP s p=>h[(E.θ id).1]?=some (.stringIter (de s) p)/\(E.θ id).2=0/\∀b∈s,b<256
 | .jh m s l z=>match m with
   |none=>h[(E.θ id).1]?=some (.mapIter none s l.toArray z)/\(E.θ id).2=0
   |some i=>h[(E.θ id).1]?=some (.mapIter (some (E.θ i).1) s l.toArray z)/\(E.θ id).2=0/\E.dm i
 | .jJ e t=> ∃bL c,h[(E.θ id).1]?=some (.map bL c)/\jL E.ro h t (dec (e.den E.ρ)).l bL.toList
 | .qS e t eS ov=>zr E.ρ (dec (e.den E.ρ)).l ov/\∃bL c,h[(E.θ id).1]?=some (.map bL c)/\eJ E h (E.θ id).1 t eS ov (dec (e.den E.ρ)).l bL.toList
class bI where
 ok:(Nat->Int)->(Nat->Prop)->Array Obj->Prop
 bX: ∀{ρ:Nat->Int} {ro l8:Nat->Prop} {h h':Array Obj},ok ρ ro h->(∀b,ro b->l8 b)->(∀b,ro b->h'[b]?=h[b]?)->ok ρ l8 h'
 gA: ∀{ρ ρ':Nat->Int} {ro:Nat->Prop} {h:Array Obj},ok ρ ro h->(∀i,900<=i->ρ' i=ρ i)->ok ρ' ro h
structure bO [bI] (E:En) (H:Hp) (w:World):Prop where
 fresh: ∀id,H.next<=id->¬E.dm id
 res: ∀r,H.res=some r->r<H.next/\¬E.dm r
 live: ∀id o,H.get id=some o->E.dm id/\OR E w.heap id o/\¬E.ro (E.θ id).1
 inj: ∀id Nx o o',H.get id=some o->H.get Nx=some o'->(E.θ id).1=(E.θ Nx).1->id=Nx
 pL: ∀b,E.ro b->b<w.heap.size
 iT:bI.ok E.ρ E.ro w.heap
 hid: ∀b x,E.hd b=some x->b<w.heap.size/\¬E.ro b/\∀id o,H.get id=some o->(E.θ id).1≠b
structure eN (E:En) (H:Hp) (w:World) (E':En) (H':Hp) (w':World):Prop where
 ρ:E'.ρ=E.ρ
 dm: ∀id,E.dm id->E'.dm id
 θ: ∀id,E.dm id->E'.θ id=E.θ id
 κ: ∀id,E.dm id->E'.κ id=E.κ id
 ro: ∀b,E.ro b->E'.ro b
 qQ: ∀b,E'.ro b->E.ro b\/(∃id o,H.get id=some o/\(E.θ id).1=b)\/w.heap.size<=b
 Nh:H.next<=H'.next
 rsm:H'.res=none\/H'.res=H.res
 Zn: ∀id,E'.dm id->E.dm id\/(H.next<=id/\id<H'.next)\/H.res=some id
 os:w'.os=w.os
 tape:w'.tape=w.tape
 output:w'.output=w.output
 size:w.heap.size<=w'.heap.size
 bX: ∀b,b<w.heap.size->(∀id o,H.get id=some o->(E.θ id).1≠b)->w'.heap[b]?=w.heap[b]?
 own: ∀id o,H'.get id=some o->(E'.θ id).1<w.heap.size->∃qR o0,H.get qR=some o0/\(E.θ qR).1=(E'.θ id).1
 hd:E'.hd=E.hd
theorem eN.refl (E:En) (H:Hp) (w:World):eN E H w E H w:=
 ⟨rfl,fun _ h=>h,fun _ _=>rfl,fun _ _=>rfl,fun _ h=>h,fun _ h=> .inl h,au _,.inr rfl,fun _ h=> .inl h,rfl,rfl,rfl,au _,fun _ _ _=>rfl,fun id o h _=> ⟨id,o,h,rfl⟩,rfl⟩
theorem eN.trans {E E1 E2:En} {H H1 H2:Hp} {w w1 w2:World} (a:eN E H w E1 H1 w1) (b:eN E1 H1 w1 E2 H2 w2):eN E H w E2 H2 w2 where
 ρ:=b.ρ.trans a.ρ
 dm:=fun id h=>b.dm id (a.dm id h)
 θ:=fun id h=>(b.θ id (a.dm id h)).trans (a.θ id h)
 κ:=fun id h=>(b.κ id (a.dm id h)).trans (a.κ id h)
 ro:=fun x h=>b.ro x (a.ro x h)
 qQ:=fun x h=>by
  rcases b.qQ x h with h|⟨id,o,U,Z⟩|h
  ·exact a.qQ x h
  ·rcases aQ x w.heap.size with hx|hx
   ·obtain⟨qR,o0,h3,h4⟩:=a.own id o U (by rw [Z]; exact hx);exact .inr (.inl ⟨qR,o0,h3,h4.trans Z⟩)
   ·exact .inr (.inr hx)
  ·exact .inr (.inr (bk a.size h))
 Nh:=bk a.Nh b.Nh
 rsm:=by
  rcases b.rsm with h|h
  ·exact .inl h
  ·rw [h]; exact a.rsm
 Zn:=fun id h=>by
  rcases b.Zn id h with h|h|h
  ·rcases a.Zn id h with h|h|h
   ·exact .inl h
   ·exact .inr (.inl ⟨h.1,alW h.2 b.Nh⟩)
   ·exact .inr (.inr h)
  ·exact .inr (.inl ⟨bk a.Nh h.1,h.2⟩)
  ·rcases a.rsm with h'|h'
   ·rw [h'] at h; simp at h
   ·exact .inr (.inr (h'.symm.trans h))
 os:=b.os.trans a.os
 tape:=b.tape.trans a.tape
 output:=b.output.trans a.output
 size:=bk a.size b.size
 bX:=fun x hx hn=>by rw [b.bX x (alW hx a.size) ?_,a.bX x hx hn];intro id o ho he;obtain⟨qR,o0,h0,Q!⟩:=a.own id o ho (by rw [he]; exact hx);exact hn qR o0 h0 (Q!.trans he)
 own:=fun id o ho ff=>by obtain⟨id1,o1,U,XH⟩:=b.own id o ho (alW ff a.size);obtain⟨qR,o0,h0,Q!⟩:=a.own id1 o1 U (by rw [XH]; exact ff);exact⟨qR,o0,h0,Q!.trans XH⟩
 hd:=b.hd.trans a.hd
structure fh (E:En) (h:Array Obj) (E':En) (h':Array Obj):Prop where
 ρ:E'.ρ=E.ρ
 dm: ∀id,E.dm id->E'.dm id
 θ: ∀id,E.dm id->E'.θ id=E.θ id
 κ: ∀id,E.dm id->E'.κ id=E.κ id
 ro: ∀b,E.ro b->E'.ro b
 AW: ∀b,E.ro b->h'[b]?=h[b]?
theorem eN.keeps [bI] {E E':En} {H H':Hp} {w w':World} (s:eN E H w E' H' w') (r:bO E H w):fh E w.heap E' w'.heap:=
 ⟨s.ρ,s.dm,s.θ,s.κ,s.ro,fun b Y=>s.bX b (r.pL b Y) fun id o ho he=>(r.live id o ho).2.2 (by rw [he]; exact Y)⟩
theorem fI.bX {E E':En} {h h':Array Obj} (k:fh E h E' h') {b o:Nat} {us:List Value} (Y:E.ro b) (hc:fI h b o us):fI h' b o us:=by
 intro i u hu;have:=hc i u hu;unfold jB at *;rw [k.AW b Y]
 grind
theorem eF.bX {E E':En} {h h':Array Obj} (k:fh E h E' h') {id off len:Nat} {a:Addr} {cap:Nat} {c:L2} (hid:E.dm id) (hc:eF E id off len a cap c):eF E' id off len a cap c:=by
 cases c<;>simp only [eF] at*<;>rw [k.θ id hid]
 ·exact hc
 ·rw [k.κ id hid]; exact hc
mutual
theorem VR.bX {E E':En} {h h':Array Obj} (k:fh E h E' h'): ∀(x:W) (v:Value),VR E h x v->VR E' h' x v
 | .bool b,v,hv=>by simp only [VR] at *; rw [k.ρ]; exact hv
 | .int _ e,v,hv=>by simp only [VR] at *; rw [k.ρ]; exact hv
 | .str s,v,hv=>by simp only [VR] at *; exact hv
 | .ptr id off,v,hv=>by simp only [VR] at *; rw [k.θ id hv.2]; exact⟨hv.1,k.dm _ hv.2⟩
 | .tI,v,hv=>by simp only [VR] at *; exact hv
 | .mU cs,v,hv=>by simp only [VR] at *;obtain⟨b,o,us,U,Z,h3,h4,h5⟩:=hv;exact⟨b,o,us,U,k.ro b Z,cA.bX k cs us h3,h4.bX k Z,h5⟩
 | .slice id off len c,v,hv=>by simp only [VR] at *;obtain⟨U,a,cap,Z,h3,h4⟩:=hv;exact⟨k.dm _ U,a,cap,Z,h3,h4.bX k U⟩
 | .eg,v,hv=>by simp only [VR] at *; exact hv
 | .ro cs n full,v,hv=>by simp only [VR] at *;obtain⟨b,o,cap,us,U,Z,h3,h4,h5,h6,h7⟩:=hv;exact⟨b,o,cap,us,U,Z,h3,k.ro b h4,cA.bX k cs us h5,h6.bX k h4,h7⟩
 | .map id,v,hv=>by simp only [VR] at *; rw [k.θ id hv.2]; exact⟨hv.1,k.dm _ hv.2⟩
 | .rq,v,hv=>by simp only [VR] at *; exact hv
 | .func fn fs cs,v,hv=>by simp only [VR] at *;obtain⟨us,ws,U,Z,h3⟩:=hv;exact⟨us,ws,U,cA.bX k fs us Z,cA.bX k cs ws h3⟩
 | .we,v,hv=>by simp only [VR] at *; exact hv
 | .iface t x,v,hv=>by simp only [VR] at *;obtain⟨u,U,Z⟩:=hv;exact⟨u,U,VR.bX k x u Z⟩
 | .xe,v,hv=>by simp only [VR] at *; exact hv
 | .agg cs,v,hv=>by simp only [VR] at *;obtain⟨us,U,Z⟩:=hv;exact⟨us,U,cA.bX k cs us Z⟩
 | .tuple cs,v,hv=>by simp only [VR] at *;obtain⟨us,U,Z⟩:=hv;exact⟨us,U,cA.bX k cs us Z⟩
 | .Kh _,v,hv=>by simp only [VR] at hv
 | .emp,v,hv=>by simp only [VR] at *; exact hv
 | .eo e t,v,hv=>by simp only [VR] at *; rw [k.ρ]; exact hv.bX k.ro k.AW
 | .jy e,v,hv=>by simp only [VR] at *; rw [k.ρ]; exact hv.bX k.ro k.AW
 | .oL id n t,v,hv=>by simp only [VR] at *;obtain⟨U,m,a,cap,Z,h3,h4,h5⟩:=hv;exact⟨k.dm _ U,m,a,cap,by rw [k.ρ]; exact Z,h3,h4,h5.bX k U⟩
 | .any,_,_=>by simp only [VR]
 | .wR z t,v,hv=>by simp only [VR] at *; rw [k.ρ]; exact⟨hv.1,hv.2.bX k.ro k.AW⟩
 | .tE id lo n t,v,hv=>by simp only [VR] at *;obtain⟨U,l,m,a,cap,Z,h3,h4,h5,h6⟩:=hv;exact⟨k.dm _ U,l,m,a,cap,by rw [k.ρ]; exact Z,by rw [k.ρ]; exact h3,h4,h5,h6.bX k U⟩
 | .zd id es i off,v,hv=>by simp only [VR] at *;obtain⟨U,m,Z,h3⟩:=hv;exact⟨k.dm _ U,m,by rw [k.ρ]; exact Z,by rw [k.θ id U]; exact h3⟩
 | .wi kk ks,v,hv=>by
   simp only [VR] at *;rw [k.ρ];rcases hv with hv|⟨b,o,n,cap,U,Z,h3,h4,h5⟩
   ·grind
   ·refine .inr ⟨b,o,n,cap,U,Z,h3,k.ro b h4,fun i j kd hi hj=>?_⟩;have:=h5 i j kd hi hj;unfold jB at *;rw [k.AW b h4]
    grind
theorem cA.bX {E E':En} {h h':Array Obj} (k:fh E h E' h'): ∀(xs:List W) (us:List Value),cA E h xs us->cA E' h' xs us
 |[],us,hv=>by simp only [cA] at *; exact hv
 |x::xs,us,hv=>by simp only [cA] at *;obtain⟨u,vs,U,Z,h3⟩:=hv;exact⟨u,vs,U,VR.bX k x u Z,cA.bX k xs vs h3⟩
end
theorem eC.bX {E E':En} {h h':Array Obj} (k:fh E h E' h'): ∀(xs:List (W×W×Nat)) (es:List MapEntry),eC E h xs es->eC E' h' xs es
 |[],es,hv=>by simp only [eC] at *; exact hv
 |(a,b,c)::xs,es,hv=>by simp only [eC] at *;obtain⟨e,r,U,Z,h3,h4,h5⟩:=hv;exact⟨e,r,U,VR.bX k _ _ Z,VR.bX k _ _ h3,h4,eC.bX k xs r h5⟩
theorem bO.Tc [bI] {E E':En} {H H':Hp} {w w':World} (r:bO E H w) (he:E'.hd=E.hd) (hs:w.heap.size<=w'.heap.size) (qQ: ∀b,E'.ro b->E.ro b\/(∃id o,H.get id=some o/\(E.θ id).1=b)\/w.heap.size<=b)
 (own: ∀id o,H'.get id=some o->(E'.θ id).1<w.heap.size->∃qR o0,H.get qR=some o0/\(E.θ qR).1=(E'.θ id).1): ∀b x,E'.hd b=some x->b<w'.heap.size/\¬E'.ro b/\∀id o,H'.get id=some o->(E'.θ id).1≠b:=by
 intro b x Y;rw [he] at Y;obtain⟨q1,q2,q3⟩:=r.hid b x Y;refine⟨J,fun hr=>?_,fun id o ho e=>?_⟩
 ·rcases qQ b hr with h|⟨id,o,U,Z⟩|h
  ·exact q2 h
  ·exact q3 id o U Z
  ·omega
 ·obtain⟨qR,o0,h0,e0⟩:=own id o ho (by rw [e]; exact q1);exact q3 qR o0 h0 (e0.trans e)
def HdK (E:En) (h:Array Obj) (E':En) (h':Array Obj) (B:Nat) (k:D):Prop:= ∀b j,E.hd b=some (B,k,j)->E'.hd b=some (B,k,j)/\h'[b]?=h[b]?
theorem bO.Ti [bI] {E E':En} {H:Hp} {w:World} {h':Array Obj} (r:bO E H w) (he:E'.hd=E.hd) (hk: ∀b,b<w.heap.size->(∀id o,H.get id=some o->(E.θ id).1≠b)->h'[b]?=w.heap[b]?) (B:Nat) (key:D):HdK E w.heap E' h' B key:=
 fun b _ Y=> ⟨by rw [he]; exact Y,hk b (r.hid b _ Y).1 (r.hid b _ Y).2.2⟩
theorem oB.bX {E E':En} {h h':Array Obj} (k:fh E h E' h') {B:Nat} {key:D} {j ty:Nat} (hh: ∀b,E.hd b=some (B,key,j)->E'.hd b=some (B,key,j)/\h'[b]?=h[b]?) {c:FC} {d:D} {u:Value} (ho:oB E h B key j ty c d u):oB E' h' B key j ty c d u:=by
 cases c with
 |ck c=>exact Rd.bX k.ro k.AW ho
 |own t=>
  rcases ho with ⟨U,Z⟩|⟨b,o,n,cap,a,arr,lo,hi,U,Z,h3,h4,h5,h6,h7⟩
  ·exact .inl ⟨U,Rd.bX k.ro k.AW Z⟩
  ·obtain⟨q1,q2⟩:=hh b h3;refine .inr ⟨b,o,n,cap,a,arr,lo,hi,U,Z,q1,by rw [q2]; exact h4,h5,h6,?_⟩;rcases h7 with h7|⟨g1,g2,us,g3,g4⟩
   ·exact .inl h7
   ·exact .inr ⟨g1,g2,us,by rw [k.ρ]; exact cA.bX k _ us g3,g4⟩
 |mp t=> obtain⟨b,bL,c,U,Z,h3,h4⟩:=ho;obtain⟨q1,q2⟩:=hh b Z;exact⟨b,bL,c,U,q1,by rw [q2]; exact h3,h4.bX k.ro k.AW⟩
theorem pA.bX {E E':En} {h h':Array Obj} (k:fh E h E' h') {B t:Nat} {eS:List Nat} {key d:D} {v:Value} (hh:HdK E h E' h' B key) (ho:pA E h B t eS key d v):pA E' h' B t eS key d v:=by
 unfold pA at *;split at ho
 ·obtain⟨c,U,Z⟩:=ho;exact⟨c,U,Z.bX k fun b=>hh b _⟩
 ·obtain⟨b,o,arr,lo,hi,U,Z,h3,h4,h5,h6⟩:=ho;obtain⟨q1,q2⟩:=hh b 0 Z;refine⟨b,o,arr,lo,hi,U,q1,by rw [q2]; exact h3,h4,h5,fun j c hc=>?_⟩;obtain⟨u,g1,g2,g3⟩:=h6 j c hc;exact⟨u,g1,g2,g3.bX k fun b=>hh b _⟩
theorem eJ.bX {E E':En} {h h':Array Obj} (k:fh E h E' h') {B t:Nat} {eS:List Nat} {ov:List (V×W)} (hh: ∀n,lE E.ρ n ov=none->HdK E h E' h' B (.i n)): ∀{ds:List D} {es:List MapEntry},eJ E h B t eS ov ds es->eJ E' h' B t eS ov ds es
 |[],_,ho=>ho
 |d::ds,_,⟨e,r,n,U,Z,h3,h4,h5⟩=>by
  refine⟨e,r,n,U,Z,h3,?_,eJ.bX k hh h5⟩;rw [k.ρ];split at h4
  ·rename_i v hv;exact VR.bX k _ _ h4
  ·rename_i hv;exact h4.bX k (hh n hv)
def nf:dG->Bool
 | .qS _ _ _ _=>false
 |_=>true
theorem eJ.length {E:En} {h:Array Obj} {B t:Nat} {eS:List Nat} {ov:List (V×W)}: ∀{ds:List D} {es:List MapEntry},eJ E h B t eS ov ds es->es.length=ds.length
 |[],_,ho=>by simp only [eJ] at ho; rw [ho]; rfl
 |d::ds,_,⟨e,r,n,U,_,_,_,h5⟩=>by rw [U,aK,aK,eJ.length h5]
theorem OR.Xa {E E':En} {h h':Array Obj} (k:fh E h E' h') {id:Nat} {o:dG} (hid:E.dm id) (Y:h'[(E.θ id).1]?=h[(E.θ id).1]?) (hh:nf o=true\/∀key,HdK E h E' h' (E.θ id).1 key) (ho:OR E h id o):OR E' h' id o:=by
 cases o with
 |cells cs e=> simp only [OR] at *;obtain⟨arr,lo,hi,us,U,Z,h3,h4,h5,h6,h7⟩:=ho;rw [k.θ id hid,k.κ id hid,Y];exact⟨arr,lo,hi,us,U,cA.bX k cs us Z,h3,h4,h5,h6,h7⟩
 |map es c=> simp only [OR] at *;obtain⟨bL,c,U,Z,h3⟩:=ho;rw [k.θ id hid,Y];exact⟨bL,c,U,eC.bX k _ _ Z,h3⟩
 |jP s p=> simp only [OR] at *;rw [k.θ id hid,Y];exact ho
 |jh m s l z=>
  cases m with
  |none=> simp only [OR] at *;rw [k.θ id hid,Y];exact ho
  |some i=> simp only [OR] at *;obtain⟨U,Z,h3⟩:=ho;rw [k.θ id hid,Y,k.θ i h3];exact⟨U,Z,k.dm _ h3⟩
 |jJ e t=> simp only [OR] at *;obtain⟨bL,c,U,Z⟩:=ho;rw [k.θ id hid,Y,k.ρ];exact⟨bL,c,U,Z.bX k.ro k.AW⟩
 |vec e t ty ov=> simp only [OR] at *;obtain⟨h0,arr,lo,hi,us,U,Z,h3,h4,h5,h6,h7⟩:=ho;rw [k.θ id hid,k.κ id hid,Y,k.ρ];exact⟨h0,arr,lo,hi,us,U,cA.bX k _ us Z,h3,h4,h5,h6,h7⟩
 |qS e t eS ov=>
  simp only [OR] at *;obtain⟨h0,bL,c,U,Z⟩:=ho;rw [k.θ id hid,Y,k.ρ];rcases hh with hh|hh
  ·simp [nf] at hh
  exact⟨h0,bL,c,U,Z.bX k fun n _=>hh _⟩
theorem OR.bX {E E':En} {h h':Array Obj} (k:fh E h E' h') {id:Nat} {o:dG} (hid:E.dm id) (Y:h'[(E.θ id).1]?=h[(E.θ id).1]?) (hh: ∀key,HdK E h E' h' (E.θ id).1 key) (ho:OR E h id o):OR E' h' id o:=ho.Xa k hid Y (.inr hh)
theorem OR.abr {E E':En} {h h':Array Obj} (k:fh E h E' h') {id:Nat} {o:dG} (hid:E.dm id) (Y:h'[(E.θ id).1]?=h[(E.θ id).1]?) (hn:nf o=true) (ho:OR E h id o):OR E' h' id o:=ho.Xa k hid Y (.inl hn)
end Go.As
end
section
namespace Go.As
theorem Hp.bR (h:Hp) (i:Nat) (o:dG) (j:Nat):(h.put i o).get j=if j=i then some o else h.get j:=by simp [Hp.get,Hp.put,Tr.bR]
theorem Hp.fR (h:Hp) (o:dG) (j:Nat):(h.new o).get j=if j=h.fresh then some o else h.get j:=by
 grind [Hp.new,Hp.fresh,Hp.get,Tr.bR]
theorem bO.t! [bI] {E:En} {H:Hp} {w:World} (r:bO E H w): ¬E.dm H.fresh:=by
 unfold Hp.fresh
 cases hr:H.res with
 |none=>exact r.fresh _ (au _)
 |some x=>exact (r.res x hr).2
theorem bO.qo [bI] {E:En} {H:Hp} {w:World} (r:bO E H w) {i:Nat} (h:E.dm i):i≠H.fresh:=fun e=>r.t! (e▸h)
theorem Hp.j5 (h:Hp) (i j:Nat):(h.drop i).get j=if j=i then none else h.get j:=by simp [Hp.get,Hp.drop,Tr.bR]
def En.ext (E:En) (n:Nat) (p:Nat×Nat) (c:Nat):En:=
 { E with θ:=fun i=>if i=n then p else E.θ i,κ:=fun i=>if i=n then c else E.κ i,dm:=fun i=>i=n\/E.dm i }
theorem En.ext_θ_new (E:En) (n:Nat) (p:Nat×Nat) (c:Nat):(E.ext n p c).θ n=p:=by simp [En.ext]
theorem En.ext_κ_new (E:En) (n:Nat) (p:Nat×Nat) (c:Nat):(E.ext n p c).κ n=c:=by simp [En.ext]
theorem En.gn (E:En) (n:Nat) (p:Nat×Nat) (c:Nat):(E.ext n p c).dm n:=.inl rfl
theorem En.ext_θ (E:En) (n:Nat) (p:Nat×Nat) (c:Nat) {i:Nat} (h:i≠n):(E.ext n p c).θ i=E.θ i:=by simp [En.ext,h]
theorem En.ext_κ (E:En) (n:Nat) (p:Nat×Nat) (c:Nat) {i:Nat} (h:i≠n):(E.ext n p c).κ i=E.κ i:=by simp [En.ext,h]
theorem GU [bI] {E:En} {H:Hp} {w:World} (r:bO E H w) (p:Nat×Nat) (c:Nat) (o:dG):(∀id,(H.new o).next<=id->¬(E.ext H.fresh p c).dm id)/\∀q,(H.new o).res=some q->q<(H.new o).next/\¬(E.ext H.fresh p c).dm q:=by
 have U:=r.fresh;have Z:=r.res;unfold Hp.new Hp.fresh
 cases hr:H.res with
 |none=>
  refine⟨fun id hid hd=>?_,ad⟩;simp at hid;rcases hd with hd|hd
  all_goals grind
 |some q=>
  refine⟨fun id hid hd=>?_,ad⟩;simp at hid;have:=Z q hr;rcases hd with hd|hd
  all_goals grind
theorem ru (H:Hp) (o:dG):H.next<=(H.new o).next/\((H.new o).res=none\/(H.new o).res=H.res)/\∀id,id=H.fresh->(H.next<=id/\id<(H.new o).next)\/H.res=some id:=by
 grind [Hp.new,Hp.fresh]
structure Alike (w w':World):Prop where
 os:w'.os=w.os
 tape:w'.tape=w.tape
 output:w'.output=w.output
theorem yc {h:Array Obj} {o:Obj} {b:Nat} (Y:b<h.size):(h.push o)[b]?=h[b]?:=by
 grind
theorem Dq [bI] {E:En} {H:Hp} {w:World} (r:bO E H w) (p:Nat×Nat) (c:Nat) (o:Obj):fh E w.heap (E.ext H.fresh p c) (w.heap.push o):=
 ⟨rfl,fun _ h=> .inr h,fun _ h=>En.ext_θ E _ p c (r.qo h),fun _ h=>En.ext_κ E _ p c (r.qo h),fun _ h=>h,fun b Y=>yc (r.pL b Y)⟩
theorem fF [bI] {E:En} {H:Hp} {w:World} (r:bO E H w) {id:Nat} {o:dG} (h:H.get id=some o):(E.θ id).1<w.heap.size:=by
 have Z:=(r.live id o h).2.1
 cases o with
 |cells cs e=>
  obtain⟨arr,lo,hi,us,U,_⟩:=Z
  grind
 |map es c=>
  obtain⟨bL,c',U,_⟩:=Z
  grind
 |jP s p=>exact (alK.1 Z.1).1
 |jh m s l z=>cases m with
  |none=>exact (alK.1 Z.1).1
  |some i=>exact (alK.1 Z.1).1
 |jJ e t=>
  obtain⟨bL,c',U,_⟩:=Z
  grind
 |qS e t eS ov=>
  obtain⟨_,bL,c',U,_⟩:=Z
  grind
 |vec e t ty ov=>
  obtain⟨_,arr,lo,hi,us,U,_⟩:=Z
  grind
theorem oQ [bI] {E:En} {H:Hp} {w w':World} (r:bO E H w) (o:Obj) (ao:dG) (c:Nat) (hw:w'.heap=w.heap.push o) (al:Alike w w')
 (ho:OR (E.ext H.fresh (w.heap.size,0) c) w'.heap H.fresh ao) :
 eN E H w (E.ext H.fresh (w.heap.size,0) c) (H.new ao) w'/\bO (E.ext H.fresh (w.heap.size,0) c) (H.new ao) w':=by
 have k:=Dq r (w.heap.size,0) c o;rw [<- hw] at k;have hf:=GU r (w.heap.size,0) c ao;refine⟨⟨k.ρ,k.dm,k.θ,k.κ,k.ro,fun _ h=> .inl h,(ru H ao).1,(ru H ao).2.1,fun id h=>h.elim (fun e=> .inr ((ru H ao).2.2 id e)) .inl,al.os,al.tape,al.output,by rw [hw]; simp,fun b Y _=>by rw [hw,yc Y],?_,rfl⟩,⟨hf.1,hf.2,?_,?_,?_,bI.bX r.iT k.ro k.AW,?_⟩⟩
 ·intro id o2 Z ff;rw [Hp.fR] at Z;split at Z
  ·rename_i he
   grind [En.ext_θ_new]
  ·have h3:=(r.live id o2 Z).1;exact⟨id,o2,Z,by rw [En.ext_θ _ _ _ _ (r.qo h3)]⟩
 ·intro id o2 Z;rw [Hp.fR] at Z;split at Z
  ·rename_i he;simp at Z;subst Z;rw [he,En.ext_θ_new];refine⟨En.gn _ _ _ _,ho,fun hr=>?_⟩;have:=r.pL _ hr
   grind
  ·obtain⟨h3,h4,h5⟩:=r.live id o2 Z;refine⟨.inr h3,h4.bX k h3 ?_ (fun key b j Y=> ⟨Y,by rw [hw,yc (r.hid b _ Y).1]⟩),?_⟩
   ·grind [yc,fF]
   ·rw [En.ext_θ _ _ _ _ (r.qo h3)]; exact h5
 ·intro id Nx o1 o2 U Z he;rw [Hp.fR] at U Z;split at U<;>split at Z
  ·omega
  ·rename_i e1 _;have h3:=(r.live Nx o2 Z).1;rw [e1,En.ext_θ_new,En.ext_θ _ _ _ _ (r.qo h3)] at he;have:=fF r Z
   grind
  ·rename_i _ e1;have h3:=(r.live id o1 U).1;rw [e1,En.ext_θ_new,En.ext_θ _ _ _ _ (r.qo h3)] at he;have:=fF r U
   grind
  ·have h3:=(r.live id o1 U).1;have h4:=(r.live Nx o2 Z).1;rw [En.ext_θ _ _ _ _ (r.qo h3),En.ext_θ _ _ _ _ (r.qo h4)] at he;exact r.inj id Nx o1 o2 U Z he
 ·intro b Y;have:=r.pL b Y
  grind
 ·intro b x Y;obtain⟨q1,q2,q3⟩:=r.hid b x Y;refine⟨by rw [hw,Array.size_push]; omega,q2,fun id o2 Z=>?_⟩;rw [Hp.fR] at Z;split at Z
  ·rename_i he;rw [he,En.ext_θ_new];exact fun e=>by have e:w.heap.size=b:=e; omega
  ·rw [En.ext_θ _ _ _ _ (r.qo (r.live id o2 Z).1)];exact q3 id o2 Z
theorem jV [bI] {E:En} {H:Hp} {w w':World} (r:bO E H w) {id:Nat} {o:dG} (hl:H.get id=some o)
 (kX: ∀b,b≠(E.θ id).1->w'.heap[b]?=w.heap[b]?):fh E w.heap E w'.heap:=
 ⟨rfl,fun _ h=>h,fun _ _=>rfl,fun _ _=>rfl,fun _ h=>h,fun b Y=>kX b fun e=>(r.live id o hl).2.2 (by rw [<- e]; exact Y)⟩
theorem C2 [bI] {E:En} {H:Hp} {w w':World} (r:bO E H w) {id:Nat} {o:dG} (hl:H.get id=some o) (ao:dG)
 (KH:w'.heap.size=w.heap.size) (kX: ∀b,b≠(E.θ id).1->w'.heap[b]?=w.heap[b]?) (al:Alike w w') (ho:OR E w'.heap id ao) :
 eN E H w E (H.put id ao) w'/\bO E (H.put id ao) w':=by
 have k:=jV r hl kX;refine⟨⟨rfl,fun _ h=>h,fun _ _=>rfl,fun _ _=>rfl,fun _ h=>h,fun _ h=> .inl h,au _,.inr rfl,fun _ h=> .inl h,al.os,al.tape,al.output,J,?_,?_,rfl⟩,⟨r.fresh,r.res,?_,?_,?_,bI.bX r.iT k.ro k.AW,?_⟩⟩
 ·intro b _ hn
  grind
 ·intro j o2 Z _
  grind [Hp.bR]
 ·intro j o2 Z;rw [Hp.bR] at Z;split at Z
  ·rename_i e;subst e;simp at Z;subst Z;exact⟨(r.live j o hl).1,ho,(r.live j o hl).2.2⟩
  ·rename_i e;obtain⟨h3,h4,h5⟩:=r.live j o2 Z;refine⟨h3,h4.bX k h3 (kX _ fun e2=>e (r.inj j id o2 o Z hl e2)) (fun key b q Y=> ⟨Y,kX b fun e2=>(r.hid b _ Y).2.2 id o hl e2.symm⟩),h5⟩
 ·intro i j o1 o2 U Z he;rw [Hp.bR] at U Z;split at U<;>split at Z
  ·omega
  ·rename_i e1 _; subst e1; exact r.inj i j o o2 hl Z he
  ·rename_i _ e1; subst e1; exact r.inj i j o1 o U hl he
  ·exact r.inj i j o1 o2 U Z he
 ·intro b Y;rw [KH];exact r.pL b Y
 ·intro b x Y;obtain⟨q1,q2,q3⟩:=r.hid b x Y;refine⟨by rw [KH]; exact q1,q2,fun j o2 Z=>?_⟩;rw [Hp.bR] at Z;split at Z
  ·rename_i e;rw [e];exact q3 id o hl
  ·exact q3 j o2 Z
theorem vT [bI] {E:En} {H:Hp} {w:World} (r:bO E H w) (id:Nat):eN E H w E (H.drop id) w/\bO E (H.drop id) w:=by
 have hg: ∀j o,(H.drop id).get j=some o->H.get j=some o:=by
  intro j o h
  grind [Hp.j5]
 exact⟨⟨rfl,fun _ h=>h,fun _ _=>rfl,fun _ _=>rfl,fun _ h=>h,fun _ h=> .inl h,au _,.inr rfl,fun _ h=> .inl h,rfl,rfl,rfl,au _,fun _ _ _=>rfl,fun j o h _=> ⟨j,o,hg j o h,rfl⟩,rfl⟩,
  ⟨r.fresh,r.res,fun j o h=>r.live j o (hg j o h),fun i j o1 o2 U Z he=>r.inj i j o1 o2 (hg _ _ U) (hg _ _ Z) he,r.pL,r.iT,fun b x Y=> ⟨(r.hid b x Y).1,(r.hid b x Y).2.1,fun j o h=>(r.hid b x Y).2.2 j o (hg j o h)⟩⟩⟩
theorem M4 [bI] {E:En} {H:Hp} {w w':World} (r:bO E H w) {id:Nat} {o:dG} (hl:H.get id=some o) (ao:dG) (off c:Nat)
 (KH:w'.heap.size=w.heap.size) (kX: ∀b,b≠(E.θ id).1->w'.heap[b]?=w.heap[b]?) (al:Alike w w')
 (ho:OR (E.ext H.fresh ((E.θ id).1,(E.θ id).2+off) c) w'.heap H.fresh ao) :
 eN E H w (E.ext H.fresh ((E.θ id).1,(E.θ id).2+off) c) ((H.drop id).new ao) w'/\bO (E.ext H.fresh ((E.θ id).1,(E.θ id).2+off) c) ((H.drop id).new ao) w':=by
 have Q?:(H.drop id).fresh=H.fresh:=rfl;have hf:=GU (vT r id).2 ((E.θ id).1,(E.θ id).2+off) c ao;rw [Q?] at hf
 have k:fh E w.heap (E.ext H.fresh ((E.θ id).1,(E.θ id).2+off) c) w'.heap:=
  ⟨rfl,fun _ h=> .inr h,fun _ h=>En.ext_θ E _ _ c (r.qo h),fun _ h=>En.ext_κ E _ _ c (r.qo h),fun _ h=>h,(jV r hl kX).AW⟩
 have hg: ∀j o2,((H.drop id).new ao).get j=some o2->(j=H.fresh/\o2=ao)\/(j≠id/\H.get j=some o2):=by
  intro j o2 h
  grind [Hp.fR,Hp.j5]
 refine⟨⟨rfl,k.dm,k.θ,k.κ,k.ro,fun _ h=> .inl h,(ru (H.drop id) ao).1,(ru (H.drop id) ao).2.1,fun j h=>h.elim (fun e=> .inr ((ru (H.drop id) ao).2.2 j e)) .inl,al.os,al.tape,al.output,J,?_,?_,rfl⟩,⟨hf.1,hf.2,?_,?_,?_,bI.bX r.iT k.ro k.AW,?_⟩⟩
 ·intro b _ hn
  grind
 ·intro j o2 Z ff;rcases hg j o2 Z with ⟨rfl,rfl⟩|⟨_,h3⟩
  ·grind [En.ext_θ_new]
  ·have:=(r.live j o2 h3).1;exact⟨j,o2,h3,by rw [En.ext_θ _ _ _ _ (r.qo this)]⟩
 ·intro j o2 Z;rcases hg j o2 Z with ⟨rfl,rfl⟩|⟨fX,h3⟩
  ·rw [En.ext_θ_new];exact⟨En.gn _ _ _ _,ho,(r.live id o hl).2.2⟩
  ·obtain⟨h4,h5,h6⟩:=r.live j o2 h3;refine⟨.inr h4,h5.bX k h4 (kX _ fun e=>fX (r.inj j id o2 o h3 hl e)) (fun key b q Y=> ⟨Y,kX b fun e2=>(r.hid b _ Y).2.2 id o hl e2.symm⟩),?_⟩;rw [En.ext_θ _ _ _ _ (r.qo h4)]; exact h6
 ·intro i j o1 o2 U Z he;rcases hg i o1 U with ⟨e1,_⟩|⟨e1,h3⟩ <;>rcases hg j o2 Z with ⟨e2,_⟩|⟨e2,h4⟩
  ·omega
  ·have:=(r.live j o2 h4).1;rw [e1,En.ext_θ_new,En.ext_θ _ _ _ _ (r.qo this)] at he;exact absurd (r.inj id j o o2 hl h4 he).symm e2
  ·have:=(r.live i o1 h3).1;rw [e2,En.ext_θ_new,En.ext_θ _ _ _ _ (r.qo this)] at he;exact absurd (r.inj i id o1 o h3 hl he) e1
  ·have h5:=(r.live i o1 h3).1;have h6:=(r.live j o2 h4).1;rw [En.ext_θ _ _ _ _ (r.qo h5),En.ext_θ _ _ _ _ (r.qo h6)] at he;exact r.inj i j o1 o2 h3 h4 he
 ·intro b Y;rw [KH];exact r.pL b Y
 ·intro b x Y;obtain⟨q1,q2,q3⟩:=r.hid b x Y;refine⟨by rw [KH]; exact q1,q2,fun j o2 Z=>?_⟩;rcases hg j o2 Z with ⟨rfl,rfl⟩|⟨_,h3⟩
  ·rw [En.ext_θ_new];exact q3 id o hl
  ·rw [En.ext_θ _ _ _ _ (r.qo (r.live j o2 h3).1)];exact q3 j o2 h3
def Io:Value->Bool
 | .agg _=>true
 |_=>false
def U1 (P:Program):TypeDesc->Option TK
 | .bool=>some .bool
 | .int k=>some (.int k)
 | .string=>some .string
 | .pointer e=>some (.pointer e)
 | .slice e=>some (.slice e)
 | .array n e=>some (.array n e)
 | .map k e=>some (.map k e)
 | .struct fs=>(fs.toList.mapM fun f=>(P.info? f.type).map fun i=>(f.offset,f.type,i.size)).map .struct
 | .func _ _ _=>some .func
 | .interface ms=>some (.iface ms.isEmpty)
 | .tuple _=>some .tuple
 |_=>none
def QZ (P:Program) (t:Nat):Bool:=
 match P.underlying t with
 |some (.struct fs)=>!P.stoodInHeld t&&!P.eqGuardType P.depth t&&fs.toList.all fun f=>f.name != "_"&&(match P.underlying f.type with |some .bool|some .string|some (.int _)=>true|_=>false)
 |_=>false
def agA (i:TypeInfo) (z:Value) (k:TK) (q:Bool):Option TI:=
 match kr z.cells.toList with
 |some zs=>if Io z=k.agg then some { kind:=k,size:=i.size,bytes:=i.bytes,zero:=zs,eqs:=q } else none
 |none=>none
def w! (P:Program) (t:Nat):Option TI:=
 match P.info? t with
 |none=>none
 |some i=>match P.underlying t with
  |none=>none
  |some d=>match U1 P d with
   |none=>none
   |some k=>match i.zero with
    |none=>none
    |some z=>agA i z k (QZ P t)
theorem eU (b o n:Nat):(⟨b,o,none⟩ : Addr).add n=⟨b,o+n,none⟩:=by unfold Addr.add; split<;>simp_all
def Hn (P:Program):TypeDesc->TK->Prop
 | .bool,.bool=>True
 | .int k,.int k'=>k=k'
 | .string,.string=>True
 | .pointer e,.pointer e'=>e=e'
 | .slice e,.slice e'=>e=e'
 | .array n e,.array n' e'=>n=n'/\e=e'
 | .map k e,.map k' e'=>k=k'/\e=e'
 | .struct fs,.struct l=>(fs.toList.mapM fun f=>(P.info? f.type).map fun i=>(f.offset,f.type,i.size))=some l
 | .func _ _ _,.func=>True
 | .interface _,.iface _=>True
 | .tuple _,.tuple=>True
 |_,_=>False
structure l7 (P:Program) (t:Nat) (i:TI):Prop where
 eqs:i.eqs=true->QZ P t=true
 all: ∃inf d z,P.info? t=some inf/\P.underlying t=some d/\inf.zero=some z/\kr z.cells.toList=some i.zero/\inf.size=i.size/\inf.bytes=i.bytes/\Hn P d i.kind/\Io z=i.agg
def ew (P:Program) (tt:TT):Prop:= ∀t i,tt t=some i->l7 P t i
theorem v? {P:Program} {d:TypeDesc} {k:TK} (h:U1 P d=some k):Hn P d k:=by
 cases d
 case struct fs=>
  simp only [U1,aO] at h;obtain⟨l,U,rfl⟩:=h;exact U
 all_goals first
  |(simp only [U1,ag] at h; subst h; simp [Hn]; done)
  |(simp [U1] at h; done)
theorem w_ {P:Program} {t:Nat} {i:TI} (h:w! P t=some i):l7 P t i:=by
 unfold w! at h;split at h
 ·grind
 ·rename_i inf U;split at h
  ·grind
  ·rename_i d Z;split at h
   ·grind
   ·rename_i k hk;split at h
    ·grind
    ·rename_i z h3;unfold agA at h;split at h
     ·rename_i zs h4;split at h
      ·rename_i ha;simp only [ag] at h;subst h;exact⟨fun hq=>hq,inf,d,z,U,Z,h3,h4,rfl,rfl,v? hk,ha⟩
      grind
     grind
theorem kj (s:ByteArray):de (bytesOf s)=s:=by
 unfold de bytesOf
 have:(List.map UInt8.ofNat (List.map (fun x=>x.toNat) s.data.toList))=s.data.toList:=by
  rw [amc]
  conv=>rhs; rw [<- List.map_id s.data.toList]
  apply amw;intro b _;simp
 rw [this]
theorem xC (s:ByteArray): ∀b∈bytesOf s,b<256:=by intro b Y;unfold bytesOf at Y;rw [aT] at Y;obtain⟨c,_,rfl⟩:=Y;exact c.toNat_lt
theorem A3 {E:En} {h:Array Obj} {v:Value} {a:W} (hv:gw v=some a):VR E h a v/\v.oneCell'=true:=by
 cases v with
 |bool b=>simp [gw] at hv; subst hv; simp [VR,SB.den,Value.oneCell']
 |int k n=>simp [gw] at hv; subst hv; simp [VR,V.den,Value.oneCell']
 |string s=>simp [gw] at hv; subst hv; exact⟨by simp only [VR]; exact⟨by rw [kj],xC s⟩,rfl⟩
 |pointer a=>cases a<;>simp [gw] at hv; subst hv; simp [VR,Value.oneCell']
 |slice a l c=>
  cases a with
  |some a=>simp [gw] at hv
  |none=>
   cases l with
   |succ l=>simp [gw] at hv
   |zero=>cases c with
    |succ c=>simp [gw] at hv
    |zero=>simp [gw] at hv; subst hv; simp [VR,Value.oneCell']
 |map r=>cases r<;>simp [gw] at hv; subst hv; simp [VR,Value.oneCell']
 |nilFunc=>simp [gw] at hv; subst hv; simp [VR,Value.oneCell']
 |nilIface=>simp [gw] at hv; subst hv; simp [VR,Value.oneCell']
 |func fn f c=>
  simp only [gw] at hv;split at hv
  ·rename_i hx;simp at hx hv;subst hv;obtain⟨rfl,rfl⟩:=hx;exact⟨by simp only [VR]; exact⟨[],[],rfl,rfl,rfl⟩,rfl⟩
  grind
 |_=>simp [gw] at hv
theorem eP {E:En} {h:Array Obj}: ∀{vs:List Value} {alD:List W},kr vs=some alD->cA E h alD vs/\∀v∈vs,v.oneCell'=true
 |[],alD,hv=>by simp [kr] at hv; subst hv; simp [cA]
 |v::vs,alD,hv=>by
  simp only [kr] at hv;split at hv
  ·grind
  ·rename_i a ha;split at hv
   ·grind
   ·rename_i as' has;simp at hv;subst hv;have U:=A3 (E:=E) (h:=h) ha;have Z:=eP (E:=E) (h:=h) has;refine⟨by rw [bV]; exact⟨v,vs,rfl,U.1,Z.1⟩,?_⟩;intro u hu
    grind
theorem Ng {E:En} {h:Array Obj} {v:Value} {a:W} (hv:ofConst v=some a):VR E h a v:=by
 cases v with
 |agg cs=>
  simp only [ofConst,aO] at hv;obtain⟨l,U,rfl⟩:=hv;simp only [VR]
  grind [eP]
 |tuple cs=>
  simp only [ofConst,aO] at hv;obtain⟨l,U,rfl⟩:=hv;simp only [VR]
  grind [eP]
 |_=>exact (A3 (by simpa [ofConst] using hv)).1
theorem VR.one {E:En} {h:Array Obj} {x:W} {v:Value} (hv:VR E h x v) (U:x.one=true):v.oneCell'=true:=by
 cases x with
 |agg cs=>simp [W.one] at U
 |tuple cs=>simp [W.one] at U
 |Kh i=>simp [W.one] at U
 |wi k ks=>simp only [VR] at hv; rcases hv with ⟨⟨x,cap,rfl⟩,_⟩|⟨b,o,n,cap,rfl,_⟩ <;>rfl
 |slice id off len c=>simp only [VR] at hv; obtain⟨_,a,cap,rfl,_⟩:=hv; rfl
 |ro cs n full=>simp only [VR] at hv; obtain⟨b,o,cap,us,rfl,_⟩:=hv; rfl
 |mU cs=>simp only [VR] at hv; obtain⟨b,o,us,rfl,_⟩:=hv; rfl
 |func fn fs cs=>simp only [VR] at hv; obtain⟨us,ws,rfl,_⟩:=hv; rfl
 |iface t x=>simp only [VR] at hv; obtain⟨u,rfl,_⟩:=hv; rfl
 |str s=>simp only [VR] at hv; rw [hv.1]; rfl
 |ptr id off=>simp only [VR] at hv; rw [hv.1]; rfl
 |map id=>simp only [VR] at hv; rw [hv.1]; rfl
 |emp=>simp only [VR] at hv; obtain⟨x,rfl⟩:=hv; rfl
 |eo e t=>simp only [VR] at hv; exact hv.J!
 |jy e=>simp only [VR] at hv; exact hv.J!
 |oL id n t=>simp only [VR] at hv; obtain⟨_,k,a,cap,_,rfl,_⟩:=hv; rfl
 |tE id lo n t=>simp only [VR] at hv; obtain⟨_,l,k,a,cap,_,_,rfl,_⟩:=hv; rfl
 |any=>simp [W.one] at U
 |wR z t=>simp only [VR] at hv; obtain⟨⟨x,rfl⟩,_⟩:=hv; rfl
 |zd id es i off=>simp only [VR] at hv; obtain⟨_,k,_,rfl⟩:=hv; rfl
 |_=>simp only [VR] at hv; rw [hv]; rfl
theorem cA.rm {E:En} {h:Array Obj}: ∀{xs:List W} {us:List Value},cA E h xs us->qO xs=true->∀u∈us,u.oneCell'=true
 |[],us,hv,_=>by rw [gP] at hv; subst hv; simp
 |x::xs,us,hv,U=>by
  rw [bV] at hv;obtain⟨u,vs,rfl,Z,h3⟩:=hv;simp [qO] at U;intro y hy;rcases ax.1 hy with rfl|hy
  ·exact Z.one U.1
  ·exact h3.rm U.2 y hy
theorem VR.cells {E:En} {h:Array Obj} {x:W} {v:Value} (hv:VR E h x v) (U:qO x.cells=true):cA E h x.cells v.cells.toList:=by
 cases x with
 |agg cs=> simp only [VR] at hv;obtain⟨us,rfl,Z⟩:=hv;simpa [W.cells,Value.cells] using Z
 |_=>
  all_goals
   simp only [W.cells] at U ⊢;have Z:=hv.one (by simpa [qO] using U);rw [bV];refine⟨v,[],?_,hv,rfl⟩;cases v<;>first |rfl|simp [Value.oneCell'] at Z
theorem rj {P:Program} {w:World} {b o n:Nat} {us:List Value} (hn:us.length=n) (h:fI w.heap b o us) :
 (loadCells ⟨b,o,none⟩ n).run P w= .ok us.toArray w:=by
 subst hn;refine run_loadCells_list w _ us fun j v hj=>?_;rw [eU,nM];exact h j v hj
theorem fI.drop {h:Array Obj} {b o:Nat} {us:List Value} (hc:fI h b o us) (k:Nat):fI h b (o+k) (us.drop k):=by
 intro i u hu;rw [amd] at hu;have:=hc (k+i) u hu
 grind
theorem fI.take {h:Array Obj} {b o:Nat} {us:List Value} (hc:fI h b o us) (k:Nat):fI h b o (us.take k):=by
 intro i u hu;rw [ame] at hu;split at hu
 ·exact hc i u hu
 grind
theorem wU {E:En} {h:Array Obj} {id:Nat} {cs:List W} {e:TypeId} (ho:OR E h id (.cells cs e)) :
 ∃us,cA E h cs us/\fI h (E.θ id).1 (E.θ id).2 us/\∀u∈us,u.oneCell'=true:=by
 obtain⟨arr,lo,hi,us,U,Z,h3,h4,h5,h6,h7⟩:=ho;refine⟨us,Z,fun i u hu=>?_,h7⟩;simp only [jB,U]
 grind
theorem vu [bI] {E:En} {H:Hp} {w:World} (r:bO E H w) {p:W} {u:Value} {n:Nat} {l:List W} (hp:VR E w.heap p u) (h:mq H p n=some l) :
 ∃b o us,u= .pointer (some ⟨b,o,none⟩)/\us.length=n/\cA E w.heap l us/\fI w.heap b o us/\∀u∈us,u.oneCell'=true:=by
 cases p with
 |ptr id off=>
  simp only [mq] at h;split at h
  ·rename_i cs e hl;split at h
   ·rename_i l' hd;obtain⟨us,Z,h3,h4⟩:=wU (r.live id _ hl).2.1;obtain⟨h5,h6,h7⟩:=Z.eE hd;obtain⟨h8,h9⟩:=h5.hJ h;simp only [VR] at hp;refine⟨_,_,_,hp.1,?_,h8,(h3.drop off).take n,fun x hx=>h4 x (br (alI hx))⟩;have:=h5.length
    grind
   grind
  grind
 |mU cs=>
  simp only [mq] at h;simp only [VR] at hp;obtain⟨b,o,us,rfl,_,Z,h3,h4⟩:=hp;obtain⟨h5,h6⟩:=Z.hJ h;refine⟨b,o,_,rfl,?_,h5,h3.take n,fun x hx=>h4 x (alI hx)⟩;have:=Z.length
  grind
 |_=>simp [mq] at h
theorem vo {E:En} {h:Array Obj}: ∀{cs:List W} {o:Nat} {vs lF:List W} {us ws:List Value},dP cs o vs=some lF->cA E h cs us->cA E h vs ws->
 lF.length=cs.length/\o+vs.length<=cs.length/\∃gq,cA E h lF gq/\∀i,gq[i]?=if o<=i/\i<o+ws.length then ws[i-o]? else us[i]?
 |cs,0,[],lF,us,ws,U,Z,h3=>by cases cs<;>simp [dP] at U<;>subst U<;>rw [gP] at h3<;>subst h3<;>exact⟨rfl,ad,us,Z,fun i=>by simp⟩
 |[],0,_::_,lF,us,ws,U,Z,h3=>by simp [dP] at U
 |c::cs,0,v::vs,lF,us,ws,U,Z,h3=>by
  simp only [dP] at U;split at U
  ·rename_i l hl;simp at U;subst U;rw [bV] at Z h3;obtain⟨u,gq,rfl,ha,Y⟩:=Z;obtain⟨x,ws',rfl,hc,hd⟩:=h3;obtain⟨e1,e2,UQ,e3,e4⟩:=vo hl Y hd;refine⟨by simp [e1],by simp at e2 ⊢; omega,x::UQ,by rw [bV]; exact⟨x,UQ,rfl,hc,e3⟩,?_⟩;intro i
   grind
  grind
 |[],_+1,vs,lF,us,ws,U,Z,h3=>by cases vs<;>simp [dP] at U
 |c::cs,o+1,vs,lF,us,ws,U,Z,h3=>by
  have Ua:(match dP cs o vs with |some l=>some (c::l)|none=>none)=some lF:=by cases vs<;>exact U
  split at Ua
  ·rename_i l hl;simp at Ua;subst Ua;rw [bV] at Z;obtain⟨u,gq,rfl,ha,Y⟩:=Z;obtain⟨e1,e2,UQ,e3,e4⟩:=vo hl Y h3;refine⟨by simp [e1],by simp; omega,u::UQ,by rw [bV]; exact⟨u,UQ,rfl,ha,e3⟩,?_⟩;intro i
   grind
  grind
theorem mn {P:Program} (b o:Nat) (e:TypeId) (lo hi:Nat): ∀(vs:List Value) (i:Nat) (arr:Array Value) (w:World),
 w.heap[b]?=some (.cells arr e (lo,hi))->(∀x,lo<=x->x<hi->arr.size<=x)->o+i+vs.length<=arr.size->(∀v∈vs,v.oneCell'=true)->
 ∃w' Jp,(storeCells ⟨b,o,none⟩ vs i).run P w= .ok () w'/\Alike w w'/\w'.heap.size=w.heap.size/\(∀j,j≠b->w'.heap[j]?=w.heap[j]?)/\
  w'.heap[b]?=some (.cells Jp e (lo,hi))/\Jp.size=arr.size/\∀j,Jp[j]?=if o+i<=j/\j<o+i+vs.length then vs[j-(o+i)]? else arr[j]?
 |[],i,arr,w,Y,_,_,_=> ⟨w,arr,rfl,⟨rfl,rfl,rfl⟩,rfl,fun _ _=>rfl,Y,rfl,fun j=>by rw [af ad]⟩
 |v::vs,i,arr,w,Y,hf,hl,U=>by
  have xH:o+i<arr.size:=by simp at hl; omega
  have jB:w.cell? ⟨b,o+i,none⟩ = some arr[o+i]:=by simp [World.cell?,Y,xH]
  have alB:w.frozen? ⟨b,o+i,none⟩ = false:=by
   simp only [World.frozen?,Y,Bool.and_eq_false_iff,decide_eq_false_iff_not]
   grind
  have Cb:(store ((⟨b,o,none⟩ : Addr).add i) v).run P w= .ok () (w.setCell ⟨b,o+i,none⟩ v):=by
   rw [eU,run_store P w _ v _ (U v ad),jB]
   grind
  have KU:(w.setCell ⟨b,o+i,none⟩ v).heap[b]?=some (.cells (arr.setIfInBounds (o+i) v) e (lo,hi)):=by simp [World.setCell,am3,Y]
  have gW:(w.setCell ⟨b,o+i,none⟩ v).heap.size=w.heap.size:=by simp [World.setCell]
  have hot: ∀j,j≠b->(w.setCell ⟨b,o+i,none⟩ v).heap[j]?=w.heap[j]?:=by
   intro j hj;simp only [World.setCell,am3]
   grind
  obtain⟨w',Jp,e1,e2,e3,e4,e5,e6,e7⟩:=mn (P:=P) b o e lo hi vs (i+1) _ _ KU (by simpa using hf) (by simp at hl ⊢; omega) (fun x hx=>U x (by simp [hx]));refine⟨w',Jp,?_,⟨e2.os,e2.tape,e2.output⟩,e3.trans gW,fun j hj=>(e4 j hj).trans (hot j hj),e5,by simpa using e6,?_⟩
  ·simp only [storeCells,Sem.run_bind,Cb,Result.andThen_ok];exact e1
  grind
theorem lH [bI] {P:Program} {E:En} {H:Hp} {w:World} (r:bO E H w) {id off:Nat} {cs vs lF:List W} {e:TypeId} {ws:List Value} (hl:H.get id=some (.cells cs e))
 (hs:dP cs off vs=some lF) (hv:cA E w.heap vs ws) (U: ∀u∈ws,u.oneCell'=true) :
 ∃w',(storeCells ⟨(E.θ id).1,(E.θ id).2+off,none⟩ ws).run P w= .ok () w'/\eN E H w E (H.put id (.cells lF e)) w'/\bO E (H.put id (.cells lF e)) w':=by
 obtain⟨arr,lo,hi,us,g1,g2,g3,g4,g5,g6,g7⟩:=(r.live id _ hl).2.1;obtain⟨s1,s2,gq,s3,s4⟩:=vo hs g2 hv;have hlen:=hv.length;have hlu:=g2.length;obtain⟨w',Jp,e1,e2,e3,e4,e5,e6,e7⟩:=mn (P:=P) (E.θ id).1 ((E.θ id).2+off) e lo hi ws 0 arr w g1 g6 J U;refine⟨w',e1,C2 r hl _ e3 e4 e2 ?_⟩;have k:=jV r hl e4;refine⟨Jp,lo,hi,gq,e5,cA.bX k _ _ s3,?_,J,by rw [e6]; exact g5,by rw [e6]; exact g6,?_⟩
 ·intro i u hu
  grind
 ·intro u hu;rw [amx] at hu
  grind
def bW (ρ:Nat->Int) (pc:List (SB×Bool)):Prop:= ∀c b,(c,b)∈pc->c.den ρ=b
def SR (E:En) (h:Array Obj) (bE:Tr W) (a:Act):Prop:= ∀t v,bE.get t=some v->∃u,a.tmps[t]?=some u/\VR E h v u
def oC (P:Program) (o:Oper) (a:Act) (w:World) (R:Value->World->Prop):Prop:=
 ∀(K:Act->World->Prop) (Q:Exit->Act->World->Prop),(∀u w',R u w'->K (a.put o.dst u) w')->o.wp P a w K Q
theorem oC.value {P:Program} {o:Oper} {a:Act} {w w':World} {R:Value->World->Prop} {u:Value} (h:(execOp a.eval o).run P w= .ok (.value u) w') (hr:R u w'):oC P o a w R:=
 fun K Q hk=>by unfold Oper.wp; rw [h]; exact hk u w' hr
theorem oC.skip {P:Program} {o:Oper} {a:Act} {w w':World} {R:Value->World->Prop} (h:(execOp a.eval o).run P w= .ok .skip w') (hr:R undef w'):oC P o a w R:=
 fun K Q hk=>by unfold Oper.wp; rw [h]; exact hk _ w' hr
theorem fS {E:En} {w:World} {s:St} {a:Act} (sr:SR E w.heap s.bE a) {x:Operand} {v:W} (h:ev s x=some v):VR E w.heap v (a.eval x):=by
 cases x with
 |tmp t=> obtain⟨u,U,Z⟩:=sr t v h;simp only [Act.eval,amf,U,az];exact Z
 |const c=>exact Ng h
 |func f=> simp [ev] at h;subst h;simp only [VR,Act.eval];exact⟨[],[],rfl,rfl,rfl⟩
 |global g=>simp [ev] at h
theorem IF {E:En} {w:World} {s:St} {a:Act} (sr:SR E w.heap s.bE a): ∀{xs:List Operand} {vs:List W},evs s xs=some vs->cA E w.heap vs (xs.map a.eval)
 |[],vs,h=>by simp [evs] at h; subst h; simp [cA]
 |x::xs,vs,h=>by
  simp only [evs] at h;split at h
  ·grind
  ·rename_i b Y;split at h
   ·grind
   ·rename_i bs hbs;simp at h;subst h;rw [aw,bV];exact⟨_,_,rfl,fS sr Y,IF sr hbs⟩
section
variable {P:Program} {t:Nat} {i:TI}
theorem ku (h:l7 P t i) (w:World):(isAgg t).run P w= .ok i.agg w:=by obtain⟨inf,d,z,U,Z,h3,h4,h5,h6,h7,_⟩:=h.all;unfold isAgg;simp only [Sem.run_bind,run_underlying Z,Result.andThen_ok];cases d<;>cases hk:i.kind<;>simp only [hk,Hn] at h7<;>simp [TI.agg,TK.agg,hk]
theorem ep (h:l7 P t i) (w:World):(sizeOf t).run P w= .ok i.size w:=by obtain⟨inf,d,z,U,Z,h3,h4,h5,h6,h7,_⟩:=h.all;simp [sizeOf,typeInfo,U,h5]
theorem eY (h:l7 P t i) {e:Nat} (hk:i.kind= .slice e):P.underlying t=some (.slice e):=by obtain⟨inf,d,z,U,Z,h3,h4,h5,h6,h7,_⟩:=h.all;rw [Z];cases d<;>simp [hk,Hn] at h7;rw [h7]
theorem qU (h:l7 P t i) {n e:Nat} (hk:i.kind= .array n e):P.underlying t=some (.array n e):=by
 obtain⟨inf,d,z,U,Z,h3,h4,h5,h6,h7,_⟩:=h.all;rw [Z];cases d<;>simp [hk,Hn] at h7
 grind
theorem rX (h:l7 P t i) {k e:Nat} (hk:i.kind= .map k e):P.underlying t=some (.map k e):=by
 obtain⟨inf,d,z,U,Z,h3,h4,h5,h6,h7,_⟩:=h.all;rw [Z];cases d<;>simp [hk,Hn] at h7
 grind
theorem oo (h:l7 P t i) {k:IntKind} (hk:i.kind= .int k):P.underlying t=some (.int k):=by obtain⟨inf,d,z,U,Z,h3,h4,h5,h6,h7,_⟩:=h.all;rw [Z];cases d<;>simp [hk,Hn] at h7;rw [h7]
theorem fB (h:l7 P t i) (hk:i.kind= .string):P.underlying t=some .string:=by
 obtain⟨inf,d,z,U,Z,h3,h4,h5,h6,h7,_⟩:=h.all
 grind [Hn]
theorem JM (h:l7 P t i) (hk:i.kind= .bool):P.underlying t=some .bool:=by
 obtain⟨inf,d,z,U,Z,h3,h4,h5,h6,h7,_⟩:=h.all
 grind [Hn]
theorem rW (h:l7 P t i) {l:List (Nat×Nat×Nat)} (hk:i.kind= .struct l): ∃fs:Array Field,P.underlying t=some (.struct fs)/\(fs.toList.mapM fun f=>(P.info? f.type).map fun i=>(f.offset,f.type,i.size))=some l:=by
 obtain⟨inf,d,z,U,Z,h3,h4,h5,h6,h7,_⟩:=h.all;rw [Z];cases d<;>simp [hk,Hn] at h7
 grind
theorem vH (h:l7 P t i): ∃inf z,P.info? t=some inf/\inf.size=i.size/\inf.bytes=i.bytes/\inf.zero=some z/\kr z.cells.toList=some i.zero:=by
 obtain⟨inf,d,z,U,Z,h3,h4,h5,h6,h7,_⟩:=h.all
 grind
end
theorem Au [bI] {P:Program} {tt:TT} (cJ:ew P tt) {E:En} {H:Hp} {w:World} (r:bO E H w) {t:Nat} {p v:W} {u:Value} (hp:VR E w.heap p u) (h:Av tt t p H=some v) :
 ∃x b o,u= .pointer (some ⟨b,o,none⟩)/\(loadVar t ⟨b,o,none⟩).run P w= .ok x w/\VR E w.heap v x:=by
 unfold Av at h;split at h
 ·grind
 ·rename_i i hi;have fU:=cJ t i hi;split at h
  ·rename_i NO;rw [aO] at h;obtain⟨l,hl,rfl⟩:=h;obtain⟨b,o,us,rfl,Z,h3,h4,_⟩:=vu r hp hl;refine⟨.agg us.toArray,b,o,rfl,?_,by simp only [VR]; exact⟨us,rfl,h3⟩⟩;simp [loadVar,ku fU,NO,ep fU,rj Z h4]
  ·rename_i NO;split at h
   ·rename_i v' l hl;simp at h;subst h;obtain⟨b,o,us,rfl,Z,h3,h4,_⟩:=vu r hp hl;rw [bV] at h3;obtain⟨x,vs,rfl,h5,_⟩:=h3;refine⟨x,b,o,rfl,?_,h5⟩;have hc:w.cell? ⟨b,o,none⟩ = some x:=by rw [nM]; exact h4 0 x rfl
    simp [loadVar,ku fU,NO,hc]
   grind
theorem j6 (k:IntKind) (n:Int):rF k n=k.wrap n:=by
 unfold rF;split
 ·split
  ·rename_i h; exact (IntWalk.i64_in n h).symm
  ·rfl
 ·split
  ·rename_i h; exact (IntWalk.u8_in n h).symm
  ·rfl
 ·rfl
theorem Sy (ρ:Nat->Int) (k:IntKind) (a b:V):(Wi k a b).den ρ=k.wrap (a.den ρ+b.den ρ):=by
 unfold Wi
 grind [V.den,j6]
theorem FD (ρ:Nat->Int) (k:IntKind) (a b:V):(Pp k a b).den ρ=k.wrap (a.den ρ-b.den ρ):=by
 unfold Pp
 grind [V.den,j6]
theorem Sv (ρ:Nat->Int) (k:IntKind) (a b:V):(Wh k a b).den ρ=k.wrap (a.den ρ*b.den ρ):=by
 unfold Wh
 grind [V.den,j6]
theorem dQ (ρ:Nat->Int) (a b:V):(gV a b).den ρ=decide (a.den ρ<b.den ρ):=by
 unfold gV;split
 ·rfl
 ·simp [SB.den]
theorem Wj (ρ:Nat->Int) (a b:V):(B? a b).den ρ=decide (a.den ρ<=b.den ρ):=by
 unfold B?;split
 ·rfl
 ·simp only [SB.den]
  grind
theorem gv (ρ:Nat->Int) (a b:V):(qp a b).den ρ=(a.den ρ == b.den ρ):=by
 unfold qp;split
 ·simp [SB.den,V.den]
 ·simp only [SB.den,V.den]
  grind
 grind [cO,SB.den]
theorem mT (ρ:Nat->Int) (s:SB):(wC s).den ρ=!(s.den ρ):=by
 unfold wC
 grind [SB.den]
theorem lM: ∀(x y:List Nat),gC x y=true↔x=y
 |[],[]=>by simp [gC]
 |[],_::_=>by simp [gC]
 |_::_,[]=>by simp [gC]
 |a::x,b::y=>by
  simp only [gC]
  cases h:a.beq b with
  |true=>have:=aq h; subst this; simp [lM x y]
  |false=>have:=amy h; simp [this]
theorem pH (s:List Nat):(de s).toList=s.map UInt8.ofNat:=by simp_all [de]
theorem kg (s:List Nat):(de s).size=s.length:=by show (List.map UInt8.ofNat s).toArray.size=_;simp
theorem ofNat_inj {a b:Nat} (ha:a<256) (Y:b<256) (h:UInt8.ofNat a=UInt8.ofNat b):a=b:=by have:=congrArg UInt8.toNat h;simpa [al4,alV ha,alV Y] using this
theorem map_inj: ∀{x y:List Nat},(∀b∈x,b<256)->(∀b∈y,b<256)->x.map UInt8.ofNat=y.map UInt8.ofNat->x=y
 |[],[],_,_,_=>rfl
 |[],_::_,_,_,h=>by simp at h
 |_::_,[],_,_,h=>by simp at h
 |a::x,b::y,hx,hy,h=>by simp only [aw,List.cons.injEq] at h;rw [ofNat_inj (hx a ad) (hy b ad) h.1,map_inj (fun c hc=>hx c (by simp [hc])) (fun c hc=>hy c (by simp [hc])) h.2]
theorem Pm {x y:List Nat} (hx: ∀b∈x,b<256) (hy: ∀b∈y,b<256):((de x).toList == (de y).toList)=gC x y:=by
 grind [pH,lM,map_inj]
theorem Ft: ∀{x y:List Nat},(∀b∈x,b<256)->(∀b∈y,b<256)->Op.bytesLess (x.map UInt8.ofNat) (y.map UInt8.ofNat)=bytesLess x y
 |[],[],_,_=>by simp [Op.bytesLess,bytesLess]
 |[],_::_,_,_=>by simp [Op.bytesLess,bytesLess]
 |_::_,[],_,_=>by simp [Op.bytesLess,bytesLess]
 |a::x,b::y,hx,hy=>by
  have ha:=hx a ad;have Y:=hy b ad;have ih:=Ft (x:=x) (y:=y) (fun c hc=>hx c (by simp [hc])) (fun c hc=>hy c (by simp [hc]));simp only [aw,Op.bytesLess,bytesLess,ih]
  have U:decide (UInt8.ofNat a<UInt8.ofNat b)=a.blt b:=by rw [alQ,decide_eq_true_iff,UInt8.lt_iff_toNat_lt,al4,al4,alV ha,alV Y];simp_all
  have Z:(UInt8.ofNat a == UInt8.ofNat b)=a.beq b:=by rw [alQ,beq_iff_eq];exact⟨fun h=>by rw [ofNat_inj ha Y h]; simp,fun h=>by rw [aq h]⟩
  grind
theorem JU {P:Program} {E:En} {w:World} {op:BinOp} {x y:List Nat} {v:W} (hx: ∀b∈x,b<256) (hy: ∀b∈y,b<256) (h:JV op x y=some v) :
 ∃u,(Op.stringOp op (de x) (de y)).run P w= .ok u w/\VR E w.heap v u:=by
 have he:=Pm hx hy;have hl:Op.bytesLess (de x).toList (de y).toList=bytesLess x y:=by rw [pH,pH]; exact Ft hx hy
 unfold JV at h;cases op<;>simp only [ag,reduceCtorEq] at h
 case add=>
  split at h
  ·rename_i hh;simp at h;subst h;have hm:IntKind.i64.max=9223372036854775807:=ae
   refine⟨.string (de x++de y),?_,?_⟩
   ·simp only [Op.stringOp,kg,hm];rw [af J];rfl
   ·simp only [VR];refine⟨?_,?_⟩
    ·congr 1;apply ByteArray.ext;simp [de]
    ·intro b Y;rcases alJ.1 Y with Y|Y
     ·exact hx b Y
     ·exact hy b Y
  ·simp at h
 all_goals
  subst h;exact⟨_,rfl,by simp only [VR,SB.den,he,hl]⟩
theorem iM {ρ:Nat->Int} {c:SB} {b:Bool}: ∀{pc:List (SB×Bool)},bW ρ pc->mW c pc=some b->c.den ρ=b
 |[],_,h=>by simp [mW] at h
 |(d,x)::l,hp,h=>by
  simp only [mW] at h;split at h
  ·rename_i he;have he:=re _ _ he;simp at h;subst he h;exact hp _ _ ad
  ·exact iM (fun c b hm=>hp c b (by simp [hm])) h
def qP (lo hi:Option Int) (x:Int):Prop:=(∀l,lo=some l->l<=x)/\∀h,hi=some h->x<=h
theorem H8 {lo:Option Int} {z x:Int} (h: ∀l,lo=some l->l<=x) (hz:z<=x): ∀l,WV lo z=some l->l<=x:=by
 intro l hl;unfold WV at hl
 grind
theorem H7 {hi:Option Int} {z x:Int} (h: ∀l,hi=some l->x<=l) (hz:x<=z): ∀l,WT hi z=some l->x<=l:=by
 intro l hl;unfold WT at hl
 grind
theorem WG {lo:Option Int} {z x:Int} (h: ∀l,lo=some l->l<=x) (hz:x≠z): ∀l,WH lo z=some l->l<=x:=by
 intro l hl;unfold WH at hl
 grind
theorem WI {hi:Option Int} {z x:Int} (h: ∀l,hi=some l->x<=l) (hz:x≠z): ∀l,WJ hi z=some l->x<=l:=by
 intro l hl;unfold WJ at hl
 grind
theorem pQ {ρ:Nat->Int} {x y:V} {v:Bool} (h:(SB.lt x y).den ρ=v):(x.den ρ<y.den ρ)↔v=true:=by subst h; simp [SB.den]
theorem Ra {ρ:Nat->Int} {x y:V} {v:Bool} (h:(SB.eq x y).den ρ=v):(x.den ρ=y.den ρ)↔v=true:=by subst h; simp [SB.den]
theorem ZO {ρ:Nat->Int} (e:V):qP (RI e).1 (RI e).2 (e.den ρ):=by
 have h0:qP none none (e.den ρ):=⟨ad,ad⟩;unfold RI;split
 ·split
  ·split
   ·split
    ·split
     ·split
      ·split
       ·rename_i k m x n hn;obtain⟨hn,rfl,rfl⟩:=hn;simp only [V.den];have U:=amz (m.den ρ) (b:=n) J
        have Z: -n<(m.den ρ).tmod n:=by have U:=amz (-(m.den ρ)) (b:=n) J;rw [Int.neg_tmod] at U;omega
        have h3:=Int.tmod_nonneg n (a:=(m.den ρ).tmod n+n) J;have h4:=amz ((m.den ρ).tmod n+n) (b:=n) J;constructor<;>intro l hl<;>simp at hl<;>omega
       grind
      grind
     grind
    grind
   grind
  grind
 ·rename_i o a b
  cases o with
  |len=> refine⟨fun l hl=>?_,ad⟩;simp only [ag] at hl;subst hl;simp only [V.den,fc.den];omega
  |_=>exact h0
 grind
theorem lQ {ρ:Nat->Int} {e:V}: ∀{pc:List (SB×Bool)},bW ρ pc->qP (bounds e pc).1 (bounds e pc).2 (e.den ρ)
 |[],_=>ZO e
 |(c,v)::l,hp=>by
  have ih:=lQ (e:=e) (pc:=l) (fun c b hm=>hp c b (by simp [hm]));have hc:=hp c v ad;unfold bounds;split
  ·have hc:=pQ hc;split
   ·split
    ·exact ih
    ·rename_i he;have he:=cO _ _ he;subst he;revert ih;split;rename_i lo hi Y;rw [Y];intro ih;simp only [V.den] at hc;cases v
     ·exact⟨ih.1,H7 ih.2 (by simp at hc; omega)⟩
     ·exact⟨H8 ih.1 (by simp at hc; omega),ih.2⟩
   ·split
    ·split
     ·exact ih
     ·rename_i he;have he:=cO _ _ he;subst he;revert ih;split;rename_i lo hi Y;rw [Y];intro ih;simp only [V.den] at hc;cases v
      ·exact⟨H8 ih.1 (by simp at hc; omega),ih.2⟩
      ·exact⟨ih.1,H7 ih.2 (by simp at hc; omega)⟩
    grind
  ·split
   ·split
    ·split
     ·exact ih
     ·rename_i he;have he:=cO _ _ he;subst he;revert ih;split;rename_i lo hi Y;rw [Y];intro ih;simp only [SB.den,V.den,beq_eq_false_iff_ne] at hc;exact⟨WG ih.1 hc,WI ih.2 hc⟩
    ·split
     ·exact ih
     ·rename_i he;have he:=cO _ _ he;subst he;simp only [SB.den,V.den,beq_iff_eq] at hc;exact⟨fun l hl=>by simp at hl; omega,fun l hl=>by simp at hl; omega⟩
   grind
  grind
theorem wX {ρ:Nat->Int} {e:V} {pc:List (SB×Bool)} (hp:bW ρ pc):qP (oz e pc).1 (oz e pc).2 (e.den ρ):=by
 have h0:=lQ (e:=e) hp;unfold oz;split
 ·split
  ·split
   ·split
    ·rename_i b _ c;have Y:=lQ (e:=b) hp;split
     ·rename_i lo hi Ma;rw [Ma] at Y;have b1:=Y.1 lo rfl;have b2:=Y.2 hi rfl;split
      ·rename_i hr;revert h0;split;rename_i l2 Z hee;rw [hee];intro h0
       have hw:(V.wrap .i64 (.add b (.lit c))).den ρ=b.den ρ+c:=by
        simp only [V.den];rw [<- j6];simp only [rF]
        grind
       exact⟨H8 h0.1 (by rw [hw]; omega),H7 h0.2 (by rw [hw]; omega)⟩
      grind
     grind
    grind
   grind
  grind
 grind
theorem Di {ρ:Nat->Int} {pc:List (SB×Bool)} (hp:bW ρ pc) {a b:V} {v:Bool} (h:PM a b pc=some v):a.den ρ=b.den ρ↔v=true:=by
 unfold PM at h;split at h
 ·rename_i U;simp at h;subst h;exact Ra (iM hp U)
 ·rw [<- Ra (iM hp h)]
  grind
theorem Zq {ρ:Nat->Int} {pc:List (SB×Bool)} (hp:bW ρ pc) {a b:V} {v:Bool} (h:decLt pc a b=some v):a.den ρ<b.den ρ↔v=true:=by
 unfold decLt at h;split at h
 ·rename_i U;simp at h;subst h;exact pQ (iM hp U)
 ·split at h
  ·have Y:=wX (e:=b) hp;have hz: ∀z,(V.lit z).den ρ=z:=fun _=>rfl;simp only [hz] at *;generalize Ma:oz _ pc=p at h Y;obtain⟨lo,hi⟩:=p;simp only [qP] at h Y
   grind
  ·split at h
   ·have Y:=wX (e:=a) hp;have hz: ∀z,(V.lit z).den ρ=z:=fun _=>rfl;simp only [hz] at *;generalize Ma:oz _ pc=p at h Y;obtain⟨lo,hi⟩:=p;simp only [qP] at h Y
    grind
   ·split at h
    ·rename_i U;have U:=Di hp U
     grind
    ·rename_i U;have U:=Di hp U;simp at U;split at h
     ·rename_i Z;have Z:=pQ (iM hp Z)
      grind
     grind
    ·split at h
     ·rename_i Z;have Z:=pQ (iM hp Z)
      grind
     grind
theorem Zr {ρ:Nat->Int} {pc:List (SB×Bool)} (hp:bW ρ pc) {a b:V} {v:Bool} (h:decEq pc a b=some v):a.den ρ=b.den ρ↔v=true:=by
 unfold decEq at h;split at h
 ·rename_i U;simp at h;subst h;exact Di hp U
 ·split at h
  ·have Y:=wX (e:=a) hp;have hz: ∀z,(V.lit z).den ρ=z:=fun _=>rfl;simp only [hz] at *;generalize Ma:oz _ pc=p at h Y;obtain⟨lo,hi⟩:=p;simp only [qP] at h Y
   grind
  ·split at h
   ·rename_i Z;have Z:=pQ (iM hp Z)
    grind
   ·rename_i Z;have Z:=pQ (iM hp Z);simp at Z;split at h
    ·rename_i h3;have h3:=pQ (iM hp h3)
     grind
    grind
   ·split at h
    ·rename_i Z;have Z:=pQ (iM hp Z)
     grind
    grind
theorem ke {ρ:Nat->Int}: ∀{e:V} {x:Sum Int D},jw e=some x->e.den ρ=(match x with | .inl n=>n| .inr d=>enc d)
 | .lit n,x,h=>by simp only [jw,ag] at h; subst h; rfl
 | .eo d,x,h=>by simp only [jw,ag] at h; subst h; rfl
 | .op o a b,x,h=>by
   have ha:=fun y=>ke (ρ:=ρ) (e:=a) (x:=y);have Y:=fun y=>ke (ρ:=ρ) (e:=b) (x:=y);simp only [jw] at h;split at h
   ·split at h
    ·rename_i d hd;simp only [ag] at h; subst h;simp only [V.den,fc.den,ha _ hd,bB]
    ·simp at h
   ·split at h
    ·rename_i d hd;simp only [ag] at h; subst h;simp only [V.den,fc.den,ha _ hd]
    ·simp at h
   ·split at h
    ·rename_i u v hu hv;simp only [ag] at h; subst h;simp only [V.den,fc.den,ha _ hu,Y _ hv,bB]
    ·simp at h
   ·split at h
    ·rename_i u v hu hv;simp only [ag] at h; subst h;simp only [V.den,fc.den,ha _ hu,Y _ hv,bB]
    ·simp at h
   ·split at h
    ·rename_i u k v hu hv;simp only [ag] at h; subst h;simp only [V.den,fc.den,ha _ hu,Y _ hv,bB]
    ·simp at h
   ·split at h
    ·rename_i u v hu hv;simp only [ag] at h; subst h;simp only [V.den,fc.den,ha _ hu,Y _ hv,bB]
    ·simp at h
   ·split at h
    ·rename_i u v hu hv;simp only [ag] at h; subst h;simp only [V.den,fc.den,ha _ hu,Y _ hv,bB]
    ·simp at h
   ·split at h
    ·rename_i d hd;simp only [ag] at h; subst h;simp only [V.den,fc.den,ha _ hd,bB]
    ·simp at h
   ·simp at h
 | .du _,x,h=>by simp [jw] at h
 | .add _ _,x,h=>by simp [jw] at h
 | .sub _ _,x,h=>by simp [jw] at h
 | .mul a b,x,h=>by
   have ha:=fun y=>ke (ρ:=ρ) (e:=a) (x:=y);have Y:=fun y=>ke (ρ:=ρ) (e:=b) (x:=y);simp only [jw] at h;split at h
   ·rename_i u v hu hv;simp only [ag] at h; subst h;simp only [V.den,ha _ hu,Y _ hv]
   ·simp at h
 | .quo a b,x,h=>by
   have ha:=fun y=>ke (ρ:=ρ) (e:=a) (x:=y);have Y:=fun y=>ke (ρ:=ρ) (e:=b) (x:=y);simp only [jw] at h;split at h
   ·rename_i u v hu hv;simp only [ag] at h; subst h;simp only [V.den,ha _ hu,Y _ hv]
   ·simp at h
 | .rem a b,x,h=>by
   have ha:=fun y=>ke (ρ:=ρ) (e:=a) (x:=y);have Y:=fun y=>ke (ρ:=ρ) (e:=b) (x:=y);simp only [jw] at h;split at h
   ·rename_i u v hu hv;simp only [ag] at h; subst h;simp only [V.den,ha _ hu,Y _ hv]
   ·simp at h
 | .wrap k a,x,h=>by
   have ha:=fun y=>ke (ρ:=ρ) (e:=a) (x:=y);simp only [jw] at h;split at h
   ·rename_i u hu;simp only [ag] at h; subst h;simp only [V.den,ha _ hu,j6]
   ·simp at h
 | .wi _ _,x,h=>by simp [jw] at h
 | .ap _ _,x,h=>by simp [jw] at h
theorem Ek {ρ:Nat->Int} {pc:List (SB×Bool)} (hp:bW ρ pc) {c:SB} {b:Bool} (h:Cq pc c=some b):c.den ρ=b:=by
 unfold Cq at h;split at h
 ·simp at h; simp [SB.den,h]
 ·split at h
  ·rename_i x y hx hy;simp only [ag] at h; subst h;simp only [SB.den,ke (ρ:=ρ) hx,ke (ρ:=ρ) hy]
  ·have:=Zq hp h;simp only [SB.den]
   grind
 ·split at h
  ·rename_i x y hx hy;simp only [ag] at h; subst h;simp only [SB.den,ke (ρ:=ρ) hx,ke (ρ:=ρ) hy]
   grind
  ·have:=Zr hp h;simp only [SB.den]
   grind
 ·exact iM hp h
theorem gp {ρ:Nat->Int} {pc:List (SB×Bool)} (hp:bW ρ pc) {c:SB} {b:Bool} (h:jH pc c=some b):c.den ρ=b:=by
 unfold jH at h;split at h
 ·rw [aO] at h;obtain⟨x,U,rfl⟩:=h;simp only [SB.den,Ek hp U]
 ·exact Ek hp h
section
variable {P:Program} {E:En} {w:World}
theorem Xj {op:BinOp} {t:Nat} {k k':IntKind} {a b:V} {v:W} (hk:op= .shr\/k=k') (h:P6 op k a b=some v) :
 ∃u,(binOp op t (.int k (a.den E.ρ)) (.int k' (b.den E.ρ))).run P w= .ok u w/\VR E w.heap v u:=by
 unfold P6 at h;cases op<;>simp only [ag,reduceCtorEq] at h
 case add=>obtain rfl:k=k':=by simpa using hk
           subst h; exact⟨_,by simp [binOp,Op.intArith]; rfl,by simp only [VR,Sy]⟩
 case sub=>obtain rfl:k=k':=by simpa using hk
           subst h; exact⟨_,by simp [binOp,Op.intArith]; rfl,by simp only [VR,FD]⟩
 case mul=>obtain rfl:k=k':=by simpa using hk
           subst h; exact⟨_,by simp [binOp,Op.intArith]; rfl,by simp only [VR,Sv]⟩
 case quo=>
  obtain rfl:k=k':=by simpa using hk
  split at h
  ·split at h
   ·simp at h
   ·rename_i hy;simp at h;subst h;exact⟨_,by simp [binOp,Op.intDiv,V.den,hy]; rfl,by simp only [VR,V.den,j6]⟩
  ·split at h
   ·simp at h
   ·rename_i hy;simp at h;subst h;exact⟨_,by simp [binOp,Op.intDiv,V.den,hy]; rfl,by simp only [VR,V.den]⟩
  ·simp at h
 case rem=>
  obtain rfl:k=k':=by simpa using hk
  split at h
  ·split at h
   ·simp at h
   ·rename_i hy;simp at h;subst h;exact⟨_,by simp [binOp,Op.intDiv,V.den,hy]; rfl,by simp only [VR,V.den]⟩
  ·split at h
   ·simp at h
   ·rename_i hy;simp at h;subst h;exact⟨_,by simp [binOp,Op.intDiv,V.den,hy]; rfl,by simp only [VR,V.den]⟩
  ·simp at h
 case shr=>
  split at h
  ·split at h
   ·simp at h
   ·rename_i hy;simp at h;subst h;exact⟨_,by simp [binOp,Op.shift,V.den,hy]; rfl,by simp only [VR,V.den]⟩
  ·simp at h
 all_goals
  obtain rfl:k=k':=by simpa using hk
  subst h;refine⟨_,by simp [binOp,Op.intCmp]; rfl,?_⟩;simp only [VR,gv,mT,dQ,Wj]
  first |rfl|(congr 1; simp [bne]; done)|(congr 1; rw [alQ]; simp; done)|skip
theorem uX {op:BinOp} {t:Nat} {x y:Operand} {a b:Value} (U: ∀cs ds,¬(a= .agg cs/\b= .agg ds)) (Z: ¬(a= .nilIface/\b= .nilIface)) :
 (eqGuard op t x y a b).run P w= .ok () w:=by
 cases op
 case eql=>
  cases a<;>first
   |(cases b<;>first |(exact absurd ⟨rfl,rfl⟩ (U _ _))|(exact absurd ⟨rfl,rfl⟩ Z)|rfl)
   |rfl
 case neq=>
  cases a<;>first
   |(cases b<;>first |(exact absurd ⟨rfl,rfl⟩ (U _ _))|(exact absurd ⟨rfl,rfl⟩ Z)|rfl)
   |rfl
 all_goals rfl
theorem Br {ρ:Nat->Int} {a b c:SB} (h:Cn a b=some c):c.den ρ=(a.den ρ == b.den ρ):=by
 unfold Cn at h;split at h<;>simp only [ag,reduceCtorEq] at h<;>subst h
 ·simp [SB.den]
 ·grind [SB.den,mT]
 ·grind [SB.den,mT]
 ·simp only [SB.den];cases a.den ρ<;>cases b.den ρ<;>rfl
theorem xY {d:TypeDesc} {t:Nat} (h:P.underlying t=some d) (w:World):(underlying t).run P w= .ok d w:=run_underlying h w
theorem rz {i:TI} {t:Nat} (h:l7 P t i): ∃d,P.underlying t=some d/\Hn P d i.kind:=by
 obtain⟨inf,d,z,U,Z,h3,h4,h5,h6,h7,_⟩:=h.all
 grind
theorem QY {i:TI} {t:Nat} (ht:l7 P t i) {x y:W} {u u':Value} (hx:VR E w.heap x u) (hy:VR E w.heap y u') {c:SB} (h:aeY i.kind x y=some c) :
 (Op.equal t u u').run P w= .ok (c.den E.ρ) w/\(∀cs ds,¬(u= .agg cs/\u'= .agg ds))/\¬(u= .nilIface/\u'= .nilIface)/\(∀k n,u≠.int k n)/\(∀s,u≠.string s)/\(∀k n,u≠.float k n)/\(∀k n m,u≠.complex k n m):=by
 obtain⟨d,U,Z⟩:=rz ht;have hm: ∀a b,Op.equal t a b=Op.equalIn (9999+1) t a b:=fun _ _=>rfl;rw [hm];clear hm;generalize (9999:Nat)=n;unfold aeY at h;split at h
 ·rename_i hk;rw [hk] at Z;cases d<;>simp only [Hn] at Z;split at h
  ·simp only [VR] at hx hy;subst hx hy;refine⟨?_,ad,ad,ad,ad,ad,ad⟩;rw [Br h];simp [Op.equalIn,xY U]
  grind
 ·rename_i k hk;cases sD:i.kind<;>rw [sD] at h Z<;>simp only [isNil,reduceCtorEq] at h
  case pointer e=>
   cases d<;>simp only [Hn] at Z;cases x<;>simp only [reduceCtorEq] at h<;>cases y<;>simp only [reduceCtorEq,ag] at h<;>subst h<;>simp only [VR] at hx hy
   all_goals
    first |(obtain⟨b,o,us,rfl,_⟩:=hx)|(obtain⟨rfl,_⟩:=hx)|subst hx
    first |(obtain⟨b',o',gq,rfl,_⟩:=hy)|(obtain⟨rfl,_⟩:=hy)|subst hy
    exact⟨by simp [Op.equalIn,xY U,SB.den],ad,ad,ad,ad,ad,ad⟩
  case slice e=>
   cases d<;>simp only [Hn] at Z;cases x<;>simp only [reduceCtorEq] at h<;>cases y<;>simp only [reduceCtorEq,ag] at h<;>subst h<;>simp only [VR] at hx hy
   all_goals
    first |(obtain⟨b,o,cap,us,rfl,_⟩:=hx)|(obtain⟨_,b,cap,rfl,_⟩:=hx)|(obtain⟨_,k,b,cap,_,rfl,_⟩:=hx)|subst hx
    first |(obtain⟨b',o',oy,gq,rfl,_⟩:=hy)|(obtain⟨_,b',oy,rfl,_⟩:=hy)|(obtain⟨_,k',b',oy,_,rfl,_⟩:=hy)|subst hy
    exact⟨by simp [Op.equalIn,xY U,SB.den],ad,ad,ad,ad,ad,ad⟩
  case map k' e=>
   cases d<;>simp only [Hn] at Z;cases x<;>simp only [reduceCtorEq] at h<;>cases y<;>simp only [reduceCtorEq,ag] at h<;>subst h<;>simp only [VR] at hx hy
   all_goals
    first |(obtain⟨rfl,_⟩:=hx)|subst hx
    first |(obtain⟨rfl,_⟩:=hy)|subst hy
    exact⟨by simp [Op.equalIn,xY U,SB.den],ad,ad,ad,ad,ad,ad⟩
theorem binOp_eql {t:Nat} {u u':Value} {b:Bool} (h:(Op.equal t u u').run P w= .ok b w) (U: ∀k n,u≠.int k n) (Z: ∀s,u≠.string s) (h3: ∀k n,u≠.float k n) (h4: ∀k n m,u≠.complex k n m) :
 (binOp .eql t u u').run P w= .ok (.bool b) w/\(binOp .neq t u u').run P w= .ok (.bool (!b)) w:=by
 cases u<;>first
  |exact absurd rfl (U _ _)
  |exact absurd rfl (Z _)
  |exact absurd rfl (h3 _ _)
  |exact absurd rfl (h4 _ _ _)
  |(constructor<;>(cases u'<;>simp [binOp,h]))
theorem gY (ρ:Nat->Int) (a b:V):(pJ a b).den ρ=(a.den ρ == b.den ρ):=by
 unfold pJ;split
 ·rename_i h
  grind [cO,SB.den]
 ·split
  ·simp only [SB.den]
   grind
  ·simp only [SB.den]
theorem lI (ρ:Nat->Int) (x:V):(mi x).den ρ=enc (dec (x.den ρ)):=by
 unfold mi;split
 ·simp only [V.den,bB]
 ·split
  ·simp only [V.den,fc.den,bB]
  ·simp only [V.den,fc.den,bB]
  ·simp only [V.den,fc.den]
 ·simp only [V.den,fc.den]
theorem xN {E:En} {h:Array Obj} {x:W} {u:Value} {e:V} (hx:VR E h x u) (hs:tg x=some e): ∃s,u= .string s/\dec (e.den E.ρ)=s6 s:=by
 unfold tg at hs;split at hs
 ·simp only [ag] at hs;subst hs;simp only [VR] at hx;obtain⟨rfl,Y⟩:=hx;refine⟨_,rfl,?_⟩;simp only [V.den,bB]
  grind [zf,s6,de]
 ·simp only [ag] at hs;subst hs;simp only [VR] at hx;generalize dec (V.den E.ρ _)=d at hx ⊢
  cases hx with
  |str s=>exact⟨s,rfl,rfl⟩
 grind
theorem CI {E:En} {h:Array Obj} {x y:W} {u v:Value} {c:SB} (hx:VR E h x u) (hy:VR E h y v) (hs:AQ x y=some c): ∃a b:ByteArray,u= .string a/\v= .string b/\c.den E.ρ=decide (a=b):=by
 unfold AQ at hs;split at hs
 ·grind
 ·rename_i e he;split at hs
  ·grind
  ·rename_i f hf;simp only [ag] at hs;subst hs;obtain⟨a,rfl,ha⟩:=xN hx he;obtain⟨b,rfl,Y⟩:=xN hy hf;refine⟨a,b,rfl,rfl,?_⟩
   grind [gY,lI,El,gN]
theorem wY (a b:ByteArray):(a.toList == b.toList)=decide (a=b):=by
 rw [alQ,beq_iff_eq,decide_eq_true_eq];constructor
 ·intro h;rw [<- kj a,<- kj b]
  have e: ∀x:ByteArray,x.toList=x.data.toList:=by
   intro x;have:=pH (bytesOf x);rw [kj] at this;rw [this]
   have e2:(UInt8.ofNat ∘ fun b:UInt8=>b.toNat)=id:=by funext b;simp
   simp_all [bytesOf,e2]
  grind [bytesOf]
 grind
theorem Fs {E:En} {op:BinOp} {x y v:W} {u u':Value} {t:Nat} (hx:VR E w.heap x u) (hy:VR E w.heap y u') (h:HK op (AQ x y)=some v) :
 (∃r,(binOp op t u u').run P w= .ok r w/\VR E w.heap v r)/\(∀cs ds,¬(u= .agg cs/\u'= .agg ds))/\¬(u= .nilIface/\u'= .nilIface):=by
 unfold HK at h;split at h
 ·grind
 ·rename_i c hc;obtain⟨a,b,rfl,rfl,hd⟩:=CI hx hy hc;refine⟨?_,ad,ad⟩;split at h
  ·simp only [ag] at h;subst h;refine⟨.bool (decide (a=b)),?_,by simp only [VR,hd]⟩;rw [<- wY];rfl
  ·simp only [ag] at h;subst h;refine⟨.bool (!decide (a=b)),?_,by simp only [VR,SB.den,hd]⟩;rw [<- wY];rfl
  grind
theorem X0 {tt:TT} (cJ:ew P tt) {t:Nat} {op:BinOp} {x y v:W} {u u':Value} (hx:VR E w.heap x u) (hy:VR E w.heap y u') (h:X1 tt t op x y=some v) :
 (∃r,(binOp op t u u').run P w= .ok r w/\VR E w.heap v r)/\(∀cs ds,¬(u= .agg cs/\u'= .agg ds))/\¬(u= .nilIface/\u'= .nilIface):=by
 unfold X1 at h;split at h
 ·split at h
  ·simp only [VR] at hx hy;subst hx hy;refine⟨?_,ad,ad⟩;split at h
   all_goals simp_all [Xj]
  grind
 ·split at h
  ·simp only [VR] at hx hy;obtain⟨rfl,hx⟩:=hx;obtain⟨rfl,hy⟩:=hy;refine⟨?_,ad,ad⟩;obtain⟨r,U,Z⟩:=JU (P:=P) (E:=E) (w:=w) hx hy h;refine⟨r,?_,Z⟩;cases op<;>first |(simp [JV] at h; done)|(simpa [binOp] using U)
  ·exact Fs hx hy h
  grind
 ·exact Fs hx hy h
 ·split at h
  ·grind
  ·rename_i i hi;split at h
   ·rename_i c hc;simp at h;subst h;obtain⟨e1,e2,e3,e4,e5,e6,e7⟩:=QY (w:=w) (cJ t i hi) hx hy hc;exact⟨⟨_,(binOp_eql e1 e4 e5 e6 e7).1,by simp only [VR]⟩,e2,e3⟩
   ·rename_i c hc;simp at h;subst h;obtain⟨e1,e2,e3,e4,e5,e6,e7⟩:=QY (w:=w) (cJ t i hi) hx hy hc;exact⟨⟨_,(binOp_eql e1 e4 e5 e6 e7).2,by simp only [VR,mT]⟩,e2,e3⟩
   grind
theorem V! {op:UnOp} {x v:W} {u:Value} (hx:VR E w.heap x u) (h:aeW op x=some v): ∃r,(Op.unary op u).run P w= .ok r w/\VR E w.heap v r:=by
 unfold aeW at h;split at h
 ·simp at h; subst h;simp only [VR] at hx; subst hx;exact⟨_,rfl,by simp only [VR,mT]⟩
 ·simp at h; subst h;simp only [VR] at hx; subst hx;exact⟨_,rfl,by simp only [VR,FD,V.den]⟩
 grind
end
section
variable {P:Program} {E:En} {w:World}
theorem iy [bI] {H:Hp} {w':World} (r:bO E H w) {cs:List W} {us:List Value} (arr:Array Value) (lo hi:Nat) (e:TypeId) (hv:cA E w.heap cs us) (U: ∀u∈us,u.oneCell'=true)
 (ha: ∀(i:Nat) (u:Value),us[i]?=some u->arr[i]?=some u) (hf: ∀o:Nat,lo<=o->o<hi->arr.size<=o) (hw:w'.heap=w.heap.push (.cells arr e (lo,hi))) (al:Alike w w') :
 eN E H w (E.ext H.fresh (w.heap.size,0) arr.size) (H.new (.cells cs e)) w'/\bO (E.ext H.fresh (w.heap.size,0) arr.size) (H.new (.cells cs e)) w':=by
 refine oQ r _ _ _ hw al ?_;have k:=Dq r (w.heap.size,0) arr.size (.cells arr e (lo,hi));rw [<- hw] at k;have hlen:=hv.length;simp only [OR,En.ext_θ_new,En.ext_κ_new];refine⟨arr,lo,hi,us,by rw [hw]; simp,cA.bX k _ _ hv,fun i u hu=>by rw [ay]; exact ha i u hu,?_,J,hf,U⟩;rw [<- hlen];rcases aQ arr.size us.length with hh|hh
 ·have:=ha arr.size us[arr.size] (by simp [hh])
  grind
 grind
theorem yd [bI] {H:Hp} (_:bO E H w) (c:Nat) (h:Array Obj) (off:Nat):VR (E.ext H.fresh (w.heap.size,0) c) h (.ptr H.fresh off) (.pointer (some ⟨w.heap.size,off,none⟩)):=by
 simp only [VR,En.ext_θ_new]
 grind [En.gn]
theorem N2 [bI] {tt:TT} (cJ:ew P tt) {H H':Hp} (r:bO E H w) {t:Nat} {p v:W} {u x:Value} (hp:VR E w.heap p u) (hx:VR E w.heap v x) (h:IK tt t p v H=some H') :
 ∃w',(Instr.storeAt t u x).run P w= .ok () w'/\eN E H w E H' w'/\bO E H' w':=by
 unfold IK at h;split at h
 ·grind
 ·rename_i i hi;split at h
  ·rename_i hc;simp only [an,decide_eq_true_eq] at hc;split at h
   ·split at h
    ·rename_i id off cs e hl;split at h
     ·rename_i lF hs;simp at h;subst h;simp only [VR] at hp;obtain⟨rfl,_⟩:=hp;have L9:=hx.cells hc.2;have hlen:x.cells.size=i.size:=by have:=L9.length; simp only [bj] at this; omega
      obtain⟨w',U,Z,h3⟩:=lH (P:=P) r hl hs L9 (L9.rm hc.2);refine⟨w',?_,Z,h3⟩;simp [Instr.storeAt,Instr.sureAddr,storeVar,ep (cJ t i hi),hlen,U]
     grind
    grind
   grind
  grind
theorem GL: ∀(vs:List Value) (off k:Nat) (arr:Array Value),off+k+vs.length<=arr.size->
 ((vs.zipIdx k).foldl (fun cs p=>cs.setIfInBounds (off+p.2) p.1) arr).size=arr.size/\
 ∀i,((vs.zipIdx k).foldl (fun cs p=>cs.setIfInBounds (off+p.2) p.1) arr)[i]?=if off+k<=i/\i<off+k+vs.length then vs[i-(off+k)]? else arr[i]?
 |[],off,k,arr,_=> ⟨rfl,fun i=>by rw [af ad]; rfl⟩
 |v::vs,off,k,arr,h=>by
  simp only [List.zipIdx_cons,amM];obtain⟨U,Z⟩:=GL vs off (k+1) (arr.setIfInBounds (off+k) v) (by simp at h ⊢; omega)
  grind
def te (E:En) (h:Array Obj):List (Nat×W)->List (Nat×Value)->Prop
 |[],ps=>ps= []
 |(i,v)::xs,ps=> ∃x r,ps=(i,x)::r/\VR E h v x/\te E h xs r
theorem pf {place:Nat->Option (Nat×Nat)} {h:Array Obj}: ∀{parts:List (Nat×W)} {cs lF:List W} {us:Array Value} {ps:List (Nat×Value)},
 sP place cs parts=some lF->cA E h cs us.toList->te E h parts ps->(∀u∈us.toList,u.oneCell'=true)->
 ∃gq:Array Value,Instr.fill place us ps=some gq/\cA E h lF gq.toList/\∀u∈gq.toList,u.oneCell'=true
 |[],cs,lF,us,ps,U,Z,h3,h4=>by simp only [te] at h3;subst h3;simp [sP] at U;subst U;exact⟨us,rfl,Z,h4⟩
 |(i,v)::parts,cs,lF,us,ps,U,Z,h3,h4=>by
  simp only [te] at h3;obtain⟨x,ps',rfl,hx,Y⟩:=h3;simp only [sP] at U;split at U
  ·simp at U
  ·rename_i off size hp;split at U
   ·rename_i hc;simp only [an,decide_eq_true_eq] at hc;split at U
    ·rename_i cs2 hs;have L9:=hx.cells hc.2;have hlen:=L9.length;simp only [bj] at hlen;obtain⟨e1,e2,gq,e3,e4⟩:=vo hs Z L9;have hul:=Z.length;simp only [bj] at hul;have aij:=GL x.cells.toList off 0 us (by simp; omega)
     have heq:(x.cells.zipIdx.foldl (fun cs (c,j)=>cs.setIfInBounds (off+j) c) us).toList=gq:=by apply amA;intro k;rw [e4 k];have h5:=aij.2 k;simp only [bg,bj] at h5;rw [bu,<- Array.foldl_toList,Array.toList_zipIdx];rw [h5];simp only [bj,bu]
     have h6: ∀u∈(x.cells.zipIdx.foldl (fun cs (c,j)=>cs.setIfInBounds (off+j) c) us).toList,u.oneCell'=true:=by
      rw [heq];intro u hu;rw [amx] at hu;obtain⟨k,hk⟩:=hu;rw [e4 k] at hk;split at hk
      ·exact L9.rm hc.2 u (bw hk)
      ·exact h4 u (bw hk)
     obtain⟨us2,g1,g2,g3⟩:=pf (us:=x.cells.zipIdx.foldl (fun cs (c,j)=>cs.setIfInBounds (off+j) c) us) U (by rw [heq]; exact e3) Y h6;refine⟨us2,?_,g2,g3⟩;simp only [Instr.fill,hp];rw [af]
     ·exact g1
     ·simp only [amg,decide_eq_true_eq,not_or];constructor
      ·omega
      ·omega
    ·simp at U
   ·simp at U
theorem xy {s:St} {a:Act} (sr:SR E w.heap s.bE a): ∀{xs:List (Nat×Operand)} {ps:List (Nat×W)},vQ s xs=some ps->te E w.heap ps (xs.map fun p=>(p.1,a.eval p.2))
 |[],ps,h=>by simp [vQ] at h; subst h; simp [te]
 |(i,x)::xs,ps,h=>by
  simp only [vQ] at h;split at h
  ·grind
  ·rename_i b Y;split at h
   ·grind
   ·rename_i bs hbs;simp at h;subst h;simp only [aw,te];exact⟨_,_,rfl,fS sr Y,xy sr hbs⟩
theorem di {α:Type}: ∀(l:List α) (i:Nat),eT l i=l[i]?
 |[],i=>by cases i<;>rfl
 |x::xs,0=>rfl
 |x::xs,i+1=>by simp [eT,di xs i]
theorem Dg {α β:Type} {f:α->Option β}: ∀{l:List α} {r:List β},l.mapM f=some r->∀i:Nat,r[i]?=(l[i]?).bind f
 |[],r,h,i=>by simp at h; subst h; simp
 |x::xs,r,h,i=>by
  simp only [amh,amB,amm] at h;obtain⟨y,U,ys,Z,h3⟩:=h;simp only [pure,ag] at h3;subst h3
  cases i with
  |zero=>simp [U]
  |succ i=>simpa using Dg Z i
theorem PL {α β:Type} {f:α->Option β}: ∀{l:List α} {r:List β},r.length=l.length->(∀i:Nat,r[i]?=(l[i]?).bind f)->l.mapM f=some r
 |[],r,h,_=>by simp at h; subst h; simp
 |x::xs,[],h,_=>by simp at h
 |x::xs,y::ys,h,Z=>by have h0:=Z 0;simp at h0;have ih:=PL (l:=xs) (r:=ys) (by simpa using h) (fun i=>by simpa using Z (i+1));simp [amh,h0.symm,ih]
theorem Ba {α β:Type} {f:α->Option β}: ∀{l:List α} {r:List β},l.mapM f=some r->r.length=l.length
 |[],r,h=>by simp at h; subst h; simp
 |x::xs,r,h=>by simp only [amh,amB,amm] at h;obtain⟨y,U,ys,Z,h3⟩:=h;simp only [pure,ag] at h3;subst h3;simp [Ba Z]
theorem Oj {tt:TT} (cJ:ew P tt) {t:Nat} {parts:List (Nat×W)} {ps:Array (Nat×Value)} {v:W} (hp:te E w.heap parts ps.toList) (h:I0 tt t parts=some v) :
 ∃x,(Instr.build t ps).run P w= .ok x w/\VR E w.heap v x:=by
 unfold I0 at h;split at h
 ·rename_i i hi;have fU:=cJ t i hi;obtain⟨inf,z,g1,g2,g3,g4,g5⟩:=vH fU;have hz:=eP (E:=E) (h:=w.heap) g5;split at h
  ·rename_i fs hk;rw [aO] at h;obtain⟨lF,U,rfl⟩:=h;obtain⟨gq,e1,e2,e3⟩:=pf U hz.1 hp hz.2;obtain⟨lL,hu,hm⟩:=rW fU hk
   have Y:P.built t ps.toList=some gq:=by
    unfold Program.built
    have hm2:(lL.toList.mapM fun f=>(P.info? f.type).map fun i=>(f.offset,i.size))=some (fs.map fun x=>(x.1,x.2.2)):=by
     refine PL (by simp [Ba hm]) fun i=>?_;have:=Dg hm i;rw [bn,this]
     cases lL.toList[i]? with
     |none=>rfl
     |some f=>simp only [Option.bind_some,Option.map_map]; rfl
    simp only [g1,hu,g4,hm2];simp_all [e1,di]
   exact⟨_,run_build w t ps gq Y,by simp only [VR]; exact⟨gq.toList,ad,e2⟩⟩
  ·rename_i n e hk;split at h
   ·rename_i s hs;rw [aO] at h;obtain⟨lF,U,rfl⟩:=h;obtain⟨gq,e1,e2,e3⟩:=pf U hz.1 hp hz.2;simp only [hU,aO] at hs;obtain⟨ie,kx,rfl⟩:=hs;obtain⟨alq,z',f1,f2,f3,f4,f5⟩:=vH (cJ e ie kx)
    have Y:P.built t ps.toList=some gq:=by unfold Program.built;simp only [g1,qU fU hk,g4,f1];simp_all
    exact⟨_,run_build w t ps gq Y,by simp only [VR]; exact⟨gq.toList,ad,e2⟩⟩
   grind
  grind
 grind
theorem AZ {α:Type} (l:List α) (hl:l≠[]): ∀(n i:Nat),i<n*l.length->(dJ l n)[i]?=l[i % l.length]?
 |0,i,h=>by simp at h
 |n+1,i,h=>by
  have lr:0<l.length:=alX.2 hl;simp only [dJ];rw [am4];split
  ·rename_i Z; rw [alV Z]
  ·rename_i Z;rw [AZ l hl n (i-l.length) (by rw [alL] at h; omega)];congr 1;rw [<- Nat.mod_eq_sub_mod J]
theorem iK {α:Type} (l:List α): ∀n,(dJ l n).length=n*l.length
 |0=>by simp [dJ]
 |n+1=>by simp [dJ,iK l n,alL]; omega
theorem lT {h:Array Obj} {cs:List W} {us:List Value} (hv:cA E h cs us): ∀n,cA E h (dJ cs n) (dJ us n)
 |0=>by simp [dJ,cA]
 |n+1=>hv.append (lT hv n)
theorem lS {α:Type} {l:List α} {x:α}: ∀{n},x∈dJ l n->x∈l
 |0,h=>by simp [dJ] at h
 |n+1,h=>by
  simp only [dJ,alJ] at h;rcases h with h|h
  ·exact h
  ·exact lS h
theorem tN (z:Array Value) (hz:z.toList≠[]) (n:Nat):((Array.range (n*z.size)).map (z[·% z.size]!)).toList=dJ z.toList n:=by
 apply amA;intro i
 grind [AZ,iK]
theorem BK [bI] {tt:TT} (cJ:ew P tt) {H H':Hp} (r:bO E H w) {t len:Nat} {parts:List (Nat×W)} {ps:Array (Nat×Value)} {v:W} (hp:te E w.heap parts ps.toList) (h:sU tt t len parts H=some (v,H')) :
 ∃x w' E',(Instr.buildSlice t len ps).run P w= .ok x w'/\eN E H w E' H' w'/\bO E' H' w'/\VR E' w'.heap v x:=by
 unfold sU at h;split at h
 ·rename_i i hi;have fU:=cJ t i hi;split at h
  ·rename_i e hk;split at h
   ·rename_i ie kx;have Xo:=cJ e ie kx;obtain⟨inf,z,g1,g2,g3,g4,g5⟩:=vH Xo;have hz:=eP (E:=E) (h:=w.heap) g5;split at h
    ·rename_i Y;split at h
     ·rename_i cs U;simp only [ag,ak] at h;obtain⟨rfl,rfl⟩:=h
      have gW:len*ie.size<=2 ^ 24:=by have:len*ie.size<=1000*1000:=am5 Y.1 Y.2.1;omega
      have vJ:z.cells.size=ie.size:=by have:=hz.1.length; simp only [bj] at this; omega
      have key: ∃gq:Array Value,Instr.fill (fun i=>some (i*inf.size,inf.size)) ((Array.range (len*inf.size)).map ((if len*inf.size=0 then #[] else z.cells)[·% (if len*inf.size=0 then #[] else z.cells).size]!)) ps.toList=some gq/\cA E w.heap cs gq.toList/\∀u∈gq.toList,u.oneCell'=true:=by
       rw [g2];by_cases h0:len*ie.size=0
       ·rw [ah h0,h0]
        have aes:dJ ie.zero len= []:=by
         grind [iK]
        refine pf U ?_ hp ?_
        all_goals grind [cA]
       ·rw [af h0]
        have fX:z.cells.toList≠[]:=by
         intro hx;have T7:z.cells.size=0:=by have:=congrArg List.length hx; simpa using this
         grind
        have hzz:=tN z.cells fX len;rw [vJ] at hzz;refine pf U ?_ hp ?_
        all_goals grind [lT,lS]
      obtain⟨gq,e1,e2,e3⟩:=key;refine⟨.slice (some ⟨w.heap.size,0,none⟩) len len,{ w with heap:=w.heap.push (.cells gq e) },E.ext H.fresh (w.heap.size,0) gq.size,?_,?_⟩
      ·by_cases h0:len*inf.size=0
       ·rw [ah h0] at e1;rw [h0] at e1;have e0: ∀f:Nat->Value,(Array.range 0).map f= #[]:=by intro f; simp
        rw [e0] at e1;simp [Instr.buildSlice,run_underlying (eY fU hk),sizeOf,typeInfo,g1,h0,e0,e1,newRow]
       ·rw [af h0] at e1;have h24: ¬(2 ^ 24<len*inf.size):=by rw [g2]; omega
        simp only [Instr.buildSlice,Sem.run_bind,run_underlying (eY fU hk),Result.andThen_ok,sizeOf,typeInfo,zeroValue,run_program,g1,g4,Sem.run_pure,newRow,gt_iff_lt,h24,h0,if_false,Sem.run_ite];rw [e1];rfl
      ·obtain⟨s1,s2⟩:=iy r gq 0 0 e e2 e3 (fun i u hu=>by rw [<- bu]; exact hu) J (w':={ w with heap:=w.heap.push (.cells gq e) }) rfl ⟨rfl,rfl,rfl⟩;refine⟨s1,s2,?_⟩;simp only [VR]
       grind [En.gn,eF,En.ext_θ_new]
     grind
    grind
   grind
  grind
 grind
theorem Gh {E:En} {h:Array Obj} {v:W} {u:Value} {n:Int} (hv:VR E h v u) (hl:jU v=some n): ∃k,u= .int k n:=by
 unfold jU at hl;split at hl
 ·simp only [ag] at hl;subst hl;simp only [VR,V.den] at hv
  grind
 grind
theorem uU [bI] {tt:TT} (cJ:ew P tt) {H H':Hp} (r:bO E H w) {t:Nat} {l c:W} {lu cu:Value} {v:W} (hl:VR E w.heap l lu) (hc:VR E w.heap c cu) (h:qd tt t l c H=some (v,H')) :
 ∃x w' E',(Instr.makeSlice t lu cu).run P w= .ok x w'/\eN E H w E' H' w'/\bO E' H' w'/\VR E' w'.heap v x:=by
 unfold qd at h;split at h
 ·rename_i n g!;split at h
  ·rename_i m hcm;obtain⟨k1,rfl⟩:=Gh hl g!;obtain⟨k2,rfl⟩:=Gh hc hcm;split at h
   ·rename_i i hi;have fU:=cJ t i hi;split at h
    ·rename_i e hk;split at h
     ·rename_i ie kx;have Xo:=cJ e ie kx;obtain⟨inf,z,g1,g2,g3,g4,g5⟩:=vH Xo;have hz:=eP (E:=E) (h:=w.heap) g5;split at h
      ·rename_i Y;obtain⟨b1,b2,b3,b4,b5⟩:=Y;simp only [ag,ak] at h;obtain⟨rfl,rfl⟩:=h;have vJ:z.cells.size=ie.size:=by have:=hz.1.length; simp only [bj] at this; omega
       have wn:IntKind.i64.wrap (Int.ofNat n)=Int.ofNat n:=by rw [<- j6]; simp only [rF]; rw [ah (by constructor<;>simp<;>omega)]
       have wm:IntKind.i64.wrap (Int.ofNat m)=Int.ofNat m:=by rw [<- j6]; simp only [rF]; rw [ah (by constructor<;>simp<;>omega)]
       have DF:inf.bytes*m<=1000000000:=by rw [g3]; exact am5 b4 b2
       have ai: ∀(k:IntKind) (x:Int) (w:World),(asInt (Value.int k x)).run P w= .ok x w:=fun _ _ _=>rfl
       have key: ∃gq:Array Value,((Array.range (m*inf.size)).map ((if m*inf.size=0 then #[] else z.cells)[·% (if m*inf.size=0 then #[] else z.cells).size]!))=gq/\cA E w.heap (dJ ie.zero m) gq.toList/\∀u∈gq.toList,u.oneCell'=true:=by
        rw [g2];by_cases h0:m*ie.size=0
        ·grind [dJ,iK,cA]
        ·rw [af h0]
         have fX:z.cells.toList≠[]:=by
          intro hx;have T7:z.cells.size=0:=by have:=congrArg List.length hx; simpa using this
          grind
         grind [tN,lT,lS]
       obtain⟨gq,e1,e2,e3⟩:=key;refine⟨.slice (some ⟨w.heap.size,0,none⟩) n m,{ w with heap:=w.heap.push (.cells gq e) },E.ext H.fresh (w.heap.size,0) gq.size,?_,?_⟩
       ·have t1: ¬(Int.ofNat m<0):=ad
        have t2: ¬((inf.bytes:Int)*Int.ofNat m > 2 ^ 48):=by
         grind
        have t3: ¬(Int.ofNat n<0):=ad
        have t4: ¬(Int.ofNat n > Int.ofNat m):=by simp; omega
        have t5:(askRoom (m*inf.bytes)).run P w= .ok () w:=by simp_all
        have t6:(Int.ofNat m).toNat=m:=rfl;have t7:(Int.ofNat n).toNat=n:=rfl;by_cases h0:m*inf.size=0
        ·rw [ah h0] at e1;rw [h0] at e1;simp only [Instr.makeSlice,Sem.run_bind,run_underlying (eY fU hk),Result.andThen_ok,ai,sizeOf,typeInfo,zeroValue,run_program,g1,g4,Sem.run_pure,newRow,Sem.run_ite,wn,wm,t1,t2,t3,t4,t6,t7,h0,decide_false,amN,aL,if_false,if_true];simp_all
        ·rw [af h0] at e1;simp only [Instr.makeSlice,Sem.run_bind,run_underlying (eY fU hk),Result.andThen_ok,ai,sizeOf,typeInfo,zeroValue,run_program,g1,g4,Sem.run_pure,newRow,Sem.run_ite,wn,wm,t1,t2,t3,t4,t6,t7,h0,decide_false,amN,aL,if_false];simp_all
       ·obtain⟨s1,s2⟩:=iy r gq 0 0 e e2 e3 (fun i u hu=>by rw [<- bu]; exact hu) J (w':={ w with heap:=w.heap.push (.cells gq e) }) rfl ⟨rfl,rfl,rfl⟩;refine⟨s1,s2,?_⟩;simp only [VR];exact⟨En.gn _ _ _ _,⟨w.heap.size,0,none⟩,m,rfl,b1,by simp [eF,En.ext_θ_new]⟩
      grind
     grind
    grind
   grind
  grind
 grind
end
section
variable {P:Program} {E:En} {w:World}
theorem J9 {i:TI} {t:Nat} (fU:l7 P t i) {fs:List (Nat×Nat×Nat)} (hk:i.kind= .struct fs) {f off ft sz:Nat} (h:eT fs f=some (off,ft,sz)) :
 ∃(lL:Array Field) (fd:Field) (inf:TypeInfo),P.underlying t=some (.struct lL)/\lL[f]?=some fd/\fd.offset=off/\fd.type=ft/\P.info? ft=some inf/\inf.size=sz:=by
 obtain⟨lL,hu,hm⟩:=rW fU hk;have U:=Dg hm f;rw [<- di,h,bu] at U
 cases hf:lL[f]? with
 |none=>rw [hf] at U; simp at U
 |some fd=>
  rw [hf] at U;simp only [Option.bind_some] at U
  cases hi:P.info? fd.type with
  |none=>rw [hi] at U; simp at U
  |some inf=>
   grind
theorem FT {x v:W} {u:Value} {off:Nat} (hx:VR E w.heap x u) (h:PK off x=some v) :
 ∃b o,u= .pointer (some ⟨b,o,none⟩)/\VR E w.heap v (.pointer (some ⟨b,o+off,none⟩)):=by
 unfold PK at h;cases x<;>simp only [ag,reduceCtorEq,aO] at h
 case ptr id o=>
  subst h;simp only [VR] at hx ⊢;obtain⟨rfl,hid⟩:=hx;exact⟨_,_,rfl,by rw [alF],hid⟩
 case zd id es i o=>
  subst h;simp only [VR] at hx ⊢;obtain⟨hid,k,U,rfl⟩:=hx;exact⟨_,_,rfl,hid,k,U,by rw [alF,alF]⟩
 case mU cs=>
  obtain⟨l,U,rfl⟩:=h;simp only [VR] at hx ⊢;obtain⟨b,o,us,rfl,Z,h3,h4,h5⟩:=hx;exact⟨b,o,rfl,b,o+off,us.drop off,rfl,Z,(h3.eE U).1,h4.drop off,fun u hu=>h5 u (br hu)⟩
theorem D4 {tt:TT} (cJ:ew P tt) {t f:Nat} {x v:W} {u:Value} (hx:VR E w.heap x u) (h:uW tt t x f=some v) :
 ∃r,(Instr.fieldAt t u f).run P w= .ok r w/\VR E w.heap v r:=by
 unfold uW at h;split at h
 ·rename_i i hi;split at h
  ·rename_i fs hk;split at h
   ·rename_i off ft sz hn;obtain⟨lL,fd,inf,hu,hf,U,Z,h3,h4⟩:=J9 (cJ t i hi) hk hn;split at h
    ·grind
    ·rename_i gW;obtain⟨b,o,rfl,hv⟩:=FT hx h;refine⟨_,?_,hv⟩;have fX: ¬inf.size=0:=by rw [h4]; exact gW
     simp [Instr.fieldAt,run_underlying hu,hf,Instr.sureAddr,fieldPlace,sizeOf,typeInfo,Z,h3,fX,eU,U]
   grind
  grind
 grind
theorem PF {i:TI} {t:Nat} (fU:l7 P t i) {cs l:List W} {us:List Value} {off:Nat} {v:W} (hv:cA E w.heap cs us) (hd:eE off cs=some l)
 (h:partOf i l=some v) :
 ∃r,(part t us.toArray off).run P w= .ok r w/\VR E w.heap v r:=by
 obtain⟨U,Z,h3⟩:=hv.eE hd;have hlen:=hv.length;unfold partOf at h;split at h
 ·rename_i NO;rw [aO] at h;obtain⟨l',h4,rfl⟩:=h;obtain⟨h5,h6⟩:=U.hJ h4;refine⟨.agg (us.toArray.extract off (off+i.size)),?_,?_⟩
  ·simp [part,ku fU,NO,ep fU]
  ·simp only [VR]
   grind
 ·rename_i NO;split at h
  ·rename_i x l';simp at h;subst h;rw [bV] at U;obtain⟨u,vs,he,h5,_⟩:=U;refine⟨u,?_,h5⟩
   have hg:us[off]?=some u:=by
    have:=congrArg (·[0]?) he
    grind
   simp [part,ku fU,NO,hg]
  grind
theorem Ob {tt:TT} (cJ:ew P tt) {t f:Nat} {x v:W} {u:Value} (hx:VR E w.heap x u) (h:IS tt t x f=some v) :
 ∃r,(Instr.field t u f).run P w= .ok r w/\VR E w.heap v r:=by
 unfold IS at h;split at h
 ·rename_i i hi;split at h
  ·rename_i fs hk;split at h
   ·rename_i off ft sz hn;obtain⟨lL,fd,inf,hu,hf,U,Z,h3,h4⟩:=J9 (cJ t i hi) hk hn;split at h
    ·rename_i fi cs hfi;split at h
     ·rename_i l hl;simp only [VR] at hx;obtain⟨us,rfl,hv⟩:=hx;obtain⟨r,e1,e2⟩:=PF (w:=w) (cJ ft fi hfi) hv hl h;refine⟨r,?_,e2⟩;simp [Instr.field,run_underlying hu,hf,asAgg,U,Z,e1]
     grind
    grind
   grind
  grind
 grind
theorem Ac {x:W} {u:Value} {n:Int} (hx:VR E w.heap x u) (h:jU x=some n): ∃k,u= .int k n:=by
 cases x<;>simp [jU] at h;rename_i k e;cases e<;>simp at h;subst h;simp only [VR,V.den] at hx
 grind
theorem pg {tt:TT} (cJ:ew P tt) {t:Nat} {x ix v:W} {u ui:Value} (hx:VR E w.heap x u) (yE:VR E w.heap ix ui) (h:nK tt t x ix=some v) :
 ∃r,(Instr.indexAt t u ui).run P w= .ok r w/\VR E w.heap v r:=by
 unfold nK at h;split at h
 ·rename_i i hi;obtain⟨k,rfl⟩:=Ac yE hi;split at h
  ·rename_i ti fU;have uw:=cJ t ti fU;split at h
   ·rename_i n e hk;split at h
    ·rename_i ff;split at h
     ·rename_i s hs;simp only [hU,aO] at hs;obtain⟨ie,kx,rfl⟩:=hs;obtain⟨b,o,rfl,hv⟩:=FT hx h;refine⟨_,?_,hv⟩;have hu:=qU uw hk;simp [Instr.indexAt,asIntOf,run_underlying hu,Instr.sureAddr,ep (cJ e ie kx),ff,eU]
     grind
    grind
   ·rename_i e hk;have hu:=eY uw hk;split at h
    ·rename_i s hs;simp only [hU,aO] at hs;obtain⟨ie,kx,rfl⟩:=hs;split at h
     ·rename_i id o len c;split at h
      ·rename_i ff;simp at h;subst h;simp only [VR] at hx;obtain⟨hid,a,cap,rfl,gI,hc⟩:=hx
       have ha:a=⟨(E.θ id).1,(E.θ id).2+o,none⟩:=by
        cases c with
        |exact c=>
         simp only [eF] at hc
         grind
        |rest es=>
         simp only [eF] at hc
         grind
       subst ha;refine⟨.pointer (some ⟨(E.θ id).1,(E.θ id).2+o+i*ie.size,none⟩),?_,by simp only [VR]; exact⟨by rw [alF],hid⟩⟩;simp [Instr.indexAt,asIntOf,run_underlying hu,ep (cJ e ie kx),ff,eU]
      grind
     ·rename_i cs n full;split at h
      ·rename_i ff;rw [aO] at h;obtain⟨l,U,rfl⟩:=h;simp only [VR] at hx;obtain⟨b,o,cap,us,rfl,Z,h3,h4,h5,h6,h7⟩:=hx;refine⟨.pointer (some ⟨b,o+i*ie.size,none⟩),?_,?_⟩
       ·simp [Instr.indexAt,asIntOf,run_underlying hu,ep (cJ e ie kx),ff,eU]
       ·simp only [VR];exact⟨b,_,us.drop (i*ie.size),rfl,h4,(h5.eE U).1,h6.drop _,fun u hu=>h7 u (br hu)⟩
      grind
     grind
    grind
   grind
  grind
 grind
theorem CJ (s:List Nat) (i:Nat):(de s)[i]?=(s[i]?).map UInt8.ofNat:=by have U:(de s)[i]?=(de s).data[i]?:=rfl;rw [U];simp [de]
theorem xz {tt:TT} (cJ:ew P tt) {t:Nat} {x ix v:W} {u ui:Value} (hx:VR E w.heap x u) (yE:VR E w.heap ix ui) (h:yX tt t x ix=some v) :
 ∃r,(Instr.index t u ui).run P w= .ok r w/\VR E w.heap v r:=by
 unfold yX at h;split at h
 ·rename_i i hi;obtain⟨k,rfl⟩:=Ac yE hi;split at h
  ·rename_i ti fU;have uw:=cJ t ti fU;split at h
   ·rename_i s hk;rw [aO] at h;obtain⟨b,Y,rfl⟩:=h;simp only [VR] at hx;obtain⟨rfl,ff⟩:=hx;rw [di] at Y;have hg:(de s)[i]?=some (UInt8.ofNat b):=by rw [CJ,Y]; rfl
    have akM:=ff b (bw Y);refine⟨_,by simp [Instr.index,asIntOf,run_underlying (fB uw hk),hg]; rfl,?_⟩;simp only [VR,V.den]
    grind
   ·rename_i n e cs hk;split at h
    ·rename_i ff;split at h
     ·rename_i ie kx;split at h
      ·rename_i l hl;simp only [VR] at hx;obtain⟨us,rfl,hv⟩:=hx;obtain⟨r,e1,e2⟩:=PF (w:=w) (cJ e ie kx) hv hl h;refine⟨r,?_,e2⟩;simp [Instr.index,asIntOf,run_underlying (qU uw hk),ff,ep (cJ e ie kx),e1]
      grind
     grind
    grind
   grind
  grind
 grind
end
section
variable {P:Program} {E:En} {w:World}
def fV (E:En) (h:Array Obj):Option W->Option Value->Prop
 |none,o=>o=none
 |some x,o=> ∃u,o=some u/\VR E h x u
theorem eu {s:St} {a:Act} (sr:SR E w.heap s.bE a) {x:Option Operand} {v:Option W} (h:GX s x=some v):fV E w.heap v (x.map a.eval):=by
 cases x with
 |none=>simp [GX] at h; subst h; simp [fV]
 |some x=> simp only [GX,aO] at h;obtain⟨b,U,rfl⟩:=h;exact⟨_,rfl,fS sr U⟩
theorem zk {x:W} {u:Value} {d y k:Nat} (hx:VR E w.heap x u) (h:nv (some x) d y=some k) {y':Nat} (hy:y<=y') (code:BoundsCode) :
 (Instr.sliceBound u y' code).run P w= .ok k w/\k<=y:=by
 unfold nv at h;simp only at h;split at h
 ·rename_i i hi;obtain⟨kk,rfl⟩:=Ac hx hi;split at h
  ·rename_i hle;simp at h;subst h;refine⟨?_,hle⟩;have:((i:Int)<=(y':Int)):=J
   simp [Instr.sliceBound,asIntOf];omega
  grind
 grind
theorem zl {d y k:Nat} (h:nv none d y=some k):k=d/\d<=y:=by
 grind [nv]
theorem fJ {isSlice:Bool} {len cap m0 h0:Nat} {lo hi mx:Option W} {xF hi' mx':Option Value} (nR:fV E w.heap lo xF) (xI:fV E w.heap hi hi') (xq:fV E w.heap mx mx')
 (hmh:mx.isSome=true->hi.isSome=true) {m h l d:Nat}
 (hm:(mx=none/\m=cap/\m0<=cap)\/(∃x,mx=some x/\nv mx d m0=some m/\m0<=cap))
 (hh:nv hi len h0=some h) (hh0:(mx=none->h0<=cap)/\(mx≠none->h0=m)) (hl:nv lo 0 h=some l) :
 (Instr.sliceBounds isSlice len cap xF hi' mx').run P w= .ok (l,h,m) w/\l<=h:=by
 have key: ∀(c:BoundsCode) (v:W) (u:Value),lo=some v->VR E w.heap v u->(Instr.sliceBound u h c).run P w= .ok l w/\l<=h:=by intro c v u hv hu;subst hv;exact zk hu hl (au _) c
 have alo:lo=none->l=0:=fun hv=>by subst hv; exact (zl hl).1
 unfold Instr.sliceBounds;rcases hm with ⟨rfl,rfl,hm0⟩|⟨x,rfl,hm1,hm0⟩
 ·simp only [fV] at xq;subst xq;have Y:=hh0.1 rfl
  cases hi with
  |none=>
   simp only [fV] at xI;subst xI;obtain⟨rfl,_⟩:=zl hh
   cases lo with
   |none=> simp only [fV] at nR;simp_all
   |some v=> obtain⟨u,rfl,hu⟩:=nR;obtain⟨k1,k2⟩:=key .sliceB v u rfl hu;simp_all
  |some y=>
   obtain⟨uy,rfl,huy⟩:=xI;have U:=fun c=>(zk (P:=P) huy hh Y c).1
   cases lo with
   |none=> simp only [fV] at nR;simp_all
   |some v=> obtain⟨u,rfl,hu⟩:=nR;obtain⟨k1,k2⟩:=key .sliceB v u rfl hu;simp_all
 ·obtain⟨ux,rfl,hux⟩:=xq;have Z:=fun c=>(zk (P:=P) hux hm1 hm0 c).1;have Y:=hh0.2 ad;subst Y
  cases hi with
  |none=>simp at hmh
  |some y=>
   obtain⟨uy,rfl,huy⟩:=xI;have U:=fun c=>(zk (P:=P) huy hh (au _) c).1
   cases lo with
   |none=> simp only [fV] at nR;simp_all
   |some v=> obtain⟨u,rfl,hu⟩:=nR;obtain⟨k1,k2⟩:=key .slice3C v u rfl hu;simp_all
theorem rY (s:List Nat) (l h:Nat):(de s).extract l h=de ((s.take h).drop l):=by apply ByteArray.ext;apply Array.ext';rw [Lib.extract_data];simp [de,am6,am7,List.drop_take]
theorem pq {id o len cap l h m es:Nat} {a:Addr} {c c':L2} (hc:eF E id o len a cap c) (hlen:len<=cap) (hlh:l<=h) (hhm:h<=m) (hmc:m<=cap)
 (T9:(∃k,c= .exact k/\c'= .exact (m-l))\/(c= .rest es/\c'= .exact (m-l))\/(c= .rest es/\c'= .rest es/\m=cap)) (s:Nat) (ky:c'= .rest es->es=s) :
 eF E id (o+l*s) (h-l) (if m=l then a else a.add (l*s)) (m-l) c':=by
 rcases T9 with ⟨k,rfl,rfl⟩|⟨rfl,rfl⟩|⟨rfl,rfl,rfl⟩
 ·simp only [eF] at *;refine⟨trivial,?_⟩;by_cases KN:m=l
  ·grind
  ·left
   grind [eU]
 ·simp only [eF] at *;refine⟨trivial,?_⟩;by_cases KN:m=l
  ·grind
  ·left
   grind [eU]
 ·simp only [eF] at *;obtain rfl:=ky trivial;by_cases KN:m=l
  ·grind
  ·left;rw [af KN];rcases hc with ha|ha
   ·refine⟨by rw [ha.1,eU,alF],?_⟩;rw [<- ha.2,alF,<- alL]
    grind
   ·omega
theorem kZ {x:Option W} {d y k:Nat} (h:nv x d y=some k):k<=y:=by
 unfold nv at h;split at h
 ·grind
 ·split at h
  all_goals grind
theorem Le [bI] {tt:TT} (cJ:ew P tt) {H:Hp} (r:bO E H w) {t:Nat} {x v:W} {u:Value} {lo hi mx:Option W} {xF hi' mx':Option Value} (hx:VR E w.heap x u)
 (nR:fV E w.heap lo xF) (xI:fV E w.heap hi hi') (xq:fV E w.heap mx mx') (h:DZ tt t x lo hi mx H=some v) :
 ∃r,(Instr.sliceAt t u xF hi' mx').run P w= .ok r w/\VR E w.heap v r:=by
 unfold DZ at h;split at h
 ·grind
 ·split at h
  ·grind
  ·rename_i ti fU;have uw:=cJ t ti fU;split at h
   ·rename_i e hk;have hu:=eY uw hk;split at h
    ·grind
    ·rename_i s hs;simp only [hU,aO] at hs;obtain⟨ie,kx,rfl⟩:=hs;have gW:=ep (w:=w) (cJ e ie kx);split at h
     ·rename_i id o len es;split at h
      ·rename_i ky;split at h
       ·rename_i cs ty hl;split at h
        ·grind
        ·rename_i b zw;split at h
         ·grind
         ·rename_i l mX;simp at h;subst h;obtain⟨ky,lr⟩:=ky;subst ky;simp only [VR] at hx;obtain⟨hid,a,cap,rfl,hlen,hc⟩:=hx;have yB:=(r.live id _ hl).2.1;simp only [OR] at yB;obtain⟨arr,lo1,hi1,us,q1,q2,q3,q4,q5,q6,q7⟩:=yB
          have gI:(cs.length-o) / ie.size<=cap:=by
           simp only [eF] at hc;rcases hc with hc|hc
           ·have:cs.length-o<=cap*ie.size:=J
            exact Nat.div_le_of_le_mul (by rw [am1]; exact this)
           simp_all
          obtain⟨e1,e2⟩:=fJ (P:=P) (w:=w) (isSlice:=true) (len:=len) (cap:=cap) (m0:=cap) (d:=0) (m:=cap) nR xI xq ad (.inl ⟨rfl,rfl,au _⟩) zw ⟨fun _=>gI,ad⟩ mX;have aeE:=kZ zw;refine⟨.slice (some (if cap=l then a else a.add (l*ie.size))) (b-l) (cap-l),?_,?_⟩
          ·simp [Instr.sliceAt,run_underlying hu,Instr.slice,e1,gW]<;>split<;>rfl
          ·simp only [VR];exact⟨hid,_,_,rfl,J,pq (es:=ie.size) hc hlen e2 J (au _) (.inr (.inr ⟨rfl,rfl,rfl⟩)) _ (fun _=>rfl)⟩
       grind
      grind
     grind
   grind
theorem xx {tt:TT} (cJ:ew P tt) {t:Nat} {x v:W} {u:Value} {lo hi mx:Option W} {xF hi' mx':Option Value} (hx:VR E w.heap x u)
 (nR:fV E w.heap lo xF) (xI:fV E w.heap hi hi') (xq:fV E w.heap mx mx') (h:yR tt t x lo hi mx=some v) :
 ∃r,(Instr.sliceAt t u xF hi' mx').run P w= .ok r w/\VR E w.heap v r:=by
 unfold yR at h;split at h
 ·grind
 ·rename_i ti fU;have uw:=cJ t ti fU;split at h
  ·rename_i hk;have hu:=fB uw hk;split at h
   ·rename_i s;simp only [fV] at xq;subst xq;split at h
    ·rename_i b Y;split at h
     ·rename_i l hl;simp at h;subst h;simp only [VR] at hx;obtain⟨rfl,ff⟩:=hx;obtain⟨e1,e2⟩:=fJ (P:=P) (w:=w) (isSlice:=false) (len:=s.length) (cap:=s.length) (m0:=s.length) (d:=0) nR xI (mx:=none) (mx':=none) rfl ad (.inl ⟨rfl,rfl,au _⟩) Y ⟨fun _=>au _,ad⟩ hl;refine⟨.string ((de s).extract l b),?_,?_⟩
      ·rw [<- kg] at e1;simp [Instr.sliceAt,run_underlying hu,Instr.slice,e1]
      ·simp only [VR,rY]
       grind
     grind
    grind
   grind
  ·rename_i e hk;have hu:=eY uw hk;split at h
   ·grind
   ·rename_i s hs;simp only [hU,aO] at hs;obtain⟨ie,kx,rfl⟩:=hs;have gW:=fun w'=>ep (cJ e ie kx) w';split at h
    ·split at h
     ·grind
     ·rename_i hmh;split at h
      ·rename_i kh kl km zw mX DF;simp at h;subst h;simp only [VR] at hx;subst hx;obtain rfl:kh=0:=by have:=kZ zw; omega
       obtain rfl:kl=0:=by have:=kZ mX; omega
       obtain rfl:km=0:=by have:=kZ DF; omega
       have hm:(mx=none/\0=0/\0<=0)\/(∃x,mx=some x/\nv mx 0 0=some 0/\0<=0):=by
        cases mx with
        |none=>exact .inl ⟨rfl,rfl,au _⟩
        |some y=>exact .inr ⟨y,rfl,DF,au _⟩
       obtain⟨e1,e2⟩:=fJ (P:=P) (w:=w) (isSlice:=true) (len:=0) (cap:=0) (m0:=0) (d:=0) (m:=0) nR xI xq (by cases mx<;>cases hi<;>simp_all) hm zw ⟨fun _=>au _,fun _=>rfl⟩ mX;refine⟨.slice none 0 0,?_,by simp only [VR]⟩;simp [Instr.sliceAt,run_underlying hu,Instr.slice,e1,gW]
      grind
    ·rename_i id o len c;split at h
     ·grind
     ·rename_i hmh;split at h
      ·grind
      ·rename_i m DF;split at h
       ·grind
       ·rename_i b zw;split at h
        ·grind
        ·rename_i l mX;simp at h;subst h;simp only [VR] at hx;obtain⟨hid,a,cap,rfl,hlen,hc⟩:=hx;have gI:cap=c:=by simp only [eF] at hc; exact hc.1
         subst gI
         have hm:(mx=none/\m=cap/\cap<=cap)\/(∃x,mx=some x/\nv mx cap cap=some m/\cap<=cap):=by
          cases mx with
          |none=>exact .inl ⟨rfl,(zl DF).1,au _⟩
          |some y=>exact .inr ⟨y,rfl,DF,au _⟩
         obtain⟨e1,e2⟩:=fJ (P:=P) (w:=w) (isSlice:=true) (len:=len) (cap:=cap) (m0:=cap) (d:=cap) (m:=m) nR xI xq (by cases mx<;>cases hi<;>simp_all) hm zw ⟨fun _=>kZ DF,fun _=>rfl⟩ mX;refine⟨.slice (some (if m=l then a else a.add (l*ie.size))) (b-l) (m-l),?_,?_⟩
         ·simp [Instr.sliceAt,run_underlying hu,Instr.slice,e1,gW]<;>split<;>rfl
         ·simp only [VR];exact⟨hid,_,_,rfl,by have:=kZ zw; omega,pq (es:=0) hc hlen e2 (kZ zw) (kZ DF) (.inl ⟨_,rfl,rfl⟩) _ ad⟩
    ·rename_i id o len es;split at h
     ·split at h
      ·grind
      ·rename_i b zw;split at h
       ·grind
       ·rename_i l mX;split at h
        ·rename_i ky;simp at h;subst h;simp only [VR] at hx;obtain⟨hid,a,cap,rfl,hlen,hc⟩:=hx;obtain⟨e1,e2⟩:=fJ (P:=P) (w:=w) (isSlice:=true) (len:=len) (cap:=cap) (m0:=cap) (d:=0) (m:=cap) nR xI xq ad (.inl ⟨rfl,rfl,au _⟩) zw ⟨fun _=>hlen,ad⟩ mX;have aeE:=kZ zw;refine⟨.slice (some (if cap=l then a else a.add (l*ie.size))) (b-l) (cap-l),?_,?_⟩
         ·simp [Instr.sliceAt,run_underlying hu,Instr.slice,e1,gW]<;>split<;>rfl
         ·simp only [VR];exact⟨hid,_,_,rfl,J,pq (es:=es) hc hlen e2 J (au _) (.inr (.inr ⟨rfl,rfl,rfl⟩)) _ (fun _=>ky)⟩
        grind
     ·rename_i y;split at h
      ·grind
      ·grind
      ·rename_i b0 m DF;split at h
       ·grind
       ·rename_i b zw;split at h
        ·grind
        ·rename_i l mX;simp at h;subst h;simp only [VR] at hx;obtain⟨hid,a,cap,rfl,hlen,hc⟩:=hx;obtain⟨e1,e2⟩:=fJ (P:=P) (w:=w) (isSlice:=true) (len:=len) (cap:=cap) (m0:=len) (d:=0) (m:=m) nR xI xq ad (.inr ⟨y,rfl,DF,hlen⟩) zw ⟨ad,fun _=>rfl⟩ mX;have KU:=kZ zw;have hm2:=kZ DF;refine⟨.slice (some (if m=l then a else a.add (l*ie.size))) (b-l) (m-l),?_,?_⟩
         ·simp [Instr.sliceAt,run_underlying hu,Instr.slice,e1,gW]<;>split<;>rfl
         ·simp only [VR];exact⟨hid,_,_,rfl,J,pq (es:=es) hc hlen e2 KU J (.inr (.inl ⟨rfl,rfl⟩)) _ ad⟩
    ·rename_i cs n full;split at h
     ·split at h
      ·grind
      ·rename_i b zw;split at h
       ·grind
       ·rename_i l mX;split at h
        ·grind
        ·rename_i d hd;split at h
         ·grind
         ·rename_i d' DE;simp at h;subst h;simp only [VR] at hx;obtain⟨bb,o,cap,us,rfl,hn,Gz,h4,h5,h6,h7⟩:=hx;obtain⟨e1,e2⟩:=fJ (P:=P) (w:=w) (isSlice:=true) (len:=n) (cap:=cap) (m0:=cap) (d:=0) (m:=cap) nR xI xq ad (.inl ⟨rfl,rfl,au _⟩) zw ⟨fun _=>hn,ad⟩ mX;have KU:=kZ zw;obtain⟨g1,g2,g3⟩:=h5.eE hd;obtain⟨g4,g5⟩:=g1.hJ DE;refine⟨.slice (some (if cap=l then⟨bb,o,none⟩ else (⟨bb,o,none⟩ : Addr).add (l*ie.size))) (b-l) (cap-l),?_,?_⟩
          ·simp [Instr.sliceAt,run_underlying hu,Instr.slice,e1,gW]<;>split<;>rfl
          ·simp only [VR];by_cases KN:cap=l
           ·have h0:b-l=0:=J
            refine⟨bb,o,cap-l,(us.drop (l*ie.size)).take ((b-l)*ie.size),by rw [ah KN],J,fun _=>by omega,h4,g4,?_,fun u hu=>h7 u (br (alI hu))⟩;rw [h0,alG];intro i u hu
            grind
           ·refine⟨bb,o+l*ie.size,cap-l,(us.drop (l*ie.size)).take ((b-l)*ie.size),by rw [af KN,eU],J,?_,h4,g4,(h6.drop _).take _,fun u hu=>h7 u (br (alI hu))⟩;intro hf
            grind
     ·rename_i y;split at h
      ·grind
      ·grind
      ·rename_i b0 m DF;split at h
       ·grind
       ·rename_i b zw;split at h
        ·grind
        ·rename_i l mX;split at h
         ·grind
         ·rename_i d hd;split at h
          ·grind
          ·rename_i d' DE;simp at h;subst h;simp only [VR] at hx;obtain⟨bb,o,cap,us,rfl,hn,Gz,h4,h5,h6,h7⟩:=hx;obtain⟨e1,e2⟩:=fJ (P:=P) (w:=w) (isSlice:=true) (len:=n) (cap:=cap) (m0:=n) (d:=0) (m:=m) nR xI xq ad (.inr ⟨y,rfl,DF,hn⟩) zw ⟨ad,fun _=>rfl⟩ mX;have KU:=kZ zw;obtain⟨g1,g2,g3⟩:=h5.eE hd;obtain⟨g4,g5⟩:=g1.hJ DE;refine⟨.slice (some (if m=l then⟨bb,o,none⟩ else (⟨bb,o,none⟩ : Addr).add (l*ie.size))) (b-l) (m-l),?_,?_⟩
           ·simp [Instr.sliceAt,run_underlying hu,Instr.slice,e1,gW]<;>split<;>rfl
           ·simp only [VR];by_cases KN:m=l
            ·have h0:b-l=0:=J
             refine⟨bb,o,m-l,(us.drop (l*ie.size)).take ((b-l)*ie.size),by rw [ah KN],J,fun _=>by omega,h4,g4,?_,fun u hu=>h7 u (br (alI hu))⟩;rw [h0,alG];intro i u hu
             grind
            ·refine⟨bb,o+l*ie.size,m-l,(us.drop (l*ie.size)).take ((b-l)*ie.size),by rw [af KN,eU],J,?_,h4,g4,(h6.drop _).take _,fun u hu=>h7 u (br (alI hu))⟩;intro hf
             grind
    grind
  ·rename_i n e hk;have hu:=qU uw hk;split at h
   ·grind
   ·rename_i s hs;simp only [hU,aO] at hs;obtain⟨ie,kx,rfl⟩:=hs;have gW:=fun w'=>ep (cJ e ie kx) w';split at h
    ·rename_i id o;split at h
     ·grind
     ·rename_i hmh;split at h
      ·grind
      ·rename_i m DF;split at h
       ·grind
       ·rename_i b zw;split at h
        ·grind
        ·rename_i l mX;simp at h;subst h;simp only [VR] at hx;obtain⟨rfl,hid⟩:=hx
         have hm:(mx=none/\m=n/\n<=n)\/(∃x,mx=some x/\nv mx n n=some m/\n<=n):=by
          cases mx with
          |none=>exact .inl ⟨rfl,(zl DF).1,au _⟩
          |some y=>exact .inr ⟨y,rfl,DF,au _⟩
         obtain⟨e1,e2⟩:=fJ (P:=P) (w:=w) (isSlice:=false) (len:=n) (cap:=n) (m0:=n) (d:=n) (m:=m) nR xI xq (by cases mx<;>cases hi<;>simp_all) hm zw ⟨fun _=>kZ DF,fun _=>rfl⟩ mX;refine⟨.slice (some (if m=l then⟨(E.θ id).1,(E.θ id).2+o,none⟩ else (⟨(E.θ id).1,(E.θ id).2+o,none⟩ : Addr).add (l*ie.size))) (b-l) (m-l),?_,?_⟩
         ·simp [Instr.sliceAt,run_underlying hu,Instr.sureAddr,e1,gW]<;>split<;>rfl
         ·simp only [VR,eF];refine⟨hid,_,_,rfl,by have:=kZ zw; omega,rfl,?_⟩;by_cases KN:m=l
          ·grind
          ·left; rw [af KN,eU,alF]
    grind
  grind
end
section
variable {P:Program} {E:En} {w:World}
theorem Bz {h:Array Obj}: ∀{cs:List W} {us:List Value} {l:List Nat},u7 cs=some l->cA E h cs us->us=(l.map UInt8.ofNat).map (fun b=>Value.int .u8 (b.toNat:Int))/\∀b∈l,b<256
 |[],us,l,U,Z=>by
  simp [u7] at U;subst U;rw [gP] at Z
  grind
 |x::cs,us,l,U,Z=>by
  rw [bV] at Z;obtain⟨u,vs,rfl,h3,h4⟩:=Z;unfold u7 at U;split at U
  ·rename_i he; simp at he
  ·rename_i b xs he;simp only [List.cons.injEq] at he;obtain⟨rfl,rfl⟩:=he;split at U
   ·rename_i Y;split at U
    ·rename_i l' hl;simp at U;subst U;obtain⟨e1,e2⟩:=Bz hl h4;simp only [VR,V.den] at h3;refine⟨?_,?_⟩
     ·rw [h3,e1];simp [al4,alV Y]
     grind
    grind
   grind
  grind
theorem yY [bI] {tt:TT} (cJ:ew P tt) {H H':Hp} (r:bO E H w) {sT dT:Nat} {x v:W} {u:Value} (hx:VR E w.heap x u) (h:oH tt sT dT x H=some (v,H')) :
 ∃y w' E',(convert sT dT u).run P w= .ok y w'/\eN E H w E' H' w'/\bO E' H' w'/\VR E' w'.heap v y:=by
 unfold oH at h;split at h
 ·grind
 ·rename_i j hj;obtain⟨sd,hsd,hsk⟩:=rz (cJ sT j hj);split at h
  ·rename_i i hi;have fU:=cJ dT i hi;split at h
   ·rename_i k hk;have hd:=oo fU hk;split at h
    ·rename_i kk n;simp only [ag,ak] at h;obtain⟨rfl,rfl⟩:=h;simp only [VR] at hx;subst hx;refine⟨.int k (k.wrap n),w,E,?_,eN.refl _ _ _,r,by simp only [VR,V.den,j6]⟩;simp [convert,run_underlying hsd,run_underlying hd,Conv.intToInt,V.den]
    ·rename_i kk e fX;simp only [ag,ak] at h;obtain⟨rfl,rfl⟩:=h;simp only [VR] at hx;subst hx;refine⟨.int k (k.wrap (e.den E.ρ)),w,E,?_,eN.refl _ _ _,r,by simp only [VR,V.den]⟩;simp [convert,run_underlying hsd,run_underlying hd,Conv.intToInt]
    grind
   ·rename_i hk;have hd:=fB fU hk;split at h
    ·rename_i hjk;split at h
     ·rename_i s;simp only [ag,ak] at h;obtain⟨rfl,rfl⟩:=h;have T7:=hx;simp only [VR] at hx;obtain⟨rfl,_⟩:=hx;refine⟨_,w,E,?_,eN.refl _ _ _,r,T7⟩;simp [convert,run_underlying (fB (cJ sT j hj) hjk),run_underlying hd]
     grind
    ·rename_i e hjk;have hs:=eY (cJ sT j hj) hjk;split at h
     ·grind
     ·rename_i ie kx;split at h
      ·rename_i hu8;have he:=oo (cJ e ie kx) hu8.1;split at h
       ·simp only [ag,ak] at h;obtain⟨rfl,rfl⟩:=h;simp only [VR] at hx;subst hx;refine⟨.string .empty,w,E,?_,eN.refl _ _ _,r,?_⟩
        ·rw [run_convert_bytes_string w sT dT e none 0 0 hs he hd];rfl
        ·simp only [VR];exact⟨rfl,ad⟩
       ·rename_i id o len c;split at h
        ·rename_i cs T8;rw [aO] at h;obtain⟨l,hl,he2⟩:=h;simp only [ak] at he2;obtain⟨rfl,rfl⟩:=he2;simp only [VR] at hx;obtain⟨hid,a,cap,rfl,gI,hc⟩:=hx;obtain⟨b,o',us,e1,e2,e3,e4,e5⟩:=vu r (p:=.ptr id o) (u:=.pointer (some ⟨(E.θ id).1,(E.θ id).2+o,none⟩)) (by simp only [VR]; exact⟨trivial,hid⟩) T8;obtain⟨e6,e7⟩:=Bz hl e3
         have hlen:len=(l.map UInt8.ofNat).length:=by
          grind
         have ha:a=⟨(E.θ id).1,(E.θ id).2+o,none⟩\/len=0:=by
          cases c with
          |exact c=>
           simp only [eF] at hc
           grind
          |rest es=>
           simp only [eF] at hc
           grind
         refine⟨.string (de l),w,E,?_,eN.refl _ _ _,r,by simp only [VR]; exact⟨trivial,e7⟩⟩;rw [hlen];refine run_convert_bytes_back w sT dT e a cap (l.map UInt8.ofNat) hs he hd fun k hk=>?_;rcases ha with ha|ha
         ·subst ha;rw [eU,nM];simp only [Value.pointer.injEq,ag,Addr.mk.injEq] at e1;obtain⟨e1a,e1b,_⟩:=e1;rw [e1a,e1b];refine e4 k _ ?_
          grind
         ·omega
        grind
       grind
      grind
    grind
   ·rename_i e hk;have hd:=eY fU hk;split at h
    ·grind
    ·rename_i ie kx;split at h
     ·rename_i hu8;have he:=oo (cJ e ie kx) hu8.1;split at h
      ·rename_i s;simp only [ag,ak] at h;obtain⟨rfl,rfl⟩:=h;simp only [VR] at hx;obtain⟨rfl,ff⟩:=hx;have hs:=fB (cJ sT j hj) hu8.2;have gW:(de s).size=s.length:=kg s;have NJ:=grownCap_ge w (de s).size 0 e
       have lq:(bytesRow (de s) (grownCap w (de s).size 0 e)).size=grownCap w (de s).size 0 e:=by have U:(de s).data.size=s.length:=gW;simp only [bytesRow,Array.size_append,Array.size_map,Array.size_replicate,U];omega
       have hv:cA E w.heap (s.map fun c=>W.int .u8 (.lit (Int.ofNat c))) ((s.map UInt8.ofNat).map (fun b=>Value.int .u8 (b.toNat:Int))):=by
        clear NJ lq gW
        induction s with
        |nil=>simp [cA]
        |cons b s ih=> have Y:=ff b ad;rw [aw,aw,aw,bV];refine⟨_,_,rfl,?_,ih fun c hc=>ff c (by simp [hc])⟩;simp [VR,V.den,al4,alV Y]
       obtain⟨s1,s2⟩:=iy r (bytesRow (de s) (grownCap w (de s).size 0 e)) (bytesRow (de s) (grownCap w (de s).size 0 e)).size ((bytesRow (de s) (grownCap w (de s).size 0 e)).size+1) e hv
        (by intro u hu; simp only [aT] at hu; obtain⟨b,_,rfl⟩:=hu; rfl)
        (by
         intro k u hu;have hk:=(aW.1 hu).1;simp only [alH] at hk;simp only [bytesRow];rw [anx (by have U:(de s).data.size=s.length:=gW; simp only [Array.size_map,U]; exact hk)];rw [<- hu]
         simp [de])
        (by intro o U Z; omega)
        (w':=w.drew.alloc (.cells (bytesRow (de s) (grownCap w (de s).size 0 e)) e ((bytesRow (de s) (grownCap w (de s).size 0 e)).size,(bytesRow (de s) (grownCap w (de s).size 0 e)).size+1))) rfl ⟨rfl,rfl,rfl⟩
       refine⟨_,_,_,run_bytes_of_string w sT dT e (de s) hs hd he,s1,s2,?_⟩;simp only [VR,gW];refine⟨En.gn _ _ _ _,⟨w.heap.size,0,none⟩,_,rfl,by rw [<- gW]; exact NJ,?_⟩;simp only [eF,En.ext_θ_new,En.ext_κ_new]
       grind
      grind
     grind
   grind
  grind
end
section
variable {P:Program} {E:En} {w:World}
def BS (d:TypeDesc):TK->Prop
 | .int _=> ∃k,d= .int k
 | .string=>d= .string
 | .bool=>d= .bool
 |_=>False
theorem xm {tt:TT} (cJ:ew P tt) {t:Nat} {kk:TK} (h:vD tt t=some kk): ∃d,P.underlying t=some d/\BS d kk:=by
 unfold vD at h;split at h
 ·rename_i i hi;split at h<;>simp only [ag,reduceCtorEq] at h<;>subst h
  ·rename_i k hk; exact⟨_,oo (cJ t i hi) hk,k,rfl⟩
  ·rename_i hk; exact⟨_,fB (cJ t i hi) hk,rfl⟩
  ·rename_i hk; exact⟨_,JM (cJ t i hi) hk,rfl⟩
 grind
theorem V0 {x y:List Nat} (hx: ∀b∈x,b<256) (hy: ∀b∈y,b<256):(de x == de y)=gC x y:=by
 have e:(de x == de y)=((de x).data == (de y).data):=rfl;rw [e,alQ,beq_iff_eq,lM];constructor
 ·intro h;have Z:=congrArg (fun b=>b.toList) h;simp only [de] at Z
  grind [map_inj]
 grind
theorem Ky {h:Array Obj} {pc:List (SB×Bool)} (hp:bW E.ρ pc) {kk:TK} {d:TypeDesc} (hd:BS d kk) {a b:W} {u u':Value} (ha:VR E h a u) (Y:VR E h b u') {c:Bool} (hc:P0 pc kk a b=some c) :
 Instr.sameNow d u u'=some c/\(c=true->∀n,Instr.sameBits (n+1) u' u=true):=by
 unfold P0 at hc;split at hc
 ·obtain⟨k,rfl⟩:=hd;split at hc
  ·simp only [VR] at ha Y;subst ha Y;split at hc
   ·rename_i hk;subst hk;have hc:=gp hp hc;rw [gv] at hc;subst hc;refine⟨by simp [Instr.sameNow],fun hh n=>?_⟩;simp at hh;simp [Instr.sameBits,hh]
   grind
  grind
 ·simp only [BS] at hd;subst hd;split at hc
  ·simp only [VR] at ha Y;obtain⟨rfl,ha⟩:=ha;obtain⟨rfl,Y⟩:=Y;simp at hc;subst hc;have he:=V0 ha Y;refine⟨by simp only [Instr.sameNow,he],fun hh n=>?_⟩;simp only [Instr.sameBits]
   grind [lM]
  ·split at hc
   ·rename_i c0 h0;obtain⟨x,y,rfl,rfl,hd⟩:=CI ha Y h0;have hc:=gp hp hc;rw [hd] at hc
    have hbe: ∀p q:ByteArray,(p == q)=decide (p=q):=by
     intro p q;rw [alQ,decide_eq_true_eq];have e:(p == q)=(p.data == q.data):=rfl;rw [e,beq_iff_eq];constructor
     ·intro h; cases p; cases q; simp only at h; rw [h]
     grind
    refine⟨by simp only [Instr.sameNow,hbe,hc],fun hh n=>?_⟩;simp only [Instr.sameBits,hbe]
    grind
   grind
 ·simp only [BS] at hd;subst hd;split at hc
  ·simp only [VR,SB.den] at ha Y;subst ha Y;simp at hc;subst hc;refine⟨by simp [Instr.sameNow],fun hh n=>?_⟩;simp at hh;simp [Instr.sameBits,hh]
  grind
 grind
theorem eB {t:Nat} {kk:TK} {d:TypeDesc} (hu:P.underlying t=some d) (hd:BS d kk) (b:Bool) (v:Value):(Instr.checkKey b 10000 t v).run P w= .ok () w:=by
 have h0:(10000:Nat)=9999+1:=rfl;rw [h0];generalize (9999:Nat)=n;cases kk<;>simp only [BS] at hd
 ·subst hd; simp [Instr.checkKey,run_underlying hu]
 ·obtain⟨k,rfl⟩:=hd; simp [Instr.checkKey,run_underlying hu]
 ·subst hd; simp [Instr.checkKey,run_underlying hu]
theorem pe {h:Array Obj} {pc:List (SB×Bool)} (hp:bW E.ρ pc) {kk:TK} {d:TypeDesc} (hd:BS d kk) {k:W} {u:Value} (hk:VR E h k u): ∀{es:List (W×W×Nat)} {bL:List MapEntry} {i:Nat} {res:Option (Nat×W)},
 eC E h es bL->Bn pc kk k es i=some res->
 (res=none/\Instr.findNow d u bL i=some none)\/
 (∃j v e,res=some (i+j,v)/\bL[j]?=some e/\VR E h v e.val/\Instr.findNow d u bL i=some (some (i+j,e.val))/\∀n,Instr.sameBits (n+1) e.key u=true)
 |[],bL,i,res,he,hf=>by simp only [eC] at he;subst he;simp [Bn] at hf;exact .inl ⟨hf.symm,by simp [Instr.findNow]⟩
 |(k',v,b)::es,bL,i,res,he,hf=>by
  simp only [eC] at he;obtain⟨e,r,rfl,U,Z,h3,h4⟩:=he;simp only [Bn] at hf;split at hf
  ·rename_i hc;simp at hf;subst hf;obtain⟨g1,g2⟩:=Ky hp hd hk U hc;exact .inr ⟨0,v,e,rfl,rfl,Z,by simp [Instr.findNow,g1],g2 rfl⟩
  ·rename_i hc;obtain⟨g1,g2⟩:=Ky hp hd hk U hc;rcases pe hp hd hk h4 hf with ⟨q1,q2⟩|⟨j,v',e',q1,q2,q3,q4,q5⟩
   ·exact .inl ⟨q1,by simp [Instr.findNow,g1,q2]⟩
   ·refine .inr ⟨j+1,v',e',?_,by simpa using q2,q3,?_,q5⟩
    ·grind
    ·simp only [Instr.findNow,g1,q4]; congr 3; omega
  grind
theorem fm {t:Nat} {d:TypeDesc} (hu:P.underlying t=some d) {u:Value} {bL:List MapEntry} {r:Option (Nat×Value)} (h:Instr.findNow d u bL 0=some r):(Instr.findKey t u bL).run P w= .ok r w:=by simp [Instr.findKey,run_underlying hu,h]
theorem eA {r:Nat} {o:Obj} (h:w.heap[r]?=some o) (hn: ∀c e f,o≠.cells c e f):(getObj r).run P w= .ok o w:=by
 unfold getObj;cases o<;>first |exact absurd rfl (hn _ _ _)|simp only [Sem.run,h]
theorem gj {r:Nat} {o o':Obj} (h:w.heap[r]?=some o) (hn: ∀c e f,o≠.cells c e f):(setObj r o').run P w= .ok () { w with heap:=w.heap.setIfInBounds r o' }:=by
 unfold setObj;cases o<;>first |exact absurd rfl (hn _ _ _)|simp only [Sem.run,h]
theorem fZ [bI] {H:Hp} (r:bO E H w) {id:Nat} {o:dG} (hl:H.get id=some o) (ao:dG) (o':Obj)
 (ho: ∀h',h'[(E.θ id).1]?=some o'->fh E w.heap E h'->OR E h' id ao) :
 eN E H w E (H.put id ao) { w with heap:=w.heap.setIfInBounds (E.θ id).1 o' }/\bO E (H.put id ao) { w with heap:=w.heap.setIfInBounds (E.θ id).1 o' }:=by
 have ff:=fF r hl
 have kX: ∀b,b≠(E.θ id).1->({ w with heap:=w.heap.setIfInBounds (E.θ id).1 o' }:World).heap[b]?=w.heap[b]?:=fun b Y=>by
  grind
 refine C2 r hl ao ad kX ⟨rfl,rfl,rfl⟩ (ho _ ?_ (jV r hl kX))
 grind
theorem RQ.xS {k v:W}: ∀(es:List (W×W×Nat)) (i:Nat),(mh k v es i).map (·.2.2)=es.map (·.2.2)
 |[],_=>rfl
 |_::_,0=>rfl
 |_::es,i+1=>by simp only [mh,aw,RQ.xS es i]
theorem RQ.GZ: ∀(es:List (W×W×Nat)) (i:Nat),(jn es i).map (·.2.2)=(es.map (·.2.2)).eraseIdx i
 |[],_=>by simp [jn]
 |_::_,0=>by simp [jn]
 |_::es,i+1=>by simp only [jn,aw,amO,RQ.GZ es i]
theorem zc {α β:Type} (f:α->β): ∀(l:List α) (i:Nat),(l.eraseIdx i).map f=(l.map f).eraseIdx i
 |[],_=>by simp
 |_::_,0=>by simp
 |_::l,i+1=>by simp [zc f l i]
theorem RQ.erase {c c':Nat} {es:List (W×W×Nat)} {l:List MapEntry} {i:Nat} (h:RQ c es l c'):RQ c (jn es i) (l.eraseIdx i) c':=by
 cases c with
 |zero=>trivial
 |succ c=>exact⟨h.1,by rw [RQ.GZ,zc,h.2]⟩
theorem RQ.set {k v:W} {f:MapEntry->MapEntry} (hf: ∀e,(f e).born=e.born) {c c':Nat} {es:List (W×W×Nat)} {bL:Array MapEntry} {i:Nat} (h:RQ c es bL.toList c'):RQ c (mh k v es i) (bL.modify i f).toList c':=by
 cases c with
 |zero=>trivial
 |succ c=>
  refine⟨h.1,?_⟩;rw [RQ.xS,<- h.2];apply amA;intro j;simp only [bn,bu,am3];split
  ·cases bL[j]?<;>simp [hf]
  ·rfl
theorem eC.length {h:Array Obj}: ∀{es:List (W×W×Nat)} {bL:List MapEntry},eC E h es bL->bL.length=es.length
 |[],bL,he=>by simp only [eC] at he; simp [he]
 |(k,v,b)::es,bL,he=>by simp only [eC] at he;obtain⟨e,r,rfl,_,_,_,h4⟩:=he;simp [h4.length]
theorem eC.set {h:Array Obj} {k v:W} {uk uv:Value} (hk:VR E h k uk) (hv:VR E h v uv): ∀{es:List (W×W×Nat)} {bL:List MapEntry} {i:Nat} {e:MapEntry},eC E h es bL->bL[i]?=some e->
 eC E h (mh k v es i) (bL.set i { e with key:=uk,val:=uv })
 |[],bL,i,e,he,hi=>by simp only [eC] at he; subst he; simp at hi
 |(k',v',b)::es,bL,0,e,he,hi=>by
  simp only [eC] at he;obtain⟨e0,r,rfl,U,Z,h3,h4⟩:=he;simp at hi;subst hi;simp only [mh,amn,eC]
  grind
 |(k',v',b)::es,bL,i+1,e,he,hi=>by simp only [eC] at he;obtain⟨e0,r,rfl,U,Z,h3,h4⟩:=he;simp only [mh,amo,eC];exact⟨e0,_,rfl,U,Z,h3,eC.set hk hv h4 (by simpa using hi)⟩
theorem eC.push {h:Array Obj} {k v:W} {uk uv:Value} {c c':Nat} (hk:VR E h k uk) (hv:VR E h v uv): ∀{es:List (W×W×Nat)} {bL:List MapEntry},eC E h es bL->
 eC E h (es++ [(k,v,c)]) (bL++ [{ key:=uk,val:=uv,born:=c' }])
 |[],bL,he=>by
  simp only [eC] at he;subst he;simp only [aC,eC]
  grind
 |(k',v',b)::es,bL,he=>by simp only [eC] at he;obtain⟨e0,r,rfl,U,Z,h3,h4⟩:=he;simp only [aP,eC];exact⟨e0,_,rfl,U,Z,h3,eC.push hk hv h4⟩
theorem eC.erase {h:Array Obj}: ∀{es:List (W×W×Nat)} {bL:List MapEntry} {i:Nat},eC E h es bL->eC E h (jn es i) (bL.eraseIdx i)
 |[],bL,i,he=>by simp only [eC] at he; subst he; simp [jn,eC]
 |(k',v',b)::es,bL,0,he=>by
  simp only [eC] at he;obtain⟨e0,r,rfl,U,Z,h3,h4⟩:=he
  grind [jn]
 |(k',v',b)::es,bL,i+1,he=>by simp only [eC] at he;obtain⟨e0,r,rfl,U,Z,h3,h4⟩:=he;simp only [jn,amO,eC];exact⟨e0,_,rfl,U,Z,h3,eC.erase h4⟩
theorem zA {t:Nat} {i:TI} (fU:l7 P t i) {z:W} (h:zeroOf i=some z): ∃u,(zeroValue t).run P w= .ok u w/\VR E w.heap z u:=by
 obtain⟨inf,d,zv,U,Z,h3,h4,h5,h6,h7,h8⟩:=fU.all;have hz:=eP (E:=E) (h:=w.heap) h4;have hr:(zeroValue t).run P w= .ok zv w:=by simp [zeroValue,typeInfo,U,h3]
 refine⟨zv,hr,?_⟩;unfold zeroOf at h;split at h
 ·rename_i ha;simp at h;subst h;rw [ha] at h8;cases zv<;>simp only [Io,reduceCtorEq] at h8;rename_i cs;simp only [VR];exact⟨cs.toList,ad,hz.1⟩
 ·rename_i ha;split at h
  ·rename_i v hv;simp at h;subst h;rw [hv] at hz;obtain⟨u,vs,e1,e2,e3⟩:=bV.1 hz.1;rw [gP] at e3;subst e3;rw [ha] at h8;have:zv=u:=by cases zv<;>simp_all [Io,Value.cells]
   grind
  grind
end
theorem zG (ρ:Nat->Int) (x:V):(xU x).den ρ=(dec (x.den ρ)).n:=by
 unfold xU;split
 ·split
  ·simp only [V.den,fc.den,bB,D.n]
  ·simp only [V.den,fc.den]
 ·split
  ·simp only [V.den,bB,D.n]
  ·simp only [V.den,fc.den]
 ·simp only [V.den,fc.den]
theorem ld (ρ:Nat->Int) (x:V):(mS x).den ρ=enc (.i (x.den ρ)):=by unfold mS;split<;>simp only [V.den,fc.den]
theorem yF (a b:D):(D.p a b).hd 0=a:=by simp [D.hd,D.l]
theorem yG (a b:D) (j:Nat):(D.p a b).hd (j+1)=b.hd j:=by simp [D.hd,D.l]
theorem oN (ρ:Nat->Int): ∀(j:Nat) (x:V),dec ((iu j x).den ρ)=(dec (x.den ρ)).hd j
 |j,.op o a b=>by
  unfold iu
  cases o with
  |cons=>
   cases j with
   |zero=>simp only [V.den,fc.den,bB,yF]
   |succ j=>simp only [oN ρ j b,V.den,fc.den,bB,yG]
  |_=>simp only [V.den,fc.den,bB]
 |j,.lit n=>by simp only [iu,V.den,fc.den,bB]
 |j,.du n=>by simp only [iu,V.den,fc.den,bB]
 |j,.add _ _=>by simp only [iu,V.den,fc.den,bB]
 |j,.sub _ _=>by simp only [iu,V.den,fc.den,bB]
 |j,.mul _ _=>by simp only [iu,V.den,fc.den,bB]
 |j,.quo _ _=>by simp only [iu,V.den,fc.den,bB]
 |j,.rem _ _=>by simp only [iu,V.den,fc.den,bB]
 |j,.wrap _ _=>by simp only [iu,V.den,fc.den,bB]
 |j,.wi _ _=>by simp only [iu,V.den,fc.den,bB]
 |j,.eo _=>by simp only [iu,V.den,fc.den,bB]
 |j,.ap _ _=>by simp only [iu,V.den,fc.den,bB]
theorem cC (ρ:Nat->Int): ∀x:V,(dN x).den ρ=((dec (x.den ρ)).l.length:Int)
 | .op o a b=>by
   unfold dN
   cases o with
   |set=>
    simp only [cC ρ a,V.den,fc.den];split
    ·simp only [bB,bM,gr]
    ·rfl
   |_=>simp only [V.den,fc.den]
 | .lit n=>by simp only [dN,V.den,fc.den]
 | .du n=>by simp only [dN,V.den,fc.den]
 | .add _ _=>by simp only [dN,V.den,fc.den]
 | .sub _ _=>by simp only [dN,V.den,fc.den]
 | .mul _ _=>by simp only [dN,V.den,fc.den]
 | .quo _ _=>by simp only [dN,V.den,fc.den]
 | .rem _ _=>by simp only [dN,V.den,fc.den]
 | .wrap _ _=>by simp only [dN,V.den,fc.den]
 | .wi _ _=>by simp only [dN,V.den,fc.den]
 | .eo d=>by simp only [dN,V.den,bB]; rfl
 | .ap _ _=>by simp only [dN,V.den,fc.den]
theorem Rd.slice {ro:Nat->Prop} {h:Array Obj} {t:Nat} {d:D} {v:Value} (r:Rd ro h (.sl t) d v): ∃x cap,v= .slice x d.l.length cap/\d.l.length<=cap:=by
 generalize hc:CK.sl t=c at r
 cases r with
 |int k n=>simp at hc
 |bool b=>simp at hc
 |str s=>simp at hc
 |nil t=>exact⟨none,0,rfl,by simp [D.l]⟩
 |vz t a cap=>exact⟨some a,cap,rfl,by simp [D.l]⟩
 |one t c b o cap ds f hr fQ Y U Z=>exact⟨_,cap,by rw [bM],by rw [bM]; exact fQ⟩
 |many t cs b o cap rows f hr fQ Y hl U Z=>exact⟨some ⟨b,o,none⟩,cap,ad,by simpa using fQ⟩
theorem Rd.string {ro:Nat->Prop} {h:Array Obj} {d:D} {v:Value} (r:Rd ro h .str d v): ∃s,v= .string s/\d=s6 s:=by
 cases r with
 |str s=>exact⟨s,rfl,rfl⟩
def iR (ro:Nat->Prop) (h:Array Obj) (c:CK) (d:D) (u:Value):Prop:=match c with
 | .int k=>u= .int k d.n
 | .bool=>u= .bool (!(d.n == 0))
 |c=>Rd ro h c d u
theorem nh {E:En} {h:Array Obj} {c:CK} {x:V} {u:Value}:VR E h (u6 c x) u↔iR E.ro h c (dec (x.den E.ρ)) u:=by cases c<;>simp only [u6,iR,VR,SB.den,zG,V.den]
theorem Rd.cell {ro:Nat->Prop} {h:Array Obj} {c:CK} {d:D} {u:Value} (r:Rd ro h c d u):iR ro h c d u:=by
 cases r with
 |int k n=>simp [iR,D.n]
 |bool b=>cases b<;>simp [iR,D.n]
 |str s=>exact .str s
 |nil t=>exact .nil t
 |vz t a cap=>exact .vz t a cap
 |one t c b o cap ds f hr hc Y U Z=>exact .one t c b o cap ds f hr hc Y U Z
 |many t cs b o cap rows f hr hc Y hl U Z=>exact .many t cs b o cap rows f hr hc Y hl U Z
theorem iR.one {ro:Nat->Prop} {h:Array Obj} {c:CK} {d:D} {u:Value} (r:iR ro h c d u):u.oneCell'=true:=by
 cases c with
 |int k=>simp only [iR] at r; subst r; rfl
 |bool=>simp only [iR] at r; subst r; rfl
 |str=>exact Rd.J! r
 |sl t=>exact Rd.J! r
def dO (ro:Nat->Prop) (h:Array Obj):List CK->Nat->D->List Value->Prop
 |[],_,_,us=>us= []
 |c::cs,j,d,us=> ∃u vs,us=u::vs/\iR ro h c (d.hd j) u/\dO ro h cs (j+1) d vs
def wA (ro:Nat->Prop) (h:Array Obj) (r:Row) (d:D) (us:List Value):Prop:=match r with
 | .one c=> ∃u,us= [u]/\iR ro h c d u
 | .many cs=>dO ro h cs 0 d us
theorem nu {E:En} {h:Array Obj} {x:V}: ∀{cs:List CK} {j:Nat} {us:List Value},cA E h (hD cs j x) us↔dO E.ro h cs j (dec (x.den E.ρ)) us
 |[],j,us=>by simp only [hD,cA,dO]
 |c::cs,j,us=>by
  simp only [hD,bV,dO];constructor
  ·rintro⟨u,vs,rfl,U,Z⟩;exact⟨u,vs,rfl,by rw [nh,oN] at U; exact U,nu.1 Z⟩
  ·rintro⟨u,vs,rfl,U,Z⟩;exact⟨u,vs,rfl,by rw [nh,oN]; exact U,nu.2 Z⟩
theorem fT {E:En} {h:Array Obj} {r:Row} {x:V} {us:List Value}:cA E h (gy r x) us↔wA E.ro h r (dec (x.den E.ρ)) us:=by
 cases r with
 |one c=>
  simp only [gy,bV,gP,wA];constructor
  ·rintro⟨u,vs,rfl,U,rfl⟩
   grind [nh]
  grind [nh]
 |many cs=>simp only [gy,wA,nu]
theorem rL (x:V): ∀(cs:List CK) (j:Nat),(hD cs j x).length=cs.length
 |[],_=>rfl
 |_::cs,j=>by simp [hD,rL x cs]
theorem gG (r:Row) (x:V):(gy r x).length=r.es:=by cases r<;>simp [gy,Row.es,rL]
theorem dO.rm {ro:Nat->Prop} {h:Array Obj} {d:D}: ∀{cs:List CK} {j:Nat} {us:List Value},dO ro h cs j d us->∀u∈us,u.oneCell'=true
 |[],_,_,hh,u,hu=>by simp only [dO] at hh; subst hh; simp at hu
 |c::cs,j,us,hh,u,hu=>by
  simp only [dO] at hh;obtain⟨x,vs,rfl,U,Z⟩:=hh;rcases ax.1 hu with rfl|hu
  ·exact U.one
  ·exact Z.rm u hu
theorem wA.rm {ro:Nat->Prop} {h:Array Obj} {r:Row} {d:D} {us:List Value} (hh:wA ro h r d us): ∀u∈us,u.oneCell'=true:=by
 cases r with
 |one c=> obtain⟨u,rfl,U⟩:=hh;intro x hx;simp at hx;subst hx;exact U.one
 |many cs=>exact dO.rm hh
theorem cA.split {E:En} {h:Array Obj}: ∀{xs ys:List W} {us:List Value},cA E h (xs++ys) us->∃a b,us=a++b/\cA E h xs a/\cA E h ys b
 |[],ys,us,hh=> ⟨[],us,rfl,by simp only [cA],hh⟩
 |x::xs,ys,us,hh=>by rw [aP,bV] at hh;obtain⟨u,vs,rfl,U,Z⟩:=hh;obtain⟨a,b,rfl,h3,h4⟩:=Z.split;exact⟨u::a,b,rfl,by rw [bV]; exact⟨u,a,rfl,U,h3⟩,h4⟩
theorem kq {ρ:Nat->Int} {i:Nat} {cs:List W}: ∀{ov:List (V×List W)},dW ρ i ov=some cs->∃p∈ov,p.2=cs/\p.1.den ρ=(i:Int)
 |[],h=>by simp [dW] at h
 |(j,c)::l,h=>by
  simp only [dW] at h;split at h
  ·rename_i hj;simp only [ag] at h;exact⟨(j,c),ad,h,hj⟩
  ·obtain⟨p,U,Z⟩:=kq h
   grind
theorem cD {ρ:Nat->Int} {r:Row} {ov:List (V×List W)} (ho:sg r ov): ∀(ds:List D) (i:Nat),(bG ρ r ov ds i).length=ds.length*r.es
 |[],i=>by simp [bG]
 |d::ds,i=>by
  simp only [bG,a8,cD ho ds (i+1),aK,alL,aml];split
  ·rename_i cs h;obtain⟨p,U,Z,_⟩:=kq h;rw [<- Z,ho p U]; omega
  grind [gG]
theorem lG {ρ:Nat->Int} {r:Row} {ov:List (V×List W)}: ∀(xs ys:List D) (i:Nat),bG ρ r ov (xs++ys) i=bG ρ r ov xs i++bG ρ r ov ys (i+xs.length)
 |[],ys,i=>by simp [bG]
 |d::ds,ys,i=>by
  simp only [aP,bG,lG ds ys (i+1),alY,aK]
  grind
section
variable {P:Program} {E:En} {w:World}
theorem yn [bI] {H:Hp} (r:bO E H w) {id c:Nat} {es:List (W×W×Nat)} (hl:H.get id=some (.map es c)): ∃bL c',w.heap[(E.θ id).1]?=some (.map bL c')/\eC E w.heap es bL.toList/\RQ c es bL.toList c':=
 (r.live id _ hl).2.1
theorem Li [bI] {tt:TT} (cJ:ew P tt) {pc:List (SB×Bool)} (hp:bW E.ρ pc) {H:Hp} (r:bO E H w) {t:Nat} {m k v:W} {um uk:Value} {ok:Bool} (hm:VR E w.heap m um) (hk:VR E w.heap k uk) (h:D2 tt pc t m k ok H=some v) :
 ∃x,(Instr.lookup t um uk ok).run P w= .ok x w/\VR E w.heap v x:=by
 unfold D2 at h;split at h
 ·rename_i ti fU;split at h
  ·rename_i kt et yC;have hu:=rX (cJ t ti fU) yC;split at h
   ·grind
   ·rename_i kk sD;obtain⟨d,xr,jM⟩:=xm cJ sD;split at h
    ·grind
    ·rename_i ie kx
     have key: ∀(es:List (W×W×Nat)) (bL:Array MapEntry),eC E w.heap es bL.toList->
      (match Bn pc kk k es 0 with
       |none=>none
       |some (some (_,v))=>some (if ok then .tuple [v,.bool (.lit true)] else v)
       |some none=>match zeroOf ie with
        |none=>none
        |some z=>some (if ok then .tuple [z,.bool (.lit false)] else z))=some v->
      ∃(o:Option (Nat×Value)) (x:Value),(Instr.findKey kt uk bL.toList).run P w= .ok o w/\
       (match o with
        |some (_,y)=>x=(if ok then .tuple #[y,.bool true] else y)
        |none=> ∃z,(zeroValue et).run P w= .ok z w/\x=(if ok then .tuple #[z,.bool false] else z))/\VR E w.heap v x:=by
      intro es bL he hh;split at hh
      ·simp at hh
      ·rename_i j v' hf;simp at hh;subst hh;rcases pe hp jM hk he hf with ⟨q1,_⟩|⟨jj,v2,e,q1,q2,q3,q4,q5⟩
       ·simp at q1
       ·simp only [ag,ak] at q1;obtain⟨rfl,rfl⟩:=q1;refine⟨_,_,fm xr q4,rfl,?_⟩;cases ok
        ·exact q3
        ·simp only [if_true,VR,cA];exact⟨[e.val,.bool true],rfl,_,_,rfl,q3,_,_,rfl,by simp [SB.den],rfl⟩
      ·rename_i hf;split at hh
       ·simp at hh
       ·rename_i z hz;simp at hh;subst hh;obtain⟨u,e1,e2⟩:=zA (P:=P) (w:=w) (E:=E) (cJ et ie kx) hz;rcases pe hp jM hk he hf with ⟨_,q2⟩|⟨jj,v2,e,q1,_⟩
        ·refine⟨none,_,fm xr q2,⟨u,e1,rfl⟩,?_⟩;cases ok
         ·exact e2
         ·simp only [if_true,VR,cA];exact⟨[u,.bool false],rfl,_,_,rfl,e2,_,_,rfl,by simp [SB.den],rfl⟩
        ·simp at q1
     split at h
     ·grind
     ·rename_i es ky;unfold H9 at ky;split at ky
      ·simp at ky;subst ky;simp only [VR] at hm;subst hm;obtain⟨o,x,e1,e2,e3⟩:=key [] #[] (by simp [eC]) h;refine⟨x,?_,e3⟩
       cases o with
       |none=> obtain⟨z,e4,rfl⟩:=e2;cases ok<;>simp [Instr.lookup,run_underlying hu,eB xr jM,e1,e4]
       |some p=> obtain⟨j,y⟩:=p;simp only at e2;subst e2;cases ok<;>simp [Instr.lookup,run_underlying hu,eB xr jM,e1]
      ·rename_i id;split at ky
       ·rename_i es' c hl;simp at ky;subst ky;simp only [VR] at hm;obtain⟨rfl,hid⟩:=hm;obtain⟨bL,c',g1,g2,gS⟩:=yn r hl;have hg:=eA (P:=P) g1 ad;obtain⟨o,x,e1,e2,e3⟩:=key es' bL g2 h;refine⟨x,?_,e3⟩
        cases o with
        |none=> obtain⟨z,e4,rfl⟩:=e2;cases ok<;>simp [Instr.lookup,run_underlying hu,hg,eB xr jM,e1,e4]
        |some p=> obtain⟨j,y⟩:=p;simp only at e2;subst e2;cases ok<;>simp [Instr.lookup,run_underlying hu,hg,eB xr jM,e1]
       grind
      grind
  grind
 grind
theorem xg {α:Type} (bL:Array α) (i:Nat) (e:α) (f:α->α) (h:bL.toList[i]?=some e):(bL.modify i f).toList=bL.toList.set i (f e):=by
 apply amA;intro j
 grind
theorem uT [bI] {tt:TT} (cJ:ew P tt) {pc:List (SB×Bool)} (hp:bW E.ρ pc) {H H':Hp} (r:bO E H w) {t:Nat} {m k v:W} {um uk uv:Value} (hm:VR E w.heap m um) (hk:VR E w.heap k uk) (hv:VR E w.heap v uv) (h:qc tt pc t m k v H=some H') :
 ∃w',(Instr.mapUpdate t um uk uv).run P w= .ok () w'/\eN E H w E H' w'/\bO E H' w':=by
 unfold qc at h;split at h
 ·rename_i ti fU;split at h
  ·rename_i kt et yC;have hu:=rX (cJ t ti fU) yC;split at h
   ·grind
   ·rename_i kk sD;obtain⟨d,xr,jM⟩:=xm cJ sD;split at h
    ·rename_i id;split at h
     ·rename_i es c hl;simp only [VR] at hm;obtain⟨rfl,hid⟩:=hm;obtain⟨bL,c',g1,g2,gS⟩:=yn r hl;have hg:=eA (P:=P) g1 ad;split at h
      ·grind
      ·rename_i i v' hf;simp at h;subst h;rcases pe hp jM hk g2 hf with ⟨q1,_⟩|⟨jj,v2,e,q1,q2,q3,q4,q5⟩
       ·grind
       ·simp only [ag,ak,ay] at q1;obtain⟨rfl,rfl⟩:=q1;simp only [ay] at q4
        have hkt:(Instr.keyThatStays (((bL[i]?).map (·.key)).getD uk) uk).run P w= .ok uk w:=by rw [bu] at q2;simp only [q2,alE,az,Instr.keyThatStays];simp_all
        refine⟨_,?_,fZ r hl (.map (mh k v es i) c) (.map (bL.modify i fun e=>{ e with key:=uk,val:=uv }) c') ?_⟩
        ·simp [Instr.mapUpdate,run_underlying hu,hg,eB xr jM,fm xr q4,hkt,gj (P:=P) g1]
        ·intro h' hh kp;simp only [OR];refine⟨_,_,hh,?_,gS.set (f:=fun e=>{ e with key:=uk,val:=uv }) fun _=>rfl⟩
         grind [xg,eC.set,VR.bX,eC.bX]
      ·rename_i hf;simp at h;subst h;rcases pe hp jM hk g2 hf with ⟨_,q2⟩|⟨jj,v2,e,q1,_⟩
       ·cases c with
        |zero=>
         refine⟨_,?_,fZ r hl (.map (es++ [(k,v,0)]) 0) (.map (bL.push { key:=uk,val:=uv,born:=c' }) (c'+1)) ?_⟩
         ·simp [Instr.mapUpdate,run_underlying hu,hg,eB xr jM,fm xr q2,gj (P:=P) g1]
         ·intro h' hh kp;simp only [OR];refine⟨_,_,hh,?_,trivial⟩
          grind [eC.push,VR.bX,eC.bX]
        |succ c=>
         refine⟨_,?_,fZ r hl (.map (es++ [(k,v,c)]) (c+2)) (.map (bL.push { key:=uk,val:=uv,born:=c' }) (c'+1)) ?_⟩
         ·simp [Instr.mapUpdate,run_underlying hu,hg,eB xr jM,fm xr q2,gj (P:=P) g1]
         ·intro h' hh kp;simp only [OR];refine⟨_,_,hh,?_,by rw [gS.1],?_⟩
          ·grind [eC.push,VR.bX,eC.bX]
          ·simp [gS.2,gS.1]
       grind
     grind
    grind
  grind
 grind
theorem Lj [bI] {tt:TT} (cJ:ew P tt) {pc:List (SB×Bool)} (hp:bW E.ρ pc) {H H':Hp} (r:bO E H w) {t:Nat} {ts:Nat} {m k:W} {um uk:Value} (hm:VR E w.heap m um) (hk:VR E w.heap k uk) (h:D6 tt pc t m k H=some H') (ty:Nat) :
 ∃w',(Builtin.delete_ #[t,ts] ty #[um,uk]).run P w= .ok (.tuple #[]) w'/\eN E H w E H' w'/\bO E H' w':=by
 unfold D6 at h;split at h
 ·rename_i ti fU;split at h
  ·rename_i kt et yC;have hu:=rX (cJ t ti fU) yC;split at h
   ·grind
   ·rename_i kk sD;obtain⟨d,xr,jM⟩:=xm cJ sD;split at h
    ·simp at h;subst h;simp only [VR] at hm;subst hm;exact⟨w,by simp [Builtin.delete_,run_underlying hu,eB xr jM],eN.refl _ _ _,r⟩
    ·rename_i id;split at h
     ·rename_i es c hl;simp only [VR] at hm;obtain⟨rfl,hid⟩:=hm;obtain⟨bL,c',g1,g2,gS⟩:=yn r hl;have hg:=eA (P:=P) g1 ad;split at h
      ·grind
      ·rename_i i v' hf;simp at h;subst h;rcases pe hp jM hk g2 hf with ⟨q1,_⟩|⟨jj,v2,e,q1,q2,q3,q4,q5⟩
       ·grind
       ·simp only [ag,ak,ay] at q1;obtain⟨rfl,rfl⟩:=q1;simp only [ay] at q4;refine⟨_,?_,fZ r hl (.map (jn es i) c) (.map (bL.eraseIdxIfInBounds i) c') ?_⟩
        ·simp [Builtin.delete_,run_underlying hu,hg,eB xr jM,fm xr q4,gj (P:=P) g1]
        ·intro h' hh kp;simp only [OR];refine⟨_,_,hh,?_⟩;have gS2:=gS.erase (i:=i);have ei:i<bL.size:=by have:=(aW.1 q2).1; simpa using this
         have:(bL.eraseIdxIfInBounds i).toList=bL.toList.eraseIdx i:=by simp_all
         rw [this];exact⟨eC.erase (eC.bX kp _ _ g2),gS2⟩
      ·rename_i hf;simp at h;subst h;rcases pe hp jM hk g2 hf with ⟨_,q2⟩|⟨jj,v2,e,q1,_⟩
       ·refine⟨_,?_,fZ r hl (.map es c) (.map bL c') ?_⟩
        ·simp [Builtin.delete_,run_underlying hu,hg,eB xr jM,fm xr q2,gj (P:=P) g1]
        ·intro h' hh kp;simp only [OR];exact⟨_,_,hh,eC.bX kp _ _ g2,gS⟩
       grind
     grind
    grind
  grind
 grind
theorem XY [bI] {tt:TT} (cJ:ew P tt) {H:Hp} (r:bO E H w) {t ty:Nat} {x v:W} {u:Value} (hx:VR E w.heap x u) (h:XZ tt t x H=some v) :
 ∃y,(Builtin.len_ #[t] ty #[u]).run P w= .ok y w/\VR E w.heap v y:=by
 unfold XZ at h;simp only at h;split at h
 ·rename_i ti fU;have uw:=cJ t ti fU;split at h
  ·rename_i hk;split at h
   ·rename_i s;simp at h;subst h;simp only [VR] at hx;obtain⟨rfl,_⟩:=hx;exact⟨_,by simp [Builtin.len_,run_underlying (fB uw hk)]; rfl,by simp [VR,V.den,goInt,kg]⟩
   ·simp at h; subst h; simp only [VR] at hx;obtain⟨s,rfl,hs⟩:=hx.string;exact⟨_,by simp [Builtin.len_,run_underlying (fB uw hk)]; rfl,by simp only [VR,cC,hs,Zs]; rfl⟩
   grind
  ·rename_i e hk;have hu:=eY uw hk;split at h
   ·simp at h; subst h; simp only [VR] at hx; subst hx;exact⟨_,by simp [Builtin.len_,run_underlying hu]; rfl,by simp [VR,V.den,goInt]⟩
   ·simp at h; subst h; simp only [VR] at hx; obtain⟨x,rfl⟩:=hx;exact⟨_,by simp [Builtin.len_,run_underlying hu]; rfl,by simp [VR,V.den,goInt]⟩
   ·simp at h; subst h; simp only [VR] at hx; obtain⟨⟨x,rfl⟩,_⟩:=hx;exact⟨_,by simp [Builtin.len_,run_underlying hu]; rfl,by simp [VR,V.den,goInt]⟩
   ·simp at h; subst h; simp only [VR] at hx; obtain⟨_,a,cap,rfl,_⟩:=hx;exact⟨_,by simp [Builtin.len_,run_underlying hu]; rfl,by simp [VR,V.den,goInt]⟩
   ·simp at h; subst h; simp only [VR] at hx; obtain⟨b,o,cap,us,rfl,_⟩:=hx;exact⟨_,by simp [Builtin.len_,run_underlying hu]; rfl,by simp [VR,V.den,goInt]⟩
   ·simp at h; subst h; simp only [VR] at hx; obtain⟨x,cap,rfl,_⟩:=hx.slice;exact⟨_,by simp [Builtin.len_,run_underlying hu]; rfl,by simp [VR,cC,goInt]⟩
   ·simp at h; subst h; simp only [VR] at hx; obtain⟨_,k,a,cap,h0,rfl,_⟩:=hx;exact⟨_,by simp [Builtin.len_,run_underlying hu]; rfl,by simp [VR,h0,goInt]⟩
   ·simp at h; subst h; simp only [VR] at hx; obtain⟨_,l,k,a,cap,_,h0,rfl,_⟩:=hx;exact⟨_,by simp [Builtin.len_,run_underlying hu]; rfl,by simp [VR,h0,goInt]⟩
   ·simp at h; subst h; simp only [VR] at hx;rcases hx with ⟨⟨x,cap,rfl⟩,h0⟩|⟨b,o,n,cap,rfl,_,h0,_⟩
    ·exact⟨_,by simp [Builtin.len_,run_underlying hu]; rfl,by simp [VR,V.den,goInt,h0]⟩
    ·exact⟨_,by simp [Builtin.len_,run_underlying hu]; rfl,by simp [VR,V.den,goInt,h0]⟩
   grind
  ·rename_i k e hk;have hu:=qU uw hk;simp at h;subst h;exact⟨_,by simp [Builtin.len_,run_underlying hu]; rfl,by simp [VR,V.den,goInt]⟩
  ·rename_i kt et hk;have hu:=rX uw hk;split at h
   ·simp at h; subst h; simp only [VR] at hx; subst hx;exact⟨_,by simp [Builtin.len_,run_underlying hu]; rfl,by simp [VR,V.den,goInt]⟩
   ·rename_i id;split at h
    ·rename_i es c hl;simp at h;subst h;simp only [VR] at hx;obtain⟨rfl,hid⟩:=hx;obtain⟨bL,c',g1,g2,gS⟩:=yn r hl;have hg:=eA (P:=P) g1 ad;have hlen:=g2.length;simp only [bj] at hlen;exact⟨_,by simp [Builtin.len_,run_underlying hu,hg]; rfl,by simp [VR,V.den,goInt,hlen]⟩
    ·rename_i e t' hl;simp at h;subst h;simp only [VR] at hx;obtain⟨rfl,hid⟩:=hx;obtain⟨_,ho,_⟩:=r.live _ _ hl;simp only [OR] at ho;obtain⟨bL,c',g1,g2⟩:=ho;have hg:=eA (P:=P) g1 ad;have hlen:=g2.length;simp only [bj] at hlen;exact⟨_,by simp [Builtin.len_,run_underlying hu,hg]; rfl,by simp [VR,cC,goInt,hlen]⟩
    ·rename_i e t' eS ov hl;simp at h;subst h;simp only [VR] at hx;obtain⟨rfl,hid⟩:=hx;obtain⟨_,ho,_⟩:=r.live _ _ hl;simp only [OR] at ho;obtain⟨_,bL,c',g1,g2⟩:=ho;have hg:=eA (P:=P) g1 ad;have hlen:=g2.length;simp only [bj] at hlen;exact⟨_,by simp [Builtin.len_,run_underlying hu,hg]; rfl,by simp [VR,cC,goInt,hlen]⟩
    grind
   grind
  grind
 grind
end
section
variable {P:Program} {E:En} {w:World}
structure Src (P:Program) (E:En) (w:World) (s m:Nat) (news:List W) (u:Value) (us:Array Value):Prop where
 len: ∀w2,(Builtin.lenOf u).run P w2= .ok m w2
 first: ∀w2:World,w2.heap=w.heap->(Builtin.firstCells s m u).run P w2= .ok us w2
 T2:cA E w.heap news us.toList
 size:us.size=m*s
 rm: ∀x∈us.toList,x.oneCell'=true
theorem fI.PN {b o n:Nat} {us:List Value} (hn:us.length=n) (h:fI w.heap b o us) (w2:World) (hw:w2.heap=w.heap):(loadCells ⟨b,o,none⟩ n).run P w2= .ok us.toArray w2:=
 rj hn (by rw [hw]; exact h)
theorem r7 {id off len cap:Nat} {a:Addr} {c:L2} (hc:eF E id off len a cap c):a=⟨(E.θ id).1,(E.θ id).2+off,none⟩\/cap=0:=by
 cases c with
 |exact c=>
  simp only [eF] at hc
  grind
 |rest es=>
  simp only [eF] at hc
  grind
theorem tY [bI] {H:Hp} (r:bO E H w) {id o len cap s:Nat} {a:Addr} {c:L2} {l:List W} (hid:E.dm id) (hc:eF E id o len a cap c) (hlen:len<=cap) (h:mq H (.ptr id o) (len*s)=some l) :
 ∃us:List Value,us.length=len*s/\cA E w.heap l us/\(∀u∈us,u.oneCell'=true)/\∀w2:World,w2.heap=w.heap->(loadCells a (len*s)).run P w2= .ok us.toArray w2:=by
 obtain⟨b,o',us,e1,e2,e3,e4,e5⟩:=vu r (p:=.ptr id o) (u:=.pointer (some ⟨(E.θ id).1,(E.θ id).2+o,none⟩)) (by simp only [VR]; exact⟨trivial,hid⟩) h;simp only [Value.pointer.injEq,ag,Addr.mk.injEq] at e1;obtain⟨e1a,e1b,_⟩:=e1;refine⟨us,e2,e3,e5,fun w2 hw=>?_⟩;rcases r7 hc with ha|ha
 ·rw [ha,e1a,e1b];exact e4.PN e2 w2 hw
 ·obtain rfl:len=0:=J
  rw [alG] at e2 ⊢;rw [alM e2];rfl
theorem pI [bI] {H:Hp} (r:bO E H w) {s m:Nat} {y:W} {u:Value} {news:List W} (hy:VR E w.heap y u) (h:qY s y H=some (m,news)): ∃us,Src P E w s m news u us:=by
 unfold qY at h;split at h
 ·simp only [ag,ak] at h;obtain⟨rfl,rfl⟩:=h;simp only [VR] at hy;subst hy;exact⟨#[],fun _=>rfl,fun w2 _=>by simp [Builtin.firstCells],by simp [cA],ad,ad⟩
 ·rename_i id o len c;rw [aO] at h;obtain⟨l,U,Z⟩:=h;simp only [ak] at Z;obtain⟨rfl,rfl⟩:=Z;simp only [VR] at hy;obtain⟨hid,a,cap,rfl,hlen,hc⟩:=hy;obtain⟨us,e1,e2,e3,e4⟩:=tY (P:=P) r hid hc hlen U;exact⟨us.toArray,fun _=>rfl,fun w2 hw=>by simp only [Builtin.firstCells]; exact e4 w2 hw,by simpa using e2,by simpa using e1,by simpa using e3⟩
 ·rename_i cs n full;rw [aO] at h;obtain⟨l,U,Z⟩:=h;simp only [ak] at Z;obtain⟨rfl,rfl⟩:=Z;simp only [VR] at hy;obtain⟨b,o,cap,us,rfl,hn,hf,h4,h5,h6,h7⟩:=hy;obtain⟨g1,g2⟩:=h5.hJ U;have hl:=h5.length;have htl:(us.take (n*s)).length=n*s:=by rw [bd]; omega
  exact⟨(us.take (n*s)).toArray,fun _=>rfl,fun w2 hw=>by simp only [Builtin.firstCells]; exact (h6.take (n*s)).PN htl w2 hw,by simpa using g1,by simpa using htl,
   fun x hx=>h7 x (alI (by simpa using hx))⟩
 ·rename_i b;split at h
  ·rename_i hs;simp only [ag,ak] at h;obtain⟨rfl,rfl⟩:=h;simp only [VR] at hy;obtain⟨rfl,ff⟩:=hy;have gW:(de b).size=b.length:=kg b;have hex:(de b).extract 0 b.length=de b:=by rw [rY]; simp
   refine⟨(de b).data.map fun c=>Value.int .u8 (c.toNat:Int),fun w2=>by simp [Builtin.lenOf,gW],fun w2 _=>by simp [Builtin.firstCells,hex],?_,?_,?_⟩
   ·have:((de b).data.map fun c=>Value.int .u8 (c.toNat:Int)).toList=(b.map UInt8.ofNat).map fun c=>Value.int .u8 (c.toNat:Int):=by simp [de]
    rw [this];clear hex gW this
    induction b with
    |nil=>simp [cA]
    |cons x b ih=> have hx:=ff x ad;rw [aw,aw,aw,bV];refine⟨_,_,rfl,?_,ih fun c hc=>ff c (by simp [hc])⟩;simp [VR,V.den,al4,alV hx]
   ·simp_all
   ·intro x hx;simp only [am8,aT] at hx;obtain⟨c,_,rfl⟩:=hx;rfl
  grind
 grind
theorem kb {t t2 ty e s m n cap:Nat} {d2:TypeDesc} {inf:TypeInfo} {a:Option Addr} {u2:Value} {us:Array Value} {news:List W} {w':World} (ht:P.underlying t=some (.slice e)) (xG:P.underlying t2=some d2)
 (jM: ∀k,d2≠.int k) (hi:P.info? e=some inf) (hs:inf.size=s) (src:Src P E w s m news u2 us) (jW:n+m<=cap)
 (Cb:match a with |some a=>(storeCells (a.add (n*s)) us.toList).run P w= .ok () w'|none=>w'=w) :
 (Builtin.append_ #[t,t2] ty #[.slice a n cap,u2]).run P w= .ok (.slice a (n+m) cap) w':=by
 have hf:=src.first w rfl;have hl:=src.len w
 cases a with
 |none=> simp only at Cb;subst Cb;simp [Builtin.append_,run_underlying ht,run_underlying xG,sizeOf,typeInfo,hi,hs,hl,jW,hf]
 |some a=> simp only at Cb;simp [Builtin.append_,run_underlying ht,run_underlying xG,sizeOf,typeInfo,hi,hs,hl,jW,hf,Cb]
theorem LK {t t2 ty e s m n cap:Nat} {d2:TypeDesc} {inf:TypeInfo} {z u u2:Value} {us olds:Array Value} {news:List W} (ht:P.underlying t=some (.slice e)) (xG:P.underlying t2=some d2)
 (jM: ∀k,d2≠.int k) (hi:P.info? e=some inf) (hs:inf.size=s) (hz:inf.zero=some z) (Y:inf.bytes≠0) (src:Src P E w s m news u2 us) (jW:cap<n+m) (hbound:(n+m)*inf.bytes<=140737488355328)
 (a:Option Addr) (hu:u= .slice a n cap) (hold: ∀w2:World,w2.heap=w.heap->(Builtin.firstCells s n u).run P w2= .ok olds w2) :
 (Builtin.append_ #[t,t2] ty #[u,u2]).run P w= .ok (.slice (some ⟨w.heap.size,0,none⟩) (n+m) (grownCap w (n+m) cap e))
  (w.drew.alloc (.cells (olds++us++Builtin.zeroCells z.cells (grownCap w (n+m) cap e-(n+m))) e)):=by
 subst hu;have hf:=src.first w.drew rfl;have ho:=hold w.drew rfl;have hl:=src.len w;have hn: ¬(n+m<=cap):=J
 have h48: ¬(281474976710656<Builtin.nextslicecap (n+m) cap*inf.bytes):=by
  have U:Builtin.nextslicecap (n+m) cap*inf.bytes<=2*(n+m)*inf.bytes:=al5 _ (nextslicecap_le jW)
  grind
 have akL: ¬(2 ^ 48<Builtin.nextslicecap (n+m) cap*inf.bytes):=h48;simp [Builtin.append_,run_underlying ht,run_underlying xG,sizeOf,typeInfo,zeroValue,hi,hs,hz,hl,hn,Y,akL,Question.forced,ho,hf,newRow,grownCap]
theorem oG [bI] {t t2 ty:Nat} {H H':Hp} (r:bO E H w) {ie:TI} {e n m cap:Nat} {cs news old:List W} {v:W} {d2:TypeDesc} {u2:Value} {us olds:Array Value} (uz:l7 P e ie)
 (ht:P.underlying t=some (.slice e)) (xG:P.underlying t2=some d2) (jM: ∀k,d2≠.int k) (sG:ie.bytes≠0) (vJ:ie.zero.length=ie.size)
 (src:Src P E w ie.size m news u2 us) (jW:cap<n+m) (a:Option Addr) (T8:cs=old++news)
 (rT:cA E w.heap old olds.toList) (ho1: ∀x∈olds.toList,x.oneCell'=true) (hos:olds.size=n*ie.size)
 (hold: ∀w2:World,w2.heap=w.heap->(Builtin.firstCells ie.size n (.slice a n cap)).run P w2= .ok olds w2) (h:mY ie e n m cs H=some (v,H')) :
 ∃x w' E',(Builtin.append_ #[t,t2] ty #[.slice a n cap,u2]).run P w= .ok x w'/\eN E H w E' H' w'/\bO E' H' w'/\VR E' w'.heap v x:=by
 subst T8;unfold mY at h;split at h
 ·rename_i hbound;simp only [ag,ak] at h;obtain⟨rfl,rfl⟩:=h;obtain⟨inf,d,z,U,Z,h3,h4,h5,h6,h7,h8⟩:=uz.all;have hz:=eP (E:=E) (h:=w.heap) h4;have hzs:z.cells.size=ie.size:=by have:=hz.1.length; simp only [bj] at this; omega
  have NJ:=grownCap_ge w (n+m) cap e;have NB:=src.size
  obtain⟨s1,s2⟩:=iy r (olds++us++Builtin.zeroCells z.cells (grownCap w (n+m) cap e-(n+m))) 0 0 e (rT.append src.T2)
   (by intro x hx; rcases alJ.1 hx with hx|hx; exact ho1 x hx; exact src.rm x hx)
   (by
    intro i x hx;have hi:=(aW.1 hx).1;rw [anx (by simpa using hi)];rw [<- bu,Array.toList_append]
    exact hx)
   J (w':=w.drew.alloc (.cells (olds++us++Builtin.zeroCells z.cells (grownCap w (n+m) cap e-(n+m))) e)) rfl ⟨rfl,rfl,rfl⟩
  refine⟨_,_,_,LK (s:=ie.size) ht xG jM U h5 h3 (by rw [h6]; exact sG) src jW (by rw [h6]; exact hbound) a rfl hold,s1,s2,?_⟩;simp only [VR];refine⟨En.gn _ _ _ _,_,_,rfl,NJ,?_⟩;simp only [eF,En.ext_θ_new,En.ext_κ_new];left;refine⟨trivial,?_⟩;simp only [Array.size_append,size_zeroCells,hos,NB,hzs,<- alL]
  grind
 grind
set_option maxHeartbeats 800000 in
theorem vb [bI] {t t2 ty:Nat} {H H':Hp} (r:bO E H w) {ie:TI} {e m:Nat} {news:List W} {x v:W} {d2:TypeDesc} {u u2:Value} {us:Array Value} (uz:l7 P e ie)
 (ht:P.underlying t=some (.slice e)) (xG:P.underlying t2=some d2) (jM: ∀k,d2≠.int k) (wH:ie.size≠0) (sG:ie.bytes≠0) (vJ:ie.zero.length=ie.size)
 (src:Src P E w ie.size m news u2 us) (hx:VR E w.heap x u) (h:px ie e m news x H=some (v,H')) :
 ∃y w' E',(Builtin.append_ #[t,t2] ty #[u,u2]).run P w= .ok y w'/\eN E H w E' H' w'/\bO E' H' w'/\VR E' w'.heap v y:=by
 obtain⟨inf,d,z,U,Z,h3,h4,h5,h6,h7,h8⟩:=uz.all;have lr:0<ie.size:=J
 have Tb:=src.T2.length;have Ir:=src.size;simp only [bj] at Tb;unfold px at h;split at h
 ·
  simp only [VR] at hx;subst hx;split at h
  ·rename_i hm;subst hm;simp only [ag,ak] at h;obtain⟨rfl,rfl⟩:=h;exact⟨_,w,E,kb (s:=ie.size) ht xG jM U h5 src (au _) (by simp only),eN.refl _ _ _,r,by simp [VR]⟩
  ·rename_i hm;exact oG (cap:=0) r uz ht xG jM sG vJ src J none (old:=[]) (olds:=#[]) ad (by simp [cA]) ad ad (fun w2 _=>by simp [Builtin.firstCells]) h
 ·
  rename_i id o len c;have hx0:=hx;simp only [VR] at hx;obtain⟨hid,a,cap,rfl,hlen,hc⟩:=hx;have gI:cap=c:=by simp only [eF] at hc; exact hc.1
  subst gI;split at h
  ·rename_i jW;split at h
   ·rename_i cs e' hl;split at h
    ·rename_i lF hs;simp only [ag,ak] at h;obtain⟨rfl,rfl⟩:=h;obtain⟨w',g1,g2,g3⟩:=lH (P:=P) r hl hs src.T2 src.rm
     have Cb:(storeCells (a.add (len*ie.size)) us.toList).run P w= .ok () w':=by
      rcases r7 hc with ha|ha
      ·rw [ha,eU,alF]; exact g1
      ·obtain rfl:m=0:=J
       have nF:us.toList= []:=alM (by rw [bj,Ir,alG]);rw [nF] at g1 ⊢;exact g1
     refine⟨_,w',E,kb (s:=ie.size) ht xG jM U h5 src jW Cb,g2,g3,?_⟩;simp only [VR];refine⟨hid,a,cap,rfl,jW,?_⟩;simp only [eF] at hc ⊢;exact hc
    ·simp at h
   ·simp at h
  ·rename_i jW;split at h
   ·rename_i old hold;obtain⟨ols,f1,f2,f3,f4⟩:=tY (P:=P) r hid hc hlen hold
    exact oG (cap:=cap) r uz ht xG jM sG vJ src J (some a) (old:=old) (olds:=ols.toArray) rfl (by simpa using f2) (by simpa using f3) (by simpa using f1)
     (fun w2 hw=>by simp only [Builtin.firstCells]; exact f4 w2 hw) h
   ·simp at h
 ·
  rename_i id o len es;split at h
  ·rename_i ky;subst ky;simp only [VR] at hx;obtain⟨hid,a,cap,rfl,hlen,hc⟩:=hx;split at h
   ·rename_i cs e' hl;obtain⟨arr,lo,hi,cus,b1,b2,b3,b4,b5,b6,b7⟩:=(r.live id _ hl).2.1;split at h
    ·rename_i hle;split at h
     ·rename_i lF hs;simp only [ag,ak] at h;obtain⟨rfl,rfl⟩:=h;obtain⟨w',g1,g2,g3⟩:=lH (P:=P) r hl hs src.T2 src.rm
      have jW:len+m<=cap:=by
       simp only [eF] at hc;rcases hc with ⟨_,hc⟩|⟨rfl,rfl,hc⟩
       ·have:(len+m)*ie.size<=cap*ie.size:=J
        exact am9 this lr
       ·have:(0+m)*ie.size=0:=J
        rcases Nat.mul_eq_zero.1 this with hh|hh<;>omega
      have Cb:(storeCells (a.add (len*ie.size)) us.toList).run P w= .ok () w':=by
       rcases r7 hc with ha|ha
       ·rw [ha,eU,alF]; exact g1
       ·obtain rfl:m=0:=J
        have nF:us.toList= []:=alM (by rw [bj,Ir,alG]);rw [nF] at g1 ⊢;exact g1
      refine⟨_,w',E,kb (s:=ie.size) ht xG jM U h5 src jW Cb,g2,g3,?_⟩;simp only [VR];refine⟨hid,a,cap,rfl,jW,?_⟩;simp only [eF] at hc ⊢;rcases hc with hc|⟨rfl,rfl,hc⟩
      ·exact .inl hc
      ·exact .inr ⟨rfl,J,hc⟩
     ·simp at h
    ·rename_i akl;split at h
     ·rename_i XG;obtain⟨XG,rfl⟩:=XG;split at h
      ·rename_i old hd;obtain⟨d1,d2',d3⟩:=b2.eE hd;have Cf:=b2.length
       have hm0:m≠0:=by intro hm;subst hm;rw [bg] at akl;omega
       by_cases jW:len+m<=cap
       ·
        have aeB:a=⟨(E.θ id).1,(E.θ id).2+o,none⟩/\o+cap*ie.size=E.κ id:=by
         simp only [eF] at hc;rcases hc with hc|hc
         ·exact hc
         ·omega
        obtain⟨rfl,aly⟩:=aeB;unfold mY at h;split at h
        ·simp only [ag,ak] at h;obtain⟨rfl,rfl⟩:=h;have KN:len*ie.size+m*ie.size<=cap*ie.size:=by rw [<- alL]; exact al5 _ jW
         have hul:us.toList.length=m*ie.size:=by simpa using Ir
         obtain⟨w',Jp,e1,e2,e3,e4,e5,e6,e7⟩:=mn (P:=P) (E.θ id).1 ((E.θ id).2+(o+len*ie.size)) e' lo hi us.toList 0 arr w b1 b6 J src.rm
         have Cb:(storeCells ((⟨(E.θ id).1,(E.θ id).2+o,none⟩ : Addr).add (len*ie.size)) us.toList).run P w= .ok () w':=by rw [eU,alF]; exact e1
         have kp:fh E w.heap (E.ext H.fresh ((E.θ id).1,(E.θ id).2+o) (cap*ie.size)) w'.heap:=
          ⟨rfl,fun _ hh=> .inr hh,fun _ hh=>En.ext_θ E _ _ _ (r.qo hh),fun _ hh=>En.ext_κ E _ _ _ (r.qo hh),fun _ hh=>hh,(jV r hl e4).AW⟩
         have Bc:=M4 r hl (.cells (old++news) e') o (cap*ie.size) e3 e4 e2 (by
          simp only [OR,En.ext_θ_new,En.ext_κ_new];refine⟨Jp,lo,hi,cus.drop o++us.toList,e5,cA.bX kp _ _ (d1.append src.T2),?_,?_,J,by rw [e6]; exact b6,?_⟩
          ·intro i y hy;rw [e7];have hdl:(cus.drop o).length=len*ie.size:=by rw [bq]; omega
           rw [am4] at hy;split at hy
           ·rename_i hi';rw [af J];rw [amd] at hy;rw [alF];exact b3 _ _ hy
           ·rename_i hi';have Is:=(aW.1 hy).1;rw [ah J];rw [show (E.θ id).2+o+i-((E.θ id).2+(o+len*ie.size)+0)=i-(cus.drop o).length from by omega];exact hy
          ·rw [a8,d3]; omega
          ·intro y hy;rcases alJ.1 hy with hy|hy
           ·exact b7 y (br hy)
           ·exact src.rm y hy)
         refine⟨_,w',_,kb (s:=ie.size) ht xG jM U h5 src jW Cb,Bc.1,Bc.2,?_⟩;simp only [VR,show (H.drop id).fresh=H.fresh from rfl];refine⟨En.gn _ _ _ _,_,_,rfl,jW,?_⟩;simp only [eF,En.ext_θ_new,En.ext_κ_new];left;exact⟨ad,J⟩
        ·simp at h
       ·
        have ah8:mq H (.ptr id o) (len*ie.size)=some old:=by
         simp only [mq,hl,hd];have:len*ie.size=old.length:=J
         rw [this];clear h hd d1 d3 this
         induction old with
         |nil=>rfl
         |cons y ys ih=>simp [As.hJ,ih]
        obtain⟨ols,f1,f2,f3,f4⟩:=tY (P:=P) r hid hc hlen ah8;obtain⟨q1,q2⟩:=vT r id;have ajH:Src P E w ie.size m news u2 us:=src
        obtain⟨y,w',E',p1,p2,p3,p4⟩:=oG (t:=t) (t2:=t2) (ty:=ty) (cap:=cap) q2 uz ht xG jM sG vJ ajH J (some a) (old:=old) (olds:=ols.toArray) rfl (by simpa using f2) (by simpa using f3) (by simpa using f1)
         (fun w2 hw=>by simp only [Builtin.firstCells]; exact f4 w2 hw) h
        exact⟨y,w',E',p1,q1.trans p2,p3,p4⟩
      ·simp at h
     ·simp at h
   ·simp at h
  ·simp at h
 ·
  rename_i cs n full;have hx0:=hx;simp only [VR] at hx;obtain⟨b,o,cap,cus,rfl,hn,hf,g4,g5,g6,g7⟩:=hx;split at h
  ·rename_i hm;subst hm;simp only [ag,ak] at h;obtain⟨rfl,rfl⟩:=h;have nF:us.toList= []:=alM (by rw [bj,Ir,alG]);exact⟨_,w,E,kb (s:=ie.size) ht xG jM U h5 src J (by simp only [nF]; rfl),eN.refl _ _ _,r,hx0⟩
  ·rename_i hm;split at h
   ·rename_i Gz;have gI:=hf Gz;subst gI;split at h
    ·rename_i old hold;obtain⟨j1,j2⟩:=g5.hJ hold;have Cf:=g5.length;have htl:(cus.take (cap*ie.size)).length=cap*ie.size:=by rw [bd]; omega
     exact oG (cap:=cap) r uz ht xG jM sG vJ src J (some ⟨b,o,none⟩) (old:=old) (olds:=(cus.take (cap*ie.size)).toArray) rfl (by simpa using j1)
      (fun x hx=>g7 x (alI (by simpa using hx))) (by simpa using htl)
      (fun w2 hw=>by simp only [Builtin.firstCells]; exact (g6.take _).PN htl w2 hw) h
    ·simp at h
   ·simp at h
 ·simp at h
theorem Lk [bI] {tt:TT} (cJ:ew P tt) {H H':Hp} (r:bO E H w) {t t2 ty:Nat} {x y v:W} {u u2:Value} (hx:VR E w.heap x u) (hy:VR E w.heap y u2) (h:D7 tt t t2 x y H=some (v,H')) :
 ∃z w' E',(Builtin.append_ #[t,t2] ty #[u,u2]).run P w= .ok z w'/\eN E H w E' H' w'/\bO E' H' w'/\VR E' w'.heap v z:=by
 unfold D7 at h;split at h
 ·rename_i ti fU;split at h
  ·rename_i e hk;split at h
   ·rename_i ie kx;split at h
    ·grind
    ·rename_i Pf Xp;obtain⟨d2,jM,Cc⟩:=rz (cJ t2 Pf Xp);split at h
     ·grind
     ·rename_i k2 fX;split at h
      ·grind
      ·rename_i iV;simp only [not_or,Classical.not_not] at iV;split at h
       ·grind
       ·rename_i m news NB;obtain⟨us,src⟩:=pI (P:=P) r hy NB;refine vb r (cJ e ie kx) (eY (cJ t ti fU) hk) jM ?_ iV.1 iV.2.1 iV.2.2 src hx h;intro k hd;subst hd;cases sD:Pf.kind<;>rw [sD] at Cc<;>simp only [Hn] at Cc
        grind
   grind
  grind
 grind
end
section
variable {P:Program} {E:En} {w:World}
theorem Oh [bI] {tt:TT} (cJ:ew P tt) {H H':Hp} (r:bO E H w) {t ty:Nat} {x:W} {u:Value} (hx:VR E w.heap x u) (h:IX tt t x H=some H') :
 ∃w',(Builtin.clear_ #[t] ty #[u]).run P w= .ok (.tuple #[]) w'/\eN E H w E H' w'/\bO E H' w':=by
 unfold IX at h;split at h
 ·rename_i ti fU;split at h
  ·rename_i e hk;have hu:=eY (cJ t ti fU) hk;split at h
   ·rename_i ie kx;obtain⟨inf,d,z,U,Z,h3,h4,h5,h6,h7,h8⟩:=(cJ e ie kx).all;have hz:=eP (E:=E) (h:=w.heap) h4;split at h
    ·simp at h;subst h;simp only [VR] at hx;subst hx;exact⟨w,by simp [Builtin.clear_,run_underlying hu],eN.refl _ _ _,r⟩
    ·simp at h;subst h;simp only [VR] at hx;obtain⟨⟨x,rfl⟩,_⟩:=hx;exact⟨w,by cases x<;>simp [Builtin.clear_,run_underlying hu],eN.refl _ _ _,r⟩
    ·rename_i id o len c;simp only [VR] at hx;obtain⟨hid,a,cap,rfl,hlen,hc⟩:=hx;split at h
     ·simp at h;subst h;exact⟨w,by simp [Builtin.clear_,run_underlying hu],eN.refl _ _ _,r⟩
     ·rename_i hl0;split at h
      ·grind
      ·rename_i fX;split at h
       ·rename_i cs e' hl;split at h
        ·rename_i lF hs;simp at h;subst h
         have ha:a=⟨(E.θ id).1,(E.θ id).2+o,none⟩:=by
          grind [r7]
         have aeo:z.cells.toList≠[]:=by
          intro hx;have:=hz.1.length
          grind
         have hzc:(Builtin.zeroCells z.cells len).toList=dJ z.cells.toList len:=tN z.cells aeo len;obtain⟨w',g1,g2,g3⟩:=lH (P:=P) r hl hs (lT hz.1 len) (fun u hu=>hz.2 u (lS hu));refine⟨w',?_,g2,g3⟩;subst ha;obtain⟨l,rfl⟩ : ∃l,len=l+1:=⟨len-1,by have:len≠0:=fun hh=>hl0 hh; omega⟩;simp [Builtin.clear_,run_underlying hu,zeroValue,typeInfo,U,h3,hzc,g1]
        grind
       grind
    grind
   grind
  grind
 grind
theorem N3 [bI] {tt:TT} (cJ:ew P tt) {H H':Hp} (r:bO E H w) {t:Nat} {x v:W} {u:Value} (hx:VR E w.heap x u) (h:IL tt t x H=some (v,H')) :
 ∃y w' E',(Instr.range t u).run P w= .ok y w'/\eN E H w E' H' w'/\bO E' H' w'/\VR E' w'.heap v y:=by
 unfold IL at h;split at h
 ·rename_i ti fU;split at h
  ·rename_i hk;split at h
   ·rename_i b;simp only [ag,ak] at h;obtain⟨rfl,rfl⟩:=h;simp only [VR] at hx;obtain⟨rfl,ff⟩:=hx
    obtain⟨s1,s2⟩:=oQ r (.stringIter (de b) 0) (.jP b 0) 0 (w':=w.iter (de b) 0) rfl ⟨rfl,rfl,rfl⟩ (by
     simp only [OR,En.ext_θ_new]
     exact⟨World.iter_heap _ _ _,trivial,ff⟩)
    exact⟨_,_,_,run_range_string w t (de b) (fB (cJ t ti fU) hk),s1,s2,yd r 0 _ 0⟩
   grind
  ·rename_i kt et hk;have hu:=rX (cJ t ti fU) hk;split at h
   ·simp only [ag,ak] at h;obtain⟨rfl,rfl⟩:=h;simp only [VR] at hx;subst hx
    obtain⟨s1,s2⟩:=oQ r (.mapIter none 0 #[] 0) (.jh none 0 [] 0) 0 (w':={ w with heap:=w.heap.push (.mapIter none 0 #[] 0) }) rfl ⟨rfl,rfl,rfl⟩ (by
     simp only [OR,En.ext_θ_new]
     exact⟨ad,trivial⟩)
    exact⟨.pointer (some ⟨w.heap.size,0,none⟩),_,_,by simp [Instr.range,run_underlying hu],s1,s2,yd r 0 _ 0⟩
   ·rename_i id;split at h
    ·rename_i es c hl;simp only [ag,ak] at h;obtain⟨rfl,rfl⟩:=h;simp only [VR] at hx;obtain⟨rfl,hid⟩:=hx;obtain⟨bL,c',g1,g2,gS⟩:=(r.live id _ hl).2.1;have hg:=eA (P:=P) g1 ad;have hc:=gS.1;subst hc
     obtain⟨s1,s2⟩:=oQ r (.mapIter (some (E.θ id).1) c' #[] c') (.jh (some id) c' [] c') 0 (w':={ w with heap:=w.heap.push (.mapIter (some (E.θ id).1) c' #[] c') }) rfl ⟨rfl,rfl,rfl⟩ (by
      simp only [OR,En.ext_θ_new];rw [En.ext_θ _ _ _ _ (r.qo hid)]
      exact⟨ad,trivial,.inr hid⟩)
     exact⟨.pointer (some ⟨w.heap.size,0,none⟩),_,_,by simp [Instr.range,run_underlying hu,hg],s1,s2,yd r 0 _ 0⟩
    ·simp at h
   ·simp at h
  grind
 grind
theorem Tw [bI] {H H':Hp} (r:bO E H w) {x v:W} {u:Value} {isS:Bool} (hx:VR E w.heap x u) (h:N5 x isS H=some (v,H')) (ty:Nat) :
 ∃y w',(Instr.next u isS ty).run P w= .ok y w'/\eN E H w E H' w'/\bO E H' w'/\VR E w'.heap v y:=by
 unfold N5 at h;split at h
 ·have over:VR E w.heap (.tuple [.bool (.lit false)]) (.tuple #[.bool false]):=by
   simp only [VR,cA]; exact⟨[.bool false],rfl,_,_,rfl,by simp [SB.den],rfl⟩
  split at h
  ·rename_i id;simp only [VR] at hx;obtain⟨rfl,hid⟩:=hx;split at h
   ·rename_i s l z hl;simp only [ag,ak] at h;obtain⟨rfl,rfl⟩:=h;obtain⟨g1,g2⟩:=(r.live id _ hl).2.1;rw [g2];have hg:=eA (P:=P) g1 ad;exact⟨_,w,by simp only [Instr.next,Sem.run_bind,hg,Result.andThen_ok,bg]; rfl,eN.refl _ _ _,r,over⟩
   ·rename_i m s l z hl;obtain⟨g1,g2,g3⟩:=(r.live id _ hl).2.1;rw [g2];have hg:=eA (P:=P) g1 ad;split at h
    ·rename_i cc hm;simp only [ag,ak] at h;obtain⟨rfl,rfl⟩:=h;obtain⟨bL,c',m1,m2,m3⟩:=(r.live m _ hm).2.1;simp only [eC] at m2;have KS:bL= #[]:=by simpa using m2
     subst KS;have hgm:=eA (P:=P) m1 ad;refine⟨_,w,?_,eN.refl _ _ _,r,over⟩;simp only [Instr.next,Sem.run_bind,hg,hgm,Result.andThen_ok,bg];have hf: ∀p:MapEntry->Bool,Array.filter p #[] 0 0= #[]:=fun _=>rfl;simp [choose,Sem.run,Question.forced,Result.andThen,hf]
    ·rename_i k v n c hm;obtain⟨bL,c',m1,m2,m3⟩:=(r.live m _ hm).2.1;simp only [eC] at m2;obtain⟨e,r0,he,hek,hev,_,rfl⟩:=m2;have KS:bL= #[e]:=by apply am2.1; simpa using he
     subst KS;have hgm:=eA (P:=P) m1 ad;obtain⟨hc,Y⟩:=m3;simp at Y;subst hc;subst Y;split at h
     ·split at h
      ·rename_i ff;simp only [ag,ak] at h;obtain⟨rfl,rfl⟩:=h
       obtain⟨s1,s2⟩:=fZ r hl (.jh (some m) s [e.born] c') (.mapIter (some (E.θ m).1) s #[e.born] c') (by
        intro h' hh _
        exact⟨hh,g2,g3⟩)
       refine⟨.tuple #[.bool true,e.key,e.val],_,?_,s1,s2,?_⟩
       ·simp only [Instr.next,Sem.run_bind,hg,hgm,Result.andThen_ok,bg];have h0: ¬s<=e.born:=J
        simp [choose,Sem.run,Question.forced,Result.andThen,ff,h0,g1,setObj,Sem.run_bind]
       ·have kp:fh E w.heap E (w.heap.setIfInBounds (E.θ id).1 (.mapIter (some (E.θ m).1) s #[e.born] c')):=
         jV (w':={ w with heap:=w.heap.setIfInBounds (E.θ id).1 (.mapIter (some (E.θ m).1) s #[e.born] c') }) r hl fun b Y=>by
          show (w.heap.setIfInBounds (E.θ id).1 _)[b]?=_
          grind
        simp only [VR,cA];exact⟨_,rfl,_,_,rfl,by simp [SB.den],_,_,rfl,VR.bX kp _ _ hek,_,_,rfl,VR.bX kp _ _ hev,rfl⟩
      ·simp at h
     ·rename_i y;split at h
      ·rename_i hy;obtain⟨rfl,ff⟩:=hy;simp only [ag,ak] at h;obtain⟨rfl,rfl⟩:=h;refine⟨_,w,?_,eN.refl _ _ _,r,over⟩;simp only [Instr.next,Sem.run_bind,hg,hgm,Result.andThen_ok,bg];have h0: ¬z<=e.born:=J
       simp [choose,Sem.run,Question.forced,Result.andThen,h0]
      ·simp at h
     ·simp at h
    ·simp at h
   ·simp at h
  ·simp at h
 ·split at h
  ·rename_i id;split at h
   ·rename_i b p hl;obtain⟨g1,g2,g3⟩:=(r.live id _ hl).2.1;simp only [VR] at hx;obtain⟨rfl,hid⟩:=hx;rw [g2];have hg:=eA (P:=P) g1 ad;split at h
    ·rename_i hn;simp only [ag,ak] at h;obtain⟨rfl,rfl⟩:=h;rw [di,amC] at hn;have hp: ¬p<(de b).size:=by rw [kg]; omega
     refine⟨.tuple #[.bool false],w,?_,eN.refl _ _ _,r,?_⟩
     ·simp [Instr.next,hg,hp]
     ·simp only [VR,cA]; exact⟨[.bool false],rfl,_,_,rfl,by simp [SB.den],rfl⟩
    ·rename_i c hn;split at h
     ·rename_i hc;simp only [ag,ak] at h;obtain⟨rfl,rfl⟩:=h;rw [di] at hn;have hpl:=(aW.1 hn).1;have hp:p<(de b).size:=by rw [kg]; exact hpl
      have Y:(de b)[p]'hp=UInt8.ofNat c:=by
       have U:(de b)[p]?=some ((de b)[p]'hp):=getElem?_pos (de b) p hp
       grind [CJ]
      have hbn:((de b)[p]'hp).toNat=c:=by rw [Y]; simp; omega
      have akF:=decode_ascii (de b) p hp (by rw [hbn]; exact hc)
      obtain⟨s1,s2⟩:=fZ r hl (.jP b (p+1)) (.stringIter (de b) (p+1)) (by
       intro h' hh _
       exact⟨hh,g2,g3⟩)
      refine⟨.tuple #[.bool true,goInt p,.int .i32 ((de b)[p]'hp).toNat],_,?_,s1,s2,?_⟩
      ·simp only [Instr.next,Sem.run_bind,hg,Result.andThen_ok,hp,if_true,akF,gj (P:=P) g1 ad,Sem.run_pure]
      ·simp only [VR,cA,hbn];exact⟨_,rfl,_,_,rfl,by simp [SB.den],_,_,rfl,by simp [V.den,goInt],_,_,rfl,by simp [V.den],rfl⟩
     grind
   grind
  grind
theorem Od [bI] {H:Hp} (r:bO E H w) {x v:W} {u:Value} (hx:VR E w.heap x u) (h:IU x H=some v) :
 ∃y,(Instr.entry u).run P w= .ok y w/\VR E w.heap v y:=by
 unfold IU at h;split at h
 ·rename_i id;simp only [VR] at hx;obtain⟨rfl,hid⟩:=hx;split at h
  ·rename_i m s y z hl;obtain⟨g1,g2,g3⟩:=(r.live id _ hl).2.1;rw [g2];have hg:=eA (P:=P) g1 ad;split at h
   ·rename_i k v n c hm;obtain⟨bL,c',m1,m2,m3⟩:=(r.live m _ hm).2.1;simp only [eC] at m2;obtain⟨e,r0,he,hek,hev,_,rfl⟩:=m2;have KS:bL= #[e]:=by apply am2.1; simpa using he
    subst KS;have hgm:=eA (P:=P) m1 ad;obtain⟨hc,Y⟩:=m3;simp at Y;split at h
    ·rename_i hy;obtain⟨rfl,rfl⟩:=hy;simp only [ag] at h;subst h hc Y;refine⟨.tuple #[e.key,e.val],?_,?_⟩
     ·simp only [Instr.entry,Sem.run_bind,hg,hgm,Result.andThen_ok,bg];simp [hgm]
     ·simp only [VR,cA];exact⟨_,rfl,_,_,rfl,hek,_,_,rfl,hev,rfl⟩
    ·simp at h
   ·simp at h
  ·simp at h
 ·simp at h
theorem HW {ρ:Nat->Int} {pc:List (SB×Bool)} (hp:bW ρ pc) {c:SB} {b:Bool} (h:c.den ρ=b):bW ρ ((c,b)::pc):=by
 intro d x hm;rcases ax.1 hm with hm|hm
 ·grind
 ·exact hp d x hm
theorem cH {α:Type} {ρ:Nat->Int} {s:St} (hp:bW ρ s.pc) {c:SB} {f:St->Bool->T α} {r:α} (h:(jx s c f).leaf ρ=some r) :
 ∃dY,bW ρ dY/\(f { s with pc:=dY } (c.den ρ)).leaf ρ=some r:=by
 unfold jx at h;split at h
 ·rename_i b Y;exact⟨s.pc,hp,by rw [gp hp Y]; exact h⟩
 ·split at h
  ·rename_i d;simp only [T.leaf] at h;split at h
   ·rename_i hc;exact⟨_,HW hp hc,by simp only [SB.den,hc]; exact h⟩
   ·rename_i hc;exact⟨_,HW hp hc,by simp only [SB.den,hc]; exact h⟩
  ·simp only [T.leaf] at h
   grind [HW]
theorem T.eZ {α β:Type} {ρ:Nat->Int} {f:α->T β} {r:β}: ∀{x:T α},(x.bind f).leaf ρ=some r->∃a,x.leaf ρ=some a/\(f a).leaf ρ=some r
 | .fail,h=>by simp [T.bind,T.leaf] at h
 | .ret a,h=> ⟨a,rfl,h⟩
 | .split c x y,h=>by simp only [T.bind,T.leaf] at h ⊢;split at h<;>exact T.eZ h
theorem nd {mx:Bool}: ∀{xs:List W} {a:V} {k:IntKind} {s s':St} {us:List Value} {v:W},bW E.ρ s.pc->cA E w.heap xs us->(sM mx xs a k s).leaf E.ρ=some (v,s')->
 s'.h=s.h/\s'.bE=s.bE/\bW E.ρ s'.pc/\∃u,(us.foldlM (if mx then Builtin.max2 else Builtin.min2) (.int k (a.den E.ρ))).run P w= .ok u w/\VR E w.heap v u
 |[],a,k,s,s',us,v,hp,hv,h=>by simp only [sM,T.leaf,ag,ak] at h;obtain⟨rfl,rfl⟩:=h;rw [gP] at hv;subst hv;exact⟨rfl,rfl,hp,_,rfl,by simp only [VR]⟩
 |x::xs,a,k,s,s',us,v,hp,hv,h=>by
  rw [bV] at hv;obtain⟨u,vs,rfl,hx,mG⟩:=hv;cases x<;>simp only [sM,T.leaf,reduceCtorEq] at h;rename_i k' b;simp only [VR] at hx;subst hx;obtain⟨dY,fj,U⟩:=cH hp h;cases mx
  ·simp only [aL,if_false,dQ] at U ⊢;by_cases hc:b.den E.ρ<a.den E.ρ
   ·simp only [hc,decide_true,if_true] at U;obtain⟨q1,q2,q3,u,q4,q5⟩:=nd fj mG U;refine⟨q1,q2,q3,u,?_,q5⟩;simp only [amP,Sem.run_bind,Builtin.min2,Sem.run_pure,Result.andThen_ok,hc,if_true]
    grind
   ·simp only [hc,decide_false,aL,if_false] at U;obtain⟨q1,q2,q3,u,q4,q5⟩:=nd fj mG U;refine⟨q1,q2,q3,u,?_,q5⟩;simp only [amP,Sem.run_bind,Builtin.min2,Sem.run_pure,Result.andThen_ok,hc,if_false]
    grind
  ·simp only [if_true,dQ] at U ⊢;by_cases hc:a.den E.ρ<b.den E.ρ
   ·simp only [hc,decide_true,if_true] at U;obtain⟨q1,q2,q3,u,q4,q5⟩:=nd fj mG U;refine⟨q1,q2,q3,u,?_,q5⟩;simp only [amP,Sem.run_bind,Builtin.max2,Sem.run_pure,Result.andThen_ok,gt_iff_lt,hc,if_true]
    grind
   ·simp only [hc,decide_false,aL,if_false] at U;obtain⟨q1,q2,q3,u,q4,q5⟩:=nd fj mG U;refine⟨q1,q2,q3,u,?_,q5⟩;simp only [amP,Sem.run_bind,Builtin.max2,Sem.run_pure,Result.andThen_ok,gt_iff_lt,hc,if_false]
    grind
end
section
variable {P:Program} {E:En} {w:World}
theorem Sz (ρ:Nat->Int) (a b:SB):(Wk a b).den ρ=(a.den ρ&&b.den ρ):=by unfold Wk;split<;>simp [SB.den]
theorem TC {i:TI} {t:Nat} (fU:l7 P t i) {x y:W} {u v:Value} (hx:VR E w.heap x u) (hy:VR E w.heap y v) {c:SB} (h:Ol i.kind x y=some c) (d:Nat) :
 (Op.equalIn (d+1) t u v).run P w= .ok (c.den E.ρ) w/\u.oneCell'=true/\v.oneCell'=true/\i.agg=false:=by
 unfold Ol at h;split at h
 ·rename_i k hk;split at h
  ·split at h
   ·rename_i sD;subst sD;simp at h;subst h;simp only [VR] at hx hy;subst hx hy;exact⟨by rw [run_equalIn_int w d t _ _ _ _ (oo fU hk),gv],rfl,rfl,by simp [TI.agg,TK.agg,hk]⟩
   grind
  grind
 ·rename_i hk;split at h
  ·simp at h;subst h;simp only [VR] at hx hy;obtain⟨rfl,hx⟩:=hx;obtain⟨rfl,hy⟩:=hy;exact⟨by rw [run_equalIn_string w d t _ _ (fB fU hk),Pm hx hy]; rfl,rfl,rfl,by simp [TI.agg,TK.agg,hk]⟩
  ·obtain⟨a,b,rfl,rfl,hd⟩:=CI hx hy h;exact⟨by rw [run_equalIn_string w d t _ _ (fB fU hk),wY,hd],rfl,rfl,by simp [TI.agg,TK.agg,hk]⟩
 ·rename_i hk;split at h
  ·simp only [VR] at hx hy;subst hx hy;exact⟨by rw [run_equalIn_bool' w d t _ _ (JM fU hk),Br h],rfl,rfl,by simp [TI.agg,TK.agg,hk]⟩
  grind
 grind
theorem Rb {tt:TT} (cJ:ew P tt) {xs ys:List W} {us vs:List Value} (hx:cA E w.heap xs us) (hy:cA E w.heap ys vs) (d:Nat): ∀{lL:List Field} {l:List (Nat×Nat×Nat)} {c:SB},
 (lL.mapM fun f=>(P.info? f.type).map fun i=>(f.offset,f.type,i.size))=some l->(∀f∈lL,f.name≠ "_")->X2 tt xs ys l=some c->
 (Op.eqFields (d+1) us.toArray vs.toArray lL).run P w= .ok (c.den E.ρ) w
 |[],l,c,hm,_,h=>by simp at hm;subst hm;simp [X2] at h;subst h;simp [Op.eqFields,SB.den]
 |f::lL,l,c,hm,hn,h=>by
  simp only [amh,amB,amm] at hm;obtain⟨p,U,ls,Z,h3⟩:=hm;simp only [pure,ag] at h3;subst h3;rw [aO] at U;obtain⟨inf,akv,rfl⟩:=U;simp only [X2] at h;split at h
  ·grind
  ·rename_i i hi;split at h
   ·rename_i x y hxn hyn;split at h
    ·grind
    ·rename_i c1 hc1;split at h
     ·grind
     ·rename_i c2 hc2;simp at h;subst h;obtain⟨u,Nz,QA⟩:=hx.nth hxn;obtain⟨v,P9,N?⟩:=hy.nth hyn;obtain⟨e1,e2,e3,e4⟩:=TC (w:=w) (cJ f.type i hi) QA N? hc1 d;have ih:=Rb cJ hx hy d Z (fun g hg=>hn g (by simp [hg])) hc2;have p1:(part f.type us.toArray f.offset).run P w= .ok u w:=by simp [part,ku (cJ f.type i hi),e4,Nz]
      have p2:(part f.type vs.toArray f.offset).run P w= .ok v w:=by simp [part,ku (cJ f.type i hi),e4,P9]
      simp only [Op.eqFields];rw [ah (hn f ad)];simp only [Sem.run_bind,p1,p2,e1,Result.andThen_ok,Sz];cases QM:c1.den E.ρ
      ·simp
      grind
   grind
theorem D5 {tt:TT} (cJ:ew P tt) {t:Nat} {xs ys:List W} {us vs:List Value} {c:SB} (hx:cA E w.heap xs us) (hy:cA E w.heap ys vs) (h:Cl tt t xs ys=some c) (op:BinOp) (x y:Operand) :
 (eqGuard op t x y (.agg us.toArray) (.agg vs.toArray)).run P w= .ok () w/\(binOp .eql t (.agg us.toArray) (.agg vs.toArray)).run P w= .ok (.bool (c.den E.ρ)) w/\(binOp .neq t (.agg us.toArray) (.agg vs.toArray)).run P w= .ok (.bool (!(c.den E.ρ))) w:=by
 unfold Cl at h;split at h
 ·grind
 ·rename_i i hi;split at h
  ·rename_i fs hk;split at h
   ·rename_i hq;have fU:=cJ t i hi;have he:=fU.eqs hq;obtain⟨lL,hu,hm⟩:=rW fU hk;unfold QZ at he;rw [hu] at he;simp only [an,alS,aR,bne_iff_ne,ne_eq] at he;obtain⟨⟨U,Z⟩,h3⟩:=he;have hf:P.fieldsOf t=lL:=by simp [Program.fieldsOf,hu]
    have h10:(10000:Nat)=9998+1+1:=rfl
    have key:(Op.equalIn 10000 t (.agg us.toArray) (.agg vs.toArray)).run P w= .ok (c.den E.ρ) w:=by rw [h10];generalize (9998:Nat)=n;rw [run_equalIn_struct w (n+1) t _ _ (by rw [hf]; exact hu) U,hf];exact Rb cJ hx hy n hm (fun f hf=>(h3 f hf).1) h
    refine⟨run_eqGuard_agg w op t x y _ _ Z,?_,?_⟩
    ·rw [run_eql_struct,key]; rfl
    ·rw [run_neq_struct,key]; rfl
   grind
  grind
def L1 [bI] (E:En) (s:St) (w:World) (v:W) (s':St) (u:Value) (w':World):Prop:= ∃E',eN E s.h w E' s'.h w'/\bO E' s'.h w'/\VR E' w'.heap v u
def jA [bI] (P:Program) (E:En) (s:St) (o:Oper) (a:Act) (w:World) (v:W) (s':St):Prop:=
 s'.bE=s.bE/\bW E.ρ s'.pc/\oC P o a w (L1 E s w v s')
theorem bC {α:Type} {ρ:Nat->Int} {a b:α} (h:(T.ret a).leaf ρ=some b):a=b:=by simpa [T.leaf] using h
theorem gk {s:St} {a:Act} {x:Operand} {f:W->T (W×St)} {r:W×St} (sr:SR E w.heap s.bE a) (h:(yh s x f).leaf E.ρ=some r): ∃v,VR E w.heap v (a.eval x)/\(f v).leaf E.ρ=some r:=by
 unfold yh at h;split at h
 ·rename_i v hv; exact⟨v,fS sr hv,h⟩
 ·simp [T.leaf] at h
theorem gz {s s':St} {v:W} {r:Option W} {ρ:Nat->Int} (h:(oP s r).leaf ρ=some (v,s')):r=some v/\s'=s:=by
 unfold oP at h;split at h
 ·have:=bC h; simp only [ak] at this; exact⟨by rw [this.1],this.2.symm⟩
 ·simp [T.leaf] at h
theorem yb {s s':St} {v:W} {r:Option Hp} {ρ:Nat->Int} (h:(M1 s r).leaf ρ=some (v,s')): ∃H,r=some H/\v=W.undef/\s'= { s with h:=H }:=by
 unfold M1 at h;split at h
 ·rename_i H; have:=bC h; simp only [ak] at this; exact⟨H,rfl,this.1.symm,this.2.symm⟩
 ·simp [T.leaf] at h
theorem oO {s s':St} {v:W} {r:Option (W×Hp)} {ρ:Nat->Int} (h:(AY s r).leaf ρ=some (v,s')): ∃H,r=some (v,H)/\s'= { s with h:=H }:=by
 unfold AY at h;split at h
 ·rename_i x H; have:=bC h; simp only [ak] at this; obtain⟨rfl,rfl⟩:=this; exact⟨H,rfl,rfl⟩
 ·simp [T.leaf] at h
theorem jN {h:Array Obj}:VR E h W.undef undef:=by simp only [W.undef,VR,cA]; exact⟨[],rfl,rfl⟩
variable {s s':St} {o:Oper} {a:Act} {v:W}
theorem jA.pure [bI] (hp:bW E.ρ s.pc) (r:bO E s.h w) {u:Value} (h:(execOp a.eval o).run P w= .ok (.value u) w) (hv:VR E w.heap v u):jA P E s o a w v s:=
 ⟨rfl,hp,oC.value h ⟨E,eN.refl _ _ _,r,hv⟩⟩
theorem jA.heap [bI] {H':Hp} {E':En} {w':World} (hp:bW E.ρ s.pc) {u:Value} (h:(execOp a.eval o).run P w= .ok (.value u) w') (U:eN E s.h w E' H' w') (Z:bO E' H' w') (hv:VR E' w'.heap v u) :
 jA P E s o a w v { s with h:=H' }:=
 ⟨rfl,hp,oC.value h ⟨E',U,Z,hv⟩⟩
theorem jA.unit [bI] {H':Hp} {w':World} (hp:bW E.ρ s.pc) (h:(execOp a.eval o).run P w= .ok .skip w') (U:eN E s.h w E H' w') (Z:bO E H' w') :
 jA P E s o a w W.undef { s with h:=H' }:=
 ⟨rfl,hp,oC.skip h ⟨E,U,Z,jN⟩⟩
end
theorem xA {α:Type} {ρ:Nat->Int} {kk:TK} {k:W} {r:α} {f:St->T α}: ∀{es:List (W×W×Nat)} {s:St},bW ρ s.pc->(s5 kk k es s f).leaf ρ=some r->∃dY,bW ρ dY/\(f { s with pc:=dY }).leaf ρ=some r
 |[],s,hp,h=> ⟨s.pc,hp,h⟩
 |(k',v,b)::es,s,hp,h=>by
  simp only [s5] at h;split at h
  ·split at h
   ·exact⟨s.pc,hp,h⟩
   ·exact xA hp h
  ·split at h
   ·obtain⟨fA,fk,U⟩:=cH hp h;split at U
    ·grind
    ·obtain⟨jt,jk,Z⟩:=xA (s:={ s with pc:=fA }) fk U
     grind
   ·exact⟨s.pc,hp,h⟩
theorem pG {α:Type} {ρ:Nat->Int} {tt:TT} {t:Nat} {m k:W} {r:α} {f:St->T α} {s:St} (hp:bW ρ s.pc) (h:(ny tt t m k s f).leaf ρ=some r): ∃dY,bW ρ dY/\(f { s with pc:=dY }).leaf ρ=some r:=by
 unfold ny at h;split at h
 ·split at h
  ·split at h
   ·split at h
    ·exact xA hp h
    ·exact⟨s.pc,hp,h⟩
   ·exact⟨s.pc,hp,h⟩
  ·exact⟨s.pc,hp,h⟩
 ·exact⟨s.pc,hp,h⟩
theorem Lm {ρ:Nat->Int} {k:IntKind} {e:V} {f:W->St->T (W×St)} {r:W×St}: ∀(n j:Nat) {s:St},bW ρ s.pc->(j:Int)<=e.den ρ->e.den ρ<(j:Int)+n->(Ln k e f n j s).leaf ρ=some r->
 ∃(i:Nat) (dY:List (SB×Bool)),bW ρ dY/\e.den ρ=(i:Int)/\(f (.int k (.lit (Int.ofNat i))) { s with pc:=dY }).leaf ρ=some r
 |0,j,s,_,_,_,h=>by simp [Ln,T.leaf] at h
 |n+1,j,s,hp,U,Z,h=>by
  simp only [Ln] at h;split at h
  ·exact⟨j,s.pc,hp,J,h⟩
  ·obtain⟨fA,fk,h3⟩:=cH hp h;rw [gv] at h3;split at h3
   ·rename_i he;simp only [V.den,beq_iff_eq] at he
    grind
   ·rename_i he;simp only [V.den,beq_eq_false_iff_ne,ne_eq] at he;have hj:(Int.ofNat j)=(j:Int):=rfl;rw [hj] at he;obtain⟨i,jt,jk,q1,q2⟩:=Lm n (j+1) (s:={ s with pc:=fA }) fk (by push_cast; omega) (by push_cast at Z ⊢; omega) h3
    grind
theorem nj {α:Type} {ρ:Nat->Int} {s:St} (hp:bW ρ s.pc) {i n:V} {f:St->T α} {r:α} (h:(yi s i n f).leaf ρ=some r) :
 ∃dY,bW ρ dY/\0<=i.den ρ/\i.den ρ<n.den ρ/\(f { s with pc:=dY }).leaf ρ=some r:=by
 unfold yi at h;obtain⟨fA,fk,U⟩:=cH hp h;split at U
 ·simp [T.leaf] at U
 ·rename_i e1;rw [dQ,decide_eq_false_iff_not] at e1;obtain⟨jt,jk,Z⟩:=cH (s:={ s with pc:=fA }) fk U;split at Z
  ·rename_i e2;rw [dQ,decide_eq_true_eq] at e2;simp only [V.den,ami] at e1
   grind
  ·simp [T.leaf] at Z
theorem zo {E:En} {h0:Array Obj} {tt:TT} {t:Nat} {x ix:W} {ui:Value} {f:W->St->T (W×St)} {r:W×St} {s:St} (hp:bW E.ρ s.pc) (yE:VR E h0 ix ui) (h:(Hj tt t x ix s f).leaf E.ρ=some r) :
 ∃ix' dY,bW E.ρ dY/\VR E h0 ix' ui/\(f ix' { s with pc:=dY }).leaf E.ρ=some r:=by
 unfold Hj at h;split at h
 ·exact⟨ix,s.pc,hp,yE,h⟩
 ·split at h
  ·rename_i k e _;split at h
   ·rename_i n hn;obtain⟨fA,fk,U,Z,h3⟩:=nj hp h;simp only [V.den] at Z;obtain⟨i,jt,jk,q1,q2⟩:=Lm n 0 (s:={ s with pc:=fA }) fk (by simpa using U) (by simpa using Z) h3;refine⟨_,jt,jk,?_,q2⟩;simp only [VR,V.den] at yE ⊢
    grind
   ·simp [T.leaf] at h
  ·simp [T.leaf] at h
theorem F8 {ro:Nat->Prop} {h:Array Obj} {t:Nat} {d:D} {v:Value} (r:Rd ro h (.sl t) d v):(0<d.l.length->∃a n cap,v= .slice (some a) n cap)/\(d= .i 1->v= .slice none 0 0)/\(d= .i 2->∃a n cap,v= .slice (some a) n cap):=by
 generalize hc:CK.sl t=c at r
 cases r with
 |int k n=>simp at hc
 |bool b=>simp at hc
 |str s=>simp at hc
 |nil t=>exact⟨by simp [D.l],fun _=>rfl,ad⟩
 |vz t a cap=>exact⟨by simp [D.l],ad,fun _=> ⟨a,0,cap,rfl⟩⟩
 |one t c b o cap ds f hr fQ Y U Z=>exact⟨fun _=> ⟨_,_,_,rfl⟩,fun q=>by cases ds<;>simp [dL] at q,fun q=>by cases ds<;>simp [dL] at q⟩
 |many t cs b o cap rows f hr fQ Y hl U Z=>exact⟨fun _=> ⟨_,_,_,rfl⟩,fun q=>by cases rows<;>simp [dL] at q,fun q=>by cases rows<;>simp [dL] at q⟩
theorem H4 {P:Program} {E:En} {w:World} {tt:TT} (cJ:ew P tt) {t e:Nat} {ti:TI} (fU:tt t=some ti) (hk:ti.kind= .slice e) {u:Value} {b:Bool} (hu:(b=true/\u= .slice none 0 0)\/(b=false/\∃a n cap,u= .slice (some a) n cap)) {s s':St} {op:BinOp} {v:W} {ρ:Nat->Int}
 (h:(WQ s op b).leaf ρ=some (v,s')):s'=s/\∃y,(binOp op t u (.slice none 0 0)).run P w= .ok y w/\VR E w.heap v y/\(∀cs ds,¬(u= .agg cs/\(Value.slice none 0 0)= .agg ds))/\¬(u= .nilIface/\(Value.slice none 0 0)= .nilIface):=by
 obtain⟨d,U,Z⟩:=rz (cJ t ti fU);rw [hk] at Z
 have he:(Op.equal t u (.slice none 0 0)).run P w= .ok b w:=by have hm:Op.equal t u (.slice none 0 0)=Op.equalIn (9999+1) t u (.slice none 0 0):=rfl;rw [hm];generalize (9999:Nat)=n;cases d<;>simp only [Hn] at Z;rcases hu with ⟨rfl,rfl⟩|⟨rfl,a,m,cap,rfl⟩ <;>simp [Op.equalIn,xY U]
 have Ir:(∀k n,u≠.int k n)/\(∀s,u≠.string s)/\(∀k n,u≠.float k n)/\(∀k n m,u≠.complex k n m):=by
  grind
 obtain⟨q1,q2⟩:=binOp_eql he Ir.1 Ir.2.1 Ir.2.2.1 Ir.2.2.2;unfold WQ at h;split at h
 ·simp only [T.leaf,ag,ak] at h;obtain⟨rfl,rfl⟩:=h;exact⟨rfl,_,q1,by simp only [VR,SB.den],ad,ad⟩
 ·simp only [T.leaf,ag,ak] at h;obtain⟨rfl,rfl⟩:=h;exact⟨rfl,_,q2,by simp only [VR,SB.den],ad,ad⟩
 ·simp [T.leaf] at h
theorem J? {P:Program} {E:En} {w:World} {tt:TT} (cJ:ew P tt) {t:Nat} {a b:W} {e:V} (hn:Nj tt t a b=some e) {u u':Value} (ha:VR E w.heap a u) (Y:VR E w.heap b u') {s s':St} (hp:bW E.ρ s.pc) {op:BinOp} {v:W} (h:(ad5 s e op).leaf E.ρ=some (v,s')) :
 s'.bE=s.bE/\s'.h=s.h/\bW E.ρ s'.pc/\∃y,(binOp op t u u').run P w= .ok y w/\VR E w.heap v y/\(∀cs ds,¬(u= .agg cs/\u'= .agg ds))/\¬(u= .nilIface/\u'= .nilIface):=by
 unfold Nj at hn;split at hn
 ·split at hn
  ·split at hn
   ·rename_i ti fU;split at hn
    ·rename_i el hk;simp only [ag] at hn;subst hn;simp only [VR] at ha Y;subst Y;obtain⟨k1,k2,k3⟩:=F8 ha;unfold ad5 at h;obtain⟨fA,fk,U⟩:=cH hp h;split at U
     ·rename_i t1;rw [dQ,decide_eq_true_eq,cC] at t1;simp only [V.den] at t1;obtain⟨rfl,q⟩:=H4 (P:=P) (E:=E) (w:=w) cJ fU hk (.inr ⟨rfl,k1 J⟩) U
      grind
     ·obtain⟨jt,jk,Z⟩:=cH (s:={ s with pc:=fA }) fk U;split at Z
      ·rename_i t2;rw [gY,lI,beq_iff_eq] at t2;simp only [V.den] at t2;obtain⟨rfl,q⟩:=H4 (P:=P) (E:=E) (w:=w) cJ fU hk (.inl ⟨rfl,k2 (gN t2)⟩) Z
       grind
      ·obtain⟨T5,Iq,h3⟩:=cH (s:={ s with pc:=jt }) jk Z;split at h3
       ·rename_i t3;rw [gY,lI,beq_iff_eq] at t3;simp only [V.den] at t3;obtain⟨rfl,q⟩:=H4 (P:=P) (E:=E) (w:=w) cJ fU hk (.inr ⟨rfl,k3 (gN t3)⟩) h3
        grind
       ·simp [T.leaf] at h3
    grind
   grind
  grind
 grind
end Go.As
end

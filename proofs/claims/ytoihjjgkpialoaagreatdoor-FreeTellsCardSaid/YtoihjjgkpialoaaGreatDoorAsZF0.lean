import GoSem.Claim
import Derived.Orders
import Derived.Scope
import Derived.LoopN
import Derived.Below
import GoSem.Core.View
import GoSem.Core.Layout
import GoSem.Op.Equal
import Derived.WalkKit
import Derived.Lib.Strings
import Derived.Laws.IdiomStrings
import Derived.Laws.RangeString
import Derived.Laws.StructEq
set_option linter.unusedSectionVars false
set_option linter.unusedVariables false
set_option linter.unusedSimpArgs false
abbrev af:=@if_neg
abbrev ag:=@if_pos
abbrev ah:=@Option.some.injEq
abbrev ak:=@Prod.mk.injEq
abbrev an:=@Bool.and_eq_true
abbrev aq:=@List.getElem_mem
abbrev au:=@List.nil_append
abbrev aw:=@Int.lt_irrefl
abbrev ax:=@Nat.le_refl
abbrev ay:=@Option.getD_some
abbrev az:=@Nat.eq_of_beq_eq_true
abbrev aA:=@List.map_cons
abbrev aC:=@List.drop_eq_getElem_cons
abbrev aF:=@List.getElem?_cons_zero
abbrev aG:=@List.getElem?_cons_succ
abbrev aH:=@List.mem_cons
abbrev aK:=@Nat.zero_add
abbrev aL:=@Int.natCast_one
abbrev aM:=@List.cons_append
abbrev aN:=@List.getElem?_eq_getElem
abbrev aO:=@Option.map_eq_some_iff
abbrev aP:=@List.all_eq_true
abbrev aQ:=@Bool.false_eq_true
abbrev aR:=@List.mem_map
abbrev aT:=@List.length_cons
abbrev aW:=@Int.toNat_natCast
abbrev aX:=@List.drop_of_length_le
abbrev aY:=@List.length_map
abbrev aZ:=@Nat.lt_or_ge
abbrev a8:=@List.length_take
abbrev bc:=@List.length_append
abbrev bd:=@List.singleton_append
abbrev bg:=@List.getElem?_eq_some_iff
abbrev bh:=@List.append_nil
abbrev bj:=@List.length_nil
abbrev bk:=@List.getElem?_map
abbrev bn:=@Array.length_toList
abbrev bo:=@List.length_drop
abbrev bp:=@List.append_assoc
abbrev bq:=@Nat.le_trans
abbrev arq:=@List.mem_of_getElem?
abbrev art:=@Int.natCast_zero
abbrev aru:=@List.map_nil
abbrev arv:=@List.mem_of_mem_drop
abbrev arw:=@Nat.le_of_ble_eq_true
abbrev arx:=@List.mem_of_mem_take
abbrev ary:=@Array.getElem?_toList
abbrev arz:=@Nat.add_assoc
abbrev arA:=@Nat.add_zero
abbrev arB:=@Option.map_some
abbrev arC:=@List.drop_zero
abbrev arD:=@Nat.zero_mul
abbrev arE:=@List.mem_range
abbrev arF:=@List.mem_cons_self
abbrev arG:=@List.mem_append
abbrev arH:=@List.getElem?_eq_none
abbrev arI:=@List.length_eq_zero_iff
abbrev arJ:=@Option.isSome_some
abbrev arK:=@Nat.add_mul
abbrev arL:=@List.eq_nil_of_length_eq_zero
abbrev arM:=@Bool.eq_iff_iff
abbrev arN:=@List.not_mem_nil
abbrev arO:=@Nat.le_succ
abbrev arP:=@Array.getElem?_eq_some_iff
abbrev arQ:=@Bool.or_eq_true
abbrev arR:=@Bool.not_eq_true'
abbrev arS:=@List.mem_cons_of_mem
abbrev arT:=@List.map_map
abbrev arU:=@Nat.mod_eq_of_lt
abbrev arV:=@Nat.lt_of_lt_of_le
abbrev arW:=@List.mem_filter
abbrev arX:=@UInt8.toNat_ofNat'
abbrev arY:=@List.length_pos_iff
abbrev arZ:=@Nat.zero_le
abbrev ar0:=@Option.isSome_iff_exists
abbrev ar1:=@List.take_of_length_le
abbrev ar2:=@Option.getD_none
abbrev ar3:=@List.getElem_of_mem
abbrev ar4:=@List.map_congr_left
abbrev ar5:=@Array.getD_eq_getD_getElem?
abbrev ar6:=@Nat.mul_le_mul_right
abbrev ar7:=@Int.not_lt
abbrev ar8:=@List.take_append_drop
abbrev ar9:=@Nat.eq_zero_or_pos
abbrev asa:=@List.length_replicate
abbrev asb:=@Nat.one_mul
abbrev asc:=@List.getElem?_take
abbrev asd:=@List.take_succ_cons
abbrev ase:=@Bool.eq_false_iff
abbrev asf:=@Bool.false_or
abbrev asg:=@Array.getElem?_replicate
abbrev ash:=@Nat.blt_eq
abbrev asi:=@List.getElem?_nil
abbrev asj:=@Int.ofNat_inj
abbrev asl:=@List.getElem?_drop
abbrev asm:=@List.mem_iff_getElem?
abbrev asn:=@Nat.ne_of_beq_eq_false
abbrev aso:=@Int.tmod_lt_of_pos
abbrev asp:=@List.ext_getElem?
abbrev asq:=@List.mapM_cons
abbrev asr:=@List.map_take
abbrev ass:=@List.getElem?_eq_none_iff
abbrev ast:=@List.take_length
abbrev asu:=@Nat.mul_pos
abbrev asv:=@Bool.not_true
abbrev asw:=@Nat.ble_eq_true_of_le
abbrev asx:=@List.getElem?_range
abbrev asy:=@List.getElem_map
abbrev asz:=@Int.toNat_zero
abbrev asA:=@Nat.pow_succ
abbrev asB:=@List.map_id
abbrev asC:=@Option.bind_eq_some_iff
abbrev asD:=@Bool.or_false
abbrev asE:=@List.map_drop
abbrev asF:=@List.set_cons_zero
abbrev asG:=@List.set_cons_succ
abbrev asH:=@List.foldlM_cons
abbrev asI:=@List.take_zero
abbrev asJ:=@Nat.mul_one
abbrev asK:=@List.length_set
abbrev asL:=@Int.ofNat_lt
abbrev asM:=@List.map_append
abbrev asN:=@List.eq_nil_iff_forall_not_mem
abbrev asO:=@List.any_eq_true
abbrev asP:=@List.getD_eq_getElem?_getD
abbrev asQ:=@List.all_append
abbrev asR:=@List.take_succ_eq_append_getElem
abbrev asS:=@List.mem_append_right
abbrev asT:=@Nat.pow_zero
abbrev asU:=@Nat.mul_comm
abbrev asV:=@Option.bind_eq_bind
abbrev asW:=@List.getElem?_append
abbrev asX:=@Nat.mul_le_mul
abbrev asY:=@List.eraseIdx_cons_succ
abbrev asZ:=@Array.toList_map
abbrev as0:=@Nat.le_of_mul_le_mul_right
abbrev as2:=@List.take_set_of_le
abbrev as3:=@List.drop_set_of_lt
abbrev as4:=@Nat.div_mul_le_self
abbrev as5:=@List.mem_singleton
abbrev as6:=@List.replicate_succ
abbrev as7:=@Nat.lt_trichotomy
abbrev as8:=@Array.mem_of_getElem?
abbrev as9:=@List.length_reverse
abbrev ata:=@List.getElem?_toArray
abbrev atb:=@Array.getElem?_eq_none
abbrev atc:=@Array.getElem?_setIfInBounds
abbrev atd:=@Nat.sub_zero
abbrev ate:=@List.mem_map_of_mem
abbrev atf:=@Bool.true_or
abbrev atg:=@List.sum_cons
abbrev ath:=@List.mem_append_left
abbrev ati:=@Array.getElem?_modify
abbrev atj:=@Array.getElem?_append_left
abbrev atk:=@List.getElem?_append_right
abbrev atl:=@List.eq_of_mem_replicate
abbrev atn:=@Array.mapM_eq_mapM_toList
abbrev ato:=@Array.getElem?_eq_none_iff
abbrev atp:=@Array.getElem?_eq_getElem
abbrev atq:=@Nat.add_sub_cancel_left
abbrev atr:=@List.contains_iff_mem
abbrev att:=@List.set_getElem_self
abbrev atu:=@List.getElem_set_self
theorem J{P:Prop}(h:P:=by omega):P:=h
theorem aa{P:Prop}(h:P:=by kernel_rfl):P:=h
theorem ad{P:Prop}(h:P:=by simp):P:=h
theorem ae{P:Prop}(h:P:=by decide):P:=h
section
namespace Go.As
inductive Tr (α:Type) where
 |nil
 |node (v:Option α) (l r:Tr α)
 deriving Inhabited
noncomputable def Tr.get {α:Type} (t:Tr α) (k:Nat):Option α:=
 Tr.rec (motive:=fun _=>Nat->Option α) (fun _=>none)
  (fun v _ _ il ir k=>Nat.rec (motive:=fun _=>Option α) v (fun k' _=>Bool.rec (motive:=fun _=>Option α) (ir (Nat.div k' 2)) (il (Nat.div k' 2)) (Nat.beq (Nat.mod k' 2) 0)) k) t k
def Tr.val {α:Type}:Tr α->Option α
 | .nil=>none
 | .node v _ _=>v
def Tr.left {α:Type}:Tr α->Tr α
 | .nil=> .nil
 | .node _ l _=>l
def Tr.right {α:Type}:Tr α->Tr α
 | .nil=> .nil
 | .node _ _ r=>r
noncomputable def Tr.mkL {α:Type} (v:Option α) (x r:Tr α):Tr α:=Tr.rec (motive:=fun _=>Tr α) (.node v .nil r) (fun a b c _ _=> .node v (.node a b c) r) x
noncomputable def Tr.mkR {α:Type} (v:Option α) (l x:Tr α):Tr α:=Tr.rec (motive:=fun _=>Tr α) (.node v l .nil) (fun a b c _ _=> .node v l (.node a b c)) x
noncomputable def Tr.Xc {α:Type} (f:Nat):Tr α->Nat->Option α->Tr α:=
 Nat.rec (motive:=fun _=>Tr α->Nat->Option α->Tr α) (fun t _ _=>t)
  (fun _ ih t k x=>Tr.rec (motive:=fun _=>Tr α)
   (Nat.rec (motive:=fun _=>Tr α) (.node x .nil .nil) (fun k' _=>Bool.rec (motive:=fun _=>Tr α) (Tr.mkR none .nil (ih .nil (Nat.div k' 2) x)) (Tr.mkL none (ih .nil (Nat.div k' 2) x) .nil) (Nat.beq (Nat.mod k' 2) 0)) k)
   (fun v l r _ _=>Nat.rec (motive:=fun _=>Tr α) (.node x l r) (fun k' _=>Bool.rec (motive:=fun _=>Tr α) (Tr.mkR v l (ih r (Nat.div k' 2) x)) (Tr.mkL v (ih l (Nat.div k' 2) x) r) (Nat.beq (Nat.mod k' 2) 0)) k) t) f
noncomputable def Tr.put {α:Type} (t:Tr α) (k:Nat) (v:Option α):Tr α:=Tr.Xc (Nat.succ k) t k v
theorem aeX (a b:Nat):Nat.beq a b=decide (a=b):=by rw [arM];simp
theorem Ep {β:Sort _} (a b:β) (c:Nat):Bool.rec (motive:=fun _=>β) a b (Nat.beq c 0)=if c=0 then b else a:=by
 by_cases h:c=0
 ·subst h; rfl
 ·rw [af h];have:Nat.beq c 0=false:=by rw [aeX]; simpa using h
  rw [this]
theorem Tr.pS {α:Type} (v:Option α) (l r:Tr α) (k:Nat) :
 (Tr.node v l r).get k=if k=0 then v else if (k-1) % 2=0 then l.get ((k-1) / 2) else r.get ((k-1) / 2):=by
 cases k with
 |zero=>rfl
 |succ k=> simp only [Nat.add_sub_cancel,Nat.succ_ne_zero,if_false];exact Ep _ _ _
theorem Tr.ym {α:Type} (t:Tr α) (k:Nat) :
 t.get k=if k=0 then t.val else if (k-1) % 2=0 then t.left.get ((k-1) / 2) else t.right.get ((k-1) / 2):=by
 cases t with
 |nil=> have h: ∀j,(Tr.nil:Tr α).get j=none:=fun _=>rfl;simp [h,Tr.val,Tr.left,Tr.right]
 |node v l r=>rw [Tr.pS]; rfl
theorem Tr.ajV {α:Type} (v:Option α) (x r:Tr α):Tr.mkL v x r= .node v x r:=by cases x<;>rfl
theorem Tr.ajU {α:Type} (v:Option α) (l x:Tr α):Tr.mkR v l x= .node v l x:=by cases x<;>rfl
theorem Tr.Xa {α:Type} (f:Nat) (t:Tr α) (v:Option α):Tr.Xc (f+1) t 0 v= .node v t.left t.right:=by cases t<;>rfl
theorem Tr.Xb {α:Type} (f:Nat) (t:Tr α) (k:Nat) (v:Option α):Tr.Xc (f+1) t (k+1) v=if k % 2=0 then .node t.val (Tr.Xc f t.left (k / 2) v) t.right else .node t.val t.left (Tr.Xc f t.right (k / 2) v):=by rw [<- Tr.ajV,<- Tr.ajU];cases t<;>exact Ep _ _ _
theorem Tr.aah {α:Type}: ∀(f:Nat) (t:Tr α) (k:Nat) (v:Option α) (j:Nat),k<f->(Tr.Xc f t k v).get j=if j=k then v else t.get j:=by
 intro f
 induction f with
 |zero=>intro t k v j hk; omega
 |succ f ih=>
  intro t k v j hk
  cases k with
  |zero=> rw [Tr.Xa,Tr.pS,Tr.ym t];split<;>simp_all
  |succ k=>
   rw [Tr.Xb,Tr.ym t j];split
   ·rename_i h;rw [Tr.pS];by_cases hj:j=0
    ·subst hj; simp
    ·rw [af hj,af hj];by_cases Z:(j-1) % 2=0
     ·rw [ag Z,ag Z,ih _ _ _ _ J];by_cases h3:j=k+1
      ·subst h3; simp
      ·rw [af h3,af J]
     ·rw [af Z,af Z,af (by intro h3; subst h3; simp at Z; omega)]
   ·rename_i h;rw [Tr.pS];by_cases hj:j=0
    ·subst hj; simp
    ·rw [af hj,af hj];by_cases Z:(j-1) % 2=0
     ·rw [ag Z,ag Z,af (by intro h3; subst h3; simp at Z; omega)]
     ·rw [af Z,af Z,ih _ _ _ _ J];by_cases h3:j=k+1
      ·subst h3; simp
      ·rw [af h3,af J]
theorem Tr.bV {α:Type} (t:Tr α) (k:Nat) (v:Option α) (j:Nat):(t.put k v).get j=if j=k then v else t.get j:=
 Tr.aah (Nat.succ k) t k v j (Nat.lt_succ_self _)
inductive D where
 |i (n:Int)
 |p (a b:D)
 deriving DecidableEq,Inhabited
def zN:Int->Nat
 | .ofNat n=>2*n
 | .negSucc n=>2*n+1
theorem Zn {a b:Int} (h:zN a=zN b):a=b:=by
 cases a<;>cases b<;>simp only [zN] at h
 all_goals grind
def qB (a b:Nat):Nat:=2 ^ a*(2*b+1)
theorem CM: ∀{a a' b b':Nat},qB a b=qB a' b'->a=a'/\b=b'
 |0,0,b,b',h=>by simp only [qB,asT,asb] at h; omega
 |0,a'+1,b,b',h=>by
  simp only [qB,asT,asb,asA] at h
  grind
 |a+1,0,b,b',h=>by
  simp only [qB,asT,asb,asA] at h
  grind
 |a+1,a'+1,b,b',h=>by
  have U:2 ^ (a+1)*(2*b+1)=2*qB a b:=by unfold qB; rw [asA,asU (2 ^ a) 2,Nat.mul_assoc]
  have Z:2 ^ (a'+1)*(2*b'+1)=2*qB a' b':=by unfold qB; rw [asA,asU (2 ^ a') 2,Nat.mul_assoc]
  have h3:qB a b=qB a' b':=by
   have:qB (a+1) b=qB (a'+1) b':=h;unfold qB at this
   grind
  obtain⟨e1,e2⟩:=CM h3
  grind
def D.enc:D->Nat
 | .i n=>2*zN n
 | .p a b=>2*qB a.enc b.enc+1
theorem D.eQ: ∀{a b:D},a.enc=b.enc->a=b
 | .i n,.i m,h=>by simp only [D.enc] at h;rw [Zn (a:=n) (b:=m) J]
 | .i n,.p a b,h=>by simp only [D.enc] at h; omega
 | .p a b,.i n,h=>by simp only [D.enc] at h; omega
 | .p a b,.p c d,h=>by simp only [D.enc] at h;obtain⟨U,Z⟩:=CM (a:=a.enc) (b:=b.enc) (a':=c.enc) (b':=d.enc) J;rw [D.eQ U,D.eQ Z]
open Classical in
noncomputable def dec (z:Int):D:=if h: ∃d:D,(d.enc:Int)=z then h.choose else .i 0
def enc (d:D):Int:=(d.enc:Int)
theorem bA (d:D):dec (enc d)=d:=by unfold dec;have h: ∃d':D,(d'.enc:Int)=enc d:=⟨d,rfl⟩;rw [dif_pos h];have:=h.choose_spec;apply D.eQ;unfold enc at this;exact Int.ofNat.inj this
theorem eQ {a b:D} (h:enc a=enc b):a=b:=by rw [<- bA a,h,bA]
def D.n:D->Int
 | .i n=>n
 | .p _ _=>0
def D.l:D->List D
 | .i _=>[]
 | .p a b=>a::b.l
def dL:List D->D
 |[]=> .i 0
 |a::l=> .p a (dL l)
@[simp] theorem bz: ∀l:List D,(dL l).l=l
 |[]=>rfl
 |a::l=>by simp [dL,D.l,bz l]
theorem HK {a b:List D} (h:dL a=dL b):a=b:=by rw [<- bz a,h,bz]
def D.at (d:D) (i:Int):D:=(d.l[i.toNat]?).getD (.i 0)
def D.V (d:D) (j:Nat):D:=(d.l[j]?).getD (.i 0)
def rH (l:List UInt8):D:=dL (l.map fun b=> .i (b.toNat:Int))
def vS (s:ByteArray):D:=rH s.data.toList
def l9 (l:List Nat):D:=dL (l.map fun b=> .i (Int.ofNat b))
theorem TE {a b:List UInt8} (h:rH a=rH b):a=b:=by
 have:=HK h
 have OH: ∀{x y:UInt8},(D.i (x.toNat:Int))= .i (y.toNat:Int)->x=y:=by intro x y h;simp only [D.i.injEq,asj] at h;exact UInt8.toNat_inj.1 h
 induction a generalizing b with
 |nil=>cases b with
  |nil=>rfl
  |cons y b=>simp at this
 |cons x a ih=>cases b with
  |nil=>simp at this
  |cons y b=> simp only [aA,List.cons.injEq] at this;rw [OH this.1,ih (by unfold rH; rw [this.2]) this.2]
theorem HH {a b:ByteArray} (h:vS a=vS b):a=b:=by
 have:=TE h
 cases a with
 |mk x=>cases b with
  |mk y=>simp only [ByteArray.mk.injEq] at *; exact Array.toList_inj.1 this
theorem BJ (l:List Nat) (h: ∀b∈l,b<256):l9 l=rH (l.map UInt8.ofNat):=by unfold l9 rH;congr 1;rw [arT];apply ar4;intro b hb;have:=h b hb;simp [arU this]
theorem acj (s:ByteArray):(vS s).l.length=s.size:=by unfold vS rH;rw [bz,aY];rfl
inductive gT where
 |len
 |at
 |cell (j:Nat)
 |num
 |mk
 |cons
 |snoc
 |cat
 |take
 |drop
 |set
 |bit
 |norm
 |sub
 |fill
 |idx
 |cnt
 |con
 |slt
 |EB
 |EC
 |Of
 |RT
 |rep
 deriving DecidableEq,Inhabited
def fZ (d:D) (l:List D):D:=match l with
 |[]=>if d= .i 1 then .i 1 else .i 2
 |l=>dL l
theorem bB (d:D) (l:List D):(fZ d l).l=l:=by
 cases l with
 |nil=>simp only [fZ]; split<;>rfl
 |cons a l=>simp [fZ]
theorem BI {d:D} {l:List D} (h:l≠[]):fZ d l=dL l:=by
 cases l with
 |nil=>exact absurd rfl h
 |cons a l=>rfl
theorem qV {d:D} (h:d≠.i 1):fZ d []= .i 2:=by
 show (if d= .i 1 then D.i 1 else D.i 2)= .i 2
 grind
theorem X6 {d:D} (h:d≠.i 1) (l:List D):fZ d l≠.i 1:=by
 cases l with
 |nil=>rw [qV h]; simp
 |cons a l=>simp [fZ,dL]
theorem Ae {d:D} {l m:List D} (h:d= .i 1->l= []):fZ (fZ d l) m=fZ d m:=by
 cases m with
 |cons a m=>rfl
 |nil=>
  by_cases U:d= .i 1
  ·rw [h U,U]; rfl
  ·rw [qV U,qV (X6 U l)]
def sH (z:Int):List D->Int->Int
 |[],_=> -1
 |d::l,i=>match d with
  | .i n=>if n=z then i else sH z l (i+1)
  |_=>sH z l (i+1)
def HL (l:List D) (z:Int):Int:=sH z l 0
def Dl:List D->List D->Bool
 |[],_=>true
 |_::_,[]=>false
 |a::x,b::y=>decide (a=b)&&Dl x y
def BK (l x:List D):Bool:=match l with
 |[]=>Dl x []
 |a::l=>Dl x (a::l)||BK l x
def acp (l:List D) (z:Int):Int:=match l with
 |[]=>0
 |d::l=>(if d= .i z then 1 else 0)+acp l z
def Pp:List D->List D->Bool
 |[],[]=>false
 |[],_::_=>true
 |_::_,[]=>false
 |a::x,b::y=>if a.n<b.n then true else if b.n<a.n then false else Pp x y
def dE (ds:List D) (z:Int) (x:D):List D:=if z<0 then ds else ds.set z.toNat x
theorem ej (ds:List D) (z:Int) (x:D):(dE ds z x).length=ds.length:=by
 unfold dE; split
 all_goals grind
theorem pA (ds:List D) (k:Nat) (x:D):dE ds (k:Int) x=ds.set k x:=by unfold dE; rw [af J]; rfl
def TD:D->D
 | .p k _=>k
 |d=>d
def aci:D->D
 | .p _ v=>v
 |d=>d
def lE:List D->D->Option D
 |[],_=>none
 |d::l,k=>if TD d=k then some (aci d) else lE l k
def vM:List D->D->D->List D
 |[],k,v=>[.p k v]
 |d::l,k,v=>if TD d=k then .p k v::l else d::vM l k v
def Ly:List D->D->List D
 |[],_=>[]
 |d::l,k=>if TD d=k then l else d::Ly l k
noncomputable def gT.den (o:gT) (x y:Int):Int:=match o with
 | .len=>((dec x).l.length:Int)
 | .at=>enc ((dec x).at y)
 | .cell j=>enc ((dec x).V j)
 | .num=>(dec x).n
 | .mk=>enc (.i x)
 | .cons=>enc (.p (dec x) (dec y))
 | .snoc=>enc (dL ((dec x).l++ [dec y]))
 | .cat=>enc (dL ((dec x).l++(dec y).l))
 | .take=>enc (fZ (dec x) ((dec x).l.take y.toNat))
 | .drop=>enc (fZ (dec x) ((dec x).l.drop y.toNat))
 | .set=>match dec y with
   | .p q v=>enc (dL (dE (dec x).l q.n v))
   |_=>x
 | .bit=>enc (.i (if (dec x).n=0 then 0 else 1))
 | .norm=>enc (dec x)
 | .sub=>enc (dL (((dec x).l.take ((dec y).V 1).n.toNat).drop ((dec y).V 0).n.toNat))
 | .fill=>match dec y with
   | .p q v=>enc (dL ((dec x).l.take q.n.toNat++List.replicate ((dec x).l.length-q.n.toNat) v))
   |_=>x
 | .idx=>HL (dec x).l y
 | .cnt=>acp (dec x).l y
 | .con=>if BK (dec x).l (dec y).l then 1 else 0
 | .slt=>if Pp (dec x).l (dec y).l then 1 else 0
 | .EB=>if (lE (dec x).l (dec y)).isSome then 1 else 0
 | .EC=>enc ((lE (dec x).l (dec y)).getD (.i 0))
 | .Of=>match dec y with
   | .p k v=>enc (dL (vM (dec x).l k v))
   |_=>x
 | .RT=>enc (dL (Ly (dec x).l (dec y)))
 | .rep=>enc (dL (List.replicate x.toNat (dec y)))
def gT.tag:gT->Nat
 | .len=>0
 | .at=>1
 | .cell j=>j+23
 | .num=>2
 | .mk=>3
 | .cons=>4
 | .snoc=>5
 | .cat=>6
 | .take=>7
 | .drop=>8
 | .set=>9
 | .bit=>10
 | .norm=>11
 | .sub=>12
 | .fill=>13
 | .idx=>14
 | .cnt=>15
 | .con=>16
 | .slt=>17
 | .EB=>18
 | .EC=>19
 | .Of=>20
 | .RT=>21
 | .rep=>22
theorem gT.adm {a b:gT} (h:a.tag=b.tag):a=b:=by
 cases a<;>cases b<;>simp only [gT.tag] at h<;>first |rfl|(congr 1; omega)|omega
inductive CK where
 |int (k:IntKind)
 |bool
 |str
 |sl (t:Nat)
 deriving DecidableEq,Inhabited
inductive Row where
 |one (c:CK)
 |many (cs:List CK)
 deriving DecidableEq,Inhabited
def Row.es:Row->Nat
 | .one _=>1
 | .many cs=>cs.length
def rowOf (t:Nat):Row:=match t with
 |0=> .one (.int .i64)
 |1=> .one (.int .i64)
 |2=> .one .str
 |3=> .many [.int .u8,.str,.int .i64,.str,.int .i64]
 |4=> .many [.str,.sl 2,.sl 5]
 |5=> .many [.int .u8,.int .u8,.int .i64,.int .i64,.int .i64,.int .i64,.sl 6]
 |6=> .many [.int .u8,.str,.int .i64,.sl 6]
 |7=> .many [.int .i64,.int .i64,.bool,.int .i64,.sl 0,.sl 0]
 |8=> .many [.int .i64,.sl 0,.int .u8,.int .i64,.int .i64,.int .i64]
 |9=> .many [.int .i64,.int .u8,.int .i64,.int .i64,.int .i64]
 |10=> .one (.sl 0)
 |11=> .many [.int .i64,.int .i64,.int .i64]
 |12=> .many [.int .i64,.int .i64]
 |13=> .many [.int .i64,.int .u8,.int .i64,.int .i64,.int .i64]
 |14=> .one (.int .u8)
 |15=> .one (.sl 0)
 |16=> .many [.sl 7,.sl 8]
 |_=> .one .bool
def mapOf (t:Nat):CK×CK:=match t with
 |0=>(.int .i64,.int .i64)
 |1=>(.str,.int .i64)
 |2=>(.int .i64,.sl 0)
 |_=>(.int .i64,.bool)
def rT (c:CK) (d:D):Prop:=match c with
 | .int _=>d= .i d.n
 | .bool=>d= .i 0\/d= .i 1
 |_=>True
def M4 (cs:List CK) (d:D):Prop:=d=dL d.l/\d.l.length=cs.length/\∀(j:Nat) (c:CK) (x:D),cs[j]?=some c->d.l[j]?=some x->rT c x
def rS (r:Row) (d:D):Prop:=match r with
 | .one c=>rT c d
 | .many cs=>M4 cs d
def xH (r:Row) (d:D):Prop:=d=dL d.l/\(∀x∈d.l,rS r x)/\d.l≠[]
end Go.As
end
section
namespace Go.As
noncomputable section
inductive W where
 |lit (n:Int)
 |dP (i:Nat)
 |add (a b:W)
 |sub (a b:W)
 |mul (a b:W)
 |quo (a b:W)
 |rem (a b:W)
 |wrap (k:IntKind) (a:W)
 |yU (b:Nat) (e:W)
 |fk (d:D)
 |op (o:gT) (a b:W)
 |ap (f:Nat) (a:W)
 deriving DecidableEq,Inhabited
def jY (f:Nat) (z:Int):Nat:=1000+qB f (zN z)*64+63
noncomputable def W.den (ρ:Nat->Int):W->Int
 | .lit n=>n
 | .dP i=>ρ i
 | .add a b=>a.den ρ+b.den ρ
 | .sub a b=>a.den ρ-b.den ρ
 | .mul a b=>a.den ρ*b.den ρ
 | .quo a b=>(a.den ρ).tdiv (b.den ρ)
 | .rem a b=>(a.den ρ).tmod (b.den ρ)
 | .wrap k a=>k.wrap (a.den ρ)
 | .yU b e=>ρ (1000+(e.den ρ).toNat*64+b)
 | .fk d=>enc d
 | .op o a b=>o.den (a.den ρ) (b.den ρ)
 | .ap f a=>ρ (jY f (a.den ρ))
def wS:Int->Int->Bool
 | .ofNat a,.ofNat b=>Nat.beq a b
 | .negSucc a,.negSucc b=>Nat.beq a b
 |_,_=>false
def D.eqb:D->D->Bool
 | .i a,.i b=>wS a b
 | .p a b,.p c d=>match D.eqb a c with |true=>D.eqb b d|false=>false
 |_,_=>false
theorem yf {a b:Int} (h:wS a b=true):a=b:=by cases a<;>cases b<;>simp [wS] at h<;>rw [h]
theorem D.Ta: ∀{a b:D},D.eqb a b=true->a=b
 | .i a,.i b,h=>by simp only [D.eqb] at h; rw [yf h]
 | .p a b,.p c d,h=>by
   simp only [D.eqb] at h;split at h
   ·rename_i U; rw [D.Ta U,D.Ta h]
   grind
 | .i _,.p _ _,h=>by simp [D.eqb] at h
 | .p _ _,.i _,h=>by simp [D.eqb] at h
def ga:W->W->Bool
 | .lit a,.lit b=>a == b
 | .dP i,.dP j=>Nat.beq i j
 | .add a b,.add c d=>match ga a c with |true=>ga b d|false=>false
 | .sub a b,.sub c d=>match ga a c with |true=>ga b d|false=>false
 | .mul a b,.mul c d=>match ga a c with |true=>ga b d|false=>false
 | .quo a b,.quo c d=>match ga a c with |true=>ga b d|false=>false
 | .rem a b,.rem c d=>match ga a c with |true=>ga b d|false=>false
 | .wrap k a,.wrap l b=>match ga a b with |true=>decide (k=l)|false=>false
 | .yU i a,.yU j b=>match Nat.beq i j with |true=>ga a b|false=>false
 | .fk a,.fk b=>D.eqb a b
 | .op o a b,.op q c d=>match Nat.beq o.tag q.tag with
   |true=>match ga a c with |true=>ga b d|false=>false
   |false=>false
 | .ap f a,.ap g b=>match Nat.beq f g with |true=>ga a b|false=>false
 |_,_=>false
theorem dy: ∀(a b:W),ga a b=true->a=b
 | .lit a,b,h=>by cases b<;>simp [ga] at h; rw [h]
 | .dP i,b,h=>by cases b<;>simp [ga] at h; rw [h]
 | .add a b,c,h=>by cases c<;>simp only [ga,aQ] at h; split at h<;>first |(rename_i U; rw [dy _ _ U,dy _ _ h]; done)|simp at h
 | .sub a b,c,h=>by cases c<;>simp only [ga,aQ] at h; split at h<;>first |(rename_i U; rw [dy _ _ U,dy _ _ h]; done)|simp at h
 | .mul a b,c,h=>by cases c<;>simp only [ga,aQ] at h; split at h<;>first |(rename_i U; rw [dy _ _ U,dy _ _ h]; done)|simp at h
 | .quo a b,c,h=>by cases c<;>simp only [ga,aQ] at h; split at h<;>first |(rename_i U; rw [dy _ _ U,dy _ _ h]; done)|simp at h
 | .rem a b,c,h=>by cases c<;>simp only [ga,aQ] at h; split at h<;>first |(rename_i U; rw [dy _ _ U,dy _ _ h]; done)|simp at h
 | .wrap k a,c,h=>by cases c<;>simp only [ga,aQ] at h; split at h<;>first |(rename_i U; rw [dy _ _ U,of_decide_eq_true h]; done)|simp at h
 | .yU i a,c,h=>by cases c<;>simp only [ga,aQ] at h; split at h<;>first |(rename_i U; rw [az U,dy _ _ h]; done)|simp at h
 | .fk a,c,h=>by cases c<;>simp only [ga,aQ] at h; rw [D.Ta h]
 | .op o a b,c,h=>by
   cases c<;>simp only [ga,aQ] at h;split at h
   ·rename_i h0;split at h
    ·rename_i U;rw [gT.adm (az h0),dy _ _ U,dy _ _ h]
    grind
   grind
 | .ap f a,c,h=>by cases c<;>simp only [ga,aQ] at h; split at h<;>first |(rename_i U; rw [az U,dy _ _ h]; done)|simp at h
inductive SB where
 |lit (b:Bool)
 |lt (a b:W)
 |le (a b:W)
 |eq (a b:W)
 |not (s:SB)
 |and (a b:SB)
 deriving DecidableEq,Inhabited
noncomputable def SB.den (ρ:Nat->Int):SB->Bool
 | .lit b=>b
 | .lt a b=>decide (a.den ρ<b.den ρ)
 | .le a b=>decide (a.den ρ<=b.den ρ)
 | .eq a b=>a.den ρ == b.den ρ
 | .not s=>!(s.den ρ)
 | .and a b=>a.den ρ&&b.den ρ
def vF (k:IntKind) (n:Int):Int:=
 match k with
 | .i64=>if -9223372036854775808<=n/\n<=9223372036854775807 then n else k.wrap n
 | .u8=>if 0<=n/\n<=255 then n else k.wrap n
 |_=>k.wrap n
inductive PV where
 |exact (c:Nat)
 |rest (es:Nat)
 deriving DecidableEq,Inhabited
inductive AV where
 |bool (b:SB)
 |int (k:IntKind) (e:W)
 |str (s:List Nat)
 |ptr (id off:Nat)
 |vL
 |oF (cells:List AV)
 |slice (id off len:Nat) (c:PV)
 |fA
 |ro (cells:List AV) (n:Nat) (full:Bool)
 |map (id:Nat)
 |uF
 |func (fn:Fn) (fs cs:List AV)
 |yD
 |iface (t:Nat) (v:AV)
 |zL
 |agg (cs:List AV)
 |tuple (vs:List AV)
 |N6 (i:Nat)
 |yU (k:Nat) (ks:List IntKind)
 |fk (e:W) (t:Nat)
 |kU (e:W)
 |rV (id:Nat) (n:W) (t:Nat)
 |BF (id es:Nat) (i:W) (off:Nat)
 |emp
 |vT (id:Nat) (lo n:W) (t:Nat)
 |any
 |At (z:W) (t:Nat)
 deriving Inhabited
def AV.undef:AV:=.tuple []
def AV.cells:AV->List AV
 | .agg cs=>cs
 |v=>[v]
def AV.one:AV->Bool
 | .agg _=>false
 | .tuple _=>false
 | .N6 _=>false
 | .any=>false
 |_=>true
inductive eL where
 |cells (cs:List AV) (e:TypeId)
 |map (es:List (AV×AV×Nat)) (clock:Nat)
 |lW (s:List Nat) (pos:Nat)
 |vec (e:W) (t:Nat) (ty:TypeId) (ov:List (W×List AV))
 |mw (e:W) (t:Nat)
 deriving Inhabited
structure Hp where
 m:Tr eL
 next:Nat
 res:Option Nat:=none
 deriving Inhabited
def Hp.get (h:Hp) (i:Nat):Option eL:=h.m.get i
def Hp.put (h:Hp) (i:Nat) (o:eL):Hp:=⟨h.m.put i (some o),h.next,h.res⟩
def Hp.drop (h:Hp) (i:Nat):Hp:=⟨h.m.put i none,h.next,h.res⟩
def Hp.fresh (h:Hp):Nat:=match h.res with
 |none=>h.next
 |some r=>r
def Hp.new (h:Hp) (o:eL):Hp:=match h.res with
 |none=> ⟨h.m.put h.next (some o),h.next+1,none⟩
 |some r=> ⟨h.m.put r (some o),h.next,none⟩
inductive T (α:Type) where
 |fail
 |ret (a:α)
 |split (c:SB) (t f:T α)
 deriving Inhabited
def T.bind {α β:Type}:T α->(α->T β)->T β
 | .fail,_=> .fail
 | .ret a,f=>f a
 | .split c x y,f=> .split c (x.bind f) (y.bind f)
def T.leaf {α:Type} (ρ:Nat->Int):T α->Option α
 | .fail=>none
 | .ret a=>some a
 | .split c x y=>match c.den ρ with
   |true=>x.leaf ρ
   |false=>y.leaf ρ
inductive TK where
 |bool
 |int (k:IntKind)
 |string
 |pointer (e:Nat)
 |slice (e:Nat)
 |array (n e:Nat)
 |map (k e:Nat)
 |struct (fs:List (Nat×Nat×Nat))
 |func
 |iface (plain:Bool)
 |tuple
 deriving DecidableEq,Inhabited
structure TI where
 kind:TK
 size:Nat
 bytes:Nat
 zero:List AV
 eqs:Bool
 own:Option Nat:=none
 deriving Inhabited
def TK.agg (k:TK):Bool:=match k with | .struct _=>true| .array _ _=>true|_=>false
def TI.agg (i:TI):Bool:=i.kind.agg
abbrev TT:=Nat->Option TI
def bytesOf (s:ByteArray):List Nat:=s.data.toList.map (·.toNat)
def iB:Value->Option AV
 | .bool b=>some (.bool (.lit b))
 | .int k n=>some (.int k (.lit n))
 | .string s=>some (.str (bytesOf s))
 | .pointer none=>some .vL
 | .slice none 0 0=>some .fA
 | .map none=>some .uF
 | .nilFunc=>some .yD
 | .nilIface=>some .zL
 | .func fn f c=>if f.isEmpty&&c.isEmpty then some (.func fn [] []) else none
 |_=>none
def lR:List Value->Option (List AV)
 |[]=>some []
 |v::vs=>match iB v with
  |none=>none
  |some a=>match lR vs with
   |none=>none
   |some arp=>some (a::arp)
def ofConst:Value->Option AV
 | .agg cs=>(lR cs.toList).map .agg
 | .tuple vs=>(lR vs.toList).map .tuple
 |v=>iB v
def wB (a b:W):SB:=match ga a b with
 |true=> .lit true
 |false=>match a with
  | .fk _=> .eq b a
  |_=> .eq a b
def I8 (x:W):W:=match x with
 | .op o a _=>match o with
   | .mk=>a
   |_=> .op .num x (.lit 0)
 | .fk d=>match d with
   | .i n=> .lit n
   |_=> .op .num x (.lit 0)
 |_=> .op .num x (.lit 0)
def Cw (x:W):W:=match x with
 | .lit n=> .fk (.i n)
 |x=> .op .mk x (.lit 0)
def ly (j:Nat) (x:W):W:=match x with
 | .op o a b=>match o with
   | .cons=>match j with
     |0=>a
     |j+1=>ly j b
   |_=> .op (.cell j) x (.lit 0)
 |_=> .op (.cell j) x (.lit 0)
def eG (x:W):W:=match x with
 | .op o a _=>match o with
   | .set=>eG a
   |_=> .op .len x (.lit 0)
 | .fk d=> .lit (Int.ofNat d.l.length)
 |_=> .op .len x (.lit 0)
def gD (a b:W):W:=.op .cons a b
def R9 (x:W):Bool:=match x with
 | .fk d=>match d with
   | .i n=>wS n 0
   |_=>false
 |_=>false
def vn (c:CK) (x:W):AV:=match c with
 | .int k=> .int k (I8 x)
 | .bool=> .bool (.not (.eq (I8 x) (.lit 0)))
 | .str=> .kU x
 | .sl t=> .fk x t
def jX:List CK->Nat->W->List AV
 |[],_,_=>[]
 |c::cs,j,x=>vn c (ly j x)::jX cs (j+1) x
def iE (r:Row) (x:W):List AV:=match r with
 | .one c=>[vn c x]
 | .many cs=>jX cs 0 x
def oD (x:W):W:=match x with
 | .fk d=> .fk d
 | .op o a b=>match o with
   | .cell j=> .op (.cell j) a b
   | .at=> .op .at a b
   |o=> .op .norm (.op o a b) (.lit 0)
 |x=> .op .norm x (.lit 0)
def vu:AV->Option W
 | .str l=>some (.fk (l9 l))
 | .kU e=>some e
 |_=>none
def DE (x y:AV):Option SB:=match vu x with
 |none=>none
 |some a=>match vu y with
  |none=>none
  |some b=>some (wB (oD a) (oD b))
def oU (c:CK) (v:AV):Option W:=match c with
 | .int k=>match v with
   | .int k' e=>if k=k' then some (Cw e) else none
   |_=>none
 | .bool=>match v with
   | .bool c=>match c with
     | .lit b=>some (.fk (.i (if b then 1 else 0)))
     | .not d=>match d with
       | .eq x z=>match z with
         | .lit n=>if n=0 then some (.op .bit (Cw x) (.lit 0)) else none
         |_=>none
       |_=>none
     |_=>none
   |_=>none
 | .str=>vu v
 | .sl t=>match v with
   | .fk e t'=>if t=t' then some e else none
   | .fA=>some (.fk (.i 1))
   | .At z t'=>if t=t' then some z else none
   | .slice _ _ n _=>match n with
     |0=>some (.fk (.i 2))
     |_=>none
   |_=>none
def jW:List CK->List AV->Option W
 |[],[]=>some (.fk (.i 0))
 |c::cs,v::vs=>match oU c v with
  |none=>none
  |some a=>match jW cs vs with
   |none=>none
   |some b=>some (gD a b)
 |_,_=>none
def sI (r:Row) (cs:List AV):Option W:=match r with
 | .one c=>match cs with
   |[v]=>oU c v
   |_=>none
 | .many ks=>jW ks cs
def mH (r:Row) (e:W):Nat->List AV->Option W
 |0,[]=>some e
 |0,_::_=>none
 |m+1,cs=>match sI r (cs.take r.es) with
  |none=>none
  |some x=>mH r (.op .snoc e x) m (cs.drop r.es)
structure St where
 bH:Tr AV
 h:Hp
 pc:List (SB×Bool)
 deriving Inhabited
def St.set (s:St) (t:Nat) (v:AV):St:={ s with bH:=s.bH.put t (some v) }
def St.NO (s:St) (d:Option Nat) (v:AV):St:=match d with |some t=>s.set t v|none=>s
def ev (s:St):Operand->Option AV
 | .tmp t=>s.bH.get t
 | .const v=>ofConst v
 | .func f=>some (.func (.func f) [] [])
 | .global _=>none
def evs (s:St):List Operand->Option (List AV)
 |[]=>some []
 |x::xs=>match ev s x with
  |none=>none
  |some a=>match evs s xs with
   |none=>none
   |some arp=>some (a::arp)
def qc:SB->SB->Bool
 | .lit a,.lit b=>a == b
 | .lt a b,.lt c d=>match ga a c with |true=>ga b d|false=>false
 | .le a b,.le c d=>match ga a c with |true=>ga b d|false=>false
 | .eq a b,.eq c d=>match ga a c with |true=>ga b d|false=>false
 | .not a,.not b=>qc a b
 | .and a b,.and c d=>match qc a c with |true=>qc b d|false=>false
 |_,_=>false
theorem tz: ∀(a b:SB),qc a b=true->a=b
 | .lit a,b,h=>by cases b<;>simp [qc] at h; rw [h]
 | .lt a b,c,h=>by cases c<;>simp only [qc,aQ] at h; split at h<;>first |(rename_i U; rw [dy _ _ U,dy _ _ h]; done)|simp at h
 | .le a b,c,h=>by cases c<;>simp only [qc,aQ] at h; split at h<;>first |(rename_i U; rw [dy _ _ U,dy _ _ h]; done)|simp at h
 | .eq a b,c,h=>by cases c<;>simp only [qc,aQ] at h; split at h<;>first |(rename_i U; rw [dy _ _ U,dy _ _ h]; done)|simp at h
 | .not a,c,h=>by cases c<;>simp only [qc,aQ] at h; rw [tz _ _ h]
 | .and a b,c,h=>by cases c<;>simp only [qc,aQ] at h; split at h<;>first |(rename_i U; rw [tz _ _ U,tz _ _ h]; done)|simp at h
def oG (c:SB):List (SB×Bool)->Option Bool
 |[]=>none
 |(d,b)::l=>match qc c d with
  |true=>some b
  |false=>oG c l
def J? (a:Option Int) (z:Int):Option Int:=match a with
 |none=>some z
 |some y=>some (if y<z then z else y)
def J' (a:Option Int) (z:Int):Option Int:=match a with
 |none=>some z
 |some y=>some (if z<y then z else y)
def E? (a:Option Int) (z:Int):Option Int:=match a with
 |none=>none
 |some y=>some (if y=z then z+1 else y)
def F! (a:Option Int) (z:Int):Option Int:=match a with
 |none=>none
 |some y=>some (if y=z then z-1 else y)
def Ws (e:W):Option Int×Option Int:=match e with
 | .rem a c=>match c with
   | .lit k=>match a with
     | .add b d=>match d with
       | .lit m=>match b with
         | .rem _ f=>match f with
           | .lit n=>if 0<n/\n=m/\m=k then (some 0,some (n-1)) else (none,none)
           |_=>(none,none)
         |_=>(none,none)
       |_=>(none,none)
     |_=>(none,none)
   |_=>(none,none)
 | .op o _ _=>match o with
   | .len=>(some 0,none)
   |_=>(none,none)
 |_=>(none,none)
def bounds (e:W):List (SB×Bool)->Option Int×Option Int
 |[]=>Ws e
 |(c,v)::l=>match c with
  | .lt x y=>match x with
    | .lit z=>match ga y e with
      |false=>bounds e l
      |true=>match bounds e l with
       |(lo,hi)=>match v with
        |true=>(J? lo (z+1),hi)
        |false=>(lo,J' hi z)
    |x=>match y with
     | .lit z=>match ga x e with
       |false=>bounds e l
       |true=>match bounds e l with
        |(lo,hi)=>match v with
         |true=>(lo,J' hi (z-1))
         |false=>(J? lo z,hi)
     |_=>bounds e l
  | .eq x y=>match y with
    | .lit z=>match v with
      |false=>match ga x e with
       |false=>bounds e l
       |true=>match bounds e l with
        |(lo,hi)=>(E? lo z,F! hi z)
      |true=>match ga x e with
       |false=>bounds e l
       |true=>(some z,some z)
    |_=>bounds e l
  |_=>bounds e l
def qP (e:W) (pc:List (SB×Bool)):Option Int×Option Int:=match e with
 | .wrap k s=>match k with
   | .i64=>match s with
     | .add b d=>match d with
       | .lit c=>match bounds b pc with
         |(some lo,some hi)=>if -9223372036854775808<=lo+c/\hi+c<=9223372036854775807 then (match bounds e pc with
          |(l2,Z)=>(J? l2 (lo+c),J' Z (hi+c))) else bounds e pc
         |_=>bounds e pc
       |_=>bounds e pc
     |_=>bounds e pc
   |_=>bounds e pc
 |_=>bounds e pc
def UZ (a b:W) (pc:List (SB×Bool)):Option Bool:=match oG (.eq a b) pc with
 |some v=>some v
 |none=>oG (.eq b a) pc
def decLt (pc:List (SB×Bool)) (a b:W):Option Bool:=match oG (.lt a b) pc with
 |some v=>some v
 |none=>match a with
  | .lit z=>match qP b pc with
    |(lo,hi)=>match lo with
     |some l=>if z<l then some true else match hi with
      |some h=>if h<=z then some false else none
      |none=>none
     |none=>match hi with
      |some h=>if h<=z then some false else none
      |none=>none
  |a=>match b with
   | .lit z=>match qP a pc with
     |(lo,hi)=>match hi with
      |some h=>if h<z then some true else match lo with
       |some l=>if z<=l then some false else none
       |none=>none
      |none=>match lo with
       |some l=>if z<=l then some false else none
       |none=>none
   |b=>match UZ a b pc with
    |some true=>some false
    |some false=>match oG (.lt b a) pc with
     |some v=>some !v
     |none=>none
    |none=>match oG (.lt b a) pc with
     |some true=>some false
     |_=>none
def decEq (pc:List (SB×Bool)) (a b:W):Option Bool:=match UZ a b pc with
 |some v=>some v
 |none=>match b with
  | .lit z=>match qP a pc with
    |(lo,hi)=>match lo with
     |some l=>if z<l then some false else match hi with
      |some h=>if h<z then some false else if l=z/\h=z then some true else none
      |none=>none
     |none=>match hi with
      |some h=>if h<z then some false else none
      |none=>none
  |b=>match oG (.lt a b) pc with
   |some true=>some false
   |some false=>match oG (.lt b a) pc with
    |some v=>some !v
    |none=>none
   |none=>match oG (.lt b a) pc with
    |some true=>some false
    |_=>none
def Fu (pc:List (SB×Bool)) (c:SB):Option Bool:=
 match c with
 | .lit b=>some b
 | .lt a b=>decLt pc a b
 | .eq a b=>decEq pc a b
 |c=>oG c pc
def lh (pc:List (SB×Bool)) (c:SB):Option Bool:=
 match c with
 | .not s=>(Fu pc s).map (!·)
 |c=>Fu pc c
def mu {α:Type} (s:St) (c:SB) (f:St->Bool->T α):T α:=
 match lh s.pc c with
 |some b=>f s b
 |none=>match c with
  | .not d=> .split d (f { s with pc:=(d,true)::s.pc } false) (f { s with pc:=(d,false)::s.pc } true)
  |c=> .split c (f { s with pc:=(c,true)::s.pc } true) (f { s with pc:=(c,false)::s.pc } false)
def y_ (k:IntKind):W->W->W
 | .lit x,.lit y=> .lit (vF k (x+y))
 |a,b=> .wrap k (.add a b)
def UE (k:IntKind):W->W->W
 | .lit x,.lit y=> .lit (vF k (x-y))
 |a,b=> .wrap k (.sub a b)
def x? (k:IntKind):W->W->W
 | .lit x,.lit y=> .lit (vF k (x*y))
 |a,b=> .wrap k (.mul a b)
def jc:W->W->SB
 | .lit x,.lit y=> .lit (decide (x<y))
 |a,b=> .lt a b
def adE:W->W->SB
 | .lit x,.lit y=> .lit (decide (x<=y))
 |a,b=> .not (.lt b a)
def wC:W->W->SB
 | .lit x,.lit y=> .lit (x == y)
 | .lit x,b=> .eq b (.lit x)
 |a,b=>match ga a b with
  |true=> .lit true
  |false=> .eq a b
def yR:SB->SB
 | .lit b=> .lit !b
 | .not s=>s
 |s=> .not s
def y?:SB->SB->SB
 | .lit true,b=>b
 | .lit false,_=> .lit false
 |a,.lit true=>a
 |_,.lit false=> .lit false
 |a,b=> .and a b
def bytesLess:List Nat->List Nat->Bool
 |_,[]=>false
 |[],_::_=>true
 |a::x,b::y=>if a.blt b then true else if a.beq b then bytesLess x y else false
def iK:List Nat->List Nat->Bool
 |[],[]=>true
 |a::x,b::y=>if a.beq b then iK x y else false
 |_,_=>false
def NJ (op:BinOp) (x y:List Nat):Option AV:=
 match op with
 | .add=>if x.length+y.length<=1000000 then some (.str (x++y)) else none
 | .eql=>some (.bool (.lit (iK x y)))
 | .neq=>some (.bool (.lit !(iK x y)))
 | .lss=>some (.bool (.lit (bytesLess x y)))
 | .leq=>some (.bool (.lit (bytesLess x y||iK x y)))
 | .gtr=>some (.bool (.lit !(bytesLess x y||iK x y)))
 | .geq=>some (.bool (.lit !(bytesLess x y)))
 |_=>none
def Vi (op:BinOp) (k:IntKind) (a b:W):Option AV:=
 match op with
 | .add=>some (.int k (y_ k a b))
 | .sub=>some (.int k (UE k a b))
 | .mul=>some (.int k (x? k a b))
 | .quo=>match a,b with
   | .lit x,.lit y=>if y=0 then none else some (.int k (.lit (vF k (x.tdiv y))))
   |a,.lit y=>if y=0 then none else some (.int k (.wrap k (.quo a (.lit y))))
   |_,_=>none
 | .rem=>match a,b with
   | .lit x,.lit y=>if y=0 then none else some (.int k (.lit (x.tmod y)))
   |a,.lit y=>if y=0 then none else some (.int k (.rem a (.lit y)))
   |_,_=>none
 | .shr=>match a,b with
   | .lit x,.lit y=>if y<0 then none else some (.int k (.lit (x.fdiv (2 ^ (min y.toNat k.bits)))))
   |_,_=>none
 | .eql=>some (.bool (wC a b))
 | .neq=>some (.bool (yR (wC a b)))
 | .lss=>some (.bool (jc a b))
 | .leq=>some (.bool (adE a b))
 | .gtr=>some (.bool (jc b a))
 | .geq=>some (.bool (adE b a))
 |_=>none
def gb {α:Type}:List α->Nat->Option α
 |[],_=>none
 |x::_,0=>some x
 |_::xs,n+1=>gb xs n
def Fq (a b:SB):Option SB:=
 match a,b with
 | .lit x,.lit y=>some (.lit (x == y))
 | .lit x,b=>some (if x then b else yR b)
 |a,.lit y=>some (if y then a else yR a)
 |a,b=>some (.not (.and (.not (.and a b)) (.not (.and (.not a) (.not b)))))
def Tb (k:TK) (x y:AV):Option SB:=
 match k with
 | .int _=>match x,y with
   | .int k a,.int k' b=>if k=k' then some (wC a b) else none
   |_,_=>none
 | .string=>match x,y with
   | .str a,.str b=>some (.lit (iK a b))
   |x,y=>DE x y
 | .bool=>match x,y with
   | .bool a,.bool b=>Fq a b
   |_,_=>none
 |_=>none
def aas (tt:TT) (xs ys:List AV):List (Nat×Nat×Nat)->Option SB
 |[]=>some (.lit true)
 |(off,ft,_)::fs=>match tt ft with
  |none=>none
  |some i=>match gb xs off,gb ys off with
   |some x,some y=>match Tb i.kind x y with
    |none=>none
    |some c=>match aas tt xs ys fs with
     |none=>none
     |some d=>some (y? c d)
   |_,_=>none
def Fo (tt:TT) (t:Nat) (xs ys:List AV):Option SB:=
 match tt t with
 |none=>none
 |some i=>match i.kind with
  | .struct fs=>if i.eqs then aas tt xs ys fs else none
  |_=>none
def lF:AV->Option Int
 | .int _ (.lit n)=>some n
 |_=>none
def isNil (k:TK) (x:AV):Option Bool:=
 match k with
 | .slice _=>match x with
   | .fA=>some true
   | .slice _ _ _ _=>some false
   | .ro _ _ _=>some false
   | .rV _ _ _=>some false
   |_=>none
 | .pointer _=>match x with
   | .vL=>some true
   | .ptr _ _=>some false
   | .oF _=>some false
   |_=>none
 | .map _ _=>match x with
   | .uF=>some true
   | .map _=>some false
   |_=>none
 |_=>none
def akK (k:TK) (x y:AV):Option SB:=
 match k with
 | .bool=>match x,y with
   | .bool a,.bool b=>Fq a b
   |_,_=>none
 |k=>match isNil k x,isNil k y with
  |some true,some b=>some (.lit b)
  |some false,some true=>some (.lit false)
  |_,_=>none
def K6 (op:BinOp) (c:Option SB):Option AV:=match c with
 |none=>none
 |some c=>match op with
  | .eql=>some (.bool c)
  | .neq=>some (.bool (.not c))
  |_=>none
def aaq (tt:TT) (t:Nat) (op:BinOp) (x y:AV):Option AV:=
 match x with
 | .int k a=>match y with
   | .int k' b=>match op with
     | .shr=>Vi op k a b
     | .shl=>none
     |_=>if k=k' then Vi op k a b else none
   |_=>none
 | .str a=>match y with
   | .str b=>NJ op a b
   | .kU e=>K6 op (DE (.str a) (.kU e))
   |_=>none
 | .kU e=>K6 op (DE (.kU e) y)
 |_=>match tt t with
  |none=>none
  |some i=>match op,akK i.kind x y with
   | .eql,some c=>some (.bool c)
   | .neq,some c=>some (.bool (yR c))
   |_,_=>none
def akI (op:UnOp) (x:AV):Option AV:=
 match op,x with
 | .not,.bool b=>some (.bool (yR b))
 | .neg,.int k e=>some (.int k (UE k (.lit 0) e))
 |_,_=>none
def jk {α:Type}:Nat->List α->Option (List α)
 |0,_=>some []
 |_+1,[]=>none
 |n+1,x::xs=>match jk n xs with
  |some l=>some (x::l)
  |none=>none
def fE {α:Type}:Nat->List α->Option (List α)
 |0,l=>some l
 |_+1,[]=>none
 |n+1,_::xs=>fE n xs
def ez:List AV->Nat->List AV->Option (List AV)
 |cs,0,[]=>some cs
 |[],0,_::_=>none
 |_::cs,0,v::vs=>match ez cs 0 vs with
  |some l=>some (v::l)
  |none=>none
 |[],_+1,_=>none
 |c::cs,n+1,vs=>match ez cs n vs with
  |some l=>some (c::l)
  |none=>none
def te:List AV->Bool
 |[]=>true
 |v::vs=>v.one&&te vs
def nH (h:Hp) (p:AV) (n:Nat):Option (List AV):=
 match p with
 | .ptr id off=>match h.get id with
   |some (.cells cs _)=>match fE off cs with
    |some l=>jk n l
    |none=>none
   |_=>none
 | .oF cs=>jk n cs
 |_=>none
def Db (tt:TT) (t:Nat) (p:AV) (h:Hp):Option AV:=
 match tt t with
 |none=>none
 |some i=>match i.agg with
  |true=>(nH h p i.size).map .agg
  |false=>match nH h p 1 with
   |some (v::_)=>some v
   |_=>none
def L7 (tt:TT) (t:Nat) (p v:AV) (h:Hp):Option Hp:=
 match tt t with
 |none=>none
 |some i=>
  if v.cells.length=i.size&&te v.cells then
   match p with
   | .ptr id off=>match h.get id with
     |some (.cells cs e)=>match ez cs off v.cells with
      |some mM=>some (h.put id (.cells mM e))
      |none=>none
     |_=>none
   |_=>none
  else none
def u9 (place:Nat->Option (Nat×Nat)) (cs:List AV):List (Nat×AV)->Option (List AV)
 |[]=>some cs
 |(i,v)::rest=>match place i with
  |none=>none
  |some (off,size)=>
   if v.cells.length=size&&te v.cells then
    match ez cs off v.cells with
    |some mM=>u9 place mM rest
    |none=>none
   else none
def jl (tt:TT) (t:Nat):Option Nat:=(tt t).map (·.size)
def Mm (tt:TT) (t:Nat) (parts:List (Nat×AV)):Option AV:=
 match tt t with
 |some i=>match i.kind with
  | .struct fs=>(u9 (fun j=>(gb fs j).map fun f=>(f.1,f.2.2)) i.zero parts).map .agg
  | .array _ e=>match jl tt e with
    |some s=>(u9 (fun j=>some (j*s,s)) i.zero parts).map .agg
    |none=>none
  |_=>none
 |none=>none
def eb {α:Type} (l:List α):Nat->List α
 |0=>[]
 |n+1=>l++eb l n
def vb (tt:TT) (t len:Nat) (parts:List (Nat×AV)) (h:Hp):Option (AV×Hp):=
 match tt t with
 |some i=>match i.kind with
  | .slice e=>match tt e with
    |some ie=>
     if len<=1000/\ie.size<=1000/\ie.zero.length=ie.size then
      match u9 (fun j=>some (j*ie.size,ie.size)) (eb ie.zero len) parts with
      |some cs=>some (.slice h.fresh 0 len (.exact len),h.new (.cells cs e))
      |none=>none
     else none
    |none=>none
  |_=>none
 |none=>none
def sG (tt:TT) (t:Nat) (l c:AV) (h:Hp):Option (AV×Hp):=
 match lF l with
 |some (.ofNat n)=>match lF c with
  |some (.ofNat m)=>match tt t with
   |some i=>match i.kind with
    | .slice e=>match tt e with
      |some ie=>
       if n<=m/\m<=1000/\ie.size<=1000/\ie.bytes<=1000000/\ie.zero.length=ie.size then
        some (.slice h.fresh 0 n (.exact m),h.new (.cells (eb ie.zero m) e))
       else none
      |none=>none
    |_=>none
   |none=>none
  |_=>none
 |_=>none
def UX (off:Nat) (x:AV):Option AV:=match x with
 | .ptr id o=>some (.ptr id (o+off))
 | .BF id es i o=>some (.BF id es i (o+off))
 | .oF cs=>(fE off cs).map .oF
 |_=>none
def partOf (i:TI) (l:List AV):Option AV:=match i.agg with
 |true=>(jk i.size l).map .agg
 |false=>match l with
  |v::_=>some v
  |[]=>none
def xq (tt:TT) (t:Nat) (p:AV) (f:Nat):Option AV:=
 match tt t with
 |some i=>match i.kind with
  | .struct fs=>match gb fs f with
    |some (off,_,size)=>match size with
     |0=>none
     |_=>UX off p
    |none=>none
  |_=>none
 |none=>none
def Mf (tt:TT) (t:Nat) (x:AV) (f:Nat):Option AV:=
 match tt t with
 |some i=>match i.kind with
  | .struct fs=>match gb fs f with
    |some (off,ft,_)=>match tt ft,x with
     |some fi,.agg cs=>match fE off cs with
      |some l=>partOf fi l
      |none=>none
     |_,_=>none
    |none=>none
  |_=>none
 |none=>none
def pW (tt:TT) (t:Nat) (x ix:AV):Option AV:=
 match lF ix with
 |some (.ofNat i)=>match tt t with
  |some ti=>match ti.kind with
   | .array n e=>if i<n then match jl tt e with
    |some s=>UX (i*s) x
    |none=>none
    else none
   | .slice e=>match jl tt e with
     |some s=>match x with
      | .slice id o len _=>if i<len then some (.ptr id (o+i*s)) else none
      | .ro cs n _=>if i<n then (fE (i*s) cs).map .oF else none
      |_=>none
     |none=>none
   |_=>none
  |none=>none
 |_=>none
def wT (k:Nat) (e:W):List IntKind->Nat->List AV
 |[],_=>[]
 |kd::ks,j=> .int kd (.yU (k*8+j) e)::wT k e ks (j+1)
def Md (tt:TT) (pc:List (SB×Bool)) (t k:Nat) (ks:List IntKind) (ix:AV):Option AV:=
 match ix with
 | .int _ e=>match tt t with
   |some ti=>match ti.kind with
    | .slice el=>match jl tt el with
      |some s=>if s=ks.length/\k<8/\s<=8 then match lh pc (jc e (.lit 0)),lh pc (jc e (.dP (900+k))) with
       |some false,some true=>some (.oF (wT k e ks 0))
       |_,_=>none
       else none
      |none=>none
    |_=>none
   |none=>none
 |_=>none
def BA (tt:TT) (t:Nat) (x ix:AV):Option AV:=
 match lF ix with
 |some (.ofNat i)=>match tt t with
  |some ti=>match ti.kind,x with
   | .string,.str s=>(gb s i).map fun b=> .int .u8 (.lit (Int.ofNat b))
   | .array n e,.agg cs=>if i<n then match tt e with
    |some ie=>match fE (i*ie.size) cs with
     |some l=>partOf ie l
     |none=>none
    |none=>none
    else none
   |_,_=>none
  |none=>none
 |_=>none
def pr (x:Option AV) (d:Nat) (y:Nat):Option Nat:=
 match x with
 |none=>if d<=y then some d else none
 |some v=>match lF v with
  |some (.ofNat i)=>if i<=y then some i else none
  |_=>none
def L8 (tt:TT) (t:Nat) (x:AV) (lo hi mx:Option AV):Option AV:=
 match tt t with
 |none=>none
 |some ti=>match ti.kind with
  | .string=>match x,mx with
    | .str s,none=>match pr hi s.length s.length with
      |some h=>match pr lo 0 h with
       |some l=>some (.str ((s.take h).drop l))
       |none=>none
      |none=>none
    |_,_=>none
  | .slice e=>match jl tt e with
    |none=>none
    |some s=>match x with
     | .fA=>if mx.isSome&&hi.isNone then none else match pr hi 0 0,pr lo 0 0,pr mx 0 0 with
       |some _,some _,some _=>some .fA
       |_,_,_=>none
     | .slice id o len (.exact c)=>if mx.isSome&&hi.isNone then none else match pr mx c c with
       |none=>none
       |some m=>match pr hi len m with
        |none=>none
        |some h=>match pr lo 0 h with
         |none=>none
         |some l=>some (.slice id (o+l*s) (h-l) (.exact (m-l)))
     | .slice id o len (.rest es)=>match mx with
       |none=>match pr hi len len with
        |none=>none
        |some h=>match pr lo 0 h with
         |none=>none
         |some l=>if es=s then some (.slice id (o+l*s) (h-l) (.rest es)) else none
       |some _=>match hi,pr mx 0 len with
        |none,_=>none
        |_,none=>none
        |some _,some m=>match pr hi 0 m with
         |none=>none
         |some h=>match pr lo 0 h with
          |none=>none
          |some l=>some (.slice id (o+l*s) (h-l) (.exact (m-l)))
     | .ro cs n full=>match mx with
       |none=>match pr hi n n with
        |none=>none
        |some h=>match pr lo 0 h with
         |none=>none
         |some l=>match fE (l*s) cs with
          |none=>none
          |some d=>match jk ((h-l)*s) d with
           |none=>none
           |some d'=>some (.ro d' (h-l) (full&&h == n))
       |some _=>match hi,pr mx 0 n with
        |none,_=>none
        |_,none=>none
        |some _,some m=>match pr hi 0 m with
         |none=>none
         |some h=>match pr lo 0 h with
          |none=>none
          |some l=>match fE (l*s) cs with
           |none=>none
           |some d=>match jk ((h-l)*s) d with
            |none=>none
            |some d'=>some (.ro d' (h-l) (h == m))
     |_=>none
  | .array n e=>match jl tt e with
    |none=>none
    |some s=>match x with
     | .ptr id o=>if mx.isSome&&hi.isNone then none else match pr mx n n with
       |none=>none
       |some m=>match pr hi n m with
        |none=>none
        |some h=>match pr lo 0 h with
         |none=>none
         |some l=>some (.slice id (o+l*s) (h-l) (.exact (m-l)))
     |_=>none
  |_=>none
def Hl (tt:TT) (t:Nat) (x:AV) (lo hi mx:Option AV) (h:Hp):Option AV:=
 match mx with
 |some _=>none
 |none=>match tt t with
  |none=>none
  |some ti=>match ti.kind with
   | .slice e=>match jl tt e with
     |none=>none
     |some s=>match x with
      | .slice id o len (.rest es)=>if es=s/\0<s then match h.get id with
       |some (.cells cs _)=>match pr hi len ((cs.length-o) / s) with
        |none=>none
        |some hh=>match pr lo 0 hh with
         |none=>none
         |some l=>some (.slice id (o+l*s) (hh-l) (.rest es))
       |_=>none
       else none
      |_=>none
   |_=>none
def xy:List AV->Option (List Nat)
 |[]=>some []
 | .int .u8 (.lit (.ofNat b))::xs=>if b<256 then match xy xs with
  |some l=>some (b::l)
  |none=>none
  else none
 |_::_=>none
def qU (tt:TT) (sT dT:Nat) (x:AV) (h:Hp):Option (AV×Hp):=
 match tt sT with
 |none=>none
 |some j=>match tt dT with
 |some i=>match i.kind with
  | .int k=>match x with
    | .int _ (.lit n)=>some (.int k (.lit (vF k n)),h)
    | .int _ e=>some (.int k (.wrap k e),h)
    |_=>none
  | .string=>match j.kind with
   | .string=>match x with
     | .str s=>some (.str s,h)
     |_=>none
   | .slice e=>match tt e with
     |none=>none
     |some ie=>if ie.kind= .int .u8/\ie.size=1 then match x with
      | .fA=>some (.str [],h)
      | .slice id o len _=>match nH h (.ptr id o) len with
        |some cs=>(xy cs).map fun l=>(.str l,h)
        |none=>none
      |_=>none
      else none
   |_=>none
  | .slice e=>match tt e with
    |none=>none
    |some ie=>if ie.kind= .int .u8/\j.kind= .string then match x with
     | .str s=>some (.slice h.fresh 0 s.length (.rest 1),h.new (.cells (s.map fun c=> .int .u8 (.lit (Int.ofNat c))) e))
     |_=>none
     else none
  |_=>none
 |none=>none
def Va (pc:List (SB×Bool)) (kk:TK) (a b:AV):Option Bool:=
 match kk with
 | .int _=>match a,b with
   | .int k x,.int k' y=>if k=k' then lh pc (wC x y) else none
   |_,_=>none
 | .string=>match a,b with
   | .str x,.str y=>some (iK x y)
   |x,y=>match DE x y with
    |some c=>lh pc c
    |none=>none
 | .bool=>match a,b with
   | .bool (.lit x),.bool (.lit y)=>some (x == y)
   |_,_=>none
 |_=>none
def Ec (pc:List (SB×Bool)) (kk:TK) (k:AV):List (AV×AV×Nat)->Nat->Option (Option (Nat×AV))
 |[],_=>some none
 |(k',v,_)::es,i=>match Va pc kk k k' with
  |some true=>some (some (i,v))
  |some false=>Ec pc kk k es (i+1)
  |none=>none
def tx (k v:AV):List (AV×AV×Nat)->Nat->List (AV×AV×Nat)
 |[],_=>[]
 |(_,_,b)::es,0=>(k,v,b)::es
 |e::es,n+1=>e::tx k v es n
def rG {α:Type}:List α->Nat->List α
 |[],_=>[]
 |_::xs,0=>xs
 |x::xs,n+1=>x::rG xs n
def yd (tt:TT) (t:Nat):Option TK:=match tt t with
 |some i=>match i.kind with
  | .int k=>some (.int k)
  | .string=>some .string
  | .bool=>some .bool
  |_=>none
 |none=>none
def zeroOf (i:TI):Option AV:=
 match i.agg with
 |true=>some (.agg i.zero)
 |false=>match i.zero with
  |[v]=>some v
  |_=>none
def Lx (m:AV) (h:Hp):Option (List (AV×AV×Nat)):=match m with
 | .uF=>some []
 | .map id=>match h.get id with
   |some (.map es _)=>some es
   |_=>none
 |_=>none
def Ho (tt:TT) (pc:List (SB×Bool)) (t:Nat) (m k:AV) (ok:Bool) (h:Hp):Option AV:=
 match tt t with
 |some ti=>match ti.kind with
  | .map kt et=>
    match yd tt kt with
    |none=>none
    |some kk=>
     match tt et with
     |none=>none
     |some ie=>
      match Lx m h with
      |none=>none
      |some es=>match Ec pc kk k es 0 with
       |none=>none
       |some (some (_,v))=>some (if ok then .tuple [v,.bool (.lit true)] else v)
       |some none=>match zeroOf ie with
        |none=>none
        |some z=>some (if ok then .tuple [z,.bool (.lit false)] else z)
  |_=>none
 |none=>none
def sF (tt:TT) (pc:List (SB×Bool)) (t:Nat) (m k v:AV) (h:Hp):Option Hp:=
 match tt t with
 |some ti=>match ti.kind with
  | .map kt _=>
    match yd tt kt with
    |none=>none
    |some kk=>match m with
     | .map id=>match h.get id with
       |some (.map es c)=>match Ec pc kk k es 0 with
        |none=>none
        |some (some (i,_))=>some (h.put id (.map (tx k v es i) c))
        |some none=>some (h.put id (.map (es++ [(k,v,c)]) (c+1)))
       |_=>none
     |_=>none
  |_=>none
 |none=>none
def Hs (tt:TT) (pc:List (SB×Bool)) (t:Nat) (m k:AV) (h:Hp):Option Hp:=
 match tt t with
 |some ti=>match ti.kind with
  | .map kt _=>
    match yd tt kt with
    |none=>none
    |some kk=>match m with
     | .uF=>some h
     | .map id=>match h.get id with
       |some (.map es c)=>match Ec pc kk k es 0 with
        |none=>none
        |some (some (i,_))=>some (h.put id (.map (rG es i) c))
        |some none=>some (h.put id (.map es c))
       |_=>none
     |_=>none
  |_=>none
 |none=>none
def aao (tt:TT) (t:Nat) (x:AV) (h:Hp):Option AV:=
 let n (k:Nat):Option AV:=some (.int .i64 (.lit (Int.ofNat k)))
 match tt t with
 |some ti=>match ti.kind with
  | .string=>match x with
    | .str s=>n s.length
    | .kU e=>some (.int .i64 (eG e))
    |_=>none
  | .slice _=>match x with
    | .fA=>n 0
    | .emp=>n 0
    | .At _ _=>n 0
    | .slice _ _ len _=>n len
    | .ro _ k _=>n k
    | .fk e _=>some (.int .i64 (eG e))
    | .rV _ e _=>some (.int .i64 e)
    | .vT _ _ e _=>some (.int .i64 e)
    | .yU k _=>some (.int .i64 (.dP (900+k)))
    |_=>none
  | .array k _=>n k
  | .map _ _=>match x with
    | .uF=>n 0
    | .map id=>match h.get id with
      |some (.map es _)=>n es.length
      |some (.mw e _)=>some (.int .i64 (eG e))
      |_=>none
    |_=>none
  |_=>none
 |none=>none
def tu (s:Nat) (x:AV) (h:Hp):Option (Nat×List AV):=
 match x with
 | .fA=>some (0,[])
 | .slice id o len _=>(nH h (.ptr id o) (len*s)).map fun l=>(len,l)
 | .ro cs n _=>(jk (n*s) cs).map fun l=>(n,l)
 | .str b=>if s=1 then some (b.length,b.map fun c=> .int .u8 (.lit (Int.ofNat c))) else none
 |_=>none
def oH (ie:TI) (e len m:Nat) (cs:List AV) (h:Hp):Option (AV×Hp):=
 if (len+m)*ie.bytes<=140737488355328 then some (.slice h.fresh 0 (len+m) (.rest ie.size),h.new (.cells cs e)) else none
def rQ (ie:TI) (e m:Nat) (news:List AV) (x:AV) (h:Hp):Option (AV×Hp):=
 match x with
 | .fA=>if m=0 then some (.fA,h) else oH ie e 0 m news h
 | .slice id o len (.exact c)=>
   if len+m<=c then
    match h.get id with
    |some (.cells cs e')=>match ez cs (o+len*ie.size) news with
     |some mM=>some (.slice id o (len+m) (.exact c),h.put id (.cells mM e'))
     |none=>none
    |_=>none
   else match nH h (.ptr id o) (len*ie.size) with
    |some old=>oH ie e len m (old++news) h
    |none=>none
 | .slice id o len (.rest es)=>
   if es=ie.size then
    match h.get id with
    |some (.cells cs e')=>
     if o+(len+m)*ie.size<=cs.length then
      match ez cs (o+len*ie.size) news with
      |some mM=>some (.slice id o (len+m) (.rest es),h.put id (.cells mM e'))
      |none=>none
     else if o+len*ie.size=cs.length/\e'=e then
      match fE o cs with
      |some old=>oH ie e len m (old++news) (h.drop id)
      |none=>none
     else none
    |_=>none
   else none
 | .ro cs n full=>
   if m=0 then some (.ro cs n full,h)
   else if full then match jk (n*ie.size) cs with
    |some old=>oH ie e n m (old++news) h
    |none=>none
   else none
 |_=>none
def Ht (tt:TT) (t t2:Nat) (x y:AV) (h:Hp):Option (AV×Hp):=
 match tt t with
 |some ti=>match ti.kind with
  | .slice e=>match tt e with
    |some ie=>match tt t2 with
     |none=>none
     |some Ui=>match Ui.kind with
      | .int _=>none
      |_=>
       if ie.size=0\/ie.bytes=0\/¬ie.zero.length=ie.size then none else
       match tu ie.size y h with
       |none=>none
       |some (m,news)=>rQ ie e m news x h
    |none=>none
  |_=>none
 |none=>none
def Mj (tt:TT) (t:Nat) (x:AV) (h:Hp):Option Hp:=
 match tt t with
 |some ti=>match ti.kind with
  | .slice e=>match tt e with
    |some ie=>match x with
     | .fA=>some h
     | .At _ _=>some h
     | .slice id o len _=>match len with
       |0=>some h
       |_=>match ie.zero with
        |[]=>none
        |_=>match h.get id with
         |some (.cells cs e')=>match ez cs o (eb ie.zero len) with
          |some mM=>some (h.put id (.cells mM e'))
          |none=>none
         |_=>none
     |_=>none
    |none=>none
  |_=>none
 |none=>none
def L9 (tt:TT) (t:Nat) (x:AV) (h:Hp):Option (AV×Hp):=
 match tt t with
 |some ti=>match ti.kind with
  | .string=>match x with
    | .str b=>some (.ptr h.fresh 0,h.new (.lW b 0))
    |_=>none
  |_=>none
 |none=>none
def SV (x:AV) (isS:Bool) (h:Hp):Option (AV×Hp):=
 match isS with
 |false=>none
 |true=>match x with
  | .ptr id 0=>match h.get id with
    |some (.lW b p)=>match gb b p with
     |none=>some (.tuple [.bool (.lit false)],h)
     |some c=>if c<128 then some (.tuple [.bool (.lit true),.int .i64 (.lit (Int.ofNat p)),.int .i32 (.lit (Int.ofNat c))],h.put id (.lW b (p+1))) else none
    |_=>none
  |_=>none
def u6 (mx:Bool):List AV->W->IntKind->St->T (AV×St)
 |[],a,k,s=> .ret (.int k a,s)
 | .int _ b::xs,a,k,s=>mu s (if mx then jc a b else jc b a) fun s c=>if c then u6 mx xs b k s else u6 mx xs a k s
 |_,_,_,_=> .fail
def ajG (s:St) (k:IntKind) (e d:W):T (AV×St):=mu s (wC d (.lit 0)) fun s c=>match c with
 |true=> .fail
 |false=> .ret (.int k (.rem e d),s)
def RB (op:BinOp) (a b:AV):Option (IntKind×W×W):=
 match op with
 | .rem=>match a with
   | .int k e=>match b with
     | .int k' d=>match d with
       | .lit _=>none
       |d=>if k=k' then some (k,e,d) else none
     |_=>none
   |_=>none
 |_=>none
def tE (s:St) (v:Option AV):T (AV×St):=match v with |some v=> .ret (v,s)|none=> .fail
def Ry (s:St) (h:Option Hp):T (AV×St):=match h with |some h=> .ret (AV.undef,{ s with h:=h })|none=> .fail
def DL (s:St) (r:Option (AV×Hp)):T (AV×St):=match r with |some (v,h)=> .ret (v,{ s with h:=h })|none=> .fail
def Kd (s:St):Option Operand->Option (Option AV)
 |none=>some none
 |some x=>(ev s x).map some
def yp (s:St):List (Nat×Operand)->Option (List (Nat×AV))
 |[]=>some []
 |(i,x)::xs=>match ev s x with
  |none=>none
  |some a=>match yp s xs with
   |none=>none
   |some arp=>some ((i,a)::arp)
def AT {α:Type} (s:St) (i n:W) (f:St->T α):T α:=
 mu s (jc i (.lit 0)) fun s b=>match b with
  |true=> .fail
  |false=>mu s (jc i n) fun s b=>match b with
   |true=>f s
   |false=> .fail
def RP (tt:TT) (t:Nat) (a b:AV):Option W:=match a with
 | .fk e _=>match b with
   | .fA=>match tt t with
     |some ti=>match ti.kind with
      | .slice _=>some e
      |_=>none
     |none=>none
   |_=>none
 |_=>none
def I_ (s:St) (op:BinOp) (r:Bool):T (AV×St):=match op with
 | .eql=> .ret (.bool (.lit r),s)
 | .neq=> .ret (.bool (.lit (!r)),s)
 |_=> .fail
def ajR (s:St) (e:W) (op:BinOp):T (AV×St):=mu s (jc (.lit 0) (eG e)) fun s b=>match b with
 |true=>I_ s op false
 |false=>mu s (wB (oD e) (.fk (.i 1))) fun s b=>match b with
  |true=>I_ s op true
  |false=>mu s (wB (oD e) (.fk (.i 2))) fun s b=>match b with
   |true=>I_ s op false
   |false=> .fail
def anq (kk:TK) (a b:AV):Option SB:=match kk with
 | .int _=>match a with
   | .int k x=>match b with
     | .int k' y=>if k=k' then some (wC x y) else none
     |_=>none
   |_=>none
 | .string=>DE a b
 |_=>none
def vi {α:Type} (kk:TK) (k:AV):List (AV×AV×Nat)->St->(St->T α)->T α
 |[],s,f=>f s
 |(k',_,_)::es,s,f=>match Va s.pc kk k k' with
  |some b=>match b with
   |true=>f s
   |false=>vi kk k es s f
  |none=>match anq kk k k' with
   |some c=>mu s c fun s b=>match b with
    |true=>f s
    |false=>vi kk k es s f
   |none=>f s
def px {α:Type} (tt:TT) (t:Nat) (m k:AV) (s:St) (f:St->T α):T α:=match tt t with
 |some ti=>match ti.kind with
  | .map kt _=>match yd tt kt with
    |some kk=>match Lx m s.h with
     |some es=>vi kk k es s f
     |none=>f s
    |none=>f s
  |_=>f s
 |none=>f s
def Pe (k:IntKind) (e:W) (f:AV->St->T (AV×St)):Nat->Nat->St->T (AV×St)
 |0,_,_=> .fail
 |n+1,j,s=>match n with
  |0=>f (.int k (.lit (Int.ofNat j))) s
  |_=>mu s (wC e (.lit (Int.ofNat j))) fun s b=>match b with
   |true=>f (.int k (.lit (Int.ofNat j))) s
   |false=>Pe k e f n (j+1) s
def aov (tt:TT) (t:Nat) (x:AV):Option Nat:=match tt t with
 |some ti=>match ti.kind with
  | .array n _=>if n<=64 then some n else none
  | .slice _=>match x with
    | .slice _ _ len _=>if len<=64 then some len else none
    |_=>none
  |_=>none
 |none=>none
def KB (tt:TT) (t:Nat) (x ix:AV) (s:St) (f:AV->St->T (AV×St)):T (AV×St):=match lF ix with
 |some _=>f ix s
 |none=>match ix with
  | .int k e=>match aov tt t x with
    |some n=>AT s e (.lit (Int.ofNat n)) fun s=>Pe k e f n 0 s
    |none=> .fail
  |_=> .fail
def vc (tt:TT) (ty:Nat):Option Nat:=match tt ty with
 |some ti=>match ti.kind with
  | .slice el=>jl tt el
  |_=>none
 |none=>none
def Mi (tt:TT) (s:St) (ty t:Nat) (e:W) (ix:AV):T (AV×St):=match ix with
 | .int _ i=>match vc tt ty with
   |some z=>if z=(rowOf t).es then AT s i (eG e) fun s=> .ret (.oF (iE (rowOf t) (.op .at e i)),s) else .fail
   |none=> .fail
 |_=> .fail
def L4 (tt:TT) (s:St) (ty id t:Nat) (n:W) (ix:AV):T (AV×St):=match ix with
 | .int _ i=>match vc tt ty with
   |some z=>if z=(rowOf t).es then AT s i n fun s=> .ret (.BF id z i 0,s) else .fail
   |none=> .fail
 |_=> .fail
def pC (pc:List (SB×Bool)) (ace:List AV) (i:W):List (W×List AV)->Option (List AV)
 |[]=>some ace
 |(j,cs)::l=>match ga i j with
  |true=>some cs
  |false=>match lh pc (wC i j) with
   |some b=>match b with
    |true=>some cs
    |false=>pC pc ace i l
   |none=>none
def Jm (pc:List (SB×Bool)) (i:W) (mM:List AV):List (W×List AV)->Option (List (W×List AV))
 |[]=>none
 |(j,cs)::l=>match ga i j with
  |true=>some ((j,mM)::l)
  |false=>match lh pc (wC i j) with
   |some b=>match b with
    |true=>some ((j,mM)::l)
    |false=>match Jm pc i mM l with
     |some l'=>some ((j,cs)::l')
     |none=>none
   |none=>none
def xG (pc:List (SB×Bool)) (i:W):List (W×List AV)->Bool
 |[]=>true
 |(j,_)::l=>match lh pc (wC i j) with
  |some false=>xG pc i l
  |_=>false
def wb {α:Type} (i:W):List (W×List AV)->St->(St->T α)->T α
 |[],s,k=>k s
 |(j,_)::l,s,k=>match ga i j with
  |true=>k s
  |false=>mu s (wC i j) fun s b=>match b with
   |true=>k s
   |false=>wb i l s k
def GH (k:IntKind):List AV->Option (List D)
 |[]=>some []
 |v::vs=>match v with
  | .int k' e=>match e with
    | .lit n=>if k=k' then match GH k vs with
     |some ds=>some (.i n::ds)
     |none=>none
     else none
    |_=>none
  |_=>none
def ado:List AV->Option IntKind
 |v::_=>match v with
  | .int k _=>some k
  |_=>none
 |[]=>none
def Wr (tt:TT) (t:Nat) (ix:AV):Option (Nat×W):=match lF ix with
 |some _=>none
 |none=>match ix with
  | .int _ e=>match tt t with
    |some ti=>match ti.kind with
     | .array n el=>if 64<n then match tt el with
      |some ie=>if ie.size=1/\ie.agg=false then some (n,e) else none
      |none=>none
      else none
     |_=>none
    |none=>none
  |_=>none
def Kb (s:St) (cs:List AV) (e:W):T (AV×St):=match ado cs with
 |none=> .fail
 |some k=>match GH k cs with
  |none=> .fail
  |some ds=>AT s e (.lit (Int.ofNat ds.length)) fun s=> .ret (.int k (I8 (.op .at (.fk (dL ds)) e)),s)
def Bz (tt:TT) (s:St) (ty id es:Nat) (i:W) (off:Nat):T (AV×St):=match s.h.get id with
 |some o=>match o with
  | .cells cs _=>match tt ty with
    |some ti=>match ti.agg||!(Nat.beq es 1)||!(Nat.beq off 0) with
     |true=> .fail
     |false=>Kb s cs i
    |none=> .fail
  | .vec e t _ ov=>match tt ty with
    |some ti=>if (rowOf t).es=es then AT s i (eG e) fun s=>wb i ov s fun s=>match pC s.pc (iE (rowOf t) (.op .at e i)) i ov with
     |some cs=>match fE off cs with
      |some l=>tE s (partOf ti l)
      |none=> .fail
     |none=> .fail
     else .fail
    |none=> .fail
  |_=> .fail
 |none=> .fail
def frz (v:AV) (h:Hp):AV×Hp:=match v with
 | .rV id n t=>match h.get id with
   |some o=>match o with
    | .vec e t' _ ov=>match ov with
      |[]=>match Nat.beq t t' with
       |true=>match ga n (eG e) with
        |true=>(.fk e t,h.drop id)
        |false=>(v,h)
       |false=>(v,h)
      |_=>(v,h)
    |_=>(v,h)
   |none=>(v,h)
 | .At z t=>(.fk z t,h)
 |v=>(v,h)
def isZ (e:W):Bool:=match e with
 | .lit n=>wS n 0
 |_=>false
def ua (a b:W):W:=match isZ a with
 |true=>b
 |false=> .add a b
def FR (a b:W):W:=match isZ b with
 |true=>a
 |false=> .sub a b
def Lo (e lo n:W):W:=match isZ lo with
 |true=> .op .take e n
 |false=> .op .drop (.op .take e (.add lo n)) lo
def CI {α:Type} (e lo n:W) (s:St) (k:St->T α):T α:=
 mu s (jc lo (.lit 0)) fun s b=>match b with
  |true=> .fail
  |false=>mu s (jc n (.lit 0)) fun s b=>match b with
   |true=> .fail
   |false=>mu s (jc (eG e) (ua lo n)) fun s b=>match b with
    |true=> .fail
    |false=>k s
def IM (h:Hp) (id t:Nat):Option (W×TypeId):=match h.get id with
 |some o=>match o with
  | .vec e t' ty ov=>match ov with
    |[]=>match Nat.beq t t' with
     |true=>some (e,ty)
     |false=>none
    |_=>none
  |_=>none
 |none=>none
def XR {α:Type} (v:AV) (s:St) (k:AV->St->T α):T α:=match v with
 | .vT id lo n t=>match IM s.h id t with
   |some (e,_)=>CI e lo n s fun s=>k (.fk (Lo e lo n) t) { s with h:=s.h.drop id }
   |none=>k v s
 |v=>match frz v s.h with
  |(v',h')=>k v' { s with h:=h' }
def J1 {α:Type}:List AV->St->(List AV->St->T α)->T α
 |[],s,k=>k [] s
 |v::vs,s,k=>XR v s fun v' s=>J1 vs s fun PW s=>k (v'::PW) s
def Js {α:Type} (t:Nat):List (W×List AV)->W->St->(W->St->T α)->T α
 |[],e,s,k=>k e s
 |(j,cs)::ov,e,s,k=>Js t ov e s fun e s=>J1 cs s fun cs s=>match sI (rowOf t) cs with
  |some x=>k (.op .set e (gD (Cw j) x)) s
  |none=> .fail
def ajM (v:AV) (h:Hp):Option (Nat×W×Nat×List (W×List AV)):=match v with
 | .rV id n t=>match h.get id with
   |some o=>match o with
    | .vec e t' _ ov=>match ov with
      |[]=>none
      |_=>match Nat.beq t t' with
       |true=>match ga n (eG e) with
        |true=>some (id,e,t,ov)
        |false=>none
       |false=>none
    |_=>none
   |none=>none
 |_=>none
def XQ {α:Type} (v:AV) (s:St) (k:AV->St->T α):T α:=match ajM v s.h with
 |some (id,e,t,ov)=>Js t ov e s fun e' s=>match s.h.get id with
  |some _=>k (.fk e' t) { s with h:=s.h.drop id }
  |none=> .fail
 |none=>XR v s k
def zd {α:Type}:List AV->St->(List AV->St->T α)->T α
 |[],s,k=>k [] s
 |v::vs,s,k=>XQ v s fun v' s=>zd vs s fun PW s=>k (v'::PW) s
def setCells:List CK->Nat->List AV->W->Option W
 |_,_,[],x=>some x
 |ks,off,v::vs,x=>match gb ks off with
  |some c=>match oU c v with
   |some a=>setCells ks (off+1) vs (.op .set x (gD (.fk (.i (Int.ofNat off))) a))
   |none=>none
  |none=>none
def MP (r:Row) (e i:W) (off:Nat) (vs:List AV):Option W:=match r with
 | .one c=>match off with
   |0=>match vs with
    |[v]=>match oU c v with
     |some a=>some (.op .set e (gD (Cw i) a))
     |none=>none
    |_=>none
   |_=>none
 | .many ks=>match setCells ks off vs (.op .at e i) with
   |some x=>some (.op .set e (gD (Cw i) x))
   |none=>none
def Hj (tt:TT) (s:St) (ty id es:Nat) (i:W) (off:Nat) (one:Bool) (vs:List AV):T (AV×St):=
 match s.h.get id with
  |some o=>match o with
   | .vec e t Cf ov=>match tt ty with
     |some ti=>if (rowOf t).es=es/\vs.length=ti.size/\one=true then AT s i (eG e) fun s=>wb i ov s fun s=>match pC s.pc (iE (rowOf t) (.op .at e i)) i ov with
      |some cs=>match ez cs off vs with
       |some mM=>match Jm s.pc i mM ov with
        |some rZ=> .ret (AV.undef,{ s with h:=s.h.put id (.vec e t Cf rZ) })
        |none=>match xG s.pc i ov with
         |true=>match MP (rowOf t) e i off vs with
          |some e'=> .ret (AV.undef,{ s with h:=s.h.put id (.vec e' t Cf ov) })
          |none=> .ret (AV.undef,{ s with h:=s.h.put id (.vec e t Cf ((i,mM)::ov)) })
         |false=> .fail
       |none=> .fail
      |none=> .fail
      else .fail
     |none=> .fail
   |_=> .fail
  |none=> .fail
def anA:AV->Bool
 | .rV _ _ _=>true
 | .fA=>true
 | .At _ _=>true
 | .slice _ _ n c=>match n with
   |0=>match c with
    | .exact k=>match k with
      |0=>true
      |_=>false
    |_=>false
   |_=>false
 |_=>false
def akG (c:CK) (v:AV):AV:=match c with
 | .sl t=>match v with
   | .fA=> .At (.fk (.i 1)) t
   | .slice i o n k=>match n with
     |0=>match k with
      | .exact m=>match m with
        |0=> .At (.fk (.i 2)) t
        |m+1=> .slice i o 0 (.exact (m+1))
      |k=> .slice i o 0 k
     |n+1=> .slice i o (n+1) k
   |v=>v
 |_=>v
def OV:List CK->List AV->List AV
 |[],vs=>vs
 |_::_,[]=>[]
 |c::cs,v::vs=>akG c v::OV cs vs
def Rw (r:Row):List CK:=match r with
 | .one c=>[c]
 | .many cs=>cs
def VI (i:W):List (SB×Bool)->Option W
 |[]=>none
 |(c,b)::l=>match c with
  | .eq x y=>match b with
    |true=>match ga x i with
     |true=>some y
     |false=>VI i l
    |false=>VI i l
  |_=>VI i l
def Hi (tt:TT) (s:St) (ty id es:Nat) (i j:W) (off:Nat) (one:Bool) (vs:List AV):T (AV×St):=
 match s.h.get id with
  |some o=>match o with
   | .vec e t Cf ov=>match tt ty with
     |some ti=>if (rowOf t).es=es/\vs.length=ti.size/\one=true then AT s i (eG e) fun s=>wb j ov s fun s=>match lh s.pc (.eq i j) with
      |some true=>match pC s.pc (iE (rowOf t) (.op .at e j)) j ov with
       |some cs=>match ez cs off (OV ((Rw (rowOf t)).drop off) vs) with
        |some mM=>match Jm s.pc j mM ov with
         |some rZ=> .ret (AV.undef,{ s with h:=s.h.put id (.vec e t Cf rZ) })
         |none=>match xG s.pc j ov with
          |true=> .ret (AV.undef,{ s with h:=s.h.put id (.vec e t Cf ((j,mM)::ov)) })
          |false=> .fail
        |none=> .fail
       |none=> .fail
      |_=> .fail
      else .fail
     |none=> .fail
   |_=> .fail
  |none=> .fail
def Hk (tt:TT) (s:St) (ty id es:Nat) (i:W) (off:Nat) (v:AV):T (AV×St):=
 match (if anA v then VI i s.pc else none) with
 |some j=>Hi tt s ty id es i j off (te v.cells) v.cells
 |none=>zd v.cells s fun vs s=>Hj tt s ty id es i off (te v.cells) vs
def rO (e:Nat) (own:Option Nat) (x:AV) (h:Hp):Option (W×Nat×Hp):=match x with
 | .rV id n t=>match h.get id with
   |some o=>match o with
    | .vec e0 t0 ty ov=>match ov with
      |[]=>match Nat.beq t t0 with
       |true=>match Nat.beq ty e with
        |true=>match ga n (eG e0) with
         |true=>some (e0,t,h.drop id)
         |false=>none
        |false=>none
       |false=>none
      |_=>none
    |_=>none
   |none=>none
 | .fA=>match own with
   |some t=>some (.fk (.i 0),t,h)
   |none=>none
 | .emp=>match own with
   |some t=>some (.fk (.i 0),t,h)
   |none=>none
 | .At _ _=>match own with
   |some t=>some (.fk (.i 0),t,h)
   |none=>none
 | .slice _ _ n c=>match n with
   |0=>match c with
    | .exact k=>match k with
      |0=>match own with
       |some t=>some (.fk (.i 0),t,h)
       |none=>none
      |_=>none
    |_=>none
   |_=>none
 |_=>none
def agm:AV->Bool
 | .fk _ _=>true
 |_=>false
def O? (own:Option Nat):AV->Bool
 | .rV _ _ _=>true
 | .vT _ _ _ _=>true
 | .fA=>own.isSome
 | .emp=>own.isSome
 | .At _ _=>own.isSome
 | .slice _ _ n c=>match n with
   |0=>match c with
    | .exact k=>match k with
      |0=>own.isSome
      |_=>false
    |_=>false
   |_=>false
 |_=>false
def Wt (id t:Nat) (ty:TypeId) (e0 n1 m sd:W) (s:St):T (AV×St):=
 CI e0 n1 m s fun s=> .ret (.vT id (.lit 0) (ua n1 m) t,{ s with h:=s.h.put id (.vec (.op .cat (.op .cat (.op .take e0 n1) sd) (.op .drop e0 (ua n1 m))) t ty []) })
def Hu (tt:TT) (t t2 id:Nat) (n1:W) (t':Nat) (y:AV) (s:St):T (AV×St):=
 match tt t with
 |some ti=>match ti.kind with
  | .slice e=>match tt e with
    |some ie=>match tt t2 with
     |none=> .fail
     |some Ui=>match Ui.kind with
      | .int _=> .fail
      |_=>
       if ie.size=0\/ie.bytes=0\/¬ie.zero.length=ie.size\/¬(rowOf t').es=ie.size then .fail else
       match IM s.h id t' with
       |none=> .fail
       |some (e0,ty)=>match y with
        | .vT id2 YF n2 M9=>match Nat.beq id2 id with
          |true=>match Nat.beq M9 t' with
           |true=>CI e0 YF n2 s fun s=>Wt id t' ty e0 n1 n2 (Lo e0 YF n2) s
           |false=> .fail
          |false=> .fail
        |y=>match tu ie.size y s.h with
         |none=> .fail
         |some (m,news)=>match m with
          |0=> .fail
          |m+1=>if m<1000 then match mH (rowOf t') (.fk (.i 0)) (m+1) news with
           |some sd=>Wt id t' ty e0 n1 (.lit (Int.ofNat (m+1))) sd s
           |none=> .fail
           else .fail
    |none=> .fail
  |_=> .fail
 |none=> .fail
def BD (tt:TT) (ty id:Nat) (lo n:W) (t:Nat) (s:St):T (AV×St):=
 match tt ty with
 |some ti=>match ti.kind with
  | .slice e=>match tt e with
    |some ie=>if (rowOf t).es=ie.size/\0<ie.size then match IM s.h id t with
     |none=> .fail
     |some (e0,Cf)=>match sI (rowOf t) ie.zero with
      |none=> .fail
      |some z=>mu s (jc lo (.lit 0)) fun s b=>match b with
       |true=> .fail
       |false=>mu s (jc n (.lit 0)) fun s b=>match b with
        |true=> .fail
        |false=>mu s (wC (ua lo n) (eG e0)) fun s b=>match b with
         |false=> .fail
         |true=> .ret (AV.undef,{ s with h:=s.h.put id (.vec (.op .fill e0 (gD (Cw lo) z)) t Cf []) })
     else .fail
    |none=> .fail
  |_=> .fail
 |none=> .fail
def sO (bytes k:Nat):Int:=Int.ofNat (140737488355328 / bytes-k)
def z! (e0:W) (bytes:Nat):Int:=match R9 e0 with
 |true=>sO bytes 0
 |false=>sO bytes 1000000
def adU:AV->Bool
 | .rV _ _ _=>true
 | .At _ _=>true
 | .slice _ _ n _=>match n with
   |0=>true
   |_=>false
 |_=>false
def Bp:List (SB×Bool)->Bool
 |[]=>false
 |(b,v)::l=>match b with
  | .eq _ x=>match x with
    | .dP i=>match i with
      |0=>match v with
       |true=>true
       |false=>Bp l
      |_=>Bp l
    |_=>Bp l
  |_=>Bp l
def adh (m:Nat) (news:List AV) (pc:List (SB×Bool)):Bool:=match m with
 |0=>match news.any adU with
  |true=>Bp pc
  |false=>false
 |_=>false
def CG (e:Nat) (x:AV) (h:Hp):Option (W×Nat×W×List AV×Hp):=match x with
 | .rV id n t=>match h.get id with
   |some o=>match o with
    | .vec e0 t0 ty ov=>match ov with
      |[]=>none
      |p::l=>match l with
       |[]=>match Nat.beq t t0 with
        |true=>match Nat.beq ty e with
         |true=>match ga n (eG e0) with
          |true=>some (e0,t,p.1,p.2,h.drop id)
          |false=>none
         |false=>none
        |false=>none
       |_=>none
    |_=>none
   |none=>none
 |_=>none
def BE (e:Nat) (own:Option Nat) (x:AV) (ie:TI) (m:Nat) (news:List AV) (s:St):T (AV×St):=
 zd news s fun DX s=>match rO e own x s.h with
  |some (e0,t',h0)=>if (rowOf t').es=ie.size/\m<1000 then
   mu s (jc (eG e0) (.lit (sO ie.bytes (m+1)))) fun s b=>match b with
    |true=>match mH (rowOf t') e0 (m+1) DX with
     |some e1=> .ret (.rV h0.fresh (eG e1) t',{ s with h:=h0.new (.vec e1 t' e []) })
     |none=> .fail
    |false=> .fail
   else .fail
  |none=> .fail
def De (e:Nat) (x:AV) (ie:TI) (m:Nat) (news:List AV) (s:St):T (AV×St):=
 zd news s fun DX s=>match CG e x s.h with
  |some (e0,t',p,cs,h0)=>if (rowOf t').es=ie.size/\m<1000 then
   mu s (jc (eG e0) (.lit (sO ie.bytes (m+1)))) fun s b=>match b with
    |true=>mu s (jc p (eG e0)) fun s b=>match b with
     |true=>match mH (rowOf t') e0 (m+1) DX with
      |some e1=> .ret (.rV h0.fresh (eG e1) t',{ s with h:=h0.new (.vec e1 t' e [(p,cs)]) })
      |none=> .fail
     |false=> .fail
    |false=> .fail
   else .fail
  |none=> .fail
def Dd (e:Nat) (own:Option Nat) (x:AV) (ie:TI) (m:Nat) (news:List AV) (s:St):T (AV×St):=
 match rO e own x s.h with
 |some (e0,t',h0)=>if (rowOf t').es=ie.size/\m=0 then
  mu s (wC (eG e0) (.dP 0)) fun s b=>match b with
   |true=>mu s (jc (eG e0) (.lit (sO ie.bytes 1))) fun s b=>match b with
    |true=>match mH (rowOf t') e0 1 ie.zero with
     |some e1=> .ret (.rV h0.fresh (eG e1) t',{ s with h:=h0.new (.vec e1 t' e [(.dP 0,news)]) })
     |none=> .fail
    |false=> .fail
   |false=>BE e own x ie m news s
  else .fail
 |none=> .fail
def Dc (tt:TT) (t t2:Nat) (x y:AV) (s:St):T (AV×St):=
 match tt t with
 |some ti=>match ti.kind with
  | .slice e=>match tt e with
    |some ie=>match tt t2 with
     |none=> .fail
     |some Ui=>match Ui.kind with
      | .int _=> .fail
      |_=>
       if ie.size=0\/ie.bytes=0\/¬ie.zero.length=ie.size\/¬ie.bytes<=400 then .fail else
       match y with
       | .fk e2 ty2=>match rO e ti.own x s.h with
         |some (e0,t',h0)=>if (rowOf t').es=ie.size/\rowOf ty2=rowOf t' then
          mu s (wB (eG e2) (.lit 0)) fun s b=>match b with
           |true=> .ret (x,s)
           |false=>mu s (jc (eG e2) (.lit (z! e0 ie.bytes))) fun s b=>match b with
            |true=>mu s (jc (eG e0) (.lit 1000000)) fun s b=>match b with
             |true=>match R9 e0 with
              |true=> .ret (.rV h0.fresh (eG e2) t',{ s with h:=h0.new (.vec e2 t' e []) })
              |false=> .ret (.rV h0.fresh (eG (.op .cat e0 e2)) t',{ s with h:=h0.new (.vec (.op .cat e0 e2) t' e []) })
             |false=> .fail
            |false=> .fail
          else .fail
         |none=> .fail
       |y=>match tu ie.size y s.h with
        |some (m,news)=>match m with
         |0=> .ret (x,s)
         |m+1=>match CG e x s.h with
          |some _=>De e x ie m news s
          |none=>match adh m news s.pc with
           |true=>Dd e ti.own x ie m news s
           |false=>BE e ti.own x ie m news s
        |none=> .fail
    |none=> .fail
  |_=> .fail
 |none=> .fail
def Mc (tt:TT) (t:Nat) (l c:AV) (s:St):T (AV×St):=match l with
 | .int k n=>match c with
   | .int k2 n2=>match ga n n2 with
     |false=> .fail
     |true=>match tt t with
      |none=> .fail
      |some i=>match i.own with
       |none=> .fail
       |some o=>match i.kind with
        | .slice e=>match tt e with
          |none=> .fail
          |some ie=>match sI (rowOf o) ie.zero with
           |none=> .fail
           |some z=>if ie.size=(rowOf o).es/\0<ie.size/\ie.bytes≠0/\ie.zero.length=ie.size then
            mu s (jc n (.lit 0)) fun s b=>match b with
             |true=> .fail
             |false=>mu s (wB n (.lit 0)) fun s b=>match b with
              |true=>match sG tt t (.int k (.lit 0)) (.int k2 (.lit 0)) s.h with
               |some (v,h)=> .ret (v,{ s with h:=h })
               |none=> .fail
              |false=>mu s (jc n (.lit (sO ie.bytes 0))) fun s b=>match b with
               |true=> .ret (.rV s.h.fresh (eG (.op .rep n z)) o,{ s with h:=s.h.new (.vec (.op .rep n z) o e []) })
               |false=> .fail
            else .fail
        |_=> .fail
   |_=> .fail
 |_=> .fail
def ET (v:AV):Bool:=match lF v with
 |some n=>wS n 0
 |none=>false
def Mh (tt:TT) (s:St) (ty t:Nat) (e:W) (lo hi:Option AV) (mx:Option AV):T (AV×St):=match mx with
 |some m=>match ET m with
  |true=>match vc tt ty with
   |none=> .fail
   |some _=>match lo with
    |none=>match hi with
     |some hv=>match ET hv with
      |true=> .ret (.At (.op .take e (.lit 0)) t,s)
      |false=> .fail
     |none=> .fail
    |some _=> .fail
  |false=> .fail
 |none=>match vc tt ty with
  |none=> .fail
  |some z=>if z=(rowOf t).es then
   (match hi with
   |none=>match lo with
    |some (.int _ l)=>mu s (jc l (.lit 0)) fun s b=>match b with
     |true=> .fail
     |false=>mu s (jc (eG e) l) fun s b=>match b with
      |true=> .fail
      |false=> .ret (.fk (.op .drop e l) t,s)
    |_=> .fail
   |some (.int _ h)=>mu s (jc (eG e) h) fun s b=>match b with
    |true=> .fail
    |false=>match lo with
     |none=>mu s (jc h (.lit 0)) fun s b=>match b with
      |true=> .fail
      |false=> .ret (.fk (.op .take e h) t,s)
     |some (.int _ l)=>mu s (jc l (.lit 0)) fun s b=>match b with
      |true=> .fail
      |false=>mu s (jc h l) fun s b=>match b with
       |true=> .fail
       |false=> .ret (.fk (.op .drop (.op .take e h) l) t,s)
     |_=> .fail
   |_=> .fail)
   else .fail
def loE (lo:Option AV):Option W:=match lo with
 |none=>some (.lit 0)
 |some v=>match v with
  | .int _ l=>some l
  |_=>none
def Fm (tt:TT) (s:St) (ty id t:Nat) (lo0 n0:W) (lo hi mx:Option AV):T (AV×St):=
 match vc tt ty with
 |none=> .fail
 |some z=>if z=(rowOf t).es/\z≠0 then match loE lo with
  |none=> .fail
  |some l=>mu s (jc l (.lit 0)) fun s b=>match b with
   |true=> .fail
   |false=>match hi with
    |none=>match mx with
     |some _=> .fail
     |none=>mu s (jc n0 l) fun s b=>match b with
      |true=> .fail
      |false=> .ret (.vT id (ua lo0 l) (FR n0 l) t,s)
    |some hv=>match hv with
     | .int _ h=>mu s (jc h l) fun s b=>match b with
       |true=> .fail
       |false=>match mx with
        |some mv=>match mv with
         | .int _ m=>mu s (jc m h) fun s b=>match b with
           |true=> .fail
           |false=>mu s (jc n0 m) fun s b=>match b with
            |true=> .fail
            |false=> .ret (.any,s)
         |_=> .fail
        |none=>mu s (jc n0 h) fun s b=>match b with
         |false=> .ret (.vT id (ua lo0 l) (FR h l) t,s)
         |true=>match isZ lo0 with
          |false=> .fail
          |true=>match IM s.h id t with
           |none=> .fail
           |some (e,_)=>mu s (jc (eG e) h) fun s b=>match b with
            |true=> .fail
            |false=> .ret (.vT id (ua lo0 l) (FR h l) t,s)
     |_=> .fail
  else .fail
def Mg (tt:TT) (s:St) (ty:Nat) (z:W) (t:Nat) (lo hi mx:Option AV):T (AV×St):=
 match mx with
 |some _=> .fail
 |none=>match vc tt ty with
  |none=> .fail
  |some _=>match pr hi 0 0 with
   |some 0=>match pr lo 0 0 with
    |some 0=> .ret (.At z t,s)
    |_=> .fail
   |_=> .fail
def L3 (tt:TT) (s:St) (ty id t:Nat) (lo n:W) (ix:AV):T (AV×St):=match ix with
 | .int _ i=>match vc tt ty with
   |some z=>if z=(rowOf t).es then AT s i n fun s=> .ret (.BF id z (ua lo i) 0,s) else .fail
   |none=> .fail
 |_=> .fail
def Q_:AV->Bool
 | .kU _=>true
 |_=>false
def L6 (tt:TT) (s:St) (ty:Nat) (e:W) (ix:AV):T (AV×St):=match ix with
 | .int _ i=>match tt ty with
   |some ti=>match ti.kind with
    | .string=>AT s i (eG e) fun s=> .ret (.int .u8 (I8 (.op .at e i)),s)
    |_=> .fail
   |none=> .fail
 |_=> .fail
def hiE (e:W) (hi:Option AV):Option W:=match hi with
 |none=>some (eG e)
 |some v=>match v with
  | .int _ h=>some h
  |_=>none
def L5 (tt:TT) (s:St) (ty:Nat) (e:W) (lo hi mx:Option AV):T (AV×St):=match mx with
 |some _=> .fail
 |none=>match tt ty with
  |none=> .fail
  |some ti=>match ti.kind with
   | .string=>match loE lo with
     |none=> .fail
     |some l=>match hiE e hi with
      |none=> .fail
      |some h=>mu s (jc l (.lit 0)) fun s b=>match b with
       |true=> .fail
       |false=>mu s (jc h l) fun s b=>match b with
        |true=> .fail
        |false=>mu s (jc (eG e) h) fun s b=>match b with
         |true=> .fail
         |false=> .ret (.kU (.op .sub e (gD (Cw l) (gD (Cw h) (.fk (.i 0))))),s)
   |_=> .fail
def EX (x y:AV):Option (W×W):=match Q_ x||Q_ y with
 |false=>none
 |true=>match vu x with
  |none=>none
  |some a=>match vu y with
   |none=>none
   |some b=>some (a,b)
def I4 (a b:W):SB:=.not (.eq (.op .slt a b) (.lit 0))
def SN (op:BinOp) (a b:W) (s:St):T (AV×St):=match op with
 | .add=>mu s (jc (eG a) (.lit 1000000000)) fun s c=>match c with
   |false=> .fail
   |true=>mu s (jc (eG b) (.lit 1000000000)) fun s c=>match c with
    |false=> .fail
    |true=> .ret (.kU (.op .cat a b),s)
 | .eql=> .ret (.bool (wB (oD a) (oD b)),s)
 | .neq=> .ret (.bool (.not (wB (oD a) (oD b))),s)
 | .lss=> .ret (.bool (I4 a b),s)
 | .gtr=> .ret (.bool (I4 b a),s)
 | .leq=> .ret (.bool (yR (I4 b a)),s)
 | .geq=> .ret (.bool (yR (I4 a b)),s)
 |_=> .fail
def Fp (tt:TT) (sT dT:Nat) (e:W) (s:St):T (AV×St):=match tt sT with
 |none=> .fail
 |some j=>match j.kind with
  | .string=>match tt dT with
    |none=> .fail
    |some i=>match i.kind with
     | .slice el=>match tt el with
       |some ie=>match ie.kind with
        | .int k=>match k with
          | .u8=>mu s (wB (eG e) (.lit 0)) fun s c=>match c with
            |true=> .ret (.slice s.h.fresh 0 0 (.rest 1),{ s with h:=s.h.new (.cells [] el) })
            |false=> .ret (.rV s.h.fresh (eG e) 14,{ s with h:=s.h.new (.vec e 14 el []) })
          |_=> .fail
        |_=> .fail
       |none=> .fail
     |_=> .fail
  |_=> .fail
def D3 (c:CK):TK:=match c with
 | .int k=> .int k
 |_=> .string
def yT (m:AV) (h:Hp):Option (Nat×W×Nat):=match m with
 | .map id=>match h.get id with
   |some o=>match o with
    | .mw e t=>some (id,e,t)
    |_=>none
   |none=>none
 |_=>none
def mapKey (tt:TT) (ty t:Nat) (k:AV):Option (W×TI):=match tt ty with
 |none=>none
 |some ti=>match ti.kind with
  | .map kt et=>match tt kt with
    |none=>none
    |some ki=>if ki.kind=D3 (mapOf t).1 then match tt et with
     |none=>none
     |some ie=>match oU (mapOf t).1 k with
      |none=>none
      |some a=>some (oD a,ie)
     else none
  |_=>none
def Y! (e a:W):SB:=match e with
 | .fk d=>match a with
   | .fk k=> .lit (!(lE d.l k).isSome)
   |a=> .eq (.op .EB (.fk d) a) (.lit 0)
 |e=> .eq (.op .EB e a) (.lit 0)
def By (tt:TT) (ty:Nat) (k:AV) (ok:Bool) (e:W) (t:Nat) (s:St):T (AV×St):=match mapKey tt ty t k with
 |none=> .fail
 |some (a,ie)=>match zeroOf ie with
  |none=> .fail
  |some z=>mu s (Y! e a) fun s b=>match b with
   |true=> .ret (if ok then .tuple [z,.bool (.lit false)] else z,s)
   |false=> .ret (if ok then .tuple [vn (mapOf t).2 (.op .EC e a),.bool (.lit true)] else vn (mapOf t).2 (.op .EC e a),s)
def SU (tt:TT) (ty id:Nat) (k x:AV) (e:W) (t:Nat) (s:St):T (AV×St):=match mapKey tt ty t k with
 |none=> .fail
 |some (a,_)=>match oU (mapOf t).2 x with
  |none=> .fail
  |some b=> .ret (AV.undef,{ s with h:=s.h.put id (.mw (.op .Of e (gD a b)) t) })
def Ma (tt:TT) (ty:Nat) (m k x:AV) (s:St):T (AV×St):=zd [x] s fun xs s=>match xs with
 |[x]=>match yT m s.h with
  |some (id,e,t)=>SU tt ty id k x e t s
  |none=> .fail
 |_=> .fail
def S4 (tt:TT) (ty id:Nat) (k:AV) (e:W) (t:Nat) (s:St):T (AV×St):=match mapKey tt ty t k with
 |none=> .fail
 |some (a,_)=> .ret (AV.undef,{ s with h:=s.h.put id (.mw (.op .RT e a) t) })
abbrev eP:=Nat->List AV->St->T (AV×St)
def B3 (s:St) (x:Operand) (f:AV->T (AV×St)):T (AV×St):=match ev s x with |some v=>f v|none=> .fail
def agh (tt:TT) (t:Nat):Option Nat:=match tt t with
 |some ti=>ti.own
 |none=>none
def yq (tt:TT) (s:St) (b:Builtin) (ts:List Nat) (args:List AV):T (AV×St):=
 match b,ts,args with
 | .len,[t],[x]=>tE s (aao tt t x s.h)
 | .append,[t,t2],[.vT id lo n t',y]=>match isZ lo with
   |true=>Hu tt t t2 id n t' y s
   |false=> .fail
 | .append,[t,t2],[x,y]=>match O? (agh tt t) x||agm y with
   |true=>Dc tt t t2 x y s
   |false=>DL s (Ht tt t t2 x y s.h)
 | .delete,[t,_],[m,k]=>match yT m s.h with
   |some (id,e,t')=>S4 tt t id k e t' s
   |none=>px tt t m k s fun s=>Ry s (Hs tt s.pc t m k s.h)
 | .clear,[t],[.rV id n t']=>BD tt t id (.lit 0) n t' s
 | .clear,[t],[.vT id lo n t']=>BD tt t id lo n t' s
 | .clear,[t],[x]=>Ry s (Mj tt t x s.h)
 | .min,_,.int k a::xs=>u6 false xs a k s
 | .max,_,.int k a::xs=>u6 true xs a k s
 |_,_,_=> .fail
def Mk (tt:TT) (call:eP) (s:St) (c:Call):T (AV×St):=
 match evs s c.args.toList with
 |none=> .fail
 |some args=>match c.callee with
  | .builtin b=>yq tt s b c.argTypes.toList args
  | .value f=>match ev s f with
    |some (.func (.func g) fs cs)=>call g (fs++args++cs) s
    |_=> .fail
  | .invoke _ _=> .fail
def amp:SB->Bool
 | .lit _=>true
 | .not c=>match c with
   | .eq _ z=>match z with
     | .lit n=>wS n 0
     |_=>false
   |_=>false
 |_=>false
def acK {α:Type} (v:AV) (s:St) (k:AV->St->T α):T α:=match v with
 | .bool c=>match amp c with
   |true=>k (.bool c) s
   |false=>mu s c fun s b=>k (.bool (.lit b)) s
 |v=>k v s
def Mb (tt:TT) (call:eP) (s:St) (op:Op):T (AV×St):=
 match op with
 | .move x=>B3 s x fun v=> .ret (v,s)
 | .assign x=>B3 s x fun v=> .ret (v,s)
 | .pick c a b=>B3 s c fun c=>match c with
   | .bool c=>mu s c fun s b'=>if b' then B3 s a fun v=> .ret (v,s) else B3 s b fun v=> .ret (v,s)
   |_=> .fail
 | .alloc t=>match tt t with
   |some i=> .ret (.ptr s.h.fresh 0,{ s with h:=s.h.new (.cells i.zero t) })
   |none=> .fail
 | .box t x=>B3 s x fun v=>if te v.cells then .ret (.ptr s.h.fresh 0,{ s with h:=s.h.new (.cells v.cells t) }) else .fail
 | .build t parts=>match yp s parts.toList with
   |some ps=>tE s (Mm tt t ps)
   |none=> .fail
 | .buildSlice t n parts=>match yp s parts.toList with
   |some ps=>DL s (vb tt t n ps s.h)
   |none=> .fail
 | .makeSlice t l c=>B3 s l fun lv=>match ev s c with
   |some cv=>match sG tt t lv cv s.h with
    |some r=>DL s (some r)
    |none=>Mc tt t lv cv s
   |none=> .fail
 | .load t x=>B3 s x fun p=>match p with
   | .BF id es i off=>Bz tt s t id es i off
   |p=>tE s (Db tt t p s.h)
 | .store t x y=>B3 s x fun p=>match ev s y with
   |some v=>acK v s fun v s=>match p with
    | .BF id es i off=>Hk tt s t id es i off v
    |p=>Ry s (L7 tt t p v s.h)
   |none=> .fail
 | .nilCheck x=>B3 s x fun v=>match v with
   | .ptr _ _=> .ret (v,s)
   | .oF _=> .ret (v,s)
   | .BF _ _ _ _=> .ret (v,s)
   |_=> .fail
 | .binOp op t x y _=>B3 s x fun a=>match ev s y with
   |some b=>match a with
    | .agg xs=>match b,op with
      | .agg ys,.eql=>match Fo tt t xs ys with
        |some c=> .ret (.bool c,s)
        |none=> .fail
      | .agg ys,.neq=>match Fo tt t xs ys with
        |some c=> .ret (.bool (yR c),s)
        |none=> .fail
      |_,_=> .fail
    |a=>match RP tt t a b with
     |some e=>ajR s e op
     |none=>match RB op a b with
      |some (k,e,d)=>ajG s k e d
      |none=>match EX a b with
       |some (x,y)=>SN op x y s
       |none=>tE s (aaq tt t op a b)
   |none=> .fail
 | .unOp op _ x=>B3 s x fun v=>tE s (akI op v)
 | .convert sT dT x=>B3 s x fun v=>match v with
   | .kU e=>Fp tt sT dT e s
   |v=>DL s (qU tt sT dT v s.h)
 | .makeFunc fn fs cs=>match evs s fs.toList,evs s cs.toList with
   |some f,some c=> .ret (.func fn f c,s)
   |_,_=> .fail
 | .makeMap t r=>match r with
   |none=>match agh tt t with
    |some m=> .ret (.map s.h.fresh,{ s with h:=s.h.new (.mw (.fk (.i 0)) m) })
    |none=> .ret (.map s.h.fresh,{ s with h:=s.h.new (.map [] 0) })
   |some _=> .fail
 | .slice t x lo hi mx=>B3 s x fun v=>match Kd s lo,Kd s hi,Kd s mx with
   |some l,some h,some m=>match v with
    | .fk e t'=>Mh tt s t t' e l h m
    | .rV id n t'=>Fm tt s t id t' (.lit 0) n l h m
    | .vT id lo n t'=>Fm tt s t id t' lo n l h m
    | .kU e=>L5 tt s t e l h m
    | .At z t'=>Mg tt s t z t' l h m
    |v=>match L8 tt t v l h m with
    |some v=> .ret (v,s)
    |none=>tE s (Hl tt t v l h m s.h)
   |_,_,_=> .fail
 | .fieldAddr t x f=>B3 s x fun v=>tE s (xq tt t v f)
 | .field t x f=>B3 s x fun v=>tE s (Mf tt t v f)
 | .indexAddr t x i=>B3 s x fun v=>match ev s i with
   |some i=>match v with
    | .yU k ks=>tE s (Md tt s.pc t k ks i)
    | .fk e t'=>Mi tt s t t' e i
    | .rV id n t'=>L4 tt s t id t' n i
    | .vT id lo n t'=>L3 tt s t id t' lo n i
    | .ptr id o=>match Wr tt t i with
      |some (n,e)=>if o=0 then AT s e (.lit (Int.ofNat n)) fun s=> .ret (.BF id 1 e 0,s) else .fail
      |none=>KB tt t (.ptr id o) i s fun i s=>tE s (pW tt t (.ptr id o) i)
    |v=>KB tt t v i s fun i s=>tE s (pW tt t v i)
   |none=> .fail
 | .index t x i=>B3 s x fun v=>match ev s i with
   |some i=>match v with
    | .kU e=>L6 tt s t e i
    | .agg cs=>match Wr tt t i with
      |some (n,e)=>match Nat.beq cs.length n with
       |true=>Kb s cs e
       |false=> .fail
      |none=>KB tt t (.agg cs) i s fun i s=>tE s (BA tt t (.agg cs) i)
    |v=>KB tt t v i s fun i s=>tE s (BA tt t v i)
   |none=> .fail
 | .lookup t m k ok=>B3 s m fun v=>match ev s k with
   |some k=>match yT v s.h with
    |some (_,e,t')=>By tt t k ok e t' s
    |none=>px tt t v k s fun s=>tE s (Ho tt s.pc t v k ok s.h)
   |none=> .fail
 | .mapUpdate t m k x=>B3 s m fun v=>match ev s k,ev s x with
   |some k,some x=>match yT v s.h with
    |some _=>Ma tt t v k x s
    |none=>px tt t v k s fun s=>Ry s (sF tt s.pc t v k x s.h)
   |_,_=> .fail
 | .insert t m k x=>B3 s m fun v=>match ev s k,ev s x with
   |some k,some x=>match yT v s.h with
    |some _=>Ma tt t v k x s
    |none=>px tt t v k s fun s=>Ry s (sF tt s.pc t v k x s.h)
   |_,_=> .fail
 | .range t x=>B3 s x fun v=>DL s (L9 tt t v s.h)
 | .next x isS=>B3 s x fun v=>DL s (SV v isS s.h)
 | .extract x i=>B3 s x fun v=>match v with
   | .tuple vs=>tE s (gb vs i)
   |_=> .fail
 | .call c=>Mk tt call s c
 |_=> .fail
def xY {α:Type} (ops:List Oper) (s:St) (o:Oper) (f:St->Bool->T α):T α:=
 match o.guard with
 |none=>f s true
 |some (j,want)=>match gb ops j with
  |some oj=>match oj.dst with
   |some d=>match s.bH.get d with
    |some (.bool c)=>mu s c fun s b=>f s (b == want)
    |some (.tuple _)=>f s false
    |_=> .fail
   |none=> .fail
  |none=> .fail
def O8 (tt:TT) (call:eP) (all:List Oper):List Oper->St->T St
 |[],s=> .ret s
 |o::rest,s=>xY all s o fun s b=>
  if b then (Mb tt call s o.op).bind fun (v,s')=>O8 tt call all rest (s'.NO o.dst v)
  else O8 tt call all rest (s.NO o.dst AV.undef)
inductive Ex where
 |normal
 |exit (id:Nat)
 |ret
 deriving DecidableEq,Inhabited
def xp (body:St->T (Ex×St)):Nat->St->T (Ex×St)
 |0,_=> .fail
 |n+1,s=>(body s).bind fun (e,s')=>match e with
  | .normal=>xp body n s'
  |e=> .ret (e,s')
def jV (tt:TT) (call:eP) (draw:Nat->List Oper->St->T St) (lf:Nat):Code->St->T (Ex×St)
 | .skip,s=> .ret (.normal,s)
 | .region id ops d,s=>
   if d then (draw id ops.toList s).bind fun s'=> .ret (.normal,s')
   else (O8 tt call ops.toList ops.toList s).bind fun s'=> .ret (.normal,s')
 | .seq a b,s=>(jV tt call draw lf a s).bind fun (e,s')=>match e with
   | .normal=>jV tt call draw lf b s'
   |e=> .ret (e,s')
 | .cond c x y,s=>match ev s c with
   |some (.bool c)=>mu s c fun s b=>if b then jV tt call draw lf x s else jV tt call draw lf y s
   |_=> .fail
 | .block id b,s=>(jV tt call draw lf b s).bind fun (e,s')=>match e with
   | .exit j=> .ret (if j=id then .normal else .exit j,s')
   |e=> .ret (e,s')
 | .loop b,s=>xp (jV tt call draw lf b) lf s
 | .exit id,s=> .ret (.exit id,s)
 | .scope b,s=>jV tt call draw lf b s
 | .label _,s=> .ret (.normal,s)
 | .ret,s=> .ret (.ret,s)
 |_,_=> .fail
def cq:List AV->Nat->Tr AV->Tr AV
 |[],_,t=>t
 |v::vs,i,t=>cq vs (i+1) (t.put i (some v))
def Bx (tt:TT) (s:St):ResultVar->Option AV
 | .tmp t=>s.bH.get t
 | .cell a t=>match s.bH.get a with
   |some p=>Db tt t p s.h
   |none=>none
def lS (tt:TT) (s:St):List ResultVar->Option (List AV)
 |[]=>some []
 |r::rs=>match Bx tt s r with
  |none=>none
  |some v=>match lS tt s rs with
   |none=>none
   |some vs=>some (v::vs)
def Me (tt:TT) (ft:Nat->Option Func) (hook:Nat->Option (List AV->St->T (AV×St))) (draw:eP->Nat->Nat->List Oper->St->T St) (lf:Nat):Nat->eP
 |0,_,_,_=> .fail
 |n+1,g,args,s=>
  match hook g with
  |some h=>h args s
  |none=>match ft g with
   |none=> .fail
   |some fn=>match fn.body with
    |none=> .fail
    |some c=>
     (jV tt (Me tt ft hook draw lf n) (draw (Me tt ft hook draw lf n) g) lf c { s with bH:=cq args 0 .nil }).bind fun (e,s')=>
      match e with
      | .exit _=> .fail
      |_=>match lS tt s' fn.results.toList with
       |some [v]=> .ret (v,{ s' with bH:=s.bH })
       |some vs=> .ret (.tuple vs,{ s' with bH:=s.bH })
       |none=> .fail
end
end Go.As
end
section
namespace Go.As
structure En where
 ρ:Nat->Int
 θ:Nat->Nat×Nat
 κ:Nat->Nat
 dm:Nat->Prop
 ro:Nat->Prop
def dF (s:List Nat):ByteArray:=⟨(s.map UInt8.ofNat).toArray⟩
def mz (h:Array Obj) (b o:Nat):Option Value:=
 match h[b]? with
 |some (.cells c _ _)=>c[o]?
 |_=>none
theorem pZ (w:World) (b o:Nat):w.cell? ⟨b,o,none⟩ = mz w.heap b o:=by
 unfold World.cell? mz
 grind
def gJ (h:Array Obj) (b o:Nat) (us:List Value):Prop:= ∀i u,us[i]?=some u->mz h b (o+i)=some u
inductive Rd (ro:Nat->Prop) (h:Array Obj):CK->D->Value->Prop where
 |int (k:IntKind) (n:Int):Rd ro h (.int k) (.i n) (.int k n)
 |bool (b:Bool):Rd ro h .bool (.i (if b then 1 else 0)) (.bool b)
 |str (s:ByteArray):Rd ro h .str (vS s) (.string s)
 |nil (t:Nat):Rd ro h (.sl t) (.i 1) (.slice none 0 0)
 |xZ (t:Nat) (a:Addr) (cap:Nat):Rd ro h (.sl t) (.i 2) (.slice (some a) 0 cap)
 |one (t:Nat) (c:CK) (b o cap:Nat) (ds:List D) (f:Nat->Value) (hr:rowOf t= .one c) (hc:ds.length<=cap) (hb:ro b)
  (U: ∀i d,ds[i]?=some d->mz h b (o+i)=some (f i)) (Z: ∀i d,ds[i]?=some d->Rd ro h c d (f i)):Rd ro h (.sl t) (dL ds) (.slice (some ⟨b,o,none⟩) ds.length cap)
 |many (t:Nat) (cs:List CK) (b o cap:Nat) (rows:List (List D)) (f:Nat->Nat->Value) (hr:rowOf t= .many cs) (hc:rows.length<=cap) (hb:ro b) (hl: ∀r∈rows,r.length=cs.length)
  (U: ∀i r j d,rows[i]?=some r->r[j]?=some d->mz h b (o+i*cs.length+j)=some (f i j))
  (Z: ∀i r j d c,rows[i]?=some r->r[j]?=some d->cs[j]?=some c->Rd ro h c d (f i j)):Rd ro h (.sl t) (dL (rows.map dL)) (.slice (some ⟨b,o,none⟩) rows.length cap)
theorem Rd.adY {ro:Nat->Prop} {h:Array Obj} {c:CK} {d:D} {v:Value} (r:Rd ro h c d v):v.oneCell'=true:=by cases r<;>rfl
theorem Rd.dv {ro oX:Nat->Prop} {h h':Array Obj} (k1: ∀b,ro b->oX b) (k2: ∀b,ro b->h'[b]?=h[b]?) {c:CK} {d:D} {v:Value} (r:Rd ro h c d v):Rd oX h' c d v:=by
 have hk: ∀b o u,ro b->mz h b o=some u->mz h' b o=some u:=by
  intro b o u hb hu
  grind [mz]
 induction r with
 |int k n=>exact .int k n
 |bool b=>exact .bool b
 |str s=>exact .str s
 |nil t=>exact .nil t
 |xZ t a cap=>exact .xZ t a cap
 |one t c b o cap ds f hr hc hb U Z ih=>exact .one t c b o cap ds f hr hc (k1 b hb) (fun i d hi=>hk _ _ _ hb (U i d hi)) ih
 |many t cs b o cap rows f hr hc hb hl U Z ih=>exact .many t cs b o cap rows f hr hc (k1 b hb) hl (fun i r j d hi hj=>hk _ _ _ hb (U i r j d hi hj)) ih
def fJ (E:En) (id off len:Nat) (a:Addr) (cap:Nat):PV->Prop
 | .exact c=>cap=c/\((a=⟨(E.θ id).1,(E.θ id).2+off,none⟩)\/c=0)
 | .rest es=>(a=⟨(E.θ id).1,(E.θ id).2+off,none⟩/\off+cap*es=E.κ id)\/(cap=0/\len=0/\off=E.κ id)
mutual
def VR (E:En) (h:Array Obj):AV->Value->Prop
 | .bool b,v=>v= .bool (b.den E.ρ)
 | .int k e,v=>v= .int k (e.den E.ρ)
 | .str s,v=>v= .string (dF s)/\∀b∈s,b<256
 | .ptr id off,v=>v= .pointer (some ⟨(E.θ id).1,(E.θ id).2+off,none⟩)/\E.dm id
 | .vL,v=>v= .pointer none
 | .oF cs,v=> ∃b o us,v= .pointer (some ⟨b,o,none⟩)/\E.ro b/\cL E h cs us/\gJ h b o us/\∀u∈us,u.oneCell'=true
 | .slice id off len c,v=>E.dm id/\∃a cap,v= .slice (some a) len cap/\len<=cap/\fJ E id off len a cap c
 | .fA,v=>v= .slice none 0 0
 | .ro cs n full,v=> ∃b o cap us,v= .slice (some ⟨b,o,none⟩) n cap/\n<=cap/\(full=true->cap=n)/\E.ro b/\cL E h cs us/\gJ h b o us/\∀u∈us,u.oneCell'=true
 | .map id,v=>v= .map (some (E.θ id).1)/\E.dm id
 | .uF,v=>v= .map none
 | .func fn fs cs,v=> ∃us ws,v= .func fn us.toArray ws.toArray/\cL E h fs us/\cL E h cs ws
 | .yD,v=>v= .nilFunc
 | .iface t x,v=> ∃u,v= .iface t u/\VR E h x u
 | .zL,v=>v= .nilIface
 | .agg cs,v=> ∃us,v= .agg us.toArray/\cL E h cs us
 | .tuple cs,v=> ∃us,v= .tuple us.toArray/\cL E h cs us
 | .N6 _,_=>False
 | .emp,v=> ∃x,v= .slice x 0 0
 | .fk e t,v=>Rd E.ro h (.sl t) (dec (e.den E.ρ)) v
 | .kU e,v=>Rd E.ro h .str (dec (e.den E.ρ)) v
 | .rV id n t,v=>E.dm id/\∃(k:Nat) (a:Addr) (cap:Nat),n.den E.ρ=(k:Int)/\v= .slice (some a) k cap/\k<=cap/\fJ E id 0 k a cap (.rest (rowOf t).es)
 | .BF id es i off,v=>E.dm id/\∃k:Nat,i.den E.ρ=(k:Int)/\v= .pointer (some ⟨(E.θ id).1,(E.θ id).2+(k*es+off),none⟩)
 | .any,_=>True
 | .At z t,v=>(∃x,v= .slice x 0 0)/\Rd E.ro h (.sl t) (dec (z.den E.ρ)) v
 | .vT id lo n t,v=>E.dm id/\∃(l k:Nat) (a:Addr) (cap:Nat),lo.den E.ρ=(l:Int)/\n.den E.ρ=(k:Int)/\v= .slice (some a) k cap/\k<=cap/\fJ E id (l*(rowOf t).es) k a cap (.rest (rowOf t).es)
 | .yU k ks,v=>((∃x cap,v= .slice x 0 cap)/\E.ρ (900+k)=0)\/∃b o n cap,v= .slice (some ⟨b,o,none⟩) n cap/\n<=cap/\E.ρ (900+k)=(n:Int)/\E.ro b/\
  ∀i j kd,i<n->ks[j]?=some kd->mz h b (o+i*ks.length+j)=some (.int kd (E.ρ (1000+i*64+(k*8+j))))
def cL (E:En) (h:Array Obj):List AV->List Value->Prop
 |[],us=>us= []
 |x::xs,us=> ∃u vs,us=u::vs/\VR E h x u/\cL E h xs vs
end
theorem jz {E:En} {h:Array Obj} {us:List Value}:cL E h [] us↔us= []:=by simp [cL]
theorem bX {E:En} {h:Array Obj} {x:AV} {xs:List AV} {us:List Value}:cL E h (x::xs) us↔∃u vs,us=u::vs/\VR E h x u/\cL E h xs vs:=by simp [cL]
theorem cL.length {E:En} {h:Array Obj}: ∀{xs:List AV} {us:List Value},cL E h xs us->us.length=xs.length
 |[],us,hh=>by rw [jz] at hh; simp [hh]
 |x::xs,us,hh=>by rw [bX] at hh;obtain⟨u,vs,rfl,_,Z⟩:=hh;simp [Z.length]
theorem cL.append {E:En} {h:Array Obj}: ∀{xs ys:List AV} {us vs:List Value},cL E h xs us->cL E h ys vs->cL E h (xs++ys) (us++vs)
 |[],_,us,vs,U,Z=>by rw [jz] at U; subst U; simpa using Z
 |x::xs,ys,us,vs,U,Z=>by rw [bX] at U;obtain⟨u,iA,rfl,Y,pd⟩:=U;simp only [aM];rw [bX];exact⟨u,iA++vs,rfl,Y,pd.append Z⟩
theorem cL.jk {E:En} {h:Array Obj}: ∀{n:Nat} {xs ys:List AV} {us:List Value},cL E h xs us->As.jk n xs=some ys->cL E h ys (us.take n)/\n<=xs.length
 |0,xs,ys,us,_,Z=>by simp [As.jk] at Z; subst Z; simp [cL]
 |n+1,[],ys,us,_,Z=>by simp [As.jk] at Z
 |n+1,x::xs,ys,us,U,Z=>by
  rw [bX] at U;obtain⟨u,vs,rfl,Y,pd⟩:=U;simp only [As.jk] at Z;split at Z
  ·rename_i l hl;simp at Z;subst Z;have:=pd.jk hl
   grind [bX]
  grind
theorem cL.fE {E:En} {h:Array Obj}: ∀{n:Nat} {xs ys:List AV} {us:List Value},cL E h xs us->As.fE n xs=some ys->cL E h ys (us.drop n)/\n<=xs.length/\ys.length=xs.length-n
 |0,xs,ys,us,U,Z=>by simp [As.fE] at Z; subst Z; simpa using U
 |n+1,[],ys,us,_,Z=>by simp [As.fE] at Z
 |n+1,x::xs,ys,us,U,Z=>by
  rw [bX] at U;obtain⟨u,vs,rfl,Y,pd⟩:=U;simp only [As.fE] at Z;have:=pd.fE Z
  grind
theorem cL.nth {E:En} {h:Array Obj}: ∀{i:Nat} {xs:List AV} {x:AV} {us:List Value},cL E h xs us->gb xs i=some x->∃u,us[i]?=some u/\VR E h x u
 |_,[],_,us,_,Z=>by simp [gb] at Z
 |0,x::xs,y,us,U,Z=>by
  rw [bX] at U;obtain⟨u,vs,rfl,Y,pd⟩:=U
  grind [gb]
 |i+1,x::xs,y,us,U,Z=>by
  rw [bX] at U;obtain⟨u,vs,rfl,Y,pd⟩:=U;simp only [gb] at Z;obtain⟨v,h3,h4⟩:=pd.nth Z
  grind
def fw (E:En) (h:Array Obj):List (AV×AV×Nat)->List MapEntry->Prop
 |[],es=>es= []
 |(k,v,b)::xs,es=> ∃e r,es=e::r/\VR E h k e.key/\VR E h v e.val/\b=b/\fw E h xs r
def mj (ro:Nat->Prop) (h:Array Obj) (t:Nat):List D->List MapEntry->Prop
 |[],es=>es= []
 |d::ds,es=> ∃e r,es=e::r/\d= .p (TD d) (aci d)/\Rd ro h (mapOf t).1 (TD d) e.key/\Rd ro h (mapOf t).2 (aci d) e.val/\mj ro h t ds r
theorem mj.dv {ro oX:Nat->Prop} {h h':Array Obj} (k1: ∀b,ro b->oX b) (k2: ∀b,ro b->h'[b]?=h[b]?) {t:Nat}: ∀{ds:List D} {es:List MapEntry},mj ro h t ds es->mj oX h' t ds es
 |[],_,hh=>hh
 |_::_,_,hh=>by obtain⟨e,r,U,Z,h3,h4,h5⟩:=hh;exact⟨e,r,U,Z,h3.dv k1 k2,h4.dv k1 k2,mj.dv k1 k2 h5⟩
theorem mj.length {ro:Nat->Prop} {h:Array Obj} {t:Nat}: ∀{ds:List D} {es:List MapEntry},mj ro h t ds es->es.length=ds.length
 |[],_,hh=>by simp only [mj] at hh; rw [hh]; rfl
 |_::_,_,hh=>by obtain⟨e,r,U,_,_,_,h5⟩:=hh;rw [U,aT,aT,mj.length h5]
noncomputable def eE (ρ:Nat->Int) (i:Nat):List (W×List AV)->Option (List AV)
 |[]=>none
 |(j,cs)::l=>if j.den ρ=(i:Int) then some cs else eE ρ i l
noncomputable def bJ (ρ:Nat->Int) (r:Row) (ov:List (W×List AV)):List D->Nat->List AV
 |[],_=>[]
 |d::ds,i=>(match eE ρ i ov with |some cs=>cs|none=>iE r (.fk d))++bJ ρ r ov ds (i+1)
def wI (r:Row) (ov:List (W×List AV)):Prop:= ∀p∈ov,p.2.length=r.es
def OR (E:En) (h:Array Obj) (id:Nat):eL->Prop
 | .cells cs e=> ∃arr lo hi us,h[(E.θ id).1]?=some (.cells arr e (lo,hi))/\cL E h cs us/\(∀i u,us[i]?=some u->arr[(E.θ id).2+i]?=some u)/\
  cs.length<=E.κ id/\(E.θ id).2+E.κ id=arr.size/\(∀o,lo<=o->o<hi->arr.size<=o)/\(∀u∈us,u.oneCell'=true)
 | .map es _=> ∃cO c,h[(E.θ id).1]?=some (.map cO c)/\fw E h es cO.toList
 | .vec e t ty ov=>(wI (rowOf t) ov/\xH (rowOf t) (dec (e.den E.ρ)))/\∃arr lo hi us,h[(E.θ id).1]?=some (.cells arr ty (lo,hi))/\cL E h (bJ E.ρ (rowOf t) ov (dec (e.den E.ρ)).l 0) us/\(∀i u,us[i]?=some u->arr[(E.θ id).2+i]?=some u)/\
  (bJ E.ρ (rowOf t) ov (dec (e.den E.ρ)).l 0).length<=E.κ id/\(E.θ id).2+E.κ id=arr.size/\(∀o,lo<=o->o<hi->arr.size<=o)/\(∀u∈us,u.oneCell'=true)
 | .lW s p=>h[(E.θ id).1]?=some (.stringIter (dF s) p)/\(E.θ id).2=0/\∀b∈s,b<256
 | .mw e t=> ∃cO c,h[(E.θ id).1]?=some (.map cO c)/\mj E.ro h t (dec (e.den E.ρ)).l cO.toList
class bS where
 ok:(Nat->Int)->(Nat->Prop)->Array Obj->Prop
 dv: ∀{ρ:Nat->Int} {ro oX:Nat->Prop} {h h':Array Obj},ok ρ ro h->(∀b,ro b->oX b)->(∀b,ro b->h'[b]?=h[b]?)->ok ρ oX h'
 jN: ∀{ρ ρ':Nat->Int} {ro:Nat->Prop} {h:Array Obj},ok ρ ro h->(∀i,900<=i->ρ' i=ρ i)->ok ρ' ro h
structure ca [bS] (E:En) (H:Hp) (w:World):Prop where
 fresh: ∀id,H.next<=id->¬E.dm id
 res: ∀r,H.res=some r->r<H.next/\¬E.dm r
 live: ∀id o,H.get id=some o->E.dm id/\OR E w.heap id o/\¬E.ro (E.θ id).1
 inj: ∀id Sg o o',H.get id=some o->H.get Sg=some o'->(E.θ id).1=(E.θ Sg).1->id=Sg
 wE: ∀b,E.ro b->b<w.heap.size
 mE:bS.ok E.ρ E.ro w.heap
structure fP (E:En) (H:Hp) (w:World) (E':En) (H':Hp) (w':World):Prop where
 ρ:E'.ρ=E.ρ
 dm: ∀id,E.dm id->E'.dm id
 θ: ∀id,E.dm id->E'.θ id=E.θ id
 κ: ∀id,E.dm id->E'.κ id=E.κ id
 ro: ∀b,E.ro b->E'.ro b
 DJ: ∀b,E'.ro b->E.ro b\/(∃id o,H.get id=some o/\(E.θ id).1=b)\/w.heap.size<=b
 nxm:H.next<=H'.next
 rsm:H'.res=none\/H'.res=H.res
 dmn: ∀id,E'.dm id->E.dm id\/(H.next<=id/\id<H'.next)\/H.res=some id
 os:w'.os=w.os
 tape:w'.tape=w.tape
 output:w'.output=w.output
 size:w.heap.size<=w'.heap.size
 dv: ∀b,b<w.heap.size->(∀id o,H.get id=some o->(E.θ id).1≠b)->w'.heap[b]?=w.heap[b]?
 own: ∀id o,H'.get id=some o->(E'.θ id).1<w.heap.size->∃yV o0,H.get yV=some o0/\(E.θ yV).1=(E'.θ id).1
theorem fP.refl (E:En) (H:Hp) (w:World):fP E H w E H w:=
 ⟨rfl,fun _ h=>h,fun _ _=>rfl,fun _ _=>rfl,fun _ h=>h,fun _ h=> .inl h,ax _,.inr rfl,fun _ h=> .inl h,rfl,rfl,rfl,ax _,fun _ _ _=>rfl,fun id o h _=> ⟨id,o,h,rfl⟩⟩
theorem fP.trans {E E1 E2:En} {H H1 H2:Hp} {w w1 w2:World} (a:fP E H w E1 H1 w1) (b:fP E1 H1 w1 E2 H2 w2):fP E H w E2 H2 w2 where
 ρ:=b.ρ.trans a.ρ
 dm:=fun id h=>b.dm id (a.dm id h)
 θ:=fun id h=>(b.θ id (a.dm id h)).trans (a.θ id h)
 κ:=fun id h=>(b.κ id (a.dm id h)).trans (a.κ id h)
 ro:=fun x h=>b.ro x (a.ro x h)
 DJ:=fun x h=>by
  rcases b.DJ x h with h|⟨id,o,U,Z⟩|h
  ·exact a.DJ x h
  ·rcases aZ x w.heap.size with Y|Y
   ·obtain⟨yV,o0,h3,h4⟩:=a.own id o U (by rw [Z]; exact Y);exact .inr (.inl ⟨yV,o0,h3,h4.trans Z⟩)
   ·exact .inr (.inr Y)
  ·exact .inr (.inr (bq a.size h))
 nxm:=bq a.nxm b.nxm
 rsm:=by
  rcases b.rsm with h|h
  ·exact .inl h
  ·rw [h]; exact a.rsm
 dmn:=fun id h=>by
  rcases b.dmn id h with h|h|h
  ·rcases a.dmn id h with h|h|h
   ·exact .inl h
   ·exact .inr (.inl ⟨h.1,arV h.2 b.nxm⟩)
   ·exact .inr (.inr h)
  ·exact .inr (.inl ⟨bq a.nxm h.1,h.2⟩)
  ·rcases a.rsm with h'|h'
   ·rw [h'] at h; simp at h
   ·exact .inr (.inr (h'.symm.trans h))
 os:=b.os.trans a.os
 tape:=b.tape.trans a.tape
 output:=b.output.trans a.output
 size:=bq a.size b.size
 dv:=fun x Y hn=>by rw [b.dv x (arV Y a.size) ?_,a.dv x Y hn];intro id o ho he;obtain⟨yV,o0,h0,X!⟩:=a.own id o ho (by rw [he]; exact Y);exact hn yV o0 h0 (X!.trans he)
 own:=fun id o ho gy=>by obtain⟨id1,o1,U,Ss⟩:=b.own id o ho (arV gy a.size);obtain⟨yV,o0,h0,X!⟩:=a.own id1 o1 U (by rw [Ss]; exact gy);exact⟨yV,o0,h0,X!.trans Ss⟩
structure lj (E:En) (h:Array Obj) (E':En) (h':Array Obj):Prop where
 ρ:E'.ρ=E.ρ
 dm: ∀id,E.dm id->E'.dm id
 θ: ∀id,E.dm id->E'.θ id=E.θ id
 κ: ∀id,E.dm id->E'.κ id=E.κ id
 ro: ∀b,E.ro b->E'.ro b
 F4: ∀b,E.ro b->h'[b]?=h[b]?
theorem fP.keeps [bS] {E E':En} {H H':Hp} {w w':World} (s:fP E H w E' H' w') (r:ca E H w):lj E w.heap E' w'.heap:=
 ⟨s.ρ,s.dm,s.θ,s.κ,s.ro,fun b hb=>s.dv b (r.wE b hb) fun id o ho he=>(r.live id o ho).2.2 (by rw [he]; exact hb)⟩
theorem gJ.dv {E E':En} {h h':Array Obj} (k:lj E h E' h') {b o:Nat} {us:List Value} (hb:E.ro b) (hc:gJ h b o us):gJ h' b o us:=by
 intro i u hu;have:=hc i u hu;unfold mz at *;rw [k.F4 b hb]
 grind
theorem fJ.dv {E E':En} {h h':Array Obj} (k:lj E h E' h') {id off len:Nat} {a:Addr} {cap:Nat} {c:PV} (hid:E.dm id) (hc:fJ E id off len a cap c):fJ E' id off len a cap c:=by
 cases c<;>simp only [fJ] at*<;>rw [k.θ id hid]
 ·exact hc
 ·rw [k.κ id hid]; exact hc
mutual
theorem VR.dv {E E':En} {h h':Array Obj} (k:lj E h E' h'): ∀(x:AV) (v:Value),VR E h x v->VR E' h' x v
 | .bool b,v,hv=>by simp only [VR] at *; rw [k.ρ]; exact hv
 | .int _ e,v,hv=>by simp only [VR] at *; rw [k.ρ]; exact hv
 | .str s,v,hv=>by simp only [VR] at *; exact hv
 | .ptr id off,v,hv=>by simp only [VR] at *; rw [k.θ id hv.2]; exact⟨hv.1,k.dm _ hv.2⟩
 | .vL,v,hv=>by simp only [VR] at *; exact hv
 | .oF cs,v,hv=>by simp only [VR] at *;obtain⟨b,o,us,U,Z,h3,h4,h5⟩:=hv;exact⟨b,o,us,U,k.ro b Z,cL.dv k cs us h3,h4.dv k Z,h5⟩
 | .slice id off len c,v,hv=>by simp only [VR] at *;obtain⟨U,a,cap,Z,h3,h4⟩:=hv;exact⟨k.dm _ U,a,cap,Z,h3,h4.dv k U⟩
 | .fA,v,hv=>by simp only [VR] at *; exact hv
 | .ro cs n full,v,hv=>by simp only [VR] at *;obtain⟨b,o,cap,us,U,Z,h3,h4,h5,h6,h7⟩:=hv;exact⟨b,o,cap,us,U,Z,h3,k.ro b h4,cL.dv k cs us h5,h6.dv k h4,h7⟩
 | .map id,v,hv=>by simp only [VR] at *; rw [k.θ id hv.2]; exact⟨hv.1,k.dm _ hv.2⟩
 | .uF,v,hv=>by simp only [VR] at *; exact hv
 | .func fn fs cs,v,hv=>by simp only [VR] at *;obtain⟨us,ws,U,Z,h3⟩:=hv;exact⟨us,ws,U,cL.dv k fs us Z,cL.dv k cs ws h3⟩
 | .yD,v,hv=>by simp only [VR] at *; exact hv
 | .iface t x,v,hv=>by simp only [VR] at *;obtain⟨u,U,Z⟩:=hv;exact⟨u,U,VR.dv k x u Z⟩
 | .zL,v,hv=>by simp only [VR] at *; exact hv
 | .agg cs,v,hv=>by simp only [VR] at *;obtain⟨us,U,Z⟩:=hv;exact⟨us,U,cL.dv k cs us Z⟩
 | .tuple cs,v,hv=>by simp only [VR] at *;obtain⟨us,U,Z⟩:=hv;exact⟨us,U,cL.dv k cs us Z⟩
 | .N6 _,v,hv=>by simp only [VR] at hv
 | .emp,v,hv=>by simp only [VR] at *; exact hv
 | .fk e t,v,hv=>by simp only [VR] at *; rw [k.ρ]; exact hv.dv k.ro k.F4
 | .kU e,v,hv=>by simp only [VR] at *; rw [k.ρ]; exact hv.dv k.ro k.F4
 | .rV id n t,v,hv=>by simp only [VR] at *;obtain⟨U,m,a,cap,Z,h3,h4,h5⟩:=hv;exact⟨k.dm _ U,m,a,cap,by rw [k.ρ]; exact Z,h3,h4,h5.dv k U⟩
 | .any,_,_=>by simp only [VR]
 | .At z t,v,hv=>by simp only [VR] at *; rw [k.ρ]; exact⟨hv.1,hv.2.dv k.ro k.F4⟩
 | .vT id lo n t,v,hv=>by simp only [VR] at *;obtain⟨U,l,m,a,cap,Z,h3,h4,h5,h6⟩:=hv;exact⟨k.dm _ U,l,m,a,cap,by rw [k.ρ]; exact Z,by rw [k.ρ]; exact h3,h4,h5,h6.dv k U⟩
 | .BF id es i off,v,hv=>by simp only [VR] at *;obtain⟨U,m,Z,h3⟩:=hv;exact⟨k.dm _ U,m,by rw [k.ρ]; exact Z,by rw [k.θ id U]; exact h3⟩
 | .yU kk ks,v,hv=>by
   simp only [VR] at *;rw [k.ρ];rcases hv with hv|⟨b,o,n,cap,U,Z,h3,h4,h5⟩
   ·grind
   ·refine .inr ⟨b,o,n,cap,U,Z,h3,k.ro b h4,fun i j kd hi hj=>?_⟩;have:=h5 i j kd hi hj;unfold mz at *;rw [k.F4 b h4]
    grind
theorem cL.dv {E E':En} {h h':Array Obj} (k:lj E h E' h'): ∀(xs:List AV) (us:List Value),cL E h xs us->cL E' h' xs us
 |[],us,hv=>by simp only [cL] at *; exact hv
 |x::xs,us,hv=>by simp only [cL] at *;obtain⟨u,vs,U,Z,h3⟩:=hv;exact⟨u,vs,U,VR.dv k x u Z,cL.dv k xs vs h3⟩
end
theorem fw.dv {E E':En} {h h':Array Obj} (k:lj E h E' h'): ∀(xs:List (AV×AV×Nat)) (es:List MapEntry),fw E h xs es->fw E' h' xs es
 |[],es,hv=>by simp only [fw] at *; exact hv
 |(a,b,c)::xs,es,hv=>by simp only [fw] at *;obtain⟨e,r,U,Z,h3,h4,h5⟩:=hv;exact⟨e,r,U,VR.dv k _ _ Z,VR.dv k _ _ h3,h4,fw.dv k xs r h5⟩
theorem OR.dv {E E':En} {h h':Array Obj} (k:lj E h E' h') {id:Nat} {o:eL} (hid:E.dm id) (hb:h'[(E.θ id).1]?=h[(E.θ id).1]?) (ho:OR E h id o):OR E' h' id o:=by
 cases o with
 |cells cs e=> simp only [OR] at *;obtain⟨arr,lo,hi,us,U,Z,h3,h4,h5,h6,h7⟩:=ho;rw [k.θ id hid,k.κ id hid,hb];exact⟨arr,lo,hi,us,U,cL.dv k cs us Z,h3,h4,h5,h6,h7⟩
 |map es c=>
  simp only [OR] at *;obtain⟨cO,c,U,Z⟩:=ho;rw [k.θ id hid,hb]
  grind [fw.dv]
 |lW s p=> simp only [OR] at *;rw [k.θ id hid,hb];exact ho
 |mw e t=> simp only [OR] at *;obtain⟨cO,c,U,Z⟩:=ho;rw [k.θ id hid,hb,k.ρ];exact⟨cO,c,U,Z.dv k.ro k.F4⟩
 |vec e t ty ov=> simp only [OR] at *;obtain⟨h0,arr,lo,hi,us,U,Z,h3,h4,h5,h6,h7⟩:=ho;rw [k.θ id hid,k.κ id hid,hb,k.ρ];exact⟨h0,arr,lo,hi,us,U,cL.dv k _ us Z,h3,h4,h5,h6,h7⟩
end Go.As
end
section
namespace Go.As
theorem Hp.bV (h:Hp) (i:Nat) (o:eL) (j:Nat):(h.put i o).get j=if j=i then some o else h.get j:=by simp [Hp.get,Hp.put,Tr.bV]
theorem Hp.hJ (h:Hp) (o:eL) (j:Nat):(h.new o).get j=if j=h.fresh then some o else h.get j:=by
 grind [Hp.new,Hp.fresh,Hp.get,Tr.bV]
theorem ca.ada [bS] {E:En} {H:Hp} {w:World} (r:ca E H w): ¬E.dm H.fresh:=by
 unfold Hp.fresh
 cases hr:H.res with
 |none=>exact r.fresh _ (ax _)
 |some x=>exact (r.res x hr).2
theorem ca.vJ [bS] {E:En} {H:Hp} {w:World} (r:ca E H w) {i:Nat} (h:E.dm i):i≠H.fresh:=fun e=>r.ada (e▸h)
theorem Hp.pU (h:Hp) (i j:Nat):(h.drop i).get j=if j=i then none else h.get j:=by simp [Hp.get,Hp.drop,Tr.bV]
def En.ext (E:En) (n:Nat) (p:Nat×Nat) (c:Nat):En:=
 { E with θ:=fun i=>if i=n then p else E.θ i,κ:=fun i=>if i=n then c else E.κ i,dm:=fun i=>i=n\/E.dm i }
theorem En.ext_θ_new (E:En) (n:Nat) (p:Nat×Nat) (c:Nat):(E.ext n p c).θ n=p:=by simp [En.ext]
theorem En.ext_κ_new (E:En) (n:Nat) (p:Nat×Nat) (c:Nat):(E.ext n p c).κ n=c:=by simp [En.ext]
theorem En.iR (E:En) (n:Nat) (p:Nat×Nat) (c:Nat):(E.ext n p c).dm n:=.inl rfl
theorem En.ext_θ (E:En) (n:Nat) (p:Nat×Nat) (c:Nat) {i:Nat} (h:i≠n):(E.ext n p c).θ i=E.θ i:=by simp [En.ext,h]
theorem En.ext_κ (E:En) (n:Nat) (p:Nat×Nat) (c:Nat) {i:Nat} (h:i≠n):(E.ext n p c).κ i=E.κ i:=by simp [En.ext,h]
theorem Ka [bS] {E:En} {H:Hp} {w:World} (r:ca E H w) (p:Nat×Nat) (c:Nat) (o:eL):(∀id,(H.new o).next<=id->¬(E.ext H.fresh p c).dm id)/\∀q,(H.new o).res=some q->q<(H.new o).next/\¬(E.ext H.fresh p c).dm q:=by
 have U:=r.fresh;have Z:=r.res;unfold Hp.new Hp.fresh
 cases hr:H.res with
 |none=>
  refine⟨fun id hid V=>?_,ad⟩;simp at hid;rcases V with V|V
  all_goals grind
 |some q=>
  refine⟨fun id hid V=>?_,ad⟩;simp at hid;have:=Z q hr;rcases V with V|V
  all_goals grind
theorem tJ (H:Hp) (o:eL):H.next<=(H.new o).next/\((H.new o).res=none\/(H.new o).res=H.res)/\∀id,id=H.fresh->(H.next<=id/\id<(H.new o).next)\/H.res=some id:=by
 grind [Hp.new,Hp.fresh]
structure Alike (w w':World):Prop where
 os:w'.os=w.os
 tape:w'.tape=w.tape
 output:w'.output=w.output
theorem Gg {h:Array Obj} {o:Obj} {b:Nat} (hb:b<h.size):(h.push o)[b]?=h[b]?:=by
 grind
theorem GJ [bS] {E:En} {H:Hp} {w:World} (r:ca E H w) (p:Nat×Nat) (c:Nat) (o:Obj):lj E w.heap (E.ext H.fresh p c) (w.heap.push o):=
 ⟨rfl,fun _ h=> .inr h,fun _ h=>En.ext_θ E _ p c (r.vJ h),fun _ h=>En.ext_κ E _ p c (r.vJ h),fun _ h=>h,fun b hb=>Gg (r.wE b hb)⟩
theorem iH [bS] {E:En} {H:Hp} {w:World} (r:ca E H w) {id:Nat} {o:eL} (h:H.get id=some o):(E.θ id).1<w.heap.size:=by
 have Z:=(r.live id o h).2.1
 cases o with
 |cells cs e=>
  obtain⟨arr,lo,hi,us,U,_⟩:=Z
  grind
 |map es c=>
  obtain⟨cO,c',U,_⟩:=Z
  grind
 |lW s p=>exact (arP.1 Z.1).1
 |mw e t=>
  obtain⟨cO,c',U,_⟩:=Z
  grind
 |vec e t ty ov=>
  obtain⟨_,arr,lo,hi,us,U,_⟩:=Z
  grind
theorem AY [bS] {E:En} {H:Hp} {w w':World} (r:ca E H w) (o:Obj) (ao:eL) (c:Nat) (hw:w'.heap=w.heap.push o) (al:Alike w w')
 (ho:OR (E.ext H.fresh (w.heap.size,0) c) w'.heap H.fresh ao) :
 fP E H w (E.ext H.fresh (w.heap.size,0) c) (H.new ao) w'/\ca (E.ext H.fresh (w.heap.size,0) c) (H.new ao) w':=by
 have k:=GJ r (w.heap.size,0) c o;rw [<- hw] at k;have hf:=Ka r (w.heap.size,0) c ao;refine⟨⟨k.ρ,k.dm,k.θ,k.κ,k.ro,fun _ h=> .inl h,(tJ H ao).1,(tJ H ao).2.1,fun id h=>h.elim (fun e=> .inr ((tJ H ao).2.2 id e)) .inl,al.os,al.tape,al.output,by rw [hw]; simp,fun b hb _=>by rw [hw,Gg hb],?_⟩,⟨hf.1,hf.2,?_,?_,?_,bS.dv r.mE k.ro k.F4⟩⟩
 ·intro id o2 Z gy;rw [Hp.hJ] at Z;split at Z
  ·rename_i he
   grind [En.ext_θ_new]
  ·have h3:=(r.live id o2 Z).1;exact⟨id,o2,Z,by rw [En.ext_θ _ _ _ _ (r.vJ h3)]⟩
 ·intro id o2 Z;rw [Hp.hJ] at Z;split at Z
  ·rename_i he;simp at Z;subst Z;rw [he,En.ext_θ_new];refine⟨En.iR _ _ _ _,ho,fun hr=>?_⟩;have:=r.wE _ hr
   grind
  ·obtain⟨h3,h4,h5⟩:=r.live id o2 Z;refine⟨.inr h3,h4.dv k h3 ?_,?_⟩
   ·grind [Gg,iH]
   ·rw [En.ext_θ _ _ _ _ (r.vJ h3)]; exact h5
 ·intro id Sg o1 o2 U Z he;rw [Hp.hJ] at U Z;split at U<;>split at Z
  ·omega
  ·rename_i e1 _;have h3:=(r.live Sg o2 Z).1;rw [e1,En.ext_θ_new,En.ext_θ _ _ _ _ (r.vJ h3)] at he;have:=iH r Z
   grind
  ·rename_i _ e1;have h3:=(r.live id o1 U).1;rw [e1,En.ext_θ_new,En.ext_θ _ _ _ _ (r.vJ h3)] at he;have:=iH r U
   grind
  ·have h3:=(r.live id o1 U).1;have h4:=(r.live Sg o2 Z).1;rw [En.ext_θ _ _ _ _ (r.vJ h3),En.ext_θ _ _ _ _ (r.vJ h4)] at he;exact r.inj id Sg o1 o2 U Z he
 ·intro b hb;have:=r.wE b hb
  grind
theorem pE [bS] {E:En} {H:Hp} {w w':World} (r:ca E H w) {id:Nat} {o:eL} (hl:H.get id=some o)
 (sS: ∀b,b≠(E.θ id).1->w'.heap[b]?=w.heap[b]?):lj E w.heap E w'.heap:=
 ⟨rfl,fun _ h=>h,fun _ _=>rfl,fun _ _=>rfl,fun _ h=>h,fun b hb=>sS b fun e=>(r.live id o hl).2.2 (by rw [<- e]; exact hb)⟩
theorem NU [bS] {E:En} {H:Hp} {w w':World} (r:ca E H w) {id:Nat} {o:eL} (hl:H.get id=some o) (ao:eL)
 (T_:w'.heap.size=w.heap.size) (sS: ∀b,b≠(E.θ id).1->w'.heap[b]?=w.heap[b]?) (al:Alike w w') (ho:OR E w'.heap id ao) :
 fP E H w E (H.put id ao) w'/\ca E (H.put id ao) w':=by
 have k:=pE r hl sS;refine⟨⟨rfl,fun _ h=>h,fun _ _=>rfl,fun _ _=>rfl,fun _ h=>h,fun _ h=> .inl h,ax _,.inr rfl,fun _ h=> .inl h,al.os,al.tape,al.output,J,?_,?_⟩,⟨r.fresh,r.res,?_,?_,?_,bS.dv r.mE k.ro k.F4⟩⟩
 ·intro b _ hn
  grind
 ·intro j o2 Z _
  grind [Hp.bV]
 ·intro j o2 Z;rw [Hp.bV] at Z;split at Z
  ·rename_i e;subst e;simp at Z;subst Z;exact⟨(r.live j o hl).1,ho,(r.live j o hl).2.2⟩
  ·rename_i e;obtain⟨h3,h4,h5⟩:=r.live j o2 Z;refine⟨h3,h4.dv k h3 (sS _ fun e2=>e (r.inj j id o2 o Z hl e2)),h5⟩
 ·intro i j o1 o2 U Z he;rw [Hp.bV] at U Z;split at U<;>split at Z
  ·omega
  ·rename_i e1 _; subst e1; exact r.inj i j o o2 hl Z he
  ·rename_i _ e1; subst e1; exact r.inj i j o1 o U hl he
  ·exact r.inj i j o1 o2 U Z he
 ·intro b hb;rw [T_];exact r.wE b hb
theorem Km [bS] {E:En} {H:Hp} {w:World} (r:ca E H w) (id:Nat):fP E H w E (H.drop id) w/\ca E (H.drop id) w:=by
 have hg: ∀j o,(H.drop id).get j=some o->H.get j=some o:=by
  intro j o h
  grind [Hp.pU]
 exact⟨⟨rfl,fun _ h=>h,fun _ _=>rfl,fun _ _=>rfl,fun _ h=>h,fun _ h=> .inl h,ax _,.inr rfl,fun _ h=> .inl h,rfl,rfl,rfl,ax _,fun _ _ _=>rfl,fun j o h _=> ⟨j,o,hg j o h,rfl⟩⟩,
  ⟨r.fresh,r.res,fun j o h=>r.live j o (hg j o h),fun i j o1 o2 U Z he=>r.inj i j o1 o2 (hg _ _ U) (hg _ _ Z) he,r.wE,r.mE⟩⟩
theorem RA [bS] {E:En} {H:Hp} {w w':World} (r:ca E H w) {id:Nat} {o:eL} (hl:H.get id=some o) (ao:eL) (off c:Nat)
 (T_:w'.heap.size=w.heap.size) (sS: ∀b,b≠(E.θ id).1->w'.heap[b]?=w.heap[b]?) (al:Alike w w')
 (ho:OR (E.ext H.fresh ((E.θ id).1,(E.θ id).2+off) c) w'.heap H.fresh ao) :
 fP E H w (E.ext H.fresh ((E.θ id).1,(E.θ id).2+off) c) ((H.drop id).new ao) w'/\ca (E.ext H.fresh ((E.θ id).1,(E.θ id).2+off) c) ((H.drop id).new ao) w':=by
 have hdn:(H.drop id).fresh=H.fresh:=rfl;have hf:=Ka (Km r id).2 ((E.θ id).1,(E.θ id).2+off) c ao;rw [hdn] at hf
 have k:lj E w.heap (E.ext H.fresh ((E.θ id).1,(E.θ id).2+off) c) w'.heap:=
  ⟨rfl,fun _ h=> .inr h,fun _ h=>En.ext_θ E _ _ c (r.vJ h),fun _ h=>En.ext_κ E _ _ c (r.vJ h),fun _ h=>h,(pE r hl sS).F4⟩
 have hg: ∀j o2,((H.drop id).new ao).get j=some o2->(j=H.fresh/\o2=ao)\/(j≠id/\H.get j=some o2):=by
  intro j o2 h
  grind [Hp.hJ,Hp.pU]
 refine⟨⟨rfl,k.dm,k.θ,k.κ,k.ro,fun _ h=> .inl h,(tJ (H.drop id) ao).1,(tJ (H.drop id) ao).2.1,fun j h=>h.elim (fun e=> .inr ((tJ (H.drop id) ao).2.2 j e)) .inl,al.os,al.tape,al.output,J,?_,?_⟩,⟨hf.1,hf.2,?_,?_,?_,bS.dv r.mE k.ro k.F4⟩⟩
 ·intro b _ hn
  grind
 ·intro j o2 Z gy;rcases hg j o2 Z with ⟨rfl,rfl⟩|⟨_,h3⟩
  ·grind [En.ext_θ_new]
  ·have:=(r.live j o2 h3).1;exact⟨j,o2,h3,by rw [En.ext_θ _ _ _ _ (r.vJ this)]⟩
 ·intro j o2 Z;rcases hg j o2 Z with ⟨rfl,rfl⟩|⟨jK,h3⟩
  ·rw [En.ext_θ_new];exact⟨En.iR _ _ _ _,ho,(r.live id o hl).2.2⟩
  ·obtain⟨h4,h5,h6⟩:=r.live j o2 h3;refine⟨.inr h4,h5.dv k h4 (sS _ fun e=>jK (r.inj j id o2 o h3 hl e)),?_⟩;rw [En.ext_θ _ _ _ _ (r.vJ h4)]; exact h6
 ·intro i j o1 o2 U Z he;rcases hg i o1 U with ⟨e1,_⟩|⟨e1,h3⟩ <;>rcases hg j o2 Z with ⟨e2,_⟩|⟨e2,h4⟩
  ·omega
  ·have:=(r.live j o2 h4).1;rw [e1,En.ext_θ_new,En.ext_θ _ _ _ _ (r.vJ this)] at he;exact absurd (r.inj id j o o2 hl h4 he).symm e2
  ·have:=(r.live i o1 h3).1;rw [e2,En.ext_θ_new,En.ext_θ _ _ _ _ (r.vJ this)] at he;exact absurd (r.inj i id o1 o h3 hl he) e1
  ·have h5:=(r.live i o1 h3).1;have h6:=(r.live j o2 h4).1;rw [En.ext_θ _ _ _ _ (r.vJ h5),En.ext_θ _ _ _ _ (r.vJ h6)] at he;exact r.inj i j o1 o2 h3 h4 he
 ·intro b hb;rw [T_];exact r.wE b hb
def LM:Value->Bool
 | .agg _=>true
 |_=>false
def ZJ (P:Program):TypeDesc->Option TK
 | .bool=>some .bool
 | .int k=>some (.int k)
 | .string=>some .string
 | .pointer e=>some (.pointer e)
 | .slice e=>some (.slice e)
 | .array n e=>some (.array n e)
 | .map k e=>some (.map k e)
 | .struct fs=>(fs.toList.mapM fun f=>(P.info? f.type).map fun i=>(f.offset,f.type,i.size)).map .struct
 | .func _ _ _=>some .func
 | .interface ms=>some (.iface ms.isEmpty)
 | .tuple _=>some .tuple
 |_=>none
def aar (P:Program) (t:Nat):Bool:=
 match P.underlying t with
 |some (.struct fs)=>!P.stoodInHeld t&&!P.eqGuardType P.depth t&&fs.toList.all fun f=>f.name != "_"&&(match P.underlying f.type with |some .bool|some .string|some (.int _)=>true|_=>false)
 |_=>false
def amo (i:TypeInfo) (z:Value) (k:TK) (q:Bool):Option TI:=
 match lR z.cells.toList with
 |some zs=>if LM z=k.agg then some { kind:=k,size:=i.size,bytes:=i.bytes,zero:=zs,eqs:=q } else none
 |none=>none
def adk (P:Program) (t:Nat):Option TI:=
 match P.info? t with
 |none=>none
 |some i=>match P.underlying t with
  |none=>none
  |some d=>match ZJ P d with
   |none=>none
   |some k=>match i.zero with
    |none=>none
    |some z=>amo i z k (aar P t)
theorem fL (b o n:Nat):(⟨b,o,none⟩ : Addr).add n=⟨b,o+n,none⟩:=by unfold Addr.add; split<;>simp_all
def KG (P:Program):TypeDesc->TK->Prop
 | .bool,.bool=>True
 | .int k,.int k'=>k=k'
 | .string,.string=>True
 | .pointer e,.pointer e'=>e=e'
 | .slice e,.slice e'=>e=e'
 | .array n e,.array n' e'=>n=n'/\e=e'
 | .map k e,.map k' e'=>k=k'/\e=e'
 | .struct fs,.struct l=>(fs.toList.mapM fun f=>(P.info? f.type).map fun i=>(f.offset,f.type,i.size))=some l
 | .func _ _ _,.func=>True
 | .interface _,.iface _=>True
 | .tuple _,.tuple=>True
 |_,_=>False
structure oq (P:Program) (t:Nat) (i:TI):Prop where
 eqs:i.eqs=true->aar P t=true
 all: ∃inf d z,P.info? t=some inf/\P.underlying t=some d/\inf.zero=some z/\lR z.cells.toList=some i.zero/\inf.size=i.size/\inf.bytes=i.bytes/\KG P d i.kind/\LM z=i.agg
def fj (P:Program) (tt:TT):Prop:= ∀t i,tt t=some i->oq P t i
theorem adi {P:Program} {d:TypeDesc} {k:TK} (h:ZJ P d=some k):KG P d k:=by
 cases d
 case struct fs=>
  simp only [ZJ,aO] at h;obtain⟨l,U,rfl⟩:=h;exact U
 all_goals first
  |(simp only [ZJ,ah] at h; subst h; simp [KG]; done)
  |(simp [ZJ] at h; done)
theorem adj {P:Program} {t:Nat} {i:TI} (h:adk P t=some i):oq P t i:=by
 unfold adk at h;split at h
 ·grind
 ·rename_i inf U;split at h
  ·grind
  ·rename_i d Z;split at h
   ·grind
   ·rename_i k hk;split at h
    ·grind
    ·rename_i z h3;unfold amo at h;split at h
     ·rename_i zs h4;split at h
      ·rename_i ha;simp only [ah] at h;subst h;exact⟨fun hq=>hq,inf,d,z,U,Z,h3,h4,rfl,rfl,adi hk,ha⟩
      grind
     grind
theorem lO (s:ByteArray):dF (bytesOf s)=s:=by
 unfold dF bytesOf
 have:(List.map UInt8.ofNat (List.map (fun x=>x.toNat) s.data.toList))=s.data.toList:=by
  rw [arT]
  conv=>rhs; rw [<- asB s.data.toList]
  apply ar4;intro b _;simp
 rw [this]
theorem Ah (s:ByteArray): ∀b∈bytesOf s,b<256:=by intro b hb;unfold bytesOf at hb;rw [aR] at hb;obtain⟨c,_,rfl⟩:=hb;exact c.toNat_lt
theorem DT {E:En} {h:Array Obj} {v:Value} {a:AV} (hv:iB v=some a):VR E h a v/\v.oneCell'=true:=by
 cases v with
 |bool b=>simp [iB] at hv; subst hv; simp [VR,SB.den,Value.oneCell']
 |int k n=>simp [iB] at hv; subst hv; simp [VR,W.den,Value.oneCell']
 |string s=>simp [iB] at hv; subst hv; exact⟨by simp only [VR]; exact⟨by rw [lO],Ah s⟩,rfl⟩
 |pointer a=>cases a<;>simp [iB] at hv; subst hv; simp [VR,Value.oneCell']
 |slice a l c=>
  cases a with
  |some a=>simp [iB] at hv
  |none=>
   cases l with
   |succ l=>simp [iB] at hv
   |zero=>cases c with
    |succ c=>simp [iB] at hv
    |zero=>simp [iB] at hv; subst hv; simp [VR,Value.oneCell']
 |map r=>cases r<;>simp [iB] at hv; subst hv; simp [VR,Value.oneCell']
 |nilFunc=>simp [iB] at hv; subst hv; simp [VR,Value.oneCell']
 |nilIface=>simp [iB] at hv; subst hv; simp [VR,Value.oneCell']
 |func fn f c=>
  simp only [iB] at hv;split at hv
  ·rename_i Y;simp at Y hv;subst hv;obtain⟨rfl,rfl⟩:=Y;exact⟨by simp only [VR]; exact⟨[],[],rfl,rfl,rfl⟩,rfl⟩
  grind
 |_=>simp [iB] at hv
theorem fH {E:En} {h:Array Obj}: ∀{vs:List Value} {arp:List AV},lR vs=some arp->cL E h arp vs/\∀v∈vs,v.oneCell'=true
 |[],arp,hv=>by simp [lR] at hv; subst hv; simp [cL]
 |v::vs,arp,hv=>by
  simp only [lR] at hv;split at hv
  ·grind
  ·rename_i a ha;split at hv
   ·grind
   ·rename_i as' has;simp at hv;subst hv;have U:=DT (E:=E) (h:=h) ha;have Z:=fH (E:=E) (h:=h) has;refine⟨by rw [bX]; exact⟨v,vs,rfl,U.1,Z.1⟩,?_⟩;intro u hu
    grind
theorem RM {E:En} {h:Array Obj} {v:Value} {a:AV} (hv:ofConst v=some a):VR E h a v:=by
 cases v with
 |agg cs=>
  simp only [ofConst,aO] at hv;obtain⟨l,U,rfl⟩:=hv;simp only [VR]
  grind [fH]
 |tuple cs=>
  simp only [ofConst,aO] at hv;obtain⟨l,U,rfl⟩:=hv;simp only [VR]
  grind [fH]
 |_=>exact (DT (by simpa [ofConst] using hv)).1
theorem VR.one {E:En} {h:Array Obj} {x:AV} {v:Value} (hv:VR E h x v) (U:x.one=true):v.oneCell'=true:=by
 cases x with
 |agg cs=>simp [AV.one] at U
 |tuple cs=>simp [AV.one] at U
 |N6 i=>simp [AV.one] at U
 |yU k ks=>simp only [VR] at hv; rcases hv with ⟨⟨x,cap,rfl⟩,_⟩|⟨b,o,n,cap,rfl,_⟩ <;>rfl
 |slice id off len c=>simp only [VR] at hv; obtain⟨_,a,cap,rfl,_⟩:=hv; rfl
 |ro cs n full=>simp only [VR] at hv; obtain⟨b,o,cap,us,rfl,_⟩:=hv; rfl
 |oF cs=>simp only [VR] at hv; obtain⟨b,o,us,rfl,_⟩:=hv; rfl
 |func fn fs cs=>simp only [VR] at hv; obtain⟨us,ws,rfl,_⟩:=hv; rfl
 |iface t x=>simp only [VR] at hv; obtain⟨u,rfl,_⟩:=hv; rfl
 |str s=>simp only [VR] at hv; rw [hv.1]; rfl
 |ptr id off=>simp only [VR] at hv; rw [hv.1]; rfl
 |map id=>simp only [VR] at hv; rw [hv.1]; rfl
 |emp=>simp only [VR] at hv; obtain⟨x,rfl⟩:=hv; rfl
 |fk e t=>simp only [VR] at hv; exact hv.adY
 |kU e=>simp only [VR] at hv; exact hv.adY
 |rV id n t=>simp only [VR] at hv; obtain⟨_,k,a,cap,_,rfl,_⟩:=hv; rfl
 |vT id lo n t=>simp only [VR] at hv; obtain⟨_,l,k,a,cap,_,_,rfl,_⟩:=hv; rfl
 |any=>simp [AV.one] at U
 |At z t=>simp only [VR] at hv; obtain⟨⟨x,rfl⟩,_⟩:=hv; rfl
 |BF id es i off=>simp only [VR] at hv; obtain⟨_,k,_,rfl⟩:=hv; rfl
 |_=>simp only [VR] at hv; rw [hv]; rfl
theorem cL.tI {E:En} {h:Array Obj}: ∀{xs:List AV} {us:List Value},cL E h xs us->te xs=true->∀u∈us,u.oneCell'=true
 |[],us,hv,_=>by rw [jz] at hv; subst hv; simp
 |x::xs,us,hv,U=>by
  rw [bX] at hv;obtain⟨u,vs,rfl,Z,h3⟩:=hv;simp [te] at U;intro y hy;rcases aH.1 hy with rfl|hy
  ·exact Z.one U.1
  ·exact h3.tI U.2 y hy
theorem VR.cells {E:En} {h:Array Obj} {x:AV} {v:Value} (hv:VR E h x v) (U:te x.cells=true):cL E h x.cells v.cells.toList:=by
 cases x with
 |agg cs=> simp only [VR] at hv;obtain⟨us,rfl,Z⟩:=hv;simpa [AV.cells,Value.cells] using Z
 |_=>
  all_goals
   simp only [AV.cells] at U ⊢;have Z:=hv.one (by simpa [te] using U);rw [bX];refine⟨v,[],?_,hv,rfl⟩;cases v<;>first |rfl|simp [Value.oneCell'] at Z
theorem tC {P:Program} {w:World} {b o n:Nat} {us:List Value} (hn:us.length=n) (h:gJ w.heap b o us) :
 (loadCells ⟨b,o,none⟩ n).run P w= .ok us.toArray w:=by
 subst hn;refine run_loadCells_list w _ us fun j v hj=>?_;rw [fL,pZ];exact h j v hj
theorem gJ.drop {h:Array Obj} {b o:Nat} {us:List Value} (hc:gJ h b o us) (k:Nat):gJ h b (o+k) (us.drop k):=by
 intro i u hu;rw [asl] at hu;have:=hc (k+i) u hu
 grind
theorem gJ.take {h:Array Obj} {b o:Nat} {us:List Value} (hc:gJ h b o us) (k:Nat):gJ h b o (us.take k):=by
 intro i u hu;rw [asc] at hu;split at hu
 ·exact hc i u hu
 grind
theorem zk {E:En} {h:Array Obj} {id:Nat} {cs:List AV} {e:TypeId} (ho:OR E h id (.cells cs e)) :
 ∃us,cL E h cs us/\gJ h (E.θ id).1 (E.θ id).2 us/\∀u∈us,u.oneCell'=true:=by
 obtain⟨arr,lo,hi,us,U,Z,h3,h4,h5,h6,h7⟩:=ho;refine⟨us,Z,fun i u hu=>?_,h7⟩;simp only [mz,U]
 grind
theorem xX [bS] {E:En} {H:Hp} {w:World} (r:ca E H w) {p:AV} {u:Value} {n:Nat} {l:List AV} (hp:VR E w.heap p u) (h:nH H p n=some l) :
 ∃b o us,u= .pointer (some ⟨b,o,none⟩)/\us.length=n/\cL E w.heap l us/\gJ w.heap b o us/\∀u∈us,u.oneCell'=true:=by
 cases p with
 |ptr id off=>
  simp only [nH] at h;split at h
  ·rename_i cs e hl;split at h
   ·rename_i l' V;obtain⟨us,Z,h3,h4⟩:=zk (r.live id _ hl).2.1;obtain⟨h5,h6,h7⟩:=Z.fE V;obtain⟨h8,h9⟩:=h5.jk h;simp only [VR] at hp;refine⟨_,_,_,hp.1,?_,h8,(h3.drop off).take n,fun x Y=>h4 x (arv (arx Y))⟩;have:=h5.length
    grind
   grind
  grind
 |oF cs=>
  simp only [nH] at h;simp only [VR] at hp;obtain⟨b,o,us,rfl,_,Z,h3,h4⟩:=hp;obtain⟨h5,h6⟩:=Z.jk h;refine⟨b,o,_,rfl,?_,h5,h3.take n,fun x Y=>h4 x (arx Y)⟩;have:=Z.length
  grind
 |_=>simp [nH] at h
theorem xS {E:En} {h:Array Obj}: ∀{cs:List AV} {o:Nat} {vs mM:List AV} {us ws:List Value},ez cs o vs=some mM->cL E h cs us->cL E h vs ws->
 mM.length=cs.length/\o+vs.length<=cs.length/\∃iA,cL E h mM iA/\∀i,iA[i]?=if o<=i/\i<o+ws.length then ws[i-o]? else us[i]?
 |cs,0,[],mM,us,ws,U,Z,h3=>by cases cs<;>simp [ez] at U<;>subst U<;>rw [jz] at h3<;>subst h3<;>exact⟨rfl,ad,us,Z,fun i=>by simp⟩
 |[],0,_::_,mM,us,ws,U,Z,h3=>by simp [ez] at U
 |c::cs,0,v::vs,mM,us,ws,U,Z,h3=>by
  simp only [ez] at U;split at U
  ·rename_i l hl;simp at U;subst U;rw [bX] at Z h3;obtain⟨u,iA,rfl,ha,hb⟩:=Z;obtain⟨x,ws',rfl,hc,V⟩:=h3;obtain⟨e1,e2,ZA,e3,e4⟩:=xS hl hb V;refine⟨by simp [e1],by simp at e2 ⊢; omega,x::ZA,by rw [bX]; exact⟨x,ZA,rfl,hc,e3⟩,?_⟩;intro i
   grind
  grind
 |[],_+1,vs,mM,us,ws,U,Z,h3=>by cases vs<;>simp [ez] at U
 |c::cs,o+1,vs,mM,us,ws,U,Z,h3=>by
  have OM:(match ez cs o vs with |some l=>some (c::l)|none=>none)=some mM:=by cases vs<;>exact U
  split at OM
  ·rename_i l hl;simp at OM;subst OM;rw [bX] at Z;obtain⟨u,iA,rfl,ha,hb⟩:=Z;obtain⟨e1,e2,ZA,e3,e4⟩:=xS hl hb h3;refine⟨by simp [e1],by simp; omega,u::ZA,by rw [bX]; exact⟨u,ZA,rfl,ha,e3⟩,?_⟩;intro i
   grind
  grind
theorem nF {P:Program} (b o:Nat) (e:TypeId) (lo hi:Nat): ∀(vs:List Value) (i:Nat) (arr:Array Value) (w:World),
 w.heap[b]?=some (.cells arr e (lo,hi))->(∀x,lo<=x->x<hi->arr.size<=x)->o+i+vs.length<=arr.size->(∀v∈vs,v.oneCell'=true)->
 ∃w' MY,(storeCells ⟨b,o,none⟩ vs i).run P w= .ok () w'/\Alike w w'/\w'.heap.size=w.heap.size/\(∀j,j≠b->w'.heap[j]?=w.heap[j]?)/\
  w'.heap[b]?=some (.cells MY e (lo,hi))/\MY.size=arr.size/\∀j,MY[j]?=if o+i<=j/\j<o+i+vs.length then vs[j-(o+i)]? else arr[j]?
 |[],i,arr,w,hb,_,_,_=> ⟨w,arr,rfl,⟨rfl,rfl,rfl⟩,rfl,fun _ _=>rfl,hb,rfl,fun j=>by rw [af ad]⟩
 |v::vs,i,arr,w,hb,hf,hl,U=>by
  have uc:o+i<arr.size:=by simp at hl; omega
  have mz:w.cell? ⟨b,o+i,none⟩ = some arr[o+i]:=by simp [World.cell?,hb,uc]
  have ark:w.frozen? ⟨b,o+i,none⟩ = false:=by
   simp only [World.frozen?,hb,Bool.and_eq_false_iff,decide_eq_false_iff_not]
   grind
  have Fg:(store ((⟨b,o,none⟩ : Addr).add i) v).run P w= .ok () (w.setCell ⟨b,o+i,none⟩ v):=by
   rw [fL,run_store P w _ v _ (U v ad),mz]
   grind
  have EF:(w.setCell ⟨b,o+i,none⟩ v).heap[b]?=some (.cells (arr.setIfInBounds (o+i) v) e (lo,hi)):=by simp [World.setCell,ati,hb]
  have iY:(w.setCell ⟨b,o+i,none⟩ v).heap.size=w.heap.size:=by simp [World.setCell]
  have hot: ∀j,j≠b->(w.setCell ⟨b,o+i,none⟩ v).heap[j]?=w.heap[j]?:=by
   intro j hj;simp only [World.setCell,ati]
   grind
  obtain⟨w',MY,e1,e2,e3,e4,e5,e6,e7⟩:=nF (P:=P) b o e lo hi vs (i+1) _ _ EF (by simpa using hf) (by simp at hl ⊢; omega) (fun x Y=>U x (by simp [Y]));refine⟨w',MY,?_,⟨e2.os,e2.tape,e2.output⟩,e3.trans iY,fun j hj=>(e4 j hj).trans (hot j hj),e5,by simpa using e6,?_⟩
  ·simp only [storeCells,Sem.run_bind,Fg,Result.andThen_ok];exact e1
  grind
theorem mP [bS] {P:Program} {E:En} {H:Hp} {w:World} (r:ca E H w) {id off:Nat} {cs vs mM:List AV} {e:TypeId} {ws:List Value} (hl:H.get id=some (.cells cs e))
 (hs:ez cs off vs=some mM) (hv:cL E w.heap vs ws) (U: ∀u∈ws,u.oneCell'=true) :
 ∃w',(storeCells ⟨(E.θ id).1,(E.θ id).2+off,none⟩ ws).run P w= .ok () w'/\fP E H w E (H.put id (.cells mM e)) w'/\ca E (H.put id (.cells mM e)) w':=by
 obtain⟨arr,lo,hi,us,g1,g2,g3,g4,g5,g6,g7⟩:=(r.live id _ hl).2.1;obtain⟨s1,s2,iA,s3,s4⟩:=xS hs g2 hv;have hlen:=hv.length;have hlu:=g2.length;obtain⟨w',MY,e1,e2,e3,e4,e5,e6,e7⟩:=nF (P:=P) (E.θ id).1 ((E.θ id).2+off) e lo hi ws 0 arr w g1 g6 J U;refine⟨w',e1,NU r hl _ e3 e4 e2 ?_⟩;have k:=pE r hl e4;refine⟨MY,lo,hi,iA,e5,cL.dv k _ _ s3,?_,J,by rw [e6]; exact g5,by rw [e6]; exact g6,?_⟩
 ·intro i u hu
  grind
 ·intro u hu;rw [asm] at hu
  grind
def cD (ρ:Nat->Int) (pc:List (SB×Bool)):Prop:= ∀c b,(c,b)∈pc->c.den ρ=b
def SR (E:En) (h:Array Obj) (bH:Tr AV) (a:Act):Prop:= ∀t v,bH.get t=some v->∃u,a.tmps[t]?=some u/\VR E h v u
def tg (P:Program) (o:Oper) (a:Act) (w:World) (R:Value->World->Prop):Prop:=
 ∀(K:Act->World->Prop) (Q:Exit->Act->World->Prop),(∀u w',R u w'->K (a.put o.dst u) w')->o.wp P a w K Q
theorem tg.value {P:Program} {o:Oper} {a:Act} {w w':World} {R:Value->World->Prop} {u:Value} (h:(execOp a.eval o).run P w= .ok (.value u) w') (hr:R u w'):tg P o a w R:=
 fun K Q hk=>by unfold Oper.wp; rw [h]; exact hk u w' hr
theorem tg.skip {P:Program} {o:Oper} {a:Act} {w w':World} {R:Value->World->Prop} (h:(execOp a.eval o).run P w= .ok .skip w') (hr:R undef w'):tg P o a w R:=
 fun K Q hk=>by unfold Oper.wp; rw [h]; exact hk _ w' hr
theorem iO {E:En} {w:World} {s:St} {a:Act} (sr:SR E w.heap s.bH a) {x:Operand} {v:AV} (h:ev s x=some v):VR E w.heap v (a.eval x):=by
 cases x with
 |tmp t=> obtain⟨u,U,Z⟩:=sr t v h;simp only [Act.eval,ar5,U,ay];exact Z
 |const c=>exact RM h
 |func f=> simp [ev] at h;subst h;simp only [VR,Act.eval];exact⟨[],[],rfl,rfl,rfl⟩
 |global g=>simp [ev] at h
theorem L2 {E:En} {w:World} {s:St} {a:Act} (sr:SR E w.heap s.bH a): ∀{xs:List Operand} {vs:List AV},evs s xs=some vs->cL E w.heap vs (xs.map a.eval)
 |[],vs,h=>by simp [evs] at h; subst h; simp [cL]
 |x::xs,vs,h=>by
  simp only [evs] at h;split at h
  ·grind
  ·rename_i b hb;split at h
   ·grind
   ·rename_i bs hbs;simp at h;subst h;rw [aA,bX];exact⟨_,_,rfl,iO sr hb,L2 sr hbs⟩
section
variable {P:Program} {t:Nat} {i:TI}
theorem qQ (h:oq P t i) (w:World):(isAgg t).run P w= .ok i.agg w:=by obtain⟨inf,d,z,U,Z,h3,h4,h5,h6,h7,_⟩:=h.all;unfold isAgg;simp only [Sem.run_bind,run_underlying Z,Result.andThen_ok];cases d<;>cases hk:i.kind<;>simp only [hk,KG] at h7<;>simp [TI.agg,TK.agg,hk]
theorem eV (h:oq P t i) (w:World):(sizeOf t).run P w= .ok i.size w:=by obtain⟨inf,d,z,U,Z,h3,h4,h5,h6,h7,_⟩:=h.all;simp [sizeOf,typeInfo,U,h5]
theorem fT (h:oq P t i) {e:Nat} (hk:i.kind= .slice e):P.underlying t=some (.slice e):=by obtain⟨inf,d,z,U,Z,h3,h4,h5,h6,h7,_⟩:=h.all;rw [Z];cases d<;>simp [hk,KG] at h7;rw [h7]
theorem tm (h:oq P t i) {n e:Nat} (hk:i.kind= .array n e):P.underlying t=some (.array n e):=by
 obtain⟨inf,d,z,U,Z,h3,h4,h5,h6,h7,_⟩:=h.all;rw [Z];cases d<;>simp [hk,KG] at h7
 grind
theorem Ax (h:oq P t i) {k e:Nat} (hk:i.kind= .map k e):P.underlying t=some (.map k e):=by
 obtain⟨inf,d,z,U,Z,h3,h4,h5,h6,h7,_⟩:=h.all;rw [Z];cases d<;>simp [hk,KG] at h7
 grind
theorem xR (h:oq P t i) {k:IntKind} (hk:i.kind= .int k):P.underlying t=some (.int k):=by obtain⟨inf,d,z,U,Z,h3,h4,h5,h6,h7,_⟩:=h.all;rw [Z];cases d<;>simp [hk,KG] at h7;rw [h7]
theorem gC (h:oq P t i) (hk:i.kind= .string):P.underlying t=some .string:=by
 obtain⟨inf,d,z,U,Z,h3,h4,h5,h6,h7,_⟩:=h.all
 grind [KG]
theorem Ny (h:oq P t i) (hk:i.kind= .bool):P.underlying t=some .bool:=by
 obtain⟨inf,d,z,U,Z,h3,h4,h5,h6,h7,_⟩:=h.all
 grind [KG]
theorem zu (h:oq P t i) {l:List (Nat×Nat×Nat)} (hk:i.kind= .struct l): ∃fs:Array Field,P.underlying t=some (.struct fs)/\(fs.toList.mapM fun f=>(P.info? f.type).map fun i=>(f.offset,f.type,i.size))=some l:=by
 obtain⟨inf,d,z,U,Z,h3,h4,h5,h6,h7,_⟩:=h.all;rw [Z];cases d<;>simp [hk,KG] at h7
 grind
theorem yg (h:oq P t i): ∃inf z,P.info? t=some inf/\inf.size=i.size/\inf.bytes=i.bytes/\inf.zero=some z/\lR z.cells.toList=some i.zero:=by
 obtain⟨inf,d,z,U,Z,h3,h4,h5,h6,h7,_⟩:=h.all
 grind
end
theorem Da [bS] {P:Program} {tt:TT} (db:fj P tt) {E:En} {H:Hp} {w:World} (r:ca E H w) {t:Nat} {p v:AV} {u:Value} (hp:VR E w.heap p u) (h:Db tt t p H=some v) :
 ∃x b o,u= .pointer (some ⟨b,o,none⟩)/\(loadVar t ⟨b,o,none⟩).run P w= .ok x w/\VR E w.heap v x:=by
 unfold Db at h;split at h
 ·grind
 ·rename_i i hi;have iI:=db t i hi;split at h
  ·rename_i Sv;rw [aO] at h;obtain⟨l,hl,rfl⟩:=h;obtain⟨b,o,us,rfl,Z,h3,h4,_⟩:=xX r hp hl;refine⟨.agg us.toArray,b,o,rfl,?_,by simp only [VR]; exact⟨us,rfl,h3⟩⟩;simp [loadVar,qQ iI,Sv,eV iI,tC Z h4]
  ·rename_i Sv;split at h
   ·rename_i v' l hl;simp at h;subst h;obtain⟨b,o,us,rfl,Z,h3,h4,_⟩:=xX r hp hl;rw [bX] at h3;obtain⟨x,vs,rfl,h5,_⟩:=h3;refine⟨x,b,o,rfl,?_,h5⟩;have hc:w.cell? ⟨b,o,none⟩ = some x:=by rw [pZ]; exact h4 0 x rfl
    simp [loadVar,qQ iI,Sv,hc]
   grind
theorem mF (k:IntKind) (n:Int):vF k n=k.wrap n:=by
 unfold vF;split
 ·split
  ·rename_i h; exact (IntWalk.i64_in n h).symm
  ·rfl
 ·split
  ·rename_i h; exact (IntWalk.u8_in n h).symm
  ·rfl
 ·rfl
theorem WZ (ρ:Nat->Int) (k:IntKind) (a b:W):(y_ k a b).den ρ=k.wrap (a.den ρ+b.den ρ):=by
 unfold y_
 grind [W.den,mF]
theorem I7 (ρ:Nat->Int) (k:IntKind) (a b:W):(UE k a b).den ρ=k.wrap (a.den ρ-b.den ρ):=by
 unfold UE
 grind [W.den,mF]
theorem WY (ρ:Nat->Int) (k:IntKind) (a b:W):(x? k a b).den ρ=k.wrap (a.den ρ*b.den ρ):=by
 unfold x?
 grind [W.den,mF]
theorem eA (ρ:Nat->Int) (a b:W):(jc a b).den ρ=decide (a.den ρ<b.den ρ):=by
 unfold jc;split
 ·rfl
 ·simp [SB.den]
theorem y! (ρ:Nat->Int) (a b:W):(adE a b).den ρ=decide (a.den ρ<=b.den ρ):=by
 unfold adE;split
 ·rfl
 ·simp only [SB.den]
  grind
theorem jQ (ρ:Nat->Int) (a b:W):(wC a b).den ρ=(a.den ρ == b.den ρ):=by
 unfold wC;split
 ·simp [SB.den,W.den]
 ·simp only [SB.den,W.den]
  grind
 grind [dy,SB.den]
theorem oE (ρ:Nat->Int) (s:SB):(yR s).den ρ=!(s.den ρ):=by
 unfold yR
 grind [SB.den]
theorem mT: ∀(x y:List Nat),iK x y=true↔x=y
 |[],[]=>by simp [iK]
 |[],_::_=>by simp [iK]
 |_::_,[]=>by simp [iK]
 |a::x,b::y=>by
  simp only [iK]
  cases h:a.beq b with
  |true=>have:=az h; subst this; simp [mT x y]
  |false=>have:=asn h; simp [this]
theorem so (s:List Nat):(dF s).toList=s.map UInt8.ofNat:=by simp_all [dF]
theorem lN (s:List Nat):(dF s).size=s.length:=by show (List.map UInt8.ofNat s).toArray.size=_;simp
theorem ofNat_inj {a b:Nat} (ha:a<256) (hb:b<256) (h:UInt8.ofNat a=UInt8.ofNat b):a=b:=by have:=congrArg UInt8.toNat h;simpa [arX,arU ha,arU hb] using this
theorem map_inj: ∀{x y:List Nat},(∀b∈x,b<256)->(∀b∈y,b<256)->x.map UInt8.ofNat=y.map UInt8.ofNat->x=y
 |[],[],_,_,_=>rfl
 |[],_::_,_,_,h=>by simp at h
 |_::_,[],_,_,h=>by simp at h
 |a::x,b::y,Y,hy,h=>by simp only [aA,List.cons.injEq] at h;rw [ofNat_inj (Y a ad) (hy b ad) h.1,map_inj (fun c hc=>Y c (by simp [hc])) (fun c hc=>hy c (by simp [hc])) h.2]
theorem UB {x y:List Nat} (Y: ∀b∈x,b<256) (hy: ∀b∈y,b<256):((dF x).toList == (dF y).toList)=iK x y:=by
 grind [so,mT,map_inj]
theorem I1: ∀{x y:List Nat},(∀b∈x,b<256)->(∀b∈y,b<256)->Op.bytesLess (x.map UInt8.ofNat) (y.map UInt8.ofNat)=bytesLess x y
 |[],[],_,_=>by simp [Op.bytesLess,bytesLess]
 |[],_::_,_,_=>by simp [Op.bytesLess,bytesLess]
 |_::_,[],_,_=>by simp [Op.bytesLess,bytesLess]
 |a::x,b::y,Y,hy=>by
  have ha:=Y a ad;have hb:=hy b ad;have ih:=I1 (x:=x) (y:=y) (fun c hc=>Y c (by simp [hc])) (fun c hc=>hy c (by simp [hc]));simp only [aA,Op.bytesLess,bytesLess,ih]
  have U:decide (UInt8.ofNat a<UInt8.ofNat b)=a.blt b:=by rw [arM,decide_eq_true_iff,UInt8.lt_iff_toNat_lt,arX,arX,arU ha,arU hb];simp_all
  have Z:(UInt8.ofNat a == UInt8.ofNat b)=a.beq b:=by rw [arM,beq_iff_eq];exact⟨fun h=>by rw [ofNat_inj ha hb h]; simp,fun h=>by rw [az h]⟩
  grind
theorem NI {P:Program} {E:En} {w:World} {op:BinOp} {x y:List Nat} {v:AV} (Y: ∀b∈x,b<256) (hy: ∀b∈y,b<256) (h:NJ op x y=some v) :
 ∃u,(Op.stringOp op (dF x) (dF y)).run P w= .ok u w/\VR E w.heap v u:=by
 have he:=UB Y hy;have hl:Op.bytesLess (dF x).toList (dF y).toList=bytesLess x y:=by rw [so,so]; exact I1 Y hy
 unfold NJ at h;cases op<;>simp only [ah,reduceCtorEq] at h
 case add=>
  split at h
  ·rename_i hh;simp at h;subst h;have hm:IntKind.i64.max=9223372036854775807:=ae
   refine⟨.string (dF x++dF y),?_,?_⟩
   ·simp only [Op.stringOp,lN,hm];rw [af J];rfl
   ·simp only [VR];refine⟨?_,?_⟩
    ·congr 1;apply ByteArray.ext;simp [dF]
    ·intro b hb;rcases arG.1 hb with hb|hb
     ·exact Y b hb
     ·exact hy b hb
  ·simp at h
 all_goals
  subst h;exact⟨_,rfl,by simp only [VR,SB.den,he,hl]⟩
theorem jU {ρ:Nat->Int} {c:SB} {b:Bool}: ∀{pc:List (SB×Bool)},cD ρ pc->oG c pc=some b->c.den ρ=b
 |[],_,h=>by simp [oG] at h
 |(d,x)::l,hp,h=>by
  simp only [oG] at h;split at h
  ·rename_i he;have he:=tz _ _ he;simp at h;subst he h;exact hp _ _ ad
  ·exact jU (fun c b hm=>hp c b (by simp [hm])) h
def tf (lo hi:Option Int) (x:Int):Prop:=(∀l,lo=some l->l<=x)/\∀h,hi=some h->x<=h
theorem Lw {lo:Option Int} {z x:Int} (h: ∀l,lo=some l->l<=x) (hz:z<=x): ∀l,J? lo z=some l->l<=x:=by
 intro l hl;unfold J? at hl
 grind
theorem Lv {hi:Option Int} {z x:Int} (h: ∀l,hi=some l->x<=l) (hz:x<=z): ∀l,J' hi z=some l->x<=l:=by
 intro l hl;unfold J' at hl
 grind
theorem E! {lo:Option Int} {z x:Int} (h: ∀l,lo=some l->l<=x) (hz:x≠z): ∀l,E? lo z=some l->l<=x:=by
 intro l hl;unfold E? at hl
 grind
theorem F_ {hi:Option Int} {z x:Int} (h: ∀l,hi=some l->x<=l) (hz:x≠z): ∀l,F! hi z=some l->x<=l:=by
 intro l hl;unfold F! at hl
 grind
theorem sB {ρ:Nat->Int} {x y:W} {v:Bool} (h:(SB.lt x y).den ρ=v):(x.den ρ<y.den ρ)↔v=true:=by subst h; simp [SB.den]
theorem VN {ρ:Nat->Int} {x y:W} {v:Bool} (h:(SB.eq x y).den ρ=v):(x.den ρ=y.den ρ)↔v=true:=by subst h; simp [SB.den]
theorem acQ {ρ:Nat->Int} (e:W):tf (Ws e).1 (Ws e).2 (e.den ρ):=by
 have h0:tf none none (e.den ρ):=⟨ad,ad⟩;unfold Ws;split
 ·split
  ·split
   ·split
    ·split
     ·split
      ·split
       ·rename_i k m x n hn;obtain⟨hn,rfl,rfl⟩:=hn;simp only [W.den];have U:=aso (m.den ρ) (b:=n) J
        have Z: -n<(m.den ρ).tmod n:=by have U:=aso (-(m.den ρ)) (b:=n) J;rw [Int.neg_tmod] at U;omega
        have h3:=Int.tmod_nonneg n (a:=(m.den ρ).tmod n+n) J;have h4:=aso ((m.den ρ).tmod n+n) (b:=n) J;constructor<;>intro l hl<;>simp at hl<;>omega
       grind
      grind
     grind
    grind
   grind
  grind
 ·rename_i o a b
  cases o with
  |len=> refine⟨fun l hl=>?_,ad⟩;simp only [ah] at hl;subst hl;simp only [W.den,gT.den];omega
  |_=>exact h0
 grind
theorem mW {ρ:Nat->Int} {e:W}: ∀{pc:List (SB×Bool)},cD ρ pc->tf (bounds e pc).1 (bounds e pc).2 (e.den ρ)
 |[],_=>acQ e
 |(c,v)::l,hp=>by
  have ih:=mW (e:=e) (pc:=l) (fun c b hm=>hp c b (by simp [hm]));have hc:=hp c v ad;unfold bounds;split
  ·have hc:=sB hc;split
   ·split
    ·exact ih
    ·rename_i he;have he:=dy _ _ he;subst he;revert ih;split;rename_i lo hi hb;rw [hb];intro ih;simp only [W.den] at hc;cases v
     ·exact⟨ih.1,Lv ih.2 (by simp at hc; omega)⟩
     ·exact⟨Lw ih.1 (by simp at hc; omega),ih.2⟩
   ·split
    ·split
     ·exact ih
     ·rename_i he;have he:=dy _ _ he;subst he;revert ih;split;rename_i lo hi hb;rw [hb];intro ih;simp only [W.den] at hc;cases v
      ·exact⟨Lw ih.1 (by simp at hc; omega),ih.2⟩
      ·exact⟨ih.1,Lv ih.2 (by simp at hc; omega)⟩
    grind
  ·split
   ·split
    ·split
     ·exact ih
     ·rename_i he;have he:=dy _ _ he;subst he;revert ih;split;rename_i lo hi hb;rw [hb];intro ih;simp only [SB.den,W.den,beq_eq_false_iff_ne] at hc;exact⟨E! ih.1 hc,F_ ih.2 hc⟩
    ·split
     ·exact ih
     ·rename_i he;have he:=dy _ _ he;subst he;simp only [SB.den,W.den,beq_iff_eq] at hc;exact⟨fun l hl=>by simp at hl; omega,fun l hl=>by simp at hl; omega⟩
   grind
  grind
theorem zt {ρ:Nat->Int} {e:W} {pc:List (SB×Bool)} (hp:cD ρ pc):tf (qP e pc).1 (qP e pc).2 (e.den ρ):=by
 have h0:=mW (e:=e) hp;unfold qP;split
 ·split
  ·split
   ·split
    ·rename_i b _ c;have hb:=mW (e:=b) hp;split
     ·rename_i lo hi P9;rw [P9] at hb;have b1:=hb.1 lo rfl;have b2:=hb.2 hi rfl;split
      ·rename_i hr;revert h0;split;rename_i l2 Z hee;rw [hee];intro h0
       have hw:(W.wrap .i64 (.add b (.lit c))).den ρ=b.den ρ+c:=by
        simp only [W.den];rw [<- mF];simp only [vF]
        grind
       exact⟨Lw h0.1 (by rw [hw]; omega),Lv h0.2 (by rw [hw]; omega)⟩
      grind
     grind
    grind
   grind
  grind
 grind
theorem GD {ρ:Nat->Int} {pc:List (SB×Bool)} (hp:cD ρ pc) {a b:W} {v:Bool} (h:UZ a b pc=some v):a.den ρ=b.den ρ↔v=true:=by
 unfold UZ at h;split at h
 ·rename_i U;simp at h;subst h;exact VN (jU hp U)
 ·rw [<- VN (jU hp h)]
  grind
theorem acg {ρ:Nat->Int} {pc:List (SB×Bool)} (hp:cD ρ pc) {a b:W} {v:Bool} (h:decLt pc a b=some v):a.den ρ<b.den ρ↔v=true:=by
 unfold decLt at h;split at h
 ·rename_i U;simp at h;subst h;exact sB (jU hp U)
 ·split at h
  ·have hb:=zt (e:=b) hp;have hz: ∀z,(W.lit z).den ρ=z:=fun _=>rfl;simp only [hz] at *;generalize P9:qP _ pc=p at h hb;obtain⟨lo,hi⟩:=p;simp only [tf] at h hb
   grind
  ·split at h
   ·have hb:=zt (e:=a) hp;have hz: ∀z,(W.lit z).den ρ=z:=fun _=>rfl;simp only [hz] at *;generalize P9:qP _ pc=p at h hb;obtain⟨lo,hi⟩:=p;simp only [tf] at h hb
    grind
   ·split at h
    ·rename_i U;have U:=GD hp U
     grind
    ·rename_i U;have U:=GD hp U;simp at U;split at h
     ·rename_i Z;have Z:=sB (jU hp Z)
      grind
     grind
    ·split at h
     ·rename_i Z;have Z:=sB (jU hp Z)
      grind
     grind
theorem ach {ρ:Nat->Int} {pc:List (SB×Bool)} (hp:cD ρ pc) {a b:W} {v:Bool} (h:decEq pc a b=some v):a.den ρ=b.den ρ↔v=true:=by
 unfold decEq at h;split at h
 ·rename_i U;simp at h;subst h;exact GD hp U
 ·split at h
  ·have hb:=zt (e:=a) hp;have hz: ∀z,(W.lit z).den ρ=z:=fun _=>rfl;simp only [hz] at *;generalize P9:qP _ pc=p at h hb;obtain⟨lo,hi⟩:=p;simp only [tf] at h hb
   grind
  ·split at h
   ·rename_i Z;have Z:=sB (jU hp Z)
    grind
   ·rename_i Z;have Z:=sB (jU hp Z);simp at Z;split at h
    ·rename_i h3;have h3:=sB (jU hp h3)
     grind
    grind
   ·split at h
    ·rename_i Z;have Z:=sB (jU hp Z)
     grind
    grind
theorem HG {ρ:Nat->Int} {pc:List (SB×Bool)} (hp:cD ρ pc) {c:SB} {b:Bool} (h:Fu pc c=some b):c.den ρ=b:=by
 unfold Fu at h;split at h
 ·simp at h; simp [SB.den,h]
 ·have:=acg hp h;simp only [SB.den]
  grind
 ·have:=ach hp h;simp only [SB.den]
  grind
 ·exact jU hp h
theorem iz {ρ:Nat->Int} {pc:List (SB×Bool)} (hp:cD ρ pc) {c:SB} {b:Bool} (h:lh pc c=some b):c.den ρ=b:=by
 unfold lh at h;split at h
 ·rw [aO] at h;obtain⟨x,U,rfl⟩:=h;simp only [SB.den,HG hp U]
 ·exact HG hp h
section
variable {P:Program} {E:En} {w:World}
theorem Q! {op:BinOp} {t:Nat} {k k':IntKind} {a b:W} {v:AV} (hk:op= .shr\/k=k') (h:Vi op k a b=some v) :
 ∃u,(binOp op t (.int k (a.den E.ρ)) (.int k' (b.den E.ρ))).run P w= .ok u w/\VR E w.heap v u:=by
 unfold Vi at h;cases op<;>simp only [ah,reduceCtorEq] at h
 case add=>obtain rfl:k=k':=by simpa using hk
           subst h; exact⟨_,by simp [binOp,Op.intArith]; rfl,by simp only [VR,WZ]⟩
 case sub=>obtain rfl:k=k':=by simpa using hk
           subst h; exact⟨_,by simp [binOp,Op.intArith]; rfl,by simp only [VR,I7]⟩
 case mul=>obtain rfl:k=k':=by simpa using hk
           subst h; exact⟨_,by simp [binOp,Op.intArith]; rfl,by simp only [VR,WY]⟩
 case quo=>
  obtain rfl:k=k':=by simpa using hk
  split at h
  ·split at h
   ·simp at h
   ·rename_i hy;simp at h;subst h;exact⟨_,by simp [binOp,Op.intDiv,W.den,hy]; rfl,by simp only [VR,W.den,mF]⟩
  ·split at h
   ·simp at h
   ·rename_i hy;simp at h;subst h;exact⟨_,by simp [binOp,Op.intDiv,W.den,hy]; rfl,by simp only [VR,W.den]⟩
  ·simp at h
 case rem=>
  obtain rfl:k=k':=by simpa using hk
  split at h
  ·split at h
   ·simp at h
   ·rename_i hy;simp at h;subst h;exact⟨_,by simp [binOp,Op.intDiv,W.den,hy]; rfl,by simp only [VR,W.den]⟩
  ·split at h
   ·simp at h
   ·rename_i hy;simp at h;subst h;exact⟨_,by simp [binOp,Op.intDiv,W.den,hy]; rfl,by simp only [VR,W.den]⟩
  ·simp at h
 case shr=>
  split at h
  ·split at h
   ·simp at h
   ·rename_i hy;simp at h;subst h;exact⟨_,by simp [binOp,Op.shift,W.den,hy]; rfl,by simp only [VR,W.den]⟩
  ·simp at h
 all_goals
  obtain rfl:k=k':=by simpa using hk
  subst h;refine⟨_,by simp [binOp,Op.intCmp]; rfl,?_⟩;simp only [VR,jQ,oE,eA,y!]
  first |rfl|(congr 1; simp [bne]; done)|(congr 1; rw [arM]; simp; done)|skip
theorem xr {op:BinOp} {t:Nat} {x y:Operand} {a b:Value} (U: ∀cs ds,¬(a= .agg cs/\b= .agg ds)) (Z: ¬(a= .nilIface/\b= .nilIface)) :
 (eqGuard op t x y a b).run P w= .ok () w:=by
 cases op
 case eql=>
  cases a<;>first
   |(cases b<;>first |(exact absurd ⟨rfl,rfl⟩ (U _ _))|(exact absurd ⟨rfl,rfl⟩ Z)|rfl)
   |rfl
 case neq=>
  cases a<;>first
   |(cases b<;>first |(exact absurd ⟨rfl,rfl⟩ (U _ _))|(exact absurd ⟨rfl,rfl⟩ Z)|rfl)
   |rfl
 all_goals rfl
theorem Ef {ρ:Nat->Int} {a b c:SB} (h:Fq a b=some c):c.den ρ=(a.den ρ == b.den ρ):=by
 unfold Fq at h;split at h<;>simp only [ah,reduceCtorEq] at h<;>subst h
 ·simp [SB.den]
 ·grind [SB.den,oE]
 ·grind [SB.den,oE]
 ·simp only [SB.den];cases a.den ρ<;>cases b.den ρ<;>rfl
theorem AI {d:TypeDesc} {t:Nat} (h:P.underlying t=some d) (w:World):(underlying t).run P w= .ok d w:=run_underlying h w
theorem tO {i:TI} {t:Nat} (h:oq P t i): ∃d,P.underlying t=some d/\KG P d i.kind:=by
 obtain⟨inf,d,z,U,Z,h3,h4,h5,h6,h7,_⟩:=h.all
 grind
theorem VM {i:TI} {t:Nat} (ht:oq P t i) {x y:AV} {u u':Value} (Y:VR E w.heap x u) (hy:VR E w.heap y u') {c:SB} (h:akK i.kind x y=some c) :
 (Op.equal t u u').run P w= .ok (c.den E.ρ) w/\(∀cs ds,¬(u= .agg cs/\u'= .agg ds))/\¬(u= .nilIface/\u'= .nilIface)/\(∀k n,u≠.int k n)/\(∀s,u≠.string s)/\(∀k n,u≠.float k n)/\(∀k n m,u≠.complex k n m):=by
 obtain⟨d,U,Z⟩:=tO ht;have hm: ∀a b,Op.equal t a b=Op.equalIn (9999+1) t a b:=fun _ _=>rfl;rw [hm];clear hm;generalize (9999:Nat)=n;unfold akK at h;split at h
 ·rename_i hk;rw [hk] at Z;cases d<;>simp only [KG] at Z;split at h
  ·simp only [VR] at Y hy;subst Y hy;refine⟨?_,ad,ad,ad,ad,ad,ad⟩;rw [Ef h];simp [Op.equalIn,AI U]
  grind
 ·rename_i k hk;cases zT:i.kind<;>rw [zT] at h Z<;>simp only [isNil,reduceCtorEq] at h
  case pointer e=>
   cases d<;>simp only [KG] at Z;cases x<;>simp only [reduceCtorEq] at h<;>cases y<;>simp only [reduceCtorEq,ah] at h<;>subst h<;>simp only [VR] at Y hy
   all_goals
    first |(obtain⟨b,o,us,rfl,_⟩:=Y)|(obtain⟨rfl,_⟩:=Y)|subst Y
    first |(obtain⟨b',o',iA,rfl,_⟩:=hy)|(obtain⟨rfl,_⟩:=hy)|subst hy
    exact⟨by simp [Op.equalIn,AI U,SB.den],ad,ad,ad,ad,ad,ad⟩
  case slice e=>
   cases d<;>simp only [KG] at Z;cases x<;>simp only [reduceCtorEq] at h<;>cases y<;>simp only [reduceCtorEq,ah] at h<;>subst h<;>simp only [VR] at Y hy
   all_goals
    first |(obtain⟨b,o,cap,us,rfl,_⟩:=Y)|(obtain⟨_,b,cap,rfl,_⟩:=Y)|(obtain⟨_,k,b,cap,_,rfl,_⟩:=Y)|subst Y
    first |(obtain⟨b',o',rN,iA,rfl,_⟩:=hy)|(obtain⟨_,b',rN,rfl,_⟩:=hy)|(obtain⟨_,k',b',rN,_,rfl,_⟩:=hy)|subst hy
    exact⟨by simp [Op.equalIn,AI U,SB.den],ad,ad,ad,ad,ad,ad⟩
  case map k' e=>
   cases d<;>simp only [KG] at Z;cases x<;>simp only [reduceCtorEq] at h<;>cases y<;>simp only [reduceCtorEq,ah] at h<;>subst h<;>simp only [VR] at Y hy
   all_goals
    first |(obtain⟨rfl,_⟩:=Y)|subst Y
    first |(obtain⟨rfl,_⟩:=hy)|subst hy
    exact⟨by simp [Op.equalIn,AI U,SB.den],ad,ad,ad,ad,ad,ad⟩
theorem binOp_eql {t:Nat} {u u':Value} {b:Bool} (h:(Op.equal t u u').run P w= .ok b w) (U: ∀k n,u≠.int k n) (Z: ∀s,u≠.string s) (h3: ∀k n,u≠.float k n) (h4: ∀k n m,u≠.complex k n m) :
 (binOp .eql t u u').run P w= .ok (.bool b) w/\(binOp .neq t u u').run P w= .ok (.bool (!b)) w:=by
 cases u<;>first
  |exact absurd rfl (U _ _)
  |exact absurd rfl (Z _)
  |exact absurd rfl (h3 _ _)
  |exact absurd rfl (h4 _ _ _)
  |(constructor<;>(cases u'<;>simp [binOp,h]))
theorem mY (ρ:Nat->Int) (a b:W):(wB a b).den ρ=(a.den ρ == b.den ρ):=by
 unfold wB;split
 ·rename_i h
  grind [dy,SB.den]
 ·split
  ·simp only [SB.den]
   grind
  ·simp only [SB.den]
theorem rb (ρ:Nat->Int) (x:W):(oD x).den ρ=enc (dec (x.den ρ)):=by
 unfold oD;split
 ·simp only [W.den,bA]
 ·split
  ·simp only [W.den,gT.den,bA]
  ·simp only [W.den,gT.den,bA]
  ·simp only [W.den,gT.den]
 ·simp only [W.den,gT.den]
theorem AA {E:En} {h:Array Obj} {x:AV} {u:Value} {e:W} (Y:VR E h x u) (hs:vu x=some e): ∃s,u= .string s/\dec (e.den E.ρ)=vS s:=by
 unfold vu at hs;split at hs
 ·simp only [ah] at hs;subst hs;simp only [VR] at Y;obtain⟨rfl,hb⟩:=Y;refine⟨_,rfl,?_⟩;simp only [W.den,bA]
  grind [BJ,vS,dF]
 ·simp only [ah] at hs;subst hs;simp only [VR] at Y;generalize dec (W.den E.ρ _)=d at Y ⊢
  cases Y with
  |str s=>exact⟨s,rfl,rfl⟩
 grind
theorem FU {E:En} {h:Array Obj} {x y:AV} {u v:Value} {c:SB} (Y:VR E h x u) (hy:VR E h y v) (hs:DE x y=some c): ∃a b:ByteArray,u= .string a/\v= .string b/\c.den E.ρ=decide (a=b):=by
 unfold DE at hs;split at hs
 ·grind
 ·rename_i e he;split at hs
  ·grind
  ·rename_i f hf;simp only [ah] at hs;subst hs;obtain⟨a,rfl,ha⟩:=AA Y he;obtain⟨b,rfl,hb⟩:=AA hy hf;refine⟨a,b,rfl,rfl,?_⟩
   grind [mY,rb,HH,eQ]
theorem zx (a b:ByteArray):(a.toList == b.toList)=decide (a=b):=by
 rw [arM,beq_iff_eq,decide_eq_true_eq];constructor
 ·intro h;rw [<- lO a,<- lO b]
  have e: ∀x:ByteArray,x.toList=x.data.toList:=by
   intro x;have:=so (bytesOf x);rw [lO] at this;rw [this]
   have e2:(UInt8.ofNat ∘ fun b:UInt8=>b.toNat)=id:=by funext b;simp
   simp_all [bytesOf,e2]
  grind [bytesOf]
 grind
theorem I0 {E:En} {op:BinOp} {x y v:AV} {u u':Value} {t:Nat} (Y:VR E w.heap x u) (hy:VR E w.heap y u') (h:K6 op (DE x y)=some v) :
 (∃r,(binOp op t u u').run P w= .ok r w/\VR E w.heap v r)/\(∀cs ds,¬(u= .agg cs/\u'= .agg ds))/\¬(u= .nilIface/\u'= .nilIface):=by
 unfold K6 at h;split at h
 ·grind
 ·rename_i c hc;obtain⟨a,b,rfl,rfl,V⟩:=FU Y hy hc;refine⟨?_,ad,ad⟩;split at h
  ·simp only [ah] at h;subst h;refine⟨.bool (decide (a=b)),?_,by simp only [VR,V]⟩;rw [<- zx];rfl
  ·simp only [ah] at h;subst h;refine⟨.bool (!decide (a=b)),?_,by simp only [VR,SB.den,V]⟩;rw [<- zx];rfl
  grind
theorem aap {tt:TT} (db:fj P tt) {t:Nat} {op:BinOp} {x y v:AV} {u u':Value} (Y:VR E w.heap x u) (hy:VR E w.heap y u') (h:aaq tt t op x y=some v) :
 (∃r,(binOp op t u u').run P w= .ok r w/\VR E w.heap v r)/\(∀cs ds,¬(u= .agg cs/\u'= .agg ds))/\¬(u= .nilIface/\u'= .nilIface):=by
 unfold aaq at h;split at h
 ·split at h
  ·simp only [VR] at Y hy;subst Y hy;refine⟨?_,ad,ad⟩;split at h
   all_goals simp_all [Q!]
  grind
 ·split at h
  ·simp only [VR] at Y hy;obtain⟨rfl,Y⟩:=Y;obtain⟨rfl,hy⟩:=hy;refine⟨?_,ad,ad⟩;obtain⟨r,U,Z⟩:=NI (P:=P) (E:=E) (w:=w) Y hy h;refine⟨r,?_,Z⟩;cases op<;>first |(simp [NJ] at h; done)|(simpa [binOp] using U)
  ·exact I0 Y hy h
  grind
 ·exact I0 Y hy h
 ·split at h
  ·grind
  ·rename_i i hi;split at h
   ·rename_i c hc;simp at h;subst h;obtain⟨e1,e2,e3,e4,e5,e6,e7⟩:=VM (w:=w) (db t i hi) Y hy hc;exact⟨⟨_,(binOp_eql e1 e4 e5 e6 e7).1,by simp only [VR]⟩,e2,e3⟩
   ·rename_i c hc;simp at h;subst h;obtain⟨e1,e2,e3,e4,e5,e6,e7⟩:=VM (w:=w) (db t i hi) Y hy hc;exact⟨⟨_,(binOp_eql e1 e4 e5 e6 e7).2,by simp only [VR,oE]⟩,e2,e3⟩
   grind
theorem aev {op:UnOp} {x v:AV} {u:Value} (Y:VR E w.heap x u) (h:akI op x=some v): ∃r,(Op.unary op u).run P w= .ok r w/\VR E w.heap v r:=by
 unfold akI at h;split at h
 ·simp at h; subst h;simp only [VR] at Y; subst Y;exact⟨_,rfl,by simp only [VR,oE]⟩
 ·simp at h; subst h;simp only [VR] at Y; subst Y;exact⟨_,rfl,by simp only [VR,I7,W.den]⟩
 grind
end
section
variable {P:Program} {E:En} {w:World}
theorem jD [bS] {H:Hp} {w':World} (r:ca E H w) {cs:List AV} {us:List Value} (arr:Array Value) (lo hi:Nat) (e:TypeId) (hv:cL E w.heap cs us) (U: ∀u∈us,u.oneCell'=true)
 (ha: ∀(i:Nat) (u:Value),us[i]?=some u->arr[i]?=some u) (hf: ∀o:Nat,lo<=o->o<hi->arr.size<=o) (hw:w'.heap=w.heap.push (.cells arr e (lo,hi))) (al:Alike w w') :
 fP E H w (E.ext H.fresh (w.heap.size,0) arr.size) (H.new (.cells cs e)) w'/\ca (E.ext H.fresh (w.heap.size,0) arr.size) (H.new (.cells cs e)) w':=by
 refine AY r _ _ _ hw al ?_;have k:=GJ r (w.heap.size,0) arr.size (.cells arr e (lo,hi));rw [<- hw] at k;have hlen:=hv.length;simp only [OR,En.ext_θ_new,En.ext_κ_new];refine⟨arr,lo,hi,us,by rw [hw]; simp,cL.dv k _ _ hv,fun i u hu=>by rw [aK]; exact ha i u hu,?_,J,hf,U⟩;rw [<- hlen];rcases aZ arr.size us.length with hh|hh
 ·have:=ha arr.size us[arr.size] (by simp [hh])
  grind
 grind
theorem Ll [bS] {H:Hp} (_:ca E H w) (c:Nat) (h:Array Obj) (off:Nat):VR (E.ext H.fresh (w.heap.size,0) c) h (.ptr H.fresh off) (.pointer (some ⟨w.heap.size,off,none⟩)):=by
 simp only [VR,En.ext_θ_new]
 grind [En.iR]
theorem SO [bS] {tt:TT} (db:fj P tt) {H H':Hp} (r:ca E H w) {t:Nat} {p v:AV} {u x:Value} (hp:VR E w.heap p u) (Y:VR E w.heap v x) (h:L7 tt t p v H=some H') :
 ∃w',(Instr.storeAt t u x).run P w= .ok () w'/\fP E H w E H' w'/\ca E H' w':=by
 unfold L7 at h;split at h
 ·grind
 ·rename_i i hi;split at h
  ·rename_i hc;simp only [an,decide_eq_true_eq] at hc;split at h
   ·split at h
    ·rename_i id off cs e hl;split at h
     ·rename_i mM hs;simp at h;subst h;simp only [VR] at hp;obtain⟨rfl,_⟩:=hp;have P7:=Y.cells hc.2;have hlen:x.cells.size=i.size:=by have:=P7.length; simp only [bn] at this; omega
      obtain⟨w',U,Z,h3⟩:=mP (P:=P) r hl hs P7 (P7.tI hc.2);refine⟨w',?_,Z,h3⟩;simp [Instr.storeAt,Instr.sureAddr,storeVar,eV (db t i hi),hlen,U]
     grind
    grind
   grind
  grind
theorem J5: ∀(vs:List Value) (off k:Nat) (arr:Array Value),off+k+vs.length<=arr.size->
 ((vs.zipIdx k).foldl (fun cs p=>cs.setIfInBounds (off+p.2) p.1) arr).size=arr.size/\
 ∀i,((vs.zipIdx k).foldl (fun cs p=>cs.setIfInBounds (off+p.2) p.1) arr)[i]?=if off+k<=i/\i<off+k+vs.length then vs[i-(off+k)]? else arr[i]?
 |[],off,k,arr,_=> ⟨rfl,fun i=>by rw [af ad]; rfl⟩
 |v::vs,off,k,arr,h=>by
  simp only [List.zipIdx_cons,List.foldl_cons];obtain⟨U,Z⟩:=J5 vs off (k+1) (arr.setIfInBounds (off+k) v) (by simp at h ⊢; omega)
  grind
def vt (E:En) (h:Array Obj):List (Nat×AV)->List (Nat×Value)->Prop
 |[],ps=>ps= []
 |(i,v)::xs,ps=> ∃x r,ps=(i,x)::r/\VR E h v x/\vt E h xs r
theorem rE {place:Nat->Option (Nat×Nat)} {h:Array Obj}: ∀{parts:List (Nat×AV)} {cs mM:List AV} {us:Array Value} {ps:List (Nat×Value)},
 u9 place cs parts=some mM->cL E h cs us.toList->vt E h parts ps->(∀u∈us.toList,u.oneCell'=true)->
 ∃iA:Array Value,Instr.fill place us ps=some iA/\cL E h mM iA.toList/\∀u∈iA.toList,u.oneCell'=true
 |[],cs,mM,us,ps,U,Z,h3,h4=>by simp only [vt] at h3;subst h3;simp [u9] at U;subst U;exact⟨us,rfl,Z,h4⟩
 |(i,v)::parts,cs,mM,us,ps,U,Z,h3,h4=>by
  simp only [vt] at h3;obtain⟨x,ps',rfl,Y,hb⟩:=h3;simp only [u9] at U;split at U
  ·simp at U
  ·rename_i off size hp;split at U
   ·rename_i hc;simp only [an,decide_eq_true_eq] at hc;split at U
    ·rename_i cs2 hs;have P7:=Y.cells hc.2;have hlen:=P7.length;simp only [bn] at hlen;obtain⟨e1,e2,iA,e3,e4⟩:=xS hs Z P7;have hul:=Z.length;simp only [bn] at hul;have an2:=J5 x.cells.toList off 0 us (by simp; omega)
     have heq:(x.cells.zipIdx.foldl (fun cs (c,j)=>cs.setIfInBounds (off+j) c) us).toList=iA:=by apply asp;intro k;rw [e4 k];have h5:=an2.2 k;simp only [arA,bn] at h5;rw [ary,<- Array.foldl_toList,Array.toList_zipIdx];rw [h5];simp only [bn,ary]
     have h6: ∀u∈(x.cells.zipIdx.foldl (fun cs (c,j)=>cs.setIfInBounds (off+j) c) us).toList,u.oneCell'=true:=by
      rw [heq];intro u hu;rw [asm] at hu;obtain⟨k,hk⟩:=hu;rw [e4 k] at hk;split at hk
      ·exact P7.tI hc.2 u (arq hk)
      ·exact h4 u (arq hk)
     obtain⟨us2,g1,g2,g3⟩:=rE (us:=x.cells.zipIdx.foldl (fun cs (c,j)=>cs.setIfInBounds (off+j) c) us) U (by rw [heq]; exact e3) hb h6;refine⟨us2,?_,g2,g3⟩;simp only [Instr.fill,hp];rw [af]
     ·exact g1
     ·simp only [arQ,decide_eq_true_eq,not_or];constructor
      ·omega
      ·omega
    ·simp at U
   ·simp at U
theorem Aa {s:St} {a:Act} (sr:SR E w.heap s.bH a): ∀{xs:List (Nat×Operand)} {ps:List (Nat×AV)},yp s xs=some ps->vt E w.heap ps (xs.map fun p=>(p.1,a.eval p.2))
 |[],ps,h=>by simp [yp] at h; subst h; simp [vt]
 |(i,x)::xs,ps,h=>by
  simp only [yp] at h;split at h
  ·grind
  ·rename_i b hb;split at h
   ·grind
   ·rename_i bs hbs;simp at h;subst h;simp only [aA,vt];exact⟨_,_,rfl,iO sr hb,Aa sr hbs⟩
theorem dI {α:Type}: ∀(l:List α) (i:Nat),gb l i=l[i]?
 |[],i=>by cases i<;>rfl
 |x::xs,0=>rfl
 |x::xs,i+1=>by simp [gb,dI xs i]
theorem GA {α β:Type} {f:α->Option β}: ∀{l:List α} {r:List β},l.mapM f=some r->∀i:Nat,r[i]?=(l[i]?).bind f
 |[],r,h,i=>by simp at h; subst h; simp
 |x::xs,r,h,i=>by
  simp only [asq,asV,asC] at h;obtain⟨y,U,ys,Z,h3⟩:=h;simp only [pure,ah] at h3;subst h3
  cases i with
  |zero=>simp [U]
  |succ i=>simpa using GA Z i
theorem UY {α β:Type} {f:α->Option β}: ∀{l:List α} {r:List β},r.length=l.length->(∀i:Nat,r[i]?=(l[i]?).bind f)->l.mapM f=some r
 |[],r,h,_=>by simp at h; subst h; simp
 |x::xs,[],h,_=>by simp at h
 |x::xs,y::ys,h,Z=>by have h0:=Z 0;simp at h0;have ih:=UY (l:=xs) (r:=ys) (by simpa using h) (fun i=>by simpa using Z (i+1));simp [asq,h0.symm,ih]
theorem D2 {α β:Type} {f:α->Option β}: ∀{l:List α} {r:List β},l.mapM f=some r->r.length=l.length
 |[],r,h=>by simp at h; subst h; simp
 |x::xs,r,h=>by simp only [asq,asV,asC] at h;obtain⟨y,U,ys,Z,h3⟩:=h;simp only [pure,ah] at h3;subst h3;simp [D2 Z]
theorem S9 {tt:TT} (db:fj P tt) {t:Nat} {parts:List (Nat×AV)} {ps:Array (Nat×Value)} {v:AV} (hp:vt E w.heap parts ps.toList) (h:Mm tt t parts=some v) :
 ∃x,(Instr.build t ps).run P w= .ok x w/\VR E w.heap v x:=by
 unfold Mm at h;split at h
 ·rename_i i hi;have iI:=db t i hi;obtain⟨inf,z,g1,g2,g3,g4,g5⟩:=yg iI;have hz:=fH (E:=E) (h:=w.heap) g5;split at h
  ·rename_i fs hk;rw [aO] at h;obtain⟨mM,U,rfl⟩:=h;obtain⟨iA,e1,e2,e3⟩:=rE U hz.1 hp hz.2;obtain⟨yJ,hu,hm⟩:=zu iI hk
   have hb:P.built t ps.toList=some iA:=by
    unfold Program.built
    have hm2:(yJ.toList.mapM fun f=>(P.info? f.type).map fun i=>(f.offset,i.size))=some (fs.map fun x=>(x.1,x.2.2)):=by
     refine UY (by simp [D2 hm]) fun i=>?_;have:=GA hm i;rw [bk,this]
     cases yJ.toList[i]? with
     |none=>rfl
     |some f=>simp only [Option.bind_some,Option.map_map]; rfl
    simp only [g1,hu,g4,hm2];simp_all [e1,dI]
   exact⟨_,run_build w t ps iA hb,by simp only [VR]; exact⟨iA.toList,ad,e2⟩⟩
  ·rename_i n e hk;split at h
   ·rename_i s hs;rw [aO] at h;obtain⟨mM,U,rfl⟩:=h;obtain⟨iA,e1,e2,e3⟩:=rE U hz.1 hp hz.2;simp only [jl,aO] at hs;obtain⟨ie,mL,rfl⟩:=hs;obtain⟨ara,z',f1,f2,f3,f4,f5⟩:=yg (db e ie mL)
    have hb:P.built t ps.toList=some iA:=by unfold Program.built;simp only [g1,tm iI hk,g4,f1];simp_all
    exact⟨_,run_build w t ps iA hb,by simp only [VR]; exact⟨iA.toList,ad,e2⟩⟩
   grind
  grind
 grind
theorem DN {α:Type} (l:List α) (hl:l≠[]): ∀(n i:Nat),i<n*l.length->(eb l n)[i]?=l[i % l.length]?
 |0,i,h=>by simp at h
 |n+1,i,h=>by
  have nz:0<l.length:=arY.2 hl;simp only [eb];rw [asW];split
  ·rename_i Z; rw [arU Z]
  ·rename_i Z;rw [DN l hl n (i-l.length) (by rw [arK] at h; omega)];congr 1;rw [<- Nat.mod_eq_sub_mod J]
theorem jT {α:Type} (l:List α): ∀n,(eb l n).length=n*l.length
 |0=>by simp [eb]
 |n+1=>by simp [eb,jT l n,arK]; omega
theorem ng {h:Array Obj} {cs:List AV} {us:List Value} (hv:cL E h cs us): ∀n,cL E h (eb cs n) (eb us n)
 |0=>by simp [eb,cL]
 |n+1=>hv.append (ng hv n)
theorem mZ {α:Type} {l:List α} {x:α}: ∀{n},x∈eb l n->x∈l
 |0,h=>by simp [eb] at h
 |n+1,h=>by
  simp only [eb,arG] at h;rcases h with h|h
  ·exact h
  ·exact mZ h
theorem vY (z:Array Value) (hz:z.toList≠[]) (n:Nat):((Array.range (n*z.size)).map (z[·% z.size]!)).toList=eb z.toList n:=by
 apply asp;intro i
 grind [DN,jT]
theorem EG [bS] {tt:TT} (db:fj P tt) {H H':Hp} (r:ca E H w) {t len:Nat} {parts:List (Nat×AV)} {ps:Array (Nat×Value)} {v:AV} (hp:vt E w.heap parts ps.toList) (h:vb tt t len parts H=some (v,H')) :
 ∃x w' E',(Instr.buildSlice t len ps).run P w= .ok x w'/\fP E H w E' H' w'/\ca E' H' w'/\VR E' w'.heap v x:=by
 unfold vb at h;split at h
 ·rename_i i hi;have iI:=db t i hi;split at h
  ·rename_i e hk;split at h
   ·rename_i ie mL;have S_:=db e ie mL;obtain⟨inf,z,g1,g2,g3,g4,g5⟩:=yg S_;have hz:=fH (E:=E) (h:=w.heap) g5;split at h
    ·rename_i hb;split at h
     ·rename_i cs U;simp only [ah,ak] at h;obtain⟨rfl,rfl⟩:=h
      have iY:len*ie.size<=2 ^ 24:=by have:len*ie.size<=1000*1000:=asX hb.1 hb.2.1;omega
      have yh:z.cells.size=ie.size:=by have:=hz.1.length; simp only [bn] at this; omega
      have key: ∃iA:Array Value,Instr.fill (fun i=>some (i*inf.size,inf.size)) ((Array.range (len*inf.size)).map ((if len*inf.size=0 then #[] else z.cells)[·% (if len*inf.size=0 then #[] else z.cells).size]!)) ps.toList=some iA/\cL E w.heap cs iA.toList/\∀u∈iA.toList,u.oneCell'=true:=by
       rw [g2];by_cases h0:len*ie.size=0
       ·rw [ag h0,h0]
        have akh:eb ie.zero len= []:=by
         grind [jT]
        refine rE U ?_ hp ?_
        all_goals grind [cL]
       ·rw [af h0]
        have jK:z.cells.toList≠[]:=by
         intro Y;have YJ:z.cells.size=0:=by have:=congrArg List.length Y; simpa using this
         grind
        have hzz:=vY z.cells jK len;rw [yh] at hzz;refine rE U ?_ hp ?_
        all_goals grind [ng,mZ]
      obtain⟨iA,e1,e2,e3⟩:=key;refine⟨.slice (some ⟨w.heap.size,0,none⟩) len len,{ w with heap:=w.heap.push (.cells iA e) },E.ext H.fresh (w.heap.size,0) iA.size,?_,?_⟩
      ·by_cases h0:len*inf.size=0
       ·rw [ag h0] at e1;rw [h0] at e1;have e0: ∀f:Nat->Value,(Array.range 0).map f= #[]:=by intro f; simp
        rw [e0] at e1;simp [Instr.buildSlice,run_underlying (fT iI hk),sizeOf,typeInfo,g1,h0,e0,e1,newRow]
       ·rw [af h0] at e1;have h24: ¬(2 ^ 24<len*inf.size):=by rw [g2]; omega
        simp only [Instr.buildSlice,Sem.run_bind,run_underlying (fT iI hk),Result.andThen_ok,sizeOf,typeInfo,zeroValue,run_program,g1,g4,Sem.run_pure,newRow,gt_iff_lt,h24,h0,if_false,Sem.run_ite];rw [e1];rfl
      ·obtain⟨s1,s2⟩:=jD r iA 0 0 e e2 e3 (fun i u hu=>by rw [<- ary]; exact hu) J (w':={ w with heap:=w.heap.push (.cells iA e) }) rfl ⟨rfl,rfl,rfl⟩;refine⟨s1,s2,?_⟩;simp only [VR]
       grind [En.iR,fJ,En.ext_θ_new]
     grind
    grind
   grind
  grind
 grind
theorem JO {E:En} {h:Array Obj} {v:AV} {u:Value} {n:Int} (hv:VR E h v u) (hl:lF v=some n): ∃k,u= .int k n:=by
 unfold lF at hl;split at hl
 ·simp only [ah] at hl;subst hl;simp only [VR,W.den] at hv
  grind
 grind
theorem xo [bS] {tt:TT} (db:fj P tt) {H H':Hp} (r:ca E H w) {t:Nat} {l c:AV} {lu cu:Value} {v:AV} (hl:VR E w.heap l lu) (hc:VR E w.heap c cu) (h:sG tt t l c H=some (v,H')) :
 ∃x w' E',(Instr.makeSlice t lu cu).run P w= .ok x w'/\fP E H w E' H' w'/\ca E' H' w'/\VR E' w'.heap v x:=by
 unfold sG at h;split at h
 ·rename_i n Iy;split at h
  ·rename_i m hcm;obtain⟨k1,rfl⟩:=JO hl Iy;obtain⟨k2,rfl⟩:=JO hc hcm;split at h
   ·rename_i i hi;have iI:=db t i hi;split at h
    ·rename_i e hk;split at h
     ·rename_i ie mL;have S_:=db e ie mL;obtain⟨inf,z,g1,g2,g3,g4,g5⟩:=yg S_;have hz:=fH (E:=E) (h:=w.heap) g5;split at h
      ·rename_i hb;obtain⟨b1,b2,b3,b4,b5⟩:=hb;simp only [ah,ak] at h;obtain⟨rfl,rfl⟩:=h;have yh:z.cells.size=ie.size:=by have:=hz.1.length; simp only [bn] at this; omega
       have wn:IntKind.i64.wrap (Int.ofNat n)=Int.ofNat n:=by rw [<- mF]; simp only [vF]; rw [ag (by constructor<;>simp<;>omega)]
       have wm:IntKind.i64.wrap (Int.ofNat m)=Int.ofNat m:=by rw [<- mF]; simp only [vF]; rw [ag (by constructor<;>simp<;>omega)]
       have G4:inf.bytes*m<=1000000000:=by rw [g3]; exact asX b4 b2
       have ai: ∀(k:IntKind) (x:Int) (w:World),(asInt (Value.int k x)).run P w= .ok x w:=fun _ _ _=>rfl
       have key: ∃iA:Array Value,((Array.range (m*inf.size)).map ((if m*inf.size=0 then #[] else z.cells)[·% (if m*inf.size=0 then #[] else z.cells).size]!))=iA/\cL E w.heap (eb ie.zero m) iA.toList/\∀u∈iA.toList,u.oneCell'=true:=by
        rw [g2];by_cases h0:m*ie.size=0
        ·grind [eb,jT,cL]
        ·rw [af h0]
         have jK:z.cells.toList≠[]:=by
          intro Y;have YJ:z.cells.size=0:=by have:=congrArg List.length Y; simpa using this
          grind
         grind [vY,ng,mZ]
       obtain⟨iA,e1,e2,e3⟩:=key;refine⟨.slice (some ⟨w.heap.size,0,none⟩) n m,{ w with heap:=w.heap.push (.cells iA e) },E.ext H.fresh (w.heap.size,0) iA.size,?_,?_⟩
       ·have t1: ¬(Int.ofNat m<0):=ad
        have t2: ¬((inf.bytes:Int)*Int.ofNat m > 2 ^ 48):=by
         grind
        have t3: ¬(Int.ofNat n<0):=ad
        have t4: ¬(Int.ofNat n > Int.ofNat m):=by simp; omega
        have t5:(askRoom (m*inf.bytes)).run P w= .ok () w:=by simp_all
        have t6:(Int.ofNat m).toNat=m:=rfl;have t7:(Int.ofNat n).toNat=n:=rfl;by_cases h0:m*inf.size=0
        ·rw [ag h0] at e1;rw [h0] at e1;simp only [Instr.makeSlice,Sem.run_bind,run_underlying (fT iI hk),Result.andThen_ok,ai,sizeOf,typeInfo,zeroValue,run_program,g1,g4,Sem.run_pure,newRow,Sem.run_ite,wn,wm,t1,t2,t3,t4,t6,t7,h0,decide_false,asD,aQ,if_false,if_true];simp_all
        ·rw [af h0] at e1;simp only [Instr.makeSlice,Sem.run_bind,run_underlying (fT iI hk),Result.andThen_ok,ai,sizeOf,typeInfo,zeroValue,run_program,g1,g4,Sem.run_pure,newRow,Sem.run_ite,wn,wm,t1,t2,t3,t4,t6,t7,h0,decide_false,asD,aQ,if_false];simp_all
       ·obtain⟨s1,s2⟩:=jD r iA 0 0 e e2 e3 (fun i u hu=>by rw [<- ary]; exact hu) J (w':={ w with heap:=w.heap.push (.cells iA e) }) rfl ⟨rfl,rfl,rfl⟩;refine⟨s1,s2,?_⟩;simp only [VR];exact⟨En.iR _ _ _ _,⟨w.heap.size,0,none⟩,m,rfl,b1,by simp [fJ,En.ext_θ_new]⟩
      grind
     grind
    grind
   grind
  grind
 grind
end
section
variable {P:Program} {E:En} {w:World}
theorem NY {i:TI} {t:Nat} (iI:oq P t i) {fs:List (Nat×Nat×Nat)} (hk:i.kind= .struct fs) {f off ft sz:Nat} (h:gb fs f=some (off,ft,sz)) :
 ∃(yJ:Array Field) (fd:Field) (inf:TypeInfo),P.underlying t=some (.struct yJ)/\yJ[f]?=some fd/\fd.offset=off/\fd.type=ft/\P.info? ft=some inf/\inf.size=sz:=by
 obtain⟨yJ,hu,hm⟩:=zu iI hk;have U:=GA hm f;rw [<- dI,h,ary] at U
 cases hf:yJ[f]? with
 |none=>rw [hf] at U; simp at U
 |some fd=>
  rw [hf] at U;simp only [Option.bind_some] at U
  cases hi:P.info? fd.type with
  |none=>rw [hi] at U; simp at U
  |some inf=>
   grind
theorem Jo {x v:AV} {u:Value} {off:Nat} (Y:VR E w.heap x u) (h:UX off x=some v) :
 ∃b o,u= .pointer (some ⟨b,o,none⟩)/\VR E w.heap v (.pointer (some ⟨b,o+off,none⟩)):=by
 unfold UX at h;cases x<;>simp only [ah,reduceCtorEq,aO] at h
 case ptr id o=>
  subst h;simp only [VR] at Y ⊢;obtain⟨rfl,hid⟩:=Y;exact⟨_,_,rfl,by rw [arz],hid⟩
 case BF id es i o=>
  subst h;simp only [VR] at Y ⊢;obtain⟨hid,k,U,rfl⟩:=Y;exact⟨_,_,rfl,hid,k,U,by rw [arz,arz]⟩
 case oF cs=>
  obtain⟨l,U,rfl⟩:=h;simp only [VR] at Y ⊢;obtain⟨b,o,us,rfl,Z,h3,h4,h5⟩:=Y;exact⟨b,o,rfl,b,o+off,us.drop off,rfl,Z,(h3.fE U).1,h4.drop off,fun u hu=>h5 u (arv hu)⟩
theorem Hq {tt:TT} (db:fj P tt) {t f:Nat} {x v:AV} {u:Value} (Y:VR E w.heap x u) (h:xq tt t x f=some v) :
 ∃r,(Instr.fieldAt t u f).run P w= .ok r w/\VR E w.heap v r:=by
 unfold xq at h;split at h
 ·rename_i i hi;split at h
  ·rename_i fs hk;split at h
   ·rename_i off ft sz hn;obtain⟨yJ,fd,inf,hu,hf,U,Z,h3,h4⟩:=NY (db t i hi) hk hn;split at h
    ·grind
    ·rename_i iY;obtain⟨b,o,rfl,hv⟩:=Jo Y h;refine⟨_,?_,hv⟩;have jK: ¬inf.size=0:=by rw [h4]; exact iY
     simp [Instr.fieldAt,run_underlying hu,hf,Instr.sureAddr,fieldPlace,sizeOf,typeInfo,Z,h3,jK,fL,U]
   grind
  grind
 grind
theorem UP {i:TI} {t:Nat} (iI:oq P t i) {cs l:List AV} {us:List Value} {off:Nat} {v:AV} (hv:cL E w.heap cs us) (V:fE off cs=some l)
 (h:partOf i l=some v) :
 ∃r,(part t us.toArray off).run P w= .ok r w/\VR E w.heap v r:=by
 obtain⟨U,Z,h3⟩:=hv.fE V;have hlen:=hv.length;unfold partOf at h;split at h
 ·rename_i Sv;rw [aO] at h;obtain⟨l',h4,rfl⟩:=h;obtain⟨h5,h6⟩:=U.jk h4;refine⟨.agg (us.toArray.extract off (off+i.size)),?_,?_⟩
  ·simp [part,qQ iI,Sv,eV iI]
  ·simp only [VR]
   grind
 ·rename_i Sv;split at h
  ·rename_i x l';simp at h;subst h;rw [bX] at U;obtain⟨u,vs,he,h5,_⟩:=U;refine⟨u,?_,h5⟩
   have hg:us[off]?=some u:=by
    have:=congrArg (·[0]?) he
    grind
   simp [part,qQ iI,Sv,hg]
  grind
theorem S0 {tt:TT} (db:fj P tt) {t f:Nat} {x v:AV} {u:Value} (Y:VR E w.heap x u) (h:Mf tt t x f=some v) :
 ∃r,(Instr.field t u f).run P w= .ok r w/\VR E w.heap v r:=by
 unfold Mf at h;split at h
 ·rename_i i hi;split at h
  ·rename_i fs hk;split at h
   ·rename_i off ft sz hn;obtain⟨yJ,fd,inf,hu,hf,U,Z,h3,h4⟩:=NY (db t i hi) hk hn;split at h
    ·rename_i fi cs hfi;split at h
     ·rename_i l hl;simp only [VR] at Y;obtain⟨us,rfl,hv⟩:=Y;obtain⟨r,e1,e2⟩:=UP (w:=w) (db ft fi hfi) hv hl h;refine⟨r,?_,e2⟩;simp [Instr.field,run_underlying hu,hf,asAgg,U,Z,e1]
     grind
    grind
   grind
  grind
 grind
theorem CW {x:AV} {u:Value} {n:Int} (Y:VR E w.heap x u) (h:lF x=some n): ∃k,u= .int k n:=by
 cases x<;>simp [lF] at h;rename_i k e;cases e<;>simp at h;subst h;simp only [VR,W.den] at Y
 grind
theorem rF {tt:TT} (db:fj P tt) {t:Nat} {x ix v:AV} {u ui:Value} (Y:VR E w.heap x u) (Be:VR E w.heap ix ui) (h:pW tt t x ix=some v) :
 ∃r,(Instr.indexAt t u ui).run P w= .ok r w/\VR E w.heap v r:=by
 unfold pW at h;split at h
 ·rename_i i hi;obtain⟨k,rfl⟩:=CW Be hi;split at h
  ·rename_i ti iI;have wU:=db t ti iI;split at h
   ·rename_i n e hk;split at h
    ·rename_i gy;split at h
     ·rename_i s hs;simp only [jl,aO] at hs;obtain⟨ie,mL,rfl⟩:=hs;obtain⟨b,o,rfl,hv⟩:=Jo Y h;refine⟨_,?_,hv⟩;have hu:=tm wU hk;simp [Instr.indexAt,asIntOf,run_underlying hu,Instr.sureAddr,eV (db e ie mL),gy,fL]
     grind
    grind
   ·rename_i e hk;have hu:=fT wU hk;split at h
    ·rename_i s hs;simp only [jl,aO] at hs;obtain⟨ie,mL,rfl⟩:=hs;split at h
     ·rename_i id o len c;split at h
      ·rename_i gy;simp at h;subst h;simp only [VR] at Y;obtain⟨hid,a,cap,rfl,lH,hc⟩:=Y
       have ha:a=⟨(E.θ id).1,(E.θ id).2+o,none⟩:=by
        cases c with
        |exact c=>
         simp only [fJ] at hc
         grind
        |rest es=>
         simp only [fJ] at hc
         grind
       subst ha;refine⟨.pointer (some ⟨(E.θ id).1,(E.θ id).2+o+i*ie.size,none⟩),?_,by simp only [VR]; exact⟨by rw [arz],hid⟩⟩;simp [Instr.indexAt,asIntOf,run_underlying hu,eV (db e ie mL),gy,fL]
      grind
     ·rename_i cs n full;split at h
      ·rename_i gy;rw [aO] at h;obtain⟨l,U,rfl⟩:=h;simp only [VR] at Y;obtain⟨b,o,cap,us,rfl,Z,h3,h4,h5,h6,h7⟩:=Y;refine⟨.pointer (some ⟨b,o+i*ie.size,none⟩),?_,?_⟩
       ·simp [Instr.indexAt,asIntOf,run_underlying hu,eV (db e ie mL),gy,fL]
       ·simp only [VR];exact⟨b,_,us.drop (i*ie.size),rfl,h4,(h5.fE U).1,h6.drop _,fun u hu=>h7 u (arv hu)⟩
      grind
     grind
    grind
   grind
  grind
 grind
theorem FV (s:List Nat) (i:Nat):(dF s)[i]?=(s[i]?).map UInt8.ofNat:=by have U:(dF s)[i]?=(dF s).data[i]?:=rfl;rw [U];simp [dF]
theorem Ab {tt:TT} (db:fj P tt) {t:Nat} {x ix v:AV} {u ui:Value} (Y:VR E w.heap x u) (Be:VR E w.heap ix ui) (h:BA tt t x ix=some v) :
 ∃r,(Instr.index t u ui).run P w= .ok r w/\VR E w.heap v r:=by
 unfold BA at h;split at h
 ·rename_i i hi;obtain⟨k,rfl⟩:=CW Be hi;split at h
  ·rename_i ti iI;have wU:=db t ti iI;split at h
   ·rename_i s hk;rw [aO] at h;obtain⟨b,hb,rfl⟩:=h;simp only [VR] at Y;obtain⟨rfl,gy⟩:=Y;rw [dI] at hb;have hg:(dF s)[i]?=some (UInt8.ofNat b):=by rw [FV,hb]; rfl
    have aqD:=gy b (arq hb);refine⟨_,by simp [Instr.index,asIntOf,run_underlying (gC wU hk),hg]; rfl,?_⟩;simp only [VR,W.den]
    grind
   ·rename_i n e cs hk;split at h
    ·rename_i gy;split at h
     ·rename_i ie mL;split at h
      ·rename_i l hl;simp only [VR] at Y;obtain⟨us,rfl,hv⟩:=Y;obtain⟨r,e1,e2⟩:=UP (w:=w) (db e ie mL) hv hl h;refine⟨r,?_,e2⟩;simp [Instr.index,asIntOf,run_underlying (tm wU hk),gy,eV (db e ie mL),e1]
      grind
     grind
    grind
   grind
  grind
 grind
end
section
variable {P:Program} {E:En} {w:World}
def ij (E:En) (h:Array Obj):Option AV->Option Value->Prop
 |none,o=>o=none
 |some x,o=> ∃u,o=some u/\VR E h x u
theorem fY {s:St} {a:Act} (sr:SR E w.heap s.bH a) {x:Option Operand} {v:Option AV} (h:Kd s x=some v):ij E w.heap v (x.map a.eval):=by
 cases x with
 |none=>simp [Kd] at h; subst h; simp [ij]
 |some x=> simp only [Kd,aO] at h;obtain⟨b,U,rfl⟩:=h;exact⟨_,rfl,iO sr U⟩
theorem BS {x:AV} {u:Value} {d y k:Nat} (Y:VR E w.heap x u) (h:pr (some x) d y=some k) {y':Nat} (hy:y<=y') (code:BoundsCode) :
 (Instr.sliceBound u y' code).run P w= .ok k w/\k<=y:=by
 unfold pr at h;simp only at h;split at h
 ·rename_i i hi;obtain⟨kk,rfl⟩:=CW Y hi;split at h
  ·rename_i hle;simp at h;subst h;refine⟨?_,hle⟩;have:((i:Int)<=(y':Int)):=J
   simp [Instr.sliceBound,asIntOf];omega
  grind
 grind
theorem BT {d y k:Nat} (h:pr none d y=some k):k=d/\d<=y:=by
 grind [pr]
theorem gK {isSlice:Bool} {len cap m0 h0:Nat} {lo hi mx:Option AV} {Am hi' mx':Option Value} (qC:ij E w.heap lo Am) (Aq:ij E w.heap hi hi') (zS:ij E w.heap mx mx')
 (hmh:mx.isSome=true->hi.isSome=true) {m h l d:Nat}
 (hm:(mx=none/\m=cap/\m0<=cap)\/(∃x,mx=some x/\pr mx d m0=some m/\m0<=cap))
 (hh:pr hi len h0=some h) (hh0:(mx=none->h0<=cap)/\(mx≠none->h0=m)) (hl:pr lo 0 h=some l) :
 (Instr.sliceBounds isSlice len cap Am hi' mx').run P w= .ok (l,h,m) w/\l<=h:=by
 have key: ∀(c:BoundsCode) (v:AV) (u:Value),lo=some v->VR E w.heap v u->(Instr.sliceBound u h c).run P w= .ok l w/\l<=h:=by intro c v u hv hu;subst hv;exact BS hu hl (ax _) c
 have aq8:lo=none->l=0:=fun hv=>by subst hv; exact (BT hl).1
 unfold Instr.sliceBounds;rcases hm with ⟨rfl,rfl,hm0⟩|⟨x,rfl,hm1,hm0⟩
 ·simp only [ij] at zS;subst zS;have hb:=hh0.1 rfl
  cases hi with
  |none=>
   simp only [ij] at Aq;subst Aq;obtain⟨rfl,_⟩:=BT hh
   cases lo with
   |none=> simp only [ij] at qC;simp_all
   |some v=> obtain⟨u,rfl,hu⟩:=qC;obtain⟨k1,k2⟩:=key .sliceB v u rfl hu;simp_all
  |some y=>
   obtain⟨uy,rfl,huy⟩:=Aq;have U:=fun c=>(BS (P:=P) huy hh hb c).1
   cases lo with
   |none=> simp only [ij] at qC;simp_all
   |some v=> obtain⟨u,rfl,hu⟩:=qC;obtain⟨k1,k2⟩:=key .sliceB v u rfl hu;simp_all
 ·obtain⟨ux,rfl,hux⟩:=zS;have Z:=fun c=>(BS (P:=P) hux hm1 hm0 c).1;have hb:=hh0.2 ad;subst hb
  cases hi with
  |none=>simp at hmh
  |some y=>
   obtain⟨uy,rfl,huy⟩:=Aq;have U:=fun c=>(BS (P:=P) huy hh (ax _) c).1
   cases lo with
   |none=> simp only [ij] at qC;simp_all
   |some v=> obtain⟨u,rfl,hu⟩:=qC;obtain⟨k1,k2⟩:=key .slice3C v u rfl hu;simp_all
theorem ur (s:List Nat) (l h:Nat):(dF s).extract l h=dF ((s.take h).drop l):=by apply ByteArray.ext;apply Array.ext';rw [Lib.extract_data];simp [dF,asr,asE,List.drop_take]
theorem rM {id o len cap l h m es:Nat} {a:Addr} {c c':PV} (hc:fJ E id o len a cap c) (hlen:len<=cap) (hlh:l<=h) (hhm:h<=m) (hmc:m<=cap)
 (Su:(∃k,c= .exact k/\c'= .exact (m-l))\/(c= .rest es/\c'= .exact (m-l))\/(c= .rest es/\c'= .rest es/\m=cap)) (s:Nat) (me:c'= .rest es->es=s) :
 fJ E id (o+l*s) (h-l) (if m=l then a else a.add (l*s)) (m-l) c':=by
 rcases Su with ⟨k,rfl,rfl⟩|⟨rfl,rfl⟩|⟨rfl,rfl,rfl⟩
 ·simp only [fJ] at *;refine⟨trivial,?_⟩;by_cases YK:m=l
  ·grind
  ·left
   grind [fL]
 ·simp only [fJ] at *;refine⟨trivial,?_⟩;by_cases YK:m=l
  ·grind
  ·left
   grind [fL]
 ·simp only [fJ] at *;obtain rfl:=me trivial;by_cases YK:m=l
  ·grind
  ·left;rw [af YK];rcases hc with ha|ha
   ·refine⟨by rw [ha.1,fL,arz],?_⟩;rw [<- ha.2,arz,<- arK]
    grind
   ·omega
theorem mg {x:Option AV} {d y k:Nat} (h:pr x d y=some k):k<=y:=by
 unfold pr at h;split at h
 ·grind
 ·split at h
  all_goals grind
theorem O6 [bS] {tt:TT} (db:fj P tt) {H:Hp} (r:ca E H w) {t:Nat} {x v:AV} {u:Value} {lo hi mx:Option AV} {Am hi' mx':Option Value} (Y:VR E w.heap x u)
 (qC:ij E w.heap lo Am) (Aq:ij E w.heap hi hi') (zS:ij E w.heap mx mx') (h:Hl tt t x lo hi mx H=some v) :
 ∃r,(Instr.sliceAt t u Am hi' mx').run P w= .ok r w/\VR E w.heap v r:=by
 unfold Hl at h;split at h
 ·grind
 ·split at h
  ·grind
  ·rename_i ti iI;have wU:=db t ti iI;split at h
   ·rename_i e hk;have hu:=fT wU hk;split at h
    ·grind
    ·rename_i s hs;simp only [jl,aO] at hs;obtain⟨ie,mL,rfl⟩:=hs;have iY:=eV (w:=w) (db e ie mL);split at h
     ·rename_i id o len es;split at h
      ·rename_i me;split at h
       ·rename_i cs ty hl;split at h
        ·grind
        ·rename_i b B6;split at h
         ·grind
         ·rename_i l od;simp at h;subst h;obtain⟨me,nz⟩:=me;subst me;simp only [VR] at Y;obtain⟨hid,a,cap,rfl,hlen,hc⟩:=Y;have Bd:=(r.live id _ hl).2.1;simp only [OR] at Bd;obtain⟨arr,lo1,hi1,us,q1,q2,q3,q4,q5,q6,q7⟩:=Bd
          have lH:(cs.length-o) / ie.size<=cap:=by
           simp only [fJ] at hc;rcases hc with hc|hc
           ·have:cs.length-o<=cap*ie.size:=J
            exact Nat.div_le_of_le_mul (by rw [asU]; exact this)
           simp_all
          obtain⟨e1,e2⟩:=gK (P:=P) (w:=w) (isSlice:=true) (len:=len) (cap:=cap) (m0:=cap) (d:=0) (m:=cap) qC Aq zS ad (.inl ⟨rfl,rfl,ax _⟩) B6 ⟨fun _=>lH,ad⟩ od;have akp:=mg B6;refine⟨.slice (some (if cap=l then a else a.add (l*ie.size))) (b-l) (cap-l),?_,?_⟩
          ·simp [Instr.sliceAt,run_underlying hu,Instr.slice,e1,iY]<;>split<;>rfl
          ·simp only [VR];exact⟨hid,_,_,rfl,J,rM (es:=ie.size) hc hlen e2 J (ax _) (.inr (.inr ⟨rfl,rfl,rfl⟩)) _ (fun _=>rfl)⟩
       grind
      grind
     grind
   grind
theorem SP {tt:TT} (db:fj P tt) {t:Nat} {x v:AV} {u:Value} {lo hi mx:Option AV} {Am hi' mx':Option Value} (Y:VR E w.heap x u)
 (qC:ij E w.heap lo Am) (Aq:ij E w.heap hi hi') (zS:ij E w.heap mx mx') (h:L8 tt t x lo hi mx=some v) :
 ∃r,(Instr.sliceAt t u Am hi' mx').run P w= .ok r w/\VR E w.heap v r:=by
 unfold L8 at h;split at h
 ·grind
 ·rename_i ti iI;have wU:=db t ti iI;split at h
  ·rename_i hk;have hu:=gC wU hk;split at h
   ·rename_i s;simp only [ij] at zS;subst zS;split at h
    ·rename_i b hb;split at h
     ·rename_i l hl;simp at h;subst h;simp only [VR] at Y;obtain⟨rfl,gy⟩:=Y;obtain⟨e1,e2⟩:=gK (P:=P) (w:=w) (isSlice:=false) (len:=s.length) (cap:=s.length) (m0:=s.length) (d:=0) qC Aq (mx:=none) (mx':=none) rfl ad (.inl ⟨rfl,rfl,ax _⟩) hb ⟨fun _=>ax _,ad⟩ hl;refine⟨.string ((dF s).extract l b),?_,?_⟩
      ·rw [<- lN] at e1;simp [Instr.sliceAt,run_underlying hu,Instr.slice,e1]
      ·simp only [VR,ur]
       grind
     grind
    grind
   grind
  ·rename_i e hk;have hu:=fT wU hk;split at h
   ·grind
   ·rename_i s hs;simp only [jl,aO] at hs;obtain⟨ie,mL,rfl⟩:=hs;have iY:=fun w'=>eV (db e ie mL) w';split at h
    ·split at h
     ·grind
     ·rename_i hmh;split at h
      ·rename_i kh kl km B6 od G4;simp at h;subst h;simp only [VR] at Y;subst Y;obtain rfl:kh=0:=by have:=mg B6; omega
       obtain rfl:kl=0:=by have:=mg od; omega
       obtain rfl:km=0:=by have:=mg G4; omega
       have hm:(mx=none/\0=0/\0<=0)\/(∃x,mx=some x/\pr mx 0 0=some 0/\0<=0):=by
        cases mx with
        |none=>exact .inl ⟨rfl,rfl,ax _⟩
        |some y=>exact .inr ⟨y,rfl,G4,ax _⟩
       obtain⟨e1,e2⟩:=gK (P:=P) (w:=w) (isSlice:=true) (len:=0) (cap:=0) (m0:=0) (d:=0) (m:=0) qC Aq zS (by cases mx<;>cases hi<;>simp_all) hm B6 ⟨fun _=>ax _,fun _=>rfl⟩ od;refine⟨.slice none 0 0,?_,by simp only [VR]⟩;simp [Instr.sliceAt,run_underlying hu,Instr.slice,e1,iY]
      grind
    ·rename_i id o len c;split at h
     ·grind
     ·rename_i hmh;split at h
      ·grind
      ·rename_i m G4;split at h
       ·grind
       ·rename_i b B6;split at h
        ·grind
        ·rename_i l od;simp at h;subst h;simp only [VR] at Y;obtain⟨hid,a,cap,rfl,hlen,hc⟩:=Y;have lH:cap=c:=by simp only [fJ] at hc; exact hc.1
         subst lH
         have hm:(mx=none/\m=cap/\cap<=cap)\/(∃x,mx=some x/\pr mx cap cap=some m/\cap<=cap):=by
          cases mx with
          |none=>exact .inl ⟨rfl,(BT G4).1,ax _⟩
          |some y=>exact .inr ⟨y,rfl,G4,ax _⟩
         obtain⟨e1,e2⟩:=gK (P:=P) (w:=w) (isSlice:=true) (len:=len) (cap:=cap) (m0:=cap) (d:=cap) (m:=m) qC Aq zS (by cases mx<;>cases hi<;>simp_all) hm B6 ⟨fun _=>mg G4,fun _=>rfl⟩ od;refine⟨.slice (some (if m=l then a else a.add (l*ie.size))) (b-l) (m-l),?_,?_⟩
         ·simp [Instr.sliceAt,run_underlying hu,Instr.slice,e1,iY]<;>split<;>rfl
         ·simp only [VR];exact⟨hid,_,_,rfl,by have:=mg B6; omega,rM (es:=0) hc hlen e2 (mg B6) (mg G4) (.inl ⟨_,rfl,rfl⟩) _ ad⟩
    ·rename_i id o len es;split at h
     ·split at h
      ·grind
      ·rename_i b B6;split at h
       ·grind
       ·rename_i l od;split at h
        ·rename_i me;simp at h;subst h;simp only [VR] at Y;obtain⟨hid,a,cap,rfl,hlen,hc⟩:=Y;obtain⟨e1,e2⟩:=gK (P:=P) (w:=w) (isSlice:=true) (len:=len) (cap:=cap) (m0:=cap) (d:=0) (m:=cap) qC Aq zS ad (.inl ⟨rfl,rfl,ax _⟩) B6 ⟨fun _=>hlen,ad⟩ od;have akp:=mg B6;refine⟨.slice (some (if cap=l then a else a.add (l*ie.size))) (b-l) (cap-l),?_,?_⟩
         ·simp [Instr.sliceAt,run_underlying hu,Instr.slice,e1,iY]<;>split<;>rfl
         ·simp only [VR];exact⟨hid,_,_,rfl,J,rM (es:=es) hc hlen e2 J (ax _) (.inr (.inr ⟨rfl,rfl,rfl⟩)) _ (fun _=>me)⟩
        grind
     ·rename_i y;split at h
      ·grind
      ·grind
      ·rename_i b0 m G4;split at h
       ·grind
       ·rename_i b B6;split at h
        ·grind
        ·rename_i l od;simp at h;subst h;simp only [VR] at Y;obtain⟨hid,a,cap,rfl,hlen,hc⟩:=Y;obtain⟨e1,e2⟩:=gK (P:=P) (w:=w) (isSlice:=true) (len:=len) (cap:=cap) (m0:=len) (d:=0) (m:=m) qC Aq zS ad (.inr ⟨y,rfl,G4,hlen⟩) B6 ⟨ad,fun _=>rfl⟩ od;have EF:=mg B6;have hm2:=mg G4;refine⟨.slice (some (if m=l then a else a.add (l*ie.size))) (b-l) (m-l),?_,?_⟩
         ·simp [Instr.sliceAt,run_underlying hu,Instr.slice,e1,iY]<;>split<;>rfl
         ·simp only [VR];exact⟨hid,_,_,rfl,J,rM (es:=es) hc hlen e2 EF J (.inr (.inl ⟨rfl,rfl⟩)) _ ad⟩
    ·rename_i cs n full;split at h
     ·split at h
      ·grind
      ·rename_i b B6;split at h
       ·grind
       ·rename_i l od;split at h
        ·grind
        ·rename_i d V;split at h
         ·grind
         ·rename_i d' Ng;simp at h;subst h;simp only [VR] at Y;obtain⟨bb,o,cap,us,rfl,hn,JX,h4,h5,h6,h7⟩:=Y;obtain⟨e1,e2⟩:=gK (P:=P) (w:=w) (isSlice:=true) (len:=n) (cap:=cap) (m0:=cap) (d:=0) (m:=cap) qC Aq zS ad (.inl ⟨rfl,rfl,ax _⟩) B6 ⟨fun _=>hn,ad⟩ od;have EF:=mg B6;obtain⟨g1,g2,g3⟩:=h5.fE V;obtain⟨g4,g5⟩:=g1.jk Ng;refine⟨.slice (some (if cap=l then⟨bb,o,none⟩ else (⟨bb,o,none⟩ : Addr).add (l*ie.size))) (b-l) (cap-l),?_,?_⟩
          ·simp [Instr.sliceAt,run_underlying hu,Instr.slice,e1,iY]<;>split<;>rfl
          ·simp only [VR];by_cases YK:cap=l
           ·have h0:b-l=0:=J
            refine⟨bb,o,cap-l,(us.drop (l*ie.size)).take ((b-l)*ie.size),by rw [ag YK],J,fun _=>by omega,h4,g4,?_,fun u hu=>h7 u (arv (arx hu))⟩;rw [h0,arD];intro i u hu
            grind
           ·refine⟨bb,o+l*ie.size,cap-l,(us.drop (l*ie.size)).take ((b-l)*ie.size),by rw [af YK,fL],J,?_,h4,g4,(h6.drop _).take _,fun u hu=>h7 u (arv (arx hu))⟩;intro hf
            grind
     ·rename_i y;split at h
      ·grind
      ·grind
      ·rename_i b0 m G4;split at h
       ·grind
       ·rename_i b B6;split at h
        ·grind
        ·rename_i l od;split at h
         ·grind
         ·rename_i d V;split at h
          ·grind
          ·rename_i d' Ng;simp at h;subst h;simp only [VR] at Y;obtain⟨bb,o,cap,us,rfl,hn,JX,h4,h5,h6,h7⟩:=Y;obtain⟨e1,e2⟩:=gK (P:=P) (w:=w) (isSlice:=true) (len:=n) (cap:=cap) (m0:=n) (d:=0) (m:=m) qC Aq zS ad (.inr ⟨y,rfl,G4,hn⟩) B6 ⟨ad,fun _=>rfl⟩ od;have EF:=mg B6;obtain⟨g1,g2,g3⟩:=h5.fE V;obtain⟨g4,g5⟩:=g1.jk Ng;refine⟨.slice (some (if m=l then⟨bb,o,none⟩ else (⟨bb,o,none⟩ : Addr).add (l*ie.size))) (b-l) (m-l),?_,?_⟩
           ·simp [Instr.sliceAt,run_underlying hu,Instr.slice,e1,iY]<;>split<;>rfl
           ·simp only [VR];by_cases YK:m=l
            ·have h0:b-l=0:=J
             refine⟨bb,o,m-l,(us.drop (l*ie.size)).take ((b-l)*ie.size),by rw [ag YK],J,fun _=>by omega,h4,g4,?_,fun u hu=>h7 u (arv (arx hu))⟩;rw [h0,arD];intro i u hu
             grind
            ·refine⟨bb,o+l*ie.size,m-l,(us.drop (l*ie.size)).take ((b-l)*ie.size),by rw [af YK,fL],J,?_,h4,g4,(h6.drop _).take _,fun u hu=>h7 u (arv (arx hu))⟩;intro hf
             grind
    grind
  ·rename_i n e hk;have hu:=tm wU hk;split at h
   ·grind
   ·rename_i s hs;simp only [jl,aO] at hs;obtain⟨ie,mL,rfl⟩:=hs;have iY:=fun w'=>eV (db e ie mL) w';split at h
    ·rename_i id o;split at h
     ·grind
     ·rename_i hmh;split at h
      ·grind
      ·rename_i m G4;split at h
       ·grind
       ·rename_i b B6;split at h
        ·grind
        ·rename_i l od;simp at h;subst h;simp only [VR] at Y;obtain⟨rfl,hid⟩:=Y
         have hm:(mx=none/\m=n/\n<=n)\/(∃x,mx=some x/\pr mx n n=some m/\n<=n):=by
          cases mx with
          |none=>exact .inl ⟨rfl,(BT G4).1,ax _⟩
          |some y=>exact .inr ⟨y,rfl,G4,ax _⟩
         obtain⟨e1,e2⟩:=gK (P:=P) (w:=w) (isSlice:=false) (len:=n) (cap:=n) (m0:=n) (d:=n) (m:=m) qC Aq zS (by cases mx<;>cases hi<;>simp_all) hm B6 ⟨fun _=>mg G4,fun _=>rfl⟩ od;refine⟨.slice (some (if m=l then⟨(E.θ id).1,(E.θ id).2+o,none⟩ else (⟨(E.θ id).1,(E.θ id).2+o,none⟩ : Addr).add (l*ie.size))) (b-l) (m-l),?_,?_⟩
         ·simp [Instr.sliceAt,run_underlying hu,Instr.sureAddr,e1,iY]<;>split<;>rfl
         ·simp only [VR,fJ];refine⟨hid,_,_,rfl,by have:=mg B6; omega,rfl,?_⟩;by_cases YK:m=l
          ·grind
          ·left; rw [af YK,fL,arz]
    grind
  grind
end
section
variable {P:Program} {E:En} {w:World}
theorem Em {h:Array Obj}: ∀{cs:List AV} {us:List Value} {l:List Nat},xy cs=some l->cL E h cs us->us=(l.map UInt8.ofNat).map (fun b=>Value.int .u8 (b.toNat:Int))/\∀b∈l,b<256
 |[],us,l,U,Z=>by
  simp [xy] at U;subst U;rw [jz] at Z
  grind
 |x::cs,us,l,U,Z=>by
  rw [bX] at Z;obtain⟨u,vs,rfl,h3,h4⟩:=Z;unfold xy at U;split at U
  ·rename_i he; simp at he
  ·rename_i b xs he;simp only [List.cons.injEq] at he;obtain⟨rfl,rfl⟩:=he;split at U
   ·rename_i hb;split at U
    ·rename_i l' hl;simp at U;subst U;obtain⟨e1,e2⟩:=Em hl h4;simp only [VR,W.den] at h3;refine⟨?_,?_⟩
     ·rw [h3,e1];simp [arX,arU hb]
     grind
    grind
   grind
  grind
theorem BC [bS] {tt:TT} (db:fj P tt) {H H':Hp} (r:ca E H w) {sT dT:Nat} {x v:AV} {u:Value} (Y:VR E w.heap x u) (h:qU tt sT dT x H=some (v,H')) :
 ∃y w' E',(convert sT dT u).run P w= .ok y w'/\fP E H w E' H' w'/\ca E' H' w'/\VR E' w'.heap v y:=by
 unfold qU at h;split at h
 ·grind
 ·rename_i j hj;obtain⟨sd,hsd,hsk⟩:=tO (db sT j hj);split at h
  ·rename_i i hi;have iI:=db dT i hi;split at h
   ·rename_i k hk;have V:=xR iI hk;split at h
    ·rename_i kk n;simp only [ah,ak] at h;obtain⟨rfl,rfl⟩:=h;simp only [VR] at Y;subst Y;refine⟨.int k (k.wrap n),w,E,?_,fP.refl _ _ _,r,by simp only [VR,W.den,mF]⟩;simp [convert,run_underlying hsd,run_underlying V,Conv.intToInt,W.den]
    ·rename_i kk e jK;simp only [ah,ak] at h;obtain⟨rfl,rfl⟩:=h;simp only [VR] at Y;subst Y;refine⟨.int k (k.wrap (e.den E.ρ)),w,E,?_,fP.refl _ _ _,r,by simp only [VR,W.den]⟩;simp [convert,run_underlying hsd,run_underlying V,Conv.intToInt]
    grind
   ·rename_i hk;have V:=gC iI hk;split at h
    ·rename_i hjk;split at h
     ·rename_i s;simp only [ah,ak] at h;obtain⟨rfl,rfl⟩:=h;have YJ:=Y;simp only [VR] at Y;obtain⟨rfl,_⟩:=Y;refine⟨_,w,E,?_,fP.refl _ _ _,r,YJ⟩;simp [convert,run_underlying (gC (db sT j hj) hjk),run_underlying V]
     grind
    ·rename_i e hjk;have hs:=fT (db sT j hj) hjk;split at h
     ·grind
     ·rename_i ie mL;split at h
      ·rename_i hu8;have he:=xR (db e ie mL) hu8.1;split at h
       ·simp only [ah,ak] at h;obtain⟨rfl,rfl⟩:=h;simp only [VR] at Y;subst Y;refine⟨.string .empty,w,E,?_,fP.refl _ _ _,r,?_⟩
        ·rw [run_convert_bytes_string w sT dT e none 0 0 hs he V];rfl
        ·simp only [VR];exact⟨rfl,ad⟩
       ·rename_i id o len c;split at h
        ·rename_i cs X?;rw [aO] at h;obtain⟨l,hl,he2⟩:=h;simp only [ak] at he2;obtain⟨rfl,rfl⟩:=he2;simp only [VR] at Y;obtain⟨hid,a,cap,rfl,lH,hc⟩:=Y;obtain⟨b,o',us,e1,e2,e3,e4,e5⟩:=xX r (p:=.ptr id o) (u:=.pointer (some ⟨(E.θ id).1,(E.θ id).2+o,none⟩)) (by simp only [VR]; exact⟨trivial,hid⟩) X?;obtain⟨e6,e7⟩:=Em hl e3
         have hlen:len=(l.map UInt8.ofNat).length:=by
          grind
         have ha:a=⟨(E.θ id).1,(E.θ id).2+o,none⟩\/len=0:=by
          cases c with
          |exact c=>
           simp only [fJ] at hc
           grind
          |rest es=>
           simp only [fJ] at hc
           grind
         refine⟨.string (dF l),w,E,?_,fP.refl _ _ _,r,by simp only [VR]; exact⟨trivial,e7⟩⟩;rw [hlen];refine run_convert_bytes_back w sT dT e a cap (l.map UInt8.ofNat) hs he V fun k hk=>?_;rcases ha with ha|ha
         ·subst ha;rw [fL,pZ];simp only [Value.pointer.injEq,ah,Addr.mk.injEq] at e1;obtain⟨e1a,e1b,_⟩:=e1;rw [e1a,e1b];refine e4 k _ ?_
          grind
         ·omega
        grind
       grind
      grind
    grind
   ·rename_i e hk;have V:=fT iI hk;split at h
    ·grind
    ·rename_i ie mL;split at h
     ·rename_i hu8;have he:=xR (db e ie mL) hu8.1;split at h
      ·rename_i s;simp only [ah,ak] at h;obtain⟨rfl,rfl⟩:=h;simp only [VR] at Y;obtain⟨rfl,gy⟩:=Y;have hs:=gC (db sT j hj) hu8.2;have iY:(dF s).size=s.length:=lN s;have XJ:=grownCap_ge w (dF s).size 0 e
       have jt:(bytesRow (dF s) (grownCap w (dF s).size 0 e)).size=grownCap w (dF s).size 0 e:=by have U:(dF s).data.size=s.length:=iY;simp only [bytesRow,Array.size_append,Array.size_map,Array.size_replicate,U];omega
       have hv:cL E w.heap (s.map fun c=>AV.int .u8 (.lit (Int.ofNat c))) ((s.map UInt8.ofNat).map (fun b=>Value.int .u8 (b.toNat:Int))):=by
        clear XJ jt iY
        induction s with
        |nil=>simp [cL]
        |cons b s ih=> have hb:=gy b ad;rw [aA,aA,aA,bX];refine⟨_,_,rfl,?_,ih fun c hc=>gy c (by simp [hc])⟩;simp [VR,W.den,arX,arU hb]
       obtain⟨s1,s2⟩:=jD r (bytesRow (dF s) (grownCap w (dF s).size 0 e)) (bytesRow (dF s) (grownCap w (dF s).size 0 e)).size ((bytesRow (dF s) (grownCap w (dF s).size 0 e)).size+1) e hv
        (by intro u hu; simp only [aR] at hu; obtain⟨b,_,rfl⟩:=hu; rfl)
        (by
         intro k u hu;have hk:=(bg.1 hu).1;simp only [aY] at hk;simp only [bytesRow];rw [atj (by have U:(dF s).data.size=s.length:=iY; simp only [Array.size_map,U]; exact hk)];rw [<- hu]
         simp [dF])
        (by intro o U Z; omega)
        (w':=w.drew.alloc (.cells (bytesRow (dF s) (grownCap w (dF s).size 0 e)) e ((bytesRow (dF s) (grownCap w (dF s).size 0 e)).size,(bytesRow (dF s) (grownCap w (dF s).size 0 e)).size+1))) rfl ⟨rfl,rfl,rfl⟩
       refine⟨_,_,_,run_bytes_of_string w sT dT e (dF s) hs V he,s1,s2,?_⟩;simp only [VR,iY];refine⟨En.iR _ _ _ _,⟨w.heap.size,0,none⟩,_,rfl,by rw [<- iY]; exact XJ,?_⟩;simp only [fJ,En.ext_θ_new,En.ext_κ_new]
       grind
      grind
     grind
   grind
  grind
end
section
variable {P:Program} {E:En} {w:World}
def Dv (d:TypeDesc):TK->Prop
 | .int _=> ∃k,d= .int k
 | .string=>d= .string
 | .bool=>d= .bool
 |_=>False
theorem zR {tt:TT} (db:fj P tt) {t:Nat} {kk:TK} (h:yd tt t=some kk): ∃d,P.underlying t=some d/\Dv d kk:=by
 unfold yd at h;split at h
 ·rename_i i hi;split at h<;>simp only [ah,reduceCtorEq] at h<;>subst h
  ·rename_i k hk; exact⟨_,xR (db t i hi) hk,k,rfl⟩
  ·rename_i hk; exact⟨_,gC (db t i hi) hk,rfl⟩
  ·rename_i hk; exact⟨_,Ny (db t i hi) hk,rfl⟩
 grind
theorem u? {x y:List Nat} (Y: ∀b∈x,b<256) (hy: ∀b∈y,b<256):(dF x == dF y)=iK x y:=by
 have e:(dF x == dF y)=((dF x).data == (dF y).data):=rfl;rw [e,arM,beq_iff_eq,mT];constructor
 ·intro h;have Z:=congrArg (fun b=>b.toList) h;simp only [dF] at Z
  grind [map_inj]
 grind
theorem Ot {h:Array Obj} {pc:List (SB×Bool)} (hp:cD E.ρ pc) {kk:TK} {d:TypeDesc} (V:Dv d kk) {a b:AV} {u u':Value} (ha:VR E h a u) (hb:VR E h b u') {c:Bool} (hc:Va pc kk a b=some c) :
 Instr.sameNow d u u'=some c/\(c=true->∀n,Instr.sameBits (n+1) u' u=true):=by
 unfold Va at hc;split at hc
 ·obtain⟨k,rfl⟩:=V;split at hc
  ·simp only [VR] at ha hb;subst ha hb;split at hc
   ·rename_i hk;subst hk;have hc:=iz hp hc;rw [jQ] at hc;subst hc;refine⟨by simp [Instr.sameNow],fun hh n=>?_⟩;simp at hh;simp [Instr.sameBits,hh]
   grind
  grind
 ·simp only [Dv] at V;subst V;split at hc
  ·simp only [VR] at ha hb;obtain⟨rfl,ha⟩:=ha;obtain⟨rfl,hb⟩:=hb;simp at hc;subst hc;have he:=u? ha hb;refine⟨by simp only [Instr.sameNow,he],fun hh n=>?_⟩;simp only [Instr.sameBits]
   grind [mT]
  ·split at hc
   ·rename_i c0 h0;obtain⟨x,y,rfl,rfl,V⟩:=FU ha hb h0;have hc:=iz hp hc;rw [V] at hc
    have hbe: ∀p q:ByteArray,(p == q)=decide (p=q):=by
     intro p q;rw [arM,decide_eq_true_eq];have e:(p == q)=(p.data == q.data):=rfl;rw [e,beq_iff_eq];constructor
     ·intro h; cases p; cases q; simp only at h; rw [h]
     grind
    refine⟨by simp only [Instr.sameNow,hbe,hc],fun hh n=>?_⟩;simp only [Instr.sameBits,hbe]
    grind
   grind
 ·simp only [Dv] at V;subst V;split at hc
  ·simp only [VR,SB.den] at ha hb;subst ha hb;simp at hc;subst hc;refine⟨by simp [Instr.sameNow],fun hh n=>?_⟩;simp at hh;simp [Instr.sameBits,hh]
  grind
 grind
theorem hU {t:Nat} {kk:TK} {d:TypeDesc} (hu:P.underlying t=some d) (V:Dv d kk) (b:Bool) (v:Value):(Instr.checkKey b 10000 t v).run P w= .ok () w:=by
 have h0:(10000:Nat)=9999+1:=rfl;rw [h0];generalize (9999:Nat)=n;cases kk<;>simp only [Dv] at V
 ·subst V; simp [Instr.checkKey,run_underlying hu]
 ·obtain⟨k,rfl⟩:=V; simp [Instr.checkKey,run_underlying hu]
 ·subst V; simp [Instr.checkKey,run_underlying hu]
theorem rD {h:Array Obj} {pc:List (SB×Bool)} (hp:cD E.ρ pc) {kk:TK} {d:TypeDesc} (V:Dv d kk) {k:AV} {u:Value} (hk:VR E h k u): ∀{es:List (AV×AV×Nat)} {cO:List MapEntry} {i:Nat} {res:Option (Nat×AV)},
 fw E h es cO->Ec pc kk k es i=some res->
 (res=none/\Instr.findNow d u cO i=some none)\/
 (∃j v e,res=some (i+j,v)/\cO[j]?=some e/\VR E h v e.val/\Instr.findNow d u cO i=some (some (i+j,e.val))/\∀n,Instr.sameBits (n+1) e.key u=true)
 |[],cO,i,res,he,hf=>by simp only [fw] at he;subst he;simp [Ec] at hf;exact .inl ⟨hf.symm,by simp [Instr.findNow]⟩
 |(k',v,b)::es,cO,i,res,he,hf=>by
  simp only [fw] at he;obtain⟨e,r,rfl,U,Z,h3,h4⟩:=he;simp only [Ec] at hf;split at hf
  ·rename_i hc;simp at hf;subst hf;obtain⟨g1,g2⟩:=Ot hp V hk U hc;exact .inr ⟨0,v,e,rfl,rfl,Z,by simp [Instr.findNow,g1],g2 rfl⟩
  ·rename_i hc;obtain⟨g1,g2⟩:=Ot hp V hk U hc;rcases rD hp V hk h4 hf with ⟨q1,q2⟩|⟨j,v',e',q1,q2,q3,q4,q5⟩
   ·exact .inl ⟨q1,by simp [Instr.findNow,g1,q2]⟩
   ·refine .inr ⟨j+1,v',e',?_,by simpa using q2,q3,?_,q5⟩
    ·grind
    ·simp only [Instr.findNow,g1,q4]; congr 3; omega
  grind
theorem gN {t:Nat} {d:TypeDesc} (hu:P.underlying t=some d) {u:Value} {cO:List MapEntry} {r:Option (Nat×Value)} (h:Instr.findNow d u cO 0=some r):(Instr.findKey t u cO).run P w= .ok r w:=by simp [Instr.findKey,run_underlying hu,h]
theorem kj {r:Nat} {o:Obj} (h:w.heap[r]?=some o) (hn: ∀c e f,o≠.cells c e f):(getObj r).run P w= .ok o w:=by
 unfold getObj;cases o<;>first |exact absurd rfl (hn _ _ _)|simp only [Sem.run,h]
theorem kc {r:Nat} {o o':Obj} (h:w.heap[r]?=some o) (hn: ∀c e f,o≠.cells c e f):(setObj r o').run P w= .ok () { w with heap:=w.heap.setIfInBounds r o' }:=by
 unfold setObj;cases o<;>first |exact absurd rfl (hn _ _ _)|simp only [Sem.run,h]
theorem jm [bS] {H:Hp} (r:ca E H w) {id:Nat} {o:eL} (hl:H.get id=some o) (ao:eL) (o':Obj)
 (ho: ∀h',h'[(E.θ id).1]?=some o'->lj E w.heap E h'->OR E h' id ao) :
 fP E H w E (H.put id ao) { w with heap:=w.heap.setIfInBounds (E.θ id).1 o' }/\ca E (H.put id ao) { w with heap:=w.heap.setIfInBounds (E.θ id).1 o' }:=by
 have gy:=iH r hl
 have sS: ∀b,b≠(E.θ id).1->({ w with heap:=w.heap.setIfInBounds (E.θ id).1 o' }:World).heap[b]?=w.heap[b]?:=fun b hb=>by
  grind
 refine NU r hl ao ad sS ⟨rfl,rfl,rfl⟩ (ho _ ?_ (pE r hl sS))
 grind
theorem fw.length {h:Array Obj}: ∀{es:List (AV×AV×Nat)} {cO:List MapEntry},fw E h es cO->cO.length=es.length
 |[],cO,he=>by simp only [fw] at he; simp [he]
 |(k,v,b)::es,cO,he=>by simp only [fw] at he;obtain⟨e,r,rfl,_,_,_,h4⟩:=he;simp [h4.length]
theorem fw.set {h:Array Obj} {k v:AV} {uk uv:Value} (hk:VR E h k uk) (hv:VR E h v uv): ∀{es:List (AV×AV×Nat)} {cO:List MapEntry} {i:Nat} {e:MapEntry},fw E h es cO->cO[i]?=some e->
 fw E h (tx k v es i) (cO.set i { e with key:=uk,val:=uv })
 |[],cO,i,e,he,hi=>by simp only [fw] at he; subst he; simp at hi
 |(k',v',b)::es,cO,0,e,he,hi=>by
  simp only [fw] at he;obtain⟨e0,r,rfl,U,Z,h3,h4⟩:=he;simp at hi;subst hi;simp only [tx,asF,fw]
  grind
 |(k',v',b)::es,cO,i+1,e,he,hi=>by simp only [fw] at he;obtain⟨e0,r,rfl,U,Z,h3,h4⟩:=he;simp only [tx,asG,fw];exact⟨e0,_,rfl,U,Z,h3,fw.set hk hv h4 (by simpa using hi)⟩
theorem fw.push {h:Array Obj} {k v:AV} {uk uv:Value} {c c':Nat} (hk:VR E h k uk) (hv:VR E h v uv): ∀{es:List (AV×AV×Nat)} {cO:List MapEntry},fw E h es cO->
 fw E h (es++ [(k,v,c)]) (cO++ [{ key:=uk,val:=uv,born:=c' }])
 |[],cO,he=>by
  simp only [fw] at he;subst he;simp only [au,fw]
  grind
 |(k',v',b)::es,cO,he=>by simp only [fw] at he;obtain⟨e0,r,rfl,U,Z,h3,h4⟩:=he;simp only [aM,fw];exact⟨e0,_,rfl,U,Z,h3,fw.push hk hv h4⟩
theorem fw.erase {h:Array Obj}: ∀{es:List (AV×AV×Nat)} {cO:List MapEntry} {i:Nat},fw E h es cO->fw E h (rG es i) (cO.eraseIdx i)
 |[],cO,i,he=>by simp only [fw] at he; subst he; simp [rG,fw]
 |(k',v',b)::es,cO,0,he=>by
  simp only [fw] at he;obtain⟨e0,r,rfl,U,Z,h3,h4⟩:=he
  grind [rG]
 |(k',v',b)::es,cO,i+1,he=>by simp only [fw] at he;obtain⟨e0,r,rfl,U,Z,h3,h4⟩:=he;simp only [rG,asY,fw];exact⟨e0,_,rfl,U,Z,h3,fw.erase h4⟩
theorem IL {t:Nat} {i:TI} (iI:oq P t i) {z:AV} (h:zeroOf i=some z): ∃u,(zeroValue t).run P w= .ok u w/\VR E w.heap z u:=by
 obtain⟨inf,d,zv,U,Z,h3,h4,h5,h6,h7,h8⟩:=iI.all;have hz:=fH (E:=E) (h:=w.heap) h4;have hr:(zeroValue t).run P w= .ok zv w:=by simp [zeroValue,typeInfo,U,h3]
 refine⟨zv,hr,?_⟩;unfold zeroOf at h;split at h
 ·rename_i ha;simp at h;subst h;rw [ha] at h8;cases zv<;>simp only [LM,reduceCtorEq] at h8;rename_i cs;simp only [VR];exact⟨cs.toList,ad,hz.1⟩
 ·rename_i ha;split at h
  ·rename_i v hv;simp at h;subst h;rw [hv] at hz;obtain⟨u,vs,e1,e2,e3⟩:=bX.1 hz.1;rw [jz] at e3;subst e3;rw [ha] at h8;have:zv=u:=by cases zv<;>simp_all [LM,Value.cells]
   grind
  grind
end
theorem Cv (ρ:Nat->Int) (x:W):(I8 x).den ρ=(dec (x.den ρ)).n:=by
 unfold I8;split
 ·split
  ·simp only [W.den,gT.den,bA,D.n]
  ·simp only [W.den,gT.den]
 ·split
  ·simp only [W.den,bA,D.n]
  ·simp only [W.den,gT.den]
 ·simp only [W.den,gT.den]
theorem mr (ρ:Nat->Int) (x:W):(Cw x).den ρ=enc (.i (x.den ρ)):=by unfold Cw;split<;>simp only [W.den,gT.den]
theorem Bg (a b:D):(D.p a b).V 0=a:=by simp [D.V,D.l]
theorem Bh (a b:D) (j:Nat):(D.p a b).V (j+1)=b.V j:=by simp [D.V,D.l]
theorem uz (ρ:Nat->Int): ∀(j:Nat) (x:W),dec ((ly j x).den ρ)=(dec (x.den ρ)).V j
 |j,.op o a b=>by
  unfold ly
  cases o with
  |cons=>
   cases j with
   |zero=>simp only [W.den,gT.den,bA,Bg]
   |succ j=>simp only [uz ρ j b,W.den,gT.den,bA,Bh]
  |_=>simp only [W.den,gT.den,bA]
 |j,.lit n=>by simp only [ly,W.den,gT.den,bA]
 |j,.dP n=>by simp only [ly,W.den,gT.den,bA]
 |j,.add _ _=>by simp only [ly,W.den,gT.den,bA]
 |j,.sub _ _=>by simp only [ly,W.den,gT.den,bA]
 |j,.mul _ _=>by simp only [ly,W.den,gT.den,bA]
 |j,.quo _ _=>by simp only [ly,W.den,gT.den,bA]
 |j,.rem _ _=>by simp only [ly,W.den,gT.den,bA]
 |j,.wrap _ _=>by simp only [ly,W.den,gT.den,bA]
 |j,.yU _ _=>by simp only [ly,W.den,gT.den,bA]
 |j,.fk _=>by simp only [ly,W.den,gT.den,bA]
 |j,.ap _ _=>by simp only [ly,W.den,gT.den,bA]
theorem cW (ρ:Nat->Int): ∀x:W,(eG x).den ρ=((dec (x.den ρ)).l.length:Int)
 | .op o a b=>by
   unfold eG
   cases o with
   |set=>
    simp only [cW ρ a,W.den,gT.den];split
    ·simp only [bA,bz,ej]
    ·rfl
   |_=>simp only [W.den,gT.den]
 | .lit n=>by simp only [eG,W.den,gT.den]
 | .dP n=>by simp only [eG,W.den,gT.den]
 | .add _ _=>by simp only [eG,W.den,gT.den]
 | .sub _ _=>by simp only [eG,W.den,gT.den]
 | .mul _ _=>by simp only [eG,W.den,gT.den]
 | .quo _ _=>by simp only [eG,W.den,gT.den]
 | .rem _ _=>by simp only [eG,W.den,gT.den]
 | .wrap _ _=>by simp only [eG,W.den,gT.den]
 | .yU _ _=>by simp only [eG,W.den,gT.den]
 | .fk d=>by simp only [eG,W.den,bA]; rfl
 | .ap _ _=>by simp only [eG,W.den,gT.den]
theorem Rd.slice {ro:Nat->Prop} {h:Array Obj} {t:Nat} {d:D} {v:Value} (r:Rd ro h (.sl t) d v): ∃x cap,v= .slice x d.l.length cap/\d.l.length<=cap:=by
 generalize hc:CK.sl t=c at r
 cases r with
 |int k n=>simp at hc
 |bool b=>simp at hc
 |str s=>simp at hc
 |nil t=>exact⟨none,0,rfl,by simp [D.l]⟩
 |xZ t a cap=>exact⟨some a,cap,rfl,by simp [D.l]⟩
 |one t c b o cap ds f hr eM hb U Z=>exact⟨_,cap,by rw [bz],by rw [bz]; exact eM⟩
 |many t cs b o cap rows f hr eM hb hl U Z=>exact⟨some ⟨b,o,none⟩,cap,ad,by simpa using eM⟩
theorem Rd.string {ro:Nat->Prop} {h:Array Obj} {d:D} {v:Value} (r:Rd ro h .str d v): ∃s,v= .string s/\d=vS s:=by
 cases r with
 |str s=>exact⟨s,rfl,rfl⟩
def jZ (ro:Nat->Prop) (h:Array Obj) (c:CK) (d:D) (u:Value):Prop:=match c with
 | .int k=>u= .int k d.n
 | .bool=>u= .bool (!(d.n == 0))
 |c=>Rd ro h c d u
theorem qX {E:En} {h:Array Obj} {c:CK} {x:W} {u:Value}:VR E h (vn c x) u↔jZ E.ro h c (dec (x.den E.ρ)) u:=by cases c<;>simp only [vn,jZ,VR,SB.den,Cv,W.den]
theorem Rd.cell {ro:Nat->Prop} {h:Array Obj} {c:CK} {d:D} {u:Value} (r:Rd ro h c d u):jZ ro h c d u:=by
 cases r with
 |int k n=>simp [jZ,D.n]
 |bool b=>cases b<;>simp [jZ,D.n]
 |str s=>exact .str s
 |nil t=>exact .nil t
 |xZ t a cap=>exact .xZ t a cap
 |one t c b o cap ds f hr hc hb U Z=>exact .one t c b o cap ds f hr hc hb U Z
 |many t cs b o cap rows f hr hc hb hl U Z=>exact .many t cs b o cap rows f hr hc hb hl U Z
theorem jZ.one {ro:Nat->Prop} {h:Array Obj} {c:CK} {d:D} {u:Value} (r:jZ ro h c d u):u.oneCell'=true:=by
 cases c with
 |int k=>simp only [jZ] at r; subst r; rfl
 |bool=>simp only [jZ] at r; subst r; rfl
 |str=>exact Rd.adY r
 |sl t=>exact Rd.adY r
def eD (ro:Nat->Prop) (h:Array Obj):List CK->Nat->D->List Value->Prop
 |[],_,_,us=>us= []
 |c::cs,j,d,us=> ∃u vs,us=u::vs/\jZ ro h c (d.V j) u/\eD ro h cs (j+1) d vs
def yL (ro:Nat->Prop) (h:Array Obj) (r:Row) (d:D) (us:List Value):Prop:=match r with
 | .one c=> ∃u,us= [u]/\jZ ro h c d u
 | .many cs=>eD ro h cs 0 d us
theorem tc {E:En} {h:Array Obj} {x:W}: ∀{cs:List CK} {j:Nat} {us:List Value},cL E h (jX cs j x) us↔eD E.ro h cs j (dec (x.den E.ρ)) us
 |[],j,us=>by simp only [jX,cL,eD]
 |c::cs,j,us=>by
  simp only [jX,bX,eD];constructor
  ·rintro⟨u,vs,rfl,U,Z⟩;exact⟨u,vs,rfl,by rw [qX,uz] at U; exact U,tc.1 Z⟩
  ·rintro⟨u,vs,rfl,U,Z⟩;exact⟨u,vs,rfl,by rw [qX,uz]; exact U,tc.2 Z⟩
theorem gW {E:En} {h:Array Obj} {r:Row} {x:W} {us:List Value}:cL E h (iE r x) us↔yL E.ro h r (dec (x.den E.ρ)) us:=by
 cases r with
 |one c=>
  simp only [iE,bX,jz,yL];constructor
  ·rintro⟨u,vs,rfl,U,rfl⟩
   grind [qX]
  grind [qX]
 |many cs=>simp only [iE,yL,tc]
theorem tY (x:W): ∀(cs:List CK) (j:Nat),(jX cs j x).length=cs.length
 |[],_=>rfl
 |_::cs,j=>by simp [jX,tY x cs]
theorem iM (r:Row) (x:W):(iE r x).length=r.es:=by cases r<;>simp [iE,Row.es,tY]
theorem eD.tI {ro:Nat->Prop} {h:Array Obj} {d:D}: ∀{cs:List CK} {j:Nat} {us:List Value},eD ro h cs j d us->∀u∈us,u.oneCell'=true
 |[],_,_,hh,u,hu=>by simp only [eD] at hh; subst hh; simp at hu
 |c::cs,j,us,hh,u,hu=>by
  simp only [eD] at hh;obtain⟨x,vs,rfl,U,Z⟩:=hh;rcases aH.1 hu with rfl|hu
  ·exact U.one
  ·exact Z.tI u hu
theorem yL.tI {ro:Nat->Prop} {h:Array Obj} {r:Row} {d:D} {us:List Value} (hh:yL ro h r d us): ∀u∈us,u.oneCell'=true:=by
 cases r with
 |one c=> obtain⟨u,rfl,U⟩:=hh;intro x Y;simp at Y;subst Y;exact U.one
 |many cs=>exact eD.tI hh
theorem cL.split {E:En} {h:Array Obj}: ∀{xs ys:List AV} {us:List Value},cL E h (xs++ys) us->∃a b,us=a++b/\cL E h xs a/\cL E h ys b
 |[],ys,us,hh=> ⟨[],us,rfl,by simp only [cL],hh⟩
 |x::xs,ys,us,hh=>by rw [aM,bX] at hh;obtain⟨u,vs,rfl,U,Z⟩:=hh;obtain⟨a,b,rfl,h3,h4⟩:=Z.split;exact⟨u::a,b,rfl,by rw [bX]; exact⟨u,a,rfl,U,h3⟩,h4⟩
theorem lQ {ρ:Nat->Int} {i:Nat} {cs:List AV}: ∀{ov:List (W×List AV)},eE ρ i ov=some cs->∃p∈ov,p.2=cs/\p.1.den ρ=(i:Int)
 |[],h=>by simp [eE] at h
 |(j,c)::l,h=>by
  simp only [eE] at h;split at h
  ·rename_i hj;simp only [ah] at h;exact⟨(j,c),ad,h,hj⟩
  ·obtain⟨p,U,Z⟩:=lQ h
   grind
theorem cX {ρ:Nat->Int} {r:Row} {ov:List (W×List AV)} (ho:wI r ov): ∀(ds:List D) (i:Nat),(bJ ρ r ov ds i).length=ds.length*r.es
 |[],i=>by simp [bJ]
 |d::ds,i=>by
  simp only [bJ,bc,cX ho ds (i+1),aT,arK,asb];split
  ·rename_i cs h;obtain⟨p,U,Z,_⟩:=lQ h;rw [<- Z,ho p U]; omega
  grind [iM]
theorem mN {ρ:Nat->Int} {r:Row} {ov:List (W×List AV)}: ∀(xs ys:List D) (i:Nat),bJ ρ r ov (xs++ys) i=bJ ρ r ov xs i++bJ ρ r ov ys (i+xs.length)
 |[],ys,i=>by simp [bJ]
 |d::ds,ys,i=>by
  simp only [aM,bJ,mN ds ys (i+1),bp,aT]
  grind
section
variable {P:Program} {E:En} {w:World}
theorem AZ [bS] {H:Hp} (r:ca E H w) {id c:Nat} {es:List (AV×AV×Nat)} (hl:H.get id=some (.map es c)): ∃cO c',w.heap[(E.θ id).1]?=some (.map cO c')/\fw E w.heap es cO.toList:=
 (r.live id _ hl).2.1
theorem O9 [bS] {tt:TT} (db:fj P tt) {pc:List (SB×Bool)} (hp:cD E.ρ pc) {H:Hp} (r:ca E H w) {t:Nat} {m k v:AV} {um uk:Value} {ok:Bool} (hm:VR E w.heap m um) (hk:VR E w.heap k uk) (h:Ho tt pc t m k ok H=some v) :
 ∃x,(Instr.lookup t um uk ok).run P w= .ok x w/\VR E w.heap v x:=by
 unfold Ho at h;split at h
 ·rename_i ti iI;split at h
  ·rename_i kt et GX;have hu:=Ax (db t ti iI) GX;split at h
   ·grind
   ·rename_i kk zT;obtain⟨d,yj,kR⟩:=zR db zT;split at h
    ·grind
    ·rename_i ie mL
     have key: ∀(es:List (AV×AV×Nat)) (cO:Array MapEntry),fw E w.heap es cO.toList->
      (match Ec pc kk k es 0 with
       |none=>none
       |some (some (_,v))=>some (if ok then .tuple [v,.bool (.lit true)] else v)
       |some none=>match zeroOf ie with
        |none=>none
        |some z=>some (if ok then .tuple [z,.bool (.lit false)] else z))=some v->
      ∃(o:Option (Nat×Value)) (x:Value),(Instr.findKey kt uk cO.toList).run P w= .ok o w/\
       (match o with
        |some (_,y)=>x=(if ok then .tuple #[y,.bool true] else y)
        |none=> ∃z,(zeroValue et).run P w= .ok z w/\x=(if ok then .tuple #[z,.bool false] else z))/\VR E w.heap v x:=by
      intro es cO he hh;split at hh
      ·simp at hh
      ·rename_i j v' hf;simp at hh;subst hh;rcases rD hp kR hk he hf with ⟨q1,_⟩|⟨jj,v2,e,q1,q2,q3,q4,q5⟩
       ·simp at q1
       ·simp only [ah,ak] at q1;obtain⟨rfl,rfl⟩:=q1;refine⟨_,_,gN yj q4,rfl,?_⟩;cases ok
        ·exact q3
        ·simp only [if_true,VR,cL];exact⟨[e.val,.bool true],rfl,_,_,rfl,q3,_,_,rfl,by simp [SB.den],rfl⟩
      ·rename_i hf;split at hh
       ·simp at hh
       ·rename_i z hz;simp at hh;subst hh;obtain⟨u,e1,e2⟩:=IL (P:=P) (w:=w) (E:=E) (db et ie mL) hz;rcases rD hp kR hk he hf with ⟨_,q2⟩|⟨jj,v2,e,q1,_⟩
        ·refine⟨none,_,gN yj q2,⟨u,e1,rfl⟩,?_⟩;cases ok
         ·exact e2
         ·simp only [if_true,VR,cL];exact⟨[u,.bool false],rfl,_,_,rfl,e2,_,_,rfl,by simp [SB.den],rfl⟩
        ·simp at q1
     split at h
     ·grind
     ·rename_i es me;unfold Lx at me;split at me
      ·simp at me;subst me;simp only [VR] at hm;subst hm;obtain⟨o,x,e1,e2,e3⟩:=key [] #[] (by simp [fw]) h;refine⟨x,?_,e3⟩
       cases o with
       |none=> obtain⟨z,e4,rfl⟩:=e2;cases ok<;>simp [Instr.lookup,run_underlying hu,hU yj kR,e1,e4]
       |some p=> obtain⟨j,y⟩:=p;simp only at e2;subst e2;cases ok<;>simp [Instr.lookup,run_underlying hu,hU yj kR,e1]
      ·rename_i id;split at me
       ·rename_i es' c hl;simp at me;subst me;simp only [VR] at hm;obtain⟨rfl,hid⟩:=hm;obtain⟨cO,c',g1,g2⟩:=AZ r hl;have hg:=kj (P:=P) g1 ad;obtain⟨o,x,e1,e2,e3⟩:=key es' cO g2 h;refine⟨x,?_,e3⟩
        cases o with
        |none=> obtain⟨z,e4,rfl⟩:=e2;cases ok<;>simp [Instr.lookup,run_underlying hu,hg,hU yj kR,e1,e4]
        |some p=> obtain⟨j,y⟩:=p;simp only at e2;subst e2;cases ok<;>simp [Instr.lookup,run_underlying hu,hg,hU yj kR,e1]
       grind
      grind
  grind
 grind
theorem Gy {α:Type} (cO:Array α) (i:Nat) (e:α) (f:α->α) (h:cO.toList[i]?=some e):(cO.modify i f).toList=cO.toList.set i (f e):=by
 apply asp;intro j
 grind
theorem xn [bS] {tt:TT} (db:fj P tt) {pc:List (SB×Bool)} (hp:cD E.ρ pc) {H H':Hp} (r:ca E H w) {t:Nat} {m k v:AV} {um uk uv:Value} (hm:VR E w.heap m um) (hk:VR E w.heap k uk) (hv:VR E w.heap v uv) (h:sF tt pc t m k v H=some H') :
 ∃w',(Instr.mapUpdate t um uk uv).run P w= .ok () w'/\fP E H w E H' w'/\ca E H' w':=by
 unfold sF at h;split at h
 ·rename_i ti iI;split at h
  ·rename_i kt et GX;have hu:=Ax (db t ti iI) GX;split at h
   ·grind
   ·rename_i kk zT;obtain⟨d,yj,kR⟩:=zR db zT;split at h
    ·rename_i id;split at h
     ·rename_i es c hl;simp only [VR] at hm;obtain⟨rfl,hid⟩:=hm;obtain⟨cO,c',g1,g2⟩:=AZ r hl;have hg:=kj (P:=P) g1 ad;split at h
      ·grind
      ·rename_i i v' hf;simp at h;subst h;rcases rD hp kR hk g2 hf with ⟨q1,_⟩|⟨jj,v2,e,q1,q2,q3,q4,q5⟩
       ·grind
       ·simp only [ah,ak,aK] at q1;obtain⟨rfl,rfl⟩:=q1;simp only [aK] at q4
        have hkt:(Instr.keyThatStays (((cO[i]?).map (·.key)).getD uk) uk).run P w= .ok uk w:=by rw [ary] at q2;simp only [q2,arB,ay,Instr.keyThatStays];simp_all
        refine⟨_,?_,jm r hl (.map (tx k v es i) c) (.map (cO.modify i fun e=>{ e with key:=uk,val:=uv }) c') ?_⟩
        ·simp [Instr.mapUpdate,run_underlying hu,hg,hU yj kR,gN yj q4,hkt,kc (P:=P) g1]
        ·intro h' hh kp;simp only [OR]
         grind [Gy,fw.set,VR.dv,fw.dv]
      ·rename_i hf;simp at h;subst h;rcases rD hp kR hk g2 hf with ⟨_,q2⟩|⟨jj,v2,e,q1,_⟩
       ·refine⟨_,?_,jm r hl (.map (es++ [(k,v,c)]) (c+1)) (.map (cO.push { key:=uk,val:=uv,born:=c' }) (c'+1)) ?_⟩
        ·simp [Instr.mapUpdate,run_underlying hu,hg,hU yj kR,gN yj q2,kc (P:=P) g1]
        ·intro h' hh kp;simp only [OR]
         grind [fw.push,VR.dv,fw.dv]
       grind
     grind
    grind
  grind
 grind
theorem Pa [bS] {tt:TT} (db:fj P tt) {pc:List (SB×Bool)} (hp:cD E.ρ pc) {H H':Hp} (r:ca E H w) {t:Nat} {ts:Nat} {m k:AV} {um uk:Value} (hm:VR E w.heap m um) (hk:VR E w.heap k uk) (h:Hs tt pc t m k H=some H') (ty:Nat) :
 ∃w',(Builtin.delete_ #[t,ts] ty #[um,uk]).run P w= .ok (.tuple #[]) w'/\fP E H w E H' w'/\ca E H' w':=by
 unfold Hs at h;split at h
 ·rename_i ti iI;split at h
  ·rename_i kt et GX;have hu:=Ax (db t ti iI) GX;split at h
   ·grind
   ·rename_i kk zT;obtain⟨d,yj,kR⟩:=zR db zT;split at h
    ·simp at h;subst h;simp only [VR] at hm;subst hm;exact⟨w,by simp [Builtin.delete_,run_underlying hu,hU yj kR],fP.refl _ _ _,r⟩
    ·rename_i id;split at h
     ·rename_i es c hl;simp only [VR] at hm;obtain⟨rfl,hid⟩:=hm;obtain⟨cO,c',g1,g2⟩:=AZ r hl;have hg:=kj (P:=P) g1 ad;split at h
      ·grind
      ·rename_i i v' hf;simp at h;subst h;rcases rD hp kR hk g2 hf with ⟨q1,_⟩|⟨jj,v2,e,q1,q2,q3,q4,q5⟩
       ·grind
       ·simp only [ah,ak,aK] at q1;obtain⟨rfl,rfl⟩:=q1;simp only [aK] at q4;refine⟨_,?_,jm r hl (.map (rG es i) c) (.map (cO.eraseIdxIfInBounds i) c') ?_⟩
        ·simp [Builtin.delete_,run_underlying hu,hg,hU yj kR,gN yj q4,kc (P:=P) g1]
        ·intro h' hh kp;simp only [OR];refine⟨_,_,hh,?_⟩;have di:i<cO.size:=by have:=(bg.1 q2).1; simpa using this
         have:(cO.eraseIdxIfInBounds i).toList=cO.toList.eraseIdx i:=by simp_all
         grind [fw.erase,fw.dv]
      ·rename_i hf;simp at h;subst h;rcases rD hp kR hk g2 hf with ⟨_,q2⟩|⟨jj,v2,e,q1,_⟩
       ·refine⟨_,?_,jm r hl (.map es c) (.map cO c') ?_⟩
        ·simp [Builtin.delete_,run_underlying hu,hg,hU yj kR,gN yj q2,kc (P:=P) g1]
        ·intro h' hh kp;simp only [OR]
         grind [fw.dv]
       grind
     grind
    grind
  grind
 grind
theorem aan [bS] {tt:TT} (db:fj P tt) {H:Hp} (r:ca E H w) {t ty:Nat} {x v:AV} {u:Value} (Y:VR E w.heap x u) (h:aao tt t x H=some v) :
 ∃y,(Builtin.len_ #[t] ty #[u]).run P w= .ok y w/\VR E w.heap v y:=by
 unfold aao at h;simp only at h;split at h
 ·rename_i ti iI;have wU:=db t ti iI;split at h
  ·rename_i hk;split at h
   ·rename_i s;simp at h;subst h;simp only [VR] at Y;obtain⟨rfl,_⟩:=Y;exact⟨_,by simp [Builtin.len_,run_underlying (gC wU hk)]; rfl,by simp [VR,W.den,goInt,lN]⟩
   ·simp at h; subst h; simp only [VR] at Y;obtain⟨s,rfl,hs⟩:=Y.string;exact⟨_,by simp [Builtin.len_,run_underlying (gC wU hk)]; rfl,by simp only [VR,cW,hs,acj]; rfl⟩
   grind
  ·rename_i e hk;have hu:=fT wU hk;split at h
   ·simp at h; subst h; simp only [VR] at Y; subst Y;exact⟨_,by simp [Builtin.len_,run_underlying hu]; rfl,by simp [VR,W.den,goInt]⟩
   ·simp at h; subst h; simp only [VR] at Y; obtain⟨x,rfl⟩:=Y;exact⟨_,by simp [Builtin.len_,run_underlying hu]; rfl,by simp [VR,W.den,goInt]⟩
   ·simp at h; subst h; simp only [VR] at Y; obtain⟨⟨x,rfl⟩,_⟩:=Y;exact⟨_,by simp [Builtin.len_,run_underlying hu]; rfl,by simp [VR,W.den,goInt]⟩
   ·simp at h; subst h; simp only [VR] at Y; obtain⟨_,a,cap,rfl,_⟩:=Y;exact⟨_,by simp [Builtin.len_,run_underlying hu]; rfl,by simp [VR,W.den,goInt]⟩
   ·simp at h; subst h; simp only [VR] at Y; obtain⟨b,o,cap,us,rfl,_⟩:=Y;exact⟨_,by simp [Builtin.len_,run_underlying hu]; rfl,by simp [VR,W.den,goInt]⟩
   ·simp at h; subst h; simp only [VR] at Y; obtain⟨x,cap,rfl,_⟩:=Y.slice;exact⟨_,by simp [Builtin.len_,run_underlying hu]; rfl,by simp [VR,cW,goInt]⟩
   ·simp at h; subst h; simp only [VR] at Y; obtain⟨_,k,a,cap,h0,rfl,_⟩:=Y;exact⟨_,by simp [Builtin.len_,run_underlying hu]; rfl,by simp [VR,h0,goInt]⟩
   ·simp at h; subst h; simp only [VR] at Y; obtain⟨_,l,k,a,cap,_,h0,rfl,_⟩:=Y;exact⟨_,by simp [Builtin.len_,run_underlying hu]; rfl,by simp [VR,h0,goInt]⟩
   ·simp at h; subst h; simp only [VR] at Y;rcases Y with ⟨⟨x,cap,rfl⟩,h0⟩|⟨b,o,n,cap,rfl,_,h0,_⟩
    ·exact⟨_,by simp [Builtin.len_,run_underlying hu]; rfl,by simp [VR,W.den,goInt,h0]⟩
    ·exact⟨_,by simp [Builtin.len_,run_underlying hu]; rfl,by simp [VR,W.den,goInt,h0]⟩
   grind
  ·rename_i k e hk;have hu:=tm wU hk;simp at h;subst h;exact⟨_,by simp [Builtin.len_,run_underlying hu]; rfl,by simp [VR,W.den,goInt]⟩
  ·rename_i kt et hk;have hu:=Ax wU hk;split at h
   ·simp at h; subst h; simp only [VR] at Y; subst Y;exact⟨_,by simp [Builtin.len_,run_underlying hu]; rfl,by simp [VR,W.den,goInt]⟩
   ·rename_i id;split at h
    ·rename_i es c hl;simp at h;subst h;simp only [VR] at Y;obtain⟨rfl,hid⟩:=Y;obtain⟨cO,c',g1,g2⟩:=AZ r hl;have hg:=kj (P:=P) g1 ad;have hlen:=g2.length;simp only [bn] at hlen;exact⟨_,by simp [Builtin.len_,run_underlying hu,hg]; rfl,by simp [VR,W.den,goInt,hlen]⟩
    ·rename_i e t' hl;simp at h;subst h;simp only [VR] at Y;obtain⟨rfl,hid⟩:=Y;obtain⟨_,ho,_⟩:=r.live _ _ hl;simp only [OR] at ho;obtain⟨cO,c',g1,g2⟩:=ho;have hg:=kj (P:=P) g1 ad;have hlen:=g2.length;simp only [bn] at hlen;exact⟨_,by simp [Builtin.len_,run_underlying hu,hg]; rfl,by simp [VR,cW,goInt,hlen]⟩
    grind
   grind
  grind
 grind
end
section
variable {P:Program} {E:En} {w:World}
structure Src (P:Program) (E:En) (w:World) (s m:Nat) (news:List AV) (u:Value) (us:Array Value):Prop where
 len: ∀w2,(Builtin.lenOf u).run P w2= .ok m w2
 first: ∀w2:World,w2.heap=w.heap->(Builtin.firstCells s m u).run P w2= .ok us w2
 YB:cL E w.heap news us.toList
 size:us.size=m*s
 tI: ∀x∈us.toList,x.oneCell'=true
theorem gJ.U0 {b o n:Nat} {us:List Value} (hn:us.length=n) (h:gJ w.heap b o us) (w2:World) (hw:w2.heap=w.heap):(loadCells ⟨b,o,none⟩ n).run P w2= .ok us.toArray w2:=
 tC hn (by rw [hw]; exact h)
theorem uw {id off len cap:Nat} {a:Addr} {c:PV} (hc:fJ E id off len a cap c):a=⟨(E.θ id).1,(E.θ id).2+off,none⟩\/cap=0:=by
 cases c with
 |exact c=>
  simp only [fJ] at hc
  grind
 |rest es=>
  simp only [fJ] at hc
  grind
theorem wx [bS] {H:Hp} (r:ca E H w) {id o len cap s:Nat} {a:Addr} {c:PV} {l:List AV} (hid:E.dm id) (hc:fJ E id o len a cap c) (hlen:len<=cap) (h:nH H (.ptr id o) (len*s)=some l) :
 ∃us:List Value,us.length=len*s/\cL E w.heap l us/\(∀u∈us,u.oneCell'=true)/\∀w2:World,w2.heap=w.heap->(loadCells a (len*s)).run P w2= .ok us.toArray w2:=by
 obtain⟨b,o',us,e1,e2,e3,e4,e5⟩:=xX r (p:=.ptr id o) (u:=.pointer (some ⟨(E.θ id).1,(E.θ id).2+o,none⟩)) (by simp only [VR]; exact⟨trivial,hid⟩) h;simp only [Value.pointer.injEq,ah,Addr.mk.injEq] at e1;obtain⟨e1a,e1b,_⟩:=e1;refine⟨us,e2,e3,e5,fun w2 hw=>?_⟩;rcases uw hc with ha|ha
 ·rw [ha,e1a,e1b];exact e4.U0 e2 w2 hw
 ·obtain rfl:len=0:=J
  rw [arD] at e2 ⊢;rw [arL e2];rfl
theorem sq [bS] {H:Hp} (r:ca E H w) {s m:Nat} {y:AV} {u:Value} {news:List AV} (hy:VR E w.heap y u) (h:tu s y H=some (m,news)): ∃us,Src P E w s m news u us:=by
 unfold tu at h;split at h
 ·simp only [ah,ak] at h;obtain⟨rfl,rfl⟩:=h;simp only [VR] at hy;subst hy;exact⟨#[],fun _=>rfl,fun w2 _=>by simp [Builtin.firstCells],by simp [cL],ad,ad⟩
 ·rename_i id o len c;rw [aO] at h;obtain⟨l,U,Z⟩:=h;simp only [ak] at Z;obtain⟨rfl,rfl⟩:=Z;simp only [VR] at hy;obtain⟨hid,a,cap,rfl,hlen,hc⟩:=hy;obtain⟨us,e1,e2,e3,e4⟩:=wx (P:=P) r hid hc hlen U;exact⟨us.toArray,fun _=>rfl,fun w2 hw=>by simp only [Builtin.firstCells]; exact e4 w2 hw,by simpa using e2,by simpa using e1,by simpa using e3⟩
 ·rename_i cs n full;rw [aO] at h;obtain⟨l,U,Z⟩:=h;simp only [ak] at Z;obtain⟨rfl,rfl⟩:=Z;simp only [VR] at hy;obtain⟨b,o,cap,us,rfl,hn,hf,h4,h5,h6,h7⟩:=hy;obtain⟨g1,g2⟩:=h5.jk U;have hl:=h5.length;have htl:(us.take (n*s)).length=n*s:=by rw [a8]; omega
  exact⟨(us.take (n*s)).toArray,fun _=>rfl,fun w2 hw=>by simp only [Builtin.firstCells]; exact (h6.take (n*s)).U0 htl w2 hw,by simpa using g1,by simpa using htl,
   fun x Y=>h7 x (arx (by simpa using Y))⟩
 ·rename_i b;split at h
  ·rename_i hs;simp only [ah,ak] at h;obtain⟨rfl,rfl⟩:=h;simp only [VR] at hy;obtain⟨rfl,gy⟩:=hy;have iY:(dF b).size=b.length:=lN b;have hex:(dF b).extract 0 b.length=dF b:=by rw [ur]; simp
   refine⟨(dF b).data.map fun c=>Value.int .u8 (c.toNat:Int),fun w2=>by simp [Builtin.lenOf,iY],fun w2 _=>by simp [Builtin.firstCells,hex],?_,?_,?_⟩
   ·have:((dF b).data.map fun c=>Value.int .u8 (c.toNat:Int)).toList=(b.map UInt8.ofNat).map fun c=>Value.int .u8 (c.toNat:Int):=by simp [dF]
    rw [this];clear hex iY this
    induction b with
    |nil=>simp [cL]
    |cons x b ih=> have Y:=gy x ad;rw [aA,aA,aA,bX];refine⟨_,_,rfl,?_,ih fun c hc=>gy c (by simp [hc])⟩;simp [VR,W.den,arX,arU Y]
   ·simp_all
   ·intro x Y;simp only [asZ,aR] at Y;obtain⟨c,_,rfl⟩:=Y;rfl
  grind
 grind
theorem lM {t t2 ty e s m n cap:Nat} {d2:TypeDesc} {inf:TypeInfo} {a:Option Addr} {u2:Value} {us:Array Value} {news:List AV} {w':World} (ht:P.underlying t=some (.slice e)) (An:P.underlying t2=some d2)
 (kR: ∀k,d2≠.int k) (hi:P.info? e=some inf) (hs:inf.size=s) (src:Src P E w s m news u2 us) (jG:n+m<=cap)
 (Fg:match a with |some a=>(storeCells (a.add (n*s)) us.toList).run P w= .ok () w'|none=>w'=w) :
 (Builtin.append_ #[t,t2] ty #[.slice a n cap,u2]).run P w= .ok (.slice a (n+m) cap) w':=by
 have hf:=src.first w rfl;have hl:=src.len w
 cases a with
 |none=> simp only at Fg;subst Fg;simp [Builtin.append_,run_underlying ht,run_underlying An,sizeOf,typeInfo,hi,hs,hl,jG,hf]
 |some a=> simp only at Fg;simp [Builtin.append_,run_underlying ht,run_underlying An,sizeOf,typeInfo,hi,hs,hl,jG,hf,Fg]
theorem PF {t t2 ty e s m n cap:Nat} {d2:TypeDesc} {inf:TypeInfo} {z u u2:Value} {us olds:Array Value} {news:List AV} (ht:P.underlying t=some (.slice e)) (An:P.underlying t2=some d2)
 (kR: ∀k,d2≠.int k) (hi:P.info? e=some inf) (hs:inf.size=s) (hz:inf.zero=some z) (hb:inf.bytes≠0) (src:Src P E w s m news u2 us) (jG:cap<n+m) (hbound:(n+m)*inf.bytes<=140737488355328)
 (a:Option Addr) (hu:u= .slice a n cap) (hold: ∀w2:World,w2.heap=w.heap->(Builtin.firstCells s n u).run P w2= .ok olds w2) :
 (Builtin.append_ #[t,t2] ty #[u,u2]).run P w= .ok (.slice (some ⟨w.heap.size,0,none⟩) (n+m) (grownCap w (n+m) cap e))
  (w.drew.alloc (.cells (olds++us++Builtin.zeroCells z.cells (grownCap w (n+m) cap e-(n+m))) e)):=by
 subst hu;have hf:=src.first w.drew rfl;have ho:=hold w.drew rfl;have hl:=src.len w;have hn: ¬(n+m<=cap):=J
 have h48: ¬(281474976710656<Builtin.nextslicecap (n+m) cap*inf.bytes):=by
  have U:Builtin.nextslicecap (n+m) cap*inf.bytes<=2*(n+m)*inf.bytes:=ar6 _ (nextslicecap_le jG)
  grind
 have aqC: ¬(2 ^ 48<Builtin.nextslicecap (n+m) cap*inf.bytes):=h48;simp [Builtin.append_,run_underlying ht,run_underlying An,sizeOf,typeInfo,zeroValue,hi,hs,hz,hl,hn,hb,aqC,Question.forced,ho,hf,newRow,grownCap]
theorem qT [bS] {t t2 ty:Nat} {H H':Hp} (r:ca E H w) {ie:TI} {e n m cap:Nat} {cs news old:List AV} {v:AV} {d2:TypeDesc} {u2:Value} {us olds:Array Value} (wW:oq P e ie)
 (ht:P.underlying t=some (.slice e)) (An:P.underlying t2=some d2) (kR: ∀k,d2≠.int k) (pj:ie.bytes≠0) (yh:ie.zero.length=ie.size)
 (src:Src P E w ie.size m news u2 us) (jG:cap<n+m) (a:Option Addr) (X?:cs=old++news)
 (P5:cL E w.heap old olds.toList) (XG: ∀x∈olds.toList,x.oneCell'=true) (hos:olds.size=n*ie.size)
 (hold: ∀w2:World,w2.heap=w.heap->(Builtin.firstCells ie.size n (.slice a n cap)).run P w2= .ok olds w2) (h:oH ie e n m cs H=some (v,H')) :
 ∃x w' E',(Builtin.append_ #[t,t2] ty #[.slice a n cap,u2]).run P w= .ok x w'/\fP E H w E' H' w'/\ca E' H' w'/\VR E' w'.heap v x:=by
 subst X?;unfold oH at h;split at h
 ·rename_i hbound;simp only [ah,ak] at h;obtain⟨rfl,rfl⟩:=h;obtain⟨inf,d,z,U,Z,h3,h4,h5,h6,h7,h8⟩:=wW.all;have hz:=fH (E:=E) (h:=w.heap) h4;have hzs:z.cells.size=ie.size:=by have:=hz.1.length; simp only [bn] at this; omega
  have XJ:=grownCap_ge w (n+m) cap e;have Sj:=src.size
  obtain⟨s1,s2⟩:=jD r (olds++us++Builtin.zeroCells z.cells (grownCap w (n+m) cap e-(n+m))) 0 0 e (P5.append src.YB)
   (by intro x Y; rcases arG.1 Y with Y|Y; exact XG x Y; exact src.tI x Y)
   (by
    intro i x Y;have hi:=(bg.1 Y).1;rw [atj (by simpa using hi)];rw [<- ary,Array.toList_append]
    exact Y)
   J (w':=w.drew.alloc (.cells (olds++us++Builtin.zeroCells z.cells (grownCap w (n+m) cap e-(n+m))) e)) rfl ⟨rfl,rfl,rfl⟩
  refine⟨_,_,_,PF (s:=ie.size) ht An kR U h5 h3 (by rw [h6]; exact pj) src jG (by rw [h6]; exact hbound) a rfl hold,s1,s2,?_⟩;simp only [VR];refine⟨En.iR _ _ _ _,_,_,rfl,XJ,?_⟩;simp only [fJ,En.ext_θ_new,En.ext_κ_new];left;refine⟨trivial,?_⟩;simp only [Array.size_append,size_zeroCells,hos,Sj,hzs,<- arK]
  grind
 grind
set_option maxHeartbeats 800000 in
theorem xD [bS] {t t2 ty:Nat} {H H':Hp} (r:ca E H w) {ie:TI} {e m:Nat} {news:List AV} {x v:AV} {d2:TypeDesc} {u u2:Value} {us:Array Value} (wW:oq P e ie)
 (ht:P.underlying t=some (.slice e)) (An:P.underlying t2=some d2) (kR: ∀k,d2≠.int k) (yX:ie.size≠0) (pj:ie.bytes≠0) (yh:ie.zero.length=ie.size)
 (src:Src P E w ie.size m news u2 us) (Y:VR E w.heap x u) (h:rQ ie e m news x H=some (v,H')) :
 ∃y w' E',(Builtin.append_ #[t,t2] ty #[u,u2]).run P w= .ok y w'/\fP E H w E' H' w'/\ca E' H' w'/\VR E' w'.heap v y:=by
 obtain⟨inf,d,z,U,Z,h3,h4,h5,h6,h7,h8⟩:=wW.all;have nz:0<ie.size:=J
 have hnl:=src.YB.length;have LO:=src.size;simp only [bn] at hnl;unfold rQ at h;split at h
 ·
  simp only [VR] at Y;subst Y;split at h
  ·rename_i hm;subst hm;simp only [ah,ak] at h;obtain⟨rfl,rfl⟩:=h;exact⟨_,w,E,lM (s:=ie.size) ht An kR U h5 src (ax _) (by simp only),fP.refl _ _ _,r,by simp [VR]⟩
  ·rename_i hm;exact qT (cap:=0) r wW ht An kR pj yh src J none (old:=[]) (olds:=#[]) ad (by simp [cL]) ad ad (fun w2 _=>by simp [Builtin.firstCells]) h
 ·
  rename_i id o len c;have hx0:=Y;simp only [VR] at Y;obtain⟨hid,a,cap,rfl,hlen,hc⟩:=Y;have lH:cap=c:=by simp only [fJ] at hc; exact hc.1
  subst lH;split at h
  ·rename_i jG;split at h
   ·rename_i cs e' hl;split at h
    ·rename_i mM hs;simp only [ah,ak] at h;obtain⟨rfl,rfl⟩:=h;obtain⟨w',g1,g2,g3⟩:=mP (P:=P) r hl hs src.YB src.tI
     have Fg:(storeCells (a.add (len*ie.size)) us.toList).run P w= .ok () w':=by
      rcases uw hc with ha|ha
      ·rw [ha,fL,arz]; exact g1
      ·obtain rfl:m=0:=J
       have pJ:us.toList= []:=arL (by rw [bn,LO,arD]);rw [pJ] at g1 ⊢;exact g1
     refine⟨_,w',E,lM (s:=ie.size) ht An kR U h5 src jG Fg,g2,g3,?_⟩;simp only [VR];refine⟨hid,a,cap,rfl,jG,?_⟩;simp only [fJ] at hc ⊢;exact hc
    ·simp at h
   ·simp at h
  ·rename_i jG;split at h
   ·rename_i old hold;obtain⟨ols,f1,f2,f3,f4⟩:=wx (P:=P) r hid hc hlen hold
    exact qT (cap:=cap) r wW ht An kR pj yh src J (some a) (old:=old) (olds:=ols.toArray) rfl (by simpa using f2) (by simpa using f3) (by simpa using f1)
     (fun w2 hw=>by simp only [Builtin.firstCells]; exact f4 w2 hw) h
   ·simp at h
 ·
  rename_i id o len es;split at h
  ·rename_i me;subst me;simp only [VR] at Y;obtain⟨hid,a,cap,rfl,hlen,hc⟩:=Y;split at h
   ·rename_i cs e' hl;obtain⟨arr,lo,hi,cus,b1,b2,b3,b4,b5,b6,b7⟩:=(r.live id _ hl).2.1;split at h
    ·rename_i hle;split at h
     ·rename_i mM hs;simp only [ah,ak] at h;obtain⟨rfl,rfl⟩:=h;obtain⟨w',g1,g2,g3⟩:=mP (P:=P) r hl hs src.YB src.tI
      have jG:len+m<=cap:=by
       simp only [fJ] at hc;rcases hc with ⟨_,hc⟩|⟨rfl,rfl,hc⟩
       ·have:(len+m)*ie.size<=cap*ie.size:=J
        exact as0 this nz
       ·have:(0+m)*ie.size=0:=J
        rcases Nat.mul_eq_zero.1 this with hh|hh<;>omega
      have Fg:(storeCells (a.add (len*ie.size)) us.toList).run P w= .ok () w':=by
       rcases uw hc with ha|ha
       ·rw [ha,fL,arz]; exact g1
       ·obtain rfl:m=0:=J
        have pJ:us.toList= []:=arL (by rw [bn,LO,arD]);rw [pJ] at g1 ⊢;exact g1
      refine⟨_,w',E,lM (s:=ie.size) ht An kR U h5 src jG Fg,g2,g3,?_⟩;simp only [VR];refine⟨hid,a,cap,rfl,jG,?_⟩;simp only [fJ] at hc ⊢;rcases hc with hc|⟨rfl,rfl,hc⟩
      ·exact .inl hc
      ·exact .inr ⟨rfl,J,hc⟩
     ·simp at h
    ·rename_i aqc;split at h
     ·rename_i X';obtain⟨X',rfl⟩:=X';split at h
      ·rename_i old V;obtain⟨d1,d2',d3⟩:=b2.fE V;have B5:=b2.length
       have hm0:m≠0:=by intro hm;subst hm;rw [arA] at aqc;omega
       by_cases jG:len+m<=cap
       ·
        have akm:a=⟨(E.θ id).1,(E.θ id).2+o,none⟩/\o+cap*ie.size=E.κ id:=by
         simp only [fJ] at hc;rcases hc with hc|hc
         ·exact hc
         ·omega
        obtain⟨rfl,arf⟩:=akm;unfold oH at h;split at h
        ·simp only [ah,ak] at h;obtain⟨rfl,rfl⟩:=h;have YK:len*ie.size+m*ie.size<=cap*ie.size:=by rw [<- arK]; exact ar6 _ jG
         have hul:us.toList.length=m*ie.size:=by simpa using LO
         obtain⟨w',MY,e1,e2,e3,e4,e5,e6,e7⟩:=nF (P:=P) (E.θ id).1 ((E.θ id).2+(o+len*ie.size)) e' lo hi us.toList 0 arr w b1 b6 J src.tI
         have Fg:(storeCells ((⟨(E.θ id).1,(E.θ id).2+o,none⟩ : Addr).add (len*ie.size)) us.toList).run P w= .ok () w':=by rw [fL,arz]; exact e1
         have kp:lj E w.heap (E.ext H.fresh ((E.θ id).1,(E.θ id).2+o) (cap*ie.size)) w'.heap:=
          ⟨rfl,fun _ hh=> .inr hh,fun _ hh=>En.ext_θ E _ _ _ (r.vJ hh),fun _ hh=>En.ext_κ E _ _ _ (r.vJ hh),fun _ hh=>hh,(pE r hl e4).F4⟩
         have D4:=RA r hl (.cells (old++news) e') o (cap*ie.size) e3 e4 e2 (by
          simp only [OR,En.ext_θ_new,En.ext_κ_new];refine⟨MY,lo,hi,cus.drop o++us.toList,e5,cL.dv kp _ _ (d1.append src.YB),?_,?_,J,by rw [e6]; exact b6,?_⟩
          ·intro i y hy;rw [e7];have hdl:(cus.drop o).length=len*ie.size:=by rw [bo]; omega
           rw [asW] at hy;split at hy
           ·rename_i hi';rw [af J];rw [asl] at hy;rw [arz];exact b3 _ _ hy
           ·rename_i hi';have LP:=(bg.1 hy).1;rw [ag J];rw [show (E.θ id).2+o+i-((E.θ id).2+(o+len*ie.size)+0)=i-(cus.drop o).length from by omega];exact hy
          ·rw [bc,d3]; omega
          ·intro y hy;rcases arG.1 hy with hy|hy
           ·exact b7 y (arv hy)
           ·exact src.tI y hy)
         refine⟨_,w',_,lM (s:=ie.size) ht An kR U h5 src jG Fg,D4.1,D4.2,?_⟩;simp only [VR,show (H.drop id).fresh=H.fresh from rfl];refine⟨En.iR _ _ _ _,_,_,rfl,jG,?_⟩;simp only [fJ,En.ext_θ_new,En.ext_κ_new];left;exact⟨ad,J⟩
        ·simp at h
       ·
        have anQ:nH H (.ptr id o) (len*ie.size)=some old:=by
         simp only [nH,hl,V];have:len*ie.size=old.length:=J
         rw [this];clear h V d1 d3 this
         induction old with
         |nil=>rfl
         |cons y ys ih=>simp [As.jk,ih]
        obtain⟨ols,f1,f2,f3,f4⟩:=wx (P:=P) r hid hc hlen anQ;obtain⟨q1,q2⟩:=Km r id;have apj:Src P E w ie.size m news u2 us:=src
        obtain⟨y,w',E',p1,p2,p3,p4⟩:=qT (t:=t) (t2:=t2) (ty:=ty) (cap:=cap) q2 wW ht An kR pj yh apj J (some a) (old:=old) (olds:=ols.toArray) rfl (by simpa using f2) (by simpa using f3) (by simpa using f1)
         (fun w2 hw=>by simp only [Builtin.firstCells]; exact f4 w2 hw) h
        exact⟨y,w',E',p1,q1.trans p2,p3,p4⟩
      ·simp at h
     ·simp at h
   ·simp at h
  ·simp at h
 ·
  rename_i cs n full;have hx0:=Y;simp only [VR] at Y;obtain⟨b,o,cap,cus,rfl,hn,hf,g4,g5,g6,g7⟩:=Y;split at h
  ·rename_i hm;subst hm;simp only [ah,ak] at h;obtain⟨rfl,rfl⟩:=h;have pJ:us.toList= []:=arL (by rw [bn,LO,arD]);exact⟨_,w,E,lM (s:=ie.size) ht An kR U h5 src J (by simp only [pJ]; rfl),fP.refl _ _ _,r,hx0⟩
  ·rename_i hm;split at h
   ·rename_i JX;have lH:=hf JX;subst lH;split at h
    ·rename_i old hold;obtain⟨j1,j2⟩:=g5.jk hold;have B5:=g5.length;have htl:(cus.take (cap*ie.size)).length=cap*ie.size:=by rw [a8]; omega
     exact qT (cap:=cap) r wW ht An kR pj yh src J (some ⟨b,o,none⟩) (old:=old) (olds:=(cus.take (cap*ie.size)).toArray) rfl (by simpa using j1)
      (fun x Y=>g7 x (arx (by simpa using Y))) (by simpa using htl)
      (fun w2 hw=>by simp only [Builtin.firstCells]; exact (g6.take _).U0 htl w2 hw) h
    ·simp at h
   ·simp at h
 ·simp at h
theorem Pb [bS] {tt:TT} (db:fj P tt) {H H':Hp} (r:ca E H w) {t t2 ty:Nat} {x y v:AV} {u u2:Value} (Y:VR E w.heap x u) (hy:VR E w.heap y u2) (h:Ht tt t t2 x y H=some (v,H')) :
 ∃z w' E',(Builtin.append_ #[t,t2] ty #[u,u2]).run P w= .ok z w'/\fP E H w E' H' w'/\ca E' H' w'/\VR E' w'.heap v z:=by
 unfold Ht at h;split at h
 ·rename_i ti iI;split at h
  ·rename_i e hk;split at h
   ·rename_i ie mL;split at h
    ·grind
    ·rename_i Ui S!;obtain⟨d2,kR,D7⟩:=tO (db t2 Ui S!);split at h
     ·grind
     ·rename_i k2 jK;split at h
      ·grind
      ·rename_i j7;simp only [not_or,Classical.not_not] at j7;split at h
       ·grind
       ·rename_i m news Sj;obtain⟨us,src⟩:=sq (P:=P) r hy Sj;refine xD r (db e ie mL) (fT (db t ti iI) hk) kR ?_ j7.1 j7.2.1 j7.2.2 src Y h;intro k V;subst V;cases zT:Ui.kind<;>rw [zT] at D7<;>simp only [KG] at D7
        grind
   grind
  grind
 grind
end
section
variable {P:Program} {E:En} {w:World}
theorem S7 [bS] {tt:TT} (db:fj P tt) {H H':Hp} (r:ca E H w) {t ty:Nat} {x:AV} {u:Value} (Y:VR E w.heap x u) (h:Mj tt t x H=some H') :
 ∃w',(Builtin.clear_ #[t] ty #[u]).run P w= .ok (.tuple #[]) w'/\fP E H w E H' w'/\ca E H' w':=by
 unfold Mj at h;split at h
 ·rename_i ti iI;split at h
  ·rename_i e hk;have hu:=fT (db t ti iI) hk;split at h
   ·rename_i ie mL;obtain⟨inf,d,z,U,Z,h3,h4,h5,h6,h7,h8⟩:=(db e ie mL).all;have hz:=fH (E:=E) (h:=w.heap) h4;split at h
    ·simp at h;subst h;simp only [VR] at Y;subst Y;exact⟨w,by simp [Builtin.clear_,run_underlying hu],fP.refl _ _ _,r⟩
    ·simp at h;subst h;simp only [VR] at Y;obtain⟨⟨x,rfl⟩,_⟩:=Y;exact⟨w,by cases x<;>simp [Builtin.clear_,run_underlying hu],fP.refl _ _ _,r⟩
    ·rename_i id o len c;simp only [VR] at Y;obtain⟨hid,a,cap,rfl,hlen,hc⟩:=Y;split at h
     ·simp at h;subst h;exact⟨w,by simp [Builtin.clear_,run_underlying hu],fP.refl _ _ _,r⟩
     ·rename_i P6;split at h
      ·grind
      ·rename_i jK;split at h
       ·rename_i cs e' hl;split at h
        ·rename_i mM hs;simp at h;subst h
         have ha:a=⟨(E.θ id).1,(E.θ id).2+o,none⟩:=by
          grind [uw]
         have akd:z.cells.toList≠[]:=by
          intro Y;have:=hz.1.length
          grind
         have hzc:(Builtin.zeroCells z.cells len).toList=eb z.cells.toList len:=vY z.cells akd len;obtain⟨w',g1,g2,g3⟩:=mP (P:=P) r hl hs (ng hz.1 len) (fun u hu=>hz.2 u (mZ hu));refine⟨w',?_,g2,g3⟩;subst ha;obtain⟨l,rfl⟩ : ∃l,len=l+1:=⟨len-1,by have:len≠0:=fun hh=>P6 hh; omega⟩;simp [Builtin.clear_,run_underlying hu,zeroValue,typeInfo,U,h3,hzc,g1]
        grind
       grind
    grind
   grind
  grind
 grind
theorem SS [bS] {tt:TT} (db:fj P tt) {H H':Hp} (r:ca E H w) {t:Nat} {x v:AV} {u:Value} (Y:VR E w.heap x u) (h:L9 tt t x H=some (v,H')) :
 ∃y w' E',(Instr.range t u).run P w= .ok y w'/\fP E H w E' H' w'/\ca E' H' w'/\VR E' w'.heap v y:=by
 unfold L9 at h;split at h
 ·rename_i ti iI;split at h
  ·rename_i hk;split at h
   ·rename_i b;simp only [ah,ak] at h;obtain⟨rfl,rfl⟩:=h;simp only [VR] at Y;obtain⟨rfl,gy⟩:=Y
    obtain⟨s1,s2⟩:=AY r (.stringIter (dF b) 0) (.lW b 0) 0 (w':=w.iter (dF b) 0) rfl ⟨rfl,rfl,rfl⟩ (by
     simp only [OR,En.ext_θ_new]
     exact⟨World.iter_heap _ _ _,trivial,gy⟩)
    exact⟨_,_,_,run_range_string w t (dF b) (gC (db t ti iI) hk),s1,s2,Ll r 0 _ 0⟩
   grind
  grind
 grind
theorem XW [bS] {H H':Hp} (r:ca E H w) {x v:AV} {u:Value} {isS:Bool} (Y:VR E w.heap x u) (h:SV x isS H=some (v,H')) (ty:Nat) :
 ∃y w',(Instr.next u isS ty).run P w= .ok y w'/\fP E H w E H' w'/\ca E H' w'/\VR E w'.heap v y:=by
 unfold SV at h;split at h
 ·grind
 ·split at h
  ·rename_i id;split at h
   ·rename_i b p hl;obtain⟨g1,g2,g3⟩:=(r.live id _ hl).2.1;simp only [VR] at Y;obtain⟨rfl,hid⟩:=Y;rw [g2];have hg:=kj (P:=P) g1 ad;split at h
    ·rename_i hn;simp only [ah,ak] at h;obtain⟨rfl,rfl⟩:=h;rw [dI,ass] at hn;have hp: ¬p<(dF b).size:=by rw [lN]; omega
     refine⟨.tuple #[.bool false],w,?_,fP.refl _ _ _,r,?_⟩
     ·simp [Instr.next,hg,hp]
     ·simp only [VR,cL]; exact⟨[.bool false],rfl,_,_,rfl,by simp [SB.den],rfl⟩
    ·rename_i c hn;split at h
     ·rename_i hc;simp only [ah,ak] at h;obtain⟨rfl,rfl⟩:=h;rw [dI] at hn;have hpl:=(bg.1 hn).1;have hp:p<(dF b).size:=by rw [lN]; exact hpl
      have hb:(dF b)[p]'hp=UInt8.ofNat c:=by
       have U:(dF b)[p]?=some ((dF b)[p]'hp):=getElem?_pos (dF b) p hp
       grind [FV]
      have hbn:((dF b)[p]'hp).toNat=c:=by rw [hb]; simp; omega
      have aqv:=decode_ascii (dF b) p hp (by rw [hbn]; exact hc)
      obtain⟨s1,s2⟩:=jm r hl (.lW b (p+1)) (.stringIter (dF b) (p+1)) (by
       intro h' hh _
       exact⟨hh,g2,g3⟩)
      refine⟨.tuple #[.bool true,goInt p,.int .i32 ((dF b)[p]'hp).toNat],_,?_,s1,s2,?_⟩
      ·simp only [Instr.next,Sem.run_bind,hg,Result.andThen_ok,hp,if_true,aqv,kc (P:=P) g1 ad,Sem.run_pure]
      ·simp only [VR,cL,hbn];exact⟨_,rfl,_,_,rfl,by simp [SB.den],_,_,rfl,by simp [W.den,goInt],_,_,rfl,by simp [W.den],rfl⟩
     grind
   grind
  grind
theorem Ln {ρ:Nat->Int} {pc:List (SB×Bool)} (hp:cD ρ pc) {c:SB} {b:Bool} (h:c.den ρ=b):cD ρ ((c,b)::pc):=by
 intro d x hm;rcases aH.1 hm with hm|hm
 ·grind
 ·exact hp d x hm
theorem du {α:Type} {ρ:Nat->Int} {s:St} (hp:cD ρ s.pc) {c:SB} {f:St->Bool->T α} {r:α} (h:(mu s c f).leaf ρ=some r) :
 ∃fU,cD ρ fU/\(f { s with pc:=fU } (c.den ρ)).leaf ρ=some r:=by
 unfold mu at h;split at h
 ·rename_i b hb;exact⟨s.pc,hp,by rw [iz hp hb]; exact h⟩
 ·split at h
  ·rename_i d;simp only [T.leaf] at h;split at h
   ·rename_i hc;exact⟨_,Ln hp hc,by simp only [SB.den,hc]; exact h⟩
   ·rename_i hc;exact⟨_,Ln hp hc,by simp only [SB.den,hc]; exact h⟩
  ·simp only [T.leaf] at h
   grind [Ln]
theorem T.fV {α β:Type} {ρ:Nat->Int} {f:α->T β} {r:β}: ∀{x:T α},(x.bind f).leaf ρ=some r->∃a,x.leaf ρ=some a/\(f a).leaf ρ=some r
 | .fail,h=>by simp [T.bind,T.leaf] at h
 | .ret a,h=> ⟨a,rfl,h⟩
 | .split c x y,h=>by simp only [T.bind,T.leaf] at h ⊢;split at h<;>exact T.fV h
theorem oS {mx:Bool}: ∀{xs:List AV} {a:W} {k:IntKind} {s s':St} {us:List Value} {v:AV},cD E.ρ s.pc->cL E w.heap xs us->(u6 mx xs a k s).leaf E.ρ=some (v,s')->
 s'.h=s.h/\s'.bH=s.bH/\cD E.ρ s'.pc/\∃u,(us.foldlM (if mx then Builtin.max2 else Builtin.min2) (.int k (a.den E.ρ))).run P w= .ok u w/\VR E w.heap v u
 |[],a,k,s,s',us,v,hp,hv,h=>by simp only [u6,T.leaf,ah,ak] at h;obtain⟨rfl,rfl⟩:=h;rw [jz] at hv;subst hv;exact⟨rfl,rfl,hp,_,rfl,by simp only [VR]⟩
 |x::xs,a,k,s,s',us,v,hp,hv,h=>by
  rw [bX] at hv;obtain⟨u,vs,rfl,Y,pd⟩:=hv;cases x<;>simp only [u6,T.leaf,reduceCtorEq] at h;rename_i k' b;simp only [VR] at Y;subst Y;obtain⟨fU,gQ,U⟩:=du hp h;cases mx
  ·simp only [aQ,if_false,eA] at U ⊢;by_cases hc:b.den E.ρ<a.den E.ρ
   ·simp only [hc,decide_true,if_true] at U;obtain⟨q1,q2,q3,u,q4,q5⟩:=oS gQ pd U;refine⟨q1,q2,q3,u,?_,q5⟩;simp only [asH,Sem.run_bind,Builtin.min2,Sem.run_pure,Result.andThen_ok,hc,if_true]
    grind
   ·simp only [hc,decide_false,aQ,if_false] at U;obtain⟨q1,q2,q3,u,q4,q5⟩:=oS gQ pd U;refine⟨q1,q2,q3,u,?_,q5⟩;simp only [asH,Sem.run_bind,Builtin.min2,Sem.run_pure,Result.andThen_ok,hc,if_false]
    grind
  ·simp only [if_true,eA] at U ⊢;by_cases hc:a.den E.ρ<b.den E.ρ
   ·simp only [hc,decide_true,if_true] at U;obtain⟨q1,q2,q3,u,q4,q5⟩:=oS gQ pd U;refine⟨q1,q2,q3,u,?_,q5⟩;simp only [asH,Sem.run_bind,Builtin.max2,Sem.run_pure,Result.andThen_ok,gt_iff_lt,hc,if_true]
    grind
   ·simp only [hc,decide_false,aQ,if_false] at U;obtain⟨q1,q2,q3,u,q4,q5⟩:=oS gQ pd U;refine⟨q1,q2,q3,u,?_,q5⟩;simp only [asH,Sem.run_bind,Builtin.max2,Sem.run_pure,Result.andThen_ok,gt_iff_lt,hc,if_false]
    grind
end
section
variable {P:Program} {E:En} {w:World}
theorem W0 (ρ:Nat->Int) (a b:SB):(y? a b).den ρ=(a.den ρ&&b.den ρ):=by unfold y?;split<;>simp [SB.den]
theorem X2 {i:TI} {t:Nat} (iI:oq P t i) {x y:AV} {u v:Value} (Y:VR E w.heap x u) (hy:VR E w.heap y v) {c:SB} (h:Tb i.kind x y=some c) (d:Nat) :
 (Op.equalIn (d+1) t u v).run P w= .ok (c.den E.ρ) w/\u.oneCell'=true/\v.oneCell'=true/\i.agg=false:=by
 unfold Tb at h;split at h
 ·rename_i k hk;split at h
  ·split at h
   ·rename_i zT;subst zT;simp at h;subst h;simp only [VR] at Y hy;subst Y hy;exact⟨by rw [run_equalIn_int w d t _ _ _ _ (xR iI hk),jQ],rfl,rfl,by simp [TI.agg,TK.agg,hk]⟩
   grind
  grind
 ·rename_i hk;split at h
  ·simp at h;subst h;simp only [VR] at Y hy;obtain⟨rfl,Y⟩:=Y;obtain⟨rfl,hy⟩:=hy;exact⟨by rw [run_equalIn_string w d t _ _ (gC iI hk),UB Y hy]; rfl,rfl,rfl,by simp [TI.agg,TK.agg,hk]⟩
  ·obtain⟨a,b,rfl,rfl,V⟩:=FU Y hy h;exact⟨by rw [run_equalIn_string w d t _ _ (gC iI hk),zx,V],rfl,rfl,by simp [TI.agg,TK.agg,hk]⟩
 ·rename_i hk;split at h
  ·simp only [VR] at Y hy;subst Y hy;exact⟨by rw [run_equalIn_bool' w d t _ _ (Ny iI hk),Ef h],rfl,rfl,by simp [TI.agg,TK.agg,hk]⟩
  grind
 grind
theorem VO {tt:TT} (db:fj P tt) {xs ys:List AV} {us vs:List Value} (Y:cL E w.heap xs us) (hy:cL E w.heap ys vs) (d:Nat): ∀{yJ:List Field} {l:List (Nat×Nat×Nat)} {c:SB},
 (yJ.mapM fun f=>(P.info? f.type).map fun i=>(f.offset,f.type,i.size))=some l->(∀f∈yJ,f.name≠ "_")->aas tt xs ys l=some c->
 (Op.eqFields (d+1) us.toArray vs.toArray yJ).run P w= .ok (c.den E.ρ) w
 |[],l,c,hm,_,h=>by simp at hm;subst hm;simp [aas] at h;subst h;simp [Op.eqFields,SB.den]
 |f::yJ,l,c,hm,hn,h=>by
  simp only [asq,asV,asC] at hm;obtain⟨p,U,ls,Z,h3⟩:=hm;simp only [pure,ah] at h3;subst h3;rw [aO] at U;obtain⟨inf,ari,rfl⟩:=U;simp only [aas] at h;split at h
  ·grind
  ·rename_i i hi;split at h
   ·rename_i x y hxn hyn;split at h
    ·grind
    ·rename_i c1 OK;split at h
     ·grind
     ·rename_i c2 hc2;simp at h;subst h;obtain⟨u,hu1,hu2⟩:=Y.nth hxn;obtain⟨v,hv1,hv2⟩:=hy.nth hyn;obtain⟨e1,e2,e3,e4⟩:=X2 (w:=w) (db f.type i hi) hu2 hv2 OK d;have ih:=VO db Y hy d Z (fun g hg=>hn g (by simp [hg])) hc2;have p1:(part f.type us.toArray f.offset).run P w= .ok u w:=by simp [part,qQ (db f.type i hi),e4,hu1]
      have p2:(part f.type vs.toArray f.offset).run P w= .ok v w:=by simp [part,qQ (db f.type i hi),e4,hv1]
      simp only [Op.eqFields];rw [ag (hn f ad)];simp only [Sem.run_bind,p1,p2,e1,Result.andThen_ok,W0];cases P8:c1.den E.ρ
      ·simp
      grind
   grind
theorem Hr {tt:TT} (db:fj P tt) {t:Nat} {xs ys:List AV} {us vs:List Value} {c:SB} (Y:cL E w.heap xs us) (hy:cL E w.heap ys vs) (h:Fo tt t xs ys=some c) (op:BinOp) (x y:Operand) :
 (eqGuard op t x y (.agg us.toArray) (.agg vs.toArray)).run P w= .ok () w/\(binOp .eql t (.agg us.toArray) (.agg vs.toArray)).run P w= .ok (.bool (c.den E.ρ)) w/\(binOp .neq t (.agg us.toArray) (.agg vs.toArray)).run P w= .ok (.bool (!(c.den E.ρ))) w:=by
 unfold Fo at h;split at h
 ·grind
 ·rename_i i hi;split at h
  ·rename_i fs hk;split at h
   ·rename_i hq;have iI:=db t i hi;have he:=iI.eqs hq;obtain⟨yJ,hu,hm⟩:=zu iI hk;unfold aar at he;rw [hu] at he;simp only [an,arR,aP,bne_iff_ne,ne_eq] at he;obtain⟨⟨U,Z⟩,h3⟩:=he;have hf:P.fieldsOf t=yJ:=by simp [Program.fieldsOf,hu]
    have h10:(10000:Nat)=9998+1+1:=rfl
    have key:(Op.equalIn 10000 t (.agg us.toArray) (.agg vs.toArray)).run P w= .ok (c.den E.ρ) w:=by rw [h10];generalize (9998:Nat)=n;rw [run_equalIn_struct w (n+1) t _ _ (by rw [hf]; exact hu) U,hf];exact VO db Y hy n hm (fun f hf=>(h3 f hf).1) h
    refine⟨run_eqGuard_agg w op t x y _ _ Z,?_,?_⟩
    ·rw [run_eql_struct,key]; rfl
    ·rw [run_neq_struct,key]; rfl
   grind
  grind
def PU [bS] (E:En) (s:St) (w:World) (v:AV) (s':St) (u:Value) (w':World):Prop:= ∃E',fP E s.h w E' s'.h w'/\ca E' s'.h w'/\VR E' w'.heap v u
def mi [bS] (P:Program) (E:En) (s:St) (o:Oper) (a:Act) (w:World) (v:AV) (s':St):Prop:=
 s'.bH=s.bH/\cD E.ρ s'.pc/\tg P o a w (PU E s w v s')
theorem bC {α:Type} {ρ:Nat->Int} {a b:α} (h:(T.ret a).leaf ρ=some b):a=b:=by simpa [T.leaf] using h
theorem iG {s:St} {a:Act} {x:Operand} {f:AV->T (AV×St)} {r:AV×St} (sr:SR E w.heap s.bH a) (h:(B3 s x f).leaf E.ρ=some r): ∃v,VR E w.heap v (a.eval x)/\(f v).leaf E.ρ=some r:=by
 unfold B3 at h;split at h
 ·rename_i v hv; exact⟨v,iO sr hv,h⟩
 ·simp [T.leaf] at h
theorem jM {s s':St} {v:AV} {r:Option AV} {ρ:Nat->Int} (h:(tE s r).leaf ρ=some (v,s')):r=some v/\s'=s:=by
 unfold tE at h;split at h
 ·have:=bC h; simp only [ak] at this; exact⟨by rw [this.1],this.2.symm⟩
 ·simp [T.leaf] at h
theorem AL {s s':St} {v:AV} {r:Option Hp} {ρ:Nat->Int} (h:(Ry s r).leaf ρ=some (v,s')): ∃H,r=some H/\v=AV.undef/\s'= { s with h:=H }:=by
 unfold Ry at h;split at h
 ·rename_i H; have:=bC h; simp only [ak] at this; exact⟨H,rfl,this.1.symm,this.2.symm⟩
 ·simp [T.leaf] at h
theorem rh {s s':St} {v:AV} {r:Option (AV×Hp)} {ρ:Nat->Int} (h:(DL s r).leaf ρ=some (v,s')): ∃H,r=some (v,H)/\s'= { s with h:=H }:=by
 unfold DL at h;split at h
 ·rename_i x H; have:=bC h; simp only [ak] at this; obtain⟨rfl,rfl⟩:=this; exact⟨H,rfl,rfl⟩
 ·simp [T.leaf] at h
theorem py {h:Array Obj}:VR E h AV.undef undef:=by simp only [AV.undef,VR,cL]; exact⟨[],rfl,rfl⟩
variable {s s':St} {o:Oper} {a:Act} {v:AV}
theorem mi.pure [bS] (hp:cD E.ρ s.pc) (r:ca E s.h w) {u:Value} (h:(execOp a.eval o).run P w= .ok (.value u) w) (hv:VR E w.heap v u):mi P E s o a w v s:=
 ⟨rfl,hp,tg.value h ⟨E,fP.refl _ _ _,r,hv⟩⟩
theorem mi.heap [bS] {H':Hp} {E':En} {w':World} (hp:cD E.ρ s.pc) {u:Value} (h:(execOp a.eval o).run P w= .ok (.value u) w') (U:fP E s.h w E' H' w') (Z:ca E' H' w') (hv:VR E' w'.heap v u) :
 mi P E s o a w v { s with h:=H' }:=
 ⟨rfl,hp,tg.value h ⟨E',U,Z,hv⟩⟩
end
theorem Ad {α:Type} {ρ:Nat->Int} {kk:TK} {k:AV} {r:α} {f:St->T α}: ∀{es:List (AV×AV×Nat)} {s:St},cD ρ s.pc->(vi kk k es s f).leaf ρ=some r->∃fU,cD ρ fU/\(f { s with pc:=fU }).leaf ρ=some r
 |[],s,hp,h=> ⟨s.pc,hp,h⟩
 |(k',v,b)::es,s,hp,h=>by
  simp only [vi] at h;split at h
  ·split at h
   ·exact⟨s.pc,hp,h⟩
   ·exact Ad hp h
  ·split at h
   ·obtain⟨j3,jH,U⟩:=du hp h;split at U
    ·grind
    ·obtain⟨qA,pI,Z⟩:=Ad (s:={ s with pc:=j3 }) jH U
     grind
   ·exact⟨s.pc,hp,h⟩
theorem sk {α:Type} {ρ:Nat->Int} {tt:TT} {t:Nat} {m k:AV} {r:α} {f:St->T α} {s:St} (hp:cD ρ s.pc) (h:(px tt t m k s f).leaf ρ=some r): ∃fU,cD ρ fU/\(f { s with pc:=fU }).leaf ρ=some r:=by
 unfold px at h;split at h
 ·split at h
  ·split at h
   ·split at h
    ·exact Ad hp h
    ·exact⟨s.pc,hp,h⟩
   ·exact⟨s.pc,hp,h⟩
  ·exact⟨s.pc,hp,h⟩
 ·exact⟨s.pc,hp,h⟩
theorem Pd {ρ:Nat->Int} {k:IntKind} {e:W} {f:AV->St->T (AV×St)} {r:AV×St}: ∀(n j:Nat) {s:St},cD ρ s.pc->(j:Int)<=e.den ρ->e.den ρ<(j:Int)+n->(Pe k e f n j s).leaf ρ=some r->
 ∃(i:Nat) (fU:List (SB×Bool)),cD ρ fU/\e.den ρ=(i:Int)/\(f (.int k (.lit (Int.ofNat i))) { s with pc:=fU }).leaf ρ=some r
 |0,j,s,_,_,_,h=>by simp [Pe,T.leaf] at h
 |n+1,j,s,hp,U,Z,h=>by
  simp only [Pe] at h;split at h
  ·exact⟨j,s.pc,hp,J,h⟩
  ·obtain⟨j3,jH,h3⟩:=du hp h;rw [jQ] at h3;split at h3
   ·rename_i he;simp only [W.den,beq_iff_eq] at he
    grind
   ·rename_i he;simp only [W.den,beq_eq_false_iff_ne,ne_eq] at he;have hj:(Int.ofNat j)=(j:Int):=rfl;rw [hj] at he;obtain⟨i,qA,pI,q1,q2⟩:=Pd n (j+1) (s:={ s with pc:=j3 }) jH (by push_cast; omega) (by push_cast at Z ⊢; omega) h3
    grind
theorem oY {α:Type} {ρ:Nat->Int} {s:St} (hp:cD ρ s.pc) {i n:W} {f:St->T α} {r:α} (h:(AT s i n f).leaf ρ=some r) :
 ∃fU,cD ρ fU/\0<=i.den ρ/\i.den ρ<n.den ρ/\(f { s with pc:=fU }).leaf ρ=some r:=by
 unfold AT at h;obtain⟨j3,jH,U⟩:=du hp h;split at U
 ·simp [T.leaf] at U
 ·rename_i e1;rw [eA,decide_eq_false_iff_not] at e1;obtain⟨qA,pI,Z⟩:=du (s:={ s with pc:=j3 }) jH U;split at Z
  ·rename_i e2;rw [eA,decide_eq_true_eq] at e2;simp only [W.den,ar7] at e1
   grind
  ·simp [T.leaf] at Z
theorem BX {E:En} {h0:Array Obj} {tt:TT} {t:Nat} {x ix:AV} {ui:Value} {f:AV->St->T (AV×St)} {r:AV×St} {s:St} (hp:cD E.ρ s.pc) (Be:VR E h0 ix ui) (h:(KB tt t x ix s f).leaf E.ρ=some r) :
 ∃ix' fU,cD E.ρ fU/\VR E h0 ix' ui/\(f ix' { s with pc:=fU }).leaf E.ρ=some r:=by
 unfold KB at h;split at h
 ·exact⟨ix,s.pc,hp,Be,h⟩
 ·split at h
  ·rename_i k e _;split at h
   ·rename_i n hn;obtain⟨j3,jH,U,Z,h3⟩:=oY hp h;simp only [W.den] at Z;obtain⟨i,qA,pI,q1,q2⟩:=Pd n 0 (s:={ s with pc:=j3 }) jH (by simpa using U) (by simpa using Z) h3;refine⟨_,qA,pI,?_,q2⟩;simp only [VR,W.den] at Be ⊢
    grind
   ·simp [T.leaf] at h
  ·simp [T.leaf] at h
theorem JE {ro:Nat->Prop} {h:Array Obj} {t:Nat} {d:D} {v:Value} (r:Rd ro h (.sl t) d v):(0<d.l.length->∃a n cap,v= .slice (some a) n cap)/\(d= .i 1->v= .slice none 0 0)/\(d= .i 2->∃a n cap,v= .slice (some a) n cap):=by
 generalize hc:CK.sl t=c at r
 cases r with
 |int k n=>simp at hc
 |bool b=>simp at hc
 |str s=>simp at hc
 |nil t=>exact⟨by simp [D.l],fun _=>rfl,ad⟩
 |xZ t a cap=>exact⟨by simp [D.l],ad,fun _=> ⟨a,0,cap,rfl⟩⟩
 |one t c b o cap ds f hr eM hb U Z=>exact⟨fun _=> ⟨_,_,_,rfl⟩,fun q=>by cases ds<;>simp [dL] at q,fun q=>by cases ds<;>simp [dL] at q⟩
 |many t cs b o cap rows f hr eM hb hl U Z=>exact⟨fun _=> ⟨_,_,_,rfl⟩,fun q=>by cases rows<;>simp [dL] at q,fun q=>by cases rows<;>simp [dL] at q⟩
theorem Lt {P:Program} {E:En} {w:World} {tt:TT} (db:fj P tt) {t e:Nat} {ti:TI} (iI:tt t=some ti) (hk:ti.kind= .slice e) {u:Value} {b:Bool} (hu:(b=true/\u= .slice none 0 0)\/(b=false/\∃a n cap,u= .slice (some a) n cap)) {s s':St} {op:BinOp} {v:AV} {ρ:Nat->Int}
 (h:(I_ s op b).leaf ρ=some (v,s')):s'=s/\∃y,(binOp op t u (.slice none 0 0)).run P w= .ok y w/\VR E w.heap v y/\(∀cs ds,¬(u= .agg cs/\(Value.slice none 0 0)= .agg ds))/\¬(u= .nilIface/\(Value.slice none 0 0)= .nilIface):=by
 obtain⟨d,U,Z⟩:=tO (db t ti iI);rw [hk] at Z
 have he:(Op.equal t u (.slice none 0 0)).run P w= .ok b w:=by have hm:Op.equal t u (.slice none 0 0)=Op.equalIn (9999+1) t u (.slice none 0 0):=rfl;rw [hm];generalize (9999:Nat)=n;cases d<;>simp only [KG] at Z;rcases hu with ⟨rfl,rfl⟩|⟨rfl,a,m,cap,rfl⟩ <;>simp [Op.equalIn,AI U]
 have LO:(∀k n,u≠.int k n)/\(∀s,u≠.string s)/\(∀k n,u≠.float k n)/\(∀k n m,u≠.complex k n m):=by
  grind
 obtain⟨q1,q2⟩:=binOp_eql he LO.1 LO.2.1 LO.2.2.1 LO.2.2.2;unfold I_ at h;split at h
 ·simp only [T.leaf,ah,ak] at h;obtain⟨rfl,rfl⟩:=h;exact⟨rfl,_,q1,by simp only [VR,SB.den],ad,ad⟩
 ·simp only [T.leaf,ah,ak] at h;obtain⟨rfl,rfl⟩:=h;exact⟨rfl,_,q2,by simp only [VR,SB.den],ad,ad⟩
 ·simp [T.leaf] at h
theorem ad0 {P:Program} {E:En} {w:World} {tt:TT} (db:fj P tt) {t:Nat} {a b:AV} {e:W} (hn:RP tt t a b=some e) {u u':Value} (ha:VR E w.heap a u) (hb:VR E w.heap b u') {s s':St} (hp:cD E.ρ s.pc) {op:BinOp} {v:AV} (h:(ajR s e op).leaf E.ρ=some (v,s')) :
 s'.bH=s.bH/\s'.h=s.h/\cD E.ρ s'.pc/\∃y,(binOp op t u u').run P w= .ok y w/\VR E w.heap v y/\(∀cs ds,¬(u= .agg cs/\u'= .agg ds))/\¬(u= .nilIface/\u'= .nilIface):=by
 unfold RP at hn;split at hn
 ·split at hn
  ·split at hn
   ·rename_i ti iI;split at hn
    ·rename_i el hk;simp only [ah] at hn;subst hn;simp only [VR] at ha hb;subst hb;obtain⟨k1,k2,k3⟩:=JE ha;unfold ajR at h;obtain⟨j3,jH,U⟩:=du hp h;split at U
     ·rename_i t1;rw [eA,decide_eq_true_eq,cW] at t1;simp only [W.den] at t1;obtain⟨rfl,q⟩:=Lt (P:=P) (E:=E) (w:=w) db iI hk (.inr ⟨rfl,k1 J⟩) U
      grind
     ·obtain⟨qA,pI,Z⟩:=du (s:={ s with pc:=j3 }) jH U;split at Z
      ·rename_i t2;rw [mY,rb,beq_iff_eq] at t2;simp only [W.den] at t2;obtain⟨rfl,q⟩:=Lt (P:=P) (E:=E) (w:=w) db iI hk (.inl ⟨rfl,k2 (eQ t2)⟩) Z
       grind
      ·obtain⟨pc3,OC,h3⟩:=du (s:={ s with pc:=qA }) pI Z;split at h3
       ·rename_i t3;rw [mY,rb,beq_iff_eq] at t3;simp only [W.den] at t3;obtain⟨rfl,q⟩:=Lt (P:=P) (E:=E) (w:=w) db iI hk (.inr ⟨rfl,k3 (eQ t3)⟩) h3
        grind
       ·simp [T.leaf] at h3
    grind
   grind
  grind
 grind
section
variable {P:Program} {E:En} {w:World}
theorem ca.swap [bS] {H H2:Hp} (r:ca E H w) {id:Nat} {o o':eL} (hl:H.get id=some o) (ho:OR E w.heap id o') (hg:H2.get id=some o') (hs: ∀j,j≠id->H2.get j=H.get j) (hn:H2.next=H.next) (hr:H2.res=H.res):ca E H2 w:=by
 have key: ∀j x,H2.get j=some x->∃y,H.get j=some y:=by
  intro j x hj
  grind
 refine⟨fun i hi=>r.fresh i (by rw [<- hn]; exact hi),fun q hq=>by rw [hn]; exact r.res q (by rw [<- hr]; exact hq),fun j x hj=>?_,fun i j x y hi hj he=>?_,r.wE,r.mE⟩
 ·by_cases h:j=id
  ·subst h;rw [hg] at hj;simp only [ah] at hj;subst hj;exact⟨(r.live j o hl).1,ho,(r.live j o hl).2.2⟩
  ·exact r.live j x (by rw [<- hs j h]; exact hj)
 ·obtain⟨x',Y⟩:=key i x hi;obtain⟨y',hy⟩:=key j y hj;exact r.inj i j x' y' Y hy he
structure II (H H2:Hp):Prop where
 ab: ∀j x,H.get j=some x->∃y,H2.get j=some y
 ba: ∀j x,H2.get j=some x->∃y,H.get j=some y
 next:H2.next=H.next
 res:H2.res=H.res
theorem II.put {H:Hp} {id:Nat} {o o':eL} (hl:H.get id=some o):II H (H.put id o'):=by
 refine⟨fun j x hj=>?_,fun j x hj=>?_,rfl,rfl⟩
 all_goals grind [Hp.bV]
theorem II.symm {H H2:Hp} (a:II H H2):II H2 H:=⟨a.ba,a.ab,a.next.symm,a.res.symm⟩
theorem fP.left {H H2 H':Hp} {E':En} {w':World} (a:II H H2) (s:fP E H w E' H' w'):fP E H2 w E' H' w':=
 ⟨s.ρ,s.dm,s.θ,s.κ,s.ro,fun b hb=>(s.DJ b hb).imp id (Or.imp (fun⟨i,o,U,Z⟩=>by obtain⟨y,hy⟩:=a.ab i o U; exact⟨i,y,hy,Z⟩) id),by rw [a.next]; exact s.nxm,by rw [a.res]; exact s.rsm,
  fun i hi=>by rw [a.next,a.res]; exact s.dmn i hi,s.os,s.tape,s.output,s.size,fun b hb hn=>s.dv b hb fun i o ho=>by obtain⟨y,hy⟩:=a.ab i o ho; exact hn i y hy,
  fun i o ho gy=>by obtain⟨i0,o0,U,Z⟩:=s.own i o ho gy; obtain⟨y,hy⟩:=a.ab i0 o0 U; exact⟨i0,y,hy,Z⟩⟩
theorem fP.right {H H' H2:Hp} {E':En} {w':World} (a:II H' H2) (s:fP E H w E' H' w'):fP E H w E' H2 w':=
 ⟨s.ρ,s.dm,s.θ,s.κ,s.ro,s.DJ,by rw [a.next]; exact s.nxm,by rw [a.res]; exact s.rsm,
  fun i hi=>by rw [a.next]; exact s.dmn i hi,s.os,s.tape,s.output,s.size,s.dv,
  fun i o ho gy=>by obtain⟨y,hy⟩:=a.ba i o ho; exact s.own i y hy gy⟩
theorem eD.of {ro:Nat->Prop} {h:Array Obj} {d:D} (f:Nat->Value): ∀(cs:List CK) (j:Nat),(∀i c,cs[i]?=some c->jZ ro h c (d.V (j+i)) (f (j+i)))->eD ro h cs j d ((List.range' j cs.length).map f)
 |[],j,_=>by simp [eD]
 |c::cs,j,hh=>by
  simp only [aT,List.range'_succ,aA,eD];refine⟨f j,_,rfl,by simpa using hh 0 c ad,eD.of f cs (j+1) fun i c' hi=>?_⟩;have:=hh (i+1) c' (by simpa using hi)
  grind
theorem Rd.row {ro:Nat->Prop} {h:Array Obj} {t:Nat} {d:D} {v:Value} (r:Rd ro h (.sl t) d v) {i:Nat} {x:D} (hi:d.l[i]?=some x) :
 ∃b o cap us,v= .slice (some ⟨b,o,none⟩) d.l.length cap/\ro b/\yL ro h (rowOf t) x us/\gJ h b (o+i*(rowOf t).es) us:=by
 generalize hc:CK.sl t=c at r
 cases r with
 |int k n=>simp at hc
 |bool b=>simp at hc
 |str s=>simp at hc
 |nil t=>simp [D.l] at hi
 |xZ t a cap=>simp [D.l] at hi
 |one t' c b o cap ds f hr eM hb U Z=>
  simp only [CK.sl.injEq] at hc;subst hc;rw [bz] at hi ⊢;refine⟨b,o,cap,[f i],rfl,hb,?_,?_⟩
  ·rw [hr];exact⟨_,rfl,(Z i x hi).cell⟩
  ·rw [hr];intro j u hj
   grind [Row.es]
 |many t' cs b o cap rows f hr eM hb hl U Z=>
  simp only [CK.sl.injEq] at hc;subst hc;rw [bz] at hi ⊢;rw [bk,aO] at hi;obtain⟨row,jt,rfl⟩:=hi;have hlen:=hl row (arq jt);refine⟨b,o,cap,(List.range' 0 cs.length).map (f i),ad,hb,?_,?_⟩
  ·rw [hr];refine eD.of (f i) cs 0 fun j c hj=>?_;have hjl:j<row.length:=by rw [hlen]; exact (bg.1 hj).1
   have V:row[j]?=some row[j]:=aN hjl;rw [aK];have:(dL row).V j=row[j]:=by simp [D.V,V]
   rw [this];exact (Z i row j _ c jt V hj).cell
  ·rw [hr];intro j u hj;rw [bk,aO] at hj;obtain⟨k,hk,rfl⟩:=hj
   have hjl:j<cs.length:=by
    grind
   rw [List.getElem?_range' hjl] at hk;simp only [ah] at hk;obtain rfl:k=j:=J
   have V:row[k]?=some row[k]:=aN J;exact U i row k _ jt V
theorem Dr (ρ:Nat->Int) (e i:W) {x:D} {k:Nat} (hi:i.den ρ=(k:Int)) (Y:(dec (e.den ρ)).l[k]?=some x):dec ((W.op .at e i).den ρ)=x:=by simp only [W.den,gT.den,bA,D.at,hi,aW,Y,ay]
theorem oT {tt:TT} (db:fj P tt) {ty z:Nat} (h:vc tt ty=some z): ∃el ie,P.underlying ty=some (.slice el)/\tt el=some ie/\ie.size=z:=by
 unfold vc at h;split at h
 ·rename_i ti iI;split at h
  ·rename_i el hk;simp only [jl,aO] at h;obtain⟨ie,mL,rfl⟩:=h;exact⟨el,ie,fT (db ty ti iI) hk,mL,rfl⟩
  grind
 grind
theorem S6 {tt:TT} (db:fj P tt) {s s':St} (hp:cD E.ρ s.pc) {ty t:Nat} {e:W} {ix v:AV} {u ui:Value} (Y:VR E w.heap (.fk e t) u) (Be:VR E w.heap ix ui) (h:(Mi tt s ty t e ix).leaf E.ρ=some (v,s')) :
 s'.bH=s.bH/\s'.h=s.h/\cD E.ρ s'.pc/\∃r,(Instr.indexAt ty u ui).run P w= .ok r w/\VR E w.heap v r:=by
 unfold Mi at h;split at h
 ·rename_i kd i;split at h
  ·rename_i z hz;split at h
   ·rename_i me;obtain⟨fU,gQ,U,Z,h3⟩:=oY hp h;have:=bC h3;simp only [ak] at this;obtain⟨rfl,rfl⟩:=this;refine⟨rfl,rfl,gQ,?_⟩;rw [cW] at Z;simp only [VR] at Y Be;subst Be;obtain⟨el,ie,hu,mL,rfl⟩:=oT db hz;obtain⟨k,hk⟩ : ∃k:Nat,i.den E.ρ=(k:Int):=⟨(i.den E.ρ).toNat,J⟩;have gy:k<(dec (e.den E.ρ)).l.length:=J
    have V:(dec (e.den E.ρ)).l[k]?=some (dec (e.den E.ρ)).l[k]:=aN gy;obtain⟨b,o,cap,us,rfl,g1,g2,g3⟩:=Y.row V;refine⟨.pointer (some ⟨b,o+k*ie.size,none⟩),?_,?_⟩
    ·rw [hk];simp [Instr.indexAt,asIntOf,run_underlying hu,eV (db el ie mL),gy,fL]
    ·simp only [VR];exact⟨b,_,us,rfl,g1,by rw [gW,Dr E.ρ e i hk V]; exact g2,by rw [me]; exact g3,g2.tI⟩
   grind [T.leaf]
  grind [T.leaf]
 grind [T.leaf]
theorem SK {tt:TT} (db:fj P tt) {s s':St} (hp:cD E.ρ s.pc) {ty t id:Nat} {n:W} {ix v:AV} {u ui:Value} (Y:VR E w.heap (.rV id n t) u) (Be:VR E w.heap ix ui) (h:(L4 tt s ty id t n ix).leaf E.ρ=some (v,s')) :
 s'.bH=s.bH/\s'.h=s.h/\cD E.ρ s'.pc/\∃r,(Instr.indexAt ty u ui).run P w= .ok r w/\VR E w.heap v r:=by
 unfold L4 at h;split at h
 ·rename_i kd i;split at h
  ·rename_i z hz;split at h
   ·rename_i me;obtain⟨fU,gQ,U,Z,h3⟩:=oY hp h;have:=bC h3;simp only [ak] at this;obtain⟨rfl,rfl⟩:=this;refine⟨rfl,rfl,gQ,?_⟩;simp only [VR] at Y Be;subst Be;obtain⟨hid,m,a,cap,hn,rfl,lH,hc⟩:=Y;obtain⟨el,ie,hu,mL,rfl⟩:=oT db hz;obtain⟨k,hk⟩ : ∃k:Nat,i.den E.ρ=(k:Int):=⟨(i.den E.ρ).toNat,J⟩;have gy:k<m:=J
    have ha:a=⟨(E.θ id).1,(E.θ id).2,none⟩:=by
     simp only [fJ] at hc
     grind
    subst ha;refine⟨.pointer (some ⟨(E.θ id).1,(E.θ id).2+k*ie.size,none⟩),?_,?_⟩
    ·rw [hk];simp [Instr.indexAt,asIntOf,run_underlying hu,eV (db el ie mL),gy,fL]
    ·simp only [VR]
     grind
   grind [T.leaf]
  grind [T.leaf]
 grind [T.leaf]
theorem pB {ρ:Nat->Int} {pc:List (SB×Bool)} (hp:cD ρ pc) {ace cs:List AV} {i:W} {k:Nat} (hi:i.den ρ=(k:Int)): ∀{ov:List (W×List AV)},pC pc ace i ov=some cs->
 eE ρ k ov=some cs\/(eE ρ k ov=none/\cs=ace)
 |[],h=>by simp only [pC,ah] at h; exact .inr ⟨rfl,h.symm⟩
 |(j,c)::l,h=>by
  simp only [pC] at h;simp only [eE];split at h
  ·rename_i he
   grind [dy]
  ·split at h
   ·rename_i b V;have V:=iz hp V;rw [jQ] at V;split at h
    ·grind
    ·rw [beq_eq_false_iff_ne,hi] at V;rw [af (fun q=>V q.symm)];exact pB hp hi h
   grind
theorem xO {α:Type} {ρ:Nat->Int} {i:W} {r:α}: ∀{ov:List (W×List AV)} {s:St} {k:St->T α},cD ρ s.pc->(wb i ov s k).leaf ρ=some r->∃fU,cD ρ fU/\(k { s with pc:=fU }).leaf ρ=some r
 |[],s,k,hp,h=> ⟨s.pc,hp,h⟩
 |(j,c)::l,s,k,hp,h=>by
  simp only [wb] at h;split at h
  ·exact⟨s.pc,hp,h⟩
  ·obtain⟨j3,jH,U⟩:=du hp h;split at U
   ·grind
   ·exact xO (s:={ s with pc:=j3 }) jH U
theorem j8 {ρ:Nat->Int} {r:Row} {ov:List (W×List AV)} (ho:wI r ov): ∀{ds:List D} {j k:Nat} {x:D},ds[k]?=some x->
 bJ ρ r ov ds j=bJ ρ r ov (ds.take k) j++((match eE ρ (j+k) ov with |some cs=>cs|none=>iE r (.fk x))++bJ ρ r ov (ds.drop (k+1)) (j+k+1))/\(bJ ρ r ov (ds.take k) j).length=k*r.es
 |[],j,k,x,h=>by simp at h
 |d::ds,j,0,x,h=>by
  simp only [aF,ah] at h;subst h;refine⟨?_,by simp [bJ]⟩;simp only [asI,bJ,au,arA,List.drop_succ_cons,arC]
  try rfl
 |d::ds,j,k+1,x,h=>by
  have h':ds[k]?=some x:=by simpa using h
  have hk:k<ds.length:=(bg.1 h').1;obtain⟨U,Z⟩:=j8 (ρ:=ρ) ho (j:=j+1) h';refine⟨?_,?_⟩
  ·simp only [asd,bJ,bp,List.drop_succ_cons]
   grind
  grind [cX]
theorem ve {α:Type}: ∀(a b:List α),fE a.length (a++b)=some b
 |[],_=>rfl
 |x::a,b=>by simp [fE,ve a b]
theorem Hz {α:Type}: ∀{n:Nat} {a b l:List α},fE n a=some l->fE n (a++b)=some (l++b)
 |0,a,b,l,h=>by simp only [fE,ah] at h ⊢; rw [h]
 |n+1,[],b,l,h=>by simp [fE] at h
 |n+1,x::a,b,l,h=>by simp only [fE,aM] at h ⊢; exact Hz h
theorem FJ {α:Type}: ∀{n:Nat} {a b l:List α},jk n a=some l->jk n (a++b)=some l
 |0,a,b,l,h=>by simp only [jk] at h ⊢; exact h
 |n+1,[],b,l,h=>by simp [jk] at h
 |n+1,x::a,b,l,h=>by
  simp only [jk,aM] at h ⊢;split at h
  ·rename_i l' hl;rw [FJ hl];exact h
  grind
theorem Ko {α:Type}: ∀{a b:Nat} {l m:List α},fE a l=some m->fE (a+b) l=fE b m
 |0,b,l,m,h=>by simp only [fE,ah] at h; subst h; rw [aK]
 |a+1,b,[],m,h=>by simp [fE] at h
 |a+1,b,x::l,m,h=>by rw [show a+1+b=(a+b)+1 by omega];simp only [fE] at h ⊢;exact Ko h
noncomputable def cU (ρ:Nat->Int) (e:W) (t:Nat) (ov:List (W×List AV)):List AV:=bJ ρ (rowOf t) ov (dec (e.den ρ)).l 0
theorem OR.rK {h:Array Obj} {id:Nat} {e:W} {t:Nat} {ty:TypeId} {ov:List (W×List AV)}:OR E h id (.vec e t ty ov)↔(wI (rowOf t) ov/\xH (rowOf t) (dec (e.den E.ρ)))/\OR E h id (.cells (cU E.ρ e t ov) ty):=by simp only [OR,cU]
theorem ca.rK [bS] {H:Hp} (r:ca E H w) {id:Nat} {e:W} {t:Nat} {ty:TypeId} {ov:List (W×List AV)} (hl:H.get id=some (.vec e t ty ov)):ca E (H.put id (.cells (cU E.ρ e t ov) ty)) w/\wI (rowOf t) ov/\xH (rowOf t) (dec (e.den E.ρ)):=by obtain⟨U,Z⟩:=OR.rK.1 (r.live id _ hl).2.1;exact⟨r.swap hl Z (by rw [Hp.bV,ag rfl]) (fun j hj=>by rw [Hp.bV,af hj]) rfl rfl,U⟩
theorem zD {h:Array Obj} {r:Row} {x y:W} (V:dec (x.den E.ρ)=dec (y.den E.ρ)) {us:List Value}:cL E h (iE r x) us↔cL E h (iE r y) us:=by
 grind [gW]
theorem acA [bS] {H:Hp} (r:ca E H w) {id:Nat} {e i:W} {t:Nat} {ty:TypeId} {ov:List (W×List AV)} (hl:H.get id=some (.vec e t ty ov)) {k:Nat} (hi:i.den E.ρ=(k:Int)) (hk:(k:Int)<(eG e).den E.ρ)
 {pc:List (SB×Bool)} (hp:cD E.ρ pc) {cs:List AV} (hc:pC pc (iE (rowOf t) (.op .at e i)) i ov=some cs) :
 ∃pre row post,cU E.ρ e t ov=pre++(row++post)/\pre.length=k*(rowOf t).es/\row.length=(rowOf t).es/\(∀h us,cL E h row us↔cL E h cs us)/\cs.length=(rowOf t).es:=by
 obtain⟨_,ho,yF⟩:=r.rK hl;rw [cW] at hk;have gy:k<(dec (e.den E.ρ)).l.length:=J
 have V:(dec (e.den E.ρ)).l[k]?=some (dec (e.den E.ρ)).l[k]:=aN gy;obtain⟨U,Z⟩:=j8 (ρ:=E.ρ) ho (j:=0) V;refine⟨_,_,_,U,Z,?_⟩;rw [aK];rcases pB hp hi hc with h3|⟨h3,rfl⟩
 ·rw [h3];obtain⟨p,p1,p2,_⟩:=lQ h3;have:=ho p p1
  grind
 ·rw [h3];refine⟨iM _ _,fun h us=>zD ?_,iM _ _⟩;rw [Dr E.ρ e i hi V];simp only [W.den,bA]
theorem Xj {i:TI} {l m:List AV} {v:AV} (h:partOf i l=some v):partOf i (l++m)=some v:=by
 unfold partOf at h ⊢;split at h
 ·rename_i ha;rw [aO] at h
  grind [FJ]
 grind
theorem JN [bS] {tt:TT} (db:fj P tt) {H:Hp} (r:ca E H w) {id:Nat} {cs:List AV} {e:TypeId} (hl:H.get id=some (.cells cs e)) {ty:Nat} {ti:TI} (iI:tt ty=some ti) {off:Nat} {l:List AV} (V:fE off cs=some l) {v:AV} (hv:partOf ti l=some v) :
 ∃x,(loadVar ty ⟨(E.θ id).1,(E.θ id).2+off,none⟩).run P w= .ok x w/\VR E w.heap v x:=by
 have hld:Db tt ty (.ptr id off) H=some v:=by
  unfold Db partOf at *;rw [iI];simp only [nH,hl,V];split at hv
  ·exact hv
  ·split at hv
   ·simp only [ah] at hv;subst hv;rfl
   grind
 have hid:=(r.live id _ hl).1;obtain⟨x,b,o,U,Z,h3⟩:=Da db r (p:=.ptr id off) (u:=.pointer (some ⟨(E.θ id).1,(E.θ id).2+off,none⟩)) (by simp only [VR]; exact⟨trivial,hid⟩) hld
 grind
theorem GG {k:IntKind}: ∀{cs:List AV} {ds:List D},GH k cs=some ds->ds.length=cs.length/\∀(i:Nat),i<cs.length->∃n,ds[i]?=some (.i n)/\cs[i]?=some (.int k (.lit n))
 |[],ds,h=>by
  simp only [GH,ah] at h
  grind
 |v::vs,ds,h=>by
  simp only [GH] at h;split at h
  ·split at h
   ·rename_i k' n;split at h
    ·rename_i hk;subst hk;split at h
     ·rename_i ds' yi;simp only [ah] at h;subst h;obtain⟨U,Z⟩:=GG yi
      grind
     grind
    grind
   grind
  grind
theorem Dk {α:Type}: ∀{i:Nat} {cs:List α} {a:α},cs[i]?=some a->∃l,fE i cs=some (a::l)
 |0,[],a,h=>by simp at h
 |0,c::cs,a,h=>by simp only [aF,ah] at h; subst h; exact⟨cs,rfl⟩
 |i+1,[],a,h=>by simp at h
 |i+1,c::cs,a,h=>Dk (cs:=cs) (by simpa using h)
theorem O2 {ρ:Nat->Int} {s s':St} {cs:List AV} {e:W} {v:AV} (hp:cD ρ s.pc) (h:(Kb s cs e).leaf ρ=some (v,s')) :
 s'.bH=s.bH/\s'.h=s.h/\cD ρ s'.pc/\∃(i:Nat) (k:IntKind) (n:Int) (x:W),e.den ρ=(i:Int)/\i<cs.length/\cs[i]?=some (.int k (.lit n))/\v= .int k x/\x.den ρ=n:=by
 unfold Kb at h;split at h
 ·grind [T.leaf]
 ·rename_i k hk;split at h
  ·grind [T.leaf]
  ·rename_i ds yi;obtain⟨U,Z⟩:=GG yi;obtain⟨fU,gQ,g1,g2,g3⟩:=oY hp h;simp only [T.leaf,ah,ak] at g3;obtain⟨rfl,rfl⟩:=g3;have g2':e.den ρ<(ds.length:Int):=by simpa [W.den] using g2
   have hi:e.den ρ=((e.den ρ).toNat:Int):=J
   have gy:(e.den ρ).toNat<cs.length:=J
   obtain⟨n,d1,d2⟩:=Z _ gy;refine⟨rfl,rfl,gQ,_,k,n,_,hi,gy,d2,rfl,?_⟩;simp only [Cv,W.den,gT.den,bA,D.at,bz,d1,ay,D.n]
theorem SY [bS] {tt:TT} (db:fj P tt) {s s':St} (r:ca E s.h w) (hp:cD E.ρ s.pc) {ty id es:Nat} {i:W} {off:Nat} {v:AV} {u:Value} (Y:VR E w.heap (.BF id es i off) u) (h:(Bz tt s ty id es i off).leaf E.ρ=some (v,s')) :
 s'.bH=s.bH/\s'.h=s.h/\cD E.ρ s'.pc/\∃x b o,u= .pointer (some ⟨b,o,none⟩)/\(loadVar ty ⟨b,o,none⟩).run P w= .ok x w/\VR E w.heap v x:=by
 unfold Bz at h;split at h
 ·rename_i o hl;split at h
  ·rename_i cs ety;split at h
   ·rename_i ti iI;split at h
    ·simp [T.leaf] at h
    ·rename_i hb;simp only [Bool.or_eq_false_iff,Bool.not_eq_false'] at hb;have me:=az hb.1.2;have hof:=az hb.2;subst me hof;obtain⟨U,Z,h3,k,kd,n,x,g1,g2,g3,rfl,g5⟩:=O2 hp h;refine⟨U,Z,h3,?_⟩;simp only [VR] at Y;obtain⟨hid,k',hk,rfl⟩:=Y;have zT:k'=k:=J
     subst zT;obtain⟨l,V⟩:=Dk g3;obtain⟨y,q1,q2⟩:=JN (P:=P) db r hl iI V (v:=.int kd (.lit n)) (by unfold partOf; rw [hb.1.1]);refine⟨y,_,_,rfl,by rw [asJ,arA]; exact q1,?_⟩;simp only [VR,W.den] at q2 ⊢;rw [q2,g5]
   ·simp [T.leaf] at h
  ·rename_i e t Cf ov;split at h
   ·rename_i ti iI;split at h
    ·rename_i me;obtain⟨pc0,hp0,U,Z,h3⟩:=oY hp h;obtain⟨fU,gQ,h3⟩:=xO (s:={ s with pc:=pc0 }) hp0 h3;split at h3
     ·rename_i cs hc;split at h3
      ·rename_i l C4;obtain⟨e1,rfl⟩:=jM h3;refine⟨rfl,rfl,gQ,?_⟩;simp only [VR] at Y;obtain⟨hid,k,hk,rfl⟩:=Y;obtain⟨pre,row,post,c1,c2,c3,c4,c5⟩:=acA r hl hk (by rw [<- hk]; exact Z) gQ hc;obtain⟨rc,ho,yF⟩:=r.rK hl
       have jt:OR E w.heap id (.cells (pre++(cs++post)) Cf):=by have:=(rc.live id _ (by rw [Hp.bV,ag rfl])).2.1;rw [c1] at this;simp only [OR] at this ⊢;obtain⟨arr,lo,hi,us,q1,q2,q3,q4,q5,q6,q7⟩:=this;refine⟨arr,lo,hi,us,q1,?_,q3,by simp only [bc,c3,c5] at q4 ⊢; exact q4,q5,q6,q7⟩;obtain⟨a,b,rfl,a1,a2⟩:=q2.split;obtain⟨a',b',rfl,b1,b2⟩:=a2.split;exact a1.append (((c4 _ _).1 b1).append b2)
       have r2:=r.swap (H2:=s.h.put id (.cells (pre++(cs++post)) Cf)) hl jt (by rw [Hp.bV,ag rfl]) (fun j hj=>by rw [Hp.bV,af hj]) rfl rfl
       have aqu:fE (k*es+off) (pre++(cs++post))=some (l++post):=by rw [Ko (m:=cs++post) (by rw [<- me,<- c2]; exact ve pre _)];exact Hz C4
       obtain⟨x,g1,g2⟩:=JN db r2 (by rw [Hp.bV,ag rfl]) iI aqu (Xj e1);exact⟨x,_,_,rfl,g1,g2⟩
      ·simp [T.leaf] at h3
     ·simp [T.leaf] at h3
    ·simp [T.leaf] at h
   ·simp [T.leaf] at h
  ·simp [T.leaf] at h
 ·simp [T.leaf] at h
end
theorem jZ.rd {ro:Nat->Prop} {h:Array Obj} {c:CK} {d:D} {u:Value} (r:jZ ro h c d u) (wf:rT c d):Rd ro h c d u:=by
 cases c with
 |int k=> simp only [jZ,rT] at r wf;rw [wf,r];exact .int k d.n
 |bool=>
  simp only [jZ,rT] at r wf;subst r;rcases wf with rfl|rfl
  ·exact .bool false
  ·exact .bool true
 |str=>exact r
 |sl t=>exact r
theorem eD.get {ro:Nat->Prop} {h:Array Obj} {d:D}: ∀{cs:List CK} {j:Nat} {us:List Value},eD ro h cs j d us->∀{k:Nat} {c:CK},cs[k]?=some c->∃u,us[k]?=some u/\jZ ro h c (d.V (j+k)) u
 |[],_,_,_,k,c,hk=>by simp at hk
 |c0::cs,j,us,hh,k,c,hk=>by
  simp only [eD] at hh;obtain⟨u,vs,rfl,U,Z⟩:=hh
  cases k with
  |zero=>
   grind
  |succ k=>
   obtain⟨x,h3,h4⟩:=Z.get (by simpa using hk)
   grind
theorem eD.length {ro:Nat->Prop} {h:Array Obj} {d:D}: ∀{cs:List CK} {j:Nat} {us:List Value},eD ro h cs j d us->us.length=cs.length
 |[],_,us,hh=>by simp only [eD] at hh; subst hh; rfl
 |c::cs,j,us,hh=>by simp only [eD] at hh;obtain⟨u,vs,rfl,_,Z⟩:=hh;simp [Z.length]
theorem eD.shift {ro:Nat->Prop} {h:Array Obj} {a b:D}: ∀{cs:List CK} {j:Nat} {us:List Value},eD ro h cs (j+1) (.p a b) us↔eD ro h cs j b us
 |[],_,us=>by simp only [eD]
 |c::cs,j,us=>by
  simp only [eD,Bh];constructor
  ·rintro⟨u,vs,rfl,U,Z⟩;exact⟨u,vs,rfl,U,eD.shift.1 Z⟩
  ·rintro⟨u,vs,rfl,U,Z⟩;exact⟨u,vs,rfl,U,eD.shift.2 Z⟩
section
variable {P:Program} {E:En} {w:World}
theorem qW {ρ:Nat->Int} {c:CK} {v:AV} {a:W} (h:oU c v=some a):rT c (dec (a.den ρ)):=by
 unfold oU at h;split at h
 ·split at h
  ·split at h
   ·simp only [ah] at h;subst h;simp only [rT,mr,bA,D.n]
   grind
  grind
 ·split at h
  ·split at h
   ·rename_i b;simp only [ah] at h;subst h;simp only [rT,W.den,bA]
    grind
   ·split at h
    ·split at h
     ·split at h
      ·simp only [ah] at h;subst h;simp only [rT,W.den,gT.den,bA]
       grind
      grind
     grind
    grind
   grind
  grind
 ·trivial
 ·trivial
theorem nv {h:Array Obj} {c:CK} {v:AV} {u:Value} {a:W} (hv:VR E h v u) (hc:oU c v=some a):jZ E.ro h c (dec (a.den E.ρ)) u:=by
 unfold oU at hc;split at hc
 ·split at hc
  ·split at hc
   ·rename_i hk;subst hk;simp only [ah] at hc;subst hc;simp only [VR] at hv;simp only [jZ,mr,bA,D.n];exact hv
   grind
  grind
 ·split at hc
  ·split at hc
   ·rename_i b;simp only [ah] at hc;subst hc;simp only [VR,SB.den] at hv;subst hv;simp only [jZ,W.den,bA];cases b<;>rfl
   ·split at hc
    ·split at hc
     ·split at hc
      ·rename_i x n hn;subst hn;simp only [ah] at hc;subst hc;simp only [VR,SB.den,W.den] at hv;subst hv;simp only [jZ,W.den,gT.den,mr,bA,D.n];congr 2
       grind
      grind
     grind
    grind
   grind
  grind
 ·obtain⟨s,rfl,hs⟩:=AA hv hc;simp only [jZ,hs];exact .str s
 ·split at hc
  ·split at hc
   ·rename_i ht;subst ht;simp only [ah] at hc;subst hc;exact hv
   grind
  ·simp only [ah] at hc;subst hc;simp only [VR] at hv;subst hv;simp only [jZ,W.den,bA];exact .nil _
  ·split at hc
   ·rename_i ht;subst ht;simp only [ah] at hc;subst hc;simp only [VR] at hv;exact hv.2
   grind
  ·split at hc
   ·simp only [ah] at hc;subst hc;simp only [VR] at hv;obtain⟨_,a,cap,rfl,_⟩:=hv;simp only [jZ,W.den,bA];exact .xZ _ _ _
   grind
  grind
theorem BN {ρ:Nat->Int}: ∀{cs:List CK} {vs:List AV} {x:W},jW cs vs=some x->M4 cs (dec (x.den ρ))
 |[],[],x,h=>by
  simp only [jW,ah] at h;subst h;refine⟨?_,?_,?_⟩
  ·simp only [W.den,bA]; rfl
  ·simp only [W.den,bA]; rfl
  grind
 |[],_::_,x,h=>by simp [jW] at h
 |_::_,[],x,h=>by simp [jW] at h
 |c::cs,v::vs,x,h=>by
  simp only [jW] at h;split at h
  ·grind
  ·rename_i a ha;split at h
   ·grind
   ·rename_i b hb;simp only [ah] at h;subst h;obtain⟨U,Z,h3⟩:=BN (ρ:=ρ) hb;refine⟨?_,?_,?_⟩
    ·simp only [gD,W.den,gT.den,bA,D.l,dL]
     grind
    ·simp only [gD,W.den,gT.den,bA,D.l,aT,Z]
    ·intro j c' y hj hy;simp only [gD,W.den,gT.den,bA,D.l] at hy
     cases j with
     |zero=> simp only [aF,ah] at hj hy;subst hj hy;exact qW ha
     |succ j=>exact h3 j c' y (by simpa using hj) (by simpa using hy)
theorem BO {h:Array Obj}: ∀{cs:List CK} {vs:List AV} {us:List Value} {x:W},cL E h vs us->jW cs vs=some x->eD E.ro h cs 0 (dec (x.den E.ρ)) us
 |[],[],us,x,hv,hc=>by simp only [cL] at hv; subst hv; simp [eD]
 |[],_::_,_,x,_,hc=>by simp [jW] at hc
 |_::_,[],_,x,_,hc=>by simp [jW] at hc
 |c::cs,v::vs,us,x,hv,hc=>by
  simp only [jW] at hc;rw [bX] at hv;obtain⟨u,iA,rfl,U,Z⟩:=hv;split at hc
  ·grind
  ·rename_i a ha;split at hc
   ·grind
   ·rename_i b hb;simp only [ah] at hc;subst hc;simp only [eD,gD,W.den,gT.den,bA];refine⟨u,iA,rfl,by rw [Bg]; exact nv U ha,?_⟩;rw [eD.shift];exact BO Z hb
theorem vk {ρ:Nat->Int} {r:Row} {cs:List AV} {x:W} (h:sI r cs=some x):rS r (dec (x.den ρ)):=by
 unfold sI at h;split at h
 ·split at h
  ·exact qW h
  grind
 ·exact BN h
theorem vm {h:Array Obj} {r:Row} {cs:List AV} {us:List Value} {x:W} (hv:cL E h cs us) (hc:sI r cs=some x):yL E.ro h r (dec (x.den E.ρ)) us:=by
 unfold sI at hc;split at hc
 ·split at hc
  ·rw [bX] at hv;obtain⟨u,iA,rfl,U,Z⟩:=hv;rw [jz] at Z;subst Z;exact⟨u,rfl,nv U hc⟩
  grind
 ·exact BO hv hc
theorem xw {ρ:Nat->Int} {r:Row}: ∀(m:Nat) {e e1:W} {news:List AV},mH r e m news=some e1->
 ∃ds:List D,ds.length=m/\(dec (e1.den ρ)).l=(dec (e.den ρ)).l++ds/\(dec (e.den ρ)=dL (dec (e.den ρ)).l->dec (e1.den ρ)=dL (dec (e1.den ρ)).l)/\(∀d∈ds,rS r d)/\
  ∀(E':En) (h:Array Obj) (us:List Value) (j:Nat),E'.ρ=ρ->cL E' h news us->cL E' h (bJ ρ r [] ds j) us
 |0,e,e1,[],h=>by simp only [mH,ah] at h;subst h;exact⟨[],rfl,ad,id,ad,fun E' h us j _ hv=>by simpa [bJ] using hv⟩
 |0,e,e1,_::_,h=>by simp [mH] at h
 |m+1,e,e1,news,h=>by
  simp only [mH] at h;split at h
  ·grind
  ·rename_i x Y;obtain⟨ds,U,Z,h3,h4,h5⟩:=xw (ρ:=ρ) m h;have hs:dec ((W.op .snoc e x).den ρ)=dL ((dec (e.den ρ)).l++ [dec (x.den ρ)]):=by simp only [W.den,gT.den,bA]
   refine⟨dec (x.den ρ)::ds,by simp [U],?_,fun _=>h3 (by rw [hs,bz]),?_,?_⟩
   ·rw [Z,hs,bz]; simp
   ·intro d V;rcases aH.1 V with rfl|V
    ·exact vk Y
    grind
   ·intro E' h us j hρ hv;rw [<- ar8 r.es news] at hv;obtain⟨a,b,rfl,a1,a2⟩:=hv.split;simp only [bJ,eE];refine cL.append ?_ (h5 E' h b (j+1) hρ a2);rw [gW];simp only [W.den,bA];have:=vm a1 Y
    grind
theorem Ug {h:Array Obj} {id:Nat} {e:W} {t:Nat} {ty:TypeId} {ro:Nat->Prop} (pH: ∀b,E.ro b->ro b) (hb:ro (E.θ id).1) (ho:OR E h id (.vec e t ty [])) {k cap:Nat} {a:Addr} (hk:k=(dec (e.den E.ρ)).l.length) (lH:k<=cap)
 (hc:0<k->a=⟨(E.θ id).1,(E.θ id).2,none⟩):Rd ro h (.sl t) (dec (e.den E.ρ)) (.slice (some a) k cap):=by
 obtain⟨⟨P5,yF⟩,B5⟩:=OR.rK.1 ho;obtain⟨us,U,Z,h3⟩:=zk B5;obtain⟨w1,w2,w3⟩:=yF;rcases ar9 k with h0|nz
 ·subst h0;exact absurd (arL hk.symm) w3
 ·have ha:a=⟨(E.θ id).1,(E.θ id).2,none⟩:=hc nz;subst ha;subst hk
  have jt: ∀(i:Nat) (x:D),(dec (e.den E.ρ)).l[i]?=some x->∃rs,yL ro h (rowOf t) x rs/\∀j u,rs[j]?=some u->us[i*(rowOf t).es+j]?=some u:=by
   intro i x Y;obtain⟨c1,c2⟩:=j8 (ρ:=E.ρ) P5 (j:=0) Y;unfold cU at U;rw [c1] at U;obtain⟨p,q,rfl,p1,p2⟩:=U.split;obtain⟨q1,q2,rfl,r1,r2⟩:=p2.split;have hp:=p1.length;rw [c2] at hp;refine⟨q1,?_,?_⟩
   ·have r1':cL E h (iE (rowOf t) (.fk x)) q1:=r1;rw [gW] at r1';simp only [W.den,bA] at r1'
    have mono: ∀c d u,jZ E.ro h c d u->jZ ro h c d u:=by
     intro c d u hh
     cases c with
     |int k=>exact hh
     |bool=>exact hh
     |str=>exact Rd.dv pH (fun _ _=>rfl) hh
     |sl t=>exact Rd.dv pH (fun _ _=>rfl) hh
    have ano: ∀(cs:List CK) (j:Nat) (d:D) (us:List Value),eD E.ro h cs j d us->eD ro h cs j d us:=by
     intro cs
     induction cs with
     |nil=>intro j d us hh; exact hh
     |cons c cs ih=> intro j d us hh;obtain⟨u,vs,rfl,g1,g2⟩:=hh;exact⟨u,vs,rfl,mono _ _ _ g1,ih _ _ _ g2⟩
    cases hr:rowOf t with
    |one c=> rw [hr] at r1';obtain⟨u,rfl,g1⟩:=r1';exact⟨u,rfl,mono _ _ _ g1⟩
    |many cs=> rw [hr] at r1';exact ano _ _ _ _ r1'
   ·intro j u hj;rw [atk J,hp];rw [show i*(rowOf t).es+j-i*(rowOf t).es=j by omega];have:=(bg.1 hj).1;rw [List.getElem?_append_left this];exact hj
  rw [w1];simp only [bz] at jt ⊢;generalize hL:(dec (e.den E.ρ)).l=L at *
  cases hr:rowOf t with
  |one c=>
   refine .one t c _ _ cap L (fun i=>(us[i]?).getD undef) hr lH hb ?_ ?_
   ·intro i d V;obtain⟨rs,g1,g2⟩:=jt i d V;rw [hr] at g1;obtain⟨u,rfl,g3⟩:=g1;have:=g2 0 u rfl;rw [hr] at this;simp only [Row.es,asJ,arA] at this;rw [this];exact Z i u this
   ·intro i d V;obtain⟨rs,g1,g2⟩:=jt i d V;rw [hr] at g1;obtain⟨u,rfl,g3⟩:=g1;have:=g2 0 u rfl;rw [hr] at this;simp only [Row.es,asJ,arA] at this;rw [this];have hw:=w2 d (arq V);rw [hr] at hw;exact g3.rd hw
  |many cs=>
   have hwr: ∀d∈L,M4 cs d:=by intro d V;have:=w2 d V;rw [hr] at this;exact this
   have hLm:L=(L.map D.l).map dL:=by rw [arT];have:L.map (dL ∘ D.l)=L.map (fun d=>d):=ar4 fun d V=>(hwr d V).1.symm;rw [this,List.map_id']
   have hlen:(L.map D.l).length=L.length:=ad
   have an9:(L.map D.l).length<=cap:=by rw [hlen]; exact lH
   have goal:Rd ro h (.sl t) (dL ((L.map D.l).map dL)) (.slice (some ⟨(E.θ id).1,(E.θ id).2,none⟩) (L.map D.l).length cap):=by
    refine .many t cs _ _ cap (L.map D.l) (fun i j=>(us[i*cs.length+j]?).getD undef) hr an9 hb ?_ ?_ ?_
    ·intro r hrm;rw [aR] at hrm;obtain⟨d,V,rfl⟩:=hrm;exact (hwr d V).2.1
    ·intro i r j d hi hj;rw [bk,aO] at hi;obtain⟨x,Y,rfl⟩:=hi;obtain⟨rs,g1,g2⟩:=jt i x Y;rw [hr] at g1;have hjl:j<cs.length:=by rw [<- (hwr x (arq Y)).2.1]; exact (bg.1 hj).1
     obtain⟨u,g3,g4⟩:=eD.get g1 (aN hjl);have:=g2 j u g3;rw [hr] at this;simp only [Row.es] at this;rw [this,arz];exact Z _ u this
    ·intro i r j d c hi hj hcj;rw [bk,aO] at hi;obtain⟨x,Y,rfl⟩:=hi;obtain⟨rs,g1,g2⟩:=jt i x Y;rw [hr] at g1;obtain⟨u,g3,g4⟩:=eD.get g1 hcj;have:=g2 j u g3;rw [hr] at this;simp only [Row.es] at this;rw [this];rw [aK] at g4;have V:x.V j=d:=by simp [D.V,hj]
     rw [V] at g4;exact g4.rd ((hwr x (arq Y)).2.2 j c d hcj hj)
   rw [<- hLm,hlen] at goal;exact goal
theorem Zy {h:Array Obj} {id:Nat} {e:W} {t:Nat} {ty:TypeId} {ro:Nat->Prop} (pH: ∀b,E.ro b->ro b) (hb:ro (E.θ id).1) (ho:OR E h id (.vec e t ty [])) {k cap:Nat} {a:Addr} (hk:k=(dec (e.den E.ρ)).l.length) (lH:k<=cap)
 (hc:fJ E id 0 k a cap (.rest (rowOf t).es)):Rd ro h (.sl t) (dec (e.den E.ρ)) (.slice (some a) k cap):=by
 refine Ug pH hb ho hk lH fun nz=>?_;simp only [fJ] at hc
 grind
structure Sub (H' H:Hp):Prop where
 get: ∀j o,H'.get j=some o->H.get j=some o
 next:H'.next=H.next
 res:H'.res=H.res
theorem Sub.refl (H:Hp):Sub H H:=⟨fun _ _ h=>h,rfl,rfl⟩
theorem Sub.trans {A B C:Hp} (a:Sub B A) (b:Sub C B):Sub C A:=⟨fun j o h=>a.get j o (b.get j o h),b.next.trans a.next,b.res.trans a.res⟩
theorem Sub.drop (H:Hp) (id:Nat):Sub (H.drop id) H:=by
 refine⟨fun j o hj=>?_,rfl,rfl⟩
 grind [Hp.pU]
theorem MF [bS] {H:Hp} (r:ca E H w) {id:Nat} {o:eL} (hl:H.get id=some o) :
 lj E w.heap { E with ro:=fun b=>E.ro b\/b=(E.θ id).1 } w.heap/\fP E H w { E with ro:=fun b=>E.ro b\/b=(E.θ id).1 } (H.drop id) w/\ca { E with ro:=fun b=>E.ro b\/b=(E.θ id).1 } (H.drop id) w:=by
 have hk:lj E w.heap { E with ro:=fun b=>E.ro b\/b=(E.θ id).1 } w.heap:=⟨rfl,fun _ h=>h,fun _ _=>rfl,fun _ _=>rfl,fun _ h=> .inl h,fun _ _=>rfl⟩
 have hg: ∀j o,(H.drop id).get j=some o->H.get j=some o/\j≠id:=by
  intro j o hj
  grind [Hp.pU]
 refine⟨hk,⟨rfl,fun _ h=>h,fun _ _=>rfl,fun _ _=>rfl,fun _ h=> .inl h,?_,ax _,.inr rfl,fun _ h=> .inl h,rfl,rfl,rfl,ax _,fun _ _ _=>rfl,fun j o hj _=> ⟨j,o,(hg j o hj).1,rfl⟩⟩,
  ⟨r.fresh,r.res,?_,?_,?_,bS.dv r.mE (fun _ h=> .inl h) (fun _ _=>rfl)⟩⟩
 ·intro b hb
  grind
 ·intro j o hj;obtain⟨U,Z⟩:=hg j o hj;obtain⟨g1,g2,g3⟩:=r.live j o U;refine⟨g1,g2.dv hk g1 rfl,?_⟩;rintro (hb|hb)
  ·grind
  ·exact Z (r.inj j id o _ U hl hb)
 ·intro i j x y hi hj he;exact r.inj i j x y (hg i x hi).1 (hg j y hj).1 he
 ·intro b hb;rcases hb with hb|rfl
  ·exact r.wE b hb
  ·exact iH r hl
theorem akF [bS] {H H':Hp} (r:ca E H w) {v v':AV} (h:frz v H=(v',H')) :
 ∃E',E'.ρ=E.ρ/\fP E H w E' H' w/\ca E' H' w/\(∀u,VR E w.heap v u->VR E' w.heap v' u)/\Sub H' H:=by
 have same:(v,H)=(v',H')->∃E',E'.ρ=E.ρ/\fP E H w E' H' w/\ca E' H' w/\(∀u,VR E w.heap v u->VR E' w.heap v' u)/\Sub H' H:=by
  intro he;simp only [ak] at he
  grind [fP.refl,Sub.refl]
 unfold frz at h;split at h
 ·rename_i id n t;split at h
  ·rename_i o hl;split at h
   ·rename_i e t' ty ov;split at h
    ·split at h
     ·rename_i ht;split at h
      ·rename_i hn;simp only [ak] at h;obtain⟨rfl,rfl⟩:=h;have ht:=az ht;have hn:=dy _ _ hn;subst ht hn;have Bd:=r.live id _ hl;obtain⟨hk,s1,r1⟩:=MF r hl;refine⟨{ E with ro:=fun b=>E.ro b\/b=(E.θ id).1 },rfl,s1,r1,fun u hv=>?_,Sub.drop _ _⟩;simp only [VR] at hv ⊢
       grind [cW,Zy]
      grind
     grind
    grind
   grind
  grind
 ·simp only [ak] at h;obtain⟨rfl,rfl⟩:=h;exact⟨E,rfl,fP.refl _ _ _,r,fun u hu=>by simp only [VR] at hu ⊢; exact hu.2,Sub.refl _⟩
 grind
end
end Go.As
end

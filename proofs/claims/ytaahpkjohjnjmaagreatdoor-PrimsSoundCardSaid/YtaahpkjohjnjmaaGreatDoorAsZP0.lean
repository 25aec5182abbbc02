import GoSem.Claim
import Derived.Orders
import Derived.Scope
import Derived.LoopN
import Derived.Below
import GoSem.Core.View
import GoSem.Core.Layout
import GoSem.Op.Equal
import Derived.WalkKit
import Derived.Lib.Strings
import Derived.Laws.IdiomStrings
import Derived.Laws.RangeString
import Derived.Laws.StructEq
set_option linter.unusedSectionVars false
set_option linter.unusedVariables false
set_option linter.unusedSimpArgs false
abbrev aCI:=@if_neg
abbrev aCJ:=@Option.some.injEq
abbrev aCK:=@Prod.mk.injEq
abbrev aCL:=@if_pos
abbrev aCM:=@Bool.and_eq_true
abbrev aCN:=@Nat.le_refl
abbrev aCO:=@Nat.eq_of_beq_eq_true
abbrev aCP:=@List.mem_cons
abbrev aCQ:=@List.map_cons
abbrev aCR:=@Nat.zero_add
abbrev aCS:=@Int.lt_irrefl
abbrev aCT:=@Option.getD_some
abbrev aCU:=@Bool.false_eq_true
abbrev aCV:=@List.getElem?_eq_getElem
abbrev aCW:=@List.length_cons
abbrev aCX:=@Option.map_eq_some_iff
abbrev aCY:=@List.getElem_mem
abbrev aCZ:=@Nat.lt_or_ge
abbrev aC0:=@List.all_eq_true
abbrev aC1:=@List.getElem?_eq_some_iff
abbrev aC2:=@List.nil_append
abbrev aC3:=@List.length_nil
abbrev aC4:=@List.mem_map
abbrev aC5:=@List.length_append
abbrev aC6:=@List.getElem?_cons_zero
abbrev aC7:=@List.getElem?_cons_succ
abbrev aC8:=@List.cons_append
abbrev aC9:=@Array.length_toList
abbrev aDa:=@List.length_take
abbrev aDb:=@Nat.le_trans
abbrev aDc:=@Int.natCast_one
abbrev aDd:=@List.getElem?_map
abbrev aDe:=@Option.isSome_some
abbrev aDf:=@Nat.add_zero
abbrev aDg:=@List.length_drop
abbrev aDh:=@List.mem_of_mem_drop
abbrev aDi:=@List.mem_of_getElem?
abbrev aDj:=@Int.toNat_natCast
abbrev aDk:=@Array.getElem?_toList
abbrev aDl:=@Nat.add_assoc
abbrev aDm:=@Nat.zero_mul
abbrev aDn:=@List.mem_of_mem_take
abbrev aDo:=@Option.map_some
abbrev aDp:=@List.mem_append
abbrev aDq:=@List.eq_nil_of_length_eq_zero
abbrev aDr:=@List.drop_eq_getElem_cons
abbrev aDs:=@Nat.add_mul
abbrev aDt:=@List.not_mem_nil
abbrev aDu:=@Bool.eq_iff_iff
abbrev aDv:=@List.mem_range
abbrev aDw:=@Nat.le_of_ble_eq_true
abbrev aDx:=@Array.getElem?_eq_some_iff
abbrev aDy:=@Nat.mod_eq_of_lt
abbrev aDz:=@List.length_map
abbrev aDA:=@Nat.lt_of_lt_of_le
abbrev aDB:=@List.length_pos_iff
abbrev aDC:=@Bool.not_eq_true'
abbrev aDD:=@List.take_append_drop
abbrev aDE:=@List.nodup_cons
abbrev aDF:=@List.mem_filter
abbrev aDG:=@UInt8.toNat_ofNat'
abbrev aDH:=@Nat.mul_le_mul_right
abbrev aDI:=@Option.isSome_iff_exists
abbrev aDJ:=@List.getElem?_drop
abbrev aDK:=@List.getElem?_take
abbrev aDL:=@Array.getD_eq_getD_getElem?
abbrev aDM:=@Bool.or_eq_true
abbrev aDN:=@Int.not_lt
abbrev aDO:=@Nat.eq_zero_or_pos
abbrev aDP:=@Nat.zero_le
abbrev aDQ:=@List.map_append
abbrev aDR:=@Option.getD_none
abbrev aDS:=@Nat.one_mul
abbrev aDT:=@List.map_map
abbrev aDU:=@List.set_cons_zero
abbrev aDV:=@List.set_cons_succ
abbrev aDW:=@List.take_succ_cons
abbrev aDX:=@List.append_nil
abbrev aDY:=@List.length_replicate
abbrev aDZ:=@Bool.eq_false_iff
abbrev aD0:=@List.take_of_length_le
abbrev aD1:=@Array.getElem?_replicate
abbrev aD2:=@Nat.blt_eq
abbrev aD3:=@Option.isSome_none
abbrev aD4:=@List.mem_iff_getElem?
abbrev aD5:=@Nat.ne_of_beq_eq_false
abbrev aD6:=@List.mapM_cons
abbrev aD7:=@List.append_assoc
abbrev aD8:=@List.getElem?_eq_none_iff
abbrev aD9:=@List.drop_zero
abbrev aEa:=@List.take_length
abbrev aEb:=@Nat.mul_pos
abbrev aEc:=@Bool.false_or
abbrev aEd:=@List.getElem_of_mem
abbrev aEe:=@List.getElem?_eq_none
abbrev aEf:=@Nat.ble_eq_true_of_le
abbrev aEg:=@List.getElem?_range
abbrev aEh:=@Nat.pow_succ
abbrev aEi:=@Int.ofNat_inj
abbrev aEj:=@List.map_congr_left
abbrev aEk:=@List.ext_getElem?
abbrev aEl:=@Option.bind_eq_some_iff
abbrev aEm:=@Bool.or_false
abbrev aEn:=@List.foldlM_cons
abbrev aEo:=@Nat.mul_one
abbrev aEp:=@List.length_set
abbrev aEq:=@Int.ofNat_lt
abbrev aEr:=@List.nodup_append
abbrev aEs:=@List.eq_nil_iff_forall_not_mem
abbrev aEt:=@List.getElem?_of_mem
abbrev aEu:=@Bool.not_true
abbrev aEv:=@List.getD_eq_getElem?_getD
abbrev aEw:=@List.all_append
abbrev aEx:=@Nat.pow_zero
abbrev aEy:=@Nat.mul_comm
abbrev aEz:=@Int.tmod_lt_of_pos
abbrev aEA:=@Option.bind_eq_bind
abbrev aEB:=@List.getElem?_append
abbrev aEC:=@Nat.mul_le_mul
abbrev aED:=@List.map_take
abbrev aEE:=@List.map_drop
abbrev aEF:=@List.eraseIdx_cons_succ
abbrev aEG:=@Array.toList_map
abbrev aEH:=@Nat.le_of_mul_le_mul_right
abbrev aEI:=@List.drop_succ_cons
abbrev aEJ:=@List.getElem?_append_right
abbrev aEK:=@List.take_set_of_le
abbrev aEL:=@List.drop_set_of_lt
abbrev aEM:=@Nat.div_mul_le_self
abbrev aEN:=@List.replicate_succ
abbrev aEO:=@Nat.lt_trichotomy
abbrev aEP:=@Array.mem_of_getElem?
abbrev aEQ:=@List.length_reverse
abbrev aER:=@Nat.min_eq_left
abbrev aES:=@List.getElem?_toArray
abbrev aET:=@Array.getElem?_eq_none
abbrev aEU:=@Array.getElem?_setIfInBounds
abbrev aEV:=@List.any_eq_true
abbrev aEW:=@List.drop_drop
abbrev aEX:=@Nat.add_sub_cancel_left
abbrev aEY:=@Nat.sub_zero
abbrev aEZ:=@List.mem_cons_of_mem
abbrev aE0:=@List.take_succ_eq_append_getElem
abbrev aE1:=@Array.getElem?_modify
abbrev aE2:=@Array.getElem?_append_left
abbrev aE3:=@List.getElem?_append_left
abbrev aE4:=@List.drop_eq_nil_of_le
abbrev aE5:=@List.eq_of_mem_replicate
abbrev aE6:=@Array.mapM_eq_mapM_toList
abbrev aE7:=@Array.getElem?_eq_none_iff
abbrev aE8:=@Array.getElem?_eq_getElem
abbrev aE9:=@List.drop_of_length_le
abbrev aFa:=@List.contains_iff_mem
abbrev aFb:=@List.getElem_set_self
abbrev aFc:=@List.mem_append_right
section
namespace Go.As
inductive Tr (α:Type) where
 |nil
 |node (v:Option α) (l r:Tr α)
 deriving Inhabited
noncomputable def Tr.get {α:Type} (t:Tr α) (k:Nat):Option α:=
 Tr.rec (motive:=fun _=>Nat->Option α) (fun _=>none)
  (fun v _ _ il ir k=>Nat.rec (motive:=fun _=>Option α) v (fun k' _=>Bool.rec (motive:=fun _=>Option α) (ir (Nat.div k' 2)) (il (Nat.div k' 2)) (Nat.beq (Nat.mod k' 2) 0)) k) t k
def Tr.val {α:Type}:Tr α->Option α
 | .nil=>none
 | .node v _ _=>v
def Tr.left {α:Type}:Tr α->Tr α
 | .nil=> .nil
 | .node _ l _=>l
def Tr.right {α:Type}:Tr α->Tr α
 | .nil=> .nil
 | .node _ _ r=>r
noncomputable def Tr.mkL {α:Type} (v:Option α) (x r:Tr α):Tr α:=Tr.rec (motive:=fun _=>Tr α) (.node v .nil r) (fun a b c _ _=> .node v (.node a b c) r) x
noncomputable def Tr.mkR {α:Type} (v:Option α) (l x:Tr α):Tr α:=Tr.rec (motive:=fun _=>Tr α) (.node v l .nil) (fun a b c _ _=> .node v l (.node a b c)) x
noncomputable def Tr.abS {α:Type} (f:Nat):Tr α->Nat->Option α->Tr α:=
 Nat.rec (motive:=fun _=>Tr α->Nat->Option α->Tr α) (fun t _ _=>t)
  (fun _ ih t k x=>Tr.rec (motive:=fun _=>Tr α)
   (Nat.rec (motive:=fun _=>Tr α) (.node x .nil .nil) (fun k' _=>Bool.rec (motive:=fun _=>Tr α) (Tr.mkR none .nil (ih .nil (Nat.div k' 2) x)) (Tr.mkL none (ih .nil (Nat.div k' 2) x) .nil) (Nat.beq (Nat.mod k' 2) 0)) k)
   (fun v l r _ _=>Nat.rec (motive:=fun _=>Tr α) (.node x l r) (fun k' _=>Bool.rec (motive:=fun _=>Tr α) (Tr.mkR v l (ih r (Nat.div k' 2) x)) (Tr.mkL v (ih l (Nat.div k' 2) x) r) (Nat.beq (Nat.mod k' 2) 0)) k) t) f
noncomputable def Tr.put {α:Type} (t:Tr α) (k:Nat) (v:Option α):Tr α:=Tr.abS (Nat.succ k) t k v
theorem apQ (a b:Nat):Nat.beq a b=decide (a=b):=by rw [aDu];simp
theorem JB {β:Sort _} (a b:β) (c:Nat):Bool.rec (motive:=fun _=>β) a b (Nat.beq c 0)=if c=0 then b else a:=by
 by_cases h:c=0
 ·subst h; rfl
 ·rw [aCI h];have:Nat.beq c 0=false:=by rw [apQ]; simpa using h
  rw [this]
theorem Tr.sH {α:Type} (v:Option α) (l r:Tr α) (k:Nat) :
 (Tr.node v l r).get k=if k=0 then v else if (k-1) % 2=0 then l.get ((k-1) / 2) else r.get ((k-1) / 2):=by
 cases k with
 |zero=>rfl
 |succ k=> simp only [Nat.add_sub_cancel,Nat.succ_ne_zero,if_false];exact JB _ _ _
theorem Tr.Dv {α:Type} (t:Tr α) (k:Nat) :
 t.get k=if k=0 then t.val else if (k-1) % 2=0 then t.left.get ((k-1) / 2) else t.right.get ((k-1) / 2):=by
 cases t with
 |nil=> have h: ∀j,(Tr.nil:Tr α).get j=none:=fun _=>rfl;simp [h,Tr.val,Tr.left,Tr.right]
 |node v l r=>rw [Tr.sH]; rfl
theorem Tr.auO {α:Type} (v:Option α) (x r:Tr α):Tr.mkL v x r= .node v x r:=by cases x<;>rfl
theorem Tr.auN {α:Type} (v:Option α) (l x:Tr α):Tr.mkR v l x= .node v l x:=by cases x<;>rfl
theorem Tr.abQ {α:Type} (f:Nat) (t:Tr α) (v:Option α):Tr.abS (f+1) t 0 v= .node v t.left t.right:=by cases t<;>rfl
theorem Tr.abR {α:Type} (f:Nat) (t:Tr α) (k:Nat) (v:Option α):Tr.abS (f+1) t (k+1) v=if k % 2=0 then .node t.val (Tr.abS f t.left (k / 2) v) t.right else .node t.val t.left (Tr.abS f t.right (k / 2) v):=by rw [<- Tr.auO,<- Tr.auN];cases t<;>exact JB _ _ _
theorem Tr.aiC {α:Type}: ∀(f:Nat) (t:Tr α) (k:Nat) (v:Option α) (j:Nat),k<f->(Tr.abS f t k v).get j=if j=k then v else t.get j:=by
 intro f
 induction f with
 |zero=>intro t k v j hk; omega
 |succ f ih=>
  intro t k v j hk
  cases k with
  |zero=> rw [Tr.abQ,Tr.sH,Tr.Dv t];split<;>simp_all
  |succ k=>
   rw [Tr.abR,Tr.Dv t j];split
   ·rename_i h;rw [Tr.sH];by_cases hj:j=0
    ·subst hj; simp
    ·rw [aCI hj,aCI hj];by_cases h2:(j-1) % 2=0
     ·rw [aCL h2,aCL h2,ih _ _ _ _ (by omega)];by_cases h3:j=k+1
      ·subst h3; simp
      ·rw [aCI h3,aCI (by omega)]
     ·rw [aCI h2,aCI h2,aCI (by intro h3; subst h3; simp at h2; omega)]
   ·rename_i h;rw [Tr.sH];by_cases hj:j=0
    ·subst hj; simp
    ·rw [aCI hj,aCI hj];by_cases h2:(j-1) % 2=0
     ·rw [aCL h2,aCL h2,aCI (by intro h3; subst h3; simp at h2; omega)]
     ·rw [aCI h2,aCI h2,ih _ _ _ _ (by omega)];by_cases h3:j=k+1
      ·subst h3; simp
      ·rw [aCI h3,aCI (by omega)]
theorem Tr.get_put {α:Type} (t:Tr α) (k:Nat) (v:Option α) (j:Nat):(t.put k v).get j=if j=k then v else t.get j:=
 Tr.aiC (Nat.succ k) t k v j (Nat.lt_succ_self _)
inductive D where
 |i (n:Int)
 |p (a b:D)
 deriving DecidableEq,Inhabited
def zN:Int->Nat
 | .ofNat n=>2*n
 | .negSucc n=>2*n+1
theorem adX {a b:Int} (h:zN a=zN b):a=b:=by
 cases a<;>cases b<;>simp only [zN] at h
 all_goals grind
def tZ (a b:Nat):Nat:=2 ^ a*(2*b+1)
theorem Ik: ∀{a a' b b':Nat},tZ a b=tZ a' b'->a=a'/\b=b'
 |0,0,b,b',h=>by simp only [tZ,aEx,aDS] at h; omega
 |0,a'+1,b,b',h=>by
  simp only [tZ,aEx,aDS,aEh] at h
  grind
 |a+1,0,b,b',h=>by
  simp only [tZ,aEx,aDS,aEh] at h
  grind
 |a+1,a'+1,b,b',h=>by
  have h1:2 ^ (a+1)*(2*b+1)=2*tZ a b:=by unfold tZ; rw [aEh,aEy (2 ^ a) 2,Nat.mul_assoc]
  have h2:2 ^ (a'+1)*(2*b'+1)=2*tZ a' b':=by unfold tZ; rw [aEh,aEy (2 ^ a') 2,Nat.mul_assoc]
  have h3:tZ a b=tZ a' b':=by
   have:tZ (a+1) b=tZ (a'+1) b':=h;unfold tZ at this
   grind
  obtain⟨e1,e2⟩:=Ik h3
  grind
def D.enc:D->Nat
 | .i n=>2*zN n
 | .p a b=>2*tZ a.enc b.enc+1
theorem D.kP: ∀{a b:D},a.enc=b.enc->a=b
 | .i n,.i m,h=>by simp only [D.enc] at h;rw [adX (a:=n) (b:=m) (by omega)]
 | .i n,.p a b,h=>by simp only [D.enc] at h; omega
 | .p a b,.i n,h=>by simp only [D.enc] at h; omega
 | .p a b,.p c d,h=>by simp only [D.enc] at h;obtain⟨h1,h2⟩:=Ik (a:=a.enc) (b:=b.enc) (a':=c.enc) (b':=d.enc) (by omega);rw [D.kP h1,D.kP h2]
open Classical in
noncomputable def dec (z:Int):D:=if h: ∃d:D,(d.enc:Int)=z then h.choose else .i 0
def enc (d:D):Int:=(d.enc:Int)
theorem aA (d:D):dec (enc d)=d:=by unfold dec;have h: ∃d':D,(d'.enc:Int)=enc d:=⟨d,rfl⟩;rw [dif_pos h];have:=h.choose_spec;apply D.kP;unfold enc at this;exact Int.ofNat.inj this
theorem kP {a b:D} (h:enc a=enc b):a=b:=by rw [<- aA a,h,aA]
def D.n:D->Int
 | .i n=>n
 | .p _ _=>0
def D.l:D->List D
 | .i _=>[]
 | .p a b=>a::b.l
def dL:List D->D
 |[]=> .i 0
 |a::l=> .p a (dL l)
@[simp] theorem aY: ∀l:List D,(dL l).l=l
 |[]=>rfl
 |a::l=>by simp [dL,D.l,aY l]
theorem IV {a b:List D} (h:dL a=dL b):a=b:=by rw [<- aY a,h,aY]
def D.at (d:D) (i:Int):D:=(d.l[i.toNat]?).getD (.i 0)
def D.hd (d:D) (j:Nat):D:=(d.l[j]?).getD (.i 0)
def vJ (l:List UInt8):D:=dL (l.map fun b=> .i (b.toNat:Int))
def Am (s:ByteArray):D:=vJ s.data.toList
def nP (l:List Nat):D:=dL (l.map fun b=> .i (Int.ofNat b))
theorem YL {a b:List UInt8} (h:vJ a=vJ b):a=b:=by
 have:=IV h
 have hinj: ∀{x y:UInt8},(D.i (x.toNat:Int))= .i (y.toNat:Int)->x=y:=by intro x y h;simp only [D.i.injEq,aEi] at h;exact UInt8.toNat_inj.1 h
 induction a generalizing b with
 |nil=>cases b with
  |nil=>rfl
  |cons y b=>simp at this
 |cons x a ih=>cases b with
  |nil=>simp at this
  |cons y b=> simp only [aCQ,List.cons.injEq] at this;rw [hinj this.1,ih (by unfold vJ; rw [this.2]) this.2]
theorem NR {a b:ByteArray} (h:Am a=Am b):a=b:=by
 have:=YL h
 cases a with
 |mk x=>cases b with
  |mk y=>simp only [ByteArray.mk.injEq] at *; exact Array.toList_inj.1 this
theorem GV (l:List Nat) (h: ∀b∈l,b<256):nP l=vJ (l.map UInt8.ofNat):=by unfold nP vJ;congr 1;rw [aDT];apply aEj;intro b hb;have:=h b hb;simp [aDy this]
theorem akE (s:ByteArray):(Am s).l.length=s.size:=by unfold Am vJ;rw [aY,aDz];rfl
inductive gB where
 |len
 |at
 |cell (j:Nat)
 |num
 |mk
 |cons
 |snoc
 |cat
 |take
 |drop
 |set
 |bit
 |norm
 |sub
 |fill
 |idx
 |cnt
 |con
 |slt
 |JG
 |EI
 |tK
 |XR
 |rep
 deriving DecidableEq,Inhabited
def gW (d:D) (l:List D):D:=match l with
 |[]=>if d= .i 1 then .i 1 else .i 2
 |l=>dL l
theorem iL (d:D) (l:List D):(gW d l).l=l:=by
 cases l with
 |nil=>simp only [gW]; split<;>rfl
 |cons a l=>simp [gW]
theorem Cb {d:D} {l:List D} (h:l≠[]):gW d l=dL l:=by
 cases l with
 |nil=>exact absurd rfl h
 |cons a l=>rfl
theorem uS {d:D} (h:d≠.i 1):gW d []= .i 2:=by
 show (if d= .i 1 then D.i 1 else D.i 2)= .i 2
 grind
theorem adE {d:D} (h:d≠.i 1) (l:List D):gW d l≠.i 1:=by
 cases l with
 |nil=>rw [uS h]; simp
 |cons a l=>simp [gW,dL]
theorem EU {d:D} {l m:List D} (h:d= .i 1->l= []):gW (gW d l) m=gW d m:=by
 cases m with
 |cons a m=>rfl
 |nil=>
  by_cases h1:d= .i 1
  ·rw [h h1,h1]; rfl
  ·rw [uS h1,uS (adE h1 l)]
def wO (z:Int):List D->Int->Int
 |[],_=> -1
 |d::l,i=>match d with
  | .i n=>if n=z then i else wO z l (i+1)
  |_=>wO z l (i+1)
def NU (l:List D) (z:Int):Int:=wO z l 0
def YK:List D->List D->Bool
 |[],_=>true
 |_::_,[]=>false
 |a::x,b::y=>decide (a=b)&&YK x y
def adG (l x:List D):Bool:=match l with
 |[]=>YK x []
 |a::l=>YK x (a::l)||adG l x
def akJ (l:List D) (z:Int):Int:=match l with
 |[]=>0
 |d::l=>(if d= .i z then 1 else 0)+akJ l z
def Wv:List D->List D->Bool
 |[],[]=>false
 |[],_::_=>true
 |_::_,[]=>false
 |a::x,b::y=>if a.n<b.n then true else if b.n<a.n then false else Wv x y
def iM (ds:List D) (z:Int) (x:D):List D:=if z<0 then ds else ds.set z.toNat x
theorem kQ (ds:List D) (z:Int) (x:D):(iM ds z x).length=ds.length:=by
 unfold iM; split
 all_goals grind
theorem xP (ds:List D) (k:Nat) (x:D):iM ds (k:Int) x=ds.set k x:=by unfold iM; rw [aCI (by omega)]; rfl
def lG:D->D
 | .p k _=>k
 |d=>d
def Ux:D->D
 | .p _ v=>v
 |d=>d
def jF:List D->D->Option D
 |[],_=>none
 |d::l,k=>if lG d=k then some (Ux d) else jF l k
def oP:List D->D->D->List D
 |[],k,v=>[.p k v]
 |d::l,k,v=>if lG d=k then .p k v::l else d::oP l k v
def SX:List D->D->List D
 |[],_=>[]
 |d::l,k=>if lG d=k then l else d::SX l k
noncomputable def gB.den (o:gB) (x y:Int):Int:=match o with
 | .len=>((dec x).l.length:Int)
 | .at=>enc ((dec x).at y)
 | .cell j=>enc ((dec x).hd j)
 | .num=>(dec x).n
 | .mk=>enc (.i x)
 | .cons=>enc (.p (dec x) (dec y))
 | .snoc=>enc (dL ((dec x).l++ [dec y]))
 | .cat=>enc (dL ((dec x).l++(dec y).l))
 | .take=>enc (gW (dec x) ((dec x).l.take y.toNat))
 | .drop=>enc (gW (dec x) ((dec x).l.drop y.toNat))
 | .set=>match dec y with
   | .p q v=>enc (dL (iM (dec x).l q.n v))
   |_=>x
 | .bit=>enc (.i (if (dec x).n=0 then 0 else 1))
 | .norm=>enc (dec x)
 | .sub=>enc (dL (((dec x).l.take ((dec y).hd 1).n.toNat).drop ((dec y).hd 0).n.toNat))
 | .fill=>match dec y with
   | .p q v=>enc (dL ((dec x).l.take q.n.toNat++List.replicate ((dec x).l.length-q.n.toNat) v))
   |_=>x
 | .idx=>NU (dec x).l y
 | .cnt=>akJ (dec x).l y
 | .con=>if adG (dec x).l (dec y).l then 1 else 0
 | .slt=>if Wv (dec x).l (dec y).l then 1 else 0
 | .JG=>if (jF (dec x).l (dec y)).isSome then 1 else 0
 | .EI=>enc ((jF (dec x).l (dec y)).getD (.i 0))
 | .tK=>match dec y with
   | .p k v=>enc (dL (oP (dec x).l k v))
   |_=>x
 | .XR=>enc (dL (SX (dec x).l (dec y)))
 | .rep=>enc (dL (List.replicate x.toNat (dec y)))
def gB.tag:gB->Nat
 | .len=>0
 | .at=>1
 | .cell j=>j+23
 | .num=>2
 | .mk=>3
 | .cons=>4
 | .snoc=>5
 | .cat=>6
 | .take=>7
 | .drop=>8
 | .set=>9
 | .bit=>10
 | .norm=>11
 | .sub=>12
 | .fill=>13
 | .idx=>14
 | .cnt=>15
 | .con=>16
 | .slt=>17
 | .JG=>18
 | .EI=>19
 | .tK=>20
 | .XR=>21
 | .rep=>22
theorem gB.alT {a b:gB} (h:a.tag=b.tag):a=b:=by
 cases a<;>cases b<;>simp only [gB.tag] at h<;>first |rfl|(congr 1; omega)|omega
inductive CK where
 |int (k:IntKind)
 |bool
 |str
 |sl (t:Nat)
 deriving DecidableEq,Inhabited
inductive Row where
 |one (c:CK)
 |many (cs:List CK)
 deriving DecidableEq,Inhabited
def Row.es:Row->Nat
 | .one _=>1
 | .many cs=>cs.length
def rowOf (t:Nat):Row:=match t with
 |0=> .one (.int .i64)
 |1=> .one (.int .i64)
 |2=> .one .str
 |3=> .many [.int .u8,.str,.int .i64,.str,.int .i64]
 |4=> .many [.str,.sl 2,.sl 5]
 |5=> .many [.int .u8,.int .u8,.int .i64,.int .i64,.int .i64,.int .i64,.sl 6]
 |6=> .many [.int .u8,.str,.int .i64,.sl 6]
 |7=> .many [.int .i64,.int .i64,.bool,.int .i64,.sl 0,.sl 0]
 |8=> .many [.int .i64,.sl 0,.int .u8,.int .i64,.int .i64,.int .i64]
 |9=> .many [.int .i64,.int .u8,.int .i64,.int .i64,.int .i64]
 |10=> .one (.sl 0)
 |11=> .many [.int .i64,.int .i64,.int .i64]
 |12=> .many [.int .i64,.int .i64]
 |13=> .many [.int .i64,.int .u8,.int .i64,.int .i64,.int .i64]
 |14=> .one (.int .u8)
 |15=> .one (.sl 0)
 |16=> .many [.sl 7,.sl 8]
 |_=> .one .bool
def mapOf (t:Nat):CK×CK:=match t with
 |0=>(.int .i64,.int .i64)
 |1=>(.str,.int .i64)
 |2=>(.int .i64,.sl 0)
 |_=>(.int .i64,.bool)
inductive FC where
 |ck (c:CK)
 |own (t:Nat)
 |mp (t:Nat)
 deriving DecidableEq,Inhabited
structure FK where
 ptr:Bool
 cs:List FC
def wK (t:Nat):FK:=match t with
 |0=> ⟨false,[.own 0]⟩
 |1=> ⟨true,[.ck (.int .i64),.mp 0,.ck (.int .i64),.ck (.int .i64),.ck .bool,.own 0]⟩
 |_=> ⟨true,[.ck (.sl 0),.ck (.int .i64),.ck .bool,.ck .bool]⟩
def vU (c:CK) (d:D):Prop:=match c with
 | .int _=>d= .i d.n
 | .bool=>d= .i 0\/d= .i 1
 |_=>True
def UJ (cs:List CK) (d:D):Prop:=d=dL d.l/\d.l.length=cs.length/\∀(j:Nat) (c:CK) (x:D),cs[j]?=some c->d.l[j]?=some x->vU c x
def vT (r:Row) (d:D):Prop:=match r with
 | .one c=>vU c d
 | .many cs=>UJ cs d
def yO (r:Row) (d:D):Prop:=d=dL d.l/\(∀x∈d.l,vT r x)/\d.l≠[]
end Go.As
end
section
namespace Go.As
noncomputable section
inductive SE where
 |lit (n:Int)
 |aK (i:Nat)
 |add (a b:SE)
 |sub (a b:SE)
 |mul (a b:SE)
 |quo (a b:SE)
 |rem (a b:SE)
 |wrap (k:IntKind) (a:SE)
 |inp (b:Nat) (e:SE)
 |dat (d:D)
 |op (o:gB) (a b:SE)
 |ap (f:Nat) (a:SE)
 deriving DecidableEq,Inhabited
def kX (f:Nat) (z:Int):Nat:=1000+tZ f (zN z)*64+63
noncomputable def SE.den (ρ:Nat->Int):SE->Int
 | .lit n=>n
 | .aK i=>ρ i
 | .add a b=>a.den ρ+b.den ρ
 | .sub a b=>a.den ρ-b.den ρ
 | .mul a b=>a.den ρ*b.den ρ
 | .quo a b=>(a.den ρ).tdiv (b.den ρ)
 | .rem a b=>(a.den ρ).tmod (b.den ρ)
 | .wrap k a=>k.wrap (a.den ρ)
 | .inp b e=>ρ (1000+(e.den ρ).toNat*64+b)
 | .dat d=>enc d
 | .op o a b=>o.den (a.den ρ) (b.den ρ)
 | .ap f a=>ρ (kX f (a.den ρ))
def BG:Int->Int->Bool
 | .ofNat a,.ofNat b=>Nat.beq a b
 | .negSucc a,.negSucc b=>Nat.beq a b
 |_,_=>false
def D.eqb:D->D->Bool
 | .i a,.i b=>BG a b
 | .p a b,.p c d=>match D.eqb a c with |true=>D.eqb b d|false=>false
 |_,_=>false
theorem Dq {a b:Int} (h:BG a b=true):a=b:=by cases a<;>cases b<;>simp [BG] at h<;>rw [h]
theorem D.YC: ∀{a b:D},D.eqb a b=true->a=b
 | .i a,.i b,h=>by simp only [D.eqb] at h; rw [Dq h]
 | .p a b,.p c d,h=>by
   simp only [D.eqb] at h;split at h
   ·rename_i h1; rw [D.YC h1,D.YC h]
   grind
 | .i _,.p _ _,h=>by simp [D.eqb] at h
 | .p _ _,.i _,h=>by simp [D.eqb] at h
def fD:SE->SE->Bool
 | .lit a,.lit b=>a == b
 | .aK i,.aK j=>Nat.beq i j
 | .add a b,.add c d=>match fD a c with |true=>fD b d|false=>false
 | .sub a b,.sub c d=>match fD a c with |true=>fD b d|false=>false
 | .mul a b,.mul c d=>match fD a c with |true=>fD b d|false=>false
 | .quo a b,.quo c d=>match fD a c with |true=>fD b d|false=>false
 | .rem a b,.rem c d=>match fD a c with |true=>fD b d|false=>false
 | .wrap k a,.wrap l b=>match fD a b with |true=>decide (k=l)|false=>false
 | .inp i a,.inp j b=>match Nat.beq i j with |true=>fD a b|false=>false
 | .dat a,.dat b=>D.eqb a b
 | .op o a b,.op q c d=>match Nat.beq o.tag q.tag with
   |true=>match fD a c with |true=>fD b d|false=>false
   |false=>false
 | .ap f a,.ap g b=>match Nat.beq f g with |true=>fD a b|false=>false
 |_,_=>false
theorem bI: ∀(a b:SE),fD a b=true->a=b
 | .lit a,b,h=>by cases b<;>simp [fD] at h; rw [h]
 | .aK i,b,h=>by cases b<;>simp [fD] at h; rw [h]
 | .add a b,c,h=>by cases c<;>simp only [fD,aCU] at h; split at h<;>first |(rename_i h1; rw [bI _ _ h1,bI _ _ h]; done)|simp at h
 | .sub a b,c,h=>by cases c<;>simp only [fD,aCU] at h; split at h<;>first |(rename_i h1; rw [bI _ _ h1,bI _ _ h]; done)|simp at h
 | .mul a b,c,h=>by cases c<;>simp only [fD,aCU] at h; split at h<;>first |(rename_i h1; rw [bI _ _ h1,bI _ _ h]; done)|simp at h
 | .quo a b,c,h=>by cases c<;>simp only [fD,aCU] at h; split at h<;>first |(rename_i h1; rw [bI _ _ h1,bI _ _ h]; done)|simp at h
 | .rem a b,c,h=>by cases c<;>simp only [fD,aCU] at h; split at h<;>first |(rename_i h1; rw [bI _ _ h1,bI _ _ h]; done)|simp at h
 | .wrap k a,c,h=>by cases c<;>simp only [fD,aCU] at h; split at h<;>first |(rename_i h1; rw [bI _ _ h1,of_decide_eq_true h]; done)|simp at h
 | .inp i a,c,h=>by cases c<;>simp only [fD,aCU] at h; split at h<;>first |(rename_i h1; rw [aCO h1,bI _ _ h]; done)|simp at h
 | .dat a,c,h=>by cases c<;>simp only [fD,aCU] at h; rw [D.YC h]
 | .op o a b,c,h=>by
   cases c<;>simp only [fD,aCU] at h;split at h
   ·rename_i h0;split at h
    ·rename_i h1;rw [gB.alT (aCO h0),bI _ _ h1,bI _ _ h]
    grind
   grind
 | .ap f a,c,h=>by cases c<;>simp only [fD,aCU] at h; split at h<;>first |(rename_i h1; rw [aCO h1,bI _ _ h]; done)|simp at h
inductive SB where
 |lit (b:Bool)
 |lt (a b:SE)
 |le (a b:SE)
 |eq (a b:SE)
 |not (s:SB)
 |and (a b:SB)
 deriving DecidableEq,Inhabited
noncomputable def SB.den (ρ:Nat->Int):SB->Bool
 | .lit b=>b
 | .lt a b=>decide (a.den ρ<b.den ρ)
 | .le a b=>decide (a.den ρ<=b.den ρ)
 | .eq a b=>a.den ρ == b.den ρ
 | .not s=>!(s.den ρ)
 | .and a b=>a.den ρ&&b.den ρ
def AP (k:IntKind) (n:Int):Int:=
 match k with
 | .i64=>if -9223372036854775808<=n/\n<=9223372036854775807 then n else k.wrap n
 | .u8=>if 0<=n/\n<=255 then n else k.wrap n
 |_=>k.wrap n
inductive WW where
 |exact (c:Nat)
 |rest (es:Nat)
 deriving DecidableEq,Inhabited
inductive AV where
 |bool (b:SB)
 |int (k:IntKind) (e:SE)
 |str (s:List Nat)
 |ptr (id off:Nat)
 |kM
 |qX (cells:List AV)
 |slice (id off len:Nat) (c:WW)
 |aQ
 |ro (cells:List AV) (n:Nat) (full:Bool)
 |map (id:Nat)
 |qK
 |func (fn:Fn) (fs cs:List AV)
 |BA
 |iface (t:Nat) (v:AV)
 |EG
 |agg (cs:List AV)
 |tuple (vs:List AV)
 |opq (i:Nat)
 |inp (k:Nat) (ks:List IntKind)
 |dat (e:SE) (t:Nat)
 |lQ (e:SE)
 |qO (id:Nat) (n:SE) (t:Nat)
 |pX (id es:Nat) (i:SE) (off:Nat)
 |emp
 |AL (id:Nat) (lo n:SE) (t:Nat)
 |any
 |Ec (z:SE) (t:Nat)
 deriving Inhabited
def AV.undef:AV:=.tuple []
def AV.cells:AV->List AV
 | .agg cs=>cs
 |v=>[v]
def AV.one:AV->Bool
 | .agg _=>false
 | .tuple _=>false
 | .opq _=>false
 | .any=>false
 |_=>true
inductive dG where
 |cells (cs:List AV) (e:TypeId)
 |map (es:List (AV×AV×Nat)) (clock:Nat)
 |lY (s:List Nat) (pos:Nat)
 |vec (e:SE) (t:Nat) (ty:TypeId) (ov:List (SE×List AV))
 |gY (e:SE) (t:Nat)
 |fam (e:SE) (t:Nat) (tys:List Nat) (ov:List (SE×AV))
 deriving Inhabited
structure Hp where
 m:Tr dG
 next:Nat
 res:Option Nat:=none
 deriving Inhabited
def Hp.get (h:Hp) (i:Nat):Option dG:=h.m.get i
def Hp.put (h:Hp) (i:Nat) (o:dG):Hp:=⟨h.m.put i (some o),h.next,h.res⟩
def Hp.drop (h:Hp) (i:Nat):Hp:=⟨h.m.put i none,h.next,h.res⟩
def Hp.fresh (h:Hp):Nat:=match h.res with
 |none=>h.next
 |some r=>r
def Hp.new (h:Hp) (o:dG):Hp:=match h.res with
 |none=> ⟨h.m.put h.next (some o),h.next+1,none⟩
 |some r=> ⟨h.m.put r (some o),h.next,none⟩
inductive T (α:Type) where
 |fail
 |ret (a:α)
 |split (c:SB) (t f:T α)
 deriving Inhabited
def T.bind {α β:Type}:T α->(α->T β)->T β
 | .fail,_=> .fail
 | .ret a,f=>f a
 | .split c x y,f=> .split c (x.bind f) (y.bind f)
def T.leaf {α:Type} (ρ:Nat->Int):T α->Option α
 | .fail=>none
 | .ret a=>some a
 | .split c x y=>match c.den ρ with
   |true=>x.leaf ρ
   |false=>y.leaf ρ
inductive TK where
 |bool
 |int (k:IntKind)
 |string
 |pointer (e:Nat)
 |slice (e:Nat)
 |array (n e:Nat)
 |map (k e:Nat)
 |struct (fs:List (Nat×Nat×Nat))
 |func
 |iface (plain:Bool)
 |tuple
 deriving DecidableEq,Inhabited
structure TI where
 kind:TK
 size:Nat
 bytes:Nat
 zero:List AV
 eqs:Bool
 own:Option Nat:=none
 deriving Inhabited
def TK.agg (k:TK):Bool:=match k with | .struct _=>true| .array _ _=>true|_=>false
def TI.agg (i:TI):Bool:=i.kind.agg
abbrev TT:=Nat->Option TI
def bytesOf (s:ByteArray):List Nat:=s.data.toList.map (·.toNat)
def iT:Value->Option AV
 | .bool b=>some (.bool (.lit b))
 | .int k n=>some (.int k (.lit n))
 | .string s=>some (.str (bytesOf s))
 | .pointer none=>some .kM
 | .slice none 0 0=>some .aQ
 | .map none=>some .qK
 | .nilFunc=>some .BA
 | .nilIface=>some .EG
 | .func fn f c=>if f.isEmpty&&c.isEmpty then some (.func fn [] []) else none
 |_=>none
def nC:List Value->Option (List AV)
 |[]=>some []
 |v::vs=>match iT v with
  |none=>none
  |some a=>match nC vs with
   |none=>none
   |some aCH=>some (a::aCH)
def ofConst:Value->Option AV
 | .agg cs=>(nC cs.toList).map .agg
 | .tuple vs=>(nC vs.toList).map .tuple
 |v=>iT v
def wF (a b:SE):SB:=match fD a b with
 |true=> .lit true
 |false=>match a with
  | .dat _=> .eq b a
  |_=> .eq a b
def Jb (x:SE):SE:=match x with
 | .op o a _=>match o with
   | .mk=>a
   |_=> .op .num x (.lit 0)
 | .dat d=>match d with
   | .i n=> .lit n
   |_=> .op .num x (.lit 0)
 |_=> .op .num x (.lit 0)
def qR (x:SE):SE:=match x with
 | .lit n=> .dat (.i n)
 |x=> .op .mk x (.lit 0)
def kR (j:Nat) (x:SE):SE:=match x with
 | .op o a b=>match o with
   | .cons=>match j with
     |0=>a
     |j+1=>kR j b
   |_=> .op (.cell j) x (.lit 0)
 |_=> .op (.cell j) x (.lit 0)
def dH (x:SE):SE:=match x with
 | .op o a _=>match o with
   | .set=>dH a
   |_=> .op .len x (.lit 0)
 | .dat d=> .lit (Int.ofNat d.l.length)
 |_=> .op .len x (.lit 0)
def dV (a b:SE):SE:=.op .cons a b
def X3 (x:SE):Bool:=match x with
 | .dat d=>match d with
   | .i n=>BG n 0
   |_=>false
 |_=>false
def wZ (c:CK) (x:SE):AV:=match c with
 | .int k=> .int k (Jb x)
 | .bool=> .bool (.not (.eq (Jb x) (.lit 0)))
 | .str=> .lQ x
 | .sl t=> .dat x t
def kV:List CK->Nat->SE->List AV
 |[],_,_=>[]
 |c::cs,j,x=>wZ c (kR j x)::kV cs (j+1) x
def iV (r:Row) (x:SE):List AV:=match r with
 | .one c=>[wZ c x]
 | .many cs=>kV cs 0 x
def qC (x:SE):SE:=match x with
 | .dat d=> .dat d
 | .op o a b=>match o with
   | .cell j=> .op (.cell j) a b
   | .at=> .op .at a b
   |o=> .op .norm (.op o a b) (.lit 0)
 |x=> .op .norm x (.lit 0)
def AO:AV->Option SE
 | .str l=>some (.dat (nP l))
 | .lQ e=>some e
 |_=>none
def strEq (x y:AV):Option SB:=match AO x with
 |none=>none
 |some a=>match AO y with
  |none=>none
  |some b=>some (wF (qC a) (qC b))
def qM (c:CK) (v:AV):Option SE:=match c with
 | .int k=>match v with
   | .int k' e=>if k=k' then some (qR e) else none
   |_=>none
 | .bool=>match v with
   | .bool c=>match c with
     | .lit b=>some (.dat (.i (if b then 1 else 0)))
     | .not d=>match d with
       | .eq x z=>match z with
         | .lit n=>if n=0 then some (.op .bit (qR x) (.lit 0)) else none
         |_=>none
       |_=>none
     |_=>none
   |_=>none
 | .str=>AO v
 | .sl t=>match v with
   | .dat e t'=>if t=t' then some e else none
   | .aQ=>some (.dat (.i 1))
   | .Ec z t'=>if t=t' then some z else none
   | .slice _ _ n _=>match n with
     |0=>some (.dat (.i 2))
     |_=>none
   |_=>none
def codeCells:List CK->List AV->Option SE
 |[],[]=>some (.dat (.i 0))
 |c::cs,v::vs=>match qM c v with
  |none=>none
  |some a=>match codeCells cs vs with
   |none=>none
   |some b=>some (dV a b)
 |_,_=>none
def codeRow (r:Row) (cs:List AV):Option SE:=match r with
 | .one c=>match cs with
   |[v]=>qM c v
   |_=>none
 | .many ks=>codeCells ks cs
def mQ (r:Row) (e:SE):Nat->List AV->Option SE
 |0,[]=>some e
 |0,_::_=>none
 |m+1,cs=>match codeRow r (cs.take r.es) with
  |none=>none
  |some x=>mQ r (.op .snoc e x) m (cs.drop r.es)
structure St where
 slots:Tr AV
 h:Hp
 pc:List (SB×Bool)
 deriving Inhabited
def St.set (s:St) (t:Nat) (v:AV):St:={ s with slots:=s.slots.put t (some v) }
def St.U8 (s:St) (d:Option Nat) (v:AV):St:=match d with |some t=>s.set t v|none=>s
def ev (s:St):Operand->Option AV
 | .tmp t=>s.slots.get t
 | .const v=>ofConst v
 | .func f=>some (.func (.func f) [] [])
 | .global _=>none
def evs (s:St):List Operand->Option (List AV)
 |[]=>some []
 |x::xs=>match ev s x with
  |none=>none
  |some a=>match evs s xs with
   |none=>none
   |some aCH=>some (a::aCH)
def tC:SB->SB->Bool
 | .lit a,.lit b=>a == b
 | .lt a b,.lt c d=>match fD a c with |true=>fD b d|false=>false
 | .le a b,.le c d=>match fD a c with |true=>fD b d|false=>false
 | .eq a b,.eq c d=>match fD a c with |true=>fD b d|false=>false
 | .not a,.not b=>tC a b
 | .and a b,.and c d=>match tC a c with |true=>tC b d|false=>false
 |_,_=>false
theorem xU: ∀(a b:SB),tC a b=true->a=b
 | .lit a,b,h=>by cases b<;>simp [tC] at h; rw [h]
 | .lt a b,c,h=>by cases c<;>simp only [tC,aCU] at h; split at h<;>first |(rename_i h1; rw [bI _ _ h1,bI _ _ h]; done)|simp at h
 | .le a b,c,h=>by cases c<;>simp only [tC,aCU] at h; split at h<;>first |(rename_i h1; rw [bI _ _ h1,bI _ _ h]; done)|simp at h
 | .eq a b,c,h=>by cases c<;>simp only [tC,aCU] at h; split at h<;>first |(rename_i h1; rw [bI _ _ h1,bI _ _ h]; done)|simp at h
 | .not a,c,h=>by cases c<;>simp only [tC,aCU] at h; rw [xU _ _ h]
 | .and a b,c,h=>by cases c<;>simp only [tC,aCU] at h; split at h<;>first |(rename_i h1; rw [xU _ _ h1,xU _ _ h]; done)|simp at h
def qY (c:SB):List (SB×Bool)->Option Bool
 |[]=>none
 |(d,b)::l=>match tC c d with
  |true=>some b
  |false=>qY c l
def agW (a:Option Int) (z:Int):Option Int:=match a with
 |none=>some z
 |some y=>some (if y<z then z else y)
def agU (a:Option Int) (z:Int):Option Int:=match a with
 |none=>some z
 |some y=>some (if z<y then z else y)
def agK (a:Option Int) (z:Int):Option Int:=match a with
 |none=>none
 |some y=>some (if y=z then z+1 else y)
def agM (a:Option Int) (z:Int):Option Int:=match a with
 |none=>none
 |some y=>some (if y=z then z-1 else y)
def aaM (e:SE):Option Int×Option Int:=match e with
 | .rem a c=>match c with
   | .lit k=>match a with
     | .add b d=>match d with
       | .lit m=>match b with
         | .rem _ f=>match f with
           | .lit n=>if 0<n/\n=m/\m=k then (some 0,some (n-1)) else (none,none)
           |_=>(none,none)
         |_=>(none,none)
       |_=>(none,none)
     |_=>(none,none)
   |_=>(none,none)
 | .op o _ _=>match o with
   | .len=>(some 0,none)
   |_=>(none,none)
 |_=>(none,none)
def bounds (e:SE):List (SB×Bool)->Option Int×Option Int
 |[]=>aaM e
 |(c,v)::l=>match c with
  | .lt x y=>match x with
    | .lit z=>match fD y e with
      |false=>bounds e l
      |true=>match bounds e l with
       |(lo,hi)=>match v with
        |true=>(agW lo (z+1),hi)
        |false=>(lo,agU hi z)
    |x=>match y with
     | .lit z=>match fD x e with
       |false=>bounds e l
       |true=>match bounds e l with
        |(lo,hi)=>match v with
         |true=>(lo,agU hi (z-1))
         |false=>(agW lo z,hi)
     |_=>bounds e l
  | .eq x y=>match y with
    | .lit z=>match v with
      |false=>match fD x e with
       |false=>bounds e l
       |true=>match bounds e l with
        |(lo,hi)=>(agK lo z,agM hi z)
      |true=>match fD x e with
       |false=>bounds e l
       |true=>(some z,some z)
    |_=>bounds e l
  |_=>bounds e l
def uJ (e:SE) (pc:List (SB×Bool)):Option Int×Option Int:=match e with
 | .wrap k s=>match k with
   | .i64=>match s with
     | .add b d=>match d with
       | .lit c=>match bounds b pc with
         |(some lo,some hi)=>if -9223372036854775808<=lo+c/\hi+c<=9223372036854775807 then (match bounds e pc with
          |(l2,h2)=>(agW l2 (lo+c),agU h2 (hi+c))) else bounds e pc
         |_=>bounds e pc
       |_=>bounds e pc
     |_=>bounds e pc
   |_=>bounds e pc
 |_=>bounds e pc
def Zy (a b:SE) (pc:List (SB×Bool)):Option Bool:=match qY (.eq a b) pc with
 |some v=>some v
 |none=>qY (.eq b a) pc
def decLt (pc:List (SB×Bool)) (a b:SE):Option Bool:=match qY (.lt a b) pc with
 |some v=>some v
 |none=>match a with
  | .lit z=>match uJ b pc with
    |(lo,hi)=>match lo with
     |some l=>if z<l then some true else match hi with
      |some h=>if h<=z then some false else none
      |none=>none
     |none=>match hi with
      |some h=>if h<=z then some false else none
      |none=>none
  |a=>match b with
   | .lit z=>match uJ a pc with
     |(lo,hi)=>match hi with
      |some h=>if h<z then some true else match lo with
       |some l=>if z<=l then some false else none
       |none=>none
      |none=>match lo with
       |some l=>if z<=l then some false else none
       |none=>none
   |b=>match Zy a b pc with
    |some true=>some false
    |some false=>match qY (.lt b a) pc with
     |some v=>some !v
     |none=>none
    |none=>match qY (.lt b a) pc with
     |some true=>some false
     |_=>none
def decEq (pc:List (SB×Bool)) (a b:SE):Option Bool:=match Zy a b pc with
 |some v=>some v
 |none=>match b with
  | .lit z=>match uJ a pc with
    |(lo,hi)=>match lo with
     |some l=>if z<l then some false else match hi with
      |some h=>if h<z then some false else if l=z/\h=z then some true else none
      |none=>none
     |none=>match hi with
      |some h=>if h<z then some false else none
      |none=>none
  |b=>match qY (.lt a b) pc with
   |some true=>some false
   |some false=>match qY (.lt b a) pc with
    |some v=>some !v
    |none=>none
   |none=>match qY (.lt b a) pc with
    |some true=>some false
    |_=>none
def KF (pc:List (SB×Bool)) (c:SB):Option Bool:=
 match c with
 | .lit b=>some b
 | .lt a b=>decLt pc a b
 | .eq a b=>decEq pc a b
 |c=>qY c pc
def lV (pc:List (SB×Bool)) (c:SB):Option Bool:=
 match c with
 | .not s=>(KF pc s).map (!·)
 |c=>KF pc c
def lT {α:Type} (s:St) (c:SB) (f:St->Bool->T α):T α:=
 match lV s.pc c with
 |some b=>f s b
 |none=>match c with
  | .not d=> .split d (f { s with pc:=(d,true)::s.pc } false) (f { s with pc:=(d,false)::s.pc } true)
  |c=> .split c (f { s with pc:=(c,true)::s.pc } true) (f { s with pc:=(c,false)::s.pc } false)
def afV (k:IntKind):SE->SE->SE
 | .lit x,.lit y=> .lit (AP k (x+y))
 |a,b=> .wrap k (.add a b)
def Zd (k:IntKind):SE->SE->SE
 | .lit x,.lit y=> .lit (AP k (x-y))
 |a,b=> .wrap k (.sub a b)
def afU (k:IntKind):SE->SE->SE
 | .lit x,.lit y=> .lit (AP k (x*y))
 |a,b=> .wrap k (.mul a b)
def jL:SE->SE->SB
 | .lit x,.lit y=> .lit (decide (x<y))
 |a,b=> .lt a b
def amM:SE->SE->SB
 | .lit x,.lit y=> .lit (decide (x<=y))
 |a,b=> .not (.lt b a)
def xX:SE->SE->SB
 | .lit x,.lit y=> .lit (x == y)
 | .lit x,b=> .eq b (.lit x)
 |a,b=>match fD a b with
  |true=> .lit true
  |false=> .eq a b
def DZ:SB->SB
 | .lit b=> .lit !b
 | .not s=>s
 |s=> .not s
def afX:SB->SB->SB
 | .lit true,b=>b
 | .lit false,_=> .lit false
 |a,.lit true=>a
 |_,.lit false=> .lit false
 |a,b=> .and a b
def bytesLess:List Nat->List Nat->Bool
 |_,[]=>false
 |[],_::_=>true
 |a::x,b::y=>if a.blt b then true else if a.beq b then bytesLess x y else false
def iZ:List Nat->List Nat->Bool
 |[],[]=>true
 |a::x,b::y=>if a.beq b then iZ x y else false
 |_,_=>false
def U5 (op:BinOp) (x y:List Nat):Option AV:=
 match op with
 | .add=>if x.length+y.length<=1000000 then some (.str (x++y)) else none
 | .eql=>some (.bool (.lit (iZ x y)))
 | .neq=>some (.bool (.lit !(iZ x y)))
 | .lss=>some (.bool (.lit (bytesLess x y)))
 | .leq=>some (.bool (.lit (bytesLess x y||iZ x y)))
 | .gtr=>some (.bool (.lit !(bytesLess x y||iZ x y)))
 | .geq=>some (.bool (.lit !(bytesLess x y)))
 |_=>none
def ZM (op:BinOp) (k:IntKind) (a b:SE):Option AV:=
 match op with
 | .add=>some (.int k (afV k a b))
 | .sub=>some (.int k (Zd k a b))
 | .mul=>some (.int k (afU k a b))
 | .quo=>match a,b with
   | .lit x,.lit y=>if y=0 then none else some (.int k (.lit (AP k (x.tdiv y))))
   |a,.lit y=>if y=0 then none else some (.int k (.wrap k (.quo a (.lit y))))
   |_,_=>none
 | .rem=>match a,b with
   | .lit x,.lit y=>if y=0 then none else some (.int k (.lit (x.tmod y)))
   |a,.lit y=>if y=0 then none else some (.int k (.rem a (.lit y)))
   |_,_=>none
 | .shr=>match a,b with
   | .lit x,.lit y=>if y<0 then none else some (.int k (.lit (x.fdiv (2 ^ (min y.toNat k.bits)))))
   |_,_=>none
 | .eql=>some (.bool (xX a b))
 | .neq=>some (.bool (DZ (xX a b)))
 | .lss=>some (.bool (jL a b))
 | .leq=>some (.bool (amM a b))
 | .gtr=>some (.bool (jL b a))
 | .geq=>some (.bool (amM b a))
 |_=>none
def fF {α:Type}:List α->Nat->Option α
 |[],_=>none
 |x::_,0=>some x
 |_::xs,n+1=>fF xs n
def KA (a b:SB):Option SB:=
 match a,b with
 | .lit x,.lit y=>some (.lit (x == y))
 | .lit x,b=>some (if x then b else DZ b)
 |a,.lit y=>some (if y then a else DZ a)
 |a,b=>some (.not (.and (.not (.and a b)) (.not (.and (.not a) (.not b)))))
def YD (k:TK) (x y:AV):Option SB:=
 match k with
 | .int _=>match x,y with
   | .int k a,.int k' b=>if k=k' then some (xX a b) else none
   |_,_=>none
 | .string=>match x,y with
   | .str a,.str b=>some (.lit (iZ a b))
   |x,y=>strEq x y
 | .bool=>match x,y with
   | .bool a,.bool b=>KA a b
   |_,_=>none
 |_=>none
def aiM (tt:TT) (xs ys:List AV):List (Nat×Nat×Nat)->Option SB
 |[]=>some (.lit true)
 |(off,ft,_)::fs=>match tt ft with
  |none=>none
  |some i=>match fF xs off,fF ys off with
   |some x,some y=>match YD i.kind x y with
    |none=>none
    |some c=>match aiM tt xs ys fs with
     |none=>none
     |some d=>some (afX c d)
   |_,_=>none
def Ky (tt:TT) (t:Nat) (xs ys:List AV):Option SB:=
 match tt t with
 |none=>none
 |some i=>match i.kind with
  | .struct fs=>if i.eqs then aiM tt xs ys fs else none
  |_=>none
def mJ:AV->Option Int
 | .int _ (.lit n)=>some n
 |_=>none
def isNil (k:TK) (x:AV):Option Bool:=
 match k with
 | .slice _=>match x with
   | .aQ=>some true
   | .slice _ _ _ _=>some false
   | .ro _ _ _=>some false
   | .qO _ _ _=>some false
   |_=>none
 | .pointer _=>match x with
   | .kM=>some true
   | .ptr _ _=>some false
   | .qX _=>some false
   |_=>none
 | .map _ _=>match x with
   | .qK=>some true
   | .map _=>some false
   |_=>none
 |_=>none
def awK (k:TK) (x y:AV):Option SB:=
 match k with
 | .bool=>match x,y with
   | .bool a,.bool b=>KA a b
   |_,_=>none
 |k=>match isNil k x,isNil k y with
  |some true,some b=>some (.lit b)
  |some false,some true=>some (.lit false)
  |_,_=>none
def RV (op:BinOp) (c:Option SB):Option AV:=match c with
 |none=>none
 |some c=>match op with
  | .eql=>some (.bool c)
  | .neq=>some (.bool (.not c))
  |_=>none
def aiK (tt:TT) (t:Nat) (op:BinOp) (x y:AV):Option AV:=
 match x with
 | .int k a=>match y with
   | .int k' b=>match op with
     | .shr=>ZM op k a b
     | .shl=>none
     |_=>if k=k' then ZM op k a b else none
   |_=>none
 | .str a=>match y with
   | .str b=>U5 op a b
   | .lQ e=>RV op (strEq (.str a) (.lQ e))
   |_=>none
 | .lQ e=>RV op (strEq (.lQ e) y)
 |_=>match tt t with
  |none=>none
  |some i=>match op,awK i.kind x y with
   | .eql,some c=>some (.bool c)
   | .neq,some c=>some (.bool (DZ c))
   |_,_=>none
def awI (op:UnOp) (x:AV):Option AV:=
 match op,x with
 | .not,.bool b=>some (.bool (DZ b))
 | .neg,.int k e=>some (.int k (Zd k (.lit 0) e))
 |_,_=>none
def jR {α:Type}:Nat->List α->Option (List α)
 |0,_=>some []
 |_+1,[]=>none
 |n+1,x::xs=>match jR n xs with
  |some l=>some (x::l)
  |none=>none
def eF {α:Type}:Nat->List α->Option (List α)
 |0,l=>some l
 |_+1,[]=>none
 |n+1,_::xs=>eF n xs
def splice:List AV->Nat->List AV->Option (List AV)
 |cs,0,[]=>some cs
 |[],0,_::_=>none
 |_::cs,0,v::vs=>match splice cs 0 vs with
  |some l=>some (v::l)
  |none=>none
 |[],_+1,_=>none
 |c::cs,n+1,vs=>match splice cs n vs with
  |some l=>some (c::l)
  |none=>none
def xB:List AV->Bool
 |[]=>true
 |v::vs=>v.one&&xB vs
def qH (h:Hp) (p:AV) (n:Nat):Option (List AV):=
 match p with
 | .ptr id off=>match h.get id with
   |some (.cells cs _)=>match eF off cs with
    |some l=>jR n l
    |none=>none
   |_=>none
 | .qX cs=>jR n cs
 |_=>none
def IG (tt:TT) (t:Nat) (p:AV) (h:Hp):Option AV:=
 match tt t with
 |none=>none
 |some i=>match i.agg with
  |true=>(qH h p i.size).map .agg
  |false=>match qH h p 1 with
   |some (v::_)=>some v
   |_=>none
def TR (tt:TT) (t:Nat) (p v:AV) (h:Hp):Option Hp:=
 match tt t with
 |none=>none
 |some i=>
  if v.cells.length=i.size&&xB v.cells then
   match p with
   | .ptr id off=>match h.get id with
     |some (.cells cs e)=>match splice cs off v.cells with
      |some cs'=>some (h.put id (.cells cs' e))
      |none=>none
     |_=>none
   |_=>none
  else none
def Aa (place:Nat->Option (Nat×Nat)) (cs:List AV):List (Nat×AV)->Option (List AV)
 |[]=>some cs
 |(i,v)::rest=>match place i with
  |none=>none
  |some (off,size)=>
   if v.cells.length=size&&xB v.cells then
    match splice cs off v.cells with
    |some cs'=>Aa place cs' rest
    |none=>none
   else none
def jS (tt:TT) (t:Nat):Option Nat:=(tt t).map (·.size)
def Uj (tt:TT) (t:Nat) (parts:List (Nat×AV)):Option AV:=
 match tt t with
 |some i=>match i.kind with
  | .struct fs=>(Aa (fun j=>(fF fs j).map fun f=>(f.1,f.2.2)) i.zero parts).map .agg
  | .array _ e=>match jS tt e with
    |some s=>(Aa (fun j=>some (j*s,s)) i.zero parts).map .agg
    |none=>none
  |_=>none
 |none=>none
def repeatL {α:Type} (l:List α):Nat->List α
 |0=>[]
 |n+1=>l++repeatL l n
def Ae (tt:TT) (t len:Nat) (parts:List (Nat×AV)) (h:Hp):Option (AV×Hp):=
 match tt t with
 |some i=>match i.kind with
  | .slice e=>match tt e with
    |some ie=>
     if len<=1000/\ie.size<=1000/\ie.zero.length=ie.size then
      match Aa (fun j=>some (j*ie.size,ie.size)) (repeatL ie.zero len) parts with
      |some cs=>some (.slice h.fresh 0 len (.exact len),h.new (.cells cs e))
      |none=>none
     else none
    |none=>none
  |_=>none
 |none=>none
def wM (tt:TT) (t:Nat) (l c:AV) (h:Hp):Option (AV×Hp):=
 match mJ l with
 |some (.ofNat n)=>match mJ c with
  |some (.ofNat m)=>match tt t with
   |some i=>match i.kind with
    | .slice e=>match tt e with
      |some ie=>
       if n<=m/\m<=1000/\ie.size<=1000/\ie.bytes<=1000000/\ie.zero.length=ie.size then
        some (.slice h.fresh 0 n (.exact m),h.new (.cells (repeatL ie.zero m) e))
       else none
      |none=>none
    |_=>none
   |none=>none
  |_=>none
 |_=>none
def Zv (off:Nat) (x:AV):Option AV:=match x with
 | .ptr id o=>some (.ptr id (o+off))
 | .pX id es i o=>some (.pX id es i (o+off))
 | .qX cs=>(eF off cs).map .qX
 |_=>none
def partOf (i:TI) (l:List AV):Option AV:=match i.agg with
 |true=>(jR i.size l).map .agg
 |false=>match l with
  |v::_=>some v
  |[]=>none
def BU (tt:TT) (t:Nat) (p:AV) (f:Nat):Option AV:=
 match tt t with
 |some i=>match i.kind with
  | .struct fs=>match fF fs f with
    |some (off,_,size)=>match size with
     |0=>none
     |_=>Zv off p
    |none=>none
  |_=>none
 |none=>none
def Uc (tt:TT) (t:Nat) (x:AV) (f:Nat):Option AV:=
 match tt t with
 |some i=>match i.kind with
  | .struct fs=>match fF fs f with
    |some (off,ft,_)=>match tt ft,x with
     |some fi,.agg cs=>match eF off cs with
      |some l=>partOf fi l
      |none=>none
     |_,_=>none
    |none=>none
  |_=>none
 |none=>none
def sJ (tt:TT) (t:Nat) (x ix:AV):Option AV:=
 match mJ ix with
 |some (.ofNat i)=>match tt t with
  |some ti=>match ti.kind with
   | .array n e=>if i<n then match jS tt e with
    |some s=>Zv (i*s) x
    |none=>none
    else none
   | .slice e=>match jS tt e with
     |some s=>match x with
      | .slice id o len _=>if i<len then some (.ptr id (o+i*s)) else none
      | .ro cs n _=>if i<n then (eF (i*s) cs).map .qX else none
      |_=>none
     |none=>none
   |_=>none
  |none=>none
 |_=>none
def BH (k:Nat) (e:SE):List IntKind->Nat->List AV
 |[],_=>[]
 |kd::ks,j=> .int kd (.inp (k*8+j) e)::BH k e ks (j+1)
def Ua (tt:TT) (pc:List (SB×Bool)) (t k:Nat) (ks:List IntKind) (ix:AV):Option AV:=
 match ix with
 | .int _ e=>match tt t with
   |some ti=>match ti.kind with
    | .slice el=>match jS tt el with
      |some s=>if s=ks.length/\k<8/\s<=8 then match lV pc (jL e (.lit 0)),lV pc (jL e (.aK (900+k))) with
       |some false,some true=>some (.qX (BH k e ks 0))
       |_,_=>none
       else none
      |none=>none
    |_=>none
   |none=>none
 |_=>none
def GH (tt:TT) (t:Nat) (x ix:AV):Option AV:=
 match mJ ix with
 |some (.ofNat i)=>match tt t with
  |some ti=>match ti.kind,x with
   | .string,.str s=>(fF s i).map fun b=> .int .u8 (.lit (Int.ofNat b))
   | .array n e,.agg cs=>if i<n then match tt e with
    |some ie=>match eF (i*ie.size) cs with
     |some l=>partOf ie l
     |none=>none
    |none=>none
    else none
   |_,_=>none
  |none=>none
 |_=>none
def bnd (x:Option AV) (d:Nat) (y:Nat):Option Nat:=
 match x with
 |none=>if d<=y then some d else none
 |some v=>match mJ v with
  |some (.ofNat i)=>if i<=y then some i else none
  |_=>none
def TS (tt:TT) (t:Nat) (x:AV) (lo hi mx:Option AV):Option AV:=
 match tt t with
 |none=>none
 |some ti=>match ti.kind with
  | .string=>match x,mx with
    | .str s,none=>match bnd hi s.length s.length with
      |some h=>match bnd lo 0 h with
       |some l=>some (.str ((s.take h).drop l))
       |none=>none
      |none=>none
    |_,_=>none
  | .slice e=>match jS tt e with
    |none=>none
    |some s=>match x with
     | .aQ=>if mx.isSome&&hi.isNone then none else match bnd hi 0 0,bnd lo 0 0,bnd mx 0 0 with
       |some _,some _,some _=>some .aQ
       |_,_,_=>none
     | .slice id o len (.exact c)=>if mx.isSome&&hi.isNone then none else match bnd mx c c with
       |none=>none
       |some m=>match bnd hi len m with
        |none=>none
        |some h=>match bnd lo 0 h with
         |none=>none
         |some l=>some (.slice id (o+l*s) (h-l) (.exact (m-l)))
     | .slice id o len (.rest es)=>match mx with
       |none=>match bnd hi len len with
        |none=>none
        |some h=>match bnd lo 0 h with
         |none=>none
         |some l=>if es=s then some (.slice id (o+l*s) (h-l) (.rest es)) else none
       |some _=>match hi,bnd mx 0 len with
        |none,_=>none
        |_,none=>none
        |some _,some m=>match bnd hi 0 m with
         |none=>none
         |some h=>match bnd lo 0 h with
          |none=>none
          |some l=>some (.slice id (o+l*s) (h-l) (.exact (m-l)))
     | .ro cs n full=>match mx with
       |none=>match bnd hi n n with
        |none=>none
        |some h=>match bnd lo 0 h with
         |none=>none
         |some l=>match eF (l*s) cs with
          |none=>none
          |some d=>match jR ((h-l)*s) d with
           |none=>none
           |some d'=>some (.ro d' (h-l) (full&&h == n))
       |some _=>match hi,bnd mx 0 n with
        |none,_=>none
        |_,none=>none
        |some _,some m=>match bnd hi 0 m with
         |none=>none
         |some h=>match bnd lo 0 h with
          |none=>none
          |some l=>match eF (l*s) cs with
           |none=>none
           |some d=>match jR ((h-l)*s) d with
            |none=>none
            |some d'=>some (.ro d' (h-l) (h == m))
     |_=>none
  | .array n e=>match jS tt e with
    |none=>none
    |some s=>match x with
     | .ptr id o=>if mx.isSome&&hi.isNone then none else match bnd mx n n with
       |none=>none
       |some m=>match bnd hi n m with
        |none=>none
        |some h=>match bnd lo 0 h with
         |none=>none
         |some l=>some (.slice id (o+l*s) (h-l) (.exact (m-l)))
     |_=>none
  |_=>none
def Nh (tt:TT) (t:Nat) (x:AV) (lo hi mx:Option AV) (h:Hp):Option AV:=
 match mx with
 |some _=>none
 |none=>match tt t with
  |none=>none
  |some ti=>match ti.kind with
   | .slice e=>match jS tt e with
     |none=>none
     |some s=>match x with
      | .slice id o len (.rest es)=>if es=s/\0<s then match h.get id with
       |some (.cells cs _)=>match bnd hi len ((cs.length-o) / s) with
        |none=>none
        |some hh=>match bnd lo 0 hh with
         |none=>none
         |some l=>some (.slice id (o+l*s) (hh-l) (.rest es))
       |_=>none
       else none
      |_=>none
   |_=>none
def Ce:List AV->Option (List Nat)
 |[]=>some []
 | .int .u8 (.lit (.ofNat b))::xs=>if b<256 then match Ce xs with
  |some l=>some (b::l)
  |none=>none
  else none
 |_::_=>none
def uQ (tt:TT) (sT dT:Nat) (x:AV) (h:Hp):Option (AV×Hp):=
 match tt sT with
 |none=>none
 |some j=>match tt dT with
 |some i=>match i.kind with
  | .int k=>match x with
    | .int _ (.lit n)=>some (.int k (.lit (AP k n)),h)
    | .int _ e=>some (.int k (.wrap k e),h)
    |_=>none
  | .string=>match j.kind with
   | .string=>match x with
     | .str s=>some (.str s,h)
     |_=>none
   | .slice e=>match tt e with
     |none=>none
     |some ie=>if ie.kind= .int .u8/\ie.size=1 then match x with
      | .aQ=>some (.str [],h)
      | .slice id o len _=>match qH h (.ptr id o) len with
        |some cs=>(Ce cs).map fun l=>(.str l,h)
        |none=>none
      |_=>none
      else none
   |_=>none
  | .slice e=>match tt e with
    |none=>none
    |some ie=>if ie.kind= .int .u8/\j.kind= .string then match x with
     | .str s=>some (.slice h.fresh 0 s.length (.rest 1),h.new (.cells (s.map fun c=> .int .u8 (.lit (Int.ofNat c))) e))
     |_=>none
     else none
  |_=>none
 |none=>none
def ZG (pc:List (SB×Bool)) (kk:TK) (a b:AV):Option Bool:=
 match kk with
 | .int _=>match a,b with
   | .int k x,.int k' y=>if k=k' then lV pc (xX x y) else none
   |_,_=>none
 | .string=>match a,b with
   | .str x,.str y=>some (iZ x y)
   |x,y=>match strEq x y with
    |some c=>lV pc c
    |none=>none
 | .bool=>match a,b with
   | .bool (.lit x),.bool (.lit y)=>some (x == y)
   |_,_=>none
 |_=>none
def Jr (pc:List (SB×Bool)) (kk:TK) (k:AV):List (AV×AV×Nat)->Nat->Option (Option (Nat×AV))
 |[],_=>some none
 |(k',v,_)::es,i=>match ZG pc kk k k' with
  |some true=>some (some (i,v))
  |some false=>Jr pc kk k es (i+1)
  |none=>none
def xQ (k v:AV):List (AV×AV×Nat)->Nat->List (AV×AV×Nat)
 |[],_=>[]
 |(_,_,b)::es,0=>(k,v,b)::es
 |e::es,n+1=>e::xQ k v es n
def vI {α:Type}:List α->Nat->List α
 |[],_=>[]
 |_::xs,0=>xs
 |x::xs,n+1=>x::vI xs n
def Dn (tt:TT) (t:Nat):Option TK:=match tt t with
 |some i=>match i.kind with
  | .int k=>some (.int k)
  | .string=>some .string
  | .bool=>some .bool
  |_=>none
 |none=>none
def zeroOf (i:TI):Option AV:=
 match i.agg with
 |true=>some (.agg i.zero)
 |false=>match i.zero with
  |[v]=>some v
  |_=>none
def SV (m:AV) (h:Hp):Option (List (AV×AV×Nat)):=match m with
 | .qK=>some []
 | .map id=>match h.get id with
   |some (.map es _)=>some es
   |_=>none
 |_=>none
def Nl (tt:TT) (pc:List (SB×Bool)) (t:Nat) (m k:AV) (ok:Bool) (h:Hp):Option AV:=
 match tt t with
 |some ti=>match ti.kind with
  | .map kt et=>
    match Dn tt kt with
    |none=>none
    |some kk=>
     match tt et with
     |none=>none
     |some ie=>
      match SV m h with
      |none=>none
      |some es=>match Jr pc kk k es 0 with
       |none=>none
       |some (some (_,v))=>some (if ok then .tuple [v,.bool (.lit true)] else v)
       |some none=>match zeroOf ie with
        |none=>none
        |some z=>some (if ok then .tuple [z,.bool (.lit false)] else z)
  |_=>none
 |none=>none
def wL (tt:TT) (pc:List (SB×Bool)) (t:Nat) (m k v:AV) (h:Hp):Option Hp:=
 match tt t with
 |some ti=>match ti.kind with
  | .map kt _=>
    match Dn tt kt with
    |none=>none
    |some kk=>match m with
     | .map id=>match h.get id with
       |some (.map es c)=>match Jr pc kk k es 0 with
        |none=>none
        |some (some (i,_))=>some (h.put id (.map (xQ k v es i) c))
        |some none=>some (h.put id (.map (es++ [(k,v,c)]) (c+1)))
       |_=>none
     |_=>none
  |_=>none
 |none=>none
def Nr (tt:TT) (pc:List (SB×Bool)) (t:Nat) (m k:AV) (h:Hp):Option Hp:=
 match tt t with
 |some ti=>match ti.kind with
  | .map kt _=>
    match Dn tt kt with
    |none=>none
    |some kk=>match m with
     | .qK=>some h
     | .map id=>match h.get id with
       |some (.map es c)=>match Jr pc kk k es 0 with
        |none=>none
        |some (some (i,_))=>some (h.put id (.map (vI es i) c))
        |some none=>some (h.put id (.map es c))
       |_=>none
     |_=>none
  |_=>none
 |none=>none
def aiI (tt:TT) (t:Nat) (x:AV) (h:Hp):Option AV:=
 let n (k:Nat):Option AV:=some (.int .i64 (.lit (Int.ofNat k)))
 match tt t with
 |some ti=>match ti.kind with
  | .string=>match x with
    | .str s=>n s.length
    | .lQ e=>some (.int .i64 (dH e))
    |_=>none
  | .slice _=>match x with
    | .aQ=>n 0
    | .emp=>n 0
    | .Ec _ _=>n 0
    | .slice _ _ len _=>n len
    | .ro _ k _=>n k
    | .dat e _=>some (.int .i64 (dH e))
    | .qO _ e _=>some (.int .i64 e)
    | .AL _ _ e _=>some (.int .i64 e)
    | .inp k _=>some (.int .i64 (.aK (900+k)))
    |_=>none
  | .array k _=>n k
  | .map _ _=>match x with
    | .qK=>n 0
    | .map id=>match h.get id with
      |some (.map es _)=>n es.length
      |some (.gY e _)=>some (.int .i64 (dH e))
      |some (.fam e _ _ _)=>some (.int .i64 (dH e))
      |_=>none
    |_=>none
  |_=>none
 |none=>none
def xK (s:Nat) (x:AV) (h:Hp):Option (Nat×List AV):=
 match x with
 | .aQ=>some (0,[])
 | .slice id o len _=>(qH h (.ptr id o) (len*s)).map fun l=>(len,l)
 | .ro cs n _=>(jR (n*s) cs).map fun l=>(n,l)
 | .str b=>if s=1 then some (b.length,b.map fun c=> .int .u8 (.lit (Int.ofNat c))) else none
 |_=>none
def qZ (ie:TI) (e len m:Nat) (cs:List AV) (h:Hp):Option (AV×Hp):=
 if (len+m)*ie.bytes<=140737488355328 then some (.slice h.fresh 0 (len+m) (.rest ie.size),h.new (.cells cs e)) else none
def vS (ie:TI) (e m:Nat) (news:List AV) (x:AV) (h:Hp):Option (AV×Hp):=
 match x with
 | .aQ=>if m=0 then some (.aQ,h) else qZ ie e 0 m news h
 | .slice id o len (.exact c)=>
   if len+m<=c then
    match h.get id with
    |some (.cells cs e')=>match splice cs (o+len*ie.size) news with
     |some cs'=>some (.slice id o (len+m) (.exact c),h.put id (.cells cs' e'))
     |none=>none
    |_=>none
   else match qH h (.ptr id o) (len*ie.size) with
    |some old=>qZ ie e len m (old++news) h
    |none=>none
 | .slice id o len (.rest es)=>
   if es=ie.size then
    match h.get id with
    |some (.cells cs e')=>
     if o+(len+m)*ie.size<=cs.length then
      match splice cs (o+len*ie.size) news with
      |some cs'=>some (.slice id o (len+m) (.rest es),h.put id (.cells cs' e'))
      |none=>none
     else if o+len*ie.size=cs.length/\e'=e then
      match eF o cs with
      |some old=>qZ ie e len m (old++news) (h.drop id)
      |none=>none
     else none
    |_=>none
   else none
 | .ro cs n full=>
   if m=0 then some (.ro cs n full,h)
   else if full then match jR (n*ie.size) cs with
    |some old=>qZ ie e n m (old++news) h
    |none=>none
   else none
 |_=>none
def Ns (tt:TT) (t t2:Nat) (x y:AV) (h:Hp):Option (AV×Hp):=
 match tt t with
 |some ti=>match ti.kind with
  | .slice e=>match tt e with
    |some ie=>match tt t2 with
     |none=>none
     |some ti2=>match ti2.kind with
      | .int _=>none
      |_=>
       if ie.size=0\/ie.bytes=0\/¬ie.zero.length=ie.size then none else
       match xK ie.size y h with
       |none=>none
       |some (m,news)=>vS ie e m news x h
    |none=>none
  |_=>none
 |none=>none
def Ug (tt:TT) (t:Nat) (x:AV) (h:Hp):Option Hp:=
 match tt t with
 |some ti=>match ti.kind with
  | .slice e=>match tt e with
    |some ie=>match x with
     | .aQ=>some h
     | .Ec _ _=>some h
     | .slice id o len _=>match len with
       |0=>some h
       |_=>match ie.zero with
        |[]=>none
        |_=>match h.get id with
         |some (.cells cs e')=>match splice cs o (repeatL ie.zero len) with
          |some cs'=>some (h.put id (.cells cs' e'))
          |none=>none
         |_=>none
     |_=>none
    |none=>none
  |_=>none
 |none=>none
def TU (tt:TT) (t:Nat) (x:AV) (h:Hp):Option (AV×Hp):=
 match tt t with
 |some ti=>match ti.kind with
  | .string=>match x with
    | .str b=>some (.ptr h.fresh 0,h.new (.lY b 0))
    |_=>none
  |_=>none
 |none=>none
def Ym (x:AV) (isS:Bool) (h:Hp):Option (AV×Hp):=
 match isS with
 |false=>none
 |true=>match x with
  | .ptr id 0=>match h.get id with
    |some (.lY b p)=>match fF b p with
     |none=>some (.tuple [.bool (.lit false)],h)
     |some c=>if c<128 then some (.tuple [.bool (.lit true),.int .i64 (.lit (Int.ofNat p)),.int .i32 (.lit (Int.ofNat c))],h.put id (.lY b (p+1))) else none
    |_=>none
  |_=>none
def zX (mx:Bool):List AV->SE->IntKind->St->T (AV×St)
 |[],a,k,s=> .ret (.int k a,s)
 | .int _ b::xs,a,k,s=>lT s (if mx then jL a b else jL b a) fun s c=>if c then zX mx xs b k s else zX mx xs a k s
 |_,_,_,_=> .fail
def auA (s:St) (q:Bool) (k:IntKind) (e d:SE):T (AV×St):=lT s (xX d (.lit 0)) fun s c=>match c with
 |true=> .fail
 |false=> .ret (.int k (match q with |true=> .wrap k (.quo e d)|false=> .rem e d),s)
def XE (op:BinOp) (a b:AV):Option (Bool×IntKind×SE×SE):=
 match (match op with | .rem=>some false| .quo=>some true|_=>none) with
 |some q=>match a with
  | .int k e=>match b with
    | .int k' d=>match d with
      | .lit _=>none
      |d=>if k=k' then some (q,k,e,d) else none
    |_=>none
  |_=>none
 |none=>none
def yB (s:St) (v:Option AV):T (AV×St):=match v with |some v=> .ret (v,s)|none=> .fail
def XB (s:St) (h:Option Hp):T (AV×St):=match h with |some h=> .ret (AV.undef,{ s with h:=h })|none=> .fail
def Je (s:St) (r:Option (AV×Hp)):T (AV×St):=match r with |some (v,h)=> .ret (v,{ s with h:=h })|none=> .fail
def QL (s:St):Option Operand->Option (Option AV)
 |none=>some none
 |some x=>(ev s x).map some
def Dy (s:St):List (Nat×Operand)->Option (List (Nat×AV))
 |[]=>some []
 |(i,x)::xs=>match ev s x with
  |none=>none
  |some a=>match Dy s xs with
   |none=>none
   |some aCH=>some ((i,a)::aCH)
def FT {α:Type} (s:St) (i n:SE) (f:St->T α):T α:=
 lT s (jL i (.lit 0)) fun s b=>match b with
  |true=> .fail
  |false=>lT s (jL i n) fun s b=>match b with
   |true=>f s
   |false=> .fail
def XO (tt:TT) (t:Nat) (a b:AV):Option SE:=match a with
 | .dat e _=>match b with
   | .aQ=>match tt t with
     |some ti=>match ti.kind with
      | .slice _=>some e
      |_=>none
     |none=>none
   |_=>none
 |_=>none
def agR (s:St) (op:BinOp) (r:Bool):T (AV×St):=match op with
 | .eql=> .ret (.bool (.lit r),s)
 | .neq=> .ret (.bool (.lit (!r)),s)
 |_=> .fail
def auK (s:St) (e:SE) (op:BinOp):T (AV×St):=lT s (jL (.lit 0) (dH e)) fun s b=>match b with
 |true=>agR s op false
 |false=>lT s (wF (qC e) (.dat (.i 1))) fun s b=>match b with
  |true=>agR s op true
  |false=>lT s (wF (qC e) (.dat (.i 2))) fun s b=>match b with
   |true=>agR s op false
   |false=> .fail
def azU (kk:TK) (a b:AV):Option SB:=match kk with
 | .int _=>match a with
   | .int k x=>match b with
     | .int k' y=>if k=k' then some (xX x y) else none
     |_=>none
   |_=>none
 | .string=>strEq a b
 |_=>none
def Ak {α:Type} (kk:TK) (k:AV):List (AV×AV×Nat)->St->(St->T α)->T α
 |[],s,f=>f s
 |(k',_,_)::es,s,f=>match ZG s.pc kk k k' with
  |some b=>match b with
   |true=>f s
   |false=>Ak kk k es s f
  |none=>match azU kk k k' with
   |some c=>lT s c fun s b=>match b with
    |true=>f s
    |false=>Ak kk k es s f
   |none=>f s
def rW {α:Type} (tt:TT) (t:Nat) (m k:AV) (s:St) (f:St->T α):T α:=match tt t with
 |some ti=>match ti.kind with
  | .map kt _=>match Dn tt kt with
    |some kk=>match SV m s.h with
     |some es=>Ak kk k es s f
     |none=>f s
    |none=>f s
  |_=>f s
 |none=>f s
def Wj (k:IntKind) (e:SE) (f:AV->St->T (AV×St)):Nat->Nat->St->T (AV×St)
 |0,_,_=> .fail
 |n+1,j,s=>match n with
  |0=>f (.int k (.lit (Int.ofNat j))) s
  |_=>lT s (xX e (.lit (Int.ofNat j))) fun s b=>match b with
   |true=>f (.int k (.lit (Int.ofNat j))) s
   |false=>Wj k e f n (j+1) s
def aAA (tt:TT) (t:Nat) (x:AV):Option Nat:=match tt t with
 |some ti=>match ti.kind with
  | .array n _=>if n<=64 then some n else none
  | .slice _=>match x with
    | .slice _ _ len _=>if len<=64 then some len else none
    |_=>none
  |_=>none
 |none=>none
def Rn (tt:TT) (t:Nat) (x ix:AV) (s:St) (f:AV->St->T (AV×St)):T (AV×St):=match mJ ix with
 |some _=>f ix s
 |none=>match ix with
  | .int k e=>match aAA tt t x with
    |some n=>FT s e (.lit (Int.ofNat n)) fun s=>Wj k e f n 0 s
    |none=> .fail
  |_=> .fail
def Af (tt:TT) (ty:Nat):Option Nat:=match tt ty with
 |some ti=>match ti.kind with
  | .slice el=>jS tt el
  |_=>none
 |none=>none
def Uf (tt:TT) (s:St) (ty t:Nat) (e:SE) (ix:AV):T (AV×St):=match ix with
 | .int _ i=>match Af tt ty with
   |some z=>if z=(rowOf t).es then FT s i (dH e) fun s=> .ret (.qX (iV (rowOf t) (.op .at e i)),s) else .fail
   |none=> .fail
 |_=> .fail
def TN (tt:TT) (s:St) (ty id t:Nat) (n:SE) (ix:AV):T (AV×St):=match ix with
 | .int _ i=>match Af tt ty with
   |some z=>if z=(rowOf t).es then FT s i n fun s=> .ret (.pX id z i 0,s) else .fail
   |none=> .fail
 |_=> .fail
def rZ (pc:List (SB×Bool)) (dflt:List AV) (i:SE):List (SE×List AV)->Option (List AV)
 |[]=>some dflt
 |(j,cs)::l=>match fD i j with
  |true=>some cs
  |false=>match lV pc (xX i j) with
   |some b=>match b with
    |true=>some cs
    |false=>rZ pc dflt i l
   |none=>none
def O6 (pc:List (SB×Bool)) (i:SE) (cs':List AV):List (SE×List AV)->Option (List (SE×List AV))
 |[]=>none
 |(j,cs)::l=>match fD i j with
  |true=>some ((j,cs')::l)
  |false=>match lV pc (xX i j) with
   |some b=>match b with
    |true=>some ((j,cs')::l)
    |false=>match O6 pc i cs' l with
     |some l'=>some ((j,cs)::l')
     |none=>none
   |none=>none
def CG (pc:List (SB×Bool)) (i:SE):List (SE×List AV)->Bool
 |[]=>true
 |(j,_)::l=>match lV pc (xX i j) with
  |some false=>CG pc i l
  |_=>false
def Ba {α:Type} (i:SE):List (SE×List AV)->St->(St->T α)->T α
 |[],s,k=>k s
 |(j,_)::l,s,k=>match fD i j with
  |true=>k s
  |false=>lT s (xX i j) fun s b=>match b with
   |true=>k s
   |false=>Ba i l s k
def LZ (k:IntKind):List AV->Option (List D)
 |[]=>some []
 |v::vs=>match v with
  | .int k' e=>match e with
    | .lit n=>if k=k' then match LZ k vs with
     |some ds=>some (.i n::ds)
     |none=>none
     else none
    |_=>none
  |_=>none
def alV:List AV->Option IntKind
 |v::_=>match v with
  | .int k _=>some k
  |_=>none
 |[]=>none
def aaL (tt:TT) (t:Nat) (ix:AV):Option (Nat×SE):=match mJ ix with
 |some _=>none
 |none=>match ix with
  | .int _ e=>match tt t with
    |some ti=>match ti.kind with
     | .array n el=>if 64<n then match tt el with
      |some ie=>if ie.size=1/\ie.agg=false then some (n,e) else none
      |none=>none
      else none
     |_=>none
    |none=>none
  |_=>none
def QJ (s:St) (cs:List AV) (e:SE):T (AV×St):=match alV cs with
 |none=> .fail
 |some k=>match LZ k cs with
  |none=> .fail
  |some ds=>FT s e (.lit (Int.ofNat ds.length)) fun s=> .ret (.int k (Jb (.op .at (.dat (dL ds)) e)),s)
def Gz (tt:TT) (s:St) (ty id es:Nat) (i:SE) (off:Nat):T (AV×St):=match s.h.get id with
 |some o=>match o with
  | .cells cs _=>match tt ty with
    |some ti=>match ti.agg||!(Nat.beq es 1)||!(Nat.beq off 0) with
     |true=> .fail
     |false=>QJ s cs i
    |none=> .fail
  | .vec e t _ ov=>match tt ty with
    |some ti=>if (rowOf t).es=es then FT s i (dH e) fun s=>Ba i ov s fun s=>match rZ s.pc (iV (rowOf t) (.op .at e i)) i ov with
     |some cs=>match eF off cs with
      |some l=>yB s (partOf ti l)
      |none=> .fail
     |none=> .fail
     else .fail
    |none=> .fail
  |_=> .fail
 |none=> .fail
def frz (v:AV) (h:Hp):AV×Hp:=match v with
 | .qO id n t=>match h.get id with
   |some o=>match o with
    | .vec e t' _ ov=>match ov with
      |[]=>match Nat.beq t t' with
       |true=>match fD n (dH e) with
        |true=>(.dat e t,h.drop id)
        |false=>(v,h)
       |false=>(v,h)
      |_=>(v,h)
    |_=>(v,h)
   |none=>(v,h)
 | .Ec z t=>(.dat z t,h)
 |v=>(v,h)
def isZ (e:SE):Bool:=match e with
 | .lit n=>BG n 0
 |_=>false
def yN (a b:SE):SE:=match isZ a with
 |true=>b
 |false=> .add a b
def KU (a b:SE):SE:=match isZ b with
 |true=>a
 |false=> .sub a b
def LH (e lo n:SE):SE:=match isZ lo with
 |true=> .op .take e n
 |false=> .op .drop (.op .take e (.add lo n)) lo
def EC {α:Type} (e lo n:SE) (s:St) (k:St->T α):T α:=
 lT s (jL lo (.lit 0)) fun s b=>match b with
  |true=> .fail
  |false=>lT s (jL n (.lit 0)) fun s b=>match b with
   |true=> .fail
   |false=>lT s (jL (dH e) (yN lo n)) fun s b=>match b with
    |true=> .fail
    |false=>k s
def I7 (h:Hp) (id t:Nat):Option (SE×TypeId):=match h.get id with
 |some o=>match o with
  | .vec e t' ty ov=>match ov with
    |[]=>match Nat.beq t t' with
     |true=>some (e,ty)
     |false=>none
    |_=>none
  |_=>none
 |none=>none
def Yc {α:Type} (v:AV) (s:St) (k:AV->St->T α):T α:=match v with
 | .AL id lo n t=>match I7 s.h id t with
   |some (e,_)=>EC e lo n s fun s=>k (.dat (LH e lo n) t) { s with h:=s.h.drop id }
   |none=>k v s
 |v=>match frz v s.h with
  |(v',h')=>k v' { s with h:=h' }
def P7 {α:Type}:List AV->St->(List AV->St->T α)->T α
 |[],s,k=>k [] s
 |v::vs,s,k=>Yc v s fun v' s=>P7 vs s fun vs' s=>k (v'::vs') s
def Pj {α:Type} (t:Nat):List (SE×List AV)->SE->St->(SE->St->T α)->T α
 |[],e,s,k=>k e s
 |(j,cs)::ov,e,s,k=>Pj t ov e s fun e s=>P7 cs s fun cs s=>match codeRow (rowOf t) cs with
  |some x=>k (.op .set e (dV (qR j) x)) s
  |none=> .fail
def auE (v:AV) (h:Hp):Option (Nat×SE×Nat×List (SE×List AV)):=match v with
 | .qO id n t=>match h.get id with
   |some o=>match o with
    | .vec e t' _ ov=>match ov with
      |[]=>none
      |_=>match Nat.beq t t' with
       |true=>match fD n (dH e) with
        |true=>some (id,e,t,ov)
        |false=>none
       |false=>none
    |_=>none
   |none=>none
 |_=>none
def acQ {α:Type} (v:AV) (s:St) (k:AV->St->T α):T α:=match auE v s.h with
 |some (id,e,t,ov)=>Pj t ov e s fun e' s=>match s.h.get id with
  |some _=>k (.dat e' t) { s with h:=s.h.drop id }
  |none=> .fail
 |none=>Yc v s k
def Ea {α:Type}:List AV->St->(List AV->St->T α)->T α
 |[],s,k=>k [] s
 |v::vs,s,k=>acQ v s fun v' s=>Ea vs s fun vs' s=>k (v'::vs') s
def setCells:List CK->Nat->List AV->SE->Option SE
 |_,_,[],x=>some x
 |ks,off,v::vs,x=>match fF ks off with
  |some c=>match qM c v with
   |some a=>setCells ks (off+1) vs (.op .set x (dV (.dat (.i (Int.ofNat off))) a))
   |none=>none
  |none=>none
def Uz (r:Row) (e i:SE) (off:Nat) (vs:List AV):Option SE:=match r with
 | .one c=>match off with
   |0=>match vs with
    |[v]=>match qM c v with
     |some a=>some (.op .set e (dV (qR i) a))
     |none=>none
    |_=>none
   |_=>none
 | .many ks=>match setCells ks off vs (.op .at e i) with
   |some x=>some (.op .set e (dV (qR i) x))
   |none=>none
def Nb (tt:TT) (s:St) (ty id es:Nat) (i:SE) (off:Nat) (one:Bool) (vs:List AV):T (AV×St):=
 match s.h.get id with
  |some o=>match o with
   | .vec e t HY ov=>match tt ty with
     |some ti=>if (rowOf t).es=es/\vs.length=ti.size/\one=true then FT s i (dH e) fun s=>Ba i ov s fun s=>match rZ s.pc (iV (rowOf t) (.op .at e i)) i ov with
      |some cs=>match splice cs off vs with
       |some cs'=>match O6 s.pc i cs' ov with
        |some kJ=> .ret (AV.undef,{ s with h:=s.h.put id (.vec e t HY kJ) })
        |none=>match CG s.pc i ov with
         |true=>match Uz (rowOf t) e i off vs with
          |some e'=> .ret (AV.undef,{ s with h:=s.h.put id (.vec e' t HY ov) })
          |none=> .ret (AV.undef,{ s with h:=s.h.put id (.vec e t HY ((i,cs')::ov)) })
         |false=> .fail
       |none=> .fail
      |none=> .fail
      else .fail
     |none=> .fail
   |_=> .fail
  |none=> .fail
def azY:AV->Bool
 | .qO _ _ _=>true
 | .aQ=>true
 | .Ec _ _=>true
 | .slice _ _ n c=>match n with
   |0=>match c with
    | .exact k=>match k with
      |0=>true
      |_=>false
    |_=>false
   |_=>false
 |_=>false
def avI (c:CK) (v:AV):AV:=match c with
 | .sl t=>match v with
   | .aQ=> .Ec (.dat (.i 1)) t
   | .slice i o n k=>match n with
     |0=>match k with
      | .exact m=>match m with
        |0=> .Ec (.dat (.i 2)) t
        |m+1=> .slice i o 0 (.exact (m+1))
      |k=> .slice i o 0 k
     |n+1=> .slice i o (n+1) k
   |v=>v
 |_=>v
def VT:List CK->List AV->List AV
 |[],vs=>vs
 |_::_,[]=>[]
 |c::cs,v::vs=>avI c v::VT cs vs
def Xz (r:Row):List CK:=match r with
 | .one c=>[c]
 | .many cs=>cs
def ZX (i:SE):List (SB×Bool)->Option SE
 |[]=>none
 |(c,b)::l=>match c with
  | .eq x y=>match b with
    |true=>match fD x i with
     |true=>some y
     |false=>ZX i l
    |false=>ZX i l
  |_=>ZX i l
def MZ (tt:TT) (s:St) (ty id es:Nat) (i j:SE) (off:Nat) (one:Bool) (vs:List AV):T (AV×St):=
 match s.h.get id with
  |some o=>match o with
   | .vec e t HY ov=>match tt ty with
     |some ti=>if (rowOf t).es=es/\vs.length=ti.size/\one=true then FT s i (dH e) fun s=>Ba j ov s fun s=>match lV s.pc (.eq i j) with
      |some true=>match rZ s.pc (iV (rowOf t) (.op .at e j)) j ov with
       |some cs=>match splice cs off (VT ((Xz (rowOf t)).drop off) vs) with
        |some cs'=>match O6 s.pc j cs' ov with
         |some kJ=> .ret (AV.undef,{ s with h:=s.h.put id (.vec e t HY kJ) })
         |none=>match CG s.pc j ov with
          |true=> .ret (AV.undef,{ s with h:=s.h.put id (.vec e t HY ((j,cs')::ov)) })
          |false=> .fail
        |none=> .fail
       |none=> .fail
      |_=> .fail
      else .fail
     |none=> .fail
   |_=> .fail
  |none=> .fail
def Nc (tt:TT) (s:St) (ty id es:Nat) (i:SE) (off:Nat) (v:AV):T (AV×St):=
 match (if azY v then ZX i s.pc else none) with
 |some j=>MZ tt s ty id es i j off (xB v.cells) v.cells
 |none=>Ea v.cells s fun vs s=>Nb tt s ty id es i off (xB v.cells) vs
def vO (e:Nat) (own:Option Nat) (x:AV) (h:Hp):Option (SE×Nat×Hp):=match x with
 | .qO id n t=>match h.get id with
   |some o=>match o with
    | .vec e0 t0 ty ov=>match ov with
      |[]=>match Nat.beq t t0 with
       |true=>match Nat.beq ty e with
        |true=>match fD n (dH e0) with
         |true=>some (e0,t,h.drop id)
         |false=>none
        |false=>none
       |false=>none
      |_=>none
    |_=>none
   |none=>none
 | .aQ=>match own with
   |some t=>some (.dat (.i 0),t,h)
   |none=>none
 | .emp=>match own with
   |some t=>some (.dat (.i 0),t,h)
   |none=>none
 | .Ec _ _=>match own with
   |some t=>some (.dat (.i 0),t,h)
   |none=>none
 | .slice _ _ n c=>match n with
   |0=>match c with
    | .exact k=>match k with
      |0=>match own with
       |some t=>some (.dat (.i 0),t,h)
       |none=>none
      |_=>none
    |_=>none
   |_=>none
 |_=>none
def arC:AV->Bool
 | .dat _ _=>true
 |_=>false
def ahE (own:Option Nat):AV->Bool
 | .qO _ _ _=>true
 | .AL _ _ _ _=>true
 | .aQ=>own.isSome
 | .emp=>own.isSome
 | .Ec _ _=>own.isSome
 | .slice _ _ n c=>match n with
   |0=>match c with
    | .exact k=>match k with
      |0=>own.isSome
      |_=>false
    |_=>false
   |_=>false
 |_=>false
def aaN (id t:Nat) (ty:TypeId) (e0 n1 m sd:SE) (s:St):T (AV×St):=
 EC e0 n1 m s fun s=> .ret (.AL id (.lit 0) (yN n1 m) t,{ s with h:=s.h.put id (.vec (.op .cat (.op .cat (.op .take e0 n1) sd) (.op .drop e0 (yN n1 m))) t ty []) })
def Nu (tt:TT) (t t2 id:Nat) (n1:SE) (t':Nat) (y:AV) (s:St):T (AV×St):=
 match tt t with
 |some ti=>match ti.kind with
  | .slice e=>match tt e with
    |some ie=>match tt t2 with
     |none=> .fail
     |some ti2=>match ti2.kind with
      | .int _=> .fail
      |_=>
       if ie.size=0\/ie.bytes=0\/¬ie.zero.length=ie.size\/¬(rowOf t').es=ie.size then .fail else
       match I7 s.h id t' with
       |none=> .fail
       |some (e0,ty)=>match y with
        | .AL id2 lo2 n2 t2'=>match Nat.beq id2 id with
          |true=>match Nat.beq t2' t' with
           |true=>EC e0 lo2 n2 s fun s=>aaN id t' ty e0 n1 n2 (LH e0 lo2 n2) s
           |false=> .fail
          |false=> .fail
        |y=>match xK ie.size y s.h with
         |none=> .fail
         |some (m,news)=>match m with
          |0=> .fail
          |m+1=>if m<1000 then match mQ (rowOf t') (.dat (.i 0)) (m+1) news with
           |some sd=>aaN id t' ty e0 n1 (.lit (Int.ofNat (m+1))) sd s
           |none=> .fail
           else .fail
    |none=> .fail
  |_=> .fail
 |none=> .fail
def GL (tt:TT) (ty id:Nat) (lo n:SE) (t:Nat) (s:St):T (AV×St):=
 match tt ty with
 |some ti=>match ti.kind with
  | .slice e=>match tt e with
    |some ie=>if (rowOf t).es=ie.size/\0<ie.size then match I7 s.h id t with
     |none=> .fail
     |some (e0,HY)=>match codeRow (rowOf t) ie.zero with
      |none=> .fail
      |some z=>lT s (jL lo (.lit 0)) fun s b=>match b with
       |true=> .fail
       |false=>lT s (jL n (.lit 0)) fun s b=>match b with
        |true=> .fail
        |false=>lT s (xX (yN lo n) (dH e0)) fun s b=>match b with
         |false=> .fail
         |true=> .ret (AV.undef,{ s with h:=s.h.put id (.vec (.op .fill e0 (dV (qR lo) z)) t HY []) })
     else .fail
    |none=> .fail
  |_=> .fail
 |none=> .fail
def roomOf (bytes k:Nat):Int:=Int.ofNat (140737488355328 / bytes-k)
def afZ (e0:SE) (bytes:Nat):Int:=match X3 e0 with
 |true=>roomOf bytes 0
 |false=>roomOf bytes 1000000
def anD:AV->Bool
 | .qO _ _ _=>true
 | .Ec _ _=>true
 | .slice _ _ n _=>match n with
   |0=>true
   |_=>false
 |_=>false
def Gh:List (SB×Bool)->Bool
 |[]=>false
 |(b,v)::l=>match b with
  | .eq _ x=>match x with
    | .aK i=>match i with
      |0=>match v with
       |true=>true
       |false=>Gh l
      |_=>Gh l
    |_=>Gh l
  |_=>Gh l
def alP (m:Nat) (news:List AV) (pc:List (SB×Bool)):Bool:=match m with
 |0=>match news.any anD with
  |true=>Gh pc
  |false=>false
 |_=>false
def Ig (e:Nat) (x:AV) (h:Hp):Option (SE×Nat×SE×List AV×Hp):=match x with
 | .qO id n t=>match h.get id with
   |some o=>match o with
    | .vec e0 t0 ty ov=>match ov with
      |[]=>none
      |p::l=>match l with
       |[]=>match Nat.beq t t0 with
        |true=>match Nat.beq ty e with
         |true=>match fD n (dH e0) with
          |true=>some (e0,t,p.1,p.2,h.drop id)
          |false=>none
         |false=>none
        |false=>none
       |_=>none
    |_=>none
   |none=>none
 |_=>none
def GN (e:Nat) (own:Option Nat) (x:AV) (ie:TI) (m:Nat) (news:List AV) (s:St):T (AV×St):=
 Ea news s fun news' s=>match vO e own x s.h with
  |some (e0,t',h0)=>if (rowOf t').es=ie.size/\m<1000 then
   lT s (jL (dH e0) (.lit (roomOf ie.bytes (m+1)))) fun s b=>match b with
    |true=>match mQ (rowOf t') e0 (m+1) news' with
     |some e1=> .ret (.qO h0.fresh (dH e1) t',{ s with h:=h0.new (.vec e1 t' e []) })
     |none=> .fail
    |false=> .fail
   else .fail
  |none=> .fail
def IK (e:Nat) (x:AV) (ie:TI) (m:Nat) (news:List AV) (s:St):T (AV×St):=
 Ea news s fun news' s=>match Ig e x s.h with
  |some (e0,t',p,cs,h0)=>if (rowOf t').es=ie.size/\m<1000 then
   lT s (jL (dH e0) (.lit (roomOf ie.bytes (m+1)))) fun s b=>match b with
    |true=>lT s (jL p (dH e0)) fun s b=>match b with
     |true=>match mQ (rowOf t') e0 (m+1) news' with
      |some e1=> .ret (.qO h0.fresh (dH e1) t',{ s with h:=h0.new (.vec e1 t' e [(p,cs)]) })
      |none=> .fail
     |false=> .fail
    |false=> .fail
   else .fail
  |none=> .fail
def IJ (e:Nat) (own:Option Nat) (x:AV) (ie:TI) (m:Nat) (news:List AV) (s:St):T (AV×St):=
 match vO e own x s.h with
 |some (e0,t',h0)=>if (rowOf t').es=ie.size/\m=0 then
  lT s (xX (dH e0) (.aK 0)) fun s b=>match b with
   |true=>lT s (jL (dH e0) (.lit (roomOf ie.bytes 1))) fun s b=>match b with
    |true=>match mQ (rowOf t') e0 1 ie.zero with
     |some e1=> .ret (.qO h0.fresh (dH e1) t',{ s with h:=h0.new (.vec e1 t' e [(.aK 0,news)]) })
     |none=> .fail
    |false=> .fail
   |false=>GN e own x ie m news s
  else .fail
 |none=> .fail
def II (tt:TT) (t t2:Nat) (x y:AV) (s:St):T (AV×St):=
 match tt t with
 |some ti=>match ti.kind with
  | .slice e=>match tt e with
    |some ie=>match tt t2 with
     |none=> .fail
     |some ti2=>match ti2.kind with
      | .int _=> .fail
      |_=>
       if ie.size=0\/ie.bytes=0\/¬ie.zero.length=ie.size\/¬ie.bytes<=400 then .fail else
       match y with
       | .dat e2 ty2=>match vO e ti.own x s.h with
         |some (e0,t',h0)=>if (rowOf t').es=ie.size/\rowOf ty2=rowOf t' then
          lT s (wF (dH e2) (.lit 0)) fun s b=>match b with
           |true=> .ret (x,s)
           |false=>lT s (jL (dH e2) (.lit (afZ e0 ie.bytes))) fun s b=>match b with
            |true=>lT s (jL (dH e0) (.lit 1000000)) fun s b=>match b with
             |true=>match X3 e0 with
              |true=> .ret (.qO h0.fresh (dH e2) t',{ s with h:=h0.new (.vec e2 t' e []) })
              |false=> .ret (.qO h0.fresh (dH (.op .cat e0 e2)) t',{ s with h:=h0.new (.vec (.op .cat e0 e2) t' e []) })
             |false=> .fail
            |false=> .fail
          else .fail
         |none=> .fail
       |y=>match xK ie.size y s.h with
        |some (m,news)=>match m with
         |0=> .ret (x,s)
         |m+1=>match Ig e x s.h with
          |some _=>IK e x ie m news s
          |none=>match alP m news s.pc with
           |true=>IJ e ti.own x ie m news s
           |false=>GN e ti.own x ie m news s
        |none=> .fail
    |none=> .fail
  |_=> .fail
 |none=> .fail
def TY (tt:TT) (t:Nat) (l c:AV) (s:St):T (AV×St):=match l with
 | .int k n=>match c with
   | .int k2 n2=>match fD n n2 with
     |false=> .fail
     |true=>match tt t with
      |none=> .fail
      |some i=>match i.own with
       |none=> .fail
       |some o=>match i.kind with
        | .slice e=>match tt e with
          |none=> .fail
          |some ie=>match codeRow (rowOf o) ie.zero with
           |none=> .fail
           |some z=>if ie.size=(rowOf o).es/\0<ie.size/\ie.bytes≠0/\ie.zero.length=ie.size then
            lT s (jL n (.lit 0)) fun s b=>match b with
             |true=> .fail
             |false=>lT s (wF n (.lit 0)) fun s b=>match b with
              |true=>match wM tt t (.int k (.lit 0)) (.int k2 (.lit 0)) s.h with
               |some (v,h)=> .ret (v,{ s with h:=h })
               |none=> .fail
              |false=>lT s (jL n (.lit (roomOf ie.bytes 0))) fun s b=>match b with
               |true=> .ret (.qO s.h.fresh (dH (.op .rep n z)) o,{ s with h:=s.h.new (.vec (.op .rep n z) o e []) })
               |false=> .fail
            else .fail
        |_=> .fail
   |_=> .fail
 |_=> .fail
def JQ (v:AV):Bool:=match mJ v with
 |some n=>BG n 0
 |none=>false
def Ue (tt:TT) (s:St) (ty t:Nat) (e:SE) (lo hi:Option AV) (mx:Option AV):T (AV×St):=match mx with
 |some m=>match JQ m with
  |true=>match Af tt ty with
   |none=> .fail
   |some _=>match lo with
    |none=>match hi with
     |some hv=>match JQ hv with
      |true=> .ret (.Ec (.op .take e (.lit 0)) t,s)
      |false=> .fail
     |none=> .fail
    |some _=> .fail
  |false=> .fail
 |none=>match Af tt ty with
  |none=> .fail
  |some z=>if z=(rowOf t).es then
   (match hi with
   |none=>match lo with
    |some (.int _ l)=>lT s (jL l (.lit 0)) fun s b=>match b with
     |true=> .fail
     |false=>lT s (jL (dH e) l) fun s b=>match b with
      |true=> .fail
      |false=> .ret (.dat (.op .drop e l) t,s)
    |_=> .fail
   |some (.int _ h)=>lT s (jL (dH e) h) fun s b=>match b with
    |true=> .fail
    |false=>match lo with
     |none=>lT s (jL h (.lit 0)) fun s b=>match b with
      |true=> .fail
      |false=> .ret (.dat (.op .take e h) t,s)
     |some (.int _ l)=>lT s (jL l (.lit 0)) fun s b=>match b with
      |true=> .fail
      |false=>lT s (jL h l) fun s b=>match b with
       |true=> .fail
       |false=> .ret (.dat (.op .drop (.op .take e h) l) t,s)
     |_=> .fail
   |_=> .fail)
   else .fail
def loE (lo:Option AV):Option SE:=match lo with
 |none=>some (.lit 0)
 |some v=>match v with
  | .int _ l=>some l
  |_=>none
def Kw (tt:TT) (s:St) (ty id t:Nat) (lo0 n0:SE) (lo hi mx:Option AV):T (AV×St):=
 match Af tt ty with
 |none=> .fail
 |some z=>if z=(rowOf t).es/\z≠0 then match loE lo with
  |none=> .fail
  |some l=>lT s (jL l (.lit 0)) fun s b=>match b with
   |true=> .fail
   |false=>match hi with
    |none=>match mx with
     |some _=> .fail
     |none=>lT s (jL n0 l) fun s b=>match b with
      |true=> .fail
      |false=> .ret (.AL id (yN lo0 l) (KU n0 l) t,s)
    |some hv=>match hv with
     | .int _ h=>lT s (jL h l) fun s b=>match b with
       |true=> .fail
       |false=>match mx with
        |some mv=>match mv with
         | .int _ m=>lT s (jL m h) fun s b=>match b with
           |true=> .fail
           |false=>lT s (jL n0 m) fun s b=>match b with
            |true=> .fail
            |false=> .ret (.any,s)
         |_=> .fail
        |none=>lT s (jL n0 h) fun s b=>match b with
         |false=> .ret (.AL id (yN lo0 l) (KU h l) t,s)
         |true=>match isZ lo0 with
          |false=> .fail
          |true=>match I7 s.h id t with
           |none=> .fail
           |some (e,_)=>lT s (jL (dH e) h) fun s b=>match b with
            |true=> .fail
            |false=> .ret (.AL id (yN lo0 l) (KU h l) t,s)
     |_=> .fail
  else .fail
def Ud (tt:TT) (s:St) (ty:Nat) (z:SE) (t:Nat) (lo hi mx:Option AV):T (AV×St):=
 match mx with
 |some _=> .fail
 |none=>match Af tt ty with
  |none=> .fail
  |some _=>match bnd hi 0 0 with
   |some 0=>match bnd lo 0 0 with
    |some 0=> .ret (.Ec z t,s)
    |_=> .fail
   |_=> .fail
def TM (tt:TT) (s:St) (ty id t:Nat) (lo n:SE) (ix:AV):T (AV×St):=match ix with
 | .int _ i=>match Af tt ty with
   |some z=>if z=(rowOf t).es then FT s i n fun s=> .ret (.pX id z (yN lo i) 0,s) else .fail
   |none=> .fail
 |_=> .fail
def ahG:AV->Bool
 | .lQ _=>true
 |_=>false
def TQ (tt:TT) (s:St) (ty:Nat) (e:SE) (ix:AV):T (AV×St):=match ix with
 | .int _ i=>match tt ty with
   |some ti=>match ti.kind with
    | .string=>FT s i (dH e) fun s=> .ret (.int .u8 (Jb (.op .at e i)),s)
    |_=> .fail
   |none=> .fail
 |_=> .fail
def hiE (e:SE) (hi:Option AV):Option SE:=match hi with
 |none=>some (dH e)
 |some v=>match v with
  | .int _ h=>some h
  |_=>none
def TP (tt:TT) (s:St) (ty:Nat) (e:SE) (lo hi mx:Option AV):T (AV×St):=match mx with
 |some _=> .fail
 |none=>match tt ty with
  |none=> .fail
  |some ti=>match ti.kind with
   | .string=>match loE lo with
     |none=> .fail
     |some l=>match hiE e hi with
      |none=> .fail
      |some h=>lT s (jL l (.lit 0)) fun s b=>match b with
       |true=> .fail
       |false=>lT s (jL h l) fun s b=>match b with
        |true=> .fail
        |false=>lT s (jL (dH e) h) fun s b=>match b with
         |true=> .fail
         |false=> .ret (.lQ (.op .sub e (dV (qR l) (dV (qR h) (.dat (.i 0))))),s)
   |_=> .fail
def JV (x y:AV):Option (SE×SE):=match ahG x||ahG y with
 |false=>none
 |true=>match AO x with
  |none=>none
  |some a=>match AO y with
   |none=>none
   |some b=>some (a,b)
def OL (a b:SE):SB:=.not (.eq (.op .slt a b) (.lit 0))
def Yh (op:BinOp) (a b:SE) (s:St):T (AV×St):=match op with
 | .add=>lT s (jL (dH a) (.lit 1000000000)) fun s c=>match c with
   |false=> .fail
   |true=>lT s (jL (dH b) (.lit 1000000000)) fun s c=>match c with
    |false=> .fail
    |true=> .ret (.lQ (.op .cat a b),s)
 | .eql=> .ret (.bool (wF (qC a) (qC b)),s)
 | .neq=> .ret (.bool (.not (wF (qC a) (qC b))),s)
 | .lss=> .ret (.bool (OL a b),s)
 | .gtr=> .ret (.bool (OL b a),s)
 | .leq=> .ret (.bool (DZ (OL b a)),s)
 | .geq=> .ret (.bool (DZ (OL a b)),s)
 |_=> .fail
def Kz (tt:TT) (sT dT:Nat) (e:SE) (s:St):T (AV×St):=match tt sT with
 |none=> .fail
 |some j=>match j.kind with
  | .string=>match tt dT with
    |none=> .fail
    |some i=>match i.kind with
     | .slice el=>match tt el with
       |some ie=>match ie.kind with
        | .int k=>match k with
          | .u8=>lT s (wF (dH e) (.lit 0)) fun s c=>match c with
            |true=> .ret (.slice s.h.fresh 0 0 (.rest 1),{ s with h:=s.h.new (.cells [] el) })
            |false=> .ret (.qO s.h.fresh (dH e) 14,{ s with h:=s.h.new (.vec e 14 el []) })
          |_=> .fail
        |_=> .fail
       |none=> .fail
     |_=> .fail
  |_=> .fail
def Jk (c:CK):TK:=match c with
 | .int k=> .int k
 |_=> .string
def D7 (m:AV) (h:Hp):Option (Nat×SE×Nat):=match m with
 | .map id=>match h.get id with
   |some o=>match o with
    | .gY e t=>some (id,e,t)
    |_=>none
   |none=>none
 |_=>none
def mapKey (tt:TT) (ty t:Nat) (k:AV):Option (SE×TI):=match tt ty with
 |none=>none
 |some ti=>match ti.kind with
  | .map kt et=>match tt kt with
    |none=>none
    |some ki=>if ki.kind=Jk (mapOf t).1 then match tt et with
     |none=>none
     |some ie=>match qM (mapOf t).1 k with
      |none=>none
      |some a=>some (qC a,ie)
     else none
  |_=>none
def P5 (e a:SE):SB:=match e with
 | .dat d=>match a with
   | .dat k=> .lit (!(jF d.l k).isSome)
   |a=> .eq (.op .JG (.dat d) a) (.lit 0)
 |e=> .eq (.op .JG e a) (.lit 0)
def Gy (tt:TT) (ty:Nat) (k:AV) (ok:Bool) (e:SE) (t:Nat) (s:St):T (AV×St):=match mapKey tt ty t k with
 |none=> .fail
 |some (a,ie)=>match zeroOf ie with
  |none=> .fail
  |some z=>lT s (P5 e a) fun s b=>match b with
   |true=> .ret (if ok then .tuple [z,.bool (.lit false)] else z,s)
   |false=> .ret (if ok then .tuple [wZ (mapOf t).2 (.op .EI e a),.bool (.lit true)] else wZ (mapOf t).2 (.op .EI e a),s)
def Yl (tt:TT) (ty id:Nat) (k x:AV) (e:SE) (t:Nat) (s:St):T (AV×St):=match mapKey tt ty t k with
 |none=> .fail
 |some (a,_)=>match qM (mapOf t).2 x with
  |none=> .fail
  |some b=> .ret (AV.undef,{ s with h:=s.h.put id (.gY (.op .tK e (dV a b)) t) })
def TV (tt:TT) (ty:Nat) (m k x:AV) (s:St):T (AV×St):=Ea [x] s fun xs s=>match xs with
 |[x]=>match D7 m s.h with
  |some (id,e,t)=>Yl tt ty id k x e t s
  |none=> .fail
 |_=> .fail
def Yw (tt:TT) (ty id:Nat) (k:AV) (e:SE) (t:Nat) (s:St):T (AV×St):=match mapKey tt ty t k with
 |none=> .fail
 |some (a,_)=> .ret (AV.undef,{ s with h:=s.h.put id (.gY (.op .XR e a) t) })
def MV (m:AV) (h:Hp):Option (Nat×SE×Nat×List Nat×List (SE×AV)):=match m with
 | .map id=>match h.get id with
   |some o=>match o with
    | .fam e t tys ov=>some (id,e,t,tys,ov)
    |_=>none
   |none=>none
 |_=>none
def TJ (tt:TT) (ty:Nat) (k:AV):Option (SE×TI):=match tt ty with
 |none=>none
 |some ti=>match ti.kind with
  | .map kt et=>match tt kt with
    |none=>none
    |some ki=>if ki.kind= .int .i64 then match tt et with
     |none=>none
     |some ie=>match k with
      | .int kk x=>if kk= .i64 then some (x,ie) else none
      |_=>none
     else none
  |_=>none
def Ac {α:Type} (x:SE):List (SE×AV)->St->(Option AV->St->T α)->T α
 |[],s,k=>k none s
 |(y,v)::l,s,k=>match fD x y with
  |true=>k (some v) s
  |false=>lT s (xX x y) fun s b=>match b with
   |true=>k (some v) s
   |false=>Ac x l s k
def TG {α:Type} (x:SE) (v:AV):List (SE×AV)->St->(Option (List (SE×AV))->St->T α)->T α
 |[],s,k=>k none s
 |(y,u)::l,s,k=>match fD x y with
  |true=>k (some ((y,v)::l)) s
  |false=>lT s (xX x y) fun s b=>match b with
   |true=>k (some ((y,v)::l)) s
   |false=>TG x v l s fun r s=>match r with
    |some l'=>k (some ((y,u)::l')) s
    |none=>k none s
def Gx (tt:TT) (ty:Nat) (k:AV) (ok:Bool) (e:SE) (ov:List (SE×AV)) (s:St):T (AV×St):=match TJ tt ty k with
 |none=> .fail
 |some (x,ie)=>match zeroOf ie with
  |none=> .fail
  |some z=>Ac x ov s fun r s=>match r with
   |some v=> .ret (if ok then .tuple [v,.bool (.lit true)] else v,s)
   |none=>lT s (P5 e (qR x)) fun s b=>match b with
    |true=> .ret (if ok then .tuple [z,.bool (.lit false)] else z,s)
    |false=> .fail
def Gw (tt:TT) (ty id:Nat) (k v:AV) (e:SE) (t:Nat) (tys:List Nat) (ov:List (SE×AV)) (s:St):T (AV×St):=match TJ tt ty k with
 |none=> .fail
 |some (x,_)=>TG x v ov s fun r s=>match r with
  |some kJ=> .ret (AV.undef,{ s with h:=s.h.put id (.fam e t tys kJ) })
  |none=>lT s (P5 e (qR x)) fun s b=>match b with
   |true=> .ret (AV.undef,{ s with h:=s.h.put id (.fam (.op .tK e (dV (qR x) (.dat (.i 0)))) t tys ((x,v)::ov)) })
   |false=> .fail
def aCd (tt:TT) (t:Nat):Nat:=match tt t with
 |some ti=>match ti.kind with
  | .slice e=>e
  |_=>0
 |none=>0
def aiG (tt:TT) (t:Nat):List Nat:=match tt t with
 |some ti=>match ti.kind with
  | .map _ et=>match tt et with
    |some ie=>match ie.kind with
     | .pointer s=>match tt s with
       |some si=>match si.kind with
        | .struct fs=>s::0::fs.map fun f=>aCd tt f.2.1
        |_=>[]
       |none=>[]
     | .slice e=>[0,e]
     |_=>[]
    |none=>[]
  |_=>[]
 |none=>[]
abbrev dQ:=Nat->List AV->St->T (AV×St)
def Hq (s:St) (x:Operand) (f:AV->T (AV×St)):T (AV×St):=match ev s x with |some v=>f v|none=> .fail
def aqZ (tt:TT) (t:Nat):Option Nat:=match tt t with
 |some ti=>ti.own
 |none=>none
def Dz (tt:TT) (s:St) (b:Builtin) (ts:List Nat) (args:List AV):T (AV×St):=
 match b,ts,args with
 | .len,[t],[x]=>yB s (aiI tt t x s.h)
 | .append,[t,t2],[.AL id lo n t',y]=>match isZ lo with
   |true=>Nu tt t t2 id n t' y s
   |false=> .fail
 | .append,[t,t2],[x,y]=>match ahE (aqZ tt t) x||arC y with
   |true=>II tt t t2 x y s
   |false=>Je s (Ns tt t t2 x y s.h)
 | .delete,[t,_],[m,k]=>match D7 m s.h with
   |some (id,e,t')=>Yw tt t id k e t' s
   |none=>rW tt t m k s fun s=>XB s (Nr tt s.pc t m k s.h)
 | .clear,[t],[.qO id n t']=>GL tt t id (.lit 0) n t' s
 | .clear,[t],[.AL id lo n t']=>GL tt t id lo n t' s
 | .clear,[t],[x]=>XB s (Ug tt t x s.h)
 | .min,_,.int k a::xs=>zX false xs a k s
 | .max,_,.int k a::xs=>zX true xs a k s
 |_,_,_=> .fail
def Uh (tt:TT) (call:dQ) (s:St) (c:Call):T (AV×St):=
 match evs s c.args.toList with
 |none=> .fail
 |some args=>match c.callee with
  | .builtin b=>Dz tt s b c.argTypes.toList args
  | .value f=>match ev s f with
    |some (.func (.func g) fs cs)=>call g (fs++args++cs) s
    |_=> .fail
  | .invoke _ _=> .fail
def axZ:SB->Bool
 | .lit _=>true
 | .not c=>match c with
   | .eq _ z=>match z with
     | .lit n=>BG n 0
     |_=>false
   |_=>false
 |_=>false
def akT {α:Type} (v:AV) (s:St) (k:AV->St->T α):T α:=match v with
 | .bool c=>match axZ c with
   |true=>k (.bool c) s
   |false=>lT s c fun s b=>k (.bool (.lit b)) s
 |v=>k v s
def TW (tt:TT) (call:dQ) (s:St) (op:Op):T (AV×St):=
 match op with
 | .move x=>Hq s x fun v=> .ret (v,s)
 | .assign x=>Hq s x fun v=> .ret (v,s)
 | .pick c a b=>Hq s c fun c=>match c with
   | .bool c=>lT s c fun s b'=>if b' then Hq s a fun v=> .ret (v,s) else Hq s b fun v=> .ret (v,s)
   |_=> .fail
 | .alloc t=>match tt t with
   |some i=> .ret (.ptr s.h.fresh 0,{ s with h:=s.h.new (.cells i.zero t) })
   |none=> .fail
 | .box t x=>Hq s x fun v=>if xB v.cells then .ret (.ptr s.h.fresh 0,{ s with h:=s.h.new (.cells v.cells t) }) else .fail
 | .build t parts=>match Dy s parts.toList with
   |some ps=>yB s (Uj tt t ps)
   |none=> .fail
 | .buildSlice t n parts=>match Dy s parts.toList with
   |some ps=>Je s (Ae tt t n ps s.h)
   |none=> .fail
 | .makeSlice t l c=>Hq s l fun lv=>match ev s c with
   |some cv=>match wM tt t lv cv s.h with
    |some r=>Je s (some r)
    |none=>TY tt t lv cv s
   |none=> .fail
 | .load t x=>Hq s x fun p=>match p with
   | .pX id es i off=>Gz tt s t id es i off
   |p=>yB s (IG tt t p s.h)
 | .store t x y=>Hq s x fun p=>match ev s y with
   |some v=>akT v s fun v s=>match p with
    | .pX id es i off=>Nc tt s t id es i off v
    |p=>XB s (TR tt t p v s.h)
   |none=> .fail
 | .nilCheck x=>Hq s x fun v=>match v with
   | .ptr _ _=> .ret (v,s)
   | .qX _=> .ret (v,s)
   | .pX _ _ _ _=> .ret (v,s)
   |_=> .fail
 | .binOp op t x y _=>Hq s x fun a=>match ev s y with
   |some b=>match a with
    | .agg xs=>match b,op with
      | .agg ys,.eql=>match Ky tt t xs ys with
        |some c=> .ret (.bool c,s)
        |none=> .fail
      | .agg ys,.neq=>match Ky tt t xs ys with
        |some c=> .ret (.bool (DZ c),s)
        |none=> .fail
      |_,_=> .fail
    |a=>match XO tt t a b with
     |some e=>auK s e op
     |none=>match XE op a b with
      |some (q,k,e,d)=>auA s q k e d
      |none=>match JV a b with
       |some (x,y)=>Yh op x y s
       |none=>yB s (aiK tt t op a b)
   |none=> .fail
 | .unOp op _ x=>Hq s x fun v=>yB s (awI op v)
 | .convert sT dT x=>Hq s x fun v=>match v with
   | .lQ e=>Kz tt sT dT e s
   |v=>Je s (uQ tt sT dT v s.h)
 | .makeFunc fn fs cs=>match evs s fs.toList,evs s cs.toList with
   |some f,some c=> .ret (.func fn f c,s)
   |_,_=> .fail
 | .makeMap t r=>match r with
   |none=>match aqZ tt t with
    |some m=>match Nat.ble 100 m with
     |true=> .ret (.map s.h.fresh,{ s with h:=s.h.new (.fam (.dat (.i 0)) (m-100) (aiG tt t) []) })
     |false=> .ret (.map s.h.fresh,{ s with h:=s.h.new (.gY (.dat (.i 0)) m) })
    |none=> .ret (.map s.h.fresh,{ s with h:=s.h.new (.map [] 0) })
   |some _=> .fail
 | .slice t x lo hi mx=>Hq s x fun v=>match QL s lo,QL s hi,QL s mx with
   |some l,some h,some m=>match v with
    | .dat e t'=>Ue tt s t t' e l h m
    | .qO id n t'=>Kw tt s t id t' (.lit 0) n l h m
    | .AL id lo n t'=>Kw tt s t id t' lo n l h m
    | .lQ e=>TP tt s t e l h m
    | .Ec z t'=>Ud tt s t z t' l h m
    |v=>match TS tt t v l h m with
    |some v=> .ret (v,s)
    |none=>yB s (Nh tt t v l h m s.h)
   |_,_,_=> .fail
 | .fieldAddr t x f=>Hq s x fun v=>yB s (BU tt t v f)
 | .field t x f=>Hq s x fun v=>yB s (Uc tt t v f)
 | .indexAddr t x i=>Hq s x fun v=>match ev s i with
   |some i=>match v with
    | .inp k ks=>yB s (Ua tt s.pc t k ks i)
    | .dat e t'=>Uf tt s t t' e i
    | .qO id n t'=>TN tt s t id t' n i
    | .AL id lo n t'=>TM tt s t id t' lo n i
    | .ptr id o=>match aaL tt t i with
      |some (n,e)=>if o=0 then FT s e (.lit (Int.ofNat n)) fun s=> .ret (.pX id 1 e 0,s) else .fail
      |none=>Rn tt t (.ptr id o) i s fun i s=>yB s (sJ tt t (.ptr id o) i)
    |v=>Rn tt t v i s fun i s=>yB s (sJ tt t v i)
   |none=> .fail
 | .index t x i=>Hq s x fun v=>match ev s i with
   |some i=>match v with
    | .lQ e=>TQ tt s t e i
    | .agg cs=>match aaL tt t i with
      |some (n,e)=>match Nat.beq cs.length n with
       |true=>QJ s cs e
       |false=> .fail
      |none=>Rn tt t (.agg cs) i s fun i s=>yB s (GH tt t (.agg cs) i)
    |v=>Rn tt t v i s fun i s=>yB s (GH tt t v i)
   |none=> .fail
 | .lookup t m k ok=>Hq s m fun v=>match ev s k with
   |some k=>match D7 v s.h with
    |some (_,e,t')=>Gy tt t k ok e t' s
    |none=>match MV v s.h with
     |some (_,e,_,_,ov)=>Gx tt t k ok e ov s
     |none=>rW tt t v k s fun s=>yB s (Nl tt s.pc t v k ok s.h)
   |none=> .fail
 | .mapUpdate t m k x=>Hq s m fun v=>match ev s k,ev s x with
   |some k,some x=>match D7 v s.h with
    |some _=>TV tt t v k x s
    |none=>match MV v s.h with
     |some (id,e,t',tys,ov)=>Gw tt t id k x e t' tys ov s
     |none=>rW tt t v k s fun s=>XB s (wL tt s.pc t v k x s.h)
   |_,_=> .fail
 | .insert t m k x=>Hq s m fun v=>match ev s k,ev s x with
   |some k,some x=>match D7 v s.h with
    |some _=>TV tt t v k x s
    |none=>match MV v s.h with
     |some (id,e,t',tys,ov)=>Gw tt t id k x e t' tys ov s
     |none=>rW tt t v k s fun s=>XB s (wL tt s.pc t v k x s.h)
   |_,_=> .fail
 | .range t x=>Hq s x fun v=>Je s (TU tt t v s.h)
 | .next x isS=>Hq s x fun v=>Je s (Ym v isS s.h)
 | .extract x i=>Hq s x fun v=>match v with
   | .tuple vs=>yB s (fF vs i)
   |_=> .fail
 | .call c=>Uh tt call s c
 |_=> .fail
def Di {α:Type} (ops:List Oper) (s:St) (o:Oper) (f:St->Bool->T α):T α:=
 match o.guard with
 |none=>f s true
 |some (j,want)=>match fF ops j with
  |some oj=>match oj.dst with
   |some d=>match s.slots.get d with
    |some (.bool c)=>lT s c fun s b=>f s (b == want)
    |some (.tuple _)=>f s false
    |_=> .fail
   |none=> .fail
  |none=> .fail
def V6 (tt:TT) (call:dQ) (all:List Oper):List Oper->St->T St
 |[],s=> .ret s
 |o::rest,s=>Di all s o fun s b=>
  if b then (TW tt call s o.op).bind fun (v,s')=>V6 tt call all rest (s'.U8 o.dst v)
  else V6 tt call all rest (s.U8 o.dst AV.undef)
inductive Ex where
 |normal
 |exit (id:Nat)
 |ret
 deriving DecidableEq,Inhabited
def BR (body:St->T (Ex×St)):Nat->St->T (Ex×St)
 |0,_=> .fail
 |n+1,s=>(body s).bind fun (e,s')=>match e with
  | .normal=>BR body n s'
  |e=> .ret (e,s')
def kU (tt:TT) (call:dQ) (draw:Nat->List Oper->St->T St) (lf:Nat):Code->St->T (Ex×St)
 | .skip,s=> .ret (.normal,s)
 | .region id ops d,s=>
   if d then (draw id ops.toList s).bind fun s'=> .ret (.normal,s')
   else (V6 tt call ops.toList ops.toList s).bind fun s'=> .ret (.normal,s')
 | .seq a b,s=>(kU tt call draw lf a s).bind fun (e,s')=>match e with
   | .normal=>kU tt call draw lf b s'
   |e=> .ret (e,s')
 | .cond c x y,s=>match ev s c with
   |some (.bool c)=>lT s c fun s b=>if b then kU tt call draw lf x s else kU tt call draw lf y s
   |_=> .fail
 | .block id b,s=>(kU tt call draw lf b s).bind fun (e,s')=>match e with
   | .exit j=> .ret (if j=id then .normal else .exit j,s')
   |e=> .ret (e,s')
 | .loop b,s=>BR (kU tt call draw lf b) lf s
 | .exit id,s=> .ret (.exit id,s)
 | .scope b,s=>kU tt call draw lf b s
 | .label _,s=> .ret (.normal,s)
 | .ret,s=> .ret (.ret,s)
 |_,_=> .fail
def aZ:List AV->Nat->Tr AV->Tr AV
 |[],_,t=>t
 |v::vs,i,t=>aZ vs (i+1) (t.put i (some v))
def Gv (tt:TT) (s:St):ResultVar->Option AV
 | .tmp t=>s.slots.get t
 | .cell a t=>match s.slots.get a with
   |some p=>IG tt t p s.h
   |none=>none
def nD (tt:TT) (s:St):List ResultVar->Option (List AV)
 |[]=>some []
 |r::rs=>match Gv tt s r with
  |none=>none
  |some v=>match nD tt s rs with
   |none=>none
   |some vs=>some (v::vs)
def Ub (tt:TT) (ft:Nat->Option Func) (hook:Nat->Option (List AV->St->T (AV×St))) (draw:dQ->Nat->Nat->List Oper->St->T St) (lf:Nat):Nat->dQ
 |0,_,_,_=> .fail
 |n+1,g,args,s=>
  match hook g with
  |some h=>h args s
  |none=>match ft g with
   |none=> .fail
   |some fn=>match fn.body with
    |none=> .fail
    |some c=>
     (kU tt (Ub tt ft hook draw lf n) (draw (Ub tt ft hook draw lf n) g) lf c { s with slots:=aZ args 0 .nil }).bind fun (e,s')=>
      match e with
      | .exit _=> .fail
      |_=>match nD tt s' fn.results.toList with
       |some [v]=> .ret (v,{ s' with slots:=s.slots })
       |some vs=> .ret (.tuple vs,{ s' with slots:=s.slots })
       |none=> .fail
end
end Go.As
end
section
namespace Go.As
structure En where
 ρ:Nat->Int
 θ:Nat->Nat×Nat
 κ:Nat->Nat
 dm:Nat->Prop
 ro:Nat->Prop
 hd:Nat->Option (Nat×D×Nat):=fun _=>none
def bU (s:List Nat):ByteArray:=⟨(s.map UInt8.ofNat).toArray⟩
def hcell (h:Array Obj) (b o:Nat):Option Value:=
 match h[b]? with
 |some (.cells c _ _)=>c[o]?
 |_=>none
theorem sO (w:World) (b o:Nat):w.cell? ⟨b,o,none⟩ = hcell w.heap b o:=by
 unfold World.cell? hcell
 grind
def gQ (h:Array Obj) (b o:Nat) (us:List Value):Prop:= ∀i u,us[i]?=some u->hcell h b (o+i)=some u
inductive Rd (ro:Nat->Prop) (h:Array Obj):CK->D->Value->Prop where
 |int (k:IntKind) (n:Int):Rd ro h (.int k) (.i n) (.int k n)
 |bool (b:Bool):Rd ro h .bool (.i (if b then 1 else 0)) (.bool b)
 |str (s:ByteArray):Rd ro h .str (Am s) (.string s)
 |nil (t:Nat):Rd ro h (.sl t) (.i 1) (.slice none 0 0)
 |non (t:Nat) (a:Addr) (cap:Nat):Rd ro h (.sl t) (.i 2) (.slice (some a) 0 cap)
 |one (t:Nat) (c:CK) (b o cap:Nat) (ds:List D) (f:Nat->Value) (hr:rowOf t= .one c) (hc:ds.length<=cap) (hb:ro b)
  (h1: ∀i d,ds[i]?=some d->hcell h b (o+i)=some (f i)) (h2: ∀i d,ds[i]?=some d->Rd ro h c d (f i)):Rd ro h (.sl t) (dL ds) (.slice (some ⟨b,o,none⟩) ds.length cap)
 |many (t:Nat) (cs:List CK) (b o cap:Nat) (rows:List (List D)) (f:Nat->Nat->Value) (hr:rowOf t= .many cs) (hc:rows.length<=cap) (hb:ro b) (hl: ∀r∈rows,r.length=cs.length)
  (h1: ∀i r j d,rows[i]?=some r->r[j]?=some d->hcell h b (o+i*cs.length+j)=some (f i j))
  (h2: ∀i r j d c,rows[i]?=some r->r[j]?=some d->cs[j]?=some c->Rd ro h c d (f i j)):Rd ro h (.sl t) (dL (rows.map dL)) (.slice (some ⟨b,o,none⟩) rows.length cap)
theorem Rd.one' {ro:Nat->Prop} {h:Array Obj} {c:CK} {d:D} {v:Value} (r:Rd ro h c d v):v.oneCell'=true:=by cases r<;>rfl
theorem Rd.keep {ro ro':Nat->Prop} {h h':Array Obj} (k1: ∀b,ro b->ro' b) (k2: ∀b,ro b->h'[b]?=h[b]?) {c:CK} {d:D} {v:Value} (r:Rd ro h c d v):Rd ro' h' c d v:=by
 have hk: ∀b o u,ro b->hcell h b o=some u->hcell h' b o=some u:=by
  intro b o u hb hu
  grind [hcell]
 induction r with
 |int k n=>exact .int k n
 |bool b=>exact .bool b
 |str s=>exact .str s
 |nil t=>exact .nil t
 |non t a cap=>exact .non t a cap
 |one t c b o cap ds f hr hc hb h1 h2 ih=>exact .one t c b o cap ds f hr hc (k1 b hb) (fun i d hi=>hk _ _ _ hb (h1 i d hi)) ih
 |many t cs b o cap rows f hr hc hb hl h1 h2 ih=>exact .many t cs b o cap rows f hr hc (k1 b hb) hl (fun i r j d hi hj=>hk _ _ _ hb (h1 i r j d hi hj)) ih
def eX (E:En) (id off len:Nat) (a:Addr) (cap:Nat):WW->Prop
 | .exact c=>cap=c/\((a=⟨(E.θ id).1,(E.θ id).2+off,none⟩)\/c=0)
 | .rest es=>(a=⟨(E.θ id).1,(E.θ id).2+off,none⟩/\off+cap*es=E.κ id)\/(cap=0/\len=0/\off=E.κ id)
mutual
def VR (E:En) (h:Array Obj):AV->Value->Prop
 | .bool b,v=>v= .bool (b.den E.ρ)
 | .int k e,v=>v= .int k (e.den E.ρ)
 | .str s,v=>v= .string (bU s)/\∀b∈s,b<256
 | .ptr id off,v=>v= .pointer (some ⟨(E.θ id).1,(E.θ id).2+off,none⟩)/\E.dm id
 | .kM,v=>v= .pointer none
 | .qX cs,v=> ∃b o us,v= .pointer (some ⟨b,o,none⟩)/\E.ro b/\bC E h cs us/\gQ h b o us/\∀u∈us,u.oneCell'=true
 | .slice id off len c,v=>E.dm id/\∃a cap,v= .slice (some a) len cap/\len<=cap/\eX E id off len a cap c
 | .aQ,v=>v= .slice none 0 0
 | .ro cs n full,v=> ∃b o cap us,v= .slice (some ⟨b,o,none⟩) n cap/\n<=cap/\(full=true->cap=n)/\E.ro b/\bC E h cs us/\gQ h b o us/\∀u∈us,u.oneCell'=true
 | .map id,v=>v= .map (some (E.θ id).1)/\E.dm id
 | .qK,v=>v= .map none
 | .func fn fs cs,v=> ∃us ws,v= .func fn us.toArray ws.toArray/\bC E h fs us/\bC E h cs ws
 | .BA,v=>v= .nilFunc
 | .iface t x,v=> ∃u,v= .iface t u/\VR E h x u
 | .EG,v=>v= .nilIface
 | .agg cs,v=> ∃us,v= .agg us.toArray/\bC E h cs us
 | .tuple cs,v=> ∃us,v= .tuple us.toArray/\bC E h cs us
 | .opq _,_=>False
 | .emp,v=> ∃x,v= .slice x 0 0
 | .dat e t,v=>Rd E.ro h (.sl t) (dec (e.den E.ρ)) v
 | .lQ e,v=>Rd E.ro h .str (dec (e.den E.ρ)) v
 | .qO id n t,v=>E.dm id/\∃(k:Nat) (a:Addr) (cap:Nat),n.den E.ρ=(k:Int)/\v= .slice (some a) k cap/\k<=cap/\eX E id 0 k a cap (.rest (rowOf t).es)
 | .pX id es i off,v=>E.dm id/\∃k:Nat,i.den E.ρ=(k:Int)/\v= .pointer (some ⟨(E.θ id).1,(E.θ id).2+(k*es+off),none⟩)
 | .any,_=>True
 | .Ec z t,v=>(∃x,v= .slice x 0 0)/\Rd E.ro h (.sl t) (dec (z.den E.ρ)) v
 | .AL id lo n t,v=>E.dm id/\∃(l k:Nat) (a:Addr) (cap:Nat),lo.den E.ρ=(l:Int)/\n.den E.ρ=(k:Int)/\v= .slice (some a) k cap/\k<=cap/\eX E id (l*(rowOf t).es) k a cap (.rest (rowOf t).es)
 | .inp k ks,v=>((∃x cap,v= .slice x 0 cap)/\E.ρ (900+k)=0)\/∃b o n cap,v= .slice (some ⟨b,o,none⟩) n cap/\n<=cap/\E.ρ (900+k)=(n:Int)/\E.ro b/\
  ∀i j kd,i<n->ks[j]?=some kd->hcell h b (o+i*ks.length+j)=some (.int kd (E.ρ (1000+i*64+(k*8+j))))
def bC (E:En) (h:Array Obj):List AV->List Value->Prop
 |[],us=>us= []
 |x::xs,us=> ∃u vs,us=u::vs/\VR E h x u/\bC E h xs vs
end
theorem jI {E:En} {h:Array Obj} {us:List Value}:bC E h [] us↔us= []:=by simp [bC]
theorem aT {E:En} {h:Array Obj} {x:AV} {xs:List AV} {us:List Value}:bC E h (x::xs) us↔∃u vs,us=u::vs/\VR E h x u/\bC E h xs vs:=by simp [bC]
theorem bC.length {E:En} {h:Array Obj}: ∀{xs:List AV} {us:List Value},bC E h xs us->us.length=xs.length
 |[],us,hh=>by rw [jI] at hh; simp [hh]
 |x::xs,us,hh=>by rw [aT] at hh;obtain⟨u,vs,rfl,_,h2⟩:=hh;simp [h2.length]
theorem bC.append {E:En} {h:Array Obj}: ∀{xs ys:List AV} {us vs:List Value},bC E h xs us->bC E h ys vs->bC E h (xs++ys) (us++vs)
 |[],_,us,vs,h1,h2=>by rw [jI] at h1; subst h1; simpa using h2
 |x::xs,ys,us,vs,h1,h2=>by rw [aT] at h1;obtain⟨u,us',rfl,hx,hxs⟩:=h1;simp only [aC8];rw [aT];exact⟨u,us'++vs,rfl,hx,hxs.append h2⟩
theorem bC.jR {E:En} {h:Array Obj}: ∀{n:Nat} {xs ys:List AV} {us:List Value},bC E h xs us->As.jR n xs=some ys->bC E h ys (us.take n)/\n<=xs.length
 |0,xs,ys,us,_,h2=>by simp [As.jR] at h2; subst h2; simp [bC]
 |n+1,[],ys,us,_,h2=>by simp [As.jR] at h2
 |n+1,x::xs,ys,us,h1,h2=>by
  rw [aT] at h1;obtain⟨u,vs,rfl,hx,hxs⟩:=h1;simp only [As.jR] at h2;split at h2
  ·rename_i l hl;simp at h2;subst h2;have:=hxs.jR hl
   grind [aT]
  grind
theorem bC.eF {E:En} {h:Array Obj}: ∀{n:Nat} {xs ys:List AV} {us:List Value},bC E h xs us->As.eF n xs=some ys->bC E h ys (us.drop n)/\n<=xs.length/\ys.length=xs.length-n
 |0,xs,ys,us,h1,h2=>by simp [As.eF] at h2; subst h2; simpa using h1
 |n+1,[],ys,us,_,h2=>by simp [As.eF] at h2
 |n+1,x::xs,ys,us,h1,h2=>by
  rw [aT] at h1;obtain⟨u,vs,rfl,hx,hxs⟩:=h1;simp only [As.eF] at h2;have:=hxs.eF h2
  grind
theorem bC.nth {E:En} {h:Array Obj}: ∀{i:Nat} {xs:List AV} {x:AV} {us:List Value},bC E h xs us->fF xs i=some x->∃u,us[i]?=some u/\VR E h x u
 |_,[],_,us,_,h2=>by simp [fF] at h2
 |0,x::xs,y,us,h1,h2=>by
  rw [aT] at h1;obtain⟨u,vs,rfl,hx,hxs⟩:=h1
  grind [fF]
 |i+1,x::xs,y,us,h1,h2=>by
  rw [aT] at h1;obtain⟨u,vs,rfl,hx,hxs⟩:=h1;simp only [fF] at h2;obtain⟨v,h3,h4⟩:=hxs.nth h2
  grind
def fA (E:En) (h:Array Obj):List (AV×AV×Nat)->List MapEntry->Prop
 |[],es=>es= []
 |(k,v,b)::xs,es=> ∃e r,es=e::r/\VR E h k e.key/\VR E h v e.val/\b=b/\fA E h xs r
def mW (ro:Nat->Prop) (h:Array Obj) (t:Nat):List D->List MapEntry->Prop
 |[],es=>es= []
 |d::ds,es=> ∃e r,es=e::r/\d= .p (lG d) (Ux d)/\Rd ro h (mapOf t).1 (lG d) e.key/\Rd ro h (mapOf t).2 (Ux d) e.val/\mW ro h t ds r
theorem mW.keep {ro ro':Nat->Prop} {h h':Array Obj} (k1: ∀b,ro b->ro' b) (k2: ∀b,ro b->h'[b]?=h[b]?) {t:Nat}: ∀{ds:List D} {es:List MapEntry},mW ro h t ds es->mW ro' h' t ds es
 |[],_,hh=>hh
 |_::_,_,hh=>by obtain⟨e,r,h1,h2,h3,h4,h5⟩:=hh;exact⟨e,r,h1,h2,h3.keep k1 k2,h4.keep k1 k2,mW.keep k1 k2 h5⟩
theorem mW.length {ro:Nat->Prop} {h:Array Obj} {t:Nat}: ∀{ds:List D} {es:List MapEntry},mW ro h t ds es->es.length=ds.length
 |[],_,hh=>by simp only [mW] at hh; rw [hh]; rfl
 |_::_,_,hh=>by obtain⟨e,r,h1,_,_,_,h5⟩:=hh;rw [h1,aCW,aCW,mW.length h5]
noncomputable def dM (ρ:Nat->Int) (i:Nat):List (SE×List AV)->Option (List AV)
 |[]=>none
 |(j,cs)::l=>if j.den ρ=(i:Int) then some cs else dM ρ i l
noncomputable def aF (ρ:Nat->Int) (r:Row) (ov:List (SE×List AV)):List D->Nat->List AV
 |[],_=>[]
 |d::ds,i=>(match dM ρ i ov with |some cs=>cs|none=>iV r (.dat d))++aF ρ r ov ds (i+1)
def yZ (r:Row) (ov:List (SE×List AV)):Prop:= ∀p∈ov,p.2.length=r.es
noncomputable def oL (ρ:Nat->Int) (n:Int):List (SE×AV)->Option AV
 |[]=>none
 |(x,v)::l=>if x.den ρ=n then some v else oL ρ n l
def aCo (E:En) (h:Array Obj) (B:Nat) (k:D) (j ty t:Nat) (d:D) (u:Value):Prop:=
 ∃b o n cap a arr lo hi,u= .slice (some a) n cap/\n<=cap/\E.hd b=some (B,k,j)/\h[b]?=some (.cells arr ty (lo,hi))/\((a=⟨b,o,none⟩/\o+cap*(rowOf t).es=arr.size)\/(cap=0/\n=0/\o=arr.size))/\(∀q,lo<=q->q<hi->arr.size<=q)/\
  ((n=0/\d= .i 3)\/(yO (rowOf t) d/\d.l.length=n/\∃us,bC E h (aF E.ρ (rowOf t) [] d.l 0) us/\(∀i u,us[i]?=some u->arr[o+i]?=some u)/\∀u∈us,u.oneCell'=true))
def uM (E:En) (h:Array Obj) (B:Nat) (k:D) (j ty:Nat) (c:FC) (d:D) (u:Value):Prop:=match c with
 | .ck c=>Rd E.ro h c d u
 | .own t=>((∃x,u= .slice x 0 0)/\Rd E.ro h (.sl t) d u)\/aCo E h B k j ty t d u
 | .mp t=> ∃b ents c,u= .map (some b)/\E.hd b=some (B,k,j)/\h[b]?=some (.map ents c)/\mW E.ro h t d.l ents.toList
def vV (E:En) (h:Array Obj) (B t:Nat) (tys:List Nat) (k d:D) (v:Value):Prop:=match (wK t).ptr with
 |false=> ∃c,(wK t).cs= [c]/\uM E h B k 1 (tys.getD 1 0) c d v
 |true=> ∃b o arr lo hi,v= .pointer (some ⟨b,o,none⟩)/\E.hd b=some (B,k,0)/\h[b]?=some (.cells arr (tys.getD 0 0) (lo,hi))/\o+(wK t).cs.length<=arr.size/\(∀q,lo<=q->q<hi->arr.size<=q)/\
  ∀j c,(wK t).cs[j]?=some c->∃u,arr[o+j]?=some u/\u.oneCell'=true/\uM E h B k (j+1) (tys.getD (j+2) 0) c (d.hd j) u
def eU (E:En) (h:Array Obj) (B t:Nat) (tys:List Nat) (ov:List (SE×AV)):List D->List MapEntry->Prop
 |[],es=>es= []
 |d::ds,es=> ∃e r n,es=e::r/\d= .p (.i n) (Ux d)/\e.key= .int .i64 n/\(match oL E.ρ n ov with |some v=>VR E h v e.val|none=>vV E h B t tys (.i n) (Ux d) e.val)/\eU E h B t tys ov ds r
def Hl (ρ:Nat->Int) (ds:List D) (ov:List (SE×AV)):Prop:=(ds.map lG).Nodup/\(∀p∈ov,D.i (p.1.den ρ)∈ds.map lG)/\(ov.map fun p=>p.1.den ρ).Nodup
def OR (E:En) (h:Array Obj) (id:Nat):dG->Prop
 | .cells cs e=> ∃arr lo hi us,h[(E.θ id).1]?=some (.cells arr e (lo,hi))/\bC E h cs us/\(∀i u,us[i]?=some u->arr[(E.θ id).2+i]?=some u)/\
  cs.length<=E.κ id/\(E.θ id).2+E.κ id=arr.size/\(∀o,lo<=o->o<hi->arr.size<=o)/\(∀u∈us,u.oneCell'=true)
 | .map es _=> ∃ents c,h[(E.θ id).1]?=some (.map ents c)/\fA E h es ents.toList
 | .vec e t ty ov=>(yZ (rowOf t) ov/\yO (rowOf t) (dec (e.den E.ρ)))/\∃arr lo hi us,h[(E.θ id).1]?=some (.cells arr ty (lo,hi))/\bC E h (aF E.ρ (rowOf t) ov (dec (e.den E.ρ)).l 0) us/\(∀i u,us[i]?=some u->arr[(E.θ id).2+i]?=some u)/\
  (aF E.ρ (rowOf t) ov (dec (e.den E.ρ)).l 0).length<=E.κ id/\(E.θ id).2+E.κ id=arr.size/\(∀o,lo<=o->o<hi->arr.size<=o)/\(∀u∈us,u.oneCell'=true)
 | .lY s p=>h[(E.θ id).1]?=some (.stringIter (bU s) p)/\(E.θ id).2=0/\∀b∈s,b<256
 | .gY e t=> ∃ents c,h[(E.θ id).1]?=some (.map ents c)/\mW E.ro h t (dec (e.den E.ρ)).l ents.toList
 | .fam e t tys ov=>Hl E.ρ (dec (e.den E.ρ)).l ov/\∃ents c,h[(E.θ id).1]?=some (.map ents c)/\eU E h (E.θ id).1 t tys ov (dec (e.den E.ρ)).l ents.toList
class Glob where
 ok:(Nat->Int)->(Nat->Prop)->Array Obj->Prop
 keep: ∀{ρ:Nat->Int} {ro ro':Nat->Prop} {h h':Array Obj},ok ρ ro h->(∀b,ro b->ro' b)->(∀b,ro b->h'[b]?=h[b]?)->ok ρ ro' h'
 ren: ∀{ρ ρ':Nat->Int} {ro:Nat->Prop} {h:Array Obj},ok ρ ro h->(∀i,900<=i->ρ' i=ρ i)->ok ρ' ro h
structure aO [Glob] (E:En) (H:Hp) (w:World):Prop where
 fresh: ∀id,H.next<=id->¬E.dm id
 res: ∀r,H.res=some r->r<H.next/\¬E.dm r
 live: ∀id o,H.get id=some o->E.dm id/\OR E w.heap id o/\¬E.ro (E.θ id).1
 inj: ∀id id' o o',H.get id=some o->H.get id'=some o'->(E.θ id).1=(E.θ id').1->id=id'
 xC: ∀b,E.ro b->b<w.heap.size
 glob:Glob.ok E.ρ E.ro w.heap
 hid: ∀b x,E.hd b=some x->b<w.heap.size/\¬E.ro b/\∀id o,H.get id=some o->(E.θ id).1≠b
structure Stp (E:En) (H:Hp) (w:World) (E':En) (H':Hp) (w':World):Prop where
 ρ:E'.ρ=E.ρ
 dm: ∀id,E.dm id->E'.dm id
 θ: ∀id,E.dm id->E'.θ id=E.θ id
 κ: ∀id,E.dm id->E'.κ id=E.κ id
 ro: ∀b,E.ro b->E'.ro b
 yA: ∀b,E'.ro b->E.ro b\/(∃id o,H.get id=some o/\(E.θ id).1=b)\/w.heap.size<=b
 Zt:H.next<=H'.next
 rsm:H'.res=none\/H'.res=H.res
 dmn: ∀id,E'.dm id->E.dm id\/(H.next<=id/\id<H'.next)\/H.res=some id
 os:w'.os=w.os
 tape:w'.tape=w.tape
 output:w'.output=w.output
 size:w.heap.size<=w'.heap.size
 keep: ∀b,b<w.heap.size->(∀id o,H.get id=some o->(E.θ id).1≠b)->w'.heap[b]?=w.heap[b]?
 own: ∀id o,H'.get id=some o->(E'.θ id).1<w.heap.size->∃yH o0,H.get yH=some o0/\(E.θ yH).1=(E'.θ id).1
 hd:E'.hd=E.hd
theorem Stp.refl (E:En) (H:Hp) (w:World):Stp E H w E H w:=
 ⟨rfl,fun _ h=>h,fun _ _=>rfl,fun _ _=>rfl,fun _ h=>h,fun _ h=> .inl h,aCN _,.inr rfl,fun _ h=> .inl h,rfl,rfl,rfl,aCN _,fun _ _ _=>rfl,fun id o h _=> ⟨id,o,h,rfl⟩,rfl⟩
theorem Stp.trans {E E1 E2:En} {H H1 H2:Hp} {w w1 w2:World} (a:Stp E H w E1 H1 w1) (b:Stp E1 H1 w1 E2 H2 w2):Stp E H w E2 H2 w2 where
 ρ:=b.ρ.trans a.ρ
 dm:=fun id h=>b.dm id (a.dm id h)
 θ:=fun id h=>(b.θ id (a.dm id h)).trans (a.θ id h)
 κ:=fun id h=>(b.κ id (a.dm id h)).trans (a.κ id h)
 ro:=fun x h=>b.ro x (a.ro x h)
 yA:=fun x h=>by
  rcases b.yA x h with h|⟨id,o,h1,h2⟩|h
  ·exact a.yA x h
  ·rcases aCZ x w.heap.size with hx|hx
   ·obtain⟨yH,o0,h3,h4⟩:=a.own id o h1 (by rw [h2]; exact hx);exact .inr (.inl ⟨yH,o0,h3,h4.trans h2⟩)
   ·exact .inr (.inr hx)
  ·exact .inr (.inr (aDb a.size h))
 Zt:=aDb a.Zt b.Zt
 rsm:=by
  rcases b.rsm with h|h
  ·exact .inl h
  ·rw [h]; exact a.rsm
 dmn:=fun id h=>by
  rcases b.dmn id h with h|h|h
  ·rcases a.dmn id h with h|h|h
   ·exact .inl h
   ·exact .inr (.inl ⟨h.1,aDA h.2 b.Zt⟩)
   ·exact .inr (.inr h)
  ·exact .inr (.inl ⟨aDb a.Zt h.1,h.2⟩)
  ·rcases a.rsm with h'|h'
   ·rw [h'] at h; simp at h
   ·exact .inr (.inr (h'.symm.trans h))
 os:=b.os.trans a.os
 tape:=b.tape.trans a.tape
 output:=b.output.trans a.output
 size:=aDb a.size b.size
 keep:=fun x hx hn=>by rw [b.keep x (aDA hx a.size) ?_,a.keep x hx hn];intro id o ho he;obtain⟨yH,o0,h0,he0⟩:=a.own id o ho (by rw [he]; exact hx);exact hn yH o0 h0 (he0.trans he)
 own:=fun id o ho hlt=>by obtain⟨id1,o1,h1,he1⟩:=b.own id o ho (aDA hlt a.size);obtain⟨yH,o0,h0,he0⟩:=a.own id1 o1 h1 (by rw [he1]; exact hlt);exact⟨yH,o0,h0,he0.trans he1⟩
 hd:=b.hd.trans a.hd
structure Keeps (E:En) (h:Array Obj) (E':En) (h':Array Obj):Prop where
 ρ:E'.ρ=E.ρ
 dm: ∀id,E.dm id->E'.dm id
 θ: ∀id,E.dm id->E'.θ id=E.θ id
 κ: ∀id,E.dm id->E'.κ id=E.κ id
 ro: ∀b,E.ro b->E'.ro b
 Jd: ∀b,E.ro b->h'[b]?=h[b]?
theorem Stp.keeps [Glob] {E E':En} {H H':Hp} {w w':World} (s:Stp E H w E' H' w') (r:aO E H w):Keeps E w.heap E' w'.heap:=
 ⟨s.ρ,s.dm,s.θ,s.κ,s.ro,fun b hb=>s.keep b (r.xC b hb) fun id o ho he=>(r.live id o ho).2.2 (by rw [he]; exact hb)⟩
theorem gQ.keep {E E':En} {h h':Array Obj} (k:Keeps E h E' h') {b o:Nat} {us:List Value} (hb:E.ro b) (hc:gQ h b o us):gQ h' b o us:=by
 intro i u hu;have:=hc i u hu;unfold hcell at *;rw [k.Jd b hb]
 grind
theorem eX.keep {E E':En} {h h':Array Obj} (k:Keeps E h E' h') {id off len:Nat} {a:Addr} {cap:Nat} {c:WW} (hid:E.dm id) (hc:eX E id off len a cap c):eX E' id off len a cap c:=by
 cases c<;>simp only [eX] at*<;>rw [k.θ id hid]
 ·exact hc
 ·rw [k.κ id hid]; exact hc
mutual
theorem VR.keep {E E':En} {h h':Array Obj} (k:Keeps E h E' h'): ∀(x:AV) (v:Value),VR E h x v->VR E' h' x v
 | .bool b,v,hv=>by simp only [VR] at *; rw [k.ρ]; exact hv
 | .int _ e,v,hv=>by simp only [VR] at *; rw [k.ρ]; exact hv
 | .str s,v,hv=>by simp only [VR] at *; exact hv
 | .ptr id off,v,hv=>by simp only [VR] at *; rw [k.θ id hv.2]; exact⟨hv.1,k.dm _ hv.2⟩
 | .kM,v,hv=>by simp only [VR] at *; exact hv
 | .qX cs,v,hv=>by simp only [VR] at *;obtain⟨b,o,us,h1,h2,h3,h4,h5⟩:=hv;exact⟨b,o,us,h1,k.ro b h2,bC.keep k cs us h3,h4.keep k h2,h5⟩
 | .slice id off len c,v,hv=>by simp only [VR] at *;obtain⟨h1,a,cap,h2,h3,h4⟩:=hv;exact⟨k.dm _ h1,a,cap,h2,h3,h4.keep k h1⟩
 | .aQ,v,hv=>by simp only [VR] at *; exact hv
 | .ro cs n full,v,hv=>by simp only [VR] at *;obtain⟨b,o,cap,us,h1,h2,h3,h4,h5,h6,h7⟩:=hv;exact⟨b,o,cap,us,h1,h2,h3,k.ro b h4,bC.keep k cs us h5,h6.keep k h4,h7⟩
 | .map id,v,hv=>by simp only [VR] at *; rw [k.θ id hv.2]; exact⟨hv.1,k.dm _ hv.2⟩
 | .qK,v,hv=>by simp only [VR] at *; exact hv
 | .func fn fs cs,v,hv=>by simp only [VR] at *;obtain⟨us,ws,h1,h2,h3⟩:=hv;exact⟨us,ws,h1,bC.keep k fs us h2,bC.keep k cs ws h3⟩
 | .BA,v,hv=>by simp only [VR] at *; exact hv
 | .iface t x,v,hv=>by simp only [VR] at *;obtain⟨u,h1,h2⟩:=hv;exact⟨u,h1,VR.keep k x u h2⟩
 | .EG,v,hv=>by simp only [VR] at *; exact hv
 | .agg cs,v,hv=>by simp only [VR] at *;obtain⟨us,h1,h2⟩:=hv;exact⟨us,h1,bC.keep k cs us h2⟩
 | .tuple cs,v,hv=>by simp only [VR] at *;obtain⟨us,h1,h2⟩:=hv;exact⟨us,h1,bC.keep k cs us h2⟩
 | .opq _,v,hv=>by simp only [VR] at hv
 | .emp,v,hv=>by simp only [VR] at *; exact hv
 | .dat e t,v,hv=>by simp only [VR] at *; rw [k.ρ]; exact hv.keep k.ro k.Jd
 | .lQ e,v,hv=>by simp only [VR] at *; rw [k.ρ]; exact hv.keep k.ro k.Jd
 | .qO id n t,v,hv=>by simp only [VR] at *;obtain⟨h1,m,a,cap,h2,h3,h4,h5⟩:=hv;exact⟨k.dm _ h1,m,a,cap,by rw [k.ρ]; exact h2,h3,h4,h5.keep k h1⟩
 | .any,_,_=>by simp only [VR]
 | .Ec z t,v,hv=>by simp only [VR] at *; rw [k.ρ]; exact⟨hv.1,hv.2.keep k.ro k.Jd⟩
 | .AL id lo n t,v,hv=>by simp only [VR] at *;obtain⟨h1,l,m,a,cap,h2,h3,h4,h5,h6⟩:=hv;exact⟨k.dm _ h1,l,m,a,cap,by rw [k.ρ]; exact h2,by rw [k.ρ]; exact h3,h4,h5,h6.keep k h1⟩
 | .pX id es i off,v,hv=>by simp only [VR] at *;obtain⟨h1,m,h2,h3⟩:=hv;exact⟨k.dm _ h1,m,by rw [k.ρ]; exact h2,by rw [k.θ id h1]; exact h3⟩
 | .inp kk ks,v,hv=>by
   simp only [VR] at *;rw [k.ρ];rcases hv with hv|⟨b,o,n,cap,h1,h2,h3,h4,h5⟩
   ·grind
   ·refine .inr ⟨b,o,n,cap,h1,h2,h3,k.ro b h4,fun i j kd hi hj=>?_⟩;have:=h5 i j kd hi hj;unfold hcell at *;rw [k.Jd b h4]
    grind
theorem bC.keep {E E':En} {h h':Array Obj} (k:Keeps E h E' h'): ∀(xs:List AV) (us:List Value),bC E h xs us->bC E' h' xs us
 |[],us,hv=>by simp only [bC] at *; exact hv
 |x::xs,us,hv=>by simp only [bC] at *;obtain⟨u,vs,h1,h2,h3⟩:=hv;exact⟨u,vs,h1,VR.keep k x u h2,bC.keep k xs vs h3⟩
end
theorem fA.keep {E E':En} {h h':Array Obj} (k:Keeps E h E' h'): ∀(xs:List (AV×AV×Nat)) (es:List MapEntry),fA E h xs es->fA E' h' xs es
 |[],es,hv=>by simp only [fA] at *; exact hv
 |(a,b,c)::xs,es,hv=>by simp only [fA] at *;obtain⟨e,r,h1,h2,h3,h4,h5⟩:=hv;exact⟨e,r,h1,VR.keep k _ _ h2,VR.keep k _ _ h3,h4,fA.keep k xs r h5⟩
theorem aO.acK [Glob] {E E':En} {H H':Hp} {w w':World} (r:aO E H w) (he:E'.hd=E.hd) (hs:w.heap.size<=w'.heap.size) (yA: ∀b,E'.ro b->E.ro b\/(∃id o,H.get id=some o/\(E.θ id).1=b)\/w.heap.size<=b)
 (own: ∀id o,H'.get id=some o->(E'.θ id).1<w.heap.size->∃yH o0,H.get yH=some o0/\(E.θ yH).1=(E'.θ id).1): ∀b x,E'.hd b=some x->b<w'.heap.size/\¬E'.ro b/\∀id o,H'.get id=some o->(E'.θ id).1≠b:=by
 intro b x hb;rw [he] at hb;obtain⟨q1,q2,q3⟩:=r.hid b x hb;refine⟨by omega,fun hr=>?_,fun id o ho e=>?_⟩
 ·rcases yA b hr with h|⟨id,o,h1,h2⟩|h
  ·exact q2 h
  ·exact q3 id o h1 h2
  ·omega
 ·obtain⟨yH,o0,h0,e0⟩:=own id o ho (by rw [e]; exact q1);exact q3 yH o0 h0 (e0.trans e)
def HdK (E:En) (h:Array Obj) (E':En) (h':Array Obj) (B:Nat) (k:D):Prop:= ∀b j,E.hd b=some (B,k,j)->E'.hd b=some (B,k,j)/\h'[b]?=h[b]?
theorem aO.hdk [Glob] {E E':En} {H:Hp} {w:World} {h':Array Obj} (r:aO E H w) (he:E'.hd=E.hd) (hk: ∀b,b<w.heap.size->(∀id o,H.get id=some o->(E.θ id).1≠b)->h'[b]?=w.heap[b]?) (B:Nat) (key:D):HdK E w.heap E' h' B key:=
 fun b _ hb=> ⟨by rw [he]; exact hb,hk b (r.hid b _ hb).1 (r.hid b _ hb).2.2⟩
theorem uM.keep {E E':En} {h h':Array Obj} (k:Keeps E h E' h') {B:Nat} {key:D} {j ty:Nat} (hh: ∀b,E.hd b=some (B,key,j)->E'.hd b=some (B,key,j)/\h'[b]?=h[b]?) {c:FC} {d:D} {u:Value} (ho:uM E h B key j ty c d u):uM E' h' B key j ty c d u:=by
 cases c with
 |ck c=>exact Rd.keep k.ro k.Jd ho
 |own t=>
  rcases ho with ⟨h1,h2⟩|⟨b,o,n,cap,a,arr,lo,hi,h1,h2,h3,h4,h5,h6,h7⟩
  ·exact .inl ⟨h1,Rd.keep k.ro k.Jd h2⟩
  ·obtain⟨q1,q2⟩:=hh b h3;refine .inr ⟨b,o,n,cap,a,arr,lo,hi,h1,h2,q1,by rw [q2]; exact h4,h5,h6,?_⟩;rcases h7 with h7|⟨g1,g2,us,g3,g4⟩
   ·exact .inl h7
   ·exact .inr ⟨g1,g2,us,by rw [k.ρ]; exact bC.keep k _ us g3,g4⟩
 |mp t=> obtain⟨b,ents,c,h1,h2,h3,h4⟩:=ho;obtain⟨q1,q2⟩:=hh b h2;exact⟨b,ents,c,h1,q1,by rw [q2]; exact h3,h4.keep k.ro k.Jd⟩
theorem vV.keep {E E':En} {h h':Array Obj} (k:Keeps E h E' h') {B t:Nat} {tys:List Nat} {key d:D} {v:Value} (hh:HdK E h E' h' B key) (ho:vV E h B t tys key d v):vV E' h' B t tys key d v:=by
 unfold vV at *;split at ho
 ·obtain⟨c,h1,h2⟩:=ho;exact⟨c,h1,h2.keep k fun b=>hh b _⟩
 ·obtain⟨b,o,arr,lo,hi,h1,h2,h3,h4,h5,h6⟩:=ho;obtain⟨q1,q2⟩:=hh b 0 h2;refine⟨b,o,arr,lo,hi,h1,q1,by rw [q2]; exact h3,h4,h5,fun j c hc=>?_⟩;obtain⟨u,g1,g2,g3⟩:=h6 j c hc;exact⟨u,g1,g2,g3.keep k fun b=>hh b _⟩
theorem eU.keep {E E':En} {h h':Array Obj} (k:Keeps E h E' h') {B t:Nat} {tys:List Nat} {ov:List (SE×AV)} (hh: ∀n,oL E.ρ n ov=none->HdK E h E' h' B (.i n)): ∀{ds:List D} {es:List MapEntry},eU E h B t tys ov ds es->eU E' h' B t tys ov ds es
 |[],_,ho=>ho
 |d::ds,_,⟨e,r,n,h1,h2,h3,h4,h5⟩=>by
  refine⟨e,r,n,h1,h2,h3,?_,eU.keep k hh h5⟩;rw [k.ρ];split at h4
  ·rename_i v hv;exact VR.keep k _ _ h4
  ·rename_i hv;exact h4.keep k (hh n hv)
def nf:dG->Bool
 | .fam _ _ _ _=>false
 |_=>true
theorem eU.length {E:En} {h:Array Obj} {B t:Nat} {tys:List Nat} {ov:List (SE×AV)}: ∀{ds:List D} {es:List MapEntry},eU E h B t tys ov ds es->es.length=ds.length
 |[],_,ho=>by simp only [eU] at ho; rw [ho]; rfl
 |d::ds,_,⟨e,r,n,h1,_,_,_,h5⟩=>by rw [h1,aCW,aCW,eU.length h5]
theorem OR.ahC {E E':En} {h h':Array Obj} (k:Keeps E h E' h') {id:Nat} {o:dG} (hid:E.dm id) (hb:h'[(E.θ id).1]?=h[(E.θ id).1]?) (hh:nf o=true\/∀key,HdK E h E' h' (E.θ id).1 key) (ho:OR E h id o):OR E' h' id o:=by
 cases o with
 |cells cs e=> simp only [OR] at *;obtain⟨arr,lo,hi,us,h1,h2,h3,h4,h5,h6,h7⟩:=ho;rw [k.θ id hid,k.κ id hid,hb];exact⟨arr,lo,hi,us,h1,bC.keep k cs us h2,h3,h4,h5,h6,h7⟩
 |map es c=>
  simp only [OR] at *;obtain⟨ents,c,h1,h2⟩:=ho;rw [k.θ id hid,hb]
  grind [fA.keep]
 |lY s p=> simp only [OR] at *;rw [k.θ id hid,hb];exact ho
 |gY e t=> simp only [OR] at *;obtain⟨ents,c,h1,h2⟩:=ho;rw [k.θ id hid,hb,k.ρ];exact⟨ents,c,h1,h2.keep k.ro k.Jd⟩
 |vec e t ty ov=> simp only [OR] at *;obtain⟨h0,arr,lo,hi,us,h1,h2,h3,h4,h5,h6,h7⟩:=ho;rw [k.θ id hid,k.κ id hid,hb,k.ρ];exact⟨h0,arr,lo,hi,us,h1,bC.keep k _ us h2,h3,h4,h5,h6,h7⟩
 |fam e t tys ov=>
  simp only [OR] at *;obtain⟨h0,ents,c,h1,h2⟩:=ho;rw [k.θ id hid,hb,k.ρ];rcases hh with hh|hh
  ·simp [nf] at hh
  exact⟨h0,ents,c,h1,h2.keep k fun n _=>hh _⟩
theorem OR.keep {E E':En} {h h':Array Obj} (k:Keeps E h E' h') {id:Nat} {o:dG} (hid:E.dm id) (hb:h'[(E.θ id).1]?=h[(E.θ id).1]?) (hh: ∀key,HdK E h E' h' (E.θ id).1 key) (ho:OR E h id o):OR E' h' id o:=ho.ahC k hid hb (.inr hh)
theorem OR.arA {E E':En} {h h':Array Obj} (k:Keeps E h E' h') {id:Nat} {o:dG} (hid:E.dm id) (hb:h'[(E.θ id).1]?=h[(E.θ id).1]?) (hn:nf o=true) (ho:OR E h id o):OR E' h' id o:=ho.ahC k hid hb (.inl hn)
end Go.As
end
section
namespace Go.As
theorem Hp.get_put (h:Hp) (i:Nat) (o:dG) (j:Nat):(h.put i o).get j=if j=i then some o else h.get j:=by simp [Hp.get,Hp.put,Tr.get_put]
theorem Hp.iE (h:Hp) (o:dG) (j:Nat):(h.new o).get j=if j=h.fresh then some o else h.get j:=by
 grind [Hp.new,Hp.fresh,Hp.get,Tr.get_put]
theorem aO.alL [Glob] {E:En} {H:Hp} {w:World} (r:aO E H w): ¬E.dm H.fresh:=by
 unfold Hp.fresh
 cases hr:H.res with
 |none=>exact r.fresh _ (aCN _)
 |some x=>exact (r.res x hr).2
theorem aO.xG [Glob] {E:En} {H:Hp} {w:World} (r:aO E H w) {i:Nat} (h:E.dm i):i≠H.fresh:=fun e=>r.alL (e▸h)
theorem Hp.mM (h:Hp) (i j:Nat):(h.drop i).get j=if j=i then none else h.get j:=by simp [Hp.get,Hp.drop,Tr.get_put]
def En.ext (E:En) (n:Nat) (p:Nat×Nat) (c:Nat):En:=
 { E with θ:=fun i=>if i=n then p else E.θ i,κ:=fun i=>if i=n then c else E.κ i,dm:=fun i=>i=n\/E.dm i }
theorem En.ext_θ_new (E:En) (n:Nat) (p:Nat×Nat) (c:Nat):(E.ext n p c).θ n=p:=by simp [En.ext]
theorem En.ext_κ_new (E:En) (n:Nat) (p:Nat×Nat) (c:Nat):(E.ext n p c).κ n=c:=by simp [En.ext]
theorem En.iP (E:En) (n:Nat) (p:Nat×Nat) (c:Nat):(E.ext n p c).dm n:=.inl rfl
theorem En.ext_θ (E:En) (n:Nat) (p:Nat×Nat) (c:Nat) {i:Nat} (h:i≠n):(E.ext n p c).θ i=E.θ i:=by simp [En.ext,h]
theorem En.ext_κ (E:En) (n:Nat) (p:Nat×Nat) (c:Nat) {i:Nat} (h:i≠n):(E.ext n p c).κ i=E.κ i:=by simp [En.ext,h]
theorem QI [Glob] {E:En} {H:Hp} {w:World} (r:aO E H w) (p:Nat×Nat) (c:Nat) (o:dG):(∀id,(H.new o).next<=id->¬(E.ext H.fresh p c).dm id)/\∀q,(H.new o).res=some q->q<(H.new o).next/\¬(E.ext H.fresh p c).dm q:=by
 have h1:=r.fresh;have h2:=r.res;unfold Hp.new Hp.fresh
 cases hr:H.res with
 |none=>
  refine⟨fun id hid hd=>?_,by simp⟩;simp at hid;rcases hd with hd|hd
  all_goals grind
 |some q=>
  refine⟨fun id hid hd=>?_,by simp⟩;simp at hid;have:=h2 q hr;rcases hd with hd|hd
  all_goals grind
theorem yD (H:Hp) (o:dG):H.next<=(H.new o).next/\((H.new o).res=none\/(H.new o).res=H.res)/\∀id,id=H.fresh->(H.next<=id/\id<(H.new o).next)\/H.res=some id:=by
 grind [Hp.new,Hp.fresh]
structure Alike (w w':World):Prop where
 os:w'.os=w.os
 tape:w'.tape=w.tape
 output:w'.output=w.output
theorem FM {h:Array Obj} {o:Obj} {b:Nat} (hb:b<h.size):(h.push o)[b]?=h[b]?:=by
 grind
theorem L9 [Glob] {E:En} {H:Hp} {w:World} (r:aO E H w) (p:Nat×Nat) (c:Nat) (o:Obj):Keeps E w.heap (E.ext H.fresh p c) (w.heap.push o):=
 ⟨rfl,fun _ h=> .inr h,fun _ h=>En.ext_θ E _ p c (r.xG h),fun _ h=>En.ext_κ E _ p c (r.xG h),fun _ h=>h,fun b hb=>FM (r.xC b hb)⟩
theorem iD [Glob] {E:En} {H:Hp} {w:World} (r:aO E H w) {id:Nat} {o:dG} (h:H.get id=some o):(E.θ id).1<w.heap.size:=by
 have h2:=(r.live id o h).2.1
 cases o with
 |cells cs e=>
  obtain⟨arr,lo,hi,us,h1,_⟩:=h2
  grind
 |map es c=>
  obtain⟨ents,c',h1,_⟩:=h2
  grind
 |lY s p=>exact (aDx.1 h2.1).1
 |gY e t=>
  obtain⟨ents,c',h1,_⟩:=h2
  grind
 |fam e t tys ov=>
  obtain⟨_,ents,c',h1,_⟩:=h2
  grind
 |vec e t ty ov=>
  obtain⟨_,arr,lo,hi,us,h1,_⟩:=h2
  grind
theorem BD [Glob] {E:En} {H:Hp} {w w':World} (r:aO E H w) (o:Obj) (ao:dG) (c:Nat) (hw:w'.heap=w.heap.push o) (al:Alike w w')
 (ho:OR (E.ext H.fresh (w.heap.size,0) c) w'.heap H.fresh ao) :
 Stp E H w (E.ext H.fresh (w.heap.size,0) c) (H.new ao) w'/\aO (E.ext H.fresh (w.heap.size,0) c) (H.new ao) w':=by
 have k:=L9 r (w.heap.size,0) c o;rw [<- hw] at k;have hf:=QI r (w.heap.size,0) c ao;refine⟨⟨k.ρ,k.dm,k.θ,k.κ,k.ro,fun _ h=> .inl h,(yD H ao).1,(yD H ao).2.1,fun id h=>h.elim (fun e=> .inr ((yD H ao).2.2 id e)) .inl,al.os,al.tape,al.output,by rw [hw]; simp,fun b hb _=>by rw [hw,FM hb],?_,rfl⟩,⟨hf.1,hf.2,?_,?_,?_,Glob.keep r.glob k.ro k.Jd,?_⟩⟩
 ·intro id o2 h2 hlt;rw [Hp.iE] at h2;split at h2
  ·rename_i he
   grind [En.ext_θ_new]
  ·have h3:=(r.live id o2 h2).1;exact⟨id,o2,h2,by rw [En.ext_θ _ _ _ _ (r.xG h3)]⟩
 ·intro id o2 h2;rw [Hp.iE] at h2;split at h2
  ·rename_i he;simp at h2;subst h2;rw [he,En.ext_θ_new];refine⟨En.iP _ _ _ _,ho,fun hr=>?_⟩;have:=r.xC _ hr
   grind
  ·obtain⟨h3,h4,h5⟩:=r.live id o2 h2;refine⟨.inr h3,h4.keep k h3 ?_ (fun key b j hb=> ⟨hb,by rw [hw,FM (r.hid b _ hb).1]⟩),?_⟩
   ·grind [FM,iD]
   ·rw [En.ext_θ _ _ _ _ (r.xG h3)]; exact h5
 ·intro id id' o1 o2 h1 h2 he;rw [Hp.iE] at h1 h2;split at h1<;>split at h2
  ·omega
  ·rename_i e1 _;have h3:=(r.live id' o2 h2).1;rw [e1,En.ext_θ_new,En.ext_θ _ _ _ _ (r.xG h3)] at he;have:=iD r h2
   grind
  ·rename_i _ e1;have h3:=(r.live id o1 h1).1;rw [e1,En.ext_θ_new,En.ext_θ _ _ _ _ (r.xG h3)] at he;have:=iD r h1
   grind
  ·have h3:=(r.live id o1 h1).1;have h4:=(r.live id' o2 h2).1;rw [En.ext_θ _ _ _ _ (r.xG h3),En.ext_θ _ _ _ _ (r.xG h4)] at he;exact r.inj id id' o1 o2 h1 h2 he
 ·intro b hb;have:=r.xC b hb
  grind
 ·intro b x hb;obtain⟨q1,q2,q3⟩:=r.hid b x hb;refine⟨by rw [hw,Array.size_push]; omega,q2,fun id o2 h2=>?_⟩;rw [Hp.iE] at h2;split at h2
  ·rename_i he;rw [he,En.ext_θ_new];exact fun e=>by have e:w.heap.size=b:=e; omega
  ·rw [En.ext_θ _ _ _ _ (r.xG (r.live id o2 h2).1)];exact q3 id o2 h2
theorem pJ [Glob] {E:En} {H:Hp} {w w':World} (r:aO E H w) {id:Nat} {o:dG} (hl:H.get id=some o)
 (hother: ∀b,b≠(E.θ id).1->w'.heap[b]?=w.heap[b]?):Keeps E w.heap E w'.heap:=
 ⟨rfl,fun _ h=>h,fun _ _=>rfl,fun _ _=>rfl,fun _ h=>h,fun b hb=>hother b fun e=>(r.live id o hl).2.2 (by rw [<- e]; exact hb)⟩
theorem Ls [Glob] {E:En} {H:Hp} {w w':World} (r:aO E H w) {id:Nat} {o:dG} (hl:H.get id=some o) (ao:dG)
 (hsize:w'.heap.size=w.heap.size) (hother: ∀b,b≠(E.θ id).1->w'.heap[b]?=w.heap[b]?) (al:Alike w w') (ho:OR E w'.heap id ao) :
 Stp E H w E (H.put id ao) w'/\aO E (H.put id ao) w':=by
 have k:=pJ r hl hother;refine⟨⟨rfl,fun _ h=>h,fun _ _=>rfl,fun _ _=>rfl,fun _ h=>h,fun _ h=> .inl h,aCN _,.inr rfl,fun _ h=> .inl h,al.os,al.tape,al.output,by omega,?_,?_,rfl⟩,⟨r.fresh,r.res,?_,?_,?_,Glob.keep r.glob k.ro k.Jd,?_⟩⟩
 ·intro b _ hn
  grind
 ·intro j o2 h2 _
  grind [Hp.get_put]
 ·intro j o2 h2;rw [Hp.get_put] at h2;split at h2
  ·rename_i e;subst e;simp at h2;subst h2;exact⟨(r.live j o hl).1,ho,(r.live j o hl).2.2⟩
  ·rename_i e;obtain⟨h3,h4,h5⟩:=r.live j o2 h2;refine⟨h3,h4.keep k h3 (hother _ fun e2=>e (r.inj j id o2 o h2 hl e2)) (fun key b q hb=> ⟨hb,hother b fun e2=>(r.hid b _ hb).2.2 id o hl e2.symm⟩),h5⟩
 ·intro i j o1 o2 h1 h2 he;rw [Hp.get_put] at h1 h2;split at h1<;>split at h2
  ·omega
  ·rename_i e1 _; subst e1; exact r.inj i j o o2 hl h2 he
  ·rename_i _ e1; subst e1; exact r.inj i j o1 o h1 hl he
  ·exact r.inj i j o1 o2 h1 h2 he
 ·intro b hb;rw [hsize];exact r.xC b hb
 ·intro b x hb;obtain⟨q1,q2,q3⟩:=r.hid b x hb;refine⟨by rw [hsize]; exact q1,q2,fun j o2 h2=>?_⟩;rw [Hp.get_put] at h2;split at h2
  ·rename_i e;rw [e];exact q3 id o hl
  ·exact q3 j o2 h2
theorem drop_step [Glob] {E:En} {H:Hp} {w:World} (r:aO E H w) (id:Nat):Stp E H w E (H.drop id) w/\aO E (H.drop id) w:=by
 have hg: ∀j o,(H.drop id).get j=some o->H.get j=some o:=by
  intro j o h
  grind [Hp.mM]
 exact⟨⟨rfl,fun _ h=>h,fun _ _=>rfl,fun _ _=>rfl,fun _ h=>h,fun _ h=> .inl h,aCN _,.inr rfl,fun _ h=> .inl h,rfl,rfl,rfl,aCN _,fun _ _ _=>rfl,fun j o h _=> ⟨j,o,hg j o h,rfl⟩,rfl⟩,
  ⟨r.fresh,r.res,fun j o h=>r.live j o (hg j o h),fun i j o1 o2 h1 h2 he=>r.inj i j o1 o2 (hg _ _ h1) (hg _ _ h2) he,r.xC,r.glob,fun b x hb=> ⟨(r.hid b x hb).1,(r.hid b x hb).2.1,fun j o h=>(r.hid b x hb).2.2 j o (hg j o h)⟩⟩⟩
theorem XD [Glob] {E:En} {H:Hp} {w w':World} (r:aO E H w) {id:Nat} {o:dG} (hl:H.get id=some o) (ao:dG) (off c:Nat)
 (hsize:w'.heap.size=w.heap.size) (hother: ∀b,b≠(E.θ id).1->w'.heap[b]?=w.heap[b]?) (al:Alike w w')
 (ho:OR (E.ext H.fresh ((E.θ id).1,(E.θ id).2+off) c) w'.heap H.fresh ao) :
 Stp E H w (E.ext H.fresh ((E.θ id).1,(E.θ id).2+off) c) ((H.drop id).new ao) w'/\aO (E.ext H.fresh ((E.θ id).1,(E.θ id).2+off) c) ((H.drop id).new ao) w':=by
 have hdn:(H.drop id).fresh=H.fresh:=rfl;have hf:=QI (drop_step r id).2 ((E.θ id).1,(E.θ id).2+off) c ao;rw [hdn] at hf
 have k:Keeps E w.heap (E.ext H.fresh ((E.θ id).1,(E.θ id).2+off) c) w'.heap:=
  ⟨rfl,fun _ h=> .inr h,fun _ h=>En.ext_θ E _ _ c (r.xG h),fun _ h=>En.ext_κ E _ _ c (r.xG h),fun _ h=>h,(pJ r hl hother).Jd⟩
 have hg: ∀j o2,((H.drop id).new ao).get j=some o2->(j=H.fresh/\o2=ao)\/(j≠id/\H.get j=some o2):=by
  intro j o2 h
  grind [Hp.iE,Hp.mM]
 refine⟨⟨rfl,k.dm,k.θ,k.κ,k.ro,fun _ h=> .inl h,(yD (H.drop id) ao).1,(yD (H.drop id) ao).2.1,fun j h=>h.elim (fun e=> .inr ((yD (H.drop id) ao).2.2 j e)) .inl,al.os,al.tape,al.output,by omega,?_,?_,rfl⟩,⟨hf.1,hf.2,?_,?_,?_,Glob.keep r.glob k.ro k.Jd,?_⟩⟩
 ·intro b _ hn
  grind
 ·intro j o2 h2 hlt;rcases hg j o2 h2 with ⟨rfl,rfl⟩|⟨_,h3⟩
  ·grind [En.ext_θ_new]
  ·have:=(r.live j o2 h3).1;exact⟨j,o2,h3,by rw [En.ext_θ _ _ _ _ (r.xG this)]⟩
 ·intro j o2 h2;rcases hg j o2 h2 with ⟨rfl,rfl⟩|⟨hne,h3⟩
  ·rw [En.ext_θ_new];exact⟨En.iP _ _ _ _,ho,(r.live id o hl).2.2⟩
  ·obtain⟨h4,h5,h6⟩:=r.live j o2 h3;refine⟨.inr h4,h5.keep k h4 (hother _ fun e=>hne (r.inj j id o2 o h3 hl e)) (fun key b q hb=> ⟨hb,hother b fun e2=>(r.hid b _ hb).2.2 id o hl e2.symm⟩),?_⟩;rw [En.ext_θ _ _ _ _ (r.xG h4)]; exact h6
 ·intro i j o1 o2 h1 h2 he;rcases hg i o1 h1 with ⟨e1,_⟩|⟨e1,h3⟩ <;>rcases hg j o2 h2 with ⟨e2,_⟩|⟨e2,h4⟩
  ·omega
  ·have:=(r.live j o2 h4).1;rw [e1,En.ext_θ_new,En.ext_θ _ _ _ _ (r.xG this)] at he;exact absurd (r.inj id j o o2 hl h4 he).symm e2
  ·have:=(r.live i o1 h3).1;rw [e2,En.ext_θ_new,En.ext_θ _ _ _ _ (r.xG this)] at he;exact absurd (r.inj i id o1 o h3 hl he) e1
  ·have h5:=(r.live i o1 h3).1;have h6:=(r.live j o2 h4).1;rw [En.ext_θ _ _ _ _ (r.xG h5),En.ext_θ _ _ _ _ (r.xG h6)] at he;exact r.inj i j o1 o2 h3 h4 he
 ·intro b hb;rw [hsize];exact r.xC b hb
 ·intro b x hb;obtain⟨q1,q2,q3⟩:=r.hid b x hb;refine⟨by rw [hsize]; exact q1,q2,fun j o2 h2=>?_⟩;rcases hg j o2 h2 with ⟨rfl,rfl⟩|⟨_,h3⟩
  ·rw [En.ext_θ_new];exact q3 id o hl
  ·rw [En.ext_θ _ _ _ _ (r.xG (r.live j o2 h3).1)];exact q3 j o2 h3
def Tj:Value->Bool
 | .agg _=>true
 |_=>false
def aeJ (P:Program):TypeDesc->Option TK
 | .bool=>some .bool
 | .int k=>some (.int k)
 | .string=>some .string
 | .pointer e=>some (.pointer e)
 | .slice e=>some (.slice e)
 | .array n e=>some (.array n e)
 | .map k e=>some (.map k e)
 | .struct fs=>(fs.toList.mapM fun f=>(P.info? f.type).map fun i=>(f.offset,f.type,i.size)).map .struct
 | .func _ _ _=>some .func
 | .interface ms=>some (.iface ms.isEmpty)
 | .tuple _=>some .tuple
 |_=>none
def aiL (P:Program) (t:Nat):Bool:=
 match P.underlying t with
 |some (.struct fs)=>!P.stoodInHeld t&&!P.eqGuardType P.depth t&&fs.toList.all fun f=>f.name != "_"&&(match P.underlying f.type with |some .bool|some .string|some (.int _)=>true|_=>false)
 |_=>false
def axY (i:TypeInfo) (z:Value) (k:TK) (q:Bool):Option TI:=
 match nC z.cells.toList with
 |some zs=>if Tj z=k.agg then some { kind:=k,size:=i.size,bytes:=i.bytes,zero:=zs,eqs:=q } else none
 |none=>none
def alS (P:Program) (t:Nat):Option TI:=
 match P.info? t with
 |none=>none
 |some i=>match P.underlying t with
  |none=>none
  |some d=>match aeJ P d with
   |none=>none
   |some k=>match i.zero with
    |none=>none
    |some z=>axY i z k (aiL P t)
theorem fE (b o n:Nat):(⟨b,o,none⟩ : Addr).add n=⟨b,o+n,none⟩:=by unfold Addr.add; split<;>simp_all
def Rw (P:Program):TypeDesc->TK->Prop
 | .bool,.bool=>True
 | .int k,.int k'=>k=k'
 | .string,.string=>True
 | .pointer e,.pointer e'=>e=e'
 | .slice e,.slice e'=>e=e'
 | .array n e,.array n' e'=>n=n'/\e=e'
 | .map k e,.map k' e'=>k=k'/\e=e'
 | .struct fs,.struct l=>(fs.toList.mapM fun f=>(P.info? f.type).map fun i=>(f.offset,f.type,i.size))=some l
 | .func _ _ _,.func=>True
 | .interface _,.iface _=>True
 | .tuple _,.tuple=>True
 |_,_=>False
structure qN (P:Program) (t:Nat) (i:TI):Prop where
 eqs:i.eqs=true->aiL P t=true
 all: ∃inf d z,P.info? t=some inf/\P.underlying t=some d/\inf.zero=some z/\nC z.cells.toList=some i.zero/\inf.size=i.size/\inf.bytes=i.bytes/\Rw P d i.kind/\Tj z=i.agg
def dU (P:Program) (tt:TT):Prop:= ∀t i,tt t=some i->qN P t i
theorem alQ {P:Program} {d:TypeDesc} {k:TK} (h:aeJ P d=some k):Rw P d k:=by
 cases d
 case struct fs=>
  simp only [aeJ,aCX] at h;obtain⟨l,h1,rfl⟩:=h;exact h1
 all_goals first
  |(simp only [aeJ,aCJ] at h; subst h; simp [Rw]; done)
  |(simp [aeJ] at h; done)
theorem alR {P:Program} {t:Nat} {i:TI} (h:alS P t=some i):qN P t i:=by
 unfold alS at h;split at h
 ·grind
 ·rename_i inf h1;split at h
  ·grind
  ·rename_i d h2;split at h
   ·grind
   ·rename_i k hk;split at h
    ·grind
    ·rename_i z h3;unfold axY at h;split at h
     ·rename_i zs h4;split at h
      ·rename_i ha;simp only [aCJ] at h;subst h;exact⟨fun hq=>hq,inf,d,z,h1,h2,h3,h4,rfl,rfl,alQ hk,ha⟩
      grind
     grind
theorem mY (s:ByteArray):bU (bytesOf s)=s:=by
 unfold bU bytesOf
 have:(List.map UInt8.ofNat (List.map (fun x=>x.toNat) s.data.toList))=s.data.toList:=by
  rw [aDT]
  conv=>rhs; rw [<- List.map_id s.data.toList]
  apply aEj;intro b _;simp
 rw [this]
theorem EW (s:ByteArray): ∀b∈bytesOf s,b<256:=by intro b hb;unfold bytesOf at hb;rw [aC4] at hb;obtain⟨c,_,rfl⟩:=hb;exact c.toNat_lt
theorem Ji {E:En} {h:Array Obj} {v:Value} {a:AV} (hv:iT v=some a):VR E h a v/\v.oneCell'=true:=by
 cases v with
 |bool b=>simp [iT] at hv; subst hv; simp [VR,SB.den,Value.oneCell']
 |int k n=>simp [iT] at hv; subst hv; simp [VR,SE.den,Value.oneCell']
 |string s=>simp [iT] at hv; subst hv; exact⟨by simp only [VR]; exact⟨by rw [mY],EW s⟩,rfl⟩
 |pointer a=>cases a<;>simp [iT] at hv; subst hv; simp [VR,Value.oneCell']
 |slice a l c=>
  cases a with
  |some a=>simp [iT] at hv
  |none=>
   cases l with
   |succ l=>simp [iT] at hv
   |zero=>cases c with
    |succ c=>simp [iT] at hv
    |zero=>simp [iT] at hv; subst hv; simp [VR,Value.oneCell']
 |map r=>cases r<;>simp [iT] at hv; subst hv; simp [VR,Value.oneCell']
 |nilFunc=>simp [iT] at hv; subst hv; simp [VR,Value.oneCell']
 |nilIface=>simp [iT] at hv; subst hv; simp [VR,Value.oneCell']
 |func fn f c=>
  simp only [iT] at hv;split at hv
  ·rename_i hx;simp at hx hv;subst hv;obtain⟨rfl,rfl⟩:=hx;exact⟨by simp only [VR]; exact⟨[],[],rfl,rfl,rfl⟩,rfl⟩
  grind
 |_=>simp [iT] at hv
theorem fC {E:En} {h:Array Obj}: ∀{vs:List Value} {aCH:List AV},nC vs=some aCH->bC E h aCH vs/\∀v∈vs,v.oneCell'=true
 |[],aCH,hv=>by simp [nC] at hv; subst hv; simp [bC]
 |v::vs,aCH,hv=>by
  simp only [nC] at hv;split at hv
  ·grind
  ·rename_i a ha;split at hv
   ·grind
   ·rename_i as' has;simp at hv;subst hv;have h1:=Ji (E:=E) (h:=h) ha;have h2:=fC (E:=E) (h:=h) has;refine⟨by rw [aT]; exact⟨v,vs,rfl,h1.1,h2.1⟩,?_⟩;intro u hu
    grind
theorem XK {E:En} {h:Array Obj} {v:Value} {a:AV} (hv:ofConst v=some a):VR E h a v:=by
 cases v with
 |agg cs=>
  simp only [ofConst,aCX] at hv;obtain⟨l,h1,rfl⟩:=hv;simp only [VR]
  grind [fC]
 |tuple cs=>
  simp only [ofConst,aCX] at hv;obtain⟨l,h1,rfl⟩:=hv;simp only [VR]
  grind [fC]
 |_=>exact (Ji (by simpa [ofConst] using hv)).1
theorem VR.one {E:En} {h:Array Obj} {x:AV} {v:Value} (hv:VR E h x v) (h1:x.one=true):v.oneCell'=true:=by
 cases x with
 |agg cs=>simp [AV.one] at h1
 |tuple cs=>simp [AV.one] at h1
 |opq i=>simp [AV.one] at h1
 |inp k ks=>simp only [VR] at hv; rcases hv with ⟨⟨x,cap,rfl⟩,_⟩|⟨b,o,n,cap,rfl,_⟩ <;>rfl
 |slice id off len c=>simp only [VR] at hv; obtain⟨_,a,cap,rfl,_⟩:=hv; rfl
 |ro cs n full=>simp only [VR] at hv; obtain⟨b,o,cap,us,rfl,_⟩:=hv; rfl
 |qX cs=>simp only [VR] at hv; obtain⟨b,o,us,rfl,_⟩:=hv; rfl
 |func fn fs cs=>simp only [VR] at hv; obtain⟨us,ws,rfl,_⟩:=hv; rfl
 |iface t x=>simp only [VR] at hv; obtain⟨u,rfl,_⟩:=hv; rfl
 |str s=>simp only [VR] at hv; rw [hv.1]; rfl
 |ptr id off=>simp only [VR] at hv; rw [hv.1]; rfl
 |map id=>simp only [VR] at hv; rw [hv.1]; rfl
 |emp=>simp only [VR] at hv; obtain⟨x,rfl⟩:=hv; rfl
 |dat e t=>simp only [VR] at hv; exact hv.one'
 |lQ e=>simp only [VR] at hv; exact hv.one'
 |qO id n t=>simp only [VR] at hv; obtain⟨_,k,a,cap,_,rfl,_⟩:=hv; rfl
 |AL id lo n t=>simp only [VR] at hv; obtain⟨_,l,k,a,cap,_,_,rfl,_⟩:=hv; rfl
 |any=>simp [AV.one] at h1
 |Ec z t=>simp only [VR] at hv; obtain⟨⟨x,rfl⟩,_⟩:=hv; rfl
 |pX id es i off=>simp only [VR] at hv; obtain⟨_,k,_,rfl⟩:=hv; rfl
 |_=>simp only [VR] at hv; rw [hv]; rfl
theorem bC.ones {E:En} {h:Array Obj}: ∀{xs:List AV} {us:List Value},bC E h xs us->xB xs=true->∀u∈us,u.oneCell'=true
 |[],us,hv,_=>by rw [jI] at hv; subst hv; simp
 |x::xs,us,hv,h1=>by
  rw [aT] at hv;obtain⟨u,vs,rfl,h2,h3⟩:=hv;simp [xB] at h1;intro y hy;rcases aCP.1 hy with rfl|hy
  ·exact h2.one h1.1
  ·exact h3.ones h1.2 y hy
theorem VR.cells {E:En} {h:Array Obj} {x:AV} {v:Value} (hv:VR E h x v) (h1:xB x.cells=true):bC E h x.cells v.cells.toList:=by
 cases x with
 |agg cs=> simp only [VR] at hv;obtain⟨us,rfl,h2⟩:=hv;simpa [AV.cells,Value.cells] using h2
 |_=>
  all_goals
   simp only [AV.cells] at h1 ⊢;have h2:=hv.one (by simpa [xB] using h1);rw [aT];refine⟨v,[],?_,hv,rfl⟩;cases v<;>first |rfl|simp [Value.oneCell'] at h2
theorem xZ {P:Program} {w:World} {b o n:Nat} {us:List Value} (hn:us.length=n) (h:gQ w.heap b o us) :
 (loadCells ⟨b,o,none⟩ n).run P w= .ok us.toArray w:=by
 subst hn;refine run_loadCells_list w _ us fun j v hj=>?_;rw [fE,sO];exact h j v hj
theorem gQ.drop {h:Array Obj} {b o:Nat} {us:List Value} (hc:gQ h b o us) (k:Nat):gQ h b (o+k) (us.drop k):=by
 intro i u hu;rw [aDJ] at hu;have:=hc (k+i) u hu
 grind
theorem gQ.take {h:Array Obj} {b o:Nat} {us:List Value} (hc:gQ h b o us) (k:Nat):gQ h b o (us.take k):=by
 intro i u hu;rw [aDK] at hu;split at hu
 ·exact hc i u hu
 grind
theorem Ef {E:En} {h:Array Obj} {id:Nat} {cs:List AV} {e:TypeId} (ho:OR E h id (.cells cs e)) :
 ∃us,bC E h cs us/\gQ h (E.θ id).1 (E.θ id).2 us/\∀u∈us,u.oneCell'=true:=by
 obtain⟨arr,lo,hi,us,h1,h2,h3,h4,h5,h6,h7⟩:=ho;refine⟨us,h2,fun i u hu=>?_,h7⟩;simp only [hcell,h1]
 grind
theorem Dc [Glob] {E:En} {H:Hp} {w:World} (r:aO E H w) {p:AV} {u:Value} {n:Nat} {l:List AV} (hp:VR E w.heap p u) (h:qH H p n=some l) :
 ∃b o us,u= .pointer (some ⟨b,o,none⟩)/\us.length=n/\bC E w.heap l us/\gQ w.heap b o us/\∀u∈us,u.oneCell'=true:=by
 cases p with
 |ptr id off=>
  simp only [qH] at h;split at h
  ·rename_i cs e hl;split at h
   ·rename_i l' hd;obtain⟨us,h2,h3,h4⟩:=Ef (r.live id _ hl).2.1;obtain⟨h5,h6,h7⟩:=h2.eF hd;obtain⟨h8,h9⟩:=h5.jR h;simp only [VR] at hp;refine⟨_,_,_,hp.1,?_,h8,(h3.drop off).take n,fun x hx=>h4 x (aDh (aDn hx))⟩;have:=h5.length
    grind
   grind
  grind
 |qX cs=>
  simp only [qH] at h;simp only [VR] at hp;obtain⟨b,o,us,rfl,_,h2,h3,h4⟩:=hp;obtain⟨h5,h6⟩:=h2.jR h;refine⟨b,o,_,rfl,?_,h5,h3.take n,fun x hx=>h4 x (aDn hx)⟩;have:=h2.length
  grind
 |_=>simp [qH] at h
theorem CW {E:En} {h:Array Obj}: ∀{cs:List AV} {o:Nat} {vs cs':List AV} {us ws:List Value},splice cs o vs=some cs'->bC E h cs us->bC E h vs ws->
 cs'.length=cs.length/\o+vs.length<=cs.length/\∃us',bC E h cs' us'/\∀i,us'[i]?=if o<=i/\i<o+ws.length then ws[i-o]? else us[i]?
 |cs,0,[],cs',us,ws,h1,h2,h3=>by cases cs<;>simp [splice] at h1<;>subst h1<;>rw [jI] at h3<;>subst h3<;>exact⟨rfl,by simp,us,h2,fun i=>by simp⟩
 |[],0,_::_,cs',us,ws,h1,h2,h3=>by simp [splice] at h1
 |c::cs,0,v::vs,cs',us,ws,h1,h2,h3=>by
  simp only [splice] at h1;split at h1
  ·rename_i l hl;simp at h1;subst h1;rw [aT] at h2 h3;obtain⟨u,us',rfl,ha,hb⟩:=h2;obtain⟨x,ws',rfl,hc,hd⟩:=h3;obtain⟨e1,e2,aeC,e3,e4⟩:=CW hl hb hd;refine⟨by simp [e1],by simp at e2 ⊢; omega,x::aeC,by rw [aT]; exact⟨x,aeC,rfl,hc,e3⟩,?_⟩;intro i
   grind
  grind
 |[],_+1,vs,cs',us,ws,h1,h2,h3=>by cases vs<;>simp [splice] at h1
 |c::cs,o+1,vs,cs',us,ws,h1,h2,h3=>by
  have h1':(match splice cs o vs with |some l=>some (c::l)|none=>none)=some cs':=by cases vs<;>exact h1
  split at h1'
  ·rename_i l hl;simp at h1';subst h1';rw [aT] at h2;obtain⟨u,us',rfl,ha,hb⟩:=h2;obtain⟨e1,e2,aeC,e3,e4⟩:=CW hl hb h3;refine⟨by simp [e1],by simp; omega,u::aeC,by rw [aT]; exact⟨u,aeC,rfl,ha,e3⟩,?_⟩;intro i
   grind
  grind
theorem qG {P:Program} (b o:Nat) (e:TypeId) (lo hi:Nat): ∀(vs:List Value) (i:Nat) (arr:Array Value) (w:World),
 w.heap[b]?=some (.cells arr e (lo,hi))->(∀x,lo<=x->x<hi->arr.size<=x)->o+i+vs.length<=arr.size->(∀v∈vs,v.oneCell'=true)->
 ∃w' arr',(storeCells ⟨b,o,none⟩ vs i).run P w= .ok () w'/\Alike w w'/\w'.heap.size=w.heap.size/\(∀j,j≠b->w'.heap[j]?=w.heap[j]?)/\
  w'.heap[b]?=some (.cells arr' e (lo,hi))/\arr'.size=arr.size/\∀j,arr'[j]?=if o+i<=j/\j<o+i+vs.length then vs[j-(o+i)]? else arr[j]?
 |[],i,arr,w,hb,_,_,_=> ⟨w,arr,rfl,⟨rfl,rfl,rfl⟩,rfl,fun _ _=>rfl,hb,rfl,fun j=>by rw [aCI (by simp)]⟩
 |v::vs,i,arr,w,hb,hf,hl,h1=>by
  have hin:o+i<arr.size:=by simp at hl; omega
  have hcell:w.cell? ⟨b,o+i,none⟩ = some arr[o+i]:=by simp [World.cell?,hb,hin]
  have hfro:w.frozen? ⟨b,o+i,none⟩ = false:=by
   simp only [World.frozen?,hb,Bool.and_eq_false_iff,decide_eq_false_iff_not]
   grind
  have hst:(store ((⟨b,o,none⟩ : Addr).add i) v).run P w= .ok () (w.setCell ⟨b,o+i,none⟩ v):=by
   rw [fE,run_store P w _ v _ (h1 v (by simp)),hcell]
   grind
  have hb2:(w.setCell ⟨b,o+i,none⟩ v).heap[b]?=some (.cells (arr.setIfInBounds (o+i) v) e (lo,hi)):=by simp [World.setCell,aE1,hb]
  have hsz:(w.setCell ⟨b,o+i,none⟩ v).heap.size=w.heap.size:=by simp [World.setCell]
  have hot: ∀j,j≠b->(w.setCell ⟨b,o+i,none⟩ v).heap[j]?=w.heap[j]?:=by
   intro j hj;simp only [World.setCell,aE1]
   grind
  obtain⟨w',arr',e1,e2,e3,e4,e5,e6,e7⟩:=qG (P:=P) b o e lo hi vs (i+1) _ _ hb2 (by simpa using hf) (by simp at hl ⊢; omega) (fun x hx=>h1 x (by simp [hx]));refine⟨w',arr',?_,⟨e2.os,e2.tape,e2.output⟩,e3.trans hsz,fun j hj=>(e4 j hj).trans (hot j hj),e5,by simpa using e6,?_⟩
  ·simp only [storeCells,Sem.run_bind,hst,Result.andThen_ok];exact e1
  grind
theorem oN [Glob] {P:Program} {E:En} {H:Hp} {w:World} (r:aO E H w) {id off:Nat} {cs vs cs':List AV} {e:TypeId} {ws:List Value} (hl:H.get id=some (.cells cs e))
 (hs:splice cs off vs=some cs') (hv:bC E w.heap vs ws) (h1: ∀u∈ws,u.oneCell'=true) :
 ∃w',(storeCells ⟨(E.θ id).1,(E.θ id).2+off,none⟩ ws).run P w= .ok () w'/\Stp E H w E (H.put id (.cells cs' e)) w'/\aO E (H.put id (.cells cs' e)) w':=by
 obtain⟨arr,lo,hi,us,g1,g2,g3,g4,g5,g6,g7⟩:=(r.live id _ hl).2.1;obtain⟨s1,s2,us',s3,s4⟩:=CW hs g2 hv;have hlen:=hv.length;have hlu:=g2.length;obtain⟨w',arr',e1,e2,e3,e4,e5,e6,e7⟩:=qG (P:=P) (E.θ id).1 ((E.θ id).2+off) e lo hi ws 0 arr w g1 g6 (by omega) h1;refine⟨w',e1,Ls r hl _ e3 e4 e2 ?_⟩;have k:=pJ r hl e4;refine⟨arr',lo,hi,us',e5,bC.keep k _ _ s3,?_,by omega,by rw [e6]; exact g5,by rw [e6]; exact g6,?_⟩
 ·intro i u hu
  grind
 ·intro u hu;rw [aD4] at hu
  grind
def aW (ρ:Nat->Int) (pc:List (SB×Bool)):Prop:= ∀c b,(c,b)∈pc->c.den ρ=b
def SR (E:En) (h:Array Obj) (slots:Tr AV) (a:Act):Prop:= ∀t v,slots.get t=some v->∃u,a.tmps[t]?=some u/\VR E h v u
def vW (P:Program) (o:Oper) (a:Act) (w:World) (R:Value->World->Prop):Prop:=
 ∀(K:Act->World->Prop) (Q:Exit->Act->World->Prop),(∀u w',R u w'->K (a.put o.dst u) w')->o.wp P a w K Q
theorem vW.value {P:Program} {o:Oper} {a:Act} {w w':World} {R:Value->World->Prop} {u:Value} (h:(execOp a.eval o).run P w= .ok (.value u) w') (hr:R u w'):vW P o a w R:=
 fun K Q hk=>by unfold Oper.wp; rw [h]; exact hk u w' hr
theorem vW.skip {P:Program} {o:Oper} {a:Act} {w w':World} {R:Value->World->Prop} (h:(execOp a.eval o).run P w= .ok .skip w') (hr:R undef w'):vW P o a w R:=
 fun K Q hk=>by unfold Oper.wp; rw [h]; exact hk _ w' hr
theorem iG {E:En} {w:World} {s:St} {a:Act} (sr:SR E w.heap s.slots a) {x:Operand} {v:AV} (h:ev s x=some v):VR E w.heap v (a.eval x):=by
 cases x with
 |tmp t=> obtain⟨u,h1,h2⟩:=sr t v h;simp only [Act.eval,aDL,h1,aCT];exact h2
 |const c=>exact XK h
 |func f=> simp [ev] at h;subst h;simp only [VR,Act.eval];exact⟨[],[],rfl,rfl,rfl⟩
 |global g=>simp [ev] at h
theorem TL {E:En} {w:World} {s:St} {a:Act} (sr:SR E w.heap s.slots a): ∀{xs:List Operand} {vs:List AV},evs s xs=some vs->bC E w.heap vs (xs.map a.eval)
 |[],vs,h=>by simp [evs] at h; subst h; simp [bC]
 |x::xs,vs,h=>by
  simp only [evs] at h;split at h
  ·grind
  ·rename_i b hb;split at h
   ·grind
   ·rename_i bs hbs;simp at h;subst h;rw [aCQ,aT];exact⟨_,_,rfl,iG sr hb,TL sr hbs⟩
section
variable {P:Program} {t:Nat} {i:TI}
theorem uO (h:qN P t i) (w:World):(isAgg t).run P w= .ok i.agg w:=by obtain⟨inf,d,z,h1,h2,h3,h4,h5,h6,h7,_⟩:=h.all;unfold isAgg;simp only [Sem.run_bind,run_underlying h2,Result.andThen_ok];cases d<;>cases hk:i.kind<;>simp only [hk,Rw] at h7<;>simp [TI.agg,TK.agg,hk]
theorem dS (h:qN P t i) (w:World):(sizeOf t).run P w= .ok i.size w:=by obtain⟨inf,d,z,h1,h2,h3,h4,h5,h6,h7,_⟩:=h.all;simp [sizeOf,typeInfo,h1,h5]
theorem fH (h:qN P t i) {e:Nat} (hk:i.kind= .slice e):P.underlying t=some (.slice e):=by obtain⟨inf,d,z,h1,h2,h3,h4,h5,h6,h7,_⟩:=h.all;rw [h2];cases d<;>simp [hk,Rw] at h7;rw [h7]
theorem xH (h:qN P t i) {n e:Nat} (hk:i.kind= .array n e):P.underlying t=some (.array n e):=by
 obtain⟨inf,d,z,h1,h2,h3,h4,h5,h6,h7,_⟩:=h.all;rw [h2];cases d<;>simp [hk,Rw] at h7
 grind
theorem CV (h:qN P t i) {k e:Nat} (hk:i.kind= .map k e):P.underlying t=some (.map k e):=by
 obtain⟨inf,d,z,h1,h2,h3,h4,h5,h6,h7,_⟩:=h.all;rw [h2];cases d<;>simp [hk,Rw] at h7
 grind
theorem yS (h:qN P t i) {k:IntKind} (hk:i.kind= .int k):P.underlying t=some (.int k):=by obtain⟨inf,d,z,h1,h2,h3,h4,h5,h6,h7,_⟩:=h.all;rw [h2];cases d<;>simp [hk,Rw] at h7;rw [h7]
theorem gG (h:qN P t i) (hk:i.kind= .string):P.underlying t=some .string:=by
 obtain⟨inf,d,z,h1,h2,h3,h4,h5,h6,h7,_⟩:=h.all
 grind [Rw]
theorem UZ (h:qN P t i) (hk:i.kind= .bool):P.underlying t=some .bool:=by
 obtain⟨inf,d,z,h1,h2,h3,h4,h5,h6,h7,_⟩:=h.all
 grind [Rw]
theorem Ej (h:qN P t i) {l:List (Nat×Nat×Nat)} (hk:i.kind= .struct l): ∃fs:Array Field,P.underlying t=some (.struct fs)/\(fs.toList.mapM fun f=>(P.info? f.type).map fun i=>(f.offset,f.type,i.size))=some l:=by
 obtain⟨inf,d,z,h1,h2,h3,h4,h5,h6,h7,_⟩:=h.all;rw [h2];cases d<;>simp [hk,Rw] at h7
 grind
theorem Dt (h:qN P t i): ∃inf z,P.info? t=some inf/\inf.size=i.size/\inf.bytes=i.bytes/\inf.zero=some z/\nC z.cells.toList=some i.zero:=by
 obtain⟨inf,d,z,h1,h2,h3,h4,h5,h6,h7,_⟩:=h.all
 grind
end
theorem IE [Glob] {P:Program} {tt:TT} (htt:dU P tt) {E:En} {H:Hp} {w:World} (r:aO E H w) {t:Nat} {p v:AV} {u:Value} (hp:VR E w.heap p u) (h:IG tt t p H=some v) :
 ∃x b o,u= .pointer (some ⟨b,o,none⟩)/\(loadVar t ⟨b,o,none⟩).run P w= .ok x w/\VR E w.heap v x:=by
 unfold IG at h;split at h
 ·grind
 ·rename_i i hi;have hti:=htt t i hi;split at h
  ·rename_i hagg;rw [aCX] at h;obtain⟨l,hl,rfl⟩:=h;obtain⟨b,o,us,rfl,h2,h3,h4,_⟩:=Dc r hp hl;refine⟨.agg us.toArray,b,o,rfl,?_,by simp only [VR]; exact⟨us,rfl,h3⟩⟩;simp [loadVar,uO hti,hagg,dS hti,xZ h2 h4]
  ·rename_i hagg;split at h
   ·rename_i v' l hl;simp at h;subst h;obtain⟨b,o,us,rfl,h2,h3,h4,_⟩:=Dc r hp hl;rw [aT] at h3;obtain⟨x,vs,rfl,h5,_⟩:=h3;refine⟨x,b,o,rfl,?_,h5⟩;have hc:w.cell? ⟨b,o,none⟩ = some x:=by rw [sO]; exact h4 0 x rfl
    simp [loadVar,uO hti,hagg,hc]
   grind
theorem oG (k:IntKind) (n:Int):AP k n=k.wrap n:=by
 unfold AP;split
 ·split
  ·rename_i h; exact (IntWalk.i64_in n h).symm
  ·rfl
 ·split
  ·rename_i h; exact (IntWalk.u8_in n h).symm
  ·rfl
 ·rfl
theorem abH (ρ:Nat->Int) (k:IntKind) (a b:SE):(afV k a b).den ρ=k.wrap (a.den ρ+b.den ρ):=by
 unfold afV
 grind [SE.den,oG]
theorem OQ (ρ:Nat->Int) (k:IntKind) (a b:SE):(Zd k a b).den ρ=k.wrap (a.den ρ-b.den ρ):=by
 unfold Zd
 grind [SE.den,oG]
theorem abG (ρ:Nat->Int) (k:IntKind) (a b:SE):(afU k a b).den ρ=k.wrap (a.den ρ*b.den ρ):=by
 unfold afU
 grind [SE.den,oG]
theorem dJ (ρ:Nat->Int) (a b:SE):(jL a b).den ρ=decide (a.den ρ<b.den ρ):=by
 unfold jL;split
 ·rfl
 ·simp [SB.den]
theorem afW (ρ:Nat->Int) (a b:SE):(amM a b).den ρ=decide (a.den ρ<=b.den ρ):=by
 unfold amM;split
 ·rfl
 ·simp only [SB.den]
  grind
theorem jE (ρ:Nat->Int) (a b:SE):(xX a b).den ρ=(a.den ρ == b.den ρ):=by
 unfold xX;split
 ·simp [SB.den,SE.den]
 ·simp only [SB.den,SE.den]
  grind
 grind [bI,SB.den]
theorem qW (ρ:Nat->Int) (s:SB):(DZ s).den ρ=!(s.den ρ):=by
 unfold DZ
 grind [SB.den]
theorem oU: ∀(x y:List Nat),iZ x y=true↔x=y
 |[],[]=>by simp [iZ]
 |[],_::_=>by simp [iZ]
 |_::_,[]=>by simp [iZ]
 |a::x,b::y=>by
  simp only [iZ]
  cases h:a.beq b with
  |true=>have:=aCO h; subst this; simp [oU x y]
  |false=>have:=aD5 h; simp [this]
theorem wC (s:List Nat):(bU s).toList=s.map UInt8.ofNat:=by simp_all [bU]
theorem mX (s:List Nat):(bU s).size=s.length:=by show (List.map UInt8.ofNat s).toArray.size=_;simp
theorem ofNat_inj {a b:Nat} (ha:a<256) (hb:b<256) (h:UInt8.ofNat a=UInt8.ofNat b):a=b:=by have:=congrArg UInt8.toNat h;simpa [aDG,aDy ha,aDy hb] using this
theorem map_inj: ∀{x y:List Nat},(∀b∈x,b<256)->(∀b∈y,b<256)->x.map UInt8.ofNat=y.map UInt8.ofNat->x=y
 |[],[],_,_,_=>rfl
 |[],_::_,_,_,h=>by simp at h
 |_::_,[],_,_,h=>by simp at h
 |a::x,b::y,hx,hy,h=>by simp only [aCQ,List.cons.injEq] at h;rw [ofNat_inj (hx a (by simp)) (hy b (by simp)) h.1,map_inj (fun c hc=>hx c (by simp [hc])) (fun c hc=>hy c (by simp [hc])) h.2]
theorem Zc {x y:List Nat} (hx: ∀b∈x,b<256) (hy: ∀b∈y,b<256):((bU x).toList == (bU y).toList)=iZ x y:=by
 grind [wC,oU,map_inj]
theorem OI: ∀{x y:List Nat},(∀b∈x,b<256)->(∀b∈y,b<256)->Op.bytesLess (x.map UInt8.ofNat) (y.map UInt8.ofNat)=bytesLess x y
 |[],[],_,_=>by simp [Op.bytesLess,bytesLess]
 |[],_::_,_,_=>by simp [Op.bytesLess,bytesLess]
 |_::_,[],_,_=>by simp [Op.bytesLess,bytesLess]
 |a::x,b::y,hx,hy=>by
  have ha:=hx a (by simp);have hb:=hy b (by simp);have ih:=OI (x:=x) (y:=y) (fun c hc=>hx c (by simp [hc])) (fun c hc=>hy c (by simp [hc]));simp only [aCQ,Op.bytesLess,bytesLess,ih]
  have h1:decide (UInt8.ofNat a<UInt8.ofNat b)=a.blt b:=by rw [aDu,decide_eq_true_iff,UInt8.lt_iff_toNat_lt,aDG,aDG,aDy ha,aDy hb];simp_all
  have h2:(UInt8.ofNat a == UInt8.ofNat b)=a.beq b:=by rw [aDu,beq_iff_eq];exact⟨fun h=>by rw [ofNat_inj ha hb h]; simp,fun h=>by rw [aCO h]⟩
  grind
theorem U4 {P:Program} {E:En} {w:World} {op:BinOp} {x y:List Nat} {v:AV} (hx: ∀b∈x,b<256) (hy: ∀b∈y,b<256) (h:U5 op x y=some v) :
 ∃u,(Op.stringOp op (bU x) (bU y)).run P w= .ok u w/\VR E w.heap v u:=by
 have he:=Zc hx hy;have hl:Op.bytesLess (bU x).toList (bU y).toList=bytesLess x y:=by rw [wC,wC]; exact OI hx hy
 unfold U5 at h;cases op<;>simp only [aCJ,reduceCtorEq] at h
 case add=>
  split at h
  ·rename_i hh;simp at h;subst h;have hm:IntKind.i64.max=9223372036854775807:=by decide
   refine⟨.string (bU x++bU y),?_,?_⟩
   ·simp only [Op.stringOp,mX,hm];rw [aCI (by omega)];rfl
   ·simp only [VR];refine⟨?_,?_⟩
    ·congr 1;apply ByteArray.ext;simp [bU]
    ·intro b hb;rcases aDp.1 hb with hb|hb
     ·exact hx b hb
     ·exact hy b hb
  ·simp at h
 all_goals
  subst h;exact⟨_,rfl,by simp only [VR,SB.den,he,hl]⟩
theorem kT {ρ:Nat->Int} {c:SB} {b:Bool}: ∀{pc:List (SB×Bool)},aW ρ pc->qY c pc=some b->c.den ρ=b
 |[],_,h=>by simp [qY] at h
 |(d,x)::l,hp,h=>by
  simp only [qY] at h;split at h
  ·rename_i he;have he:=xU _ _ he;simp at h;subst he h;exact hp _ _ (by simp)
  ·exact kT (fun c b hm=>hp c b (by simp [hm])) h
def Within (lo hi:Option Int) (x:Int):Prop:=(∀l,lo=some l->l<=x)/\∀h,hi=some h->x<=h
theorem SS {lo:Option Int} {z x:Int} (h: ∀l,lo=some l->l<=x) (hz:z<=x): ∀l,agW lo z=some l->l<=x:=by
 intro l hl;unfold agW at hl
 grind
theorem SQ {hi:Option Int} {z x:Int} (h: ∀l,hi=some l->x<=l) (hz:x<=z): ∀l,agU hi z=some l->x<=l:=by
 intro l hl;unfold agU at hl
 grind
theorem agJ {lo:Option Int} {z x:Int} (h: ∀l,lo=some l->l<=x) (hz:x≠z): ∀l,agK lo z=some l->l<=x:=by
 intro l hl;unfold agK at hl
 grind
theorem agL {hi:Option Int} {z x:Int} (h: ∀l,hi=some l->x<=l) (hz:x≠z): ∀l,agM hi z=some l->x<=l:=by
 intro l hl;unfold agM at hl
 grind
theorem wI {ρ:Nat->Int} {x y:SE} {v:Bool} (h:(SB.lt x y).den ρ=v):(x.den ρ<y.den ρ)↔v=true:=by subst h; simp [SB.den]
theorem Z8 {ρ:Nat->Int} {x y:SE} {v:Bool} (h:(SB.eq x y).den ρ=v):(x.den ρ=y.den ρ)↔v=true:=by subst h; simp [SB.den]
theorem akY {ρ:Nat->Int} (e:SE):Within (aaM e).1 (aaM e).2 (e.den ρ):=by
 have h0:Within none none (e.den ρ):=⟨by simp,by simp⟩;unfold aaM;split
 ·split
  ·split
   ·split
    ·split
     ·split
      ·split
       ·rename_i k m x n hn;obtain⟨hn,rfl,rfl⟩:=hn;simp only [SE.den];have h1:=aEz (m.den ρ) (b:=n) (by omega)
        have h2: -n<(m.den ρ).tmod n:=by have h1:=aEz (-(m.den ρ)) (b:=n) (by omega);rw [Int.neg_tmod] at h1;omega
        have h3:=Int.tmod_nonneg n (a:=(m.den ρ).tmod n+n) (by omega);have h4:=aEz ((m.den ρ).tmod n+n) (b:=n) (by omega);constructor<;>intro l hl<;>simp at hl<;>omega
       grind
      grind
     grind
    grind
   grind
  grind
 ·rename_i o a b
  cases o with
  |len=> refine⟨fun l hl=>?_,by simp⟩;simp only [aCJ] at hl;subst hl;simp only [SE.den,gB.den];omega
  |_=>exact h0
 grind
theorem oZ {ρ:Nat->Int} {e:SE}: ∀{pc:List (SB×Bool)},aW ρ pc->Within (bounds e pc).1 (bounds e pc).2 (e.den ρ)
 |[],_=>akY e
 |(c,v)::l,hp=>by
  have ih:=oZ (e:=e) (pc:=l) (fun c b hm=>hp c b (by simp [hm]));have hc:=hp c v (by simp);unfold bounds;split
  ·have hc:=wI hc;split
   ·split
    ·exact ih
    ·rename_i he;have he:=bI _ _ he;subst he;revert ih;split;rename_i lo hi hb;rw [hb];intro ih;simp only [SE.den] at hc;cases v
     ·exact⟨ih.1,SQ ih.2 (by simp at hc; omega)⟩
     ·exact⟨SS ih.1 (by simp at hc; omega),ih.2⟩
   ·split
    ·split
     ·exact ih
     ·rename_i he;have he:=bI _ _ he;subst he;revert ih;split;rename_i lo hi hb;rw [hb];intro ih;simp only [SE.den] at hc;cases v
      ·exact⟨SS ih.1 (by simp at hc; omega),ih.2⟩
      ·exact⟨ih.1,SQ ih.2 (by simp at hc; omega)⟩
    grind
  ·split
   ·split
    ·split
     ·exact ih
     ·rename_i he;have he:=bI _ _ he;subst he;revert ih;split;rename_i lo hi hb;rw [hb];intro ih;simp only [SB.den,SE.den,beq_eq_false_iff_ne] at hc;exact⟨agJ ih.1 hc,agL ih.2 hc⟩
    ·split
     ·exact ih
     ·rename_i he;have he:=bI _ _ he;subst he;simp only [SB.den,SE.den,beq_iff_eq] at hc;exact⟨fun l hl=>by simp at hl; omega,fun l hl=>by simp at hl; omega⟩
   grind
  grind
theorem Ei {ρ:Nat->Int} {e:SE} {pc:List (SB×Bool)} (hp:aW ρ pc):Within (uJ e pc).1 (uJ e pc).2 (e.den ρ):=by
 have h0:=oZ (e:=e) hp;unfold uJ;split
 ·split
  ·split
   ·split
    ·rename_i b _ c;have hb:=oZ (e:=b) hp;split
     ·rename_i lo hi hbb;rw [hbb] at hb;have b1:=hb.1 lo rfl;have b2:=hb.2 hi rfl;split
      ·rename_i hr;revert h0;split;rename_i l2 h2 hee;rw [hee];intro h0
       have hw:(SE.wrap .i64 (.add b (.lit c))).den ρ=b.den ρ+c:=by
        simp only [SE.den];rw [<- oG];simp only [AP]
        grind
       exact⟨SS h0.1 (by rw [hw]; omega),SQ h0.2 (by rw [hw]; omega)⟩
      grind
     grind
    grind
   grind
  grind
 grind
theorem LX {ρ:Nat->Int} {pc:List (SB×Bool)} (hp:aW ρ pc) {a b:SE} {v:Bool} (h:Zy a b pc=some v):a.den ρ=b.den ρ↔v=true:=by
 unfold Zy at h;split at h
 ·rename_i h1;simp at h;subst h;exact Z8 (kT hp h1)
 ·rw [<- Z8 (kT hp h)]
  grind
theorem akC {ρ:Nat->Int} {pc:List (SB×Bool)} (hp:aW ρ pc) {a b:SE} {v:Bool} (h:decLt pc a b=some v):a.den ρ<b.den ρ↔v=true:=by
 unfold decLt at h;split at h
 ·rename_i h1;simp at h;subst h;exact wI (kT hp h1)
 ·split at h
  ·have hb:=Ei (e:=b) hp;have hz: ∀z,(SE.lit z).den ρ=z:=fun _=>rfl;simp only [hz] at *;generalize hbb:uJ _ pc=p at h hb;obtain⟨lo,hi⟩:=p;simp only [Within] at h hb
   grind
  ·split at h
   ·have hb:=Ei (e:=a) hp;have hz: ∀z,(SE.lit z).den ρ=z:=fun _=>rfl;simp only [hz] at *;generalize hbb:uJ _ pc=p at h hb;obtain⟨lo,hi⟩:=p;simp only [Within] at h hb
    grind
   ·split at h
    ·rename_i h1;have h1:=LX hp h1
     grind
    ·rename_i h1;have h1:=LX hp h1;simp at h1;split at h
     ·rename_i h2;have h2:=wI (kT hp h2)
      grind
     grind
    ·split at h
     ·rename_i h2;have h2:=wI (kT hp h2)
      grind
     grind
theorem akD {ρ:Nat->Int} {pc:List (SB×Bool)} (hp:aW ρ pc) {a b:SE} {v:Bool} (h:decEq pc a b=some v):a.den ρ=b.den ρ↔v=true:=by
 unfold decEq at h;split at h
 ·rename_i h1;simp at h;subst h;exact LX hp h1
 ·split at h
  ·have hb:=Ei (e:=a) hp;have hz: ∀z,(SE.lit z).den ρ=z:=fun _=>rfl;simp only [hz] at *;generalize hbb:uJ _ pc=p at h hb;obtain⟨lo,hi⟩:=p;simp only [Within] at h hb
   grind
  ·split at h
   ·rename_i h2;have h2:=wI (kT hp h2)
    grind
   ·rename_i h2;have h2:=wI (kT hp h2);simp at h2;split at h
    ·rename_i h3;have h3:=wI (kT hp h3)
     grind
    grind
   ·split at h
    ·rename_i h2;have h2:=wI (kT hp h2)
     grind
    grind
theorem NQ {ρ:Nat->Int} {pc:List (SB×Bool)} (hp:aW ρ pc) {c:SB} {b:Bool} (h:KF pc c=some b):c.den ρ=b:=by
 unfold KF at h;split at h
 ·simp at h; simp [SB.den,h]
 ·have:=akC hp h;simp only [SB.den]
  grind
 ·have:=akD hp h;simp only [SB.den]
  grind
 ·exact kT hp h
theorem iQ {ρ:Nat->Int} {pc:List (SB×Bool)} (hp:aW ρ pc) {c:SB} {b:Bool} (h:lV pc c=some b):c.den ρ=b:=by
 unfold lV at h;split at h
 ·rw [aCX] at h;obtain⟨x,h1,rfl⟩:=h;simp only [SB.den,NQ hp h1]
 ·exact NQ hp h
section
variable {P:Program} {E:En} {w:World}
theorem ahH {op:BinOp} {t:Nat} {k k':IntKind} {a b:SE} {v:AV} (hk:op= .shr\/k=k') (h:ZM op k a b=some v) :
 ∃u,(binOp op t (.int k (a.den E.ρ)) (.int k' (b.den E.ρ))).run P w= .ok u w/\VR E w.heap v u:=by
 unfold ZM at h;cases op<;>simp only [aCJ,reduceCtorEq] at h
 case add=>obtain rfl:k=k':=by simpa using hk
           subst h; exact⟨_,by simp [binOp,Op.intArith]; rfl,by simp only [VR,abH]⟩
 case sub=>obtain rfl:k=k':=by simpa using hk
           subst h; exact⟨_,by simp [binOp,Op.intArith]; rfl,by simp only [VR,OQ]⟩
 case mul=>obtain rfl:k=k':=by simpa using hk
           subst h; exact⟨_,by simp [binOp,Op.intArith]; rfl,by simp only [VR,abG]⟩
 case quo=>
  obtain rfl:k=k':=by simpa using hk
  split at h
  ·split at h
   ·simp at h
   ·rename_i hy;simp at h;subst h;exact⟨_,by simp [binOp,Op.intDiv,SE.den,hy]; rfl,by simp only [VR,SE.den,oG]⟩
  ·split at h
   ·simp at h
   ·rename_i hy;simp at h;subst h;exact⟨_,by simp [binOp,Op.intDiv,SE.den,hy]; rfl,by simp only [VR,SE.den]⟩
  ·simp at h
 case rem=>
  obtain rfl:k=k':=by simpa using hk
  split at h
  ·split at h
   ·simp at h
   ·rename_i hy;simp at h;subst h;exact⟨_,by simp [binOp,Op.intDiv,SE.den,hy]; rfl,by simp only [VR,SE.den]⟩
  ·split at h
   ·simp at h
   ·rename_i hy;simp at h;subst h;exact⟨_,by simp [binOp,Op.intDiv,SE.den,hy]; rfl,by simp only [VR,SE.den]⟩
  ·simp at h
 case shr=>
  split at h
  ·split at h
   ·simp at h
   ·rename_i hy;simp at h;subst h;exact⟨_,by simp [binOp,Op.shift,SE.den,hy]; rfl,by simp only [VR,SE.den]⟩
  ·simp at h
 all_goals
  obtain rfl:k=k':=by simpa using hk
  subst h;refine⟨_,by simp [binOp,Op.intCmp]; rfl,?_⟩;simp only [VR,jE,qW,dJ,afW]
  first |rfl|(congr 1; simp [bne]; done)|(congr 1; rw [aDu]; simp; done)|skip
theorem BX {op:BinOp} {t:Nat} {x y:Operand} {a b:Value} (h1: ∀cs ds,¬(a= .agg cs/\b= .agg ds)) (h2: ¬(a= .nilIface/\b= .nilIface)) :
 (eqGuard op t x y a b).run P w= .ok () w:=by
 cases op
 case eql=>
  cases a<;>first
   |(cases b<;>first |(exact absurd ⟨rfl,rfl⟩ (h1 _ _))|(exact absurd ⟨rfl,rfl⟩ h2)|rfl)
   |rfl
 case neq=>
  cases a<;>first
   |(cases b<;>first |(exact absurd ⟨rfl,rfl⟩ (h1 _ _))|(exact absurd ⟨rfl,rfl⟩ h2)|rfl)
   |rfl
 all_goals rfl
theorem Jv {ρ:Nat->Int} {a b c:SB} (h:KA a b=some c):c.den ρ=(a.den ρ == b.den ρ):=by
 unfold KA at h;split at h<;>simp only [aCJ,reduceCtorEq] at h<;>subst h
 ·simp [SB.den]
 ·grind [SB.den,qW]
 ·grind [SB.den,qW]
 ·simp only [SB.den];cases a.den ρ<;>cases b.den ρ<;>rfl
theorem Fz {d:TypeDesc} {t:Nat} (h:P.underlying t=some d) (w:World):(underlying t).run P w= .ok d w:=run_underlying h w
theorem yG {i:TI} {t:Nat} (h:qN P t i): ∃d,P.underlying t=some d/\Rw P d i.kind:=by
 obtain⟨inf,d,z,h1,h2,h3,h4,h5,h6,h7,_⟩:=h.all
 grind
theorem Z7 {i:TI} {t:Nat} (ht:qN P t i) {x y:AV} {u u':Value} (hx:VR E w.heap x u) (hy:VR E w.heap y u') {c:SB} (h:awK i.kind x y=some c) :
 (Op.equal t u u').run P w= .ok (c.den E.ρ) w/\(∀cs ds,¬(u= .agg cs/\u'= .agg ds))/\¬(u= .nilIface/\u'= .nilIface)/\(∀k n,u≠.int k n)/\(∀s,u≠.string s)/\(∀k n,u≠.float k n)/\(∀k n m,u≠.complex k n m):=by
 obtain⟨d,h1,h2⟩:=yG ht;have hm: ∀a b,Op.equal t a b=Op.equalIn (9999+1) t a b:=fun _ _=>rfl;rw [hm];clear hm;generalize (9999:Nat)=n;unfold awK at h;split at h
 ·rename_i hk;rw [hk] at h2;cases d<;>simp only [Rw] at h2;split at h
  ·simp only [VR] at hx hy;subst hx hy;refine⟨?_,by simp,by simp,by simp,by simp,by simp,by simp⟩;rw [Jv h];simp [Op.equalIn,Fz h1]
  grind
 ·rename_i k hk;cases hkk:i.kind<;>rw [hkk] at h h2<;>simp only [isNil,reduceCtorEq] at h
  case pointer e=>
   cases d<;>simp only [Rw] at h2;cases x<;>simp only [reduceCtorEq] at h<;>cases y<;>simp only [reduceCtorEq,aCJ] at h<;>subst h<;>simp only [VR] at hx hy
   all_goals
    first |(obtain⟨b,o,us,rfl,_⟩:=hx)|(obtain⟨rfl,_⟩:=hx)|subst hx
    first |(obtain⟨b',o',us',rfl,_⟩:=hy)|(obtain⟨rfl,_⟩:=hy)|subst hy
    exact⟨by simp [Op.equalIn,Fz h1,SB.den],by simp,by simp,by simp,by simp,by simp,by simp⟩
  case slice e=>
   cases d<;>simp only [Rw] at h2;cases x<;>simp only [reduceCtorEq] at h<;>cases y<;>simp only [reduceCtorEq,aCJ] at h<;>subst h<;>simp only [VR] at hx hy
   all_goals
    first |(obtain⟨b,o,cap,us,rfl,_⟩:=hx)|(obtain⟨_,b,cap,rfl,_⟩:=hx)|(obtain⟨_,k,b,cap,_,rfl,_⟩:=hx)|subst hx
    first |(obtain⟨b',o',cap',us',rfl,_⟩:=hy)|(obtain⟨_,b',cap',rfl,_⟩:=hy)|(obtain⟨_,k',b',cap',_,rfl,_⟩:=hy)|subst hy
    exact⟨by simp [Op.equalIn,Fz h1,SB.den],by simp,by simp,by simp,by simp,by simp,by simp⟩
  case map k' e=>
   cases d<;>simp only [Rw] at h2;cases x<;>simp only [reduceCtorEq] at h<;>cases y<;>simp only [reduceCtorEq,aCJ] at h<;>subst h<;>simp only [VR] at hx hy
   all_goals
    first |(obtain⟨rfl,_⟩:=hx)|subst hx
    first |(obtain⟨rfl,_⟩:=hy)|subst hy
    exact⟨by simp [Op.equalIn,Fz h1,SB.den],by simp,by simp,by simp,by simp,by simp,by simp⟩
theorem binOp_eql {t:Nat} {u u':Value} {b:Bool} (h:(Op.equal t u u').run P w= .ok b w) (h1: ∀k n,u≠.int k n) (h2: ∀s,u≠.string s) (h3: ∀k n,u≠.float k n) (h4: ∀k n m,u≠.complex k n m) :
 (binOp .eql t u u').run P w= .ok (.bool b) w/\(binOp .neq t u u').run P w= .ok (.bool (!b)) w:=by
 cases u<;>first
  |exact absurd rfl (h1 _ _)
  |exact absurd rfl (h2 _)
  |exact absurd rfl (h3 _ _)
  |exact absurd rfl (h4 _ _ _)
  |(constructor<;>(cases u'<;>simp [binOp,h]))
theorem jP (ρ:Nat->Int) (a b:SE):(wF a b).den ρ=(a.den ρ == b.den ρ):=by
 unfold wF;split
 ·rename_i h
  grind [bI,SB.den]
 ·split
  ·simp only [SB.den]
   grind
  ·simp only [SB.den]
theorem oO (ρ:Nat->Int) (x:SE):(qC x).den ρ=enc (dec (x.den ρ)):=by
 unfold qC;split
 ·simp only [SE.den,aA]
 ·split
  ·simp only [SE.den,gB.den,aA]
  ·simp only [SE.den,gB.den,aA]
  ·simp only [SE.den,gB.den]
 ·simp only [SE.den,gB.den]
theorem Fe {E:En} {h:Array Obj} {x:AV} {u:Value} {e:SE} (hx:VR E h x u) (hs:AO x=some e): ∃s,u= .string s/\dec (e.den E.ρ)=Am s:=by
 unfold AO at hs;split at hs
 ·simp only [aCJ] at hs;subst hs;simp only [VR] at hx;obtain⟨rfl,hb⟩:=hx;refine⟨_,rfl,?_⟩;simp only [SE.den,aA]
  grind [GV,Am,bU]
 ·simp only [aCJ] at hs;subst hs;simp only [VR] at hx;generalize dec (SE.den E.ρ _)=d at hx ⊢
  cases hx with
  |str s=>exact⟨s,rfl,rfl⟩
 grind
theorem KY {E:En} {h:Array Obj} {x y:AV} {u v:Value} {c:SB} (hx:VR E h x u) (hy:VR E h y v) (hs:strEq x y=some c): ∃a b:ByteArray,u= .string a/\v= .string b/\c.den E.ρ=decide (a=b):=by
 unfold strEq at hs;split at hs
 ·grind
 ·rename_i e he;split at hs
  ·grind
  ·rename_i f hf;simp only [aCJ] at hs;subst hs;obtain⟨a,rfl,ha⟩:=Fe hx he;obtain⟨b,rfl,hb⟩:=Fe hy hf;refine⟨a,b,rfl,rfl,?_⟩
   grind [jP,oO,NR,kP]
theorem Em (a b:ByteArray):(a.toList == b.toList)=decide (a=b):=by
 rw [aDu,beq_iff_eq,decide_eq_true_eq];constructor
 ·intro h;rw [<- mY a,<- mY b]
  have e: ∀x:ByteArray,x.toList=x.data.toList:=by
   intro x;have:=wC (bytesOf x);rw [mY] at this;rw [this]
   have e2:(UInt8.ofNat ∘ fun b:UInt8=>b.toNat)=id:=by funext b;simp
   simp_all [bytesOf,e2]
  grind [bytesOf]
 grind
theorem OH {E:En} {op:BinOp} {x y v:AV} {u u':Value} {t:Nat} (hx:VR E w.heap x u) (hy:VR E w.heap y u') (h:RV op (strEq x y)=some v) :
 (∃r,(binOp op t u u').run P w= .ok r w/\VR E w.heap v r)/\(∀cs ds,¬(u= .agg cs/\u'= .agg ds))/\¬(u= .nilIface/\u'= .nilIface):=by
 unfold RV at h;split at h
 ·grind
 ·rename_i c hc;obtain⟨a,b,rfl,rfl,hd⟩:=KY hx hy hc;refine⟨?_,by simp,by simp⟩;split at h
  ·simp only [aCJ] at h;subst h;refine⟨.bool (decide (a=b)),?_,by simp only [VR,hd]⟩;rw [<- Em];rfl
  ·simp only [aCJ] at h;subst h;refine⟨.bool (!decide (a=b)),?_,by simp only [VR,SB.den,hd]⟩;rw [<- Em];rfl
  grind
theorem aiJ {tt:TT} (htt:dU P tt) {t:Nat} {op:BinOp} {x y v:AV} {u u':Value} (hx:VR E w.heap x u) (hy:VR E w.heap y u') (h:aiK tt t op x y=some v) :
 (∃r,(binOp op t u u').run P w= .ok r w/\VR E w.heap v r)/\(∀cs ds,¬(u= .agg cs/\u'= .agg ds))/\¬(u= .nilIface/\u'= .nilIface):=by
 unfold aiK at h;split at h
 ·split at h
  ·simp only [VR] at hx hy;subst hx hy;refine⟨?_,by simp,by simp⟩;split at h
   all_goals simp_all [ahH]
  grind
 ·split at h
  ·simp only [VR] at hx hy;obtain⟨rfl,hx⟩:=hx;obtain⟨rfl,hy⟩:=hy;refine⟨?_,by simp,by simp⟩;obtain⟨r,h1,h2⟩:=U4 (P:=P) (E:=E) (w:=w) hx hy h;refine⟨r,?_,h2⟩;cases op<;>first |(simp [U5] at h; done)|(simpa [binOp] using h1)
  ·exact OH hx hy h
  grind
 ·exact OH hx hy h
 ·split at h
  ·grind
  ·rename_i i hi;split at h
   ·rename_i c hc;simp at h;subst h;obtain⟨e1,e2,e3,e4,e5,e6,e7⟩:=Z7 (w:=w) (htt t i hi) hx hy hc;exact⟨⟨_,(binOp_eql e1 e4 e5 e6 e7).1,by simp only [VR]⟩,e2,e3⟩
   ·rename_i c hc;simp at h;subst h;obtain⟨e1,e2,e3,e4,e5,e6,e7⟩:=Z7 (w:=w) (htt t i hi) hx hy hc;exact⟨⟨_,(binOp_eql e1 e4 e5 e6 e7).2,by simp only [VR,qW]⟩,e2,e3⟩
   grind
theorem aoT {op:UnOp} {x v:AV} {u:Value} (hx:VR E w.heap x u) (h:awI op x=some v): ∃r,(Op.unary op u).run P w= .ok r w/\VR E w.heap v r:=by
 unfold awI at h;split at h
 ·simp at h; subst h;simp only [VR] at hx; subst hx;exact⟨_,rfl,by simp only [VR,qW]⟩
 ·simp at h; subst h;simp only [VR] at hx; subst hx;exact⟨_,rfl,by simp only [VR,OQ,SE.den]⟩
 grind
end
section
variable {P:Program} {E:En} {w:World}
theorem kG [Glob] {H:Hp} {w':World} (r:aO E H w) {cs:List AV} {us:List Value} (arr:Array Value) (lo hi:Nat) (e:TypeId) (hv:bC E w.heap cs us) (h1: ∀u∈us,u.oneCell'=true)
 (ha: ∀(i:Nat) (u:Value),us[i]?=some u->arr[i]?=some u) (hf: ∀o:Nat,lo<=o->o<hi->arr.size<=o) (hw:w'.heap=w.heap.push (.cells arr e (lo,hi))) (al:Alike w w') :
 Stp E H w (E.ext H.fresh (w.heap.size,0) arr.size) (H.new (.cells cs e)) w'/\aO (E.ext H.fresh (w.heap.size,0) arr.size) (H.new (.cells cs e)) w':=by
 refine BD r _ _ _ hw al ?_;have k:=L9 r (w.heap.size,0) arr.size (.cells arr e (lo,hi));rw [<- hw] at k;have hlen:=hv.length;simp only [OR,En.ext_θ_new,En.ext_κ_new];refine⟨arr,lo,hi,us,by rw [hw]; simp,bC.keep k _ _ hv,fun i u hu=>by rw [aCR]; exact ha i u hu,?_,by omega,hf,h1⟩;rw [<- hlen];rcases aCZ arr.size us.length with hh|hh
 ·have:=ha arr.size us[arr.size] (by simp [hh])
  grind
 grind
theorem Sv [Glob] {H:Hp} (_:aO E H w) (c:Nat) (h:Array Obj) (off:Nat):VR (E.ext H.fresh (w.heap.size,0) c) h (.ptr H.fresh off) (.pointer (some ⟨w.heap.size,off,none⟩)):=by
 simp only [VR,En.ext_θ_new]
 grind [En.iP]
theorem Yi [Glob] {tt:TT} (htt:dU P tt) {H H':Hp} (r:aO E H w) {t:Nat} {p v:AV} {u x:Value} (hp:VR E w.heap p u) (hx:VR E w.heap v x) (h:TR tt t p v H=some H') :
 ∃w',(Instr.storeAt t u x).run P w= .ok () w'/\Stp E H w E H' w'/\aO E H' w':=by
 unfold TR at h;split at h
 ·grind
 ·rename_i i hi;split at h
  ·rename_i hc;simp only [aCM,decide_eq_true_eq] at hc;split at h
   ·split at h
    ·rename_i id off cs e hl;split at h
     ·rename_i cs' hs;simp at h;subst h;simp only [VR] at hp;obtain⟨rfl,_⟩:=hp;have hcv:=hx.cells hc.2;have hlen:x.cells.size=i.size:=by have:=hcv.length; simp only [aC9] at this; omega
      obtain⟨w',h1,h2,h3⟩:=oN (P:=P) r hl hs hcv (hcv.ones hc.2);refine⟨w',?_,h2,h3⟩;simp [Instr.storeAt,Instr.sureAddr,storeVar,dS (htt t i hi),hlen,h1]
     grind
    grind
   grind
  grind
theorem foldl_set: ∀(vs:List Value) (off k:Nat) (arr:Array Value),off+k+vs.length<=arr.size->
 ((vs.zipIdx k).foldl (fun cs p=>cs.setIfInBounds (off+p.2) p.1) arr).size=arr.size/\
 ∀i,((vs.zipIdx k).foldl (fun cs p=>cs.setIfInBounds (off+p.2) p.1) arr)[i]?=if off+k<=i/\i<off+k+vs.length then vs[i-(off+k)]? else arr[i]?
 |[],off,k,arr,_=> ⟨rfl,fun i=>by rw [aCI (by simp)]; rfl⟩
 |v::vs,off,k,arr,h=>by
  simp only [List.zipIdx_cons,List.foldl_cons];obtain⟨h1,h2⟩:=foldl_set vs off (k+1) (arr.setIfInBounds (off+k) v) (by simp at h ⊢; omega)
  grind
def Az (E:En) (h:Array Obj):List (Nat×AV)->List (Nat×Value)->Prop
 |[],ps=>ps= []
 |(i,v)::xs,ps=> ∃x r,ps=(i,x)::r/\VR E h v x/\Az E h xs r
theorem vG {place:Nat->Option (Nat×Nat)} {h:Array Obj}: ∀{parts:List (Nat×AV)} {cs cs':List AV} {us:Array Value} {ps:List (Nat×Value)},
 Aa place cs parts=some cs'->bC E h cs us.toList->Az E h parts ps->(∀u∈us.toList,u.oneCell'=true)->
 ∃us':Array Value,Instr.fill place us ps=some us'/\bC E h cs' us'.toList/\∀u∈us'.toList,u.oneCell'=true
 |[],cs,cs',us,ps,h1,h2,h3,h4=>by simp only [Az] at h3;subst h3;simp [Aa] at h1;subst h1;exact⟨us,rfl,h2,h4⟩
 |(i,v)::parts,cs,cs',us,ps,h1,h2,h3,h4=>by
  simp only [Az] at h3;obtain⟨x,ps',rfl,hx,hb⟩:=h3;simp only [Aa] at h1;split at h1
  ·simp at h1
  ·rename_i off size hp;split at h1
   ·rename_i hc;simp only [aCM,decide_eq_true_eq] at hc;split at h1
    ·rename_i cs2 hs;have hcv:=hx.cells hc.2;have hlen:=hcv.length;simp only [aC9] at hlen;obtain⟨e1,e2,us',e3,e4⟩:=CW hs h2 hcv;have hul:=h2.length;simp only [aC9] at hul;have hfold:=foldl_set x.cells.toList off 0 us (by simp; omega)
     have heq:(x.cells.zipIdx.foldl (fun cs (c,j)=>cs.setIfInBounds (off+j) c) us).toList=us':=by apply aEk;intro k;rw [e4 k];have h5:=hfold.2 k;simp only [aDf,aC9] at h5;rw [aDk,<- Array.foldl_toList,Array.toList_zipIdx];rw [h5];simp only [aC9,aDk]
     have h6: ∀u∈(x.cells.zipIdx.foldl (fun cs (c,j)=>cs.setIfInBounds (off+j) c) us).toList,u.oneCell'=true:=by
      rw [heq];intro u hu;rw [aD4] at hu;obtain⟨k,hk⟩:=hu;rw [e4 k] at hk;split at hk
      ·exact hcv.ones hc.2 u (aDi hk)
      ·exact h4 u (aDi hk)
     obtain⟨us2,g1,g2,g3⟩:=vG (us:=x.cells.zipIdx.foldl (fun cs (c,j)=>cs.setIfInBounds (off+j) c) us) h1 (by rw [heq]; exact e3) hb h6;refine⟨us2,?_,g2,g3⟩;simp only [Instr.fill,hp];rw [aCI]
     ·exact g1
     ·simp only [aDM,decide_eq_true_eq,not_or];constructor
      ·omega
      ·omega
    ·simp at h1
   ·simp at h1
theorem ER {s:St} {a:Act} (sr:SR E w.heap s.slots a): ∀{xs:List (Nat×Operand)} {ps:List (Nat×AV)},Dy s xs=some ps->Az E w.heap ps (xs.map fun p=>(p.1,a.eval p.2))
 |[],ps,h=>by simp [Dy] at h; subst h; simp [Az]
 |(i,x)::xs,ps,h=>by
  simp only [Dy] at h;split at h
  ·grind
  ·rename_i b hb;split at h
   ·grind
   ·rename_i bs hbs;simp at h;subst h;simp only [aCQ,Az];exact⟨_,_,rfl,iG sr hb,ER sr hbs⟩
theorem bW {α:Type}: ∀(l:List α) (i:Nat),fF l i=l[i]?
 |[],i=>by cases i<;>rfl
 |x::xs,0=>rfl
 |x::xs,i+1=>by simp [fF,bW xs i]
theorem LV {α β:Type} {f:α->Option β}: ∀{l:List α} {r:List β},l.mapM f=some r->∀i:Nat,r[i]?=(l[i]?).bind f
 |[],r,h,i=>by simp at h; subst h; simp
 |x::xs,r,h,i=>by
  simp only [aD6,aEA,aEl] at h;obtain⟨y,h1,ys,h2,h3⟩:=h;simp only [pure,aCJ] at h3;subst h3
  cases i with
  |zero=>simp [h1]
  |succ i=>simpa using LV h2 i
theorem Zx {α β:Type} {f:α->Option β}: ∀{l:List α} {r:List β},r.length=l.length->(∀i:Nat,r[i]?=(l[i]?).bind f)->l.mapM f=some r
 |[],r,h,_=>by simp at h; subst h; simp
 |x::xs,[],h,_=>by simp at h
 |x::xs,y::ys,h,h2=>by have h0:=h2 0;simp at h0;have ih:=Zx (l:=xs) (r:=ys) (by simpa using h) (fun i=>by simpa using h2 (i+1));simp [aD6,h0.symm,ih]
theorem mapM_length {α β:Type} {f:α->Option β}: ∀{l:List α} {r:List β},l.mapM f=some r->r.length=l.length
 |[],r,h=>by simp at h; subst h; simp
 |x::xs,r,h=>by simp only [aD6,aEA,aEl] at h;obtain⟨y,h1,ys,h2,h3⟩:=h;simp only [pure,aCJ] at h3;subst h3;simp [mapM_length h2]
theorem YB {tt:TT} (htt:dU P tt) {t:Nat} {parts:List (Nat×AV)} {ps:Array (Nat×Value)} {v:AV} (hp:Az E w.heap parts ps.toList) (h:Uj tt t parts=some v) :
 ∃x,(Instr.build t ps).run P w= .ok x w/\VR E w.heap v x:=by
 unfold Uj at h;split at h
 ·rename_i i hi;have hti:=htt t i hi;obtain⟨inf,z,g1,g2,g3,g4,g5⟩:=Dt hti;have hz:=fC (E:=E) (h:=w.heap) g5;split at h
  ·rename_i fs hk;rw [aCX] at h;obtain⟨cs',h1,rfl⟩:=h;obtain⟨us',e1,e2,e3⟩:=vG h1 hz.1 hp hz.2;obtain⟨DV,hu,hm⟩:=Ej hti hk
   have hb:P.built t ps.toList=some us':=by
    unfold Program.built
    have hm2:(DV.toList.mapM fun f=>(P.info? f.type).map fun i=>(f.offset,i.size))=some (fs.map fun x=>(x.1,x.2.2)):=by
     refine Zx (by simp [mapM_length hm]) fun i=>?_;have:=LV hm i;rw [aDd,this]
     cases DV.toList[i]? with
     |none=>rfl
     |some f=>simp only [Option.bind_some,Option.map_map]; rfl
    simp only [g1,hu,g4,hm2];simp_all [e1,bW]
   exact⟨_,run_build w t ps us' hb,by simp only [VR]; exact⟨us'.toList,by simp,e2⟩⟩
  ·rename_i n e hk;split at h
   ·rename_i s hs;rw [aCX] at h;obtain⟨cs',h1,rfl⟩:=h;obtain⟨us',e1,e2,e3⟩:=vG h1 hz.1 hp hz.2;simp only [jS,aCX] at hs;obtain⟨ie,hie,rfl⟩:=hs;obtain⟨inf',z',f1,f2,f3,f4,f5⟩:=Dt (htt e ie hie)
    have hb:P.built t ps.toList=some us':=by unfold Program.built;simp only [g1,xH hti hk,g4,f1];simp_all
    exact⟨_,run_build w t ps us' hb,by simp only [VR]; exact⟨us'.toList,by simp,e2⟩⟩
   grind
  grind
 grind
theorem Jf {α:Type} (l:List α) (hl:l≠[]): ∀(n i:Nat),i<n*l.length->(repeatL l n)[i]?=l[i % l.length]?
 |0,i,h=>by simp at h
 |n+1,i,h=>by
  have hpos:0<l.length:=aDB.2 hl;simp only [repeatL];rw [aEB];split
  ·rename_i h2; rw [aDy h2]
  ·rename_i h2;rw [Jf l hl n (i-l.length) (by rw [aDs] at h; omega)];congr 1;rw [<- Nat.mod_eq_sub_mod (by omega)]
theorem repeatL_length {α:Type} (l:List α): ∀n,(repeatL l n).length=n*l.length
 |0=>by simp [repeatL]
 |n+1=>by simp [repeatL,repeatL_length l n,aDs]; omega
theorem pI {h:Array Obj} {cs:List AV} {us:List Value} (hv:bC E h cs us): ∀n,bC E h (repeatL cs n) (repeatL us n)
 |0=>by simp [repeatL,bC]
 |n+1=>hv.append (pI hv n)
theorem pG {α:Type} {l:List α} {x:α}: ∀{n},x∈repeatL l n->x∈l
 |0,h=>by simp [repeatL] at h
 |n+1,h=>by
  simp only [repeatL,aDp] at h;rcases h with h|h
  ·exact h
  ·exact pG h
theorem A8 (z:Array Value) (hz:z.toList≠[]) (n:Nat):((Array.range (n*z.size)).map (z[·% z.size]!)).toList=repeatL z.toList n:=by
 apply aEk;intro i
 grind [Jf,repeatL_length]
theorem JH [Glob] {tt:TT} (htt:dU P tt) {H H':Hp} (r:aO E H w) {t len:Nat} {parts:List (Nat×AV)} {ps:Array (Nat×Value)} {v:AV} (hp:Az E w.heap parts ps.toList) (h:Ae tt t len parts H=some (v,H')) :
 ∃x w' E',(Instr.buildSlice t len ps).run P w= .ok x w'/\Stp E H w E' H' w'/\aO E' H' w'/\VR E' w'.heap v x:=by
 unfold Ae at h;split at h
 ·rename_i i hi;have hti:=htt t i hi;split at h
  ·rename_i e hk;split at h
   ·rename_i ie hie;have htie:=htt e ie hie;obtain⟨inf,z,g1,g2,g3,g4,g5⟩:=Dt htie;have hz:=fC (E:=E) (h:=w.heap) g5;split at h
    ·rename_i hb;split at h
     ·rename_i cs h1;simp only [aCJ,aCK] at h;obtain⟨rfl,rfl⟩:=h
      have hsz:len*ie.size<=2 ^ 24:=by have:len*ie.size<=1000*1000:=aEC hb.1 hb.2.1;omega
      have hzl:z.cells.size=ie.size:=by have:=hz.1.length; simp only [aC9] at this; omega
      have key: ∃us':Array Value,Instr.fill (fun i=>some (i*inf.size,inf.size)) ((Array.range (len*inf.size)).map ((if len*inf.size=0 then #[] else z.cells)[·% (if len*inf.size=0 then #[] else z.cells).size]!)) ps.toList=some us'/\bC E w.heap cs us'.toList/\∀u∈us'.toList,u.oneCell'=true:=by
       rw [g2];by_cases h0:len*ie.size=0
       ·rw [aCL h0,h0]
        have hrep:repeatL ie.zero len= []:=by
         grind [repeatL_length]
        refine vG h1 ?_ hp ?_
        all_goals grind [bC]
       ·rw [aCI h0]
        have hne:z.cells.toList≠[]:=by
         intro hx;have hx':z.cells.size=0:=by have:=congrArg List.length hx; simpa using this
         grind
        have hzz:=A8 z.cells hne len;rw [hzl] at hzz;refine vG h1 ?_ hp ?_
        all_goals grind [pI,pG]
      obtain⟨us',e1,e2,e3⟩:=key;refine⟨.slice (some ⟨w.heap.size,0,none⟩) len len,{ w with heap:=w.heap.push (.cells us' e) },E.ext H.fresh (w.heap.size,0) us'.size,?_,?_⟩
      ·by_cases h0:len*inf.size=0
       ·rw [aCL h0] at e1;rw [h0] at e1;have e0: ∀f:Nat->Value,(Array.range 0).map f= #[]:=by intro f; simp
        rw [e0] at e1;simp [Instr.buildSlice,run_underlying (fH hti hk),sizeOf,typeInfo,g1,h0,e0,e1,newRow]
       ·rw [aCI h0] at e1;have h24: ¬(2 ^ 24<len*inf.size):=by rw [g2]; omega
        simp only [Instr.buildSlice,Sem.run_bind,run_underlying (fH hti hk),Result.andThen_ok,sizeOf,typeInfo,zeroValue,run_program,g1,g4,Sem.run_pure,newRow,gt_iff_lt,h24,h0,if_false,Sem.run_ite];rw [e1];rfl
      ·obtain⟨s1,s2⟩:=kG r us' 0 0 e e2 e3 (fun i u hu=>by rw [<- aDk]; exact hu) (by omega) (w':={ w with heap:=w.heap.push (.cells us' e) }) rfl ⟨rfl,rfl,rfl⟩;refine⟨s1,s2,?_⟩;simp only [VR]
       grind [En.iP,eX,En.ext_θ_new]
     grind
    grind
   grind
  grind
 grind
theorem PO {E:En} {h:Array Obj} {v:AV} {u:Value} {n:Int} (hv:VR E h v u) (hl:mJ v=some n): ∃k,u= .int k n:=by
 unfold mJ at hl;split at hl
 ·simp only [aCJ] at hl;subst hl;simp only [VR,SE.den] at hv
  grind
 grind
theorem BQ [Glob] {tt:TT} (htt:dU P tt) {H H':Hp} (r:aO E H w) {t:Nat} {l c:AV} {lu cu:Value} {v:AV} (hl:VR E w.heap l lu) (hc:VR E w.heap c cu) (h:wM tt t l c H=some (v,H')) :
 ∃x w' E',(Instr.makeSlice t lu cu).run P w= .ok x w'/\Stp E H w E' H' w'/\aO E' H' w'/\VR E' w'.heap v x:=by
 unfold wM at h;split at h
 ·rename_i n hln;split at h
  ·rename_i m hcm;obtain⟨k1,rfl⟩:=PO hl hln;obtain⟨k2,rfl⟩:=PO hc hcm;split at h
   ·rename_i i hi;have hti:=htt t i hi;split at h
    ·rename_i e hk;split at h
     ·rename_i ie hie;have htie:=htt e ie hie;obtain⟨inf,z,g1,g2,g3,g4,g5⟩:=Dt htie;have hz:=fC (E:=E) (h:=w.heap) g5;split at h
      ·rename_i hb;obtain⟨b1,b2,b3,b4,b5⟩:=hb;simp only [aCJ,aCK] at h;obtain⟨rfl,rfl⟩:=h;have hzl:z.cells.size=ie.size:=by have:=hz.1.length; simp only [aC9] at this; omega
       have wn:IntKind.i64.wrap (Int.ofNat n)=Int.ofNat n:=by rw [<- oG]; simp only [AP]; rw [aCL (by constructor<;>simp<;>omega)]
       have wm:IntKind.i64.wrap (Int.ofNat m)=Int.ofNat m:=by rw [<- oG]; simp only [AP]; rw [aCL (by constructor<;>simp<;>omega)]
       have hbm:inf.bytes*m<=1000000000:=by rw [g3]; exact aEC b4 b2
       have ai: ∀(k:IntKind) (x:Int) (w:World),(asInt (Value.int k x)).run P w= .ok x w:=fun _ _ _=>rfl
       have key: ∃us':Array Value,((Array.range (m*inf.size)).map ((if m*inf.size=0 then #[] else z.cells)[·% (if m*inf.size=0 then #[] else z.cells).size]!))=us'/\bC E w.heap (repeatL ie.zero m) us'.toList/\∀u∈us'.toList,u.oneCell'=true:=by
        rw [g2];by_cases h0:m*ie.size=0
        ·grind [repeatL,repeatL_length,bC]
        ·rw [aCI h0]
         have hne:z.cells.toList≠[]:=by
          intro hx;have hx':z.cells.size=0:=by have:=congrArg List.length hx; simpa using this
          grind
         grind [A8,pI,pG]
       obtain⟨us',e1,e2,e3⟩:=key;refine⟨.slice (some ⟨w.heap.size,0,none⟩) n m,{ w with heap:=w.heap.push (.cells us' e) },E.ext H.fresh (w.heap.size,0) us'.size,?_,?_⟩
       ·have t1: ¬(Int.ofNat m<0):=by simp
        have t2: ¬((inf.bytes:Int)*Int.ofNat m > 2 ^ 48):=by
         grind
        have t3: ¬(Int.ofNat n<0):=by simp
        have t4: ¬(Int.ofNat n > Int.ofNat m):=by simp; omega
        have t5:(askRoom (m*inf.bytes)).run P w= .ok () w:=by simp_all
        have t6:(Int.ofNat m).toNat=m:=rfl;have t7:(Int.ofNat n).toNat=n:=rfl;by_cases h0:m*inf.size=0
        ·rw [aCL h0] at e1;rw [h0] at e1;simp only [Instr.makeSlice,Sem.run_bind,run_underlying (fH hti hk),Result.andThen_ok,ai,sizeOf,typeInfo,zeroValue,run_program,g1,g4,Sem.run_pure,newRow,Sem.run_ite,wn,wm,t1,t2,t3,t4,t6,t7,h0,decide_false,aEm,aCU,if_false,if_true];simp_all
        ·rw [aCI h0] at e1;simp only [Instr.makeSlice,Sem.run_bind,run_underlying (fH hti hk),Result.andThen_ok,ai,sizeOf,typeInfo,zeroValue,run_program,g1,g4,Sem.run_pure,newRow,Sem.run_ite,wn,wm,t1,t2,t3,t4,t6,t7,h0,decide_false,aEm,aCU,if_false];simp_all
       ·obtain⟨s1,s2⟩:=kG r us' 0 0 e e2 e3 (fun i u hu=>by rw [<- aDk]; exact hu) (by omega) (w':={ w with heap:=w.heap.push (.cells us' e) }) rfl ⟨rfl,rfl,rfl⟩;refine⟨s1,s2,?_⟩;simp only [VR];exact⟨En.iP _ _ _ _,⟨w.heap.size,0,none⟩,m,rfl,b1,by simp [eX,En.ext_θ_new]⟩
      grind
     grind
    grind
   grind
  grind
 grind
end
section
variable {P:Program} {E:En} {w:World}
theorem Vh {i:TI} {t:Nat} (hti:qN P t i) {fs:List (Nat×Nat×Nat)} (hk:i.kind= .struct fs) {f off ft sz:Nat} (h:fF fs f=some (off,ft,sz)) :
 ∃(DV:Array Field) (fd:Field) (inf:TypeInfo),P.underlying t=some (.struct DV)/\DV[f]?=some fd/\fd.offset=off/\fd.type=ft/\P.info? ft=some inf/\inf.size=sz:=by
 obtain⟨DV,hu,hm⟩:=Ej hti hk;have h1:=LV hm f;rw [<- bW,h,aDk] at h1
 cases hf:DV[f]? with
 |none=>rw [hf] at h1; simp at h1
 |some fd=>
  rw [hf] at h1;simp only [Option.bind_some] at h1
  cases hi:P.info? fd.type with
  |none=>rw [hi] at h1; simp at h1
  |some inf=>
   grind
theorem O8 {x v:AV} {u:Value} {off:Nat} (hx:VR E w.heap x u) (h:Zv off x=some v) :
 ∃b o,u= .pointer (some ⟨b,o,none⟩)/\VR E w.heap v (.pointer (some ⟨b,o+off,none⟩)):=by
 unfold Zv at h;cases x<;>simp only [aCJ,reduceCtorEq,aCX] at h
 case ptr id o=>
  subst h;simp only [VR] at hx ⊢;obtain⟨rfl,hid⟩:=hx;exact⟨_,_,rfl,by rw [aDl],hid⟩
 case pX id es i o=>
  subst h;simp only [VR] at hx ⊢;obtain⟨hid,k,h1,rfl⟩:=hx;exact⟨_,_,rfl,hid,k,h1,by rw [aDl,aDl]⟩
 case qX cs=>
  obtain⟨l,h1,rfl⟩:=h;simp only [VR] at hx ⊢;obtain⟨b,o,us,rfl,h2,h3,h4,h5⟩:=hx;exact⟨b,o,rfl,b,o+off,us.drop off,rfl,h2,(h3.eF h1).1,h4.drop off,fun u hu=>h5 u (aDh hu)⟩
theorem Np {tt:TT} (htt:dU P tt) {t f:Nat} {x v:AV} {u:Value} (hx:VR E w.heap x u) (h:BU tt t x f=some v) :
 ∃r,(Instr.fieldAt t u f).run P w= .ok r w/\VR E w.heap v r:=by
 unfold BU at h;split at h
 ·rename_i i hi;split at h
  ·rename_i fs hk;split at h
   ·rename_i off ft sz hn;obtain⟨DV,fd,inf,hu,hf,h1,h2,h3,h4⟩:=Vh (htt t i hi) hk hn;split at h
    ·grind
    ·rename_i hsz;obtain⟨b,o,rfl,hv⟩:=O8 hx h;refine⟨_,?_,hv⟩;have hne: ¬inf.size=0:=by rw [h4]; exact hsz
     simp [Instr.fieldAt,run_underlying hu,hf,Instr.sureAddr,fieldPlace,sizeOf,typeInfo,h2,h3,hne,fE,h1]
   grind
  grind
 grind
theorem Zo {i:TI} {t:Nat} (hti:qN P t i) {cs l:List AV} {us:List Value} {off:Nat} {v:AV} (hv:bC E w.heap cs us) (hd:eF off cs=some l)
 (h:partOf i l=some v) :
 ∃r,(part t us.toArray off).run P w= .ok r w/\VR E w.heap v r:=by
 obtain⟨h1,h2,h3⟩:=hv.eF hd;have hlen:=hv.length;unfold partOf at h;split at h
 ·rename_i hagg;rw [aCX] at h;obtain⟨l',h4,rfl⟩:=h;obtain⟨h5,h6⟩:=h1.jR h4;refine⟨.agg (us.toArray.extract off (off+i.size)),?_,?_⟩
  ·simp [part,uO hti,hagg,dS hti]
  ·simp only [VR]
   grind
 ·rename_i hagg;split at h
  ·rename_i x l';simp at h;subst h;rw [aT] at h1;obtain⟨u,vs,he,h5,_⟩:=h1;refine⟨u,?_,h5⟩
   have hg:us[off]?=some u:=by
    have:=congrArg (·[0]?) he
    grind
   simp [part,uO hti,hagg,hg]
  grind
theorem Yu {tt:TT} (htt:dU P tt) {t f:Nat} {x v:AV} {u:Value} (hx:VR E w.heap x u) (h:Uc tt t x f=some v) :
 ∃r,(Instr.field t u f).run P w= .ok r w/\VR E w.heap v r:=by
 unfold Uc at h;split at h
 ·rename_i i hi;split at h
  ·rename_i fs hk;split at h
   ·rename_i off ft sz hn;obtain⟨DV,fd,inf,hu,hf,h1,h2,h3,h4⟩:=Vh (htt t i hi) hk hn;split at h
    ·rename_i fi cs hfi;split at h
     ·rename_i l hl;simp only [VR] at hx;obtain⟨us,rfl,hv⟩:=hx;obtain⟨r,e1,e2⟩:=Zo (w:=w) (htt ft fi hfi) hv hl h;refine⟨r,?_,e2⟩;simp [Instr.field,run_underlying hu,hf,asAgg,h1,h2,e1]
     grind
    grind
   grind
  grind
 grind
theorem Iq {x:AV} {u:Value} {n:Int} (hx:VR E w.heap x u) (h:mJ x=some n): ∃k,u= .int k n:=by
 cases x<;>simp [mJ] at h;rename_i k e;cases e<;>simp at h;subst h;simp only [VR,SE.den] at hx
 grind
theorem vH {tt:TT} (htt:dU P tt) {t:Nat} {x ix v:AV} {u ui:Value} (hx:VR E w.heap x u) (hix:VR E w.heap ix ui) (h:sJ tt t x ix=some v) :
 ∃r,(Instr.indexAt t u ui).run P w= .ok r w/\VR E w.heap v r:=by
 unfold sJ at h;split at h
 ·rename_i i hi;obtain⟨k,rfl⟩:=Iq hix hi;split at h
  ·rename_i ti hti;have htok:=htt t ti hti;split at h
   ·rename_i n e hk;split at h
    ·rename_i hlt;split at h
     ·rename_i s hs;simp only [jS,aCX] at hs;obtain⟨ie,hie,rfl⟩:=hs;obtain⟨b,o,rfl,hv⟩:=O8 hx h;refine⟨_,?_,hv⟩;have hu:=xH htok hk;simp [Instr.indexAt,asIntOf,run_underlying hu,Instr.sureAddr,dS (htt e ie hie),hlt,fE]
     grind
    grind
   ·rename_i e hk;have hu:=fH htok hk;split at h
    ·rename_i s hs;simp only [jS,aCX] at hs;obtain⟨ie,hie,rfl⟩:=hs;split at h
     ·rename_i id o len c;split at h
      ·rename_i hlt;simp at h;subst h;simp only [VR] at hx;obtain⟨hid,a,cap,rfl,hcap,hc⟩:=hx
       have ha:a=⟨(E.θ id).1,(E.θ id).2+o,none⟩:=by
        cases c with
        |exact c=>
         simp only [eX] at hc
         grind
        |rest es=>
         simp only [eX] at hc
         grind
       subst ha;refine⟨.pointer (some ⟨(E.θ id).1,(E.θ id).2+o+i*ie.size,none⟩),?_,by simp only [VR]; exact⟨by rw [aDl],hid⟩⟩;simp [Instr.indexAt,asIntOf,run_underlying hu,dS (htt e ie hie),hlt,fE]
      grind
     ·rename_i cs n full;split at h
      ·rename_i hlt;rw [aCX] at h;obtain⟨l,h1,rfl⟩:=h;simp only [VR] at hx;obtain⟨b,o,cap,us,rfl,h2,h3,h4,h5,h6,h7⟩:=hx;refine⟨.pointer (some ⟨b,o+i*ie.size,none⟩),?_,?_⟩
       ·simp [Instr.indexAt,asIntOf,run_underlying hu,dS (htt e ie hie),hlt,fE]
       ·simp only [VR];exact⟨b,_,us.drop (i*ie.size),rfl,h4,(h5.eF h1).1,h6.drop _,fun u hu=>h7 u (aDh hu)⟩
      grind
     grind
    grind
   grind
  grind
 grind
theorem KZ (s:List Nat) (i:Nat):(bU s)[i]?=(s[i]?).map UInt8.ofNat:=by have h1:(bU s)[i]?=(bU s).data[i]?:=rfl;rw [h1];simp [bU]
theorem ES {tt:TT} (htt:dU P tt) {t:Nat} {x ix v:AV} {u ui:Value} (hx:VR E w.heap x u) (hix:VR E w.heap ix ui) (h:GH tt t x ix=some v) :
 ∃r,(Instr.index t u ui).run P w= .ok r w/\VR E w.heap v r:=by
 unfold GH at h;split at h
 ·rename_i i hi;obtain⟨k,rfl⟩:=Iq hix hi;split at h
  ·rename_i ti hti;have htok:=htt t ti hti;split at h
   ·rename_i s hk;rw [aCX] at h;obtain⟨b,hb,rfl⟩:=h;simp only [VR] at hx;obtain⟨rfl,hlt⟩:=hx;rw [bW] at hb;have hg:(bU s)[i]?=some (UInt8.ofNat b):=by rw [KZ,hb]; rfl
    have h256:=hlt b (aDi hb);refine⟨_,by simp [Instr.index,asIntOf,run_underlying (gG htok hk),hg]; rfl,?_⟩;simp only [VR,SE.den]
    grind
   ·rename_i n e cs hk;split at h
    ·rename_i hlt;split at h
     ·rename_i ie hie;split at h
      ·rename_i l hl;simp only [VR] at hx;obtain⟨us,rfl,hv⟩:=hx;obtain⟨r,e1,e2⟩:=Zo (w:=w) (htt e ie hie) hv hl h;refine⟨r,?_,e2⟩;simp [Instr.index,asIntOf,run_underlying (xH htok hk),hlt,dS (htt e ie hie),e1]
      grind
     grind
    grind
   grind
  grind
 grind
end
section
variable {P:Program} {E:En} {w:World}
def iK (E:En) (h:Array Obj):Option AV->Option Value->Prop
 |none,o=>o=none
 |some x,o=> ∃u,o=some u/\VR E h x u
theorem fQ {s:St} {a:Act} (sr:SR E w.heap s.slots a) {x:Option Operand} {v:Option AV} (h:QL s x=some v):iK E w.heap v (x.map a.eval):=by
 cases x with
 |none=>simp [QL] at h; subst h; simp [iK]
 |some x=> simp only [QL,aCX] at h;obtain⟨b,h1,rfl⟩:=h;exact⟨_,rfl,iG sr h1⟩
theorem G8 {x:AV} {u:Value} {d y k:Nat} (hx:VR E w.heap x u) (h:bnd (some x) d y=some k) {y':Nat} (hy:y<=y') (code:BoundsCode) :
 (Instr.sliceBound u y' code).run P w= .ok k w/\k<=y:=by
 unfold bnd at h;simp only at h;split at h
 ·rename_i i hi;obtain⟨kk,rfl⟩:=Iq hx hi;split at h
  ·rename_i hle;simp at h;subst h;refine⟨?_,hle⟩;have:((i:Int)<=(y':Int)):=by omega
   simp [Instr.sliceBound,asIntOf];omega
  grind
 grind
theorem G9 {d y k:Nat} (h:bnd none d y=some k):k=d/\d<=y:=by
 grind [bnd]
theorem gU {isSlice:Bool} {len cap m0 h0:Nat} {lo hi mx:Option AV} {lo' hi' mx':Option Value} (hlo:iK E w.heap lo lo') (hhi:iK E w.heap hi hi') (hmx:iK E w.heap mx mx')
 (hmh:mx.isSome=true->hi.isSome=true) {m h l d:Nat}
 (hm:(mx=none/\m=cap/\m0<=cap)\/(∃x,mx=some x/\bnd mx d m0=some m/\m0<=cap))
 (hh:bnd hi len h0=some h) (hh0:(mx=none->h0<=cap)/\(mx≠none->h0=m)) (hl:bnd lo 0 h=some l) :
 (Instr.sliceBounds isSlice len cap lo' hi' mx').run P w= .ok (l,h,m) w/\l<=h:=by
 have key: ∀(c:BoundsCode) (v:AV) (u:Value),lo=some v->VR E w.heap v u->(Instr.sliceBound u h c).run P w= .ok l w/\l<=h:=by intro c v u hv hu;subst hv;exact G8 hu hl (aCN _) c
 have aCw:lo=none->l=0:=fun hv=>by subst hv; exact (G9 hl).1
 unfold Instr.sliceBounds;rcases hm with ⟨rfl,rfl,hm0⟩|⟨x,rfl,hm1,hm0⟩
 ·simp only [iK] at hmx;subst hmx;have hb:=hh0.1 rfl
  cases hi with
  |none=>
   simp only [iK] at hhi;subst hhi;obtain⟨rfl,_⟩:=G9 hh
   cases lo with
   |none=> simp only [iK] at hlo;simp_all
   |some v=> obtain⟨u,rfl,hu⟩:=hlo;obtain⟨k1,k2⟩:=key .sliceB v u rfl hu;simp_all
  |some y=>
   obtain⟨uy,rfl,huy⟩:=hhi;have h1:=fun c=>(G8 (P:=P) huy hh hb c).1
   cases lo with
   |none=> simp only [iK] at hlo;simp_all
   |some v=> obtain⟨u,rfl,hu⟩:=hlo;obtain⟨k1,k2⟩:=key .sliceB v u rfl hu;simp_all
 ·obtain⟨ux,rfl,hux⟩:=hmx;have h2:=fun c=>(G8 (P:=P) hux hm1 hm0 c).1;have hb:=hh0.2 (by simp);subst hb
  cases hi with
  |none=>simp at hmh
  |some y=>
   obtain⟨uy,rfl,huy⟩:=hhi;have h1:=fun c=>(G8 (P:=P) huy hh (aCN _) c).1
   cases lo with
   |none=> simp only [iK] at hlo;simp_all
   |some v=> obtain⟨u,rfl,hu⟩:=hlo;obtain⟨k1,k2⟩:=key .slice3C v u rfl hu;simp_all
theorem yT (s:List Nat) (l h:Nat):(bU s).extract l h=bU ((s.take h).drop l):=by apply ByteArray.ext;apply Array.ext';rw [Lib.extract_data];simp [bU,aED,aEE,List.drop_take]
theorem vN {id o len cap l h m es:Nat} {a:Addr} {c c':WW} (hc:eX E id o len a cap c) (hlen:len<=cap) (hlh:l<=h) (hhm:h<=m) (hmc:m<=cap)
 (hcc:(∃k,c= .exact k/\c'= .exact (m-l))\/(c= .rest es/\c'= .exact (m-l))\/(c= .rest es/\c'= .rest es/\m=cap)) (s:Nat) (hes:c'= .rest es->es=s) :
 eX E id (o+l*s) (h-l) (if m=l then a else a.add (l*s)) (m-l) c':=by
 rcases hcc with ⟨k,rfl,rfl⟩|⟨rfl,rfl⟩|⟨rfl,rfl,rfl⟩
 ·simp only [eX] at *;refine⟨trivial,?_⟩;by_cases hml:m=l
  ·grind
  ·left
   grind [fE]
 ·simp only [eX] at *;refine⟨trivial,?_⟩;by_cases hml:m=l
  ·grind
  ·left
   grind [fE]
 ·simp only [eX] at *;obtain rfl:=hes trivial;by_cases hml:m=l
  ·grind
  ·left;rw [aCI hml];rcases hc with ha|ha
   ·refine⟨by rw [ha.1,fE,aDl],?_⟩;rw [<- ha.2,aDl,<- aDs]
    grind
   ·omega
theorem nV {x:Option AV} {d y k:Nat} (h:bnd x d y=some k):k<=y:=by
 unfold bnd at h;split at h
 ·grind
 ·split at h
  all_goals grind
theorem V4 [Glob] {tt:TT} (htt:dU P tt) {H:Hp} (r:aO E H w) {t:Nat} {x v:AV} {u:Value} {lo hi mx:Option AV} {lo' hi' mx':Option Value} (hx:VR E w.heap x u)
 (hlo:iK E w.heap lo lo') (hhi:iK E w.heap hi hi') (hmx:iK E w.heap mx mx') (h:Nh tt t x lo hi mx H=some v) :
 ∃r,(Instr.sliceAt t u lo' hi' mx').run P w= .ok r w/\VR E w.heap v r:=by
 unfold Nh at h;split at h
 ·grind
 ·split at h
  ·grind
  ·rename_i ti hti;have htok:=htt t ti hti;split at h
   ·rename_i e hk;have hu:=fH htok hk;split at h
    ·grind
    ·rename_i s hs;simp only [jS,aCX] at hs;obtain⟨ie,hie,rfl⟩:=hs;have hsz:=dS (w:=w) (htt e ie hie);split at h
     ·rename_i id o len es;split at h
      ·rename_i hes;split at h
       ·rename_i cs ty hl;split at h
        ·grind
        ·rename_i b Ht;split at h
         ·grind
         ·rename_i l hbl;simp at h;subst h;obtain⟨hes,hpos⟩:=hes;subst hes;simp only [VR] at hx;obtain⟨hid,a,cap,rfl,hlen,hc⟩:=hx;have hlive:=(r.live id _ hl).2.1;simp only [OR] at hlive;obtain⟨arr,lo1,hi1,us,q1,q2,q3,q4,q5,q6,q7⟩:=hlive
          have hcap:(cs.length-o) / ie.size<=cap:=by
           simp only [eX] at hc;rcases hc with hc|hc
           ·have:cs.length-o<=cap*ie.size:=by omega
            exact Nat.div_le_of_le_mul (by rw [aEy]; exact this)
           simp_all
          obtain⟨e1,e2⟩:=gU (P:=P) (w:=w) (isSlice:=true) (len:=len) (cap:=cap) (m0:=cap) (d:=0) (m:=cap) hlo hhi hmx (by simp) (.inl ⟨rfl,rfl,aCN _⟩) Ht ⟨fun _=>hcap,by simp⟩ hbl;have avE:=nV Ht;refine⟨.slice (some (if cap=l then a else a.add (l*ie.size))) (b-l) (cap-l),?_,?_⟩
          ·simp [Instr.sliceAt,run_underlying hu,Instr.slice,e1,hsz]<;>split<;>rfl
          ·simp only [VR];exact⟨hid,_,_,rfl,by omega,vN (es:=ie.size) hc hlen e2 (by omega) (aCN _) (.inr (.inr ⟨rfl,rfl,rfl⟩)) _ (fun _=>rfl)⟩
       grind
      grind
     grind
   grind
theorem Yj {tt:TT} (htt:dU P tt) {t:Nat} {x v:AV} {u:Value} {lo hi mx:Option AV} {lo' hi' mx':Option Value} (hx:VR E w.heap x u)
 (hlo:iK E w.heap lo lo') (hhi:iK E w.heap hi hi') (hmx:iK E w.heap mx mx') (h:TS tt t x lo hi mx=some v) :
 ∃r,(Instr.sliceAt t u lo' hi' mx').run P w= .ok r w/\VR E w.heap v r:=by
 unfold TS at h;split at h
 ·grind
 ·rename_i ti hti;have htok:=htt t ti hti;split at h
  ·rename_i hk;have hu:=gG htok hk;split at h
   ·rename_i s;simp only [iK] at hmx;subst hmx;split at h
    ·rename_i b hb;split at h
     ·rename_i l hl;simp at h;subst h;simp only [VR] at hx;obtain⟨rfl,hlt⟩:=hx;obtain⟨e1,e2⟩:=gU (P:=P) (w:=w) (isSlice:=false) (len:=s.length) (cap:=s.length) (m0:=s.length) (d:=0) hlo hhi (mx:=none) (mx':=none) rfl (by simp) (.inl ⟨rfl,rfl,aCN _⟩) hb ⟨fun _=>aCN _,by simp⟩ hl;refine⟨.string ((bU s).extract l b),?_,?_⟩
      ·rw [<- mX] at e1;simp [Instr.sliceAt,run_underlying hu,Instr.slice,e1]
      ·simp only [VR,yT]
       grind
     grind
    grind
   grind
  ·rename_i e hk;have hu:=fH htok hk;split at h
   ·grind
   ·rename_i s hs;simp only [jS,aCX] at hs;obtain⟨ie,hie,rfl⟩:=hs;have hsz:=fun w'=>dS (htt e ie hie) w';split at h
    ·split at h
     ·grind
     ·rename_i hmh;split at h
      ·rename_i kh kl km Ht hbl hbm;simp at h;subst h;simp only [VR] at hx;subst hx;obtain rfl:kh=0:=by have:=nV Ht; omega
       obtain rfl:kl=0:=by have:=nV hbl; omega
       obtain rfl:km=0:=by have:=nV hbm; omega
       have hm:(mx=none/\0=0/\0<=0)\/(∃x,mx=some x/\bnd mx 0 0=some 0/\0<=0):=by
        cases mx with
        |none=>exact .inl ⟨rfl,rfl,aCN _⟩
        |some y=>exact .inr ⟨y,rfl,hbm,aCN _⟩
       obtain⟨e1,e2⟩:=gU (P:=P) (w:=w) (isSlice:=true) (len:=0) (cap:=0) (m0:=0) (d:=0) (m:=0) hlo hhi hmx (by cases mx<;>cases hi<;>simp_all) hm Ht ⟨fun _=>aCN _,fun _=>rfl⟩ hbl;refine⟨.slice none 0 0,?_,by simp only [VR]⟩;simp [Instr.sliceAt,run_underlying hu,Instr.slice,e1,hsz]
      grind
    ·rename_i id o len c;split at h
     ·grind
     ·rename_i hmh;split at h
      ·grind
      ·rename_i m hbm;split at h
       ·grind
       ·rename_i b Ht;split at h
        ·grind
        ·rename_i l hbl;simp at h;subst h;simp only [VR] at hx;obtain⟨hid,a,cap,rfl,hlen,hc⟩:=hx;have hcap:cap=c:=by simp only [eX] at hc; exact hc.1
         subst hcap
         have hm:(mx=none/\m=cap/\cap<=cap)\/(∃x,mx=some x/\bnd mx cap cap=some m/\cap<=cap):=by
          cases mx with
          |none=>exact .inl ⟨rfl,(G9 hbm).1,aCN _⟩
          |some y=>exact .inr ⟨y,rfl,hbm,aCN _⟩
         obtain⟨e1,e2⟩:=gU (P:=P) (w:=w) (isSlice:=true) (len:=len) (cap:=cap) (m0:=cap) (d:=cap) (m:=m) hlo hhi hmx (by cases mx<;>cases hi<;>simp_all) hm Ht ⟨fun _=>nV hbm,fun _=>rfl⟩ hbl;refine⟨.slice (some (if m=l then a else a.add (l*ie.size))) (b-l) (m-l),?_,?_⟩
         ·simp [Instr.sliceAt,run_underlying hu,Instr.slice,e1,hsz]<;>split<;>rfl
         ·simp only [VR];exact⟨hid,_,_,rfl,by have:=nV Ht; omega,vN (es:=0) hc hlen e2 (nV Ht) (nV hbm) (.inl ⟨_,rfl,rfl⟩) _ (by simp)⟩
    ·rename_i id o len es;split at h
     ·split at h
      ·grind
      ·rename_i b Ht;split at h
       ·grind
       ·rename_i l hbl;split at h
        ·rename_i hes;simp at h;subst h;simp only [VR] at hx;obtain⟨hid,a,cap,rfl,hlen,hc⟩:=hx;obtain⟨e1,e2⟩:=gU (P:=P) (w:=w) (isSlice:=true) (len:=len) (cap:=cap) (m0:=cap) (d:=0) (m:=cap) hlo hhi hmx (by simp) (.inl ⟨rfl,rfl,aCN _⟩) Ht ⟨fun _=>hlen,by simp⟩ hbl;have avE:=nV Ht;refine⟨.slice (some (if cap=l then a else a.add (l*ie.size))) (b-l) (cap-l),?_,?_⟩
         ·simp [Instr.sliceAt,run_underlying hu,Instr.slice,e1,hsz]<;>split<;>rfl
         ·simp only [VR];exact⟨hid,_,_,rfl,by omega,vN (es:=es) hc hlen e2 (by omega) (aCN _) (.inr (.inr ⟨rfl,rfl,rfl⟩)) _ (fun _=>hes)⟩
        grind
     ·rename_i y;split at h
      ·grind
      ·grind
      ·rename_i b0 m hbm;split at h
       ·grind
       ·rename_i b Ht;split at h
        ·grind
        ·rename_i l hbl;simp at h;subst h;simp only [VR] at hx;obtain⟨hid,a,cap,rfl,hlen,hc⟩:=hx;obtain⟨e1,e2⟩:=gU (P:=P) (w:=w) (isSlice:=true) (len:=len) (cap:=cap) (m0:=len) (d:=0) (m:=m) hlo hhi hmx (by simp) (.inr ⟨y,rfl,hbm,hlen⟩) Ht ⟨by simp,fun _=>rfl⟩ hbl;have hb2:=nV Ht;have hm2:=nV hbm;refine⟨.slice (some (if m=l then a else a.add (l*ie.size))) (b-l) (m-l),?_,?_⟩
         ·simp [Instr.sliceAt,run_underlying hu,Instr.slice,e1,hsz]<;>split<;>rfl
         ·simp only [VR];exact⟨hid,_,_,rfl,by omega,vN (es:=es) hc hlen e2 hb2 (by omega) (.inr (.inl ⟨rfl,rfl⟩)) _ (by simp)⟩
    ·rename_i cs n full;split at h
     ·split at h
      ·grind
      ·rename_i b Ht;split at h
       ·grind
       ·rename_i l hbl;split at h
        ·grind
        ·rename_i d hd;split at h
         ·grind
         ·rename_i d' hd';simp at h;subst h;simp only [VR] at hx;obtain⟨bb,o,cap,us,rfl,hn,hfull,h4,h5,h6,h7⟩:=hx;obtain⟨e1,e2⟩:=gU (P:=P) (w:=w) (isSlice:=true) (len:=n) (cap:=cap) (m0:=cap) (d:=0) (m:=cap) hlo hhi hmx (by simp) (.inl ⟨rfl,rfl,aCN _⟩) Ht ⟨fun _=>hn,by simp⟩ hbl;have hb2:=nV Ht;obtain⟨g1,g2,g3⟩:=h5.eF hd;obtain⟨g4,g5⟩:=g1.jR hd';refine⟨.slice (some (if cap=l then⟨bb,o,none⟩ else (⟨bb,o,none⟩ : Addr).add (l*ie.size))) (b-l) (cap-l),?_,?_⟩
          ·simp [Instr.sliceAt,run_underlying hu,Instr.slice,e1,hsz]<;>split<;>rfl
          ·simp only [VR];by_cases hml:cap=l
           ·have h0:b-l=0:=by omega
            refine⟨bb,o,cap-l,(us.drop (l*ie.size)).take ((b-l)*ie.size),by rw [aCL hml],by omega,fun _=>by omega,h4,g4,?_,fun u hu=>h7 u (aDh (aDn hu))⟩;rw [h0,aDm];intro i u hu
            grind
           ·refine⟨bb,o+l*ie.size,cap-l,(us.drop (l*ie.size)).take ((b-l)*ie.size),by rw [aCI hml,fE],by omega,?_,h4,g4,(h6.drop _).take _,fun u hu=>h7 u (aDh (aDn hu))⟩;intro hf
            grind
     ·rename_i y;split at h
      ·grind
      ·grind
      ·rename_i b0 m hbm;split at h
       ·grind
       ·rename_i b Ht;split at h
        ·grind
        ·rename_i l hbl;split at h
         ·grind
         ·rename_i d hd;split at h
          ·grind
          ·rename_i d' hd';simp at h;subst h;simp only [VR] at hx;obtain⟨bb,o,cap,us,rfl,hn,hfull,h4,h5,h6,h7⟩:=hx;obtain⟨e1,e2⟩:=gU (P:=P) (w:=w) (isSlice:=true) (len:=n) (cap:=cap) (m0:=n) (d:=0) (m:=m) hlo hhi hmx (by simp) (.inr ⟨y,rfl,hbm,hn⟩) Ht ⟨by simp,fun _=>rfl⟩ hbl;have hb2:=nV Ht;obtain⟨g1,g2,g3⟩:=h5.eF hd;obtain⟨g4,g5⟩:=g1.jR hd';refine⟨.slice (some (if m=l then⟨bb,o,none⟩ else (⟨bb,o,none⟩ : Addr).add (l*ie.size))) (b-l) (m-l),?_,?_⟩
           ·simp [Instr.sliceAt,run_underlying hu,Instr.slice,e1,hsz]<;>split<;>rfl
           ·simp only [VR];by_cases hml:m=l
            ·have h0:b-l=0:=by omega
             refine⟨bb,o,m-l,(us.drop (l*ie.size)).take ((b-l)*ie.size),by rw [aCL hml],by omega,fun _=>by omega,h4,g4,?_,fun u hu=>h7 u (aDh (aDn hu))⟩;rw [h0,aDm];intro i u hu
             grind
            ·refine⟨bb,o+l*ie.size,m-l,(us.drop (l*ie.size)).take ((b-l)*ie.size),by rw [aCI hml,fE],by omega,?_,h4,g4,(h6.drop _).take _,fun u hu=>h7 u (aDh (aDn hu))⟩;intro hf
             grind
    grind
  ·rename_i n e hk;have hu:=xH htok hk;split at h
   ·grind
   ·rename_i s hs;simp only [jS,aCX] at hs;obtain⟨ie,hie,rfl⟩:=hs;have hsz:=fun w'=>dS (htt e ie hie) w';split at h
    ·rename_i id o;split at h
     ·grind
     ·rename_i hmh;split at h
      ·grind
      ·rename_i m hbm;split at h
       ·grind
       ·rename_i b Ht;split at h
        ·grind
        ·rename_i l hbl;simp at h;subst h;simp only [VR] at hx;obtain⟨rfl,hid⟩:=hx
         have hm:(mx=none/\m=n/\n<=n)\/(∃x,mx=some x/\bnd mx n n=some m/\n<=n):=by
          cases mx with
          |none=>exact .inl ⟨rfl,(G9 hbm).1,aCN _⟩
          |some y=>exact .inr ⟨y,rfl,hbm,aCN _⟩
         obtain⟨e1,e2⟩:=gU (P:=P) (w:=w) (isSlice:=false) (len:=n) (cap:=n) (m0:=n) (d:=n) (m:=m) hlo hhi hmx (by cases mx<;>cases hi<;>simp_all) hm Ht ⟨fun _=>nV hbm,fun _=>rfl⟩ hbl;refine⟨.slice (some (if m=l then⟨(E.θ id).1,(E.θ id).2+o,none⟩ else (⟨(E.θ id).1,(E.θ id).2+o,none⟩ : Addr).add (l*ie.size))) (b-l) (m-l),?_,?_⟩
         ·simp [Instr.sliceAt,run_underlying hu,Instr.sureAddr,e1,hsz]<;>split<;>rfl
         ·simp only [VR,eX];refine⟨hid,_,_,rfl,by have:=nV Ht; omega,rfl,?_⟩;by_cases hml:m=l
          ·grind
          ·left; rw [aCI hml,fE,aDl]
    grind
  grind
end
section
variable {P:Program} {E:En} {w:World}
theorem JA {h:Array Obj}: ∀{cs:List AV} {us:List Value} {l:List Nat},Ce cs=some l->bC E h cs us->us=(l.map UInt8.ofNat).map (fun b=>Value.int .u8 (b.toNat:Int))/\∀b∈l,b<256
 |[],us,l,h1,h2=>by
  simp [Ce] at h1;subst h1;rw [jI] at h2
  grind
 |x::cs,us,l,h1,h2=>by
  rw [aT] at h2;obtain⟨u,vs,rfl,h3,h4⟩:=h2;unfold Ce at h1;split at h1
  ·rename_i he; simp at he
  ·rename_i b xs he;simp only [List.cons.injEq] at he;obtain⟨rfl,rfl⟩:=he;split at h1
   ·rename_i hb;split at h1
    ·rename_i l' hl;simp at h1;subst h1;obtain⟨e1,e2⟩:=JA hl h4;simp only [VR,SE.den] at h3;refine⟨?_,?_⟩
     ·rw [h3,e1];simp [aDG,aDy hb]
     grind
    grind
   grind
  grind
theorem GK [Glob] {tt:TT} (htt:dU P tt) {H H':Hp} (r:aO E H w) {sT dT:Nat} {x v:AV} {u:Value} (hx:VR E w.heap x u) (h:uQ tt sT dT x H=some (v,H')) :
 ∃y w' E',(convert sT dT u).run P w= .ok y w'/\Stp E H w E' H' w'/\aO E' H' w'/\VR E' w'.heap v y:=by
 unfold uQ at h;split at h
 ·grind
 ·rename_i j hj;obtain⟨sd,hsd,hsk⟩:=yG (htt sT j hj);split at h
  ·rename_i i hi;have hti:=htt dT i hi;split at h
   ·rename_i k hk;have hd:=yS hti hk;split at h
    ·rename_i kk n;simp only [aCJ,aCK] at h;obtain⟨rfl,rfl⟩:=h;simp only [VR] at hx;subst hx;refine⟨.int k (k.wrap n),w,E,?_,Stp.refl _ _ _,r,by simp only [VR,SE.den,oG]⟩;simp [convert,run_underlying hsd,run_underlying hd,Conv.intToInt,SE.den]
    ·rename_i kk e hne;simp only [aCJ,aCK] at h;obtain⟨rfl,rfl⟩:=h;simp only [VR] at hx;subst hx;refine⟨.int k (k.wrap (e.den E.ρ)),w,E,?_,Stp.refl _ _ _,r,by simp only [VR,SE.den]⟩;simp [convert,run_underlying hsd,run_underlying hd,Conv.intToInt]
    grind
   ·rename_i hk;have hd:=gG hti hk;split at h
    ·rename_i hjk;split at h
     ·rename_i s;simp only [aCJ,aCK] at h;obtain⟨rfl,rfl⟩:=h;have hx':=hx;simp only [VR] at hx;obtain⟨rfl,_⟩:=hx;refine⟨_,w,E,?_,Stp.refl _ _ _,r,hx'⟩;simp [convert,run_underlying (gG (htt sT j hj) hjk),run_underlying hd]
     grind
    ·rename_i e hjk;have hs:=fH (htt sT j hj) hjk;split at h
     ·grind
     ·rename_i ie hie;split at h
      ·rename_i hu8;have he:=yS (htt e ie hie) hu8.1;split at h
       ·simp only [aCJ,aCK] at h;obtain⟨rfl,rfl⟩:=h;simp only [VR] at hx;subst hx;refine⟨.string .empty,w,E,?_,Stp.refl _ _ _,r,?_⟩
        ·rw [run_convert_bytes_string w sT dT e none 0 0 hs he hd];rfl
        ·simp only [VR];exact⟨rfl,by simp⟩
       ·rename_i id o len c;split at h
        ·rename_i cs hcs;rw [aCX] at h;obtain⟨l,hl,he2⟩:=h;simp only [aCK] at he2;obtain⟨rfl,rfl⟩:=he2;simp only [VR] at hx;obtain⟨hid,a,cap,rfl,hcap,hc⟩:=hx;obtain⟨b,o',us,e1,e2,e3,e4,e5⟩:=Dc r (p:=.ptr id o) (u:=.pointer (some ⟨(E.θ id).1,(E.θ id).2+o,none⟩)) (by simp only [VR]; exact⟨trivial,hid⟩) hcs;obtain⟨e6,e7⟩:=JA hl e3
         have hlen:len=(l.map UInt8.ofNat).length:=by
          grind
         have ha:a=⟨(E.θ id).1,(E.θ id).2+o,none⟩\/len=0:=by
          cases c with
          |exact c=>
           simp only [eX] at hc
           grind
          |rest es=>
           simp only [eX] at hc
           grind
         refine⟨.string (bU l),w,E,?_,Stp.refl _ _ _,r,by simp only [VR]; exact⟨trivial,e7⟩⟩;rw [hlen];refine run_convert_bytes_back w sT dT e a cap (l.map UInt8.ofNat) hs he hd fun k hk=>?_;rcases ha with ha|ha
         ·subst ha;rw [fE,sO];simp only [Value.pointer.injEq,aCJ,Addr.mk.injEq] at e1;obtain⟨e1a,e1b,_⟩:=e1;rw [e1a,e1b];refine e4 k _ ?_
          grind
         ·omega
        grind
       grind
      grind
    grind
   ·rename_i e hk;have hd:=fH hti hk;split at h
    ·grind
    ·rename_i ie hie;split at h
     ·rename_i hu8;have he:=yS (htt e ie hie) hu8.1;split at h
      ·rename_i s;simp only [aCJ,aCK] at h;obtain⟨rfl,rfl⟩:=h;simp only [VR] at hx;obtain⟨rfl,hlt⟩:=hx;have hs:=gG (htt sT j hj) hu8.2;have hsz:(bU s).size=s.length:=mX s;have hge:=grownCap_ge w (bU s).size 0 e
       have hrow:(bytesRow (bU s) (grownCap w (bU s).size 0 e)).size=grownCap w (bU s).size 0 e:=by have h1:(bU s).data.size=s.length:=hsz;simp only [bytesRow,Array.size_append,Array.size_map,Array.size_replicate,h1];omega
       have hv:bC E w.heap (s.map fun c=>AV.int .u8 (.lit (Int.ofNat c))) ((s.map UInt8.ofNat).map (fun b=>Value.int .u8 (b.toNat:Int))):=by
        clear hge hrow hsz
        induction s with
        |nil=>simp [bC]
        |cons b s ih=> have hb:=hlt b (by simp);rw [aCQ,aCQ,aCQ,aT];refine⟨_,_,rfl,?_,ih fun c hc=>hlt c (by simp [hc])⟩;simp [VR,SE.den,aDG,aDy hb]
       obtain⟨s1,s2⟩:=kG r (bytesRow (bU s) (grownCap w (bU s).size 0 e)) (bytesRow (bU s) (grownCap w (bU s).size 0 e)).size ((bytesRow (bU s) (grownCap w (bU s).size 0 e)).size+1) e hv
        (by intro u hu; simp only [aC4] at hu; obtain⟨b,_,rfl⟩:=hu; rfl)
        (by
         intro k u hu;have hk:=(aC1.1 hu).1;simp only [aDz] at hk;simp only [bytesRow];rw [aE2 (by have h1:(bU s).data.size=s.length:=hsz; simp only [Array.size_map,h1]; exact hk)];rw [<- hu]
         simp [bU])
        (by intro o h1 h2; omega)
        (w':=w.drew.alloc (.cells (bytesRow (bU s) (grownCap w (bU s).size 0 e)) e ((bytesRow (bU s) (grownCap w (bU s).size 0 e)).size,(bytesRow (bU s) (grownCap w (bU s).size 0 e)).size+1))) rfl ⟨rfl,rfl,rfl⟩
       refine⟨_,_,_,run_bytes_of_string w sT dT e (bU s) hs hd he,s1,s2,?_⟩;simp only [VR,hsz];refine⟨En.iP _ _ _ _,⟨w.heap.size,0,none⟩,_,rfl,by rw [<- hsz]; exact hge,?_⟩;simp only [eX,En.ext_θ_new,En.ext_κ_new]
       grind
      grind
     grind
   grind
  grind
end
section
variable {P:Program} {E:En} {w:World}
def EZ (d:TypeDesc):TK->Prop
 | .int _=> ∃k,d= .int k
 | .string=>d= .string
 | .bool=>d= .bool
 |_=>False
theorem EM {tt:TT} (htt:dU P tt) {t:Nat} {kk:TK} (h:Dn tt t=some kk): ∃d,P.underlying t=some d/\EZ d kk:=by
 unfold Dn at h;split at h
 ·rename_i i hi;split at h<;>simp only [aCJ,reduceCtorEq] at h<;>subst h
  ·rename_i k hk; exact⟨_,yS (htt t i hi) hk,k,rfl⟩
  ·rename_i hk; exact⟨_,gG (htt t i hi) hk,rfl⟩
  ·rename_i hk; exact⟨_,UZ (htt t i hi) hk,rfl⟩
 grind
theorem afL {x y:List Nat} (hx: ∀b∈x,b<256) (hy: ∀b∈y,b<256):(bU x == bU y)=iZ x y:=by
 have e:(bU x == bU y)=((bU x).data == (bU y).data):=rfl;rw [e,aDu,beq_iff_eq,oU];constructor
 ·intro h;have h2:=congrArg (fun b=>b.toList) h;simp only [bU] at h2
  grind [map_inj]
 grind
theorem VE {h:Array Obj} {pc:List (SB×Bool)} (hp:aW E.ρ pc) {kk:TK} {d:TypeDesc} (hd:EZ d kk) {a b:AV} {u u':Value} (ha:VR E h a u) (hb:VR E h b u') {c:Bool} (hc:ZG pc kk a b=some c) :
 Instr.sameNow d u u'=some c/\(c=true->∀n,Instr.sameBits (n+1) u' u=true):=by
 unfold ZG at hc;split at hc
 ·obtain⟨k,rfl⟩:=hd;split at hc
  ·simp only [VR] at ha hb;subst ha hb;split at hc
   ·rename_i hk;subst hk;have hc:=iQ hp hc;rw [jE] at hc;subst hc;refine⟨by simp [Instr.sameNow],fun hh n=>?_⟩;simp at hh;simp [Instr.sameBits,hh]
   grind
  grind
 ·simp only [EZ] at hd;subst hd;split at hc
  ·simp only [VR] at ha hb;obtain⟨rfl,ha⟩:=ha;obtain⟨rfl,hb⟩:=hb;simp at hc;subst hc;have he:=afL ha hb;refine⟨by simp only [Instr.sameNow,he],fun hh n=>?_⟩;simp only [Instr.sameBits]
   grind [oU]
  ·split at hc
   ·rename_i c0 h0;obtain⟨x,y,rfl,rfl,hd⟩:=KY ha hb h0;have hc:=iQ hp hc;rw [hd] at hc
    have hbe: ∀p q:ByteArray,(p == q)=decide (p=q):=by
     intro p q;rw [aDu,decide_eq_true_eq];have e:(p == q)=(p.data == q.data):=rfl;rw [e,beq_iff_eq];constructor
     ·intro h; cases p; cases q; simp only at h; rw [h]
     grind
    refine⟨by simp only [Instr.sameNow,hbe,hc],fun hh n=>?_⟩;simp only [Instr.sameBits,hbe]
    grind
   grind
 ·simp only [EZ] at hd;subst hd;split at hc
  ·simp only [VR,SB.den] at ha hb;subst ha hb;simp at hc;subst hc;refine⟨by simp [Instr.sameNow],fun hh n=>?_⟩;simp at hh;simp [Instr.sameBits,hh]
  grind
 grind
theorem eY {t:Nat} {kk:TK} {d:TypeDesc} (hu:P.underlying t=some d) (hd:EZ d kk) (b:Bool) (v:Value):(Instr.checkKey b 10000 t v).run P w= .ok () w:=by
 have h0:(10000:Nat)=9999+1:=rfl;rw [h0];generalize (9999:Nat)=n;cases kk<;>simp only [EZ] at hd
 ·subst hd; simp [Instr.checkKey,run_underlying hu]
 ·obtain⟨k,rfl⟩:=hd; simp [Instr.checkKey,run_underlying hu]
 ·subst hd; simp [Instr.checkKey,run_underlying hu]
theorem vF {h:Array Obj} {pc:List (SB×Bool)} (hp:aW E.ρ pc) {kk:TK} {d:TypeDesc} (hd:EZ d kk) {k:AV} {u:Value} (hk:VR E h k u): ∀{es:List (AV×AV×Nat)} {ents:List MapEntry} {i:Nat} {res:Option (Nat×AV)},
 fA E h es ents->Jr pc kk k es i=some res->
 (res=none/\Instr.findNow d u ents i=some none)\/
 (∃j v e,res=some (i+j,v)/\ents[j]?=some e/\VR E h v e.val/\Instr.findNow d u ents i=some (some (i+j,e.val))/\∀n,Instr.sameBits (n+1) e.key u=true)
 |[],ents,i,res,he,hf=>by simp only [fA] at he;subst he;simp [Jr] at hf;exact .inl ⟨hf.symm,by simp [Instr.findNow]⟩
 |(k',v,b)::es,ents,i,res,he,hf=>by
  simp only [fA] at he;obtain⟨e,r,rfl,h1,h2,h3,h4⟩:=he;simp only [Jr] at hf;split at hf
  ·rename_i hc;simp at hf;subst hf;obtain⟨g1,g2⟩:=VE hp hd hk h1 hc;exact .inr ⟨0,v,e,rfl,rfl,h2,by simp [Instr.findNow,g1],g2 rfl⟩
  ·rename_i hc;obtain⟨g1,g2⟩:=VE hp hd hk h1 hc;rcases vF hp hd hk h4 hf with ⟨q1,q2⟩|⟨j,v',e',q1,q2,q3,q4,q5⟩
   ·exact .inl ⟨q1,by simp [Instr.findNow,g1,q2]⟩
   ·refine .inr ⟨j+1,v',e',?_,by simpa using q2,q3,?_,q5⟩
    ·grind
    ·simp only [Instr.findNow,g1,q4]; congr 3; omega
  grind
theorem eG {t:Nat} {d:TypeDesc} (hu:P.underlying t=some d) {u:Value} {ents:List MapEntry} {r:Option (Nat×Value)} (h:Instr.findNow d u ents 0=some r):(Instr.findKey t u ents).run P w= .ok r w:=by simp [Instr.findKey,run_underlying hu,h]
theorem iO {r:Nat} {o:Obj} (h:w.heap[r]?=some o) (hn: ∀c e f,o≠.cells c e f):(getObj r).run P w= .ok o w:=by
 unfold getObj;cases o<;>first |exact absurd rfl (hn _ _ _)|simp only [Sem.run,h]
theorem jD {r:Nat} {o o':Obj} (h:w.heap[r]?=some o) (hn: ∀c e f,o≠.cells c e f):(setObj r o').run P w= .ok () { w with heap:=w.heap.setIfInBounds r o' }:=by
 unfold setObj;cases o<;>first |exact absurd rfl (hn _ _ _)|simp only [Sem.run,h]
theorem jT [Glob] {H:Hp} (r:aO E H w) {id:Nat} {o:dG} (hl:H.get id=some o) (ao:dG) (o':Obj)
 (ho: ∀h',h'[(E.θ id).1]?=some o'->Keeps E w.heap E h'->OR E h' id ao) :
 Stp E H w E (H.put id ao) { w with heap:=w.heap.setIfInBounds (E.θ id).1 o' }/\aO E (H.put id ao) { w with heap:=w.heap.setIfInBounds (E.θ id).1 o' }:=by
 have hlt:=iD r hl
 have hother: ∀b,b≠(E.θ id).1->({ w with heap:=w.heap.setIfInBounds (E.θ id).1 o' }:World).heap[b]?=w.heap[b]?:=fun b hb=>by
  grind
 refine Ls r hl ao (by simp) hother ⟨rfl,rfl,rfl⟩ (ho _ ?_ (pJ r hl hother))
 grind
theorem fA.length {h:Array Obj}: ∀{es:List (AV×AV×Nat)} {ents:List MapEntry},fA E h es ents->ents.length=es.length
 |[],ents,he=>by simp only [fA] at he; simp [he]
 |(k,v,b)::es,ents,he=>by simp only [fA] at he;obtain⟨e,r,rfl,_,_,_,h4⟩:=he;simp [h4.length]
theorem fA.set {h:Array Obj} {k v:AV} {uk uv:Value} (hk:VR E h k uk) (hv:VR E h v uv): ∀{es:List (AV×AV×Nat)} {ents:List MapEntry} {i:Nat} {e:MapEntry},fA E h es ents->ents[i]?=some e->
 fA E h (xQ k v es i) (ents.set i { e with key:=uk,val:=uv })
 |[],ents,i,e,he,hi=>by simp only [fA] at he; subst he; simp at hi
 |(k',v',b)::es,ents,0,e,he,hi=>by
  simp only [fA] at he;obtain⟨e0,r,rfl,h1,h2,h3,h4⟩:=he;simp at hi;subst hi;simp only [xQ,aDU,fA]
  grind
 |(k',v',b)::es,ents,i+1,e,he,hi=>by simp only [fA] at he;obtain⟨e0,r,rfl,h1,h2,h3,h4⟩:=he;simp only [xQ,aDV,fA];exact⟨e0,_,rfl,h1,h2,h3,fA.set hk hv h4 (by simpa using hi)⟩
theorem fA.push {h:Array Obj} {k v:AV} {uk uv:Value} {c c':Nat} (hk:VR E h k uk) (hv:VR E h v uv): ∀{es:List (AV×AV×Nat)} {ents:List MapEntry},fA E h es ents->
 fA E h (es++ [(k,v,c)]) (ents++ [{ key:=uk,val:=uv,born:=c' }])
 |[],ents,he=>by
  simp only [fA] at he;subst he;simp only [aC2,fA]
  grind
 |(k',v',b)::es,ents,he=>by simp only [fA] at he;obtain⟨e0,r,rfl,h1,h2,h3,h4⟩:=he;simp only [aC8,fA];exact⟨e0,_,rfl,h1,h2,h3,fA.push hk hv h4⟩
theorem fA.erase {h:Array Obj}: ∀{es:List (AV×AV×Nat)} {ents:List MapEntry} {i:Nat},fA E h es ents->fA E h (vI es i) (ents.eraseIdx i)
 |[],ents,i,he=>by simp only [fA] at he; subst he; simp [vI,fA]
 |(k',v',b)::es,ents,0,he=>by
  simp only [fA] at he;obtain⟨e0,r,rfl,h1,h2,h3,h4⟩:=he
  grind [vI]
 |(k',v',b)::es,ents,i+1,he=>by simp only [fA] at he;obtain⟨e0,r,rfl,h1,h2,h3,h4⟩:=he;simp only [vI,aEF,fA];exact⟨e0,_,rfl,h1,h2,h3,fA.erase h4⟩
theorem Hz {t:Nat} {i:TI} (hti:qN P t i) {z:AV} (h:zeroOf i=some z): ∃u,(zeroValue t).run P w= .ok u w/\VR E w.heap z u:=by
 obtain⟨inf,d,zv,h1,h2,h3,h4,h5,h6,h7,h8⟩:=hti.all;have hz:=fC (E:=E) (h:=w.heap) h4;have hr:(zeroValue t).run P w= .ok zv w:=by simp [zeroValue,typeInfo,h1,h3]
 refine⟨zv,hr,?_⟩;unfold zeroOf at h;split at h
 ·rename_i ha;simp at h;subst h;rw [ha] at h8;cases zv<;>simp only [Tj,reduceCtorEq] at h8;rename_i cs;simp only [VR];exact⟨cs.toList,by simp,hz.1⟩
 ·rename_i ha;split at h
  ·rename_i v hv;simp at h;subst h;rw [hv] at hz;obtain⟨u,vs,e1,e2,e3⟩:=aT.1 hz.1;rw [jI] at e3;subst e3;rw [ha] at h8;have:zv=u:=by cases zv<;>simp_all [Tj,Value.cells]
   grind
  grind
end
theorem H8 (ρ:Nat->Int) (x:SE):(Jb x).den ρ=(dec (x.den ρ)).n:=by
 unfold Jb;split
 ·split
  ·simp only [SE.den,gB.den,aA,D.n]
  ·simp only [SE.den,gB.den]
 ·split
  ·simp only [SE.den,aA,D.n]
  ·simp only [SE.den,gB.den]
 ·simp only [SE.den,gB.den]
theorem nZ (ρ:Nat->Int) (x:SE):(qR x).den ρ=enc (.i (x.den ρ)):=by unfold qR;split<;>simp only [SE.den,gB.den]
theorem F9 (a b:D):(D.p a b).hd 0=a:=by simp [D.hd,D.l]
theorem Gf (a b:D) (j:Nat):(D.p a b).hd (j+1)=b.hd j:=by simp [D.hd,D.l]
theorem uV (ρ:Nat->Int): ∀(j:Nat) (x:SE),dec ((kR j x).den ρ)=(dec (x.den ρ)).hd j
 |j,.op o a b=>by
  unfold kR
  cases o with
  |cons=>
   cases j with
   |zero=>simp only [SE.den,gB.den,aA,F9]
   |succ j=>simp only [uV ρ j b,SE.den,gB.den,aA,Gf]
  |_=>simp only [SE.den,gB.den,aA]
 |j,.lit n=>by simp only [kR,SE.den,gB.den,aA]
 |j,.aK n=>by simp only [kR,SE.den,gB.den,aA]
 |j,.add _ _=>by simp only [kR,SE.den,gB.den,aA]
 |j,.sub _ _=>by simp only [kR,SE.den,gB.den,aA]
 |j,.mul _ _=>by simp only [kR,SE.den,gB.den,aA]
 |j,.quo _ _=>by simp only [kR,SE.den,gB.den,aA]
 |j,.rem _ _=>by simp only [kR,SE.den,gB.den,aA]
 |j,.wrap _ _=>by simp only [kR,SE.den,gB.den,aA]
 |j,.inp _ _=>by simp only [kR,SE.den,gB.den,aA]
 |j,.dat _=>by simp only [kR,SE.den,gB.den,aA]
 |j,.ap _ _=>by simp only [kR,SE.den,gB.den,aA]
theorem bD (ρ:Nat->Int): ∀x:SE,(dH x).den ρ=((dec (x.den ρ)).l.length:Int)
 | .op o a b=>by
   unfold dH
   cases o with
   |set=>
    simp only [bD ρ a,SE.den,gB.den];split
    ·simp only [aA,aY,kQ]
    ·rfl
   |_=>simp only [SE.den,gB.den]
 | .lit n=>by simp only [dH,SE.den,gB.den]
 | .aK n=>by simp only [dH,SE.den,gB.den]
 | .add _ _=>by simp only [dH,SE.den,gB.den]
 | .sub _ _=>by simp only [dH,SE.den,gB.den]
 | .mul _ _=>by simp only [dH,SE.den,gB.den]
 | .quo _ _=>by simp only [dH,SE.den,gB.den]
 | .rem _ _=>by simp only [dH,SE.den,gB.den]
 | .wrap _ _=>by simp only [dH,SE.den,gB.den]
 | .inp _ _=>by simp only [dH,SE.den,gB.den]
 | .dat d=>by simp only [dH,SE.den,aA]; rfl
 | .ap _ _=>by simp only [dH,SE.den,gB.den]
theorem Rd.slice {ro:Nat->Prop} {h:Array Obj} {t:Nat} {d:D} {v:Value} (r:Rd ro h (.sl t) d v): ∃x cap,v= .slice x d.l.length cap/\d.l.length<=cap:=by
 generalize hc:CK.sl t=c at r
 cases r with
 |int k n=>simp at hc
 |bool b=>simp at hc
 |str s=>simp at hc
 |nil t=>exact⟨none,0,rfl,by simp [D.l]⟩
 |non t a cap=>exact⟨some a,cap,rfl,by simp [D.l]⟩
 |one t c b o cap ds f hr hcp hb h1 h2=>exact⟨_,cap,by rw [aY],by rw [aY]; exact hcp⟩
 |many t cs b o cap rows f hr hcp hb hl h1 h2=>exact⟨some ⟨b,o,none⟩,cap,by simp,by simpa using hcp⟩
theorem Rd.string {ro:Nat->Prop} {h:Array Obj} {d:D} {v:Value} (r:Rd ro h .str d v): ∃s,v= .string s/\d=Am s:=by
 cases r with
 |str s=>exact⟨s,rfl,rfl⟩
def kY (ro:Nat->Prop) (h:Array Obj) (c:CK) (d:D) (u:Value):Prop:=match c with
 | .int k=>u= .int k d.n
 | .bool=>u= .bool (!(d.n == 0))
 |c=>Rd ro h c d u
theorem rG {E:En} {h:Array Obj} {c:CK} {x:SE} {u:Value}:VR E h (wZ c x) u↔kY E.ro h c (dec (x.den E.ρ)) u:=by cases c<;>simp only [wZ,kY,VR,SB.den,H8,SE.den]
theorem Rd.cell {ro:Nat->Prop} {h:Array Obj} {c:CK} {d:D} {u:Value} (r:Rd ro h c d u):kY ro h c d u:=by
 cases r with
 |int k n=>simp [kY,D.n]
 |bool b=>cases b<;>simp [kY,D.n]
 |str s=>exact .str s
 |nil t=>exact .nil t
 |non t a cap=>exact .non t a cap
 |one t c b o cap ds f hr hc hb h1 h2=>exact .one t c b o cap ds f hr hc hb h1 h2
 |many t cs b o cap rows f hr hc hb hl h1 h2=>exact .many t cs b o cap rows f hr hc hb hl h1 h2
theorem kY.one {ro:Nat->Prop} {h:Array Obj} {c:CK} {d:D} {u:Value} (r:kY ro h c d u):u.oneCell'=true:=by
 cases c with
 |int k=>simp only [kY] at r; subst r; rfl
 |bool=>simp only [kY] at r; subst r; rfl
 |str=>exact Rd.one' r
 |sl t=>exact Rd.one' r
def dK (ro:Nat->Prop) (h:Array Obj):List CK->Nat->D->List Value->Prop
 |[],_,_,us=>us= []
 |c::cs,j,d,us=> ∃u vs,us=u::vs/\kY ro h c (d.hd j) u/\dK ro h cs (j+1) d vs
def DY (ro:Nat->Prop) (h:Array Obj) (r:Row) (d:D) (us:List Value):Prop:=match r with
 | .one c=> ∃u,us= [u]/\kY ro h c d u
 | .many cs=>dK ro h cs 0 d us
theorem wY {E:En} {h:Array Obj} {x:SE}: ∀{cs:List CK} {j:Nat} {us:List Value},bC E h (kV cs j x) us↔dK E.ro h cs j (dec (x.den E.ρ)) us
 |[],j,us=>by simp only [kV,bC,dK]
 |c::cs,j,us=>by
  simp only [kV,aT,dK];constructor
  ·rintro⟨u,vs,rfl,h1,h2⟩;exact⟨u,vs,rfl,by rw [rG,uV] at h1; exact h1,wY.1 h2⟩
  ·rintro⟨u,vs,rfl,h1,h2⟩;exact⟨u,vs,rfl,by rw [rG,uV]; exact h1,wY.2 h2⟩
theorem iH {E:En} {h:Array Obj} {r:Row} {x:SE} {us:List Value}:bC E h (iV r x) us↔DY E.ro h r (dec (x.den E.ρ)) us:=by
 cases r with
 |one c=>
  simp only [iV,aT,jI,DY];constructor
  ·rintro⟨u,vs,rfl,h1,rfl⟩
   grind [rG]
  grind [rG]
 |many cs=>simp only [iV,DY,wY]
theorem yL (x:SE): ∀(cs:List CK) (j:Nat),(kV cs j x).length=cs.length
 |[],_=>rfl
 |_::cs,j=>by simp [kV,yL x cs]
theorem jC (r:Row) (x:SE):(iV r x).length=r.es:=by cases r<;>simp [iV,Row.es,yL]
theorem dK.ones {ro:Nat->Prop} {h:Array Obj} {d:D}: ∀{cs:List CK} {j:Nat} {us:List Value},dK ro h cs j d us->∀u∈us,u.oneCell'=true
 |[],_,_,hh,u,hu=>by simp only [dK] at hh; subst hh; simp at hu
 |c::cs,j,us,hh,u,hu=>by
  simp only [dK] at hh;obtain⟨x,vs,rfl,h1,h2⟩:=hh;rcases aCP.1 hu with rfl|hu
  ·exact h1.one
  ·exact h2.ones u hu
theorem DY.ones {ro:Nat->Prop} {h:Array Obj} {r:Row} {d:D} {us:List Value} (hh:DY ro h r d us): ∀u∈us,u.oneCell'=true:=by
 cases r with
 |one c=> obtain⟨u,rfl,h1⟩:=hh;intro x hx;simp at hx;subst hx;exact h1.one
 |many cs=>exact dK.ones hh
theorem bC.split {E:En} {h:Array Obj}: ∀{xs ys:List AV} {us:List Value},bC E h (xs++ys) us->∃a b,us=a++b/\bC E h xs a/\bC E h ys b
 |[],ys,us,hh=> ⟨[],us,rfl,by simp only [bC],hh⟩
 |x::xs,ys,us,hh=>by rw [aC8,aT] at hh;obtain⟨u,vs,rfl,h1,h2⟩:=hh;obtain⟨a,b,rfl,h3,h4⟩:=h2.split;exact⟨u::a,b,rfl,by rw [aT]; exact⟨u,a,rfl,h1,h3⟩,h4⟩
theorem mZ {ρ:Nat->Int} {i:Nat} {cs:List AV}: ∀{ov:List (SE×List AV)},dM ρ i ov=some cs->∃p∈ov,p.2=cs/\p.1.den ρ=(i:Int)
 |[],h=>by simp [dM] at h
 |(j,c)::l,h=>by
  simp only [dM] at h;split at h
  ·rename_i hj;simp only [aCJ] at h;exact⟨(j,c),by simp,h,hj⟩
  ·obtain⟨p,h1,h2⟩:=mZ h
   grind
theorem bF {ρ:Nat->Int} {r:Row} {ov:List (SE×List AV)} (ho:yZ r ov): ∀(ds:List D) (i:Nat),(aF ρ r ov ds i).length=ds.length*r.es
 |[],i=>by simp [aF]
 |d::ds,i=>by
  simp only [aF,aC5,bF ho ds (i+1),aCW,aDs,aDS];split
  ·rename_i cs h;obtain⟨p,h1,h2,_⟩:=mZ h;rw [<- h2,ho p h1]; omega
  grind [jC]
theorem oM {ρ:Nat->Int} {r:Row} {ov:List (SE×List AV)}: ∀(xs ys:List D) (i:Nat),aF ρ r ov (xs++ys) i=aF ρ r ov xs i++aF ρ r ov ys (i+xs.length)
 |[],ys,i=>by simp [aF]
 |d::ds,ys,i=>by
  simp only [aC8,aF,oM ds ys (i+1),aD7,aCW]
  grind
section
variable {P:Program} {E:En} {w:World}
theorem FW [Glob] {H:Hp} (r:aO E H w) {id c:Nat} {es:List (AV×AV×Nat)} (hl:H.get id=some (.map es c)): ∃ents c',w.heap[(E.θ id).1]?=some (.map ents c')/\fA E w.heap es ents.toList:=
 (r.live id _ hl).2.1
theorem V7 [Glob] {tt:TT} (htt:dU P tt) {pc:List (SB×Bool)} (hp:aW E.ρ pc) {H:Hp} (r:aO E H w) {t:Nat} {m k v:AV} {um uk:Value} {ok:Bool} (hm:VR E w.heap m um) (hk:VR E w.heap k uk) (h:Nl tt pc t m k ok H=some v) :
 ∃x,(Instr.lookup t um uk ok).run P w= .ok x w/\VR E w.heap v x:=by
 unfold Nl at h;split at h
 ·rename_i ti hti;split at h
  ·rename_i kt et hkind;have hu:=CV (htt t ti hti) hkind;split at h
   ·grind
   ·rename_i kk hkk;obtain⟨d,hd1,hd2⟩:=EM htt hkk;split at h
    ·grind
    ·rename_i ie hie
     have key: ∀(es:List (AV×AV×Nat)) (ents:Array MapEntry),fA E w.heap es ents.toList->
      (match Jr pc kk k es 0 with
       |none=>none
       |some (some (_,v))=>some (if ok then .tuple [v,.bool (.lit true)] else v)
       |some none=>match zeroOf ie with
        |none=>none
        |some z=>some (if ok then .tuple [z,.bool (.lit false)] else z))=some v->
      ∃(o:Option (Nat×Value)) (x:Value),(Instr.findKey kt uk ents.toList).run P w= .ok o w/\
       (match o with
        |some (_,y)=>x=(if ok then .tuple #[y,.bool true] else y)
        |none=> ∃z,(zeroValue et).run P w= .ok z w/\x=(if ok then .tuple #[z,.bool false] else z))/\VR E w.heap v x:=by
      intro es ents he hh;split at hh
      ·simp at hh
      ·rename_i j v' hf;simp at hh;subst hh;rcases vF hp hd2 hk he hf with ⟨q1,_⟩|⟨jj,v2,e,q1,q2,q3,q4,q5⟩
       ·simp at q1
       ·simp only [aCJ,aCK] at q1;obtain⟨rfl,rfl⟩:=q1;refine⟨_,_,eG hd1 q4,rfl,?_⟩;cases ok
        ·exact q3
        ·simp only [if_true,VR,bC];exact⟨[e.val,.bool true],rfl,_,_,rfl,q3,_,_,rfl,by simp [SB.den],rfl⟩
      ·rename_i hf;split at hh
       ·simp at hh
       ·rename_i z hz;simp at hh;subst hh;obtain⟨u,e1,e2⟩:=Hz (P:=P) (w:=w) (E:=E) (htt et ie hie) hz;rcases vF hp hd2 hk he hf with ⟨_,q2⟩|⟨jj,v2,e,q1,_⟩
        ·refine⟨none,_,eG hd1 q2,⟨u,e1,rfl⟩,?_⟩;cases ok
         ·exact e2
         ·simp only [if_true,VR,bC];exact⟨[u,.bool false],rfl,_,_,rfl,e2,_,_,rfl,by simp [SB.den],rfl⟩
        ·simp at q1
     split at h
     ·grind
     ·rename_i es hes;unfold SV at hes;split at hes
      ·simp at hes;subst hes;simp only [VR] at hm;subst hm;obtain⟨o,x,e1,e2,e3⟩:=key [] #[] (by simp [fA]) h;refine⟨x,?_,e3⟩
       cases o with
       |none=> obtain⟨z,e4,rfl⟩:=e2;cases ok<;>simp [Instr.lookup,run_underlying hu,eY hd1 hd2,e1,e4]
       |some p=> obtain⟨j,y⟩:=p;simp only at e2;subst e2;cases ok<;>simp [Instr.lookup,run_underlying hu,eY hd1 hd2,e1]
      ·rename_i id;split at hes
       ·rename_i es' c hl;simp at hes;subst hes;simp only [VR] at hm;obtain⟨rfl,hid⟩:=hm;obtain⟨ents,c',g1,g2⟩:=FW r hl;have hg:=iO (P:=P) g1 (by simp);obtain⟨o,x,e1,e2,e3⟩:=key es' ents g2 h;refine⟨x,?_,e3⟩
        cases o with
        |none=> obtain⟨z,e4,rfl⟩:=e2;cases ok<;>simp [Instr.lookup,run_underlying hu,hg,eY hd1 hd2,e1,e4]
        |some p=> obtain⟨j,y⟩:=p;simp only at e2;subst e2;cases ok<;>simp [Instr.lookup,run_underlying hu,hg,eY hd1 hd2,e1]
       grind
      grind
  grind
 grind
theorem EH {α:Type} (ents:Array α) (i:Nat) (e:α) (f:α->α) (h:ents.toList[i]?=some e):(ents.modify i f).toList=ents.toList.set i (f e):=by
 apply aEk;intro j
 grind
theorem BP [Glob] {tt:TT} (htt:dU P tt) {pc:List (SB×Bool)} (hp:aW E.ρ pc) {H H':Hp} (r:aO E H w) {t:Nat} {m k v:AV} {um uk uv:Value} (hm:VR E w.heap m um) (hk:VR E w.heap k uk) (hv:VR E w.heap v uv) (h:wL tt pc t m k v H=some H') :
 ∃w',(Instr.mapUpdate t um uk uv).run P w= .ok () w'/\Stp E H w E H' w'/\aO E H' w':=by
 unfold wL at h;split at h
 ·rename_i ti hti;split at h
  ·rename_i kt et hkind;have hu:=CV (htt t ti hti) hkind;split at h
   ·grind
   ·rename_i kk hkk;obtain⟨d,hd1,hd2⟩:=EM htt hkk;split at h
    ·rename_i id;split at h
     ·rename_i es c hl;simp only [VR] at hm;obtain⟨rfl,hid⟩:=hm;obtain⟨ents,c',g1,g2⟩:=FW r hl;have hg:=iO (P:=P) g1 (by simp);split at h
      ·grind
      ·rename_i i v' hf;simp at h;subst h;rcases vF hp hd2 hk g2 hf with ⟨q1,_⟩|⟨jj,v2,e,q1,q2,q3,q4,q5⟩
       ·grind
       ·simp only [aCJ,aCK,aCR] at q1;obtain⟨rfl,rfl⟩:=q1;simp only [aCR] at q4
        have hkt:(Instr.keyThatStays (((ents[i]?).map (·.key)).getD uk) uk).run P w= .ok uk w:=by rw [aDk] at q2;simp only [q2,aDo,aCT,Instr.keyThatStays];simp_all
        refine⟨_,?_,jT r hl (.map (xQ k v es i) c) (.map (ents.modify i fun e=>{ e with key:=uk,val:=uv }) c') ?_⟩
        ·simp [Instr.mapUpdate,run_underlying hu,hg,eY hd1 hd2,eG hd1 q4,hkt,jD (P:=P) g1]
        ·intro h' hh kp;simp only [OR]
         grind [EH,fA.set,VR.keep,fA.keep]
      ·rename_i hf;simp at h;subst h;rcases vF hp hd2 hk g2 hf with ⟨_,q2⟩|⟨jj,v2,e,q1,_⟩
       ·refine⟨_,?_,jT r hl (.map (es++ [(k,v,c)]) (c+1)) (.map (ents.push { key:=uk,val:=uv,born:=c' }) (c'+1)) ?_⟩
        ·simp [Instr.mapUpdate,run_underlying hu,hg,eY hd1 hd2,eG hd1 q2,jD (P:=P) g1]
        ·intro h' hh kp;simp only [OR]
         grind [fA.push,VR.keep,fA.keep]
       grind
     grind
    grind
  grind
 grind
theorem V8 [Glob] {tt:TT} (htt:dU P tt) {pc:List (SB×Bool)} (hp:aW E.ρ pc) {H H':Hp} (r:aO E H w) {t:Nat} {ts:Nat} {m k:AV} {um uk:Value} (hm:VR E w.heap m um) (hk:VR E w.heap k uk) (h:Nr tt pc t m k H=some H') (ty:Nat) :
 ∃w',(Builtin.delete_ #[t,ts] ty #[um,uk]).run P w= .ok (.tuple #[]) w'/\Stp E H w E H' w'/\aO E H' w':=by
 unfold Nr at h;split at h
 ·rename_i ti hti;split at h
  ·rename_i kt et hkind;have hu:=CV (htt t ti hti) hkind;split at h
   ·grind
   ·rename_i kk hkk;obtain⟨d,hd1,hd2⟩:=EM htt hkk;split at h
    ·simp at h;subst h;simp only [VR] at hm;subst hm;exact⟨w,by simp [Builtin.delete_,run_underlying hu,eY hd1 hd2],Stp.refl _ _ _,r⟩
    ·rename_i id;split at h
     ·rename_i es c hl;simp only [VR] at hm;obtain⟨rfl,hid⟩:=hm;obtain⟨ents,c',g1,g2⟩:=FW r hl;have hg:=iO (P:=P) g1 (by simp);split at h
      ·grind
      ·rename_i i v' hf;simp at h;subst h;rcases vF hp hd2 hk g2 hf with ⟨q1,_⟩|⟨jj,v2,e,q1,q2,q3,q4,q5⟩
       ·grind
       ·simp only [aCJ,aCK,aCR] at q1;obtain⟨rfl,rfl⟩:=q1;simp only [aCR] at q4;refine⟨_,?_,jT r hl (.map (vI es i) c) (.map (ents.eraseIdxIfInBounds i) c') ?_⟩
        ·simp [Builtin.delete_,run_underlying hu,hg,eY hd1 hd2,eG hd1 q4,jD (P:=P) g1]
        ·intro h' hh kp;simp only [OR];refine⟨_,_,hh,?_⟩;have hil:i<ents.size:=by have:=(aC1.1 q2).1; simpa using this
         have:(ents.eraseIdxIfInBounds i).toList=ents.toList.eraseIdx i:=by simp_all
         grind [fA.erase,fA.keep]
      ·rename_i hf;simp at h;subst h;rcases vF hp hd2 hk g2 hf with ⟨_,q2⟩|⟨jj,v2,e,q1,_⟩
       ·refine⟨_,?_,jT r hl (.map es c) (.map ents c') ?_⟩
        ·simp [Builtin.delete_,run_underlying hu,hg,eY hd1 hd2,eG hd1 q2,jD (P:=P) g1]
        ·intro h' hh kp;simp only [OR]
         grind [fA.keep]
       grind
     grind
    grind
  grind
 grind
theorem aiH [Glob] {tt:TT} (htt:dU P tt) {H:Hp} (r:aO E H w) {t ty:Nat} {x v:AV} {u:Value} (hx:VR E w.heap x u) (h:aiI tt t x H=some v) :
 ∃y,(Builtin.len_ #[t] ty #[u]).run P w= .ok y w/\VR E w.heap v y:=by
 unfold aiI at h;simp only at h;split at h
 ·rename_i ti hti;have htok:=htt t ti hti;split at h
  ·rename_i hk;split at h
   ·rename_i s;simp at h;subst h;simp only [VR] at hx;obtain⟨rfl,_⟩:=hx;exact⟨_,by simp [Builtin.len_,run_underlying (gG htok hk)]; rfl,by simp [VR,SE.den,goInt,mX]⟩
   ·simp at h; subst h; simp only [VR] at hx;obtain⟨s,rfl,hs⟩:=hx.string;exact⟨_,by simp [Builtin.len_,run_underlying (gG htok hk)]; rfl,by simp only [VR,bD,hs,akE]; rfl⟩
   grind
  ·rename_i e hk;have hu:=fH htok hk;split at h
   ·simp at h; subst h; simp only [VR] at hx; subst hx;exact⟨_,by simp [Builtin.len_,run_underlying hu]; rfl,by simp [VR,SE.den,goInt]⟩
   ·simp at h; subst h; simp only [VR] at hx; obtain⟨x,rfl⟩:=hx;exact⟨_,by simp [Builtin.len_,run_underlying hu]; rfl,by simp [VR,SE.den,goInt]⟩
   ·simp at h; subst h; simp only [VR] at hx; obtain⟨⟨x,rfl⟩,_⟩:=hx;exact⟨_,by simp [Builtin.len_,run_underlying hu]; rfl,by simp [VR,SE.den,goInt]⟩
   ·simp at h; subst h; simp only [VR] at hx; obtain⟨_,a,cap,rfl,_⟩:=hx;exact⟨_,by simp [Builtin.len_,run_underlying hu]; rfl,by simp [VR,SE.den,goInt]⟩
   ·simp at h; subst h; simp only [VR] at hx; obtain⟨b,o,cap,us,rfl,_⟩:=hx;exact⟨_,by simp [Builtin.len_,run_underlying hu]; rfl,by simp [VR,SE.den,goInt]⟩
   ·simp at h; subst h; simp only [VR] at hx; obtain⟨x,cap,rfl,_⟩:=hx.slice;exact⟨_,by simp [Builtin.len_,run_underlying hu]; rfl,by simp [VR,bD,goInt]⟩
   ·simp at h; subst h; simp only [VR] at hx; obtain⟨_,k,a,cap,h0,rfl,_⟩:=hx;exact⟨_,by simp [Builtin.len_,run_underlying hu]; rfl,by simp [VR,h0,goInt]⟩
   ·simp at h; subst h; simp only [VR] at hx; obtain⟨_,l,k,a,cap,_,h0,rfl,_⟩:=hx;exact⟨_,by simp [Builtin.len_,run_underlying hu]; rfl,by simp [VR,h0,goInt]⟩
   ·simp at h; subst h; simp only [VR] at hx;rcases hx with ⟨⟨x,cap,rfl⟩,h0⟩|⟨b,o,n,cap,rfl,_,h0,_⟩
    ·exact⟨_,by simp [Builtin.len_,run_underlying hu]; rfl,by simp [VR,SE.den,goInt,h0]⟩
    ·exact⟨_,by simp [Builtin.len_,run_underlying hu]; rfl,by simp [VR,SE.den,goInt,h0]⟩
   grind
  ·rename_i k e hk;have hu:=xH htok hk;simp at h;subst h;exact⟨_,by simp [Builtin.len_,run_underlying hu]; rfl,by simp [VR,SE.den,goInt]⟩
  ·rename_i kt et hk;have hu:=CV htok hk;split at h
   ·simp at h; subst h; simp only [VR] at hx; subst hx;exact⟨_,by simp [Builtin.len_,run_underlying hu]; rfl,by simp [VR,SE.den,goInt]⟩
   ·rename_i id;split at h
    ·rename_i es c hl;simp at h;subst h;simp only [VR] at hx;obtain⟨rfl,hid⟩:=hx;obtain⟨ents,c',g1,g2⟩:=FW r hl;have hg:=iO (P:=P) g1 (by simp);have hlen:=g2.length;simp only [aC9] at hlen;exact⟨_,by simp [Builtin.len_,run_underlying hu,hg]; rfl,by simp [VR,SE.den,goInt,hlen]⟩
    ·rename_i e t' hl;simp at h;subst h;simp only [VR] at hx;obtain⟨rfl,hid⟩:=hx;obtain⟨_,ho,_⟩:=r.live _ _ hl;simp only [OR] at ho;obtain⟨ents,c',g1,g2⟩:=ho;have hg:=iO (P:=P) g1 (by simp);have hlen:=g2.length;simp only [aC9] at hlen;exact⟨_,by simp [Builtin.len_,run_underlying hu,hg]; rfl,by simp [VR,bD,goInt,hlen]⟩
    ·rename_i e t' tys ov hl;simp at h;subst h;simp only [VR] at hx;obtain⟨rfl,hid⟩:=hx;obtain⟨_,ho,_⟩:=r.live _ _ hl;simp only [OR] at ho;obtain⟨_,ents,c',g1,g2⟩:=ho;have hg:=iO (P:=P) g1 (by simp);have hlen:=g2.length;simp only [aC9] at hlen;exact⟨_,by simp [Builtin.len_,run_underlying hu,hg]; rfl,by simp [VR,bD,goInt,hlen]⟩
    grind
   grind
  grind
 grind
end
section
variable {P:Program} {E:En} {w:World}
structure Src (P:Program) (E:En) (w:World) (s m:Nat) (news:List AV) (u:Value) (us:Array Value):Prop where
 len: ∀w2,(Builtin.lenOf u).run P w2= .ok m w2
 first: ∀w2:World,w2.heap=w.heap->(Builtin.firstCells s m u).run P w2= .ok us w2
 vrs:bC E w.heap news us.toList
 size:us.size=m*s
 ones: ∀x∈us.toList,x.oneCell'=true
theorem gQ.loads {b o n:Nat} {us:List Value} (hn:us.length=n) (h:gQ w.heap b o us) (w2:World) (hw:w2.heap=w.heap):(loadCells ⟨b,o,none⟩ n).run P w2= .ok us.toArray w2:=
 xZ hn (by rw [hw]; exact h)
theorem yX {id off len cap:Nat} {a:Addr} {c:WW} (hc:eX E id off len a cap c):a=⟨(E.θ id).1,(E.θ id).2+off,none⟩\/cap=0:=by
 cases c with
 |exact c=>
  simp only [eX] at hc
  grind
 |rest es=>
  simp only [eX] at hc
  grind
theorem Bg [Glob] {H:Hp} (r:aO E H w) {id o len cap s:Nat} {a:Addr} {c:WW} {l:List AV} (hid:E.dm id) (hc:eX E id o len a cap c) (hlen:len<=cap) (h:qH H (.ptr id o) (len*s)=some l) :
 ∃us:List Value,us.length=len*s/\bC E w.heap l us/\(∀u∈us,u.oneCell'=true)/\∀w2:World,w2.heap=w.heap->(loadCells a (len*s)).run P w2= .ok us.toArray w2:=by
 obtain⟨b,o',us,e1,e2,e3,e4,e5⟩:=Dc r (p:=.ptr id o) (u:=.pointer (some ⟨(E.θ id).1,(E.θ id).2+o,none⟩)) (by simp only [VR]; exact⟨trivial,hid⟩) h;simp only [Value.pointer.injEq,aCJ,Addr.mk.injEq] at e1;obtain⟨e1a,e1b,_⟩:=e1;refine⟨us,e2,e3,e5,fun w2 hw=>?_⟩;rcases yX hc with ha|ha
 ·rw [ha,e1a,e1b];exact e4.loads e2 w2 hw
 ·obtain rfl:len=0:=by omega
  rw [aDm] at e2 ⊢;rw [aDq e2];rfl
theorem wE [Glob] {H:Hp} (r:aO E H w) {s m:Nat} {y:AV} {u:Value} {news:List AV} (hy:VR E w.heap y u) (h:xK s y H=some (m,news)): ∃us,Src P E w s m news u us:=by
 unfold xK at h;split at h
 ·simp only [aCJ,aCK] at h;obtain⟨rfl,rfl⟩:=h;simp only [VR] at hy;subst hy;exact⟨#[],fun _=>rfl,fun w2 _=>by simp [Builtin.firstCells],by simp [bC],by simp,by simp⟩
 ·rename_i id o len c;rw [aCX] at h;obtain⟨l,h1,h2⟩:=h;simp only [aCK] at h2;obtain⟨rfl,rfl⟩:=h2;simp only [VR] at hy;obtain⟨hid,a,cap,rfl,hlen,hc⟩:=hy;obtain⟨us,e1,e2,e3,e4⟩:=Bg (P:=P) r hid hc hlen h1;exact⟨us.toArray,fun _=>rfl,fun w2 hw=>by simp only [Builtin.firstCells]; exact e4 w2 hw,by simpa using e2,by simpa using e1,by simpa using e3⟩
 ·rename_i cs n full;rw [aCX] at h;obtain⟨l,h1,h2⟩:=h;simp only [aCK] at h2;obtain⟨rfl,rfl⟩:=h2;simp only [VR] at hy;obtain⟨b,o,cap,us,rfl,hn,hf,h4,h5,h6,h7⟩:=hy;obtain⟨g1,g2⟩:=h5.jR h1;have hl:=h5.length;have htl:(us.take (n*s)).length=n*s:=by rw [aDa]; omega
  exact⟨(us.take (n*s)).toArray,fun _=>rfl,fun w2 hw=>by simp only [Builtin.firstCells]; exact (h6.take (n*s)).loads htl w2 hw,by simpa using g1,by simpa using htl,
   fun x hx=>h7 x (aDn (by simpa using hx))⟩
 ·rename_i b;split at h
  ·rename_i hs;simp only [aCJ,aCK] at h;obtain⟨rfl,rfl⟩:=h;simp only [VR] at hy;obtain⟨rfl,hlt⟩:=hy;have hsz:(bU b).size=b.length:=mX b;have hex:(bU b).extract 0 b.length=bU b:=by rw [yT]; simp
   refine⟨(bU b).data.map fun c=>Value.int .u8 (c.toNat:Int),fun w2=>by simp [Builtin.lenOf,hsz],fun w2 _=>by simp [Builtin.firstCells,hex],?_,?_,?_⟩
   ·have:((bU b).data.map fun c=>Value.int .u8 (c.toNat:Int)).toList=(b.map UInt8.ofNat).map fun c=>Value.int .u8 (c.toNat:Int):=by simp [bU]
    rw [this];clear hex hsz this
    induction b with
    |nil=>simp [bC]
    |cons x b ih=> have hx:=hlt x (by simp);rw [aCQ,aCQ,aCQ,aT];refine⟨_,_,rfl,?_,ih fun c hc=>hlt c (by simp [hc])⟩;simp [VR,SE.den,aDG,aDy hx]
   ·simp_all
   ·intro x hx;simp only [aEG,aC4] at hx;obtain⟨c,_,rfl⟩:=hx;rfl
  grind
 grind
theorem mV {t t2 ty e s m n cap:Nat} {d2:TypeDesc} {inf:TypeInfo} {a:Option Addr} {u2:Value} {us:Array Value} {news:List AV} {w':World} (ht:P.underlying t=some (.slice e)) (ht2:P.underlying t2=some d2)
 (hd2: ∀k,d2≠.int k) (hi:P.info? e=some inf) (hs:inf.size=s) (src:Src P E w s m news u2 us) (hroom:n+m<=cap)
 (hst:match a with |some a=>(storeCells (a.add (n*s)) us.toList).run P w= .ok () w'|none=>w'=w) :
 (Builtin.append_ #[t,t2] ty #[.slice a n cap,u2]).run P w= .ok (.slice a (n+m) cap) w':=by
 have hf:=src.first w rfl;have hl:=src.len w
 cases a with
 |none=> simp only at hst;subst hst;simp [Builtin.append_,run_underlying ht,run_underlying ht2,sizeOf,typeInfo,hi,hs,hl,hroom,hf]
 |some a=> simp only at hst;simp [Builtin.append_,run_underlying ht,run_underlying ht2,sizeOf,typeInfo,hi,hs,hl,hroom,hf,hst]
theorem WL {t t2 ty e s m n cap:Nat} {d2:TypeDesc} {inf:TypeInfo} {z u u2:Value} {us olds:Array Value} {news:List AV} (ht:P.underlying t=some (.slice e)) (ht2:P.underlying t2=some d2)
 (hd2: ∀k,d2≠.int k) (hi:P.info? e=some inf) (hs:inf.size=s) (hz:inf.zero=some z) (hb:inf.bytes≠0) (src:Src P E w s m news u2 us) (hroom:cap<n+m) (hbound:(n+m)*inf.bytes<=140737488355328)
 (a:Option Addr) (hu:u= .slice a n cap) (hold: ∀w2:World,w2.heap=w.heap->(Builtin.firstCells s n u).run P w2= .ok olds w2) :
 (Builtin.append_ #[t,t2] ty #[u,u2]).run P w= .ok (.slice (some ⟨w.heap.size,0,none⟩) (n+m) (grownCap w (n+m) cap e))
  (w.drew.alloc (.cells (olds++us++Builtin.zeroCells z.cells (grownCap w (n+m) cap e-(n+m))) e)):=by
 subst hu;have hf:=src.first w.drew rfl;have ho:=hold w.drew rfl;have hl:=src.len w;have hn: ¬(n+m<=cap):=by omega
 have h48: ¬(281474976710656<Builtin.nextslicecap (n+m) cap*inf.bytes):=by
  have h1:Builtin.nextslicecap (n+m) cap*inf.bytes<=2*(n+m)*inf.bytes:=aDH _ (nextslicecap_le hroom)
  grind
 have h48': ¬(2 ^ 48<Builtin.nextslicecap (n+m) cap*inf.bytes):=h48;simp [Builtin.append_,run_underlying ht,run_underlying ht2,sizeOf,typeInfo,zeroValue,hi,hs,hz,hl,hn,hb,h48',Question.forced,ho,hf,newRow,grownCap]
theorem uP [Glob] {t t2 ty:Nat} {H H':Hp} (r:aO E H w) {ie:TI} {e n m cap:Nat} {cs news old:List AV} {v:AV} {d2:TypeDesc} {u2:Value} {us olds:Array Value} (hte:qN P e ie)
 (ht:P.underlying t=some (.slice e)) (ht2:P.underlying t2=some d2) (hd2: ∀k,d2≠.int k) (hb0:ie.bytes≠0) (hzl:ie.zero.length=ie.size)
 (src:Src P E w ie.size m news u2 us) (hroom:cap<n+m) (a:Option Addr) (hcs:cs=old++news)
 (hov:bC E w.heap old olds.toList) (ho1: ∀x∈olds.toList,x.oneCell'=true) (hos:olds.size=n*ie.size)
 (hold: ∀w2:World,w2.heap=w.heap->(Builtin.firstCells ie.size n (.slice a n cap)).run P w2= .ok olds w2) (h:qZ ie e n m cs H=some (v,H')) :
 ∃x w' E',(Builtin.append_ #[t,t2] ty #[.slice a n cap,u2]).run P w= .ok x w'/\Stp E H w E' H' w'/\aO E' H' w'/\VR E' w'.heap v x:=by
 subst hcs;unfold qZ at h;split at h
 ·rename_i hbound;simp only [aCJ,aCK] at h;obtain⟨rfl,rfl⟩:=h;obtain⟨inf,d,z,h1,h2,h3,h4,h5,h6,h7,h8⟩:=hte.all;have hz:=fC (E:=E) (h:=w.heap) h4;have hzs:z.cells.size=ie.size:=by have:=hz.1.length; simp only [aC9] at this; omega
  have hge:=grownCap_ge w (n+m) cap e;have hsrc:=src.size
  obtain⟨s1,s2⟩:=kG r (olds++us++Builtin.zeroCells z.cells (grownCap w (n+m) cap e-(n+m))) 0 0 e (hov.append src.vrs)
   (by intro x hx; rcases aDp.1 hx with hx|hx; exact ho1 x hx; exact src.ones x hx)
   (by
    intro i x hx;have hi:=(aC1.1 hx).1;rw [aE2 (by simpa using hi)];rw [<- aDk,Array.toList_append]
    exact hx)
   (by omega) (w':=w.drew.alloc (.cells (olds++us++Builtin.zeroCells z.cells (grownCap w (n+m) cap e-(n+m))) e)) rfl ⟨rfl,rfl,rfl⟩
  refine⟨_,_,_,WL (s:=ie.size) ht ht2 hd2 h1 h5 h3 (by rw [h6]; exact hb0) src hroom (by rw [h6]; exact hbound) a rfl hold,s1,s2,?_⟩;simp only [VR];refine⟨En.iP _ _ _ _,_,_,rfl,hge,?_⟩;simp only [eX,En.ext_θ_new,En.ext_κ_new];left;refine⟨trivial,?_⟩;simp only [Array.size_append,size_zeroCells,hos,hsrc,hzs,<- aDs]
  grind
 grind
set_option maxHeartbeats 800000 in
theorem Cm [Glob] {t t2 ty:Nat} {H H':Hp} (r:aO E H w) {ie:TI} {e m:Nat} {news:List AV} {x v:AV} {d2:TypeDesc} {u u2:Value} {us:Array Value} (hte:qN P e ie)
 (ht:P.underlying t=some (.slice e)) (ht2:P.underlying t2=some d2) (hd2: ∀k,d2≠.int k) (hs0:ie.size≠0) (hb0:ie.bytes≠0) (hzl:ie.zero.length=ie.size)
 (src:Src P E w ie.size m news u2 us) (hx:VR E w.heap x u) (h:vS ie e m news x H=some (v,H')) :
 ∃y w' E',(Builtin.append_ #[t,t2] ty #[u,u2]).run P w= .ok y w'/\Stp E H w E' H' w'/\aO E' H' w'/\VR E' w'.heap v y:=by
 obtain⟨inf,d,z,h1,h2,h3,h4,h5,h6,h7,h8⟩:=hte.all;have hpos:0<ie.size:=by omega
 have hnl:=src.vrs.length;have hns:=src.size;simp only [aC9] at hnl;unfold vS at h;split at h
 ·
  simp only [VR] at hx;subst hx;split at h
  ·rename_i hm;subst hm;simp only [aCJ,aCK] at h;obtain⟨rfl,rfl⟩:=h;exact⟨_,w,E,mV (s:=ie.size) ht ht2 hd2 h1 h5 src (aCN _) (by simp only),Stp.refl _ _ _,r,by simp [VR]⟩
  ·rename_i hm;exact uP (cap:=0) r hte ht ht2 hd2 hb0 hzl src (by omega) none (old:=[]) (olds:=#[]) (by simp) (by simp [bC]) (by simp) (by simp) (fun w2 _=>by simp [Builtin.firstCells]) h
 ·
  rename_i id o len c;have hx0:=hx;simp only [VR] at hx;obtain⟨hid,a,cap,rfl,hlen,hc⟩:=hx;have hcap:cap=c:=by simp only [eX] at hc; exact hc.1
  subst hcap;split at h
  ·rename_i hroom;split at h
   ·rename_i cs e' hl;split at h
    ·rename_i cs' hs;simp only [aCJ,aCK] at h;obtain⟨rfl,rfl⟩:=h;obtain⟨w',g1,g2,g3⟩:=oN (P:=P) r hl hs src.vrs src.ones
     have hst:(storeCells (a.add (len*ie.size)) us.toList).run P w= .ok () w':=by
      rcases yX hc with ha|ha
      ·rw [ha,fE,aDl]; exact g1
      ·obtain rfl:m=0:=by omega
       have hnil:us.toList= []:=aDq (by rw [aC9,hns,aDm]);rw [hnil] at g1 ⊢;exact g1
     refine⟨_,w',E,mV (s:=ie.size) ht ht2 hd2 h1 h5 src hroom hst,g2,g3,?_⟩;simp only [VR];refine⟨hid,a,cap,rfl,hroom,?_⟩;simp only [eX] at hc ⊢;exact hc
    ·simp at h
   ·simp at h
  ·rename_i hroom;split at h
   ·rename_i old hold;obtain⟨ols,f1,f2,f3,f4⟩:=Bg (P:=P) r hid hc hlen hold
    exact uP (cap:=cap) r hte ht ht2 hd2 hb0 hzl src (by omega) (some a) (old:=old) (olds:=ols.toArray) rfl (by simpa using f2) (by simpa using f3) (by simpa using f1)
     (fun w2 hw=>by simp only [Builtin.firstCells]; exact f4 w2 hw) h
   ·simp at h
 ·
  rename_i id o len es;split at h
  ·rename_i hes;subst hes;simp only [VR] at hx;obtain⟨hid,a,cap,rfl,hlen,hc⟩:=hx;split at h
   ·rename_i cs e' hl;obtain⟨arr,lo,hi,cus,b1,b2,b3,b4,b5,b6,b7⟩:=(r.live id _ hl).2.1;split at h
    ·rename_i hle;split at h
     ·rename_i cs' hs;simp only [aCJ,aCK] at h;obtain⟨rfl,rfl⟩:=h;obtain⟨w',g1,g2,g3⟩:=oN (P:=P) r hl hs src.vrs src.ones
      have hroom:len+m<=cap:=by
       simp only [eX] at hc;rcases hc with ⟨_,hc⟩|⟨rfl,rfl,hc⟩
       ·have:(len+m)*ie.size<=cap*ie.size:=by omega
        exact aEH this hpos
       ·have:(0+m)*ie.size=0:=by omega
        rcases Nat.mul_eq_zero.1 this with hh|hh<;>omega
      have hst:(storeCells (a.add (len*ie.size)) us.toList).run P w= .ok () w':=by
       rcases yX hc with ha|ha
       ·rw [ha,fE,aDl]; exact g1
       ·obtain rfl:m=0:=by omega
        have hnil:us.toList= []:=aDq (by rw [aC9,hns,aDm]);rw [hnil] at g1 ⊢;exact g1
      refine⟨_,w',E,mV (s:=ie.size) ht ht2 hd2 h1 h5 src hroom hst,g2,g3,?_⟩;simp only [VR];refine⟨hid,a,cap,rfl,hroom,?_⟩;simp only [eX] at hc ⊢;rcases hc with hc|⟨rfl,rfl,hc⟩
      ·exact .inl hc
      ·exact .inr ⟨rfl,by omega,hc⟩
     ·simp at h
    ·rename_i aBS;split at h
     ·rename_i hend;obtain⟨hend,rfl⟩:=hend;split at h
      ·rename_i old hd;obtain⟨d1,d2',d3⟩:=b2.eF hd;have hcl:=b2.length
       have hm0:m≠0:=by intro hm;subst hm;rw [aDf] at aBS;omega
       by_cases hroom:len+m<=cap
       ·
        have hfirst:a=⟨(E.θ id).1,(E.θ id).2+o,none⟩/\o+cap*ie.size=E.κ id:=by
         simp only [eX] at hc;rcases hc with hc|hc
         ·exact hc
         ·omega
        obtain⟨rfl,aCC⟩:=hfirst;unfold qZ at h;split at h
        ·simp only [aCJ,aCK] at h;obtain⟨rfl,rfl⟩:=h;have hml:len*ie.size+m*ie.size<=cap*ie.size:=by rw [<- aDs]; exact aDH _ hroom
         have hul:us.toList.length=m*ie.size:=by simpa using hns
         obtain⟨w',arr',e1,e2,e3,e4,e5,e6,e7⟩:=qG (P:=P) (E.θ id).1 ((E.θ id).2+(o+len*ie.size)) e' lo hi us.toList 0 arr w b1 b6 (by omega) src.ones
         have hst:(storeCells ((⟨(E.θ id).1,(E.θ id).2+o,none⟩ : Addr).add (len*ie.size)) us.toList).run P w= .ok () w':=by rw [fE,aDl]; exact e1
         have kp:Keeps E w.heap (E.ext H.fresh ((E.θ id).1,(E.θ id).2+o) (cap*ie.size)) w'.heap:=
          ⟨rfl,fun _ hh=> .inr hh,fun _ hh=>En.ext_θ E _ _ _ (r.xG hh),fun _ hh=>En.ext_κ E _ _ _ (r.xG hh),fun _ hh=>hh,(pJ r hl e4).Jd⟩
         have hstep:=XD r hl (.cells (old++news) e') o (cap*ie.size) e3 e4 e2 (by
          simp only [OR,En.ext_θ_new,En.ext_κ_new];refine⟨arr',lo,hi,cus.drop o++us.toList,e5,bC.keep kp _ _ (d1.append src.vrs),?_,?_,by omega,by rw [e6]; exact b6,?_⟩
          ·intro i y hy;rw [e7];have hdl:(cus.drop o).length=len*ie.size:=by rw [aDg]; omega
           rw [aEB] at hy;split at hy
           ·rename_i hi';rw [aCI (by omega)];rw [aDJ] at hy;rw [aDl];exact b3 _ _ hy
           ·rename_i hi';have hi2:=(aC1.1 hy).1;rw [aCL (by omega)];rw [show (E.θ id).2+o+i-((E.θ id).2+(o+len*ie.size)+0)=i-(cus.drop o).length from by omega];exact hy
          ·rw [aC5,d3]; omega
          ·intro y hy;rcases aDp.1 hy with hy|hy
           ·exact b7 y (aDh hy)
           ·exact src.ones y hy)
         refine⟨_,w',_,mV (s:=ie.size) ht ht2 hd2 h1 h5 src hroom hst,hstep.1,hstep.2,?_⟩;simp only [VR,show (H.drop id).fresh=H.fresh from rfl];refine⟨En.iP _ _ _ _,_,_,rfl,hroom,?_⟩;simp only [eX,En.ext_θ_new,En.ext_κ_new];left;exact⟨by simp,by omega⟩
        ·simp at h
       ·
        have hread:qH H (.ptr id o) (len*ie.size)=some old:=by
         simp only [qH,hl,hd];have:len*ie.size=old.length:=by omega
         rw [this];clear h hd d1 d3 this
         induction old with
         |nil=>rfl
         |cons y ys ih=>simp [As.jR,ih]
        obtain⟨ols,f1,f2,f3,f4⟩:=Bg (P:=P) r hid hc hlen hread;obtain⟨q1,q2⟩:=drop_step r id;have src':Src P E w ie.size m news u2 us:=src
        obtain⟨y,w',E',p1,p2,p3,p4⟩:=uP (t:=t) (t2:=t2) (ty:=ty) (cap:=cap) q2 hte ht ht2 hd2 hb0 hzl src' (by omega) (some a) (old:=old) (olds:=ols.toArray) rfl (by simpa using f2) (by simpa using f3) (by simpa using f1)
         (fun w2 hw=>by simp only [Builtin.firstCells]; exact f4 w2 hw) h
        exact⟨y,w',E',p1,q1.trans p2,p3,p4⟩
      ·simp at h
     ·simp at h
   ·simp at h
  ·simp at h
 ·
  rename_i cs n full;have hx0:=hx;simp only [VR] at hx;obtain⟨b,o,cap,cus,rfl,hn,hf,g4,g5,g6,g7⟩:=hx;split at h
  ·rename_i hm;subst hm;simp only [aCJ,aCK] at h;obtain⟨rfl,rfl⟩:=h;have hnil:us.toList= []:=aDq (by rw [aC9,hns,aDm]);exact⟨_,w,E,mV (s:=ie.size) ht ht2 hd2 h1 h5 src (by omega) (by simp only [hnil]; rfl),Stp.refl _ _ _,r,hx0⟩
  ·rename_i hm;split at h
   ·rename_i hfull;have hcap:=hf hfull;subst hcap;split at h
    ·rename_i old hold;obtain⟨j1,j2⟩:=g5.jR hold;have hcl:=g5.length;have htl:(cus.take (cap*ie.size)).length=cap*ie.size:=by rw [aDa]; omega
     exact uP (cap:=cap) r hte ht ht2 hd2 hb0 hzl src (by omega) (some ⟨b,o,none⟩) (old:=old) (olds:=(cus.take (cap*ie.size)).toArray) rfl (by simpa using j1)
      (fun x hx=>g7 x (aDn (by simpa using hx))) (by simpa using htl)
      (fun w2 hw=>by simp only [Builtin.firstCells]; exact (g6.take _).loads htl w2 hw) h
    ·simp at h
   ·simp at h
 ·simp at h
theorem V9 [Glob] {tt:TT} (htt:dU P tt) {H H':Hp} (r:aO E H w) {t t2 ty:Nat} {x y v:AV} {u u2:Value} (hx:VR E w.heap x u) (hy:VR E w.heap y u2) (h:Ns tt t t2 x y H=some (v,H')) :
 ∃z w' E',(Builtin.append_ #[t,t2] ty #[u,u2]).run P w= .ok z w'/\Stp E H w E' H' w'/\aO E' H' w'/\VR E' w'.heap v z:=by
 unfold Ns at h;split at h
 ·rename_i ti hti;split at h
  ·rename_i e hk;split at h
   ·rename_i ie hie;split at h
    ·grind
    ·rename_i ti2 ahN;obtain⟨d2,hd2,hk2⟩:=yG (htt t2 ti2 ahN);split at h
     ·grind
     ·rename_i k2 hne;split at h
      ·grind
      ·rename_i hcond;simp only [not_or,Classical.not_not] at hcond;split at h
       ·grind
       ·rename_i m news hsrc;obtain⟨us,src⟩:=wE (P:=P) r hy hsrc;refine Cm r (htt e ie hie) (fH (htt t ti hti) hk) hd2 ?_ hcond.1 hcond.2.1 hcond.2.2 src hx h;intro k hd;subst hd;cases hkk:ti2.kind<;>rw [hkk] at hk2<;>simp only [Rw] at hk2
        grind
   grind
  grind
 grind
end
section
variable {P:Program} {E:En} {w:World}
theorem Yz [Glob] {tt:TT} (htt:dU P tt) {H H':Hp} (r:aO E H w) {t ty:Nat} {x:AV} {u:Value} (hx:VR E w.heap x u) (h:Ug tt t x H=some H') :
 ∃w',(Builtin.clear_ #[t] ty #[u]).run P w= .ok (.tuple #[]) w'/\Stp E H w E H' w'/\aO E H' w':=by
 unfold Ug at h;split at h
 ·rename_i ti hti;split at h
  ·rename_i e hk;have hu:=fH (htt t ti hti) hk;split at h
   ·rename_i ie hie;obtain⟨inf,d,z,h1,h2,h3,h4,h5,h6,h7,h8⟩:=(htt e ie hie).all;have hz:=fC (E:=E) (h:=w.heap) h4;split at h
    ·simp at h;subst h;simp only [VR] at hx;subst hx;exact⟨w,by simp [Builtin.clear_,run_underlying hu],Stp.refl _ _ _,r⟩
    ·simp at h;subst h;simp only [VR] at hx;obtain⟨⟨x,rfl⟩,_⟩:=hx;exact⟨w,by cases x<;>simp [Builtin.clear_,run_underlying hu],Stp.refl _ _ _,r⟩
    ·rename_i id o len c;simp only [VR] at hx;obtain⟨hid,a,cap,rfl,hlen,hc⟩:=hx;split at h
     ·simp at h;subst h;exact⟨w,by simp [Builtin.clear_,run_underlying hu],Stp.refl _ _ _,r⟩
     ·rename_i hl0;split at h
      ·grind
      ·rename_i hne;split at h
       ·rename_i cs e' hl;split at h
        ·rename_i cs' hs;simp at h;subst h
         have ha:a=⟨(E.θ id).1,(E.θ id).2+o,none⟩:=by
          grind [yX]
         have auX:z.cells.toList≠[]:=by
          intro hx;have:=hz.1.length
          grind
         have hzc:(Builtin.zeroCells z.cells len).toList=repeatL z.cells.toList len:=A8 z.cells auX len;obtain⟨w',g1,g2,g3⟩:=oN (P:=P) r hl hs (pI hz.1 len) (fun u hu=>hz.2 u (pG hu));refine⟨w',?_,g2,g3⟩;subst ha;obtain⟨l,rfl⟩ : ∃l,len=l+1:=⟨len-1,by have:len≠0:=fun hh=>hl0 hh; omega⟩;simp [Builtin.clear_,run_underlying hu,zeroValue,typeInfo,h1,h3,hzc,g1]
        grind
       grind
    grind
   grind
  grind
 grind
theorem Yk [Glob] {tt:TT} (htt:dU P tt) {H H':Hp} (r:aO E H w) {t:Nat} {x v:AV} {u:Value} (hx:VR E w.heap x u) (h:TU tt t x H=some (v,H')) :
 ∃y w' E',(Instr.range t u).run P w= .ok y w'/\Stp E H w E' H' w'/\aO E' H' w'/\VR E' w'.heap v y:=by
 unfold TU at h;split at h
 ·rename_i ti hti;split at h
  ·rename_i hk;split at h
   ·rename_i b;simp only [aCJ,aCK] at h;obtain⟨rfl,rfl⟩:=h;simp only [VR] at hx;obtain⟨rfl,hlt⟩:=hx
    obtain⟨s1,s2⟩:=BD r (.stringIter (bU b) 0) (.lY b 0) 0 (w':=w.iter (bU b) 0) rfl ⟨rfl,rfl,rfl⟩ (by
     simp only [OR,En.ext_θ_new]
     exact⟨World.iter_heap _ _ _,trivial,hlt⟩)
    exact⟨_,_,_,run_range_string w t (bU b) (gG (htt t ti hti) hk),s1,s2,Sv r 0 _ 0⟩
   grind
  grind
 grind
theorem acW [Glob] {H H':Hp} (r:aO E H w) {x v:AV} {u:Value} {isS:Bool} (hx:VR E w.heap x u) (h:Ym x isS H=some (v,H')) (ty:Nat) :
 ∃y w',(Instr.next u isS ty).run P w= .ok y w'/\Stp E H w E H' w'/\aO E H' w'/\VR E w'.heap v y:=by
 unfold Ym at h;split at h
 ·grind
 ·split at h
  ·rename_i id;split at h
   ·rename_i b p hl;obtain⟨g1,g2,g3⟩:=(r.live id _ hl).2.1;simp only [VR] at hx;obtain⟨rfl,hid⟩:=hx;rw [g2];have hg:=iO (P:=P) g1 (by simp);split at h
    ·rename_i hn;simp only [aCJ,aCK] at h;obtain⟨rfl,rfl⟩:=h;rw [bW,aD8] at hn;have hp: ¬p<(bU b).size:=by rw [mX]; omega
     refine⟨.tuple #[.bool false],w,?_,Stp.refl _ _ _,r,?_⟩
     ·simp [Instr.next,hg,hp]
     ·simp only [VR,bC]; exact⟨[.bool false],rfl,_,_,rfl,by simp [SB.den],rfl⟩
    ·rename_i c hn;split at h
     ·rename_i hc;simp only [aCJ,aCK] at h;obtain⟨rfl,rfl⟩:=h;rw [bW] at hn;have hpl:=(aC1.1 hn).1;have hp:p<(bU b).size:=by rw [mX]; exact hpl
      have hb:(bU b)[p]'hp=UInt8.ofNat c:=by
       have h1:(bU b)[p]?=some ((bU b)[p]'hp):=getElem?_pos (bU b) p hp
       grind [KZ]
      have hbn:((bU b)[p]'hp).toNat=c:=by rw [hb]; simp; omega
      have hdec:=decode_ascii (bU b) p hp (by rw [hbn]; exact hc)
      obtain⟨s1,s2⟩:=jT r hl (.lY b (p+1)) (.stringIter (bU b) (p+1)) (by
       intro h' hh _
       exact⟨hh,g2,g3⟩)
      refine⟨.tuple #[.bool true,goInt p,.int .i32 ((bU b)[p]'hp).toNat],_,?_,s1,s2,?_⟩
      ·simp only [Instr.next,Sem.run_bind,hg,Result.andThen_ok,hp,if_true,hdec,jD (P:=P) g1 (by simp),Sem.run_pure]
      ·simp only [VR,bC,hbn];exact⟨_,rfl,_,_,rfl,by simp [SB.den],_,_,rfl,by simp [SE.den,goInt],_,_,rfl,by simp [SE.den],rfl⟩
     grind
   grind
  grind
theorem SA {ρ:Nat->Int} {pc:List (SB×Bool)} (hp:aW ρ pc) {c:SB} {b:Bool} (h:c.den ρ=b):aW ρ ((c,b)::pc):=by
 intro d x hm;rcases aCP.1 hm with hm|hm
 ·grind
 ·exact hp d x hm
theorem bG {α:Type} {ρ:Nat->Int} {s:St} (hp:aW ρ s.pc) {c:SB} {f:St->Bool->T α} {r:α} (h:(lT s c f).leaf ρ=some r) :
 ∃pc',aW ρ pc'/\(f { s with pc:=pc' } (c.den ρ)).leaf ρ=some r:=by
 unfold lT at h;split at h
 ·rename_i b hb;exact⟨s.pc,hp,by rw [iQ hp hb]; exact h⟩
 ·split at h
  ·rename_i d;simp only [T.leaf] at h;split at h
   ·rename_i hc;exact⟨_,SA hp hc,by simp only [SB.den,hc]; exact h⟩
   ·rename_i hc;exact⟨_,SA hp hc,by simp only [SB.den,hc]; exact h⟩
  ·simp only [T.leaf] at h
   grind [SA]
theorem T.fK {α β:Type} {ρ:Nat->Int} {f:α->T β} {r:β}: ∀{x:T α},(x.bind f).leaf ρ=some r->∃a,x.leaf ρ=some a/\(f a).leaf ρ=some r
 | .fail,h=>by simp [T.bind,T.leaf] at h
 | .ret a,h=> ⟨a,rfl,h⟩
 | .split c x y,h=>by simp only [T.bind,T.leaf] at h ⊢;split at h<;>exact T.fK h
theorem rC {mx:Bool}: ∀{xs:List AV} {a:SE} {k:IntKind} {s s':St} {us:List Value} {v:AV},aW E.ρ s.pc->bC E w.heap xs us->(zX mx xs a k s).leaf E.ρ=some (v,s')->
 s'.h=s.h/\s'.slots=s.slots/\aW E.ρ s'.pc/\∃u,(us.foldlM (if mx then Builtin.max2 else Builtin.min2) (.int k (a.den E.ρ))).run P w= .ok u w/\VR E w.heap v u
 |[],a,k,s,s',us,v,hp,hv,h=>by simp only [zX,T.leaf,aCJ,aCK] at h;obtain⟨rfl,rfl⟩:=h;rw [jI] at hv;subst hv;exact⟨rfl,rfl,hp,_,rfl,by simp only [VR]⟩
 |x::xs,a,k,s,s',us,v,hp,hv,h=>by
  rw [aT] at hv;obtain⟨u,vs,rfl,hx,hxs⟩:=hv;cases x<;>simp only [zX,T.leaf,reduceCtorEq] at h;rename_i k' b;simp only [VR] at hx;subst hx;obtain⟨pc',hp',h1⟩:=bG hp h;cases mx
  ·simp only [aCU,if_false,dJ] at h1 ⊢;by_cases hc:b.den E.ρ<a.den E.ρ
   ·simp only [hc,decide_true,if_true] at h1;obtain⟨q1,q2,q3,u,q4,q5⟩:=rC hp' hxs h1;refine⟨q1,q2,q3,u,?_,q5⟩;simp only [aEn,Sem.run_bind,Builtin.min2,Sem.run_pure,Result.andThen_ok,hc,if_true]
    grind
   ·simp only [hc,decide_false,aCU,if_false] at h1;obtain⟨q1,q2,q3,u,q4,q5⟩:=rC hp' hxs h1;refine⟨q1,q2,q3,u,?_,q5⟩;simp only [aEn,Sem.run_bind,Builtin.min2,Sem.run_pure,Result.andThen_ok,hc,if_false]
    grind
  ·simp only [if_true,dJ] at h1 ⊢;by_cases hc:a.den E.ρ<b.den E.ρ
   ·simp only [hc,decide_true,if_true] at h1;obtain⟨q1,q2,q3,u,q4,q5⟩:=rC hp' hxs h1;refine⟨q1,q2,q3,u,?_,q5⟩;simp only [aEn,Sem.run_bind,Builtin.max2,Sem.run_pure,Result.andThen_ok,gt_iff_lt,hc,if_true]
    grind
   ·simp only [hc,decide_false,aCU,if_false] at h1;obtain⟨q1,q2,q3,u,q4,q5⟩:=rC hp' hxs h1;refine⟨q1,q2,q3,u,?_,q5⟩;simp only [aEn,Sem.run_bind,Builtin.max2,Sem.run_pure,Result.andThen_ok,gt_iff_lt,hc,if_false]
    grind
end
section
variable {P:Program} {E:En} {w:World}
theorem abI (ρ:Nat->Int) (a b:SB):(afX a b).den ρ=(a.den ρ&&b.den ρ):=by unfold afX;split<;>simp [SB.den]
theorem adC {i:TI} {t:Nat} (hti:qN P t i) {x y:AV} {u v:Value} (hx:VR E w.heap x u) (hy:VR E w.heap y v) {c:SB} (h:YD i.kind x y=some c) (d:Nat) :
 (Op.equalIn (d+1) t u v).run P w= .ok (c.den E.ρ) w/\u.oneCell'=true/\v.oneCell'=true/\i.agg=false:=by
 unfold YD at h;split at h
 ·rename_i k hk;split at h
  ·split at h
   ·rename_i hkk;subst hkk;simp at h;subst h;simp only [VR] at hx hy;subst hx hy;exact⟨by rw [run_equalIn_int w d t _ _ _ _ (yS hti hk),jE],rfl,rfl,by simp [TI.agg,TK.agg,hk]⟩
   grind
  grind
 ·rename_i hk;split at h
  ·simp at h;subst h;simp only [VR] at hx hy;obtain⟨rfl,hx⟩:=hx;obtain⟨rfl,hy⟩:=hy;exact⟨by rw [run_equalIn_string w d t _ _ (gG hti hk),Zc hx hy]; rfl,rfl,rfl,by simp [TI.agg,TK.agg,hk]⟩
  ·obtain⟨a,b,rfl,rfl,hd⟩:=KY hx hy h;exact⟨by rw [run_equalIn_string w d t _ _ (gG hti hk),Em,hd],rfl,rfl,by simp [TI.agg,TK.agg,hk]⟩
 ·rename_i hk;split at h
  ·simp only [VR] at hx hy;subst hx hy;exact⟨by rw [run_equalIn_bool' w d t _ _ (UZ hti hk),Jv h],rfl,rfl,by simp [TI.agg,TK.agg,hk]⟩
  grind
 grind
theorem Z9 {tt:TT} (htt:dU P tt) {xs ys:List AV} {us vs:List Value} (hx:bC E w.heap xs us) (hy:bC E w.heap ys vs) (d:Nat): ∀{DV:List Field} {l:List (Nat×Nat×Nat)} {c:SB},
 (DV.mapM fun f=>(P.info? f.type).map fun i=>(f.offset,f.type,i.size))=some l->(∀f∈DV,f.name≠ "_")->aiM tt xs ys l=some c->
 (Op.eqFields (d+1) us.toArray vs.toArray DV).run P w= .ok (c.den E.ρ) w
 |[],l,c,hm,_,h=>by simp at hm;subst hm;simp [aiM] at h;subst h;simp [Op.eqFields,SB.den]
 |f::DV,l,c,hm,hn,h=>by
  simp only [aD6,aEA,aEl] at hm;obtain⟨p,h1,ls,h2,h3⟩:=hm;simp only [pure,aCJ] at h3;subst h3;rw [aCX] at h1;obtain⟨inf,aCE,rfl⟩:=h1;simp only [aiM] at h;split at h
  ·grind
  ·rename_i i hi;split at h
   ·rename_i x y hxn hyn;split at h
    ·grind
    ·rename_i c1 hc1;split at h
     ·grind
     ·rename_i c2 hc2;simp at h;subst h;obtain⟨u,hu1,hu2⟩:=hx.nth hxn;obtain⟨v,hv1,hv2⟩:=hy.nth hyn;obtain⟨e1,e2,e3,e4⟩:=adC (w:=w) (htt f.type i hi) hu2 hv2 hc1 d;have ih:=Z9 htt hx hy d h2 (fun g hg=>hn g (by simp [hg])) hc2;have p1:(part f.type us.toArray f.offset).run P w= .ok u w:=by simp [part,uO (htt f.type i hi),e4,hu1]
      have p2:(part f.type vs.toArray f.offset).run P w= .ok v w:=by simp [part,uO (htt f.type i hi),e4,hv1]
      simp only [Op.eqFields];rw [aCL (hn f (by simp))];simp only [Sem.run_bind,p1,p2,e1,Result.andThen_ok,abI];cases hcd:c1.den E.ρ
      ·simp
      grind
   grind
theorem Nq {tt:TT} (htt:dU P tt) {t:Nat} {xs ys:List AV} {us vs:List Value} {c:SB} (hx:bC E w.heap xs us) (hy:bC E w.heap ys vs) (h:Ky tt t xs ys=some c) (op:BinOp) (x y:Operand) :
 (eqGuard op t x y (.agg us.toArray) (.agg vs.toArray)).run P w= .ok () w/\(binOp .eql t (.agg us.toArray) (.agg vs.toArray)).run P w= .ok (.bool (c.den E.ρ)) w/\(binOp .neq t (.agg us.toArray) (.agg vs.toArray)).run P w= .ok (.bool (!(c.den E.ρ))) w:=by
 unfold Ky at h;split at h
 ·grind
 ·rename_i i hi;split at h
  ·rename_i fs hk;split at h
   ·rename_i hq;have hti:=htt t i hi;have he:=hti.eqs hq;obtain⟨DV,hu,hm⟩:=Ej hti hk;unfold aiL at he;rw [hu] at he;simp only [aCM,aDC,aC0,bne_iff_ne,ne_eq] at he;obtain⟨⟨h1,h2⟩,h3⟩:=he;have hf:P.fieldsOf t=DV:=by simp [Program.fieldsOf,hu]
    have h10:(10000:Nat)=9998+1+1:=rfl
    have key:(Op.equalIn 10000 t (.agg us.toArray) (.agg vs.toArray)).run P w= .ok (c.den E.ρ) w:=by rw [h10];generalize (9998:Nat)=n;rw [run_equalIn_struct w (n+1) t _ _ (by rw [hf]; exact hu) h1,hf];exact Z9 htt hx hy n hm (fun f hf=>(h3 f hf).1) h
    refine⟨run_eqGuard_agg w op t x y _ _ h2,?_,?_⟩
    ·rw [run_eql_struct,key]; rfl
    ·rw [run_neq_struct,key]; rfl
   grind
  grind
def After [Glob] (E:En) (s:St) (w:World) (v:AV) (s':St) (u:Value) (w':World):Prop:= ∃E',Stp E s.h w E' s'.h w'/\aO E' s'.h w'/\VR E' w'.heap v u
def nK [Glob] (P:Program) (E:En) (s:St) (o:Oper) (a:Act) (w:World) (v:AV) (s':St):Prop:=
 s'.slots=s.slots/\aW E.ρ s'.pc/\vW P o a w (After E s w v s')
theorem aC {α:Type} {ρ:Nat->Int} {a b:α} (h:(T.ret a).leaf ρ=some b):a=b:=by simpa [T.leaf] using h
theorem iY {s:St} {a:Act} {x:Operand} {f:AV->T (AV×St)} {r:AV×St} (sr:SR E w.heap s.slots a) (h:(Hq s x f).leaf E.ρ=some r): ∃v,VR E w.heap v (a.eval x)/\(f v).leaf E.ρ=some r:=by
 unfold Hq at h;split at h
 ·rename_i v hv; exact⟨v,iG sr hv,h⟩
 ·simp [T.leaf] at h
theorem kN {s s':St} {v:AV} {r:Option AV} {ρ:Nat->Int} (h:(yB s r).leaf ρ=some (v,s')):r=some v/\s'=s:=by
 unfold yB at h;split at h
 ·have:=aC h; simp only [aCK] at this; exact⟨by rw [this.1],this.2.symm⟩
 ·simp [T.leaf] at h
theorem FI {s s':St} {v:AV} {r:Option Hp} {ρ:Nat->Int} (h:(XB s r).leaf ρ=some (v,s')): ∃H,r=some H/\v=AV.undef/\s'= { s with h:=H }:=by
 unfold XB at h;split at h
 ·rename_i H; have:=aC h; simp only [aCK] at this; exact⟨H,rfl,this.1.symm,this.2.symm⟩
 ·simp [T.leaf] at h
theorem uY {s s':St} {v:AV} {r:Option (AV×Hp)} {ρ:Nat->Int} (h:(Je s r).leaf ρ=some (v,s')): ∃H,r=some (v,H)/\s'= { s with h:=H }:=by
 unfold Je at h;split at h
 ·rename_i x H; have:=aC h; simp only [aCK] at this; obtain⟨rfl,rfl⟩:=this; exact⟨H,rfl,rfl⟩
 ·simp [T.leaf] at h
theorem nX {h:Array Obj}:VR E h AV.undef undef:=by simp only [AV.undef,VR,bC]; exact⟨[],rfl,rfl⟩
variable {s s':St} {o:Oper} {a:Act} {v:AV}
theorem nK.pure [Glob] (hp:aW E.ρ s.pc) (r:aO E s.h w) {u:Value} (h:(execOp a.eval o).run P w= .ok (.value u) w) (hv:VR E w.heap v u):nK P E s o a w v s:=
 ⟨rfl,hp,vW.value h ⟨E,Stp.refl _ _ _,r,hv⟩⟩
theorem nK.heap [Glob] {H':Hp} {E':En} {w':World} (hp:aW E.ρ s.pc) {u:Value} (h:(execOp a.eval o).run P w= .ok (.value u) w') (h1:Stp E s.h w E' H' w') (h2:aO E' H' w') (hv:VR E' w'.heap v u) :
 nK P E s o a w v { s with h:=H' }:=
 ⟨rfl,hp,vW.value h ⟨E',h1,h2,hv⟩⟩
end
theorem ET {α:Type} {ρ:Nat->Int} {kk:TK} {k:AV} {r:α} {f:St->T α}: ∀{es:List (AV×AV×Nat)} {s:St},aW ρ s.pc->(Ak kk k es s f).leaf ρ=some r->∃pc',aW ρ pc'/\(f { s with pc:=pc' }).leaf ρ=some r
 |[],s,hp,h=> ⟨s.pc,hp,h⟩
 |(k',v,b)::es,s,hp,h=>by
  simp only [Ak] at h;split at h
  ·split at h
   ·exact⟨s.pc,hp,h⟩
   ·exact ET hp h
  ·split at h
   ·obtain⟨pc1,hp1,h1⟩:=bG hp h;split at h1
    ·grind
    ·obtain⟨pc2,hp2,h2⟩:=ET (s:={ s with pc:=pc1 }) hp1 h1
     grind
   ·exact⟨s.pc,hp,h⟩
theorem wB {α:Type} {ρ:Nat->Int} {tt:TT} {t:Nat} {m k:AV} {r:α} {f:St->T α} {s:St} (hp:aW ρ s.pc) (h:(rW tt t m k s f).leaf ρ=some r): ∃pc',aW ρ pc'/\(f { s with pc:=pc' }).leaf ρ=some r:=by
 unfold rW at h;split at h
 ·split at h
  ·split at h
   ·split at h
    ·exact ET hp h
    ·exact⟨s.pc,hp,h⟩
   ·exact⟨s.pc,hp,h⟩
  ·exact⟨s.pc,hp,h⟩
 ·exact⟨s.pc,hp,h⟩
theorem Wi {ρ:Nat->Int} {k:IntKind} {e:SE} {f:AV->St->T (AV×St)} {r:AV×St}: ∀(n j:Nat) {s:St},aW ρ s.pc->(j:Int)<=e.den ρ->e.den ρ<(j:Int)+n->(Wj k e f n j s).leaf ρ=some r->
 ∃(i:Nat) (pc':List (SB×Bool)),aW ρ pc'/\e.den ρ=(i:Int)/\(f (.int k (.lit (Int.ofNat i))) { s with pc:=pc' }).leaf ρ=some r
 |0,j,s,_,_,_,h=>by simp [Wj,T.leaf] at h
 |n+1,j,s,hp,h1,h2,h=>by
  simp only [Wj] at h;split at h
  ·exact⟨j,s.pc,hp,by omega,h⟩
  ·obtain⟨pc1,hp1,h3⟩:=bG hp h;rw [jE] at h3;split at h3
   ·rename_i he;simp only [SE.den,beq_iff_eq] at he
    grind
   ·rename_i he;simp only [SE.den,beq_eq_false_iff_ne,ne_eq] at he;have hj:(Int.ofNat j)=(j:Int):=rfl;rw [hj] at he;obtain⟨i,pc2,hp2,q1,q2⟩:=Wi n (j+1) (s:={ s with pc:=pc1 }) hp1 (by push_cast; omega) (by push_cast at h2 ⊢; omega) h3
    grind
theorem rM {α:Type} {ρ:Nat->Int} {s:St} (hp:aW ρ s.pc) {i n:SE} {f:St->T α} {r:α} (h:(FT s i n f).leaf ρ=some r) :
 ∃pc',aW ρ pc'/\0<=i.den ρ/\i.den ρ<n.den ρ/\(f { s with pc:=pc' }).leaf ρ=some r:=by
 unfold FT at h;obtain⟨pc1,hp1,h1⟩:=bG hp h;split at h1
 ·simp [T.leaf] at h1
 ·rename_i e1;rw [dJ,decide_eq_false_iff_not] at e1;obtain⟨pc2,hp2,h2⟩:=bG (s:={ s with pc:=pc1 }) hp1 h1;split at h2
  ·rename_i e2;rw [dJ,decide_eq_true_eq] at e2;simp only [SE.den,aDN] at e1
   grind
  ·simp [T.leaf] at h2
theorem Hg {E:En} {h0:Array Obj} {tt:TT} {t:Nat} {x ix:AV} {ui:Value} {f:AV->St->T (AV×St)} {r:AV×St} {s:St} (hp:aW E.ρ s.pc) (hix:VR E h0 ix ui) (h:(Rn tt t x ix s f).leaf E.ρ=some r) :
 ∃ix' pc',aW E.ρ pc'/\VR E h0 ix' ui/\(f ix' { s with pc:=pc' }).leaf E.ρ=some r:=by
 unfold Rn at h;split at h
 ·exact⟨ix,s.pc,hp,hix,h⟩
 ·split at h
  ·rename_i k e _;split at h
   ·rename_i n hn;obtain⟨pc1,hp1,h1,h2,h3⟩:=rM hp h;simp only [SE.den] at h2;obtain⟨i,pc2,hp2,q1,q2⟩:=Wi n 0 (s:={ s with pc:=pc1 }) hp1 (by simpa using h1) (by simpa using h2) h3;refine⟨_,pc2,hp2,?_,q2⟩;simp only [VR,SE.den] at hix ⊢
    grind
   ·simp [T.leaf] at h
  ·simp [T.leaf] at h
theorem PD {ro:Nat->Prop} {h:Array Obj} {t:Nat} {d:D} {v:Value} (r:Rd ro h (.sl t) d v):(0<d.l.length->∃a n cap,v= .slice (some a) n cap)/\(d= .i 1->v= .slice none 0 0)/\(d= .i 2->∃a n cap,v= .slice (some a) n cap):=by
 generalize hc:CK.sl t=c at r
 cases r with
 |int k n=>simp at hc
 |bool b=>simp at hc
 |str s=>simp at hc
 |nil t=>exact⟨by simp [D.l],fun _=>rfl,by simp⟩
 |non t a cap=>exact⟨by simp [D.l],by simp,fun _=> ⟨a,0,cap,rfl⟩⟩
 |one t c b o cap ds f hr hcp hb h1 h2=>exact⟨fun _=> ⟨_,_,_,rfl⟩,fun q=>by cases ds<;>simp [dL] at q,fun q=>by cases ds<;>simp [dL] at q⟩
 |many t cs b o cap rows f hr hcp hb hl h1 h2=>exact⟨fun _=> ⟨_,_,_,rfl⟩,fun q=>by cases rows<;>simp [dL] at q,fun q=>by cases rows<;>simp [dL] at q⟩
theorem SK {P:Program} {E:En} {w:World} {tt:TT} (htt:dU P tt) {t e:Nat} {ti:TI} (hti:tt t=some ti) (hk:ti.kind= .slice e) {u:Value} {b:Bool} (hu:(b=true/\u= .slice none 0 0)\/(b=false/\∃a n cap,u= .slice (some a) n cap)) {s s':St} {op:BinOp} {v:AV} {ρ:Nat->Int}
 (h:(agR s op b).leaf ρ=some (v,s')):s'=s/\∃y,(binOp op t u (.slice none 0 0)).run P w= .ok y w/\VR E w.heap v y/\(∀cs ds,¬(u= .agg cs/\(Value.slice none 0 0)= .agg ds))/\¬(u= .nilIface/\(Value.slice none 0 0)= .nilIface):=by
 obtain⟨d,h1,h2⟩:=yG (htt t ti hti);rw [hk] at h2
 have he:(Op.equal t u (.slice none 0 0)).run P w= .ok b w:=by have hm:Op.equal t u (.slice none 0 0)=Op.equalIn (9999+1) t u (.slice none 0 0):=rfl;rw [hm];generalize (9999:Nat)=n;cases d<;>simp only [Rw] at h2;rcases hu with ⟨rfl,rfl⟩|⟨rfl,a,m,cap,rfl⟩ <;>simp [Op.equalIn,Fz h1]
 have hns:(∀k n,u≠.int k n)/\(∀s,u≠.string s)/\(∀k n,u≠.float k n)/\(∀k n m,u≠.complex k n m):=by
  grind
 obtain⟨q1,q2⟩:=binOp_eql he hns.1 hns.2.1 hns.2.2.1 hns.2.2.2;unfold agR at h;split at h
 ·simp only [T.leaf,aCJ,aCK] at h;obtain⟨rfl,rfl⟩:=h;exact⟨rfl,_,q1,by simp only [VR,SB.den],by simp,by simp⟩
 ·simp only [T.leaf,aCJ,aCK] at h;obtain⟨rfl,rfl⟩:=h;exact⟨rfl,_,q2,by simp only [VR,SB.den],by simp,by simp⟩
 ·simp [T.leaf] at h
theorem anF {P:Program} {E:En} {w:World} {tt:TT} (htt:dU P tt) {t:Nat} {a b:AV} {e:SE} (hn:XO tt t a b=some e) {u u':Value} (ha:VR E w.heap a u) (hb:VR E w.heap b u') {s s':St} (hp:aW E.ρ s.pc) {op:BinOp} {v:AV} (h:(auK s e op).leaf E.ρ=some (v,s')) :
 s'.slots=s.slots/\s'.h=s.h/\aW E.ρ s'.pc/\∃y,(binOp op t u u').run P w= .ok y w/\VR E w.heap v y/\(∀cs ds,¬(u= .agg cs/\u'= .agg ds))/\¬(u= .nilIface/\u'= .nilIface):=by
 unfold XO at hn;split at hn
 ·split at hn
  ·split at hn
   ·rename_i ti hti;split at hn
    ·rename_i el hk;simp only [aCJ] at hn;subst hn;simp only [VR] at ha hb;subst hb;obtain⟨k1,k2,k3⟩:=PD ha;unfold auK at h;obtain⟨pc1,hp1,h1⟩:=bG hp h;split at h1
     ·rename_i t1;rw [dJ,decide_eq_true_eq,bD] at t1;simp only [SE.den] at t1;obtain⟨rfl,q⟩:=SK (P:=P) (E:=E) (w:=w) htt hti hk (.inr ⟨rfl,k1 (by omega)⟩) h1
      grind
     ·obtain⟨pc2,hp2,h2⟩:=bG (s:={ s with pc:=pc1 }) hp1 h1;split at h2
      ·rename_i t2;rw [jP,oO,beq_iff_eq] at t2;simp only [SE.den] at t2;obtain⟨rfl,q⟩:=SK (P:=P) (E:=E) (w:=w) htt hti hk (.inl ⟨rfl,k2 (kP t2)⟩) h2
       grind
      ·obtain⟨pc3,hp3,h3⟩:=bG (s:={ s with pc:=pc2 }) hp2 h2;split at h3
       ·rename_i t3;rw [jP,oO,beq_iff_eq] at t3;simp only [SE.den] at t3;obtain⟨rfl,q⟩:=SK (P:=P) (E:=E) (w:=w) htt hti hk (.inr ⟨rfl,k3 (kP t3)⟩) h3
        grind
       ·simp [T.leaf] at h3
    grind
   grind
  grind
 grind
section
variable {P:Program} {E:En} {w:World}
theorem aO.swap [Glob] {H H2:Hp} (r:aO E H w) {id:Nat} {o o':dG} (hl:H.get id=some o) (ho:OR E w.heap id o') (hg:H2.get id=some o') (hs: ∀j,j≠id->H2.get j=H.get j) (hn:H2.next=H.next) (hr:H2.res=H.res):aO E H2 w:=by
 have key: ∀j x,H2.get j=some x->∃y,H.get j=some y:=by
  intro j x hj
  grind
 refine⟨fun i hi=>r.fresh i (by rw [<- hn]; exact hi),fun q hq=>by rw [hn]; exact r.res q (by rw [<- hr]; exact hq),fun j x hj=>?_,fun i j x y hi hj he=>?_,r.xC,r.glob,?_⟩
 ·by_cases h:j=id
  ·subst h;rw [hg] at hj;simp only [aCJ] at hj;subst hj;exact⟨(r.live j o hl).1,ho,(r.live j o hl).2.2⟩
  ·exact r.live j x (by rw [<- hs j h]; exact hj)
 ·obtain⟨x',hx⟩:=key i x hi;obtain⟨y',hy⟩:=key j y hj;exact r.inj i j x' y' hx hy he
 ·intro b x hb;obtain⟨q1,q2,q3⟩:=r.hid b x hb;refine⟨q1,q2,fun j y hj=>?_⟩;obtain⟨y',hy⟩:=key j y hj;exact q3 j y' hy
structure OC (H H2:Hp):Prop where
 ab: ∀j x,H.get j=some x->∃y,H2.get j=some y
 ba: ∀j x,H2.get j=some x->∃y,H.get j=some y
 next:H2.next=H.next
 res:H2.res=H.res
theorem OC.put {H:Hp} {id:Nat} {o o':dG} (hl:H.get id=some o):OC H (H.put id o'):=by
 refine⟨fun j x hj=>?_,fun j x hj=>?_,rfl,rfl⟩
 all_goals grind [Hp.get_put]
theorem OC.symm {H H2:Hp} (a:OC H H2):OC H2 H:=⟨a.ba,a.ab,a.next.symm,a.res.symm⟩
theorem Stp.left {H H2 H':Hp} {E':En} {w':World} (a:OC H H2) (s:Stp E H w E' H' w'):Stp E H2 w E' H' w':=
 ⟨s.ρ,s.dm,s.θ,s.κ,s.ro,fun b hb=>(s.yA b hb).imp id (Or.imp (fun⟨i,o,h1,h2⟩=>by obtain⟨y,hy⟩:=a.ab i o h1; exact⟨i,y,hy,h2⟩) id),by rw [a.next]; exact s.Zt,by rw [a.res]; exact s.rsm,
  fun i hi=>by rw [a.next,a.res]; exact s.dmn i hi,s.os,s.tape,s.output,s.size,fun b hb hn=>s.keep b hb fun i o ho=>by obtain⟨y,hy⟩:=a.ab i o ho; exact hn i y hy,
  fun i o ho hlt=>by obtain⟨i0,o0,h1,h2⟩:=s.own i o ho hlt; obtain⟨y,hy⟩:=a.ab i0 o0 h1; exact⟨i0,y,hy,h2⟩,s.hd⟩
theorem Stp.right {H H' H2:Hp} {E':En} {w':World} (a:OC H' H2) (s:Stp E H w E' H' w'):Stp E H w E' H2 w':=
 ⟨s.ρ,s.dm,s.θ,s.κ,s.ro,s.yA,by rw [a.next]; exact s.Zt,by rw [a.res]; exact s.rsm,
  fun i hi=>by rw [a.next]; exact s.dmn i hi,s.os,s.tape,s.output,s.size,s.keep,
  fun i o ho hlt=>by obtain⟨y,hy⟩:=a.ba i o ho; exact s.own i y hy hlt,s.hd⟩
theorem dK.of {ro:Nat->Prop} {h:Array Obj} {d:D} (f:Nat->Value): ∀(cs:List CK) (j:Nat),(∀i c,cs[i]?=some c->kY ro h c (d.hd (j+i)) (f (j+i)))->dK ro h cs j d ((List.range' j cs.length).map f)
 |[],j,_=>by simp [dK]
 |c::cs,j,hh=>by
  simp only [aCW,List.range'_succ,aCQ,dK];refine⟨f j,_,rfl,by simpa using hh 0 c (by simp),dK.of f cs (j+1) fun i c' hi=>?_⟩;have:=hh (i+1) c' (by simpa using hi)
  grind
theorem Rd.row {ro:Nat->Prop} {h:Array Obj} {t:Nat} {d:D} {v:Value} (r:Rd ro h (.sl t) d v) {i:Nat} {x:D} (hi:d.l[i]?=some x) :
 ∃b o cap us,v= .slice (some ⟨b,o,none⟩) d.l.length cap/\ro b/\DY ro h (rowOf t) x us/\gQ h b (o+i*(rowOf t).es) us:=by
 generalize hc:CK.sl t=c at r
 cases r with
 |int k n=>simp at hc
 |bool b=>simp at hc
 |str s=>simp at hc
 |nil t=>simp [D.l] at hi
 |non t a cap=>simp [D.l] at hi
 |one t' c b o cap ds f hr hcp hb h1 h2=>
  simp only [CK.sl.injEq] at hc;subst hc;rw [aY] at hi ⊢;refine⟨b,o,cap,[f i],rfl,hb,?_,?_⟩
  ·rw [hr];exact⟨_,rfl,(h2 i x hi).cell⟩
  ·rw [hr];intro j u hj
   grind [Row.es]
 |many t' cs b o cap rows f hr hcp hb hl h1 h2=>
  simp only [CK.sl.injEq] at hc;subst hc;rw [aY] at hi ⊢;rw [aDd,aCX] at hi;obtain⟨row,hrow,rfl⟩:=hi;have hlen:=hl row (aDi hrow);refine⟨b,o,cap,(List.range' 0 cs.length).map (f i),by simp,hb,?_,?_⟩
  ·rw [hr];refine dK.of (f i) cs 0 fun j c hj=>?_;have hjl:j<row.length:=by rw [hlen]; exact (aC1.1 hj).1
   have hd:row[j]?=some row[j]:=aCV hjl;rw [aCR];have:(dL row).hd j=row[j]:=by simp [D.hd,hd]
   rw [this];exact (h2 i row j _ c hrow hd hj).cell
  ·rw [hr];intro j u hj;rw [aDd,aCX] at hj;obtain⟨k,hk,rfl⟩:=hj
   have hjl:j<cs.length:=by
    grind
   rw [List.getElem?_range' hjl] at hk;simp only [aCJ] at hk;obtain rfl:k=j:=by omega
   have hd:row[k]?=some row[k]:=aCV (by omega);exact h1 i row k _ hrow hd
theorem IZ (ρ:Nat->Int) (e i:SE) {x:D} {k:Nat} (hi:i.den ρ=(k:Int)) (hx:(dec (e.den ρ)).l[k]?=some x):dec ((SE.op .at e i).den ρ)=x:=by simp only [SE.den,gB.den,aA,D.at,hi,aDj,hx,aCT]
theorem rD {tt:TT} (htt:dU P tt) {ty z:Nat} (h:Af tt ty=some z): ∃el ie,P.underlying ty=some (.slice el)/\tt el=some ie/\ie.size=z:=by
 unfold Af at h;split at h
 ·rename_i ti hti;split at h
  ·rename_i el hk;simp only [jS,aCX] at h;obtain⟨ie,hie,rfl⟩:=h;exact⟨el,ie,fH (htt ty ti hti) hk,hie,rfl⟩
  grind
 grind
theorem Yy {tt:TT} (htt:dU P tt) {s s':St} (hp:aW E.ρ s.pc) {ty t:Nat} {e:SE} {ix v:AV} {u ui:Value} (hx:VR E w.heap (.dat e t) u) (hix:VR E w.heap ix ui) (h:(Uf tt s ty t e ix).leaf E.ρ=some (v,s')) :
 s'.slots=s.slots/\s'.h=s.h/\aW E.ρ s'.pc/\∃r,(Instr.indexAt ty u ui).run P w= .ok r w/\VR E w.heap v r:=by
 unfold Uf at h;split at h
 ·rename_i kd i;split at h
  ·rename_i z hz;split at h
   ·rename_i hes;obtain⟨pc',hp',h1,h2,h3⟩:=rM hp h;have:=aC h3;simp only [aCK] at this;obtain⟨rfl,rfl⟩:=this;refine⟨rfl,rfl,hp',?_⟩;rw [bD] at h2;simp only [VR] at hx hix;subst hix;obtain⟨el,ie,hu,hie,rfl⟩:=rD htt hz;obtain⟨k,hk⟩ : ∃k:Nat,i.den E.ρ=(k:Int):=⟨(i.den E.ρ).toNat,by omega⟩;have hlt:k<(dec (e.den E.ρ)).l.length:=by omega
    have hd:(dec (e.den E.ρ)).l[k]?=some (dec (e.den E.ρ)).l[k]:=aCV hlt;obtain⟨b,o,cap,us,rfl,g1,g2,g3⟩:=hx.row hd;refine⟨.pointer (some ⟨b,o+k*ie.size,none⟩),?_,?_⟩
    ·rw [hk];simp [Instr.indexAt,asIntOf,run_underlying hu,dS (htt el ie hie),hlt,fE]
    ·simp only [VR];exact⟨b,_,us,rfl,g1,by rw [iH,IZ E.ρ e i hk hd]; exact g2,by rw [hes]; exact g3,g2.ones⟩
   grind [T.leaf]
  grind [T.leaf]
 grind [T.leaf]
theorem Ye {tt:TT} (htt:dU P tt) {s s':St} (hp:aW E.ρ s.pc) {ty t id:Nat} {n:SE} {ix v:AV} {u ui:Value} (hx:VR E w.heap (.qO id n t) u) (hix:VR E w.heap ix ui) (h:(TN tt s ty id t n ix).leaf E.ρ=some (v,s')) :
 s'.slots=s.slots/\s'.h=s.h/\aW E.ρ s'.pc/\∃r,(Instr.indexAt ty u ui).run P w= .ok r w/\VR E w.heap v r:=by
 unfold TN at h;split at h
 ·rename_i kd i;split at h
  ·rename_i z hz;split at h
   ·rename_i hes;obtain⟨pc',hp',h1,h2,h3⟩:=rM hp h;have:=aC h3;simp only [aCK] at this;obtain⟨rfl,rfl⟩:=this;refine⟨rfl,rfl,hp',?_⟩;simp only [VR] at hx hix;subst hix;obtain⟨hid,m,a,cap,hn,rfl,hcap,hc⟩:=hx;obtain⟨el,ie,hu,hie,rfl⟩:=rD htt hz;obtain⟨k,hk⟩ : ∃k:Nat,i.den E.ρ=(k:Int):=⟨(i.den E.ρ).toNat,by omega⟩;have hlt:k<m:=by omega
    have ha:a=⟨(E.θ id).1,(E.θ id).2,none⟩:=by
     simp only [eX] at hc
     grind
    subst ha;refine⟨.pointer (some ⟨(E.θ id).1,(E.θ id).2+k*ie.size,none⟩),?_,?_⟩
    ·rw [hk];simp [Instr.indexAt,asIntOf,run_underlying hu,dS (htt el ie hie),hlt,fE]
    ·simp only [VR]
     grind
   grind [T.leaf]
  grind [T.leaf]
 grind [T.leaf]
theorem rY {ρ:Nat->Int} {pc:List (SB×Bool)} (hp:aW ρ pc) {dflt cs:List AV} {i:SE} {k:Nat} (hi:i.den ρ=(k:Int)): ∀{ov:List (SE×List AV)},rZ pc dflt i ov=some cs->
 dM ρ k ov=some cs\/(dM ρ k ov=none/\cs=dflt)
 |[],h=>by simp only [rZ,aCJ] at h; exact .inr ⟨rfl,h.symm⟩
 |(j,c)::l,h=>by
  simp only [rZ] at h;simp only [dM];split at h
  ·rename_i he
   grind [bI]
  ·split at h
   ·rename_i b hd;have hd:=iQ hp hd;rw [jE] at hd;split at h
    ·grind
    ·rw [beq_eq_false_iff_ne,hi] at hd;rw [aCI (fun q=>hd q.symm)];exact rY hp hi h
   grind
theorem CU {α:Type} {ρ:Nat->Int} {i:SE} {r:α}: ∀{ov:List (SE×List AV)} {s:St} {k:St->T α},aW ρ s.pc->(Ba i ov s k).leaf ρ=some r->∃pc',aW ρ pc'/\(k { s with pc:=pc' }).leaf ρ=some r
 |[],s,k,hp,h=> ⟨s.pc,hp,h⟩
 |(j,c)::l,s,k,hp,h=>by
  simp only [Ba] at h;split at h
  ·exact⟨s.pc,hp,h⟩
  ·obtain⟨pc1,hp1,h1⟩:=bG hp h;split at h1
   ·grind
   ·exact CU (s:={ s with pc:=pc1 }) hp1 h1
theorem lC {ρ:Nat->Int} {r:Row} {ov:List (SE×List AV)} (ho:yZ r ov): ∀{ds:List D} {j k:Nat} {x:D},ds[k]?=some x->
 aF ρ r ov ds j=aF ρ r ov (ds.take k) j++((match dM ρ (j+k) ov with |some cs=>cs|none=>iV r (.dat x))++aF ρ r ov (ds.drop (k+1)) (j+k+1))/\(aF ρ r ov (ds.take k) j).length=k*r.es
 |[],j,k,x,h=>by simp at h
 |d::ds,j,0,x,h=>by
  simp only [aC6,aCJ] at h;subst h;refine⟨?_,by simp [aF]⟩;simp only [List.take_zero,aF,aC2,aDf,aEI,aD9]
  try rfl
 |d::ds,j,k+1,x,h=>by
  have h':ds[k]?=some x:=by simpa using h
  have hk:k<ds.length:=(aC1.1 h').1;obtain⟨h1,h2⟩:=lC (ρ:=ρ) ho (j:=j+1) h';refine⟨?_,?_⟩
  ·simp only [aDW,aF,aD7,aEI]
   grind
  grind [bF]
theorem Ag {α:Type}: ∀(a b:List α),eF a.length (a++b)=some b
 |[],_=>rfl
 |x::a,b=>by simp [eF,Ag a b]
theorem Nz {α:Type}: ∀{n:Nat} {a b l:List α},eF n a=some l->eF n (a++b)=some (l++b)
 |0,a,b,l,h=>by simp only [eF,aCJ] at h ⊢; rw [h]
 |n+1,[],b,l,h=>by simp [eF] at h
 |n+1,x::a,b,l,h=>by simp only [eF,aC8] at h ⊢; exact Nz h
theorem KT {α:Type}: ∀{n:Nat} {a b l:List α},jR n a=some l->jR n (a++b)=some l
 |0,a,b,l,h=>by simp only [jR] at h ⊢; exact h
 |n+1,[],b,l,h=>by simp [jR] at h
 |n+1,x::a,b,l,h=>by
  simp only [jR,aC8] at h ⊢;split at h
  ·rename_i l' hl;rw [KT hl];exact h
  grind
theorem QT {α:Type}: ∀{a b:Nat} {l m:List α},eF a l=some m->eF (a+b) l=eF b m
 |0,b,l,m,h=>by simp only [eF,aCJ] at h; subst h; rw [aCR]
 |a+1,b,[],m,h=>by simp [eF] at h
 |a+1,b,x::l,m,h=>by rw [show a+1+b=(a+b)+1 by omega];simp only [eF] at h ⊢;exact QT h
noncomputable def bH (ρ:Nat->Int) (e:SE) (t:Nat) (ov:List (SE×List AV)):List AV:=aF ρ (rowOf t) ov (dec (e.den ρ)).l 0
theorem OR.tV {h:Array Obj} {id:Nat} {e:SE} {t:Nat} {ty:TypeId} {ov:List (SE×List AV)}:OR E h id (.vec e t ty ov)↔(yZ (rowOf t) ov/\yO (rowOf t) (dec (e.den E.ρ)))/\OR E h id (.cells (bH E.ρ e t ov) ty):=by simp only [OR,bH]
theorem aO.tV [Glob] {H:Hp} (r:aO E H w) {id:Nat} {e:SE} {t:Nat} {ty:TypeId} {ov:List (SE×List AV)} (hl:H.get id=some (.vec e t ty ov)):aO E (H.put id (.cells (bH E.ρ e t ov) ty)) w/\yZ (rowOf t) ov/\yO (rowOf t) (dec (e.den E.ρ)):=by obtain⟨h1,h2⟩:=OR.tV.1 (r.live id _ hl).2.1;exact⟨r.swap hl h2 (by rw [Hp.get_put,aCL rfl]) (fun j hj=>by rw [Hp.get_put,aCI hj]) rfl rfl,h1⟩
theorem Eu {h:Array Obj} {r:Row} {x y:SE} (hd:dec (x.den E.ρ)=dec (y.den E.ρ)) {us:List Value}:bC E h (iV r x) us↔bC E h (iV r y) us:=by
 grind [iH]
theorem akM [Glob] {H:Hp} (r:aO E H w) {id:Nat} {e i:SE} {t:Nat} {ty:TypeId} {ov:List (SE×List AV)} (hl:H.get id=some (.vec e t ty ov)) {k:Nat} (hi:i.den E.ρ=(k:Int)) (hk:(k:Int)<(dH e).den E.ρ)
 {pc:List (SB×Bool)} (hp:aW E.ρ pc) {cs:List AV} (hc:rZ pc (iV (rowOf t) (.op .at e i)) i ov=some cs) :
 ∃pre row post,bH E.ρ e t ov=pre++(row++post)/\pre.length=k*(rowOf t).es/\row.length=(rowOf t).es/\(∀h us,bC E h row us↔bC E h cs us)/\cs.length=(rowOf t).es:=by
 obtain⟨_,ho,hwf⟩:=r.tV hl;rw [bD] at hk;have hlt:k<(dec (e.den E.ρ)).l.length:=by omega
 have hd:(dec (e.den E.ρ)).l[k]?=some (dec (e.den E.ρ)).l[k]:=aCV hlt;obtain⟨h1,h2⟩:=lC (ρ:=E.ρ) ho (j:=0) hd;refine⟨_,_,_,h1,h2,?_⟩;rw [aCR];rcases rY hp hi hc with h3|⟨h3,rfl⟩
 ·rw [h3];obtain⟨p,p1,p2,_⟩:=mZ h3;have:=ho p p1
  grind
 ·rw [h3];refine⟨jC _ _,fun h us=>Eu ?_,jC _ _⟩;rw [IZ E.ρ e i hi hd];simp only [SE.den,aA]
theorem abW {i:TI} {l m:List AV} {v:AV} (h:partOf i l=some v):partOf i (l++m)=some v:=by
 unfold partOf at h ⊢;split at h
 ·rename_i ha;rw [aCX] at h
  grind [KT]
 grind
theorem PN [Glob] {tt:TT} (htt:dU P tt) {H:Hp} (r:aO E H w) {id:Nat} {cs:List AV} {e:TypeId} (hl:H.get id=some (.cells cs e)) {ty:Nat} {ti:TI} (hti:tt ty=some ti) {off:Nat} {l:List AV} (hd:eF off cs=some l) {v:AV} (hv:partOf ti l=some v) :
 ∃x,(loadVar ty ⟨(E.θ id).1,(E.θ id).2+off,none⟩).run P w= .ok x w/\VR E w.heap v x:=by
 have hld:IG tt ty (.ptr id off) H=some v:=by
  unfold IG partOf at *;rw [hti];simp only [qH,hl,hd];split at hv
  ·exact hv
  ·split at hv
   ·simp only [aCJ] at hv;subst hv;rfl
   grind
 have hid:=(r.live id _ hl).1;obtain⟨x,b,o,h1,h2,h3⟩:=IE htt r (p:=.ptr id off) (u:=.pointer (some ⟨(E.θ id).1,(E.θ id).2+off,none⟩)) (by simp only [VR]; exact⟨trivial,hid⟩) hld
 grind
theorem LY {k:IntKind}: ∀{cs:List AV} {ds:List D},LZ k cs=some ds->ds.length=cs.length/\∀(i:Nat),i<cs.length->∃n,ds[i]?=some (.i n)/\cs[i]?=some (.int k (.lit n))
 |[],ds,h=>by
  simp only [LZ,aCJ] at h
  grind
 |v::vs,ds,h=>by
  simp only [LZ] at h;split at h
  ·split at h
   ·rename_i k' n;split at h
    ·rename_i hk;subst hk;split at h
     ·rename_i ds' hds;simp only [aCJ] at h;subst h;obtain⟨h1,h2⟩:=LY hds
      grind
     grind
    grind
   grind
  grind
theorem IL {α:Type}: ∀{i:Nat} {cs:List α} {a:α},cs[i]?=some a->∃l,eF i cs=some (a::l)
 |0,[],a,h=>by simp at h
 |0,c::cs,a,h=>by simp only [aC6,aCJ] at h; subst h; exact⟨cs,rfl⟩
 |i+1,[],a,h=>by simp at h
 |i+1,c::cs,a,h=>IL (cs:=cs) (by simpa using h)
theorem VX {ρ:Nat->Int} {s s':St} {cs:List AV} {e:SE} {v:AV} (hp:aW ρ s.pc) (h:(QJ s cs e).leaf ρ=some (v,s')) :
 s'.slots=s.slots/\s'.h=s.h/\aW ρ s'.pc/\∃(i:Nat) (k:IntKind) (n:Int) (x:SE),e.den ρ=(i:Int)/\i<cs.length/\cs[i]?=some (.int k (.lit n))/\v= .int k x/\x.den ρ=n:=by
 unfold QJ at h;split at h
 ·grind [T.leaf]
 ·rename_i k hk;split at h
  ·grind [T.leaf]
  ·rename_i ds hds;obtain⟨h1,h2⟩:=LY hds;obtain⟨pc',hp',g1,g2,g3⟩:=rM hp h;simp only [T.leaf,aCJ,aCK] at g3;obtain⟨rfl,rfl⟩:=g3;have g2':e.den ρ<(ds.length:Int):=by simpa [SE.den] using g2
   have hi:e.den ρ=((e.den ρ).toNat:Int):=by omega
   have hlt:(e.den ρ).toNat<cs.length:=by omega
   obtain⟨n,d1,d2⟩:=h2 _ hlt;refine⟨rfl,rfl,hp',_,k,n,_,hi,hlt,d2,rfl,?_⟩;simp only [H8,SE.den,gB.den,aA,D.at,aY,d1,aCT,D.n]
theorem Yr [Glob] {tt:TT} (htt:dU P tt) {s s':St} (r:aO E s.h w) (hp:aW E.ρ s.pc) {ty id es:Nat} {i:SE} {off:Nat} {v:AV} {u:Value} (hx:VR E w.heap (.pX id es i off) u) (h:(Gz tt s ty id es i off).leaf E.ρ=some (v,s')) :
 s'.slots=s.slots/\s'.h=s.h/\aW E.ρ s'.pc/\∃x b o,u= .pointer (some ⟨b,o,none⟩)/\(loadVar ty ⟨b,o,none⟩).run P w= .ok x w/\VR E w.heap v x:=by
 unfold Gz at h;split at h
 ·rename_i o hl;split at h
  ·rename_i cs ety;split at h
   ·rename_i ti hti;split at h
    ·simp [T.leaf] at h
    ·rename_i hb;simp only [Bool.or_eq_false_iff,Bool.not_eq_false'] at hb;have hes:=aCO hb.1.2;have hof:=aCO hb.2;subst hes hof;obtain⟨h1,h2,h3,k,kd,n,x,g1,g2,g3,rfl,g5⟩:=VX hp h;refine⟨h1,h2,h3,?_⟩;simp only [VR] at hx;obtain⟨hid,k',hk,rfl⟩:=hx;have hkk:k'=k:=by omega
     subst hkk;obtain⟨l,hd⟩:=IL g3;obtain⟨y,q1,q2⟩:=PN (P:=P) htt r hl hti hd (v:=.int kd (.lit n)) (by unfold partOf; rw [hb.1.1]);refine⟨y,_,_,rfl,by rw [aEo,aDf]; exact q1,?_⟩;simp only [VR,SE.den] at q2 ⊢;rw [q2,g5]
   ·simp [T.leaf] at h
  ·rename_i e t HY ov;split at h
   ·rename_i ti hti;split at h
    ·rename_i hes;obtain⟨pc0,hp0,h1,h2,h3⟩:=rM hp h;obtain⟨pc',hp',h3⟩:=CU (s:={ s with pc:=pc0 }) hp0 h3;split at h3
     ·rename_i cs hc;split at h3
      ·rename_i l hdr;obtain⟨e1,rfl⟩:=kN h3;refine⟨rfl,rfl,hp',?_⟩;simp only [VR] at hx;obtain⟨hid,k,hk,rfl⟩:=hx;obtain⟨pre,row,post,c1,c2,c3,c4,c5⟩:=akM r hl hk (by rw [<- hk]; exact h2) hp' hc;obtain⟨rc,ho,hwf⟩:=r.tV hl
       have hrow:OR E w.heap id (.cells (pre++(cs++post)) HY):=by have:=(rc.live id _ (by rw [Hp.get_put,aCL rfl])).2.1;rw [c1] at this;simp only [OR] at this ⊢;obtain⟨arr,lo,hi,us,q1,q2,q3,q4,q5,q6,q7⟩:=this;refine⟨arr,lo,hi,us,q1,?_,q3,by simp only [aC5,c3,c5] at q4 ⊢; exact q4,q5,q6,q7⟩;obtain⟨a,b,rfl,a1,a2⟩:=q2.split;obtain⟨a',b',rfl,b1,b2⟩:=a2.split;exact a1.append (((c4 _ _).1 b1).append b2)
       have r2:=r.swap (H2:=s.h.put id (.cells (pre++(cs++post)) HY)) hl hrow (by rw [Hp.get_put,aCL rfl]) (fun j hj=>by rw [Hp.get_put,aCI hj]) rfl rfl
       have aB1:eF (k*es+off) (pre++(cs++post))=some (l++post):=by rw [QT (m:=cs++post) (by rw [<- hes,<- c2]; exact Ag pre _)];exact Nz hdr
       obtain⟨x,g1,g2⟩:=PN htt r2 (by rw [Hp.get_put,aCL rfl]) hti aB1 (abW e1);exact⟨x,_,_,rfl,g1,g2⟩
      ·simp [T.leaf] at h3
     ·simp [T.leaf] at h3
    ·simp [T.leaf] at h
   ·simp [T.leaf] at h
  ·simp [T.leaf] at h
 ·simp [T.leaf] at h
end
end Go.As
end

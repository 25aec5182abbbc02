import GoSem.Claim
import Derived.Orders
import Derived.Scope
import Derived.LoopN
import Derived.Below
import GoSem.Core.View
import GoSem.Core.Layout
import GoSem.Op.Equal
import Derived.WalkKit
import Derived.Lib.Strings
import Derived.Laws.IdiomStrings
import Derived.Laws.RangeString
import Derived.Laws.StructEq
set_option linter.unusedSectionVars false
set_option linter.unusedVariables false
set_option linter.unusedSimpArgs false
abbrev af:=@Option.some.injEq
abbrev ag:=@Prod.mk.injEq
abbrev ah:=@if_neg
abbrev ak:=@if_pos
abbrev an:=@Bool.and_eq_true
abbrev aq:=@Nat.eq_of_beq_eq_true
abbrev ar:=@Nat.le_refl
abbrev au:=@List.map_cons
abbrev aw:=@List.mem_cons
abbrev ax:=@Nat.zero_add
abbrev ay:=@Bool.false_eq_true
abbrev az:=@Option.map_eq_some_iff
abbrev aA:=@List.length_cons
abbrev aC:=@Array.length_toList
abbrev aD:=@Nat.le_trans
abbrev aE:=@List.all_eq_true
abbrev aF:=@List.mem_map
abbrev aG:=@Nat.lt_or_ge
abbrev aH:=@Nat.add_zero
abbrev aI:=@Option.getD_some
abbrev aJ:=@List.getElem?_eq_getElem
abbrev aK:=@Array.getElem?_toList
abbrev aL:=@List.getElem?_eq_some_iff
abbrev aM:=@List.cons_append
abbrev aO:=@List.length_append
abbrev aP:=@List.mem_of_getElem?
abbrev aQ:=@Nat.add_assoc
abbrev aR:=@Option.map_some
abbrev aS:=@List.mem_of_mem_drop
abbrev aT:=@List.mem_of_mem_take
abbrev aU:=@Nat.zero_mul
abbrev aV:=@Array.getElem?_eq_some_iff
abbrev aW:=@Nat.add_mul
abbrev aX:=@Bool.eq_iff_iff
abbrev aZ:=@List.mem_append
abbrev a7:=@List.length_take
abbrev a8:=@Int.toNat_natCast
abbrev bc:=@List.getElem?_map
abbrev bd:=@Bool.not_eq_true'
abbrev bg:=@Nat.mod_eq_of_lt
abbrev aab:=@List.nil_append
abbrev aac:=@Nat.lt_of_lt_of_le
abbrev aad:=@UInt8.toNat_ofNat'
abbrev aae:=@List.append_assoc
abbrev aaf:=@List.eq_nil_of_length_eq_zero
abbrev aag:=@Array.getD_eq_getD_getElem?
abbrev aah:=@Bool.or_eq_true
abbrev aai:=@List.mapM_cons
abbrev aaj:=@Nat.mul_le_mul_right
abbrev aak:=@Int.not_lt
abbrev aal:=@List.mem_range
abbrev aam:=@Nat.one_mul
abbrev aan:=@List.getElem?_take
abbrev aao:=@Option.bind_eq_some_iff
abbrev aap:=@List.length_drop
abbrev aaq:=@List.getElem?_cons_zero
abbrev aar:=@List.take_succ_cons
abbrev aas:=@List.take_append_drop
abbrev aat:=@Nat.eq_zero_or_pos
abbrev aau:=@Bool.eq_false_iff
abbrev aav:=@Array.getElem?_replicate
abbrev aaw:=@Nat.blt_eq
abbrev aax:=@List.map_map
abbrev aay:=@List.mem_iff_getElem?
abbrev aaz:=@List.ext_getElem?
abbrev aaA:=@Option.bind_eq_bind
abbrev aaB:=@List.set_cons_zero
abbrev aaC:=@List.set_cons_succ
abbrev aaD:=@List.getElem?_eq_none_iff
abbrev aaE:=@List.append_nil
abbrev aaF:=@Nat.mul_pos
abbrev aaG:=@Bool.not_true
abbrev aaH:=@List.nodup_cons
abbrev aaI:=@Bool.false_or
abbrev aaJ:=@List.not_mem_nil
abbrev aaK:=@List.mem_filter
abbrev aaL:=@Nat.pow_succ
abbrev aaM:=@Int.ofNat_inj
abbrev aaN:=@List.length_map
abbrev aaO:=@List.getElem?_drop
abbrev aaP:=@Nat.ne_of_beq_eq_false
abbrev aaQ:=@List.length_pos_iff
abbrev aaR:=@Bool.or_false
abbrev aaS:=@List.eraseIdx_cons_succ
abbrev aaT:=@List.foldlM_cons
abbrev aaU:=@Nat.mul_one
abbrev aaV:=@Nat.zero_le
abbrev aaW:=@List.getElem?_cons_succ
abbrev aaX:=@List.length_nil
abbrev aaY:=@List.eq_nil_iff_forall_not_mem
abbrev aaZ:=@Nat.le_of_ble_eq_true
abbrev aa0:=@List.all_append
abbrev aa1:=@Nat.pow_zero
abbrev aa2:=@Nat.mul_comm
abbrev aa3:=@Array.toList_inj
abbrev aa4:=@List.map_congr_left
abbrev aa5:=@Array.getElem?_modify
abbrev aa6:=@Int.tmod_lt_of_pos
abbrev aa7:=@List.getElem?_append
abbrev aa8:=@Nat.mul_le_mul
abbrev aa9:=@List.map_take
abbrev aba:=@List.map_drop
abbrev abb:=@Array.toList_map
abbrev abc:=@Nat.le_of_mul_le_mul_right
abbrev abd:=@List.drop_zero
abbrev abe:=@List.take_length
abbrev abf:=@Option.isSome_iff_exists
abbrev abg:=@Nat.div_mul_le_self
abbrev abh:=@List.replicate_succ
abbrev abi:=@Nat.lt_trichotomy
abbrev abj:=@List.map_append
abbrev abk:=@List.all_cons
abbrev abl:=@Array.mem_of_getElem?
abbrev abm:=@List.take_of_length_le
abbrev abn:=@List.getElem?_of_mem
abbrev abo:=@List.length_reverse
abbrev abp:=@List.getElem?_toArray
abbrev abq:=@List.getElem?_eq_none
abbrev abr:=@Array.getElem?_eq_none
abbrev abt:=@Array.getElem?_setIfInBounds
abbrev abu:=@List.getElem?_range
abbrev abv:=@Array.getElem?_append_left
abbrev abw:=@List.length_replicate
abbrev abx:=@List.eq_of_mem_replicate
abbrev aby:=@List.singleton_append
abbrev abz:=@Array.getElem?_eq_none_iff
abbrev abA:=@Array.getElem?_eq_getElem
abbrev abB:=@Nat.ble_eq_true_of_le
abbrev abC:=@List.drop_of_length_le
theorem J{P:Prop}(h:P:=by omega):P:=h
theorem aa{P:Prop}(h:P:=by kernel_rfl):P:=h
theorem ad{P:Prop}(h:P:=by simp):P:=h
theorem ae{P:Prop}(h:P:=by decide):P:=h
section
namespace Go.As
inductive Tr (α:Type) where
 |nil
 |node (v:Option α) (l r:Tr α)
 deriving Inhabited
noncomputable def Tr.get {α:Type} (t:Tr α) (k:Nat):Option α:=
 Tr.rec (motive:=fun _=>Nat->Option α) (fun _=>none)
  (fun v _ _ il ir k=>Nat.rec (motive:=fun _=>Option α) v (fun k' _=>Bool.rec (motive:=fun _=>Option α) (ir (Nat.div k' 2)) (il (Nat.div k' 2)) (Nat.beq (Nat.mod k' 2) 0)) k) t k
def Tr.val {α:Type}:Tr α->Option α
 | .nil=>none
 | .node v _ _=>v
def Tr.left {α:Type}:Tr α->Tr α
 | .nil=> .nil
 | .node _ l _=>l
def Tr.right {α:Type}:Tr α->Tr α
 | .nil=> .nil
 | .node _ _ r=>r
noncomputable def Tr.I3 {α:Type} (v:Option α) (x r:Tr α):Tr α:=Tr.rec (motive:=fun _=>Tr α) (.node v .nil r) (fun a b c _ _=> .node v (.node a b c) r) x
noncomputable def Tr.I2 {α:Type} (v:Option α) (l x:Tr α):Tr α:=Tr.rec (motive:=fun _=>Tr α) (.node v l .nil) (fun a b c _ _=> .node v l (.node a b c)) x
noncomputable def Tr.zS {α:Type} (f:Nat):Tr α->Nat->Option α->Tr α:=
 Nat.rec (motive:=fun _=>Tr α->Nat->Option α->Tr α) (fun t _ _=>t)
  (fun _ ih t k x=>Tr.rec (motive:=fun _=>Tr α)
   (Nat.rec (motive:=fun _=>Tr α) (.node x .nil .nil) (fun k' _=>Bool.rec (motive:=fun _=>Tr α) (Tr.I2 none .nil (ih .nil (Nat.div k' 2) x)) (Tr.I3 none (ih .nil (Nat.div k' 2) x) .nil) (Nat.beq (Nat.mod k' 2) 0)) k)
   (fun v l r _ _=>Nat.rec (motive:=fun _=>Tr α) (.node x l r) (fun k' _=>Bool.rec (motive:=fun _=>Tr α) (Tr.I2 v l (ih r (Nat.div k' 2) x)) (Tr.I3 v (ih l (Nat.div k' 2) x) r) (Nat.beq (Nat.mod k' 2) 0)) k) t) f
noncomputable def Tr.put {α:Type} (t:Tr α) (k:Nat) (v:Option α):Tr α:=Tr.zS (Nat.succ k) t k v
theorem DG (a b:Nat):Nat.beq a b=decide (a=b):=by rw [aX];simp
theorem oV {β:Sort _} (a b:β) (c:Nat):Bool.rec (motive:=fun _=>β) a b (Nat.beq c 0)=if c=0 then b else a:=by
 by_cases h:c=0
 ·subst h; rfl
 ·rw [ah h];have:Nat.beq c 0=false:=by rw [DG]; simpa using h
  rw [this]
theorem Tr.ga {α:Type} (v:Option α) (l r:Tr α) (k:Nat) :
 (Tr.node v l r).get k=if k=0 then v else if (k-1) % 2=0 then l.get ((k-1) / 2) else r.get ((k-1) / 2):=by
 cases k with
 |zero=>rfl
 |succ k=> simp only [Nat.add_sub_cancel,Nat.succ_ne_zero,if_false];exact oV _ _ _
theorem Tr.kR {α:Type} (t:Tr α) (k:Nat) :
 t.get k=if k=0 then t.val else if (k-1) % 2=0 then t.left.get ((k-1) / 2) else t.right.get ((k-1) / 2):=by
 cases t with
 |nil=> have h: ∀j,(Tr.nil:Tr α).get j=none:=fun _=>rfl;simp [h,Tr.val,Tr.left,Tr.right]
 |node v l r=>rw [Tr.ga]; rfl
theorem Tr.EP {α:Type} (v:Option α) (x r:Tr α):Tr.I3 v x r= .node v x r:=by cases x<;>rfl
theorem Tr.EO {α:Type} (v:Option α) (l x:Tr α):Tr.I2 v l x= .node v l x:=by cases x<;>rfl
theorem Tr.zQ {α:Type} (f:Nat) (t:Tr α) (v:Option α):Tr.zS (f+1) t 0 v= .node v t.left t.right:=by cases t<;>rfl
theorem Tr.zR {α:Type} (f:Nat) (t:Tr α) (k:Nat) (v:Option α):Tr.zS (f+1) t (k+1) v=if k % 2=0 then .node t.val (Tr.zS f t.left (k / 2) v) t.right else .node t.val t.left (Tr.zS f t.right (k / 2) v):=by rw [<- Tr.EP,<- Tr.EO];cases t<;>exact oV _ _ _
theorem Tr.BL {α:Type}: ∀(f:Nat) (t:Tr α) (k:Nat) (v:Option α) (j:Nat),k<f->(Tr.zS f t k v).get j=if j=k then v else t.get j:=by
 intro f
 induction f with
 |zero=>intro t k v j R; omega
 |succ f ih=>
  intro t k v j R
  cases k with
  |zero=> rw [Tr.zQ,Tr.ga,Tr.kR t];split<;>simp_all
  |succ k=>
   rw [Tr.zR,Tr.kR t j];split
   ·rename_i h;rw [Tr.ga];by_cases hj:j=0
    ·subst hj; simp
    ·rw [ah hj,ah hj];by_cases U:(j-1) % 2=0
     ·rw [ak U,ak U,ih _ _ _ _ J];by_cases N:j=k+1
      ·subst N; simp
      ·rw [ah N,ah J]
     ·rw [ah U,ah U,ah (by intro N; subst N; simp at U; omega)]
   ·rename_i h;rw [Tr.ga];by_cases hj:j=0
    ·subst hj; simp
    ·rw [ah hj,ah hj];by_cases U:(j-1) % 2=0
     ·rw [ak U,ak U,ah (by intro N; subst N; simp at U; omega)]
     ·rw [ah U,ah U,ih _ _ _ _ J];by_cases N:j=k+1
      ·subst N; simp
      ·rw [ah N,ah J]
theorem Tr.br {α:Type} (t:Tr α) (k:Nat) (v:Option α) (j:Nat):(t.put k v).get j=if j=k then v else t.get j:=
 Tr.BL (Nat.succ k) t k v j (Nat.lt_succ_self _)
inductive D where
 |i (n:Int)
 |p (a b:D)
 deriving DecidableEq,Inhabited
def zN:Int->Nat
 | .ofNat n=>2*n
 | .negSucc n=>2*n+1
theorem AJ {a b:Int} (h:zN a=zN b):a=b:=by
 cases a<;>cases b<;>simp only [zN] at h
 all_goals grind
def gv (a b:Nat):Nat:=2 ^ a*(2*b+1)
theorem nG: ∀{a a' b b':Nat},gv a b=gv a' b'->a=a'/\b=b'
 |0,0,b,b',h=>by simp only [gv,aa1,aam] at h; omega
 |0,a'+1,b,b',h=>by
  simp only [gv,aa1,aam,aaL] at h
  grind
 |a+1,0,b,b',h=>by
  simp only [gv,aa1,aam,aaL] at h
  grind
 |a+1,a'+1,b,b',h=>by
  have O:2 ^ (a+1)*(2*b+1)=2*gv a b:=by unfold gv; rw [aaL,aa2 (2 ^ a) 2,Nat.mul_assoc]
  have U:2 ^ (a'+1)*(2*b'+1)=2*gv a' b':=by unfold gv; rw [aaL,aa2 (2 ^ a') 2,Nat.mul_assoc]
  have N:gv a b=gv a' b':=by
   have:gv (a+1) b=gv (a'+1) b':=h;unfold gv at this
   grind
  obtain⟨e1,e2⟩:=nG N
  grind
def D.enc:D->Nat
 | .i n=>2*zN n
 | .p a b=>2*gv a.enc b.enc+1
theorem D.gA: ∀{a b:D},a.enc=b.enc->a=b
 | .i n,.i m,h=>by simp only [D.enc] at h;rw [AJ (a:=n) (b:=m) J]
 | .i n,.p a b,h=>by simp only [D.enc] at h; omega
 | .p a b,.i n,h=>by simp only [D.enc] at h; omega
 | .p a b,.p c d,h=>by simp only [D.enc] at h;obtain⟨O,U⟩:=nG (a:=a.enc) (b:=b.enc) (a':=c.enc) (b':=d.enc) J;rw [D.gA O,D.gA U]
open Classical in
noncomputable def dec (z:Int):D:=if h: ∃d:D,(d.enc:Int)=z then h.choose else .i 0
def enc (d:D):Int:=(d.enc:Int)
theorem bn (d:D):dec (enc d)=d:=by unfold dec;have h: ∃d':D,(d'.enc:Int)=enc d:=⟨d,rfl⟩;rw [dif_pos h];have:=h.choose_spec;apply D.gA;unfold enc at this;exact Int.ofNat.inj this
theorem gA {a b:D} (h:enc a=enc b):a=b:=by rw [<- bn a,h,bn]
def D.n:D->Int
 | .i n=>n
 | .p _ _=>0
def D.l:D->List D
 | .i _=>[]
 | .p a b=>a::b.l
def dL:List D->D
 |[]=> .i 0
 |a::l=> .p a (dL l)
@[simp] theorem ch: ∀l:List D,(dL l).l=l
 |[]=>rfl
 |a::l=>by simp [dL,D.l,ch l]
theorem x4 {a b:List D} (h:dL a=dL b):a=b:=by rw [<- ch a,h,ch]
def D.at (d:D) (i:Int):D:=(d.l[i.toNat]?).getD (.i 0)
def D.hd (d:D) (j:Nat):D:=(d.l[j]?).getD (.i 0)
def iw (l:List UInt8):D:=dL (l.map fun b=> .i (b.toNat:Int))
def lP (s:ByteArray):D:=iw s.data.toList
def eD (l:List Nat):D:=dL (l.map fun b=> .i (Int.ofNat b))
theorem x5 {a b:List UInt8} (h:iw a=iw b):a=b:=by
 have:=x4 h
 have HI: ∀{x y:UInt8},(D.i (x.toNat:Int))= .i (y.toNat:Int)->x=y:=by intro x y h;simp only [D.i.injEq,aaM] at h;exact UInt8.toNat_inj.1 h
 induction a generalizing b with
 |nil=>cases b with
  |nil=>rfl
  |cons y b=>simp at this
 |cons x a ih=>cases b with
  |nil=>simp at this
  |cons y b=> simp only [au,List.cons.injEq] at this;rw [HI this.1,ih (by unfold iw; rw [this.2]) this.2]
theorem rj {a b:ByteArray} (h:lP a=lP b):a=b:=by
 have:=x5 h
 cases a with
 |mk x=>cases b with
  |mk y=>simp only [ByteArray.mk.injEq] at *; exact aa3.1 this
theorem mV (l:List Nat) (h: ∀b∈l,b<256):eD l=iw (l.map UInt8.ofNat):=by unfold eD iw;congr 1;rw [aax];apply aa4;intro b K;have:=h b K;simp [bg this]
theorem B3 (s:ByteArray):(lP s).l.length=s.size:=by unfold lP iw;rw [ch,aaN];rfl
inductive c8 where
 |len
 |at
 |cell (j:Nat)
 |num
 |mk
 |cons
 |snoc
 |cat
 |take
 |drop
 |set
 |bit
 |norm
 |sub
 |fill
 |idx
 |Kj
 |Ki
 |slt
 |zZ
 |xf
 |qi
 |xg
 |rep
 deriving DecidableEq,Inhabited
def fx (d:D) (l:List D):D:=match l with
 |[]=>if d= .i 1 then .i 1 else .i 2
 |l=>dL l
theorem pB (d:D) (l:List D):(fx d l).l=l:=by
 cases l with
 |nil=>simp only [fx]; split<;>rfl
 |cons a l=>simp [fx]
theorem B6 {d:D} {l:List D} (h:l≠[]):fx d l=dL l:=by
 cases l with
 |nil=>exact absurd rfl h
 |cons a l=>rfl
theorem gH {d:D} (h:d≠.i 1):fx d []= .i 2:=by
 show (if d= .i 1 then D.i 1 else D.i 2)= .i 2
 grind
theorem Aw {d:D} (h:d≠.i 1) (l:List D):fx d l≠.i 1:=by
 cases l with
 |nil=>rw [gH h]; simp
 |cons a l=>simp [fx,dL]
theorem rk {d:D} {l m:List D} (h:d= .i 1->l= []):fx (fx d l) m=fx d m:=by
 cases m with
 |cons a m=>rfl
 |nil=>
  by_cases O:d= .i 1
  ·rw [h O,O]; rfl
  ·rw [gH O,gH (Aw O l)]
def rm (z:Int):List D->Int->Int
 |[],_=> -1
 |d::l,i=>match d with
  | .i n=>if n=z then i else rm z l (i+1)
  |_=>rm z l (i+1)
def FR (l:List D) (z:Int):Int:=rm z l 0
def xZ:List D->List D->Bool
 |[],_=>true
 |_::_,[]=>false
 |a::x,b::y=>decide (a=b)&&xZ x y
def B8 (l x:List D):Bool:=match l with
 |[]=>xZ x []
 |a::l=>xZ x (a::l)||B8 l x
def DF (l:List D) (z:Int):Int:=match l with
 |[]=>0
 |d::l=>(if d= .i z then 1 else 0)+DF l z
def zn:List D->List D->Bool
 |[],[]=>false
 |[],_::_=>true
 |_::_,[]=>false
 |a::x,b::y=>if a.n<b.n then true else if b.n<a.n then false else zn x y
def rK (ds:List D) (z:Int) (x:D):List D:=if z<0 then ds else ds.set z.toNat x
theorem l4 (ds:List D) (z:Int) (x:D):(rK ds z x).length=ds.length:=by
 unfold rK; split
 all_goals grind
theorem ve (ds:List D) (k:Nat) (x:D):rK ds (k:Int) x=ds.set k x:=by unfold rK; rw [ah J]; rfl
def fA:D->D
 | .p k _=>k
 |d=>d
def wx:D->D
 | .p _ v=>v
 |d=>d
def fv:List D->D->Option D
 |[],_=>none
 |d::l,k=>if fA d=k then some (wx d) else fv l k
def lE:List D->D->D->List D
 |[],k,v=>[.p k v]
 |d::l,k,v=>if fA d=k then .p k v::l else d::lE l k v
def tK:List D->D->List D
 |[],_=>[]
 |d::l,k=>if fA d=k then l else d::tK l k
noncomputable def c8.den (o:c8) (x y:Int):Int:=match o with
 | .len=>((dec x).l.length:Int)
 | .at=>enc ((dec x).at y)
 | .cell j=>enc ((dec x).hd j)
 | .num=>(dec x).n
 | .mk=>enc (.i x)
 | .cons=>enc (.p (dec x) (dec y))
 | .snoc=>enc (dL ((dec x).l++ [dec y]))
 | .cat=>enc (dL ((dec x).l++(dec y).l))
 | .take=>enc (fx (dec x) ((dec x).l.take y.toNat))
 | .drop=>enc (fx (dec x) ((dec x).l.drop y.toNat))
 | .set=>match dec y with
   | .p q v=>enc (dL (rK (dec x).l q.n v))
   |_=>x
 | .bit=>enc (.i (if (dec x).n=0 then 0 else 1))
 | .norm=>enc (dec x)
 | .sub=>enc (dL (((dec x).l.take ((dec y).hd 1).n.toNat).drop ((dec y).hd 0).n.toNat))
 | .fill=>match dec y with
   | .p q v=>enc (dL ((dec x).l.take q.n.toNat++List.replicate ((dec x).l.length-q.n.toNat) v))
   |_=>x
 | .idx=>FR (dec x).l y
 | .Kj=>DF (dec x).l y
 | .Ki=>if B8 (dec x).l (dec y).l then 1 else 0
 | .slt=>if zn (dec x).l (dec y).l then 1 else 0
 | .zZ=>if (fv (dec x).l (dec y)).isSome then 1 else 0
 | .xf=>enc ((fv (dec x).l (dec y)).getD (.i 0))
 | .qi=>match dec y with
   | .p k v=>enc (dL (lE (dec x).l k v))
   |_=>x
 | .xg=>enc (dL (tK (dec x).l (dec y)))
 | .rep=>enc (dL (List.replicate x.toNat (dec y)))
def c8.tag:c8->Nat
 | .len=>0
 | .at=>1
 | .cell j=>j+23
 | .num=>2
 | .mk=>3
 | .cons=>4
 | .snoc=>5
 | .cat=>6
 | .take=>7
 | .drop=>8
 | .set=>9
 | .bit=>10
 | .norm=>11
 | .sub=>12
 | .fill=>13
 | .idx=>14
 | .Kj=>15
 | .Ki=>16
 | .slt=>17
 | .zZ=>18
 | .xf=>19
 | .qi=>20
 | .xg=>21
 | .rep=>22
theorem c8.CH {a b:c8} (h:a.tag=b.tag):a=b:=by
 cases a<;>cases b<;>simp only [c8.tag] at h<;>first |rfl|(congr 1; omega)|omega
inductive CK where
 |int (k:IntKind)
 |bool
 |str
 |sl (t:Nat)
 deriving DecidableEq,Inhabited
inductive Row where
 |one (c:CK)
 |many (cs:List CK)
 deriving DecidableEq,Inhabited
def Row.es:Row->Nat
 | .one _=>1
 | .many cs=>cs.length
def rowOf (t:Nat):Row:=match t with
 |0=> .one (.int .i64)
 |1=> .one (.int .i64)
 |2=> .one .str
 |3=> .many [.int .u8,.str,.int .i64,.str,.int .i64]
 |4=> .many [.str,.sl 2,.sl 5]
 |5=> .many [.int .u8,.int .u8,.int .i64,.int .i64,.int .i64,.int .i64,.sl 6]
 |6=> .many [.int .u8,.str,.int .i64,.sl 6]
 |7=> .many [.int .i64,.int .i64,.bool,.int .i64,.sl 0,.sl 0]
 |8=> .many [.int .i64,.sl 0,.int .u8,.int .i64,.int .i64,.int .i64]
 |9=> .many [.int .i64,.int .u8,.int .i64,.int .i64,.int .i64]
 |10=> .one (.sl 0)
 |11=> .many [.int .i64,.int .i64,.int .i64]
 |12=> .many [.int .i64,.int .i64]
 |13=> .many [.int .i64,.int .u8,.int .i64,.int .i64,.int .i64]
 |14=> .one (.int .u8)
 |15=> .one (.sl 0)
 |16=> .many [.sl 7,.sl 8]
 |_=> .one .bool
def mapOf (t:Nat):Row×Row:=match t with
 |0=>(.one (.int .i64),.one (.int .i64))
 |1=>(.one .str,.one (.int .i64))
 |2=>(.one (.int .i64),.one (.sl 0))
 |4=>(.many [.int .i64,.int .i64],.one (.int .i64))
 |5=>(.many [.int .i64,.int .i64],.one (.sl 0))
 |6=>(.one (.int .i64),.many [.int .i64,.int .i64,.int .i64])
 |_=>(.one (.int .i64),.one .bool)
inductive FC where
 |ck (c:CK)
 |own (t:Nat)
 |mp (t:Nat)
 deriving DecidableEq,Inhabited
structure FK where
 ptr:Bool
 cs:List FC
def ld (t:Nat):FK:=match t with
 |0=> ⟨false,[.own 0]⟩
 |1=> ⟨true,[.ck (.int .i64),.mp 0,.ck (.int .i64),.ck (.int .i64),.ck .bool,.own 0]⟩
 |_=> ⟨true,[.ck (.sl 0),.ck (.int .i64),.ck .bool,.ck .bool]⟩
def gu (c:CK) (d:D):Prop:=match c with
 | .int _=>d= .i d.n
 | .bool=>d= .i 0\/d= .i 1
 |_=>True
def k0 (cs:List CK) (d:D):Prop:=d=dL d.l/\d.l.length=cs.length/\∀(j:Nat) (c:CK) (x:D),cs[j]?=some c->d.l[j]?=some x->gu c x
def hJ (r:Row) (d:D):Prop:=match r with
 | .one c=>gu c d
 | .many cs=>k0 cs d
def jL (r:Row) (d:D):Prop:=d=dL d.l/\(∀x∈d.l,hJ r x)/\d.l≠[]
end Go.As
end
section
namespace Go.As
noncomputable section
inductive Y where
 |lit (n:Int)
 |pE (i:Nat)
 |add (a b:Y)
 |sub (a b:Y)
 |mul (a b:Y)
 |quo (a b:Y)
 |rem (a b:Y)
 |wrap (k:IntKind) (a:Y)
 |k8 (b:Nat) (e:Y)
 |cE (d:D)
 |op (o:c8) (a b:Y)
 |ap (f:Nat) (a:Y)
 deriving DecidableEq,Inhabited
def gk (f:Nat) (z:Int):Nat:=1000+gv f (zN z)*64+63
noncomputable def Y.den (ρ:Nat->Int):Y->Int
 | .lit n=>n
 | .pE i=>ρ i
 | .add a b=>a.den ρ+b.den ρ
 | .sub a b=>a.den ρ-b.den ρ
 | .mul a b=>a.den ρ*b.den ρ
 | .quo a b=>(a.den ρ).tdiv (b.den ρ)
 | .rem a b=>(a.den ρ).tmod (b.den ρ)
 | .wrap k a=>k.wrap (a.den ρ)
 | .k8 b e=>ρ (1000+(e.den ρ).toNat*64+b)
 | .cE d=>enc d
 | .op o a b=>o.den (a.den ρ) (b.den ρ)
 | .ap f a=>ρ (gk f (a.den ρ))
def j3:Int->Int->Bool
 | .ofNat a,.ofNat b=>Nat.beq a b
 | .negSucc a,.negSucc b=>Nat.beq a b
 |_,_=>false
def D.Ep:D->D->Bool
 | .i a,.i b=>j3 a b
 | .p a b,.p c d=>match D.Ep a c with |true=>D.Ep b d|false=>false
 |_,_=>false
theorem nP {a b:Int} (h:j3 a b=true):a=b:=by cases a<;>cases b<;>simp [j3] at h<;>rw [h]
theorem D.xW: ∀{a b:D},D.Ep a b=true->a=b
 | .i a,.i b,h=>by simp only [D.Ep] at h; rw [nP h]
 | .p a b,.p c d,h=>by
   simp only [D.Ep] at h;split at h
   ·rename_i O; rw [D.xW O,D.xW h]
   grind
 | .i _,.p _ _,h=>by simp [D.Ep] at h
 | .p _ _,.i _,h=>by simp [D.Ep] at h
def cf:Y->Y->Bool
 | .lit a,.lit b=>a == b
 | .pE i,.pE j=>Nat.beq i j
 | .add a b,.add c d=>match cf a c with |true=>cf b d|false=>false
 | .sub a b,.sub c d=>match cf a c with |true=>cf b d|false=>false
 | .mul a b,.mul c d=>match cf a c with |true=>cf b d|false=>false
 | .quo a b,.quo c d=>match cf a c with |true=>cf b d|false=>false
 | .rem a b,.rem c d=>match cf a c with |true=>cf b d|false=>false
 | .wrap k a,.wrap l b=>match cf a b with |true=>decide (k=l)|false=>false
 | .k8 i a,.k8 j b=>match Nat.beq i j with |true=>cf a b|false=>false
 | .cE a,.cE b=>D.Ep a b
 | .op o a b,.op q c d=>match Nat.beq o.tag q.tag with
   |true=>match cf a c with |true=>cf b d|false=>false
   |false=>false
 | .ap f a,.ap g b=>match Nat.beq f g with |true=>cf a b|false=>false
 |_,_=>false
theorem bD: ∀(a b:Y),cf a b=true->a=b
 | .lit a,b,h=>by cases b<;>simp [cf] at h; rw [h]
 | .pE i,b,h=>by cases b<;>simp [cf] at h; rw [h]
 | .add a b,c,h=>by cases c<;>simp only [cf,ay] at h; split at h<;>first |(rename_i O; rw [bD _ _ O,bD _ _ h]; done)|simp at h
 | .sub a b,c,h=>by cases c<;>simp only [cf,ay] at h; split at h<;>first |(rename_i O; rw [bD _ _ O,bD _ _ h]; done)|simp at h
 | .mul a b,c,h=>by cases c<;>simp only [cf,ay] at h; split at h<;>first |(rename_i O; rw [bD _ _ O,bD _ _ h]; done)|simp at h
 | .quo a b,c,h=>by cases c<;>simp only [cf,ay] at h; split at h<;>first |(rename_i O; rw [bD _ _ O,bD _ _ h]; done)|simp at h
 | .rem a b,c,h=>by cases c<;>simp only [cf,ay] at h; split at h<;>first |(rename_i O; rw [bD _ _ O,bD _ _ h]; done)|simp at h
 | .wrap k a,c,h=>by cases c<;>simp only [cf,ay] at h; split at h<;>first |(rename_i O; rw [bD _ _ O,of_decide_eq_true h]; done)|simp at h
 | .k8 i a,c,h=>by cases c<;>simp only [cf,ay] at h; split at h<;>first |(rename_i O; rw [aq O,bD _ _ h]; done)|simp at h
 | .cE a,c,h=>by cases c<;>simp only [cf,ay] at h; rw [D.xW h]
 | .op o a b,c,h=>by
   cases c<;>simp only [cf,ay] at h;split at h
   ·rename_i h0;split at h
    ·rename_i O;rw [c8.CH (aq h0),bD _ _ O,bD _ _ h]
    grind
   grind
 | .ap f a,c,h=>by cases c<;>simp only [cf,ay] at h; split at h<;>first |(rename_i O; rw [aq O,bD _ _ h]; done)|simp at h
inductive SB where
 |lit (b:Bool)
 |lt (a b:Y)
 |le (a b:Y)
 |eq (a b:Y)
 |not (s:SB)
 |and (a b:SB)
 deriving DecidableEq,Inhabited
noncomputable def SB.den (ρ:Nat->Int):SB->Bool
 | .lit b=>b
 | .lt a b=>decide (a.den ρ<b.den ρ)
 | .le a b=>decide (a.den ρ<=b.den ρ)
 | .eq a b=>a.den ρ == b.den ρ
 | .not s=>!(s.den ρ)
 | .and a b=>a.den ρ&&b.den ρ
def iO (k:IntKind) (n:Int):Int:=
 match k with
 | .i64=>if -9223372036854775808<=n/\n<=9223372036854775807 then n else k.wrap n
 | .u8=>if 0<=n/\n<=255 then n else k.wrap n
 |_=>k.wrap n
inductive wN where
 |exact (c:Nat)
 |rest (es:Nat)
 deriving DecidableEq,Inhabited
inductive Z where
 |bool (b:SB)
 |int (k:IntKind) (e:Y)
 |str (s:List Nat)
 |ptr (id off:Nat)
 |dw
 |fD (cells:List Z)
 |slice (id off len:Nat) (c:wN)
 |bE
 |ro (cells:List Z) (n:Nat) (full:Bool)
 |map (id:Nat)
 |eS
 |func (fn:Fn) (fs cs:List Z)
 |jZ
 |iface (t:Nat) (v:Z)
 |lB
 |agg (cs:List Z)
 |tuple (vs:List Z)
 |vu (i:Nat)
 |k8 (k:Nat) (ks:List IntKind)
 |cE (e:Y) (t:Nat)
 |dW (e:Y)
 |hK (id:Nat) (n:Y) (t:Nat)
 |nk (id es:Nat) (i:Y) (off:Nat)
 |emp
 |jN (id:Nat) (lo n:Y) (t:Nat)
 |any
 |lN (z:Y) (t:Nat)
 deriving Inhabited
def Z.undef:Z:=.tuple []
def Z.cells:Z->List Z
 | .agg cs=>cs
 |v=>[v]
def Z.one:Z->Bool
 | .agg _=>false
 | .tuple _=>false
 | .vu _=>false
 | .any=>false
 |_=>true
inductive bS where
 |cells (cs:List Z) (e:TypeId)
 |map (es:List (Z×Z×Nat)) (clock:Nat)
 |dZ (s:List Nat) (pos:Nat)
 |dJ (m:Option Nat) (since:Nat) (seen:List Nat) (last:Nat)
 |vec (e:Y) (t:Nat) (ty:TypeId) (ov:List (Y×List Z))
 |ey (e:Y) (t:Nat)
 |kg (e:Y) (t:Nat) (cK:List Nat) (ov:List (Y×Z))
 deriving Inhabited
structure Hp where
 m:Tr bS
 next:Nat
 res:Option Nat:=none
 deriving Inhabited
def Hp.get (h:Hp) (i:Nat):Option bS:=h.m.get i
def Hp.put (h:Hp) (i:Nat) (o:bS):Hp:=⟨h.m.put i (some o),h.next,h.res⟩
def Hp.drop (h:Hp) (i:Nat):Hp:=⟨h.m.put i none,h.next,h.res⟩
def Hp.fresh (h:Hp):Nat:=match h.res with
 |none=>h.next
 |some r=>r
def Hp.new (h:Hp) (o:bS):Hp:=match h.res with
 |none=> ⟨h.m.put h.next (some o),h.next+1,none⟩
 |some r=> ⟨h.m.put r (some o),h.next,none⟩
inductive T (α:Type) where
 |fail
 |ret (a:α)
 |split (c:SB) (t f:T α)
 deriving Inhabited
def T.bind {α β:Type}:T α->(α->T β)->T β
 | .fail,_=> .fail
 | .ret a,f=>f a
 | .split c x y,f=> .split c (x.bind f) (y.bind f)
def T.leaf {α:Type} (ρ:Nat->Int):T α->Option α
 | .fail=>none
 | .ret a=>some a
 | .split c x y=>match c.den ρ with
   |true=>x.leaf ρ
   |false=>y.leaf ρ
inductive TK where
 |bool
 |int (k:IntKind)
 |string
 |pointer (e:Nat)
 |slice (e:Nat)
 |array (n e:Nat)
 |map (k e:Nat)
 |struct (fs:List (Nat×Nat×Nat))
 |func
 |iface (plain:Bool)
 |tuple
 deriving DecidableEq,Inhabited
structure TI where
 kind:TK
 size:Nat
 bytes:Nat
 zero:List Z
 eqs:Bool
 own:Option Nat:=none
 deriving Inhabited
def TK.agg (k:TK):Bool:=match k with | .struct _=>true| .array _ _=>true|_=>false
def TI.agg (i:TI):Bool:=i.kind.agg
abbrev TT:=Nat->Option TI
def bytesOf (s:ByteArray):List Nat:=s.data.toList.map (·.toNat)
def cS:Value->Option Z
 | .bool b=>some (.bool (.lit b))
 | .int k n=>some (.int k (.lit n))
 | .string s=>some (.str (bytesOf s))
 | .pointer none=>some .dw
 | .slice none 0 0=>some .bE
 | .map none=>some .eS
 | .nilFunc=>some .jZ
 | .nilIface=>some .lB
 | .func fn f c=>if f.isEmpty&&c.isEmpty then some (.func fn [] []) else none
 |_=>none
def ew:List Value->Option (List Z)
 |[]=>some []
 |v::vs=>match cS v with
  |none=>none
  |some a=>match ew vs with
   |none=>none
   |some aaa=>some (a::aaa)
def ofConst:Value->Option Z
 | .agg cs=>(ew cs.toList).map .agg
 | .tuple vs=>(ew vs.toList).map .tuple
 |v=>cS v
def hY (a b:Y):SB:=match cf a b with
 |true=> .lit true
 |false=>match a with
  | .cE _=> .eq b a
  |_=> .eq a b
def l7 (x:Y):Y:=match x with
 | .op o a _=>match o with
   | .mk=>a
   |_=> .op .num x (.lit 0)
 | .cE d=>match d with
   | .i n=> .lit n
   |_=> .op .num x (.lit 0)
 |_=> .op .num x (.lit 0)
def gM (x:Y):Y:=match x with
 | .lit n=> .cE (.i n)
 |x=> .op .mk x (.lit 0)
def dr (j:Nat) (x:Y):Y:=match x with
 | .op o a b=>match o with
   | .cons=>match j with
     |0=>a
     |j+1=>dr j b
   |_=> .op (.cell j) x (.lit 0)
 |_=> .op (.cell j) x (.lit 0)
def bL (x:Y):Y:=match x with
 | .op o a _=>match o with
   | .set=>bL a
   |_=> .op .len x (.lit 0)
 | .cE d=> .lit (Int.ofNat d.l.length)
 |_=> .op .len x (.lit 0)
def cm (a b:Y):Y:=.op .cons a b
def xj (x:Y):Bool:=match x with
 | .cE d=>match d with
   | .i n=>j3 n 0
   |_=>false
 |_=>false
def kz (c:CK) (x:Y):Z:=match c with
 | .int k=> .int k (l7 x)
 | .bool=> .bool (.not (.eq (l7 x) (.lit 0)))
 | .str=> .dW x
 | .sl t=> .cE x t
def df:List CK->Nat->Y->List Z
 |[],_,_=>[]
 |c::cs,j,x=>kz c (dr j x)::df cs (j+1) x
def cT (r:Row) (x:Y):List Z:=match r with
 | .one c=>[kz c x]
 | .many cs=>df cs 0 x
def fk (x:Y):Y:=match x with
 | .cE d=> .cE d
 | .op o a b=>match o with
   | .cell j=> .op (.cell j) a b
   | .at=> .op .at a b
   |o=> .op .norm (.op o a b) (.lit 0)
 |x=> .op .norm x (.lit 0)
def jI:Z->Option Y
 | .str l=>some (.cE (eD l))
 | .dW e=>some e
 |_=>none
def ot (x y:Z):Option SB:=match jI x with
 |none=>none
 |some a=>match jI y with
  |none=>none
  |some b=>some (hY (fk a) (fk b))
def fK (c:CK) (v:Z):Option Y:=match c with
 | .int k=>match v with
   | .int k' e=>if k=k' then some (gM e) else none
   |_=>none
 | .bool=>match v with
   | .bool c=>match c with
     | .lit b=>some (.cE (.i (if b then 1 else 0)))
     | .not d=>match d with
       | .eq x z=>match z with
         | .lit n=>if n=0 then some (.op .bit (gM x) (.lit 0)) else none
         |_=>none
       |_=>none
     |_=>none
   |_=>none
 | .str=>jI v
 | .sl t=>match v with
   | .cE e t'=>if t=t' then some e else none
   | .bE=>some (.cE (.i 1))
   | .lN z t'=>if t=t' then some z else none
   | .slice _ _ n _=>match n with
     |0=>some (.cE (.i 2))
     |_=>none
   |_=>none
def de:List CK->List Z->Option Y
 |[],[]=>some (.cE (.i 0))
 |c::cs,v::vs=>match fK c v with
  |none=>none
  |some a=>match de cs vs with
   |none=>none
   |some b=>some (cm a b)
 |_,_=>none
def ij (r:Row) (cs:List Z):Option Y:=match r with
 | .one c=>match cs with
   |[v]=>fK c v
   |_=>none
 | .many ks=>de ks cs
def ei (r:Row) (e:Y):Nat->List Z->Option Y
 |0,[]=>some e
 |0,_::_=>none
 |m+1,cs=>match ij r (cs.take r.es) with
  |none=>none
  |some x=>ei r (.op .snoc e x) m (cs.drop r.es)
structure St where
 bj:Tr Z
 h:Hp
 pc:List (SB×Bool)
 deriving Inhabited
def St.set (s:St) (t:Nat) (v:Z):St:={ s with bj:=s.bj.put t (some v) }
def St.vg (s:St) (d:Option Nat) (v:Z):St:=match d with |some t=>s.set t v|none=>s
def ev (s:St):Operand->Option Z
 | .tmp t=>s.bj.get t
 | .const v=>ofConst v
 | .func f=>some (.func (.func f) [] [])
 | .global _=>none
def FJ (s:St):List Operand->Option (List Z)
 |[]=>some []
 |x::xs=>match ev s x with
  |none=>none
  |some a=>match FJ s xs with
   |none=>none
   |some aaa=>some (a::aaa)
def gn:SB->SB->Bool
 | .lit a,.lit b=>a == b
 | .lt a b,.lt c d=>match cf a c with |true=>cf b d|false=>false
 | .le a b,.le c d=>match cf a c with |true=>cf b d|false=>false
 | .eq a b,.eq c d=>match cf a c with |true=>cf b d|false=>false
 | .not a,.not b=>gn a b
 | .and a b,.and c d=>match gn a c with |true=>gn b d|false=>false
 |_,_=>false
theorem iE: ∀(a b:SB),gn a b=true->a=b
 | .lit a,b,h=>by cases b<;>simp [gn] at h; rw [h]
 | .lt a b,c,h=>by cases c<;>simp only [gn,ay] at h; split at h<;>first |(rename_i O; rw [bD _ _ O,bD _ _ h]; done)|simp at h
 | .le a b,c,h=>by cases c<;>simp only [gn,ay] at h; split at h<;>first |(rename_i O; rw [bD _ _ O,bD _ _ h]; done)|simp at h
 | .eq a b,c,h=>by cases c<;>simp only [gn,ay] at h; split at h<;>first |(rename_i O; rw [bD _ _ O,bD _ _ h]; done)|simp at h
 | .not a,c,h=>by cases c<;>simp only [gn,ay] at h; rw [iE _ _ h]
 | .and a b,c,h=>by cases c<;>simp only [gn,ay] at h; split at h<;>first |(rename_i O; rw [iE _ _ O,iE _ _ h]; done)|simp at h
def fF (c:SB):List (SB×Bool)->Option Bool
 |[]=>none
 |(d,b)::l=>match gn c d with
  |true=>some b
  |false=>fF c l
def Bl (a:Option Int) (z:Int):Option Int:=match a with
 |none=>some z
 |some y=>some (if y<z then z else y)
def Bk (a:Option Int) (z:Int):Option Int:=match a with
 |none=>some z
 |some y=>some (if z<y then z else y)
def Bf (a:Option Int) (z:Int):Option Int:=match a with
 |none=>none
 |some y=>some (if y=z then z+1 else y)
def Bh (a:Option Int) (z:Int):Option Int:=match a with
 |none=>none
 |some y=>some (if y=z then z-1 else y)
def zx (e:Y):Option Int×Option Int:=match e with
 | .rem a c=>match c with
   | .lit k=>match a with
     | .add b d=>match d with
       | .lit m=>match b with
         | .rem _ f=>match f with
           | .lit n=>if 0<n/\n=m/\m=k then (some 0,some (n-1)) else (none,none)
           |_=>(none,none)
         |_=>(none,none)
       |_=>(none,none)
     |_=>(none,none)
   |_=>(none,none)
 | .op o _ _=>match o with
   | .len=>(some 0,none)
   |_=>(none,none)
 |_=>(none,none)
def bounds (e:Y):List (SB×Bool)->Option Int×Option Int
 |[]=>zx e
 |(c,v)::l=>match c with
  | .lt x y=>match x with
    | .lit z=>match cf y e with
      |false=>bounds e l
      |true=>match bounds e l with
       |(lo,hi)=>match v with
        |true=>(Bl lo (z+1),hi)
        |false=>(lo,Bk hi z)
    |x=>match y with
     | .lit z=>match cf x e with
       |false=>bounds e l
       |true=>match bounds e l with
        |(lo,hi)=>match v with
         |true=>(lo,Bk hi (z-1))
         |false=>(Bl lo z,hi)
     |_=>bounds e l
  | .eq x y=>match y with
    | .lit z=>match v with
      |false=>match cf x e with
       |false=>bounds e l
       |true=>match bounds e l with
        |(lo,hi)=>(Bf lo z,Bh hi z)
      |true=>match cf x e with
       |false=>bounds e l
       |true=>(some z,some z)
    |_=>bounds e l
  |_=>bounds e l
def gC (e:Y) (pc:List (SB×Bool)):Option Int×Option Int:=match e with
 | .wrap k s=>match k with
   | .i64=>match s with
     | .add b d=>match d with
       | .lit c=>match bounds b pc with
         |(some lo,some hi)=>if -9223372036854775808<=lo+c/\hi+c<=9223372036854775807 then (match bounds e pc with
          |(l2,U)=>(Bl l2 (lo+c),Bk U (hi+c))) else bounds e pc
         |_=>bounds e pc
       |_=>bounds e pc
     |_=>bounds e pc
   |_=>bounds e pc
 |_=>bounds e pc
def yI (a b:Y) (pc:List (SB×Bool)):Option Bool:=match fF (.eq a b) pc with
 |some v=>some v
 |none=>fF (.eq b a) pc
def decLt (pc:List (SB×Bool)) (a b:Y):Option Bool:=match fF (.lt a b) pc with
 |some v=>some v
 |none=>match a with
  | .lit z=>match gC b pc with
    |(lo,hi)=>match lo with
     |some l=>if z<l then some true else match hi with
      |some h=>if h<=z then some false else none
      |none=>none
     |none=>match hi with
      |some h=>if h<=z then some false else none
      |none=>none
  |a=>match b with
   | .lit z=>match gC a pc with
     |(lo,hi)=>match hi with
      |some h=>if h<z then some true else match lo with
       |some l=>if z<=l then some false else none
       |none=>none
      |none=>match lo with
       |some l=>if z<=l then some false else none
       |none=>none
   |b=>match yI a b pc with
    |some true=>some false
    |some false=>match fF (.lt b a) pc with
     |some v=>some !v
     |none=>none
    |none=>match fF (.lt b a) pc with
     |some true=>some false
     |_=>none
def decEq (pc:List (SB×Bool)) (a b:Y):Option Bool:=match yI a b pc with
 |some v=>some v
 |none=>match b with
  | .lit z=>match gC a pc with
    |(lo,hi)=>match lo with
     |some l=>if z<l then some false else match hi with
      |some h=>if h<z then some false else if l=z/\h=z then some true else none
      |none=>none
     |none=>match hi with
      |some h=>if h<z then some false else none
      |none=>none
  |b=>match fF (.lt a b) pc with
   |some true=>some false
   |some false=>match fF (.lt b a) pc with
    |some v=>some !v
    |none=>none
   |none=>match fF (.lt b a) pc with
    |some true=>some false
    |_=>none
def dO:Y->Option (Sum Int D)
 | .lit n=>some (.inl n)
 | .cE d=>some (.inr d)
 | .op o a b=>match o with
   | .num=>match dO a with
     |some (.inr d)=>some (.inl d.n)
     |_=>none
   | .mk=>match dO a with
     |some (.inl n)=>some (.inr (.i n))
     |_=>none
   | .cons=>match dO a,dO b with
     |some (.inr x),some (.inr y)=>some (.inr (.p x y))
     |_,_=>none
   | .xf=>match dO a,dO b with
     |some (.inr x),some (.inr y)=>some (.inr ((fv x.l y).getD (.i 0)))
     |_,_=>none
   | .qi=>match dO a,dO b with
     |some (.inr x),some (.inr (.p k v))=>some (.inr (dL (lE x.l k v)))
     |_,_=>none
   | .xg=>match dO a,dO b with
     |some (.inr x),some (.inr y)=>some (.inr (dL (tK x.l y)))
     |_,_=>none
   | .zZ=>match dO a,dO b with
     |some (.inr x),some (.inr y)=>some (.inl (if (fv x.l y).isSome then 1 else 0))
     |_,_=>none
   | .norm=>match dO a with
     |some (.inr x)=>some (.inr x)
     |_=>none
   |_=>none
 | .wrap k a=>match dO a with
   |some (.inl n)=>some (.inl (iO k n))
   |_=>none
 | .mul a b=>match dO a,dO b with
   |some (.inl x),some (.inl y)=>some (.inl (x*y))
   |_,_=>none
 | .quo a b=>match dO a,dO b with
   |some (.inl x),some (.inl y)=>some (.inl (x.tdiv y))
   |_,_=>none
 | .rem a b=>match dO a,dO b with
   |some (.inl x),some (.inl y)=>some (.inl (x.tmod y))
   |_,_=>none
 |_=>none
def pA (pc:List (SB×Bool)) (c:SB):Option Bool:=
 match c with
 | .lit b=>some b
 | .lt a b=>match dO a,dO b with
   |some (.inl x),some (.inl y)=>some (decide (x<y))
   |_,_=>decLt pc a b
 | .eq a b=>match dO a,dO b with
   |some (.inl x),some (.inl y)=>some (decide (x=y))
   |_,_=>decEq pc a b
 |c=>fF c pc
def dS (pc:List (SB×Bool)) (c:SB):Option Bool:=
 match c with
 | .not s=>(pA pc s).map (!·)
 |c=>pA pc c
def dP {α:Type} (s:St) (c:SB) (f:St->Bool->T α):T α:=
 match dS s.pc c with
 |some b=>f s b
 |none=>match c with
  | .not d=> .split d (f { s with pc:=(d,true)::s.pc } false) (f { s with pc:=(d,false)::s.pc } true)
  |c=> .split c (f { s with pc:=(c,true)::s.pc } true) (f { s with pc:=(c,false)::s.pc } false)
def A1 (k:IntKind):Y->Y->Y
 | .lit x,.lit y=> .lit (iO k (x+y))
 |a,b=> .wrap k (.add a b)
def yp (k:IntKind):Y->Y->Y
 | .lit x,.lit y=> .lit (iO k (x-y))
 |a,b=> .wrap k (.sub a b)
def A0 (k:IntKind):Y->Y->Y
 | .lit x,.lit y=> .lit (iO k (x*y))
 |a,b=> .wrap k (.mul a b)
def da:Y->Y->SB
 | .lit x,.lit y=> .lit (decide (x<y))
 |a,b=> .lt a b
def CQ:Y->Y->SB
 | .lit x,.lit y=> .lit (decide (x<=y))
 |a,b=> .not (.lt b a)
def im:Y->Y->SB
 | .lit x,.lit y=> .lit (x == y)
 | .lit x,b=> .eq b (.lit x)
 |a,b=>match cf a b with
  |true=> .lit true
  |false=> .eq a b
def k5:SB->SB
 | .lit b=> .lit !b
 | .not s=>s
 |s=> .not s
def A4:SB->SB->SB
 | .lit true,b=>b
 | .lit false,_=> .lit false
 |a,.lit true=>a
 |_,.lit false=> .lit false
 |a,b=> .and a b
def bytesLess:List Nat->List Nat->Bool
 |_,[]=>false
 |[],_::_=>true
 |a::x,b::y=>if a.blt b then true else if a.beq b then bytesLess x y else false
def dB:List Nat->List Nat->Bool
 |[],[]=>true
 |a::x,b::y=>if a.beq b then dB x y else false
 |_,_=>false
def vc (op:BinOp) (x y:List Nat):Option Z:=
 match op with
 | .add=>if x.length+y.length<=1000000 then some (.str (x++y)) else none
 | .eql=>some (.bool (.lit (dB x y)))
 | .neq=>some (.bool (.lit !(dB x y)))
 | .lss=>some (.bool (.lit (bytesLess x y)))
 | .leq=>some (.bool (.lit (bytesLess x y||dB x y)))
 | .gtr=>some (.bool (.lit !(bytesLess x y||dB x y)))
 | .geq=>some (.bool (.lit !(bytesLess x y)))
 |_=>none
def yW (op:BinOp) (k:IntKind) (a b:Y):Option Z:=
 match op with
 | .add=>some (.int k (A1 k a b))
 | .sub=>some (.int k (yp k a b))
 | .mul=>some (.int k (A0 k a b))
 | .quo=>match a,b with
   | .lit x,.lit y=>if y=0 then none else some (.int k (.lit (iO k (x.tdiv y))))
   |a,.lit y=>if y=0 then none else some (.int k (.wrap k (.quo a (.lit y))))
   |_,_=>none
 | .rem=>match a,b with
   | .lit x,.lit y=>if y=0 then none else some (.int k (.lit (x.tmod y)))
   |a,.lit y=>if y=0 then none else some (.int k (.rem a (.lit y)))
   |_,_=>none
 | .shr=>match a,b with
   | .lit x,.lit y=>if y<0 then none else some (.int k (.lit (x.fdiv (2 ^ (min y.toNat k.bits)))))
   |_,_=>none
 | .eql=>some (.bool (im a b))
 | .neq=>some (.bool (k5 (im a b)))
 | .lss=>some (.bool (da a b))
 | .leq=>some (.bool (CQ a b))
 | .gtr=>some (.bool (da b a))
 | .geq=>some (.bool (CQ b a))
 |_=>none
def cq {α:Type}:List α->Nat->Option α
 |[],_=>none
 |x::_,0=>some x
 |_::xs,n+1=>cq xs n
def py (a b:SB):Option SB:=
 match a,b with
 | .lit x,.lit y=>some (.lit (x == y))
 | .lit x,b=>some (if x then b else k5 b)
 |a,.lit y=>some (if y then a else k5 a)
 |a,b=>some (.not (.and (.not (.and a b)) (.not (.and (.not a) (.not b)))))
def xX (k:TK) (x y:Z):Option SB:=
 match k with
 | .int _=>match x,y with
   | .int k a,.int k' b=>if k=k' then some (im a b) else none
   |_,_=>none
 | .string=>match x,y with
   | .str a,.str b=>some (.lit (dB a b))
   |x,y=>ot x y
 | .bool=>match x,y with
   | .bool a,.bool b=>py a b
   |_,_=>none
 |_=>none
def BV (tt:TT) (xs ys:List Z):List (Nat×Nat×Nat)->Option SB
 |[]=>some (.lit true)
 |(off,ft,_)::fs=>match tt ft with
  |none=>none
  |some i=>match cq xs off,cq ys off with
   |some x,some y=>match xX i.kind x y with
    |none=>none
    |some c=>match BV tt xs ys fs with
     |none=>none
     |some d=>some (A4 c d)
   |_,_=>none
def pw (tt:TT) (t:Nat) (xs ys:List Z):Option SB:=
 match tt t with
 |none=>none
 |some i=>match i.kind with
  | .struct fs=>if i.eqs then BV tt xs ys fs else none
  |_=>none
def ec:Z->Option Int
 | .int _ (.lit n)=>some n
 |_=>none
def isNil (k:TK) (x:Z):Option Bool:=
 match k with
 | .slice _=>match x with
   | .bE=>some true
   | .slice _ _ _ _=>some false
   | .ro _ _ _=>some false
   | .hK _ _ _=>some false
   |_=>none
 | .pointer _=>match x with
   | .dw=>some true
   | .ptr _ _=>some false
   | .fD _=>some false
   |_=>none
 | .map _ _=>match x with
   | .eS=>some true
   | .map _=>some false
   |_=>none
 |_=>none
def FN (k:TK) (x y:Z):Option SB:=
 match k with
 | .bool=>match x,y with
   | .bool a,.bool b=>py a b
   |_,_=>none
 |k=>match isNil k x,isNil k y with
  |some true,some b=>some (.lit b)
  |some false,some true=>some (.lit false)
  |_,_=>none
def tv (op:BinOp) (c:Option SB):Option Z:=match c with
 |none=>none
 |some c=>match op with
  | .eql=>some (.bool c)
  | .neq=>some (.bool (.not c))
  |_=>none
def BU (tt:TT) (t:Nat) (op:BinOp) (x y:Z):Option Z:=
 match x with
 | .int k a=>match y with
   | .int k' b=>match op with
     | .shr=>yW op k a b
     | .shl=>none
     |_=>if k=k' then yW op k a b else none
   |_=>none
 | .str a=>match y with
   | .str b=>vc op a b
   | .dW e=>tv op (ot (.str a) (.dW e))
   |_=>none
 | .dW e=>tv op (ot (.dW e) y)
 |_=>match tt t with
  |none=>none
  |some i=>match op,FN i.kind x y with
   | .eql,some c=>some (.bool c)
   | .neq,some c=>some (.bool (k5 c))
   |_,_=>none
def FL (op:UnOp) (x:Z):Option Z:=
 match op,x with
 | .not,.bool b=>some (.bool (k5 b))
 | .neg,.int k e=>some (.int k (yp k (.lit 0) e))
 |_,_=>none
def di {α:Type}:Nat->List α->Option (List α)
 |0,_=>some []
 |_+1,[]=>none
 |n+1,x::xs=>match di n xs with
  |some l=>some (x::l)
  |none=>none
def b8 {α:Type}:Nat->List α->Option (List α)
 |0,l=>some l
 |_+1,[]=>none
 |n+1,_::xs=>b8 n xs
def bM:List Z->Nat->List Z->Option (List Z)
 |cs,0,[]=>some cs
 |[],0,_::_=>none
 |_::cs,0,v::vs=>match bM cs 0 vs with
  |some l=>some (v::l)
  |none=>none
 |[],_+1,_=>none
 |c::cs,n+1,vs=>match bM cs n vs with
  |some l=>some (c::l)
  |none=>none
def iy:List Z->Bool
 |[]=>true
 |v::vs=>v.one&&iy vs
def fu (h:Hp) (p:Z) (n:Nat):Option (List Z):=
 match p with
 | .ptr id off=>match h.get id with
   |some (.cells cs _)=>match b8 off cs with
    |some l=>di n l
    |none=>none
   |_=>none
 | .fD cs=>di n cs
 |_=>none
def n8 (tt:TT) (t:Nat) (p:Z) (h:Hp):Option Z:=
 match tt t with
 |none=>none
 |some i=>match i.agg with
  |true=>(fu h p i.size).map .agg
  |false=>match fu h p 1 with
   |some (v::_)=>some v
   |_=>none
def ue (tt:TT) (t:Nat) (p v:Z) (h:Hp):Option Hp:=
 match tt t with
 |none=>none
 |some i=>
  if v.cells.length=i.size&&iy v.cells then
   match p with
   | .ptr id off=>match h.get id with
     |some (.cells cs e)=>match bM cs off v.cells with
      |some eW=>some (h.put id (.cells eW e))
      |none=>none
     |_=>none
   |_=>none
  else none
def jq (place:Nat->Option (Nat×Nat)) (cs:List Z):List (Nat×Z)->Option (List Z)
 |[]=>some cs
 |(i,v)::rest=>match place i with
  |none=>none
  |some (off,size)=>
   if v.cells.length=size&&iy v.cells then
    match bM cs off v.cells with
    |some eW=>jq place eW rest
    |none=>none
   else none
def dj (tt:TT) (t:Nat):Option Nat:=(tt t).map (·.size)
def uE (tt:TT) (t:Nat) (parts:List (Nat×Z)):Option Z:=
 match tt t with
 |some i=>match i.kind with
  | .struct fs=>(jq (fun j=>(cq fs j).map fun f=>(f.1,f.2.2)) i.zero parts).map .agg
  | .array _ e=>match dj tt e with
    |some s=>(jq (fun j=>some (j*s,s)) i.zero parts).map .agg
    |none=>none
  |_=>none
 |none=>none
def bJ {α:Type} (l:List α):Nat->List α
 |0=>[]
 |n+1=>l++bJ l n
def jt (tt:TT) (t len:Nat) (parts:List (Nat×Z)) (h:Hp):Option (Z×Hp):=
 match tt t with
 |some i=>match i.kind with
  | .slice e=>match tt e with
    |some ie=>
     if len<=1000/\ie.size<=1000/\ie.zero.length=ie.size then
      match jq (fun j=>some (j*ie.size,ie.size)) (bJ ie.zero len) parts with
      |some cs=>some (.slice h.fresh 0 len (.exact len),h.new (.cells cs e))
      |none=>none
     else none
    |none=>none
  |_=>none
 |none=>none
def ig (tt:TT) (t:Nat) (l c:Z) (h:Hp):Option (Z×Hp):=
 match ec l with
 |some (.ofNat n)=>match ec c with
  |some (.ofNat m)=>match tt t with
   |some i=>match i.kind with
    | .slice e=>match tt e with
      |some ie=>
       if n<=m/\m<=1000/\ie.size<=1000/\ie.bytes<=1000000/\ie.zero.length=ie.size then
        some (.slice h.fresh 0 n (.exact m),h.new (.cells (bJ ie.zero m) e))
       else none
      |none=>none
    |_=>none
   |none=>none
  |_=>none
 |_=>none
def yE (off:Nat) (x:Z):Option Z:=match x with
 | .ptr id o=>some (.ptr id (o+off))
 | .nk id es i o=>some (.nk id es i (o+off))
 | .fD cs=>(b8 off cs).map .fD
 |_=>none
def partOf (i:TI) (l:List Z):Option Z:=match i.agg with
 |true=>(di i.size l).map .agg
 |false=>match l with
  |v::_=>some v
  |[]=>none
def ku (tt:TT) (t:Nat) (p:Z) (f:Nat):Option Z:=
 match tt t with
 |some i=>match i.kind with
  | .struct fs=>match cq fs f with
    |some (off,_,size)=>match size with
     |0=>none
     |_=>yE off p
    |none=>none
  |_=>none
 |none=>none
def ur (tt:TT) (t:Nat) (x:Z) (f:Nat):Option Z:=
 match tt t with
 |some i=>match i.kind with
  | .struct fs=>match cq fs f with
    |some (off,ft,_)=>match tt ft,x with
     |some fi,.agg cs=>match b8 off cs with
      |some l=>partOf fi l
      |none=>none
     |_,_=>none
    |none=>none
  |_=>none
 |none=>none
def gf (tt:TT) (t:Nat) (x ix:Z):Option Z:=
 match ec ix with
 |some (.ofNat i)=>match tt t with
  |some ti=>match ti.kind with
   | .array n e=>if i<n then match dj tt e with
    |some s=>yE (i*s) x
    |none=>none
    else none
   | .slice e=>match dj tt e with
     |some s=>match x with
      | .slice id o len _=>if i<len then some (.ptr id (o+i*s)) else none
      | .ro cs n _=>if i<n then (b8 (i*s) cs).map .fD else none
      |_=>none
     |none=>none
   |_=>none
  |none=>none
 |_=>none
def j4 (k:Nat) (e:Y):List IntKind->Nat->List Z
 |[],_=>[]
 |kd::ks,j=> .int kd (.k8 (k*8+j) e)::j4 k e ks (j+1)
def uq (tt:TT) (pc:List (SB×Bool)) (t k:Nat) (ks:List IntKind) (ix:Z):Option Z:=
 match ix with
 | .int _ e=>match tt t with
   |some ti=>match ti.kind with
    | .slice el=>match dj tt el with
      |some s=>if s=ks.length/\k<8/\s<=8 then match dS pc (da e (.lit 0)),dS pc (da e (.pE (900+k))) with
       |some false,some true=>some (.fD (j4 k e ks 0))
       |_,_=>none
       else none
      |none=>none
    |_=>none
   |none=>none
 |_=>none
def mM (tt:TT) (t:Nat) (x ix:Z):Option Z:=
 match ec ix with
 |some (.ofNat i)=>match tt t with
  |some ti=>match ti.kind,x with
   | .string,.str s=>(cq s i).map fun b=> .int .u8 (.lit (Int.ofNat b))
   | .array n e,.agg cs=>if i<n then match tt e with
    |some ie=>match b8 (i*ie.size) cs with
     |some l=>partOf ie l
     |none=>none
    |none=>none
    else none
   |_,_=>none
  |none=>none
 |_=>none
def fP (x:Option Z) (d:Nat) (y:Nat):Option Nat:=
 match x with
 |none=>if d<=y then some d else none
 |some v=>match ec v with
  |some (.ofNat i)=>if i<=y then some i else none
  |_=>none
def mF (tt:TT) (t:Nat) (x:Z) (lo hi mx:Option Z):Option Z:=
 match tt t with
 |none=>none
 |some ti=>match ti.kind with
  | .string=>match x,mx with
    | .str s,none=>match fP hi s.length s.length with
      |some h=>match fP lo 0 h with
       |some l=>some (.str ((s.take h).drop l))
       |none=>none
      |none=>none
    |_,_=>none
  | .slice e=>match dj tt e with
    |none=>none
    |some s=>match x with
     | .bE=>if mx.isSome&&hi.isNone then none else match fP hi 0 0,fP lo 0 0,fP mx 0 0 with
       |some _,some _,some _=>some .bE
       |_,_,_=>none
     | .slice id o len (.exact c)=>if mx.isSome&&hi.isNone then none else match fP mx c c with
       |none=>none
       |some m=>match fP hi len m with
        |none=>none
        |some h=>match fP lo 0 h with
         |none=>none
         |some l=>some (.slice id (o+l*s) (h-l) (.exact (m-l)))
     | .slice id o len (.rest es)=>match mx with
       |none=>match fP hi len len with
        |none=>none
        |some h=>match fP lo 0 h with
         |none=>none
         |some l=>if es=s then some (.slice id (o+l*s) (h-l) (.rest es)) else none
       |some _=>match hi,fP mx 0 len with
        |none,_=>none
        |_,none=>none
        |some _,some m=>match fP hi 0 m with
         |none=>none
         |some h=>match fP lo 0 h with
          |none=>none
          |some l=>some (.slice id (o+l*s) (h-l) (.exact (m-l)))
     | .ro cs n full=>match mx with
       |none=>match fP hi n n with
        |none=>none
        |some h=>match fP lo 0 h with
         |none=>none
         |some l=>match b8 (l*s) cs with
          |none=>none
          |some d=>match di ((h-l)*s) d with
           |none=>none
           |some d'=>some (.ro d' (h-l) (full&&h == n))
       |some _=>match hi,fP mx 0 n with
        |none,_=>none
        |_,none=>none
        |some _,some m=>match fP hi 0 m with
         |none=>none
         |some h=>match fP lo 0 h with
          |none=>none
          |some l=>match b8 (l*s) cs with
           |none=>none
           |some d=>match di ((h-l)*s) d with
            |none=>none
            |some d'=>some (.ro d' (h-l) (h == m))
     |_=>none
  | .array n e=>match dj tt e with
    |none=>none
    |some s=>match x with
     | .ptr id o=>if mx.isSome&&hi.isNone then none else match fP mx n n with
       |none=>none
       |some m=>match fP hi n m with
        |none=>none
        |some h=>match fP lo 0 h with
         |none=>none
         |some l=>some (.slice id (o+l*s) (h-l) (.exact (m-l)))
     |_=>none
  |_=>none
def qR (tt:TT) (t:Nat) (x:Z) (lo hi mx:Option Z) (h:Hp):Option Z:=
 match mx with
 |some _=>none
 |none=>match tt t with
  |none=>none
  |some ti=>match ti.kind with
   | .slice e=>match dj tt e with
     |none=>none
     |some s=>match x with
      | .slice id o len (.rest es)=>if es=s/\0<s then match h.get id with
       |some (.cells cs _)=>match fP hi len ((cs.length-o) / s) with
        |none=>none
        |some hh=>match fP lo 0 hh with
         |none=>none
         |some l=>some (.slice id (o+l*s) (hh-l) (.rest es))
       |_=>none
       else none
      |_=>none
   |_=>none
def kA:List Z->Option (List Nat)
 |[]=>some []
 | .int .u8 (.lit (.ofNat b))::xs=>if b<256 then match kA xs with
  |some l=>some (b::l)
  |none=>none
  else none
 |_::_=>none
def gG (tt:TT) (sT dT:Nat) (x:Z) (h:Hp):Option (Z×Hp):=
 match tt sT with
 |none=>none
 |some j=>match tt dT with
 |some i=>match i.kind with
  | .int k=>match x with
    | .int _ (.lit n)=>some (.int k (.lit (iO k n)),h)
    | .int _ e=>some (.int k (.wrap k e),h)
    |_=>none
  | .string=>match j.kind with
   | .string=>match x with
     | .str s=>some (.str s,h)
     |_=>none
   | .slice e=>match tt e with
     |none=>none
     |some ie=>if ie.kind= .int .u8/\ie.size=1 then match x with
      | .bE=>some (.str [],h)
      | .slice id o len _=>match fu h (.ptr id o) len with
        |some cs=>(kA cs).map fun l=>(.str l,h)
        |none=>none
      |_=>none
      else none
   |_=>none
  | .slice e=>match tt e with
    |none=>none
    |some ie=>if ie.kind= .int .u8/\j.kind= .string then match x with
     | .str s=>some (.slice h.fresh 0 s.length (.rest 1),h.new (.cells (s.map fun c=> .int .u8 (.lit (Int.ofNat c))) e))
     |_=>none
     else none
  |_=>none
 |none=>none
def yR (pc:List (SB×Bool)) (kk:TK) (a b:Z):Option Bool:=
 match kk with
 | .int _=>match a,b with
   | .int k x,.int k' y=>if k=k' then dS pc (im x y) else none
   |_,_=>none
 | .string=>match a,b with
   | .str x,.str y=>some (dB x y)
   |x,y=>match ot x y with
    |some c=>dS pc c
    |none=>none
 | .bool=>match a,b with
   | .bool (.lit x),.bool (.lit y)=>some (x == y)
   |_,_=>none
 |_=>none
def oN (pc:List (SB×Bool)) (kk:TK) (k:Z):List (Z×Z×Nat)->Nat->Option (Option (Nat×Z))
 |[],_=>some none
 |(k',v,_)::es,i=>match yR pc kk k k' with
  |some true=>some (some (i,v))
  |some false=>oN pc kk k es (i+1)
  |none=>none
def fj (k v:Z):List (Z×Z×Nat)->Nat->List (Z×Z×Nat)
 |[],_=>[]
 |(_,_,b)::es,0=>(k,v,b)::es
 |e::es,n+1=>e::fj k v es n
def dK {α:Type}:List α->Nat->List α
 |[],_=>[]
 |_::xs,0=>xs
 |x::xs,n+1=>x::dK xs n
def kM (tt:TT) (t:Nat):Option TK:=match tt t with
 |some i=>match i.kind with
  | .int k=>some (.int k)
  | .string=>some .string
  | .bool=>some .bool
  |_=>none
 |none=>none
def zeroOf (i:TI):Option Z:=
 match i.agg with
 |true=>some (.agg i.zero)
 |false=>match i.zero with
  |[v]=>some v
  |_=>none
def tJ (m:Z) (h:Hp):Option (List (Z×Z×Nat)):=match m with
 | .eS=>some []
 | .map id=>match h.get id with
   |some (.map es _)=>some es
   |_=>none
 |_=>none
def qU (tt:TT) (pc:List (SB×Bool)) (t:Nat) (m k:Z) (ok:Bool) (h:Hp):Option Z:=
 match tt t with
 |some ti=>match ti.kind with
  | .map kt et=>
    match kM tt kt with
    |none=>none
    |some kk=>
     match tt et with
     |none=>none
     |some ie=>
      match tJ m h with
      |none=>none
      |some es=>match oN pc kk k es 0 with
       |none=>none
       |some (some (_,v))=>some (if ok then .tuple [v,.bool (.lit true)] else v)
       |some none=>match zeroOf ie with
        |none=>none
        |some z=>some (if ok then .tuple [z,.bool (.lit false)] else z)
  |_=>none
 |none=>none
def ic (tt:TT) (pc:List (SB×Bool)) (t:Nat) (m k v:Z) (h:Hp):Option Hp:=
 match tt t with
 |some ti=>match ti.kind with
  | .map kt _=>
    match kM tt kt with
    |none=>none
    |some kk=>match m with
     | .map id=>match h.get id with
       |some (.map es c)=>match oN pc kk k es 0 with
        |none=>none
        |some (some (i,_))=>some (h.put id (.map (fj k v es i) c))
        |some none=>some (h.put id (match c with
         |0=> .map (es++ [(k,v,0)]) 0
         |c+1=> .map (es++ [(k,v,c)]) (c+2)))
       |_=>none
     |_=>none
  |_=>none
 |none=>none
def qX (tt:TT) (pc:List (SB×Bool)) (t:Nat) (m k:Z) (h:Hp):Option Hp:=
 match tt t with
 |some ti=>match ti.kind with
  | .map kt _=>
    match kM tt kt with
    |none=>none
    |some kk=>match m with
     | .eS=>some h
     | .map id=>match h.get id with
       |some (.map es c)=>match oN pc kk k es 0 with
        |none=>none
        |some (some (i,_))=>some (h.put id (.map (dK es i) c))
        |some none=>some (h.put id (.map es c))
       |_=>none
     |_=>none
  |_=>none
 |none=>none
def BS (tt:TT) (t:Nat) (x:Z) (h:Hp):Option Z:=
 let n (k:Nat):Option Z:=some (.int .i64 (.lit (Int.ofNat k)))
 match tt t with
 |some ti=>match ti.kind with
  | .string=>match x with
    | .str s=>n s.length
    | .dW e=>some (.int .i64 (bL e))
    |_=>none
  | .slice _=>match x with
    | .bE=>n 0
    | .emp=>n 0
    | .lN _ _=>n 0
    | .slice _ _ len _=>n len
    | .ro _ k _=>n k
    | .cE e _=>some (.int .i64 (bL e))
    | .hK _ e _=>some (.int .i64 e)
    | .jN _ _ e _=>some (.int .i64 e)
    | .k8 k _=>some (.int .i64 (.pE (900+k)))
    |_=>none
  | .array k _=>n k
  | .map _ _=>match x with
    | .eS=>n 0
    | .map id=>match h.get id with
      |some (.map es _)=>n es.length
      |some (.ey e _)=>some (.int .i64 (bL e))
      |some (.kg e _ _ _)=>some (.int .i64 (bL e))
      |_=>none
    |_=>none
  |_=>none
 |none=>none
def iC (s:Nat) (x:Z) (h:Hp):Option (Nat×List Z):=
 match x with
 | .bE=>some (0,[])
 | .slice id o len _=>(fu h (.ptr id o) (len*s)).map fun l=>(len,l)
 | .ro cs n _=>(di (n*s) cs).map fun l=>(n,l)
 | .str b=>if s=1 then some (b.length,b.map fun c=> .int .u8 (.lit (Int.ofNat c))) else none
 |_=>none
def fH (ie:TI) (e len m:Nat) (cs:List Z) (h:Hp):Option (Z×Hp):=
 if (len+m)*ie.bytes<=140737488355328 then some (.slice h.fresh 0 (len+m) (.rest ie.size),h.new (.cells cs e)) else none
def hH (ie:TI) (e m:Nat) (news:List Z) (x:Z) (h:Hp):Option (Z×Hp):=
 match x with
 | .bE=>if m=0 then some (.bE,h) else fH ie e 0 m news h
 | .slice id o len (.exact c)=>
   if len+m<=c then
    match h.get id with
    |some (.cells cs e')=>match bM cs (o+len*ie.size) news with
     |some eW=>some (.slice id o (len+m) (.exact c),h.put id (.cells eW e'))
     |none=>none
    |_=>none
   else match fu h (.ptr id o) (len*ie.size) with
    |some old=>fH ie e len m (old++news) h
    |none=>none
 | .slice id o len (.rest es)=>
   if es=ie.size then
    match h.get id with
    |some (.cells cs e')=>
     if o+(len+m)*ie.size<=cs.length then
      match bM cs (o+len*ie.size) news with
      |some eW=>some (.slice id o (len+m) (.rest es),h.put id (.cells eW e'))
      |none=>none
     else if o+len*ie.size=cs.length/\e'=e then
      match b8 o cs with
      |some old=>fH ie e len m (old++news) (h.drop id)
      |none=>none
     else none
    |_=>none
   else none
 | .ro cs n full=>
   if m=0 then some (.ro cs n full,h)
   else if full then match di (n*ie.size) cs with
    |some old=>fH ie e n m (old++news) h
    |none=>none
   else none
 |_=>none
def qY (tt:TT) (t t2:Nat) (x y:Z) (h:Hp):Option (Z×Hp):=
 match tt t with
 |some ti=>match ti.kind with
  | .slice e=>match tt e with
    |some ie=>match tt t2 with
     |none=>none
     |some yn=>match yn.kind with
      | .int _=>none
      |_=>
       if ie.size=0\/ie.bytes=0\/¬ie.zero.length=ie.size then none else
       match iC ie.size y h with
       |none=>none
       |some (m,news)=>hH ie e m news x h
    |none=>none
  |_=>none
 |none=>none
def uB (tt:TT) (t:Nat) (x:Z) (h:Hp):Option Hp:=
 match tt t with
 |some ti=>match ti.kind with
  | .slice e=>match tt e with
    |some ie=>match x with
     | .bE=>some h
     | .lN _ _=>some h
     | .slice id o len _=>match len with
       |0=>some h
       |_=>match ie.zero with
        |[]=>none
        |_=>match h.get id with
         |some (.cells cs e')=>match bM cs o (bJ ie.zero len) with
          |some eW=>some (h.put id (.cells eW e'))
          |none=>none
         |_=>none
     |_=>none
    |none=>none
  |_=>none
 |none=>none
def uf (tt:TT) (t:Nat) (x:Z) (h:Hp):Option (Z×Hp):=
 match tt t with
 |some ti=>match ti.kind with
  | .string=>match x with
    | .str b=>some (.ptr h.fresh 0,h.new (.dZ b 0))
    |_=>none
  | .map _ _=>match x with
    | .eS=>some (.ptr h.fresh 0,h.new (.dJ none 0 [] 0))
    | .map id=>match h.get id with
      |some (.map _ (c+1))=>some (.ptr h.fresh 0,h.new (.dJ (some id) c [] c))
      |_=>none
    |_=>none
  |_=>none
 |none=>none
def xH (x:Z) (EU:Bool) (h:Hp):Option (Z×Hp):=
 match EU with
 |false=>match x with
  | .ptr id 0=>match h.get id with
    |some (.dJ none _ _ _)=>some (.tuple [.bool (.lit false)],h)
    |some (.dJ (some m) since seen last)=>match h.get m with
     |some (.map [] (_+1))=>some (.tuple [.bool (.lit false)],h)
     |some (.map [(k,v,n)] (c+1))=>match seen with
      |[]=>if n<since then some (.tuple [.bool (.lit true),k,v],h.put id (.dJ (some m) since [n] c)) else none
      |[y]=>if y=n/\n<last then some (.tuple [.bool (.lit false)],h) else none
      |_=>none
     |_=>none
    |_=>none
  |_=>none
 |true=>match x with
  | .ptr id 0=>match h.get id with
    |some (.dZ b p)=>match cq b p with
     |none=>some (.tuple [.bool (.lit false)],h)
     |some c=>if c<128 then some (.tuple [.bool (.lit true),.int .i64 (.lit (Int.ofNat p)),.int .i32 (.lit (Int.ofNat c))],h.put id (.dZ b (p+1))) else none
    |_=>none
  |_=>none
def uw (x:Z) (h:Hp):Option Z:=match x with
 | .ptr id 0=>match h.get id with
   |some (.dJ (some m) _ [y] last)=>match h.get m with
    |some (.map [(k,v,n)] (c+1))=>if n=y/\c=last then some (.tuple [k,v]) else none
    |_=>none
   |_=>none
 |_=>none
def jo (mx:Bool):List Z->Y->IntKind->St->T (Z×St)
 |[],a,k,s=> .ret (.int k a,s)
 | .int _ b::xs,a,k,s=>dP s (if mx then da a b else da b a) fun s c=>if c then jo mx xs b k s else jo mx xs a k s
 |_,_,_,_=> .fail
def EE (s:St) (q:Bool) (k:IntKind) (e d:Y):T (Z×St):=dP s (im d (.lit 0)) fun s c=>match c with
 |true=> .fail
 |false=> .ret (.int k (match q with |true=> .wrap k (.quo e d)|false=> .rem e d),s)
def tm (s:St) (h:Option Z) (k:Option Z->St->T (Z×St)):T (Z×St):=match h with
 |some (.int .i64 e)=>dP s (im e (.lit 0)) fun s c=>match c with
  |true=>k (some (.int .i64 (.lit 0))) s
  |false=> .fail
 |h=>k h s
def w9 (op:BinOp) (a b:Z):Option (Bool×IntKind×Y×Y):=
 match (match op with | .rem=>some false| .quo=>some true|_=>none) with
 |some q=>match a with
  | .int k e=>match b with
    | .int k' d=>match d with
      | .lit _=>none
      |d=>if k=k' then some (q,k,e,d) else none
    |_=>none
  |_=>none
 |none=>none
def gP (s:St) (v:Option Z):T (Z×St):=match v with |some v=> .ret (v,s)|none=> .fail
def w6 (s:St) (h:Option Hp):T (Z×St):=match h with |some h=> .ret (Z.undef,{ s with h:=h })|none=> .fail
def oz (s:St) (r:Option (Z×Hp)):T (Z×St):=match r with |some (v,h)=> .ret (v,{ s with h:=h })|none=> .fail
def s5 (s:St):Option Operand->Option (Option Z)
 |none=>some none
 |some x=>(ev s x).map some
def kT (s:St):List (Nat×Operand)->Option (List (Nat×Z))
 |[]=>some []
 |(i,x)::xs=>match ev s x with
  |none=>none
  |some a=>match kT s xs with
   |none=>none
   |some aaa=>some ((i,a)::aaa)
def mj {α:Type} (s:St) (i n:Y) (f:St->T α):T α:=
 dP s (da i (.lit 0)) fun s b=>match b with
  |true=> .fail
  |false=>dP s (da i n) fun s b=>match b with
   |true=>f s
   |false=> .fail
def xe (tt:TT) (t:Nat) (a b:Z):Option Y:=match a with
 | .cE e _=>match b with
   | .bE=>match tt t with
     |some ti=>match ti.kind with
      | .slice _=>some e
      |_=>none
     |none=>none
   |_=>none
 |_=>none
def Bj (s:St) (op:BinOp) (r:Bool):T (Z×St):=match op with
 | .eql=> .ret (.bool (.lit r),s)
 | .neq=> .ret (.bool (.lit (!r)),s)
 |_=> .fail
def EN (s:St) (e:Y) (op:BinOp):T (Z×St):=dP s (da (.lit 0) (bL e)) fun s b=>match b with
 |true=>Bj s op false
 |false=>dP s (hY (fk e) (.cE (.i 1))) fun s b=>match b with
  |true=>Bj s op true
  |false=>dP s (hY (fk e) (.cE (.i 2))) fun s b=>match b with
   |true=>Bj s op false
   |false=> .fail
def GY (kk:TK) (a b:Z):Option SB:=match kk with
 | .int _=>match a with
   | .int k x=>match b with
     | .int k' y=>if k=k' then some (im x y) else none
     |_=>none
   |_=>none
 | .string=>ot a b
 |_=>none
def jx {α:Type} (kk:TK) (k:Z):List (Z×Z×Nat)->St->(St->T α)->T α
 |[],s,f=>f s
 |(k',_,_)::es,s,f=>match yR s.pc kk k k' with
  |some b=>match b with
   |true=>f s
   |false=>jx kk k es s f
  |none=>match GY kk k k' with
   |some c=>dP s c fun s b=>match b with
    |true=>f s
    |false=>jx kk k es s f
   |none=>f s
def fQ {α:Type} (tt:TT) (t:Nat) (m k:Z) (s:St) (f:St->T α):T α:=match tt t with
 |some ti=>match ti.kind with
  | .map kt _=>match kM tt kt with
    |some kk=>match tJ m s.h with
     |some es=>jx kk k es s f
     |none=>f s
    |none=>f s
  |_=>f s
 |none=>f s
def wv (k:IntKind) (e:Y) (f:Z->St->T (Z×St)):Nat->Nat->St->T (Z×St)
 |0,_,_=> .fail
 |n+1,j,s=>match n with
  |0=>f (.int k (.lit (Int.ofNat j))) s
  |_=>dP s (im e (.lit (Int.ofNat j))) fun s b=>match b with
   |true=>f (.int k (.lit (Int.ofNat j))) s
   |false=>wv k e f n (j+1) s
def Ia (tt:TT) (t:Nat) (x:Z):Option Nat:=match tt t with
 |some ti=>match ti.kind with
  | .array n _=>if n<=64 then some n else none
  | .slice _=>match x with
    | .slice _ _ len _=>if len<=64 then some len else none
    |_=>none
  |_=>none
 |none=>none
def tg (tt:TT) (t:Nat) (x ix:Z) (s:St) (f:Z->St->T (Z×St)):T (Z×St):=match ec ix with
 |some _=>f ix s
 |none=>match ix with
  | .int k e=>match Ia tt t x with
    |some n=>mj s e (.lit (Int.ofNat n)) fun s=>wv k e f n 0 s
    |none=> .fail
  |_=> .fail
def ju (tt:TT) (ty:Nat):Option Nat:=match tt ty with
 |some ti=>match ti.kind with
  | .slice el=>dj tt el
  |_=>none
 |none=>none
def uA (tt:TT) (s:St) (ty t:Nat) (e:Y) (ix:Z):T (Z×St):=match ix with
 | .int _ i=>match ju tt ty with
   |some z=>if z=(rowOf t).es then mj s i (bL e) fun s=> .ret (.fD (cT (rowOf t) (.op .at e i)),s) else .fail
   |none=> .fail
 |_=> .fail
def ub (tt:TT) (s:St) (ty id t:Nat) (n:Y) (ix:Z):T (Z×St):=match ix with
 | .int _ i=>match ju tt ty with
   |some z=>if z=(rowOf t).es then mj s i n fun s=> .ret (.nk id z i 0,s) else .fail
   |none=> .fail
 |_=> .fail
def fU (pc:List (SB×Bool)) (B0:List Z) (i:Y):List (Y×List Z)->Option (List Z)
 |[]=>some B0
 |(j,cs)::l=>match cf i j with
  |true=>some cs
  |false=>match dS pc (im i j) with
   |some b=>match b with
    |true=>some cs
    |false=>fU pc B0 i l
   |none=>none
def r8 (pc:List (SB×Bool)) (i:Y) (eW:List Z):List (Y×List Z)->Option (List (Y×List Z))
 |[]=>none
 |(j,cs)::l=>match cf i j with
  |true=>some ((j,eW)::l)
  |false=>match dS pc (im i j) with
   |some b=>match b with
    |true=>some ((j,eW)::l)
    |false=>match r8 pc i eW l with
     |some l'=>some ((j,cs)::l')
     |none=>none
   |none=>none
def kC (pc:List (SB×Bool)) (i:Y):List (Y×List Z)->Bool
 |[]=>true
 |(j,_)::l=>match dS pc (im i j) with
  |some false=>kC pc i l
  |_=>false
def jQ {α:Type} (i:Y):List (Y×List Z)->St->(St->T α)->T α
 |[],s,k=>k s
 |(j,_)::l,s,k=>match cf i j with
  |true=>k s
  |false=>dP s (im i j) fun s b=>match b with
   |true=>k s
   |false=>jQ i l s k
def qp (k:IntKind):List Z->Option (List D)
 |[]=>some []
 |v::vs=>match v with
  | .int k' e=>match e with
    | .lit n=>if k=k' then match qp k vs with
     |some ds=>some (.i n::ds)
     |none=>none
     else none
    |_=>none
  |_=>none
def CJ:List Z->Option IntKind
 |v::_=>match v with
  | .int k _=>some k
  |_=>none
 |[]=>none
def zw (tt:TT) (t:Nat) (ix:Z):Option (Nat×Y):=match ec ix with
 |some _=>none
 |none=>match ix with
  | .int _ e=>match tt t with
    |some ti=>match ti.kind with
     | .array n el=>if 64<n then match tt el with
      |some ie=>if ie.size=1/\ie.agg=false then some (n,e) else none
      |none=>none
      else none
     |_=>none
    |none=>none
  |_=>none
def sY (s:St) (cs:List Z) (e:Y):T (Z×St):=match CJ cs with
 |none=> .fail
 |some k=>match qp k cs with
  |none=> .fail
  |some ds=>mj s e (.lit (Int.ofNat ds.length)) fun s=> .ret (.int k (l7 (.op .at (.cE (dL ds)) e)),s)
def mL (tt:TT) (s:St) (ty id es:Nat) (i:Y) (off:Nat):T (Z×St):=match s.h.get id with
 |some o=>match o with
  | .cells cs _=>match tt ty with
    |some ti=>match ti.agg||!(Nat.beq es 1)||!(Nat.beq off 0) with
     |true=> .fail
     |false=>sY s cs i
    |none=> .fail
  | .vec e t _ ov=>match tt ty with
    |some ti=>if (rowOf t).es=es then mj s i (bL e) fun s=>jQ i ov s fun s=>match fU s.pc (cT (rowOf t) (.op .at e i)) i ov with
     |some cs=>match b8 off cs with
      |some l=>gP s (partOf ti l)
      |none=> .fail
     |none=> .fail
     else .fail
    |none=> .fail
  |_=> .fail
 |none=> .fail
def Cx (v:Z) (h:Hp):Z×Hp:=match v with
 | .hK id n t=>match h.get id with
   |some o=>match o with
    | .vec e t' _ ov=>match ov with
      |[]=>match Nat.beq t t' with
       |true=>match cf n (bL e) with
        |true=>(.cE e t,h.drop id)
        |false=>(v,h)
       |false=>(v,h)
      |_=>(v,h)
    |_=>(v,h)
   |none=>(v,h)
 | .lN z t=>(.cE z t,h)
 |v=>(v,h)
def De (e:Y):Bool:=match e with
 | .lit n=>j3 n 0
 |_=>false
def iS (a b:Y):Y:=match De a with
 |true=>b
 |false=> .add a b
def pI (a b:Y):Y:=match De b with
 |true=>a
 |false=> .sub a b
def qa (e lo n:Y):Y:=match De lo with
 |true=> .op .take e n
 |false=> .op .drop (.op .take e (.add lo n)) lo
def nC {α:Type} (e lo n:Y) (s:St) (k:St->T α):T α:=
 dP s (da lo (.lit 0)) fun s b=>match b with
  |true=> .fail
  |false=>dP s (da n (.lit 0)) fun s b=>match b with
   |true=> .fail
   |false=>dP s (da (bL e) (iS lo n)) fun s b=>match b with
    |true=> .fail
    |false=>k s
def oo (h:Hp) (id t:Nat):Option (Y×TypeId):=match h.get id with
 |some o=>match o with
  | .vec e t' ty ov=>match ov with
    |[]=>match Nat.beq t t' with
     |true=>some (e,ty)
     |false=>none
    |_=>none
  |_=>none
 |none=>none
def BO {α:Type} (v:Z) (s:St) (k:Z->St->T α):T α:=match v with
 | .jN id lo n t=>match oo s.h id t with
   |some (e,_)=>nC e lo n s fun s=>k (.cE (qa e lo n) t) { s with h:=s.h.drop id }
   |none=>k v s
 |v=>match Cx v s.h with
  |(v',h')=>k v' { s with h:=h' }
def za {α:Type}:List Z->St->(List Z->St->T α)->T α
 |[],s,k=>k [] s
 |v::vs,s,k=>BO v s fun v' s=>za vs s fun zE s=>k (v'::zE) s
def yx {α:Type} (t:Nat):List (Y×List Z)->Y->St->(Y->St->T α)->T α
 |[],e,s,k=>k e s
 |(j,cs)::ov,e,s,k=>yx t ov e s fun e s=>za cs s fun cs s=>match ij (rowOf t) cs with
  |some x=>k (.op .set e (cm (gM j) x)) s
  |none=> .fail
def EK (v:Z) (h:Hp):Option (Nat×Y×Nat×List (Y×List Z)):=match v with
 | .hK id n t=>match h.get id with
   |some o=>match o with
    | .vec e t' _ ov=>match ov with
      |[]=>none
      |_=>match Nat.beq t t' with
       |true=>match cf n (bL e) with
        |true=>some (id,e,t,ov)
        |false=>none
       |false=>none
    |_=>none
   |none=>none
 |_=>none
def BN {α:Type} (v:Z) (s:St) (k:Z->St->T α):T α:=match EK v s.h with
 |some (id,e,t,ov)=>yx t ov e s fun e' s=>match s.h.get id with
  |some _=>k (.cE e' t) { s with h:=s.h.drop id }
  |none=> .fail
 |none=>BO v s k
def mD {α:Type}:List Z->St->(List Z->St->T α)->T α
 |[],s,k=>k [] s
 |v::vs,s,k=>BN v s fun v' s=>mD vs s fun zE s=>k (v'::zE) s
def setCells:List CK->Nat->List Z->Y->Option Y
 |_,_,[],x=>some x
 |ks,off,v::vs,x=>match cq ks off with
  |some c=>match fK c v with
   |some a=>setCells ks (off+1) vs (.op .set x (cm (.cE (.i (Int.ofNat off))) a))
   |none=>none
  |none=>none
def uN (r:Row) (e i:Y) (off:Nat) (vs:List Z):Option Y:=match r with
 | .one c=>match off with
   |0=>match vs with
    |[v]=>match fK c v with
     |some a=>some (.op .set e (cm (gM i) a))
     |none=>none
    |_=>none
   |_=>none
 | .many ks=>match setCells ks off vs (.op .at e i) with
   |some x=>some (.op .set e (cm (gM i) x))
   |none=>none
def qP (tt:TT) (s:St) (ty id es:Nat) (i:Y) (off:Nat) (one:Bool) (vs:List Z):T (Z×St):=
 match s.h.get id with
  |some o=>match o with
   | .vec e t np ov=>match tt ty with
     |some ti=>if (rowOf t).es=es/\vs.length=ti.size/\one=true then mj s i (bL e) fun s=>jQ i ov s fun s=>match fU s.pc (cT (rowOf t) (.op .at e i)) i ov with
      |some cs=>match bM cs off vs with
       |some eW=>match r8 s.pc i eW ov with
        |some dv=> .ret (Z.undef,{ s with h:=s.h.put id (.vec e t np dv) })
        |none=>match kC s.pc i ov with
         |true=>match uN (rowOf t) e i off vs with
          |some e'=> .ret (Z.undef,{ s with h:=s.h.put id (.vec e' t np ov) })
          |none=> .ret (Z.undef,{ s with h:=s.h.put id (.vec e t np ((i,eW)::ov)) })
         |false=> .fail
       |none=> .fail
      |none=> .fail
      else .fail
     |none=> .fail
   |_=> .fail
  |none=> .fail
def G6:Z->Bool
 | .hK _ _ _=>true
 | .bE=>true
 | .lN _ _=>true
 | .slice _ _ n c=>match n with
   |0=>match c with
    | .exact k=>match k with
      |0=>true
      |_=>false
    |_=>false
   |_=>false
 |_=>false
def FG (c:CK) (v:Z):Z:=match c with
 | .sl t=>match v with
   | .bE=> .lN (.cE (.i 1)) t
   | .slice i o n k=>match n with
     |0=>match k with
      | .exact m=>match m with
        |0=> .lN (.cE (.i 2)) t
        |m+1=> .slice i o 0 (.exact (m+1))
      |k=> .slice i o 0 k
     |n+1=> .slice i o (n+1) k
   |v=>v
 |_=>v
def vX:List CK->List Z->List Z
 |[],vs=>vs
 |_::_,[]=>[]
 |c::cs,v::vs=>FG c v::vX cs vs
def w4 (r:Row):List CK:=match r with
 | .one c=>[c]
 | .many cs=>cs
def zd (i:Y):List (SB×Bool)->Option Y
 |[]=>none
 |(c,b)::l=>match c with
  | .eq x y=>match b with
    |true=>match cf x i with
     |true=>some y
     |false=>zd i l
    |false=>zd i l
  |_=>zd i l
def qO (tt:TT) (s:St) (ty id es:Nat) (i j:Y) (off:Nat) (one:Bool) (vs:List Z):T (Z×St):=
 match s.h.get id with
  |some o=>match o with
   | .vec e t np ov=>match tt ty with
     |some ti=>if (rowOf t).es=es/\vs.length=ti.size/\one=true then mj s i (bL e) fun s=>jQ j ov s fun s=>match dS s.pc (.eq i j) with
      |some true=>match fU s.pc (cT (rowOf t) (.op .at e j)) j ov with
       |some cs=>match bM cs off (vX ((w4 (rowOf t)).drop off) vs) with
        |some eW=>match r8 s.pc j eW ov with
         |some dv=> .ret (Z.undef,{ s with h:=s.h.put id (.vec e t np dv) })
         |none=>match kC s.pc j ov with
          |true=> .ret (Z.undef,{ s with h:=s.h.put id (.vec e t np ((j,eW)::ov)) })
          |false=> .fail
        |none=> .fail
       |none=> .fail
      |_=> .fail
      else .fail
     |none=> .fail
   |_=> .fail
  |none=> .fail
def qQ (tt:TT) (s:St) (ty id es:Nat) (i:Y) (off:Nat) (v:Z):T (Z×St):=
 match (if G6 v then zd i s.pc else none) with
 |some j=>qO tt s ty id es i j off (iy v.cells) v.cells
 |none=>mD v.cells s fun vs s=>qP tt s ty id es i off (iy v.cells) vs
def hD (e:Nat) (own:Option Nat) (x:Z) (h:Hp):Option (Y×Nat×Hp):=match x with
 | .hK id n t=>match h.get id with
   |some o=>match o with
    | .vec e0 t0 ty ov=>match ov with
      |[]=>match Nat.beq t t0 with
       |true=>match Nat.beq ty e with
        |true=>match cf n (bL e0) with
         |true=>some (e0,t,h.drop id)
         |false=>none
        |false=>none
       |false=>none
      |_=>none
    |_=>none
   |none=>none
 | .bE=>match own with
   |some t=>some (.cE (.i 0),t,h)
   |none=>none
 | .emp=>match own with
   |some t=>some (.cE (.i 0),t,h)
   |none=>none
 | .lN _ _=>match own with
   |some t=>some (.cE (.i 0),t,h)
   |none=>none
 | .slice _ _ n c=>match n with
   |0=>match c with
    | .exact k=>match k with
      |0=>match own with
       |some t=>some (.cE (.i 0),t,h)
       |none=>none
      |_=>none
    |_=>none
   |_=>none
 |_=>none
def D0:Z->Bool
 | .cE _ _=>true
 |_=>false
def Bs (own:Option Nat):Z->Bool
 | .hK _ _ _=>true
 | .jN _ _ _ _=>true
 | .bE=>own.isSome
 | .emp=>own.isSome
 | .lN _ _=>own.isSome
 | .slice _ _ n c=>match n with
   |0=>match c with
    | .exact k=>match k with
      |0=>own.isSome
      |_=>false
    |_=>false
   |_=>false
 |_=>false
def zy (id t:Nat) (ty:TypeId) (e0 n1 m sd:Y) (s:St):T (Z×St):=
 nC e0 n1 m s fun s=> .ret (.jN id (.lit 0) (iS n1 m) t,{ s with h:=s.h.put id (.vec (.op .cat (.op .cat (.op .take e0 n1) sd) (.op .drop e0 (iS n1 m))) t ty []) })
def qZ (tt:TT) (t t2 id:Nat) (n1:Y) (t':Nat) (y:Z) (s:St):T (Z×St):=
 match tt t with
 |some ti=>match ti.kind with
  | .slice e=>match tt e with
    |some ie=>match tt t2 with
     |none=> .fail
     |some yn=>match yn.kind with
      | .int _=> .fail
      |_=>
       if ie.size=0\/ie.bytes=0\/¬ie.zero.length=ie.size\/¬(rowOf t').es=ie.size then .fail else
       match oo s.h id t' with
       |none=> .fail
       |some (e0,ty)=>match y with
        | .jN I7 AD n2 uY=>match Nat.beq I7 id with
          |true=>match Nat.beq uY t' with
           |true=>nC e0 AD n2 s fun s=>zy id t' ty e0 n1 n2 (qa e0 AD n2) s
           |false=> .fail
          |false=> .fail
        |y=>match iC ie.size y s.h with
         |none=> .fail
         |some (m,news)=>match m with
          |0=> .fail
          |m+1=>if m<1000 then match ei (rowOf t') (.cE (.i 0)) (m+1) news with
           |some sd=>zy id t' ty e0 n1 (.lit (Int.ofNat (m+1))) sd s
           |none=> .fail
           else .fail
    |none=> .fail
  |_=> .fail
 |none=> .fail
def mP (tt:TT) (ty id:Nat) (lo n:Y) (t:Nat) (s:St):T (Z×St):=
 match tt ty with
 |some ti=>match ti.kind with
  | .slice e=>match tt e with
    |some ie=>if (rowOf t).es=ie.size/\0<ie.size then match oo s.h id t with
     |none=> .fail
     |some (e0,np)=>match ij (rowOf t) ie.zero with
      |none=> .fail
      |some z=>dP s (da lo (.lit 0)) fun s b=>match b with
       |true=> .fail
       |false=>dP s (da n (.lit 0)) fun s b=>match b with
        |true=> .fail
        |false=>dP s (im (iS lo n) (bL e0)) fun s b=>match b with
         |false=> .fail
         |true=> .ret (Z.undef,{ s with h:=s.h.put id (.vec (.op .fill e0 (cm (gM lo) z)) t np []) })
     else .fail
    |none=> .fail
  |_=> .fail
 |none=> .fail
def iq (bytes k:Nat):Int:=Int.ofNat (140737488355328 / bytes-k)
def A8 (e0:Y) (bytes:Nat):Int:=match xj e0 with
 |true=>iq bytes 0
 |false=>iq bytes 1000000
def C5:Z->Bool
 | .hK _ _ _=>true
 | .lN _ _=>true
 | .slice _ _ n _=>match n with
   |0=>true
   |_=>false
 |_=>false
def mC:List (SB×Bool)->Bool
 |[]=>false
 |(b,v)::l=>match b with
  | .eq _ x=>match x with
    | .pE i=>match i with
      |0=>match v with
       |true=>true
       |false=>mC l
      |_=>mC l
    |_=>mC l
  |_=>mC l
def CD (m:Nat) (news:List Z) (pc:List (SB×Bool)):Bool:=match m with
 |0=>match news.any C5 with
  |true=>mC pc
  |false=>false
 |_=>false
def nA (e:Nat) (x:Z) (h:Hp):Option (Y×Nat×Y×List Z×Hp):=match x with
 | .hK id n t=>match h.get id with
   |some o=>match o with
    | .vec e0 t0 ty ov=>match ov with
      |[]=>none
      |p::l=>match l with
       |[]=>match Nat.beq t t0 with
        |true=>match Nat.beq ty e with
         |true=>match cf n (bL e0) with
          |true=>some (e0,t,p.1,p.2,h.drop id)
          |false=>none
         |false=>none
        |false=>none
       |_=>none
    |_=>none
   |none=>none
 |_=>none
def mQ (e:Nat) (own:Option Nat) (x:Z) (ie:TI) (m:Nat) (news:List Z) (s:St):T (Z×St):=
 mD news s fun oG s=>match hD e own x s.h with
  |some (e0,t',h0)=>if (rowOf t').es=ie.size/\m<1000 then
   dP s (da (bL e0) (.lit (iq ie.bytes (m+1)))) fun s b=>match b with
    |true=>match ei (rowOf t') e0 (m+1) oG with
     |some e1=> .ret (.hK h0.fresh (bL e1) t',{ s with h:=h0.new (.vec e1 t' e []) })
     |none=> .fail
    |false=> .fail
   else .fail
  |none=> .fail
def oc (e:Nat) (x:Z) (ie:TI) (m:Nat) (news:List Z) (s:St):T (Z×St):=
 mD news s fun oG s=>match nA e x s.h with
  |some (e0,t',p,cs,h0)=>if (rowOf t').es=ie.size/\m<1000 then
   dP s (da (bL e0) (.lit (iq ie.bytes (m+1)))) fun s b=>match b with
    |true=>dP s (da p (bL e0)) fun s b=>match b with
     |true=>match ei (rowOf t') e0 (m+1) oG with
      |some e1=> .ret (.hK h0.fresh (bL e1) t',{ s with h:=h0.new (.vec e1 t' e [(p,cs)]) })
      |none=> .fail
     |false=> .fail
    |false=> .fail
   else .fail
  |none=> .fail
def oa (e:Nat) (own:Option Nat) (x:Z) (ie:TI) (m:Nat) (news:List Z) (s:St):T (Z×St):=
 match hD e own x s.h with
 |some (e0,t',h0)=>if (rowOf t').es=ie.size/\m=0 then
  dP s (im (bL e0) (.pE 0)) fun s b=>match b with
   |true=>dP s (da (bL e0) (.lit (iq ie.bytes 1))) fun s b=>match b with
    |true=>match ei (rowOf t') e0 1 ie.zero with
     |some e1=> .ret (.hK h0.fresh (bL e1) t',{ s with h:=h0.new (.vec e1 t' e [(.pE 0,news)]) })
     |none=> .fail
    |false=> .fail
   |false=>mQ e own x ie m news s
  else .fail
 |none=> .fail
def n9 (tt:TT) (t t2:Nat) (x y:Z) (s:St):T (Z×St):=
 match tt t with
 |some ti=>match ti.kind with
  | .slice e=>match tt e with
    |some ie=>match tt t2 with
     |none=> .fail
     |some yn=>match yn.kind with
      | .int _=> .fail
      |_=>
       if ie.size=0\/ie.bytes=0\/¬ie.zero.length=ie.size\/¬ie.bytes<=400 then .fail else
       match y with
       | .cE e2 F1=>match hD e ti.own x s.h with
         |some (e0,t',h0)=>if (rowOf t').es=ie.size/\rowOf F1=rowOf t' then
          dP s (hY (bL e2) (.lit 0)) fun s b=>match b with
           |true=> .ret (x,s)
           |false=>dP s (da (bL e2) (.lit (A8 e0 ie.bytes))) fun s b=>match b with
            |true=>dP s (da (bL e0) (.lit 1000000)) fun s b=>match b with
             |true=>match xj e0 with
              |true=> .ret (.hK h0.fresh (bL e2) t',{ s with h:=h0.new (.vec e2 t' e []) })
              |false=> .ret (.hK h0.fresh (bL (.op .cat e0 e2)) t',{ s with h:=h0.new (.vec (.op .cat e0 e2) t' e []) })
             |false=> .fail
            |false=> .fail
          else .fail
         |none=> .fail
       |y=>match iC ie.size y s.h with
        |some (m,news)=>match m with
         |0=> .ret (x,s)
         |m+1=>match nA e x s.h with
          |some _=>oc e x ie m news s
          |none=>match CD m news s.pc with
           |true=>oa e ti.own x ie m news s
           |false=>mQ e ti.own x ie m news s
        |none=> .fail
    |none=> .fail
  |_=> .fail
 |none=> .fail
def uo (tt:TT) (t:Nat) (l c:Z) (s:St):T (Z×St):=match l with
 | .int k n=>match c with
   | .int k2 n2=>match cf n n2 with
     |false=> .fail
     |true=>match tt t with
      |none=> .fail
      |some i=>match i.own with
       |none=> .fail
       |some o=>match i.kind with
        | .slice e=>match tt e with
          |none=> .fail
          |some ie=>match ij (rowOf o) ie.zero with
           |none=> .fail
           |some z=>if ie.size=(rowOf o).es/\0<ie.size/\ie.bytes≠0/\ie.zero.length=ie.size then
            dP s (da n (.lit 0)) fun s b=>match b with
             |true=> .fail
             |false=>dP s (hY n (.lit 0)) fun s b=>match b with
              |true=>match ig tt t (.int k (.lit 0)) (.int k2 (.lit 0)) s.h with
               |some (v,h)=> .ret (v,{ s with h:=h })
               |none=> .fail
              |false=>dP s (da n (.lit (iq ie.bytes 0))) fun s b=>match b with
               |true=> .ret (.hK s.h.fresh (bL (.op .rep n z)) o,{ s with h:=s.h.new (.vec (.op .rep n z) o e []) })
               |false=> .fail
            else .fail
        |_=> .fail
   |_=> .fail
 |_=> .fail
def o8 (v:Z):Bool:=match ec v with
 |some n=>j3 n 0
 |none=>false
def uz (tt:TT) (s:St) (ty t:Nat) (e:Y) (lo hi:Option Z) (mx:Option Z):T (Z×St):=match mx with
 |some m=>match o8 m with
  |true=>match ju tt ty with
   |none=> .fail
   |some _=>match lo with
    |none=>match hi with
     |some W=>match o8 W with
      |true=> .ret (.lN (.op .take e (.lit 0)) t,s)
      |false=> .fail
     |none=> .fail
    |some _=> .fail
  |false=> .fail
 |none=>match ju tt ty with
  |none=> .fail
  |some z=>if z=(rowOf t).es then
   (match hi with
   |none=>match lo with
    |some (.int _ l)=>dP s (da l (.lit 0)) fun s b=>match b with
     |true=> .fail
     |false=>dP s (da (bL e) l) fun s b=>match b with
      |true=> .fail
      |false=> .ret (.cE (.op .drop e l) t,s)
    |_=> .fail
   |some (.int _ h)=>dP s (da (bL e) h) fun s b=>match b with
    |true=> .fail
    |false=>match lo with
     |none=>dP s (da h (.lit 0)) fun s b=>match b with
      |true=> .fail
      |false=> .ret (.cE (.op .take e h) t,s)
     |some (.int _ l)=>dP s (da l (.lit 0)) fun s b=>match b with
      |true=> .fail
      |false=>dP s (da h l) fun s b=>match b with
       |true=> .fail
       |false=> .ret (.cE (.op .drop (.op .take e h) l) t,s)
     |_=> .fail
   |_=> .fail)
   else .fail
def Iu (lo:Option Z):Option Y:=match lo with
 |none=>some (.lit 0)
 |some v=>match v with
  | .int _ l=>some l
  |_=>none
def pt (tt:TT) (s:St) (ty id t:Nat) (Dc n0:Y) (lo hi mx:Option Z):T (Z×St):=
 match ju tt ty with
 |none=> .fail
 |some z=>if z=(rowOf t).es/\z≠0 then match Iu lo with
  |none=> .fail
  |some l=>dP s (da l (.lit 0)) fun s b=>match b with
   |true=> .fail
   |false=>match hi with
    |none=>match mx with
     |some _=> .fail
     |none=>dP s (da n0 l) fun s b=>match b with
      |true=> .fail
      |false=> .ret (.jN id (iS Dc l) (pI n0 l) t,s)
    |some W=>match W with
     | .int _ h=>dP s (da h l) fun s b=>match b with
       |true=> .fail
       |false=>match mx with
        |some mv=>match mv with
         | .int _ m=>dP s (da m h) fun s b=>match b with
           |true=> .fail
           |false=>dP s (da n0 m) fun s b=>match b with
            |true=> .fail
            |false=> .ret (.any,s)
         |_=> .fail
        |none=>dP s (da n0 h) fun s b=>match b with
         |false=> .ret (.jN id (iS Dc l) (pI h l) t,s)
         |true=>match De Dc with
          |false=> .fail
          |true=>match oo s.h id t with
           |none=> .fail
           |some (e,_)=>dP s (da (bL e) h) fun s b=>match b with
            |true=> .fail
            |false=> .ret (.jN id (iS Dc l) (pI h l) t,s)
     |_=> .fail
  else .fail
def uu (tt:TT) (s:St) (ty:Nat) (z:Y) (t:Nat) (lo hi mx:Option Z):T (Z×St):=
 match mx with
 |some _=> .fail
 |none=>match ju tt ty with
  |none=> .fail
  |some _=>match fP hi 0 0 with
   |some 0=>match fP lo 0 0 with
    |some 0=> .ret (.lN z t,s)
    |_=> .fail
   |_=> .fail
def ua (tt:TT) (s:St) (ty id t:Nat) (lo n:Y) (ix:Z):T (Z×St):=match ix with
 | .int _ i=>match ju tt ty with
   |some z=>if z=(rowOf t).es then mj s i n fun s=> .ret (.nk id z (iS lo i) 0,s) else .fail
   |none=> .fail
 |_=> .fail
def Bt:Z->Bool
 | .dW _=>true
 |_=>false
def ud (tt:TT) (s:St) (ty:Nat) (e:Y) (ix:Z):T (Z×St):=match ix with
 | .int _ i=>match tt ty with
   |some ti=>match ti.kind with
    | .string=>mj s i (bL e) fun s=> .ret (.int .u8 (l7 (.op .at e i)),s)
    |_=> .fail
   |none=> .fail
 |_=> .fail
def KQ (e:Y) (hi:Option Z):Option Y:=match hi with
 |none=>some (bL e)
 |some v=>match v with
  | .int _ h=>some h
  |_=>none
def uc (tt:TT) (s:St) (ty:Nat) (e:Y) (lo hi mx:Option Z):T (Z×St):=match mx with
 |some _=> .fail
 |none=>match tt ty with
  |none=> .fail
  |some ti=>match ti.kind with
   | .string=>match Iu lo with
     |none=> .fail
     |some l=>match KQ e hi with
      |none=> .fail
      |some h=>dP s (da l (.lit 0)) fun s b=>match b with
       |true=> .fail
       |false=>dP s (da h l) fun s b=>match b with
        |true=> .fail
        |false=>dP s (da (bL e) h) fun s b=>match b with
         |true=> .fail
         |false=> .ret (.dW (.op .sub e (cm (gM l) (cm (gM h) (.cE (.i 0))))),s)
   |_=> .fail
def o9 (x y:Z):Option (Y×Y):=match Bt x||Bt y with
 |false=>none
 |true=>match jI x with
  |none=>none
  |some a=>match jI y with
   |none=>none
   |some b=>some (a,b)
def rX (a b:Y):SB:=.not (.eq (.op .slt a b) (.lit 0))
def xD (op:BinOp) (a b:Y) (s:St):T (Z×St):=match op with
 | .add=>dP s (da (bL a) (.lit 1000000000)) fun s c=>match c with
   |false=> .fail
   |true=>dP s (da (bL b) (.lit 1000000000)) fun s c=>match c with
    |false=> .fail
    |true=> .ret (.dW (.op .cat a b),s)
 | .eql=> .ret (.bool (hY (fk a) (fk b)),s)
 | .neq=> .ret (.bool (.not (hY (fk a) (fk b))),s)
 | .lss=> .ret (.bool (rX a b),s)
 | .gtr=> .ret (.bool (rX b a),s)
 | .leq=> .ret (.bool (k5 (rX b a)),s)
 | .geq=> .ret (.bool (k5 (rX a b)),s)
 |_=> .fail
def px (tt:TT) (sT dT:Nat) (e:Y) (s:St):T (Z×St):=match tt sT with
 |none=> .fail
 |some j=>match j.kind with
  | .string=>match tt dT with
    |none=> .fail
    |some i=>match i.kind with
     | .slice el=>match tt el with
       |some ie=>match ie.kind with
        | .int k=>match k with
          | .u8=>dP s (hY (bL e) (.lit 0)) fun s c=>match c with
            |true=> .ret (.slice s.h.fresh 0 0 (.rest 1),{ s with h:=s.h.new (.cells [] el) })
            |false=> .ret (.hK s.h.fresh (bL e) 14,{ s with h:=s.h.new (.vec e 14 el []) })
          |_=> .fail
        |_=> .fail
       |none=> .fail
     |_=> .fail
  |_=> .fail
def vE (c:CK):TK:=match c with
 | .int k=> .int k
 |_=> .string
def k7 (m:Z) (h:Hp):Option (Nat×Y×Nat):=match m with
 | .map id=>match h.get id with
   |some o=>match o with
    | .ey e t=>some (id,e,t)
    |_=>none
   |none=>none
 |_=>none
def n5 (tt:TT):List CK->Nat->List (Nat×Nat×Nat)->Bool
 |[],_,[]=>true
 |c::cs,j,(o,ft,_)::fs=>match Nat.beq o j with
  |true=>match tt ft with
   |some i=>match c with
    | .int k=>match decide (i.kind= .int k) with
      |true=>n5 tt cs (j+1) fs
      |false=>false
    |_=>false
   |none=>false
  |false=>false
 |_,_,_=>false
def Bq (tt:TT) (ki:TI) (r:Row):Bool:=match r with
 | .one c=>decide (ki.kind=vE c)
 | .many cs=>match ki.kind with
   | .struct fs=>match ki.eqs with
     |true=>n5 tt cs 0 fs
     |false=>false
   |_=>false
def zr (r:Row) (v:Z):Option Y:=match r with
 | .one c=>fK c v
 | .many cs=>match v with
   | .agg vs=>de cs vs
   |_=>none
def wE (r:Row) (x:Y):Z:=match r with
 | .one c=>kz c x
 | .many cs=> .agg (df cs 0 x)
def mapKey (tt:TT) (ty t:Nat) (k:Z):Option (Y×TI):=match tt ty with
 |none=>none
 |some ti=>match ti.kind with
  | .map kt et=>match tt kt with
    |none=>none
    |some ki=>match Bq tt ki (mapOf t).1 with
     |true=>match tt et with
      |none=>none
      |some ie=>match zr (mapOf t).1 k with
       |none=>none
       |some a=>some (fk a,ie)
     |false=>none
  |_=>none
def sL (e a:Y):SB:=match e with
 | .cE d=>match a with
   | .cE k=> .lit (!(fv d.l k).isSome)
   |a=> .eq (.op .zZ (.cE d) a) (.lit 0)
 |e=> .eq (.op .zZ e a) (.lit 0)
def mK (tt:TT) (ty:Nat) (k:Z) (ok:Bool) (e:Y) (t:Nat) (s:St):T (Z×St):=match mapKey tt ty t k with
 |none=> .fail
 |some (a,ie)=>match zeroOf ie with
  |none=> .fail
  |some z=>dP s (sL e a) fun s b=>match b with
   |true=> .ret (if ok then .tuple [z,.bool (.lit false)] else z,s)
   |false=> .ret (if ok then .tuple [wE (mapOf t).2 (.op .xf e a),.bool (.lit true)] else wE (mapOf t).2 (.op .xf e a),s)
def xG (tt:TT) (ty id:Nat) (k x:Z) (e:Y) (t:Nat) (s:St):T (Z×St):=match mapKey tt ty t k with
 |none=> .fail
 |some (a,_)=>match zr (mapOf t).2 x with
  |none=> .fail
  |some b=> .ret (Z.undef,{ s with h:=s.h.put id (.ey (.op .qi e (cm a b)) t) })
def ug (tt:TT) (ty:Nat) (m k x:Z) (s:St):T (Z×St):=mD [x] s fun xs s=>match xs with
 |[x]=>match k7 m s.h with
  |some (id,e,t)=>xG tt ty id k x e t s
  |none=> .fail
 |_=> .fail
def xQ (tt:TT) (ty id:Nat) (k:Z) (e:Y) (t:Nat) (s:St):T (Z×St):=match mapKey tt ty t k with
 |none=> .fail
 |some (a,_)=> .ret (Z.undef,{ s with h:=s.h.put id (.ey (.op .xg e a) t) })
def qL (m:Z) (h:Hp):Option (Nat×Y×Nat×List Nat×List (Y×Z)):=match m with
 | .map id=>match h.get id with
   |some o=>match o with
    | .kg e t cK ov=>some (id,e,t,cK,ov)
    |_=>none
   |none=>none
 |_=>none
def tY (tt:TT) (ty:Nat) (k:Z):Option (Y×TI):=match tt ty with
 |none=>none
 |some ti=>match ti.kind with
  | .map kt et=>match tt kt with
    |none=>none
    |some ki=>if ki.kind= .int .i64 then match tt et with
     |none=>none
     |some ie=>match k with
      | .int kk x=>if kk= .i64 then some (x,ie) else none
      |_=>none
     else none
  |_=>none
def jr {α:Type} (x:Y):List (Y×Z)->St->(Option Z->St->T α)->T α
 |[],s,k=>k none s
 |(y,v)::l,s,k=>match cf x y with
  |true=>k (some v) s
  |false=>dP s (im x y) fun s b=>match b with
   |true=>k (some v) s
   |false=>jr x l s k
def tX {α:Type} (x:Y) (v:Z):List (Y×Z)->St->(Option (List (Y×Z))->St->T α)->T α
 |[],s,k=>k none s
 |(y,u)::l,s,k=>match cf x y with
  |true=>k (some ((y,v)::l)) s
  |false=>dP s (im x y) fun s b=>match b with
   |true=>k (some ((y,v)::l)) s
   |false=>tX x v l s fun r s=>match r with
    |some l'=>k (some ((y,u)::l')) s
    |none=>k none s
def mJ (tt:TT) (ty:Nat) (k:Z) (ok:Bool) (e:Y) (ov:List (Y×Z)) (s:St):T (Z×St):=match tY tt ty k with
 |none=> .fail
 |some (x,ie)=>match zeroOf ie with
  |none=> .fail
  |some z=>jr x ov s fun r s=>match r with
   |some v=> .ret (if ok then .tuple [v,.bool (.lit true)] else v,s)
   |none=>dP s (sL e (gM x)) fun s b=>match b with
    |true=> .ret (if ok then .tuple [z,.bool (.lit false)] else z,s)
    |false=> .fail
def mI (tt:TT) (ty id:Nat) (k v:Z) (e:Y) (t:Nat) (cK:List Nat) (ov:List (Y×Z)) (s:St):T (Z×St):=match tY tt ty k with
 |none=> .fail
 |some (x,_)=>tX x v ov s fun r s=>match r with
  |some dv=> .ret (Z.undef,{ s with h:=s.h.put id (.kg e t cK dv) })
  |none=>dP s (sL e (gM x)) fun s b=>match b with
   |true=> .ret (Z.undef,{ s with h:=s.h.put id (.kg (.op .qi e (cm (gM x) (.cE (.i 0)))) t cK ((x,v)::ov)) })
   |false=> .fail
def Kf (tt:TT) (t:Nat):Nat:=match tt t with
 |some ti=>match ti.kind with
  | .slice e=>e
  |_=>0
 |none=>0
def BQ (tt:TT) (t:Nat):List Nat:=match tt t with
 |some ti=>match ti.kind with
  | .map _ et=>match tt et with
    |some ie=>match ie.kind with
     | .pointer s=>match tt s with
       |some si=>match si.kind with
        | .struct fs=>s::0::fs.map fun f=>Kf tt f.2.1
        |_=>[]
       |none=>[]
     | .slice e=>[0,e]
     |_=>[]
    |none=>[]
  |_=>[]
 |none=>[]
abbrev bR:=Nat->List Z->St->T (Z×St)
def mh (s:St) (x:Operand) (f:Z->T (Z×St)):T (Z×St):=match ev s x with |some v=>f v|none=> .fail
def DX (tt:TT) (t:Nat):Option Nat:=match tt t with
 |some ti=>ti.own
 |none=>none
def kU (tt:TT) (s:St) (b:Builtin) (ts:List Nat) (args:List Z):T (Z×St):=
 match b,ts,args with
 | .len,[t],[x]=>gP s (BS tt t x s.h)
 | .append,[t,t2],[.jN id lo n t',y]=>match De lo with
   |true=>qZ tt t t2 id n t' y s
   |false=> .fail
 | .append,[t,t2],[x,y]=>match Bs (DX tt t) x||D0 y with
   |true=>n9 tt t t2 x y s
   |false=>oz s (qY tt t t2 x y s.h)
 | .delete,[t,_],[m,k]=>match k7 m s.h with
   |some (id,e,t')=>xQ tt t id k e t' s
   |none=>fQ tt t m k s fun s=>w6 s (qX tt s.pc t m k s.h)
 | .clear,[t],[.hK id n t']=>mP tt t id (.lit 0) n t' s
 | .clear,[t],[.jN id lo n t']=>mP tt t id lo n t' s
 | .clear,[t],[x]=>w6 s (uB tt t x s.h)
 | .min,_,.int k a::xs=>jo false xs a k s
 | .max,_,.int k a::xs=>jo true xs a k s
 |_,_,_=> .fail
def uC (tt:TT) (call:bR) (s:St) (c:Call):T (Z×St):=
 match FJ s c.args.toList with
 |none=> .fail
 |some args=>match c.callee with
  | .builtin b=>kU tt s b c.argTypes.toList args
  | .value f=>match ev s f with
    |some (.func (.func g) fs cs)=>call g (fs++args++cs) s
    |_=> .fail
  | .invoke _ _=> .fail
def Gk:SB->Bool
 | .lit _=>true
 | .not c=>match c with
   | .eq _ z=>match z with
     | .lit n=>j3 n 0
     |_=>false
   |_=>false
 |_=>false
def Ch {α:Type} (v:Z) (s:St) (k:Z->St->T α):T α:=match v with
 | .bool c=>match Gk c with
   |true=>k (.bool c) s
   |false=>dP s c fun s b=>k (.bool (.lit b)) s
 |v=>k v s
def uh (tt:TT) (call:bR) (s:St) (op:Op):T (Z×St):=
 match op with
 | .move x=>mh s x fun v=> .ret (v,s)
 | .assign x=>mh s x fun v=> .ret (v,s)
 | .pick c a b=>mh s c fun c=>match c with
   | .bool c=>dP s c fun s b'=>if b' then mh s a fun v=> .ret (v,s) else mh s b fun v=> .ret (v,s)
   |_=> .fail
 | .alloc t=>match tt t with
   |some i=> .ret (.ptr s.h.fresh 0,{ s with h:=s.h.new (.cells i.zero t) })
   |none=> .fail
 | .box t x=>mh s x fun v=>if iy v.cells then .ret (.ptr s.h.fresh 0,{ s with h:=s.h.new (.cells v.cells t) }) else .fail
 | .build t parts=>match kT s parts.toList with
   |some ps=>gP s (uE tt t ps)
   |none=> .fail
 | .buildSlice t n parts=>match kT s parts.toList with
   |some ps=>oz s (jt tt t n ps s.h)
   |none=> .fail
 | .makeSlice t l c=>mh s l fun lv=>match ev s c with
   |some cv=>match ig tt t lv cv s.h with
    |some r=>oz s (some r)
    |none=>uo tt t lv cv s
   |none=> .fail
 | .load t x=>mh s x fun p=>match p with
   | .nk id es i off=>mL tt s t id es i off
   |p=>gP s (n8 tt t p s.h)
 | .store t x y=>mh s x fun p=>match ev s y with
   |some v=>Ch v s fun v s=>match p with
    | .nk id es i off=>qQ tt s t id es i off v
    |p=>w6 s (ue tt t p v s.h)
   |none=> .fail
 | .nilCheck x=>mh s x fun v=>match v with
   | .ptr _ _=> .ret (v,s)
   | .fD _=> .ret (v,s)
   | .nk _ _ _ _=> .ret (v,s)
   |_=> .fail
 | .binOp op t x y _=>mh s x fun a=>match ev s y with
   |some b=>match a with
    | .agg xs=>match b,op with
      | .agg ys,.eql=>match pw tt t xs ys with
        |some c=> .ret (.bool c,s)
        |none=> .fail
      | .agg ys,.neq=>match pw tt t xs ys with
        |some c=> .ret (.bool (k5 c),s)
        |none=> .fail
      |_,_=> .fail
    |a=>match xe tt t a b with
     |some e=>EN s e op
     |none=>match w9 op a b with
      |some (q,k,e,d)=>EE s q k e d
      |none=>match o9 a b with
       |some (x,y)=>xD op x y s
       |none=>gP s (BU tt t op a b)
   |none=> .fail
 | .unOp op _ x=>mh s x fun v=>gP s (FL op v)
 | .convert sT dT x=>mh s x fun v=>match v with
   | .dW e=>px tt sT dT e s
   |v=>oz s (gG tt sT dT v s.h)
 | .makeFunc fn fs cs=>match FJ s fs.toList,FJ s cs.toList with
   |some f,some c=> .ret (.func fn f c,s)
   |_,_=> .fail
 | .makeMap t r=>match r with
   |none=>match DX tt t with
    |some m=>match Nat.ble 100 m with
     |true=> .ret (.map s.h.fresh,{ s with h:=s.h.new (.kg (.cE (.i 0)) (m-100) (BQ tt t) []) })
     |false=> .ret (.map s.h.fresh,{ s with h:=s.h.new (.ey (.cE (.i 0)) m) })
    |none=> .ret (.map s.h.fresh,{ s with h:=s.h.new (.map [] 1) })
   |some _=> .fail
 | .slice t x lo hi mx=>mh s x fun v=>match s5 s lo,s5 s hi,s5 s mx with
   |some l,some h,some m=>match v with
    | .cE e t'=>uz tt s t t' e l h m
    | .hK id n t'=>pt tt s t id t' (.lit 0) n l h m
    | .jN id lo n t'=>pt tt s t id t' lo n l h m
    | .dW e=>uc tt s t e l h m
    | .lN z t'=>uu tt s t z t' l h m
    | .bE=>tm s h fun h s=>gP s (mF tt t .bE l h m)
    | .slice id o 0 (.exact 0)=>tm s h fun h s=>gP s (mF tt t (.slice id o 0 (.exact 0)) l h m)
    |v=>match mF tt t v l h m with
    |some v=> .ret (v,s)
    |none=>gP s (qR tt t v l h m s.h)
   |_,_,_=> .fail
 | .fieldAddr t x f=>mh s x fun v=>gP s (ku tt t v f)
 | .field t x f=>mh s x fun v=>gP s (ur tt t v f)
 | .indexAddr t x i=>mh s x fun v=>match ev s i with
   |some i=>match v with
    | .k8 k ks=>gP s (uq tt s.pc t k ks i)
    | .cE e t'=>uA tt s t t' e i
    | .hK id n t'=>ub tt s t id t' n i
    | .jN id lo n t'=>ua tt s t id t' lo n i
    | .ptr id o=>match zw tt t i with
      |some (n,e)=>if o=0 then mj s e (.lit (Int.ofNat n)) fun s=> .ret (.nk id 1 e 0,s) else .fail
      |none=>tg tt t (.ptr id o) i s fun i s=>gP s (gf tt t (.ptr id o) i)
    |v=>tg tt t v i s fun i s=>gP s (gf tt t v i)
   |none=> .fail
 | .index t x i=>mh s x fun v=>match ev s i with
   |some i=>match v with
    | .dW e=>ud tt s t e i
    | .agg cs=>match zw tt t i with
      |some (n,e)=>match Nat.beq cs.length n with
       |true=>sY s cs e
       |false=> .fail
      |none=>tg tt t (.agg cs) i s fun i s=>gP s (mM tt t (.agg cs) i)
    |v=>tg tt t v i s fun i s=>gP s (mM tt t v i)
   |none=> .fail
 | .lookup t m k ok=>mh s m fun v=>match ev s k with
   |some k=>match k7 v s.h with
    |some (_,e,t')=>mK tt t k ok e t' s
    |none=>match qL v s.h with
     |some (_,e,_,_,ov)=>mJ tt t k ok e ov s
     |none=>fQ tt t v k s fun s=>gP s (qU tt s.pc t v k ok s.h)
   |none=> .fail
 | .mapUpdate t m k x=>mh s m fun v=>match ev s k,ev s x with
   |some k,some x=>match k7 v s.h with
    |some _=>ug tt t v k x s
    |none=>match qL v s.h with
     |some (id,e,t',cK,ov)=>mI tt t id k x e t' cK ov s
     |none=>fQ tt t v k s fun s=>w6 s (ic tt s.pc t v k x s.h)
   |_,_=> .fail
 | .insert t m k x=>mh s m fun v=>match ev s k,ev s x with
   |some k,some x=>match k7 v s.h with
    |some _=>ug tt t v k x s
    |none=>match qL v s.h with
     |some (id,e,t',cK,ov)=>mI tt t id k x e t' cK ov s
     |none=>fQ tt t v k s fun s=>w6 s (ic tt s.pc t v k x s.h)
   |_,_=> .fail
 | .range t x=>mh s x fun v=>oz s (uf tt t v s.h)
 | .next x EU=>mh s x fun v=>oz s (xH v EU s.h)
 | .entry x=>mh s x fun v=>gP s (uw v s.h)
 | .extract x i=>mh s x fun v=>match v with
   | .tuple vs=>gP s (cq vs i)
   |_=> .fail
 | .call c=>uC tt call s c
 |_=> .fail
def kK {α:Type} (ops:List Oper) (s:St) (o:Oper) (f:St->Bool->T α):T α:=
 match o.guard with
 |none=>f s true
 |some (j,want)=>match cq ops j with
  |some oj=>match oj.dst with
   |some d=>match s.bj.get d with
    |some (.bool c)=>dP s c fun s b=>f s (b == want)
    |some (.tuple _)=>f s false
    |_=> .fail
   |none=> .fail
  |none=> .fail
def wi (tt:TT) (call:bR) (all:List Oper):List Oper->St->T St
 |[],s=> .ret s
 |o::rest,s=>kK all s o fun s b=>
  if b then (uh tt call s o.op).bind fun (v,s')=>wi tt call all rest (s'.vg o.dst v)
  else wi tt call all rest (s.vg o.dst Z.undef)
inductive Ex where
 |normal
 |exit (id:Nat)
 |ret
 deriving DecidableEq,Inhabited
def kr (body:St->T (Ex×St)):Nat->St->T (Ex×St)
 |0,_=> .fail
 |n+1,s=>(body s).bind fun (e,s')=>match e with
  | .normal=>kr body n s'
  |e=> .ret (e,s')
def dA (tt:TT) (call:bR) (draw:Nat->List Oper->St->T St) (lf:Nat):Code->St->T (Ex×St)
 | .skip,s=> .ret (.normal,s)
 | .region id ops d,s=>
   if d then (draw id ops.toList s).bind fun s'=> .ret (.normal,s')
   else (wi tt call ops.toList ops.toList s).bind fun s'=> .ret (.normal,s')
 | .seq a b,s=>(dA tt call draw lf a s).bind fun (e,s')=>match e with
   | .normal=>dA tt call draw lf b s'
   |e=> .ret (e,s')
 | .cond c x y,s=>match ev s c with
   |some (.bool c)=>dP s c fun s b=>if b then dA tt call draw lf x s else dA tt call draw lf y s
   |_=> .fail
 | .block id b,s=>(dA tt call draw lf b s).bind fun (e,s')=>match e with
   | .exit j=> .ret (if j=id then .normal else .exit j,s')
   |e=> .ret (e,s')
 | .loop b,s=>kr (dA tt call draw lf b) lf s
 | .exit id,s=> .ret (.exit id,s)
 | .scope b,s=>dA tt call draw lf b s
 | .label _,s=> .ret (.normal,s)
 | .ret,s=> .ret (.ret,s)
 |_,_=> .fail
def bI:List Z->Nat->Tr Z->Tr Z
 |[],_,t=>t
 |v::vs,i,t=>bI vs (i+1) (t.put i (some v))
def mH (tt:TT) (s:St):ResultVar->Option Z
 | .tmp t=>s.bj.get t
 | .cell a t=>match s.bj.get a with
   |some p=>n8 tt t p s.h
   |none=>none
def fb (tt:TT) (s:St):List ResultVar->Option (List Z)
 |[]=>some []
 |r::rs=>match mH tt s r with
  |none=>none
  |some v=>match fb tt s rs with
   |none=>none
   |some vs=>some (v::vs)
def rO (tt:TT) (ft:Nat->Option Func) (vQ:Nat->Option (List Z->St->T (Z×St))) (draw:bR->Nat->Nat->List Oper->St->T St) (lf:Nat):Nat->bR
 |0,_,_,_=> .fail
 |n+1,g,args,s=>
  match vQ g with
  |some h=>h args s
  |none=>match ft g with
   |none=> .fail
   |some fn=>match fn.body with
    |none=> .fail
    |some c=>
     (dA tt (rO tt ft vQ draw lf n) (draw (rO tt ft vQ draw lf n) g) lf c { s with bj:=bI args 0 .nil }).bind fun (e,s')=>
      match e with
      | .exit _=> .fail
      |_=>match fb tt s' fn.results.toList with
       |some [v]=> .ret (v,{ s' with bj:=s.bj })
       |some vs=> .ret (.tuple vs,{ s' with bj:=s.bj })
       |none=> .fail
end
end Go.As
end
section
namespace Go.As
structure En where
 ρ:Nat->Int
 θ:Nat->Nat×Nat
 κ:Nat->Nat
 dm:Nat->Prop
 ro:Nat->Prop
 hd:Nat->Option (Nat×D×Nat):=fun _=>none
def bG (s:List Nat):ByteArray:=⟨(s.map UInt8.ofNat).toArray⟩
def eN (h:Array Obj) (b o:Nat):Option Value:=
 match h[b]? with
 |some (.cells c _ _)=>c[o]?
 |_=>none
theorem gj (w:World) (b o:Nat):w.cell? ⟨b,o,none⟩ = eN w.heap b o:=by
 unfold World.cell? eN
 grind
def cz (h:Array Obj) (b o:Nat) (us:List Value):Prop:= ∀i u,us[i]?=some u->eN h b (o+i)=some u
inductive Rd (ro:Nat->Prop) (h:Array Obj):CK->D->Value->Prop where
 |int (k:IntKind) (n:Int):Rd ro h (.int k) (.i n) (.int k n)
 |bool (b:Bool):Rd ro h .bool (.i (if b then 1 else 0)) (.bool b)
 |str (s:ByteArray):Rd ro h .str (lP s) (.string s)
 |nil (t:Nat):Rd ro h (.sl t) (.i 1) (.slice none 0 0)
 |nh (t:Nat) (a:Addr) (cap:Nat):Rd ro h (.sl t) (.i 2) (.slice (some a) 0 cap)
 |one (t:Nat) (c:CK) (b o cap:Nat) (ds:List D) (f:Nat->Value) (hr:rowOf t= .one c) (B:ds.length<=cap) (K:ro b)
  (O: ∀i d,ds[i]?=some d->eN h b (o+i)=some (f i)) (U: ∀i d,ds[i]?=some d->Rd ro h c d (f i)):Rd ro h (.sl t) (dL ds) (.slice (some ⟨b,o,none⟩) ds.length cap)
 |many (t:Nat) (cs:List CK) (b o cap:Nat) (rows:List (List D)) (f:Nat->Nat->Value) (hr:rowOf t= .many cs) (B:rows.length<=cap) (K:ro b) (I: ∀r∈rows,r.length=cs.length)
  (O: ∀i r j d,rows[i]?=some r->r[j]?=some d->eN h b (o+i*cs.length+j)=some (f i j))
  (U: ∀i r j d c,rows[i]?=some r->r[j]?=some d->cs[j]?=some c->Rd ro h c d (f i j)):Rd ro h (.sl t) (dL (rows.map dL)) (.slice (some ⟨b,o,none⟩) rows.length cap)
theorem Rd.C8 {ro:Nat->Prop} {h:Array Obj} {c:CK} {d:D} {v:Value} (r:Rd ro h c d v):v.oneCell'=true:=by cases r<;>rfl
theorem Rd.bw {ro jW:Nat->Prop} {h h':Array Obj} (k1: ∀b,ro b->jW b) (k2: ∀b,ro b->h'[b]?=h[b]?) {c:CK} {d:D} {v:Value} (r:Rd ro h c d v):Rd jW h' c d v:=by
 have R: ∀b o u,ro b->eN h b o=some u->eN h' b o=some u:=by
  intro b o u K hu
  grind [eN]
 induction r with
 |int k n=>exact .int k n
 |bool b=>exact .bool b
 |str s=>exact .str s
 |nil t=>exact .nil t
 |nh t a cap=>exact .nh t a cap
 |one t c b o cap ds f hr B K O U ih=>exact .one t c b o cap ds f hr B (k1 b K) (fun i d hi=>R _ _ _ K (O i d hi)) ih
 |many t cs b o cap rows f hr B K I O U ih=>exact .many t cs b o cap rows f hr B (k1 b K) I (fun i r j d hi hj=>R _ _ _ K (O i r j d hi hj)) ih
def cg (E:En) (id off len:Nat) (a:Addr) (cap:Nat):wN->Prop
 | .exact c=>cap=c/\((a=⟨(E.θ id).1,(E.θ id).2+off,none⟩)\/c=0)
 | .rest es=>(a=⟨(E.θ id).1,(E.θ id).2+off,none⟩/\off+cap*es=E.κ id)\/(cap=0/\len=0/\off=E.κ id)
mutual
def V (E:En) (h:Array Obj):Z->Value->Prop
 | .bool b,v=>v= .bool (b.den E.ρ)
 | .int k e,v=>v= .int k (e.den E.ρ)
 | .str s,v=>v= .string (bG s)/\∀b∈s,b<256
 | .ptr id off,v=>v= .pointer (some ⟨(E.θ id).1,(E.θ id).2+off,none⟩)/\E.dm id
 | .dw,v=>v= .pointer none
 | .fD cs,v=> ∃b o us,v= .pointer (some ⟨b,o,none⟩)/\E.ro b/\bC E h cs us/\cz h b o us/\∀u∈us,u.oneCell'=true
 | .slice id off len c,v=>E.dm id/\∃a cap,v= .slice (some a) len cap/\len<=cap/\cg E id off len a cap c
 | .bE,v=>v= .slice none 0 0
 | .ro cs n full,v=> ∃b o cap us,v= .slice (some ⟨b,o,none⟩) n cap/\n<=cap/\(full=true->cap=n)/\E.ro b/\bC E h cs us/\cz h b o us/\∀u∈us,u.oneCell'=true
 | .map id,v=>v= .map (some (E.θ id).1)/\E.dm id
 | .eS,v=>v= .map none
 | .func fn fs cs,v=> ∃us ws,v= .func fn us.toArray ws.toArray/\bC E h fs us/\bC E h cs ws
 | .jZ,v=>v= .nilFunc
 | .iface t x,v=> ∃u,v= .iface t u/\V E h x u
 | .lB,v=>v= .nilIface
 | .agg cs,v=> ∃us,v= .agg us.toArray/\bC E h cs us
 | .tuple cs,v=> ∃us,v= .tuple us.toArray/\bC E h cs us
 | .vu _,_=>False
 | .emp,v=> ∃x,v= .slice x 0 0
 | .cE e t,v=>Rd E.ro h (.sl t) (dec (e.den E.ρ)) v
 | .dW e,v=>Rd E.ro h .str (dec (e.den E.ρ)) v
 | .hK id n t,v=>E.dm id/\∃(k:Nat) (a:Addr) (cap:Nat),n.den E.ρ=(k:Int)/\v= .slice (some a) k cap/\k<=cap/\cg E id 0 k a cap (.rest (rowOf t).es)
 | .nk id es i off,v=>E.dm id/\∃k:Nat,i.den E.ρ=(k:Int)/\v= .pointer (some ⟨(E.θ id).1,(E.θ id).2+(k*es+off),none⟩)
 | .any,_=>True
 | .lN z t,v=>(∃x,v= .slice x 0 0)/\Rd E.ro h (.sl t) (dec (z.den E.ρ)) v
 | .jN id lo n t,v=>E.dm id/\∃(l k:Nat) (a:Addr) (cap:Nat),lo.den E.ρ=(l:Int)/\n.den E.ρ=(k:Int)/\v= .slice (some a) k cap/\k<=cap/\cg E id (l*(rowOf t).es) k a cap (.rest (rowOf t).es)
 | .k8 k ks,v=>((∃x cap,v= .slice x 0 cap)/\E.ρ (900+k)=0)\/∃b o n cap,v= .slice (some ⟨b,o,none⟩) n cap/\n<=cap/\E.ρ (900+k)=(n:Int)/\E.ro b/\
  ∀i j kd,i<n->ks[j]?=some kd->eN h b (o+i*ks.length+j)=some (.int kd (E.ρ (1000+i*64+(k*8+j))))
def bC (E:En) (h:Array Obj):List Z->List Value->Prop
 |[],us=>us= []
 |x::xs,us=> ∃u vs,us=u::vs/\V E h x u/\bC E h xs vs
end
theorem cZ {E:En} {h:Array Obj} {us:List Value}:bC E h [] us↔us= []:=by simp [bC]
theorem bt {E:En} {h:Array Obj} {x:Z} {xs:List Z} {us:List Value}:bC E h (x::xs) us↔∃u vs,us=u::vs/\V E h x u/\bC E h xs vs:=by simp [bC]
theorem bC.length {E:En} {h:Array Obj}: ∀{xs:List Z} {us:List Value},bC E h xs us->us.length=xs.length
 |[],us,hh=>by rw [cZ] at hh; simp [hh]
 |x::xs,us,hh=>by rw [bt] at hh;obtain⟨u,vs,rfl,_,U⟩:=hh;simp [U.length]
theorem bC.append {E:En} {h:Array Obj}: ∀{xs ys:List Z} {us vs:List Value},bC E h xs us->bC E h ys vs->bC E h (xs++ys) (us++vs)
 |[],_,us,vs,O,U=>by rw [cZ] at O; subst O; simpa using U
 |x::xs,ys,us,vs,O,U=>by rw [bt] at O;obtain⟨u,dh,rfl,M,iA⟩:=O;simp only [aM];rw [bt];exact⟨u,dh++vs,rfl,M,iA.append U⟩
theorem bC.di {E:En} {h:Array Obj}: ∀{n:Nat} {xs ys:List Z} {us:List Value},bC E h xs us->As.di n xs=some ys->bC E h ys (us.take n)/\n<=xs.length
 |0,xs,ys,us,_,U=>by simp [As.di] at U; subst U; simp [bC]
 |n+1,[],ys,us,_,U=>by simp [As.di] at U
 |n+1,x::xs,ys,us,O,U=>by
  rw [bt] at O;obtain⟨u,vs,rfl,M,iA⟩:=O;simp only [As.di] at U;split at U
  ·rename_i l I;simp at U;subst U;have:=iA.di I
   grind [bt]
  grind
theorem bC.b8 {E:En} {h:Array Obj}: ∀{n:Nat} {xs ys:List Z} {us:List Value},bC E h xs us->As.b8 n xs=some ys->bC E h ys (us.drop n)/\n<=xs.length/\ys.length=xs.length-n
 |0,xs,ys,us,O,U=>by simp [As.b8] at U; subst U; simpa using O
 |n+1,[],ys,us,_,U=>by simp [As.b8] at U
 |n+1,x::xs,ys,us,O,U=>by
  rw [bt] at O;obtain⟨u,vs,rfl,M,iA⟩:=O;simp only [As.b8] at U;have:=iA.b8 U
  grind
theorem bC.nth {E:En} {h:Array Obj}: ∀{i:Nat} {xs:List Z} {x:Z} {us:List Value},bC E h xs us->cq xs i=some x->∃u,us[i]?=some u/\V E h x u
 |_,[],_,us,_,U=>by simp [cq] at U
 |0,x::xs,y,us,O,U=>by
  rw [bt] at O;obtain⟨u,vs,rfl,M,iA⟩:=O
  grind [cq]
 |i+1,x::xs,y,us,O,U=>by
  rw [bt] at O;obtain⟨u,vs,rfl,M,iA⟩:=O;simp only [cq] at U;obtain⟨v,N,h4⟩:=iA.nth U
  grind
def bY (E:En) (h:Array Obj):List (Z×Z×Nat)->List MapEntry->Prop
 |[],es=>es= []
 |(k,v,b)::xs,es=> ∃e r,es=e::r/\V E h k e.key/\V E h v e.val/\b=b/\bY E h xs r
def tj (ro:Nat->Prop) (h:Array Obj):List CK->Nat->D->List Value->Prop
 |[],_,_,us=>us= []
 |c::cs,j,d,us=> ∃u vs,us=u::vs/\Rd ro h c (d.hd j) u/\tj ro h cs (j+1) d vs
def rQ (ro:Nat->Prop) (h:Array Obj) (r:Row) (d:D) (v:Value):Prop:=match r with
 | .one c=>Rd ro h c d v
 | .many cs=>k0 cs d/\∃us,v= .agg us.toArray/\tj ro h cs 0 d us
theorem tj.bw {ro jW:Nat->Prop} {h h':Array Obj} (k1: ∀b,ro b->jW b) (k2: ∀b,ro b->h'[b]?=h[b]?) {d:D}: ∀{cs:List CK} {j:Nat} {us:List Value},tj ro h cs j d us->tj jW h' cs j d us
 |[],_,_,hh=>hh
 |_::_,_,_,hh=>by obtain⟨u,vs,O,U,N⟩:=hh;exact⟨u,vs,O,U.bw k1 k2,tj.bw k1 k2 N⟩
theorem rQ.bw {ro jW:Nat->Prop} {h h':Array Obj} (k1: ∀b,ro b->jW b) (k2: ∀b,ro b->h'[b]?=h[b]?) {r:Row} {d:D} {v:Value} (hh:rQ ro h r d v):rQ jW h' r d v:=by
 cases r with
 |one c=>exact Rd.bw k1 k2 hh
 |many cs=> obtain⟨h0,us,O,U⟩:=hh;exact⟨h0,us,O,U.bw k1 k2⟩
def ek (ro:Nat->Prop) (h:Array Obj) (t:Nat):List D->List MapEntry->Prop
 |[],es=>es= []
 |d::ds,es=> ∃e r,es=e::r/\d= .p (fA d) (wx d)/\rQ ro h (mapOf t).1 (fA d) e.key/\rQ ro h (mapOf t).2 (wx d) e.val/\ek ro h t ds r
theorem ek.bw {ro jW:Nat->Prop} {h h':Array Obj} (k1: ∀b,ro b->jW b) (k2: ∀b,ro b->h'[b]?=h[b]?) {t:Nat}: ∀{ds:List D} {es:List MapEntry},ek ro h t ds es->ek jW h' t ds es
 |[],_,hh=>hh
 |_::_,_,hh=>by obtain⟨e,r,O,U,N,h4,h5⟩:=hh;exact⟨e,r,O,U,N.bw k1 k2,h4.bw k1 k2,ek.bw k1 k2 h5⟩
theorem ek.length {ro:Nat->Prop} {h:Array Obj} {t:Nat}: ∀{ds:List D} {es:List MapEntry},ek ro h t ds es->es.length=ds.length
 |[],_,hh=>by simp only [ek] at hh; rw [hh]; rfl
 |_::_,_,hh=>by obtain⟨e,r,O,_,_,_,h5⟩:=hh;rw [O,aA,aA,ek.length h5]
noncomputable def bO (ρ:Nat->Int) (i:Nat):List (Y×List Z)->Option (List Z)
 |[]=>none
 |(j,cs)::l=>if j.den ρ=(i:Int) then some cs else bO ρ i l
noncomputable def bk (ρ:Nat->Int) (r:Row) (ov:List (Y×List Z)):List D->Nat->List Z
 |[],_=>[]
 |d::ds,i=>(match bO ρ i ov with |some cs=>cs|none=>cT r (.cE d))++bk ρ r ov ds (i+1)
def jY (r:Row) (ov:List (Y×List Z)):Prop:= ∀p∈ov,p.2.length=r.es
noncomputable def fW (ρ:Nat->Int) (n:Int):List (Y×Z)->Option Z
 |[]=>none
 |(x,v)::l=>if x.den ρ=n then some v else fW ρ n l
def Kn (E:En) (h:Array Obj) (Y_:Nat) (k:D) (j ty t:Nat) (d:D) (u:Value):Prop:=
 ∃b o n cap a arr lo hi,u= .slice (some a) n cap/\n<=cap/\E.hd b=some (Y_,k,j)/\h[b]?=some (.cells arr ty (lo,hi))/\((a=⟨b,o,none⟩/\o+cap*(rowOf t).es=arr.size)\/(cap=0/\n=0/\o=arr.size))/\(∀q,lo<=q->q<hi->arr.size<=q)/\
  ((n=0/\d= .i 3)\/(jL (rowOf t) d/\d.l.length=n/\∃us,bC E h (bk E.ρ (rowOf t) [] d.l 0) us/\(∀i u,us[i]?=some u->arr[o+i]?=some u)/\∀u∈us,u.oneCell'=true))
def jH (E:En) (h:Array Obj) (Y_:Nat) (k:D) (j ty:Nat) (c:FC) (d:D) (u:Value):Prop:=match c with
 | .ck c=>Rd E.ro h c d u
 | .own t=>((∃x,u= .slice x 0 0)/\Rd E.ro h (.sl t) d u)\/Kn E h Y_ k j ty t d u
 | .mp t=> ∃b bo c,u= .map (some b)/\E.hd b=some (Y_,k,j)/\h[b]?=some (.map bo c)/\ek E.ro h t d.l bo.toList
def kD (E:En) (h:Array Obj) (Y_ t:Nat) (cK:List Nat) (k d:D) (v:Value):Prop:=match (ld t).ptr with
 |false=> ∃c,(ld t).cs= [c]/\jH E h Y_ k 1 (cK.getD 1 0) c d v
 |true=> ∃b o arr lo hi,v= .pointer (some ⟨b,o,none⟩)/\E.hd b=some (Y_,k,0)/\h[b]?=some (.cells arr (cK.getD 0 0) (lo,hi))/\o+(ld t).cs.length<=arr.size/\(∀q,lo<=q->q<hi->arr.size<=q)/\
  ∀j c,(ld t).cs[j]?=some c->∃u,arr[o+j]?=some u/\u.oneCell'=true/\jH E h Y_ k (j+1) (cK.getD (j+2) 0) c (d.hd j) u
def cw (E:En) (h:Array Obj) (Y_ t:Nat) (cK:List Nat) (ov:List (Y×Z)):List D->List MapEntry->Prop
 |[],es=>es= []
 |d::ds,es=> ∃e r n,es=e::r/\d= .p (.i n) (wx d)/\e.key= .int .i64 n/\(match fW E.ρ n ov with |some v=>V E h v e.val|none=>kD E h Y_ t cK (.i n) (wx d) e.val)/\cw E h Y_ t cK ov ds r
def rB (ρ:Nat->Int) (ds:List D) (ov:List (Y×Z)):Prop:=(ds.map fA).Nodup/\(∀p∈ov,D.i (p.1.den ρ)∈ds.map fA)/\(ov.map fun p=>p.1.den ρ).Nodup
def zC:Nat->List (Z×Z×Nat)->List MapEntry->Nat->Prop
 |0,_,_,_=>True
 |c+1,es,bo,c'=>c'=c/\bo.map (·.born)=es.map (·.2.2)
def OR (E:En) (h:Array Obj) (id:Nat):bS->Prop
 | .cells cs e=> ∃arr lo hi us,h[(E.θ id).1]?=some (.cells arr e (lo,hi))/\bC E h cs us/\(∀i u,us[i]?=some u->arr[(E.θ id).2+i]?=some u)/\
  cs.length<=E.κ id/\(E.θ id).2+E.κ id=arr.size/\(∀o,lo<=o->o<hi->arr.size<=o)/\(∀u∈us,u.oneCell'=true)
 | .map es k=> ∃bo c,h[(E.θ id).1]?=some (.map bo c)/\bY E h es bo.toList/\zC k es bo.toList c
 | .vec e t ty ov=>(jY (rowOf t) ov/\jL (rowOf t) (dec (e.den E.ρ)))/\∃arr lo hi us,h[(E.θ id).1]?=some (.cells arr ty (lo,hi))/\bC E h (bk E.ρ (rowOf t) ov (dec (e.den E.ρ)).l 0) us/\(∀i u,us[i]?=some u->arr[(E.θ id).2+i]?=some u)/\
  (bk E.ρ (rowOf t) ov (dec (e.den E.ρ)).l 0).length<=E.κ id/\(E.θ id).2+E.κ id=arr.size/\(∀o,lo<=o->o<hi->arr.size<=o)/\(∀u∈us,u.oneCell'=true)
 | .dZ s p=>h[(E.θ id).1]?=some (.stringIter (bG s) p)/\(E.θ id).2=0/\∀b∈s,b<256
 | .dJ m s l z=>match m with
   |none=>h[(E.θ id).1]?=some (.mapIter none s l.toArray z)/\(E.θ id).2=0
   |some i=>h[(E.θ id).1]?=some (.mapIter (some (E.θ i).1) s l.toArray z)/\(E.θ id).2=0/\E.dm i
 | .ey e t=> ∃bo c,h[(E.θ id).1]?=some (.map bo c)/\ek E.ro h t (dec (e.den E.ρ)).l bo.toList
 | .kg e t cK ov=>rB E.ρ (dec (e.den E.ρ)).l ov/\∃bo c,h[(E.θ id).1]?=some (.map bo c)/\cw E h (E.θ id).1 t cK ov (dec (e.den E.ρ)).l bo.toList
class bp where
 ok:(Nat->Int)->(Nat->Prop)->Array Obj->Prop
 bw: ∀{ρ:Nat->Int} {ro jW:Nat->Prop} {h h':Array Obj},ok ρ ro h->(∀b,ro b->jW b)->(∀b,ro b->h'[b]?=h[b]?)->ok ρ jW h'
 eC: ∀{ρ ρ':Nat->Int} {ro:Nat->Prop} {h:Array Obj},ok ρ ro h->(∀i,900<=i->ρ' i=ρ i)->ok ρ' ro h
structure bq [bp] (E:En) (H:Hp) (w:World):Prop where
 fresh: ∀id,H.next<=id->¬E.dm id
 res: ∀r,H.res=some r->r<H.next/\¬E.dm r
 live: ∀id o,H.get id=some o->E.dm id/\OR E w.heap id o/\¬E.ro (E.θ id).1
 inj: ∀id xl o o',H.get id=some o->H.get xl=some o'->(E.θ id).1=(E.θ xl).1->id=xl
 oy: ∀b,E.ro b->b<w.heap.size
 jM:bp.ok E.ρ E.ro w.heap
 hid: ∀b x,E.hd b=some x->b<w.heap.size/\¬E.ro b/\∀id o,H.get id=some o->(E.θ id).1≠b
structure ca (E:En) (H:Hp) (w:World) (E':En) (H':Hp) (w':World):Prop where
 ρ:E'.ρ=E.ρ
 dm: ∀id,E.dm id->E'.dm id
 θ: ∀id,E.dm id->E'.θ id=E.θ id
 κ: ∀id,E.dm id->E'.κ id=E.κ id
 ro: ∀b,E.ro b->E'.ro b
 lU: ∀b,E'.ro b->E.ro b\/(∃id o,H.get id=some o/\(E.θ id).1=b)\/w.heap.size<=b
 zY:H.next<=H'.next
 ED:H'.res=none\/H'.res=H.res
 Cz: ∀id,E'.dm id->E.dm id\/(H.next<=id/\id<H'.next)\/H.res=some id
 os:w'.os=w.os
 tape:w'.tape=w.tape
 output:w'.output=w.output
 size:w.heap.size<=w'.heap.size
 bw: ∀b,b<w.heap.size->(∀id o,H.get id=some o->(E.θ id).1≠b)->w'.heap[b]?=w.heap[b]?
 own: ∀id o,H'.get id=some o->(E'.θ id).1<w.heap.size->∃jg o0,H.get jg=some o0/\(E.θ jg).1=(E'.θ id).1
 hd:E'.hd=E.hd
theorem ca.refl (E:En) (H:Hp) (w:World):ca E H w E H w:=
 ⟨rfl,fun _ h=>h,fun _ _=>rfl,fun _ _=>rfl,fun _ h=>h,fun _ h=> .inl h,ar _,.inr rfl,fun _ h=> .inl h,rfl,rfl,rfl,ar _,fun _ _ _=>rfl,fun id o h _=> ⟨id,o,h,rfl⟩,rfl⟩
theorem ca.trans {E E1 E2:En} {H H1 H2:Hp} {w w1 w2:World} (a:ca E H w E1 H1 w1) (b:ca E1 H1 w1 E2 H2 w2):ca E H w E2 H2 w2 where
 ρ:=b.ρ.trans a.ρ
 dm:=fun id h=>b.dm id (a.dm id h)
 θ:=fun id h=>(b.θ id (a.dm id h)).trans (a.θ id h)
 κ:=fun id h=>(b.κ id (a.dm id h)).trans (a.κ id h)
 ro:=fun x h=>b.ro x (a.ro x h)
 lU:=fun x h=>by
  rcases b.lU x h with h|⟨id,o,O,U⟩|h
  ·exact a.lU x h
  ·rcases aG x w.heap.size with M|M
   ·obtain⟨jg,o0,N,h4⟩:=a.own id o O (by rw [U]; exact M);exact .inr (.inl ⟨jg,o0,N,h4.trans U⟩)
   ·exact .inr (.inr M)
  ·exact .inr (.inr (aD a.size h))
 zY:=aD a.zY b.zY
 ED:=by
  rcases b.ED with h|h
  ·exact .inl h
  ·rw [h]; exact a.ED
 Cz:=fun id h=>by
  rcases b.Cz id h with h|h|h
  ·rcases a.Cz id h with h|h|h
   ·exact .inl h
   ·exact .inr (.inl ⟨h.1,aac h.2 b.zY⟩)
   ·exact .inr (.inr h)
  ·exact .inr (.inl ⟨aD a.zY h.1,h.2⟩)
  ·rcases a.ED with h'|h'
   ·rw [h'] at h; simp at h
   ·exact .inr (.inr (h'.symm.trans h))
 os:=b.os.trans a.os
 tape:=b.tape.trans a.tape
 output:=b.output.trans a.output
 size:=aD a.size b.size
 bw:=fun x M hn=>by rw [b.bw x (aac M a.size) ?_,a.bw x M hn];intro id o ho he;obtain⟨jg,o0,h0,Dq⟩:=a.own id o ho (by rw [he]; exact M);exact hn jg o0 h0 (Dq.trans he)
 own:=fun id o ho c6=>by obtain⟨I8,o1,O,BI⟩:=b.own id o ho (aac c6 a.size);obtain⟨jg,o0,h0,Dq⟩:=a.own I8 o1 O (by rw [BI]; exact c6);exact⟨jg,o0,h0,Dq.trans BI⟩
 hd:=b.hd.trans a.hd
structure c9 (E:En) (h:Array Obj) (E':En) (h':Array Obj):Prop where
 ρ:E'.ρ=E.ρ
 dm: ∀id,E.dm id->E'.dm id
 θ: ∀id,E.dm id->E'.θ id=E.θ id
 κ: ∀id,E.dm id->E'.κ id=E.κ id
 ro: ∀b,E.ro b->E'.ro b
 pU: ∀b,E.ro b->h'[b]?=h[b]?
theorem ca.keeps [bp] {E E':En} {H H':Hp} {w w':World} (s:ca E H w E' H' w') (r:bq E H w):c9 E w.heap E' w'.heap:=
 ⟨s.ρ,s.dm,s.θ,s.κ,s.ro,fun b K=>s.bw b (r.oy b K) fun id o ho he=>(r.live id o ho).2.2 (by rw [he]; exact K)⟩
theorem cz.bw {E E':En} {h h':Array Obj} (k:c9 E h E' h') {b o:Nat} {us:List Value} (K:E.ro b) (B:cz h b o us):cz h' b o us:=by
 intro i u hu;have:=B i u hu;unfold eN at *;rw [k.pU b K]
 grind
theorem cg.bw {E E':En} {h h':Array Obj} (k:c9 E h E' h') {id off len:Nat} {a:Addr} {cap:Nat} {c:wN} (hid:E.dm id) (B:cg E id off len a cap c):cg E' id off len a cap c:=by
 cases c<;>simp only [cg] at*<;>rw [k.θ id hid]
 ·exact B
 ·rw [k.κ id hid]; exact B
mutual
theorem V.bw {E E':En} {h h':Array Obj} (k:c9 E h E' h'): ∀(x:Z) (v:Value),V E h x v->V E' h' x v
 | .bool b,v,W=>by simp only [V] at *; rw [k.ρ]; exact W
 | .int _ e,v,W=>by simp only [V] at *; rw [k.ρ]; exact W
 | .str s,v,W=>by simp only [V] at *; exact W
 | .ptr id off,v,W=>by simp only [V] at *; rw [k.θ id W.2]; exact⟨W.1,k.dm _ W.2⟩
 | .dw,v,W=>by simp only [V] at *; exact W
 | .fD cs,v,W=>by simp only [V] at *;obtain⟨b,o,us,O,U,N,h4,h5⟩:=W;exact⟨b,o,us,O,k.ro b U,bC.bw k cs us N,h4.bw k U,h5⟩
 | .slice id off len c,v,W=>by simp only [V] at *;obtain⟨O,a,cap,U,N,h4⟩:=W;exact⟨k.dm _ O,a,cap,U,N,h4.bw k O⟩
 | .bE,v,W=>by simp only [V] at *; exact W
 | .ro cs n full,v,W=>by simp only [V] at *;obtain⟨b,o,cap,us,O,U,N,h4,h5,h6,h7⟩:=W;exact⟨b,o,cap,us,O,U,N,k.ro b h4,bC.bw k cs us h5,h6.bw k h4,h7⟩
 | .map id,v,W=>by simp only [V] at *; rw [k.θ id W.2]; exact⟨W.1,k.dm _ W.2⟩
 | .eS,v,W=>by simp only [V] at *; exact W
 | .func fn fs cs,v,W=>by simp only [V] at *;obtain⟨us,ws,O,U,N⟩:=W;exact⟨us,ws,O,bC.bw k fs us U,bC.bw k cs ws N⟩
 | .jZ,v,W=>by simp only [V] at *; exact W
 | .iface t x,v,W=>by simp only [V] at *;obtain⟨u,O,U⟩:=W;exact⟨u,O,V.bw k x u U⟩
 | .lB,v,W=>by simp only [V] at *; exact W
 | .agg cs,v,W=>by simp only [V] at *;obtain⟨us,O,U⟩:=W;exact⟨us,O,bC.bw k cs us U⟩
 | .tuple cs,v,W=>by simp only [V] at *;obtain⟨us,O,U⟩:=W;exact⟨us,O,bC.bw k cs us U⟩
 | .vu _,v,W=>by simp only [V] at W
 | .emp,v,W=>by simp only [V] at *; exact W
 | .cE e t,v,W=>by simp only [V] at *; rw [k.ρ]; exact W.bw k.ro k.pU
 | .dW e,v,W=>by simp only [V] at *; rw [k.ρ]; exact W.bw k.ro k.pU
 | .hK id n t,v,W=>by simp only [V] at *;obtain⟨O,m,a,cap,U,N,h4,h5⟩:=W;exact⟨k.dm _ O,m,a,cap,by rw [k.ρ]; exact U,N,h4,h5.bw k O⟩
 | .any,_,_=>by simp only [V]
 | .lN z t,v,W=>by simp only [V] at *; rw [k.ρ]; exact⟨W.1,W.2.bw k.ro k.pU⟩
 | .jN id lo n t,v,W=>by simp only [V] at *;obtain⟨O,l,m,a,cap,U,N,h4,h5,h6⟩:=W;exact⟨k.dm _ O,l,m,a,cap,by rw [k.ρ]; exact U,by rw [k.ρ]; exact N,h4,h5,h6.bw k O⟩
 | .nk id es i off,v,W=>by simp only [V] at *;obtain⟨O,m,U,N⟩:=W;exact⟨k.dm _ O,m,by rw [k.ρ]; exact U,by rw [k.θ id O]; exact N⟩
 | .k8 kk ks,v,W=>by
   simp only [V] at *;rw [k.ρ];rcases W with W|⟨b,o,n,cap,O,U,N,h4,h5⟩
   ·grind
   ·refine .inr ⟨b,o,n,cap,O,U,N,k.ro b h4,fun i j kd hi hj=>?_⟩;have:=h5 i j kd hi hj;unfold eN at *;rw [k.pU b h4]
    grind
theorem bC.bw {E E':En} {h h':Array Obj} (k:c9 E h E' h'): ∀(xs:List Z) (us:List Value),bC E h xs us->bC E' h' xs us
 |[],us,W=>by simp only [bC] at *; exact W
 |x::xs,us,W=>by simp only [bC] at *;obtain⟨u,vs,O,U,N⟩:=W;exact⟨u,vs,O,V.bw k x u U,bC.bw k xs vs N⟩
end
theorem bY.bw {E E':En} {h h':Array Obj} (k:c9 E h E' h'): ∀(xs:List (Z×Z×Nat)) (es:List MapEntry),bY E h xs es->bY E' h' xs es
 |[],es,W=>by simp only [bY] at *; exact W
 |(a,b,c)::xs,es,W=>by simp only [bY] at *;obtain⟨e,r,O,U,N,h4,h5⟩:=W;exact⟨e,r,O,V.bw k _ _ U,V.bw k _ _ N,h4,bY.bw k xs r h5⟩
theorem bq.HJ [bp] {E E':En} {H H':Hp} {w w':World} (r:bq E H w) (he:E'.hd=E.hd) (hs:w.heap.size<=w'.heap.size) (lU: ∀b,E'.ro b->E.ro b\/(∃id o,H.get id=some o/\(E.θ id).1=b)\/w.heap.size<=b)
 (own: ∀id o,H'.get id=some o->(E'.θ id).1<w.heap.size->∃jg o0,H.get jg=some o0/\(E.θ jg).1=(E'.θ id).1): ∀b x,E'.hd b=some x->b<w'.heap.size/\¬E'.ro b/\∀id o,H'.get id=some o->(E'.θ id).1≠b:=by
 intro b x K;rw [he] at K;obtain⟨q1,q2,q3⟩:=r.hid b x K;refine⟨J,fun hr=>?_,fun id o ho e=>?_⟩
 ·rcases lU b hr with h|⟨id,o,O,U⟩|h
  ·exact q2 h
  ·exact q3 id o O U
  ·omega
 ·obtain⟨jg,o0,h0,e0⟩:=own id o ho (by rw [e]; exact q1);exact q3 jg o0 h0 (e0.trans e)
def Ge (E:En) (h:Array Obj) (E':En) (h':Array Obj) (Y_:Nat) (k:D):Prop:= ∀b j,E.hd b=some (Y_,k,j)->E'.hd b=some (Y_,k,j)/\h'[b]?=h[b]?
theorem bq.Ed [bp] {E E':En} {H:Hp} {w:World} {h':Array Obj} (r:bq E H w) (he:E'.hd=E.hd) (R: ∀b,b<w.heap.size->(∀id o,H.get id=some o->(E.θ id).1≠b)->h'[b]?=w.heap[b]?) (Y_:Nat) (key:D):Ge E w.heap E' h' Y_ key:=
 fun b _ K=> ⟨by rw [he]; exact K,R b (r.hid b _ K).1 (r.hid b _ K).2.2⟩
theorem jH.bw {E E':En} {h h':Array Obj} (k:c9 E h E' h') {Y_:Nat} {key:D} {j ty:Nat} (hh: ∀b,E.hd b=some (Y_,key,j)->E'.hd b=some (Y_,key,j)/\h'[b]?=h[b]?) {c:FC} {d:D} {u:Value} (ho:jH E h Y_ key j ty c d u):jH E' h' Y_ key j ty c d u:=by
 cases c with
 |ck c=>exact Rd.bw k.ro k.pU ho
 |own t=>
  rcases ho with ⟨O,U⟩|⟨b,o,n,cap,a,arr,lo,hi,O,U,N,h4,h5,h6,h7⟩
  ·exact .inl ⟨O,Rd.bw k.ro k.pU U⟩
  ·obtain⟨q1,q2⟩:=hh b N;refine .inr ⟨b,o,n,cap,a,arr,lo,hi,O,U,q1,by rw [q2]; exact h4,h5,h6,?_⟩;rcases h7 with h7|⟨g1,g2,us,g3,g4⟩
   ·exact .inl h7
   ·exact .inr ⟨g1,g2,us,by rw [k.ρ]; exact bC.bw k _ us g3,g4⟩
 |mp t=> obtain⟨b,bo,c,O,U,N,h4⟩:=ho;obtain⟨q1,q2⟩:=hh b U;exact⟨b,bo,c,O,q1,by rw [q2]; exact N,h4.bw k.ro k.pU⟩
theorem kD.bw {E E':En} {h h':Array Obj} (k:c9 E h E' h') {Y_ t:Nat} {cK:List Nat} {key d:D} {v:Value} (hh:Ge E h E' h' Y_ key) (ho:kD E h Y_ t cK key d v):kD E' h' Y_ t cK key d v:=by
 unfold kD at *;split at ho
 ·obtain⟨c,O,U⟩:=ho;exact⟨c,O,U.bw k fun b=>hh b _⟩
 ·obtain⟨b,o,arr,lo,hi,O,U,N,h4,h5,h6⟩:=ho;obtain⟨q1,q2⟩:=hh b 0 U;refine⟨b,o,arr,lo,hi,O,q1,by rw [q2]; exact N,h4,h5,fun j c B=>?_⟩;obtain⟨u,g1,g2,g3⟩:=h6 j c B;exact⟨u,g1,g2,g3.bw k fun b=>hh b _⟩
theorem cw.bw {E E':En} {h h':Array Obj} (k:c9 E h E' h') {Y_ t:Nat} {cK:List Nat} {ov:List (Y×Z)} (hh: ∀n,fW E.ρ n ov=none->Ge E h E' h' Y_ (.i n)): ∀{ds:List D} {es:List MapEntry},cw E h Y_ t cK ov ds es->cw E' h' Y_ t cK ov ds es
 |[],_,ho=>ho
 |d::ds,_,⟨e,r,n,O,U,N,h4,h5⟩=>by
  refine⟨e,r,n,O,U,N,?_,cw.bw k hh h5⟩;rw [k.ρ];split at h4
  ·rename_i v W;exact V.bw k _ _ h4
  ·rename_i W;exact h4.bw k (hh n W)
def nf:bS->Bool
 | .kg _ _ _ _=>false
 |_=>true
theorem cw.length {E:En} {h:Array Obj} {Y_ t:Nat} {cK:List Nat} {ov:List (Y×Z)}: ∀{ds:List D} {es:List MapEntry},cw E h Y_ t cK ov ds es->es.length=ds.length
 |[],_,ho=>by simp only [cw] at ho; rw [ho]; rfl
 |d::ds,_,⟨e,r,n,O,_,_,_,h5⟩=>by rw [O,aA,aA,cw.length h5]
theorem OR.G1 {E E':En} {h h':Array Obj} (k:c9 E h E' h') {id:Nat} {o:bS} (hid:E.dm id) (K:h'[(E.θ id).1]?=h[(E.θ id).1]?) (hh:nf o=true\/∀key,Ge E h E' h' (E.θ id).1 key) (ho:OR E h id o):OR E' h' id o:=by
 cases o with
 |cells cs e=> simp only [OR] at *;obtain⟨arr,lo,hi,us,O,U,N,h4,h5,h6,h7⟩:=ho;rw [k.θ id hid,k.κ id hid,K];exact⟨arr,lo,hi,us,O,bC.bw k cs us U,N,h4,h5,h6,h7⟩
 |map es c=> simp only [OR] at *;obtain⟨bo,c,O,U,N⟩:=ho;rw [k.θ id hid,K];exact⟨bo,c,O,bY.bw k _ _ U,N⟩
 |dZ s p=> simp only [OR] at *;rw [k.θ id hid,K];exact ho
 |dJ m s l z=>
  cases m with
  |none=> simp only [OR] at *;rw [k.θ id hid,K];exact ho
  |some i=> simp only [OR] at *;obtain⟨O,U,N⟩:=ho;rw [k.θ id hid,K,k.θ i N];exact⟨O,U,k.dm _ N⟩
 |ey e t=> simp only [OR] at *;obtain⟨bo,c,O,U⟩:=ho;rw [k.θ id hid,K,k.ρ];exact⟨bo,c,O,U.bw k.ro k.pU⟩
 |vec e t ty ov=> simp only [OR] at *;obtain⟨h0,arr,lo,hi,us,O,U,N,h4,h5,h6,h7⟩:=ho;rw [k.θ id hid,k.κ id hid,K,k.ρ];exact⟨h0,arr,lo,hi,us,O,bC.bw k _ us U,N,h4,h5,h6,h7⟩
 |kg e t cK ov=>
  simp only [OR] at *;obtain⟨h0,bo,c,O,U⟩:=ho;rw [k.θ id hid,K,k.ρ];rcases hh with hh|hh
  ·simp [nf] at hh
  exact⟨h0,bo,c,O,U.bw k fun n _=>hh _⟩
theorem OR.bw {E E':En} {h h':Array Obj} (k:c9 E h E' h') {id:Nat} {o:bS} (hid:E.dm id) (K:h'[(E.θ id).1]?=h[(E.θ id).1]?) (hh: ∀key,Ge E h E' h' (E.θ id).1 key) (ho:OR E h id o):OR E' h' id o:=ho.G1 k hid K (.inr hh)
end Go.As
end
section
namespace Go.As
theorem Hp.br (h:Hp) (i:Nat) (o:bS) (j:Nat):(h.put i o).get j=if j=i then some o else h.get j:=by simp [Hp.get,Hp.put,Tr.br]
theorem Hp.cD (h:Hp) (o:bS) (j:Nat):(h.new o).get j=if j=h.fresh then some o else h.get j:=by
 grind [Hp.new,Hp.fresh,Hp.get,Tr.br]
theorem bq.CB [bp] {E:En} {H:Hp} {w:World} (r:bq E H w): ¬E.dm H.fresh:=by
 unfold Hp.fresh
 cases hr:H.res with
 |none=>exact r.fresh _ (ar _)
 |some x=>exact (r.res x hr).2
theorem bq.ik [bp] {E:En} {H:Hp} {w:World} (r:bq E H w) {i:Nat} (h:E.dm i):i≠H.fresh:=fun e=>r.CB (e▸h)
theorem Hp.gb (h:Hp) (i j:Nat):(h.drop i).get j=if j=i then none else h.get j:=by simp [Hp.get,Hp.drop,Tr.br]
def En.ext (E:En) (n:Nat) (p:Nat×Nat) (c:Nat):En:=
 { E with θ:=fun i=>if i=n then p else E.θ i,κ:=fun i=>if i=n then c else E.κ i,dm:=fun i=>i=n\/E.dm i }
theorem En.ext_θ_new (E:En) (n:Nat) (p:Nat×Nat) (c:Nat):(E.ext n p c).θ n=p:=by simp [En.ext]
theorem En.ext_κ_new (E:En) (n:Nat) (p:Nat×Nat) (c:Nat):(E.ext n p c).κ n=c:=by simp [En.ext]
theorem En.cQ (E:En) (n:Nat) (p:Nat×Nat) (c:Nat):(E.ext n p c).dm n:=.inl rfl
theorem En.ext_θ (E:En) (n:Nat) (p:Nat×Nat) (c:Nat) {i:Nat} (h:i≠n):(E.ext n p c).θ i=E.θ i:=by simp [En.ext,h]
theorem En.ext_κ (E:En) (n:Nat) (p:Nat×Nat) (c:Nat) {i:Nat} (h:i≠n):(E.ext n p c).κ i=E.κ i:=by simp [En.ext,h]
theorem sX [bp] {E:En} {H:Hp} {w:World} (r:bq E H w) (p:Nat×Nat) (c:Nat) (o:bS):(∀id,(H.new o).next<=id->¬(E.ext H.fresh p c).dm id)/\∀q,(H.new o).res=some q->q<(H.new o).next/\¬(E.ext H.fresh p c).dm q:=by
 have O:=r.fresh;have U:=r.res;unfold Hp.new Hp.fresh
 cases hr:H.res with
 |none=>
  refine⟨fun id hid hd=>?_,ad⟩;simp at hid;rcases hd with hd|hd
  all_goals grind
 |some q=>
  refine⟨fun id hid hd=>?_,ad⟩;simp at hid;have:=U q hr;rcases hd with hd|hd
  all_goals grind
theorem iK (H:Hp) (o:bS):H.next<=(H.new o).next/\((H.new o).res=none\/(H.new o).res=H.res)/\∀id,id=H.fresh->(H.next<=id/\id<(H.new o).next)\/H.res=some id:=by
 grind [Hp.new,Hp.fresh]
structure Alike (w w':World):Prop where
 os:w'.os=w.os
 tape:w'.tape=w.tape
 output:w'.output=w.output
theorem mc {h:Array Obj} {o:Obj} {b:Nat} (K:b<h.size):(h.push o)[b]?=h[b]?:=by
 grind
theorem qv [bp] {E:En} {H:Hp} {w:World} (r:bq E H w) (p:Nat×Nat) (c:Nat) (o:Obj):c9 E w.heap (E.ext H.fresh p c) (w.heap.push o):=
 ⟨rfl,fun _ h=> .inr h,fun _ h=>En.ext_θ E _ p c (r.ik h),fun _ h=>En.ext_κ E _ p c (r.ik h),fun _ h=>h,fun b K=>mc (r.oy b K)⟩
theorem eO [bp] {E:En} {H:Hp} {w:World} (r:bq E H w) {id:Nat} {o:bS} (h:H.get id=some o):(E.θ id).1<w.heap.size:=by
 have U:=(r.live id o h).2.1
 cases o with
 |cells cs e=>
  obtain⟨arr,lo,hi,us,O,_⟩:=U
  grind
 |map es c=>
  obtain⟨bo,c',O,_⟩:=U
  grind
 |dZ s p=>exact (aV.1 U.1).1
 |dJ m s l z=>cases m with
  |none=>exact (aV.1 U.1).1
  |some i=>exact (aV.1 U.1).1
 |ey e t=>
  obtain⟨bo,c',O,_⟩:=U
  grind
 |kg e t cK ov=>
  obtain⟨_,bo,c',O,_⟩:=U
  grind
 |vec e t ty ov=>
  obtain⟨_,arr,lo,hi,us,O,_⟩:=U
  grind
theorem gT [bp] {E:En} {H:Hp} {w w':World} (r:bq E H w) (o:Obj) (ao:bS) (c:Nat) (hw:w'.heap=w.heap.push o) (al:Alike w w')
 (ho:OR (E.ext H.fresh (w.heap.size,0) c) w'.heap H.fresh ao) :
 ca E H w (E.ext H.fresh (w.heap.size,0) c) (H.new ao) w'/\bq (E.ext H.fresh (w.heap.size,0) c) (H.new ao) w':=by
 have k:=qv r (w.heap.size,0) c o;rw [<- hw] at k;have hf:=sX r (w.heap.size,0) c ao;refine⟨⟨k.ρ,k.dm,k.θ,k.κ,k.ro,fun _ h=> .inl h,(iK H ao).1,(iK H ao).2.1,fun id h=>h.elim (fun e=> .inr ((iK H ao).2.2 id e)) .inl,al.os,al.tape,al.output,by rw [hw]; simp,fun b K _=>by rw [hw,mc K],?_,rfl⟩,⟨hf.1,hf.2,?_,?_,?_,bp.bw r.jM k.ro k.pU,?_⟩⟩
 ·intro id o2 U c6;rw [Hp.cD] at U;split at U
  ·rename_i he
   grind [En.ext_θ_new]
  ·have N:=(r.live id o2 U).1;exact⟨id,o2,U,by rw [En.ext_θ _ _ _ _ (r.ik N)]⟩
 ·intro id o2 U;rw [Hp.cD] at U;split at U
  ·rename_i he;simp at U;subst U;rw [he,En.ext_θ_new];refine⟨En.cQ _ _ _ _,ho,fun hr=>?_⟩;have:=r.oy _ hr
   grind
  ·obtain⟨N,h4,h5⟩:=r.live id o2 U;refine⟨.inr N,h4.bw k N ?_ (fun key b j K=> ⟨K,by rw [hw,mc (r.hid b _ K).1]⟩),?_⟩
   ·grind [mc,eO]
   ·rw [En.ext_θ _ _ _ _ (r.ik N)]; exact h5
 ·intro id xl o1 o2 O U he;rw [Hp.cD] at O U;split at O<;>split at U
  ·omega
  ·rename_i e1 _;have N:=(r.live xl o2 U).1;rw [e1,En.ext_θ_new,En.ext_θ _ _ _ _ (r.ik N)] at he;have:=eO r U
   grind
  ·rename_i _ e1;have N:=(r.live id o1 O).1;rw [e1,En.ext_θ_new,En.ext_θ _ _ _ _ (r.ik N)] at he;have:=eO r O
   grind
  ·have N:=(r.live id o1 O).1;have h4:=(r.live xl o2 U).1;rw [En.ext_θ _ _ _ _ (r.ik N),En.ext_θ _ _ _ _ (r.ik h4)] at he;exact r.inj id xl o1 o2 O U he
 ·intro b K;have:=r.oy b K
  grind
 ·intro b x K;obtain⟨q1,q2,q3⟩:=r.hid b x K;refine⟨by rw [hw,Array.size_push]; omega,q2,fun id o2 U=>?_⟩;rw [Hp.cD] at U;split at U
  ·rename_i he;rw [he,En.ext_θ_new];exact fun e=>by have e:w.heap.size=b:=e; omega
  ·rw [En.ext_θ _ _ _ _ (r.ik (r.live id o2 U).1)];exact q3 id o2 U
theorem ed [bp] {E:En} {H:Hp} {w w':World} (r:bq E H w) {id:Nat} {o:bS} (I:H.get id=some o)
 (eF: ∀b,b≠(E.θ id).1->w'.heap[b]?=w.heap[b]?):c9 E w.heap E w'.heap:=
 ⟨rfl,fun _ h=>h,fun _ _=>rfl,fun _ _=>rfl,fun _ h=>h,fun b K=>eF b fun e=>(r.live id o I).2.2 (by rw [<- e]; exact K)⟩
theorem pY [bp] {E:En} {H:Hp} {w w':World} (r:bq E H w) {id:Nat} {o:bS} (I:H.get id=some o) (ao:bS)
 (vJ:w'.heap.size=w.heap.size) (eF: ∀b,b≠(E.θ id).1->w'.heap[b]?=w.heap[b]?) (al:Alike w w') (ho:OR E w'.heap id ao) :
 ca E H w E (H.put id ao) w'/\bq E (H.put id ao) w':=by
 have k:=ed r I eF;refine⟨⟨rfl,fun _ h=>h,fun _ _=>rfl,fun _ _=>rfl,fun _ h=>h,fun _ h=> .inl h,ar _,.inr rfl,fun _ h=> .inl h,al.os,al.tape,al.output,J,?_,?_,rfl⟩,⟨r.fresh,r.res,?_,?_,?_,bp.bw r.jM k.ro k.pU,?_⟩⟩
 ·intro b _ hn
  grind
 ·intro j o2 U _
  grind [Hp.br]
 ·intro j o2 U;rw [Hp.br] at U;split at U
  ·rename_i e;subst e;simp at U;subst U;exact⟨(r.live j o I).1,ho,(r.live j o I).2.2⟩
  ·rename_i e;obtain⟨N,h4,h5⟩:=r.live j o2 U;refine⟨N,h4.bw k N (eF _ fun e2=>e (r.inj j id o2 o U I e2)) (fun key b q K=> ⟨K,eF b fun e2=>(r.hid b _ K).2.2 id o I e2.symm⟩),h5⟩
 ·intro i j o1 o2 O U he;rw [Hp.br] at O U;split at O<;>split at U
  ·omega
  ·rename_i e1 _; subst e1; exact r.inj i j o o2 I U he
  ·rename_i _ e1; subst e1; exact r.inj i j o1 o O I he
  ·exact r.inj i j o1 o2 O U he
 ·intro b K;rw [vJ];exact r.oy b K
 ·intro b x K;obtain⟨q1,q2,q3⟩:=r.hid b x K;refine⟨by rw [vJ]; exact q1,q2,fun j o2 U=>?_⟩;rw [Hp.br] at U;split at U
  ·rename_i e;rw [e];exact q3 id o I
  ·exact q3 j o2 U
theorem s9 [bp] {E:En} {H:Hp} {w:World} (r:bq E H w) (id:Nat):ca E H w E (H.drop id) w/\bq E (H.drop id) w:=by
 have hg: ∀j o,(H.drop id).get j=some o->H.get j=some o:=by
  intro j o h
  grind [Hp.gb]
 exact⟨⟨rfl,fun _ h=>h,fun _ _=>rfl,fun _ _=>rfl,fun _ h=>h,fun _ h=> .inl h,ar _,.inr rfl,fun _ h=> .inl h,rfl,rfl,rfl,ar _,fun _ _ _=>rfl,fun j o h _=> ⟨j,o,hg j o h,rfl⟩,rfl⟩,
  ⟨r.fresh,r.res,fun j o h=>r.live j o (hg j o h),fun i j o1 o2 O U he=>r.inj i j o1 o2 (hg _ _ O) (hg _ _ U) he,r.oy,r.jM,fun b x K=> ⟨(r.hid b x K).1,(r.hid b x K).2.1,fun j o h=>(r.hid b x K).2.2 j o (hg j o h)⟩⟩⟩
theorem w8 [bp] {E:En} {H:Hp} {w w':World} (r:bq E H w) {id:Nat} {o:bS} (I:H.get id=some o) (ao:bS) (off c:Nat)
 (vJ:w'.heap.size=w.heap.size) (eF: ∀b,b≠(E.θ id).1->w'.heap[b]?=w.heap[b]?) (al:Alike w w')
 (ho:OR (E.ext H.fresh ((E.θ id).1,(E.θ id).2+off) c) w'.heap H.fresh ao) :
 ca E H w (E.ext H.fresh ((E.θ id).1,(E.θ id).2+off) c) ((H.drop id).new ao) w'/\bq (E.ext H.fresh ((E.θ id).1,(E.θ id).2+off) c) ((H.drop id).new ao) w':=by
 have Dr:(H.drop id).fresh=H.fresh:=rfl;have hf:=sX (s9 r id).2 ((E.θ id).1,(E.θ id).2+off) c ao;rw [Dr] at hf
 have k:c9 E w.heap (E.ext H.fresh ((E.θ id).1,(E.θ id).2+off) c) w'.heap:=
  ⟨rfl,fun _ h=> .inr h,fun _ h=>En.ext_θ E _ _ c (r.ik h),fun _ h=>En.ext_κ E _ _ c (r.ik h),fun _ h=>h,(ed r I eF).pU⟩
 have hg: ∀j o2,((H.drop id).new ao).get j=some o2->(j=H.fresh/\o2=ao)\/(j≠id/\H.get j=some o2):=by
  intro j o2 h
  grind [Hp.cD,Hp.gb]
 refine⟨⟨rfl,k.dm,k.θ,k.κ,k.ro,fun _ h=> .inl h,(iK (H.drop id) ao).1,(iK (H.drop id) ao).2.1,fun j h=>h.elim (fun e=> .inr ((iK (H.drop id) ao).2.2 j e)) .inl,al.os,al.tape,al.output,J,?_,?_,rfl⟩,⟨hf.1,hf.2,?_,?_,?_,bp.bw r.jM k.ro k.pU,?_⟩⟩
 ·intro b _ hn
  grind
 ·intro j o2 U c6;rcases hg j o2 U with ⟨rfl,rfl⟩|⟨_,N⟩
  ·grind [En.ext_θ_new]
  ·have:=(r.live j o2 N).1;exact⟨j,o2,N,by rw [En.ext_θ _ _ _ _ (r.ik this)]⟩
 ·intro j o2 U;rcases hg j o2 U with ⟨rfl,rfl⟩|⟨dV,N⟩
  ·rw [En.ext_θ_new];exact⟨En.cQ _ _ _ _,ho,(r.live id o I).2.2⟩
  ·obtain⟨h4,h5,h6⟩:=r.live j o2 N;refine⟨.inr h4,h5.bw k h4 (eF _ fun e=>dV (r.inj j id o2 o N I e)) (fun key b q K=> ⟨K,eF b fun e2=>(r.hid b _ K).2.2 id o I e2.symm⟩),?_⟩;rw [En.ext_θ _ _ _ _ (r.ik h4)]; exact h6
 ·intro i j o1 o2 O U he;rcases hg i o1 O with ⟨e1,_⟩|⟨e1,N⟩ <;>rcases hg j o2 U with ⟨e2,_⟩|⟨e2,h4⟩
  ·omega
  ·have:=(r.live j o2 h4).1;rw [e1,En.ext_θ_new,En.ext_θ _ _ _ _ (r.ik this)] at he;exact absurd (r.inj id j o o2 I h4 he).symm e2
  ·have:=(r.live i o1 N).1;rw [e2,En.ext_θ_new,En.ext_θ _ _ _ _ (r.ik this)] at he;exact absurd (r.inj i id o1 o N I he) e1
  ·have h5:=(r.live i o1 N).1;have h6:=(r.live j o2 h4).1;rw [En.ext_θ _ _ _ _ (r.ik h5),En.ext_θ _ _ _ _ (r.ik h6)] at he;exact r.inj i j o1 o2 N h4 he
 ·intro b K;rw [vJ];exact r.oy b K
 ·intro b x K;obtain⟨q1,q2,q3⟩:=r.hid b x K;refine⟨by rw [vJ]; exact q1,q2,fun j o2 U=>?_⟩;rcases hg j o2 U with ⟨rfl,rfl⟩|⟨_,N⟩
  ·rw [En.ext_θ_new];exact q3 id o I
  ·rw [En.ext_θ _ _ _ _ (r.ik (r.live j o2 N).1)];exact q3 j o2 N
def tQ:Value->Bool
 | .agg _=>true
 |_=>false
def AR (P:Program):TypeDesc->Option TK
 | .bool=>some .bool
 | .int k=>some (.int k)
 | .string=>some .string
 | .pointer e=>some (.pointer e)
 | .slice e=>some (.slice e)
 | .array n e=>some (.array n e)
 | .map k e=>some (.map k e)
 | .struct fs=>(fs.toList.mapM fun f=>(P.info? f.type).map fun i=>(f.offset,f.type,i.size)).map .struct
 | .func _ _ _=>some .func
 | .interface ms=>some (.iface ms.isEmpty)
 | .tuple _=>some .tuple
 |_=>none
def zh (P:Program) (t:Nat):Bool:=
 match P.underlying t with
 |some (.struct fs)=>!P.stoodInHeld t&&!P.eqGuardType P.depth t&&fs.toList.all fun f=>f.name != "_"&&(match P.underlying f.type with |some .bool|some .string|some (.int _)=>true|_=>false)
 |_=>false
def Gj (i:TypeInfo) (z:Value) (k:TK) (q:Bool):Option TI:=
 match ew z.cells.toList with
 |some zs=>if tQ z=k.agg then some { kind:=k,size:=i.size,bytes:=i.bytes,zero:=zs,eqs:=q } else none
 |none=>none
def CG (P:Program) (t:Nat):Option TI:=
 match P.info? t with
 |none=>none
 |some i=>match P.underlying t with
  |none=>none
  |some d=>match AR P d with
   |none=>none
   |some k=>match i.zero with
    |none=>none
    |some z=>Gj i z k (zh P t)
theorem cj (b o n:Nat):(⟨b,o,none⟩ : Addr).add n=⟨b,o+n,none⟩:=by unfold Addr.add; split<;>simp_all
def tl (P:Program):TypeDesc->TK->Prop
 | .bool,.bool=>True
 | .int k,.int k'=>k=k'
 | .string,.string=>True
 | .pointer e,.pointer e'=>e=e'
 | .slice e,.slice e'=>e=e'
 | .array n e,.array n' e'=>n=n'/\e=e'
 | .map k e,.map k' e'=>k=k'/\e=e'
 | .struct fs,.struct l=>(fs.toList.mapM fun f=>(P.info? f.type).map fun i=>(f.offset,f.type,i.size))=some l
 | .func _ _ _,.func=>True
 | .interface _,.iface _=>True
 | .tuple _,.tuple=>True
 |_,_=>False
structure fg (P:Program) (t:Nat) (i:TI):Prop where
 eqs:i.eqs=true->zh P t=true
 all: ∃inf d z,P.info? t=some inf/\P.underlying t=some d/\inf.zero=some z/\ew z.cells.toList=some i.zero/\inf.size=i.size/\inf.bytes=i.bytes/\tl P d i.kind/\tQ z=i.agg
def bV (P:Program) (tt:TT):Prop:= ∀t i,tt t=some i->fg P t i
theorem CE {P:Program} {d:TypeDesc} {k:TK} (h:AR P d=some k):tl P d k:=by
 cases d
 case struct fs=>
  simp only [AR,az] at h;obtain⟨l,O,rfl⟩:=h;exact O
 all_goals first
  |(simp only [AR,af] at h; subst h; simp [tl]; done)
  |(simp [AR] at h; done)
theorem CF {P:Program} {t:Nat} {i:TI} (h:CG P t=some i):fg P t i:=by
 unfold CG at h;split at h
 ·grind
 ·rename_i inf O;split at h
  ·grind
  ·rename_i d U;split at h
   ·grind
   ·rename_i k R;split at h
    ·grind
    ·rename_i z N;unfold Gj at h;split at h
     ·rename_i zs h4;split at h
      ·rename_i ha;simp only [af] at h;subst h;exact⟨fun hq=>hq,inf,d,z,O,U,N,h4,rfl,rfl,CE R,ha⟩
      grind
     grind
theorem er (s:ByteArray):bG (bytesOf s)=s:=by
 unfold bG bytesOf
 have:(List.map UInt8.ofNat (List.map (fun x=>x.toNat) s.data.toList))=s.data.toList:=by
  rw [aax]
  conv=>rhs; rw [<- List.map_id s.data.toList]
  apply aa4;intro b _;simp
 rw [this]
theorem lQ (s:ByteArray): ∀b∈bytesOf s,b<256:=by intro b K;unfold bytesOf at K;rw [aF] at K;obtain⟨c,_,rfl⟩:=K;exact c.toNat_lt
theorem oD {E:En} {h:Array Obj} {v:Value} {a:Z} (W:cS v=some a):V E h a v/\v.oneCell'=true:=by
 cases v with
 |bool b=>simp [cS] at W; subst W; simp [V,SB.den,Value.oneCell']
 |int k n=>simp [cS] at W; subst W; simp [V,Y.den,Value.oneCell']
 |string s=>simp [cS] at W; subst W; exact⟨by simp only [V]; exact⟨by rw [er],lQ s⟩,rfl⟩
 |pointer a=>cases a<;>simp [cS] at W; subst W; simp [V,Value.oneCell']
 |slice a l c=>
  cases a with
  |some a=>simp [cS] at W
  |none=>
   cases l with
   |succ l=>simp [cS] at W
   |zero=>cases c with
    |succ c=>simp [cS] at W
    |zero=>simp [cS] at W; subst W; simp [V,Value.oneCell']
 |map r=>cases r<;>simp [cS] at W; subst W; simp [V,Value.oneCell']
 |nilFunc=>simp [cS] at W; subst W; simp [V,Value.oneCell']
 |nilIface=>simp [cS] at W; subst W; simp [V,Value.oneCell']
 |func fn f c=>
  simp only [cS] at W;split at W
  ·rename_i M;simp at M W;subst W;obtain⟨rfl,rfl⟩:=M;exact⟨by simp only [V]; exact⟨[],[],rfl,rfl,rfl⟩,rfl⟩
  grind
 |_=>simp [cS] at W
theorem b9 {E:En} {h:Array Obj}: ∀{vs:List Value} {aaa:List Z},ew vs=some aaa->bC E h aaa vs/\∀v∈vs,v.oneCell'=true
 |[],aaa,W=>by simp [ew] at W; subst W; simp [bC]
 |v::vs,aaa,W=>by
  simp only [ew] at W;split at W
  ·grind
  ·rename_i a ha;split at W
   ·grind
   ·rename_i MW has;simp at W;subst W;have O:=oD (E:=E) (h:=h) ha;have U:=b9 (E:=E) (h:=h) has;refine⟨by rw [bt]; exact⟨v,vs,rfl,O.1,U.1⟩,?_⟩;intro u hu
    grind
theorem xd {E:En} {h:Array Obj} {v:Value} {a:Z} (W:ofConst v=some a):V E h a v:=by
 cases v with
 |agg cs=>
  simp only [ofConst,az] at W;obtain⟨l,O,rfl⟩:=W;simp only [V]
  grind [b9]
 |tuple cs=>
  simp only [ofConst,az] at W;obtain⟨l,O,rfl⟩:=W;simp only [V]
  grind [b9]
 |_=>exact (oD (by simpa [ofConst] using W)).1
theorem V.one {E:En} {h:Array Obj} {x:Z} {v:Value} (W:V E h x v) (O:x.one=true):v.oneCell'=true:=by
 cases x with
 |agg cs=>simp [Z.one] at O
 |tuple cs=>simp [Z.one] at O
 |vu i=>simp [Z.one] at O
 |k8 k ks=>simp only [V] at W; rcases W with ⟨⟨x,cap,rfl⟩,_⟩|⟨b,o,n,cap,rfl,_⟩ <;>rfl
 |slice id off len c=>simp only [V] at W; obtain⟨_,a,cap,rfl,_⟩:=W; rfl
 |ro cs n full=>simp only [V] at W; obtain⟨b,o,cap,us,rfl,_⟩:=W; rfl
 |fD cs=>simp only [V] at W; obtain⟨b,o,us,rfl,_⟩:=W; rfl
 |func fn fs cs=>simp only [V] at W; obtain⟨us,ws,rfl,_⟩:=W; rfl
 |iface t x=>simp only [V] at W; obtain⟨u,rfl,_⟩:=W; rfl
 |str s=>simp only [V] at W; rw [W.1]; rfl
 |ptr id off=>simp only [V] at W; rw [W.1]; rfl
 |map id=>simp only [V] at W; rw [W.1]; rfl
 |emp=>simp only [V] at W; obtain⟨x,rfl⟩:=W; rfl
 |cE e t=>simp only [V] at W; exact W.C8
 |dW e=>simp only [V] at W; exact W.C8
 |hK id n t=>simp only [V] at W; obtain⟨_,k,a,cap,_,rfl,_⟩:=W; rfl
 |jN id lo n t=>simp only [V] at W; obtain⟨_,l,k,a,cap,_,_,rfl,_⟩:=W; rfl
 |any=>simp [Z.one] at O
 |lN z t=>simp only [V] at W; obtain⟨⟨x,rfl⟩,_⟩:=W; rfl
 |nk id es i off=>simp only [V] at W; obtain⟨_,k,_,rfl⟩:=W; rfl
 |_=>simp only [V] at W; rw [W]; rfl
theorem bC.iJ {E:En} {h:Array Obj}: ∀{xs:List Z} {us:List Value},bC E h xs us->iy xs=true->∀u∈us,u.oneCell'=true
 |[],us,W,_=>by rw [cZ] at W; subst W; simp
 |x::xs,us,W,O=>by
  rw [bt] at W;obtain⟨u,vs,rfl,U,N⟩:=W;simp [iy] at O;intro y hy;rcases aw.1 hy with rfl|hy
  ·exact U.one O.1
  ·exact N.iJ O.2 y hy
theorem V.cells {E:En} {h:Array Obj} {x:Z} {v:Value} (W:V E h x v) (O:iy x.cells=true):bC E h x.cells v.cells.toList:=by
 cases x with
 |agg cs=> simp only [V] at W;obtain⟨us,rfl,U⟩:=W;simpa [Z.cells,Value.cells] using U
 |_=>
  all_goals
   simp only [Z.cells] at O ⊢;have U:=W.one (by simpa [iy] using O);rw [bt];refine⟨v,[],?_,W,rfl⟩;cases v<;>first |rfl|simp [Value.oneCell'] at U
theorem iH {P:Program} {w:World} {b o n:Nat} {us:List Value} (hn:us.length=n) (h:cz w.heap b o us) :
 (loadCells ⟨b,o,none⟩ n).run P w= .ok us.toArray w:=by
 subst hn;refine run_loadCells_list w _ us fun j v hj=>?_;rw [cj,gj];exact h j v hj
theorem cz.drop {h:Array Obj} {b o:Nat} {us:List Value} (B:cz h b o us) (k:Nat):cz h b (o+k) (us.drop k):=by
 intro i u hu;rw [aaO] at hu;have:=B (k+i) u hu
 grind
theorem cz.take {h:Array Obj} {b o:Nat} {us:List Value} (B:cz h b o us) (k:Nat):cz h b o (us.take k):=by
 intro i u hu;rw [aan] at hu;split at hu
 ·exact B i u hu
 grind
theorem lk {E:En} {h:Array Obj} {id:Nat} {cs:List Z} {e:TypeId} (ho:OR E h id (.cells cs e)) :
 ∃us,bC E h cs us/\cz h (E.θ id).1 (E.θ id).2 us/\∀u∈us,u.oneCell'=true:=by
 obtain⟨arr,lo,hi,us,O,U,N,h4,h5,h6,h7⟩:=ho;refine⟨us,U,fun i u hu=>?_,h7⟩;simp only [eN,O]
 grind
theorem kJ [bp] {E:En} {H:Hp} {w:World} (r:bq E H w) {p:Z} {u:Value} {n:Nat} {l:List Z} (F:V E w.heap p u) (h:fu H p n=some l) :
 ∃b o us,u= .pointer (some ⟨b,o,none⟩)/\us.length=n/\bC E w.heap l us/\cz w.heap b o us/\∀u∈us,u.oneCell'=true:=by
 cases p with
 |ptr id off=>
  simp only [fu] at h;split at h
  ·rename_i cs e I;split at h
   ·rename_i l' hd;obtain⟨us,U,N,h4⟩:=lk (r.live id _ I).2.1;obtain⟨h5,h6,h7⟩:=U.b8 hd;obtain⟨h8,h9⟩:=h5.di h;simp only [V] at F;refine⟨_,_,_,F.1,?_,h8,(N.drop off).take n,fun x M=>h4 x (aS (aT M))⟩;have:=h5.length
    grind
   grind
  grind
 |fD cs=>
  simp only [fu] at h;simp only [V] at F;obtain⟨b,o,us,rfl,_,U,N,h4⟩:=F;obtain⟨h5,h6⟩:=U.di h;refine⟨b,o,_,rfl,?_,h5,N.take n,fun x M=>h4 x (aT M)⟩;have:=U.length
  grind
 |_=>simp [fu] at h
theorem kF {E:En} {h:Array Obj}: ∀{cs:List Z} {o:Nat} {vs eW:List Z} {us ws:List Value},bM cs o vs=some eW->bC E h cs us->bC E h vs ws->
 eW.length=cs.length/\o+vs.length<=cs.length/\∃dh,bC E h eW dh/\∀i,dh[i]?=if o<=i/\i<o+ws.length then ws[i-o]? else us[i]?
 |cs,0,[],eW,us,ws,O,U,N=>by cases cs<;>simp [bM] at O<;>subst O<;>rw [cZ] at N<;>subst N<;>exact⟨rfl,ad,us,U,fun i=>by simp⟩
 |[],0,_::_,eW,us,ws,O,U,N=>by simp [bM] at O
 |c::cs,0,v::vs,eW,us,ws,O,U,N=>by
  simp only [bM] at O;split at O
  ·rename_i l I;simp at O;subst O;rw [bt] at U N;obtain⟨u,dh,rfl,ha,K⟩:=U;obtain⟨x,Mx,rfl,B,hd⟩:=N;obtain⟨e1,e2,AN,e3,e4⟩:=kF I K hd;refine⟨by simp [e1],by simp at e2 ⊢; omega,x::AN,by rw [bt]; exact⟨x,AN,rfl,B,e3⟩,?_⟩;intro i
   grind
  grind
 |[],_+1,vs,eW,us,ws,O,U,N=>by cases vs<;>simp [bM] at O
 |c::cs,o+1,vs,eW,us,ws,O,U,N=>by
  have Cw:(match bM cs o vs with |some l=>some (c::l)|none=>none)=some eW:=by cases vs<;>exact O
  split at Cw
  ·rename_i l I;simp at Cw;subst Cw;rw [bt] at U;obtain⟨u,dh,rfl,ha,K⟩:=U;obtain⟨e1,e2,AN,e3,e4⟩:=kF I K N;refine⟨by simp [e1],by simp; omega,u::AN,by rw [bt]; exact⟨u,AN,rfl,ha,e3⟩,?_⟩;intro i
   grind
  grind
theorem fq {P:Program} (b o:Nat) (e:TypeId) (lo hi:Nat): ∀(vs:List Value) (i:Nat) (arr:Array Value) (w:World),
 w.heap[b]?=some (.cells arr e (lo,hi))->(∀x,lo<=x->x<hi->arr.size<=x)->o+i+vs.length<=arr.size->(∀v∈vs,v.oneCell'=true)->
 ∃w' uV,(storeCells ⟨b,o,none⟩ vs i).run P w= .ok () w'/\Alike w w'/\w'.heap.size=w.heap.size/\(∀j,j≠b->w'.heap[j]?=w.heap[j]?)/\
  w'.heap[b]?=some (.cells uV e (lo,hi))/\uV.size=arr.size/\∀j,uV[j]?=if o+i<=j/\j<o+i+vs.length then vs[j-(o+i)]? else arr[j]?
 |[],i,arr,w,K,_,_,_=> ⟨w,arr,rfl,⟨rfl,rfl,rfl⟩,rfl,fun _ _=>rfl,K,rfl,fun j=>by rw [ah ad]⟩
 |v::vs,i,arr,w,K,hf,I,O=>by
  have xr:o+i<arr.size:=by simp at I; omega
  have eN:w.cell? ⟨b,o+i,none⟩ = some arr[o+i]:=by simp [World.cell?,K,xr]
  have L4:w.frozen? ⟨b,o+i,none⟩ = false:=by
   simp only [World.frozen?,K,Bool.and_eq_false_iff,decide_eq_false_iff_not]
   grind
  have pk:(store ((⟨b,o,none⟩ : Addr).add i) v).run P w= .ok () (w.setCell ⟨b,o+i,none⟩ v):=by
   rw [cj,run_store P w _ v _ (O v ad),eN]
   grind
  have AG:(w.setCell ⟨b,o+i,none⟩ v).heap[b]?=some (.cells (arr.setIfInBounds (o+i) v) e (lo,hi)):=by simp [World.setCell,aa5,K]
  have dc:(w.setCell ⟨b,o+i,none⟩ v).heap.size=w.heap.size:=by simp [World.setCell]
  have LL: ∀j,j≠b->(w.setCell ⟨b,o+i,none⟩ v).heap[j]?=w.heap[j]?:=by
   intro j hj;simp only [World.setCell,aa5]
   grind
  obtain⟨w',uV,e1,e2,e3,e4,e5,e6,e7⟩:=fq (P:=P) b o e lo hi vs (i+1) _ _ AG (by simpa using hf) (by simp at I ⊢; omega) (fun x M=>O x (by simp [M]));refine⟨w',uV,?_,⟨e2.os,e2.tape,e2.output⟩,e3.trans dc,fun j hj=>(e4 j hj).trans (LL j hj),e5,by simpa using e6,?_⟩
  ·simp only [storeCells,Sem.run_bind,pk,Result.andThen_ok];exact e1
  grind
theorem eR [bp] {P:Program} {E:En} {H:Hp} {w:World} (r:bq E H w) {id off:Nat} {cs vs eW:List Z} {e:TypeId} {ws:List Value} (I:H.get id=some (.cells cs e))
 (hs:bM cs off vs=some eW) (W:bC E w.heap vs ws) (O: ∀u∈ws,u.oneCell'=true) :
 ∃w',(storeCells ⟨(E.θ id).1,(E.θ id).2+off,none⟩ ws).run P w= .ok () w'/\ca E H w E (H.put id (.cells eW e)) w'/\bq E (H.put id (.cells eW e)) w':=by
 obtain⟨arr,lo,hi,us,g1,g2,g3,g4,g5,g6,g7⟩:=(r.live id _ I).2.1;obtain⟨s1,s2,dh,s3,s4⟩:=kF hs g2 W;have hlen:=W.length;have MH:=g2.length;obtain⟨w',uV,e1,e2,e3,e4,e5,e6,e7⟩:=fq (P:=P) (E.θ id).1 ((E.θ id).2+off) e lo hi ws 0 arr w g1 g6 J O;refine⟨w',e1,pY r I _ e3 e4 e2 ?_⟩;have k:=ed r I e4;refine⟨uV,lo,hi,dh,e5,bC.bw k _ _ s3,?_,J,by rw [e6]; exact g5,by rw [e6]; exact g6,?_⟩
 ·intro i u hu
  grind
 ·intro u hu;rw [aay] at hu
  grind
def bu (ρ:Nat->Int) (pc:List (SB×Bool)):Prop:= ∀c b,(c,b)∈pc->c.den ρ=b
def SR (E:En) (h:Array Obj) (bj:Tr Z) (a:Act):Prop:= ∀t v,bj.get t=some v->∃u,a.tmps[t]?=some u/\V E h v u
def gD (P:Program) (o:Oper) (a:Act) (w:World) (X!:Value->World->Prop):Prop:=
 ∀(Y':Act->World->Prop) (Q:Exit->Act->World->Prop),(∀u w',X! u w'->Y' (a.put o.dst u) w')->o.wp P a w Y' Q
theorem gD.value {P:Program} {o:Oper} {a:Act} {w w':World} {X!:Value->World->Prop} {u:Value} (h:(execOp a.eval o).run P w= .ok (.value u) w') (hr:X! u w'):gD P o a w X!:=
 fun Y' Q R=>by unfold Oper.wp; rw [h]; exact R u w' hr
theorem gD.skip {P:Program} {o:Oper} {a:Act} {w w':World} {X!:Value->World->Prop} (h:(execOp a.eval o).run P w= .ok .skip w') (hr:X! undef w'):gD P o a w X!:=
 fun Y' Q R=>by unfold Oper.wp; rw [h]; exact R _ w' hr
theorem cH {E:En} {w:World} {s:St} {a:Act} (sr:SR E w.heap s.bj a) {x:Operand} {v:Z} (h:ev s x=some v):V E w.heap v (a.eval x):=by
 cases x with
 |tmp t=> obtain⟨u,O,U⟩:=sr t v h;simp only [Act.eval,aag,O,aI];exact U
 |const c=>exact xd h
 |func f=> simp [ev] at h;subst h;simp only [V,Act.eval];exact⟨[],[],rfl,rfl,rfl⟩
 |global g=>simp [ev] at h
theorem tZ {E:En} {w:World} {s:St} {a:Act} (sr:SR E w.heap s.bj a): ∀{xs:List Operand} {vs:List Z},FJ s xs=some vs->bC E w.heap vs (xs.map a.eval)
 |[],vs,h=>by simp [FJ] at h; subst h; simp [bC]
 |x::xs,vs,h=>by
  simp only [FJ] at h;split at h
  ·grind
  ·rename_i b K;split at h
   ·grind
   ·rename_i bs JX;simp at h;subst h;rw [au,bt];exact⟨_,_,rfl,cH sr K,tZ sr JX⟩
section
variable {P:Program} {t:Nat} {i:TI}
theorem ez (h:fg P t i) (w:World):(isAgg t).run P w= .ok i.agg w:=by obtain⟨inf,d,z,O,U,N,h4,h5,h6,h7,_⟩:=h.all;unfold isAgg;simp only [Sem.run_bind,run_underlying U,Result.andThen_ok];cases d<;>cases R:i.kind<;>simp only [R,tl] at h7<;>simp [TI.agg,TK.agg,R]
theorem bT (h:fg P t i) (w:World):(sizeOf t).run P w= .ok i.size w:=by obtain⟨inf,d,z,O,U,N,h4,h5,h6,h7,_⟩:=h.all;simp [sizeOf,typeInfo,O,h5]
theorem cn (h:fg P t i) {e:Nat} (R:i.kind= .slice e):P.underlying t=some (.slice e):=by obtain⟨inf,d,z,O,U,N,h4,h5,h6,h7,_⟩:=h.all;rw [U];cases d<;>simp [R,tl] at h7;rw [h7]
theorem iB (h:fg P t i) {n e:Nat} (R:i.kind= .array n e):P.underlying t=some (.array n e):=by
 obtain⟨inf,d,z,O,U,N,h4,h5,h6,h7,_⟩:=h.all;rw [U];cases d<;>simp [R,tl] at h7
 grind
theorem iZ (h:fg P t i) {k e:Nat} (R:i.kind= .map k e):P.underlying t=some (.map k e):=by
 obtain⟨inf,d,z,O,U,N,h4,h5,h6,h7,_⟩:=h.all;rw [U];cases d<;>simp [R,tl] at h7
 grind
theorem gz (h:fg P t i) {k:IntKind} (R:i.kind= .int k):P.underlying t=some (.int k):=by obtain⟨inf,d,z,O,U,N,h4,h5,h6,h7,_⟩:=h.all;rw [U];cases d<;>simp [R,tl] at h7;rw [h7]
theorem cx (h:fg P t i) (R:i.kind= .string):P.underlying t=some .string:=by
 obtain⟨inf,d,z,O,U,N,h4,h5,h6,h7,_⟩:=h.all
 grind [tl]
theorem u9 (h:fg P t i) (R:i.kind= .bool):P.underlying t=some .bool:=by
 obtain⟨inf,d,z,O,U,N,h4,h5,h6,h7,_⟩:=h.all
 grind [tl]
theorem iY (h:fg P t i) {l:List (Nat×Nat×Nat)} (R:i.kind= .struct l): ∃fs:Array Field,P.underlying t=some (.struct fs)/\(fs.toList.mapM fun f=>(P.info? f.type).map fun i=>(f.offset,f.type,i.size))=some l:=by
 obtain⟨inf,d,z,O,U,N,h4,h5,h6,h7,_⟩:=h.all;rw [U];cases d<;>simp [R,tl] at h7
 grind
theorem kN (h:fg P t i): ∃inf z,P.info? t=some inf/\inf.size=i.size/\inf.bytes=i.bytes/\inf.zero=some z/\ew z.cells.toList=some i.zero:=by
 obtain⟨inf,d,z,O,U,N,h4,h5,h6,h7,_⟩:=h.all
 grind
end
theorem n7 [bp] {P:Program} {tt:TT} (bx:bV P tt) {E:En} {H:Hp} {w:World} (r:bq E H w) {t:Nat} {p v:Z} {u:Value} (F:V E w.heap p u) (h:n8 tt t p H=some v) :
 ∃x b o,u= .pointer (some ⟨b,o,none⟩)/\(loadVar t ⟨b,o,none⟩).run P w= .ok x w/\V E w.heap v x:=by
 unfold n8 at h;split at h
 ·grind
 ·rename_i i hi;have cN:=bx t i hi;split at h
  ·rename_i xu;rw [az] at h;obtain⟨l,I,rfl⟩:=h;obtain⟨b,o,us,rfl,U,N,h4,_⟩:=kJ r F I;refine⟨.agg us.toArray,b,o,rfl,?_,by simp only [V]; exact⟨us,rfl,N⟩⟩;simp [loadVar,ez cN,xu,bT cN,iH U h4]
  ·rename_i xu;split at h
   ·rename_i v' l I;simp at h;subst h;obtain⟨b,o,us,rfl,U,N,h4,_⟩:=kJ r F I;rw [bt] at N;obtain⟨x,vs,rfl,h5,_⟩:=N;refine⟨x,b,o,rfl,?_,h5⟩;have B:w.cell? ⟨b,o,none⟩ = some x:=by rw [gj]; exact h4 0 x rfl
    simp [loadVar,ez cN,xu,B]
   grind
theorem ef (k:IntKind) (n:Int):iO k n=k.wrap n:=by
 unfold iO;split
 ·split
  ·rename_i h; exact (IntWalk.i64_in n h).symm
  ·rfl
 ·split
  ·rename_i h; exact (IntWalk.u8_in n h).symm
  ·rfl
 ·rfl
theorem zK (ρ:Nat->Int) (k:IntKind) (a b:Y):(A1 k a b).den ρ=k.wrap (a.den ρ+b.den ρ):=by
 unfold A1
 grind [Y.den,ef]
theorem rY (ρ:Nat->Int) (k:IntKind) (a b:Y):(yp k a b).den ρ=k.wrap (a.den ρ-b.den ρ):=by
 unfold yp
 grind [Y.den,ef]
theorem zJ (ρ:Nat->Int) (k:IntKind) (a b:Y):(A0 k a b).den ρ=k.wrap (a.den ρ*b.den ρ):=by
 unfold A0
 grind [Y.den,ef]
theorem bN (ρ:Nat->Int) (a b:Y):(da a b).den ρ=decide (a.den ρ<b.den ρ):=by
 unfold da;split
 ·rfl
 ·simp [SB.den]
theorem A3 (ρ:Nat->Int) (a b:Y):(CQ a b).den ρ=decide (a.den ρ<=b.den ρ):=by
 unfold CQ;split
 ·rfl
 ·simp only [SB.den]
  grind
theorem cW (ρ:Nat->Int) (a b:Y):(im a b).den ρ=(a.den ρ == b.den ρ):=by
 unfold im;split
 ·simp [SB.den,Y.den]
 ·simp only [SB.den,Y.den]
  grind
 grind [bD,SB.den]
theorem fC (ρ:Nat->Int) (s:SB):(k5 s).den ρ=!(s.den ρ):=by
 unfold k5
 grind [SB.den]
theorem eV: ∀(x y:List Nat),dB x y=true↔x=y
 |[],[]=>by simp [dB]
 |[],_::_=>by simp [dB]
 |_::_,[]=>by simp [dB]
 |a::x,b::y=>by
  simp only [dB]
  cases h:a.beq b with
  |true=>have:=aq h; subst this; simp [eV x y]
  |false=>have:=aaP h; simp [this]
theorem hS (s:List Nat):(bG s).toList=s.map UInt8.ofNat:=by simp_all [bG]
theorem ep (s:List Nat):(bG s).size=s.length:=by show (List.map UInt8.ofNat s).toArray.size=_;simp
theorem ofNat_inj {a b:Nat} (ha:a<256) (K:b<256) (h:UInt8.ofNat a=UInt8.ofNat b):a=b:=by have:=congrArg UInt8.toNat h;simpa [aad,bg ha,bg K] using this
theorem map_inj: ∀{x y:List Nat},(∀b∈x,b<256)->(∀b∈y,b<256)->x.map UInt8.ofNat=y.map UInt8.ofNat->x=y
 |[],[],_,_,_=>rfl
 |[],_::_,_,_,h=>by simp at h
 |_::_,[],_,_,h=>by simp at h
 |a::x,b::y,M,hy,h=>by simp only [au,List.cons.injEq] at h;rw [ofNat_inj (M a ad) (hy b ad) h.1,map_inj (fun c B=>M c (by simp [B])) (fun c B=>hy c (by simp [B])) h.2]
theorem yo {x y:List Nat} (M: ∀b∈x,b<256) (hy: ∀b∈y,b<256):((bG x).toList == (bG y).toList)=dB x y:=by
 grind [hS,eV,map_inj]
theorem rV: ∀{x y:List Nat},(∀b∈x,b<256)->(∀b∈y,b<256)->Op.bytesLess (x.map UInt8.ofNat) (y.map UInt8.ofNat)=bytesLess x y
 |[],[],_,_=>by simp [Op.bytesLess,bytesLess]
 |[],_::_,_,_=>by simp [Op.bytesLess,bytesLess]
 |_::_,[],_,_=>by simp [Op.bytesLess,bytesLess]
 |a::x,b::y,M,hy=>by
  have ha:=M a ad;have K:=hy b ad;have ih:=rV (x:=x) (y:=y) (fun c B=>M c (by simp [B])) (fun c B=>hy c (by simp [B]));simp only [au,Op.bytesLess,bytesLess,ih]
  have O:decide (UInt8.ofNat a<UInt8.ofNat b)=a.blt b:=by rw [aX,decide_eq_true_iff,UInt8.lt_iff_toNat_lt,aad,aad,bg ha,bg K];simp_all
  have U:(UInt8.ofNat a == UInt8.ofNat b)=a.beq b:=by rw [aX,beq_iff_eq];exact⟨fun h=>by rw [ofNat_inj ha K h]; simp,fun h=>by rw [aq h]⟩
  grind
theorem vb {P:Program} {E:En} {w:World} {op:BinOp} {x y:List Nat} {v:Z} (M: ∀b∈x,b<256) (hy: ∀b∈y,b<256) (h:vc op x y=some v) :
 ∃u,(Op.stringOp op (bG x) (bG y)).run P w= .ok u w/\V E w.heap v u:=by
 have he:=yo M hy;have I:Op.bytesLess (bG x).toList (bG y).toList=bytesLess x y:=by rw [hS,hS]; exact rV M hy
 unfold vc at h;cases op<;>simp only [af,reduceCtorEq] at h
 case add=>
  split at h
  ·rename_i hh;simp at h;subst h;have hm:IntKind.i64.max=9223372036854775807:=ae
   refine⟨.string (bG x++bG y),?_,?_⟩
   ·simp only [Op.stringOp,ep,hm];rw [ah J];rfl
   ·simp only [V];refine⟨?_,?_⟩
    ·congr 1;apply ByteArray.ext;simp [bG]
    ·intro b K;rcases aZ.1 K with K|K
     ·exact M b K
     ·exact hy b K
  ·simp at h
 all_goals
  subst h;exact⟨_,rfl,by simp only [V,SB.den,he,I]⟩
theorem dz {ρ:Nat->Int} {c:SB} {b:Bool}: ∀{pc:List (SB×Bool)},bu ρ pc->fF c pc=some b->c.den ρ=b
 |[],_,h=>by simp [fF] at h
 |(d,x)::l,F,h=>by
  simp only [fF] at h;split at h
  ·rename_i he;have he:=iE _ _ he;simp at h;subst he h;exact F _ _ ad
  ·exact dz (fun c b hm=>F c b (by simp [hm])) h
def iz (lo hi:Option Int) (x:Int):Prop:=(∀l,lo=some l->l<=x)/\∀h,hi=some h->x<=h
theorem tI {lo:Option Int} {z x:Int} (h: ∀l,lo=some l->l<=x) (hz:z<=x): ∀l,Bl lo z=some l->l<=x:=by
 intro l I;unfold Bl at I
 grind
theorem tG {hi:Option Int} {z x:Int} (h: ∀l,hi=some l->x<=l) (hz:x<=z): ∀l,Bk hi z=some l->x<=l:=by
 intro l I;unfold Bk at I
 grind
theorem Be {lo:Option Int} {z x:Int} (h: ∀l,lo=some l->l<=x) (hz:x≠z): ∀l,Bf lo z=some l->l<=x:=by
 intro l I;unfold Bf at I
 grind
theorem Bg {hi:Option Int} {z x:Int} (h: ∀l,hi=some l->x<=l) (hz:x≠z): ∀l,Bh hi z=some l->x<=l:=by
 intro l I;unfold Bh at I
 grind
theorem ib {ρ:Nat->Int} {x y:Y} {v:Bool} (h:(SB.lt x y).den ρ=v):(x.den ρ<y.den ρ)↔v=true:=by subst h; simp [SB.den]
theorem zi {ρ:Nat->Int} {x y:Y} {v:Bool} (h:(SB.eq x y).den ρ=v):(x.den ρ=y.den ρ)↔v=true:=by subst h; simp [SB.den]
theorem Cl {ρ:Nat->Int} (e:Y):iz (zx e).1 (zx e).2 (e.den ρ):=by
 have h0:iz none none (e.den ρ):=⟨ad,ad⟩;unfold zx;split
 ·split
  ·split
   ·split
    ·split
     ·split
      ·split
       ·rename_i k m x n hn;obtain⟨hn,rfl,rfl⟩:=hn;simp only [Y.den];have O:=aa6 (m.den ρ) (b:=n) J
        have U: -n<(m.den ρ).tmod n:=by have O:=aa6 (-(m.den ρ)) (b:=n) J;rw [Int.neg_tmod] at O;omega
        have N:=Int.tmod_nonneg n (a:=(m.den ρ).tmod n+n) J;have h4:=aa6 ((m.den ρ).tmod n+n) (b:=n) J;constructor<;>intro l I<;>simp at I<;>omega
       grind
      grind
     grind
    grind
   grind
  grind
 ·rename_i o a b
  cases o with
  |len=> refine⟨fun l I=>?_,ad⟩;simp only [af] at I;subst I;simp only [Y.den,c8.den];omega
  |_=>exact h0
 grind
theorem eX {ρ:Nat->Int} {e:Y}: ∀{pc:List (SB×Bool)},bu ρ pc->iz (bounds e pc).1 (bounds e pc).2 (e.den ρ)
 |[],_=>Cl e
 |(c,v)::l,F=>by
  have ih:=eX (e:=e) (pc:=l) (fun c b hm=>F c b (by simp [hm]));have B:=F c v ad;unfold bounds;split
  ·have B:=ib B;split
   ·split
    ·exact ih
    ·rename_i he;have he:=bD _ _ he;subst he;revert ih;split;rename_i lo hi K;rw [K];intro ih;simp only [Y.den] at B;cases v
     ·exact⟨ih.1,tG ih.2 (by simp at B; omega)⟩
     ·exact⟨tI ih.1 (by simp at B; omega),ih.2⟩
   ·split
    ·split
     ·exact ih
     ·rename_i he;have he:=bD _ _ he;subst he;revert ih;split;rename_i lo hi K;rw [K];intro ih;simp only [Y.den] at B;cases v
      ·exact⟨tI ih.1 (by simp at B; omega),ih.2⟩
      ·exact⟨ih.1,tG ih.2 (by simp at B; omega)⟩
    grind
  ·split
   ·split
    ·split
     ·exact ih
     ·rename_i he;have he:=bD _ _ he;subst he;revert ih;split;rename_i lo hi K;rw [K];intro ih;simp only [SB.den,Y.den,beq_eq_false_iff_ne] at B;exact⟨Be ih.1 B,Bg ih.2 B⟩
    ·split
     ·exact ih
     ·rename_i he;have he:=bD _ _ he;subst he;simp only [SB.den,Y.den,beq_iff_eq] at B;exact⟨fun l I=>by simp at I; omega,fun l I=>by simp at I; omega⟩
   grind
  grind
theorem lp {ρ:Nat->Int} {e:Y} {pc:List (SB×Bool)} (F:bu ρ pc):iz (gC e pc).1 (gC e pc).2 (e.den ρ):=by
 have h0:=eX (e:=e) F;unfold gC;split
 ·split
  ·split
   ·split
    ·rename_i b _ c;have K:=eX (e:=b) F;split
     ·rename_i lo hi wQ;rw [wQ] at K;have b1:=K.1 lo rfl;have b2:=K.2 hi rfl;split
      ·rename_i hr;revert h0;split;rename_i l2 U L8;rw [L8];intro h0
       have hw:(Y.wrap .i64 (.add b (.lit c))).den ρ=b.den ρ+c:=by
        simp only [Y.den];rw [<- ef];simp only [iO]
        grind
       exact⟨tI h0.1 (by rw [hw]; omega),tG h0.2 (by rw [hw]; omega)⟩
      grind
     grind
    grind
   grind
  grind
 grind
theorem qn {ρ:Nat->Int} {pc:List (SB×Bool)} (F:bu ρ pc) {a b:Y} {v:Bool} (h:yI a b pc=some v):a.den ρ=b.den ρ↔v=true:=by
 unfold yI at h;split at h
 ·rename_i O;simp at h;subst h;exact zi (dz F O)
 ·rw [<- zi (dz F h)]
  grind
theorem B1 {ρ:Nat->Int} {pc:List (SB×Bool)} (F:bu ρ pc) {a b:Y} {v:Bool} (h:decLt pc a b=some v):a.den ρ<b.den ρ↔v=true:=by
 unfold decLt at h;split at h
 ·rename_i O;simp at h;subst h;exact ib (dz F O)
 ·split at h
  ·have K:=lp (e:=b) F;have hz: ∀z,(Y.lit z).den ρ=z:=fun _=>rfl;simp only [hz] at *;generalize wQ:gC _ pc=p at h K;obtain⟨lo,hi⟩:=p;simp only [iz] at h K
   grind
  ·split at h
   ·have K:=lp (e:=a) F;have hz: ∀z,(Y.lit z).den ρ=z:=fun _=>rfl;simp only [hz] at *;generalize wQ:gC _ pc=p at h K;obtain⟨lo,hi⟩:=p;simp only [iz] at h K
    grind
   ·split at h
    ·rename_i O;have O:=qn F O
     grind
    ·rename_i O;have O:=qn F O;simp at O;split at h
     ·rename_i U;have U:=ib (dz F U)
      grind
     grind
    ·split at h
     ·rename_i U;have U:=ib (dz F U)
      grind
     grind
theorem B2 {ρ:Nat->Int} {pc:List (SB×Bool)} (F:bu ρ pc) {a b:Y} {v:Bool} (h:decEq pc a b=some v):a.den ρ=b.den ρ↔v=true:=by
 unfold decEq at h;split at h
 ·rename_i O;simp at h;subst h;exact qn F O
 ·split at h
  ·have K:=lp (e:=a) F;have hz: ∀z,(Y.lit z).den ρ=z:=fun _=>rfl;simp only [hz] at *;generalize wQ:gC _ pc=p at h K;obtain⟨lo,hi⟩:=p;simp only [iz] at h K
   grind
  ·split at h
   ·rename_i U;have U:=ib (dz F U)
    grind
   ·rename_i U;have U:=ib (dz F U);simp at U;split at h
    ·rename_i N;have N:=ib (dz F N)
     grind
    grind
   ·split at h
    ·rename_i U;have U:=ib (dz F U)
     grind
    grind
theorem eo {ρ:Nat->Int}: ∀{e:Y} {x:Sum Int D},dO e=some x->e.den ρ=(match x with | .inl n=>n| .inr d=>enc d)
 | .lit n,x,h=>by simp only [dO,af] at h; subst h; rfl
 | .cE d,x,h=>by simp only [dO,af] at h; subst h; rfl
 | .op o a b,x,h=>by
   have ha:=fun y=>eo (ρ:=ρ) (e:=a) (x:=y);have K:=fun y=>eo (ρ:=ρ) (e:=b) (x:=y);simp only [dO] at h;split at h
   ·split at h
    ·rename_i d hd;simp only [af] at h; subst h;simp only [Y.den,c8.den,ha _ hd,bn]
    ·simp at h
   ·split at h
    ·rename_i d hd;simp only [af] at h; subst h;simp only [Y.den,c8.den,ha _ hd]
    ·simp at h
   ·split at h
    ·rename_i u v hu W;simp only [af] at h; subst h;simp only [Y.den,c8.den,ha _ hu,K _ W,bn]
    ·simp at h
   ·split at h
    ·rename_i u v hu W;simp only [af] at h; subst h;simp only [Y.den,c8.den,ha _ hu,K _ W,bn]
    ·simp at h
   ·split at h
    ·rename_i u k v hu W;simp only [af] at h; subst h;simp only [Y.den,c8.den,ha _ hu,K _ W,bn]
    ·simp at h
   ·split at h
    ·rename_i u v hu W;simp only [af] at h; subst h;simp only [Y.den,c8.den,ha _ hu,K _ W,bn]
    ·simp at h
   ·split at h
    ·rename_i u v hu W;simp only [af] at h; subst h;simp only [Y.den,c8.den,ha _ hu,K _ W,bn]
    ·simp at h
   ·split at h
    ·rename_i d hd;simp only [af] at h; subst h;simp only [Y.den,c8.den,ha _ hd,bn]
    ·simp at h
   ·simp at h
 | .pE _,x,h=>by simp [dO] at h
 | .add _ _,x,h=>by simp [dO] at h
 | .sub _ _,x,h=>by simp [dO] at h
 | .mul a b,x,h=>by
   have ha:=fun y=>eo (ρ:=ρ) (e:=a) (x:=y);have K:=fun y=>eo (ρ:=ρ) (e:=b) (x:=y);simp only [dO] at h;split at h
   ·rename_i u v hu W;simp only [af] at h; subst h;simp only [Y.den,ha _ hu,K _ W]
   ·simp at h
 | .quo a b,x,h=>by
   have ha:=fun y=>eo (ρ:=ρ) (e:=a) (x:=y);have K:=fun y=>eo (ρ:=ρ) (e:=b) (x:=y);simp only [dO] at h;split at h
   ·rename_i u v hu W;simp only [af] at h; subst h;simp only [Y.den,ha _ hu,K _ W]
   ·simp at h
 | .rem a b,x,h=>by
   have ha:=fun y=>eo (ρ:=ρ) (e:=a) (x:=y);have K:=fun y=>eo (ρ:=ρ) (e:=b) (x:=y);simp only [dO] at h;split at h
   ·rename_i u v hu W;simp only [af] at h; subst h;simp only [Y.den,ha _ hu,K _ W]
   ·simp at h
 | .wrap k a,x,h=>by
   have ha:=fun y=>eo (ρ:=ρ) (e:=a) (x:=y);simp only [dO] at h;split at h
   ·rename_i u hu;simp only [af] at h; subst h;simp only [Y.den,ha _ hu,ef]
   ·simp at h
 | .k8 _ _,x,h=>by simp [dO] at h
 | .ap _ _,x,h=>by simp [dO] at h
theorem ri {ρ:Nat->Int} {pc:List (SB×Bool)} (F:bu ρ pc) {c:SB} {b:Bool} (h:pA pc c=some b):c.den ρ=b:=by
 unfold pA at h;split at h
 ·simp at h; simp [SB.den,h]
 ·split at h
  ·rename_i x y M hy;simp only [af] at h; subst h;simp only [SB.den,eo (ρ:=ρ) M,eo (ρ:=ρ) hy]
  ·have:=B1 F h;simp only [SB.den]
   grind
 ·split at h
  ·rename_i x y M hy;simp only [af] at h; subst h;simp only [SB.den,eo (ρ:=ρ) M,eo (ρ:=ρ) hy]
   grind
  ·have:=B2 F h;simp only [SB.den]
   grind
 ·exact dz F h
theorem cR {ρ:Nat->Int} {pc:List (SB×Bool)} (F:bu ρ pc) {c:SB} {b:Bool} (h:dS pc c=some b):c.den ρ=b:=by
 unfold dS at h;split at h
 ·rw [az] at h;obtain⟨x,O,rfl⟩:=h;simp only [SB.den,ri F O]
 ·exact ri F h
section
variable {P:Program} {E:En} {w:World}
theorem Bu {op:BinOp} {t:Nat} {k k':IntKind} {a b:Y} {v:Z} (R:op= .shr\/k=k') (h:yW op k a b=some v) :
 ∃u,(binOp op t (.int k (a.den E.ρ)) (.int k' (b.den E.ρ))).run P w= .ok u w/\V E w.heap v u:=by
 unfold yW at h;cases op<;>simp only [af,reduceCtorEq] at h
 case add=>obtain rfl:k=k':=by simpa using R
           subst h; exact⟨_,by simp [binOp,Op.intArith]; rfl,by simp only [V,zK]⟩
 case sub=>obtain rfl:k=k':=by simpa using R
           subst h; exact⟨_,by simp [binOp,Op.intArith]; rfl,by simp only [V,rY]⟩
 case mul=>obtain rfl:k=k':=by simpa using R
           subst h; exact⟨_,by simp [binOp,Op.intArith]; rfl,by simp only [V,zJ]⟩
 case quo=>
  obtain rfl:k=k':=by simpa using R
  split at h
  ·split at h
   ·simp at h
   ·rename_i hy;simp at h;subst h;exact⟨_,by simp [binOp,Op.intDiv,Y.den,hy]; rfl,by simp only [V,Y.den,ef]⟩
  ·split at h
   ·simp at h
   ·rename_i hy;simp at h;subst h;exact⟨_,by simp [binOp,Op.intDiv,Y.den,hy]; rfl,by simp only [V,Y.den]⟩
  ·simp at h
 case rem=>
  obtain rfl:k=k':=by simpa using R
  split at h
  ·split at h
   ·simp at h
   ·rename_i hy;simp at h;subst h;exact⟨_,by simp [binOp,Op.intDiv,Y.den,hy]; rfl,by simp only [V,Y.den]⟩
  ·split at h
   ·simp at h
   ·rename_i hy;simp at h;subst h;exact⟨_,by simp [binOp,Op.intDiv,Y.den,hy]; rfl,by simp only [V,Y.den]⟩
  ·simp at h
 case shr=>
  split at h
  ·split at h
   ·simp at h
   ·rename_i hy;simp at h;subst h;exact⟨_,by simp [binOp,Op.shift,Y.den,hy]; rfl,by simp only [V,Y.den]⟩
  ·simp at h
 all_goals
  obtain rfl:k=k':=by simpa using R
  subst h;refine⟨_,by simp [binOp,Op.intCmp]; rfl,?_⟩;simp only [V,cW,fC,bN,A3]
  first |rfl|(congr 1; simp [bne]; done)|(congr 1; rw [aX]; simp; done)|skip
theorem kx {op:BinOp} {t:Nat} {x y:Operand} {a b:Value} (O: ∀cs ds,¬(a= .agg cs/\b= .agg ds)) (U: ¬(a= .nilIface/\b= .nilIface)) :
 (eqGuard op t x y a b).run P w= .ok () w:=by
 cases op
 case eql=>
  cases a<;>first
   |(cases b<;>first |(exact absurd ⟨rfl,rfl⟩ (O _ _))|(exact absurd ⟨rfl,rfl⟩ U)|rfl)
   |rfl
 case neq=>
  cases a<;>first
   |(cases b<;>first |(exact absurd ⟨rfl,rfl⟩ (O _ _))|(exact absurd ⟨rfl,rfl⟩ U)|rfl)
   |rfl
 all_goals rfl
theorem oR {ρ:Nat->Int} {a b c:SB} (h:py a b=some c):c.den ρ=(a.den ρ == b.den ρ):=by
 unfold py at h;split at h<;>simp only [af,reduceCtorEq] at h<;>subst h
 ·simp [SB.den]
 ·grind [SB.den,fC]
 ·grind [SB.den,fC]
 ·simp only [SB.den];cases a.den ρ<;>cases b.den ρ<;>rfl
theorem ma {d:TypeDesc} {t:Nat} (h:P.underlying t=some d) (w:World):(underlying t).run P w= .ok d w:=run_underlying h w
theorem iM {i:TI} {t:Nat} (h:fg P t i): ∃d,P.underlying t=some d/\tl P d i.kind:=by
 obtain⟨inf,d,z,O,U,N,h4,h5,h6,h7,_⟩:=h.all
 grind
theorem zg {i:TI} {t:Nat} (ht:fg P t i) {x y:Z} {u u':Value} (M:V E w.heap x u) (hy:V E w.heap y u') {c:SB} (h:FN i.kind x y=some c) :
 (Op.equal t u u').run P w= .ok (c.den E.ρ) w/\(∀cs ds,¬(u= .agg cs/\u'= .agg ds))/\¬(u= .nilIface/\u'= .nilIface)/\(∀k n,u≠.int k n)/\(∀s,u≠.string s)/\(∀k n,u≠.float k n)/\(∀k n m,u≠.complex k n m):=by
 obtain⟨d,O,U⟩:=iM ht;have hm: ∀a b,Op.equal t a b=Op.equalIn (9999+1) t a b:=fun _ _=>rfl;rw [hm];clear hm;generalize (9999:Nat)=n;unfold FN at h;split at h
 ·rename_i R;rw [R] at U;cases d<;>simp only [tl] at U;split at h
  ·simp only [V] at M hy;subst M hy;refine⟨?_,ad,ad,ad,ad,ad,ad⟩;rw [oR h];simp [Op.equalIn,ma O]
  grind
 ·rename_i k R;cases j7:i.kind<;>rw [j7] at h U<;>simp only [isNil,reduceCtorEq] at h
  case pointer e=>
   cases d<;>simp only [tl] at U;cases x<;>simp only [reduceCtorEq] at h<;>cases y<;>simp only [reduceCtorEq,af] at h<;>subst h<;>simp only [V] at M hy
   all_goals
    first |(obtain⟨b,o,us,rfl,_⟩:=M)|(obtain⟨rfl,_⟩:=M)|subst M
    first |(obtain⟨b',o',dh,rfl,_⟩:=hy)|(obtain⟨rfl,_⟩:=hy)|subst hy
    exact⟨by simp [Op.equalIn,ma O,SB.den],ad,ad,ad,ad,ad,ad⟩
  case slice e=>
   cases d<;>simp only [tl] at U;cases x<;>simp only [reduceCtorEq] at h<;>cases y<;>simp only [reduceCtorEq,af] at h<;>subst h<;>simp only [V] at M hy
   all_goals
    first |(obtain⟨b,o,cap,us,rfl,_⟩:=M)|(obtain⟨_,b,cap,rfl,_⟩:=M)|(obtain⟨_,k,b,cap,_,rfl,_⟩:=M)|subst M
    first |(obtain⟨b',o',hC,dh,rfl,_⟩:=hy)|(obtain⟨_,b',hC,rfl,_⟩:=hy)|(obtain⟨_,k',b',hC,_,rfl,_⟩:=hy)|subst hy
    exact⟨by simp [Op.equalIn,ma O,SB.den],ad,ad,ad,ad,ad,ad⟩
  case map k' e=>
   cases d<;>simp only [tl] at U;cases x<;>simp only [reduceCtorEq] at h<;>cases y<;>simp only [reduceCtorEq,af] at h<;>subst h<;>simp only [V] at M hy
   all_goals
    first |(obtain⟨rfl,_⟩:=M)|subst M
    first |(obtain⟨rfl,_⟩:=hy)|subst hy
    exact⟨by simp [Op.equalIn,ma O,SB.den],ad,ad,ad,ad,ad,ad⟩
theorem binOp_eql {t:Nat} {u u':Value} {b:Bool} (h:(Op.equal t u u').run P w= .ok b w) (O: ∀k n,u≠.int k n) (U: ∀s,u≠.string s) (N: ∀k n,u≠.float k n) (h4: ∀k n m,u≠.complex k n m) :
 (binOp .eql t u u').run P w= .ok (.bool b) w/\(binOp .neq t u u').run P w= .ok (.bool (!b)) w:=by
 cases u<;>first
  |exact absurd rfl (O _ _)
  |exact absurd rfl (U _)
  |exact absurd rfl (N _ _)
  |exact absurd rfl (h4 _ _ _)
  |(constructor<;>(cases u'<;>simp [binOp,h]))
theorem eZ (ρ:Nat->Int) (a b:Y):(hY a b).den ρ=(a.den ρ == b.den ρ):=by
 unfold hY;split
 ·rename_i h
  grind [bD,SB.den]
 ·split
  ·simp only [SB.den]
   grind
  ·simp only [SB.den]
theorem gL (ρ:Nat->Int) (x:Y):(fk x).den ρ=enc (dec (x.den ρ)):=by
 unfold fk;split
 ·simp only [Y.den,bn]
 ·split
  ·simp only [Y.den,c8.den,bn]
  ·simp only [Y.den,c8.den,bn]
  ·simp only [Y.den,c8.den]
 ·simp only [Y.den,c8.den]
theorem pK {E:En} {h:Array Obj} {x:Z} {u:Value} {e:Y} (M:V E h x u) (hs:jI x=some e): ∃s,u= .string s/\dec (e.den E.ρ)=lP s:=by
 unfold jI at hs;split at hs
 ·simp only [af] at hs;subst hs;simp only [V] at M;obtain⟨rfl,K⟩:=M;refine⟨_,rfl,?_⟩;simp only [Y.den,bn]
  grind [mV,lP,bG]
 ·simp only [af] at hs;subst hs;simp only [V] at M;generalize dec (Y.den E.ρ _)=d at M ⊢
  cases M with
  |str s=>exact⟨s,rfl,rfl⟩
 grind
theorem pL {E:En} {h:Array Obj} {x y:Z} {u v:Value} {c:SB} (M:V E h x u) (hy:V E h y v) (hs:ot x y=some c): ∃a b:ByteArray,u= .string a/\v= .string b/\c.den E.ρ=decide (a=b):=by
 unfold ot at hs;split at hs
 ·grind
 ·rename_i e he;split at hs
  ·grind
  ·rename_i f hf;simp only [af] at hs;subst hs;obtain⟨a,rfl,ha⟩:=pK M he;obtain⟨b,rfl,K⟩:=pK hy hf;refine⟨a,b,rfl,rfl,?_⟩
   grind [eZ,gL,rj,gA]
theorem lq (a b:ByteArray):(a.toList == b.toList)=decide (a=b):=by
 rw [aX,beq_iff_eq,decide_eq_true_eq];constructor
 ·intro h;rw [<- er a,<- er b]
  have e: ∀x:ByteArray,x.toList=x.data.toList:=by
   intro x;have:=hS (bytesOf x);rw [er] at this;rw [this]
   have e2:(UInt8.ofNat ∘ fun b:UInt8=>b.toNat)=id:=by funext b;simp
   simp_all [bytesOf,e2]
  grind [bytesOf]
 grind
theorem rU {E:En} {op:BinOp} {x y v:Z} {u u':Value} {t:Nat} (M:V E w.heap x u) (hy:V E w.heap y u') (h:tv op (ot x y)=some v) :
 (∃r,(binOp op t u u').run P w= .ok r w/\V E w.heap v r)/\(∀cs ds,¬(u= .agg cs/\u'= .agg ds))/\¬(u= .nilIface/\u'= .nilIface):=by
 unfold tv at h;split at h
 ·grind
 ·rename_i c B;obtain⟨a,b,rfl,rfl,hd⟩:=pL M hy B;refine⟨?_,ad,ad⟩;split at h
  ·simp only [af] at h;subst h;refine⟨.bool (decide (a=b)),?_,by simp only [V,hd]⟩;rw [<- lq];rfl
  ·simp only [af] at h;subst h;refine⟨.bool (!decide (a=b)),?_,by simp only [V,SB.den,hd]⟩;rw [<- lq];rfl
  grind
theorem BT {tt:TT} (bx:bV P tt) {t:Nat} {op:BinOp} {x y v:Z} {u u':Value} (M:V E w.heap x u) (hy:V E w.heap y u') (h:BU tt t op x y=some v) :
 (∃r,(binOp op t u u').run P w= .ok r w/\V E w.heap v r)/\(∀cs ds,¬(u= .agg cs/\u'= .agg ds))/\¬(u= .nilIface/\u'= .nilIface):=by
 unfold BU at h;split at h
 ·split at h
  ·simp only [V] at M hy;subst M hy;refine⟨?_,ad,ad⟩;split at h
   all_goals simp_all [Bu]
  grind
 ·split at h
  ·simp only [V] at M hy;obtain⟨rfl,M⟩:=M;obtain⟨rfl,hy⟩:=hy;refine⟨?_,ad,ad⟩;obtain⟨r,O,U⟩:=vb (P:=P) (E:=E) (w:=w) M hy h;refine⟨r,?_,U⟩;cases op<;>first |(simp [vc] at h; done)|(simpa [binOp] using O)
  ·exact rU M hy h
  grind
 ·exact rU M hy h
 ·split at h
  ·grind
  ·rename_i i hi;split at h
   ·rename_i c B;simp at h;subst h;obtain⟨e1,e2,e3,e4,e5,e6,e7⟩:=zg (w:=w) (bx t i hi) M hy B;exact⟨⟨_,(binOp_eql e1 e4 e5 e6 e7).1,by simp only [V]⟩,e2,e3⟩
   ·rename_i c B;simp at h;subst h;obtain⟨e1,e2,e3,e4,e5,e6,e7⟩:=zg (w:=w) (bx t i hi) M hy B;exact⟨⟨_,(binOp_eql e1 e4 e5 e6 e7).2,by simp only [V,fC]⟩,e2,e3⟩
   grind
theorem Dy {op:UnOp} {x v:Z} {u:Value} (M:V E w.heap x u) (h:FL op x=some v): ∃r,(Op.unary op u).run P w= .ok r w/\V E w.heap v r:=by
 unfold FL at h;split at h
 ·simp at h; subst h;simp only [V] at M; subst M;exact⟨_,rfl,by simp only [V,fC]⟩
 ·simp at h; subst h;simp only [V] at M; subst M;exact⟨_,rfl,by simp only [V,rY,Y.den]⟩
 grind
end
section
variable {P:Program} {E:En} {w:World}
theorem du [bp] {H:Hp} {w':World} (r:bq E H w) {cs:List Z} {us:List Value} (arr:Array Value) (lo hi:Nat) (e:TypeId) (W:bC E w.heap cs us) (O: ∀u∈us,u.oneCell'=true)
 (ha: ∀(i:Nat) (u:Value),us[i]?=some u->arr[i]?=some u) (hf: ∀o:Nat,lo<=o->o<hi->arr.size<=o) (hw:w'.heap=w.heap.push (.cells arr e (lo,hi))) (al:Alike w w') :
 ca E H w (E.ext H.fresh (w.heap.size,0) arr.size) (H.new (.cells cs e)) w'/\bq (E.ext H.fresh (w.heap.size,0) arr.size) (H.new (.cells cs e)) w':=by
 refine gT r _ _ _ hw al ?_;have k:=qv r (w.heap.size,0) arr.size (.cells arr e (lo,hi));rw [<- hw] at k;have hlen:=W.length;simp only [OR,En.ext_θ_new,En.ext_κ_new];refine⟨arr,lo,hi,us,by rw [hw]; simp,bC.bw k _ _ W,fun i u hu=>by rw [ax]; exact ha i u hu,?_,J,hf,O⟩;rw [<- hlen];rcases aG arr.size us.length with hh|hh
 ·have:=ha arr.size us[arr.size] (by simp [hh])
  grind
 grind
theorem me [bp] {H:Hp} (_:bq E H w) (c:Nat) (h:Array Obj) (off:Nat):V (E.ext H.fresh (w.heap.size,0) c) h (.ptr H.fresh off) (.pointer (some ⟨w.heap.size,off,none⟩)):=by
 simp only [V,En.ext_θ_new]
 grind [En.cQ]
theorem xE [bp] {tt:TT} (bx:bV P tt) {H H':Hp} (r:bq E H w) {t:Nat} {p v:Z} {u x:Value} (F:V E w.heap p u) (M:V E w.heap v x) (h:ue tt t p v H=some H') :
 ∃w',(Instr.storeAt t u x).run P w= .ok () w'/\ca E H w E H' w'/\bq E H' w':=by
 unfold ue at h;split at h
 ·grind
 ·rename_i i hi;split at h
  ·rename_i B;simp only [an,decide_eq_true_eq] at B;split at h
   ·split at h
    ·rename_i id off cs e I;split at h
     ·rename_i eW hs;simp at h;subst h;simp only [V] at F;obtain⟨rfl,_⟩:=F;have wP:=M.cells B.2;have hlen:x.cells.size=i.size:=by have:=wP.length; simp only [aC] at this; omega
      obtain⟨w',O,U,N⟩:=eR (P:=P) r I hs wP (wP.iJ B.2);refine⟨w',?_,U,N⟩;simp [Instr.storeAt,Instr.sureAddr,storeVar,bT (bx t i hi),hlen,O]
     grind
    grind
   grind
  grind
theorem sP: ∀(vs:List Value) (off k:Nat) (arr:Array Value),off+k+vs.length<=arr.size->
 ((vs.zipIdx k).foldl (fun cs p=>cs.setIfInBounds (off+p.2) p.1) arr).size=arr.size/\
 ∀i,((vs.zipIdx k).foldl (fun cs p=>cs.setIfInBounds (off+p.2) p.1) arr)[i]?=if off+k<=i/\i<off+k+vs.length then vs[i-(off+k)]? else arr[i]?
 |[],off,k,arr,_=> ⟨rfl,fun i=>by rw [ah ad]; rfl⟩
 |v::vs,off,k,arr,h=>by
  simp only [List.zipIdx_cons,List.foldl_cons];obtain⟨O,U⟩:=sP vs off (k+1) (arr.setIfInBounds (off+k) v) (by simp at h ⊢; omega)
  grind
def jG (E:En) (h:Array Obj):List (Nat×Z)->List (Nat×Value)->Prop
 |[],ps=>ps= []
 |(i,v)::xs,ps=> ∃x r,ps=(i,x)::r/\V E h v x/\jG E h xs r
theorem gV {place:Nat->Option (Nat×Nat)} {h:Array Obj}: ∀{parts:List (Nat×Z)} {cs eW:List Z} {us:Array Value} {ps:List (Nat×Value)},
 jq place cs parts=some eW->bC E h cs us.toList->jG E h parts ps->(∀u∈us.toList,u.oneCell'=true)->
 ∃dh:Array Value,Instr.fill place us ps=some dh/\bC E h eW dh.toList/\∀u∈dh.toList,u.oneCell'=true
 |[],cs,eW,us,ps,O,U,N,h4=>by simp only [jG] at N;subst N;simp [jq] at O;subst O;exact⟨us,rfl,U,h4⟩
 |(i,v)::parts,cs,eW,us,ps,O,U,N,h4=>by
  simp only [jG] at N;obtain⟨x,MA,rfl,M,K⟩:=N;simp only [jq] at O;split at O
  ·simp at O
  ·rename_i off size F;split at O
   ·rename_i B;simp only [an,decide_eq_true_eq] at B;split at O
    ·rename_i Mt hs;have wP:=M.cells B.2;have hlen:=wP.length;simp only [aC] at hlen;obtain⟨e1,e2,dh,e3,e4⟩:=kF hs U wP;have KD:=U.length;simp only [aC] at KD;have HM:=sP x.cells.toList off 0 us (by simp; omega)
     have heq:(x.cells.zipIdx.foldl (fun cs (c,j)=>cs.setIfInBounds (off+j) c) us).toList=dh:=by apply aaz;intro k;rw [e4 k];have h5:=HM.2 k;simp only [aH,aC] at h5;rw [aK,<- Array.foldl_toList,Array.toList_zipIdx];rw [h5];simp only [aC,aK]
     have h6: ∀u∈(x.cells.zipIdx.foldl (fun cs (c,j)=>cs.setIfInBounds (off+j) c) us).toList,u.oneCell'=true:=by
      rw [heq];intro u hu;rw [aay] at hu;obtain⟨k,R⟩:=hu;rw [e4 k] at R;split at R
      ·exact wP.iJ B.2 u (aP R)
      ·exact h4 u (aP R)
     obtain⟨Iq,g1,g2,g3⟩:=gV (us:=x.cells.zipIdx.foldl (fun cs (c,j)=>cs.setIfInBounds (off+j) c) us) O (by rw [heq]; exact e3) K h6;refine⟨Iq,?_,g2,g3⟩;simp only [Instr.fill,F];rw [ah]
     ·exact g1
     ·simp only [aah,decide_eq_true_eq,not_or];constructor
      ·omega
      ·omega
    ·simp at O
   ·simp at O
theorem lL {s:St} {a:Act} (sr:SR E w.heap s.bj a): ∀{xs:List (Nat×Operand)} {ps:List (Nat×Z)},kT s xs=some ps->jG E w.heap ps (xs.map fun p=>(p.1,a.eval p.2))
 |[],ps,h=>by simp [kT] at h; subst h; simp [jG]
 |(i,x)::xs,ps,h=>by
  simp only [kT] at h;split at h
  ·grind
  ·rename_i b K;split at h
   ·grind
   ·rename_i bs JX;simp at h;subst h;simp only [au,jG];exact⟨_,_,rfl,cH sr K,lL sr JX⟩
theorem cI {α:Type}: ∀(l:List α) (i:Nat),cq l i=l[i]?
 |[],i=>by cases i<;>rfl
 |x::xs,0=>rfl
 |x::xs,i+1=>by simp [cq,cI xs i]
theorem qj {α β:Type} {f:α->Option β}: ∀{l:List α} {r:List β},l.mapM f=some r->∀i:Nat,r[i]?=(l[i]?).bind f
 |[],r,h,i=>by simp at h; subst h; simp
 |x::xs,r,h,i=>by
  simp only [aai,aaA,aao] at h;obtain⟨y,O,ys,U,N⟩:=h;simp only [pure,af] at N;subst N
  cases i with
  |zero=>simp [O]
  |succ i=>simpa using qj U i
theorem yH {α β:Type} {f:α->Option β}: ∀{l:List α} {r:List β},r.length=l.length->(∀i:Nat,r[i]?=(l[i]?).bind f)->l.mapM f=some r
 |[],r,h,_=>by simp at h; subst h; simp
 |x::xs,[],h,_=>by simp at h
 |x::xs,y::ys,h,U=>by have h0:=U 0;simp at h0;have ih:=yH (l:=xs) (r:=ys) (by simpa using h) (fun i=>by simpa using U (i+1));simp [aai,h0.symm,ih]
theorem oH {α β:Type} {f:α->Option β}: ∀{l:List α} {r:List β},l.mapM f=some r->r.length=l.length
 |[],r,h=>by simp at h; subst h; simp
 |x::xs,r,h=>by simp only [aai,aaA,aao] at h;obtain⟨y,O,ys,U,N⟩:=h;simp only [pure,af] at N;subst N;simp [oH U]
theorem xV {tt:TT} (bx:bV P tt) {t:Nat} {parts:List (Nat×Z)} {ps:Array (Nat×Value)} {v:Z} (F:jG E w.heap parts ps.toList) (h:uE tt t parts=some v) :
 ∃x,(Instr.build t ps).run P w= .ok x w/\V E w.heap v x:=by
 unfold uE at h;split at h
 ·rename_i i hi;have cN:=bx t i hi;obtain⟨inf,z,g1,g2,g3,g4,g5⟩:=kN cN;have hz:=b9 (E:=E) (h:=w.heap) g5;split at h
  ·rename_i fs R;rw [az] at h;obtain⟨eW,O,rfl⟩:=h;obtain⟨dh,e1,e2,e3⟩:=gV O hz.1 F hz.2;obtain⟨eU,hu,hm⟩:=iY cN R
   have K:P.built t ps.toList=some dh:=by
    unfold Program.built
    have KJ:(eU.toList.mapM fun f=>(P.info? f.type).map fun i=>(f.offset,i.size))=some (fs.map fun x=>(x.1,x.2.2)):=by
     refine yH (by simp [oH hm]) fun i=>?_;have:=qj hm i;rw [bc,this]
     cases eU.toList[i]? with
     |none=>rfl
     |some f=>simp only [Option.bind_some,Option.map_map]; rfl
    simp only [g1,hu,g4,KJ];simp_all [e1,cI]
   exact⟨_,run_build w t ps dh K,by simp only [V]; exact⟨dh.toList,ad,e2⟩⟩
  ·rename_i n e R;split at h
   ·rename_i s hs;rw [az] at h;obtain⟨eW,O,rfl⟩:=h;obtain⟨dh,e1,e2,e3⟩:=gV O hz.1 F hz.2;simp only [dj,az] at hs;obtain⟨ie,eA,rfl⟩:=hs;obtain⟨Lp,z',f1,f2,f3,f4,f5⟩:=kN (bx e ie eA)
    have K:P.built t ps.toList=some dh:=by unfold Program.built;simp only [g1,iB cN R,g4,f1];simp_all
    exact⟨_,run_build w t ps dh K,by simp only [V]; exact⟨dh.toList,ad,e2⟩⟩
   grind
  grind
 grind
theorem oA {α:Type} (l:List α) (I:l≠[]): ∀(n i:Nat),i<n*l.length->(bJ l n)[i]?=l[i % l.length]?
 |0,i,h=>by simp at h
 |n+1,i,h=>by
  have gq:0<l.length:=aaQ.2 I;simp only [bJ];rw [aa7];split
  ·rename_i U; rw [bg U]
  ·rename_i U;rw [oA l I n (i-l.length) (by rw [aW] at h; omega)];congr 1;rw [<- Nat.mod_eq_sub_mod J]
theorem dy {α:Type} (l:List α): ∀n,(bJ l n).length=n*l.length
 |0=>by simp [bJ]
 |n+1=>by simp [bJ,dy l n,aW]; omega
theorem e9 {h:Array Obj} {cs:List Z} {us:List Value} (W:bC E h cs us): ∀n,bC E h (bJ cs n) (bJ us n)
 |0=>by simp [bJ,bC]
 |n+1=>W.append (e9 W n)
theorem e8 {α:Type} {l:List α} {x:α}: ∀{n},x∈bJ l n->x∈l
 |0,h=>by simp [bJ] at h
 |n+1,h=>by
  simp only [bJ,aZ] at h;rcases h with h|h
  ·exact h
  ·exact e8 h
theorem jP (z:Array Value) (hz:z.toList≠[]) (n:Nat):((Array.range (n*z.size)).map (z[·% z.size]!)).toList=bJ z.toList n:=by
 apply aaz;intro i
 grind [oA,dy]
theorem o5 [bp] {tt:TT} (bx:bV P tt) {H H':Hp} (r:bq E H w) {t len:Nat} {parts:List (Nat×Z)} {ps:Array (Nat×Value)} {v:Z} (F:jG E w.heap parts ps.toList) (h:jt tt t len parts H=some (v,H')) :
 ∃x w' E',(Instr.buildSlice t len ps).run P w= .ok x w'/\ca E H w E' H' w'/\bq E' H' w'/\V E' w'.heap v x:=by
 unfold jt at h;split at h
 ·rename_i i hi;have cN:=bx t i hi;split at h
  ·rename_i e R;split at h
   ·rename_i ie eA;have Bx:=bx e ie eA;obtain⟨inf,z,g1,g2,g3,g4,g5⟩:=kN Bx;have hz:=b9 (E:=E) (h:=w.heap) g5;split at h
    ·rename_i K;split at h
     ·rename_i cs O;simp only [af,ag] at h;obtain⟨rfl,rfl⟩:=h
      have dc:len*ie.size<=2 ^ 24:=by have:len*ie.size<=1000*1000:=aa8 K.1 K.2.1;omega
      have kO:z.cells.size=ie.size:=by have:=hz.1.length; simp only [aC] at this; omega
      have key: ∃dh:Array Value,Instr.fill (fun i=>some (i*inf.size,inf.size)) ((Array.range (len*inf.size)).map ((if len*inf.size=0 then #[] else z.cells)[·% (if len*inf.size=0 then #[] else z.cells).size]!)) ps.toList=some dh/\bC E w.heap cs dh.toList/\∀u∈dh.toList,u.oneCell'=true:=by
       rw [g2];by_cases h0:len*ie.size=0
       ·rw [ak h0,h0]
        have Fb:bJ ie.zero len= []:=by
         grind [dy]
        refine gV O ?_ F ?_
        all_goals grind [bC]
       ·rw [ah h0]
        have dV:z.cells.toList≠[]:=by
         intro M;have D2:z.cells.size=0:=by have:=congrArg List.length M; simpa using this
         grind
        have F7:=jP z.cells dV len;rw [kO] at F7;refine gV O ?_ F ?_
        all_goals grind [e9,e8]
      obtain⟨dh,e1,e2,e3⟩:=key;refine⟨.slice (some ⟨w.heap.size,0,none⟩) len len,{ w with heap:=w.heap.push (.cells dh e) },E.ext H.fresh (w.heap.size,0) dh.size,?_,?_⟩
      ·by_cases h0:len*inf.size=0
       ·rw [ak h0] at e1;rw [h0] at e1;have e0: ∀f:Nat->Value,(Array.range 0).map f= #[]:=by intro f; simp
        rw [e0] at e1;simp [Instr.buildSlice,run_underlying (cn cN R),sizeOf,typeInfo,g1,h0,e0,e1,newRow]
       ·rw [ah h0] at e1;have Mn: ¬(2 ^ 24<len*inf.size):=by rw [g2]; omega
        simp only [Instr.buildSlice,Sem.run_bind,run_underlying (cn cN R),Result.andThen_ok,sizeOf,typeInfo,zeroValue,run_program,g1,g4,Sem.run_pure,newRow,gt_iff_lt,Mn,h0,if_false,Sem.run_ite];rw [e1];rfl
      ·obtain⟨s1,s2⟩:=du r dh 0 0 e e2 e3 (fun i u hu=>by rw [<- aK]; exact hu) J (w':={ w with heap:=w.heap.push (.cells dh e) }) rfl ⟨rfl,rfl,rfl⟩;refine⟨s1,s2,?_⟩;simp only [V]
       grind [En.cQ,cg,En.ext_θ_new]
     grind
    grind
   grind
  grind
 grind
theorem sC {E:En} {h:Array Obj} {v:Z} {u:Value} {n:Int} (W:V E h v u) (I:ec v=some n): ∃k,u= .int k n:=by
 unfold ec at I;split at I
 ·simp only [af] at I;subst I;simp only [V,Y.den] at W
  grind
 grind
theorem kq [bp] {tt:TT} (bx:bV P tt) {H H':Hp} (r:bq E H w) {t:Nat} {l c:Z} {lu cu:Value} {v:Z} (I:V E w.heap l lu) (B:V E w.heap c cu) (h:ig tt t l c H=some (v,H')) :
 ∃x w' E',(Instr.makeSlice t lu cu).run P w= .ok x w'/\ca E H w E' H' w'/\bq E' H' w'/\V E' w'.heap v x:=by
 unfold ig at h;split at h
 ·rename_i n LV;split at h
  ·rename_i m Mc;obtain⟨k1,rfl⟩:=sC I LV;obtain⟨k2,rfl⟩:=sC B Mc;split at h
   ·rename_i i hi;have cN:=bx t i hi;split at h
    ·rename_i e R;split at h
     ·rename_i ie eA;have Bx:=bx e ie eA;obtain⟨inf,z,g1,g2,g3,g4,g5⟩:=kN Bx;have hz:=b9 (E:=E) (h:=w.heap) g5;split at h
      ·rename_i K;obtain⟨b1,b2,b3,b4,b5⟩:=K;simp only [af,ag] at h;obtain⟨rfl,rfl⟩:=h;have kO:z.cells.size=ie.size:=by have:=hz.1.length; simp only [aC] at this; omega
       have wn:IntKind.i64.wrap (Int.ofNat n)=Int.ofNat n:=by rw [<- ef]; simp only [iO]; rw [ak (by constructor<;>simp<;>omega)]
       have wm:IntKind.i64.wrap (Int.ofNat m)=Int.ofNat m:=by rw [<- ef]; simp only [iO]; rw [ak (by constructor<;>simp<;>omega)]
       have qB:inf.bytes*m<=1000000000:=by rw [g3]; exact aa8 b4 b2
       have ai: ∀(k:IntKind) (x:Int) (w:World),(asInt (Value.int k x)).run P w= .ok x w:=fun _ _ _=>rfl
       have key: ∃dh:Array Value,((Array.range (m*inf.size)).map ((if m*inf.size=0 then #[] else z.cells)[·% (if m*inf.size=0 then #[] else z.cells).size]!))=dh/\bC E w.heap (bJ ie.zero m) dh.toList/\∀u∈dh.toList,u.oneCell'=true:=by
        rw [g2];by_cases h0:m*ie.size=0
        ·grind [bJ,dy,bC]
        ·rw [ah h0]
         have dV:z.cells.toList≠[]:=by
          intro M;have D2:z.cells.size=0:=by have:=congrArg List.length M; simpa using this
          grind
         grind [jP,e9,e8]
       obtain⟨dh,e1,e2,e3⟩:=key;refine⟨.slice (some ⟨w.heap.size,0,none⟩) n m,{ w with heap:=w.heap.push (.cells dh e) },E.ext H.fresh (w.heap.size,0) dh.size,?_,?_⟩
       ·have t1: ¬(Int.ofNat m<0):=ad
        have t2: ¬((inf.bytes:Int)*Int.ofNat m > 2 ^ 48):=by
         grind
        have t3: ¬(Int.ofNat n<0):=ad
        have t4: ¬(Int.ofNat n > Int.ofNat m):=by simp; omega
        have t5:(askRoom (m*inf.bytes)).run P w= .ok () w:=by simp_all
        have t6:(Int.ofNat m).toNat=m:=rfl;have t7:(Int.ofNat n).toNat=n:=rfl;by_cases h0:m*inf.size=0
        ·rw [ak h0] at e1;rw [h0] at e1;simp only [Instr.makeSlice,Sem.run_bind,run_underlying (cn cN R),Result.andThen_ok,ai,sizeOf,typeInfo,zeroValue,run_program,g1,g4,Sem.run_pure,newRow,Sem.run_ite,wn,wm,t1,t2,t3,t4,t6,t7,h0,decide_false,aaR,ay,if_false,if_true];simp_all
        ·rw [ah h0] at e1;simp only [Instr.makeSlice,Sem.run_bind,run_underlying (cn cN R),Result.andThen_ok,ai,sizeOf,typeInfo,zeroValue,run_program,g1,g4,Sem.run_pure,newRow,Sem.run_ite,wn,wm,t1,t2,t3,t4,t6,t7,h0,decide_false,aaR,ay,if_false];simp_all
       ·obtain⟨s1,s2⟩:=du r dh 0 0 e e2 e3 (fun i u hu=>by rw [<- aK]; exact hu) J (w':={ w with heap:=w.heap.push (.cells dh e) }) rfl ⟨rfl,rfl,rfl⟩;refine⟨s1,s2,?_⟩;simp only [V];exact⟨En.cQ _ _ _ _,⟨w.heap.size,0,none⟩,m,rfl,b1,by simp [cg,En.ext_θ_new]⟩
      grind
     grind
    grind
   grind
  grind
 grind
end
section
variable {P:Program} {E:En} {w:World}
theorem vm {i:TI} {t:Nat} (cN:fg P t i) {fs:List (Nat×Nat×Nat)} (R:i.kind= .struct fs) {f off ft sz:Nat} (h:cq fs f=some (off,ft,sz)) :
 ∃(eU:Array Field) (fd:Field) (inf:TypeInfo),P.underlying t=some (.struct eU)/\eU[f]?=some fd/\fd.offset=off/\fd.type=ft/\P.info? ft=some inf/\inf.size=sz:=by
 obtain⟨eU,hu,hm⟩:=iY cN R;have O:=qj hm f;rw [<- cI,h,aK] at O
 cases hf:eU[f]? with
 |none=>rw [hf] at O; simp at O
 |some fd=>
  rw [hf] at O;simp only [Option.bind_some] at O
  cases hi:P.info? fd.type with
  |none=>rw [hi] at O; simp at O
  |some inf=>
   grind
theorem sa {x v:Z} {u:Value} {off:Nat} (M:V E w.heap x u) (h:yE off x=some v) :
 ∃b o,u= .pointer (some ⟨b,o,none⟩)/\V E w.heap v (.pointer (some ⟨b,o+off,none⟩)):=by
 unfold yE at h;cases x<;>simp only [af,reduceCtorEq,az] at h
 case ptr id o=>
  subst h;simp only [V] at M ⊢;obtain⟨rfl,hid⟩:=M;exact⟨_,_,rfl,by rw [aQ],hid⟩
 case nk id es i o=>
  subst h;simp only [V] at M ⊢;obtain⟨hid,k,O,rfl⟩:=M;exact⟨_,_,rfl,hid,k,O,by rw [aQ,aQ]⟩
 case fD cs=>
  obtain⟨l,O,rfl⟩:=h;simp only [V] at M ⊢;obtain⟨b,o,us,rfl,U,N,h4,h5⟩:=M;exact⟨b,o,rfl,b,o+off,us.drop off,rfl,U,(N.b8 O).1,h4.drop off,fun u hu=>h5 u (aS hu)⟩
theorem qV {tt:TT} (bx:bV P tt) {t f:Nat} {x v:Z} {u:Value} (M:V E w.heap x u) (h:ku tt t x f=some v) :
 ∃r,(Instr.fieldAt t u f).run P w= .ok r w/\V E w.heap v r:=by
 unfold ku at h;split at h
 ·rename_i i hi;split at h
  ·rename_i fs R;split at h
   ·rename_i off ft sz hn;obtain⟨eU,fd,inf,hu,hf,O,U,N,h4⟩:=vm (bx t i hi) R hn;split at h
    ·grind
    ·rename_i dc;obtain⟨b,o,rfl,W⟩:=sa M h;refine⟨_,?_,W⟩;have dV: ¬inf.size=0:=by rw [h4]; exact dc
     simp [Instr.fieldAt,run_underlying hu,hf,Instr.sureAddr,fieldPlace,sizeOf,typeInfo,U,N,dV,cj,O]
   grind
  grind
 grind
theorem yw {i:TI} {t:Nat} (cN:fg P t i) {cs l:List Z} {us:List Value} {off:Nat} {v:Z} (W:bC E w.heap cs us) (hd:b8 off cs=some l)
 (h:partOf i l=some v) :
 ∃r,(part t us.toArray off).run P w= .ok r w/\V E w.heap v r:=by
 obtain⟨O,U,N⟩:=W.b8 hd;have hlen:=W.length;unfold partOf at h;split at h
 ·rename_i xu;rw [az] at h;obtain⟨l',h4,rfl⟩:=h;obtain⟨h5,h6⟩:=O.di h4;refine⟨.agg (us.toArray.extract off (off+i.size)),?_,?_⟩
  ·simp [part,ez cN,xu,bT cN]
  ·simp only [V]
   grind
 ·rename_i xu;split at h
  ·rename_i x l';simp at h;subst h;rw [bt] at O;obtain⟨u,vs,he,h5,_⟩:=O;refine⟨u,?_,h5⟩
   have hg:us[off]?=some u:=by
    have:=congrArg (·[0]?) he
    grind
   simp [part,ez cN,xu,hg]
  grind
theorem xN {tt:TT} (bx:bV P tt) {t f:Nat} {x v:Z} {u:Value} (M:V E w.heap x u) (h:ur tt t x f=some v) :
 ∃r,(Instr.field t u f).run P w= .ok r w/\V E w.heap v r:=by
 unfold ur at h;split at h
 ·rename_i i hi;split at h
  ·rename_i fs R;split at h
   ·rename_i off ft sz hn;obtain⟨eU,fd,inf,hu,hf,O,U,N,h4⟩:=vm (bx t i hi) R hn;split at h
    ·rename_i fi cs L6;split at h
     ·rename_i l I;simp only [V] at M;obtain⟨us,rfl,W⟩:=M;obtain⟨r,e1,e2⟩:=yw (w:=w) (bx ft fi L6) W I h;refine⟨r,?_,e2⟩;simp [Instr.field,run_underlying hu,hf,asAgg,O,U,e1]
     grind
    grind
   grind
  grind
 grind
theorem nJ {x:Z} {u:Value} {n:Int} (M:V E w.heap x u) (h:ec x=some n): ∃k,u= .int k n:=by
 cases x<;>simp [ec] at h;rename_i k e;cases e<;>simp at h;subst h;simp only [V,Y.den] at M
 grind
theorem gW {tt:TT} (bx:bV P tt) {t:Nat} {x ix v:Z} {u ui:Value} (M:V E w.heap x u) (my:V E w.heap ix ui) (h:gf tt t x ix=some v) :
 ∃r,(Instr.indexAt t u ui).run P w= .ok r w/\V E w.heap v r:=by
 unfold gf at h;split at h
 ·rename_i i hi;obtain⟨k,rfl⟩:=nJ my hi;split at h
  ·rename_i ti cN;have j5:=bx t ti cN;split at h
   ·rename_i n e R;split at h
    ·rename_i c6;split at h
     ·rename_i s hs;simp only [dj,az] at hs;obtain⟨ie,eA,rfl⟩:=hs;obtain⟨b,o,rfl,W⟩:=sa M h;refine⟨_,?_,W⟩;have hu:=iB j5 R;simp [Instr.indexAt,asIntOf,run_underlying hu,Instr.sureAddr,bT (bx e ie eA),c6,cj]
     grind
    grind
   ·rename_i e R;have hu:=cn j5 R;split at h
    ·rename_i s hs;simp only [dj,az] at hs;obtain⟨ie,eA,rfl⟩:=hs;split at h
     ·rename_i id o len c;split at h
      ·rename_i c6;simp at h;subst h;simp only [V] at M;obtain⟨hid,a,cap,rfl,ee,B⟩:=M
       have ha:a=⟨(E.θ id).1,(E.θ id).2+o,none⟩:=by
        cases c with
        |exact c=>
         simp only [cg] at B
         grind
        |rest es=>
         simp only [cg] at B
         grind
       subst ha;refine⟨.pointer (some ⟨(E.θ id).1,(E.θ id).2+o+i*ie.size,none⟩),?_,by simp only [V]; exact⟨by rw [aQ],hid⟩⟩;simp [Instr.indexAt,asIntOf,run_underlying hu,bT (bx e ie eA),c6,cj]
      grind
     ·rename_i cs n full;split at h
      ·rename_i c6;rw [az] at h;obtain⟨l,O,rfl⟩:=h;simp only [V] at M;obtain⟨b,o,cap,us,rfl,U,N,h4,h5,h6,h7⟩:=M;refine⟨.pointer (some ⟨b,o+i*ie.size,none⟩),?_,?_⟩
       ·simp [Instr.indexAt,asIntOf,run_underlying hu,bT (bx e ie eA),c6,cj]
       ·simp only [V];exact⟨b,_,us.drop (i*ie.size),rfl,h4,(h5.b8 O).1,h6.drop _,fun u hu=>h7 u (aS hu)⟩
      grind
     grind
    grind
   grind
  grind
 grind
theorem pM (s:List Nat) (i:Nat):(bG s)[i]?=(s[i]?).map UInt8.ofNat:=by have O:(bG s)[i]?=(bG s).data[i]?:=rfl;rw [O];simp [bG]
theorem lM {tt:TT} (bx:bV P tt) {t:Nat} {x ix v:Z} {u ui:Value} (M:V E w.heap x u) (my:V E w.heap ix ui) (h:mM tt t x ix=some v) :
 ∃r,(Instr.index t u ui).run P w= .ok r w/\V E w.heap v r:=by
 unfold mM at h;split at h
 ·rename_i i hi;obtain⟨k,rfl⟩:=nJ my hi;split at h
  ·rename_i ti cN;have j5:=bx t ti cN;split at h
   ·rename_i s R;rw [az] at h;obtain⟨b,K,rfl⟩:=h;simp only [V] at M;obtain⟨rfl,c6⟩:=M;rw [cI] at K;have hg:(bG s)[i]?=some (UInt8.ofNat b):=by rw [pM,K]; rfl
    have J6:=c6 b (aP K);refine⟨_,by simp [Instr.index,asIntOf,run_underlying (cx j5 R),hg]; rfl,?_⟩;simp only [V,Y.den]
    grind
   ·rename_i n e cs R;split at h
    ·rename_i c6;split at h
     ·rename_i ie eA;split at h
      ·rename_i l I;simp only [V] at M;obtain⟨us,rfl,W⟩:=M;obtain⟨r,e1,e2⟩:=yw (w:=w) (bx e ie eA) W I h;refine⟨r,?_,e2⟩;simp [Instr.index,asIntOf,run_underlying (iB j5 R),c6,bT (bx e ie eA),e1]
      grind
     grind
    grind
   grind
  grind
 grind
end
section
variable {P:Program} {E:En} {w:World}
def cG (E:En) (h:Array Obj):Option Z->Option Value->Prop
 |none,o=>o=none
 |some x,o=> ∃u,o=some u/\V E h x u
theorem bU {s:St} {a:Act} (sr:SR E w.heap s.bj a) {x:Option Operand} {v:Option Z} (h:s5 s x=some v):cG E w.heap v (x.map a.eval):=by
 cases x with
 |none=>simp [s5] at h; subst h; simp [cG]
 |some x=> simp only [s5,az] at h;obtain⟨b,O,rfl⟩:=h;exact⟨_,rfl,cH sr O⟩
theorem mZ {x:Z} {u:Value} {d y k:Nat} (M:V E w.heap x u) (h:fP (some x) d y=some k) {y':Nat} (hy:y<=y') (code:BoundsCode) :
 (Instr.sliceBound u y' code).run P w= .ok k w/\k<=y:=by
 unfold fP at h;simp only at h;split at h
 ·rename_i i hi;obtain⟨kk,rfl⟩:=nJ M hi;split at h
  ·rename_i hle;simp at h;subst h;refine⟨?_,hle⟩;have:((i:Int)<=(y':Int)):=J
   simp [Instr.sliceBound,asIntOf];omega
  grind
 grind
theorem na {d y k:Nat} (h:fP none d y=some k):k=d/\d<=y:=by
 grind [fP]
theorem cB {isSlice:Bool} {len cap m0 h0:Nat} {lo hi mx:Option Z} {lV hi' mx':Option Value} (jJ:cG E w.heap lo lV) (lX:cG E w.heap hi hi') (lH:cG E w.heap mx mx')
 (IA:mx.isSome=true->hi.isSome=true) {m h l d:Nat}
 (hm:(mx=none/\m=cap/\m0<=cap)\/(∃x,mx=some x/\fP mx d m0=some m/\m0<=cap))
 (hh:fP hi len h0=some h) (KS:(mx=none->h0<=cap)/\(mx≠none->h0=m)) (I:fP lo 0 h=some l) :
 (Instr.sliceBounds isSlice len cap lV hi' mx').run P w= .ok (l,h,m) w/\l<=h:=by
 have key: ∀(c:BoundsCode) (v:Z) (u:Value),lo=some v->V E w.heap v u->(Instr.sliceBound u h c).run P w= .ok l w/\l<=h:=by intro c v u W hu;subst W;exact mZ hu I (ar _) c
 have Ln:lo=none->l=0:=fun W=>by subst W; exact (na I).1
 unfold Instr.sliceBounds;rcases hm with ⟨rfl,rfl,JB⟩|⟨x,rfl,LS,JB⟩
 ·simp only [cG] at lH;subst lH;have K:=KS.1 rfl
  cases hi with
  |none=>
   simp only [cG] at lX;subst lX;obtain⟨rfl,_⟩:=na hh
   cases lo with
   |none=> simp only [cG] at jJ;simp_all
   |some v=> obtain⟨u,rfl,hu⟩:=jJ;obtain⟨k1,k2⟩:=key .sliceB v u rfl hu;simp_all
  |some y=>
   obtain⟨uy,rfl,Jf⟩:=lX;have O:=fun c=>(mZ (P:=P) Jf hh K c).1
   cases lo with
   |none=> simp only [cG] at jJ;simp_all
   |some v=> obtain⟨u,rfl,hu⟩:=jJ;obtain⟨k1,k2⟩:=key .sliceB v u rfl hu;simp_all
 ·obtain⟨ux,rfl,LB⟩:=lH;have U:=fun c=>(mZ (P:=P) LB LS JB c).1;have K:=KS.2 ad;subst K
  cases hi with
  |none=>simp at IA
  |some y=>
   obtain⟨uy,rfl,Jf⟩:=lX;have O:=fun c=>(mZ (P:=P) Jf hh (ar _) c).1
   cases lo with
   |none=> simp only [cG] at jJ;simp_all
   |some v=> obtain⟨u,rfl,hu⟩:=jJ;obtain⟨k1,k2⟩:=key .slice3C v u rfl hu;simp_all
theorem ja (s:List Nat) (l h:Nat):(bG s).extract l h=bG ((s.take h).drop l):=by apply ByteArray.ext;apply Array.ext';rw [Lib.extract_data];simp [bG,aa9,aba,List.drop_take]
theorem hB {id o len cap l h m es:Nat} {a:Addr} {c c':wN} (B:cg E id o len a cap c) (hlen:len<=cap) (MI:l<=h) (MM:h<=m) (MG:m<=cap)
 (AF:(∃k,c= .exact k/\c'= .exact (m-l))\/(c= .rest es/\c'= .exact (m-l))\/(c= .rest es/\c'= .rest es/\m=cap)) (s:Nat) (eG:c'= .rest es->es=s) :
 cg E id (o+l*s) (h-l) (if m=l then a else a.add (l*s)) (m-l) c':=by
 rcases AF with ⟨k,rfl,rfl⟩|⟨rfl,rfl⟩|⟨rfl,rfl,rfl⟩
 ·simp only [cg] at *;refine⟨trivial,?_⟩;by_cases AE:m=l
  ·grind
  ·left
   grind [cj]
 ·simp only [cg] at *;refine⟨trivial,?_⟩;by_cases AE:m=l
  ·grind
  ·left
   grind [cj]
 ·simp only [cg] at *;obtain rfl:=eG trivial;by_cases AE:m=l
  ·grind
  ·left;rw [ah AE];rcases B with ha|ha
   ·refine⟨by rw [ha.1,cj,aQ],?_⟩;rw [<- ha.2,aQ,<- aW]
    grind
   ·omega
theorem eI {x:Option Z} {d y k:Nat} (h:fP x d y=some k):k<=y:=by
 unfold fP at h;split at h
 ·grind
 ·split at h
  all_goals grind
theorem we [bp] {tt:TT} (bx:bV P tt) {H:Hp} (r:bq E H w) {t:Nat} {x v:Z} {u:Value} {lo hi mx:Option Z} {lV hi' mx':Option Value} (M:V E w.heap x u)
 (jJ:cG E w.heap lo lV) (lX:cG E w.heap hi hi') (lH:cG E w.heap mx mx') (h:qR tt t x lo hi mx H=some v) :
 ∃r,(Instr.sliceAt t u lV hi' mx').run P w= .ok r w/\V E w.heap v r:=by
 unfold qR at h;split at h
 ·grind
 ·split at h
  ·grind
  ·rename_i ti cN;have j5:=bx t ti cN;split at h
   ·rename_i e R;have hu:=cn j5 R;split at h
    ·grind
    ·rename_i s hs;simp only [dj,az] at hs;obtain⟨ie,eA,rfl⟩:=hs;have dc:=bT (w:=w) (bx e ie eA);split at h
     ·rename_i id o len es;split at h
      ·rename_i eG;split at h
       ·rename_i cs ty I;split at h
        ·grind
        ·rename_i b nj;split at h
         ·grind
         ·rename_i l iN;simp at h;subst h;obtain⟨eG,gq⟩:=eG;subst eG;simp only [V] at M;obtain⟨hid,a,cap,rfl,hlen,B⟩:=M;have BD:=(r.live id _ I).2.1;simp only [OR] at BD;obtain⟨arr,Kw,Gb,us,q1,q2,q3,q4,q5,q6,q7⟩:=BD
          have ee:(cs.length-o) / ie.size<=cap:=by
           simp only [cg] at B;rcases B with B|B
           ·have:cs.length-o<=cap*ie.size:=J
            exact Nat.div_le_of_le_mul (by rw [aa2]; exact this)
           simp_all
          obtain⟨e1,e2⟩:=cB (P:=P) (w:=w) (isSlice:=true) (len:=len) (cap:=cap) (m0:=cap) (d:=0) (m:=cap) jJ lX lH ad (.inl ⟨rfl,rfl,ar _⟩) nj ⟨fun _=>ee,ad⟩ iN;have JY:=eI nj;refine⟨.slice (some (if cap=l then a else a.add (l*ie.size))) (b-l) (cap-l),?_,?_⟩
          ·simp [Instr.sliceAt,run_underlying hu,Instr.slice,e1,dc]<;>split<;>rfl
          ·simp only [V];exact⟨hid,_,_,rfl,J,hB (es:=ie.size) B hlen e2 J (ar _) (.inr (.inr ⟨rfl,rfl,rfl⟩)) _ (fun _=>rfl)⟩
       grind
      grind
     grind
   grind
theorem lK {tt:TT} (bx:bV P tt) {t:Nat} {x v:Z} {u:Value} {lo hi mx:Option Z} {lV hi' mx':Option Value} (M:V E w.heap x u)
 (jJ:cG E w.heap lo lV) (lX:cG E w.heap hi hi') (lH:cG E w.heap mx mx') (h:mF tt t x lo hi mx=some v) :
 ∃r,(Instr.sliceAt t u lV hi' mx').run P w= .ok r w/\V E w.heap v r:=by
 unfold mF at h;split at h
 ·grind
 ·rename_i ti cN;have j5:=bx t ti cN;split at h
  ·rename_i R;have hu:=cx j5 R;split at h
   ·rename_i s;simp only [cG] at lH;subst lH;split at h
    ·rename_i b K;split at h
     ·rename_i l I;simp at h;subst h;simp only [V] at M;obtain⟨rfl,c6⟩:=M;obtain⟨e1,e2⟩:=cB (P:=P) (w:=w) (isSlice:=false) (len:=s.length) (cap:=s.length) (m0:=s.length) (d:=0) jJ lX (mx:=none) (mx':=none) rfl ad (.inl ⟨rfl,rfl,ar _⟩) K ⟨fun _=>ar _,ad⟩ I;refine⟨.string ((bG s).extract l b),?_,?_⟩
      ·rw [<- ep] at e1;simp [Instr.sliceAt,run_underlying hu,Instr.slice,e1]
      ·simp only [V,ja]
       grind
     grind
    grind
   grind
  ·rename_i e R;have hu:=cn j5 R;split at h
   ·grind
   ·rename_i s hs;simp only [dj,az] at hs;obtain⟨ie,eA,rfl⟩:=hs;have dc:=fun w'=>bT (bx e ie eA) w';split at h
    ·split at h
     ·grind
     ·rename_i IA;split at h
      ·rename_i kh kl km nj iN qB;simp at h;subst h;simp only [V] at M;subst M;obtain rfl:kh=0:=by have:=eI nj; omega
       obtain rfl:kl=0:=by have:=eI iN; omega
       obtain rfl:km=0:=by have:=eI qB; omega
       have hm:(mx=none/\0=0/\0<=0)\/(∃x,mx=some x/\fP mx 0 0=some 0/\0<=0):=by
        cases mx with
        |none=>exact .inl ⟨rfl,rfl,ar _⟩
        |some y=>exact .inr ⟨y,rfl,qB,ar _⟩
       obtain⟨e1,e2⟩:=cB (P:=P) (w:=w) (isSlice:=true) (len:=0) (cap:=0) (m0:=0) (d:=0) (m:=0) jJ lX lH (by cases mx<;>cases hi<;>simp_all) hm nj ⟨fun _=>ar _,fun _=>rfl⟩ iN;refine⟨.slice none 0 0,?_,by simp only [V]⟩;simp [Instr.sliceAt,run_underlying hu,Instr.slice,e1,dc]
      grind
    ·rename_i id o len c;split at h
     ·grind
     ·rename_i IA;split at h
      ·grind
      ·rename_i m qB;split at h
       ·grind
       ·rename_i b nj;split at h
        ·grind
        ·rename_i l iN;simp at h;subst h;simp only [V] at M;obtain⟨hid,a,cap,rfl,hlen,B⟩:=M;have ee:cap=c:=by simp only [cg] at B; exact B.1
         subst ee
         have hm:(mx=none/\m=cap/\cap<=cap)\/(∃x,mx=some x/\fP mx cap cap=some m/\cap<=cap):=by
          cases mx with
          |none=>exact .inl ⟨rfl,(na qB).1,ar _⟩
          |some y=>exact .inr ⟨y,rfl,qB,ar _⟩
         obtain⟨e1,e2⟩:=cB (P:=P) (w:=w) (isSlice:=true) (len:=len) (cap:=cap) (m0:=cap) (d:=cap) (m:=m) jJ lX lH (by cases mx<;>cases hi<;>simp_all) hm nj ⟨fun _=>eI qB,fun _=>rfl⟩ iN;refine⟨.slice (some (if m=l then a else a.add (l*ie.size))) (b-l) (m-l),?_,?_⟩
         ·simp [Instr.sliceAt,run_underlying hu,Instr.slice,e1,dc]<;>split<;>rfl
         ·simp only [V];exact⟨hid,_,_,rfl,by have:=eI nj; omega,hB (es:=0) B hlen e2 (eI nj) (eI qB) (.inl ⟨_,rfl,rfl⟩) _ ad⟩
    ·rename_i id o len es;split at h
     ·split at h
      ·grind
      ·rename_i b nj;split at h
       ·grind
       ·rename_i l iN;split at h
        ·rename_i eG;simp at h;subst h;simp only [V] at M;obtain⟨hid,a,cap,rfl,hlen,B⟩:=M;obtain⟨e1,e2⟩:=cB (P:=P) (w:=w) (isSlice:=true) (len:=len) (cap:=cap) (m0:=cap) (d:=0) (m:=cap) jJ lX lH ad (.inl ⟨rfl,rfl,ar _⟩) nj ⟨fun _=>hlen,ad⟩ iN;have JY:=eI nj;refine⟨.slice (some (if cap=l then a else a.add (l*ie.size))) (b-l) (cap-l),?_,?_⟩
         ·simp [Instr.sliceAt,run_underlying hu,Instr.slice,e1,dc]<;>split<;>rfl
         ·simp only [V];exact⟨hid,_,_,rfl,J,hB (es:=es) B hlen e2 J (ar _) (.inr (.inr ⟨rfl,rfl,rfl⟩)) _ (fun _=>eG)⟩
        grind
     ·rename_i y;split at h
      ·grind
      ·grind
      ·rename_i b0 m qB;split at h
       ·grind
       ·rename_i b nj;split at h
        ·grind
        ·rename_i l iN;simp at h;subst h;simp only [V] at M;obtain⟨hid,a,cap,rfl,hlen,B⟩:=M;obtain⟨e1,e2⟩:=cB (P:=P) (w:=w) (isSlice:=true) (len:=len) (cap:=cap) (m0:=len) (d:=0) (m:=m) jJ lX lH ad (.inr ⟨y,rfl,qB,hlen⟩) nj ⟨ad,fun _=>rfl⟩ iN;have AG:=eI nj;have KJ:=eI qB;refine⟨.slice (some (if m=l then a else a.add (l*ie.size))) (b-l) (m-l),?_,?_⟩
         ·simp [Instr.sliceAt,run_underlying hu,Instr.slice,e1,dc]<;>split<;>rfl
         ·simp only [V];exact⟨hid,_,_,rfl,J,hB (es:=es) B hlen e2 AG J (.inr (.inl ⟨rfl,rfl⟩)) _ ad⟩
    ·rename_i cs n full;split at h
     ·split at h
      ·grind
      ·rename_i b nj;split at h
       ·grind
       ·rename_i l iN;split at h
        ·grind
        ·rename_i d hd;split at h
         ·grind
         ·rename_i d' rN;simp at h;subst h;simp only [V] at M;obtain⟨bb,o,cap,us,rfl,hn,sK,h4,h5,h6,h7⟩:=M;obtain⟨e1,e2⟩:=cB (P:=P) (w:=w) (isSlice:=true) (len:=n) (cap:=cap) (m0:=cap) (d:=0) (m:=cap) jJ lX lH ad (.inl ⟨rfl,rfl,ar _⟩) nj ⟨fun _=>hn,ad⟩ iN;have AG:=eI nj;obtain⟨g1,g2,g3⟩:=h5.b8 hd;obtain⟨g4,g5⟩:=g1.di rN;refine⟨.slice (some (if cap=l then⟨bb,o,none⟩ else (⟨bb,o,none⟩ : Addr).add (l*ie.size))) (b-l) (cap-l),?_,?_⟩
          ·simp [Instr.sliceAt,run_underlying hu,Instr.slice,e1,dc]<;>split<;>rfl
          ·simp only [V];by_cases AE:cap=l
           ·have h0:b-l=0:=J
            refine⟨bb,o,cap-l,(us.drop (l*ie.size)).take ((b-l)*ie.size),by rw [ak AE],J,fun _=>by omega,h4,g4,?_,fun u hu=>h7 u (aS (aT hu))⟩;rw [h0,aU];intro i u hu
            grind
           ·refine⟨bb,o+l*ie.size,cap-l,(us.drop (l*ie.size)).take ((b-l)*ie.size),by rw [ah AE,cj],J,?_,h4,g4,(h6.drop _).take _,fun u hu=>h7 u (aS (aT hu))⟩;intro hf
            grind
     ·rename_i y;split at h
      ·grind
      ·grind
      ·rename_i b0 m qB;split at h
       ·grind
       ·rename_i b nj;split at h
        ·grind
        ·rename_i l iN;split at h
         ·grind
         ·rename_i d hd;split at h
          ·grind
          ·rename_i d' rN;simp at h;subst h;simp only [V] at M;obtain⟨bb,o,cap,us,rfl,hn,sK,h4,h5,h6,h7⟩:=M;obtain⟨e1,e2⟩:=cB (P:=P) (w:=w) (isSlice:=true) (len:=n) (cap:=cap) (m0:=n) (d:=0) (m:=m) jJ lX lH ad (.inr ⟨y,rfl,qB,hn⟩) nj ⟨ad,fun _=>rfl⟩ iN;have AG:=eI nj;obtain⟨g1,g2,g3⟩:=h5.b8 hd;obtain⟨g4,g5⟩:=g1.di rN;refine⟨.slice (some (if m=l then⟨bb,o,none⟩ else (⟨bb,o,none⟩ : Addr).add (l*ie.size))) (b-l) (m-l),?_,?_⟩
           ·simp [Instr.sliceAt,run_underlying hu,Instr.slice,e1,dc]<;>split<;>rfl
           ·simp only [V];by_cases AE:m=l
            ·have h0:b-l=0:=J
             refine⟨bb,o,m-l,(us.drop (l*ie.size)).take ((b-l)*ie.size),by rw [ak AE],J,fun _=>by omega,h4,g4,?_,fun u hu=>h7 u (aS (aT hu))⟩;rw [h0,aU];intro i u hu
             grind
            ·refine⟨bb,o+l*ie.size,m-l,(us.drop (l*ie.size)).take ((b-l)*ie.size),by rw [ah AE,cj],J,?_,h4,g4,(h6.drop _).take _,fun u hu=>h7 u (aS (aT hu))⟩;intro hf
             grind
    grind
  ·rename_i n e R;have hu:=iB j5 R;split at h
   ·grind
   ·rename_i s hs;simp only [dj,az] at hs;obtain⟨ie,eA,rfl⟩:=hs;have dc:=fun w'=>bT (bx e ie eA) w';split at h
    ·rename_i id o;split at h
     ·grind
     ·rename_i IA;split at h
      ·grind
      ·rename_i m qB;split at h
       ·grind
       ·rename_i b nj;split at h
        ·grind
        ·rename_i l iN;simp at h;subst h;simp only [V] at M;obtain⟨rfl,hid⟩:=M
         have hm:(mx=none/\m=n/\n<=n)\/(∃x,mx=some x/\fP mx n n=some m/\n<=n):=by
          cases mx with
          |none=>exact .inl ⟨rfl,(na qB).1,ar _⟩
          |some y=>exact .inr ⟨y,rfl,qB,ar _⟩
         obtain⟨e1,e2⟩:=cB (P:=P) (w:=w) (isSlice:=false) (len:=n) (cap:=n) (m0:=n) (d:=n) (m:=m) jJ lX lH (by cases mx<;>cases hi<;>simp_all) hm nj ⟨fun _=>eI qB,fun _=>rfl⟩ iN;refine⟨.slice (some (if m=l then⟨(E.θ id).1,(E.θ id).2+o,none⟩ else (⟨(E.θ id).1,(E.θ id).2+o,none⟩ : Addr).add (l*ie.size))) (b-l) (m-l),?_,?_⟩
         ·simp [Instr.sliceAt,run_underlying hu,Instr.sureAddr,e1,dc]<;>split<;>rfl
         ·simp only [V,cg];refine⟨hid,_,_,rfl,by have:=eI nj; omega,rfl,?_⟩;by_cases AE:m=l
          ·grind
          ·left; rw [ah AE,cj,aQ]
    grind
  grind
end
section
variable {P:Program} {E:En} {w:World}
theorem oU {h:Array Obj}: ∀{cs:List Z} {us:List Value} {l:List Nat},kA cs=some l->bC E h cs us->us=(l.map UInt8.ofNat).map (fun b=>Value.int .u8 (b.toNat:Int))/\∀b∈l,b<256
 |[],us,l,O,U=>by
  simp [kA] at O;subst O;rw [cZ] at U
  grind
 |x::cs,us,l,O,U=>by
  rw [bt] at U;obtain⟨u,vs,rfl,N,h4⟩:=U;unfold kA at O;split at O
  ·rename_i he; simp at he
  ·rename_i b xs he;simp only [List.cons.injEq] at he;obtain⟨rfl,rfl⟩:=he;split at O
   ·rename_i K;split at O
    ·rename_i l' I;simp at O;subst O;obtain⟨e1,e2⟩:=oU I h4;simp only [V,Y.den] at N;refine⟨?_,?_⟩
     ·rw [N,e1];simp [aad,bg K]
     grind
    grind
   grind
  grind
theorem mO [bp] {tt:TT} (bx:bV P tt) {H H':Hp} (r:bq E H w) {sT dT:Nat} {x v:Z} {u:Value} (M:V E w.heap x u) (h:gG tt sT dT x H=some (v,H')) :
 ∃y w' E',(convert sT dT u).run P w= .ok y w'/\ca E H w E' H' w'/\bq E' H' w'/\V E' w'.heap v y:=by
 unfold gG at h;split at h
 ·grind
 ·rename_i j hj;obtain⟨sd,E9,KF⟩:=iM (bx sT j hj);split at h
  ·rename_i i hi;have cN:=bx dT i hi;split at h
   ·rename_i k R;have hd:=gz cN R;split at h
    ·rename_i kk n;simp only [af,ag] at h;obtain⟨rfl,rfl⟩:=h;simp only [V] at M;subst M;refine⟨.int k (k.wrap n),w,E,?_,ca.refl _ _ _,r,by simp only [V,Y.den,ef]⟩;simp [convert,run_underlying E9,run_underlying hd,Conv.intToInt,Y.den]
    ·rename_i kk e dV;simp only [af,ag] at h;obtain⟨rfl,rfl⟩:=h;simp only [V] at M;subst M;refine⟨.int k (k.wrap (e.den E.ρ)),w,E,?_,ca.refl _ _ _,r,by simp only [V,Y.den]⟩;simp [convert,run_underlying E9,run_underlying hd,Conv.intToInt]
    grind
   ·rename_i R;have hd:=cx cN R;split at h
    ·rename_i IB;split at h
     ·rename_i s;simp only [af,ag] at h;obtain⟨rfl,rfl⟩:=h;have D2:=M;simp only [V] at M;obtain⟨rfl,_⟩:=M;refine⟨_,w,E,?_,ca.refl _ _ _,r,D2⟩;simp [convert,run_underlying (cx (bx sT j hj) IB),run_underlying hd]
     grind
    ·rename_i e IB;have hs:=cn (bx sT j hj) IB;split at h
     ·grind
     ·rename_i ie eA;split at h
      ·rename_i Iy;have he:=gz (bx e ie eA) Iy.1;split at h
       ·simp only [af,ag] at h;obtain⟨rfl,rfl⟩:=h;simp only [V] at M;subst M;refine⟨.string .empty,w,E,?_,ca.refl _ _ _,r,?_⟩
        ·rw [run_convert_bytes_string w sT dT e none 0 0 hs he hd];rfl
        ·simp only [V];exact⟨rfl,ad⟩
       ·rename_i id o len c;split at h
        ·rename_i cs Fw;rw [az] at h;obtain⟨l,I,ID⟩:=h;simp only [ag] at ID;obtain⟨rfl,rfl⟩:=ID;simp only [V] at M;obtain⟨hid,a,cap,rfl,ee,B⟩:=M;obtain⟨b,o',us,e1,e2,e3,e4,e5⟩:=kJ r (p:=.ptr id o) (u:=.pointer (some ⟨(E.θ id).1,(E.θ id).2+o,none⟩)) (by simp only [V]; exact⟨trivial,hid⟩) Fw;obtain⟨e6,e7⟩:=oU I e3
         have hlen:len=(l.map UInt8.ofNat).length:=by
          grind
         have ha:a=⟨(E.θ id).1,(E.θ id).2+o,none⟩\/len=0:=by
          cases c with
          |exact c=>
           simp only [cg] at B
           grind
          |rest es=>
           simp only [cg] at B
           grind
         refine⟨.string (bG l),w,E,?_,ca.refl _ _ _,r,by simp only [V]; exact⟨trivial,e7⟩⟩;rw [hlen];refine run_convert_bytes_back w sT dT e a cap (l.map UInt8.ofNat) hs he hd fun k R=>?_;rcases ha with ha|ha
         ·subst ha;rw [cj,gj];simp only [Value.pointer.injEq,af,Addr.mk.injEq] at e1;obtain⟨Kh,Kg,_⟩:=e1;rw [Kh,Kg];refine e4 k _ ?_
          grind
         ·omega
        grind
       grind
      grind
    grind
   ·rename_i e R;have hd:=cn cN R;split at h
    ·grind
    ·rename_i ie eA;split at h
     ·rename_i Iy;have he:=gz (bx e ie eA) Iy.1;split at h
      ·rename_i s;simp only [af,ag] at h;obtain⟨rfl,rfl⟩:=h;simp only [V] at M;obtain⟨rfl,c6⟩:=M;have hs:=cx (bx sT j hj) Iy.2;have dc:(bG s).size=s.length:=ep s;have Cv:=grownCap_ge w (bG s).size 0 e
       have fG:(bytesRow (bG s) (grownCap w (bG s).size 0 e)).size=grownCap w (bG s).size 0 e:=by have O:(bG s).data.size=s.length:=dc;simp only [bytesRow,Array.size_append,Array.size_map,Array.size_replicate,O];omega
       have W:bC E w.heap (s.map fun c=>Z.int .u8 (.lit (Int.ofNat c))) ((s.map UInt8.ofNat).map (fun b=>Value.int .u8 (b.toNat:Int))):=by
        clear Cv fG dc
        induction s with
        |nil=>simp [bC]
        |cons b s ih=> have K:=c6 b ad;rw [au,au,au,bt];refine⟨_,_,rfl,?_,ih fun c B=>c6 c (by simp [B])⟩;simp [V,Y.den,aad,bg K]
       obtain⟨s1,s2⟩:=du r (bytesRow (bG s) (grownCap w (bG s).size 0 e)) (bytesRow (bG s) (grownCap w (bG s).size 0 e)).size ((bytesRow (bG s) (grownCap w (bG s).size 0 e)).size+1) e W
        (by intro u hu; simp only [aF] at hu; obtain⟨b,_,rfl⟩:=hu; rfl)
        (by
         intro k u hu;have R:=(aL.1 hu).1;simp only [aaN] at R;simp only [bytesRow];rw [abv (by have O:(bG s).data.size=s.length:=dc; simp only [Array.size_map,O]; exact R)];rw [<- hu]
         simp [bG])
        (by intro o O U; omega)
        (w':=w.drew.alloc (.cells (bytesRow (bG s) (grownCap w (bG s).size 0 e)) e ((bytesRow (bG s) (grownCap w (bG s).size 0 e)).size,(bytesRow (bG s) (grownCap w (bG s).size 0 e)).size+1))) rfl ⟨rfl,rfl,rfl⟩
       refine⟨_,_,_,run_bytes_of_string w sT dT e (bG s) hs hd he,s1,s2,?_⟩;simp only [V,dc];refine⟨En.cQ _ _ _ _,⟨w.heap.size,0,none⟩,_,rfl,by rw [<- dc]; exact Cv,?_⟩;simp only [cg,En.ext_θ_new,En.ext_κ_new]
       grind
      grind
     grind
   grind
  grind
end
section
variable {P:Program} {E:En} {w:World}
def o7 (d:TypeDesc):TK->Prop
 | .int _=> ∃k,d= .int k
 | .string=>d= .string
 | .bool=>d= .bool
 |_=>False
theorem lF {tt:TT} (bx:bV P tt) {t:Nat} {kk:TK} (h:kM tt t=some kk): ∃d,P.underlying t=some d/\o7 d kk:=by
 unfold kM at h;split at h
 ·rename_i i hi;split at h<;>simp only [af,reduceCtorEq] at h<;>subst h
  ·rename_i k R; exact⟨_,gz (bx t i hi) R,k,rfl⟩
  ·rename_i R; exact⟨_,cx (bx t i hi) R,rfl⟩
  ·rename_i R; exact⟨_,u9 (bx t i hi) R,rfl⟩
 grind
theorem AT {x y:List Nat} (M: ∀b∈x,b<256) (hy: ∀b∈y,b<256):(bG x == bG y)=dB x y:=by
 have e:(bG x == bG y)=((bG x).data == (bG y).data):=rfl;rw [e,aX,beq_iff_eq,eV];constructor
 ·intro h;have U:=congrArg (fun b=>b.toList) h;simp only [bG] at U
  grind [map_inj]
 grind
theorem vD {h:Array Obj} {pc:List (SB×Bool)} (F:bu E.ρ pc) {kk:TK} {d:TypeDesc} (hd:o7 d kk) {a b:Z} {u u':Value} (ha:V E h a u) (K:V E h b u') {c:Bool} (B:yR pc kk a b=some c) :
 Instr.sameNow d u u'=some c/\(c=true->∀n,Instr.sameBits (n+1) u' u=true):=by
 unfold yR at B;split at B
 ·obtain⟨k,rfl⟩:=hd;split at B
  ·simp only [V] at ha K;subst ha K;split at B
   ·rename_i R;subst R;have B:=cR F B;rw [cW] at B;subst B;refine⟨by simp [Instr.sameNow],fun hh n=>?_⟩;simp at hh;simp [Instr.sameBits,hh]
   grind
  grind
 ·simp only [o7] at hd;subst hd;split at B
  ·simp only [V] at ha K;obtain⟨rfl,ha⟩:=ha;obtain⟨rfl,K⟩:=K;simp at B;subst B;have he:=AT ha K;refine⟨by simp only [Instr.sameNow,he],fun hh n=>?_⟩;simp only [Instr.sameBits]
   grind [eV]
  ·split at B
   ·rename_i c0 h0;obtain⟨x,y,rfl,rfl,hd⟩:=pL ha K h0;have B:=cR F B;rw [hd] at B
    have KW: ∀p q:ByteArray,(p == q)=decide (p=q):=by
     intro p q;rw [aX,decide_eq_true_eq];have e:(p == q)=(p.data == q.data):=rfl;rw [e,beq_iff_eq];constructor
     ·intro h; cases p; cases q; simp only at h; rw [h]
     grind
    refine⟨by simp only [Instr.sameNow,KW,B],fun hh n=>?_⟩;simp only [Instr.sameBits,KW]
    grind
   grind
 ·simp only [o7] at hd;subst hd;split at B
  ·simp only [V,SB.den] at ha K;subst ha K;simp at B;subst B;refine⟨by simp [Instr.sameNow],fun hh n=>?_⟩;simp at hh;simp [Instr.sameBits,hh]
  grind
 grind
theorem bX {t:Nat} {kk:TK} {d:TypeDesc} (hu:P.underlying t=some d) (hd:o7 d kk) (b:Bool) (v:Value):(Instr.checkKey b 10000 t v).run P w= .ok () w:=by
 have h0:(10000:Nat)=9999+1:=rfl;rw [h0];generalize (9999:Nat)=n;cases kk<;>simp only [o7] at hd
 ·subst hd; simp [Instr.checkKey,run_underlying hu]
 ·obtain⟨k,rfl⟩:=hd; simp [Instr.checkKey,run_underlying hu]
 ·subst hd; simp [Instr.checkKey,run_underlying hu]
theorem gU {h:Array Obj} {pc:List (SB×Bool)} (F:bu E.ρ pc) {kk:TK} {d:TypeDesc} (hd:o7 d kk) {k:Z} {u:Value} (R:V E h k u): ∀{es:List (Z×Z×Nat)} {bo:List MapEntry} {i:Nat} {res:Option (Nat×Z)},
 bY E h es bo->oN pc kk k es i=some res->
 (res=none/\Instr.findNow d u bo i=some none)\/
 (∃j v e,res=some (i+j,v)/\bo[j]?=some e/\V E h v e.val/\Instr.findNow d u bo i=some (some (i+j,e.val))/\∀n,Instr.sameBits (n+1) e.key u=true)
 |[],bo,i,res,he,hf=>by simp only [bY] at he;subst he;simp [oN] at hf;exact .inl ⟨hf.symm,by simp [Instr.findNow]⟩
 |(k',v,b)::es,bo,i,res,he,hf=>by
  simp only [bY] at he;obtain⟨e,r,rfl,O,U,N,h4⟩:=he;simp only [oN] at hf;split at hf
  ·rename_i B;simp at hf;subst hf;obtain⟨g1,g2⟩:=vD F hd R O B;exact .inr ⟨0,v,e,rfl,rfl,U,by simp [Instr.findNow,g1],g2 rfl⟩
  ·rename_i B;obtain⟨g1,g2⟩:=vD F hd R O B;rcases gU F hd R h4 hf with ⟨q1,q2⟩|⟨j,v',e',q1,q2,q3,q4,q5⟩
   ·exact .inl ⟨q1,by simp [Instr.findNow,g1,q2]⟩
   ·refine .inr ⟨j+1,v',e',?_,by simpa using q2,q3,?_,q5⟩
    ·grind
    ·simp only [Instr.findNow,g1,q4]; congr 3; omega
  grind
theorem cr {t:Nat} {d:TypeDesc} (hu:P.underlying t=some d) {u:Value} {bo:List MapEntry} {r:Option (Nat×Value)} (h:Instr.findNow d u bo 0=some r):(Instr.findKey t u bo).run P w= .ok r w:=by simp [Instr.findKey,run_underlying hu,h]
theorem bW {r:Nat} {o:Obj} (h:w.heap[r]?=some o) (hn: ∀c e f,o≠.cells c e f):(getObj r).run P w= .ok o w:=by
 unfold getObj;cases o<;>first |exact absurd rfl (hn _ _ _)|simp only [Sem.run,h]
theorem cO {r:Nat} {o o':Obj} (h:w.heap[r]?=some o) (hn: ∀c e f,o≠.cells c e f):(setObj r o').run P w= .ok () { w with heap:=w.heap.setIfInBounds r o' }:=by
 unfold setObj;cases o<;>first |exact absurd rfl (hn _ _ _)|simp only [Sem.run,h]
theorem cL [bp] {H:Hp} (r:bq E H w) {id:Nat} {o:bS} (I:H.get id=some o) (ao:bS) (o':Obj)
 (ho: ∀h',h'[(E.θ id).1]?=some o'->c9 E w.heap E h'->OR E h' id ao) :
 ca E H w E (H.put id ao) { w with heap:=w.heap.setIfInBounds (E.θ id).1 o' }/\bq E (H.put id ao) { w with heap:=w.heap.setIfInBounds (E.θ id).1 o' }:=by
 have c6:=eO r I
 have eF: ∀b,b≠(E.θ id).1->({ w with heap:=w.heap.setIfInBounds (E.θ id).1 o' }:World).heap[b]?=w.heap[b]?:=fun b K=>by
  grind
 refine pY r I ao ad eF ⟨rfl,rfl,rfl⟩ (ho _ ?_ (ed r I eF))
 grind
theorem zC.l6 {k v:Z}: ∀(es:List (Z×Z×Nat)) (i:Nat),(fj k v es i).map (·.2.2)=es.map (·.2.2)
 |[],_=>rfl
 |_::_,0=>rfl
 |_::es,i+1=>by simp only [fj,au,zC.l6 es i]
theorem zC.s7: ∀(es:List (Z×Z×Nat)) (i:Nat),(dK es i).map (·.2.2)=(es.map (·.2.2)).eraseIdx i
 |[],_=>by simp [dK]
 |_::_,0=>by simp [dK]
 |_::es,i+1=>by simp only [dK,au,aaS,zC.s7 es i]
theorem mR {α β:Type} (f:α->β): ∀(l:List α) (i:Nat),(l.eraseIdx i).map f=(l.map f).eraseIdx i
 |[],_=>by simp
 |_::_,0=>by simp
 |_::l,i+1=>by simp [mR f l i]
theorem zC.erase {c c':Nat} {es:List (Z×Z×Nat)} {l:List MapEntry} {i:Nat} (h:zC c es l c'):zC c (dK es i) (l.eraseIdx i) c':=by
 cases c with
 |zero=>trivial
 |succ c=>exact⟨h.1,by rw [zC.s7,mR,h.2]⟩
theorem zC.set {k v:Z} {f:MapEntry->MapEntry} (hf: ∀e,(f e).born=e.born) {c c':Nat} {es:List (Z×Z×Nat)} {bo:Array MapEntry} {i:Nat} (h:zC c es bo.toList c'):zC c (fj k v es i) (bo.modify i f).toList c':=by
 cases c with
 |zero=>trivial
 |succ c=>
  refine⟨h.1,?_⟩;rw [zC.l6,<- h.2];apply aaz;intro j;simp only [bc,aK,aa5];split
  ·cases bo[j]?<;>simp [hf]
  ·rfl
theorem bY.length {h:Array Obj}: ∀{es:List (Z×Z×Nat)} {bo:List MapEntry},bY E h es bo->bo.length=es.length
 |[],bo,he=>by simp only [bY] at he; simp [he]
 |(k,v,b)::es,bo,he=>by simp only [bY] at he;obtain⟨e,r,rfl,_,_,_,h4⟩:=he;simp [h4.length]
theorem bY.set {h:Array Obj} {k v:Z} {uk uv:Value} (R:V E h k uk) (W:V E h v uv): ∀{es:List (Z×Z×Nat)} {bo:List MapEntry} {i:Nat} {e:MapEntry},bY E h es bo->bo[i]?=some e->
 bY E h (fj k v es i) (bo.set i { e with key:=uk,val:=uv })
 |[],bo,i,e,he,hi=>by simp only [bY] at he; subst he; simp at hi
 |(k',v',b)::es,bo,0,e,he,hi=>by
  simp only [bY] at he;obtain⟨e0,r,rfl,O,U,N,h4⟩:=he;simp at hi;subst hi;simp only [fj,aaB,bY]
  grind
 |(k',v',b)::es,bo,i+1,e,he,hi=>by simp only [bY] at he;obtain⟨e0,r,rfl,O,U,N,h4⟩:=he;simp only [fj,aaC,bY];exact⟨e0,_,rfl,O,U,N,bY.set R W h4 (by simpa using hi)⟩
theorem bY.push {h:Array Obj} {k v:Z} {uk uv:Value} {c c':Nat} (R:V E h k uk) (W:V E h v uv): ∀{es:List (Z×Z×Nat)} {bo:List MapEntry},bY E h es bo->
 bY E h (es++ [(k,v,c)]) (bo++ [{ key:=uk,val:=uv,born:=c' }])
 |[],bo,he=>by
  simp only [bY] at he;subst he;simp only [aab,bY]
  grind
 |(k',v',b)::es,bo,he=>by simp only [bY] at he;obtain⟨e0,r,rfl,O,U,N,h4⟩:=he;simp only [aM,bY];exact⟨e0,_,rfl,O,U,N,bY.push R W h4⟩
theorem bY.erase {h:Array Obj}: ∀{es:List (Z×Z×Nat)} {bo:List MapEntry} {i:Nat},bY E h es bo->bY E h (dK es i) (bo.eraseIdx i)
 |[],bo,i,he=>by simp only [bY] at he; subst he; simp [dK,bY]
 |(k',v',b)::es,bo,0,he=>by
  simp only [bY] at he;obtain⟨e0,r,rfl,O,U,N,h4⟩:=he
  grind [dK]
 |(k',v',b)::es,bo,i+1,he=>by simp only [bY] at he;obtain⟨e0,r,rfl,O,U,N,h4⟩:=he;simp only [dK,aaS,bY];exact⟨e0,_,rfl,O,U,N,bY.erase h4⟩
theorem nn {t:Nat} {i:TI} (cN:fg P t i) {z:Z} (h:zeroOf i=some z): ∃u,(zeroValue t).run P w= .ok u w/\V E w.heap z u:=by
 obtain⟨inf,d,zv,O,U,N,h4,h5,h6,h7,h8⟩:=cN.all;have hz:=b9 (E:=E) (h:=w.heap) h4;have hr:(zeroValue t).run P w= .ok zv w:=by simp [zeroValue,typeInfo,O,N]
 refine⟨zv,hr,?_⟩;unfold zeroOf at h;split at h
 ·rename_i ha;simp at h;subst h;rw [ha] at h8;cases zv<;>simp only [tQ,reduceCtorEq] at h8;rename_i cs;simp only [V];exact⟨cs.toList,ad,hz.1⟩
 ·rename_i ha;split at h
  ·rename_i v W;simp at h;subst h;rw [W] at hz;obtain⟨u,vs,e1,e2,e3⟩:=bt.1 hz.1;rw [cZ] at e3;subst e3;rw [ha] at h8;have:zv=u:=by cases zv<;>simp_all [tQ,Value.cells]
   grind
  grind
end
theorem nr (ρ:Nat->Int) (x:Y):(l7 x).den ρ=(dec (x.den ρ)).n:=by
 unfold l7;split
 ·split
  ·simp only [Y.den,c8.den,bn,D.n]
  ·simp only [Y.den,c8.den]
 ·split
  ·simp only [Y.den,bn,D.n]
  ·simp only [Y.den,c8.den]
 ·simp only [Y.den,c8.den]
theorem fS (ρ:Nat->Int) (x:Y):(gM x).den ρ=enc (.i (x.den ρ)):=by unfold gM;split<;>simp only [Y.den,c8.den]
theorem mz (a b:D):(D.p a b).hd 0=a:=by simp [D.hd,D.l]
theorem mA (a b:D) (j:Nat):(D.p a b).hd (j+1)=b.hd j:=by simp [D.hd,D.l]
theorem jd (ρ:Nat->Int): ∀(j:Nat) (x:Y),dec ((dr j x).den ρ)=(dec (x.den ρ)).hd j
 |j,.op o a b=>by
  unfold dr
  cases o with
  |cons=>
   cases j with
   |zero=>simp only [Y.den,c8.den,bn,mz]
   |succ j=>simp only [jd ρ j b,Y.den,c8.den,bn,mA]
  |_=>simp only [Y.den,c8.den,bn]
 |j,.lit n=>by simp only [dr,Y.den,c8.den,bn]
 |j,.pE n=>by simp only [dr,Y.den,c8.den,bn]
 |j,.add _ _=>by simp only [dr,Y.den,c8.den,bn]
 |j,.sub _ _=>by simp only [dr,Y.den,c8.den,bn]
 |j,.mul _ _=>by simp only [dr,Y.den,c8.den,bn]
 |j,.quo _ _=>by simp only [dr,Y.den,c8.den,bn]
 |j,.rem _ _=>by simp only [dr,Y.den,c8.den,bn]
 |j,.wrap _ _=>by simp only [dr,Y.den,c8.den,bn]
 |j,.k8 _ _=>by simp only [dr,Y.den,c8.den,bn]
 |j,.cE _=>by simp only [dr,Y.den,c8.den,bn]
 |j,.ap _ _=>by simp only [dr,Y.den,c8.den,bn]
theorem bz (ρ:Nat->Int): ∀x:Y,(bL x).den ρ=((dec (x.den ρ)).l.length:Int)
 | .op o a b=>by
   unfold bL
   cases o with
   |set=>
    simp only [bz ρ a,Y.den,c8.den];split
    ·simp only [bn,ch,l4]
    ·rfl
   |_=>simp only [Y.den,c8.den]
 | .lit n=>by simp only [bL,Y.den,c8.den]
 | .pE n=>by simp only [bL,Y.den,c8.den]
 | .add _ _=>by simp only [bL,Y.den,c8.den]
 | .sub _ _=>by simp only [bL,Y.den,c8.den]
 | .mul _ _=>by simp only [bL,Y.den,c8.den]
 | .quo _ _=>by simp only [bL,Y.den,c8.den]
 | .rem _ _=>by simp only [bL,Y.den,c8.den]
 | .wrap _ _=>by simp only [bL,Y.den,c8.den]
 | .k8 _ _=>by simp only [bL,Y.den,c8.den]
 | .cE d=>by simp only [bL,Y.den,bn]; rfl
 | .ap _ _=>by simp only [bL,Y.den,c8.den]
theorem Rd.slice {ro:Nat->Prop} {h:Array Obj} {t:Nat} {d:D} {v:Value} (r:Rd ro h (.sl t) d v): ∃x cap,v= .slice x d.l.length cap/\d.l.length<=cap:=by
 generalize B:CK.sl t=c at r
 cases r with
 |int k n=>simp at B
 |bool b=>simp at B
 |str s=>simp at B
 |nil t=>exact⟨none,0,rfl,by simp [D.l]⟩
 |nh t a cap=>exact⟨some a,cap,rfl,by simp [D.l]⟩
 |one t c b o cap ds f hr vT K O U=>exact⟨_,cap,by rw [ch],by rw [ch]; exact vT⟩
 |many t cs b o cap rows f hr vT K I O U=>exact⟨some ⟨b,o,none⟩,cap,ad,by simpa using vT⟩
theorem Rd.string {ro:Nat->Prop} {h:Array Obj} {d:D} {v:Value} (r:Rd ro h .str d v): ∃s,v= .string s/\d=lP s:=by
 cases r with
 |str s=>exact⟨s,rfl,rfl⟩
def dC (ro:Nat->Prop) (h:Array Obj) (c:CK) (d:D) (u:Value):Prop:=match c with
 | .int k=>u= .int k d.n
 | .bool=>u= .bool (!(d.n == 0))
 |c=>Rd ro h c d u
theorem gI {E:En} {h:Array Obj} {c:CK} {x:Y} {u:Value}:V E h (kz c x) u↔dC E.ro h c (dec (x.den E.ρ)) u:=by cases c<;>simp only [kz,dC,V,SB.den,nr,Y.den]
theorem Rd.cell {ro:Nat->Prop} {h:Array Obj} {c:CK} {d:D} {u:Value} (r:Rd ro h c d u):dC ro h c d u:=by
 cases r with
 |int k n=>simp [dC,D.n]
 |bool b=>cases b<;>simp [dC,D.n]
 |str s=>exact .str s
 |nil t=>exact .nil t
 |nh t a cap=>exact .nh t a cap
 |one t c b o cap ds f hr B K O U=>exact .one t c b o cap ds f hr B K O U
 |many t cs b o cap rows f hr B K I O U=>exact .many t cs b o cap rows f hr B K I O U
theorem dC.one {ro:Nat->Prop} {h:Array Obj} {c:CK} {d:D} {u:Value} (r:dC ro h c d u):u.oneCell'=true:=by
 cases c with
 |int k=>simp only [dC] at r; subst r; rfl
 |bool=>simp only [dC] at r; subst r; rfl
 |str=>exact Rd.C8 r
 |sl t=>exact Rd.C8 r
def bK (ro:Nat->Prop) (h:Array Obj):List CK->Nat->D->List Value->Prop
 |[],_,_,us=>us= []
 |c::cs,j,d,us=> ∃u vs,us=u::vs/\dC ro h c (d.hd j) u/\bK ro h cs (j+1) d vs
def k4 (ro:Nat->Prop) (h:Array Obj) (r:Row) (d:D) (us:List Value):Prop:=match r with
 | .one c=> ∃u,us= [u]/\dC ro h c d u
 | .many cs=>bK ro h cs 0 d us
theorem fO {E:En} {h:Array Obj} {x:Y}: ∀{cs:List CK} {j:Nat} {us:List Value},bC E h (df cs j x) us↔bK E.ro h cs j (dec (x.den E.ρ)) us
 |[],j,us=>by simp only [df,bC,bK]
 |c::cs,j,us=>by
  simp only [df,bt,bK];constructor
  ·rintro⟨u,vs,rfl,O,U⟩;exact⟨u,vs,rfl,by rw [gI,jd] at O; exact O,fO.1 U⟩
  ·rintro⟨u,vs,rfl,O,U⟩;exact⟨u,vs,rfl,by rw [gI,jd]; exact O,fO.2 U⟩
theorem cF {E:En} {h:Array Obj} {r:Row} {x:Y} {us:List Value}:bC E h (cT r x) us↔k4 E.ro h r (dec (x.den E.ρ)) us:=by
 cases r with
 |one c=>
  simp only [cT,bt,cZ,k4];constructor
  ·rintro⟨u,vs,rfl,O,rfl⟩
   grind [gI]
  grind [gI]
 |many cs=>simp only [cT,k4,fO]
theorem iR (x:Y): ∀(cs:List CK) (j:Nat),(df cs j x).length=cs.length
 |[],_=>rfl
 |_::cs,j=>by simp [df,iR x cs]
theorem cV (r:Row) (x:Y):(cT r x).length=r.es:=by cases r<;>simp [cT,Row.es,iR]
theorem bK.iJ {ro:Nat->Prop} {h:Array Obj} {d:D}: ∀{cs:List CK} {j:Nat} {us:List Value},bK ro h cs j d us->∀u∈us,u.oneCell'=true
 |[],_,_,hh,u,hu=>by simp only [bK] at hh; subst hh; simp at hu
 |c::cs,j,us,hh,u,hu=>by
  simp only [bK] at hh;obtain⟨x,vs,rfl,O,U⟩:=hh;rcases aw.1 hu with rfl|hu
  ·exact O.one
  ·exact U.iJ u hu
theorem k4.iJ {ro:Nat->Prop} {h:Array Obj} {r:Row} {d:D} {us:List Value} (hh:k4 ro h r d us): ∀u∈us,u.oneCell'=true:=by
 cases r with
 |one c=> obtain⟨u,rfl,O⟩:=hh;intro x M;simp at M;subst M;exact O.one
 |many cs=>exact bK.iJ hh
theorem bC.split {E:En} {h:Array Obj}: ∀{xs ys:List Z} {us:List Value},bC E h (xs++ys) us->∃a b,us=a++b/\bC E h xs a/\bC E h ys b
 |[],ys,us,hh=> ⟨[],us,rfl,by simp only [bC],hh⟩
 |x::xs,ys,us,hh=>by rw [aM,bt] at hh;obtain⟨u,vs,rfl,O,U⟩:=hh;obtain⟨a,b,rfl,N,h4⟩:=U.split;exact⟨u::a,b,rfl,by rw [bt]; exact⟨u,a,rfl,O,N⟩,h4⟩
theorem eu {ρ:Nat->Int} {i:Nat} {cs:List Z}: ∀{ov:List (Y×List Z)},bO ρ i ov=some cs->∃p∈ov,p.2=cs/\p.1.den ρ=(i:Int)
 |[],h=>by simp [bO] at h
 |(j,c)::l,h=>by
  simp only [bO] at h;split at h
  ·rename_i hj;simp only [af] at h;exact⟨(j,c),ad,h,hj⟩
  ·obtain⟨p,O,U⟩:=eu h
   grind
theorem bB {ρ:Nat->Int} {r:Row} {ov:List (Y×List Z)} (ho:jY r ov): ∀(ds:List D) (i:Nat),(bk ρ r ov ds i).length=ds.length*r.es
 |[],i=>by simp [bk]
 |d::ds,i=>by
  simp only [bk,aO,bB ho ds (i+1),aA,aW,aam];split
  ·rename_i cs h;obtain⟨p,O,U,_⟩:=eu h;rw [<- U,ho p O]; omega
  grind [cV]
theorem eQ {ρ:Nat->Int} {r:Row} {ov:List (Y×List Z)}: ∀(xs ys:List D) (i:Nat),bk ρ r ov (xs++ys) i=bk ρ r ov xs i++bk ρ r ov ys (i+xs.length)
 |[],ys,i=>by simp [bk]
 |d::ds,ys,i=>by
  simp only [aM,bk,eQ ds ys (i+1),aae,aA]
  grind
section
variable {P:Program} {E:En} {w:World}
theorem mn [bp] {H:Hp} (r:bq E H w) {id c:Nat} {es:List (Z×Z×Nat)} (I:H.get id=some (.map es c)): ∃bo c',w.heap[(E.θ id).1]?=some (.map bo c')/\bY E w.heap es bo.toList/\zC c es bo.toList c':=
 (r.live id _ I).2.1
theorem wj [bp] {tt:TT} (bx:bV P tt) {pc:List (SB×Bool)} (F:bu E.ρ pc) {H:Hp} (r:bq E H w) {t:Nat} {m k v:Z} {um uk:Value} {ok:Bool} (hm:V E w.heap m um) (R:V E w.heap k uk) (h:qU tt pc t m k ok H=some v) :
 ∃x,(Instr.lookup t um uk ok).run P w= .ok x w/\V E w.heap v x:=by
 unfold qU at h;split at h
 ·rename_i ti cN;split at h
  ·rename_i kt et mu;have hu:=iZ (bx t ti cN) mu;split at h
   ·grind
   ·rename_i kk j7;obtain⟨d,lI,dX⟩:=lF bx j7;split at h
    ·grind
    ·rename_i ie eA
     have key: ∀(es:List (Z×Z×Nat)) (bo:Array MapEntry),bY E w.heap es bo.toList->
      (match oN pc kk k es 0 with
       |none=>none
       |some (some (_,v))=>some (if ok then .tuple [v,.bool (.lit true)] else v)
       |some none=>match zeroOf ie with
        |none=>none
        |some z=>some (if ok then .tuple [z,.bool (.lit false)] else z))=some v->
      ∃(o:Option (Nat×Value)) (x:Value),(Instr.findKey kt uk bo.toList).run P w= .ok o w/\
       (match o with
        |some (_,y)=>x=(if ok then .tuple #[y,.bool true] else y)
        |none=> ∃z,(zeroValue et).run P w= .ok z w/\x=(if ok then .tuple #[z,.bool false] else z))/\V E w.heap v x:=by
      intro es bo he hh;split at hh
      ·simp at hh
      ·rename_i j v' hf;simp at hh;subst hh;rcases gU F dX R he hf with ⟨q1,_⟩|⟨jj,v2,e,q1,q2,q3,q4,q5⟩
       ·simp at q1
       ·simp only [af,ag] at q1;obtain⟨rfl,rfl⟩:=q1;refine⟨_,_,cr lI q4,rfl,?_⟩;cases ok
        ·exact q3
        ·simp only [if_true,V,bC];exact⟨[e.val,.bool true],rfl,_,_,rfl,q3,_,_,rfl,by simp [SB.den],rfl⟩
      ·rename_i hf;split at hh
       ·simp at hh
       ·rename_i z hz;simp at hh;subst hh;obtain⟨u,e1,e2⟩:=nn (P:=P) (w:=w) (E:=E) (bx et ie eA) hz;rcases gU F dX R he hf with ⟨_,q2⟩|⟨jj,v2,e,q1,_⟩
        ·refine⟨none,_,cr lI q2,⟨u,e1,rfl⟩,?_⟩;cases ok
         ·exact e2
         ·simp only [if_true,V,bC];exact⟨[u,.bool false],rfl,_,_,rfl,e2,_,_,rfl,by simp [SB.den],rfl⟩
        ·simp at q1
     split at h
     ·grind
     ·rename_i es eG;unfold tJ at eG;split at eG
      ·simp at eG;subst eG;simp only [V] at hm;subst hm;obtain⟨o,x,e1,e2,e3⟩:=key [] #[] (by simp [bY]) h;refine⟨x,?_,e3⟩
       cases o with
       |none=> obtain⟨z,e4,rfl⟩:=e2;cases ok<;>simp [Instr.lookup,run_underlying hu,bX lI dX,e1,e4]
       |some p=> obtain⟨j,y⟩:=p;simp only at e2;subst e2;cases ok<;>simp [Instr.lookup,run_underlying hu,bX lI dX,e1]
      ·rename_i id;split at eG
       ·rename_i Ms c I;simp at eG;subst eG;simp only [V] at hm;obtain⟨rfl,hid⟩:=hm;obtain⟨bo,c',g1,g2,gS⟩:=mn r I;have hg:=bW (P:=P) g1 ad;obtain⟨o,x,e1,e2,e3⟩:=key Ms bo g2 h;refine⟨x,?_,e3⟩
        cases o with
        |none=> obtain⟨z,e4,rfl⟩:=e2;cases ok<;>simp [Instr.lookup,run_underlying hu,hg,bX lI dX,e1,e4]
        |some p=> obtain⟨j,y⟩:=p;simp only at e2;subst e2;cases ok<;>simp [Instr.lookup,run_underlying hu,hg,bX lI dX,e1]
       grind
      grind
  grind
 grind
theorem lC {α:Type} (bo:Array α) (i:Nat) (e:α) (f:α->α) (h:bo.toList[i]?=some e):(bo.modify i f).toList=bo.toList.set i (f e):=by
 apply aaz;intro j
 grind
theorem kj [bp] {tt:TT} (bx:bV P tt) {pc:List (SB×Bool)} (F:bu E.ρ pc) {H H':Hp} (r:bq E H w) {t:Nat} {m k v:Z} {um uk uv:Value} (hm:V E w.heap m um) (R:V E w.heap k uk) (W:V E w.heap v uv) (h:ic tt pc t m k v H=some H') :
 ∃w',(Instr.mapUpdate t um uk uv).run P w= .ok () w'/\ca E H w E H' w'/\bq E H' w':=by
 unfold ic at h;split at h
 ·rename_i ti cN;split at h
  ·rename_i kt et mu;have hu:=iZ (bx t ti cN) mu;split at h
   ·grind
   ·rename_i kk j7;obtain⟨d,lI,dX⟩:=lF bx j7;split at h
    ·rename_i id;split at h
     ·rename_i es c I;simp only [V] at hm;obtain⟨rfl,hid⟩:=hm;obtain⟨bo,c',g1,g2,gS⟩:=mn r I;have hg:=bW (P:=P) g1 ad;split at h
      ·grind
      ·rename_i i v' hf;simp at h;subst h;rcases gU F dX R g2 hf with ⟨q1,_⟩|⟨jj,v2,e,q1,q2,q3,q4,q5⟩
       ·grind
       ·simp only [af,ag,ax] at q1;obtain⟨rfl,rfl⟩:=q1;simp only [ax] at q4
        have HF:(Instr.keyThatStays (((bo[i]?).map (·.key)).getD uk) uk).run P w= .ok uk w:=by rw [aK] at q2;simp only [q2,aR,aI,Instr.keyThatStays];simp_all
        refine⟨_,?_,cL r I (.map (fj k v es i) c) (.map (bo.modify i fun e=>{ e with key:=uk,val:=uv }) c') ?_⟩
        ·simp [Instr.mapUpdate,run_underlying hu,hg,bX lI dX,cr lI q4,HF,cO (P:=P) g1]
        ·intro h' hh kp;simp only [OR];refine⟨_,_,hh,?_,gS.set (f:=fun e=>{ e with key:=uk,val:=uv }) fun _=>rfl⟩
         grind [lC,bY.set,V.bw,bY.bw]
      ·rename_i hf;simp at h;subst h;rcases gU F dX R g2 hf with ⟨_,q2⟩|⟨jj,v2,e,q1,_⟩
       ·cases c with
        |zero=>
         refine⟨_,?_,cL r I (.map (es++ [(k,v,0)]) 0) (.map (bo.push { key:=uk,val:=uv,born:=c' }) (c'+1)) ?_⟩
         ·simp [Instr.mapUpdate,run_underlying hu,hg,bX lI dX,cr lI q2,cO (P:=P) g1]
         ·intro h' hh kp;simp only [OR];refine⟨_,_,hh,?_,trivial⟩
          grind [bY.push,V.bw,bY.bw]
        |succ c=>
         refine⟨_,?_,cL r I (.map (es++ [(k,v,c)]) (c+2)) (.map (bo.push { key:=uk,val:=uv,born:=c' }) (c'+1)) ?_⟩
         ·simp [Instr.mapUpdate,run_underlying hu,hg,bX lI dX,cr lI q2,cO (P:=P) g1]
         ·intro h' hh kp;simp only [OR];refine⟨_,_,hh,?_,by rw [gS.1],?_⟩
          ·grind [bY.push,V.bw,bY.bw]
          ·simp [gS.2,gS.1]
       grind
     grind
    grind
  grind
 grind
theorem wk [bp] {tt:TT} (bx:bV P tt) {pc:List (SB×Bool)} (F:bu E.ρ pc) {H H':Hp} (r:bq E H w) {t:Nat} {ts:Nat} {m k:Z} {um uk:Value} (hm:V E w.heap m um) (R:V E w.heap k uk) (h:qX tt pc t m k H=some H') (ty:Nat) :
 ∃w',(Builtin.delete_ #[t,ts] ty #[um,uk]).run P w= .ok (.tuple #[]) w'/\ca E H w E H' w'/\bq E H' w':=by
 unfold qX at h;split at h
 ·rename_i ti cN;split at h
  ·rename_i kt et mu;have hu:=iZ (bx t ti cN) mu;split at h
   ·grind
   ·rename_i kk j7;obtain⟨d,lI,dX⟩:=lF bx j7;split at h
    ·simp at h;subst h;simp only [V] at hm;subst hm;exact⟨w,by simp [Builtin.delete_,run_underlying hu,bX lI dX],ca.refl _ _ _,r⟩
    ·rename_i id;split at h
     ·rename_i es c I;simp only [V] at hm;obtain⟨rfl,hid⟩:=hm;obtain⟨bo,c',g1,g2,gS⟩:=mn r I;have hg:=bW (P:=P) g1 ad;split at h
      ·grind
      ·rename_i i v' hf;simp at h;subst h;rcases gU F dX R g2 hf with ⟨q1,_⟩|⟨jj,v2,e,q1,q2,q3,q4,q5⟩
       ·grind
       ·simp only [af,ag,ax] at q1;obtain⟨rfl,rfl⟩:=q1;simp only [ax] at q4;refine⟨_,?_,cL r I (.map (dK es i) c) (.map (bo.eraseIdxIfInBounds i) c') ?_⟩
        ·simp [Builtin.delete_,run_underlying hu,hg,bX lI dX,cr lI q4,cO (P:=P) g1]
        ·intro h' hh kp;simp only [OR];refine⟨_,_,hh,?_⟩;have Mp:=gS.erase (i:=i);have IC:i<bo.size:=by have:=(aL.1 q2).1; simpa using this
         have:(bo.eraseIdxIfInBounds i).toList=bo.toList.eraseIdx i:=by simp_all
         rw [this];exact⟨bY.erase (bY.bw kp _ _ g2),Mp⟩
      ·rename_i hf;simp at h;subst h;rcases gU F dX R g2 hf with ⟨_,q2⟩|⟨jj,v2,e,q1,_⟩
       ·refine⟨_,?_,cL r I (.map es c) (.map bo c') ?_⟩
        ·simp [Builtin.delete_,run_underlying hu,hg,bX lI dX,cr lI q2,cO (P:=P) g1]
        ·intro h' hh kp;simp only [OR];exact⟨_,_,hh,bY.bw kp _ _ g2,gS⟩
       grind
     grind
    grind
  grind
 grind
theorem BR [bp] {tt:TT} (bx:bV P tt) {H:Hp} (r:bq E H w) {t ty:Nat} {x v:Z} {u:Value} (M:V E w.heap x u) (h:BS tt t x H=some v) :
 ∃y,(Builtin.len_ #[t] ty #[u]).run P w= .ok y w/\V E w.heap v y:=by
 unfold BS at h;simp only at h;split at h
 ·rename_i ti cN;have j5:=bx t ti cN;split at h
  ·rename_i R;split at h
   ·rename_i s;simp at h;subst h;simp only [V] at M;obtain⟨rfl,_⟩:=M;exact⟨_,by simp [Builtin.len_,run_underlying (cx j5 R)]; rfl,by simp [V,Y.den,goInt,ep]⟩
   ·simp at h; subst h; simp only [V] at M;obtain⟨s,rfl,hs⟩:=M.string;exact⟨_,by simp [Builtin.len_,run_underlying (cx j5 R)]; rfl,by simp only [V,bz,hs,B3]; rfl⟩
   grind
  ·rename_i e R;have hu:=cn j5 R;split at h
   ·simp at h; subst h; simp only [V] at M; subst M;exact⟨_,by simp [Builtin.len_,run_underlying hu]; rfl,by simp [V,Y.den,goInt]⟩
   ·simp at h; subst h; simp only [V] at M; obtain⟨x,rfl⟩:=M;exact⟨_,by simp [Builtin.len_,run_underlying hu]; rfl,by simp [V,Y.den,goInt]⟩
   ·simp at h; subst h; simp only [V] at M; obtain⟨⟨x,rfl⟩,_⟩:=M;exact⟨_,by simp [Builtin.len_,run_underlying hu]; rfl,by simp [V,Y.den,goInt]⟩
   ·simp at h; subst h; simp only [V] at M; obtain⟨_,a,cap,rfl,_⟩:=M;exact⟨_,by simp [Builtin.len_,run_underlying hu]; rfl,by simp [V,Y.den,goInt]⟩
   ·simp at h; subst h; simp only [V] at M; obtain⟨b,o,cap,us,rfl,_⟩:=M;exact⟨_,by simp [Builtin.len_,run_underlying hu]; rfl,by simp [V,Y.den,goInt]⟩
   ·simp at h; subst h; simp only [V] at M; obtain⟨x,cap,rfl,_⟩:=M.slice;exact⟨_,by simp [Builtin.len_,run_underlying hu]; rfl,by simp [V,bz,goInt]⟩
   ·simp at h; subst h; simp only [V] at M; obtain⟨_,k,a,cap,h0,rfl,_⟩:=M;exact⟨_,by simp [Builtin.len_,run_underlying hu]; rfl,by simp [V,h0,goInt]⟩
   ·simp at h; subst h; simp only [V] at M; obtain⟨_,l,k,a,cap,_,h0,rfl,_⟩:=M;exact⟨_,by simp [Builtin.len_,run_underlying hu]; rfl,by simp [V,h0,goInt]⟩
   ·simp at h; subst h; simp only [V] at M;rcases M with ⟨⟨x,cap,rfl⟩,h0⟩|⟨b,o,n,cap,rfl,_,h0,_⟩
    ·exact⟨_,by simp [Builtin.len_,run_underlying hu]; rfl,by simp [V,Y.den,goInt,h0]⟩
    ·exact⟨_,by simp [Builtin.len_,run_underlying hu]; rfl,by simp [V,Y.den,goInt,h0]⟩
   grind
  ·rename_i k e R;have hu:=iB j5 R;simp at h;subst h;exact⟨_,by simp [Builtin.len_,run_underlying hu]; rfl,by simp [V,Y.den,goInt]⟩
  ·rename_i kt et R;have hu:=iZ j5 R;split at h
   ·simp at h; subst h; simp only [V] at M; subst M;exact⟨_,by simp [Builtin.len_,run_underlying hu]; rfl,by simp [V,Y.den,goInt]⟩
   ·rename_i id;split at h
    ·rename_i es c I;simp at h;subst h;simp only [V] at M;obtain⟨rfl,hid⟩:=M;obtain⟨bo,c',g1,g2,gS⟩:=mn r I;have hg:=bW (P:=P) g1 ad;have hlen:=g2.length;simp only [aC] at hlen;exact⟨_,by simp [Builtin.len_,run_underlying hu,hg]; rfl,by simp [V,Y.den,goInt,hlen]⟩
    ·rename_i e t' I;simp at h;subst h;simp only [V] at M;obtain⟨rfl,hid⟩:=M;obtain⟨_,ho,_⟩:=r.live _ _ I;simp only [OR] at ho;obtain⟨bo,c',g1,g2⟩:=ho;have hg:=bW (P:=P) g1 ad;have hlen:=g2.length;simp only [aC] at hlen;exact⟨_,by simp [Builtin.len_,run_underlying hu,hg]; rfl,by simp [V,bz,goInt,hlen]⟩
    ·rename_i e t' cK ov I;simp at h;subst h;simp only [V] at M;obtain⟨rfl,hid⟩:=M;obtain⟨_,ho,_⟩:=r.live _ _ I;simp only [OR] at ho;obtain⟨_,bo,c',g1,g2⟩:=ho;have hg:=bW (P:=P) g1 ad;have hlen:=g2.length;simp only [aC] at hlen;exact⟨_,by simp [Builtin.len_,run_underlying hu,hg]; rfl,by simp [V,bz,goInt,hlen]⟩
    grind
   grind
  grind
 grind
end
section
variable {P:Program} {E:En} {w:World}
structure Src (P:Program) (E:En) (w:World) (s m:Nat) (news:List Z) (u:Value) (us:Array Value):Prop where
 len: ∀w2,(Builtin.lenOf u).run P w2= .ok m w2
 first: ∀w2:World,w2.heap=w.heap->(Builtin.firstCells s m u).run P w2= .ok us w2
 AB:bC E w.heap news us.toList
 size:us.size=m*s
 iJ: ∀x∈us.toList,x.oneCell'=true
theorem cz.yJ {b o n:Nat} {us:List Value} (hn:us.length=n) (h:cz w.heap b o us) (w2:World) (hw:w2.heap=w.heap):(loadCells ⟨b,o,none⟩ n).run P w2= .ok us.toArray w2:=
 iH hn (by rw [hw]; exact h)
theorem jc {id off len cap:Nat} {a:Addr} {c:wN} (B:cg E id off len a cap c):a=⟨(E.θ id).1,(E.θ id).2+off,none⟩\/cap=0:=by
 cases c with
 |exact c=>
  simp only [cg] at B
  grind
 |rest es=>
  simp only [cg] at B
  grind
theorem jU [bp] {H:Hp} (r:bq E H w) {id o len cap s:Nat} {a:Addr} {c:wN} {l:List Z} (hid:E.dm id) (B:cg E id o len a cap c) (hlen:len<=cap) (h:fu H (.ptr id o) (len*s)=some l) :
 ∃us:List Value,us.length=len*s/\bC E w.heap l us/\(∀u∈us,u.oneCell'=true)/\∀w2:World,w2.heap=w.heap->(loadCells a (len*s)).run P w2= .ok us.toArray w2:=by
 obtain⟨b,o',us,e1,e2,e3,e4,e5⟩:=kJ r (p:=.ptr id o) (u:=.pointer (some ⟨(E.θ id).1,(E.θ id).2+o,none⟩)) (by simp only [V]; exact⟨trivial,hid⟩) h;simp only [Value.pointer.injEq,af,Addr.mk.injEq] at e1;obtain⟨Kh,Kg,_⟩:=e1;refine⟨us,e2,e3,e5,fun w2 hw=>?_⟩;rcases jc B with ha|ha
 ·rw [ha,Kh,Kg];exact e4.yJ e2 w2 hw
 ·obtain rfl:len=0:=J
  rw [aU] at e2 ⊢;rw [aaf e2];rfl
theorem hU [bp] {H:Hp} (r:bq E H w) {s m:Nat} {y:Z} {u:Value} {news:List Z} (hy:V E w.heap y u) (h:iC s y H=some (m,news)): ∃us,Src P E w s m news u us:=by
 unfold iC at h;split at h
 ·simp only [af,ag] at h;obtain⟨rfl,rfl⟩:=h;simp only [V] at hy;subst hy;exact⟨#[],fun _=>rfl,fun w2 _=>by simp [Builtin.firstCells],by simp [bC],ad,ad⟩
 ·rename_i id o len c;rw [az] at h;obtain⟨l,O,U⟩:=h;simp only [ag] at U;obtain⟨rfl,rfl⟩:=U;simp only [V] at hy;obtain⟨hid,a,cap,rfl,hlen,B⟩:=hy;obtain⟨us,e1,e2,e3,e4⟩:=jU (P:=P) r hid B hlen O;exact⟨us.toArray,fun _=>rfl,fun w2 hw=>by simp only [Builtin.firstCells]; exact e4 w2 hw,by simpa using e2,by simpa using e1,by simpa using e3⟩
 ·rename_i cs n full;rw [az] at h;obtain⟨l,O,U⟩:=h;simp only [ag] at U;obtain⟨rfl,rfl⟩:=U;simp only [V] at hy;obtain⟨b,o,cap,us,rfl,hn,hf,h4,h5,h6,h7⟩:=hy;obtain⟨g1,g2⟩:=h5.di O;have I:=h5.length;have Hg:(us.take (n*s)).length=n*s:=by rw [a7]; omega
  exact⟨(us.take (n*s)).toArray,fun _=>rfl,fun w2 hw=>by simp only [Builtin.firstCells]; exact (h6.take (n*s)).yJ Hg w2 hw,by simpa using g1,by simpa using Hg,
   fun x M=>h7 x (aT (by simpa using M))⟩
 ·rename_i b;split at h
  ·rename_i hs;simp only [af,ag] at h;obtain⟨rfl,rfl⟩:=h;simp only [V] at hy;obtain⟨rfl,c6⟩:=hy;have dc:(bG b).size=b.length:=ep b;have hex:(bG b).extract 0 b.length=bG b:=by rw [ja]; simp
   refine⟨(bG b).data.map fun c=>Value.int .u8 (c.toNat:Int),fun w2=>by simp [Builtin.lenOf,dc],fun w2 _=>by simp [Builtin.firstCells,hex],?_,?_,?_⟩
   ·have:((bG b).data.map fun c=>Value.int .u8 (c.toNat:Int)).toList=(b.map UInt8.ofNat).map fun c=>Value.int .u8 (c.toNat:Int):=by simp [bG]
    rw [this];clear hex dc this
    induction b with
    |nil=>simp [bC]
    |cons x b ih=> have M:=c6 x ad;rw [au,au,au,bt];refine⟨_,_,rfl,?_,ih fun c B=>c6 c (by simp [B])⟩;simp [V,Y.den,aad,bg M]
   ·simp_all
   ·intro x M;simp only [abb,aF] at M;obtain⟨c,_,rfl⟩:=M;rfl
  grind
 grind
theorem ej {t t2 ty e s m n cap:Nat} {d2:TypeDesc} {inf:TypeInfo} {a:Option Addr} {u2:Value} {us:Array Value} {news:List Z} {w':World} (ht:P.underlying t=some (.slice e)) (lW:P.underlying t2=some d2)
 (dX: ∀k,d2≠.int k) (hi:P.info? e=some inf) (hs:inf.size=s) (src:Src P E w s m news u2 us) (eL:n+m<=cap)
 (pk:match a with |some a=>(storeCells (a.add (n*s)) us.toList).run P w= .ok () w'|none=>w'=w) :
 (Builtin.append_ #[t,t2] ty #[.slice a n cap,u2]).run P w= .ok (.slice a (n+m) cap) w':=by
 have hf:=src.first w rfl;have I:=src.len w
 cases a with
 |none=> simp only at pk;subst pk;simp [Builtin.append_,run_underlying ht,run_underlying lW,sizeOf,typeInfo,hi,hs,I,eL,hf]
 |some a=> simp only at pk;simp [Builtin.append_,run_underlying ht,run_underlying lW,sizeOf,typeInfo,hi,hs,I,eL,hf,pk]
theorem wH {t t2 ty e s m n cap:Nat} {d2:TypeDesc} {inf:TypeInfo} {z u u2:Value} {us olds:Array Value} {news:List Z} (ht:P.underlying t=some (.slice e)) (lW:P.underlying t2=some d2)
 (dX: ∀k,d2≠.int k) (hi:P.info? e=some inf) (hs:inf.size=s) (hz:inf.zero=some z) (K:inf.bytes≠0) (src:Src P E w s m news u2 us) (eL:cap<n+m) (hbound:(n+m)*inf.bytes<=140737488355328)
 (a:Option Addr) (hu:u= .slice a n cap) (hold: ∀w2:World,w2.heap=w.heap->(Builtin.firstCells s n u).run P w2= .ok olds w2) :
 (Builtin.append_ #[t,t2] ty #[u,u2]).run P w= .ok (.slice (some ⟨w.heap.size,0,none⟩) (n+m) (grownCap w (n+m) cap e))
  (w.drew.alloc (.cells (olds++us++Builtin.zeroCells z.cells (grownCap w (n+m) cap e-(n+m))) e)):=by
 subst hu;have hf:=src.first w.drew rfl;have ho:=hold w.drew rfl;have I:=src.len w;have hn: ¬(n+m<=cap):=J
 have Mm: ¬(281474976710656<Builtin.nextslicecap (n+m) cap*inf.bytes):=by
  have O:Builtin.nextslicecap (n+m) cap*inf.bytes<=2*(n+m)*inf.bytes:=aaj _ (nextslicecap_le eL)
  grind
 have J5: ¬(2 ^ 48<Builtin.nextslicecap (n+m) cap*inf.bytes):=Mm;simp [Builtin.append_,run_underlying ht,run_underlying lW,sizeOf,typeInfo,zeroValue,hi,hs,hz,I,hn,K,J5,Question.forced,ho,hf,newRow,grownCap]
theorem gF [bp] {t t2 ty:Nat} {H H':Hp} (r:bq E H w) {ie:TI} {e n m cap:Nat} {cs news old:List Z} {v:Z} {d2:TypeDesc} {u2:Value} {us olds:Array Value} (j6:fg P e ie)
 (ht:P.underlying t=some (.slice e)) (lW:P.underlying t2=some d2) (dX: ∀k,d2≠.int k) (kQ:ie.bytes≠0) (kO:ie.zero.length=ie.size)
 (src:Src P E w ie.size m news u2 us) (eL:cap<n+m) (a:Option Addr) (Fw:cs=old++news)
 (oJ:bC E w.heap old olds.toList) (LO: ∀x∈olds.toList,x.oneCell'=true) (LM:olds.size=n*ie.size)
 (hold: ∀w2:World,w2.heap=w.heap->(Builtin.firstCells ie.size n (.slice a n cap)).run P w2= .ok olds w2) (h:fH ie e n m cs H=some (v,H')) :
 ∃x w' E',(Builtin.append_ #[t,t2] ty #[.slice a n cap,u2]).run P w= .ok x w'/\ca E H w E' H' w'/\bq E' H' w'/\V E' w'.heap v x:=by
 subst Fw;unfold fH at h;split at h
 ·rename_i hbound;simp only [af,ag] at h;obtain⟨rfl,rfl⟩:=h;obtain⟨inf,d,z,O,U,N,h4,h5,h6,h7,h8⟩:=j6.all;have hz:=b9 (E:=E) (h:=w.heap) h4;have Lq:z.cells.size=ie.size:=by have:=hz.1.length; simp only [aC] at this; omega
  have Cv:=grownCap_ge w (n+m) cap e;have xo:=src.size
  obtain⟨s1,s2⟩:=du r (olds++us++Builtin.zeroCells z.cells (grownCap w (n+m) cap e-(n+m))) 0 0 e (oJ.append src.AB)
   (by intro x M; rcases aZ.1 M with M|M; exact LO x M; exact src.iJ x M)
   (by
    intro i x M;have hi:=(aL.1 M).1;rw [abv (by simpa using hi)];rw [<- aK,Array.toList_append]
    exact M)
   J (w':=w.drew.alloc (.cells (olds++us++Builtin.zeroCells z.cells (grownCap w (n+m) cap e-(n+m))) e)) rfl ⟨rfl,rfl,rfl⟩
  refine⟨_,_,_,wH (s:=ie.size) ht lW dX O h5 N (by rw [h6]; exact kQ) src eL (by rw [h6]; exact hbound) a rfl hold,s1,s2,?_⟩;simp only [V];refine⟨En.cQ _ _ _ _,_,_,rfl,Cv,?_⟩;simp only [cg,En.ext_θ_new,En.ext_κ_new];left;refine⟨trivial,?_⟩;simp only [Array.size_append,size_zeroCells,LM,xo,Lq,<- aW]
  grind
 grind
set_option maxHeartbeats 800000 in
theorem kB [bp] {t t2 ty:Nat} {H H':Hp} (r:bq E H w) {ie:TI} {e m:Nat} {news:List Z} {x v:Z} {d2:TypeDesc} {u u2:Value} {us:Array Value} (j6:fg P e ie)
 (ht:P.underlying t=some (.slice e)) (lW:P.underlying t2=some d2) (dX: ∀k,d2≠.int k) (k9:ie.size≠0) (kQ:ie.bytes≠0) (kO:ie.zero.length=ie.size)
 (src:Src P E w ie.size m news u2 us) (M:V E w.heap x u) (h:hH ie e m news x H=some (v,H')) :
 ∃y w' E',(Builtin.append_ #[t,t2] ty #[u,u2]).run P w= .ok y w'/\ca E H w E' H' w'/\bq E' H' w'/\V E' w'.heap v y:=by
 obtain⟨inf,d,z,O,U,N,h4,h5,h6,h7,h8⟩:=j6.all;have gq:0<ie.size:=J
 have Dk:=src.AB.length;have Dj:=src.size;simp only [aC] at Dk;unfold hH at h;split at h
 ·
  simp only [V] at M;subst M;split at h
  ·rename_i hm;subst hm;simp only [af,ag] at h;obtain⟨rfl,rfl⟩:=h;exact⟨_,w,E,ej (s:=ie.size) ht lW dX O h5 src (ar _) (by simp only),ca.refl _ _ _,r,by simp [V]⟩
  ·rename_i hm;exact gF (cap:=0) r j6 ht lW dX kQ kO src J none (old:=[]) (olds:=#[]) ad (by simp [bC]) ad ad (fun w2 _=>by simp [Builtin.firstCells]) h
 ·
  rename_i id o len c;have G8:=M;simp only [V] at M;obtain⟨hid,a,cap,rfl,hlen,B⟩:=M;have ee:cap=c:=by simp only [cg] at B; exact B.1
  subst ee;split at h
  ·rename_i eL;split at h
   ·rename_i cs e' I;split at h
    ·rename_i eW hs;simp only [af,ag] at h;obtain⟨rfl,rfl⟩:=h;obtain⟨w',g1,g2,g3⟩:=eR (P:=P) r I hs src.AB src.iJ
     have pk:(storeCells (a.add (len*ie.size)) us.toList).run P w= .ok () w':=by
      rcases jc B with ha|ha
      ·rw [ha,cj,aQ]; exact g1
      ·obtain rfl:m=0:=J
       have fY:us.toList= []:=aaf (by rw [aC,Dj,aU]);rw [fY] at g1 ⊢;exact g1
     refine⟨_,w',E,ej (s:=ie.size) ht lW dX O h5 src eL pk,g2,g3,?_⟩;simp only [V];refine⟨hid,a,cap,rfl,eL,?_⟩;simp only [cg] at B ⊢;exact B
    ·simp at h
   ·simp at h
  ·rename_i eL;split at h
   ·rename_i old hold;obtain⟨IY,f1,f2,f3,f4⟩:=jU (P:=P) r hid B hlen hold
    exact gF (cap:=cap) r j6 ht lW dX kQ kO src J (some a) (old:=old) (olds:=IY.toArray) rfl (by simpa using f2) (by simpa using f3) (by simpa using f1)
     (fun w2 hw=>by simp only [Builtin.firstCells]; exact f4 w2 hw) h
   ·simp at h
 ·
  rename_i id o len es;split at h
  ·rename_i eG;subst eG;simp only [V] at M;obtain⟨hid,a,cap,rfl,hlen,B⟩:=M;split at h
   ·rename_i cs e' I;obtain⟨arr,lo,hi,Gd,b1,b2,b3,b4,b5,b6,b7⟩:=(r.live id _ I).2.1;split at h
    ·rename_i hle;split at h
     ·rename_i eW hs;simp only [af,ag] at h;obtain⟨rfl,rfl⟩:=h;obtain⟨w',g1,g2,g3⟩:=eR (P:=P) r I hs src.AB src.iJ
      have eL:len+m<=cap:=by
       simp only [cg] at B;rcases B with ⟨_,B⟩|⟨rfl,rfl,B⟩
       ·have:(len+m)*ie.size<=cap*ie.size:=J
        exact abc this gq
       ·have:(0+m)*ie.size=0:=J
        rcases Nat.mul_eq_zero.1 this with hh|hh<;>omega
      have pk:(storeCells (a.add (len*ie.size)) us.toList).run P w= .ok () w':=by
       rcases jc B with ha|ha
       ·rw [ha,cj,aQ]; exact g1
       ·obtain rfl:m=0:=J
        have fY:us.toList= []:=aaf (by rw [aC,Dj,aU]);rw [fY] at g1 ⊢;exact g1
      refine⟨_,w',E,ej (s:=ie.size) ht lW dX O h5 src eL pk,g2,g3,?_⟩;simp only [V];refine⟨hid,a,cap,rfl,eL,?_⟩;simp only [cg] at B ⊢;rcases B with B|⟨rfl,rfl,B⟩
      ·exact .inl B
      ·exact .inr ⟨rfl,J,B⟩
     ·simp at h
    ·rename_i Jz;split at h
     ·rename_i BH;obtain⟨BH,rfl⟩:=BH;split at h
      ·rename_i old hd;obtain⟨d1,MU,d3⟩:=b2.b8 hd;have rI:=b2.length
       have JB:m≠0:=by intro hm;subst hm;rw [aH] at Jz;omega
       by_cases eL:len+m<=cap
       ·
        have Fv:a=⟨(E.θ id).1,(E.θ id).2+o,none⟩/\o+cap*ie.size=E.κ id:=by
         simp only [cg] at B;rcases B with B|B
         ·exact B
         ·omega
        obtain⟨rfl,L0⟩:=Fv;unfold fH at h;split at h
        ·simp only [af,ag] at h;obtain⟨rfl,rfl⟩:=h;have AE:len*ie.size+m*ie.size<=cap*ie.size:=by rw [<- aW]; exact aaj _ eL
         have KD:us.toList.length=m*ie.size:=by simpa using Dj
         obtain⟨w',uV,e1,e2,e3,e4,e5,e6,e7⟩:=fq (P:=P) (E.θ id).1 ((E.θ id).2+(o+len*ie.size)) e' lo hi us.toList 0 arr w b1 b6 J src.iJ
         have pk:(storeCells ((⟨(E.θ id).1,(E.θ id).2+o,none⟩ : Addr).add (len*ie.size)) us.toList).run P w= .ok () w':=by rw [cj,aQ]; exact e1
         have kp:c9 E w.heap (E.ext H.fresh ((E.θ id).1,(E.θ id).2+o) (cap*ie.size)) w'.heap:=
          ⟨rfl,fun _ hh=> .inr hh,fun _ hh=>En.ext_θ E _ _ _ (r.ik hh),fun _ hh=>En.ext_κ E _ _ _ (r.ik hh),fun _ hh=>hh,(ed r I e4).pU⟩
         have oI:=w8 r I (.cells (old++news) e') o (cap*ie.size) e3 e4 e2 (by
          simp only [OR,En.ext_θ_new,En.ext_κ_new];refine⟨uV,lo,hi,Gd.drop o++us.toList,e5,bC.bw kp _ _ (d1.append src.AB),?_,?_,J,by rw [e6]; exact b6,?_⟩
          ·intro i y hy;rw [e7];have HO:(Gd.drop o).length=len*ie.size:=by rw [aap]; omega
           rw [aa7] at hy;split at hy
           ·rename_i hi';rw [ah J];rw [aaO] at hy;rw [aQ];exact b3 _ _ hy
           ·rename_i hi';have uZ:=(aL.1 hy).1;rw [ak J];rw [show (E.θ id).2+o+i-((E.θ id).2+(o+len*ie.size)+0)=i-(Gd.drop o).length from by omega];exact hy
          ·rw [aO,d3]; omega
          ·intro y hy;rcases aZ.1 hy with hy|hy
           ·exact b7 y (aS hy)
           ·exact src.iJ y hy)
         refine⟨_,w',_,ej (s:=ie.size) ht lW dX O h5 src eL pk,oI.1,oI.2,?_⟩;simp only [V,show (H.drop id).fresh=H.fresh from rfl];refine⟨En.cQ _ _ _ _,_,_,rfl,eL,?_⟩;simp only [cg,En.ext_θ_new,En.ext_κ_new];left;exact⟨ad,J⟩
        ·simp at h
       ·
        have Ho:fu H (.ptr id o) (len*ie.size)=some old:=by
         simp only [fu,I,hd];have:len*ie.size=old.length:=J
         rw [this];clear h hd d1 d3 this
         induction old with
         |nil=>rfl
         |cons y ys ih=>simp [As.di,ih]
        obtain⟨IY,f1,f2,f3,f4⟩:=jU (P:=P) r hid B hlen Ho;obtain⟨q1,q2⟩:=s9 r id;have IM:Src P E w ie.size m news u2 us:=src
        obtain⟨y,w',E',p1,p2,p3,p4⟩:=gF (t:=t) (t2:=t2) (ty:=ty) (cap:=cap) q2 j6 ht lW dX kQ kO IM J (some a) (old:=old) (olds:=IY.toArray) rfl (by simpa using f2) (by simpa using f3) (by simpa using f1)
         (fun w2 hw=>by simp only [Builtin.firstCells]; exact f4 w2 hw) h
        exact⟨y,w',E',p1,q1.trans p2,p3,p4⟩
      ·simp at h
     ·simp at h
   ·simp at h
  ·simp at h
 ·
  rename_i cs n full;have G8:=M;simp only [V] at M;obtain⟨b,o,cap,Gd,rfl,hn,hf,g4,g5,g6,g7⟩:=M;split at h
  ·rename_i hm;subst hm;simp only [af,ag] at h;obtain⟨rfl,rfl⟩:=h;have fY:us.toList= []:=aaf (by rw [aC,Dj,aU]);exact⟨_,w,E,ej (s:=ie.size) ht lW dX O h5 src J (by simp only [fY]; rfl),ca.refl _ _ _,r,G8⟩
  ·rename_i hm;split at h
   ·rename_i sK;have ee:=hf sK;subst ee;split at h
    ·rename_i old hold;obtain⟨j1,j2⟩:=g5.di hold;have rI:=g5.length;have Hg:(Gd.take (cap*ie.size)).length=cap*ie.size:=by rw [a7]; omega
     exact gF (cap:=cap) r j6 ht lW dX kQ kO src J (some ⟨b,o,none⟩) (old:=old) (olds:=(Gd.take (cap*ie.size)).toArray) rfl (by simpa using j1)
      (fun x M=>g7 x (aT (by simpa using M))) (by simpa using Hg)
      (fun w2 hw=>by simp only [Builtin.firstCells]; exact (g6.take _).yJ Hg w2 hw) h
    ·simp at h
   ·simp at h
 ·simp at h
theorem wo [bp] {tt:TT} (bx:bV P tt) {H H':Hp} (r:bq E H w) {t t2 ty:Nat} {x y v:Z} {u u2:Value} (M:V E w.heap x u) (hy:V E w.heap y u2) (h:qY tt t t2 x y H=some (v,H')) :
 ∃z w' E',(Builtin.append_ #[t,t2] ty #[u,u2]).run P w= .ok z w'/\ca E H w E' H' w'/\bq E' H' w'/\V E' w'.heap v z:=by
 unfold qY at h;split at h
 ·rename_i ti cN;split at h
  ·rename_i e R;split at h
   ·rename_i ie eA;split at h
    ·grind
    ·rename_i yn By;obtain⟨d2,dX,rH⟩:=iM (bx t2 yn By);split at h
     ·grind
     ·rename_i k2 dV;split at h
      ·grind
      ·rename_i fa;simp only [not_or,Classical.not_not] at fa;split at h
       ·grind
       ·rename_i m news xo;obtain⟨us,src⟩:=hU (P:=P) r hy xo;refine kB r (bx e ie eA) (cn (bx t ti cN) R) dX ?_ fa.1 fa.2.1 fa.2.2 src M h;intro k hd;subst hd;cases j7:yn.kind<;>rw [j7] at rH<;>simp only [tl] at rH
        grind
   grind
  grind
 grind
end
section
variable {P:Program} {E:En} {w:World}
theorem xT [bp] {tt:TT} (bx:bV P tt) {H H':Hp} (r:bq E H w) {t ty:Nat} {x:Z} {u:Value} (M:V E w.heap x u) (h:uB tt t x H=some H') :
 ∃w',(Builtin.clear_ #[t] ty #[u]).run P w= .ok (.tuple #[]) w'/\ca E H w E H' w'/\bq E H' w':=by
 unfold uB at h;split at h
 ·rename_i ti cN;split at h
  ·rename_i e R;have hu:=cn (bx t ti cN) R;split at h
   ·rename_i ie eA;obtain⟨inf,d,z,O,U,N,h4,h5,h6,h7,h8⟩:=(bx e ie eA).all;have hz:=b9 (E:=E) (h:=w.heap) h4;split at h
    ·simp at h;subst h;simp only [V] at M;subst M;exact⟨w,by simp [Builtin.clear_,run_underlying hu],ca.refl _ _ _,r⟩
    ·simp at h;subst h;simp only [V] at M;obtain⟨⟨x,rfl⟩,_⟩:=M;exact⟨w,by cases x<;>simp [Builtin.clear_,run_underlying hu],ca.refl _ _ _,r⟩
    ·rename_i id o len c;simp only [V] at M;obtain⟨hid,a,cap,rfl,hlen,B⟩:=M;split at h
     ·simp at h;subst h;exact⟨w,by simp [Builtin.clear_,run_underlying hu],ca.refl _ _ _,r⟩
     ·rename_i HE;split at h
      ·grind
      ·rename_i dV;split at h
       ·rename_i cs e' I;split at h
        ·rename_i eW hs;simp at h;subst h
         have ha:a=⟨(E.θ id).1,(E.θ id).2+o,none⟩:=by
          grind [jc]
         have EX:z.cells.toList≠[]:=by
          intro M;have:=hz.1.length
          grind
         have I9:(Builtin.zeroCells z.cells len).toList=bJ z.cells.toList len:=jP z.cells EX len;obtain⟨w',g1,g2,g3⟩:=eR (P:=P) r I hs (e9 hz.1 len) (fun u hu=>hz.2 u (e8 hu));refine⟨w',?_,g2,g3⟩;subst ha;obtain⟨l,rfl⟩ : ∃l,len=l+1:=⟨len-1,by have:len≠0:=fun hh=>HE hh; omega⟩;simp [Builtin.clear_,run_underlying hu,zeroValue,typeInfo,O,N,I9,g1]
        grind
       grind
    grind
   grind
  grind
 grind
theorem xF [bp] {tt:TT} (bx:bV P tt) {H H':Hp} (r:bq E H w) {t:Nat} {x v:Z} {u:Value} (M:V E w.heap x u) (h:uf tt t x H=some (v,H')) :
 ∃y w' E',(Instr.range t u).run P w= .ok y w'/\ca E H w E' H' w'/\bq E' H' w'/\V E' w'.heap v y:=by
 unfold uf at h;split at h
 ·rename_i ti cN;split at h
  ·rename_i R;split at h
   ·rename_i b;simp only [af,ag] at h;obtain⟨rfl,rfl⟩:=h;simp only [V] at M;obtain⟨rfl,c6⟩:=M
    obtain⟨s1,s2⟩:=gT r (.stringIter (bG b) 0) (.dZ b 0) 0 (w':=w.iter (bG b) 0) rfl ⟨rfl,rfl,rfl⟩ (by
     simp only [OR,En.ext_θ_new]
     exact⟨World.iter_heap _ _ _,trivial,c6⟩)
    exact⟨_,_,_,run_range_string w t (bG b) (cx (bx t ti cN) R),s1,s2,me r 0 _ 0⟩
   grind
  ·rename_i kt et R;have hu:=iZ (bx t ti cN) R;split at h
   ·simp only [af,ag] at h;obtain⟨rfl,rfl⟩:=h;simp only [V] at M;subst M
    obtain⟨s1,s2⟩:=gT r (.mapIter none 0 #[] 0) (.dJ none 0 [] 0) 0 (w':={ w with heap:=w.heap.push (.mapIter none 0 #[] 0) }) rfl ⟨rfl,rfl,rfl⟩ (by
     simp only [OR,En.ext_θ_new]
     exact⟨ad,trivial⟩)
    exact⟨.pointer (some ⟨w.heap.size,0,none⟩),_,_,by simp [Instr.range,run_underlying hu],s1,s2,me r 0 _ 0⟩
   ·rename_i id;split at h
    ·rename_i es c I;simp only [af,ag] at h;obtain⟨rfl,rfl⟩:=h;simp only [V] at M;obtain⟨rfl,hid⟩:=M;obtain⟨bo,c',g1,g2,gS⟩:=(r.live id _ I).2.1;have hg:=bW (P:=P) g1 ad;have B:=gS.1;subst B
     obtain⟨s1,s2⟩:=gT r (.mapIter (some (E.θ id).1) c' #[] c') (.dJ (some id) c' [] c') 0 (w':={ w with heap:=w.heap.push (.mapIter (some (E.θ id).1) c' #[] c') }) rfl ⟨rfl,rfl,rfl⟩ (by
      simp only [OR,En.ext_θ_new];rw [En.ext_θ _ _ _ _ (r.ik hid)]
      exact⟨ad,trivial,.inr hid⟩)
     exact⟨.pointer (some ⟨w.heap.size,0,none⟩),_,_,by simp [Instr.range,run_underlying hu,hg],s1,s2,me r 0 _ 0⟩
    ·simp at h
   ·simp at h
  grind
 grind
theorem Al [bp] {H H':Hp} (r:bq E H w) {x v:Z} {u:Value} {EU:Bool} (M:V E w.heap x u) (h:xH x EU H=some (v,H')) (ty:Nat) :
 ∃y w',(Instr.next u EU ty).run P w= .ok y w'/\ca E H w E H' w'/\bq E H' w'/\V E w'.heap v y:=by
 unfold xH at h;split at h
 ·have over:V E w.heap (.tuple [.bool (.lit false)]) (.tuple #[.bool false]):=by
   simp only [V,bC]; exact⟨[.bool false],rfl,_,_,rfl,by simp [SB.den],rfl⟩
  split at h
  ·rename_i id;simp only [V] at M;obtain⟨rfl,hid⟩:=M;split at h
   ·rename_i s l z I;simp only [af,ag] at h;obtain⟨rfl,rfl⟩:=h;obtain⟨g1,g2⟩:=(r.live id _ I).2.1;rw [g2];have hg:=bW (P:=P) g1 ad;exact⟨_,w,by simp only [Instr.next,Sem.run_bind,hg,Result.andThen_ok,aH]; rfl,ca.refl _ _ _,r,over⟩
   ·rename_i m s l z I;obtain⟨g1,g2,g3⟩:=(r.live id _ I).2.1;rw [g2];have hg:=bW (P:=P) g1 ad;split at h
    ·rename_i cc hm;simp only [af,ag] at h;obtain⟨rfl,rfl⟩:=h;obtain⟨bo,c',m1,m2,m3⟩:=(r.live m _ hm).2.1;simp only [bY] at m2;have vR:bo= #[]:=by simpa using m2
     subst vR;have Fu:=bW (P:=P) m1 ad;refine⟨_,w,?_,ca.refl _ _ _,r,over⟩;simp only [Instr.next,Sem.run_bind,hg,Fu,Result.andThen_ok,aH];have hf: ∀p:MapEntry->Bool,Array.filter p #[] 0 0= #[]:=fun _=>rfl;simp [choose,Sem.run,Question.forced,Result.andThen,hf]
    ·rename_i k v n c hm;obtain⟨bo,c',m1,m2,m3⟩:=(r.live m _ hm).2.1;simp only [bY] at m2;obtain⟨e,r0,he,JQ,HN,_,rfl⟩:=m2;have vR:bo= #[e]:=by apply aa3.1; simpa using he
     subst vR;have Fu:=bW (P:=P) m1 ad;obtain⟨B,K⟩:=m3;simp at K;subst B;subst K;split at h
     ·split at h
      ·rename_i c6;simp only [af,ag] at h;obtain⟨rfl,rfl⟩:=h
       obtain⟨s1,s2⟩:=cL r I (.dJ (some m) s [e.born] c') (.mapIter (some (E.θ m).1) s #[e.born] c') (by
        intro h' hh _
        exact⟨hh,g2,g3⟩)
       refine⟨.tuple #[.bool true,e.key,e.val],_,?_,s1,s2,?_⟩
       ·simp only [Instr.next,Sem.run_bind,hg,Fu,Result.andThen_ok,aH];have h0: ¬s<=e.born:=J
        simp [choose,Sem.run,Question.forced,Result.andThen,c6,h0,g1,setObj,Sem.run_bind]
       ·have kp:c9 E w.heap E (w.heap.setIfInBounds (E.θ id).1 (.mapIter (some (E.θ m).1) s #[e.born] c')):=
         ed (w':={ w with heap:=w.heap.setIfInBounds (E.θ id).1 (.mapIter (some (E.θ m).1) s #[e.born] c') }) r I fun b K=>by
          show (w.heap.setIfInBounds (E.θ id).1 _)[b]?=_
          grind
        simp only [V,bC];exact⟨_,rfl,_,_,rfl,by simp [SB.den],_,_,rfl,V.bw kp _ _ JQ,_,_,rfl,V.bw kp _ _ HN,rfl⟩
      ·simp at h
     ·rename_i y;split at h
      ·rename_i hy;obtain⟨rfl,c6⟩:=hy;simp only [af,ag] at h;obtain⟨rfl,rfl⟩:=h;refine⟨_,w,?_,ca.refl _ _ _,r,over⟩;simp only [Instr.next,Sem.run_bind,hg,Fu,Result.andThen_ok,aH];have h0: ¬z<=e.born:=J
       simp [choose,Sem.run,Question.forced,Result.andThen,h0]
      ·simp at h
     ·simp at h
    ·simp at h
   ·simp at h
  ·simp at h
 ·split at h
  ·rename_i id;split at h
   ·rename_i b p I;obtain⟨g1,g2,g3⟩:=(r.live id _ I).2.1;simp only [V] at M;obtain⟨rfl,hid⟩:=M;rw [g2];have hg:=bW (P:=P) g1 ad;split at h
    ·rename_i hn;simp only [af,ag] at h;obtain⟨rfl,rfl⟩:=h;rw [cI,aaD] at hn;have F: ¬p<(bG b).size:=by rw [ep]; omega
     refine⟨.tuple #[.bool false],w,?_,ca.refl _ _ _,r,?_⟩
     ·simp [Instr.next,hg,F]
     ·simp only [V,bC]; exact⟨[.bool false],rfl,_,_,rfl,by simp [SB.den],rfl⟩
    ·rename_i c hn;split at h
     ·rename_i B;simp only [af,ag] at h;obtain⟨rfl,rfl⟩:=h;rw [cI] at hn;have LK:=(aL.1 hn).1;have F:p<(bG b).size:=by rw [ep]; exact LK
      have K:(bG b)[p]'F=UInt8.ofNat c:=by
       have O:(bG b)[p]?=some ((bG b)[p]'F):=getElem?_pos (bG b) p F
       grind [pM]
      have KV:((bG b)[p]'F).toNat=c:=by rw [K]; simp; omega
      have JT:=decode_ascii (bG b) p F (by rw [KV]; exact B)
      obtain⟨s1,s2⟩:=cL r I (.dZ b (p+1)) (.stringIter (bG b) (p+1)) (by
       intro h' hh _
       exact⟨hh,g2,g3⟩)
      refine⟨.tuple #[.bool true,goInt p,.int .i32 ((bG b)[p]'F).toNat],_,?_,s1,s2,?_⟩
      ·simp only [Instr.next,Sem.run_bind,hg,Result.andThen_ok,F,if_true,JT,cO (P:=P) g1 ad,Sem.run_pure]
      ·simp only [V,bC,KV];exact⟨_,rfl,_,_,rfl,by simp [SB.den],_,_,rfl,by simp [Y.den,goInt],_,_,rfl,by simp [Y.den],rfl⟩
     grind
   grind
  grind
theorem xP [bp] {H:Hp} (r:bq E H w) {x v:Z} {u:Value} (M:V E w.heap x u) (h:uw x H=some v) :
 ∃y,(Instr.entry u).run P w= .ok y w/\V E w.heap v y:=by
 unfold uw at h;split at h
 ·rename_i id;simp only [V] at M;obtain⟨rfl,hid⟩:=M;split at h
  ·rename_i m s y z I;obtain⟨g1,g2,g3⟩:=(r.live id _ I).2.1;rw [g2];have hg:=bW (P:=P) g1 ad;split at h
   ·rename_i k v n c hm;obtain⟨bo,c',m1,m2,m3⟩:=(r.live m _ hm).2.1;simp only [bY] at m2;obtain⟨e,r0,he,JQ,HN,_,rfl⟩:=m2;have vR:bo= #[e]:=by apply aa3.1; simpa using he
    subst vR;have Fu:=bW (P:=P) m1 ad;obtain⟨B,K⟩:=m3;simp at K;split at h
    ·rename_i hy;obtain⟨rfl,rfl⟩:=hy;simp only [af] at h;subst h B K;refine⟨.tuple #[e.key,e.val],?_,?_⟩
     ·simp only [Instr.entry,Sem.run_bind,hg,Fu,Result.andThen_ok,aH];simp [Fu]
     ·simp only [V,bC];exact⟨_,rfl,_,_,rfl,JQ,_,_,rfl,HN,rfl⟩
    ·simp at h
   ·simp at h
  ·simp at h
 ·simp at h
theorem tC {ρ:Nat->Int} {pc:List (SB×Bool)} (F:bu ρ pc) {c:SB} {b:Bool} (h:c.den ρ=b):bu ρ ((c,b)::pc):=by
 intro d x hm;rcases aw.1 hm with hm|hm
 ·grind
 ·exact F d x hm
theorem bH {α:Type} {ρ:Nat->Int} {s:St} (F:bu ρ s.pc) {c:SB} {f:St->Bool->T α} {r:α} (h:(dP s c f).leaf ρ=some r) :
 ∃cl,bu ρ cl/\(f { s with pc:=cl } (c.den ρ)).leaf ρ=some r:=by
 unfold dP at h;split at h
 ·rename_i b K;exact⟨s.pc,F,by rw [cR F K]; exact h⟩
 ·split at h
  ·rename_i d;simp only [T.leaf] at h;split at h
   ·rename_i B;exact⟨_,tC F B,by simp only [SB.den,B]; exact h⟩
   ·rename_i B;exact⟨_,tC F B,by simp only [SB.den,B]; exact h⟩
  ·simp only [T.leaf] at h
   grind [tC]
theorem T.cA {α β:Type} {ρ:Nat->Int} {f:α->T β} {r:β}: ∀{x:T α},(x.bind f).leaf ρ=some r->∃a,x.leaf ρ=some a/\(f a).leaf ρ=some r
 | .fail,h=>by simp [T.bind,T.leaf] at h
 | .ret a,h=> ⟨a,rfl,h⟩
 | .split c x y,h=>by simp only [T.bind,T.leaf] at h ⊢;split at h<;>exact T.cA h
theorem fI {mx:Bool}: ∀{xs:List Z} {a:Y} {k:IntKind} {s s':St} {us:List Value} {v:Z},bu E.ρ s.pc->bC E w.heap xs us->(jo mx xs a k s).leaf E.ρ=some (v,s')->
 s'.h=s.h/\s'.bj=s.bj/\bu E.ρ s'.pc/\∃u,(us.foldlM (if mx then Builtin.max2 else Builtin.min2) (.int k (a.den E.ρ))).run P w= .ok u w/\V E w.heap v u
 |[],a,k,s,s',us,v,F,W,h=>by simp only [jo,T.leaf,af,ag] at h;obtain⟨rfl,rfl⟩:=h;rw [cZ] at W;subst W;exact⟨rfl,rfl,F,_,rfl,by simp only [V]⟩
 |x::xs,a,k,s,s',us,v,F,W,h=>by
  rw [bt] at W;obtain⟨u,vs,rfl,M,iA⟩:=W;cases x<;>simp only [jo,T.leaf,reduceCtorEq] at h;rename_i k' b;simp only [V] at M;subst M;obtain⟨cl,cM,O⟩:=bH F h;cases mx
  ·simp only [ay,if_false,bN] at O ⊢;by_cases B:b.den E.ρ<a.den E.ρ
   ·simp only [B,decide_true,if_true] at O;obtain⟨q1,q2,q3,u,q4,q5⟩:=fI cM iA O;refine⟨q1,q2,q3,u,?_,q5⟩;simp only [aaT,Sem.run_bind,Builtin.min2,Sem.run_pure,Result.andThen_ok,B,if_true]
    grind
   ·simp only [B,decide_false,ay,if_false] at O;obtain⟨q1,q2,q3,u,q4,q5⟩:=fI cM iA O;refine⟨q1,q2,q3,u,?_,q5⟩;simp only [aaT,Sem.run_bind,Builtin.min2,Sem.run_pure,Result.andThen_ok,B,if_false]
    grind
  ·simp only [if_true,bN] at O ⊢;by_cases B:a.den E.ρ<b.den E.ρ
   ·simp only [B,decide_true,if_true] at O;obtain⟨q1,q2,q3,u,q4,q5⟩:=fI cM iA O;refine⟨q1,q2,q3,u,?_,q5⟩;simp only [aaT,Sem.run_bind,Builtin.max2,Sem.run_pure,Result.andThen_ok,gt_iff_lt,B,if_true]
    grind
   ·simp only [B,decide_false,ay,if_false] at O;obtain⟨q1,q2,q3,u,q4,q5⟩:=fI cM iA O;refine⟨q1,q2,q3,u,?_,q5⟩;simp only [aaT,Sem.run_bind,Builtin.max2,Sem.run_pure,Result.andThen_ok,gt_iff_lt,B,if_false]
    grind
end
section
variable {P:Program} {E:En} {w:World}
theorem zL (ρ:Nat->Int) (a b:SB):(A4 a b).den ρ=(a.den ρ&&b.den ρ):=by unfold A4;split<;>simp [SB.den]
theorem Ar {i:TI} {t:Nat} (cN:fg P t i) {x y:Z} {u v:Value} (M:V E w.heap x u) (hy:V E w.heap y v) {c:SB} (h:xX i.kind x y=some c) (d:Nat) :
 (Op.equalIn (d+1) t u v).run P w= .ok (c.den E.ρ) w/\u.oneCell'=true/\v.oneCell'=true/\i.agg=false:=by
 unfold xX at h;split at h
 ·rename_i k R;split at h
  ·split at h
   ·rename_i j7;subst j7;simp at h;subst h;simp only [V] at M hy;subst M hy;exact⟨by rw [run_equalIn_int w d t _ _ _ _ (gz cN R),cW],rfl,rfl,by simp [TI.agg,TK.agg,R]⟩
   grind
  grind
 ·rename_i R;split at h
  ·simp at h;subst h;simp only [V] at M hy;obtain⟨rfl,M⟩:=M;obtain⟨rfl,hy⟩:=hy;exact⟨by rw [run_equalIn_string w d t _ _ (cx cN R),yo M hy]; rfl,rfl,rfl,by simp [TI.agg,TK.agg,R]⟩
  ·obtain⟨a,b,rfl,rfl,hd⟩:=pL M hy h;exact⟨by rw [run_equalIn_string w d t _ _ (cx cN R),lq,hd],rfl,rfl,by simp [TI.agg,TK.agg,R]⟩
 ·rename_i R;split at h
  ·simp only [V] at M hy;subst M hy;exact⟨by rw [run_equalIn_bool' w d t _ _ (u9 cN R),oR h],rfl,rfl,by simp [TI.agg,TK.agg,R]⟩
  grind
 grind
theorem zj {tt:TT} (bx:bV P tt) {xs ys:List Z} {us vs:List Value} (M:bC E w.heap xs us) (hy:bC E w.heap ys vs) (d:Nat): ∀{eU:List Field} {l:List (Nat×Nat×Nat)} {c:SB},
 (eU.mapM fun f=>(P.info? f.type).map fun i=>(f.offset,f.type,i.size))=some l->(∀f∈eU,f.name≠ "_")->BV tt xs ys l=some c->
 (Op.eqFields (d+1) us.toArray vs.toArray eU).run P w= .ok (c.den E.ρ) w
 |[],l,c,hm,_,h=>by simp at hm;subst hm;simp [BV] at h;subst h;simp [Op.eqFields,SB.den]
 |f::eU,l,c,hm,hn,h=>by
  simp only [aai,aaA,aao] at hm;obtain⟨p,O,ls,U,N⟩:=hm;simp only [pure,af] at N;subst N;rw [az] at O;obtain⟨inf,JL,rfl⟩:=O;simp only [BV] at h;split at h
  ·grind
  ·rename_i i hi;split at h
   ·rename_i x y Lw Lu;split at h
    ·grind
    ·rename_i c1 Mg;split at h
     ·grind
     ·rename_i c2 Mf;simp at h;subst h;obtain⟨u,xn,yZ⟩:=M.nth Lw;obtain⟨v,E5,Hf⟩:=hy.nth Lu;obtain⟨e1,e2,e3,e4⟩:=Ar (w:=w) (bx f.type i hi) yZ Hf Mg d;have ih:=zj bx M hy d U (fun g hg=>hn g (by simp [hg])) Mf;have p1:(part f.type us.toArray f.offset).run P w= .ok u w:=by simp [part,ez (bx f.type i hi),e4,xn]
      have p2:(part f.type vs.toArray f.offset).run P w= .ok v w:=by simp [part,ez (bx f.type i hi),e4,E5]
      simp only [Op.eqFields];rw [ak (hn f ad)];simp only [Sem.run_bind,p1,p2,e1,Result.andThen_ok,zL];cases IG:c1.den E.ρ
      ·simp
      grind
   grind
theorem qW {tt:TT} (bx:bV P tt) {t:Nat} {xs ys:List Z} {us vs:List Value} {c:SB} (M:bC E w.heap xs us) (hy:bC E w.heap ys vs) (h:pw tt t xs ys=some c) (op:BinOp) (x y:Operand) :
 (eqGuard op t x y (.agg us.toArray) (.agg vs.toArray)).run P w= .ok () w/\(binOp .eql t (.agg us.toArray) (.agg vs.toArray)).run P w= .ok (.bool (c.den E.ρ)) w/\(binOp .neq t (.agg us.toArray) (.agg vs.toArray)).run P w= .ok (.bool (!(c.den E.ρ))) w:=by
 unfold pw at h;split at h
 ·grind
 ·rename_i i hi;split at h
  ·rename_i fs R;split at h
   ·rename_i hq;have cN:=bx t i hi;have he:=cN.eqs hq;obtain⟨eU,hu,hm⟩:=iY cN R;unfold zh at he;rw [hu] at he;simp only [an,bd,aE,bne_iff_ne,ne_eq] at he;obtain⟨⟨O,U⟩,N⟩:=he;have hf:P.fieldsOf t=eU:=by simp [Program.fieldsOf,hu]
    have J7:(10000:Nat)=9998+1+1:=rfl
    have key:(Op.equalIn 10000 t (.agg us.toArray) (.agg vs.toArray)).run P w= .ok (c.den E.ρ) w:=by rw [J7];generalize (9998:Nat)=n;rw [run_equalIn_struct w (n+1) t _ _ (by rw [hf]; exact hu) O,hf];exact zj bx M hy n hm (fun f hf=>(N f hf).1) h
    refine⟨run_eqGuard_agg w op t x y _ _ U,?_,?_⟩
    ·rw [run_eql_struct,key]; rfl
    ·rw [run_neq_struct,key]; rfl
   grind
  grind
def wM [bp] (E:En) (s:St) (w:World) (v:Z) (s':St) (u:Value) (w':World):Prop:= ∃E',ca E s.h w E' s'.h w'/\bq E' s'.h w'/\V E' w'.heap v u
def dR [bp] (P:Program) (E:En) (s:St) (o:Oper) (a:Act) (w:World) (v:Z) (s':St):Prop:=
 s'.bj=s.bj/\bu E.ρ s'.pc/\gD P o a w (wM E s w v s')
theorem bh {α:Type} {ρ:Nat->Int} {a b:α} (h:(T.ret a).leaf ρ=some b):a=b:=by simpa [T.leaf] using h
theorem cP {s:St} {a:Act} {x:Operand} {f:Z->T (Z×St)} {r:Z×St} (sr:SR E w.heap s.bj a) (h:(mh s x f).leaf E.ρ=some r): ∃v,V E w.heap v (a.eval x)/\(f v).leaf E.ρ=some r:=by
 unfold mh at h;split at h
 ·rename_i v W; exact⟨v,cH sr W,h⟩
 ·simp [T.leaf] at h
theorem cU {s s':St} {v:Z} {r:Option Z} {ρ:Nat->Int} (h:(gP s r).leaf ρ=some (v,s')):r=some v/\s'=s:=by
 unfold gP at h;split at h
 ·have:=bh h; simp only [ag] at this; exact⟨by rw [this.1],this.2.symm⟩
 ·simp [T.leaf] at h
theorem mb {s s':St} {v:Z} {r:Option Hp} {ρ:Nat->Int} (h:(w6 s r).leaf ρ=some (v,s')): ∃H,r=some H/\v=Z.undef/\s'= { s with h:=H }:=by
 unfold w6 at h;split at h
 ·rename_i H; have:=bh h; simp only [ag] at this; exact⟨H,rfl,this.1.symm,this.2.symm⟩
 ·simp [T.leaf] at h
theorem gO {s s':St} {v:Z} {r:Option (Z×Hp)} {ρ:Nat->Int} (h:(oz s r).leaf ρ=some (v,s')): ∃H,r=some (v,H)/\s'= { s with h:=H }:=by
 unfold oz at h;split at h
 ·rename_i x H; have:=bh h; simp only [ag] at this; obtain⟨rfl,rfl⟩:=this; exact⟨H,rfl,rfl⟩
 ·simp [T.leaf] at h
theorem dY {h:Array Obj}:V E h Z.undef undef:=by simp only [Z.undef,V,bC]; exact⟨[],rfl,rfl⟩
variable {s s':St} {o:Oper} {a:Act} {v:Z}
theorem dR.pure [bp] (F:bu E.ρ s.pc) (r:bq E s.h w) {u:Value} (h:(execOp a.eval o).run P w= .ok (.value u) w) (W:V E w.heap v u):dR P E s o a w v s:=
 ⟨rfl,F,gD.value h ⟨E,ca.refl _ _ _,r,W⟩⟩
theorem dR.heap [bp] {H':Hp} {E':En} {w':World} (F:bu E.ρ s.pc) {u:Value} (h:(execOp a.eval o).run P w= .ok (.value u) w') (O:ca E s.h w E' H' w') (U:bq E' H' w') (W:V E' w'.heap v u) :
 dR P E s o a w v { s with h:=H' }:=
 ⟨rfl,F,gD.value h ⟨E',O,U,W⟩⟩
theorem dR.unit [bp] {H':Hp} {w':World} (F:bu E.ρ s.pc) (h:(execOp a.eval o).run P w= .ok .skip w') (O:ca E s.h w E H' w') (U:bq E H' w') :
 dR P E s o a w Z.undef { s with h:=H' }:=
 ⟨rfl,F,gD.skip h ⟨E,O,U,dY⟩⟩
end
theorem lO {α:Type} {ρ:Nat->Int} {kk:TK} {k:Z} {r:α} {f:St->T α}: ∀{es:List (Z×Z×Nat)} {s:St},bu ρ s.pc->(jx kk k es s f).leaf ρ=some r->∃cl,bu ρ cl/\(f { s with pc:=cl }).leaf ρ=some r
 |[],s,F,h=> ⟨s.pc,F,h⟩
 |(k',v,b)::es,s,F,h=>by
  simp only [jx] at h;split at h
  ·split at h
   ·exact⟨s.pc,F,h⟩
   ·exact lO F h
  ·split at h
   ·obtain⟨ea,dE,O⟩:=bH F h;split at O
    ·grind
    ·obtain⟨gQ,gw,U⟩:=lO (s:={ s with pc:=ea }) dE O
     grind
   ·exact⟨s.pc,F,h⟩
theorem hQ {α:Type} {ρ:Nat->Int} {tt:TT} {t:Nat} {m k:Z} {r:α} {f:St->T α} {s:St} (F:bu ρ s.pc) (h:(fQ tt t m k s f).leaf ρ=some r): ∃cl,bu ρ cl/\(f { s with pc:=cl }).leaf ρ=some r:=by
 unfold fQ at h;split at h
 ·split at h
  ·split at h
   ·split at h
    ·exact lO F h
    ·exact⟨s.pc,F,h⟩
   ·exact⟨s.pc,F,h⟩
  ·exact⟨s.pc,F,h⟩
 ·exact⟨s.pc,F,h⟩
theorem wu {ρ:Nat->Int} {k:IntKind} {e:Y} {f:Z->St->T (Z×St)} {r:Z×St}: ∀(n j:Nat) {s:St},bu ρ s.pc->(j:Int)<=e.den ρ->e.den ρ<(j:Int)+n->(wv k e f n j s).leaf ρ=some r->
 ∃(i:Nat) (cl:List (SB×Bool)),bu ρ cl/\e.den ρ=(i:Int)/\(f (.int k (.lit (Int.ofNat i))) { s with pc:=cl }).leaf ρ=some r
 |0,j,s,_,_,_,h=>by simp [wv,T.leaf] at h
 |n+1,j,s,F,O,U,h=>by
  simp only [wv] at h;split at h
  ·exact⟨j,s.pc,F,J,h⟩
  ·obtain⟨ea,dE,N⟩:=bH F h;rw [cW] at N;split at N
   ·rename_i he;simp only [Y.den,beq_iff_eq] at he
    grind
   ·rename_i he;simp only [Y.den,beq_eq_false_iff_ne,ne_eq] at he;have hj:(Int.ofNat j)=(j:Int):=rfl;rw [hj] at he;obtain⟨i,gQ,gw,q1,q2⟩:=wu n (j+1) (s:={ s with pc:=ea }) dE (by push_cast; omega) (by push_cast at U ⊢; omega) N
    grind
theorem fM {α:Type} {ρ:Nat->Int} {s:St} (F:bu ρ s.pc) {i n:Y} {f:St->T α} {r:α} (h:(mj s i n f).leaf ρ=some r) :
 ∃cl,bu ρ cl/\0<=i.den ρ/\i.den ρ<n.den ρ/\(f { s with pc:=cl }).leaf ρ=some r:=by
 unfold mj at h;obtain⟨ea,dE,O⟩:=bH F h;split at O
 ·simp [T.leaf] at O
 ·rename_i e1;rw [bN,decide_eq_false_iff_not] at e1;obtain⟨gQ,gw,U⟩:=bH (s:={ s with pc:=ea }) dE O;split at U
  ·rename_i e2;rw [bN,decide_eq_true_eq] at e2;simp only [Y.den,aak] at e1
   grind
  ·simp [T.leaf] at U
theorem nd {E:En} {h0:Array Obj} {tt:TT} {t:Nat} {x ix:Z} {ui:Value} {f:Z->St->T (Z×St)} {r:Z×St} {s:St} (F:bu E.ρ s.pc) (my:V E h0 ix ui) (h:(tg tt t x ix s f).leaf E.ρ=some r) :
 ∃F5 cl,bu E.ρ cl/\V E h0 F5 ui/\(f F5 { s with pc:=cl }).leaf E.ρ=some r:=by
 unfold tg at h;split at h
 ·exact⟨ix,s.pc,F,my,h⟩
 ·split at h
  ·rename_i k e _;split at h
   ·rename_i n hn;obtain⟨ea,dE,O,U,N⟩:=fM F h;simp only [Y.den] at U;obtain⟨i,gQ,gw,q1,q2⟩:=wu n 0 (s:={ s with pc:=ea }) dE (by simpa using O) (by simpa using U) N;refine⟨_,gQ,gw,?_,q2⟩;simp only [V,Y.den] at my ⊢
    grind
   ·simp [T.leaf] at h
  ·simp [T.leaf] at h
theorem sw {ro:Nat->Prop} {h:Array Obj} {t:Nat} {d:D} {v:Value} (r:Rd ro h (.sl t) d v):(0<d.l.length->∃a n cap,v= .slice (some a) n cap)/\(d= .i 1->v= .slice none 0 0)/\(d= .i 2->∃a n cap,v= .slice (some a) n cap):=by
 generalize B:CK.sl t=c at r
 cases r with
 |int k n=>simp at B
 |bool b=>simp at B
 |str s=>simp at B
 |nil t=>exact⟨by simp [D.l],fun _=>rfl,ad⟩
 |nh t a cap=>exact⟨by simp [D.l],ad,fun _=> ⟨a,0,cap,rfl⟩⟩
 |one t c b o cap ds f hr vT K O U=>exact⟨fun _=> ⟨_,_,_,rfl⟩,fun q=>by cases ds<;>simp [dL] at q,fun q=>by cases ds<;>simp [dL] at q⟩
 |many t cs b o cap rows f hr vT K I O U=>exact⟨fun _=> ⟨_,_,_,rfl⟩,fun q=>by cases rows<;>simp [dL] at q,fun q=>by cases rows<;>simp [dL] at q⟩
theorem tE {P:Program} {E:En} {w:World} {tt:TT} (bx:bV P tt) {t e:Nat} {ti:TI} (cN:tt t=some ti) (R:ti.kind= .slice e) {u:Value} {b:Bool} (hu:(b=true/\u= .slice none 0 0)\/(b=false/\∃a n cap,u= .slice (some a) n cap)) {s s':St} {op:BinOp} {v:Z} {ρ:Nat->Int}
 (h:(Bj s op b).leaf ρ=some (v,s')):s'=s/\∃y,(binOp op t u (.slice none 0 0)).run P w= .ok y w/\V E w.heap v y/\(∀cs ds,¬(u= .agg cs/\(Value.slice none 0 0)= .agg ds))/\¬(u= .nilIface/\(Value.slice none 0 0)= .nilIface):=by
 obtain⟨d,O,U⟩:=iM (bx t ti cN);rw [R] at U
 have he:(Op.equal t u (.slice none 0 0)).run P w= .ok b w:=by have hm:Op.equal t u (.slice none 0 0)=Op.equalIn (9999+1) t u (.slice none 0 0):=rfl;rw [hm];generalize (9999:Nat)=n;cases d<;>simp only [tl] at U;rcases hu with ⟨rfl,rfl⟩|⟨rfl,a,m,cap,rfl⟩ <;>simp [Op.equalIn,ma O]
 have Dj:(∀k n,u≠.int k n)/\(∀s,u≠.string s)/\(∀k n,u≠.float k n)/\(∀k n m,u≠.complex k n m):=by
  grind
 obtain⟨q1,q2⟩:=binOp_eql he Dj.1 Dj.2.1 Dj.2.2.1 Dj.2.2.2;unfold Bj at h;split at h
 ·simp only [T.leaf,af,ag] at h;obtain⟨rfl,rfl⟩:=h;exact⟨rfl,_,q1,by simp only [V,SB.den],ad,ad⟩
 ·simp only [T.leaf,af,ag] at h;obtain⟨rfl,rfl⟩:=h;exact⟨rfl,_,q2,by simp only [V,SB.den],ad,ad⟩
 ·simp [T.leaf] at h
theorem Da {P:Program} {E:En} {w:World} {tt:TT} (bx:bV P tt) {t:Nat} {a b:Z} {e:Y} (hn:xe tt t a b=some e) {u u':Value} (ha:V E w.heap a u) (K:V E w.heap b u') {s s':St} (F:bu E.ρ s.pc) {op:BinOp} {v:Z} (h:(EN s e op).leaf E.ρ=some (v,s')) :
 s'.bj=s.bj/\s'.h=s.h/\bu E.ρ s'.pc/\∃y,(binOp op t u u').run P w= .ok y w/\V E w.heap v y/\(∀cs ds,¬(u= .agg cs/\u'= .agg ds))/\¬(u= .nilIface/\u'= .nilIface):=by
 unfold xe at hn;split at hn
 ·split at hn
  ·split at hn
   ·rename_i ti cN;split at hn
    ·rename_i el R;simp only [af] at hn;subst hn;simp only [V] at ha K;subst K;obtain⟨k1,k2,k3⟩:=sw ha;unfold EN at h;obtain⟨ea,dE,O⟩:=bH F h;split at O
     ·rename_i t1;rw [bN,decide_eq_true_eq,bz] at t1;simp only [Y.den] at t1;obtain⟨rfl,q⟩:=tE (P:=P) (E:=E) (w:=w) bx cN R (.inr ⟨rfl,k1 J⟩) O
      grind
     ·obtain⟨gQ,gw,U⟩:=bH (s:={ s with pc:=ea }) dE O;split at U
      ·rename_i t2;rw [eZ,gL,beq_iff_eq] at t2;simp only [Y.den] at t2;obtain⟨rfl,q⟩:=tE (P:=P) (E:=E) (w:=w) bx cN R (.inl ⟨rfl,k2 (gA t2)⟩) U
       grind
      ·obtain⟨Ct,vK,N⟩:=bH (s:={ s with pc:=gQ }) gw U;split at N
       ·rename_i t3;rw [eZ,gL,beq_iff_eq] at t3;simp only [Y.den] at t3;obtain⟨rfl,q⟩:=tE (P:=P) (E:=E) (w:=w) bx cN R (.inr ⟨rfl,k3 (gA t3)⟩) N
        grind
       ·simp [T.leaf] at N
    grind
   grind
  grind
 grind
end Go.As
end

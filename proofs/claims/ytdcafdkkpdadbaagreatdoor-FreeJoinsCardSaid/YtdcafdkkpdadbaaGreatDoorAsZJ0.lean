import GoSem.Claim
import Derived.Orders
import Derived.Scope
import Derived.LoopN
import Derived.Below
import GoSem.Core.View
import GoSem.Core.Layout
import GoSem.Op.Equal
import Derived.WalkKit
set_option linter.unusedSectionVars false
set_option linter.unusedVariables false
set_option linter.unusedSimpArgs false
section
namespace Go.As
inductive Tr (α:Type) where
 | nil
 | node (v:Option α) (l r:Tr α)
 deriving Inhabited
noncomputable def Tr.get {α:Type} (t:Tr α) (k:Nat):Option α:=
 Tr.rec (motive:=fun _=>Nat→Option α) (fun _=>none)
  (fun v _ _ il ir k=>Nat.rec (motive:=fun _=>Option α) v (fun k' _=>Bool.rec (motive:=fun _=>Option α) (ir (Nat.div k' 2)) (il (Nat.div k' 2)) (Nat.beq (Nat.mod k' 2) 0)) k) t k
def Tr.val {α:Type}:Tr α→Option α
 | .nil=>none
 | .node v _ _=>v
def Tr.left {α:Type}:Tr α→Tr α
 | .nil=> .nil
 | .node _ l _=>l
def Tr.right {α:Type}:Tr α→Tr α
 | .nil=> .nil
 | .node _ _ r=>r
noncomputable def Tr.mkL {α:Type} (v:Option α) (x r:Tr α):Tr α:=Tr.rec (motive:=fun _=>Tr α) (.node v .nil r) (fun a b c _ _=> .node v (.node a b c) r) x
noncomputable def Tr.mkR {α:Type} (v:Option α) (l x:Tr α):Tr α:=Tr.rec (motive:=fun _=>Tr α) (.node v l .nil) (fun a b c _ _=> .node v l (.node a b c)) x
noncomputable def Tr.aeI {α:Type} (f:Nat):Tr α→Nat→Option α→Tr α:=
 Nat.rec (motive:=fun _=>Tr α→Nat→Option α→Tr α) (fun t _ _=>t)
  (fun _ ih t k x=>Tr.rec (motive:=fun _=>Tr α)
   (Nat.rec (motive:=fun _=>Tr α) (.node x .nil .nil) (fun k' _=>Bool.rec (motive:=fun _=>Tr α) (Tr.mkR none .nil (ih .nil (Nat.div k' 2) x)) (Tr.mkL none (ih .nil (Nat.div k' 2) x) .nil) (Nat.beq (Nat.mod k' 2) 0)) k)
   (fun v l r _ _=>Nat.rec (motive:=fun _=>Tr α) (.node x l r) (fun k' _=>Bool.rec (motive:=fun _=>Tr α) (Tr.mkR v l (ih r (Nat.div k' 2) x)) (Tr.mkL v (ih l (Nat.div k' 2) x) r) (Nat.beq (Nat.mod k' 2) 0)) k) t) f
noncomputable def Tr.put {α:Type} (t:Tr α) (k:Nat) (v:Option α):Tr α:=Tr.aeI (Nat.succ k) t k v
theorem avI (a b:Nat):Nat.beq a b=decide (a=b):=by
 rw [Bool.eq_iff_iff]
 simp
theorem Jv {β:Sort _} (a b:β) (c:Nat):Bool.rec (motive:=fun _=>β) a b (Nat.beq c 0)=if c=0 then b else a:=by
 by_cases h:c=0
 ·subst h; rfl
 ·rw [if_neg h]
  have:Nat.beq c 0=false:=by rw [avI]; simpa using h
  rw [this]
theorem Tr.sD {α:Type} (v:Option α) (l r:Tr α) (k:Nat) :
 (Tr.node v l r).get k=if k=0 then v else if (k - 1) % 2=0 then l.get ((k - 1) / 2) else r.get ((k - 1) / 2):=by
 cases k with
 | zero=>rfl
 | succ k=>
   simp only [Nat.add_sub_cancel,Nat.succ_ne_zero,if_false]
   exact Jv _ _ _
theorem Tr.C9 {α:Type} (t:Tr α) (k:Nat) :
 t.get k=if k=0 then t.val else if (k - 1) % 2=0 then t.left.get ((k - 1) / 2) else t.right.get ((k - 1) / 2):=by
 cases t with
 | nil=>
   have h: ∀j,(Tr.nil:Tr α).get j=none:=fun _=>rfl
   simp [h,Tr.val,Tr.left,Tr.right]
 | node v l r=>rw [Tr.sD]; rfl
theorem Tr.aAn {α:Type} (v:Option α) (x r:Tr α):Tr.mkL v x r= .node v x r:=by cases x <;> rfl
theorem Tr.aAm {α:Type} (v:Option α) (l x:Tr α):Tr.mkR v l x= .node v l x:=by cases x <;> rfl
theorem Tr.aeG {α:Type} (f:Nat) (t:Tr α) (v:Option α):Tr.aeI (f+1) t 0 v= .node v t.left t.right:=by cases t <;> rfl
theorem Tr.aeH {α:Type} (f:Nat) (t:Tr α) (k:Nat) (v:Option α):Tr.aeI (f+1) t (k+1) v=if k % 2=0 then .node t.val (Tr.aeI f t.left (k / 2) v) t.right else .node t.val t.left (Tr.aeI f t.right (k / 2) v):=by
 rw [← Tr.aAn,← Tr.aAm]
 cases t <;> exact Jv _ _ _
theorem Tr.amE {α:Type}: ∀(f:Nat) (t:Tr α) (k:Nat) (v:Option α) (j:Nat),k < f→(Tr.aeI f t k v).get j=if j=k then v else t.get j:=by
 intro f
 induction f with
 | zero=>intro t k v j hk; omega
 | succ f ih=>
   intro t k v j hk
   cases k with
   | zero=>
     rw [Tr.aeG,Tr.sD,Tr.C9 t]
     split <;> simp_all
   | succ k=>
     rw [Tr.aeH,Tr.C9 t j]
     split
     ·rename_i h
      rw [Tr.sD]
      by_cases hj:j=0
      ·subst hj; simp
      ·rw [if_neg hj,if_neg hj]
       by_cases h2:(j - 1) % 2=0
       ·rw [if_pos h2,if_pos h2,ih _ _ _ _ (by omega)]
        by_cases h3:j=k+1
        ·subst h3; simp
        ·rw [if_neg h3,if_neg (by omega)]
       ·rw [if_neg h2,if_neg h2,if_neg (by intro h3; subst h3; simp at h2; omega)]
     ·rename_i h
      rw [Tr.sD]
      by_cases hj:j=0
      ·subst hj; simp
      ·rw [if_neg hj,if_neg hj]
       by_cases h2:(j - 1) % 2=0
       ·rw [if_pos h2,if_pos h2,if_neg (by intro h3; subst h3; simp at h2; omega)]
       ·rw [if_neg h2,if_neg h2,ih _ _ _ _ (by omega)]
        by_cases h3:j=k+1
        ·subst h3; simp
        ·rw [if_neg h3,if_neg (by omega)]
theorem Tr.get_put {α:Type} (t:Tr α) (k:Nat) (v:Option α) (j:Nat):(t.put k v).get j=if j=k then v else t.get j:=
 Tr.amE (Nat.succ k) t k v j (Nat.lt_succ_self _)
end Go.As
end
section
namespace Go.As
inductive D where
 | i (n:Int)
 | p (a b:D)
 deriving DecidableEq,Inhabited
def zN:Int→Nat
 | .ofNat n=>2*n
 | .negSucc n=>2*n+1
theorem agQ {a b:Int} (h:zN a=zN b):a=b:=by
 cases a <;> cases b <;> simp only [zN] at h
 ·congr 1; omega
 ·omega
 ·omega
 ·congr 1; omega
def sV (a b:Nat):Nat:=2 ^ a*(2*b+1)
theorem Ih: ∀{a a' b b':Nat},sV a b=sV a' b'→a=a'∧b=b'
 | 0,0,b,b',h=>by simp only [sV,Nat.pow_zero,Nat.one_mul] at h; omega
 | 0,a'+1,b,b',h=>by
   simp only [sV,Nat.pow_zero,Nat.one_mul,Nat.pow_succ] at h
   have:2 ^ a'*2*(2*b'+1)=2*(2 ^ a'*(2*b'+1)):=by rw [Nat.mul_comm (2 ^ a') 2,Nat.mul_assoc]
   omega
 | a+1,0,b,b',h=>by
   simp only [sV,Nat.pow_zero,Nat.one_mul,Nat.pow_succ] at h
   have:2 ^ a*2*(2*b+1)=2*(2 ^ a*(2*b+1)):=by rw [Nat.mul_comm (2 ^ a) 2,Nat.mul_assoc]
   omega
 | a+1,a'+1,b,b',h=>by
   have h1:2 ^ (a+1)*(2*b+1)=2*sV a b:=by unfold sV; rw [Nat.pow_succ,Nat.mul_comm (2 ^ a) 2,Nat.mul_assoc]
   have h2:2 ^ (a'+1)*(2*b'+1)=2*sV a' b':=by unfold sV; rw [Nat.pow_succ,Nat.mul_comm (2 ^ a') 2,Nat.mul_assoc]
   have h3:sV a b=sV a' b':=by
    have:sV (a+1) b=sV (a'+1) b':=h
    unfold sV at this
    rw [h1,h2] at this
    omega
   obtain⟨e1,e2⟩:=Ih h3
   exact⟨by omega,e2⟩
def D.enc:D→Nat
 | .i n=>2*zN n
 | .p a b=>2*sV a.enc b.enc+1
theorem D.qK: ∀{a b:D},a.enc=b.enc→a=b
 | .i n,.i m,h=>by
   simp only [D.enc] at h
   rw [agQ (a:=n) (b:=m) (by omega)]
 | .i n,.p a b,h=>by simp only [D.enc] at h; omega
 | .p a b,.i n,h=>by simp only [D.enc] at h; omega
 | .p a b,.p c d,h=>by
   simp only [D.enc] at h
   obtain⟨h1,h2⟩:=Ih (a:=a.enc) (b:=b.enc) (a':=c.enc) (b':=d.enc) (by omega)
   rw [D.qK h1,D.qK h2]
open Classical in
noncomputable def dec (z:Int):D:=if h: ∃d:D,(d.enc:Int)=z then h.choose else .i 0
def enc (d:D):Int:=(d.enc:Int)
theorem aC (d:D):dec (enc d)=d:=by
 unfold dec
 have h: ∃d':D,(d'.enc:Int)=enc d:=⟨d,rfl⟩
 rw [dif_pos h]
 have:=h.choose_spec
 apply D.qK
 unfold enc at this
 exact Int.ofNat.inj this
theorem qK {a b:D} (h:enc a=enc b):a=b:=by rw [← aC a,h,aC]
def D.n:D→Int
 | .i n=>n
 | .p _ _=>0
def D.l:D→List D
 | .i _=>[]
 | .p a b=>a :: b.l
def dL:List D→D
 | []=> .i 0
 | a :: l=> .p a (dL l)
@[simp] theorem aX: ∀l:List D,(dL l).l=l
 | []=>rfl
 | a :: l=>by simp [dL,D.l,aX l]
theorem Ob {a b:List D} (h:dL a=dL b):a=b:=by rw [← aX a,h,aX]
def D.at (d:D) (i:Int):D:=(d.l[i.toNat]?).getD (.i 0)
def D.hd (d:D) (j:Nat):D:=(d.l[j]?).getD (.i 0)
def vF (l:List UInt8):D:=dL (l.map fun b=> .i (b.toNat:Int))
def Aa (s:ByteArray):D:=vF s.data.toList
def nV (l:List Nat):D:=dL (l.map fun b=> .i (Int.ofNat b))
theorem Zw {a b:List UInt8} (h:vF a=vF b):a=b:=by
 have:=Ob h
 have hinj: ∀{x y:UInt8},(D.i (x.toNat:Int))= .i (y.toNat:Int)→x=y:=by
  intro x y h
  simp only [D.i.injEq,Int.ofNat_inj] at h
  exact UInt8.toNat_inj.1 h
 induction a generalizing b with
 | nil=>cases b with
   | nil=>rfl
   | cons y b=>simp at this
 | cons x a ih=>cases b with
   | nil=>simp at this
   | cons y b=>
     simp only [List.map_cons,List.cons.injEq] at this
     rw [hinj this.1,ih (by unfold vF; rw [this.2]) this.2]
theorem N8 {a b:ByteArray} (h:Aa a=Aa b):a=b:=by
 have:=Zw h
 cases a with
 | mk x=>cases b with
   | mk y=>simp only [ByteArray.mk.injEq] at *; exact Array.toList_inj.1 this
theorem Gu (l:List Nat) (h: ∀b∈l,b < 256):nV l=vF (l.map UInt8.ofNat):=by
 unfold nV vF
 congr 1
 rw [List.map_map]
 apply List.map_congr_left
 intro b hb
 have:=h b hb
 simp [Nat.mod_eq_of_lt this]
theorem apJ (s:ByteArray):(Aa s).l.length=s.size:=by
 unfold Aa vF
 rw [aX,List.length_map]
 rfl
inductive aG where
 | len
 | at
 | cell (j:Nat)
 | num
 | mk
 | cons
 | snoc
 | cat
 | take
 | drop
 | set
 | bit
 | norm
 | sub
 | fill
 | idx
 | cnt
 | con
 | slt
 | L8
 | L9
 | Et
 | aeX
 | rep
 deriving DecidableEq,Inhabited
def iM (d:D) (l:List D):D:=match l with
 | []=>if d= .i 1 then .i 1 else .i 2
 | l=>dL l
theorem kP (d:D) (l:List D):(iM d l).l=l:=by
 cases l with
 | nil=>simp only [iM]; split <;> rfl
 | cons a l=>simp [iM]
theorem Gt {d:D} {l:List D} (h:l≠[]):iM d l=dL l:=by
 cases l with
 | nil=>exact absurd rfl h
 | cons a l=>rfl
theorem uG {d:D} (h:d≠.i 1):iM d []= .i 2:=by
 show (if d= .i 1 then D.i 1 else D.i 2)= .i 2
 rw [if_neg h]
theorem afZ {d:D} (h:d≠.i 1) (l:List D):iM d l≠.i 1:=by
 cases l with
 | nil=>rw [uG h]; simp
 | cons a l=>simp [iM,dL]
theorem EJ {d:D} {l m:List D} (h:d= .i 1→l= []):iM (iM d l) m=iM d m:=by
 cases m with
 | cons a m=>rfl
 | nil=>
   by_cases h1:d= .i 1
   ·rw [h h1,h1]; rfl
   ·rw [uG h1,uG (afZ h1 l)]
def wC (z:Int):List D→Int→Int
 | [],_=> -1
 | d :: l,i=>match d with
   | .i n=>if n=z then i else wC z l (i+1)
   | _=>wC z l (i+1)
def OO (l:List D) (z:Int):Int:=wC z l 0
def Zv:List D→List D→Bool
 | [],_=>true
 | _ :: _,[]=>false
 | a :: x,b :: y=>decide (a=b) && Zv x y
def apO (l x:List D):Bool:=match l with
 | []=>Zv x []
 | a :: l=>Zv x (a :: l) || apO l x
def avE (l:List D) (z:Int):Int:=match l with
 | []=>0
 | d :: l=>(if d= .i z then 1 else 0)+avE l z
def acU:List D→List D→Bool
 | [],[]=>false
 | [],_ :: _=>true
 | _ :: _,[]=>false
 | a :: x,b :: y=>if a.n < b.n then true else if b.n < a.n then false else acU x y
def iK (ds:List D) (z:Int) (x:D):List D:=if z < 0 then ds else ds.set z.toNat x
theorem iY (ds:List D) (z:Int) (x:D):(iK ds z x).length=ds.length:=by
 unfold iK; split
 ·rfl
 ·exact List.length_set
theorem AQ (ds:List D) (k:Nat) (x:D):iK ds (k:Int) x=ds.set k x:=by
 unfold iK; rw [if_neg (by omega)]; rfl
def agB:D→D
 | .p k _=>k
 | d=>d
def apI:D→D
 | .p _ v=>v
 | d=>d
def xQ:List D→D→Option D
 | [],_=>none
 | d :: l,k=>if agB d=k then some (apI d) else xQ l k
def Me:List D→D→D→List D
 | [],k,v=>[.p k v]
 | d :: l,k,v=>if agB d=k then .p k v :: l else d :: Me l k v
def VQ:List D→D→List D
 | [],_=>[]
 | d :: l,k=>if agB d=k then l else d :: VQ l k
noncomputable def aG.den (o:aG) (x y:Int):Int:=match o with
 | .len=>((dec x).l.length:Int)
 | .at=>enc ((dec x).at y)
 | .cell j=>enc ((dec x).hd j)
 | .num=>(dec x).n
 | .mk=>enc (.i x)
 | .cons=>enc (.p (dec x) (dec y))
 | .snoc=>enc (dL ((dec x).l++ [dec y]))
 | .cat=>enc (dL ((dec x).l++(dec y).l))
 | .take=>enc (iM (dec x) ((dec x).l.take y.toNat))
 | .drop=>enc (iM (dec x) ((dec x).l.drop y.toNat))
 | .set=>match dec y with
   | .p q v=>enc (dL (iK (dec x).l q.n v))
   | _=>x
 | .bit=>enc (.i (if (dec x).n=0 then 0 else 1))
 | .norm=>enc (dec x)
 | .sub=>enc (dL (((dec x).l.take ((dec y).hd 1).n.toNat).drop ((dec y).hd 0).n.toNat))
 | .fill=>match dec y with
   | .p q v=>enc (dL ((dec x).l.take q.n.toNat++List.replicate ((dec x).l.length - q.n.toNat) v))
   | _=>x
 | .idx=>OO (dec x).l y
 | .cnt=>avE (dec x).l y
 | .con=>if apO (dec x).l (dec y).l then 1 else 0
 | .slt=>if acU (dec x).l (dec y).l then 1 else 0
 | .L8=>if (xQ (dec x).l (dec y)).isSome then 1 else 0
 | .L9=>enc ((xQ (dec x).l (dec y)).getD (.i 0))
 | .Et=>match dec y with
   | .p k v=>enc (dL (Me (dec x).l k v))
   | _=>x
 | .aeX=>enc (dL (VQ (dec x).l (dec y)))
 | .rep=>enc (dL (List.replicate x.toNat (dec y)))
def aG.tag:aG→Nat
 | .len=>0
 | .at=>1
 | .cell j=>j+23
 | .num=>2
 | .mk=>3
 | .cons=>4
 | .snoc=>5
 | .cat=>6
 | .take=>7
 | .drop=>8
 | .set=>9
 | .bit=>10
 | .norm=>11
 | .sub=>12
 | .fill=>13
 | .idx=>14
 | .cnt=>15
 | .con=>16
 | .slt=>17
 | .L8=>18
 | .L9=>19
 | .Et=>20
 | .aeX=>21
 | .rep=>22
theorem aG.aqZ {a b:aG} (h:a.tag=b.tag):a=b:=by
 cases a <;> cases b <;> simp only [aG.tag] at h <;> first | rfl | (congr 1; omega) | omega
inductive CK where
 | int (k:IntKind)
 | bool
 | str
 | sl (t:Nat)
 deriving DecidableEq,Inhabited
inductive Row where
 | one (c:CK)
 | many (cs:List CK)
 deriving DecidableEq,Inhabited
def Row.es:Row→Nat
 | .one _=>1
 | .many cs=>cs.length
def rowOf (t:Nat):Row:=match t with
 | 0=> .one (.int .i64)
 | 1=> .one (.int .i64)
 | 2=> .one .str
 | 3=> .many [.int .u8,.str,.int .i64,.str,.int .i64]
 | 4=> .many [.str,.sl 2,.sl 5]
 | 5=> .many [.int .u8,.int .u8,.int .i64,.int .i64,.int .i64,.int .i64,.sl 6]
 | 6=> .many [.int .u8,.str,.int .i64,.sl 6]
 | 7=> .many [.int .i64,.int .i64,.bool,.int .i64,.sl 0,.sl 0]
 | 8=> .many [.int .i64,.sl 0,.int .u8,.int .i64,.int .i64,.int .i64]
 | 9=> .many [.int .i64,.int .u8,.int .i64,.int .i64,.int .i64]
 | 10=> .one (.sl 0)
 | 11=> .many [.int .i64,.int .i64,.int .i64]
 | 12=> .many [.int .i64,.int .i64]
 | 13=> .many [.int .i64,.int .u8,.int .i64,.int .i64,.int .i64]
 | 14=> .one (.int .u8)
 | 15=> .one (.sl 0)
 | _=> .one .bool
def mapOf (t:Nat):CK×CK:=match t with
 | 0=>(.int .i64,.int .i64)
 | 1=>(.str,.int .i64)
 | 2=>(.int .i64,.sl 0)
 | _=>(.int .i64,.bool)
def vI (c:CK) (d:D):Prop:=match c with
 | .int _=>d= .i d.n
 | .bool=>d= .i 0∨d= .i 1
 | _=>True
def U1 (cs:List CK) (d:D):Prop:=d=dL d.l∧d.l.length=cs.length∧∀(j:Nat) (c:CK) (x:D),cs[j]?=some c→d.l[j]?=some x→vI c x
def wF (r:Row) (d:D):Prop:=match r with
 | .one c=>vI c d
 | .many cs=>U1 cs d
def Jz (r:Row) (d:D):Prop:=d=dL d.l∧(∀x∈d.l,wF r x)∧d.l≠[]
end Go.As
end
section
namespace Go.As
noncomputable section
inductive SE where
 | lit (n:Int)
 | aQ (i:Nat)
 | add (a b:SE)
 | sub (a b:SE)
 | mul (a b:SE)
 | quo (a b:SE)
 | rem (a b:SE)
 | wrap (k:IntKind) (a:SE)
 | inp (b:Nat) (e:SE)
 | dat (d:D)
 | op (o:aG) (a b:SE)
 | ap (f:Nat) (a:SE)
 deriving DecidableEq,Inhabited
def kE (f:Nat) (z:Int):Nat:=1000+sV f (zN z)*64+63
noncomputable def SE.den (ρ:Nat→Int):SE→Int
 | .lit n=>n
 | .aQ i=>ρ i
 | .add a b=>a.den ρ+b.den ρ
 | .sub a b=>a.den ρ - b.den ρ
 | .mul a b=>a.den ρ*b.den ρ
 | .quo a b=>(a.den ρ).tdiv (b.den ρ)
 | .rem a b=>(a.den ρ).tmod (b.den ρ)
 | .wrap k a=>k.wrap (a.den ρ)
 | .inp b e=>ρ (1000+(e.den ρ).toNat*64+b)
 | .dat d=>enc d
 | .op o a b=>o.den (a.den ρ) (b.den ρ)
 | .ap f a=>ρ (kE f (a.den ρ))
def Bl:Int→Int→Bool
 | .ofNat a,.ofNat b=>Nat.beq a b
 | .negSucc a,.negSucc b=>Nat.beq a b
 | _,_=>false
def D.eqb:D→D→Bool
 | .i a,.i b=>Bl a b
 | .p a b,.p c d=>match D.eqb a c with | true=>D.eqb b d | false=>false
 | _,_=>false
theorem CY {a b:Int} (h:Bl a b=true):a=b:=by
 cases a <;> cases b <;> simp [Bl] at h <;> rw [h]
theorem D.Zf: ∀{a b:D},D.eqb a b=true→a=b
 | .i a,.i b,h=>by simp only [D.eqb] at h; rw [CY h]
 | .p a b,.p c d,h=>by
   simp only [D.eqb] at h
   split at h
   ·rename_i h1; rw [D.Zf h1,D.Zf h]
   ·simp at h
 | .i _,.p _ _,h=>by simp [D.eqb] at h
 | .p _ _,.i _,h=>by simp [D.eqb] at h
def gB:SE→SE→Bool
 | .lit a,.lit b=>a == b
 | .aQ i,.aQ j=>Nat.beq i j
 | .add a b,.add c d=>match gB a c with | true=>gB b d | false=>false
 | .sub a b,.sub c d=>match gB a c with | true=>gB b d | false=>false
 | .mul a b,.mul c d=>match gB a c with | true=>gB b d | false=>false
 | .quo a b,.quo c d=>match gB a c with | true=>gB b d | false=>false
 | .rem a b,.rem c d=>match gB a c with | true=>gB b d | false=>false
 | .wrap k a,.wrap l b=>match gB a b with | true=>decide (k=l) | false=>false
 | .inp i a,.inp j b=>match Nat.beq i j with | true=>gB a b | false=>false
 | .dat a,.dat b=>D.eqb a b
 | .op o a b,.op q c d=>match Nat.beq o.tag q.tag with
   | true=>match gB a c with | true=>gB b d | false=>false
   | false=>false
 | .ap f a,.ap g b=>match Nat.beq f g with | true=>gB a b | false=>false
 | _,_=>false
theorem bW: ∀(a b:SE),gB a b=true→a=b
 | .lit a,b,h=>by cases b <;> simp [gB] at h; rw [h]
 | .aQ i,b,h=>by cases b <;> simp [gB] at h; rw [h]
 | .add a b,c,h=>by cases c <;> simp only [gB,Bool.false_eq_true] at h; split at h <;> first | (rename_i h1; rw [bW _ _ h1,bW _ _ h]; done) | simp at h
 | .sub a b,c,h=>by cases c <;> simp only [gB,Bool.false_eq_true] at h; split at h <;> first | (rename_i h1; rw [bW _ _ h1,bW _ _ h]; done) | simp at h
 | .mul a b,c,h=>by cases c <;> simp only [gB,Bool.false_eq_true] at h; split at h <;> first | (rename_i h1; rw [bW _ _ h1,bW _ _ h]; done) | simp at h
 | .quo a b,c,h=>by cases c <;> simp only [gB,Bool.false_eq_true] at h; split at h <;> first | (rename_i h1; rw [bW _ _ h1,bW _ _ h]; done) | simp at h
 | .rem a b,c,h=>by cases c <;> simp only [gB,Bool.false_eq_true] at h; split at h <;> first | (rename_i h1; rw [bW _ _ h1,bW _ _ h]; done) | simp at h
 | .wrap k a,c,h=>by cases c <;> simp only [gB,Bool.false_eq_true] at h; split at h <;> first | (rename_i h1; rw [bW _ _ h1,of_decide_eq_true h]; done) | simp at h
 | .inp i a,c,h=>by cases c <;> simp only [gB,Bool.false_eq_true] at h; split at h <;> first | (rename_i h1; rw [Nat.eq_of_beq_eq_true h1,bW _ _ h]; done) | simp at h
 | .dat a,c,h=>by cases c <;> simp only [gB,Bool.false_eq_true] at h; rw [D.Zf h]
 | .op o a b,c,h=>by
   cases c <;> simp only [gB,Bool.false_eq_true] at h
   split at h
   ·rename_i h0
    split at h
    ·rename_i h1
     rw [aG.aqZ (Nat.eq_of_beq_eq_true h0),bW _ _ h1,bW _ _ h]
    ·simp at h
   ·simp at h
 | .ap f a,c,h=>by cases c <;> simp only [gB,Bool.false_eq_true] at h; split at h <;> first | (rename_i h1; rw [Nat.eq_of_beq_eq_true h1,bW _ _ h]; done) | simp at h
inductive SB where
 | lit (b:Bool)
 | lt (a b:SE)
 | le (a b:SE)
 | eq (a b:SE)
 | not (s:SB)
 | and (a b:SB)
 deriving DecidableEq,Inhabited
noncomputable def SB.den (ρ:Nat→Int):SB→Bool
 | .lit b=>b
 | .lt a b=>decide (a.den ρ < b.den ρ)
 | .le a b=>decide (a.den ρ≤b.den ρ)
 | .eq a b=>a.den ρ == b.den ρ
 | .not s=>!(s.den ρ)
 | .and a b=>a.den ρ && b.den ρ
def Ai (k:IntKind) (n:Int):Int:=
 match k with
 | .i64=>if -9223372036854775808≤n∧n≤9223372036854775807 then n else k.wrap n
 | .u8=>if 0≤n∧n≤255 then n else k.wrap n
 | _=>k.wrap n
inductive Xv where
 | exact (c:Nat)
 | rest (es:Nat)
 deriving DecidableEq,Inhabited
inductive AV where
 | bool (b:SB)
 | int (k:IntKind) (e:SE)
 | str (s:List Nat)
 | ptr (id off:Nat)
 | jJ
 | qU (cells:List AV)
 | slice (id off len:Nat) (c:Xv)
 | aA
 | ro (cells:List AV) (n:Nat) (full:Bool)
 | map (id:Nat)
 | lW
 | func (fn:Fn) (fs cs:List AV)
 | yU
 | iface (t:Nat) (v:AV)
 | Es
 | agg (cs:List AV)
 | tuple (vs:List AV)
 | opq (i:Nat)
 | inp (k:Nat) (ks:List IntKind)
 | dat (e:SE) (t:Nat)
 | lX (e:SE)
 | uK (id:Nat) (n:SE) (t:Nat)
 | pY (id es:Nat) (i:SE) (off:Nat)
 | emp
 | Ap (id:Nat) (lo n:SE) (t:Nat)
 | any
 | G9 (z:SE) (t:Nat)
 deriving Inhabited
def AV.undef:AV:=.tuple []
def AV.cells:AV→List AV
 | .agg cs=>cs
 | v=>[v]
def AV.one:AV→Bool
 | .agg _=>false
 | .tuple _=>false
 | .opq _=>false
 | .any=>false
 | _=>true
inductive dW where
 | cells (cs:List AV) (e:TypeId)
 | map (es:List (AV×AV×Nat)) (clock:Nat)
 | nS (s:List Nat) (pos:Nat)
 | vec (e:SE) (t:Nat) (ty:TypeId) (ov:List (SE×List AV))
 | iR (e:SE) (t:Nat)
 deriving Inhabited
structure Hp where
 m:Tr dW
 next:Nat
 res:Option Nat:=none
 deriving Inhabited
def Hp.get (h:Hp) (i:Nat):Option dW:=h.m.get i
def Hp.put (h:Hp) (i:Nat) (o:dW):Hp:=⟨h.m.put i (some o),h.next,h.res⟩
def Hp.drop (h:Hp) (i:Nat):Hp:=⟨h.m.put i none,h.next,h.res⟩
def Hp.fresh (h:Hp):Nat:=match h.res with
 | none=>h.next
 | some r=>r
def Hp.new (h:Hp) (o:dW):Hp:=match h.res with
 | none=> ⟨h.m.put h.next (some o),h.next+1,none⟩
 | some r=> ⟨h.m.put r (some o),h.next,none⟩
inductive T (α:Type) where
 | fail
 | ret (a:α)
 | split (c:SB) (t f:T α)
 deriving Inhabited
def T.bind {α β:Type}:T α→(α→T β)→T β
 | .fail,_=> .fail
 | .ret a,f=>f a
 | .split c x y,f=> .split c (x.bind f) (y.bind f)
def T.leaf {α:Type} (ρ:Nat→Int):T α→Option α
 | .fail=>none
 | .ret a=>some a
 | .split c x y=>match c.den ρ with
   | true=>x.leaf ρ
   | false=>y.leaf ρ
inductive TK where
 | bool
 | int (k:IntKind)
 | string
 | pointer (e:Nat)
 | slice (e:Nat)
 | array (n e:Nat)
 | map (k e:Nat)
 | struct (fs:List (Nat×Nat×Nat))
 | func
 | iface (plain:Bool)
 | tuple
 deriving DecidableEq,Inhabited
structure TI where
 kind:TK
 size:Nat
 bytes:Nat
 zero:List AV
 eqs:Bool
 own:Option Nat:=none
 deriving Inhabited
def TK.agg (k:TK):Bool:=match k with | .struct _=>true | .array _ _=>true | _=>false
def TI.agg (i:TI):Bool:=i.kind.agg
abbrev TT:=Nat→Option TI
def bytesOf (s:ByteArray):List Nat:=s.data.toList.map (·.toNat)
def iZ:Value→Option AV
 | .bool b=>some (.bool (.lit b))
 | .int k n=>some (.int k (.lit n))
 | .string s=>some (.str (bytesOf s))
 | .pointer none=>some .jJ
 | .slice none 0 0=>some .aA
 | .map none=>some .lW
 | .nilFunc=>some .yU
 | .nilIface=>some .Es
 | .func fn f c=>if f.isEmpty && c.isEmpty then some (.func fn [] []) else none
 | _=>none
def nM:List Value→Option (List AV)
 | []=>some []
 | v :: vs=>match iZ v with
   | none=>none
   | some a=>match nM vs with
     | none=>none
     | some aFG=>some (a :: aFG)
def ofConst:Value→Option AV
 | .agg cs=>(nM cs.toList).map .agg
 | .tuple vs=>(nM vs.toList).map .tuple
 | v=>iZ v
def AY (a b:SE):SB:=match gB a b with
 | true=> .lit true
 | false=>match a with
   | .dat _=> .eq b a
   | _=> .eq a b
def Ph (x:SE):SE:=match x with
 | .op o a _=>match o with
   | .mk=>a
   | _=> .op .num x (.lit 0)
 | .dat d=>match d with
   | .i n=> .lit n
   | _=> .op .num x (.lit 0)
 | _=> .op .num x (.lit 0)
def Hw (x:SE):SE:=match x with
 | .lit n=> .dat (.i n)
 | x=> .op .mk x (.lit 0)
def mP (j:Nat) (x:SE):SE:=match x with
 | .op o a b=>match o with
   | .cons=>match j with
     | 0=>a
     | j+1=>mP j b
   | _=> .op (.cell j) x (.lit 0)
 | _=> .op (.cell j) x (.lit 0)
def eP (x:SE):SE:=match x with
 | .op o a _=>match o with
   | .set=>eP a
   | _=> .op .len x (.lit 0)
 | .dat d=> .lit (Int.ofNat d.l.length)
 | _=> .op .len x (.lit 0)
def gQ (a b:SE):SE:=.op .cons a b
def YI (x:SE):Bool:=match x with
 | .dat d=>match d with
   | .i n=>Bl n 0
   | _=>false
 | _=>false
def Ae (c:CK) (x:SE):AV:=match c with
 | .int k=> .int k (Ph x)
 | .bool=> .bool (.not (.eq (Ph x) (.lit 0)))
 | .str=> .lX x
 | .sl t=> .dat x t
def kU:List CK→Nat→SE→List AV
 | [],_,_=>[]
 | c :: cs,j,x=>Ae c (mP j x) :: kU cs (j+1) x
def jB (r:Row) (x:SE):List AV:=match r with
 | .one c=>[Ae c x]
 | .many cs=>kU cs 0 x
def qQ (x:SE):SE:=match x with
 | .dat d=> .dat d
 | .op o a b=>match o with
   | .cell j=> .op (.cell j) a b
   | .at=> .op .at a b
   | o=> .op .norm (.op o a b) (.lit 0)
 | x=> .op .norm x (.lit 0)
def Ah:AV→Option SE
 | .str l=>some (.dat (nV l))
 | .lX e=>some e
 | _=>none
def strEq (x y:AV):Option SB:=match Ah x with
 | none=>none
 | some a=>match Ah y with
   | none=>none
   | some b=>some (AY (qQ a) (qQ b))
def qY (c:CK) (v:AV):Option SE:=match c with
 | .int k=>match v with
   | .int k' e=>if k=k' then some (Hw e) else none
   | _=>none
 | .bool=>match v with
   | .bool c=>match c with
     | .lit b=>some (.dat (.i (if b then 1 else 0)))
     | .not d=>match d with
       | .eq x z=>match z with
         | .lit n=>if n=0 then some (.op .bit (Hw x) (.lit 0)) else none
         | _=>none
       | _=>none
     | _=>none
   | _=>none
 | .str=>Ah v
 | .sl t=>match v with
   | .dat e t'=>if t=t' then some e else none
   | .aA=>some (.dat (.i 1))
   | .G9 z t'=>if t=t' then some z else none
   | .slice _ _ n _=>match n with
     | 0=>some (.dat (.i 2))
     | _=>none
   | _=>none
def codeCells:List CK→List AV→Option SE
 | [],[]=>some (.dat (.i 0))
 | c :: cs,v :: vs=>match qY c v with
   | none=>none
   | some a=>match codeCells cs vs with
     | none=>none
     | some b=>some (gQ a b)
 | _,_=>none
def codeRow (r:Row) (cs:List AV):Option SE:=match r with
 | .one c=>match cs with
   | [v]=>qY c v
   | _=>none
 | .many ks=>codeCells ks cs
def sH (r:Row) (e:SE):Nat→List AV→Option SE
 | 0,[]=>some e
 | 0,_ :: _=>none
 | m+1,cs=>match codeRow r (cs.take r.es) with
   | none=>none
   | some x=>sH r (.op .snoc e x) m (cs.drop r.es)
structure St where
 slots:Tr AV
 h:Hp
 pc:List (SB×Bool)
 deriving Inhabited
def St.set (s:St) (t:Nat) (v:AV):St:={ s with slots:=s.slots.put t (some v) }
def St.Vu (s:St) (d:Option Nat) (v:AV):St:=match d with | some t=>s.set t v | none=>s
def ev (s:St):Operand→Option AV
 | .tmp t=>s.slots.get t
 | .const v=>ofConst v
 | .func f=>some (.func (.func f) [] [])
 | .global _=>none
def evs (s:St):List Operand→Option (List AV)
 | []=>some []
 | x :: xs=>match ev s x with
   | none=>none
   | some a=>match evs s xs with
     | none=>none
     | some aFG=>some (a :: aFG)
def sQ:SB→SB→Bool
 | .lit a,.lit b=>a == b
 | .lt a b,.lt c d=>match gB a c with | true=>gB b d | false=>false
 | .le a b,.le c d=>match gB a c with | true=>gB b d | false=>false
 | .eq a b,.eq c d=>match gB a c with | true=>gB b d | false=>false
 | .not a,.not b=>sQ a b
 | .and a b,.and c d=>match sQ a c with | true=>sQ b d | false=>false
 | _,_=>false
theorem xA: ∀(a b:SB),sQ a b=true→a=b
 | .lit a,b,h=>by cases b <;> simp [sQ] at h; rw [h]
 | .lt a b,c,h=>by cases c <;> simp only [sQ,Bool.false_eq_true] at h; split at h <;> first | (rename_i h1; rw [bW _ _ h1,bW _ _ h]; done) | simp at h
 | .le a b,c,h=>by cases c <;> simp only [sQ,Bool.false_eq_true] at h; split at h <;> first | (rename_i h1; rw [bW _ _ h1,bW _ _ h]; done) | simp at h
 | .eq a b,c,h=>by cases c <;> simp only [sQ,Bool.false_eq_true] at h; split at h <;> first | (rename_i h1; rw [bW _ _ h1,bW _ _ h]; done) | simp at h
 | .not a,c,h=>by cases c <;> simp only [sQ,Bool.false_eq_true] at h; rw [xA _ _ h]
 | .and a b,c,h=>by cases c <;> simp only [sQ,Bool.false_eq_true] at h; split at h <;> first | (rename_i h1; rw [xA _ _ h1,xA _ _ h]; done) | simp at h
def qV (c:SB):List (SB×Bool)→Option Bool
 | []=>none
 | (d,b) :: l=>match sQ c d with
   | true=>some b
   | false=>qV c l
def akQ (a:Option Int) (z:Int):Option Int:=match a with
 | none=>some z
 | some y=>some (if y < z then z else y)
def akP (a:Option Int) (z:Int):Option Int:=match a with
 | none=>some z
 | some y=>some (if z < y then z else y)
def akD (a:Option Int) (z:Int):Option Int:=match a with
 | none=>none
 | some y=>some (if y=z then z+1 else y)
def akF (a:Option Int) (z:Int):Option Int:=match a with
 | none=>none
 | some y=>some (if y=z then z - 1 else y)
def adK (e:SE):Option Int×Option Int:=match e with
 | .rem a c=>match c with
   | .lit k=>match a with
     | .add b d=>match d with
       | .lit m=>match b with
         | .rem _ f=>match f with
           | .lit n=>if 0 < n∧n=m∧m=k then (some 0,some (n - 1)) else (none,none)
           | _=>(none,none)
         | _=>(none,none)
       | _=>(none,none)
     | _=>(none,none)
   | _=>(none,none)
 | .op o _ _=>match o with
   | .len=>(some 0,none)
   | _=>(none,none)
 | _=>(none,none)
def bounds (e:SE):List (SB×Bool)→Option Int×Option Int
 | []=>adK e
 | (c,v) :: l=>match c with
   | .lt x y=>match x with
     | .lit z=>match gB y e with
       | false=>bounds e l
       | true=>match bounds e l with
         | (lo,hi)=>match v with
           | true=>(akQ lo (z+1),hi)
           | false=>(lo,akP hi z)
     | x=>match y with
       | .lit z=>match gB x e with
         | false=>bounds e l
         | true=>match bounds e l with
           | (lo,hi)=>match v with
             | true=>(lo,akP hi (z - 1))
             | false=>(akQ lo z,hi)
       | _=>bounds e l
   | .eq x y=>match y with
     | .lit z=>match v with
       | false=>match gB x e with
         | false=>bounds e l
         | true=>match bounds e l with
           | (lo,hi)=>(akD lo z,akF hi z)
       | true=>match gB x e with
         | false=>bounds e l
         | true=>(some z,some z)
     | _=>bounds e l
   | _=>bounds e l
def tV (e:SE) (pc:List (SB×Bool)):Option Int×Option Int:=match e with
 | .wrap k s=>match k with
   | .i64=>match s with
     | .add b d=>match d with
       | .lit c=>match bounds b pc with
         | (some lo,some hi)=>if -9223372036854775808≤lo+c∧hi+c≤9223372036854775807 then (match bounds e pc with
           | (l2,h2)=>(akQ l2 (lo+c),akP h2 (hi+c))) else bounds e pc
         | _=>bounds e pc
       | _=>bounds e pc
     | _=>bounds e pc
   | _=>bounds e pc
 | _=>bounds e pc
def abH (a b:SE) (pc:List (SB×Bool)):Option Bool:=match qV (.eq a b) pc with
 | some v=>some v
 | none=>qV (.eq b a) pc
def decLt (pc:List (SB×Bool)) (a b:SE):Option Bool:=match qV (.lt a b) pc with
 | some v=>some v
 | none=>match a with
   | .lit z=>match tV b pc with
     | (lo,hi)=>match lo with
       | some l=>if z < l then some true else match hi with
         | some h=>if h≤z then some false else none
         | none=>none
       | none=>match hi with
         | some h=>if h≤z then some false else none
         | none=>none
   | a=>match b with
     | .lit z=>match tV a pc with
       | (lo,hi)=>match hi with
         | some h=>if h < z then some true else match lo with
           | some l=>if z≤l then some false else none
           | none=>none
         | none=>match lo with
           | some l=>if z≤l then some false else none
           | none=>none
     | b=>match abH a b pc with
       | some true=>some false
       | some false=>match qV (.lt b a) pc with
         | some v=>some !v
         | none=>none
       | none=>match qV (.lt b a) pc with
         | some true=>some false
         | _=>none
def decEq (pc:List (SB×Bool)) (a b:SE):Option Bool:=match abH a b pc with
 | some v=>some v
 | none=>match b with
   | .lit z=>match tV a pc with
     | (lo,hi)=>match lo with
       | some l=>if z < l then some false else match hi with
         | some h=>if h < z then some false else if l=z∧h=z then some true else none
         | none=>none
       | none=>match hi with
         | some h=>if h < z then some false else none
         | none=>none
   | b=>match qV (.lt a b) pc with
     | some true=>some false
     | some false=>match qV (.lt b a) pc with
       | some v=>some !v
       | none=>none
     | none=>match qV (.lt b a) pc with
       | some true=>some false
       | _=>none
def KC (pc:List (SB×Bool)) (c:SB):Option Bool:=
 match c with
 | .lit b=>some b
 | .lt a b=>decLt pc a b
 | .eq a b=>decEq pc a b
 | c=>qV c pc
def mF (pc:List (SB×Bool)) (c:SB):Option Bool:=
 match c with
 | .not s=>(KC pc s).map (!·)
 | c=>KC pc c
def pV {α:Type} (s:St) (c:SB) (f:St→Bool→T α):T α:=
 match mF s.pc c with
 | some b=>f s b
 | none=>match c with
   | .not d=> .split d (f { s with pc:=(d,true) :: s.pc } false) (f { s with pc:=(d,false) :: s.pc } true)
   | c=> .split c (f { s with pc:=(c,true) :: s.pc } true) (f { s with pc:=(c,false) :: s.pc } false)
def ajJ (k:IntKind):SE→SE→SE
 | .lit x,.lit y=> .lit (Ai k (x+y))
 | a,b=> .wrap k (.add a b)
def aaV (k:IntKind):SE→SE→SE
 | .lit x,.lit y=> .lit (Ai k (x - y))
 | a,b=> .wrap k (.sub a b)
def ajI (k:IntKind):SE→SE→SE
 | .lit x,.lit y=> .lit (Ai k (x*y))
 | a,b=> .wrap k (.mul a b)
def kM:SE→SE→SB
 | .lit x,.lit y=> .lit (decide (x < y))
 | a,b=> .lt a b
def arX:SE→SE→SB
 | .lit x,.lit y=> .lit (decide (x≤y))
 | a,b=> .not (.lt b a)
def Dv:SE→SE→SB
 | .lit x,.lit y=> .lit (x == y)
 | .lit x,b=> .eq b (.lit x)
 | a,b=>match gB a b with
   | true=> .lit true
   | false=> .eq a b
def DJ:SB→SB
 | .lit b=> .lit !b
 | .not s=>s
 | s=> .not s
def ajL:SB→SB→SB
 | .lit true,b=>b
 | .lit false,_=> .lit false
 | a,.lit true=>a
 | _,.lit false=> .lit false
 | a,b=> .and a b
def bytesLess:List Nat→List Nat→Bool
 | _,[]=>false
 | [],_ :: _=>true
 | a :: x,b :: y=>if a.blt b then true else if a.beq b then bytesLess x y else false
def jF:List Nat→List Nat→Bool
 | [],[]=>true
 | a :: x,b :: y=>if a.beq b then jF x y else false
 | _,_=>false
def Vr (op:BinOp) (x y:List Nat):Option AV:=
 match op with
 | .add=>if x.length+y.length≤1000000 then some (.str (x++y)) else none
 | .eql=>some (.bool (.lit (jF x y)))
 | .neq=>some (.bool (.lit !(jF x y)))
 | .lss=>some (.bool (.lit (bytesLess x y)))
 | .leq=>some (.bool (.lit (bytesLess x y || jF x y)))
 | .gtr=>some (.bool (.lit !(bytesLess x y || jF x y)))
 | .geq=>some (.bool (.lit !(bytesLess x y)))
 | _=>none
def abW (op:BinOp) (k:IntKind) (a b:SE):Option AV:=
 match op with
 | .add=>some (.int k (ajJ k a b))
 | .sub=>some (.int k (aaV k a b))
 | .mul=>some (.int k (ajI k a b))
 | .quo=>match a,b with
   | .lit x,.lit y=>if y=0 then none else some (.int k (.lit (Ai k (x.tdiv y))))
   | a,.lit y=>if y=0 then none else some (.int k (.wrap k (.quo a (.lit y))))
   | _,_=>none
 | .rem=>match a,b with
   | .lit x,.lit y=>if y=0 then none else some (.int k (.lit (x.tmod y)))
   | a,.lit y=>if y=0 then none else some (.int k (.rem a (.lit y)))
   | _,_=>none
 | .shr=>match a,b with
   | .lit x,.lit y=>if y < 0 then none else some (.int k (.lit (x.fdiv (2 ^ (min y.toNat k.bits)))))
   | _,_=>none
 | .eql=>some (.bool (Dv a b))
 | .neq=>some (.bool (DJ (Dv a b)))
 | .lss=>some (.bool (kM a b))
 | .leq=>some (.bool (arX a b))
 | .gtr=>some (.bool (kM b a))
 | .geq=>some (.bool (arX b a))
 | _=>none
def gI {α:Type}:List α→Nat→Option α
 | [],_=>none
 | x :: _,0=>some x
 | _ :: xs,n+1=>gI xs n
def Ky (a b:SB):Option SB:=
 match a,b with
 | .lit x,.lit y=>some (.lit (x == y))
 | .lit x,b=>some (if x then b else DJ b)
 | a,.lit y=>some (if y then a else DJ a)
 | a,b=>some (.not (.and (.not (.and a b)) (.not (.and (.not a) (.not b)))))
def Zg (k:TK) (x y:AV):Option SB:=
 match k with
 | .int _=>match x,y with
   | .int k a,.int k' b=>if k=k' then some (Dv a b) else none
   | _,_=>none
 | .string=>match x,y with
   | .str a,.str b=>some (.lit (jF a b))
   | x,y=>strEq x y
 | .bool=>match x,y with
   | .bool a,.bool b=>Ky a b
   | _,_=>none
 | _=>none
def amO (tt:TT) (xs ys:List AV):List (Nat×Nat×Nat)→Option SB
 | []=>some (.lit true)
 | (off,ft,_) :: fs=>match tt ft with
   | none=>none
   | some i=>match gI xs off,gI ys off with
     | some x,some y=>match Zg i.kind x y with
       | none=>none
       | some c=>match amO tt xs ys fs with
         | none=>none
         | some d=>some (ajL c d)
     | _,_=>none
def Kv (tt:TT) (t:Nat) (xs ys:List AV):Option SB:=
 match tt t with
 | none=>none
 | some i=>match i.kind with
   | .struct fs=>if i.eqs then amO tt xs ys fs else none
   | _=>none
def mY:AV→Option Int
 | .int _ (.lit n)=>some n
 | _=>none
def isNil (k:TK) (x:AV):Option Bool:=
 match k with
 | .slice _=>match x with
   | .aA=>some true
   | .slice _ _ _ _=>some false
   | .ro _ _ _=>some false
   | .uK _ _ _=>some false
   | _=>none
 | .pointer _=>match x with
   | .jJ=>some true
   | .ptr _ _=>some false
   | .qU _=>some false
   | _=>none
 | .map _ _=>match x with
   | .lW=>some true
   | .map _=>some false
   | _=>none
 | _=>none
def aBN (k:TK) (x y:AV):Option SB:=
 match k with
 | .bool=>match x,y with
   | .bool a,.bool b=>Ky a b
   | _,_=>none
 | k=>match isNil k x,isNil k y with
   | some true,some b=>some (.lit b)
   | some false,some true=>some (.lit false)
   | _,_=>none
def SX (op:BinOp) (c:Option SB):Option AV:=match c with
 | none=>none
 | some c=>match op with
   | .eql=>some (.bool c)
   | .neq=>some (.bool (.not c))
   | _=>none
def amM (tt:TT) (t:Nat) (op:BinOp) (x y:AV):Option AV:=
 match x with
 | .int k a=>match y with
   | .int k' b=>match op with
     | .shr=>abW op k a b
     | .shl=>none
     | _=>if k=k' then abW op k a b else none
   | _=>none
 | .str a=>match y with
   | .str b=>Vr op a b
   | .lX e=>SX op (strEq (.str a) (.lX e))
   | _=>none
 | .lX e=>SX op (strEq (.lX e) y)
 | _=>match tt t with
   | none=>none
   | some i=>match op,aBN i.kind x y with
     | .eql,some c=>some (.bool c)
     | .neq,some c=>some (.bool (DJ c))
     | _,_=>none
def aBL (op:UnOp) (x:AV):Option AV:=
 match op,x with
 | .not,.bool b=>some (.bool (DJ b))
 | .neg,.int k e=>some (.int k (aaV k (.lit 0) e))
 | _,_=>none
def jT {α:Type}:Nat→List α→Option (List α)
 | 0,_=>some []
 | _+1,[]=>none
 | n+1,x :: xs=>match jT n xs with
   | some l=>some (x :: l)
   | none=>none
def fE {α:Type}:Nat→List α→Option (List α)
 | 0,l=>some l
 | _+1,[]=>none
 | n+1,_ :: xs=>fE n xs
def splice:List AV→Nat→List AV→Option (List AV)
 | cs,0,[]=>some cs
 | [],0,_ :: _=>none
 | _ :: cs,0,v :: vs=>match splice cs 0 vs with
   | some l=>some (v :: l)
   | none=>none
 | [],_+1,_=>none
 | c :: cs,n+1,vs=>match splice cs n vs with
   | some l=>some (c :: l)
   | none=>none
def wQ:List AV→Bool
 | []=>true
 | v :: vs=>v.one && wQ vs
def qH (h:Hp) (p:AV) (n:Nat):Option (List AV):=
 match p with
 | .ptr id off=>match h.get id with
   | some (.cells cs _)=>match fE off cs with
     | some l=>jT n l
     | none=>none
   | _=>none
 | .qU cs=>jT n cs
 | _=>none
def Iz (tt:TT) (t:Nat) (p:AV) (h:Hp):Option AV:=
 match tt t with
 | none=>none
 | some i=>match i.agg with
   | true=>(qH h p i.size).map .agg
   | false=>match qH h p 1 with
     | some (v :: _)=>some v
     | _=>none
def Ui (tt:TT) (t:Nat) (p v:AV) (h:Hp):Option Hp:=
 match tt t with
 | none=>none
 | some i=>
   if v.cells.length=i.size && wQ v.cells then
    match p with
    | .ptr id off=>match h.get id with
      | some (.cells cs e)=>match splice cs off v.cells with
        | some cs'=>some (h.put id (.cells cs' e))
        | none=>none
      | _=>none
    | _=>none
   else none
def zL (place:Nat→Option (Nat×Nat)) (cs:List AV):List (Nat×AV)→Option (List AV)
 | []=>some cs
 | (i,v) :: rest=>match place i with
   | none=>none
   | some (off,size)=>
     if v.cells.length=size && wQ v.cells then
      match splice cs off v.cells with
      | some cs'=>zL place cs' rest
      | none=>none
     else none
def jU (tt:TT) (t:Nat):Option Nat:=(tt t).map (·.size)
def UA (tt:TT) (t:Nat) (parts:List (Nat×AV)):Option AV:=
 match tt t with
 | some i=>match i.kind with
   | .struct fs=>(zL (fun j=>(gI fs j).map fun f=>(f.1,f.2.2)) i.zero parts).map .agg
   | .array _ e=>match jU tt e with
     | some s=>(zL (fun j=>some (j*s,s)) i.zero parts).map .agg
     | none=>none
   | _=>none
 | none=>none
def repeatL {α:Type} (l:List α):Nat→List α
 | 0=>[]
 | n+1=>l++repeatL l n
def zO (tt:TT) (t len:Nat) (parts:List (Nat×AV)) (h:Hp):Option (AV×Hp):=
 match tt t with
 | some i=>match i.kind with
   | .slice e=>match tt e with
     | some ie=>
       if len≤1000∧ie.size≤1000∧ie.zero.length=ie.size then
        match zL (fun j=>some (j*ie.size,ie.size)) (repeatL ie.zero len) parts with
        | some cs=>some (.slice h.fresh 0 len (.exact len),h.new (.cells cs e))
        | none=>none
       else none
     | none=>none
   | _=>none
 | none=>none
def wB (tt:TT) (t:Nat) (l c:AV) (h:Hp):Option (AV×Hp):=
 match mY l with
 | some (.ofNat n)=>match mY c with
   | some (.ofNat m)=>match tt t with
     | some i=>match i.kind with
       | .slice e=>match tt e with
         | some ie=>
           if n≤m∧m≤1000∧ie.size≤1000∧ie.bytes≤1000000∧ie.zero.length=ie.size then
            some (.slice h.fresh 0 n (.exact m),h.new (.cells (repeatL ie.zero m) e))
           else none
         | none=>none
       | _=>none
     | none=>none
   | _=>none
 | _=>none
def abE (off:Nat) (x:AV):Option AV:=match x with
 | .ptr id o=>some (.ptr id (o+off))
 | .pY id es i o=>some (.pY id es i (o+off))
 | .qU cs=>(fE off cs).map .qU
 | _=>none
def partOf (i:TI) (l:List AV):Option AV:=match i.agg with
 | true=>(jT i.size l).map .agg
 | false=>match l with
   | v :: _=>some v
   | []=>none
def BI (tt:TT) (t:Nat) (p:AV) (f:Nat):Option AV:=
 match tt t with
 | some i=>match i.kind with
   | .struct fs=>match gI fs f with
     | some (off,_,size)=>match size with
       | 0=>none
       | _=>abE off p
     | none=>none
   | _=>none
 | none=>none
def Us (tt:TT) (t:Nat) (x:AV) (f:Nat):Option AV:=
 match tt t with
 | some i=>match i.kind with
   | .struct fs=>match gI fs f with
     | some (off,ft,_)=>match tt ft,x with
       | some fi,.agg cs=>match fE off cs with
         | some l=>partOf fi l
         | none=>none
       | _,_=>none
     | none=>none
   | _=>none
 | none=>none
def sF (tt:TT) (t:Nat) (x ix:AV):Option AV:=
 match mY ix with
 | some (.ofNat i)=>match tt t with
   | some ti=>match ti.kind with
     | .array n e=>if i < n then match jU tt e with
      | some s=>abE (i*s) x
      | none=>none
      else none
     | .slice e=>match jU tt e with
       | some s=>match x with
         | .slice id o len _=>if i < len then some (.ptr id (o+i*s)) else none
         | .ro cs n _=>if i < n then (fE (i*s) cs).map .qU else none
         | _=>none
       | none=>none
     | _=>none
   | none=>none
 | _=>none
def Bo (k:Nat) (e:SE):List IntKind→Nat→List AV
 | [],_=>[]
 | kd :: ks,j=> .int kd (.inp (k*8+j) e) :: Bo k e ks (j+1)
def Uo (tt:TT) (pc:List (SB×Bool)) (t k:Nat) (ks:List IntKind) (ix:AV):Option AV:=
 match ix with
 | .int _ e=>match tt t with
   | some ti=>match ti.kind with
     | .slice el=>match jU tt el with
       | some s=>if s=ks.length∧k < 8∧s≤8 then match mF pc (kM e (.lit 0)),mF pc (kM e (.aQ (900+k))) with
        | some false,some true=>some (.qU (Bo k e ks 0))
        | _,_=>none
        else none
       | none=>none
     | _=>none
   | none=>none
 | _=>none
def Gj (tt:TT) (t:Nat) (x ix:AV):Option AV:=
 match mY ix with
 | some (.ofNat i)=>match tt t with
   | some ti=>match ti.kind,x with
     | .string,.str s=>(gI s i).map fun b=> .int .u8 (.lit (Int.ofNat b))
     | .array n e,.agg cs=>if i < n then match tt e with
      | some ie=>match fE (i*ie.size) cs with
        | some l=>partOf ie l
        | none=>none
      | none=>none
      else none
     | _,_=>none
   | none=>none
 | _=>none
def bnd (x:Option AV) (d:Nat) (y:Nat):Option Nat:=
 match x with
 | none=>if d≤y then some d else none
 | some v=>match mY v with
   | some (.ofNat i)=>if i≤y then some i else none
   | _=>none
def Uj (tt:TT) (t:Nat) (x:AV) (lo hi mx:Option AV):Option AV:=
 match tt t with
 | none=>none
 | some ti=>match ti.kind with
   | .string=>match x,mx with
     | .str s,none=>match bnd hi s.length s.length with
       | some h=>match bnd lo 0 h with
         | some l=>some (.str ((s.take h).drop l))
         | none=>none
       | none=>none
     | _,_=>none
   | .slice e=>match jU tt e with
     | none=>none
     | some s=>match x with
       | .aA=>if mx.isSome && hi.isNone then none else match bnd hi 0 0,bnd lo 0 0,bnd mx 0 0 with
         | some _,some _,some _=>some .aA
         | _,_,_=>none
       | .slice id o len (.exact c)=>if mx.isSome && hi.isNone then none else match bnd mx c c with
         | none=>none
         | some m=>match bnd hi len m with
           | none=>none
           | some h=>match bnd lo 0 h with
             | none=>none
             | some l=>some (.slice id (o+l*s) (h - l) (.exact (m - l)))
       | .slice id o len (.rest es)=>match mx with
         | none=>match bnd hi len len with
           | none=>none
           | some h=>match bnd lo 0 h with
             | none=>none
             | some l=>if es=s then some (.slice id (o+l*s) (h - l) (.rest es)) else none
         | some _=>match hi,bnd mx 0 len with
           | none,_=>none
           | _,none=>none
           | some _,some m=>match bnd hi 0 m with
             | none=>none
             | some h=>match bnd lo 0 h with
               | none=>none
               | some l=>some (.slice id (o+l*s) (h - l) (.exact (m - l)))
       | .ro cs n full=>match mx with
         | none=>match bnd hi n n with
           | none=>none
           | some h=>match bnd lo 0 h with
             | none=>none
             | some l=>match fE (l*s) cs with
               | none=>none
               | some d=>match jT ((h - l)*s) d with
                 | none=>none
                 | some d'=>some (.ro d' (h - l) (full && h == n))
         | some _=>match hi,bnd mx 0 n with
           | none,_=>none
           | _,none=>none
           | some _,some m=>match bnd hi 0 m with
             | none=>none
             | some h=>match bnd lo 0 h with
               | none=>none
               | some l=>match fE (l*s) cs with
                 | none=>none
                 | some d=>match jT ((h - l)*s) d with
                   | none=>none
                   | some d'=>some (.ro d' (h - l) (h == m))
       | _=>none
   | .array n e=>match jU tt e with
     | none=>none
     | some s=>match x with
       | .ptr id o=>if mx.isSome && hi.isNone then none else match bnd mx n n with
         | none=>none
         | some m=>match bnd hi n m with
           | none=>none
           | some h=>match bnd lo 0 h with
             | none=>none
             | some l=>some (.slice id (o+l*s) (h - l) (.exact (m - l)))
       | _=>none
   | _=>none
def Nw (tt:TT) (t:Nat) (x:AV) (lo hi mx:Option AV) (h:Hp):Option AV:=
 match mx with
 | some _=>none
 | none=>match tt t with
   | none=>none
   | some ti=>match ti.kind with
     | .slice e=>match jU tt e with
       | none=>none
       | some s=>match x with
         | .slice id o len (.rest es)=>if es=s∧0 < s then match h.get id with
          | some (.cells cs _)=>match bnd hi len ((cs.length - o) / s) with
            | none=>none
            | some hh=>match bnd lo 0 hh with
              | none=>none
              | some l=>some (.slice id (o+l*s) (hh - l) (.rest es))
          | _=>none
          else none
         | _=>none
     | _=>none
def BN:List AV→Option (List Nat)
 | []=>some []
 | .int .u8 (.lit (.ofNat b)) :: xs=>if b < 256 then match BN xs with
  | some l=>some (b :: l)
  | none=>none
  else none
 | _ :: _=>none
def uF (tt:TT) (sT dT:Nat) (x:AV) (h:Hp):Option (AV×Hp):=
 match tt sT with
 | none=>none
 | some j=>match tt dT with
 | some i=>match i.kind with
   | .int k=>match x with
     | .int _ (.lit n)=>some (.int k (.lit (Ai k n)),h)
     | .int _ e=>some (.int k (.wrap k e),h)
     | _=>none
   | .string=>match j.kind with
    | .string=>match x with
      | .str s=>some (.str s,h)
      | _=>none
    | .slice e=>match tt e with
      | none=>none
      | some ie=>if ie.kind= .int .u8∧ie.size=1 then match x with
       | .aA=>some (.str [],h)
       | .slice id o len _=>match qH h (.ptr id o) len with
         | some cs=>(BN cs).map fun l=>(.str l,h)
         | none=>none
       | _=>none
       else none
    | _=>none
   | .slice e=>match tt e with
     | none=>none
     | some ie=>if ie.kind= .int .u8∧j.kind= .string then match x with
      | .str s=>some (.slice h.fresh 0 s.length (.rest 1),h.new (.cells (s.map fun c=> .int .u8 (.lit (Int.ofNat c))) e))
      | _=>none
      else none
   | _=>none
 | none=>none
def abO (pc:List (SB×Bool)) (kk:TK) (a b:AV):Option Bool:=
 match kk with
 | .int _=>match a,b with
   | .int k x,.int k' y=>if k=k' then mF pc (Dv x y) else none
   | _,_=>none
 | .string=>match a,b with
   | .str x,.str y=>some (jF x y)
   | x,y=>match strEq x y with
     | some c=>mF pc c
     | none=>none
 | .bool=>match a,b with
   | .bool (.lit x),.bool (.lit y)=>some (x == y)
   | _,_=>none
 | _=>none
def Jo (pc:List (SB×Bool)) (kk:TK) (k:AV):List (AV×AV×Nat)→Nat→Option (Option (Nat×AV))
 | [],_=>some none
 | (k',v,_) :: es,i=>match abO pc kk k k' with
   | some true=>some (some (i,v))
   | some false=>Jo pc kk k es (i+1)
   | none=>none
def wZ (k v:AV):List (AV×AV×Nat)→Nat→List (AV×AV×Nat)
 | [],_=>[]
 | (_,_,b) :: es,0=>(k,v,b) :: es
 | e :: es,n+1=>e :: wZ k v es n
def uZ {α:Type}:List α→Nat→List α
 | [],_=>[]
 | _ :: xs,0=>xs
 | x :: xs,n+1=>x :: uZ xs n
def CV (tt:TT) (t:Nat):Option TK:=match tt t with
 | some i=>match i.kind with
   | .int k=>some (.int k)
   | .string=>some .string
   | .bool=>some .bool
   | _=>none
 | none=>none
def zeroOf (i:TI):Option AV:=
 match i.agg with
 | true=>some (.agg i.zero)
 | false=>match i.zero with
   | [v]=>some v
   | _=>none
def TN (m:AV) (h:Hp):Option (List (AV×AV×Nat)):=match m with
 | .lW=>some []
 | .map id=>match h.get id with
   | some (.map es _)=>some es
   | _=>none
 | _=>none
def NC (tt:TT) (pc:List (SB×Bool)) (t:Nat) (m k:AV) (ok:Bool) (h:Hp):Option AV:=
 match tt t with
 | some ti=>match ti.kind with
   | .map kt et=>
     match CV tt kt with
     | none=>none
     | some kk=>
       match tt et with
       | none=>none
       | some ie=>
         match TN m h with
         | none=>none
         | some es=>match Jo pc kk k es 0 with
           | none=>none
           | some (some (_,v))=>some (if ok then .tuple [v,.bool (.lit true)] else v)
           | some none=>match zeroOf ie with
             | none=>none
             | some z=>some (if ok then .tuple [z,.bool (.lit false)] else z)
   | _=>none
 | none=>none
def vZ (tt:TT) (pc:List (SB×Bool)) (t:Nat) (m k v:AV) (h:Hp):Option Hp:=
 match tt t with
 | some ti=>match ti.kind with
   | .map kt _=>
     match CV tt kt with
     | none=>none
     | some kk=>match m with
       | .map id=>match h.get id with
         | some (.map es c)=>match Jo pc kk k es 0 with
           | none=>none
           | some (some (i,_))=>some (h.put id (.map (wZ k v es i) c))
           | some none=>some (h.put id (.map (es++ [(k,v,c)]) (c+1)))
         | _=>none
       | _=>none
   | _=>none
 | none=>none
def NI (tt:TT) (pc:List (SB×Bool)) (t:Nat) (m k:AV) (h:Hp):Option Hp:=
 match tt t with
 | some ti=>match ti.kind with
   | .map kt _=>
     match CV tt kt with
     | none=>none
     | some kk=>match m with
       | .lW=>some h
       | .map id=>match h.get id with
         | some (.map es c)=>match Jo pc kk k es 0 with
           | none=>none
           | some (some (i,_))=>some (h.put id (.map (uZ es i) c))
           | some none=>some (h.put id (.map es c))
         | _=>none
       | _=>none
   | _=>none
 | none=>none
def amK (tt:TT) (t:Nat) (x:AV) (h:Hp):Option AV:=
 let n (k:Nat):Option AV:=some (.int .i64 (.lit (Int.ofNat k)))
 match tt t with
 | some ti=>match ti.kind with
   | .string=>match x with
     | .str s=>n s.length
     | .lX e=>some (.int .i64 (eP e))
     | _=>none
   | .slice _=>match x with
     | .aA=>n 0
     | .emp=>n 0
     | .G9 _ _=>n 0
     | .slice _ _ len _=>n len
     | .ro _ k _=>n k
     | .dat e _=>some (.int .i64 (eP e))
     | .uK _ e _=>some (.int .i64 e)
     | .Ap _ _ e _=>some (.int .i64 e)
     | .inp k _=>some (.int .i64 (.aQ (900+k)))
     | _=>none
   | .array k _=>n k
   | .map _ _=>match x with
     | .lW=>n 0
     | .map id=>match h.get id with
       | some (.map es _)=>n es.length
       | some (.iR e _)=>some (.int .i64 (eP e))
       | _=>none
     | _=>none
   | _=>none
 | none=>none
def wW (s:Nat) (x:AV) (h:Hp):Option (Nat×List AV):=
 match x with
 | .aA=>some (0,[])
 | .slice id o len _=>(qH h (.ptr id o) (len*s)).map fun l=>(len,l)
 | .ro cs n _=>(jT (n*s) cs).map fun l=>(n,l)
 | .str b=>if s=1 then some (b.length,b.map fun c=> .int .u8 (.lit (Int.ofNat c))) else none
 | _=>none
def wK (ie:TI) (e len m:Nat) (cs:List AV) (h:Hp):Option (AV×Hp):=
 if (len+m)*ie.bytes≤140737488355328 then some (.slice h.fresh 0 (len+m) (.rest ie.size),h.new (.cells cs e)) else none
def BR (ie:TI) (e m:Nat) (news:List AV) (x:AV) (h:Hp):Option (AV×Hp):=
 match x with
 | .aA=>if m=0 then some (.aA,h) else wK ie e 0 m news h
 | .slice id o len (.exact c)=>
   if len+m≤c then
    match h.get id with
    | some (.cells cs e')=>match splice cs (o+len*ie.size) news with
      | some cs'=>some (.slice id o (len+m) (.exact c),h.put id (.cells cs' e'))
      | none=>none
    | _=>none
   else match qH h (.ptr id o) (len*ie.size) with
    | some old=>wK ie e len m (old++news) h
    | none=>none
 | .slice id o len (.rest es)=>
   if es=ie.size then
    match h.get id with
    | some (.cells cs e')=>
      if o+(len+m)*ie.size≤cs.length then
       match splice cs (o+len*ie.size) news with
       | some cs'=>some (.slice id o (len+m) (.rest es),h.put id (.cells cs' e'))
       | none=>none
      else if o+len*ie.size=cs.length∧e'=e then
       match fE o cs with
       | some old=>wK ie e len m (old++news) (h.drop id)
       | none=>none
      else none
    | _=>none
   else none
 | .ro cs n full=>
   if m=0 then some (.ro cs n full,h)
   else if full then match jT (n*ie.size) cs with
    | some old=>wK ie e n m (old++news) h
    | none=>none
   else none
 | _=>none
def NJ (tt:TT) (t t2:Nat) (x y:AV) (h:Hp):Option (AV×Hp):=
 match tt t with
 | some ti=>match ti.kind with
   | .slice e=>match tt e with
     | some ie=>match tt t2 with
       | none=>none
       | some ti2=>match ti2.kind with
         | .int _=>none
         | _=>
           if ie.size=0∨ie.bytes=0∨¬ie.zero.length=ie.size then none else
           match wW ie.size y h with
           | none=>none
           | some (m,news)=>BR ie e m news x h
     | none=>none
   | _=>none
 | none=>none
def Ux (tt:TT) (t:Nat) (x:AV) (h:Hp):Option Hp:=
 match tt t with
 | some ti=>match ti.kind with
   | .slice e=>match tt e with
     | some ie=>match x with
       | .aA=>some h
       | .G9 _ _=>some h
       | .slice id o len _=>match len with
         | 0=>some h
         | _=>match ie.zero with
           | []=>none
           | _=>match h.get id with
             | some (.cells cs e')=>match splice cs o (repeatL ie.zero len) with
               | some cs'=>some (h.put id (.cells cs' e'))
               | none=>none
             | _=>none
       | _=>none
     | none=>none
   | _=>none
 | none=>none
def Uk (tt:TT) (t:Nat) (x:AV) (h:Hp):Option (AV×Hp):=
 match tt t with
 | some ti=>match ti.kind with
   | .string=>match x with
     | .str b=>some (.ptr h.fresh 0,h.new (.nS b 0))
     | _=>none
   | _=>none
 | none=>none
def Y2 (x:AV) (isS:Bool) (h:Hp):Option (AV×Hp):=
 match isS with
 | false=>none
 | true=>match x with
   | .ptr id 0=>match h.get id with
     | some (.nS b p)=>match gI b p with
       | none=>some (.tuple [.bool (.lit false)],h)
       | some c=>if c < 128 then some (.tuple [.bool (.lit true),.int .i64 (.lit (Int.ofNat p)),.int .i32 (.lit (Int.ofNat c))],h.put id (.nS b (p+1))) else none
     | _=>none
   | _=>none
def zJ (mx:Bool):List AV→SE→IntKind→St→T (AV×St)
 | [],a,k,s=> .ret (.int k a,s)
 | .int _ b :: xs,a,k,s=>pV s (if mx then kM a b else kM b a) fun s c=>if c then zJ mx xs b k s else zJ mx xs a k s
 | _,_,_,_=> .fail
def aAb (s:St) (k:IntKind) (e d:SE):T (AV×St):=pV s (Dv d (.lit 0)) fun s c=>match c with
 | true=> .fail
 | false=> .ret (.int k (.rem e d),s)
def Yp (op:BinOp) (a b:AV):Option (IntKind×SE×SE):=
 match op with
 | .rem=>match a with
   | .int k e=>match b with
     | .int k' d=>match d with
       | .lit _=>none
       | d=>if k=k' then some (k,e,d) else none
     | _=>none
   | _=>none
 | _=>none
def xG (s:St) (v:Option AV):T (AV×St):=match v with | some v=> .ret (v,s) | none=> .fail
def Yl (s:St) (h:Option Hp):T (AV×St):=match h with | some h=> .ret (AV.undef,{ s with h:=h }) | none=> .fail
def Jb (s:St) (r:Option (AV×Hp)):T (AV×St):=match r with | some (v,h)=> .ret (v,{ s with h:=h }) | none=> .fail
def Rj (s:St):Option Operand→Option (Option AV)
 | none=>some none
 | some x=>(ev s x).map some
def Di (s:St):List (Nat×Operand)→Option (List (Nat×AV))
 | []=>some []
 | (i,x) :: xs=>match ev s x with
   | none=>none
   | some a=>match Di s xs with
     | none=>none
     | some aFG=>some ((i,a) :: aFG)
def FD {α:Type} (s:St) (i n:SE) (f:St→T α):T α:=
 pV s (kM i (.lit 0)) fun s b=>match b with
  | true=> .fail
  | false=>pV s (kM i n) fun s b=>match b with
    | true=>f s
    | false=> .fail
def Yy (tt:TT) (t:Nat) (a b:AV):Option SE:=match a with
 | .dat e _=>match b with
   | .aA=>match tt t with
     | some ti=>match ti.kind with
       | .slice _=>some e
       | _=>none
     | none=>none
   | _=>none
 | _=>none
def akL (s:St) (op:BinOp) (r:Bool):T (AV×St):=match op with
 | .eql=> .ret (.bool (.lit r),s)
 | .neq=> .ret (.bool (.lit (!r)),s)
 | _=> .fail
def aAj (s:St) (e:SE) (op:BinOp):T (AV×St):=pV s (kM (.lit 0) (eP e)) fun s b=>match b with
 | true=>akL s op false
 | false=>pV s (AY (qQ e) (.dat (.i 1))) fun s b=>match b with
   | true=>akL s op true
   | false=>pV s (AY (qQ e) (.dat (.i 2))) fun s b=>match b with
     | true=>akL s op false
     | false=> .fail
def aC2 (kk:TK) (a b:AV):Option SB:=match kk with
 | .int _=>match a with
   | .int k x=>match b with
     | .int k' y=>if k=k' then some (Dv x y) else none
     | _=>none
   | _=>none
 | .string=>strEq a b
 | _=>none
def zZ {α:Type} (kk:TK) (k:AV):List (AV×AV×Nat)→St→(St→T α)→T α
 | [],s,f=>f s
 | (k',_,_) :: es,s,f=>match abO s.pc kk k k' with
   | some b=>match b with
     | true=>f s
     | false=>zZ kk k es s f
   | none=>match aC2 kk k k' with
     | some c=>pV s c fun s b=>match b with
       | true=>f s
       | false=>zZ kk k es s f
     | none=>f s
def rO {α:Type} (tt:TT) (t:Nat) (m k:AV) (s:St) (f:St→T α):T α:=match tt t with
 | some ti=>match ti.kind with
   | .map kt _=>match CV tt kt with
     | some kk=>match TN m s.h with
       | some es=>zZ kk k es s f
       | none=>f s
     | none=>f s
   | _=>f s
 | none=>f s
def WQ (k:IntKind) (e:SE) (f:AV→St→T (AV×St)):Nat→Nat→St→T (AV×St)
 | 0,_,_=> .fail
 | n+1,j,s=>match n with
   | 0=>f (.int k (.lit (Int.ofNat j))) s
   | _=>pV s (Dv e (.lit (Int.ofNat j))) fun s b=>match b with
     | true=>f (.int k (.lit (Int.ofNat j))) s
     | false=>WQ k e f n (j+1) s
def aDw (tt:TT) (t:Nat) (x:AV):Option Nat:=match tt t with
 | some ti=>match ti.kind with
   | .array n _=>if n≤64 then some n else none
   | .slice _=>match x with
     | .slice _ _ len _=>if len≤64 then some len else none
     | _=>none
   | _=>none
 | none=>none
def RJ (tt:TT) (t:Nat) (x ix:AV) (s:St) (f:AV→St→T (AV×St)):T (AV×St):=match mY ix with
 | some _=>f ix s
 | none=>match ix with
   | .int k e=>match aDw tt t x with
     | some n=>FD s e (.lit (Int.ofNat n)) fun s=>WQ k e f n 0 s
     | none=> .fail
   | _=> .fail
def zQ (tt:TT) (ty:Nat):Option Nat:=match tt ty with
 | some ti=>match ti.kind with
   | .slice el=>jU tt el
   | _=>none
 | none=>none
def Uw (tt:TT) (s:St) (ty t:Nat) (e:SE) (ix:AV):T (AV×St):=match ix with
 | .int _ i=>match zQ tt ty with
   | some z=>if z=(rowOf t).es then FD s i (eP e) fun s=> .ret (.qU (jB (rowOf t) (.op .at e i)),s) else .fail
   | none=> .fail
 | _=> .fail
def Uf (tt:TT) (s:St) (ty id t:Nat) (n:SE) (ix:AV):T (AV×St):=match ix with
 | .int _ i=>match zQ tt ty with
   | some z=>if z=(rowOf t).es then FD s i n fun s=> .ret (.pY id z i 0,s) else .fail
   | none=> .fail
 | _=> .fail
def rW (pc:List (SB×Bool)) (dflt:List AV) (i:SE):List (SE×List AV)→Option (List AV)
 | []=>some dflt
 | (j,cs) :: l=>match gB i j with
   | true=>some cs
   | false=>match mF pc (Dv i j) with
     | some b=>match b with
       | true=>some cs
       | false=>rW pc dflt i l
     | none=>none
def PE (pc:List (SB×Bool)) (i:SE) (cs':List AV):List (SE×List AV)→Option (List (SE×List AV))
 | []=>none
 | (j,cs) :: l=>match gB i j with
   | true=>some ((j,cs') :: l)
   | false=>match mF pc (Dv i j) with
     | some b=>match b with
       | true=>some ((j,cs') :: l)
       | false=>match PE pc i cs' l with
         | some l'=>some ((j,cs) :: l')
         | none=>none
     | none=>none
def BX (pc:List (SB×Bool)) (i:SE):List (SE×List AV)→Bool
 | []=>true
 | (j,_) :: l=>match mF pc (Dv i j) with
   | some false=>BX pc i l
   | _=>false
def Az {α:Type} (i:SE):List (SE×List AV)→St→(St→T α)→T α
 | [],s,k=>k s
 | (j,_) :: l,s,k=>match gB i j with
   | true=>k s
   | false=>pV s (Dv i j) fun s b=>match b with
     | true=>k s
     | false=>Az i l s k
def MG (k:IntKind):List AV→Option (List D)
 | []=>some []
 | v :: vs=>match v with
   | .int k' e=>match e with
     | .lit n=>if k=k' then match MG k vs with
      | some ds=>some (.i n :: ds)
      | none=>none
      else none
     | _=>none
   | _=>none
def arB:List AV→Option IntKind
 | v :: _=>match v with
   | .int k _=>some k
   | _=>none
 | []=>none
def adI (tt:TT) (t:Nat) (ix:AV):Option (Nat×SE):=match mY ix with
 | some _=>none
 | none=>match ix with
   | .int _ e=>match tt t with
     | some ti=>match ti.kind with
       | .array n el=>if 64 < n then match tt el with
        | some ie=>if ie.size=1∧ie.agg=false then some (n,e) else none
        | none=>none
        else none
       | _=>none
     | none=>none
   | _=>none
def Rh (s:St) (cs:List AV) (e:SE):T (AV×St):=match arB cs with
 | none=> .fail
 | some k=>match MG k cs with
   | none=> .fail
   | some ds=>FD s e (.lit (Int.ofNat ds.length)) fun s=> .ret (.int k (Ph (.op .at (.dat (dL ds)) e)),s)
def Gi (tt:TT) (s:St) (ty id es:Nat) (i:SE) (off:Nat):T (AV×St):=match s.h.get id with
 | some o=>match o with
   | .cells cs _=>match tt ty with
     | some ti=>match ti.agg || !(Nat.beq es 1) || !(Nat.beq off 0) with
       | true=> .fail
       | false=>Rh s cs i
     | none=> .fail
   | .vec e t _ ov=>match tt ty with
     | some ti=>if (rowOf t).es=es then FD s i (eP e) fun s=>Az i ov s fun s=>match rW s.pc (jB (rowOf t) (.op .at e i)) i ov with
      | some cs=>match fE off cs with
        | some l=>xG s (partOf ti l)
        | none=> .fail
      | none=> .fail
      else .fail
     | none=> .fail
   | _=> .fail
 | none=> .fail
def frz (v:AV) (h:Hp):AV×Hp:=match v with
 | .uK id n t=>match h.get id with
   | some o=>match o with
     | .vec e t' _ ov=>match ov with
       | []=>match Nat.beq t t' with
         | true=>match gB n (eP e) with
           | true=>(.dat e t,h.drop id)
           | false=>(v,h)
         | false=>(v,h)
       | _=>(v,h)
     | _=>(v,h)
   | none=>(v,h)
 | .G9 z t=>(.dat z t,h)
 | v=>(v,h)
def isZ (e:SE):Bool:=match e with
 | .lit n=>Bl n 0
 | _=>false
def yF (a b:SE):SE:=match isZ a with
 | true=>b
 | false=> .add a b
def KY (a b:SE):SE:=match isZ b with
 | true=>a
 | false=> .sub a b
def TA (e lo n:SE):SE:=match isZ lo with
 | true=> .op .take e n
 | false=> .op .drop (.op .take e (.add lo n)) lo
def Ib {α:Type} (e lo n:SE) (s:St) (k:St→T α):T α:=
 pV s (kM lo (.lit 0)) fun s b=>match b with
  | true=> .fail
  | false=>pV s (kM n (.lit 0)) fun s b=>match b with
    | true=> .fail
    | false=>pV s (kM (eP e) (yF lo n)) fun s b=>match b with
      | true=> .fail
      | false=>k s
def OW (h:Hp) (id t:Nat):Option (SE×TypeId):=match h.get id with
 | some o=>match o with
   | .vec e t' ty ov=>match ov with
     | []=>match Nat.beq t t' with
       | true=>some (e,ty)
       | false=>none
     | _=>none
   | _=>none
 | none=>none
def afN {α:Type} (v:AV) (s:St) (k:AV→St→T α):T α:=match v with
 | .Ap id lo n t=>match OW s.h id t with
   | some (e,_)=>Ib e lo n s fun s=>k (.dat (TA e lo n) t) { s with h:=s.h.drop id }
   | none=>k v s
 | v=>match frz v s.h with
   | (v',h')=>k v' { s with h:=h' }
def QT {α:Type}:List AV→St→(List AV→St→T α)→T α
 | [],s,k=>k [] s
 | v :: vs,s,k=>afN v s fun v' s=>QT vs s fun vs' s=>k (v' :: vs') s
def PV {α:Type} (t:Nat):List (SE×List AV)→SE→St→(SE→St→T α)→T α
 | [],e,s,k=>k e s
 | (j,cs) :: ov,e,s,k=>PV t ov e s fun e s=>QT cs s fun cs s=>match codeRow (rowOf t) cs with
   | some x=>k (.op .set e (gQ (Hw j) x)) s
   | none=> .fail
def aAf (v:AV) (h:Hp):Option (Nat×SE×Nat×List (SE×List AV)):=match v with
 | .uK id n t=>match h.get id with
   | some o=>match o with
     | .vec e t' _ ov=>match ov with
       | []=>none
       | _=>match Nat.beq t t' with
         | true=>match gB n (eP e) with
           | true=>some (id,e,t,ov)
           | false=>none
         | false=>none
     | _=>none
   | none=>none
 | _=>none
def afM {α:Type} (v:AV) (s:St) (k:AV→St→T α):T α:=match aAf v s.h with
 | some (id,e,t,ov)=>PV t ov e s fun e' s=>match s.h.get id with
   | some _=>k (.dat e' t) { s with h:=s.h.drop id }
   | none=> .fail
 | none=>afN v s k
def F6 {α:Type}:List AV→St→(List AV→St→T α)→T α
 | [],s,k=>k [] s
 | v :: vs,s,k=>afM v s fun v' s=>F6 vs s fun vs' s=>k (v' :: vs') s
def setCells:List CK→Nat→List AV→SE→Option SE
 | _,_,[],x=>some x
 | ks,off,v :: vs,x=>match gI ks off with
   | some c=>match qY c v with
     | some a=>setCells ks (off+1) vs (.op .set x (gQ (.dat (.i (Int.ofNat off))) a))
     | none=>none
   | none=>none
def UQ (r:Row) (e i:SE) (off:Nat) (vs:List AV):Option SE:=match r with
 | .one c=>match off with
   | 0=>match vs with
     | [v]=>match qY c v with
       | some a=>some (.op .set e (gQ (Hw i) a))
       | none=>none
     | _=>none
   | _=>none
 | .many ks=>match setCells ks off vs (.op .at e i) with
   | some x=>some (.op .set e (gQ (Hw i) x))
   | none=>none
def Nu (tt:TT) (s:St) (ty id es:Nat) (i:SE) (off:Nat) (one:Bool) (vs:List AV):T (AV×St):=
 match s.h.get id with
  | some o=>match o with
    | .vec e t Ho ov=>match tt ty with
      | some ti=>if (rowOf t).es=es∧vs.length=ti.size∧one=true then FD s i (eP e) fun s=>Az i ov s fun s=>match rW s.pc (jB (rowOf t) (.op .at e i)) i ov with
       | some cs=>match splice cs off vs with
         | some cs'=>match PE s.pc i cs' ov with
           | some vM=> .ret (AV.undef,{ s with h:=s.h.put id (.vec e t Ho vM) })
           | none=>match BX s.pc i ov with
             | true=>match UQ (rowOf t) e i off vs with
               | some e'=> .ret (AV.undef,{ s with h:=s.h.put id (.vec e' t Ho ov) })
               | none=> .ret (AV.undef,{ s with h:=s.h.put id (.vec e t Ho ((i,cs') :: ov)) })
             | false=> .fail
         | none=> .fail
       | none=> .fail
       else .fail
      | none=> .fail
    | _=> .fail
  | none=> .fail
def aC8:AV→Bool
 | .uK _ _ _=>true
 | .aA=>true
 | .G9 _ _=>true
 | .slice _ _ n c=>match n with
   | 0=>match c with
     | .exact k=>match k with
       | 0=>true
       | _=>false
     | _=>false
   | _=>false
 | _=>false
def aAN (c:CK) (v:AV):AV:=match c with
 | .sl t=>match v with
   | .aA=> .G9 (.dat (.i 1)) t
   | .slice i o n k=>match n with
     | 0=>match k with
       | .exact m=>match m with
         | 0=> .G9 (.dat (.i 2)) t
         | m+1=> .slice i o 0 (.exact (m+1))
       | k=> .slice i o 0 k
     | n+1=> .slice i o (n+1) k
   | v=>v
 | _=>v
def Wp:List CK→List AV→List AV
 | [],vs=>vs
 | _ :: _,[]=>[]
 | c :: cs,v :: vs=>aAN c v :: Wp cs vs
def Yk (r:Row):List CK:=match r with
 | .one c=>[c]
 | .many cs=>cs
def acI (i:SE):List (SB×Bool)→Option SE
 | []=>none
 | (c,b) :: l=>match c with
   | .eq x y=>match b with
     | true=>match gB x i with
       | true=>some y
       | false=>acI i l
     | false=>acI i l
   | _=>acI i l
def Ns (tt:TT) (s:St) (ty id es:Nat) (i j:SE) (off:Nat) (one:Bool) (vs:List AV):T (AV×St):=
 match s.h.get id with
  | some o=>match o with
    | .vec e t Ho ov=>match tt ty with
      | some ti=>if (rowOf t).es=es∧vs.length=ti.size∧one=true then FD s i (eP e) fun s=>Az j ov s fun s=>match mF s.pc (.eq i j) with
       | some true=>match rW s.pc (jB (rowOf t) (.op .at e j)) j ov with
         | some cs=>match splice cs off (Wp ((Yk (rowOf t)).drop off) vs) with
           | some cs'=>match PE s.pc j cs' ov with
             | some vM=> .ret (AV.undef,{ s with h:=s.h.put id (.vec e t Ho vM) })
             | none=>match BX s.pc j ov with
               | true=> .ret (AV.undef,{ s with h:=s.h.put id (.vec e t Ho ((j,cs') :: ov)) })
               | false=> .fail
           | none=> .fail
         | none=> .fail
       | _=> .fail
       else .fail
      | none=> .fail
    | _=> .fail
  | none=> .fail
def Nv (tt:TT) (s:St) (ty id es:Nat) (i:SE) (off:Nat) (v:AV):T (AV×St):=
 match (if aC8 v then acI i s.pc else none) with
 | some j=>Ns tt s ty id es i j off (wQ v.cells) v.cells
 | none=>F6 v.cells s fun vs s=>Nu tt s ty id es i off (wQ v.cells) vs
def BQ (e:Nat) (own:Option Nat) (x:AV) (h:Hp):Option (SE×Nat×Hp):=match x with
 | .uK id n t=>match h.get id with
   | some o=>match o with
     | .vec e0 t0 ty ov=>match ov with
       | []=>match Nat.beq t t0 with
         | true=>match Nat.beq ty e with
           | true=>match gB n (eP e0) with
             | true=>some (e0,t,h.drop id)
             | false=>none
           | false=>none
         | false=>none
       | _=>none
     | _=>none
   | none=>none
 | .aA=>match own with
   | some t=>some (.dat (.i 0),t,h)
   | none=>none
 | .emp=>match own with
   | some t=>some (.dat (.i 0),t,h)
   | none=>none
 | .G9 _ _=>match own with
   | some t=>some (.dat (.i 0),t,h)
   | none=>none
 | .slice _ _ n c=>match n with
   | 0=>match c with
     | .exact k=>match k with
       | 0=>match own with
         | some t=>some (.dat (.i 0),t,h)
         | none=>none
       | _=>none
     | _=>none
   | _=>none
 | _=>none
def awQ:AV→Bool
 | .dat _ _=>true
 | _=>false
def alD (own:Option Nat):AV→Bool
 | .uK _ _ _=>true
 | .Ap _ _ _ _=>true
 | .aA=>own.isSome
 | .emp=>own.isSome
 | .G9 _ _=>own.isSome
 | .slice _ _ n c=>match n with
   | 0=>match c with
     | .exact k=>match k with
       | 0=>own.isSome
       | _=>false
     | _=>false
   | _=>false
 | _=>false
def adL (id t:Nat) (ty:TypeId) (e0 n1 m sd:SE) (s:St):T (AV×St):=
 Ib e0 n1 m s fun s=> .ret (.Ap id (.lit 0) (yF n1 m) t,{ s with h:=s.h.put id (.vec (.op .cat (.op .cat (.op .take e0 n1) sd) (.op .drop e0 (yF n1 m))) t ty []) })
def NK (tt:TT) (t t2 id:Nat) (n1:SE) (t':Nat) (y:AV) (s:St):T (AV×St):=
 match tt t with
 | some ti=>match ti.kind with
   | .slice e=>match tt e with
     | some ie=>match tt t2 with
       | none=> .fail
       | some ti2=>match ti2.kind with
         | .int _=> .fail
         | _=>
           if ie.size=0∨ie.bytes=0∨¬ie.zero.length=ie.size∨¬(rowOf t').es=ie.size then .fail else
           match OW s.h id t' with
           | none=> .fail
           | some (e0,ty)=>match y with
             | .Ap id2 lo2 n2 t2'=>match Nat.beq id2 id with
               | true=>match Nat.beq t2' t' with
                 | true=>Ib e0 lo2 n2 s fun s=>adL id t' ty e0 n1 n2 (TA e0 lo2 n2) s
                 | false=> .fail
               | false=> .fail
             | y=>match wW ie.size y s.h with
               | none=> .fail
               | some (m,news)=>match m with
                 | 0=> .fail
                 | m+1=>if m < 1000 then match sH (rowOf t') (.dat (.i 0)) (m+1) news with
                  | some sd=>adL id t' ty e0 n1 (.lit (Int.ofNat (m+1))) sd s
                  | none=> .fail
                  else .fail
     | none=> .fail
   | _=> .fail
 | none=> .fail
def Gp (tt:TT) (ty id:Nat) (lo n:SE) (t:Nat) (s:St):T (AV×St):=
 match tt ty with
 | some ti=>match ti.kind with
   | .slice e=>match tt e with
     | some ie=>if (rowOf t).es=ie.size∧0 < ie.size then match OW s.h id t with
      | none=> .fail
      | some (e0,Ho)=>match codeRow (rowOf t) ie.zero with
        | none=> .fail
        | some z=>pV s (kM lo (.lit 0)) fun s b=>match b with
          | true=> .fail
          | false=>pV s (kM n (.lit 0)) fun s b=>match b with
            | true=> .fail
            | false=>pV s (Dv (yF lo n) (eP e0)) fun s b=>match b with
              | false=> .fail
              | true=> .ret (AV.undef,{ s with h:=s.h.put id (.vec (.op .fill e0 (gQ (Hw lo) z)) t Ho []) })
      else .fail
     | none=> .fail
   | _=> .fail
 | none=> .fail
def roomOf (bytes k:Nat):Int:=Int.ofNat (140737488355328 / bytes - k)
def ajO (e0:SE) (bytes:Nat):Int:=match YI e0 with
 | true=>roomOf bytes 0
 | false=>roomOf bytes 1000000
def IB (tt:TT) (t t2:Nat) (x y:AV) (s:St):T (AV×St):=
 match tt t with
 | some ti=>match ti.kind with
   | .slice e=>match tt e with
     | some ie=>match tt t2 with
       | none=> .fail
       | some ti2=>match ti2.kind with
         | .int _=> .fail
         | _=>
           if ie.size=0∨ie.bytes=0∨¬ie.zero.length=ie.size∨¬ie.bytes≤400 then .fail else
           match y with
           | .dat e2 ty2=>match BQ e ti.own x s.h with
             | some (e0,t',h0)=>if (rowOf t').es=ie.size∧rowOf ty2=rowOf t' then
              pV s (AY (eP e2) (.lit 0)) fun s b=>match b with
               | true=> .ret (x,s)
               | false=>pV s (kM (eP e2) (.lit (ajO e0 ie.bytes))) fun s b=>match b with
                 | true=>pV s (kM (eP e0) (.lit 1000000)) fun s b=>match b with
                   | true=>match YI e0 with
                     | true=> .ret (.uK h0.fresh (eP e2) t',{ s with h:=h0.new (.vec e2 t' e []) })
                     | false=> .ret (.uK h0.fresh (eP (.op .cat e0 e2)) t',{ s with h:=h0.new (.vec (.op .cat e0 e2) t' e []) })
                   | false=> .fail
                 | false=> .fail
              else .fail
             | none=> .fail
           | y=>match wW ie.size y s.h with
             | some (m,news)=>match m with
               | 0=> .ret (x,s)
               | m+1=>F6 news s fun news' s=>match BQ e ti.own x s.h with
                | some (e0,t',h0)=>if (rowOf t').es=ie.size∧m < 1000 then
                 pV s (kM (eP e0) (.lit (roomOf ie.bytes (m+1)))) fun s b=>match b with
                  | true=>match sH (rowOf t') e0 (m+1) news' with
                    | some e1=> .ret (.uK h0.fresh (eP e1) t',{ s with h:=h0.new (.vec e1 t' e []) })
                    | none=> .fail
                  | false=> .fail
                 else .fail
                | none=> .fail
             | none=> .fail
     | none=> .fail
   | _=> .fail
 | none=> .fail
def Un (tt:TT) (t:Nat) (l c:AV) (s:St):T (AV×St):=match l with
 | .int k n=>match c with
   | .int k2 n2=>match gB n n2 with
     | false=> .fail
     | true=>match tt t with
       | none=> .fail
       | some i=>match i.own with
         | none=> .fail
         | some o=>match i.kind with
           | .slice e=>match tt e with
             | none=> .fail
             | some ie=>match codeRow (rowOf o) ie.zero with
               | none=> .fail
               | some z=>if ie.size=(rowOf o).es∧0 < ie.size∧ie.bytes≠0∧ie.zero.length=ie.size then
                pV s (kM n (.lit 0)) fun s b=>match b with
                 | true=> .fail
                 | false=>pV s (AY n (.lit 0)) fun s b=>match b with
                   | true=>match wB tt t (.int k (.lit 0)) (.int k2 (.lit 0)) s.h with
                     | some (v,h)=> .ret (v,{ s with h:=h })
                     | none=> .fail
                   | false=>pV s (kM n (.lit (roomOf ie.bytes 0))) fun s b=>match b with
                     | true=> .ret (.uK s.h.fresh (eP (.op .rep n z)) o,{ s with h:=s.h.new (.vec (.op .rep n z) o e []) })
                     | false=> .fail
                else .fail
           | _=> .fail
   | _=> .fail
 | _=> .fail
def JL (v:AV):Bool:=match mY v with
 | some n=>Bl n 0
 | none=>false
def Uu (tt:TT) (s:St) (ty t:Nat) (e:SE) (lo hi:Option AV) (mx:Option AV):T (AV×St):=match mx with
 | some m=>match JL m with
   | true=>match zQ tt ty with
     | none=> .fail
     | some _=>match lo with
       | none=>match hi with
         | some hv=>match JL hv with
           | true=> .ret (.G9 (.op .take e (.lit 0)) t,s)
           | false=> .fail
         | none=> .fail
       | some _=> .fail
   | false=> .fail
 | none=>match zQ tt ty with
   | none=> .fail
   | some z=>if z=(rowOf t).es then
    (match hi with
    | none=>match lo with
      | some (.int _ l)=>pV s (kM l (.lit 0)) fun s b=>match b with
        | true=> .fail
        | false=>pV s (kM (eP e) l) fun s b=>match b with
          | true=> .fail
          | false=> .ret (.dat (.op .drop e l) t,s)
      | _=> .fail
    | some (.int _ h)=>pV s (kM (eP e) h) fun s b=>match b with
      | true=> .fail
      | false=>match lo with
        | none=>pV s (kM h (.lit 0)) fun s b=>match b with
          | true=> .fail
          | false=> .ret (.dat (.op .take e h) t,s)
        | some (.int _ l)=>pV s (kM l (.lit 0)) fun s b=>match b with
          | true=> .fail
          | false=>pV s (kM h l) fun s b=>match b with
            | true=> .fail
            | false=> .ret (.dat (.op .drop (.op .take e h) l) t,s)
        | _=> .fail
    | _=> .fail)
    else .fail
def loE (lo:Option AV):Option SE:=match lo with
 | none=>some (.lit 0)
 | some v=>match v with
   | .int _ l=>some l
   | _=>none
def Ku (tt:TT) (s:St) (ty id t:Nat) (lo0 n0:SE) (lo hi mx:Option AV):T (AV×St):=
 match zQ tt ty with
 | none=> .fail
 | some z=>if z=(rowOf t).es∧z≠0 then match loE lo with
   | none=> .fail
   | some l=>pV s (kM l (.lit 0)) fun s b=>match b with
     | true=> .fail
     | false=>match hi with
       | none=>match mx with
         | some _=> .fail
         | none=>pV s (kM n0 l) fun s b=>match b with
           | true=> .fail
           | false=> .ret (.Ap id (yF lo0 l) (KY n0 l) t,s)
       | some hv=>match hv with
         | .int _ h=>pV s (kM h l) fun s b=>match b with
           | true=> .fail
           | false=>match mx with
             | some mv=>match mv with
               | .int _ m=>pV s (kM m h) fun s b=>match b with
                 | true=> .fail
                 | false=>pV s (kM n0 m) fun s b=>match b with
                   | true=> .fail
                   | false=> .ret (.any,s)
               | _=> .fail
             | none=>pV s (kM n0 h) fun s b=>match b with
               | false=> .ret (.Ap id (yF lo0 l) (KY h l) t,s)
               | true=>match isZ lo0 with
                 | false=> .fail
                 | true=>match OW s.h id t with
                   | none=> .fail
                   | some (e,_)=>pV s (kM (eP e) h) fun s b=>match b with
                     | true=> .fail
                     | false=> .ret (.Ap id (yF lo0 l) (KY h l) t,s)
         | _=> .fail
   else .fail
def Ut (tt:TT) (s:St) (ty:Nat) (z:SE) (t:Nat) (lo hi mx:Option AV):T (AV×St):=
 match mx with
 | some _=> .fail
 | none=>match zQ tt ty with
   | none=> .fail
   | some _=>match bnd hi 0 0 with
     | some 0=>match bnd lo 0 0 with
       | some 0=> .ret (.G9 z t,s)
       | _=> .fail
     | _=> .fail
def Ue (tt:TT) (s:St) (ty id t:Nat) (lo n:SE) (ix:AV):T (AV×St):=match ix with
 | .int _ i=>match zQ tt ty with
   | some z=>if z=(rowOf t).es then FD s i n fun s=> .ret (.pY id z (yF lo i) 0,s) else .fail
   | none=> .fail
 | _=> .fail
def alH:AV→Bool
 | .lX _=>true
 | _=>false
def Uh (tt:TT) (s:St) (ty:Nat) (e:SE) (ix:AV):T (AV×St):=match ix with
 | .int _ i=>match tt ty with
   | some ti=>match ti.kind with
     | .string=>FD s i (eP e) fun s=> .ret (.int .u8 (Ph (.op .at e i)),s)
     | _=> .fail
   | none=> .fail
 | _=> .fail
def hiE (e:SE) (hi:Option AV):Option SE:=match hi with
 | none=>some (eP e)
 | some v=>match v with
   | .int _ h=>some h
   | _=>none
def Ug (tt:TT) (s:St) (ty:Nat) (e:SE) (lo hi mx:Option AV):T (AV×St):=match mx with
 | some _=> .fail
 | none=>match tt ty with
   | none=> .fail
   | some ti=>match ti.kind with
     | .string=>match loE lo with
       | none=> .fail
       | some l=>match hiE e hi with
         | none=> .fail
         | some h=>pV s (kM l (.lit 0)) fun s b=>match b with
           | true=> .fail
           | false=>pV s (kM h l) fun s b=>match b with
             | true=> .fail
             | false=>pV s (kM (eP e) h) fun s b=>match b with
               | true=> .fail
               | false=> .ret (.lX (.op .sub e (gQ (Hw l) (gQ (Hw h) (.dat (.i 0))))),s)
     | _=> .fail
def JR (x y:AV):Option (SE×SE):=match alH x || alH y with
 | false=>none
 | true=>match Ah x with
   | none=>none
   | some a=>match Ah y with
     | none=>none
     | some b=>some (a,b)
def O6 (a b:SE):SB:=.not (.eq (.op .slt a b) (.lit 0))
def YW (op:BinOp) (a b:SE) (s:St):T (AV×St):=match op with
 | .add=>pV s (kM (eP a) (.lit 1000000000)) fun s c=>match c with
   | false=> .fail
   | true=>pV s (kM (eP b) (.lit 1000000000)) fun s c=>match c with
     | false=> .fail
     | true=> .ret (.lX (.op .cat a b),s)
 | .eql=> .ret (.bool (AY (qQ a) (qQ b)),s)
 | .neq=> .ret (.bool (.not (AY (qQ a) (qQ b))),s)
 | .lss=> .ret (.bool (O6 a b),s)
 | .gtr=> .ret (.bool (O6 b a),s)
 | .leq=> .ret (.bool (DJ (O6 b a)),s)
 | .geq=> .ret (.bool (DJ (O6 a b)),s)
 | _=> .fail
def Kw (tt:TT) (sT dT:Nat) (e:SE) (s:St):T (AV×St):=match tt sT with
 | none=> .fail
 | some j=>match j.kind with
   | .string=>match tt dT with
     | none=> .fail
     | some i=>match i.kind with
       | .slice el=>match tt el with
         | some ie=>match ie.kind with
           | .int k=>match k with
             | .u8=>pV s (AY (eP e) (.lit 0)) fun s c=>match c with
               | true=> .ret (.slice s.h.fresh 0 0 (.rest 1),{ s with h:=s.h.new (.cells [] el) })
               | false=> .ret (.uK s.h.fresh (eP e) 14,{ s with h:=s.h.new (.vec e 14 el []) })
             | _=> .fail
           | _=> .fail
         | none=> .fail
       | _=> .fail
   | _=> .fail
def Jj (c:CK):TK:=match c with
 | .int k=> .int k
 | _=> .string
def DN (m:AV) (h:Hp):Option (Nat×SE×Nat):=match m with
 | .map id=>match h.get id with
   | some o=>match o with
     | .iR e t=>some (id,e,t)
     | _=>none
   | none=>none
 | _=>none
def mapKey (tt:TT) (ty t:Nat) (k:AV):Option (SE×TI):=match tt ty with
 | none=>none
 | some ti=>match ti.kind with
   | .map kt et=>match tt kt with
     | none=>none
     | some ki=>if ki.kind=Jj (mapOf t).1 then match tt et with
      | none=>none
      | some ie=>match qY (mapOf t).1 k with
        | none=>none
        | some a=>some (qQ a,ie)
      else none
   | _=>none
def alX (e a:SE):SB:=match e with
 | .dat d=>match a with
   | .dat k=> .lit (!(xQ d.l k).isSome)
   | a=> .eq (.op .L8 (.dat d) a) (.lit 0)
 | e=> .eq (.op .L8 e a) (.lit 0)
def Gh (tt:TT) (ty:Nat) (k:AV) (ok:Bool) (e:SE) (t:Nat) (s:St):T (AV×St):=match mapKey tt ty t k with
 | none=> .fail
 | some (a,ie)=>match zeroOf ie with
   | none=> .fail
   | some z=>pV s (alX e a) fun s b=>match b with
     | true=> .ret (if ok then .tuple [z,.bool (.lit false)] else z,s)
     | false=> .ret (if ok then .tuple [Ae (mapOf t).2 (.op .L9 e a),.bool (.lit true)] else Ae (mapOf t).2 (.op .L9 e a),s)
def Y1 (tt:TT) (ty id:Nat) (k x:AV) (e:SE) (t:Nat) (s:St):T (AV×St):=match mapKey tt ty t k with
 | none=> .fail
 | some (a,_)=>match qY (mapOf t).2 x with
   | none=> .fail
   | some b=> .ret (AV.undef,{ s with h:=s.h.put id (.iR (.op .Et e (gQ a b)) t) })
def Ul (tt:TT) (ty:Nat) (m k x:AV) (s:St):T (AV×St):=F6 [x] s fun xs s=>match xs with
 | [x]=>match DN m s.h with
   | some (id,e,t)=>Y1 tt ty id k x e t s
   | none=> .fail
 | _=> .fail
def Y9 (tt:TT) (ty id:Nat) (k:AV) (e:SE) (t:Nat) (s:St):T (AV×St):=match mapKey tt ty t k with
 | none=> .fail
 | some (a,_)=> .ret (AV.undef,{ s with h:=s.h.put id (.iR (.op .aeX e a) t) })
abbrev dU:=Nat→List AV→St→T (AV×St)
def G6 (s:St) (x:Operand) (f:AV→T (AV×St)):T (AV×St):=match ev s x with | some v=>f v | none=> .fail
def awN (tt:TT) (t:Nat):Option Nat:=match tt t with
 | some ti=>ti.own
 | none=>none
def Dj (tt:TT) (s:St) (b:Builtin) (ts:List Nat) (args:List AV):T (AV×St):=
 match b,ts,args with
 | .len,[t],[x]=>xG s (amK tt t x s.h)
 | .append,[t,t2],[.Ap id lo n t',y]=>match isZ lo with
   | true=>NK tt t t2 id n t' y s
   | false=> .fail
 | .append,[t,t2],[x,y]=>match alD (awN tt t) x || awQ y with
   | true=>IB tt t t2 x y s
   | false=>Jb s (NJ tt t t2 x y s.h)
 | .delete,[t,_],[m,k]=>match DN m s.h with
   | some (id,e,t')=>Y9 tt t id k e t' s
   | none=>rO tt t m k s fun s=>Yl s (NI tt s.pc t m k s.h)
 | .clear,[t],[.uK id n t']=>Gp tt t id (.lit 0) n t' s
 | .clear,[t],[.Ap id lo n t']=>Gp tt t id lo n t' s
 | .clear,[t],[x]=>Yl s (Ux tt t x s.h)
 | .min,_,.int k a :: xs=>zJ false xs a k s
 | .max,_,.int k a :: xs=>zJ true xs a k s
 | _,_,_=> .fail
def Uy (tt:TT) (call:dU) (s:St) (c:Call):T (AV×St):=
 match evs s c.args.toList with
 | none=> .fail
 | some args=>match c.callee with
   | .builtin b=>Dj tt s b c.argTypes.toList args
   | .value f=>match ev s f with
     | some (.func (.func g) fs cs)=>call g (fs++args++cs) s
     | _=> .fail
   | .invoke _ _=> .fail
def aCq:SB→Bool
 | .lit _=>true
 | .not c=>match c with
   | .eq _ z=>match z with
     | .lit n=>Bl n 0
     | _=>false
   | _=>false
 | _=>false
def apY {α:Type} (v:AV) (s:St) (k:AV→St→T α):T α:=match v with
 | .bool c=>match aCq c with
   | true=>k (.bool c) s
   | false=>pV s c fun s b=>k (.bool (.lit b)) s
 | v=>k v s
def Um (tt:TT) (call:dU) (s:St) (op:Op):T (AV×St):=
 match op with
 | .move x=>G6 s x fun v=> .ret (v,s)
 | .assign x=>G6 s x fun v=> .ret (v,s)
 | .pick c a b=>G6 s c fun c=>match c with
   | .bool c=>pV s c fun s b'=>if b' then G6 s a fun v=> .ret (v,s) else G6 s b fun v=> .ret (v,s)
   | _=> .fail
 | .alloc t=>match tt t with
   | some i=> .ret (.ptr s.h.fresh 0,{ s with h:=s.h.new (.cells i.zero t) })
   | none=> .fail
 | .box t x=>G6 s x fun v=>if wQ v.cells then .ret (.ptr s.h.fresh 0,{ s with h:=s.h.new (.cells v.cells t) }) else .fail
 | .build t parts=>match Di s parts.toList with
   | some ps=>xG s (UA tt t ps)
   | none=> .fail
 | .buildSlice t n parts=>match Di s parts.toList with
   | some ps=>Jb s (zO tt t n ps s.h)
   | none=> .fail
 | .makeSlice t l c=>G6 s l fun lv=>match ev s c with
   | some cv=>match wB tt t lv cv s.h with
     | some r=>Jb s (some r)
     | none=>Un tt t lv cv s
   | none=> .fail
 | .load t x=>G6 s x fun p=>match p with
   | .pY id es i off=>Gi tt s t id es i off
   | p=>xG s (Iz tt t p s.h)
 | .store t x y=>G6 s x fun p=>match ev s y with
   | some v=>apY v s fun v s=>match p with
     | .pY id es i off=>Nv tt s t id es i off v
     | p=>Yl s (Ui tt t p v s.h)
   | none=> .fail
 | .nilCheck x=>G6 s x fun v=>match v with
   | .ptr _ _=> .ret (v,s)
   | .qU _=> .ret (v,s)
   | .pY _ _ _ _=> .ret (v,s)
   | _=> .fail
 | .binOp op t x y _=>G6 s x fun a=>match ev s y with
   | some b=>match a with
     | .agg xs=>match b,op with
       | .agg ys,.eql=>match Kv tt t xs ys with
         | some c=> .ret (.bool c,s)
         | none=> .fail
       | .agg ys,.neq=>match Kv tt t xs ys with
         | some c=> .ret (.bool (DJ c),s)
         | none=> .fail
       | _,_=> .fail
     | a=>match Yy tt t a b with
       | some e=>aAj s e op
       | none=>match Yp op a b with
         | some (k,e,d)=>aAb s k e d
         | none=>match JR a b with
           | some (x,y)=>YW op x y s
           | none=>xG s (amM tt t op a b)
   | none=> .fail
 | .unOp op _ x=>G6 s x fun v=>xG s (aBL op v)
 | .convert sT dT x=>G6 s x fun v=>match v with
   | .lX e=>Kw tt sT dT e s
   | v=>Jb s (uF tt sT dT v s.h)
 | .makeFunc fn fs cs=>match evs s fs.toList,evs s cs.toList with
   | some f,some c=> .ret (.func fn f c,s)
   | _,_=> .fail
 | .makeMap t r=>match r with
   | none=>match awN tt t with
     | some m=> .ret (.map s.h.fresh,{ s with h:=s.h.new (.iR (.dat (.i 0)) m) })
     | none=> .ret (.map s.h.fresh,{ s with h:=s.h.new (.map [] 0) })
   | some _=> .fail
 | .slice t x lo hi mx=>G6 s x fun v=>match Rj s lo,Rj s hi,Rj s mx with
   | some l,some h,some m=>match v with
     | .dat e t'=>Uu tt s t t' e l h m
     | .uK id n t'=>Ku tt s t id t' (.lit 0) n l h m
     | .Ap id lo n t'=>Ku tt s t id t' lo n l h m
     | .lX e=>Ug tt s t e l h m
     | .G9 z t'=>Ut tt s t z t' l h m
     | v=>match Uj tt t v l h m with
     | some v=> .ret (v,s)
     | none=>xG s (Nw tt t v l h m s.h)
   | _,_,_=> .fail
 | .fieldAddr t x f=>G6 s x fun v=>xG s (BI tt t v f)
 | .field t x f=>G6 s x fun v=>xG s (Us tt t v f)
 | .indexAddr t x i=>G6 s x fun v=>match ev s i with
   | some i=>match v with
     | .inp k ks=>xG s (Uo tt s.pc t k ks i)
     | .dat e t'=>Uw tt s t t' e i
     | .uK id n t'=>Uf tt s t id t' n i
     | .Ap id lo n t'=>Ue tt s t id t' lo n i
     | .ptr id o=>match adI tt t i with
       | some (n,e)=>if o=0 then FD s e (.lit (Int.ofNat n)) fun s=> .ret (.pY id 1 e 0,s) else .fail
       | none=>RJ tt t (.ptr id o) i s fun i s=>xG s (sF tt t (.ptr id o) i)
     | v=>RJ tt t v i s fun i s=>xG s (sF tt t v i)
   | none=> .fail
 | .index t x i=>G6 s x fun v=>match ev s i with
   | some i=>match v with
     | .lX e=>Uh tt s t e i
     | .agg cs=>match adI tt t i with
       | some (n,e)=>match Nat.beq cs.length n with
         | true=>Rh s cs e
         | false=> .fail
       | none=>RJ tt t (.agg cs) i s fun i s=>xG s (Gj tt t (.agg cs) i)
     | v=>RJ tt t v i s fun i s=>xG s (Gj tt t v i)
   | none=> .fail
 | .lookup t m k ok=>G6 s m fun v=>match ev s k with
   | some k=>match DN v s.h with
     | some (_,e,t')=>Gh tt t k ok e t' s
     | none=>rO tt t v k s fun s=>xG s (NC tt s.pc t v k ok s.h)
   | none=> .fail
 | .mapUpdate t m k x=>G6 s m fun v=>match ev s k,ev s x with
   | some k,some x=>match DN v s.h with
     | some _=>Ul tt t v k x s
     | none=>rO tt t v k s fun s=>Yl s (vZ tt s.pc t v k x s.h)
   | _,_=> .fail
 | .insert t m k x=>G6 s m fun v=>match ev s k,ev s x with
   | some k,some x=>match DN v s.h with
     | some _=>Ul tt t v k x s
     | none=>rO tt t v k s fun s=>Yl s (vZ tt s.pc t v k x s.h)
   | _,_=> .fail
 | .range t x=>G6 s x fun v=>Jb s (Uk tt t v s.h)
 | .next x isS=>G6 s x fun v=>Jb s (Y2 v isS s.h)
 | .extract x i=>G6 s x fun v=>match v with
   | .tuple vs=>xG s (gI vs i)
   | _=> .fail
 | .call c=>Uy tt call s c
 | _=> .fail
def CQ {α:Type} (ops:List Oper) (s:St) (o:Oper) (f:St→Bool→T α):T α:=
 match o.guard with
 | none=>f s true
 | some (j,want)=>match gI ops j with
   | some oj=>match oj.dst with
     | some d=>match s.slots.get d with
       | some (.bool c)=>pV s c fun s b=>f s (b == want)
       | some (.tuple _)=>f s false
       | _=> .fail
     | none=> .fail
   | none=> .fail
def WH (tt:TT) (call:dU) (all:List Oper):List Oper→St→T St
 | [],s=> .ret s
 | o :: rest,s=>CQ all s o fun s b=>
   if b then (Um tt call s o.op).bind fun (v,s')=>WH tt call all rest (s'.Vu o.dst v)
   else WH tt call all rest (s.Vu o.dst AV.undef)
inductive Ex where
 | normal
 | exit (id:Nat)
 | ret
 deriving DecidableEq,Inhabited
def BH (body:St→T (Ex×St)):Nat→St→T (Ex×St)
 | 0,_=> .fail
 | n+1,s=>(body s).bind fun (e,s')=>match e with
   | .normal=>BH body n s'
   | e=> .ret (e,s')
def kT (tt:TT) (call:dU) (draw:Nat→List Oper→St→T St) (lf:Nat):Code→St→T (Ex×St)
 | .skip,s=> .ret (.normal,s)
 | .region id ops d,s=>
   if d then (draw id ops.toList s).bind fun s'=> .ret (.normal,s')
   else (WH tt call ops.toList ops.toList s).bind fun s'=> .ret (.normal,s')
 | .seq a b,s=>(kT tt call draw lf a s).bind fun (e,s')=>match e with
   | .normal=>kT tt call draw lf b s'
   | e=> .ret (e,s')
 | .cond c x y,s=>match ev s c with
   | some (.bool c)=>pV s c fun s b=>if b then kT tt call draw lf x s else kT tt call draw lf y s
   | _=> .fail
 | .block id b,s=>(kT tt call draw lf b s).bind fun (e,s')=>match e with
   | .exit j=> .ret (if j=id then .normal else .exit j,s')
   | e=> .ret (e,s')
 | .loop b,s=>BH (kT tt call draw lf b) lf s
 | .exit id,s=> .ret (.exit id,s)
 | .scope b,s=>kT tt call draw lf b s
 | .label _,s=> .ret (.normal,s)
 | .ret,s=> .ret (.ret,s)
 | _,_=> .fail
def bD:List AV→Nat→Tr AV→Tr AV
 | [],_,t=>t
 | v :: vs,i,t=>bD vs (i+1) (t.put i (some v))
def Gg (tt:TT) (s:St):ResultVar→Option AV
 | .tmp t=>s.slots.get t
 | .cell a t=>match s.slots.get a with
   | some p=>Iz tt t p s.h
   | none=>none
def nN (tt:TT) (s:St):List ResultVar→Option (List AV)
 | []=>some []
 | r :: rs=>match Gg tt s r with
   | none=>none
   | some v=>match nN tt s rs with
     | none=>none
     | some vs=>some (v :: vs)
def Ur (tt:TT) (ft:Nat→Option Func) (hook:Nat→Option (List AV→St→T (AV×St))) (draw:dU→Nat→Nat→List Oper→St→T St) (lf:Nat):Nat→dU
 | 0,_,_,_=> .fail
 | n+1,g,args,s=>
   match hook g with
   | some h=>h args s
   | none=>match ft g with
     | none=> .fail
     | some fn=>match fn.body with
       | none=> .fail
       | some c=>
         (kT tt (Ur tt ft hook draw lf n) (draw (Ur tt ft hook draw lf n) g) lf c { s with slots:=bD args 0 .nil }).bind fun (e,s')=>
          match e with
          | .exit _=> .fail
          | _=>match nN tt s' fn.results.toList with
            | some [v]=> .ret (v,{ s' with slots:=s.slots })
            | some vs=> .ret (.tuple vs,{ s' with slots:=s.slots })
            | none=> .fail
end
end Go.As
end
section
namespace Go.As
structure En where
 ρ:Nat→Int
 θ:Nat→Nat×Nat
 κ:Nat→Nat
 dm:Nat→Prop
 ro:Nat→Prop
def bZ (s:List Nat):ByteArray:=⟨(s.map UInt8.ofNat).toArray⟩
def hcell (h:Array Obj) (b o:Nat):Option Value:=
 match h[b]? with
 | some (.cells c _ _)=>c[o]?
 | _=>none
theorem sK (w:World) (b o:Nat):w.cell? ⟨b,o,none⟩ = hcell w.heap b o:=by
 unfold World.cell? hcell
 simp only [Option.isSome_none,Bool.false_eq_true,if_false]
 cases w.heap[b]? with
 | none=>rfl
 | some o=>cases o <;> rfl
def iC (h:Array Obj) (b o:Nat) (us:List Value):Prop:= ∀i u,us[i]?=some u→hcell h b (o+i)=some u
inductive Rd (ro:Nat→Prop) (h:Array Obj):CK→D→Value→Prop where
 | int (k:IntKind) (n:Int):Rd ro h (.int k) (.i n) (.int k n)
 | bool (b:Bool):Rd ro h .bool (.i (if b then 1 else 0)) (.bool b)
 | str (s:ByteArray):Rd ro h .str (Aa s) (.string s)
 | nil (t:Nat):Rd ro h (.sl t) (.i 1) (.slice none 0 0)
 | non (t:Nat) (a:Addr) (cap:Nat):Rd ro h (.sl t) (.i 2) (.slice (some a) 0 cap)
 | one (t:Nat) (c:CK) (b o cap:Nat) (ds:List D) (f:Nat→Value) (hr:rowOf t= .one c) (hc:ds.length≤cap) (hb:ro b)
  (h1: ∀i d,ds[i]?=some d→hcell h b (o+i)=some (f i)) (h2: ∀i d,ds[i]?=some d→Rd ro h c d (f i)):Rd ro h (.sl t) (dL ds) (.slice (some ⟨b,o,none⟩) ds.length cap)
 | many (t:Nat) (cs:List CK) (b o cap:Nat) (rows:List (List D)) (f:Nat→Nat→Value) (hr:rowOf t= .many cs) (hc:rows.length≤cap) (hb:ro b) (hl: ∀r∈rows,r.length=cs.length)
  (h1: ∀i r j d,rows[i]?=some r→r[j]?=some d→hcell h b (o+i*cs.length+j)=some (f i j))
  (h2: ∀i r j d c,rows[i]?=some r→r[j]?=some d→cs[j]?=some c→Rd ro h c d (f i j)):Rd ro h (.sl t) (dL (rows.map dL)) (.slice (some ⟨b,o,none⟩) rows.length cap)
theorem Rd.one' {ro:Nat→Prop} {h:Array Obj} {c:CK} {d:D} {v:Value} (r:Rd ro h c d v):v.oneCell'=true:=by cases r <;> rfl
theorem Rd.keep {ro ro':Nat→Prop} {h h':Array Obj} (k1: ∀b,ro b→ro' b) (k2: ∀b,ro b→h'[b]?=h[b]?) {c:CK} {d:D} {v:Value} (r:Rd ro h c d v):Rd ro' h' c d v:=by
 have hk: ∀b o u,ro b→hcell h b o=some u→hcell h' b o=some u:=by
  intro b o u hb hu
  unfold hcell at *
  rw [k2 b hb]
  exact hu
 induction r with
 | int k n=>exact .int k n
 | bool b=>exact .bool b
 | str s=>exact .str s
 | nil t=>exact .nil t
 | non t a cap=>exact .non t a cap
 | one t c b o cap ds f hr hc hb h1 h2 ih=>exact .one t c b o cap ds f hr hc (k1 b hb) (fun i d hi=>hk _ _ _ hb (h1 i d hi)) ih
 | many t cs b o cap rows f hr hc hb hl h1 h2 ih=>exact .many t cs b o cap rows f hr hc (k1 b hb) hl (fun i r j d hi hj=>hk _ _ _ hb (h1 i r j d hi hj)) ih
def fJ (E:En) (id off len:Nat) (a:Addr) (cap:Nat):Xv→Prop
 | .exact c=>cap=c∧((a=⟨(E.θ id).1,(E.θ id).2+off,none⟩)∨c=0)
 | .rest es=>(a=⟨(E.θ id).1,(E.θ id).2+off,none⟩∧off+cap*es=E.κ id)∨(cap=0∧len=0∧off=E.κ id)
mutual
def VR (E:En) (h:Array Obj):AV→Value→Prop
 | .bool b,v=>v= .bool (b.den E.ρ)
 | .int k e,v=>v= .int k (e.den E.ρ)
 | .str s,v=>v= .string (bZ s)∧∀b∈s,b < 256
 | .ptr id off,v=>v= .pointer (some ⟨(E.θ id).1,(E.θ id).2+off,none⟩)∧E.dm id
 | .jJ,v=>v= .pointer none
 | .qU cs,v=> ∃b o us,v= .pointer (some ⟨b,o,none⟩)∧E.ro b∧bJ E h cs us∧iC h b o us∧∀u∈us,u.oneCell'=true
 | .slice id off len c,v=>E.dm id∧∃a cap,v= .slice (some a) len cap∧len≤cap∧fJ E id off len a cap c
 | .aA,v=>v= .slice none 0 0
 | .ro cs n full,v=> ∃b o cap us,v= .slice (some ⟨b,o,none⟩) n cap∧n≤cap∧(full=true→cap=n)∧E.ro b∧bJ E h cs us∧iC h b o us∧∀u∈us,u.oneCell'=true
 | .map id,v=>v= .map (some (E.θ id).1)∧E.dm id
 | .lW,v=>v= .map none
 | .func fn fs cs,v=> ∃us ws,v= .func fn us.toArray ws.toArray∧bJ E h fs us∧bJ E h cs ws
 | .yU,v=>v= .nilFunc
 | .iface t x,v=> ∃u,v= .iface t u∧VR E h x u
 | .Es,v=>v= .nilIface
 | .agg cs,v=> ∃us,v= .agg us.toArray∧bJ E h cs us
 | .tuple cs,v=> ∃us,v= .tuple us.toArray∧bJ E h cs us
 | .opq _,_=>False
 | .emp,v=> ∃x,v= .slice x 0 0
 | .dat e t,v=>Rd E.ro h (.sl t) (dec (e.den E.ρ)) v
 | .lX e,v=>Rd E.ro h .str (dec (e.den E.ρ)) v
 | .uK id n t,v=>E.dm id∧∃(k:Nat) (a:Addr) (cap:Nat),n.den E.ρ=(k:Int)∧v= .slice (some a) k cap∧k≤cap∧fJ E id 0 k a cap (.rest (rowOf t).es)
 | .pY id es i off,v=>E.dm id∧∃k:Nat,i.den E.ρ=(k:Int)∧v= .pointer (some ⟨(E.θ id).1,(E.θ id).2+(k*es+off),none⟩)
 | .any,_=>True
 | .G9 z t,v=>(∃x,v= .slice x 0 0)∧Rd E.ro h (.sl t) (dec (z.den E.ρ)) v
 | .Ap id lo n t,v=>E.dm id∧∃(l k:Nat) (a:Addr) (cap:Nat),lo.den E.ρ=(l:Int)∧n.den E.ρ=(k:Int)∧v= .slice (some a) k cap∧k≤cap∧fJ E id (l*(rowOf t).es) k a cap (.rest (rowOf t).es)
 | .inp k ks,v=>((∃x cap,v= .slice x 0 cap)∧E.ρ (900+k)=0)∨∃b o n cap,v= .slice (some ⟨b,o,none⟩) n cap∧n≤cap∧E.ρ (900+k)=(n:Int)∧E.ro b∧
  ∀i j kd,i < n→ks[j]?=some kd→hcell h b (o+i*ks.length+j)=some (.int kd (E.ρ (1000+i*64+(k*8+j))))
def bJ (E:En) (h:Array Obj):List AV→List Value→Prop
 | [],us=>us= []
 | x :: xs,us=> ∃u vs,us=u :: vs∧VR E h x u∧bJ E h xs vs
end
theorem kG {E:En} {h:Array Obj} {us:List Value}:bJ E h [] us↔us= []:=by simp [bJ]
theorem aW {E:En} {h:Array Obj} {x:AV} {xs:List AV} {us:List Value}:bJ E h (x :: xs) us↔∃u vs,us=u :: vs∧VR E h x u∧bJ E h xs vs:=by simp [bJ]
theorem bJ.length {E:En} {h:Array Obj}: ∀{xs:List AV} {us:List Value},bJ E h xs us→us.length=xs.length
 | [],us,hh=>by rw [kG] at hh; simp [hh]
 | x :: xs,us,hh=>by
   rw [aW] at hh
   obtain⟨u,vs,rfl,_,h2⟩:=hh
   simp [h2.length]
theorem bJ.append {E:En} {h:Array Obj}: ∀{xs ys:List AV} {us vs:List Value},bJ E h xs us→bJ E h ys vs→bJ E h (xs++ys) (us++vs)
 | [],_,us,vs,h1,h2=>by rw [kG] at h1; subst h1; simpa using h2
 | x :: xs,ys,us,vs,h1,h2=>by
   rw [aW] at h1
   obtain⟨u,us',rfl,hx,hxs⟩:=h1
   simp only [List.cons_append]
   rw [aW]
   exact⟨u,us'++vs,rfl,hx,hxs.append h2⟩
theorem bJ.jT {E:En} {h:Array Obj}: ∀{n:Nat} {xs ys:List AV} {us:List Value},bJ E h xs us→As.jT n xs=some ys→bJ E h ys (us.take n)∧n≤xs.length
 | 0,xs,ys,us,_,h2=>by simp [As.jT] at h2; subst h2; simp [bJ]
 | n+1,[],ys,us,_,h2=>by simp [As.jT] at h2
 | n+1,x :: xs,ys,us,h1,h2=>by
   rw [aW] at h1
   obtain⟨u,vs,rfl,hx,hxs⟩:=h1
   simp only [As.jT] at h2
   split at h2
   ·rename_i l hl
    simp at h2
    subst h2
    have:=hxs.jT hl
    rw [List.take_succ_cons,aW]
    exact⟨⟨u,_,rfl,hx,this.1⟩,by simp; exact this.2⟩
   ·simp at h2
theorem bJ.fE {E:En} {h:Array Obj}: ∀{n:Nat} {xs ys:List AV} {us:List Value},bJ E h xs us→As.fE n xs=some ys→bJ E h ys (us.drop n)∧n≤xs.length∧ys.length=xs.length - n
 | 0,xs,ys,us,h1,h2=>by simp [As.fE] at h2; subst h2; simpa using h1
 | n+1,[],ys,us,_,h2=>by simp [As.fE] at h2
 | n+1,x :: xs,ys,us,h1,h2=>by
   rw [aW] at h1
   obtain⟨u,vs,rfl,hx,hxs⟩:=h1
   simp only [As.fE] at h2
   have:=hxs.fE h2
   refine⟨by simpa using this.1,by simp; exact this.2.1,by simp; exact this.2.2⟩
theorem bJ.nth {E:En} {h:Array Obj}: ∀{i:Nat} {xs:List AV} {x:AV} {us:List Value},bJ E h xs us→gI xs i=some x→∃u,us[i]?=some u∧VR E h x u
 | _,[],_,us,_,h2=>by simp [gI] at h2
 | 0,x :: xs,y,us,h1,h2=>by
   rw [aW] at h1
   obtain⟨u,vs,rfl,hx,hxs⟩:=h1
   simp [gI] at h2
   subst h2
   exact⟨u,by simp,hx⟩
 | i+1,x :: xs,y,us,h1,h2=>by
   rw [aW] at h1
   obtain⟨u,vs,rfl,hx,hxs⟩:=h1
   simp only [gI] at h2
   obtain⟨v,h3,h4⟩:=hxs.nth h2
   exact⟨v,by simpa using h3,h4⟩
def fA (E:En) (h:Array Obj):List (AV×AV×Nat)→List MapEntry→Prop
 | [],es=>es= []
 | (k,v,b) :: xs,es=> ∃e r,es=e :: r∧VR E h k e.key∧VR E h v e.val∧b=b∧fA E h xs r
def oG (ro:Nat→Prop) (h:Array Obj) (t:Nat):List D→List MapEntry→Prop
 | [],es=>es= []
 | d :: ds,es=> ∃e r,es=e :: r∧d= .p (agB d) (apI d)∧Rd ro h (mapOf t).1 (agB d) e.key∧Rd ro h (mapOf t).2 (apI d) e.val∧oG ro h t ds r
theorem oG.keep {ro ro':Nat→Prop} {h h':Array Obj} (k1: ∀b,ro b→ro' b) (k2: ∀b,ro b→h'[b]?=h[b]?) {t:Nat}: ∀{ds:List D} {es:List MapEntry},oG ro h t ds es→oG ro' h' t ds es
 | [],_,hh=>hh
 | _ :: _,_,hh=>by
   obtain⟨e,r,h1,h2,h3,h4,h5⟩:=hh
   exact⟨e,r,h1,h2,h3.keep k1 k2,h4.keep k1 k2,oG.keep k1 k2 h5⟩
theorem oG.length {ro:Nat→Prop} {h:Array Obj} {t:Nat}: ∀{ds:List D} {es:List MapEntry},oG ro h t ds es→es.length=ds.length
 | [],_,hh=>by simp only [oG] at hh; rw [hh]; rfl
 | _ :: _,_,hh=>by
   obtain⟨e,r,h1,_,_,_,h5⟩:=hh
   rw [h1,List.length_cons,List.length_cons,oG.length h5]
noncomputable def dQ (ρ:Nat→Int) (i:Nat):List (SE×List AV)→Option (List AV)
 | []=>none
 | (j,cs) :: l=>if j.den ρ=(i:Int) then some cs else dQ ρ i l
noncomputable def aK (ρ:Nat→Int) (r:Row) (ov:List (SE×List AV)):List D→Nat→List AV
 | [],_=>[]
 | d :: ds,i=>(match dQ ρ i ov with | some cs=>cs | none=>jB r (.dat d))++aK ρ r ov ds (i+1)
def FB (r:Row) (ov:List (SE×List AV)):Prop:= ∀p∈ov,p.2.length=r.es
def OR (E:En) (h:Array Obj) (id:Nat):dW→Prop
 | .cells cs e=> ∃arr lo hi us,h[(E.θ id).1]?=some (.cells arr e (lo,hi))∧bJ E h cs us∧(∀i u,us[i]?=some u→arr[(E.θ id).2+i]?=some u)∧
  cs.length≤E.κ id∧(E.θ id).2+E.κ id=arr.size∧(∀o,lo≤o→o < hi→arr.size≤o)∧(∀u∈us,u.oneCell'=true)
 | .map es _=> ∃ents c,h[(E.θ id).1]?=some (.map ents c)∧fA E h es ents.toList
 | .vec e t ty ov=>(FB (rowOf t) ov∧Jz (rowOf t) (dec (e.den E.ρ)))∧∃arr lo hi us,h[(E.θ id).1]?=some (.cells arr ty (lo,hi))∧bJ E h (aK E.ρ (rowOf t) ov (dec (e.den E.ρ)).l 0) us∧(∀i u,us[i]?=some u→arr[(E.θ id).2+i]?=some u)∧
  (aK E.ρ (rowOf t) ov (dec (e.den E.ρ)).l 0).length≤E.κ id∧(E.θ id).2+E.κ id=arr.size∧(∀o,lo≤o→o < hi→arr.size≤o)∧(∀u∈us,u.oneCell'=true)
 | .nS s p=>h[(E.θ id).1]?=some (.stringIter (bZ s) p)∧(E.θ id).2=0∧∀b∈s,b < 256
 | .iR e t=> ∃ents c,h[(E.θ id).1]?=some (.map ents c)∧oG E.ro h t (dec (e.den E.ρ)).l ents.toList
class Glob where
 ok:(Nat→Int)→(Nat→Prop)→Array Obj→Prop
 keep: ∀{ρ:Nat→Int} {ro ro':Nat→Prop} {h h':Array Obj},ok ρ ro h→(∀b,ro b→ro' b)→(∀b,ro b→h'[b]?=h[b]?)→ok ρ ro' h'
 ren: ∀{ρ ρ':Nat→Int} {ro:Nat→Prop} {h:Array Obj},ok ρ ro h→(∀i,900≤i→ρ' i=ρ i)→ok ρ' ro h
structure bG [Glob] (E:En) (H:Hp) (w:World):Prop where
 fresh: ∀id,H.next≤id→¬E.dm id
 res: ∀r,H.res=some r→r < H.next∧¬E.dm r
 live: ∀id o,H.get id=some o→E.dm id∧OR E w.heap id o∧¬E.ro (E.θ id).1
 inj: ∀id id' o o',H.get id=some o→H.get id'=some o'→(E.θ id).1=(E.θ id').1→id=id'
 AZ: ∀b,E.ro b→b < w.heap.size
 glob:Glob.ok E.ρ E.ro w.heap
structure Stp (E:En) (H:Hp) (w:World) (E':En) (H':Hp) (w':World):Prop where
 ρ:E'.ρ=E.ρ
 dm: ∀id,E.dm id→E'.dm id
 θ: ∀id,E.dm id→E'.θ id=E.θ id
 κ: ∀id,E.dm id→E'.κ id=E.κ id
 ro: ∀b,E.ro b→E'.ro b
 Ja: ∀b,E'.ro b→E.ro b∨(∃id o,H.get id=some o∧(E.θ id).1=b)∨w.heap.size≤b
 nxm:H.next≤H'.next
 rsm:H'.res=none∨H'.res=H.res
 dmn: ∀id,E'.dm id→E.dm id∨(H.next≤id∧id < H'.next)∨H.res=some id
 os:w'.os=w.os
 tape:w'.tape=w.tape
 output:w'.output=w.output
 size:w.heap.size≤w'.heap.size
 keep: ∀b,b < w.heap.size→(∀id o,H.get id=some o→(E.θ id).1≠b)→w'.heap[b]?=w.heap[b]?
 own: ∀id o,H'.get id=some o→(E'.θ id).1 < w.heap.size→∃Dy o0,H.get Dy=some o0∧(E.θ Dy).1=(E'.θ id).1
theorem Stp.refl (E:En) (H:Hp) (w:World):Stp E H w E H w:=
 ⟨rfl,fun _ h=>h,fun _ _=>rfl,fun _ _=>rfl,fun _ h=>h,fun _ h=> .inl h,Nat.le_refl _,.inr rfl,fun _ h=> .inl h,rfl,rfl,rfl,Nat.le_refl _,fun _ _ _=>rfl,fun id o h _=> ⟨id,o,h,rfl⟩⟩
theorem Stp.trans {E E1 E2:En} {H H1 H2:Hp} {w w1 w2:World} (a:Stp E H w E1 H1 w1) (b:Stp E1 H1 w1 E2 H2 w2):Stp E H w E2 H2 w2 where
 ρ:=b.ρ.trans a.ρ
 dm:=fun id h=>b.dm id (a.dm id h)
 θ:=fun id h=>(b.θ id (a.dm id h)).trans (a.θ id h)
 κ:=fun id h=>(b.κ id (a.dm id h)).trans (a.κ id h)
 ro:=fun x h=>b.ro x (a.ro x h)
 Ja:=fun x h=>by
  rcases b.Ja x h with h | ⟨id,o,h1,h2⟩ | h
  ·exact a.Ja x h
  ·rcases Nat.lt_or_ge x w.heap.size with hx | hx
   ·obtain⟨Dy,o0,h3,h4⟩:=a.own id o h1 (by rw [h2]; exact hx)
    exact .inr (.inl ⟨Dy,o0,h3,h4.trans h2⟩)
   ·exact .inr (.inr hx)
  ·exact .inr (.inr (Nat.le_trans a.size h))
 nxm:=Nat.le_trans a.nxm b.nxm
 rsm:=by
  rcases b.rsm with h | h
  ·exact .inl h
  ·rw [h]; exact a.rsm
 dmn:=fun id h=>by
  rcases b.dmn id h with h | h | h
  ·rcases a.dmn id h with h | h | h
   ·exact .inl h
   ·exact .inr (.inl ⟨h.1,Nat.lt_of_lt_of_le h.2 b.nxm⟩)
   ·exact .inr (.inr h)
  ·exact .inr (.inl ⟨Nat.le_trans a.nxm h.1,h.2⟩)
  ·rcases a.rsm with h' | h'
   ·rw [h'] at h; simp at h
   ·exact .inr (.inr (h'.symm.trans h))
 os:=b.os.trans a.os
 tape:=b.tape.trans a.tape
 output:=b.output.trans a.output
 size:=Nat.le_trans a.size b.size
 keep:=fun x hx hn=>by
  rw [b.keep x (Nat.lt_of_lt_of_le hx a.size) ?_,a.keep x hx hn]
  intro id o ho he
  obtain⟨Dy,o0,h0,he0⟩:=a.own id o ho (by rw [he]; exact hx)
  exact hn Dy o0 h0 (he0.trans he)
 own:=fun id o ho hlt=>by
  obtain⟨id1,o1,h1,he1⟩:=b.own id o ho (Nat.lt_of_lt_of_le hlt a.size)
  obtain⟨Dy,o0,h0,he0⟩:=a.own id1 o1 h1 (by rw [he1]; exact hlt)
  exact⟨Dy,o0,h0,he0.trans he1⟩
structure Keeps (E:En) (h:Array Obj) (E':En) (h':Array Obj):Prop where
 ρ:E'.ρ=E.ρ
 dm: ∀id,E.dm id→E'.dm id
 θ: ∀id,E.dm id→E'.θ id=E.θ id
 κ: ∀id,E.dm id→E'.κ id=E.κ id
 ro: ∀b,E.ro b→E'.ro b
 Lu: ∀b,E.ro b→h'[b]?=h[b]?
theorem Stp.keeps [Glob] {E E':En} {H H':Hp} {w w':World} (s:Stp E H w E' H' w') (r:bG E H w):Keeps E w.heap E' w'.heap:=
 ⟨s.ρ,s.dm,s.θ,s.κ,s.ro,fun b hb=>s.keep b (r.AZ b hb) fun id o ho he=>(r.live id o ho).2.2 (by rw [he]; exact hb)⟩
theorem iC.keep {E E':En} {h h':Array Obj} (k:Keeps E h E' h') {b o:Nat} {us:List Value} (hb:E.ro b) (hc:iC h b o us):iC h' b o us:=by
 intro i u hu
 have:=hc i u hu
 unfold hcell at *
 rw [k.Lu b hb]
 exact this
theorem fJ.keep {E E':En} {h h':Array Obj} (k:Keeps E h E' h') {id off len:Nat} {a:Addr} {cap:Nat} {c:Xv} (hid:E.dm id) (hc:fJ E id off len a cap c):fJ E' id off len a cap c:=by
 cases c <;> simp only [fJ] at* <;> rw [k.θ id hid]
 ·exact hc
 ·rw [k.κ id hid]; exact hc
mutual
theorem VR.keep {E E':En} {h h':Array Obj} (k:Keeps E h E' h'): ∀(x:AV) (v:Value),VR E h x v→VR E' h' x v
 | .bool b,v,hv=>by simp only [VR] at *; rw [k.ρ]; exact hv
 | .int _ e,v,hv=>by simp only [VR] at *; rw [k.ρ]; exact hv
 | .str s,v,hv=>by simp only [VR] at *; exact hv
 | .ptr id off,v,hv=>by simp only [VR] at *; rw [k.θ id hv.2]; exact⟨hv.1,k.dm _ hv.2⟩
 | .jJ,v,hv=>by simp only [VR] at *; exact hv
 | .qU cs,v,hv=>by
   simp only [VR] at *
   obtain⟨b,o,us,h1,h2,h3,h4,h5⟩:=hv
   exact⟨b,o,us,h1,k.ro b h2,bJ.keep k cs us h3,h4.keep k h2,h5⟩
 | .slice id off len c,v,hv=>by
   simp only [VR] at *
   obtain⟨h1,a,cap,h2,h3,h4⟩:=hv
   exact⟨k.dm _ h1,a,cap,h2,h3,h4.keep k h1⟩
 | .aA,v,hv=>by simp only [VR] at *; exact hv
 | .ro cs n full,v,hv=>by
   simp only [VR] at *
   obtain⟨b,o,cap,us,h1,h2,h3,h4,h5,h6,h7⟩:=hv
   exact⟨b,o,cap,us,h1,h2,h3,k.ro b h4,bJ.keep k cs us h5,h6.keep k h4,h7⟩
 | .map id,v,hv=>by simp only [VR] at *; rw [k.θ id hv.2]; exact⟨hv.1,k.dm _ hv.2⟩
 | .lW,v,hv=>by simp only [VR] at *; exact hv
 | .func fn fs cs,v,hv=>by
   simp only [VR] at *
   obtain⟨us,ws,h1,h2,h3⟩:=hv
   exact⟨us,ws,h1,bJ.keep k fs us h2,bJ.keep k cs ws h3⟩
 | .yU,v,hv=>by simp only [VR] at *; exact hv
 | .iface t x,v,hv=>by
   simp only [VR] at *
   obtain⟨u,h1,h2⟩:=hv
   exact⟨u,h1,VR.keep k x u h2⟩
 | .Es,v,hv=>by simp only [VR] at *; exact hv
 | .agg cs,v,hv=>by
   simp only [VR] at *
   obtain⟨us,h1,h2⟩:=hv
   exact⟨us,h1,bJ.keep k cs us h2⟩
 | .tuple cs,v,hv=>by
   simp only [VR] at *
   obtain⟨us,h1,h2⟩:=hv
   exact⟨us,h1,bJ.keep k cs us h2⟩
 | .opq _,v,hv=>by simp only [VR] at hv
 | .emp,v,hv=>by simp only [VR] at *; exact hv
 | .dat e t,v,hv=>by simp only [VR] at *; rw [k.ρ]; exact hv.keep k.ro k.Lu
 | .lX e,v,hv=>by simp only [VR] at *; rw [k.ρ]; exact hv.keep k.ro k.Lu
 | .uK id n t,v,hv=>by
   simp only [VR] at *
   obtain⟨h1,m,a,cap,h2,h3,h4,h5⟩:=hv
   exact⟨k.dm _ h1,m,a,cap,by rw [k.ρ]; exact h2,h3,h4,h5.keep k h1⟩
 | .any,_,_=>by simp only [VR]
 | .G9 z t,v,hv=>by simp only [VR] at *; rw [k.ρ]; exact⟨hv.1,hv.2.keep k.ro k.Lu⟩
 | .Ap id lo n t,v,hv=>by
   simp only [VR] at *
   obtain⟨h1,l,m,a,cap,h2,h3,h4,h5,h6⟩:=hv
   exact⟨k.dm _ h1,l,m,a,cap,by rw [k.ρ]; exact h2,by rw [k.ρ]; exact h3,h4,h5,h6.keep k h1⟩
 | .pY id es i off,v,hv=>by
   simp only [VR] at *
   obtain⟨h1,m,h2,h3⟩:=hv
   exact⟨k.dm _ h1,m,by rw [k.ρ]; exact h2,by rw [k.θ id h1]; exact h3⟩
 | .inp kk ks,v,hv=>by
   simp only [VR] at *
   rw [k.ρ]
   rcases hv with hv | ⟨b,o,n,cap,h1,h2,h3,h4,h5⟩
   ·exact .inl hv
   ·refine .inr ⟨b,o,n,cap,h1,h2,h3,k.ro b h4,fun i j kd hi hj=>?_⟩
    have:=h5 i j kd hi hj
    unfold hcell at *
    rw [k.Lu b h4]
    exact this
theorem bJ.keep {E E':En} {h h':Array Obj} (k:Keeps E h E' h'): ∀(xs:List AV) (us:List Value),bJ E h xs us→bJ E' h' xs us
 | [],us,hv=>by simp only [bJ] at *; exact hv
 | x :: xs,us,hv=>by
   simp only [bJ] at *
   obtain⟨u,vs,h1,h2,h3⟩:=hv
   exact⟨u,vs,h1,VR.keep k x u h2,bJ.keep k xs vs h3⟩
end
theorem fA.keep {E E':En} {h h':Array Obj} (k:Keeps E h E' h'): ∀(xs:List (AV×AV×Nat)) (es:List MapEntry),fA E h xs es→fA E' h' xs es
 | [],es,hv=>by simp only [fA] at *; exact hv
 | (a,b,c) :: xs,es,hv=>by
   simp only [fA] at *
   obtain⟨e,r,h1,h2,h3,h4,h5⟩:=hv
   exact⟨e,r,h1,VR.keep k _ _ h2,VR.keep k _ _ h3,h4,fA.keep k xs r h5⟩
theorem OR.keep {E E':En} {h h':Array Obj} (k:Keeps E h E' h') {id:Nat} {o:dW} (hid:E.dm id) (hb:h'[(E.θ id).1]?=h[(E.θ id).1]?) (ho:OR E h id o):OR E' h' id o:=by
 cases o with
 | cells cs e=>
   simp only [OR] at *
   obtain⟨arr,lo,hi,us,h1,h2,h3,h4,h5,h6,h7⟩:=ho
   rw [k.θ id hid,k.κ id hid,hb]
   exact⟨arr,lo,hi,us,h1,bJ.keep k cs us h2,h3,h4,h5,h6,h7⟩
 | map es c=>
   simp only [OR] at *
   obtain⟨ents,c,h1,h2⟩:=ho
   rw [k.θ id hid,hb]
   exact⟨ents,c,h1,fA.keep k es _ h2⟩
 | nS s p=>
   simp only [OR] at *
   rw [k.θ id hid,hb]
   exact ho
 | iR e t=>
   simp only [OR] at *
   obtain⟨ents,c,h1,h2⟩:=ho
   rw [k.θ id hid,hb,k.ρ]
   exact⟨ents,c,h1,h2.keep k.ro k.Lu⟩
 | vec e t ty ov=>
   simp only [OR] at *
   obtain⟨h0,arr,lo,hi,us,h1,h2,h3,h4,h5,h6,h7⟩:=ho
   rw [k.θ id hid,k.κ id hid,hb,k.ρ]
   exact⟨h0,arr,lo,hi,us,h1,bJ.keep k _ us h2,h3,h4,h5,h6,h7⟩
end Go.As
end
section
namespace Go.As
theorem Hp.get_put (h:Hp) (i:Nat) (o:dW) (j:Nat):(h.put i o).get j=if j=i then some o else h.get j:=by
 simp [Hp.get,Hp.put,Tr.get_put]
theorem Hp.lZ (h:Hp) (o:dW) (j:Nat):(h.new o).get j=if j=h.fresh then some o else h.get j:=by
 unfold Hp.new Hp.fresh
 cases h.res <;> simp [Hp.get,Tr.get_put]
theorem bG.aqQ [Glob] {E:En} {H:Hp} {w:World} (r:bG E H w): ¬E.dm H.fresh:=by
 unfold Hp.fresh
 cases hr:H.res with
 | none=>exact r.fresh _ (Nat.le_refl _)
 | some x=>exact (r.res x hr).2
theorem bG.Aq [Glob] {E:En} {H:Hp} {w:World} (r:bG E H w) {i:Nat} (h:E.dm i):i≠H.fresh:=fun e=>r.aqQ (e▸h)
theorem Hp.xW (h:Hp) (i j:Nat):(h.drop i).get j=if j=i then none else h.get j:=by
 simp [Hp.get,Hp.drop,Tr.get_put]
def En.ext (E:En) (n:Nat) (p:Nat×Nat) (c:Nat):En:=
 { E with θ:=fun i=>if i=n then p else E.θ i,κ:=fun i=>if i=n then c else E.κ i,dm:=fun i=>i=n∨E.dm i }
theorem En.ext_θ_new (E:En) (n:Nat) (p:Nat×Nat) (c:Nat):(E.ext n p c).θ n=p:=by simp [En.ext]
theorem En.ext_κ_new (E:En) (n:Nat) (p:Nat×Nat) (c:Nat):(E.ext n p c).κ n=c:=by simp [En.ext]
theorem En.jK (E:En) (n:Nat) (p:Nat×Nat) (c:Nat):(E.ext n p c).dm n:=.inl rfl
theorem En.ext_θ (E:En) (n:Nat) (p:Nat×Nat) (c:Nat) {i:Nat} (h:i≠n):(E.ext n p c).θ i=E.θ i:=by simp [En.ext,h]
theorem En.ext_κ (E:En) (n:Nat) (p:Nat×Nat) (c:Nat) {i:Nat} (h:i≠n):(E.ext n p c).κ i=E.κ i:=by simp [En.ext,h]
theorem Rf [Glob] {E:En} {H:Hp} {w:World} (r:bG E H w) (p:Nat×Nat) (c:Nat) (o:dW):(∀id,(H.new o).next≤id→¬(E.ext H.fresh p c).dm id)∧∀q,(H.new o).res=some q→q < (H.new o).next∧¬(E.ext H.fresh p c).dm q:=by
 have h1:=r.fresh
 have h2:=r.res
 unfold Hp.new Hp.fresh
 cases hr:H.res with
 | none=>
   refine⟨fun id hid hd=>?_,by simp⟩
   simp at hid
   rcases hd with hd | hd
   ·have hd:id=H.next:=hd
    omega
   ·exact h1 id (by omega) hd
 | some q=>
   refine⟨fun id hid hd=>?_,by simp⟩
   simp at hid
   have:=h2 q hr
   rcases hd with hd | hd
   ·have hd:id=q:=hd
    omega
   ·exact h1 id (by omega) hd
theorem xK (H:Hp) (o:dW):H.next≤(H.new o).next∧((H.new o).res=none∨(H.new o).res=H.res)∧∀id,id=H.fresh→(H.next≤id∧id < (H.new o).next)∨H.res=some id:=by
 unfold Hp.new Hp.fresh
 cases hr:H.res with
 | none=>exact⟨Nat.le_succ _,.inl rfl,fun id e=> .inl ⟨by have e:id=H.next:=e; omega,by have e:id=H.next:=e; show id < H.next+1; omega⟩⟩
 | some q=>exact⟨Nat.le_refl _,.inl rfl,fun id e=> .inr (by have e:id=q:=e; rw [e])⟩
structure Alike (w w':World):Prop where
 os:w'.os=w.os
 tape:w'.tape=w.tape
 output:w'.output=w.output
theorem LP {h:Array Obj} {o:Obj} {b:Nat} (hb:b < h.size):(h.push o)[b]?=h[b]?:=by
 rw [Array.getElem?_push,if_neg (by omega)]
theorem MJ [Glob] {E:En} {H:Hp} {w:World} (r:bG E H w) (p:Nat×Nat) (c:Nat) (o:Obj):Keeps E w.heap (E.ext H.fresh p c) (w.heap.push o):=
 ⟨rfl,fun _ h=> .inr h,fun _ h=>En.ext_θ E _ p c (r.Aq h),fun _ h=>En.ext_κ E _ p c (r.Aq h),fun _ h=>h,fun b hb=>LP (r.AZ b hb)⟩
theorem jE [Glob] {E:En} {H:Hp} {w:World} (r:bG E H w) {id:Nat} {o:dW} (h:H.get id=some o):(E.θ id).1 < w.heap.size:=by
 have h2:=(r.live id o h).2.1
 cases o with
 | cells cs e=>
   obtain⟨arr,lo,hi,us,h1,_⟩:=h2
   exact (Array.getElem?_eq_some_iff.1 h1).1
 | map es c=>
   obtain⟨ents,c',h1,_⟩:=h2
   exact (Array.getElem?_eq_some_iff.1 h1).1
 | nS s p=>exact (Array.getElem?_eq_some_iff.1 h2.1).1
 | iR e t=>
   obtain⟨ents,c',h1,_⟩:=h2
   exact (Array.getElem?_eq_some_iff.1 h1).1
 | vec e t ty ov=>
   obtain⟨_,arr,lo,hi,us,h1,_⟩:=h2
   exact (Array.getElem?_eq_some_iff.1 h1).1
theorem FM [Glob] {E:En} {H:Hp} {w w':World} (r:bG E H w) (o:Obj) (ao:dW) (c:Nat) (hw:w'.heap=w.heap.push o) (al:Alike w w')
 (ho:OR (E.ext H.fresh (w.heap.size,0) c) w'.heap H.fresh ao) :
 Stp E H w (E.ext H.fresh (w.heap.size,0) c) (H.new ao) w'∧bG (E.ext H.fresh (w.heap.size,0) c) (H.new ao) w':=by
 have k:=MJ r (w.heap.size,0) c o
 rw [← hw] at k
 have hf:=Rf r (w.heap.size,0) c ao
 refine⟨⟨k.ρ,k.dm,k.θ,k.κ,k.ro,fun _ h=> .inl h,(xK H ao).1,(xK H ao).2.1,fun id h=>h.elim (fun e=> .inr ((xK H ao).2.2 id e)) .inl,al.os,al.tape,al.output,by rw [hw]; simp,fun b hb _=>by rw [hw,LP hb],?_⟩,⟨hf.1,hf.2,?_,?_,?_,Glob.keep r.glob k.ro k.Lu⟩⟩
 ·intro id o2 h2 hlt
  rw [Hp.lZ] at h2
  split at h2
  ·rename_i he
   rw [he,En.ext_θ_new] at hlt
   simp at hlt
  ·have h3:=(r.live id o2 h2).1
   exact⟨id,o2,h2,by rw [En.ext_θ _ _ _ _ (r.Aq h3)]⟩
 ·intro id o2 h2
  rw [Hp.lZ] at h2
  split at h2
  ·rename_i he
   simp at h2
   subst h2
   rw [he,En.ext_θ_new]
   refine⟨En.jK _ _ _ _,ho,fun hr=>?_⟩
   have:=r.AZ _ hr
   simp at this
  ·obtain⟨h3,h4,h5⟩:=r.live id o2 h2
   refine⟨.inr h3,h4.keep k h3 ?_,?_⟩
   ·rw [hw,LP (jE r h2)]
   ·rw [En.ext_θ _ _ _ _ (r.Aq h3)]; exact h5
 ·intro id id' o1 o2 h1 h2 he
  rw [Hp.lZ] at h1 h2
  split at h1 <;> split at h2
  ·omega
  ·rename_i e1 _
   have h3:=(r.live id' o2 h2).1
   rw [e1,En.ext_θ_new,En.ext_θ _ _ _ _ (r.Aq h3)] at he
   have:=jE r h2
   simp only at he
   omega
  ·rename_i _ e1
   have h3:=(r.live id o1 h1).1
   rw [e1,En.ext_θ_new,En.ext_θ _ _ _ _ (r.Aq h3)] at he
   have:=jE r h1
   simp only at he
   omega
  ·have h3:=(r.live id o1 h1).1
   have h4:=(r.live id' o2 h2).1
   rw [En.ext_θ _ _ _ _ (r.Aq h3),En.ext_θ _ _ _ _ (r.Aq h4)] at he
   exact r.inj id id' o1 o2 h1 h2 he
 ·intro b hb
  have:=r.AZ b hb
  rw [hw]
  simp
  omega
theorem rY [Glob] {E:En} {H:Hp} {w w':World} (r:bG E H w) {id:Nat} {o:dW} (hl:H.get id=some o)
 (hother: ∀b,b≠(E.θ id).1→w'.heap[b]?=w.heap[b]?):Keeps E w.heap E w'.heap:=
 ⟨rfl,fun _ h=>h,fun _ _=>rfl,fun _ _=>rfl,fun _ h=>h,fun b hb=>hother b fun e=>(r.live id o hl).2.2 (by rw [← e]; exact hb)⟩
theorem Vy [Glob] {E:En} {H:Hp} {w w':World} (r:bG E H w) {id:Nat} {o:dW} (hl:H.get id=some o) (ao:dW)
 (hsize:w'.heap.size=w.heap.size) (hother: ∀b,b≠(E.θ id).1→w'.heap[b]?=w.heap[b]?) (al:Alike w w') (ho:OR E w'.heap id ao) :
 Stp E H w E (H.put id ao) w'∧bG E (H.put id ao) w':=by
 have k:=rY r hl hother
 refine⟨⟨rfl,fun _ h=>h,fun _ _=>rfl,fun _ _=>rfl,fun _ h=>h,fun _ h=> .inl h,Nat.le_refl _,.inr rfl,fun _ h=> .inl h,al.os,al.tape,al.output,by omega,?_,?_⟩,⟨r.fresh,r.res,?_,?_,?_,Glob.keep r.glob k.ro k.Lu⟩⟩
 ·intro b _ hn
  exact hother b fun e=>hn id o hl e.symm
 ·intro j o2 h2 _
  rw [Hp.get_put] at h2
  split at h2
  ·rename_i e; subst e; exact⟨j,o,hl,rfl⟩
  ·exact⟨j,o2,h2,rfl⟩
 ·intro j o2 h2
  rw [Hp.get_put] at h2
  split at h2
  ·rename_i e
   subst e
   simp at h2
   subst h2
   exact⟨(r.live j o hl).1,ho,(r.live j o hl).2.2⟩
  ·rename_i e
   obtain⟨h3,h4,h5⟩:=r.live j o2 h2
   refine⟨h3,h4.keep k h3 (hother _ fun e2=>e (r.inj j id o2 o h2 hl e2)),h5⟩
 ·intro i j o1 o2 h1 h2 he
  rw [Hp.get_put] at h1 h2
  split at h1 <;> split at h2
  ·omega
  ·rename_i e1 _; subst e1; exact r.inj i j o o2 hl h2 he
  ·rename_i _ e1; subst e1; exact r.inj i j o1 o h1 hl he
  ·exact r.inj i j o1 o2 h1 h2 he
 ·intro b hb
  rw [hsize]
  exact r.AZ b hb
theorem drop_step [Glob] {E:En} {H:Hp} {w:World} (r:bG E H w) (id:Nat):Stp E H w E (H.drop id) w∧bG E (H.drop id) w:=by
 have hg: ∀j o,(H.drop id).get j=some o→H.get j=some o:=by
  intro j o h
  rw [Hp.xW] at h
  split at h
  ·simp at h
  ·exact h
 exact⟨⟨rfl,fun _ h=>h,fun _ _=>rfl,fun _ _=>rfl,fun _ h=>h,fun _ h=> .inl h,Nat.le_refl _,.inr rfl,fun _ h=> .inl h,rfl,rfl,rfl,Nat.le_refl _,fun _ _ _=>rfl,fun j o h _=> ⟨j,o,hg j o h,rfl⟩⟩,
  ⟨r.fresh,r.res,fun j o h=>r.live j o (hg j o h),fun i j o1 o2 h1 h2 he=>r.inj i j o1 o2 (hg _ _ h1) (hg _ _ h2) he,r.AZ,r.glob⟩⟩
theorem Yn [Glob] {E:En} {H:Hp} {w w':World} (r:bG E H w) {id:Nat} {o:dW} (hl:H.get id=some o) (ao:dW) (off c:Nat)
 (hsize:w'.heap.size=w.heap.size) (hother: ∀b,b≠(E.θ id).1→w'.heap[b]?=w.heap[b]?) (al:Alike w w')
 (ho:OR (E.ext H.fresh ((E.θ id).1,(E.θ id).2+off) c) w'.heap H.fresh ao) :
 Stp E H w (E.ext H.fresh ((E.θ id).1,(E.θ id).2+off) c) ((H.drop id).new ao) w'∧bG (E.ext H.fresh ((E.θ id).1,(E.θ id).2+off) c) ((H.drop id).new ao) w':=by
 have hdn:(H.drop id).fresh=H.fresh:=rfl
 have hf:=Rf (drop_step r id).2 ((E.θ id).1,(E.θ id).2+off) c ao
 rw [hdn] at hf
 have k:Keeps E w.heap (E.ext H.fresh ((E.θ id).1,(E.θ id).2+off) c) w'.heap:=
  ⟨rfl,fun _ h=> .inr h,fun _ h=>En.ext_θ E _ _ c (r.Aq h),fun _ h=>En.ext_κ E _ _ c (r.Aq h),fun _ h=>h,(rY r hl hother).Lu⟩
 have hg: ∀j o2,((H.drop id).new ao).get j=some o2→(j=H.fresh∧o2=ao)∨(j≠id∧H.get j=some o2):=by
  intro j o2 h
  rw [Hp.lZ,hdn] at h
  split at h
  ·rename_i e; simp at h; exact .inl ⟨e,h.symm⟩
  ·rw [Hp.xW] at h
   split at h
   ·simp at h
   ·rename_i e; exact .inr ⟨e,h⟩
 refine⟨⟨rfl,k.dm,k.θ,k.κ,k.ro,fun _ h=> .inl h,(xK (H.drop id) ao).1,(xK (H.drop id) ao).2.1,fun j h=>h.elim (fun e=> .inr ((xK (H.drop id) ao).2.2 j e)) .inl,al.os,al.tape,al.output,by omega,?_,?_⟩,⟨hf.1,hf.2,?_,?_,?_,Glob.keep r.glob k.ro k.Lu⟩⟩
 ·intro b _ hn
  exact hother b fun e=>hn id o hl e.symm
 ·intro j o2 h2 hlt
  rcases hg j o2 h2 with ⟨rfl,rfl⟩ | ⟨_,h3⟩
  ·exact⟨id,o,hl,by rw [En.ext_θ_new]⟩
  ·have:=(r.live j o2 h3).1
   exact⟨j,o2,h3,by rw [En.ext_θ _ _ _ _ (r.Aq this)]⟩
 ·intro j o2 h2
  rcases hg j o2 h2 with ⟨rfl,rfl⟩ | ⟨hne,h3⟩
  ·rw [En.ext_θ_new]
   exact⟨En.jK _ _ _ _,ho,(r.live id o hl).2.2⟩
  ·obtain⟨h4,h5,h6⟩:=r.live j o2 h3
   refine⟨.inr h4,h5.keep k h4 (hother _ fun e=>hne (r.inj j id o2 o h3 hl e)),?_⟩
   rw [En.ext_θ _ _ _ _ (r.Aq h4)]; exact h6
 ·intro i j o1 o2 h1 h2 he
  rcases hg i o1 h1 with ⟨e1,_⟩ | ⟨e1,h3⟩ <;> rcases hg j o2 h2 with ⟨e2,_⟩ | ⟨e2,h4⟩
  ·omega
  ·have:=(r.live j o2 h4).1
   rw [e1,En.ext_θ_new,En.ext_θ _ _ _ _ (r.Aq this)] at he
   exact absurd (r.inj id j o o2 hl h4 he).symm e2
  ·have:=(r.live i o1 h3).1
   rw [e2,En.ext_θ_new,En.ext_θ _ _ _ _ (r.Aq this)] at he
   exact absurd (r.inj i id o1 o h3 hl he) e1
  ·have h5:=(r.live i o1 h3).1
   have h6:=(r.live j o2 h4).1
   rw [En.ext_θ _ _ _ _ (r.Aq h5),En.ext_θ _ _ _ _ (r.Aq h6)] at he
   exact r.inj i j o1 o2 h3 h4 he
 ·intro b hb
  rw [hsize]
  exact r.AZ b hb
end Go.As
end
section
namespace Go.As
def TW:Value→Bool
 | .agg _=>true
 | _=>false
def ahE (P:Program):TypeDesc→Option TK
 | .bool=>some .bool
 | .int k=>some (.int k)
 | .string=>some .string
 | .pointer e=>some (.pointer e)
 | .slice e=>some (.slice e)
 | .array n e=>some (.array n e)
 | .map k e=>some (.map k e)
 | .struct fs=>(fs.toList.mapM fun f=>(P.info? f.type).map fun i=>(f.offset,f.type,i.size)).map .struct
 | .func _ _ _=>some .func
 | .interface ms=>some (.iface ms.isEmpty)
 | .tuple _=>some .tuple
 | _=>none
def amN (P:Program) (t:Nat):Bool:=
 match P.underlying t with
 | some (.struct fs)=>!P.stoodInHeld t && !P.eqGuardType P.depth t && fs.toList.all fun f=>f.name != "_" && (match P.underlying f.type with | some .bool | some .string | some (.int _)=>true | _=>false)
 | _=>false
def aCp (i:TypeInfo) (z:Value) (k:TK) (q:Bool):Option TI:=
 match nM z.cells.toList with
 | some zs=>if TW z=k.agg then some { kind:=k,size:=i.size,bytes:=i.bytes,zero:=zs,eqs:=q } else none
 | none=>none
def aqX (P:Program) (t:Nat):Option TI:=
 match P.info? t with
 | none=>none
 | some i=>match P.underlying t with
   | none=>none
   | some d=>match ahE P d with
     | none=>none
     | some k=>match i.zero with
       | none=>none
       | some z=>aCp i z k (amN P t)
end Go.As
end
section
namespace Go.As
theorem fH (b o n:Nat):(⟨b,o,none⟩ : Addr).add n=⟨b,o+n,none⟩:=by unfold Addr.add; split <;> simp_all
def RZ (P:Program):TypeDesc→TK→Prop
 | .bool,.bool=>True
 | .int k,.int k'=>k=k'
 | .string,.string=>True
 | .pointer e,.pointer e'=>e=e'
 | .slice e,.slice e'=>e=e'
 | .array n e,.array n' e'=>n=n'∧e=e'
 | .map k e,.map k' e'=>k=k'∧e=e'
 | .struct fs,.struct l=>(fs.toList.mapM fun f=>(P.info? f.type).map fun i=>(f.offset,f.type,i.size))=some l
 | .func _ _ _,.func=>True
 | .interface _,.iface _=>True
 | .tuple _,.tuple=>True
 | _,_=>False
structure tX (P:Program) (t:Nat) (i:TI):Prop where
 eqs:i.eqs=true→amN P t=true
 all: ∃inf d z,P.info? t=some inf∧P.underlying t=some d∧inf.zero=some z∧nM z.cells.toList=some i.zero∧inf.size=i.size∧inf.bytes=i.bytes∧RZ P d i.kind∧TW z=i.agg
def eG (P:Program) (tt:TT):Prop:= ∀t i,tt t=some i→tX P t i
theorem aqV {P:Program} {d:TypeDesc} {k:TK} (h:ahE P d=some k):RZ P d k:=by
 cases d
 case struct fs=>
  simp only [ahE,Option.map_eq_some_iff] at h
  obtain⟨l,h1,rfl⟩:=h
  exact h1
 all_goals first
  | (simp only [ahE,Option.some.injEq] at h; subst h; simp [RZ]; done)
  | (simp [ahE] at h; done)
theorem aqW {P:Program} {t:Nat} {i:TI} (h:aqX P t=some i):tX P t i:=by
 unfold aqX at h
 split at h
 ·simp at h
 ·rename_i inf h1
  split at h
  ·simp at h
  ·rename_i d h2
   split at h
   ·simp at h
   ·rename_i k hk
    split at h
    ·simp at h
    ·rename_i z h3
     unfold aCp at h
     split at h
     ·rename_i zs h4
      split at h
      ·rename_i ha
       simp only [Option.some.injEq] at h
       subst h
       exact⟨fun hq=>hq,inf,d,z,h1,h2,h3,h4,rfl,rfl,aqV hk,ha⟩
      ·simp at h
     ·simp at h
theorem nI (s:ByteArray):bZ (bytesOf s)=s:=by
 unfold bZ bytesOf
 have:(List.map UInt8.ofNat (List.map (fun x=>x.toNat) s.data.toList))=s.data.toList:=by
  rw [List.map_map]
  conv=>rhs; rw [← List.map_id s.data.toList]
  apply List.map_congr_left
  intro b _
  simp
 rw [this]
theorem EK (s:ByteArray): ∀b∈bytesOf s,b < 256:=by
 intro b hb
 unfold bytesOf at hb
 rw [List.mem_map] at hb
 obtain⟨c,_,rfl⟩:=hb
 exact c.toNat_lt
theorem Jf {E:En} {h:Array Obj} {v:Value} {a:AV} (hv:iZ v=some a):VR E h a v∧v.oneCell'=true:=by
 cases v with
 | bool b=>simp [iZ] at hv; subst hv; simp [VR,SB.den,Value.oneCell']
 | int k n=>simp [iZ] at hv; subst hv; simp [VR,SE.den,Value.oneCell']
 | string s=>simp [iZ] at hv; subst hv; exact⟨by simp only [VR]; exact⟨by rw [nI],EK s⟩,rfl⟩
 | pointer a=>cases a <;> simp [iZ] at hv; subst hv; simp [VR,Value.oneCell']
 | slice a l c=>
   cases a with
   | some a=>simp [iZ] at hv
   | none=>
     cases l with
     | succ l=>simp [iZ] at hv
     | zero=>cases c with
       | succ c=>simp [iZ] at hv
       | zero=>simp [iZ] at hv; subst hv; simp [VR,Value.oneCell']
 | map r=>cases r <;> simp [iZ] at hv; subst hv; simp [VR,Value.oneCell']
 | nilFunc=>simp [iZ] at hv; subst hv; simp [VR,Value.oneCell']
 | nilIface=>simp [iZ] at hv; subst hv; simp [VR,Value.oneCell']
 | func fn f c=>
   simp only [iZ] at hv
   split at hv
   ·rename_i hx
    simp at hx hv
    subst hv
    obtain⟨rfl,rfl⟩:=hx
    exact⟨by simp only [VR]; exact⟨[],[],rfl,rfl,rfl⟩,rfl⟩
   ·simp at hv
 | _=>simp [iZ] at hv
theorem fD {E:En} {h:Array Obj}: ∀{vs:List Value} {aFG:List AV},nM vs=some aFG→bJ E h aFG vs∧∀v∈vs,v.oneCell'=true
 | [],aFG,hv=>by simp [nM] at hv; subst hv; simp [bJ]
 | v :: vs,aFG,hv=>by
   simp only [nM] at hv
   split at hv
   ·simp at hv
   ·rename_i a ha
    split at hv
    ·simp at hv
    ·rename_i as' has
     simp at hv
     subst hv
     have h1:=Jf (E:=E) (h:=h) ha
     have h2:=fD (E:=E) (h:=h) has
     refine⟨by rw [aW]; exact⟨v,vs,rfl,h1.1,h2.1⟩,?_⟩
     intro u hu
     rcases List.mem_cons.1 hu with rfl | hu
     ·exact h1.2
     ·exact h2.2 u hu
theorem Yw {E:En} {h:Array Obj} {v:Value} {a:AV} (hv:ofConst v=some a):VR E h a v:=by
 cases v with
 | agg cs=>
   simp only [ofConst,Option.map_eq_some_iff] at hv
   obtain⟨l,h1,rfl⟩:=hv
   simp only [VR]
   exact⟨cs.toList,by simp,(fD h1).1⟩
 | tuple cs=>
   simp only [ofConst,Option.map_eq_some_iff] at hv
   obtain⟨l,h1,rfl⟩:=hv
   simp only [VR]
   exact⟨cs.toList,by simp,(fD h1).1⟩
 | _=>exact (Jf (by simpa [ofConst] using hv)).1
theorem VR.one {E:En} {h:Array Obj} {x:AV} {v:Value} (hv:VR E h x v) (h1:x.one=true):v.oneCell'=true:=by
 cases x with
 | agg cs=>simp [AV.one] at h1
 | tuple cs=>simp [AV.one] at h1
 | opq i=>simp [AV.one] at h1
 | inp k ks=>simp only [VR] at hv; rcases hv with ⟨⟨x,cap,rfl⟩,_⟩ | ⟨b,o,n,cap,rfl,_⟩ <;> rfl
 | slice id off len c=>simp only [VR] at hv; obtain⟨_,a,cap,rfl,_⟩:=hv; rfl
 | ro cs n full=>simp only [VR] at hv; obtain⟨b,o,cap,us,rfl,_⟩:=hv; rfl
 | qU cs=>simp only [VR] at hv; obtain⟨b,o,us,rfl,_⟩:=hv; rfl
 | func fn fs cs=>simp only [VR] at hv; obtain⟨us,ws,rfl,_⟩:=hv; rfl
 | iface t x=>simp only [VR] at hv; obtain⟨u,rfl,_⟩:=hv; rfl
 | str s=>simp only [VR] at hv; rw [hv.1]; rfl
 | ptr id off=>simp only [VR] at hv; rw [hv.1]; rfl
 | map id=>simp only [VR] at hv; rw [hv.1]; rfl
 | emp=>simp only [VR] at hv; obtain⟨x,rfl⟩:=hv; rfl
 | dat e t=>simp only [VR] at hv; exact hv.one'
 | lX e=>simp only [VR] at hv; exact hv.one'
 | uK id n t=>simp only [VR] at hv; obtain⟨_,k,a,cap,_,rfl,_⟩:=hv; rfl
 | Ap id lo n t=>simp only [VR] at hv; obtain⟨_,l,k,a,cap,_,_,rfl,_⟩:=hv; rfl
 | any=>simp [AV.one] at h1
 | G9 z t=>simp only [VR] at hv; obtain⟨⟨x,rfl⟩,_⟩:=hv; rfl
 | pY id es i off=>simp only [VR] at hv; obtain⟨_,k,_,rfl⟩:=hv; rfl
 | _=>simp only [VR] at hv; rw [hv]; rfl
theorem bJ.ones {E:En} {h:Array Obj}: ∀{xs:List AV} {us:List Value},bJ E h xs us→wQ xs=true→∀u∈us,u.oneCell'=true
 | [],us,hv,_=>by rw [kG] at hv; subst hv; simp
 | x :: xs,us,hv,h1=>by
   rw [aW] at hv
   obtain⟨u,vs,rfl,h2,h3⟩:=hv
   simp [wQ] at h1
   intro y hy
   rcases List.mem_cons.1 hy with rfl | hy
   ·exact h2.one h1.1
   ·exact h3.ones h1.2 y hy
theorem VR.cells {E:En} {h:Array Obj} {x:AV} {v:Value} (hv:VR E h x v) (h1:wQ x.cells=true):bJ E h x.cells v.cells.toList:=by
 cases x with
 | agg cs=>
   simp only [VR] at hv
   obtain⟨us,rfl,h2⟩:=hv
   simpa [AV.cells,Value.cells] using h2
 | _=>
   all_goals
    simp only [AV.cells] at h1 ⊢
    have h2:=hv.one (by simpa [wQ] using h1)
    rw [aW]
    refine⟨v,[],?_,hv,rfl⟩
    cases v <;> first | rfl | simp [Value.oneCell'] at h2
theorem xE {P:Program} {w:World} {b o n:Nat} {us:List Value} (hn:us.length=n) (h:iC w.heap b o us) :
 (loadCells ⟨b,o,none⟩ n).run P w= .ok us.toArray w:=by
 subst hn
 refine run_loadCells_list w _ us fun j v hj=>?_
 rw [fH,sK]
 exact h j v hj
theorem iC.drop {h:Array Obj} {b o:Nat} {us:List Value} (hc:iC h b o us) (k:Nat):iC h b (o+k) (us.drop k):=by
 intro i u hu
 rw [List.getElem?_drop] at hu
 have:=hc (k+i) u hu
 rwa [show o+k+i=o+(k+i) from by omega]
theorem iC.take {h:Array Obj} {b o:Nat} {us:List Value} (hc:iC h b o us) (k:Nat):iC h b o (us.take k):=by
 intro i u hu
 rw [List.getElem?_take] at hu
 split at hu
 ·exact hc i u hu
 ·simp at hu
theorem DY {E:En} {h:Array Obj} {id:Nat} {cs:List AV} {e:TypeId} (ho:OR E h id (.cells cs e)) :
 ∃us,bJ E h cs us∧iC h (E.θ id).1 (E.θ id).2 us∧∀u∈us,u.oneCell'=true:=by
 obtain⟨arr,lo,hi,us,h1,h2,h3,h4,h5,h6,h7⟩:=ho
 refine⟨us,h2,fun i u hu=>?_,h7⟩
 simp only [hcell,h1]
 exact h3 i u hu
theorem CJ [Glob] {E:En} {H:Hp} {w:World} (r:bG E H w) {p:AV} {u:Value} {n:Nat} {l:List AV} (hp:VR E w.heap p u) (h:qH H p n=some l) :
 ∃b o us,u= .pointer (some ⟨b,o,none⟩)∧us.length=n∧bJ E w.heap l us∧iC w.heap b o us∧∀u∈us,u.oneCell'=true:=by
 cases p with
 | ptr id off=>
   simp only [qH] at h
   split at h
   ·rename_i cs e hl
    split at h
    ·rename_i l' hd
     obtain⟨us,h2,h3,h4⟩:=DY (r.live id _ hl).2.1
     obtain⟨h5,h6,h7⟩:=h2.fE hd
     obtain⟨h8,h9⟩:=h5.jT h
     simp only [VR] at hp
     refine⟨_,_,_,hp.1,?_,h8,(h3.drop off).take n,fun x hx=>h4 x (List.mem_of_mem_drop (List.mem_of_mem_take hx))⟩
     have:=h5.length
     rw [List.length_take]
     omega
    ·simp at h
   ·simp at h
 | qU cs=>
   simp only [qH] at h
   simp only [VR] at hp
   obtain⟨b,o,us,rfl,_,h2,h3,h4⟩:=hp
   obtain⟨h5,h6⟩:=h2.jT h
   refine⟨b,o,_,rfl,?_,h5,h3.take n,fun x hx=>h4 x (List.mem_of_mem_take hx)⟩
   have:=h2.length
   rw [List.length_take]
   omega
 | _=>simp [qH] at h
theorem Cj {E:En} {h:Array Obj}: ∀{cs:List AV} {o:Nat} {vs cs':List AV} {us ws:List Value},splice cs o vs=some cs'→bJ E h cs us→bJ E h vs ws→
 cs'.length=cs.length∧o+vs.length≤cs.length∧∃us',bJ E h cs' us'∧∀i,us'[i]?=if o≤i∧i < o+ws.length then ws[i - o]? else us[i]?
 | cs,0,[],cs',us,ws,h1,h2,h3=>by
   cases cs <;> simp [splice] at h1 <;> subst h1 <;> rw [kG] at h3 <;> subst h3 <;> exact⟨rfl,by simp,us,h2,fun i=>by simp⟩
 | [],0,_ :: _,cs',us,ws,h1,h2,h3=>by simp [splice] at h1
 | c :: cs,0,v :: vs,cs',us,ws,h1,h2,h3=>by
   simp only [splice] at h1
   split at h1
   ·rename_i l hl
    simp at h1
    subst h1
    rw [aW] at h2 h3
    obtain⟨u,us',rfl,ha,hb⟩:=h2
    obtain⟨x,ws',rfl,hc,hd⟩:=h3
    obtain⟨e1,e2,agW,e3,e4⟩:=Cj hl hb hd
    refine⟨by simp [e1],by simp at e2 ⊢; omega,x :: agW,by rw [aW]; exact⟨x,agW,rfl,hc,e3⟩,?_⟩
    intro i
    cases i with
    | zero=>simp
    | succ i=>
      have:=e4 i
      simp only [Nat.zero_le,true_and,Nat.zero_add,Nat.sub_zero,List.getElem?_cons_succ,List.length_cons,Nat.add_lt_add_iff_right] at this ⊢
      exact this
   ·simp at h1
 | [],_+1,vs,cs',us,ws,h1,h2,h3=>by cases vs <;> simp [splice] at h1
 | c :: cs,o+1,vs,cs',us,ws,h1,h2,h3=>by
   have h1':(match splice cs o vs with | some l=>some (c :: l) | none=>none)=some cs':=by cases vs <;> exact h1
   split at h1'
   ·rename_i l hl
    simp at h1'
    subst h1'
    rw [aW] at h2
    obtain⟨u,us',rfl,ha,hb⟩:=h2
    obtain⟨e1,e2,agW,e3,e4⟩:=Cj hl hb h3
    refine⟨by simp [e1],by simp; omega,u :: agW,by rw [aW]; exact⟨u,agW,rfl,ha,e3⟩,?_⟩
    intro i
    cases i with
    | zero=>simp
    | succ i=>
      have:=e4 i
      simp only [List.getElem?_cons_succ]
      rw [this]
      by_cases hh:o≤i∧i < o+ws.length
      ·rw [if_pos hh,if_pos (by omega)]
       congr 1
       omega
      ·rw [if_neg hh,if_neg (by omega)]
   ·simp at h1'
theorem qG {P:Program} (b o:Nat) (e:TypeId) (lo hi:Nat): ∀(vs:List Value) (i:Nat) (arr:Array Value) (w:World),
 w.heap[b]?=some (.cells arr e (lo,hi))→(∀x,lo≤x→x < hi→arr.size≤x)→o+i+vs.length≤arr.size→(∀v∈vs,v.oneCell'=true)→
 ∃w' arr',(storeCells ⟨b,o,none⟩ vs i).run P w= .ok () w'∧Alike w w'∧w'.heap.size=w.heap.size∧(∀j,j≠b→w'.heap[j]?=w.heap[j]?)∧
  w'.heap[b]?=some (.cells arr' e (lo,hi))∧arr'.size=arr.size∧∀j,arr'[j]?=if o+i≤j∧j < o+i+vs.length then vs[j - (o+i)]? else arr[j]?
 | [],i,arr,w,hb,_,_,_=> ⟨w,arr,rfl,⟨rfl,rfl,rfl⟩,rfl,fun _ _=>rfl,hb,rfl,fun j=>by rw [if_neg (by simp)]⟩
 | v :: vs,i,arr,w,hb,hf,hl,h1=>by
   have hin:o+i < arr.size:=by simp at hl; omega
   have hcell:w.cell? ⟨b,o+i,none⟩ = some arr[o+i]:=by simp [World.cell?,hb,hin]
   have hfro:w.frozen? ⟨b,o+i,none⟩ = false:=by
    simp only [World.frozen?,hb,Bool.and_eq_false_iff,decide_eq_false_iff_not]
    by_cases hx:lo≤o+i
    ·right
     intro hy
     have:=hf _ hx hy
     omega
    ·left; exact hx
   have hst:(store ((⟨b,o,none⟩ : Addr).add i) v).run P w= .ok () (w.setCell ⟨b,o+i,none⟩ v):=by
    rw [fH,run_store P w _ v _ (h1 v (by simp)),hcell]
    simp [hfro]
   have hb2:(w.setCell ⟨b,o+i,none⟩ v).heap[b]?=some (.cells (arr.setIfInBounds (o+i) v) e (lo,hi)):=by
    simp [World.setCell,Array.getElem?_modify,hb]
   have hsz:(w.setCell ⟨b,o+i,none⟩ v).heap.size=w.heap.size:=by simp [World.setCell]
   have hot: ∀j,j≠b→(w.setCell ⟨b,o+i,none⟩ v).heap[j]?=w.heap[j]?:=by
    intro j hj
    simp only [World.setCell,Array.getElem?_modify]
    rw [if_neg (fun e=>hj e.symm)]
   obtain⟨w',arr',e1,e2,e3,e4,e5,e6,e7⟩:=qG (P:=P) b o e lo hi vs (i+1) _ _ hb2 (by simpa using hf) (by simp at hl ⊢; omega) (fun x hx=>h1 x (by simp [hx]))
   refine⟨w',arr',?_,⟨e2.os,e2.tape,e2.output⟩,e3.trans hsz,fun j hj=>(e4 j hj).trans (hot j hj),e5,by simpa using e6,?_⟩
   ·simp only [storeCells,Sem.run_bind,hst,Result.andThen_ok]
    exact e1
   ·intro j
    rw [e7 j]
    simp only [List.length_cons]
    by_cases hj:o+i=j
    ·rw [if_neg (by omega),if_pos (by omega)]
     subst hj
     simp [hin]
    ·by_cases hj2:o+(i+1)≤j∧j < o+(i+1)+vs.length
     ·rw [if_pos hj2,if_pos (by omega)]
      rw [show j - (o+i)=(j - (o+(i+1)))+1 from by omega]
      simp
     ·rw [if_neg hj2,if_neg (by omega)]
      rw [Array.getElem?_setIfInBounds_ne hj]
theorem oP [Glob] {P:Program} {E:En} {H:Hp} {w:World} (r:bG E H w) {id off:Nat} {cs vs cs':List AV} {e:TypeId} {ws:List Value} (hl:H.get id=some (.cells cs e))
 (hs:splice cs off vs=some cs') (hv:bJ E w.heap vs ws) (h1: ∀u∈ws,u.oneCell'=true) :
 ∃w',(storeCells ⟨(E.θ id).1,(E.θ id).2+off,none⟩ ws).run P w= .ok () w'∧Stp E H w E (H.put id (.cells cs' e)) w'∧bG E (H.put id (.cells cs' e)) w':=by
 obtain⟨arr,lo,hi,us,g1,g2,g3,g4,g5,g6,g7⟩:=(r.live id _ hl).2.1
 obtain⟨s1,s2,us',s3,s4⟩:=Cj hs g2 hv
 have hlen:=hv.length
 have hlu:=g2.length
 obtain⟨w',arr',e1,e2,e3,e4,e5,e6,e7⟩:=qG (P:=P) (E.θ id).1 ((E.θ id).2+off) e lo hi ws 0 arr w g1 g6 (by omega) h1
 refine⟨w',e1,Vy r hl _ e3 e4 e2 ?_⟩
 have k:=rY r hl e4
 refine⟨arr',lo,hi,us',e5,bJ.keep k _ _ s3,?_,by omega,by rw [e6]; exact g5,by rw [e6]; exact g6,?_⟩
 ·intro i u hu
  rw [s4 i] at hu
  rw [e7]
  split at hu
  ·rename_i hh
   rw [if_pos (by omega),show (E.θ id).2+i - ((E.θ id).2+off+0)=i - off from by omega]
   exact hu
  ·rename_i hh
   rw [if_neg (by omega)]
   exact g3 i u hu
 ·intro u hu
  rw [List.mem_iff_getElem?] at hu
  obtain⟨i,hi'⟩:=hu
  rw [s4 i] at hi'
  split at hi'
  ·exact h1 u (List.mem_of_getElem? hi')
  ·exact g7 u (List.mem_of_getElem? hi')
end Go.As
end
section
namespace Go.As
def bI (ρ:Nat→Int) (pc:List (SB×Bool)):Prop:= ∀c b,(c,b)∈pc→c.den ρ=b
def SR (E:En) (h:Array Obj) (slots:Tr AV) (a:Act):Prop:= ∀t v,slots.get t=some v→∃u,a.tmps[t]?=some u∧VR E h v u
def wR (P:Program) (o:Oper) (a:Act) (w:World) (R:Value→World→Prop):Prop:=
 ∀(K:Act→World→Prop) (Q:Exit→Act→World→Prop),(∀u w',R u w'→K (a.put o.dst u) w')→o.wp P a w K Q
theorem wR.value {P:Program} {o:Oper} {a:Act} {w w':World} {R:Value→World→Prop} {u:Value} (h:(execOp a.eval o).run P w= .ok (.value u) w') (hr:R u w'):wR P o a w R:=
 fun K Q hk=>by unfold Oper.wp; rw [h]; exact hk u w' hr
theorem wR.skip {P:Program} {o:Oper} {a:Act} {w w':World} {R:Value→World→Prop} (h:(execOp a.eval o).run P w= .ok .skip w') (hr:R undef w'):wR P o a w R:=
 fun K Q hk=>by unfold Oper.wp; rw [h]; exact hk _ w' hr
theorem jI {E:En} {w:World} {s:St} {a:Act} (sr:SR E w.heap s.slots a) {x:Operand} {v:AV} (h:ev s x=some v):VR E w.heap v (a.eval x):=by
 cases x with
 | tmp t=>
   obtain⟨u,h1,h2⟩:=sr t v h
   simp only [Act.eval,Array.getD_eq_getD_getElem?,h1,Option.getD_some]
   exact h2
 | const c=>exact Yw h
 | func f=>
   simp [ev] at h
   subst h
   simp only [VR,Act.eval]
   exact⟨[],[],rfl,rfl,rfl⟩
 | global g=>simp [ev] at h
theorem Ud {E:En} {w:World} {s:St} {a:Act} (sr:SR E w.heap s.slots a): ∀{xs:List Operand} {vs:List AV},evs s xs=some vs→bJ E w.heap vs (xs.map a.eval)
 | [],vs,h=>by simp [evs] at h; subst h; simp [bJ]
 | x :: xs,vs,h=>by
   simp only [evs] at h
   split at h
   ·simp at h
   ·rename_i b hb
    split at h
    ·simp at h
    ·rename_i bs hbs
     simp at h
     subst h
     rw [List.map_cons,aW]
     exact⟨_,_,rfl,jI sr hb,Ud sr hbs⟩
section
variable {P:Program} {t:Nat} {i:TI}
theorem uD (h:tX P t i) (w:World):(isAgg t).run P w= .ok i.agg w:=by
 obtain⟨inf,d,z,h1,h2,h3,h4,h5,h6,h7,_⟩:=h.all
 unfold isAgg
 simp only [Sem.run_bind,run_underlying h2,Result.andThen_ok]
 cases d <;> cases hk:i.kind <;> simp only [hk,RZ] at h7 <;> simp [TI.agg,TK.agg,hk]
theorem dX (h:tX P t i) (w:World):(sizeOf t).run P w= .ok i.size w:=by
 obtain⟨inf,d,z,h1,h2,h3,h4,h5,h6,h7,_⟩:=h.all
 simp [sizeOf,typeInfo,h1,h5]
theorem fK (h:tX P t i) {e:Nat} (hk:i.kind= .slice e):P.underlying t=some (.slice e):=by
 obtain⟨inf,d,z,h1,h2,h3,h4,h5,h6,h7,_⟩:=h.all
 rw [h2]
 cases d <;> simp [hk,RZ] at h7
 rw [h7]
theorem wU (h:tX P t i) {n e:Nat} (hk:i.kind= .array n e):P.underlying t=some (.array n e):=by
 obtain⟨inf,d,z,h1,h2,h3,h4,h5,h6,h7,_⟩:=h.all
 rw [h2]
 cases d <;> simp [hk,RZ] at h7
 rw [h7.1,h7.2]
theorem ET (h:tX P t i) {k e:Nat} (hk:i.kind= .map k e):P.underlying t=some (.map k e):=by
 obtain⟨inf,d,z,h1,h2,h3,h4,h5,h6,h7,_⟩:=h.all
 rw [h2]
 cases d <;> simp [hk,RZ] at h7
 rw [h7.1,h7.2]
theorem Ci (h:tX P t i) {k:IntKind} (hk:i.kind= .int k):P.underlying t=some (.int k):=by
 obtain⟨inf,d,z,h1,h2,h3,h4,h5,h6,h7,_⟩:=h.all
 rw [h2]
 cases d <;> simp [hk,RZ] at h7
 rw [h7]
theorem gK (h:tX P t i) (hk:i.kind= .string):P.underlying t=some .string:=by
 obtain⟨inf,d,z,h1,h2,h3,h4,h5,h6,h7,_⟩:=h.all
 rw [h2]
 cases d <;> simp [hk,RZ] at h7
 rfl
theorem Vf (h:tX P t i) (hk:i.kind= .bool):P.underlying t=some .bool:=by
 obtain⟨inf,d,z,h1,h2,h3,h4,h5,h6,h7,_⟩:=h.all
 rw [h2]
 cases d <;> simp [hk,RZ] at h7
 rfl
theorem D7 (h:tX P t i) {l:List (Nat×Nat×Nat)} (hk:i.kind= .struct l): ∃fs:Array Field,P.underlying t=some (.struct fs)∧(fs.toList.mapM fun f=>(P.info? f.type).map fun i=>(f.offset,f.type,i.size))=some l:=by
 obtain⟨inf,d,z,h1,h2,h3,h4,h5,h6,h7,_⟩:=h.all
 rw [h2]
 cases d <;> simp [hk,RZ] at h7
 exact⟨_,rfl,h7⟩
theorem CZ (h:tX P t i): ∃inf z,P.info? t=some inf∧inf.size=i.size∧inf.bytes=i.bytes∧inf.zero=some z∧nM z.cells.toList=some i.zero:=by
 obtain⟨inf,d,z,h1,h2,h3,h4,h5,h6,h7,_⟩:=h.all
 exact⟨inf,z,h1,h5,h6,h3,h4⟩
end
theorem Iy [Glob] {P:Program} {tt:TT} (htt:eG P tt) {E:En} {H:Hp} {w:World} (r:bG E H w) {t:Nat} {p v:AV} {u:Value} (hp:VR E w.heap p u) (h:Iz tt t p H=some v) :
 ∃x b o,u= .pointer (some ⟨b,o,none⟩)∧(loadVar t ⟨b,o,none⟩).run P w= .ok x w∧VR E w.heap v x:=by
 unfold Iz at h
 split at h
 ·simp at h
 ·rename_i i hi
  have hti:=htt t i hi
  split at h
  ·rename_i hagg
   rw [Option.map_eq_some_iff] at h
   obtain⟨l,hl,rfl⟩:=h
   obtain⟨b,o,us,rfl,h2,h3,h4,_⟩:=CJ r hp hl
   refine⟨.agg us.toArray,b,o,rfl,?_,by simp only [VR]; exact⟨us,rfl,h3⟩⟩
   simp [loadVar,uD hti,hagg,dX hti,xE h2 h4]
  ·rename_i hagg
   split at h
   ·rename_i v' l hl
    simp at h
    subst h
    obtain⟨b,o,us,rfl,h2,h3,h4,_⟩:=CJ r hp hl
    rw [aW] at h3
    obtain⟨x,vs,rfl,h5,_⟩:=h3
    refine⟨x,b,o,rfl,?_,h5⟩
    have hc:w.cell? ⟨b,o,none⟩ = some x:=by rw [sK]; exact h4 0 x rfl
    simp [loadVar,uD hti,hagg,hc]
   ·simp at h
theorem oM (k:IntKind) (n:Int):Ai k n=k.wrap n:=by
 unfold Ai
 split
 ·split
  ·rename_i h; exact (IntWalk.i64_in n h).symm
  ·rfl
 ·split
  ·rename_i h; exact (IntWalk.u8_in n h).symm
  ·rfl
 ·rfl
theorem adY (ρ:Nat→Int) (k:IntKind) (a b:SE):(ajJ k a b).den ρ=k.wrap (a.den ρ+b.den ρ):=by
 unfold ajJ
 split <;> simp [SE.den,oM]
theorem Pg (ρ:Nat→Int) (k:IntKind) (a b:SE):(aaV k a b).den ρ=k.wrap (a.den ρ - b.den ρ):=by
 unfold aaV
 split <;> simp [SE.den,oM]
theorem adX (ρ:Nat→Int) (k:IntKind) (a b:SE):(ajI k a b).den ρ=k.wrap (a.den ρ*b.den ρ):=by
 unfold ajI
 split <;> simp [SE.den,oM]
theorem dV (ρ:Nat→Int) (a b:SE):(kM a b).den ρ=decide (a.den ρ < b.den ρ):=by
 unfold kM
 split
 ·rfl
 ·simp [SB.den]
theorem ajK (ρ:Nat→Int) (a b:SE):(arX a b).den ρ=decide (a.den ρ≤b.den ρ):=by
 unfold arX
 split
 ·rfl
 ·simp only [SB.den]
  rw [Bool.eq_iff_iff]
  simp
theorem lN (ρ:Nat→Int) (a b:SE):(Dv a b).den ρ=(a.den ρ == b.den ρ):=by
 unfold Dv
 split
 ·simp [SB.den,SE.den]
 ·simp only [SB.den,SE.den]
  rw [Bool.eq_iff_iff]
  simp
  exact eq_comm
 ·split
  ·rename_i h; have h:=bW _ _ h; subst h; simp [SB.den]
  ·simp [SB.den]
theorem qR (ρ:Nat→Int) (s:SB):(DJ s).den ρ=!(s.den ρ):=by
 unfold DJ
 split <;> simp [SB.den]
theorem oV: ∀(x y:List Nat),jF x y=true↔x=y
 | [],[]=>by simp [jF]
 | [],_ :: _=>by simp [jF]
 | _ :: _,[]=>by simp [jF]
 | a :: x,b :: y=>by
   simp only [jF]
   cases h:a.beq b with
   | true=>have:=Nat.eq_of_beq_eq_true h; subst this; simp [oV x y]
   | false=>have:=Nat.ne_of_beq_eq_false h; simp [this]
theorem rQ (s:List Nat):(bZ s).toList=s.map UInt8.ofNat:=by
 rw [Go.ByteArray.toList_eq]
 simp [bZ]
theorem nH (s:List Nat):(bZ s).size=s.length:=by
 show (List.map UInt8.ofNat s).toArray.size=_
 simp
theorem ofNat_inj {a b:Nat} (ha:a < 256) (hb:b < 256) (h:UInt8.ofNat a=UInt8.ofNat b):a=b:=by
 have:=congrArg UInt8.toNat h
 simpa [UInt8.toNat_ofNat',Nat.mod_eq_of_lt ha,Nat.mod_eq_of_lt hb] using this
theorem map_inj: ∀{x y:List Nat},(∀b∈x,b < 256)→(∀b∈y,b < 256)→x.map UInt8.ofNat=y.map UInt8.ofNat→x=y
 | [],[],_,_,_=>rfl
 | [],_ :: _,_,_,h=>by simp at h
 | _ :: _,[],_,_,h=>by simp at h
 | a :: x,b :: y,hx,hy,h=>by
   simp only [List.map_cons,List.cons.injEq] at h
   rw [ofNat_inj (hx a (by simp)) (hy b (by simp)) h.1,map_inj (fun c hc=>hx c (by simp [hc])) (fun c hc=>hy c (by simp [hc])) h.2]
theorem aaS {x y:List Nat} (hx: ∀b∈x,b < 256) (hy: ∀b∈y,b < 256):((bZ x).toList == (bZ y).toList)=jF x y:=by
 rw [rQ,rQ,Bool.eq_iff_iff,beq_iff_eq,oV]
 exact⟨map_inj hx hy,fun h=>by rw [h]⟩
theorem O4: ∀{x y:List Nat},(∀b∈x,b < 256)→(∀b∈y,b < 256)→Op.bytesLess (x.map UInt8.ofNat) (y.map UInt8.ofNat)=bytesLess x y
 | [],[],_,_=>by simp [Op.bytesLess,bytesLess]
 | [],_ :: _,_,_=>by simp [Op.bytesLess,bytesLess]
 | _ :: _,[],_,_=>by simp [Op.bytesLess,bytesLess]
 | a :: x,b :: y,hx,hy=>by
   have ha:=hx a (by simp)
   have hb:=hy b (by simp)
   have ih:=O4 (x:=x) (y:=y) (fun c hc=>hx c (by simp [hc])) (fun c hc=>hy c (by simp [hc]))
   simp only [List.map_cons,Op.bytesLess,bytesLess,ih]
   have h1:decide (UInt8.ofNat a < UInt8.ofNat b)=a.blt b:=by
    rw [Bool.eq_iff_iff,decide_eq_true_iff,UInt8.lt_iff_toNat_lt,UInt8.toNat_ofNat',UInt8.toNat_ofNat',Nat.mod_eq_of_lt ha,Nat.mod_eq_of_lt hb]
    simp [Nat.blt]
    omega
   have h2:(UInt8.ofNat a == UInt8.ofNat b)=a.beq b:=by
    rw [Bool.eq_iff_iff,beq_iff_eq]
    exact⟨fun h=>by rw [ofNat_inj ha hb h]; simp,fun h=>by rw [Nat.eq_of_beq_eq_true h]⟩
   rw [h1,h2]
   cases a.blt b <;> cases a.beq b <;> simp
theorem Vq {P:Program} {E:En} {w:World} {op:BinOp} {x y:List Nat} {v:AV} (hx: ∀b∈x,b < 256) (hy: ∀b∈y,b < 256) (h:Vr op x y=some v) :
 ∃u,(Op.stringOp op (bZ x) (bZ y)).run P w= .ok u w∧VR E w.heap v u:=by
 have he:=aaS hx hy
 have hl:Op.bytesLess (bZ x).toList (bZ y).toList=bytesLess x y:=by rw [rQ,rQ]; exact O4 hx hy
 unfold Vr at h
 cases op <;> simp only [Option.some.injEq,reduceCtorEq] at h
 case add=>
  split at h
  ·rename_i hh
   simp at h
   subst h
   have hm:IntKind.i64.max=9223372036854775807:=by decide
   refine⟨.string (bZ x++bZ y),?_,?_⟩
   ·simp only [Op.stringOp,nH,hm]
    rw [if_neg (by omega)]
    rfl
   ·simp only [VR]
    refine⟨?_,?_⟩
    ·congr 1
     apply ByteArray.ext
     simp [bZ]
    ·intro b hb
     rcases List.mem_append.1 hb with hb | hb
     ·exact hx b hb
     ·exact hy b hb
  ·simp at h
 all_goals
  subst h
  exact⟨_,rfl,by simp only [VR,SB.den,he,hl]⟩
end Go.As
end

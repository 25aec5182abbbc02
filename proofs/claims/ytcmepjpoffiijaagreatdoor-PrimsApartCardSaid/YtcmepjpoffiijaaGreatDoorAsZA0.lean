import GoSem.Claim
import Derived.Orders
import Derived.Scope
import Derived.LoopN
import Derived.Below
import GoSem.Core.View
import GoSem.Core.Layout
import GoSem.Op.Equal
import Derived.WalkKit
set_option linter.unusedSectionVars false
set_option linter.unusedVariables false
set_option linter.unusedSimpArgs false
section
namespace Go.As
inductive Tr (α : Type) where
 | nil
 | node (v : Option α) (l r : Tr α)
 deriving Inhabited
noncomputable def Tr.get {α : Type} (t : Tr α) (k : Nat) : Option α :=
 Tr.rec (motive := fun _ => Nat → Option α) (fun _ => none)
  (fun v _ _ il ir k => Nat.rec (motive := fun _ => Option α) v (fun k' _ => Bool.rec (motive := fun _ => Option α) (ir (Nat.div k' 2)) (il (Nat.div k' 2)) (Nat.beq (Nat.mod k' 2) 0)) k) t k
def Tr.val {α : Type} : Tr α → Option α
 | .nil => none
 | .node v _ _ => v
def Tr.left {α : Type} : Tr α → Tr α
 | .nil => .nil
 | .node _ l _ => l
def Tr.right {α : Type} : Tr α → Tr α
 | .nil => .nil
 | .node _ _ r => r
noncomputable def Tr.mkL {α : Type} (v : Option α) (x r : Tr α) : Tr α := Tr.rec (motive := fun _ => Tr α) (.node v .nil r) (fun a b c _ _ => .node v (.node a b c) r) x
noncomputable def Tr.mkR {α : Type} (v : Option α) (l x : Tr α) : Tr α := Tr.rec (motive := fun _ => Tr α) (.node v l .nil) (fun a b c _ _ => .node v l (.node a b c)) x
noncomputable def Tr.Zb {α : Type} (f : Nat) : Tr α → Nat → Option α → Tr α :=
 Nat.rec (motive := fun _ => Tr α → Nat → Option α → Tr α) (fun t _ _ => t)
  (fun _ ih t k x => Tr.rec (motive := fun _ => Tr α)
   (Nat.rec (motive := fun _ => Tr α) (.node x .nil .nil) (fun k' _ => Bool.rec (motive := fun _ => Tr α) (Tr.mkR none .nil (ih .nil (Nat.div k' 2) x)) (Tr.mkL none (ih .nil (Nat.div k' 2) x) .nil) (Nat.beq (Nat.mod k' 2) 0)) k)
   (fun v l r _ _ => Nat.rec (motive := fun _ => Tr α) (.node x l r) (fun k' _ => Bool.rec (motive := fun _ => Tr α) (Tr.mkR v l (ih r (Nat.div k' 2) x)) (Tr.mkL v (ih l (Nat.div k' 2) x) r) (Nat.beq (Nat.mod k' 2) 0)) k) t) f
noncomputable def Tr.put {α : Type} (t : Tr α) (k : Nat) (v : Option α) : Tr α := Tr.Zb (Nat.succ k) t k v
theorem amP (a b : Nat) : Nat.beq a b = decide (a = b) := by
 rw [Bool.eq_iff_iff]
 simp
theorem HY {β : Sort _} (a b : β) (c : Nat) : Bool.rec (motive := fun _ => β) a b (Nat.beq c 0) = if c = 0 then b else a := by
 by_cases h : c = 0
 ·subst h; rfl
 ·rw [if_neg h]
  have : Nat.beq c 0 = false := by rw [amP]; simpa using h
  rw [this]
theorem Tr.qR {α : Type} (v : Option α) (l r : Tr α) (k : Nat) :
 (Tr.node v l r).get k = if k = 0 then v else if (k - 1) % 2 = 0 then l.get ((k - 1) / 2) else r.get ((k - 1) / 2) := by
 cases k with
 | zero => rfl
 | succ k =>
   simp only [Nat.add_sub_cancel, Nat.succ_ne_zero, if_false]
   exact HY _ _ _
theorem Tr.Bq {α : Type} (t : Tr α) (k : Nat) :
 t.get k = if k = 0 then t.val else if (k - 1) % 2 = 0 then t.left.get ((k - 1) / 2) else t.right.get ((k - 1) / 2) := by
 cases t with
 | nil =>
   have h : ∀ j, (Tr.nil : Tr α).get j = none := fun _ => rfl
   simp [h, Tr.val, Tr.left, Tr.right]
 | node v l r => rw [Tr.qR]; rfl
theorem Tr.aqF {α : Type} (v : Option α) (x r : Tr α) : Tr.mkL v x r = .node v x r := by cases x <;> rfl
theorem Tr.aqE {α : Type} (v : Option α) (l x : Tr α) : Tr.mkR v l x = .node v l x := by cases x <;> rfl
theorem Tr.Y9 {α : Type} (f : Nat) (t : Tr α) (v : Option α) : Tr.Zb (f + 1) t 0 v = .node v t.left t.right := by cases t <;> rfl
theorem Tr.Za {α : Type} (f : Nat) (t : Tr α) (k : Nat) (v : Option α) : Tr.Zb (f + 1) t (k + 1) v = if k % 2 = 0 then .node t.val (Tr.Zb f t.left (k / 2) v) t.right else .node t.val t.left (Tr.Zb f t.right (k / 2) v) := by
 rw [← Tr.aqF, ← Tr.aqE]
 cases t <;> exact HY _ _ _
theorem Tr.aeK {α : Type} : ∀ (f : Nat) (t : Tr α) (k : Nat) (v : Option α) (j : Nat), k < f → (Tr.Zb f t k v).get j = if j = k then v else t.get j := by
 intro f
 induction f with
 | zero => intro t k v j hk; omega
 | succ f ih =>
   intro t k v j hk
   cases k with
   | zero =>
     rw [Tr.Y9, Tr.qR, Tr.Bq t]
     split <;> simp_all
   | succ k =>
     rw [Tr.Za, Tr.Bq t j]
     split
     ·rename_i h
      rw [Tr.qR]
      by_cases hj : j = 0
      ·subst hj; simp
      ·rw [if_neg hj, if_neg hj]
       by_cases h2 : (j - 1) % 2 = 0
       ·rw [if_pos h2, if_pos h2, ih _ _ _ _ (by omega)]
        by_cases h3 : j = k + 1
        ·subst h3; simp
        ·rw [if_neg h3, if_neg (by omega)]
       ·rw [if_neg h2, if_neg h2, if_neg (by intro h3; subst h3; simp at h2; omega)]
     ·rename_i h
      rw [Tr.qR]
      by_cases hj : j = 0
      ·subst hj; simp
      ·rw [if_neg hj, if_neg hj]
       by_cases h2 : (j - 1) % 2 = 0
       ·rw [if_pos h2, if_pos h2, if_neg (by intro h3; subst h3; simp at h2; omega)]
       ·rw [if_neg h2, if_neg h2, ih _ _ _ _ (by omega)]
        by_cases h3 : j = k + 1
        ·subst h3; simp
        ·rw [if_neg h3, if_neg (by omega)]
theorem Tr.get_put {α : Type} (t : Tr α) (k : Nat) (v : Option α) (j : Nat) : (t.put k v).get j = if j = k then v else t.get j :=
 Tr.aeK (Nat.succ k) t k v j (Nat.lt_succ_self _)
end Go.As
end
section
namespace Go.As
inductive D where
 | i (n : Int)
 | p (a b : D)
 deriving DecidableEq, Inhabited
def zN : Int → Nat
 | .ofNat n => 2 * n
 | .negSucc n => 2 * n + 1
theorem aaG {a b : Int} (h : zN a = zN b) : a = b := by
 cases a <;> cases b <;> simp only [zN] at h
 ·congr 1; omega
 ·omega
 ·omega
 ·congr 1; omega
def rP (a b : Nat) : Nat := 2 ^ a * (2 * b + 1)
theorem FZ : ∀ {a a' b b' : Nat}, rP a b = rP a' b' → a = a' ∧ b = b'
 | 0, 0, b, b', h => by simp only [rP, Nat.pow_zero, Nat.one_mul] at h; omega
 | 0, a' + 1, b, b', h => by
   simp only [rP, Nat.pow_zero, Nat.one_mul, Nat.pow_succ] at h
   have : 2 ^ a' * 2 * (2 * b' + 1) = 2 * (2 ^ a' * (2 * b' + 1)) := by rw [Nat.mul_comm (2 ^ a') 2, Nat.mul_assoc]
   omega
 | a + 1, 0, b, b', h => by
   simp only [rP, Nat.pow_zero, Nat.one_mul, Nat.pow_succ] at h
   have : 2 ^ a * 2 * (2 * b + 1) = 2 * (2 ^ a * (2 * b + 1)) := by rw [Nat.mul_comm (2 ^ a) 2, Nat.mul_assoc]
   omega
 | a + 1, a' + 1, b, b', h => by
   have h1 : 2 ^ (a + 1) * (2 * b + 1) = 2 * rP a b := by unfold rP; rw [Nat.pow_succ, Nat.mul_comm (2 ^ a) 2, Nat.mul_assoc]
   have h2 : 2 ^ (a' + 1) * (2 * b' + 1) = 2 * rP a' b' := by unfold rP; rw [Nat.pow_succ, Nat.mul_comm (2 ^ a') 2, Nat.mul_assoc]
   have h3 : rP a b = rP a' b' := by
    have : rP (a + 1) b = rP (a' + 1) b' := h
    unfold rP at this
    rw [h1, h2] at this
    omega
   obtain ⟨e1, e2⟩ := FZ h3
   exact ⟨by omega, e2⟩
def D.enc : D → Nat
 | .i n => 2 * zN n
 | .p a b => 2 * rP a.enc b.enc + 1
theorem D.oO : ∀ {a b : D}, a.enc = b.enc → a = b
 | .i n, .i m, h => by
   simp only [D.enc] at h
   rw [aaG (a := n) (b := m) (by omega)]
 | .i n, .p a b, h => by simp only [D.enc] at h; omega
 | .p a b, .i n, h => by simp only [D.enc] at h; omega
 | .p a b, .p c d, h => by
   simp only [D.enc] at h
   obtain ⟨h1, h2⟩ := FZ (a := a.enc) (b := b.enc) (a' := c.enc) (b' := d.enc) (by omega)
   rw [D.oO h1, D.oO h2]
open Classical in
noncomputable def dec (z : Int) : D := if h : ∃ d : D, (d.enc : Int) = z then h.choose else .i 0
def enc (d : D) : Int := (d.enc : Int)
theorem aC (d : D) : dec (enc d) = d := by
 unfold dec
 have h : ∃ d' : D, (d'.enc : Int) = enc d := ⟨d, rfl⟩
 rw [dif_pos h]
 have := h.choose_spec
 apply D.oO
 unfold enc at this
 exact Int.ofNat.inj this
theorem oO {a b : D} (h : enc a = enc b) : a = b := by rw [← aC a, h, aC]
def D.n : D → Int
 | .i n => n
 | .p _ _ => 0
def D.l : D → List D
 | .i _ => []
 | .p a b => a :: b.l
def dL : List D → D
 | [] => .i 0
 | a :: l => .p a (dL l)
@[simp] theorem bC : ∀ l : List D, (dL l).l = l
 | [] => rfl
 | a :: l => by simp [dL, D.l, bC l]
theorem Gv {a b : List D} (h : dL a = dL b) : a = b := by rw [← bC a, h, bC]
def D.at (d : D) (i : Int) : D := (d.l[i.toNat]?).getD (.i 0)
def D.hd (d : D) (j : Nat) : D := (d.l[j]?).getD (.i 0)
def uF (l : List UInt8) : D := dL (l.map fun b => .i (b.toNat : Int))
def yN (s : ByteArray) : D := uF s.data.toList
def mQ (l : List Nat) : D := dL (l.map fun b => .i (Int.ofNat b))
theorem WU {a b : List UInt8} (h : uF a = uF b) : a = b := by
 have := Gv h
 have hinj : ∀ {x y : UInt8}, (D.i (x.toNat : Int)) = .i (y.toNat : Int) → x = y := by
  intro x y h
  simp only [D.i.injEq, Int.ofNat_inj] at h
  exact UInt8.toNat_inj.1 h
 induction a generalizing b with
 | nil => cases b with
   | nil => rfl
   | cons y b => simp at this
 | cons x a ih => cases b with
   | nil => simp at this
   | cons y b =>
     simp only [List.map_cons, List.cons.injEq] at this
     rw [hinj this.1, ih (by unfold uF; rw [this.2]) this.2]
theorem Le {a b : ByteArray} (h : yN a = yN b) : a = b := by
 have := WU h
 cases a with
 | mk x => cases b with
   | mk y => simp only [ByteArray.mk.injEq] at *; exact Array.toList_inj.1 this
theorem EO (l : List Nat) (h : ∀ b ∈ l, b < 256) : mQ l = uF (l.map UInt8.ofNat) := by
 unfold mQ uF
 congr 1
 rw [List.map_map]
 apply List.map_congr_left
 intro b hb
 have := h b hb
 simp [Nat.mod_eq_of_lt this]
theorem agP (s : ByteArray) : (yN s).l.length = s.size := by
 unfold yN uF
 rw [bC, List.length_map]
 rfl
inductive aN where
 | len
 | at
 | cell (j : Nat)
 | num
 | mk
 | cons
 | snoc
 | cat
 | take
 | drop
 | set
 | bit
 | norm
 | sub
 | fill
 | idx
 | cnt
 | con
 | slt
 | JJ
 | JK
 | Eb
 | Zl
 deriving DecidableEq, Inhabited
def gV (d : D) (l : List D) : D := match l with
 | [] => if d = .i 1 then .i 1 else .i 2
 | l => dL l
theorem kU (d : D) (l : List D) : (gV d l).l = l := by
 cases l with
 | nil => simp only [gV]; split <;> rfl
 | cons a l => simp [gV]
theorem EN {d : D} {l : List D} (h : l ≠ []) : gV d l = dL l := by
 cases l with
 | nil => exact absurd rfl h
 | cons a l => rfl
theorem sK {d : D} (h : d ≠ .i 1) : gV d [] = .i 2 := by
 show (if d = .i 1 then D.i 1 else D.i 2) = .i 2
 rw [if_neg h]
theorem ZK {d : D} (h : d ≠ .i 1) (l : List D) : gV d l ≠ .i 1 := by
 cases l with
 | nil => rw [sK h]; simp
 | cons a l => simp [gV, dL]
theorem yO {d : D} {l m : List D} (h : d = .i 1 → l = []) : gV (gV d l) m = gV d m := by
 cases m with
 | cons a m => rfl
 | nil =>
   by_cases h1 : d = .i 1
   ·rw [h h1, h1]; rfl
   ·rw [sK h1, sK (ZK h1 l)]
def uZ (z : Int) : List D → Int → Int
 | [], _ => -1
 | d :: l, i => match d with
   | .i n => if n = z then i else uZ z l (i + 1)
   | _ => uZ z l (i + 1)
def L9 (l : List D) (z : Int) : Int := uZ z l 0
def WT : List D → List D → Bool
 | [], _ => true
 | _ :: _, [] => false
 | a :: x, b :: y => decide (a = b) && WT x y
def agU (l x : List D) : Bool := match l with
 | [] => WT x []
 | a :: l => WT x (a :: l) || agU l x
def amK (l : List D) (z : Int) : Int := match l with
 | [] => 0
 | d :: l => (if d = .i z then 1 else 0) + amK l z
def Yq : List D → List D → Bool
 | [], [] => false
 | [], _ :: _ => true
 | _ :: _, [] => false
 | a :: x, b :: y => if a.n < b.n then true else if b.n < a.n then false else Yq x y
def iC (ds : List D) (z : Int) (x : D) : List D := if z < 0 then ds else ds.set z.toNat x
theorem iM (ds : List D) (z : Int) (x : D) : (iC ds z x).length = ds.length := by
 unfold iC; split
 ·rfl
 ·exact List.length_set
theorem wC (ds : List D) (k : Nat) (x : D) : iC ds (k : Int) x = ds.set k x := by
 unfold iC; rw [if_neg (by omega)]; rfl
def ZM : D → D
 | .p k _ => k
 | d => d
def amI : D → D
 | .p _ v => v
 | d => d
def Ed : List D → D → Option D
 | [], _ => none
 | d :: l, k => if ZM d = k then some (amI d) else Ed l k
def Ti : List D → D → D → List D
 | [], k, v => [.p k v]
 | d :: l, k, v => if ZM d = k then .p k v :: l else d :: Ti l k v
def Tj : List D → D → List D
 | [], _ => []
 | d :: l, k => if ZM d = k then l else d :: Tj l k
noncomputable def aN.den (o : aN) (x y : Int) : Int := match o with
 | .len => ((dec x).l.length : Int)
 | .at => enc ((dec x).at y)
 | .cell j => enc ((dec x).hd j)
 | .num => (dec x).n
 | .mk => enc (.i x)
 | .cons => enc (.p (dec x) (dec y))
 | .snoc => enc (dL ((dec x).l ++ [dec y]))
 | .cat => enc (dL ((dec x).l ++ (dec y).l))
 | .take => enc (gV (dec x) ((dec x).l.take y.toNat))
 | .drop => enc (gV (dec x) ((dec x).l.drop y.toNat))
 | .set => match dec y with
   | .p q v => enc (dL (iC (dec x).l q.n v))
   | _ => x
 | .bit => enc (.i (if (dec x).n = 0 then 0 else 1))
 | .norm => enc (dec x)
 | .sub => enc (dL (((dec x).l.take ((dec y).hd 1).n.toNat).drop ((dec y).hd 0).n.toNat))
 | .fill => match dec y with
   | .p q v => enc (dL ((dec x).l.take q.n.toNat ++ List.replicate ((dec x).l.length - q.n.toNat) v))
   | _ => x
 | .idx => L9 (dec x).l y
 | .cnt => amK (dec x).l y
 | .con => if agU (dec x).l (dec y).l then 1 else 0
 | .slt => if Yq (dec x).l (dec y).l then 1 else 0
 | .JJ => if (Ed (dec x).l (dec y)).isSome then 1 else 0
 | .JK => enc ((Ed (dec x).l (dec y)).getD (.i 0))
 | .Eb => match dec y with
   | .p k v => enc (dL (Ti (dec x).l k v))
   | _ => x
 | .Zl => enc (dL (Tj (dec x).l (dec y)))
def aN.tag : aN → Nat
 | .len => 0
 | .at => 1
 | .cell j => j + 22
 | .num => 2
 | .mk => 3
 | .cons => 4
 | .snoc => 5
 | .cat => 6
 | .take => 7
 | .drop => 8
 | .set => 9
 | .bit => 10
 | .norm => 11
 | .sub => 12
 | .fill => 13
 | .idx => 14
 | .cnt => 15
 | .con => 16
 | .slt => 17
 | .JJ => 18
 | .JK => 19
 | .Eb => 20
 | .Zl => 21
theorem aN.aiH {a b : aN} (h : a.tag = b.tag) : a = b := by
 cases a <;> cases b <;> simp only [aN.tag] at h <;> first | rfl | (congr 1; omega) | omega
inductive CK where
 | int (k : IntKind)
 | bool
 | str
 | sl (t : Nat)
 deriving DecidableEq, Inhabited
inductive Row where
 | one (c : CK)
 | many (cs : List CK)
 deriving DecidableEq, Inhabited
def Row.es : Row → Nat
 | .one _ => 1
 | .many cs => cs.length
def rowOf (t : Nat) : Row := match t with
 | 0 => .one (.int .i64)
 | 1 => .one (.int .i64)
 | 2 => .one .str
 | 3 => .many [.int .u8, .str, .int .i64, .str, .int .i64]
 | 4 => .many [.str, .sl 2, .sl 5]
 | 5 => .many [.int .u8, .int .u8, .int .i64, .int .i64, .int .i64, .int .i64, .sl 6]
 | 6 => .many [.int .u8, .str, .int .i64, .sl 6]
 | 7 => .many [.int .i64, .int .i64, .bool, .int .i64, .sl 0, .sl 0]
 | 8 => .many [.int .i64, .sl 0, .int .u8, .int .i64, .int .i64, .int .i64]
 | 9 => .many [.int .i64, .int .u8, .int .i64, .int .i64, .int .i64]
 | 10 => .one (.sl 0)
 | 11 => .many [.int .i64, .int .i64, .int .i64]
 | 12 => .many [.int .i64, .int .i64]
 | 13 => .many [.int .i64, .int .u8, .int .i64, .int .i64, .int .i64]
 | 14 => .one (.int .u8)
 | 15 => .one (.sl 0)
 | _ => .one .bool
def mapOf (t : Nat) : CK × CK := match t with
 | 0 => (.int .i64, .int .i64)
 | 1 => (.str, .int .i64)
 | 2 => (.int .i64, .sl 0)
 | _ => (.int .i64, .bool)
def uI (c : CK) (d : D) : Prop := match c with
 | .int _ => d = .i d.n
 | .bool => d = .i 0 ∨ d = .i 1
 | _ => True
def Ry (cs : List CK) (d : D) : Prop := d = dL d.l ∧ d.l.length = cs.length ∧ ∀ (j : Nat) (c : CK) (x : D), cs[j]? = some c → d.l[j]? = some x → uI c x
def xB (r : Row) (d : D) : Prop := match r with
 | .one c => uI c d
 | .many cs => Ry cs d
def H8 (r : Row) (d : D) : Prop := d = dL d.l ∧ (∀ x ∈ d.l, xB r x) ∧ d.l ≠ []
end Go.As
end
section
namespace Go.As
noncomputable section
inductive SE where
 | lit (n : Int)
 | aA (i : Nat)
 | add (a b : SE)
 | sub (a b : SE)
 | mul (a b : SE)
 | quo (a b : SE)
 | rem (a b : SE)
 | wrap (k : IntKind) (a : SE)
 | inp (b : Nat) (e : SE)
 | dat (d : D)
 | op (o : aN) (a b : SE)
 | ap (f : Nat) (a : SE)
 deriving DecidableEq, Inhabited
def jT (f : Nat) (z : Int) : Nat := 1000 + rP f (zN z) * 64 + 63
noncomputable def SE.den (ρ : Nat → Int) : SE → Int
 | .lit n => n
 | .aA i => ρ i
 | .add a b => a.den ρ + b.den ρ
 | .sub a b => a.den ρ - b.den ρ
 | .mul a b => a.den ρ * b.den ρ
 | .quo a b => (a.den ρ).tdiv (b.den ρ)
 | .rem a b => (a.den ρ).tmod (b.den ρ)
 | .wrap k a => k.wrap (a.den ρ)
 | .inp b e => ρ (1000 + (e.den ρ).toNat * 64 + b)
 | .dat d => enc d
 | .op o a b => o.den (a.den ρ) (b.den ρ)
 | .ap f a => ρ (jT f (a.den ρ))
def zQ : Int → Int → Bool
 | .ofNat a, .ofNat b => Nat.beq a b
 | .negSucc a, .negSucc b => Nat.beq a b
 | _, _ => false
def D.eqb : D → D → Bool
 | .i a, .i b => zQ a b
 | .p a b, .p c d => match D.eqb a c with | true => D.eqb b d | false => false
 | _, _ => false
theorem Bl {a b : Int} (h : zQ a b = true) : a = b := by
 cases a <;> cases b <;> simp [zQ] at h <;> rw [h]
theorem D.WI : ∀ {a b : D}, D.eqb a b = true → a = b
 | .i a, .i b, h => by simp only [D.eqb] at h; rw [Bl h]
 | .p a b, .p c d, h => by
   simp only [D.eqb] at h
   split at h
   ·rename_i h1; rw [D.WI h1, D.WI h]
   ·simp at h
 | .i _, .p _ _, h => by simp [D.eqb] at h
 | .p _ _, .i _, h => by simp [D.eqb] at h
def fK : SE → SE → Bool
 | .lit a, .lit b => a == b
 | .aA i, .aA j => Nat.beq i j
 | .add a b, .add c d => match fK a c with | true => fK b d | false => false
 | .sub a b, .sub c d => match fK a c with | true => fK b d | false => false
 | .mul a b, .mul c d => match fK a c with | true => fK b d | false => false
 | .quo a b, .quo c d => match fK a c with | true => fK b d | false => false
 | .rem a b, .rem c d => match fK a c with | true => fK b d | false => false
 | .wrap k a, .wrap l b => match fK a b with | true => decide (k = l) | false => false
 | .inp i a, .inp j b => match Nat.beq i j with | true => fK a b | false => false
 | .dat a, .dat b => D.eqb a b
 | .op o a b, .op q c d => match Nat.beq o.tag q.tag with
   | true => match fK a c with | true => fK b d | false => false
   | false => false
 | .ap f a, .ap g b => match Nat.beq f g with | true => fK a b | false => false
 | _, _ => false
theorem bK : ∀ (a b : SE), fK a b = true → a = b
 | .lit a, b, h => by cases b <;> simp [fK] at h; rw [h]
 | .aA i, b, h => by cases b <;> simp [fK] at h; rw [h]
 | .add a b, c, h => by cases c <;> simp only [fK, Bool.false_eq_true] at h; split at h <;> first | (rename_i h1; rw [bK _ _ h1, bK _ _ h]; done) | simp at h
 | .sub a b, c, h => by cases c <;> simp only [fK, Bool.false_eq_true] at h; split at h <;> first | (rename_i h1; rw [bK _ _ h1, bK _ _ h]; done) | simp at h
 | .mul a b, c, h => by cases c <;> simp only [fK, Bool.false_eq_true] at h; split at h <;> first | (rename_i h1; rw [bK _ _ h1, bK _ _ h]; done) | simp at h
 | .quo a b, c, h => by cases c <;> simp only [fK, Bool.false_eq_true] at h; split at h <;> first | (rename_i h1; rw [bK _ _ h1, bK _ _ h]; done) | simp at h
 | .rem a b, c, h => by cases c <;> simp only [fK, Bool.false_eq_true] at h; split at h <;> first | (rename_i h1; rw [bK _ _ h1, bK _ _ h]; done) | simp at h
 | .wrap k a, c, h => by cases c <;> simp only [fK, Bool.false_eq_true] at h; split at h <;> first | (rename_i h1; rw [bK _ _ h1, of_decide_eq_true h]; done) | simp at h
 | .inp i a, c, h => by cases c <;> simp only [fK, Bool.false_eq_true] at h; split at h <;> first | (rename_i h1; rw [Nat.eq_of_beq_eq_true h1, bK _ _ h]; done) | simp at h
 | .dat a, c, h => by cases c <;> simp only [fK, Bool.false_eq_true] at h; rw [D.WI h]
 | .op o a b, c, h => by
   cases c <;> simp only [fK, Bool.false_eq_true] at h
   split at h
   ·rename_i h0
    split at h
    ·rename_i h1
     rw [aN.aiH (Nat.eq_of_beq_eq_true h0), bK _ _ h1, bK _ _ h]
    ·simp at h
   ·simp at h
 | .ap f a, c, h => by cases c <;> simp only [fK, Bool.false_eq_true] at h; split at h <;> first | (rename_i h1; rw [Nat.eq_of_beq_eq_true h1, bK _ _ h]; done) | simp at h
inductive SB where
 | lit (b : Bool)
 | lt (a b : SE)
 | le (a b : SE)
 | eq (a b : SE)
 | not (s : SB)
 | and (a b : SB)
 deriving DecidableEq, Inhabited
noncomputable def SB.den (ρ : Nat → Int) : SB → Bool
 | .lit b => b
 | .lt a b => decide (a.den ρ < b.den ρ)
 | .le a b => decide (a.den ρ ≤ b.den ρ)
 | .eq a b => a.den ρ == b.den ρ
 | .not s => !(s.den ρ)
 | .and a b => a.den ρ && b.den ρ
def yT (k : IntKind) (n : Int) : Int :=
 match k with
 | .i64 => if -9223372036854775808 ≤ n ∧ n ≤ 9223372036854775807 then n else k.wrap n
 | .u8 => if 0 ≤ n ∧ n ≤ 255 then n else k.wrap n
 | _ => k.wrap n
inductive UQ where
 | exact (c : Nat)
 | rest (es : Nat)
 deriving DecidableEq, Inhabited
inductive AV where
 | bool (b : SB)
 | int (k : IntKind) (e : SE)
 | str (s : List Nat)
 | ptr (id off : Nat)
 | jW
 | qI (cells : List AV)
 | slice (id off len : Nat) (c : UQ)
 | aP
 | ro (cells : List AV) (n : Nat) (full : Bool)
 | map (id : Nat)
 | oZ
 | func (fn : Fn) (fs cs : List AV)
 | BO
 | iface (t : Nat) (v : AV)
 | D8
 | agg (cs : List AV)
 | tuple (vs : List AV)
 | opq (i : Nat)
 | inp (k : Nat) (ks : List IntKind)
 | dat (e : SE) (t : Nat)
 | lJ (e : SE)
 | uM (id : Nat) (n : SE) (t : Nat)
 | nY (id es : Nat) (i : SE) (off : Nat)
 | emp
 | yX (id : Nat) (lo n : SE) (t : Nat)
 | any
 | Fv (z : SE) (t : Nat)
 deriving Inhabited
def AV.undef : AV := .tuple []
def AV.cells : AV → List AV
 | .agg cs => cs
 | v => [v]
def AV.one : AV → Bool
 | .agg _ => false
 | .tuple _ => false
 | .opq _ => false
 | .any => false
 | _ => true
inductive dP where
 | cells (cs : List AV) (e : TypeId)
 | map (es : List (AV × AV × Nat)) (clock : Nat)
 | mM (s : List Nat) (pos : Nat)
 | vec (e : SE) (t : Nat) (ty : TypeId) (ov : List (SE × List AV))
 | iI (e : SE) (t : Nat)
 deriving Inhabited
structure Hp where
 m : Tr dP
 next : Nat
 res : Option Nat := none
 deriving Inhabited
def Hp.get (h : Hp) (i : Nat) : Option dP := h.m.get i
def Hp.put (h : Hp) (i : Nat) (o : dP) : Hp := ⟨h.m.put i (some o), h.next, h.res⟩
def Hp.drop (h : Hp) (i : Nat) : Hp := ⟨h.m.put i none, h.next, h.res⟩
def Hp.fresh (h : Hp) : Nat := match h.res with
 | none => h.next
 | some r => r
def Hp.new (h : Hp) (o : dP) : Hp := match h.res with
 | none => ⟨h.m.put h.next (some o), h.next + 1, none⟩
 | some r => ⟨h.m.put r (some o), h.next, none⟩
inductive T (α : Type) where
 | fail
 | ret (a : α)
 | split (c : SB) (t f : T α)
 deriving Inhabited
def T.bind {α β : Type} : T α → (α → T β) → T β
 | .fail, _ => .fail
 | .ret a, f => f a
 | .split c x y, f => .split c (x.bind f) (y.bind f)
def T.leaf {α : Type} (ρ : Nat → Int) : T α → Option α
 | .fail => none
 | .ret a => some a
 | .split c x y => match c.den ρ with
   | true => x.leaf ρ
   | false => y.leaf ρ
def T.opt {α : Type} : Option α → T α
 | some a => .ret a
 | none => .fail
inductive TK where
 | bool
 | int (k : IntKind)
 | string
 | pointer (e : Nat)
 | slice (e : Nat)
 | array (n e : Nat)
 | map (k e : Nat)
 | struct (fs : List (Nat × Nat × Nat))
 | func
 | iface (plain : Bool)
 | tuple
 deriving DecidableEq, Inhabited
structure TI where
 kind : TK
 size : Nat
 bytes : Nat
 zero : List AV
 eqs : Bool
 own : Option Nat := none
 deriving Inhabited
def TK.agg (k : TK) : Bool := match k with | .struct _ => true | .array _ _ => true | _ => false
def TI.agg (i : TI) : Bool := i.kind.agg
abbrev TT := Nat → Option TI
def bytesOf (s : ByteArray) : List Nat := s.data.toList.map (·.toNat)
def iO : Value → Option AV
 | .bool b => some (.bool (.lit b))
 | .int k n => some (.int k (.lit n))
 | .string s => some (.str (bytesOf s))
 | .pointer none => some .jW
 | .slice none 0 0 => some .aP
 | .map none => some .oZ
 | .nilFunc => some .BO
 | .nilIface => some .D8
 | .func fn f c => if f.isEmpty && c.isEmpty then some (.func fn [] []) else none
 | _ => none
def lF : List Value → Option (List AV)
 | [] => some []
 | v :: vs => match iO v with
   | none => none
   | some a => match lF vs with
     | none => none
     | some aAX => some (a :: aAX)
def ofConst : Value → Option AV
 | .agg cs => (lF cs.toList).map .agg
 | .tuple vs => (lF vs.toList).map .tuple
 | v => iO v
def Cb (a b : SE) : SB := match fK a b with
 | true => .lit true
 | false => match a with
   | .dat _ => .eq b a
   | _ => .eq a b
def MR (x : SE) : SE := match x with
 | .op o a _ => match o with
   | .mk => a
   | _ => .op .num x (.lit 0)
 | .dat d => match d with
   | .i n => .lit n
   | _ => .op .num x (.lit 0)
 | _ => .op .num x (.lit 0)
def FM (x : SE) : SE := match x with
 | .lit n => .dat (.i n)
 | x => .op .mk x (.lit 0)
def lQ (j : Nat) (x : SE) : SE := match x with
 | .op o a b => match o with
   | .cons => match j with
     | 0 => a
     | j + 1 => lQ j b
   | _ => .op (.cell j) x (.lit 0)
 | _ => .op (.cell j) x (.lit 0)
def dZ (x : SE) : SE := match x with
 | .op o a _ => match o with
   | .set => dZ a
   | _ => .op .len x (.lit 0)
 | .dat d => .lit (Int.ofNat d.l.length)
 | _ => .op .len x (.lit 0)
def fV (a b : SE) : SE := .op .cons a b
def VX (x : SE) : Bool := match x with
 | .dat d => match d with
   | .i n => zQ n 0
   | _ => false
 | _ => false
def yP (c : CK) (x : SE) : AV := match c with
 | .int k => .int k (MR x)
 | .bool => .bool (.not (.eq (MR x) (.lit 0)))
 | .str => .lJ x
 | .sl t => .dat x t
def kJ : List CK → Nat → SE → List AV
 | [], _, _ => []
 | c :: cs, j, x => yP c (lQ j x) :: kJ cs (j + 1) x
def iR (r : Row) (x : SE) : List AV := match r with
 | .one c => [yP c x]
 | .many cs => kJ cs 0 x
def pG (x : SE) : SE := match x with
 | .dat d => .dat d
 | .op o a b => match o with
   | .cell j => .op (.cell j) a b
   | .at => .op .at a b
   | o => .op .norm (.op o a b) (.lit 0)
 | x => .op .norm x (.lit 0)
def yS : AV → Option SE
 | .str l => some (.dat (mQ l))
 | .lJ e => some e
 | _ => none
def strEq (x y : AV) : Option SB := match yS x with
 | none => none
 | some a => match yS y with
   | none => none
   | some b => some (Cb (pG a) (pG b))
def rJ (c : CK) (v : AV) : Option SE := match c with
 | .int k => match v with
   | .int k' e => if k = k' then some (FM e) else none
   | _ => none
 | .bool => match v with
   | .bool c => match c with
     | .lit b => some (.dat (.i (if b then 1 else 0)))
     | .not d => match d with
       | .eq x z => match z with
         | .lit n => if n = 0 then some (.op .bit (FM x) (.lit 0)) else none
         | _ => none
       | _ => none
     | _ => none
   | _ => none
 | .str => yS v
 | .sl t => match v with
   | .dat e t' => if t = t' then some e else none
   | .aP => some (.dat (.i 1))
   | .Fv z t' => if t = t' then some z else none
   | .slice _ _ n _ => match n with
     | 0 => some (.dat (.i 2))
     | _ => none
   | _ => none
def codeCells : List CK → List AV → Option SE
 | [], [] => some (.dat (.i 0))
 | c :: cs, v :: vs => match rJ c v with
   | none => none
   | some a => match codeCells cs vs with
     | none => none
     | some b => some (fV a b)
 | _, _ => none
def codeRow (r : Row) (cs : List AV) : Option SE := match r with
 | .one c => match cs with
   | [v] => rJ c v
   | _ => none
 | .many ks => codeCells ks cs
def qW (r : Row) (e : SE) : Nat → List AV → Option SE
 | 0, [] => some e
 | 0, _ :: _ => none
 | m + 1, cs => match codeRow r (cs.take r.es) with
   | none => none
   | some x => qW r (.op .snoc e x) m (cs.drop r.es)
structure St where
 slots : Tr AV
 h : Hp
 pc : List (SB × Bool)
 deriving Inhabited
def St.set (s : St) (t : Nat) (v : AV) : St := { s with slots := s.slots.put t (some v) }
def St.Sz (s : St) (d : Option Nat) (v : AV) : St := match d with | some t => s.set t v | none => s
def ev (s : St) : Operand → Option AV
 | .tmp t => s.slots.get t
 | .const v => ofConst v
 | .func f => some (.func (.func f) [] [])
 | .global _ => none
def evs (s : St) : List Operand → Option (List AV)
 | [] => some []
 | x :: xs => match ev s x with
   | none => none
   | some a => match evs s xs with
     | none => none
     | some aAX => some (a :: aAX)
def rF : SB → SB → Bool
 | .lit a, .lit b => a == b
 | .lt a b, .lt c d => match fK a c with | true => fK b d | false => false
 | .le a b, .le c d => match fK a c with | true => fK b d | false => false
 | .eq a b, .eq c d => match fK a c with | true => fK b d | false => false
 | .not a, .not b => rF a b
 | .and a b, .and c d => match rF a c with | true => rF b d | false => false
 | _, _ => false
theorem wF : ∀ (a b : SB), rF a b = true → a = b
 | .lit a, b, h => by cases b <;> simp [rF] at h; rw [h]
 | .lt a b, c, h => by cases c <;> simp only [rF, Bool.false_eq_true] at h; split at h <;> first | (rename_i h1; rw [bK _ _ h1, bK _ _ h]; done) | simp at h
 | .le a b, c, h => by cases c <;> simp only [rF, Bool.false_eq_true] at h; split at h <;> first | (rename_i h1; rw [bK _ _ h1, bK _ _ h]; done) | simp at h
 | .eq a b, c, h => by cases c <;> simp only [rF, Bool.false_eq_true] at h; split at h <;> first | (rename_i h1; rw [bK _ _ h1, bK _ _ h]; done) | simp at h
 | .not a, c, h => by cases c <;> simp only [rF, Bool.false_eq_true] at h; rw [wF _ _ h]
 | .and a b, c, h => by cases c <;> simp only [rF, Bool.false_eq_true] at h; split at h <;> first | (rename_i h1; rw [wF _ _ h1, wF _ _ h]; done) | simp at h
def pJ (c : SB) : List (SB × Bool) → Option Bool
 | [] => none
 | (d, b) :: l => match rF c d with
   | true => some b
   | false => pJ c l
def adG (a : Option Int) (z : Int) : Option Int := match a with
 | none => some z
 | some y => some (if y < z then z else y)
def adF (a : Option Int) (z : Int) : Option Int := match a with
 | none => some z
 | some y => some (if z < y then z else y)
def acV (a : Option Int) (z : Int) : Option Int := match a with
 | none => none
 | some y => some (if y = z then z + 1 else y)
def acX (a : Option Int) (z : Int) : Option Int := match a with
 | none => none
 | some y => some (if y = z then z - 1 else y)
def YA (e : SE) : Option Int × Option Int := match e with
 | .rem a c => match c with
   | .lit k => match a with
     | .add b d => match d with
       | .lit m => match b with
         | .rem _ f => match f with
           | .lit n => if 0 < n ∧ n = m ∧ m = k then (some 0, some (n - 1)) else (none, none)
           | _ => (none, none)
         | _ => (none, none)
       | _ => (none, none)
     | _ => (none, none)
   | _ => (none, none)
 | .op o _ _ => match o with
   | .len => (some 0, none)
   | _ => (none, none)
 | _ => (none, none)
def bounds (e : SE) : List (SB × Bool) → Option Int × Option Int
 | [] => YA e
 | (c, v) :: l => match c with
   | .lt x y => match x with
     | .lit z => match fK y e with
       | false => bounds e l
       | true => match bounds e l with
         | (lo, hi) => match v with
           | true => (adG lo (z + 1), hi)
           | false => (lo, adF hi z)
     | x => match y with
       | .lit z => match fK x e with
         | false => bounds e l
         | true => match bounds e l with
           | (lo, hi) => match v with
             | true => (lo, adF hi (z - 1))
             | false => (adG lo z, hi)
       | _ => bounds e l
   | .eq x y => match y with
     | .lit z => match v with
       | false => match fK x e with
         | false => bounds e l
         | true => match bounds e l with
           | (lo, hi) => (acV lo z, acX hi z)
       | true => match fK x e with
         | false => bounds e l
         | true => (some z, some z)
     | _ => bounds e l
   | _ => bounds e l
def sF (e : SE) (pc : List (SB × Bool)) : Option Int × Option Int := match e with
 | .wrap k s => match k with
   | .i64 => match s with
     | .add b d => match d with
       | .lit c => match bounds b pc with
         | (some lo, some hi) => if -9223372036854775808 ≤ lo + c ∧ hi + c ≤ 9223372036854775807 then (match bounds e pc with
           | (l2, h2) => (adG l2 (lo + c), adF h2 (hi + c))) else bounds e pc
         | _ => bounds e pc
       | _ => bounds e pc
     | _ => bounds e pc
   | _ => bounds e pc
 | _ => bounds e pc
def XP (a b : SE) (pc : List (SB × Bool)) : Option Bool := match pJ (.eq a b) pc with
 | some v => some v
 | none => pJ (.eq b a) pc
def decLt (pc : List (SB × Bool)) (a b : SE) : Option Bool := match pJ (.lt a b) pc with
 | some v => some v
 | none => match a with
   | .lit z => match sF b pc with
     | (lo, hi) => match lo with
       | some l => if z < l then some true else match hi with
         | some h => if h ≤ z then some false else none
         | none => none
       | none => match hi with
         | some h => if h ≤ z then some false else none
         | none => none
   | a => match b with
     | .lit z => match sF a pc with
       | (lo, hi) => match hi with
         | some h => if h < z then some true else match lo with
           | some l => if z ≤ l then some false else none
           | none => none
         | none => match lo with
           | some l => if z ≤ l then some false else none
           | none => none
     | b => match XP a b pc with
       | some true => some false
       | some false => match pJ (.lt b a) pc with
         | some v => some !v
         | none => none
       | none => match pJ (.lt b a) pc with
         | some true => some false
         | _ => none
def decEq (pc : List (SB × Bool)) (a b : SE) : Option Bool := match XP a b pc with
 | some v => some v
 | none => match b with
   | .lit z => match sF a pc with
     | (lo, hi) => match lo with
       | some l => if z < l then some false else match hi with
         | some h => if h < z then some false else if l = z ∧ h = z then some true else none
         | none => none
       | none => match hi with
         | some h => if h < z then some false else none
         | none => none
   | b => match pJ (.lt a b) pc with
     | some true => some false
     | some false => match pJ (.lt b a) pc with
       | some v => some !v
       | none => none
     | none => match pJ (.lt b a) pc with
       | some true => some false
       | _ => none
def I8 (pc : List (SB × Bool)) (c : SB) : Option Bool :=
 match c with
 | .lit b => some b
 | .lt a b => decLt pc a b
 | .eq a b => decEq pc a b
 | c => pJ c pc
def jF (pc : List (SB × Bool)) (c : SB) : Option Bool :=
 match c with
 | .not s => (I8 pc s).map (!·)
 | c => I8 pc c
def oV {α : Type} (s : St) (c : SB) (f : St → Bool → T α) : T α :=
 match jF s.pc c with
 | some b => f s b
 | none => match c with
   | .not d => .split d (f { s with pc := (d, true) :: s.pc } false) (f { s with pc := (d, false) :: s.pc } true)
   | c => .split c (f { s with pc := (c, true) :: s.pc } true) (f { s with pc := (c, false) :: s.pc } false)
def acF (k : IntKind) : SE → SE → SE
 | .lit x, .lit y => .lit (yT k (x + y))
 | a, b => .wrap k (.add a b)
def Xy (k : IntKind) : SE → SE → SE
 | .lit x, .lit y => .lit (yT k (x - y))
 | a, b => .wrap k (.sub a b)
def acE (k : IntKind) : SE → SE → SE
 | .lit x, .lit y => .lit (yT k (x * y))
 | a, b => .wrap k (.mul a b)
def jY : SE → SE → SB
 | .lit x, .lit y => .lit (decide (x < y))
 | a, b => .lt a b
def ajP : SE → SE → SB
 | .lit x, .lit y => .lit (decide (x ≤ y))
 | a, b => .not (.lt b a)
def BL : SE → SE → SB
 | .lit x, .lit y => .lit (x == y)
 | .lit x, b => .eq b (.lit x)
 | a, b => match fK a b with
   | true => .lit true
   | false => .eq a b
def BZ : SB → SB
 | .lit b => .lit !b
 | .not s => s
 | s => .not s
def acH : SB → SB → SB
 | .lit true, b => b
 | .lit false, _ => .lit false
 | a, .lit true => a
 | _, .lit false => .lit false
 | a, b => .and a b
def bytesLess : List Nat → List Nat → Bool
 | _, [] => false
 | [], _ :: _ => true
 | a :: x, b :: y => if a.blt b then true else if a.beq b then bytesLess x y else false
def jC : List Nat → List Nat → Bool
 | [], [] => true
 | a :: x, b :: y => if a.beq b then jC x y else false
 | _, _ => false
def Sm (op : BinOp) (x y : List Nat) : Option AV :=
 match op with
 | .add => if x.length + y.length ≤ 1000000 then some (.str (x ++ y)) else none
 | .eql => some (.bool (.lit (jC x y)))
 | .neq => some (.bool (.lit !(jC x y)))
 | .lss => some (.bool (.lit (bytesLess x y)))
 | .leq => some (.bool (.lit (bytesLess x y || jC x y)))
 | .gtr => some (.bool (.lit !(bytesLess x y || jC x y)))
 | .geq => some (.bool (.lit !(bytesLess x y)))
 | _ => none
def X3 (op : BinOp) (k : IntKind) (a b : SE) : Option AV :=
 match op with
 | .add => some (.int k (acF k a b))
 | .sub => some (.int k (Xy k a b))
 | .mul => some (.int k (acE k a b))
 | .quo => match a, b with
   | .lit x, .lit y => if y = 0 then none else some (.int k (.lit (yT k (x.tdiv y))))
   | a, .lit y => if y = 0 then none else some (.int k (.wrap k (.quo a (.lit y))))
   | _, _ => none
 | .rem => match a, b with
   | .lit x, .lit y => if y = 0 then none else some (.int k (.lit (x.tmod y)))
   | a, .lit y => if y = 0 then none else some (.int k (.rem a (.lit y)))
   | _, _ => none
 | .shr => match a, b with
   | .lit x, .lit y => if y < 0 then none else some (.int k (.lit (x.fdiv (2 ^ (min y.toNat k.bits)))))
   | _, _ => none
 | .eql => some (.bool (BL a b))
 | .neq => some (.bool (BZ (BL a b)))
 | .lss => some (.bool (jY a b))
 | .leq => some (.bool (ajP a b))
 | .gtr => some (.bool (jY b a))
 | .geq => some (.bool (ajP b a))
 | _ => none
def gG {α : Type} : List α → Nat → Option α
 | [], _ => none
 | x :: _, 0 => some x
 | _ :: xs, n + 1 => gG xs n
def I4 (a b : SB) : Option SB :=
 match a, b with
 | .lit x, .lit y => some (.lit (x == y))
 | .lit x, b => some (if x then b else BZ b)
 | a, .lit y => some (if y then a else BZ a)
 | a, b => some (.not (.and (.not (.and a b)) (.not (.and (.not a) (.not b)))))
def WJ (k : TK) (x y : AV) : Option SB :=
 match k with
 | .int _ => match x, y with
   | .int k a, .int k' b => if k = k' then some (BL a b) else none
   | _, _ => none
 | .string => match x, y with
   | .str a, .str b => some (.lit (jC a b))
   | x, y => strEq x y
 | .bool => match x, y with
   | .bool a, .bool b => I4 a b
   | _, _ => none
 | _ => none
def aeW (tt : TT) (xs ys : List AV) : List (Nat × Nat × Nat) → Option SB
 | [] => some (.lit true)
 | (off, ft, _) :: fs => match tt ft with
   | none => none
   | some i => match gG xs off, gG ys off with
     | some x, some y => match WJ i.kind x y with
       | none => none
       | some c => match aeW tt xs ys fs with
         | none => none
         | some d => some (acH c d)
     | _, _ => none
def IY (tt : TT) (t : Nat) (xs ys : List AV) : Option SB :=
 match tt t with
 | none => none
 | some i => match i.kind with
   | .struct fs => if i.eqs then aeW tt xs ys fs else none
   | _ => none
def azA : AV → Option (IntKind × SE)
 | .int k e => some (k, e)
 | _ => none
def lU : AV → Option Int
 | .int _ (.lit n) => some n
 | _ => none
def isNil (k : TK) (x : AV) : Option Bool :=
 match k with
 | .slice _ => match x with
   | .aP => some true
   | .slice _ _ _ _ => some false
   | .ro _ _ _ => some false
   | .uM _ _ _ => some false
   | _ => none
 | .pointer _ => match x with
   | .jW => some true
   | .ptr _ _ => some false
   | .qI _ => some false
   | _ => none
 | .map _ _ => match x with
   | .oZ => some true
   | .map _ => some false
   | _ => none
 | _ => none
def atB (k : TK) (x y : AV) : Option SB :=
 match k with
 | .bool => match x, y with
   | .bool a, .bool b => I4 a b
   | _, _ => none
 | k => match isNil k x, isNil k y with
   | some true, some b => some (.lit b)
   | some false, some true => some (.lit false)
   | _, _ => none
def O9 (op : BinOp) (c : Option SB) : Option AV := match c with
 | none => none
 | some c => match op with
   | .eql => some (.bool c)
   | .neq => some (.bool (.not c))
   | _ => none
def aeT (tt : TT) (t : Nat) (op : BinOp) (x y : AV) : Option AV :=
 match x with
 | .int k a => match y with
   | .int k' b => match op with
     | .shr => X3 op k a b
     | .shl => none
     | _ => if k = k' then X3 op k a b else none
   | _ => none
 | .str a => match y with
   | .str b => Sm op a b
   | .lJ e => O9 op (strEq (.str a) (.lJ e))
   | _ => none
 | .lJ e => O9 op (strEq (.lJ e) y)
 | _ => match tt t with
   | none => none
   | some i => match op, atB i.kind x y with
     | .eql, some c => some (.bool c)
     | .neq, some c => some (.bool (BZ c))
     | _, _ => none
def asZ (op : UnOp) (x : AV) : Option AV :=
 match op, x with
 | .not, .bool b => some (.bool (BZ b))
 | .neg, .int k e => some (.int k (Xy k (.lit 0) e))
 | _, _ => none
def iZ {α : Type} : Nat → List α → Option (List α)
 | 0, _ => some []
 | _ + 1, [] => none
 | n + 1, x :: xs => match iZ n xs with
   | some l => some (x :: l)
   | none => none
def eY {α : Type} : Nat → List α → Option (List α)
 | 0, l => some l
 | _ + 1, [] => none
 | n + 1, _ :: xs => eY n xs
def splice : List AV → Nat → List AV → Option (List AV)
 | cs, 0, [] => some cs
 | [], 0, _ :: _ => none
 | _ :: cs, 0, v :: vs => match splice cs 0 vs with
   | some l => some (v :: l)
   | none => none
 | [], _ + 1, _ => none
 | c :: cs, n + 1, vs => match splice cs n vs with
   | some l => some (c :: l)
   | none => none
def vT : List AV → Bool
 | [] => true
 | v :: vs => v.one && vT vs
def oK (h : Hp) (p : AV) (n : Nat) : Option (List AV) :=
 match p with
 | .ptr id off => match h.get id with
   | some (.cells cs _) => match eY off cs with
     | some l => iZ n l
     | none => none
   | _ => none
 | .qI cs => iZ n cs
 | _ => none
def Gm (tt : TT) (t : Nat) (p : AV) (h : Hp) : Option AV :=
 match tt t with
 | none => none
 | some i => match i.agg with
   | true => (oK h p i.size).map .agg
   | false => match oK h p 1 with
     | some (v :: _) => some v
     | _ => none
def QG (tt : TT) (t : Nat) (p v : AV) (h : Hp) : Option Hp :=
 match tt t with
 | none => none
 | some i =>
   if v.cells.length = i.size && vT v.cells then
    match p with
    | .ptr id off => match h.get id with
      | some (.cells cs e) => match splice cs off v.cells with
        | some cs' => some (h.put id (.cells cs' e))
        | none => none
      | _ => none
    | _ => none
   else none
def yE (place : Nat → Option (Nat × Nat)) (cs : List AV) : List (Nat × AV) → Option (List AV)
 | [] => some cs
 | (i, v) :: rest => match place i with
   | none => none
   | some (off, size) =>
     if v.cells.length = size && vT v.cells then
      match splice cs off v.cells with
      | some cs' => yE place cs' rest
      | none => none
     else none
def jK (tt : TT) (t : Nat) : Option Nat := (tt t).map (·.size)
def QW (tt : TT) (t : Nat) (parts : List (Nat × AV)) : Option AV :=
 match tt t with
 | some i => match i.kind with
   | .struct fs => (yE (fun j => (gG fs j).map fun f => (f.1, f.2.2)) i.zero parts).map .agg
   | .array _ e => match jK tt e with
     | some s => (yE (fun j => some (j * s, s)) i.zero parts).map .agg
     | none => none
   | _ => none
 | none => none
def repeatL {α : Type} (l : List α) : Nat → List α
 | 0 => []
 | n + 1 => l ++ repeatL l n
def yF (tt : TT) (t len : Nat) (parts : List (Nat × AV)) (h : Hp) : Option (AV × Hp) :=
 match tt t with
 | some i => match i.kind with
   | .slice e => match tt e with
     | some ie =>
       if len ≤ 1000 ∧ ie.size ≤ 1000 ∧ ie.zero.length = ie.size then
        match yE (fun j => some (j * ie.size, ie.size)) (repeatL ie.zero len) parts with
        | some cs => some (.slice h.fresh 0 len (.exact len), h.new (.cells cs e))
        | none => none
       else none
     | none => none
   | _ => none
 | none => none
def Ad (tt : TT) (t : Nat) (l c : AV) (h : Hp) : Option (AV × Hp) :=
 match lU l with
 | some (.ofNat n) => match lU c with
   | some (.ofNat m) => match tt t with
     | some i => match i.kind with
       | .slice e => match tt e with
         | some ie =>
           if n ≤ m ∧ m ≤ 1000 ∧ ie.size ≤ 1000 ∧ ie.bytes ≤ 1000000 ∧ ie.zero.length = ie.size then
            some (.slice h.fresh 0 n (.exact m), h.new (.cells (repeatL ie.zero m) e))
           else none
         | none => none
       | _ => none
     | none => none
   | _ => none
 | _ => none
def XM (off : Nat) (x : AV) : Option AV := match x with
 | .ptr id o => some (.ptr id (o + off))
 | .nY id es i o => some (.nY id es i (o + off))
 | .qI cs => (eY off cs).map .qI
 | _ => none
def partOf (i : TI) (l : List AV) : Option AV := match i.agg with
 | true => (iZ i.size l).map .agg
 | false => match l with
   | v :: _ => some v
   | [] => none
def Af (tt : TT) (t : Nat) (p : AV) (f : Nat) : Option AV :=
 match tt t with
 | some i => match i.kind with
   | .struct fs => match gG fs f with
     | some (off, _, size) => match size with
       | 0 => none
       | _ => XM off p
     | none => none
   | _ => none
 | none => none
def QM (tt : TT) (t : Nat) (x : AV) (f : Nat) : Option AV :=
 match tt t with
 | some i => match i.kind with
   | .struct fs => match gG fs f with
     | some (off, ft, _) => match tt ft, x with
       | some fi, .agg cs => match eY off cs with
         | some l => partOf fi l
         | none => none
       | _, _ => none
     | none => none
   | _ => none
 | none => none
def qU (tt : TT) (t : Nat) (x ix : AV) : Option AV :=
 match lU ix with
 | some (.ofNat i) => match tt t with
   | some ti => match ti.kind with
     | .array n e => if i < n then match jK tt e with
      | some s => XM (i * s) x
      | none => none
      else none
     | .slice e => match jK tt e with
       | some s => match x with
         | .slice id o len _ => if i < len then some (.ptr id (o + i * s)) else none
         | .ro cs n _ => if i < n then (eY (i * s) cs).map .qI else none
         | _ => none
       | none => none
     | _ => none
   | none => none
 | _ => none
def zS (k : Nat) (e : SE) : List IntKind → Nat → List AV
 | [], _ => []
 | kd :: ks, j => .int kd (.inp (k * 8 + j) e) :: zS k e ks (j + 1)
def QL (tt : TT) (pc : List (SB × Bool)) (t k : Nat) (ks : List IntKind) (ix : AV) : Option AV :=
 match ix with
 | .int _ e => match tt t with
   | some ti => match ti.kind with
     | .slice el => match jK tt el with
       | some s => if s = ks.length ∧ k < 8 ∧ s ≤ 8 then match jF pc (jY e (.lit 0)), jF pc (jY e (.aA (900 + k))) with
        | some false, some true => some (.qI (zS k e ks 0))
        | _, _ => none
        else none
       | none => none
     | _ => none
   | none => none
 | _ => none
def EK (tt : TT) (t : Nat) (x ix : AV) : Option AV :=
 match lU ix with
 | some (.ofNat i) => match tt t with
   | some ti => match ti.kind, x with
     | .string, .str s => (gG s i).map fun b => .int .u8 (.lit (Int.ofNat b))
     | .array n e, .agg cs => if i < n then match tt e with
      | some ie => match eY (i * ie.size) cs with
        | some l => partOf ie l
        | none => none
      | none => none
      else none
     | _, _ => none
   | none => none
 | _ => none
def bnd (x : Option AV) (d : Nat) (y : Nat) : Option Nat :=
 match x with
 | none => if d ≤ y then some d else none
 | some v => match lU v with
   | some (.ofNat i) => if i ≤ y then some i else none
   | _ => none
def QH (tt : TT) (t : Nat) (x : AV) (lo hi mx : Option AV) : Option AV :=
 match tt t with
 | none => none
 | some ti => match ti.kind with
   | .string => match x, mx with
     | .str s, none => match bnd hi s.length s.length with
       | some h => match bnd lo 0 h with
         | some l => some (.str ((s.take h).drop l))
         | none => none
       | none => none
     | _, _ => none
   | .slice e => match jK tt e with
     | none => none
     | some s => match x with
       | .aP => if mx.isSome && hi.isNone then none else match bnd hi 0 0, bnd lo 0 0, bnd mx 0 0 with
         | some _, some _, some _ => some .aP
         | _, _, _ => none
       | .slice id o len (.exact c) => if mx.isSome && hi.isNone then none else match bnd mx c c with
         | none => none
         | some m => match bnd hi len m with
           | none => none
           | some h => match bnd lo 0 h with
             | none => none
             | some l => some (.slice id (o + l * s) (h - l) (.exact (m - l)))
       | .slice id o len (.rest es) => match mx with
         | none => match bnd hi len len with
           | none => none
           | some h => match bnd lo 0 h with
             | none => none
             | some l => if es = s then some (.slice id (o + l * s) (h - l) (.rest es)) else none
         | some _ => match hi, bnd mx 0 len with
           | none, _ => none
           | _, none => none
           | some _, some m => match bnd hi 0 m with
             | none => none
             | some h => match bnd lo 0 h with
               | none => none
               | some l => some (.slice id (o + l * s) (h - l) (.exact (m - l)))
       | .ro cs n full => match mx with
         | none => match bnd hi n n with
           | none => none
           | some h => match bnd lo 0 h with
             | none => none
             | some l => match eY (l * s) cs with
               | none => none
               | some d => match iZ ((h - l) * s) d with
                 | none => none
                 | some d' => some (.ro d' (h - l) (full && h == n))
         | some _ => match hi, bnd mx 0 n with
           | none, _ => none
           | _, none => none
           | some _, some m => match bnd hi 0 m with
             | none => none
             | some h => match bnd lo 0 h with
               | none => none
               | some l => match eY (l * s) cs with
                 | none => none
                 | some d => match iZ ((h - l) * s) d with
                   | none => none
                   | some d' => some (.ro d' (h - l) (h == m))
       | _ => none
   | .array n e => match jK tt e with
     | none => none
     | some s => match x with
       | .ptr id o => if mx.isSome && hi.isNone then none else match bnd mx n n with
         | none => none
         | some m => match bnd hi n m with
           | none => none
           | some h => match bnd lo 0 h with
             | none => none
             | some l => some (.slice id (o + l * s) (h - l) (.exact (m - l)))
       | _ => none
   | _ => none
def KA (tt : TT) (t : Nat) (x : AV) (lo hi mx : Option AV) (h : Hp) : Option AV :=
 match mx with
 | some _ => none
 | none => match tt t with
   | none => none
   | some ti => match ti.kind with
     | .slice e => match jK tt e with
       | none => none
       | some s => match x with
         | .slice id o len (.rest es) => if es = s ∧ 0 < s then match h.get id with
          | some (.cells cs _) => match bnd hi len ((cs.length - o) / s) with
            | none => none
            | some hh => match bnd lo 0 hh with
              | none => none
              | some l => some (.slice id (o + l * s) (hh - l) (.rest es))
          | _ => none
          else none
         | _ => none
     | _ => none
def Am : List AV → Option (List Nat)
 | [] => some []
 | .int .u8 (.lit (.ofNat b)) :: xs => if b < 256 then match Am xs with
  | some l => some (b :: l)
  | none => none
  else none
 | _ :: _ => none
def sJ (tt : TT) (sT dT : Nat) (x : AV) (h : Hp) : Option (AV × Hp) :=
 match tt sT with
 | none => none
 | some j => match tt dT with
 | some i => match i.kind with
   | .int k => match x with
     | .int _ (.lit n) => some (.int k (.lit (yT k n)), h)
     | .int _ e => some (.int k (.wrap k e), h)
     | _ => none
   | .string => match j.kind with
    | .string => match x with
      | .str s => some (.str s, h)
      | _ => none
    | .slice e => match tt e with
      | none => none
      | some ie => if ie.kind = .int .u8 ∧ ie.size = 1 then match x with
       | .aP => some (.str [], h)
       | .slice id o len _ => match oK h (.ptr id o) len with
         | some cs => (Am cs).map fun l => (.str l, h)
         | none => none
       | _ => none
       else none
    | _ => none
   | .slice e => match tt e with
     | none => none
     | some ie => if ie.kind = .int .u8 ∧ j.kind = .string then match x with
      | .str s => some (.slice h.fresh 0 s.length (.rest 1), h.new (.cells (s.map fun c => .int .u8 (.lit (Int.ofNat c))) e))
      | _ => none
      else none
   | _ => none
 | none => none
def XW (pc : List (SB × Bool)) (kk : TK) (a b : AV) : Option Bool :=
 match kk with
 | .int _ => match a, b with
   | .int k x, .int k' y => if k = k' then jF pc (BL x y) else none
   | _, _ => none
 | .string => match a, b with
   | .str x, .str y => some (jC x y)
   | x, y => match strEq x y with
     | some c => jF pc c
     | none => none
 | .bool => match a, b with
   | .bool (.lit x), .bool (.lit y) => some (x == y)
   | _, _ => none
 | _ => none
def Hl (pc : List (SB × Bool)) (kk : TK) (k : AV) : List (AV × AV × Nat) → Nat → Option (Option (Nat × AV))
 | [], _ => some none
 | (k', v, _) :: es, i => match XW pc kk k k' with
   | some true => some (some (i, v))
   | some false => Hl pc kk k es (i + 1)
   | none => none
def apP {α : Type} : List α → Nat → α → List α
 | [], _, _ => []
 | _ :: xs, 0, v => v :: xs
 | x :: xs, n + 1, v => x :: apP xs n v
def wE (k v : AV) : List (AV × AV × Nat) → Nat → List (AV × AV × Nat)
 | [], _ => []
 | (_, _, b) :: es, 0 => (k, v, b) :: es
 | e :: es, n + 1 => e :: wE k v es n
def tZ {α : Type} : List α → Nat → List α
 | [], _ => []
 | _ :: xs, 0 => xs
 | x :: xs, n + 1 => x :: tZ xs n
def Bh (tt : TT) (t : Nat) : Option TK := match tt t with
 | some i => match i.kind with
   | .int k => some (.int k)
   | .string => some .string
   | .bool => some .bool
   | _ => none
 | none => none
def zeroOf (i : TI) : Option AV :=
 match i.agg with
 | true => some (.agg i.zero)
 | false => match i.zero with
   | [v] => some v
   | _ => none
def PO (m : AV) (h : Hp) : Option (List (AV × AV × Nat)) := match m with
 | .oZ => some []
 | .map id => match h.get id with
   | some (.map es _) => some es
   | _ => none
 | _ => none
def KH (tt : TT) (pc : List (SB × Bool)) (t : Nat) (m k : AV) (ok : Bool) (h : Hp) : Option AV :=
 match tt t with
 | some ti => match ti.kind with
   | .map kt et =>
     match Bh tt kt with
     | none => none
     | some kk =>
       match tt et with
       | none => none
       | some ie =>
         match PO m h with
         | none => none
         | some es => match Hl pc kk k es 0 with
           | none => none
           | some (some (_, v)) => some (if ok then .tuple [v, .bool (.lit true)] else v)
           | some none => match zeroOf ie with
             | none => none
             | some z => some (if ok then .tuple [z, .bool (.lit false)] else z)
   | _ => none
 | none => none
def uY (tt : TT) (pc : List (SB × Bool)) (t : Nat) (m k v : AV) (h : Hp) : Option Hp :=
 match tt t with
 | some ti => match ti.kind with
   | .map kt _ =>
     match Bh tt kt with
     | none => none
     | some kk => match m with
       | .map id => match h.get id with
         | some (.map es c) => match Hl pc kk k es 0 with
           | none => none
           | some (some (i, _)) => some (h.put id (.map (wE k v es i) c))
           | some none => some (h.put id (.map (es ++ [(k, v, c)]) (c + 1)))
         | _ => none
       | _ => none
   | _ => none
 | none => none
def KL (tt : TT) (pc : List (SB × Bool)) (t : Nat) (m k : AV) (h : Hp) : Option Hp :=
 match tt t with
 | some ti => match ti.kind with
   | .map kt _ =>
     match Bh tt kt with
     | none => none
     | some kk => match m with
       | .oZ => some h
       | .map id => match h.get id with
         | some (.map es c) => match Hl pc kk k es 0 with
           | none => none
           | some (some (i, _)) => some (h.put id (.map (tZ es i) c))
           | some none => some (h.put id (.map es c))
         | _ => none
       | _ => none
   | _ => none
 | none => none
def aeR (tt : TT) (t : Nat) (x : AV) (h : Hp) : Option AV :=
 let n (k : Nat) : Option AV := some (.int .i64 (.lit (Int.ofNat k)))
 match tt t with
 | some ti => match ti.kind with
   | .string => match x with
     | .str s => n s.length
     | .lJ e => some (.int .i64 (dZ e))
     | _ => none
   | .slice _ => match x with
     | .aP => n 0
     | .emp => n 0
     | .Fv _ _ => n 0
     | .slice _ _ len _ => n len
     | .ro _ k _ => n k
     | .dat e _ => some (.int .i64 (dZ e))
     | .uM _ e _ => some (.int .i64 e)
     | .yX _ _ e _ => some (.int .i64 e)
     | .inp k _ => some (.int .i64 (.aA (900 + k)))
     | _ => none
   | .array k _ => n k
   | .map _ _ => match x with
     | .oZ => n 0
     | .map id => match h.get id with
       | some (.map es _) => n es.length
       | some (.iI e _) => some (.int .i64 (dZ e))
       | _ => none
     | _ => none
   | _ => none
 | none => none
def vY (s : Nat) (x : AV) (h : Hp) : Option (Nat × List AV) :=
 match x with
 | .aP => some (0, [])
 | .slice id o len _ => (oK h (.ptr id o) (len * s)).map fun l => (len, l)
 | .ro cs n _ => (iZ (n * s) cs).map fun l => (n, l)
 | .str b => if s = 1 then some (b.length, b.map fun c => .int .u8 (.lit (Int.ofNat c))) else none
 | _ => none
def vM (ie : TI) (e len m : Nat) (cs : List AV) (h : Hp) : Option (AV × Hp) :=
 if (len + m) * ie.bytes ≤ 140737488355328 then some (.slice h.fresh 0 (len + m) (.rest ie.size), h.new (.cells cs e)) else none
def Aw (ie : TI) (e m : Nat) (news : List AV) (x : AV) (h : Hp) : Option (AV × Hp) :=
 match x with
 | .aP => if m = 0 then some (.aP, h) else vM ie e 0 m news h
 | .slice id o len (.exact c) =>
   if len + m ≤ c then
    match h.get id with
    | some (.cells cs e') => match splice cs (o + len * ie.size) news with
      | some cs' => some (.slice id o (len + m) (.exact c), h.put id (.cells cs' e'))
      | none => none
    | _ => none
   else match oK h (.ptr id o) (len * ie.size) with
    | some old => vM ie e len m (old ++ news) h
    | none => none
 | .slice id o len (.rest es) =>
   if es = ie.size then
    match h.get id with
    | some (.cells cs e') =>
      if o + (len + m) * ie.size ≤ cs.length then
       match splice cs (o + len * ie.size) news with
       | some cs' => some (.slice id o (len + m) (.rest es), h.put id (.cells cs' e'))
       | none => none
      else if o + len * ie.size = cs.length ∧ e' = e then
       match eY o cs with
       | some old => vM ie e len m (old ++ news) (h.drop id)
       | none => none
      else none
    | _ => none
   else none
 | .ro cs n full =>
   if m = 0 then some (.ro cs n full, h)
   else if full then match iZ (n * ie.size) cs with
    | some old => vM ie e n m (old ++ news) h
    | none => none
   else none
 | _ => none
def KN (tt : TT) (t t2 : Nat) (x y : AV) (h : Hp) : Option (AV × Hp) :=
 match tt t with
 | some ti => match ti.kind with
   | .slice e => match tt e with
     | some ie => match tt t2 with
       | none => none
       | some ti2 => match ti2.kind with
         | .int _ => none
         | _ =>
           if ie.size = 0 ∨ ie.bytes = 0 ∨ ¬ ie.zero.length = ie.size then none else
           match vY ie.size y h with
           | none => none
           | some (m, news) => Aw ie e m news x h
     | none => none
   | _ => none
 | none => none
def QT (tt : TT) (t : Nat) (x : AV) (h : Hp) : Option Hp :=
 match tt t with
 | some ti => match ti.kind with
   | .slice e => match tt e with
     | some ie => match x with
       | .aP => some h
       | .Fv _ _ => some h
       | .slice id o len _ => match len with
         | 0 => some h
         | _ => match ie.zero with
           | [] => none
           | _ => match h.get id with
             | some (.cells cs e') => match splice cs o (repeatL ie.zero len) with
               | some cs' => some (h.put id (.cells cs' e'))
               | none => none
             | _ => none
       | _ => none
     | none => none
   | _ => none
 | none => none
def QI (tt : TT) (t : Nat) (x : AV) (h : Hp) : Option (AV × Hp) :=
 match tt t with
 | some ti => match ti.kind with
   | .string => match x with
     | .str b => some (.ptr h.fresh 0, h.new (.mM b 0))
     | _ => none
   | _ => none
 | none => none
def Wq (x : AV) (isS : Bool) (h : Hp) : Option (AV × Hp) :=
 match isS with
 | false => none
 | true => match x with
   | .ptr id 0 => match h.get id with
     | some (.mM b p) => match gG b p with
       | none => some (.tuple [.bool (.lit false)], h)
       | some c => if c < 128 then some (.tuple [.bool (.lit true), .int .i64 (.lit (Int.ofNat p)), .int .i32 (.lit (Int.ofNat c))], h.put id (.mM b (p + 1))) else none
     | _ => none
   | _ => none
def yC (mx : Bool) : List AV → SE → IntKind → St → T (AV × St)
 | [], a, k, s => .ret (.int k a, s)
 | .int _ b :: xs, a, k, s => oV s (if mx then jY a b else jY b a) fun s c => if c then yC mx xs b k s else yC mx xs a k s
 | _, _, _, _ => .fail
def Om (k : IntKind) (r : SE) : Nat → Int → St → T (AV × St)
 | 0, j, s => .ret (.int k (.lit j), s)
 | n + 1, j, s => oV s (BL r (.lit j)) fun s b => match b with
   | true => .ret (.int k (.lit j), s)
   | false => Om k r n (j + 1) s
def apT (s : St) (k : IntKind) (e : SE) (n : Nat) : T (AV × St) :=
 match jF s.pc (jY e (.lit 0)) with
 | some false => Om k (.rem e (.lit (Int.ofNat (n + 1)))) n 0 s
 | _ => Om k (.rem e (.lit (Int.ofNat (n + 1)))) (n + n) (Int.negOfNat n) s
def VA (op : BinOp) (a b : AV) : Option (IntKind × SE × Nat) :=
 match op with
 | .rem => match a with
   | .int k e => match b with
     | .int k' d => match d with
       | .lit z => match z with
         | .ofNat m => match m with
           | 0 => none
           | n + 1 => match e with
             | .lit _ => none
             | e => if k = k' ∧ n < 64 then some (k, e, n) else none
         | _ => none
       | _ => none
     | _ => none
   | _ => none
 | _ => none
def wK (s : St) (v : Option AV) : T (AV × St) := match v with | some v => .ret (v, s) | none => .fail
def Vx (s : St) (h : Option Hp) : T (AV × St) := match h with | some h => .ret (AV.undef, { s with h := h }) | none => .fail
def GY (s : St) (r : Option (AV × Hp)) : T (AV × St) := match r with | some (v, h) => .ret (v, { s with h := h }) | none => .fail
def Oi (s : St) : Option Operand → Option (Option AV)
 | none => some none
 | some x => (ev s x).map some
def BA (s : St) : List (Nat × Operand) → Option (List (Nat × AV))
 | [] => some []
 | (i, x) :: xs => match ev s x with
   | none => none
   | some a => match BA s xs with
     | none => none
     | some aAX => some ((i, a) :: aAX)
def D5 {α : Type} (s : St) (i n : SE) (f : St → T α) : T α :=
 oV s (jY i (.lit 0)) fun s b => match b with
  | true => .fail
  | false => oV s (jY i n) fun s b => match b with
    | true => f s
    | false => .fail
def VK (tt : TT) (t : Nat) (a b : AV) : Option SE := match a with
 | .dat e _ => match b with
   | .aP => match tt t with
     | some ti => match ti.kind with
       | .slice _ => some e
       | _ => none
     | none => none
   | _ => none
 | _ => none
def adC (s : St) (op : BinOp) (r : Bool) : T (AV × St) := match op with
 | .eql => .ret (.bool (.lit r), s)
 | .neq => .ret (.bool (.lit (!r)), s)
 | _ => .fail
def aqB (s : St) (e : SE) (op : BinOp) : T (AV × St) := oV s (jY (.lit 0) (dZ e)) fun s b => match b with
 | true => adC s op false
 | false => oV s (Cb (pG e) (.dat (.i 1))) fun s b => match b with
   | true => adC s op true
   | false => oV s (Cb (pG e) (.dat (.i 2))) fun s b => match b with
     | true => adC s op false
     | false => .fail
def awF (kk : TK) (a b : AV) : Option SB := match kk with
 | .int _ => match a with
   | .int k x => match b with
     | .int k' y => if k = k' then some (BL x y) else none
     | _ => none
   | _ => none
 | .string => strEq a b
 | _ => none
def yM {α : Type} (kk : TK) (k : AV) : List (AV × AV × Nat) → St → (St → T α) → T α
 | [], s, f => f s
 | (k', _, _) :: es, s, f => match XW s.pc kk k k' with
   | some b => match b with
     | true => f s
     | false => yM kk k es s f
   | none => match awF kk k k' with
     | some c => oV s c fun s b => match b with
       | true => f s
       | false => yM kk k es s f
     | none => f s
def qF {α : Type} (tt : TT) (t : Nat) (m k : AV) (s : St) (f : St → T α) : T α := match tt t with
 | some ti => match ti.kind with
   | .map kt _ => match Bh tt kt with
     | some kk => match PO m s.h with
       | some es => yM kk k es s f
       | none => f s
     | none => f s
   | _ => f s
 | none => f s
def Uh (k : IntKind) (e : SE) (f : AV → St → T (AV × St)) : Nat → Nat → St → T (AV × St)
 | 0, _, _ => .fail
 | n + 1, j, s => match n with
   | 0 => f (.int k (.lit (Int.ofNat j))) s
   | _ => oV s (BL e (.lit (Int.ofNat j))) fun s b => match b with
     | true => f (.int k (.lit (Int.ofNat j))) s
     | false => Uh k e f n (j + 1) s
def axD (tt : TT) (t : Nat) (x : AV) : Option Nat := match tt t with
 | some ti => match ti.kind with
   | .array n _ => if n ≤ 64 then some n else none
   | .slice _ => match x with
     | .slice _ _ len _ => if len ≤ 64 then some len else none
     | _ => none
   | _ => none
 | none => none
def OE (tt : TT) (t : Nat) (x ix : AV) (s : St) (f : AV → St → T (AV × St)) : T (AV × St) := match lU ix with
 | some _ => f ix s
 | none => match ix with
   | .int k e => match axD tt t x with
     | some n => D5 s e (.lit (Int.ofNat n)) fun s => Uh k e f n 0 s
     | none => .fail
   | _ => .fail
def yG (tt : TT) (ty : Nat) : Option Nat := match tt ty with
 | some ti => match ti.kind with
   | .slice el => jK tt el
   | _ => none
 | none => none
def QS (tt : TT) (s : St) (ty t : Nat) (e : SE) (ix : AV) : T (AV × St) := match ix with
 | .int _ i => match yG tt ty with
   | some z => if z = (rowOf t).es then D5 s i (dZ e) fun s => .ret (.qI (iR (rowOf t) (.op .at e i)), s) else .fail
   | none => .fail
 | _ => .fail
def QC (tt : TT) (s : St) (ty id t : Nat) (n : SE) (ix : AV) : T (AV × St) := match ix with
 | .int _ i => match yG tt ty with
   | some z => if z = (rowOf t).es then D5 s i n fun s => .ret (.nY id z i 0, s) else .fail
   | none => .fail
 | _ => .fail
def qK (pc : List (SB × Bool)) (dflt : List AV) (i : SE) : List (SE × List AV) → Option (List AV)
 | [] => some dflt
 | (j, cs) :: l => match fK i j with
   | true => some cs
   | false => match jF pc (BL i j) with
     | some b => match b with
       | true => some cs
       | false => qK pc dflt i l
     | none => none
def Np (pc : List (SB × Bool)) (i : SE) (cs' : List AV) : List (SE × List AV) → Option (List (SE × List AV))
 | [] => none
 | (j, cs) :: l => match fK i j with
   | true => some ((j, cs') :: l)
   | false => match jF pc (BL i j) with
     | some b => match b with
       | true => some ((j, cs') :: l)
       | false => match Np pc i cs' l with
         | some l' => some ((j, cs) :: l')
         | none => none
     | none => none
def AA (pc : List (SB × Bool)) (i : SE) : List (SE × List AV) → Bool
 | [] => true
 | (j, _) :: l => match jF pc (BL i j) with
   | some false => AA pc i l
   | _ => false
def zB {α : Type} (i : SE) : List (SE × List AV) → St → (St → T α) → T α
 | [], s, k => k s
 | (j, _) :: l, s, k => match fK i j with
   | true => k s
   | false => oV s (BL i j) fun s b => match b with
     | true => k s
     | false => zB i l s k
def JQ (k : IntKind) : List AV → Option (List D)
 | [] => some []
 | v :: vs => match v with
   | .int k' e => match e with
     | .lit n => if k = k' then match JQ k vs with
      | some ds => some (.i n :: ds)
      | none => none
      else none
     | _ => none
   | _ => none
def aiJ : List AV → Option IntKind
 | v :: _ => match v with
   | .int k _ => some k
   | _ => none
 | [] => none
def Yy (tt : TT) (t : Nat) (ix : AV) : Option (Nat × SE) := match lU ix with
 | some _ => none
 | none => match ix with
   | .int _ e => match tt t with
     | some ti => match ti.kind with
       | .array n el => if 64 < n then match tt el with
        | some ie => if ie.size = 1 ∧ ie.agg = false then some (n, e) else none
        | none => none
        else none
       | _ => none
     | none => none
   | _ => none
def Og (s : St) (cs : List AV) (e : SE) : T (AV × St) := match aiJ cs with
 | none => .fail
 | some k => match JQ k cs with
   | none => .fail
   | some ds => D5 s e (.lit (Int.ofNat ds.length)) fun s => .ret (.int k (MR (.op .at (.dat (dL ds)) e)), s)
def EJ (tt : TT) (s : St) (ty id es : Nat) (i : SE) (off : Nat) : T (AV × St) := match s.h.get id with
 | some o => match o with
   | .cells cs _ => match tt ty with
     | some ti => match ti.agg || !(Nat.beq es 1) || !(Nat.beq off 0) with
       | true => .fail
       | false => Og s cs i
     | none => .fail
   | .vec e t _ ov => match tt ty with
     | some ti => if (rowOf t).es = es then D5 s i (dZ e) fun s => zB i ov s fun s => match qK s.pc (iR (rowOf t) (.op .at e i)) i ov with
      | some cs => match eY off cs with
        | some l => wK s (partOf ti l)
        | none => .fail
      | none => .fail
      else .fail
     | none => .fail
   | _ => .fail
 | none => .fail
def frz (v : AV) (h : Hp) : AV × Hp := match v with
 | .uM id n t => match h.get id with
   | some o => match o with
     | .vec e t' _ ov => match ov with
       | [] => match Nat.beq t t' with
         | true => match fK n (dZ e) with
           | true => (.dat e t, h.drop id)
           | false => (v, h)
         | false => (v, h)
       | _ => (v, h)
     | _ => (v, h)
   | none => (v, h)
 | .Fv z t => (.dat z t, h)
 | v => (v, h)
def isZ (e : SE) : Bool := match e with
 | .lit n => zQ n 0
 | _ => false
def xA (a b : SE) : SE := match isZ a with
 | true => b
 | false => .add a b
def Jj (a b : SE) : SE := match isZ b with
 | true => a
 | false => .sub a b
def Py (e lo n : SE) : SE := match isZ lo with
 | true => .op .take e n
 | false => .op .drop (.op .take e (.add lo n)) lo
def JH {α : Type} (e lo n : SE) (s : St) (k : St → T α) : T α :=
 oV s (jY lo (.lit 0)) fun s b => match b with
  | true => .fail
  | false => oV s (jY n (.lit 0)) fun s b => match b with
    | true => .fail
    | false => oV s (jY (dZ e) (xA lo n)) fun s b => match b with
      | true => .fail
      | false => k s
def MB (h : Hp) (id t : Nat) : Option (SE × TypeId) := match h.get id with
 | some o => match o with
   | .vec e t' ty ov => match ov with
     | [] => match Nat.beq t t' with
       | true => some (e, ty)
       | false => none
     | _ => none
   | _ => none
 | none => none
def akS {α : Type} (v : AV) (s : St) (k : AV → St → T α) : T α := match v with
 | .yX id lo n t => match MB s.h id t with
   | some (e, _) => JH e lo n s fun s => k (.dat (Py e lo n) t) { s with h := s.h.drop id }
   | none => k v s
 | v => match frz v s.h with
   | (v', h') => k v' { s with h := h' }
def Yc {α : Type} : List AV → St → (List AV → St → T α) → T α
 | [], s, k => k [] s
 | v :: vs, s, k => akS v s fun v' s => Yc vs s fun vs' s => k (v' :: vs') s
def XI {α : Type} (t : Nat) : List (SE × List AV) → SE → St → (SE → St → T α) → T α
 | [], e, s, k => k e s
 | (j, cs) :: ov, e, s, k => XI t ov e s fun e s => Yc cs s fun cs s => match codeRow (rowOf t) cs with
   | some x => k (.op .set e (fV (FM j) x)) s
   | none => .fail
def apW (v : AV) (h : Hp) : Option (Nat × SE × Nat × List (SE × List AV)) := match v with
 | .uM id n t => match h.get id with
   | some o => match o with
     | .vec e t' _ ov => match ov with
       | [] => none
       | _ => match Nat.beq t t' with
         | true => match fK n (dZ e) with
           | true => some (id, e, t, ov)
           | false => none
         | false => none
     | _ => none
   | none => none
 | _ => none
def arB {α : Type} (v : AV) (s : St) (k : AV → St → T α) : T α := match apW v s.h with
 | some (id, e, t, ov) => XI t ov e s fun e' s => match s.h.get id with
   | some _ => k (.dat e' t) { s with h := s.h.drop id }
   | none => .fail
 | none => akS v s k
def Ez {α : Type} : List AV → St → (List AV → St → T α) → T α
 | [], s, k => k [] s
 | v :: vs, s, k => arB v s fun v' s => Ez vs s fun vs' s => k (v' :: vs') s
def setCells : List CK → Nat → List AV → SE → Option SE
 | _, _, [], x => some x
 | ks, off, v :: vs, x => match gG ks off with
   | some c => match rJ c v with
     | some a => setCells ks (off + 1) vs (.op .set x (fV (.dat (.i (Int.ofNat off))) a))
     | none => none
   | none => none
def Ro (r : Row) (e i : SE) (off : Nat) (vs : List AV) : Option SE := match r with
 | .one c => match off with
   | 0 => match vs with
     | [v] => match rJ c v with
       | some a => some (.op .set e (fV (FM i) a))
       | none => none
     | _ => none
   | _ => none
 | .many ks => match setCells ks off vs (.op .at e i) with
   | some x => some (.op .set e (fV (FM i) x))
   | none => none
def Ky (tt : TT) (s : St) (ty id es : Nat) (i : SE) (off : Nat) (one : Bool) (vs : List AV) : T (AV × St) :=
 match s.h.get id with
  | some o => match o with
    | .vec e t FD ov => match tt ty with
      | some ti => if (rowOf t).es = es ∧ vs.length = ti.size ∧ one = true then D5 s i (dZ e) fun s => zB i ov s fun s => match qK s.pc (iR (rowOf t) (.op .at e i)) i ov with
       | some cs => match splice cs off vs with
         | some cs' => match Np s.pc i cs' ov with
           | some uO => .ret (AV.undef, { s with h := s.h.put id (.vec e t FD uO) })
           | none => match AA s.pc i ov with
             | true => match Ro (rowOf t) e i off vs with
               | some e' => .ret (AV.undef, { s with h := s.h.put id (.vec e' t FD ov) })
               | none => .ret (AV.undef, { s with h := s.h.put id (.vec e t FD ((i, cs') :: ov)) })
             | false => .fail
         | none => .fail
       | none => .fail
       else .fail
      | none => .fail
    | _ => .fail
  | none => .fail
def awG : AV → Bool
 | .uM _ _ _ => true
 | .aP => true
 | .Fv _ _ => true
 | .slice _ _ n c => match n with
   | 0 => match c with
     | .exact k => match k with
       | 0 => true
       | _ => false
     | _ => false
   | _ => false
 | _ => false
def arC (c : CK) (v : AV) : AV := match c with
 | .sl t => match v with
   | .aP => .Fv (.dat (.i 1)) t
   | .slice i o n k => match n with
     | 0 => match k with
       | .exact m => match m with
         | 0 => .Fv (.dat (.i 2)) t
         | m + 1 => .slice i o 0 (.exact (m + 1))
       | k => .slice i o 0 k
     | n + 1 => .slice i o (n + 1) k
   | v => v
 | _ => v
def Kq : List CK → List AV → List AV
 | [], vs => vs
 | _ :: _, [] => []
 | c :: cs, v :: vs => arC c v :: Kq cs vs
def Vw (r : Row) : List CK := match r with
 | .one c => [c]
 | .many cs => cs
def Ye (i : SE) : List (SB × Bool) → Option SE
 | [] => none
 | (c, b) :: l => match c with
   | .eq x y => match b with
     | true => match fK x i with
       | true => some y
       | false => Ye i l
     | false => Ye i l
   | _ => Ye i l
def Kw (tt : TT) (s : St) (ty id es : Nat) (i j : SE) (off : Nat) (one : Bool) (vs : List AV) : T (AV × St) :=
 match s.h.get id with
  | some o => match o with
    | .vec e t FD ov => match tt ty with
      | some ti => if (rowOf t).es = es ∧ vs.length = ti.size ∧ one = true then D5 s i (dZ e) fun s => zB j ov s fun s => match jF s.pc (.eq i j) with
       | some true => match qK s.pc (iR (rowOf t) (.op .at e j)) j ov with
         | some cs => match splice cs off (Kq ((Vw (rowOf t)).drop off) vs) with
           | some cs' => match Np s.pc j cs' ov with
             | some uO => .ret (AV.undef, { s with h := s.h.put id (.vec e t FD uO) })
             | none => match AA s.pc j ov with
               | true => .ret (AV.undef, { s with h := s.h.put id (.vec e t FD ((j, cs') :: ov)) })
               | false => .fail
           | none => .fail
         | none => .fail
       | _ => .fail
       else .fail
      | none => .fail
    | _ => .fail
  | none => .fail
def Kz (tt : TT) (s : St) (ty id es : Nat) (i : SE) (off : Nat) (v : AV) : T (AV × St) :=
 match (if awG v then Ye i s.pc else none) with
 | some j => Kw tt s ty id es i j off (vT v.cells) v.cells
 | none => Ez v.cells s fun vs s => Ky tt s ty id es i off (vT v.cells) vs
def Au (e : Nat) (own : Option Nat) (x : AV) (h : Hp) : Option (SE × Nat × Hp) := match x with
 | .uM id n t => match h.get id with
   | some o => match o with
     | .vec e0 t0 ty ov => match ov with
       | [] => match Nat.beq t t0 with
         | true => match Nat.beq ty e with
           | true => match fK n (dZ e0) with
             | true => some (e0, t, h.drop id)
             | false => none
           | false => none
         | false => none
       | _ => none
     | _ => none
   | none => none
 | .aP => match own with
   | some t => some (.dat (.i 0), t, h)
   | none => none
 | .emp => match own with
   | some t => some (.dat (.i 0), t, h)
   | none => none
 | .Fv _ _ => match own with
   | some t => some (.dat (.i 0), t, h)
   | none => none
 | .slice _ _ n c => match n with
   | 0 => match c with
     | .exact k => match k with
       | 0 => match own with
         | some t => some (.dat (.i 0), t, h)
         | none => none
       | _ => none
     | _ => none
   | _ => none
 | _ => none
def anF : AV → Bool
 | .dat _ _ => true
 | _ => false
def adN (own : Option Nat) : AV → Bool
 | .uM _ _ _ => true
 | .yX _ _ _ _ => true
 | .aP => own.isSome
 | .emp => own.isSome
 | .Fv _ _ => own.isSome
 | .slice _ _ n c => match n with
   | 0 => match c with
     | .exact k => match k with
       | 0 => own.isSome
       | _ => false
     | _ => false
   | _ => false
 | _ => false
def YB (id t : Nat) (ty : TypeId) (e0 n1 m sd : SE) (s : St) : T (AV × St) :=
 JH e0 n1 m s fun s => .ret (.yX id (.lit 0) (xA n1 m) t, { s with h := s.h.put id (.vec (.op .cat (.op .cat (.op .take e0 n1) sd) (.op .drop e0 (xA n1 m))) t ty []) })
def KO (tt : TT) (t t2 id : Nat) (n1 : SE) (t' : Nat) (y : AV) (s : St) : T (AV × St) :=
 match tt t with
 | some ti => match ti.kind with
   | .slice e => match tt e with
     | some ie => match tt t2 with
       | none => .fail
       | some ti2 => match ti2.kind with
         | .int _ => .fail
         | _ =>
           if ie.size = 0 ∨ ie.bytes = 0 ∨ ¬ ie.zero.length = ie.size ∨ ¬ (rowOf t').es = ie.size then .fail else
           match MB s.h id t' with
           | none => .fail
           | some (e0, ty) => match y with
             | .yX id2 lo2 n2 t2' => match Nat.beq id2 id with
               | true => match Nat.beq t2' t' with
                 | true => JH e0 lo2 n2 s fun s => YB id t' ty e0 n1 n2 (Py e0 lo2 n2) s
                 | false => .fail
               | false => .fail
             | y => match vY ie.size y s.h with
               | none => .fail
               | some (m, news) => match m with
                 | 0 => .fail
                 | m + 1 => if m < 1000 then match qW (rowOf t') (.dat (.i 0)) (m + 1) news with
                  | some sd => YB id t' ty e0 n1 (.lit (Int.ofNat (m + 1))) sd s
                  | none => .fail
                  else .fail
     | none => .fail
   | _ => .fail
 | none => .fail
def EM (tt : TT) (ty id : Nat) (lo n : SE) (t : Nat) (s : St) : T (AV × St) :=
 match tt ty with
 | some ti => match ti.kind with
   | .slice e => match tt e with
     | some ie => if (rowOf t).es = ie.size ∧ 0 < ie.size then match MB s.h id t with
      | none => .fail
      | some (e0, FD) => match codeRow (rowOf t) ie.zero with
        | none => .fail
        | some z => oV s (jY lo (.lit 0)) fun s b => match b with
          | true => .fail
          | false => oV s (jY n (.lit 0)) fun s b => match b with
            | true => .fail
            | false => oV s (BL (xA lo n) (dZ e0)) fun s b => match b with
              | false => .fail
              | true => .ret (AV.undef, { s with h := s.h.put id (.vec (.op .fill e0 (fV (FM lo) z)) t FD []) })
      else .fail
     | none => .fail
   | _ => .fail
 | none => .fail
def roomOf (bytes k : Nat) : Int := Int.ofNat (140737488355328 / bytes - k)
def acK (e0 : SE) (bytes : Nat) : Int := match VX e0 with
 | true => roomOf bytes 0
 | false => roomOf bytes 1000000
def Gn (tt : TT) (t t2 : Nat) (x y : AV) (s : St) : T (AV × St) :=
 match tt t with
 | some ti => match ti.kind with
   | .slice e => match tt e with
     | some ie => match tt t2 with
       | none => .fail
       | some ti2 => match ti2.kind with
         | .int _ => .fail
         | _ =>
           if ie.size = 0 ∨ ie.bytes = 0 ∨ ¬ ie.zero.length = ie.size ∨ ¬ ie.bytes ≤ 400 then .fail else
           match y with
           | .dat e2 ty2 => match Au e ti.own x s.h with
             | some (e0, t', h0) => if (rowOf t').es = ie.size ∧ rowOf ty2 = rowOf t' then
              oV s (Cb (dZ e2) (.lit 0)) fun s b => match b with
               | true => .ret (x, s)
               | false => oV s (jY (dZ e2) (.lit (acK e0 ie.bytes))) fun s b => match b with
                 | true => oV s (jY (dZ e0) (.lit 1000000)) fun s b => match b with
                   | true => match VX e0 with
                     | true => .ret (.uM h0.fresh (dZ e2) t', { s with h := h0.new (.vec e2 t' e []) })
                     | false => .ret (.uM h0.fresh (dZ (.op .cat e0 e2)) t', { s with h := h0.new (.vec (.op .cat e0 e2) t' e []) })
                   | false => .fail
                 | false => .fail
              else .fail
             | none => .fail
           | y => match vY ie.size y s.h with
             | some (m, news) => match m with
               | 0 => .ret (x, s)
               | m + 1 => Ez news s fun news' s => match Au e ti.own x s.h with
                | some (e0, t', h0) => if (rowOf t').es = ie.size ∧ m < 1000 then
                 oV s (jY (dZ e0) (.lit (roomOf ie.bytes (m + 1)))) fun s b => match b with
                  | true => match qW (rowOf t') e0 (m + 1) news' with
                    | some e1 => .ret (.uM h0.fresh (dZ e1) t', { s with h := h0.new (.vec e1 t' e []) })
                    | none => .fail
                  | false => .fail
                 else .fail
                | none => .fail
             | none => .fail
     | none => .fail
   | _ => .fail
 | none => .fail
def Iq (v : AV) : Bool := match lU v with
 | some n => zQ n 0
 | none => false
def QO (tt : TT) (s : St) (ty t : Nat) (e : SE) (lo hi : Option AV) (mx : Option AV) : T (AV × St) := match mx with
 | some m => match Iq m with
   | true => match yG tt ty with
     | none => .fail
     | some _ => match lo with
       | none => match hi with
         | some hv => match Iq hv with
           | true => .ret (.Fv (.op .take e (.lit 0)) t, s)
           | false => .fail
         | none => .fail
       | some _ => .fail
   | false => .fail
 | none => match yG tt ty with
   | none => .fail
   | some z => if z = (rowOf t).es then
    (match hi with
    | none => match lo with
      | some (.int _ l) => oV s (jY l (.lit 0)) fun s b => match b with
        | true => .fail
        | false => oV s (jY (dZ e) l) fun s b => match b with
          | true => .fail
          | false => .ret (.dat (.op .drop e l) t, s)
      | _ => .fail
    | some (.int _ h) => oV s (jY (dZ e) h) fun s b => match b with
      | true => .fail
      | false => match lo with
        | none => oV s (jY h (.lit 0)) fun s b => match b with
          | true => .fail
          | false => .ret (.dat (.op .take e h) t, s)
        | some (.int _ l) => oV s (jY l (.lit 0)) fun s b => match b with
          | true => .fail
          | false => oV s (jY h l) fun s b => match b with
            | true => .fail
            | false => .ret (.dat (.op .drop (.op .take e h) l) t, s)
        | _ => .fail
    | _ => .fail)
    else .fail
def L6 (lo : Option AV) : Option SE := match lo with
 | none => some (.lit 0)
 | some v => match v with
   | .int _ l => some l
   | _ => none
def IW (tt : TT) (s : St) (ty id t : Nat) (lo0 n0 : SE) (lo hi mx : Option AV) : T (AV × St) :=
 match yG tt ty with
 | none => .fail
 | some z => if z = (rowOf t).es ∧ z ≠ 0 then match L6 lo with
   | none => .fail
   | some l => oV s (jY l (.lit 0)) fun s b => match b with
     | true => .fail
     | false => match hi with
       | none => match mx with
         | some _ => .fail
         | none => oV s (jY n0 l) fun s b => match b with
           | true => .fail
           | false => .ret (.yX id (xA lo0 l) (Jj n0 l) t, s)
       | some hv => match hv with
         | .int _ h => oV s (jY h l) fun s b => match b with
           | true => .fail
           | false => match mx with
             | some mv => match mv with
               | .int _ m => oV s (jY m h) fun s b => match b with
                 | true => .fail
                 | false => oV s (jY n0 m) fun s b => match b with
                   | true => .fail
                   | false => .ret (.any, s)
               | _ => .fail
             | none => oV s (jY n0 h) fun s b => match b with
               | false => .ret (.yX id (xA lo0 l) (Jj h l) t, s)
               | true => match isZ lo0 with
                 | false => .fail
                 | true => match MB s.h id t with
                   | none => .fail
                   | some (e, _) => oV s (jY (dZ e) h) fun s b => match b with
                     | true => .fail
                     | false => .ret (.yX id (xA lo0 l) (Jj h l) t, s)
         | _ => .fail
   else .fail
def QN (tt : TT) (s : St) (ty : Nat) (z : SE) (t : Nat) (lo hi mx : Option AV) : T (AV × St) :=
 match mx with
 | some _ => .fail
 | none => match yG tt ty with
   | none => .fail
   | some _ => match bnd hi 0 0 with
     | some 0 => match bnd lo 0 0 with
       | some 0 => .ret (.Fv z t, s)
       | _ => .fail
     | _ => .fail
def QB (tt : TT) (s : St) (ty id t : Nat) (lo n : SE) (ix : AV) : T (AV × St) := match ix with
 | .int _ i => match yG tt ty with
   | some z => if z = (rowOf t).es then D5 s i n fun s => .ret (.nY id z (xA lo i) 0, s) else .fail
   | none => .fail
 | _ => .fail
def adP : AV → Bool
 | .lJ _ => true
 | _ => false
def QF (tt : TT) (s : St) (ty : Nat) (e : SE) (ix : AV) : T (AV × St) := match ix with
 | .int _ i => match tt ty with
   | some ti => match ti.kind with
     | .string => D5 s i (dZ e) fun s => .ret (.int .u8 (MR (.op .at e i)), s)
     | _ => .fail
   | none => .fail
 | _ => .fail
def hiE (e : SE) (hi : Option AV) : Option SE := match hi with
 | none => some (dZ e)
 | some v => match v with
   | .int _ h => some h
   | _ => none
def QD (tt : TT) (s : St) (ty : Nat) (e : SE) (lo hi mx : Option AV) : T (AV × St) := match mx with
 | some _ => .fail
 | none => match tt ty with
   | none => .fail
   | some ti => match ti.kind with
     | .string => match L6 lo with
       | none => .fail
       | some l => match hiE e hi with
         | none => .fail
         | some h => oV s (jY l (.lit 0)) fun s b => match b with
           | true => .fail
           | false => oV s (jY h l) fun s b => match b with
             | true => .fail
             | false => oV s (jY (dZ e) h) fun s b => match b with
               | true => .fail
               | false => .ret (.lJ (.op .sub e (fV (FM l) (fV (FM h) (.dat (.i 0))))), s)
     | _ => .fail
def Iw (x y : AV) : Option (SE × SE) := match adP x || adP y with
 | false => none
 | true => match yS x with
   | none => none
   | some a => match yS y with
     | none => none
     | some b => some (a, b)
def MN (a b : SE) : SB := .not (.eq (.op .slt a b) (.lit 0))
def Wh (op : BinOp) (a b : SE) (s : St) : T (AV × St) := match op with
 | .add => oV s (jY (dZ a) (.lit 1000000000)) fun s c => match c with
   | false => .fail
   | true => oV s (jY (dZ b) (.lit 1000000000)) fun s c => match c with
     | false => .fail
     | true => .ret (.lJ (.op .cat a b), s)
 | .eql => .ret (.bool (Cb (pG a) (pG b)), s)
 | .neq => .ret (.bool (.not (Cb (pG a) (pG b))), s)
 | .lss => .ret (.bool (MN a b), s)
 | .gtr => .ret (.bool (MN b a), s)
 | .leq => .ret (.bool (BZ (MN b a)), s)
 | .geq => .ret (.bool (BZ (MN a b)), s)
 | _ => .fail
def IZ (tt : TT) (sT dT : Nat) (e : SE) (s : St) : T (AV × St) := match tt sT with
 | none => .fail
 | some j => match j.kind with
   | .string => match tt dT with
     | none => .fail
     | some i => match i.kind with
       | .slice el => match tt el with
         | some ie => match ie.kind with
           | .int k => match k with
             | .u8 => oV s (Cb (dZ e) (.lit 0)) fun s c => match c with
               | true => .ret (.slice s.h.fresh 0 0 (.rest 1), { s with h := s.h.new (.cells [] el) })
               | false => .ret (.uM s.h.fresh (dZ e) 14, { s with h := s.h.new (.vec e 14 el []) })
             | _ => .fail
           | _ => .fail
         | none => .fail
       | _ => .fail
   | _ => .fail
def G9 (c : CK) : TK := match c with
 | .int k => .int k
 | _ => .string
def Ce (m : AV) (h : Hp) : Option (Nat × SE × Nat) := match m with
 | .map id => match h.get id with
   | some o => match o with
     | .iI e t => some (id, e, t)
     | _ => none
   | none => none
 | _ => none
def mapKey (tt : TT) (ty t : Nat) (k : AV) : Option (SE × TI) := match tt ty with
 | none => none
 | some ti => match ti.kind with
   | .map kt et => match tt kt with
     | none => none
     | some ki => if ki.kind = G9 (mapOf t).1 then match tt et with
      | none => none
      | some ie => match rJ (mapOf t).1 k with
        | none => none
        | some a => some (pG a, ie)
      else none
   | _ => none
def aeE (e a : SE) : SB := match e with
 | .dat d => match a with
   | .dat k => .lit (!(Ed d.l k).isSome)
   | a => .eq (.op .JJ (.dat d) a) (.lit 0)
 | e => .eq (.op .JJ e a) (.lit 0)
def EI (tt : TT) (ty : Nat) (k : AV) (ok : Bool) (e : SE) (t : Nat) (s : St) : T (AV × St) := match mapKey tt ty t k with
 | none => .fail
 | some (a, ie) => match zeroOf ie with
   | none => .fail
   | some z => oV s (aeE e a) fun s b => match b with
     | true => .ret (if ok then .tuple [z, .bool (.lit false)] else z, s)
     | false => .ret (if ok then .tuple [yP (mapOf t).2 (.op .JK e a), .bool (.lit true)] else yP (mapOf t).2 (.op .JK e a), s)
def Wp (tt : TT) (ty id : Nat) (k x : AV) (e : SE) (t : Nat) (s : St) : T (AV × St) := match mapKey tt ty t k with
 | none => .fail
 | some (a, _) => match rJ (mapOf t).2 x with
   | none => .fail
   | some b => .ret (AV.undef, { s with h := s.h.put id (.iI (.op .Eb e (fV a b)) t) })
def QJ (tt : TT) (ty : Nat) (m k x : AV) (s : St) : T (AV × St) := Ez [x] s fun xs s => match xs with
 | [x] => match Ce m s.h with
   | some (id, e, t) => Wp tt ty id k x e t s
   | none => .fail
 | _ => .fail
def WA (tt : TT) (ty id : Nat) (k : AV) (e : SE) (t : Nat) (s : St) : T (AV × St) := match mapKey tt ty t k with
 | none => .fail
 | some (a, _) => .ret (AV.undef, { s with h := s.h.put id (.iI (.op .Zl e a) t) })
abbrev dM := Nat → List AV → St → T (AV × St)
def Fj (s : St) (x : Operand) (f : AV → T (AV × St)) : T (AV × St) := match ev s x with | some v => f v | none => .fail
def anD (tt : TT) (t : Nat) : Option Nat := match tt t with
 | some ti => ti.own
 | none => none
def BD (tt : TT) (s : St) (b : Builtin) (ts : List Nat) (args : List AV) : T (AV × St) :=
 match b, ts, args with
 | .len, [t], [x] => wK s (aeR tt t x s.h)
 | .append, [t, t2], [.yX id lo n t', y] => match isZ lo with
   | true => KO tt t t2 id n t' y s
   | false => .fail
 | .append, [t, t2], [x, y] => match adN (anD tt t) x || anF y with
   | true => Gn tt t t2 x y s
   | false => GY s (KN tt t t2 x y s.h)
 | .delete, [t, _], [m, k] => match Ce m s.h with
   | some (id, e, t') => WA tt t id k e t' s
   | none => qF tt t m k s fun s => Vx s (KL tt s.pc t m k s.h)
 | .clear, [t], [.uM id n t'] => EM tt t id (.lit 0) n t' s
 | .clear, [t], [.yX id lo n t'] => EM tt t id lo n t' s
 | .clear, [t], [x] => Vx s (QT tt t x s.h)
 | .min, _, .int k a :: xs => yC false xs a k s
 | .max, _, .int k a :: xs => yC true xs a k s
 | _, _, _ => .fail
def QU (tt : TT) (call : dM) (s : St) (c : Call) : T (AV × St) :=
 match evs s c.args.toList with
 | none => .fail
 | some args => match c.callee with
   | .builtin b => BD tt s b c.argTypes.toList args
   | .value f => match ev s f with
     | some (.func (.func g) fs cs) => call g (fs ++ args ++ cs) s
     | _ => .fail
   | .invoke _ _ => .fail
def auR : SB → Bool
 | .lit _ => true
 | .not c => match c with
   | .eq _ z => match z with
     | .lit n => zQ n 0
     | _ => false
   | _ => false
 | _ => false
def ahE {α : Type} (v : AV) (s : St) (k : AV → St → T α) : T α := match v with
 | .bool c => match auR c with
   | true => k (.bool c) s
   | false => oV s c fun s b => k (.bool (.lit b)) s
 | v => k v s
def QK (tt : TT) (call : dM) (s : St) (op : Op) : T (AV × St) :=
 match op with
 | .move x => Fj s x fun v => .ret (v, s)
 | .assign x => Fj s x fun v => .ret (v, s)
 | .pick c a b => Fj s c fun c => match c with
   | .bool c => oV s c fun s b' => if b' then Fj s a fun v => .ret (v, s) else Fj s b fun v => .ret (v, s)
   | _ => .fail
 | .alloc t => match tt t with
   | some i => .ret (.ptr s.h.fresh 0, { s with h := s.h.new (.cells i.zero t) })
   | none => .fail
 | .box t x => Fj s x fun v => if vT v.cells then .ret (.ptr s.h.fresh 0, { s with h := s.h.new (.cells v.cells t) }) else .fail
 | .build t parts => match BA s parts.toList with
   | some ps => wK s (QW tt t ps)
   | none => .fail
 | .buildSlice t n parts => match BA s parts.toList with
   | some ps => GY s (yF tt t n ps s.h)
   | none => .fail
 | .makeSlice t l c => Fj s l fun lv => match ev s c with
   | some cv => GY s (Ad tt t lv cv s.h)
   | none => .fail
 | .load t x => Fj s x fun p => match p with
   | .nY id es i off => EJ tt s t id es i off
   | p => wK s (Gm tt t p s.h)
 | .store t x y => Fj s x fun p => match ev s y with
   | some v => ahE v s fun v s => match p with
     | .nY id es i off => Kz tt s t id es i off v
     | p => Vx s (QG tt t p v s.h)
   | none => .fail
 | .nilCheck x => Fj s x fun v => match v with
   | .ptr _ _ => .ret (v, s)
   | .qI _ => .ret (v, s)
   | .nY _ _ _ _ => .ret (v, s)
   | _ => .fail
 | .binOp op t x y _ => Fj s x fun a => match ev s y with
   | some b => match a with
     | .agg xs => match b, op with
       | .agg ys, .eql => match IY tt t xs ys with
         | some c => .ret (.bool c, s)
         | none => .fail
       | .agg ys, .neq => match IY tt t xs ys with
         | some c => .ret (.bool (BZ c), s)
         | none => .fail
       | _, _ => .fail
     | a => match VK tt t a b with
       | some e => aqB s e op
       | none => match VA op a b with
         | some (k, e, n) => apT s k e n
         | none => match Iw a b with
           | some (x, y) => Wh op x y s
           | none => wK s (aeT tt t op a b)
   | none => .fail
 | .unOp op _ x => Fj s x fun v => wK s (asZ op v)
 | .convert sT dT x => Fj s x fun v => match v with
   | .lJ e => IZ tt sT dT e s
   | v => GY s (sJ tt sT dT v s.h)
 | .makeFunc fn fs cs => match evs s fs.toList, evs s cs.toList with
   | some f, some c => .ret (.func fn f c, s)
   | _, _ => .fail
 | .makeMap t r => match r with
   | none => match anD tt t with
     | some m => .ret (.map s.h.fresh, { s with h := s.h.new (.iI (.dat (.i 0)) m) })
     | none => .ret (.map s.h.fresh, { s with h := s.h.new (.map [] 0) })
   | some _ => .fail
 | .slice t x lo hi mx => Fj s x fun v => match Oi s lo, Oi s hi, Oi s mx with
   | some l, some h, some m => match v with
     | .dat e t' => QO tt s t t' e l h m
     | .uM id n t' => IW tt s t id t' (.lit 0) n l h m
     | .yX id lo n t' => IW tt s t id t' lo n l h m
     | .lJ e => QD tt s t e l h m
     | .Fv z t' => QN tt s t z t' l h m
     | v => match QH tt t v l h m with
     | some v => .ret (v, s)
     | none => wK s (KA tt t v l h m s.h)
   | _, _, _ => .fail
 | .fieldAddr t x f => Fj s x fun v => wK s (Af tt t v f)
 | .field t x f => Fj s x fun v => wK s (QM tt t v f)
 | .indexAddr t x i => Fj s x fun v => match ev s i with
   | some i => match v with
     | .inp k ks => wK s (QL tt s.pc t k ks i)
     | .dat e t' => QS tt s t t' e i
     | .uM id n t' => QC tt s t id t' n i
     | .yX id lo n t' => QB tt s t id t' lo n i
     | .ptr id o => match Yy tt t i with
       | some (n, e) => if o = 0 then D5 s e (.lit (Int.ofNat n)) fun s => .ret (.nY id 1 e 0, s) else .fail
       | none => OE tt t (.ptr id o) i s fun i s => wK s (qU tt t (.ptr id o) i)
     | v => OE tt t v i s fun i s => wK s (qU tt t v i)
   | none => .fail
 | .index t x i => Fj s x fun v => match ev s i with
   | some i => match v with
     | .lJ e => QF tt s t e i
     | .agg cs => match Yy tt t i with
       | some (n, e) => match Nat.beq cs.length n with
         | true => Og s cs e
         | false => .fail
       | none => OE tt t (.agg cs) i s fun i s => wK s (EK tt t (.agg cs) i)
     | v => OE tt t v i s fun i s => wK s (EK tt t v i)
   | none => .fail
 | .lookup t m k ok => Fj s m fun v => match ev s k with
   | some k => match Ce v s.h with
     | some (_, e, t') => EI tt t k ok e t' s
     | none => qF tt t v k s fun s => wK s (KH tt s.pc t v k ok s.h)
   | none => .fail
 | .mapUpdate t m k x => Fj s m fun v => match ev s k, ev s x with
   | some k, some x => match Ce v s.h with
     | some _ => QJ tt t v k x s
     | none => qF tt t v k s fun s => Vx s (uY tt s.pc t v k x s.h)
   | _, _ => .fail
 | .insert t m k x => Fj s m fun v => match ev s k, ev s x with
   | some k, some x => match Ce v s.h with
     | some _ => QJ tt t v k x s
     | none => qF tt t v k s fun s => Vx s (uY tt s.pc t v k x s.h)
   | _, _ => .fail
 | .range t x => Fj s x fun v => GY s (QI tt t v s.h)
 | .next x isS => Fj s x fun v => GY s (Wq v isS s.h)
 | .extract x i => Fj s x fun v => match v with
   | .tuple vs => wK s (gG vs i)
   | _ => .fail
 | .call c => QU tt call s c
 | _ => .fail
def Bf {α : Type} (ops : List Oper) (s : St) (o : Oper) (f : St → Bool → T α) : T α :=
 match o.guard with
 | none => f s true
 | some (j, want) => match gG ops j with
   | some oj => match oj.dst with
     | some d => match s.slots.get d with
       | some (.bool c) => oV s c fun s b => f s (b == want)
       | some (.tuple _) => f s false
       | _ => .fail
     | none => .fail
   | none => .fail
def Ua (tt : TT) (call : dM) (all : List Oper) : List Oper → St → T St
 | [], s => .ret s
 | o :: rest, s => Bf all s o fun s b =>
   if b then (QK tt call s o.op).bind fun (v, s') => Ua tt call all rest (s'.Sz o.dst v)
   else Ua tt call all rest (s.Sz o.dst AV.undef)
inductive Ex where
 | normal
 | exit (id : Nat)
 | ret
 deriving DecidableEq, Inhabited
def Ae (body : St → T (Ex × St)) : Nat → St → T (Ex × St)
 | 0, _ => .fail
 | n + 1, s => (body s).bind fun (e, s') => match e with
   | .normal => Ae body n s'
   | e => .ret (e, s')
def kH (tt : TT) (call : dM) (draw : Nat → List Oper → St → T St) (lf : Nat) : Code → St → T (Ex × St)
 | .skip, s => .ret (.normal, s)
 | .region id ops d, s =>
   if d then (draw id ops.toList s).bind fun s' => .ret (.normal, s')
   else (Ua tt call ops.toList ops.toList s).bind fun s' => .ret (.normal, s')
 | .seq a b, s => (kH tt call draw lf a s).bind fun (e, s') => match e with
   | .normal => kH tt call draw lf b s'
   | e => .ret (e, s')
 | .cond c x y, s => match ev s c with
   | some (.bool c) => oV s c fun s b => if b then kH tt call draw lf x s else kH tt call draw lf y s
   | _ => .fail
 | .block id b, s => (kH tt call draw lf b s).bind fun (e, s') => match e with
   | .exit j => .ret (if j = id then .normal else .exit j, s')
   | e => .ret (e, s')
 | .loop b, s => Ae (kH tt call draw lf b) lf s
 | .exit id, s => .ret (.exit id, s)
 | .scope b, s => kH tt call draw lf b s
 | .label _, s => .ret (.normal, s)
 | .ret, s => .ret (.ret, s)
 | _, _ => .fail
def aW : List AV → Nat → Tr AV → Tr AV
 | [], _, t => t
 | v :: vs, i, t => aW vs (i + 1) (t.put i (some v))
def EH (tt : TT) (s : St) : ResultVar → Option AV
 | .tmp t => s.slots.get t
 | .cell a t => match s.slots.get a with
   | some p => Gm tt t p s.h
   | none => none
def lI (tt : TT) (s : St) : List ResultVar → Option (List AV)
 | [] => some []
 | r :: rs => match EH tt s r with
   | none => none
   | some v => match lI tt s rs with
     | none => none
     | some vs => some (v :: vs)
def Uc (tt : TT) (ft : Nat → Option Func) (hook : Nat → Option (List AV → St → T (AV × St))) (draw : dM → Nat → Nat → List Oper → St → T St) (lf : Nat) : Nat → dM
 | 0, _, _, _ => .fail
 | n + 1, g, args, s =>
   match hook g with
   | some h => h args s
   | none => match ft g with
     | none => .fail
     | some fn => match fn.body with
       | none => .fail
       | some c =>
         (kH tt (Uc tt ft hook draw lf n) (draw (Uc tt ft hook draw lf n) g) lf c { s with slots := aW args 0 .nil }).bind fun (e, s') =>
          match e with
          | .exit _ => .fail
          | _ => match lI tt s' fn.results.toList with
            | some [v] => .ret (v, { s' with slots := s.slots })
            | some vs => .ret (.tuple vs, { s' with slots := s.slots })
            | none => .fail
end
end Go.As
end
section
namespace Go.As
structure En where
 ρ : Nat → Int
 θ : Nat → Nat × Nat
 κ : Nat → Nat
 dm : Nat → Prop
 ro : Nat → Prop
def bP (s : List Nat) : ByteArray := ⟨(s.map UInt8.ofNat).toArray⟩
def hcell (h : Array Obj) (b o : Nat) : Option Value :=
 match h[b]? with
 | some (.cells c _ _) => c[o]?
 | _ => none
theorem qY (w : World) (b o : Nat) : w.cell? ⟨b, o, none⟩ = hcell w.heap b o := by
 unfold World.cell? hcell
 simp only [Option.isSome_none, Bool.false_eq_true, if_false]
 cases w.heap[b]? with
 | none => rfl
 | some o => cases o <;> rfl
def gJ (h : Array Obj) (b o : Nat) (us : List Value) : Prop := ∀ i u, us[i]? = some u → hcell h b (o + i) = some u
inductive Rd (ro : Nat → Prop) (h : Array Obj) : CK → D → Value → Prop where
 | int (k : IntKind) (n : Int) : Rd ro h (.int k) (.i n) (.int k n)
 | bool (b : Bool) : Rd ro h .bool (.i (if b then 1 else 0)) (.bool b)
 | str (s : ByteArray) : Rd ro h .str (yN s) (.string s)
 | nil (t : Nat) : Rd ro h (.sl t) (.i 1) (.slice none 0 0)
 | non (t : Nat) (a : Addr) (cap : Nat) : Rd ro h (.sl t) (.i 2) (.slice (some a) 0 cap)
 | one (t : Nat) (c : CK) (b o cap : Nat) (ds : List D) (f : Nat → Value) (hr : rowOf t = .one c) (hc : ds.length ≤ cap) (hb : ro b)
  (h1 : ∀ i d, ds[i]? = some d → hcell h b (o + i) = some (f i)) (h2 : ∀ i d, ds[i]? = some d → Rd ro h c d (f i)) : Rd ro h (.sl t) (dL ds) (.slice (some ⟨b, o, none⟩) ds.length cap)
 | many (t : Nat) (cs : List CK) (b o cap : Nat) (rows : List (List D)) (f : Nat → Nat → Value) (hr : rowOf t = .many cs) (hc : rows.length ≤ cap) (hb : ro b) (hl : ∀ r ∈ rows, r.length = cs.length)
  (h1 : ∀ i r j d, rows[i]? = some r → r[j]? = some d → hcell h b (o + i * cs.length + j) = some (f i j))
  (h2 : ∀ i r j d c, rows[i]? = some r → r[j]? = some d → cs[j]? = some c → Rd ro h c d (f i j)) : Rd ro h (.sl t) (dL (rows.map dL)) (.slice (some ⟨b, o, none⟩) rows.length cap)
theorem Rd.one' {ro : Nat → Prop} {h : Array Obj} {c : CK} {d : D} {v : Value} (r : Rd ro h c d v) : v.oneCell' = true := by cases r <;> rfl
theorem Rd.keep {ro ro' : Nat → Prop} {h h' : Array Obj} (k1 : ∀ b, ro b → ro' b) (k2 : ∀ b, ro b → h'[b]? = h[b]?) {c : CK} {d : D} {v : Value} (r : Rd ro h c d v) : Rd ro' h' c d v := by
 have hk : ∀ b o u, ro b → hcell h b o = some u → hcell h' b o = some u := by
  intro b o u hb hu
  unfold hcell at *
  rw [k2 b hb]
  exact hu
 induction r with
 | int k n => exact .int k n
 | bool b => exact .bool b
 | str s => exact .str s
 | nil t => exact .nil t
 | non t a cap => exact .non t a cap
 | one t c b o cap ds f hr hc hb h1 h2 ih => exact .one t c b o cap ds f hr hc (k1 b hb) (fun i d hi => hk _ _ _ hb (h1 i d hi)) ih
 | many t cs b o cap rows f hr hc hb hl h1 h2 ih => exact .many t cs b o cap rows f hr hc (k1 b hb) hl (fun i r j d hi hj => hk _ _ _ hb (h1 i r j d hi hj)) ih
def fE (E : En) (id off len : Nat) (a : Addr) (cap : Nat) : UQ → Prop
 | .exact c => cap = c ∧ ((a = ⟨(E.θ id).1, (E.θ id).2 + off, none⟩) ∨ c = 0)
 | .rest es => (a = ⟨(E.θ id).1, (E.θ id).2 + off, none⟩ ∧ off + cap * es = E.κ id) ∨ (cap = 0 ∧ len = 0 ∧ off = E.κ id)
mutual
def VR (E : En) (h : Array Obj) : AV → Value → Prop
 | .bool b, v => v = .bool (b.den E.ρ)
 | .int k e, v => v = .int k (e.den E.ρ)
 | .str s, v => v = .string (bP s) ∧ ∀ b ∈ s, b < 256
 | .ptr id off, v => v = .pointer (some ⟨(E.θ id).1, (E.θ id).2 + off, none⟩) ∧ E.dm id
 | .jW, v => v = .pointer none
 | .qI cs, v => ∃ b o us, v = .pointer (some ⟨b, o, none⟩) ∧ E.ro b ∧ bD E h cs us ∧ gJ h b o us ∧ ∀ u ∈ us, u.oneCell' = true
 | .slice id off len c, v => E.dm id ∧ ∃ a cap, v = .slice (some a) len cap ∧ len ≤ cap ∧ fE E id off len a cap c
 | .aP, v => v = .slice none 0 0
 | .ro cs n full, v => ∃ b o cap us, v = .slice (some ⟨b, o, none⟩) n cap ∧ n ≤ cap ∧ (full = true → cap = n) ∧ E.ro b ∧ bD E h cs us ∧ gJ h b o us ∧ ∀ u ∈ us, u.oneCell' = true
 | .map id, v => v = .map (some (E.θ id).1) ∧ E.dm id
 | .oZ, v => v = .map none
 | .func fn fs cs, v => ∃ us ws, v = .func fn us.toArray ws.toArray ∧ bD E h fs us ∧ bD E h cs ws
 | .BO, v => v = .nilFunc
 | .iface t x, v => ∃ u, v = .iface t u ∧ VR E h x u
 | .D8, v => v = .nilIface
 | .agg cs, v => ∃ us, v = .agg us.toArray ∧ bD E h cs us
 | .tuple cs, v => ∃ us, v = .tuple us.toArray ∧ bD E h cs us
 | .opq _, _ => False
 | .emp, v => ∃ x, v = .slice x 0 0
 | .dat e t, v => Rd E.ro h (.sl t) (dec (e.den E.ρ)) v
 | .lJ e, v => Rd E.ro h .str (dec (e.den E.ρ)) v
 | .uM id n t, v => E.dm id ∧ ∃ (k : Nat) (a : Addr) (cap : Nat), n.den E.ρ = (k : Int) ∧ v = .slice (some a) k cap ∧ k ≤ cap ∧ fE E id 0 k a cap (.rest (rowOf t).es)
 | .nY id es i off, v => E.dm id ∧ ∃ k : Nat, i.den E.ρ = (k : Int) ∧ v = .pointer (some ⟨(E.θ id).1, (E.θ id).2 + (k * es + off), none⟩)
 | .any, _ => True
 | .Fv z t, v => (∃ x, v = .slice x 0 0) ∧ Rd E.ro h (.sl t) (dec (z.den E.ρ)) v
 | .yX id lo n t, v => E.dm id ∧ ∃ (l k : Nat) (a : Addr) (cap : Nat), lo.den E.ρ = (l : Int) ∧ n.den E.ρ = (k : Int) ∧ v = .slice (some a) k cap ∧ k ≤ cap ∧ fE E id (l * (rowOf t).es) k a cap (.rest (rowOf t).es)
 | .inp k ks, v => ((∃ x cap, v = .slice x 0 cap) ∧ E.ρ (900 + k) = 0) ∨ ∃ b o n cap, v = .slice (some ⟨b, o, none⟩) n cap ∧ n ≤ cap ∧ E.ρ (900 + k) = (n : Int) ∧ E.ro b ∧
  ∀ i j kd, i < n → ks[j]? = some kd → hcell h b (o + i * ks.length + j) = some (.int kd (E.ρ (1000 + i * 64 + (k * 8 + j))))
def bD (E : En) (h : Array Obj) : List AV → List Value → Prop
 | [], us => us = []
 | x :: xs, us => ∃ u vs, us = u :: vs ∧ VR E h x u ∧ bD E h xs vs
end
theorem jG {E : En} {h : Array Obj} {us : List Value} : bD E h [] us ↔ us = [] := by simp [bD]
theorem aQ {E : En} {h : Array Obj} {x : AV} {xs : List AV} {us : List Value} : bD E h (x :: xs) us ↔ ∃ u vs, us = u :: vs ∧ VR E h x u ∧ bD E h xs vs := by simp [bD]
theorem bD.length {E : En} {h : Array Obj} : ∀ {xs : List AV} {us : List Value}, bD E h xs us → us.length = xs.length
 | [], us, hh => by rw [jG] at hh; simp [hh]
 | x :: xs, us, hh => by
   rw [aQ] at hh
   obtain ⟨u, vs, rfl, _, h2⟩ := hh
   simp [h2.length]
theorem bD.append {E : En} {h : Array Obj} : ∀ {xs ys : List AV} {us vs : List Value}, bD E h xs us → bD E h ys vs → bD E h (xs ++ ys) (us ++ vs)
 | [], _, us, vs, h1, h2 => by rw [jG] at h1; subst h1; simpa using h2
 | x :: xs, ys, us, vs, h1, h2 => by
   rw [aQ] at h1
   obtain ⟨u, us', rfl, hx, hxs⟩ := h1
   simp only [List.cons_append]
   rw [aQ]
   exact ⟨u, us' ++ vs, rfl, hx, hxs.append h2⟩
theorem bD.iZ {E : En} {h : Array Obj} : ∀ {n : Nat} {xs ys : List AV} {us : List Value}, bD E h xs us → As.iZ n xs = some ys → bD E h ys (us.take n) ∧ n ≤ xs.length
 | 0, xs, ys, us, _, h2 => by simp [As.iZ] at h2; subst h2; simp [bD]
 | n + 1, [], ys, us, _, h2 => by simp [As.iZ] at h2
 | n + 1, x :: xs, ys, us, h1, h2 => by
   rw [aQ] at h1
   obtain ⟨u, vs, rfl, hx, hxs⟩ := h1
   simp only [As.iZ] at h2
   split at h2
   ·rename_i l hl
    simp at h2
    subst h2
    have := hxs.iZ hl
    rw [List.take_succ_cons, aQ]
    exact ⟨⟨u, _, rfl, hx, this.1⟩, by simp; exact this.2⟩
   ·simp at h2
theorem bD.eY {E : En} {h : Array Obj} : ∀ {n : Nat} {xs ys : List AV} {us : List Value}, bD E h xs us → As.eY n xs = some ys → bD E h ys (us.drop n) ∧ n ≤ xs.length ∧ ys.length = xs.length - n
 | 0, xs, ys, us, h1, h2 => by simp [As.eY] at h2; subst h2; simpa using h1
 | n + 1, [], ys, us, _, h2 => by simp [As.eY] at h2
 | n + 1, x :: xs, ys, us, h1, h2 => by
   rw [aQ] at h1
   obtain ⟨u, vs, rfl, hx, hxs⟩ := h1
   simp only [As.eY] at h2
   have := hxs.eY h2
   refine ⟨by simpa using this.1, by simp; exact this.2.1, by simp; exact this.2.2⟩
theorem bD.nth {E : En} {h : Array Obj} : ∀ {i : Nat} {xs : List AV} {x : AV} {us : List Value}, bD E h xs us → gG xs i = some x → ∃ u, us[i]? = some u ∧ VR E h x u
 | _, [], _, us, _, h2 => by simp [gG] at h2
 | 0, x :: xs, y, us, h1, h2 => by
   rw [aQ] at h1
   obtain ⟨u, vs, rfl, hx, hxs⟩ := h1
   simp [gG] at h2
   subst h2
   exact ⟨u, by simp, hx⟩
 | i + 1, x :: xs, y, us, h1, h2 => by
   rw [aQ] at h1
   obtain ⟨u, vs, rfl, hx, hxs⟩ := h1
   simp only [gG] at h2
   obtain ⟨v, h3, h4⟩ := hxs.nth h2
   exact ⟨v, by simpa using h3, h4⟩
def eF (E : En) (h : Array Obj) : List (AV × AV × Nat) → List MapEntry → Prop
 | [], es => es = []
 | (k, v, b) :: xs, es => ∃ e r, es = e :: r ∧ VR E h k e.key ∧ VR E h v e.val ∧ b = b ∧ eF E h xs r
def mZ (ro : Nat → Prop) (h : Array Obj) (t : Nat) : List D → List MapEntry → Prop
 | [], es => es = []
 | d :: ds, es => ∃ e r, es = e :: r ∧ d = .p (ZM d) (amI d) ∧ Rd ro h (mapOf t).1 (ZM d) e.key ∧ Rd ro h (mapOf t).2 (amI d) e.val ∧ mZ ro h t ds r
theorem mZ.keep {ro ro' : Nat → Prop} {h h' : Array Obj} (k1 : ∀ b, ro b → ro' b) (k2 : ∀ b, ro b → h'[b]? = h[b]?) {t : Nat} : ∀ {ds : List D} {es : List MapEntry}, mZ ro h t ds es → mZ ro' h' t ds es
 | [], _, hh => hh
 | _ :: _, _, hh => by
   obtain ⟨e, r, h1, h2, h3, h4, h5⟩ := hh
   exact ⟨e, r, h1, h2, h3.keep k1 k2, h4.keep k1 k2, mZ.keep k1 k2 h5⟩
theorem mZ.length {ro : Nat → Prop} {h : Array Obj} {t : Nat} : ∀ {ds : List D} {es : List MapEntry}, mZ ro h t ds es → es.length = ds.length
 | [], _, hh => by simp only [mZ] at hh; rw [hh]; rfl
 | _ :: _, _, hh => by
   obtain ⟨e, r, h1, _, _, _, h5⟩ := hh
   rw [h1, List.length_cons, List.length_cons, mZ.length h5]
noncomputable def dO (ρ : Nat → Int) (i : Nat) : List (SE × List AV) → Option (List AV)
 | [] => none
 | (j, cs) :: l => if j.den ρ = (i : Int) then some cs else dO ρ i l
noncomputable def aG (ρ : Nat → Int) (r : Row) (ov : List (SE × List AV)) : List D → Nat → List AV
 | [], _ => []
 | d :: ds, i => (match dO ρ i ov with | some cs => cs | none => iR r (.dat d)) ++ aG ρ r ov ds (i + 1)
def DY (r : Row) (ov : List (SE × List AV)) : Prop := ∀ p ∈ ov, p.2.length = r.es
def OR (E : En) (h : Array Obj) (id : Nat) : dP → Prop
 | .cells cs e => ∃ arr lo hi us, h[(E.θ id).1]? = some (.cells arr e (lo, hi)) ∧ bD E h cs us ∧ (∀ i u, us[i]? = some u → arr[(E.θ id).2 + i]? = some u) ∧
  cs.length ≤ E.κ id ∧ (E.θ id).2 + E.κ id = arr.size ∧ (∀ o, lo ≤ o → o < hi → arr.size ≤ o) ∧ (∀ u ∈ us, u.oneCell' = true)
 | .map es _ => ∃ ents c, h[(E.θ id).1]? = some (.map ents c) ∧ eF E h es ents.toList
 | .vec e t ty ov => (DY (rowOf t) ov ∧ H8 (rowOf t) (dec (e.den E.ρ))) ∧ ∃ arr lo hi us, h[(E.θ id).1]? = some (.cells arr ty (lo, hi)) ∧ bD E h (aG E.ρ (rowOf t) ov (dec (e.den E.ρ)).l 0) us ∧ (∀ i u, us[i]? = some u → arr[(E.θ id).2 + i]? = some u) ∧
  (aG E.ρ (rowOf t) ov (dec (e.den E.ρ)).l 0).length ≤ E.κ id ∧ (E.θ id).2 + E.κ id = arr.size ∧ (∀ o, lo ≤ o → o < hi → arr.size ≤ o) ∧ (∀ u ∈ us, u.oneCell' = true)
 | .mM s p => h[(E.θ id).1]? = some (.stringIter (bP s) p) ∧ (E.θ id).2 = 0 ∧ ∀ b ∈ s, b < 256
 | .iI e t => ∃ ents c, h[(E.θ id).1]? = some (.map ents c) ∧ mZ E.ro h t (dec (e.den E.ρ)).l ents.toList
class Glob where
 ok : (Nat → Int) → (Nat → Prop) → Array Obj → Prop
 keep : ∀ {ρ : Nat → Int} {ro ro' : Nat → Prop} {h h' : Array Obj}, ok ρ ro h → (∀ b, ro b → ro' b) → (∀ b, ro b → h'[b]? = h[b]?) → ok ρ ro' h'
 ren : ∀ {ρ ρ' : Nat → Int} {ro : Nat → Prop} {h : Array Obj}, ok ρ ro h → (∀ i, 900 ≤ i → ρ' i = ρ i) → ok ρ' ro h
structure aX [Glob] (E : En) (H : Hp) (w : World) : Prop where
 fresh : ∀ id, H.next ≤ id → ¬ E.dm id
 res : ∀ r, H.res = some r → r < H.next ∧ ¬ E.dm r
 live : ∀ id o, H.get id = some o → E.dm id ∧ OR E w.heap id o ∧ ¬ E.ro (E.θ id).1
 inj : ∀ id id' o o', H.get id = some o → H.get id' = some o' → (E.θ id).1 = (E.θ id').1 → id = id'
 A8 : ∀ b, E.ro b → b < w.heap.size
 glob : Glob.ok E.ρ E.ro w.heap
structure Stp (E : En) (H : Hp) (w : World) (E' : En) (H' : Hp) (w' : World) : Prop where
 ρ : E'.ρ = E.ρ
 dm : ∀ id, E.dm id → E'.dm id
 θ : ∀ id, E.dm id → E'.θ id = E.θ id
 κ : ∀ id, E.dm id → E'.κ id = E.κ id
 ro : ∀ b, E.ro b → E'.ro b
 FU : ∀ b, E'.ro b → E.ro b ∨ (∃ id o, H.get id = some o ∧ (E.θ id).1 = b) ∨ w.heap.size ≤ b
 nxm : H.next ≤ H'.next
 rsm : H'.res = none ∨ H'.res = H.res
 dmn : ∀ id, E'.dm id → E.dm id ∨ (H.next ≤ id ∧ id < H'.next) ∨ H.res = some id
 os : w'.os = w.os
 tape : w'.tape = w.tape
 output : w'.output = w.output
 size : w.heap.size ≤ w'.heap.size
 keep : ∀ b, b < w.heap.size → (∀ id o, H.get id = some o → (E.θ id).1 ≠ b) → w'.heap[b]? = w.heap[b]?
 own : ∀ id o, H'.get id = some o → (E'.θ id).1 < w.heap.size → ∃ BP o0, H.get BP = some o0 ∧ (E.θ BP).1 = (E'.θ id).1
theorem Stp.refl (E : En) (H : Hp) (w : World) : Stp E H w E H w :=
 ⟨rfl, fun _ h => h, fun _ _ => rfl, fun _ _ => rfl, fun _ h => h, fun _ h => .inl h, Nat.le_refl _, .inr rfl, fun _ h => .inl h, rfl, rfl, rfl, Nat.le_refl _, fun _ _ _ => rfl, fun id o h _ => ⟨id, o, h, rfl⟩⟩
theorem Stp.trans {E E1 E2 : En} {H H1 H2 : Hp} {w w1 w2 : World} (a : Stp E H w E1 H1 w1) (b : Stp E1 H1 w1 E2 H2 w2) : Stp E H w E2 H2 w2 where
 ρ := b.ρ.trans a.ρ
 dm := fun id h => b.dm id (a.dm id h)
 θ := fun id h => (b.θ id (a.dm id h)).trans (a.θ id h)
 κ := fun id h => (b.κ id (a.dm id h)).trans (a.κ id h)
 ro := fun x h => b.ro x (a.ro x h)
 FU := fun x h => by
  rcases b.FU x h with h | ⟨id, o, h1, h2⟩ | h
  ·exact a.FU x h
  ·rcases Nat.lt_or_ge x w.heap.size with hx | hx
   ·obtain ⟨BP, o0, h3, h4⟩ := a.own id o h1 (by rw [h2]; exact hx)
    exact .inr (.inl ⟨BP, o0, h3, h4.trans h2⟩)
   ·exact .inr (.inr hx)
  ·exact .inr (.inr (Nat.le_trans a.size h))
 nxm := Nat.le_trans a.nxm b.nxm
 rsm := by
  rcases b.rsm with h | h
  ·exact .inl h
  ·rw [h]; exact a.rsm
 dmn := fun id h => by
  rcases b.dmn id h with h | h | h
  ·rcases a.dmn id h with h | h | h
   ·exact .inl h
   ·exact .inr (.inl ⟨h.1, Nat.lt_of_lt_of_le h.2 b.nxm⟩)
   ·exact .inr (.inr h)
  ·exact .inr (.inl ⟨Nat.le_trans a.nxm h.1, h.2⟩)
  ·rcases a.rsm with h' | h'
   ·rw [h'] at h; simp at h
   ·exact .inr (.inr (h'.symm.trans h))
 os := b.os.trans a.os
 tape := b.tape.trans a.tape
 output := b.output.trans a.output
 size := Nat.le_trans a.size b.size
 keep := fun x hx hn => by
  rw [b.keep x (Nat.lt_of_lt_of_le hx a.size) ?_, a.keep x hx hn]
  intro id o ho he
  obtain ⟨BP, o0, h0, he0⟩ := a.own id o ho (by rw [he]; exact hx)
  exact hn BP o0 h0 (he0.trans he)
 own := fun id o ho hlt => by
  obtain ⟨id1, o1, h1, he1⟩ := b.own id o ho (Nat.lt_of_lt_of_le hlt a.size)
  obtain ⟨BP, o0, h0, he0⟩ := a.own id1 o1 h1 (by rw [he1]; exact hlt)
  exact ⟨BP, o0, h0, he0.trans he1⟩
structure Keeps (E : En) (h : Array Obj) (E' : En) (h' : Array Obj) : Prop where
 ρ : E'.ρ = E.ρ
 dm : ∀ id, E.dm id → E'.dm id
 θ : ∀ id, E.dm id → E'.θ id = E.θ id
 κ : ∀ id, E.dm id → E'.κ id = E.κ id
 ro : ∀ b, E.ro b → E'.ro b
 Js : ∀ b, E.ro b → h'[b]? = h[b]?
theorem Stp.keeps [Glob] {E E' : En} {H H' : Hp} {w w' : World} (s : Stp E H w E' H' w') (r : aX E H w) : Keeps E w.heap E' w'.heap :=
 ⟨s.ρ, s.dm, s.θ, s.κ, s.ro, fun b hb => s.keep b (r.A8 b hb) fun id o ho he => (r.live id o ho).2.2 (by rw [he]; exact hb)⟩
theorem gJ.keep {E E' : En} {h h' : Array Obj} (k : Keeps E h E' h') {b o : Nat} {us : List Value} (hb : E.ro b) (hc : gJ h b o us) : gJ h' b o us := by
 intro i u hu
 have := hc i u hu
 unfold hcell at *
 rw [k.Js b hb]
 exact this
theorem fE.keep {E E' : En} {h h' : Array Obj} (k : Keeps E h E' h') {id off len : Nat} {a : Addr} {cap : Nat} {c : UQ} (hid : E.dm id) (hc : fE E id off len a cap c) : fE E' id off len a cap c := by
 cases c <;> simp only [fE] at * <;> rw [k.θ id hid]
 ·exact hc
 ·rw [k.κ id hid]; exact hc
mutual
theorem VR.keep {E E' : En} {h h' : Array Obj} (k : Keeps E h E' h') : ∀ (x : AV) (v : Value), VR E h x v → VR E' h' x v
 | .bool b, v, hv => by simp only [VR] at *; rw [k.ρ]; exact hv
 | .int _ e, v, hv => by simp only [VR] at *; rw [k.ρ]; exact hv
 | .str s, v, hv => by simp only [VR] at *; exact hv
 | .ptr id off, v, hv => by simp only [VR] at *; rw [k.θ id hv.2]; exact ⟨hv.1, k.dm _ hv.2⟩
 | .jW, v, hv => by simp only [VR] at *; exact hv
 | .qI cs, v, hv => by
   simp only [VR] at *
   obtain ⟨b, o, us, h1, h2, h3, h4, h5⟩ := hv
   exact ⟨b, o, us, h1, k.ro b h2, bD.keep k cs us h3, h4.keep k h2, h5⟩
 | .slice id off len c, v, hv => by
   simp only [VR] at *
   obtain ⟨h1, a, cap, h2, h3, h4⟩ := hv
   exact ⟨k.dm _ h1, a, cap, h2, h3, h4.keep k h1⟩
 | .aP, v, hv => by simp only [VR] at *; exact hv
 | .ro cs n full, v, hv => by
   simp only [VR] at *
   obtain ⟨b, o, cap, us, h1, h2, h3, h4, h5, h6, h7⟩ := hv
   exact ⟨b, o, cap, us, h1, h2, h3, k.ro b h4, bD.keep k cs us h5, h6.keep k h4, h7⟩
 | .map id, v, hv => by simp only [VR] at *; rw [k.θ id hv.2]; exact ⟨hv.1, k.dm _ hv.2⟩
 | .oZ, v, hv => by simp only [VR] at *; exact hv
 | .func fn fs cs, v, hv => by
   simp only [VR] at *
   obtain ⟨us, ws, h1, h2, h3⟩ := hv
   exact ⟨us, ws, h1, bD.keep k fs us h2, bD.keep k cs ws h3⟩
 | .BO, v, hv => by simp only [VR] at *; exact hv
 | .iface t x, v, hv => by
   simp only [VR] at *
   obtain ⟨u, h1, h2⟩ := hv
   exact ⟨u, h1, VR.keep k x u h2⟩
 | .D8, v, hv => by simp only [VR] at *; exact hv
 | .agg cs, v, hv => by
   simp only [VR] at *
   obtain ⟨us, h1, h2⟩ := hv
   exact ⟨us, h1, bD.keep k cs us h2⟩
 | .tuple cs, v, hv => by
   simp only [VR] at *
   obtain ⟨us, h1, h2⟩ := hv
   exact ⟨us, h1, bD.keep k cs us h2⟩
 | .opq _, v, hv => by simp only [VR] at hv
 | .emp, v, hv => by simp only [VR] at *; exact hv
 | .dat e t, v, hv => by simp only [VR] at *; rw [k.ρ]; exact hv.keep k.ro k.Js
 | .lJ e, v, hv => by simp only [VR] at *; rw [k.ρ]; exact hv.keep k.ro k.Js
 | .uM id n t, v, hv => by
   simp only [VR] at *
   obtain ⟨h1, m, a, cap, h2, h3, h4, h5⟩ := hv
   exact ⟨k.dm _ h1, m, a, cap, by rw [k.ρ]; exact h2, h3, h4, h5.keep k h1⟩
 | .any, _, _ => by simp only [VR]
 | .Fv z t, v, hv => by simp only [VR] at *; rw [k.ρ]; exact ⟨hv.1, hv.2.keep k.ro k.Js⟩
 | .yX id lo n t, v, hv => by
   simp only [VR] at *
   obtain ⟨h1, l, m, a, cap, h2, h3, h4, h5, h6⟩ := hv
   exact ⟨k.dm _ h1, l, m, a, cap, by rw [k.ρ]; exact h2, by rw [k.ρ]; exact h3, h4, h5, h6.keep k h1⟩
 | .nY id es i off, v, hv => by
   simp only [VR] at *
   obtain ⟨h1, m, h2, h3⟩ := hv
   exact ⟨k.dm _ h1, m, by rw [k.ρ]; exact h2, by rw [k.θ id h1]; exact h3⟩
 | .inp kk ks, v, hv => by
   simp only [VR] at *
   rw [k.ρ]
   rcases hv with hv | ⟨b, o, n, cap, h1, h2, h3, h4, h5⟩
   ·exact .inl hv
   ·refine .inr ⟨b, o, n, cap, h1, h2, h3, k.ro b h4, fun i j kd hi hj => ?_⟩
    have := h5 i j kd hi hj
    unfold hcell at *
    rw [k.Js b h4]
    exact this
theorem bD.keep {E E' : En} {h h' : Array Obj} (k : Keeps E h E' h') : ∀ (xs : List AV) (us : List Value), bD E h xs us → bD E' h' xs us
 | [], us, hv => by simp only [bD] at *; exact hv
 | x :: xs, us, hv => by
   simp only [bD] at *
   obtain ⟨u, vs, h1, h2, h3⟩ := hv
   exact ⟨u, vs, h1, VR.keep k x u h2, bD.keep k xs vs h3⟩
end
theorem eF.keep {E E' : En} {h h' : Array Obj} (k : Keeps E h E' h') : ∀ (xs : List (AV × AV × Nat)) (es : List MapEntry), eF E h xs es → eF E' h' xs es
 | [], es, hv => by simp only [eF] at *; exact hv
 | (a, b, c) :: xs, es, hv => by
   simp only [eF] at *
   obtain ⟨e, r, h1, h2, h3, h4, h5⟩ := hv
   exact ⟨e, r, h1, VR.keep k _ _ h2, VR.keep k _ _ h3, h4, eF.keep k xs r h5⟩
theorem OR.keep {E E' : En} {h h' : Array Obj} (k : Keeps E h E' h') {id : Nat} {o : dP} (hid : E.dm id) (hb : h'[(E.θ id).1]? = h[(E.θ id).1]?) (ho : OR E h id o) : OR E' h' id o := by
 cases o with
 | cells cs e =>
   simp only [OR] at *
   obtain ⟨arr, lo, hi, us, h1, h2, h3, h4, h5, h6, h7⟩ := ho
   rw [k.θ id hid, k.κ id hid, hb]
   exact ⟨arr, lo, hi, us, h1, bD.keep k cs us h2, h3, h4, h5, h6, h7⟩
 | map es c =>
   simp only [OR] at *
   obtain ⟨ents, c, h1, h2⟩ := ho
   rw [k.θ id hid, hb]
   exact ⟨ents, c, h1, eF.keep k es _ h2⟩
 | mM s p =>
   simp only [OR] at *
   rw [k.θ id hid, hb]
   exact ho
 | iI e t =>
   simp only [OR] at *
   obtain ⟨ents, c, h1, h2⟩ := ho
   rw [k.θ id hid, hb, k.ρ]
   exact ⟨ents, c, h1, h2.keep k.ro k.Js⟩
 | vec e t ty ov =>
   simp only [OR] at *
   obtain ⟨h0, arr, lo, hi, us, h1, h2, h3, h4, h5, h6, h7⟩ := ho
   rw [k.θ id hid, k.κ id hid, hb, k.ρ]
   exact ⟨h0, arr, lo, hi, us, h1, bD.keep k _ us h2, h3, h4, h5, h6, h7⟩
end Go.As
end
section
namespace Go.As
theorem Hp.get_put (h : Hp) (i : Nat) (o : dP) (j : Nat) : (h.put i o).get j = if j = i then some o else h.get j := by
 simp [Hp.get, Hp.put, Tr.get_put]
theorem Hp.lN (h : Hp) (o : dP) (j : Nat) : (h.new o).get j = if j = h.fresh then some o else h.get j := by
 unfold Hp.new Hp.fresh
 cases h.res <;> simp [Hp.get, Tr.get_put]
theorem aX.aiA [Glob] {E : En} {H : Hp} {w : World} (r : aX E H w) : ¬ E.dm H.fresh := by
 unfold Hp.fresh
 cases hr : H.res with
 | none => exact r.fresh _ (Nat.le_refl _)
 | some x => exact (r.res x hr).2
theorem aX.yY [Glob] {E : En} {H : Hp} {w : World} (r : aX E H w) {i : Nat} (h : E.dm i) : i ≠ H.fresh := fun e => r.aiA (e ▸ h)
theorem Hp.wS (h : Hp) (i j : Nat) : (h.drop i).get j = if j = i then none else h.get j := by
 simp [Hp.get, Hp.drop, Tr.get_put]
def En.ext (E : En) (n : Nat) (p : Nat × Nat) (c : Nat) : En :=
 { E with θ := fun i => if i = n then p else E.θ i, κ := fun i => if i = n then c else E.κ i, dm := fun i => i = n ∨ E.dm i }
theorem En.ext_θ_new (E : En) (n : Nat) (p : Nat × Nat) (c : Nat) : (E.ext n p c).θ n = p := by simp [En.ext]
theorem En.ext_κ_new (E : En) (n : Nat) (p : Nat × Nat) (c : Nat) : (E.ext n p c).κ n = c := by simp [En.ext]
theorem En.jV (E : En) (n : Nat) (p : Nat × Nat) (c : Nat) : (E.ext n p c).dm n := .inl rfl
theorem En.ext_θ (E : En) (n : Nat) (p : Nat × Nat) (c : Nat) {i : Nat} (h : i ≠ n) : (E.ext n p c).θ i = E.θ i := by simp [En.ext, h]
theorem En.ext_κ (E : En) (n : Nat) (p : Nat × Nat) (c : Nat) {i : Nat} (h : i ≠ n) : (E.ext n p c).κ i = E.κ i := by simp [En.ext, h]
theorem Oe [Glob] {E : En} {H : Hp} {w : World} (r : aX E H w) (p : Nat × Nat) (c : Nat) (o : dP) : (∀ id, (H.new o).next ≤ id → ¬ (E.ext H.fresh p c).dm id) ∧ ∀ q, (H.new o).res = some q → q < (H.new o).next ∧ ¬ (E.ext H.fresh p c).dm q := by
 have h1 := r.fresh
 have h2 := r.res
 unfold Hp.new Hp.fresh
 cases hr : H.res with
 | none =>
   refine ⟨fun id hid hd => ?_, by simp⟩
   simp at hid
   rcases hd with hd | hd
   ·have hd : id = H.next := hd
    omega
   ·exact h1 id (by omega) hd
 | some q =>
   refine ⟨fun id hid hd => ?_, by simp⟩
   simp at hid
   have := h2 q hr
   rcases hd with hd | hd
   ·have hd : id = q := hd
    omega
   ·exact h1 id (by omega) hd
theorem wM (H : Hp) (o : dP) : H.next ≤ (H.new o).next ∧ ((H.new o).res = none ∨ (H.new o).res = H.res) ∧ ∀ id, id = H.fresh → (H.next ≤ id ∧ id < (H.new o).next) ∨ H.res = some id := by
 unfold Hp.new Hp.fresh
 cases hr : H.res with
 | none => exact ⟨Nat.le_succ _, .inl rfl, fun id e => .inl ⟨by have e : id = H.next := e; omega, by have e : id = H.next := e; show id < H.next + 1; omega⟩⟩
 | some q => exact ⟨Nat.le_refl _, .inl rfl, fun id e => .inr (by have e : id = q := e; rw [e])⟩
structure Alike (w w' : World) : Prop where
 os : w'.os = w.os
 tape : w'.tape = w.tape
 output : w'.output = w.output
theorem JA {h : Array Obj} {o : Obj} {b : Nat} (hb : b < h.size) : (h.push o)[b]? = h[b]? := by
 rw [Array.getElem?_push, if_neg (by omega)]
theorem JV [Glob] {E : En} {H : Hp} {w : World} (r : aX E H w) (p : Nat × Nat) (c : Nat) (o : Obj) : Keeps E w.heap (E.ext H.fresh p c) (w.heap.push o) :=
 ⟨rfl, fun _ h => .inr h, fun _ h => En.ext_θ E _ p c (r.yY h), fun _ h => En.ext_κ E _ p c (r.yY h), fun _ h => h, fun b hb => JA (r.A8 b hb)⟩
theorem iV [Glob] {E : En} {H : Hp} {w : World} (r : aX E H w) {id : Nat} {o : dP} (h : H.get id = some o) : (E.θ id).1 < w.heap.size := by
 have h2 := (r.live id o h).2.1
 cases o with
 | cells cs e =>
   obtain ⟨arr, lo, hi, us, h1, _⟩ := h2
   exact (Array.getElem?_eq_some_iff.1 h1).1
 | map es c =>
   obtain ⟨ents, c', h1, _⟩ := h2
   exact (Array.getElem?_eq_some_iff.1 h1).1
 | mM s p => exact (Array.getElem?_eq_some_iff.1 h2.1).1
 | iI e t =>
   obtain ⟨ents, c', h1, _⟩ := h2
   exact (Array.getElem?_eq_some_iff.1 h1).1
 | vec e t ty ov =>
   obtain ⟨_, arr, lo, hi, us, h1, _⟩ := h2
   exact (Array.getElem?_eq_some_iff.1 h1).1
theorem D9 [Glob] {E : En} {H : Hp} {w w' : World} (r : aX E H w) (o : Obj) (ao : dP) (c : Nat) (hw : w'.heap = w.heap.push o) (al : Alike w w')
 (ho : OR (E.ext H.fresh (w.heap.size, 0) c) w'.heap H.fresh ao) :
 Stp E H w (E.ext H.fresh (w.heap.size, 0) c) (H.new ao) w' ∧ aX (E.ext H.fresh (w.heap.size, 0) c) (H.new ao) w' := by
 have k := JV r (w.heap.size, 0) c o
 rw [← hw] at k
 have hf := Oe r (w.heap.size, 0) c ao
 refine ⟨⟨k.ρ, k.dm, k.θ, k.κ, k.ro, fun _ h => .inl h, (wM H ao).1, (wM H ao).2.1, fun id h => h.elim (fun e => .inr ((wM H ao).2.2 id e)) .inl, al.os, al.tape, al.output, by rw [hw]; simp, fun b hb _ => by rw [hw, JA hb], ?_⟩, ⟨hf.1, hf.2, ?_, ?_, ?_, Glob.keep r.glob k.ro k.Js⟩⟩
 ·intro id o2 h2 hlt
  rw [Hp.lN] at h2
  split at h2
  ·rename_i he
   rw [he, En.ext_θ_new] at hlt
   simp at hlt
  ·have h3 := (r.live id o2 h2).1
   exact ⟨id, o2, h2, by rw [En.ext_θ _ _ _ _ (r.yY h3)]⟩
 ·intro id o2 h2
  rw [Hp.lN] at h2
  split at h2
  ·rename_i he
   simp at h2
   subst h2
   rw [he, En.ext_θ_new]
   refine ⟨En.jV _ _ _ _, ho, fun hr => ?_⟩
   have := r.A8 _ hr
   simp at this
  ·obtain ⟨h3, h4, h5⟩ := r.live id o2 h2
   refine ⟨.inr h3, h4.keep k h3 ?_, ?_⟩
   ·rw [hw, JA (iV r h2)]
   ·rw [En.ext_θ _ _ _ _ (r.yY h3)]; exact h5
 ·intro id id' o1 o2 h1 h2 he
  rw [Hp.lN] at h1 h2
  split at h1 <;> split at h2
  ·omega
  ·rename_i e1 _
   have h3 := (r.live id' o2 h2).1
   rw [e1, En.ext_θ_new, En.ext_θ _ _ _ _ (r.yY h3)] at he
   have := iV r h2
   simp only at he
   omega
  ·rename_i _ e1
   have h3 := (r.live id o1 h1).1
   rw [e1, En.ext_θ_new, En.ext_θ _ _ _ _ (r.yY h3)] at he
   have := iV r h1
   simp only at he
   omega
  ·have h3 := (r.live id o1 h1).1
   have h4 := (r.live id' o2 h2).1
   rw [En.ext_θ _ _ _ _ (r.yY h3), En.ext_θ _ _ _ _ (r.yY h4)] at he
   exact r.inj id id' o1 o2 h1 h2 he
 ·intro b hb
  have := r.A8 b hb
  rw [hw]
  simp
  omega
theorem qO [Glob] {E : En} {H : Hp} {w w' : World} (r : aX E H w) {id : Nat} {o : dP} (hl : H.get id = some o)
 (hother : ∀ b, b ≠ (E.θ id).1 → w'.heap[b]? = w.heap[b]?) : Keeps E w.heap E w'.heap :=
 ⟨rfl, fun _ h => h, fun _ _ => rfl, fun _ _ => rfl, fun _ h => h, fun b hb => hother b fun e => (r.live id o hl).2.2 (by rw [← e]; exact hb)⟩
theorem SK [Glob] {E : En} {H : Hp} {w w' : World} (r : aX E H w) {id : Nat} {o : dP} (hl : H.get id = some o) (ao : dP)
 (hsize : w'.heap.size = w.heap.size) (hother : ∀ b, b ≠ (E.θ id).1 → w'.heap[b]? = w.heap[b]?) (al : Alike w w') (ho : OR E w'.heap id ao) :
 Stp E H w E (H.put id ao) w' ∧ aX E (H.put id ao) w' := by
 have k := qO r hl hother
 refine ⟨⟨rfl, fun _ h => h, fun _ _ => rfl, fun _ _ => rfl, fun _ h => h, fun _ h => .inl h, Nat.le_refl _, .inr rfl, fun _ h => .inl h, al.os, al.tape, al.output, by omega, ?_, ?_⟩, ⟨r.fresh, r.res, ?_, ?_, ?_, Glob.keep r.glob k.ro k.Js⟩⟩
 ·intro b _ hn
  exact hother b fun e => hn id o hl e.symm
 ·intro j o2 h2 _
  rw [Hp.get_put] at h2
  split at h2
  ·rename_i e; subst e; exact ⟨j, o, hl, rfl⟩
  ·exact ⟨j, o2, h2, rfl⟩
 ·intro j o2 h2
  rw [Hp.get_put] at h2
  split at h2
  ·rename_i e
   subst e
   simp at h2
   subst h2
   exact ⟨(r.live j o hl).1, ho, (r.live j o hl).2.2⟩
  ·rename_i e
   obtain ⟨h3, h4, h5⟩ := r.live j o2 h2
   refine ⟨h3, h4.keep k h3 (hother _ fun e2 => e (r.inj j id o2 o h2 hl e2)), h5⟩
 ·intro i j o1 o2 h1 h2 he
  rw [Hp.get_put] at h1 h2
  split at h1 <;> split at h2
  ·omega
  ·rename_i e1 _; subst e1; exact r.inj i j o o2 hl h2 he
  ·rename_i _ e1; subst e1; exact r.inj i j o1 o h1 hl he
  ·exact r.inj i j o1 o2 h1 h2 he
 ·intro b hb
  rw [hsize]
  exact r.A8 b hb
theorem drop_step [Glob] {E : En} {H : Hp} {w : World} (r : aX E H w) (id : Nat) : Stp E H w E (H.drop id) w ∧ aX E (H.drop id) w := by
 have hg : ∀ j o, (H.drop id).get j = some o → H.get j = some o := by
  intro j o h
  rw [Hp.wS] at h
  split at h
  ·simp at h
  ·exact h
 exact ⟨⟨rfl, fun _ h => h, fun _ _ => rfl, fun _ _ => rfl, fun _ h => h, fun _ h => .inl h, Nat.le_refl _, .inr rfl, fun _ h => .inl h, rfl, rfl, rfl, Nat.le_refl _, fun _ _ _ => rfl, fun j o h _ => ⟨j, o, hg j o h, rfl⟩⟩,
  ⟨r.fresh, r.res, fun j o h => r.live j o (hg j o h), fun i j o1 o2 h1 h2 he => r.inj i j o1 o2 (hg _ _ h1) (hg _ _ h2) he, r.A8, r.glob⟩⟩
theorem Vz [Glob] {E : En} {H : Hp} {w w' : World} (r : aX E H w) {id : Nat} {o : dP} (hl : H.get id = some o) (ao : dP) (off c : Nat)
 (hsize : w'.heap.size = w.heap.size) (hother : ∀ b, b ≠ (E.θ id).1 → w'.heap[b]? = w.heap[b]?) (al : Alike w w')
 (ho : OR (E.ext H.fresh ((E.θ id).1, (E.θ id).2 + off) c) w'.heap H.fresh ao) :
 Stp E H w (E.ext H.fresh ((E.θ id).1, (E.θ id).2 + off) c) ((H.drop id).new ao) w' ∧ aX (E.ext H.fresh ((E.θ id).1, (E.θ id).2 + off) c) ((H.drop id).new ao) w' := by
 have hdn : (H.drop id).fresh = H.fresh := rfl
 have hf := Oe (drop_step r id).2 ((E.θ id).1, (E.θ id).2 + off) c ao
 rw [hdn] at hf
 have k : Keeps E w.heap (E.ext H.fresh ((E.θ id).1, (E.θ id).2 + off) c) w'.heap :=
  ⟨rfl, fun _ h => .inr h, fun _ h => En.ext_θ E _ _ c (r.yY h), fun _ h => En.ext_κ E _ _ c (r.yY h), fun _ h => h, (qO r hl hother).Js⟩
 have hg : ∀ j o2, ((H.drop id).new ao).get j = some o2 → (j = H.fresh ∧ o2 = ao) ∨ (j ≠ id ∧ H.get j = some o2) := by
  intro j o2 h
  rw [Hp.lN, hdn] at h
  split at h
  ·rename_i e; simp at h; exact .inl ⟨e, h.symm⟩
  ·rw [Hp.wS] at h
   split at h
   ·simp at h
   ·rename_i e; exact .inr ⟨e, h⟩
 refine ⟨⟨rfl, k.dm, k.θ, k.κ, k.ro, fun _ h => .inl h, (wM (H.drop id) ao).1, (wM (H.drop id) ao).2.1, fun j h => h.elim (fun e => .inr ((wM (H.drop id) ao).2.2 j e)) .inl, al.os, al.tape, al.output, by omega, ?_, ?_⟩, ⟨hf.1, hf.2, ?_, ?_, ?_, Glob.keep r.glob k.ro k.Js⟩⟩
 ·intro b _ hn
  exact hother b fun e => hn id o hl e.symm
 ·intro j o2 h2 hlt
  rcases hg j o2 h2 with ⟨rfl, rfl⟩ | ⟨_, h3⟩
  ·exact ⟨id, o, hl, by rw [En.ext_θ_new]⟩
  ·have := (r.live j o2 h3).1
   exact ⟨j, o2, h3, by rw [En.ext_θ _ _ _ _ (r.yY this)]⟩
 ·intro j o2 h2
  rcases hg j o2 h2 with ⟨rfl, rfl⟩ | ⟨hne, h3⟩
  ·rw [En.ext_θ_new]
   exact ⟨En.jV _ _ _ _, ho, (r.live id o hl).2.2⟩
  ·obtain ⟨h4, h5, h6⟩ := r.live j o2 h3
   refine ⟨.inr h4, h5.keep k h4 (hother _ fun e => hne (r.inj j id o2 o h3 hl e)), ?_⟩
   rw [En.ext_θ _ _ _ _ (r.yY h4)]; exact h6
 ·intro i j o1 o2 h1 h2 he
  rcases hg i o1 h1 with ⟨e1, _⟩ | ⟨e1, h3⟩ <;> rcases hg j o2 h2 with ⟨e2, _⟩ | ⟨e2, h4⟩
  ·omega
  ·have := (r.live j o2 h4).1
   rw [e1, En.ext_θ_new, En.ext_θ _ _ _ _ (r.yY this)] at he
   exact absurd (r.inj id j o o2 hl h4 he).symm e2
  ·have := (r.live i o1 h3).1
   rw [e2, En.ext_θ_new, En.ext_θ _ _ _ _ (r.yY this)] at he
   exact absurd (r.inj i id o1 o h3 hl he) e1
  ·have h5 := (r.live i o1 h3).1
   have h6 := (r.live j o2 h4).1
   rw [En.ext_θ _ _ _ _ (r.yY h5), En.ext_θ _ _ _ _ (r.yY h6)] at he
   exact r.inj i j o1 o2 h3 h4 he
 ·intro b hb
  rw [hsize]
  exact r.A8 b hb
end Go.As
end
section
namespace Go.As
def PY : Value → Bool
 | .agg _ => true
 | _ => false
def aaR (P : Program) : TypeDesc → Option TK
 | .bool => some .bool
 | .int k => some (.int k)
 | .string => some .string
 | .pointer e => some (.pointer e)
 | .slice e => some (.slice e)
 | .array n e => some (.array n e)
 | .map k e => some (.map k e)
 | .struct fs => (fs.toList.mapM fun f => (P.info? f.type).map fun i => (f.offset, f.type, i.size)).map .struct
 | .func _ _ _ => some .func
 | .interface ms => some (.iface ms.isEmpty)
 | .tuple _ => some .tuple
 | _ => none
def aeV (P : Program) (t : Nat) : Bool :=
 match P.underlying t with
 | some (.struct fs) => !P.stoodInHeld t && !P.eqGuardType P.depth t && fs.toList.all fun f => f.name != "_" && (match P.underlying f.type with | some .bool | some .string | some (.int _) => true | _ => false)
 | _ => false
def auQ (i : TypeInfo) (z : Value) (k : TK) (q : Bool) : Option TI :=
 match lF z.cells.toList with
 | some zs => if PY z = k.agg then some { kind := k, size := i.size, bytes := i.bytes, zero := zs, eqs := q } else none
 | none => none
def aiG (P : Program) (t : Nat) : Option TI :=
 match P.info? t with
 | none => none
 | some i => match P.underlying t with
   | none => none
   | some d => match aaR P d with
     | none => none
     | some k => match i.zero with
       | none => none
       | some z => auQ i z k (aeV P t)
end Go.As
end
section
namespace Go.As
theorem eX (b o n : Nat) : (⟨b, o, none⟩ : Addr).add n = ⟨b, o + n, none⟩ := by unfold Addr.add; split <;> simp_all
def OJ (P : Program) : TypeDesc → TK → Prop
 | .bool, .bool => True
 | .int k, .int k' => k = k'
 | .string, .string => True
 | .pointer e, .pointer e' => e = e'
 | .slice e, .slice e' => e = e'
 | .array n e, .array n' e' => n = n' ∧ e = e'
 | .map k e, .map k' e' => k = k' ∧ e = e'
 | .struct fs, .struct l => (fs.toList.mapM fun f => (P.info? f.type).map fun i => (f.offset, f.type, i.size)) = some l
 | .func _ _ _, .func => True
 | .interface _, .iface _ => True
 | .tuple _, .tuple => True
 | _, _ => False
structure rM (P : Program) (t : Nat) (i : TI) : Prop where
 eqs : i.eqs = true → aeV P t = true
 all : ∃ inf d z, P.info? t = some inf ∧ P.underlying t = some d ∧ inf.zero = some z ∧ lF z.cells.toList = some i.zero ∧ inf.size = i.size ∧ inf.bytes = i.bytes ∧ OJ P d i.kind ∧ PY z = i.agg
def dW (P : Program) (tt : TT) : Prop := ∀ t i, tt t = some i → rM P t i
theorem aiE {P : Program} {d : TypeDesc} {k : TK} (h : aaR P d = some k) : OJ P d k := by
 cases d
 case struct fs =>
  simp only [aaR, Option.map_eq_some_iff] at h
  obtain ⟨l, h1, rfl⟩ := h
  exact h1
 all_goals first
  | (simp only [aaR, Option.some.injEq] at h; subst h; simp [OJ]; done)
  | (simp [aaR] at h; done)
theorem aiF {P : Program} {t : Nat} {i : TI} (h : aiG P t = some i) : rM P t i := by
 unfold aiG at h
 split at h
 ·simp at h
 ·rename_i inf h1
  split at h
  ·simp at h
  ·rename_i d h2
   split at h
   ·simp at h
   ·rename_i k hk
    split at h
    ·simp at h
    ·rename_i z h3
     unfold auQ at h
     split at h
     ·rename_i zs h4
      split at h
      ·rename_i ha
       simp only [Option.some.injEq] at h
       subst h
       exact ⟨fun hq => hq, inf, d, z, h1, h2, h3, h4, rfl, rfl, aiE hk, ha⟩
      ·simp at h
     ·simp at h
theorem mF (s : ByteArray) : bP (bytesOf s) = s := by
 unfold bP bytesOf
 have : (List.map UInt8.ofNat (List.map (fun x => x.toNat) s.data.toList)) = s.data.toList := by
  rw [List.map_map]
  conv => rhs; rw [← List.map_id s.data.toList]
  apply List.map_congr_left
  intro b _
  simp
 rw [this]
theorem Dv (s : ByteArray) : ∀ b ∈ bytesOf s, b < 256 := by
 intro b hb
 unfold bytesOf at hb
 rw [List.mem_map] at hb
 obtain ⟨c, _, rfl⟩ := hb
 exact c.toNat_lt
theorem G7 {E : En} {h : Array Obj} {v : Value} {a : AV} (hv : iO v = some a) : VR E h a v ∧ v.oneCell' = true := by
 cases v with
 | bool b => simp [iO] at hv; subst hv; simp [VR, SB.den, Value.oneCell']
 | int k n => simp [iO] at hv; subst hv; simp [VR, SE.den, Value.oneCell']
 | string s => simp [iO] at hv; subst hv; exact ⟨by simp only [VR]; exact ⟨by rw [mF], Dv s⟩, rfl⟩
 | pointer a => cases a <;> simp [iO] at hv; subst hv; simp [VR, Value.oneCell']
 | slice a l c =>
   cases a with
   | some a => simp [iO] at hv
   | none =>
     cases l with
     | succ l => simp [iO] at hv
     | zero => cases c with
       | succ c => simp [iO] at hv
       | zero => simp [iO] at hv; subst hv; simp [VR, Value.oneCell']
 | map r => cases r <;> simp [iO] at hv; subst hv; simp [VR, Value.oneCell']
 | nilFunc => simp [iO] at hv; subst hv; simp [VR, Value.oneCell']
 | nilIface => simp [iO] at hv; subst hv; simp [VR, Value.oneCell']
 | func fn f c =>
   simp only [iO] at hv
   split at hv
   ·rename_i hx
    simp at hx hv
    subst hv
    obtain ⟨rfl, rfl⟩ := hx
    exact ⟨by simp only [VR]; exact ⟨[], [], rfl, rfl, rfl⟩, rfl⟩
   ·simp at hv
 | _ => simp [iO] at hv
theorem fC {E : En} {h : Array Obj} : ∀ {vs : List Value} {aAX : List AV}, lF vs = some aAX → bD E h aAX vs ∧ ∀ v ∈ vs, v.oneCell' = true
 | [], aAX, hv => by simp [lF] at hv; subst hv; simp [bD]
 | v :: vs, aAX, hv => by
   simp only [lF] at hv
   split at hv
   ·simp at hv
   ·rename_i a ha
    split at hv
    ·simp at hv
    ·rename_i as' has
     simp at hv
     subst hv
     have h1 := G7 (E := E) (h := h) ha
     have h2 := fC (E := E) (h := h) has
     refine ⟨by rw [aQ]; exact ⟨v, vs, rfl, h1.1, h2.1⟩, ?_⟩
     intro u hu
     rcases List.mem_cons.1 hu with rfl | hu
     ·exact h1.2
     ·exact h2.2 u hu
theorem VI {E : En} {h : Array Obj} {v : Value} {a : AV} (hv : ofConst v = some a) : VR E h a v := by
 cases v with
 | agg cs =>
   simp only [ofConst, Option.map_eq_some_iff] at hv
   obtain ⟨l, h1, rfl⟩ := hv
   simp only [VR]
   exact ⟨cs.toList, by simp, (fC h1).1⟩
 | tuple cs =>
   simp only [ofConst, Option.map_eq_some_iff] at hv
   obtain ⟨l, h1, rfl⟩ := hv
   simp only [VR]
   exact ⟨cs.toList, by simp, (fC h1).1⟩
 | _ => exact (G7 (by simpa [ofConst] using hv)).1
theorem VR.one {E : En} {h : Array Obj} {x : AV} {v : Value} (hv : VR E h x v) (h1 : x.one = true) : v.oneCell' = true := by
 cases x with
 | agg cs => simp [AV.one] at h1
 | tuple cs => simp [AV.one] at h1
 | opq i => simp [AV.one] at h1
 | inp k ks => simp only [VR] at hv; rcases hv with ⟨⟨x, cap, rfl⟩, _⟩ | ⟨b, o, n, cap, rfl, _⟩ <;> rfl
 | slice id off len c => simp only [VR] at hv; obtain ⟨_, a, cap, rfl, _⟩ := hv; rfl
 | ro cs n full => simp only [VR] at hv; obtain ⟨b, o, cap, us, rfl, _⟩ := hv; rfl
 | qI cs => simp only [VR] at hv; obtain ⟨b, o, us, rfl, _⟩ := hv; rfl
 | func fn fs cs => simp only [VR] at hv; obtain ⟨us, ws, rfl, _⟩ := hv; rfl
 | iface t x => simp only [VR] at hv; obtain ⟨u, rfl, _⟩ := hv; rfl
 | str s => simp only [VR] at hv; rw [hv.1]; rfl
 | ptr id off => simp only [VR] at hv; rw [hv.1]; rfl
 | map id => simp only [VR] at hv; rw [hv.1]; rfl
 | emp => simp only [VR] at hv; obtain ⟨x, rfl⟩ := hv; rfl
 | dat e t => simp only [VR] at hv; exact hv.one'
 | lJ e => simp only [VR] at hv; exact hv.one'
 | uM id n t => simp only [VR] at hv; obtain ⟨_, k, a, cap, _, rfl, _⟩ := hv; rfl
 | yX id lo n t => simp only [VR] at hv; obtain ⟨_, l, k, a, cap, _, _, rfl, _⟩ := hv; rfl
 | any => simp [AV.one] at h1
 | Fv z t => simp only [VR] at hv; obtain ⟨⟨x, rfl⟩, _⟩ := hv; rfl
 | nY id es i off => simp only [VR] at hv; obtain ⟨_, k, _, rfl⟩ := hv; rfl
 | _ => simp only [VR] at hv; rw [hv]; rfl
theorem bD.ones {E : En} {h : Array Obj} : ∀ {xs : List AV} {us : List Value}, bD E h xs us → vT xs = true → ∀ u ∈ us, u.oneCell' = true
 | [], us, hv, _ => by rw [jG] at hv; subst hv; simp
 | x :: xs, us, hv, h1 => by
   rw [aQ] at hv
   obtain ⟨u, vs, rfl, h2, h3⟩ := hv
   simp [vT] at h1
   intro y hy
   rcases List.mem_cons.1 hy with rfl | hy
   ·exact h2.one h1.1
   ·exact h3.ones h1.2 y hy
theorem VR.cells {E : En} {h : Array Obj} {x : AV} {v : Value} (hv : VR E h x v) (h1 : vT x.cells = true) : bD E h x.cells v.cells.toList := by
 cases x with
 | agg cs =>
   simp only [VR] at hv
   obtain ⟨us, rfl, h2⟩ := hv
   simpa [AV.cells, Value.cells] using h2
 | _ =>
   all_goals
    simp only [AV.cells] at h1 ⊢
    have h2 := hv.one (by simpa [vT] using h1)
    rw [aQ]
    refine ⟨v, [], ?_, hv, rfl⟩
    cases v <;> first | rfl | simp [Value.oneCell'] at h2
theorem amL {v : Value} (h : v.oneCell' = true) : v.cells = #[v] := by cases v <;> first | rfl | simp [Value.oneCell'] at h
theorem wI {P : Program} {w : World} {b o n : Nat} {us : List Value} (hn : us.length = n) (h : gJ w.heap b o us) :
 (loadCells ⟨b, o, none⟩ n).run P w = .ok us.toArray w := by
 subst hn
 refine run_loadCells_list w _ us fun j v hj => ?_
 rw [eX, qY]
 exact h j v hj
theorem gJ.drop {h : Array Obj} {b o : Nat} {us : List Value} (hc : gJ h b o us) (k : Nat) : gJ h b (o + k) (us.drop k) := by
 intro i u hu
 rw [List.getElem?_drop] at hu
 have := hc (k + i) u hu
 rwa [show o + k + i = o + (k + i) from by omega]
theorem gJ.take {h : Array Obj} {b o : Nat} {us : List Value} (hc : gJ h b o us) (k : Nat) : gJ h b o (us.take k) := by
 intro i u hu
 rw [List.getElem?_take] at hu
 split at hu
 ·exact hc i u hu
 ·simp at hu
theorem CO {E : En} {h : Array Obj} {id : Nat} {cs : List AV} {e : TypeId} (ho : OR E h id (.cells cs e)) :
 ∃ us, bD E h cs us ∧ gJ h (E.θ id).1 (E.θ id).2 us ∧ ∀ u ∈ us, u.oneCell' = true := by
 obtain ⟨arr, lo, hi, us, h1, h2, h3, h4, h5, h6, h7⟩ := ho
 refine ⟨us, h2, fun i u hu => ?_, h7⟩
 simp only [hcell, h1]
 exact h3 i u hu
theorem Bc [Glob] {E : En} {H : Hp} {w : World} (r : aX E H w) {p : AV} {u : Value} {n : Nat} {l : List AV} (hp : VR E w.heap p u) (h : oK H p n = some l) :
 ∃ b o us, u = .pointer (some ⟨b, o, none⟩) ∧ us.length = n ∧ bD E w.heap l us ∧ gJ w.heap b o us ∧ ∀ u ∈ us, u.oneCell' = true := by
 cases p with
 | ptr id off =>
   simp only [oK] at h
   split at h
   ·rename_i cs e hl
    split at h
    ·rename_i l' hd
     obtain ⟨us, h2, h3, h4⟩ := CO (r.live id _ hl).2.1
     obtain ⟨h5, h6, h7⟩ := h2.eY hd
     obtain ⟨h8, h9⟩ := h5.iZ h
     simp only [VR] at hp
     refine ⟨_, _, _, hp.1, ?_, h8, (h3.drop off).take n, fun x hx => h4 x (List.mem_of_mem_drop (List.mem_of_mem_take hx))⟩
     have := h5.length
     rw [List.length_take]
     omega
    ·simp at h
   ·simp at h
 | qI cs =>
   simp only [oK] at h
   simp only [VR] at hp
   obtain ⟨b, o, us, rfl, _, h2, h3, h4⟩ := hp
   obtain ⟨h5, h6⟩ := h2.iZ h
   refine ⟨b, o, _, rfl, ?_, h5, h3.take n, fun x hx => h4 x (List.mem_of_mem_take hx)⟩
   have := h2.length
   rw [List.length_take]
   omega
 | _ => simp [oK] at h
theorem AX {E : En} {h : Array Obj} : ∀ {cs : List AV} {o : Nat} {vs cs' : List AV} {us ws : List Value}, splice cs o vs = some cs' → bD E h cs us → bD E h vs ws →
 cs'.length = cs.length ∧ o + vs.length ≤ cs.length ∧ ∃ us', bD E h cs' us' ∧ ∀ i, us'[i]? = if o ≤ i ∧ i < o + ws.length then ws[i - o]? else us[i]?
 | cs, 0, [], cs', us, ws, h1, h2, h3 => by
   cases cs <;> simp [splice] at h1 <;> subst h1 <;> rw [jG] at h3 <;> subst h3 <;> exact ⟨rfl, by simp, us, h2, fun i => by simp⟩
 | [], 0, _ :: _, cs', us, ws, h1, h2, h3 => by simp [splice] at h1
 | c :: cs, 0, v :: vs, cs', us, ws, h1, h2, h3 => by
   simp only [splice] at h1
   split at h1
   ·rename_i l hl
    simp at h1
    subst h1
    rw [aQ] at h2 h3
    obtain ⟨u, us', rfl, ha, hb⟩ := h2
    obtain ⟨x, ws', rfl, hc, hd⟩ := h3
    obtain ⟨e1, e2, aaL, e3, e4⟩ := AX hl hb hd
    refine ⟨by simp [e1], by simp at e2 ⊢; omega, x :: aaL, by rw [aQ]; exact ⟨x, aaL, rfl, hc, e3⟩, ?_⟩
    intro i
    cases i with
    | zero => simp
    | succ i =>
      have := e4 i
      simp only [Nat.zero_le, true_and, Nat.zero_add, Nat.sub_zero, List.getElem?_cons_succ, List.length_cons, Nat.add_lt_add_iff_right] at this ⊢
      exact this
   ·simp at h1
 | [], _ + 1, vs, cs', us, ws, h1, h2, h3 => by cases vs <;> simp [splice] at h1
 | c :: cs, o + 1, vs, cs', us, ws, h1, h2, h3 => by
   have h1' : (match splice cs o vs with | some l => some (c :: l) | none => none) = some cs' := by cases vs <;> exact h1
   split at h1'
   ·rename_i l hl
    simp at h1'
    subst h1'
    rw [aQ] at h2
    obtain ⟨u, us', rfl, ha, hb⟩ := h2
    obtain ⟨e1, e2, aaL, e3, e4⟩ := AX hl hb h3
    refine ⟨by simp [e1], by simp; omega, u :: aaL, by rw [aQ]; exact ⟨u, aaL, rfl, ha, e3⟩, ?_⟩
    intro i
    cases i with
    | zero => simp
    | succ i =>
      have := e4 i
      simp only [List.getElem?_cons_succ]
      rw [this]
      by_cases hh : o ≤ i ∧ i < o + ws.length
      ·rw [if_pos hh, if_pos (by omega)]
       congr 1
       omega
      ·rw [if_neg hh, if_neg (by omega)]
   ·simp at h1'
theorem oJ {P : Program} (b o : Nat) (e : TypeId) (lo hi : Nat) : ∀ (vs : List Value) (i : Nat) (arr : Array Value) (w : World),
 w.heap[b]? = some (.cells arr e (lo, hi)) → (∀ x, lo ≤ x → x < hi → arr.size ≤ x) → o + i + vs.length ≤ arr.size → (∀ v ∈ vs, v.oneCell' = true) →
 ∃ w' arr', (storeCells ⟨b, o, none⟩ vs i).run P w = .ok () w' ∧ Alike w w' ∧ w'.heap.size = w.heap.size ∧ (∀ j, j ≠ b → w'.heap[j]? = w.heap[j]?) ∧
  w'.heap[b]? = some (.cells arr' e (lo, hi)) ∧ arr'.size = arr.size ∧ ∀ j, arr'[j]? = if o + i ≤ j ∧ j < o + i + vs.length then vs[j - (o + i)]? else arr[j]?
 | [], i, arr, w, hb, _, _, _ => ⟨w, arr, rfl, ⟨rfl, rfl, rfl⟩, rfl, fun _ _ => rfl, hb, rfl, fun j => by rw [if_neg (by simp)]⟩
 | v :: vs, i, arr, w, hb, hf, hl, h1 => by
   have hin : o + i < arr.size := by simp at hl; omega
   have hcell : w.cell? ⟨b, o + i, none⟩ = some arr[o + i] := by simp [World.cell?, hb, hin]
   have hfro : w.frozen? ⟨b, o + i, none⟩ = false := by
    simp only [World.frozen?, hb, Bool.and_eq_false_iff, decide_eq_false_iff_not]
    by_cases hx : lo ≤ o + i
    ·right
     intro hy
     have := hf _ hx hy
     omega
    ·left; exact hx
   have hst : (store ((⟨b, o, none⟩ : Addr).add i) v).run P w = .ok () (w.setCell ⟨b, o + i, none⟩ v) := by
    rw [eX, run_store P w _ v _ (h1 v (by simp)), hcell]
    simp [hfro]
   have hb2 : (w.setCell ⟨b, o + i, none⟩ v).heap[b]? = some (.cells (arr.setIfInBounds (o + i) v) e (lo, hi)) := by
    simp [World.setCell, Array.getElem?_modify, hb]
   have hsz : (w.setCell ⟨b, o + i, none⟩ v).heap.size = w.heap.size := by simp [World.setCell]
   have hot : ∀ j, j ≠ b → (w.setCell ⟨b, o + i, none⟩ v).heap[j]? = w.heap[j]? := by
    intro j hj
    simp only [World.setCell, Array.getElem?_modify]
    rw [if_neg (fun e => hj e.symm)]
   obtain ⟨w', arr', e1, e2, e3, e4, e5, e6, e7⟩ := oJ (P := P) b o e lo hi vs (i + 1) _ _ hb2 (by simpa using hf) (by simp at hl ⊢; omega) (fun x hx => h1 x (by simp [hx]))
   refine ⟨w', arr', ?_, ⟨e2.os, e2.tape, e2.output⟩, e3.trans hsz, fun j hj => (e4 j hj).trans (hot j hj), e5, by simpa using e6, ?_⟩
   ·simp only [storeCells, Sem.run_bind, hst, Result.andThen_ok]
    exact e1
   ·intro j
    rw [e7 j]
    simp only [List.length_cons]
    by_cases hj : o + i = j
    ·rw [if_neg (by omega), if_pos (by omega)]
     subst hj
     simp [hin]
    ·by_cases hj2 : o + (i + 1) ≤ j ∧ j < o + (i + 1) + vs.length
     ·rw [if_pos hj2, if_pos (by omega)]
      rw [show j - (o + i) = (j - (o + (i + 1))) + 1 from by omega]
      simp
     ·rw [if_neg hj2, if_neg (by omega)]
      rw [Array.getElem?_setIfInBounds_ne hj]
theorem nN [Glob] {P : Program} {E : En} {H : Hp} {w : World} (r : aX E H w) {id off : Nat} {cs vs cs' : List AV} {e : TypeId} {ws : List Value} (hl : H.get id = some (.cells cs e))
 (hs : splice cs off vs = some cs') (hv : bD E w.heap vs ws) (h1 : ∀ u ∈ ws, u.oneCell' = true) :
 ∃ w', (storeCells ⟨(E.θ id).1, (E.θ id).2 + off, none⟩ ws).run P w = .ok () w' ∧ Stp E H w E (H.put id (.cells cs' e)) w' ∧ aX E (H.put id (.cells cs' e)) w' := by
 obtain ⟨arr, lo, hi, us, g1, g2, g3, g4, g5, g6, g7⟩ := (r.live id _ hl).2.1
 obtain ⟨s1, s2, us', s3, s4⟩ := AX hs g2 hv
 have hlen := hv.length
 have hlu := g2.length
 obtain ⟨w', arr', e1, e2, e3, e4, e5, e6, e7⟩ := oJ (P := P) (E.θ id).1 ((E.θ id).2 + off) e lo hi ws 0 arr w g1 g6 (by omega) h1
 refine ⟨w', e1, SK r hl _ e3 e4 e2 ?_⟩
 have k := qO r hl e4
 refine ⟨arr', lo, hi, us', e5, bD.keep k _ _ s3, ?_, by omega, by rw [e6]; exact g5, by rw [e6]; exact g6, ?_⟩
 ·intro i u hu
  rw [s4 i] at hu
  rw [e7]
  split at hu
  ·rename_i hh
   rw [if_pos (by omega), show (E.θ id).2 + i - ((E.θ id).2 + off + 0) = i - off from by omega]
   exact hu
  ·rename_i hh
   rw [if_neg (by omega)]
   exact g3 i u hu
 ·intro u hu
  rw [List.mem_iff_getElem?] at hu
  obtain ⟨i, hi'⟩ := hu
  rw [s4 i] at hi'
  split at hi'
  ·exact h1 u (List.mem_of_getElem? hi')
  ·exact g7 u (List.mem_of_getElem? hi')
end Go.As
end

import Derived.Orders
import Derived.Test.YtppmloolcbpkgaaGreatDoorAsTrie
import Derived.Scope
/-
  AS, part 1: abstract values, abstract heaps, the evaluator. Own work. Generic over the program.
-/
namespace Go.As
noncomputable section

/-! ### symbolic integers and booleans -/
inductive SE where
  | lit (n : Int)
  | atm (i : Nat)
  | add (a b : SE)
  | sub (a b : SE)
  | mul (a b : SE)
  | quo (a b : SE)
  | rem (a b : SE)
  | wrap (k : IntKind) (a : SE)
  | inp (b : Nat) (e : SE)
  deriving DecidableEq, Inhabited

def SE.den (ρ : Nat → Int) : SE → Int
  | .lit n => n
  | .atm i => ρ i
  | .add a b => a.den ρ + b.den ρ
  | .sub a b => a.den ρ - b.den ρ
  | .mul a b => a.den ρ * b.den ρ
  | .quo a b => (a.den ρ).tdiv (b.den ρ)
  | .rem a b => (a.den ρ).tmod (b.den ρ)
  | .wrap k a => k.wrap (a.den ρ)
  | .inp b e => ρ (1000 + (e.den ρ).toNat * 64 + b)

def seEq : SE → SE → Bool
  | .lit a, .lit b => a == b
  | .atm i, .atm j => Nat.beq i j
  | .add a b, .add c d => match seEq a c with | true => seEq b d | false => false
  | .sub a b, .sub c d => match seEq a c with | true => seEq b d | false => false
  | .mul a b, .mul c d => match seEq a c with | true => seEq b d | false => false
  | .quo a b, .quo c d => match seEq a c with | true => seEq b d | false => false
  | .rem a b, .rem c d => match seEq a c with | true => seEq b d | false => false
  | .wrap k a, .wrap l b => match seEq a b with | true => decide (k = l) | false => false
  | .inp i a, .inp j b => match Nat.beq i j with | true => seEq a b | false => false
  | _, _ => false

theorem seEq_eq : ∀ (a b : SE), seEq a b = true → a = b
  | .lit a, b, h => by cases b <;> simp [seEq] at h; rw [h]
  | .atm i, b, h => by cases b <;> simp [seEq] at h; rw [h]
  | .add a b, c, h => by cases c <;> simp only [seEq, Bool.false_eq_true] at h; split at h <;> first | (rename_i h1; rw [seEq_eq _ _ h1, seEq_eq _ _ h]; done) | simp at h
  | .sub a b, c, h => by cases c <;> simp only [seEq, Bool.false_eq_true] at h; split at h <;> first | (rename_i h1; rw [seEq_eq _ _ h1, seEq_eq _ _ h]; done) | simp at h
  | .mul a b, c, h => by cases c <;> simp only [seEq, Bool.false_eq_true] at h; split at h <;> first | (rename_i h1; rw [seEq_eq _ _ h1, seEq_eq _ _ h]; done) | simp at h
  | .quo a b, c, h => by cases c <;> simp only [seEq, Bool.false_eq_true] at h; split at h <;> first | (rename_i h1; rw [seEq_eq _ _ h1, seEq_eq _ _ h]; done) | simp at h
  | .rem a b, c, h => by cases c <;> simp only [seEq, Bool.false_eq_true] at h; split at h <;> first | (rename_i h1; rw [seEq_eq _ _ h1, seEq_eq _ _ h]; done) | simp at h
  | .wrap k a, c, h => by cases c <;> simp only [seEq, Bool.false_eq_true] at h; split at h <;> first | (rename_i h1; rw [seEq_eq _ _ h1, of_decide_eq_true h]; done) | simp at h
  | .inp i a, c, h => by cases c <;> simp only [seEq, Bool.false_eq_true] at h; split at h <;> first | (rename_i h1; rw [Nat.eq_of_beq_eq_true h1, seEq_eq _ _ h]; done) | simp at h

inductive SB where
  | lit (b : Bool)
  | lt (a b : SE)
  | le (a b : SE)
  | eq (a b : SE)
  | not (s : SB)
  | and (a b : SB)
  deriving DecidableEq, Inhabited

def SB.den (ρ : Nat → Int) : SB → Bool
  | .lit b => b
  | .lt a b => decide (a.den ρ < b.den ρ)
  | .le a b => decide (a.den ρ ≤ b.den ρ)
  | .eq a b => a.den ρ == b.den ρ
  | .not s => !(s.den ρ)
  | .and a b => a.den ρ && b.den ρ

/-- IntKind.wrap, quick where nothing is to be done. -/
def fwrap (k : IntKind) (n : Int) : Int :=
  match k with
  | .i64 => if -9223372036854775808 ≤ n ∧ n ≤ 9223372036854775807 then n else k.wrap n
  | .u8 => if 0 ≤ n ∧ n ≤ 255 then n else k.wrap n
  | _ => k.wrap n

/-! ### abstract values -/
/-- what is known of a slice's capacity: the number; or no more than that it is the rest of its block, cells of so many -/
inductive ACap where
  | exact (c : Nat)
  | rest (es : Nat)
  deriving DecidableEq, Inhabited

inductive AV where
  | bool (b : SB)
  | int (k : IntKind) (e : SE)
  | str (s : List Nat)
  | ptr (id off : Nat)
  | nilp
  | rptr (cells : List AV)
  | slice (id off len : Nat) (c : ACap)
  | nils
  | ro (cells : List AV) (n : Nat) (full : Bool)
  | map (id : Nat)
  | nilm
  | func (fn : Fn) (fs cs : List AV)
  | nilf
  | iface (t : Nat) (v : AV)
  | nili
  | agg (cs : List AV)
  | tuple (vs : List AV)
  | opq (i : Nat)
  /-- what was handed in: a slice of structs of integers; how long: the atom 900 + k; its cells: SE.inp -/
  | inp (k : Nat) (ks : List IntKind)
  deriving Inhabited

def AV.undef : AV := .tuple []

def AV.cells : AV → List AV
  | .agg cs => cs
  | v => [v]

def AV.one : AV → Bool
  | .agg _ => false
  | .tuple _ => false
  | .opq _ => false
  | _ => true

inductive AObj where
  | cells (cs : List AV) (e : TypeId)
  | map (es : List (AV × AV × Nat)) (clock : Nat)
  | siter (s : List Nat) (pos : Nat)
  deriving Inhabited

/-- a heap; the next block's number; a number set aside for the next block -/
structure Hp where
  m : Tr AObj
  next : Nat
  res : Option Nat := none
  deriving Inhabited

def Hp.get (h : Hp) (i : Nat) : Option AObj := h.m.get i
def Hp.put (h : Hp) (i : Nat) (o : AObj) : Hp := ⟨h.m.put i (some o), h.next, h.res⟩
def Hp.drop (h : Hp) (i : Nat) : Hp := ⟨h.m.put i none, h.next, h.res⟩
def Hp.fresh (h : Hp) : Nat := match h.res with
  | none => h.next
  | some r => r
def Hp.new (h : Hp) (o : AObj) : Hp := match h.res with
  | none => ⟨h.m.put h.next (some o), h.next + 1, none⟩
  | some r => ⟨h.m.put r (some o), h.next, none⟩

/-! ### trees of splits -/
inductive T (α : Type) where
  | fail
  | ret (a : α)
  | split (c : SB) (t f : T α)
  deriving Inhabited

def T.bind {α β : Type} : T α → (α → T β) → T β
  | .fail, _ => .fail
  | .ret a, f => f a
  | .split c x y, f => .split c (x.bind f) (y.bind f)

/-- the leaf to which numbers lead -/
def T.leaf {α : Type} (ρ : Nat → Int) : T α → Option α
  | .fail => none
  | .ret a => some a
  | .split c x y => match c.den ρ with
    | true => x.leaf ρ
    | false => y.leaf ρ

def T.opt {α : Type} : Option α → T α
  | some a => .ret a
  | none => .fail

/-! ### the type table -/
inductive TK where
  | bool
  | int (k : IntKind)
  | string
  | pointer (e : Nat)
  | slice (e : Nat)
  | array (n e : Nat)
  | map (k e : Nat)
  | struct (fs : List (Nat × Nat × Nat))      -- offset, type and size of each field
  | func
  | iface (plain : Bool)
  | tuple
  deriving DecidableEq, Inhabited

structure TI where
  kind : TK
  size : Nat
  bytes : Nat
  zero : List AV
  eqs : Bool
  deriving Inhabited

def TK.agg (k : TK) : Bool := match k with | .struct _ => true | .array _ _ => true | _ => false
def TI.agg (i : TI) : Bool := i.kind.agg

abbrev TT := Nat → Option TI

def bytesOf (s : ByteArray) : List Nat := s.data.toList.map (·.toNat)

def ofScalar : Value → Option AV
  | .bool b => some (.bool (.lit b))
  | .int k n => some (.int k (.lit n))
  | .string s => some (.str (bytesOf s))
  | .pointer none => some .nilp
  | .slice none 0 0 => some .nils
  | .map none => some .nilm
  | .nilFunc => some .nilf
  | .nilIface => some .nili
  | .func fn f c => if f.isEmpty && c.isEmpty then some (.func fn [] []) else none
  | _ => none

def ofScalars : List Value → Option (List AV)
  | [] => some []
  | v :: vs => match ofScalar v with
    | none => none
    | some a => match ofScalars vs with
      | none => none
      | some as => some (a :: as)

def ofConst : Value → Option AV
  | .agg cs => (ofScalars cs.toList).map .agg
  | .tuple vs => (ofScalars vs.toList).map .tuple
  | v => ofScalar v

/-! ### states -/
structure St where
  slots : Tr AV
  h : Hp
  pc : List (SB × Bool)
  deriving Inhabited

def St.set (s : St) (t : Nat) (v : AV) : St := { s with slots := s.slots.put t (some v) }
def St.setO (s : St) (d : Option Nat) (v : AV) : St := match d with | some t => s.set t v | none => s

def ev (s : St) : Operand → Option AV
  | .tmp t => s.slots.get t
  | .const v => ofConst v
  | .func f => some (.func (.func f) [] [])
  | .global _ => none

def evs (s : St) : List Operand → Option (List AV)
  | [] => some []
  | x :: xs => match ev s x with
    | none => none
    | some a => match evs s xs with
      | none => none
      | some as => some (a :: as)

/-! ### deciding -/
def sbSame : SB → SB → Bool
  | .lit a, .lit b => a == b
  | .lt a b, .lt c d => match seEq a c with | true => seEq b d | false => false
  | .le a b, .le c d => match seEq a c with | true => seEq b d | false => false
  | .eq a b, .eq c d => match seEq a c with | true => seEq b d | false => false
  | .not a, .not b => sbSame a b
  | .and a b, .and c d => match sbSame a c with | true => sbSame b d | false => false
  | _, _ => false

theorem sbSame_eq : ∀ (a b : SB), sbSame a b = true → a = b
  | .lit a, b, h => by cases b <;> simp [sbSame] at h; rw [h]
  | .lt a b, c, h => by cases c <;> simp only [sbSame, Bool.false_eq_true] at h; split at h <;> first | (rename_i h1; rw [seEq_eq _ _ h1, seEq_eq _ _ h]; done) | simp at h
  | .le a b, c, h => by cases c <;> simp only [sbSame, Bool.false_eq_true] at h; split at h <;> first | (rename_i h1; rw [seEq_eq _ _ h1, seEq_eq _ _ h]; done) | simp at h
  | .eq a b, c, h => by cases c <;> simp only [sbSame, Bool.false_eq_true] at h; split at h <;> first | (rename_i h1; rw [seEq_eq _ _ h1, seEq_eq _ _ h]; done) | simp at h
  | .not a, c, h => by cases c <;> simp only [sbSame, Bool.false_eq_true] at h; rw [sbSame_eq _ _ h]
  | .and a b, c, h => by cases c <;> simp only [sbSame, Bool.false_eq_true] at h; split at h <;> first | (rename_i h1; rw [sbSame_eq _ _ h1, sbSame_eq _ _ h]; done) | simp at h

def lookPc (c : SB) : List (SB × Bool) → Option Bool
  | [] => none
  | (d, b) :: l => match sbSame c d with
    | true => some b
    | false => lookPc c l

/-- a number's bounds -/
def maxO (a : Option Int) (z : Int) : Option Int := match a with
  | none => some z
  | some y => some (if y < z then z else y)
def minO (a : Option Int) (z : Int) : Option Int := match a with
  | none => some z
  | some y => some (if z < y then z else y)

/-- a bound that is not reached -/
def offLo (a : Option Int) (z : Int) : Option Int := match a with
  | none => none
  | some y => some (if y = z then z + 1 else y)
def offHi (a : Option Int) (z : Int) : Option Int := match a with
  | none => none
  | some y => some (if y = z then z - 1 else y)

/-- what its form tells of a number's bounds -/
def baseB (e : SE) : Option Int × Option Int := match e with
  | .rem a c => match c with
    | .lit k => match a with
      | .add b d => match d with
        | .lit m => match b with
          | .rem _ f => match f with
            | .lit n => if 0 < n ∧ n = m ∧ m = k then (some 0, some (n - 1)) else (none, none)
            | _ => (none, none)
          | _ => (none, none)
        | _ => (none, none)
      | _ => (none, none)
    | _ => (none, none)
  | _ => (none, none)

/-- what the tests tell of a number's bounds -/
def bounds (e : SE) : List (SB × Bool) → Option Int × Option Int
  | [] => baseB e
  | (c, v) :: l => match c with
    | .lt x y => match x with
      | .lit z => match seEq y e with
        | false => bounds e l
        | true => match bounds e l with
          | (lo, hi) => match v with
            | true => (maxO lo (z + 1), hi)
            | false => (lo, minO hi z)
      | x => match y with
        | .lit z => match seEq x e with
          | false => bounds e l
          | true => match bounds e l with
            | (lo, hi) => match v with
              | true => (lo, minO hi (z - 1))
              | false => (maxO lo z, hi)
        | _ => bounds e l
    | .eq x y => match y with
      | .lit z => match v with
        | false => match seEq x e with
          | false => bounds e l
          | true => match bounds e l with
            | (lo, hi) => (offLo lo z, offHi hi z)
        | true => match seEq x e with
          | false => bounds e l
          | true => (some z, some z)
      | _ => bounds e l
    | _ => bounds e l

/-- bounds, of sums, too -/
def boundsX (e : SE) (pc : List (SB × Bool)) : Option Int × Option Int := match e with
  | .wrap k s => match k with
    | .i64 => match s with
      | .add b d => match d with
        | .lit c => match bounds b pc with
          | (some lo, some hi) => if -9223372036854775808 ≤ lo + c ∧ hi + c ≤ 9223372036854775807 then (match bounds e pc with
            | (l2, h2) => (maxO l2 (lo + c), minO h2 (hi + c))) else bounds e pc
          | _ => bounds e pc
        | _ => bounds e pc
      | _ => bounds e pc
    | _ => bounds e pc
  | _ => bounds e pc

def lookE (a b : SE) (pc : List (SB × Bool)) : Option Bool := match lookPc (.eq a b) pc with
  | some v => some v
  | none => lookPc (.eq b a) pc

/-- is a below b, as far as the tests tell -/
def decLt (pc : List (SB × Bool)) (a b : SE) : Option Bool := match lookPc (.lt a b) pc with
  | some v => some v
  | none => match a with
    | .lit z => match boundsX b pc with
      | (lo, hi) => match lo with
        | some l => if z < l then some true else match hi with
          | some h => if h ≤ z then some false else none
          | none => none
        | none => match hi with
          | some h => if h ≤ z then some false else none
          | none => none
    | a => match b with
      | .lit z => match boundsX a pc with
        | (lo, hi) => match hi with
          | some h => if h < z then some true else match lo with
            | some l => if z ≤ l then some false else none
            | none => none
          | none => match lo with
            | some l => if z ≤ l then some false else none
            | none => none
      | b => match lookE a b pc with
        | some true => some false
        | some false => match lookPc (.lt b a) pc with
          | some v => some !v
          | none => none
        | none => match lookPc (.lt b a) pc with
          | some true => some false
          | _ => none

def decEq (pc : List (SB × Bool)) (a b : SE) : Option Bool := match lookE a b pc with
  | some v => some v
  | none => match b with
    | .lit z => match boundsX a pc with
      | (lo, hi) => match lo with
        | some l => if z < l then some false else match hi with
          | some h => if h < z then some false else if l = z ∧ h = z then some true else none
          | none => none
        | none => match hi with
          | some h => if h < z then some false else none
          | none => none
    | b => match lookPc (.lt a b) pc with
      | some true => some false
      | some false => match lookPc (.lt b a) pc with
        | some v => some !v
        | none => none
      | none => match lookPc (.lt b a) pc with
        | some true => some false
        | _ => none

def decideA (pc : List (SB × Bool)) (c : SB) : Option Bool :=
  match c with
  | .lit b => some b
  | .lt a b => decLt pc a b
  | .eq a b => decEq pc a b
  | c => lookPc c pc

def decideB (pc : List (SB × Bool)) (c : SB) : Option Bool :=
  match c with
  | .not s => (decideA pc s).map (!·)
  | c => decideA pc c

/-- go on by a test -/
def onB {α : Type} (s : St) (c : SB) (f : St → Bool → T α) : T α :=
  match decideB s.pc c with
  | some b => f s b
  | none => match c with
    | .not d => .split d (f { s with pc := (d, true) :: s.pc } false) (f { s with pc := (d, false) :: s.pc } true)
    | c => .split c (f { s with pc := (c, true) :: s.pc } true) (f { s with pc := (c, false) :: s.pc } false)

/-! ### arithmetic -/
def seAdd (k : IntKind) : SE → SE → SE
  | .lit x, .lit y => .lit (fwrap k (x + y))
  | a, b => .wrap k (.add a b)
def seSub (k : IntKind) : SE → SE → SE
  | .lit x, .lit y => .lit (fwrap k (x - y))
  | a, b => .wrap k (.sub a b)
def seMul (k : IntKind) : SE → SE → SE
  | .lit x, .lit y => .lit (fwrap k (x * y))
  | a, b => .wrap k (.mul a b)
def sbLt : SE → SE → SB
  | .lit x, .lit y => .lit (decide (x < y))
  | a, b => .lt a b
def sbLe : SE → SE → SB
  | .lit x, .lit y => .lit (decide (x ≤ y))
  | a, b => .not (.lt b a)
def sbEq : SE → SE → SB
  | .lit x, .lit y => .lit (x == y)
  | .lit x, b => .eq b (.lit x)
  | a, b => match seEq a b with
    | true => .lit true
    | false => .eq a b
def sbNot : SB → SB
  | .lit b => .lit !b
  | .not s => s
  | s => .not s

def sbAnd : SB → SB → SB
  | .lit true, b => b
  | .lit false, _ => .lit false
  | a, .lit true => a
  | _, .lit false => .lit false
  | a, b => .and a b

def bytesLess : List Nat → List Nat → Bool
  | _, [] => false
  | [], _ :: _ => true
  | a :: x, b :: y => if a.blt b then true else if a.beq b then bytesLess x y else false

def eqNats : List Nat → List Nat → Bool
  | [], [] => true
  | a :: x, b :: y => if a.beq b then eqNats x y else false
  | _, _ => false

def strOp (op : BinOp) (x y : List Nat) : Option AV :=
  match op with
  | .add => if x.length + y.length ≤ 1000000 then some (.str (x ++ y)) else none
  | .eql => some (.bool (.lit (eqNats x y)))
  | .neq => some (.bool (.lit !(eqNats x y)))
  | .lss => some (.bool (.lit (bytesLess x y)))
  | .leq => some (.bool (.lit (bytesLess x y || eqNats x y)))
  | .gtr => some (.bool (.lit !(bytesLess x y || eqNats x y)))
  | .geq => some (.bool (.lit !(bytesLess x y)))
  | _ => none

def intOp (op : BinOp) (k : IntKind) (a b : SE) : Option AV :=
  match op with
  | .add => some (.int k (seAdd k a b))
  | .sub => some (.int k (seSub k a b))
  | .mul => some (.int k (seMul k a b))
  | .quo => match a, b with
    | .lit x, .lit y => if y = 0 then none else some (.int k (.lit (fwrap k (x.tdiv y))))
    | a, .lit y => if y = 0 then none else some (.int k (.wrap k (.quo a (.lit y))))
    | _, _ => none
  | .rem => match a, b with
    | .lit x, .lit y => if y = 0 then none else some (.int k (.lit (x.tmod y)))
    | a, .lit y => if y = 0 then none else some (.int k (.rem a (.lit y)))
    | _, _ => none
  | .shr => match a, b with
    | .lit x, .lit y => if y < 0 then none else some (.int k (.lit (x.fdiv (2 ^ (min y.toNat k.bits)))))
    | _, _ => none
  | .eql => some (.bool (sbEq a b))
  | .neq => some (.bool (sbNot (sbEq a b)))
  | .lss => some (.bool (sbLt a b))
  | .leq => some (.bool (sbLe a b))
  | .gtr => some (.bool (sbLt b a))
  | .geq => some (.bool (sbLe b a))
  | _ => none

def nth? {α : Type} : List α → Nat → Option α
  | [], _ => none
  | x :: _, 0 => some x
  | _ :: xs, n + 1 => nth? xs n

def eqBools (a b : SB) : Option SB :=
  match a, b with
  | .lit x, .lit y => some (.lit (x == y))
  | .lit x, b => some (if x then b else sbNot b)
  | a, .lit y => some (if y then a else sbNot a)
  | _, _ => none

/-- two cells of a kind held against each other -/
def eqCell (k : TK) (x y : AV) : Option SB :=
  match k with
  | .int _ => match x, y with
    | .int k a, .int k' b => if k = k' then some (sbEq a b) else none
    | _, _ => none
  | .string => match x, y with
    | .str a, .str b => some (.lit (eqNats a b))
    | _, _ => none
  | .bool => match x, y with
    | .bool a, .bool b => eqBools a b
    | _, _ => none
  | _ => none

/-- '==' of structs, field by field -/
def eqFs (tt : TT) (xs ys : List AV) : List (Nat × Nat × Nat) → Option SB
  | [] => some (.lit true)
  | (off, ft, _) :: fs => match tt ft with
    | none => none
    | some i => match nth? xs off, nth? ys off with
      | some x, some y => match eqCell i.kind x y with
        | none => none
        | some c => match eqFs tt xs ys fs with
          | none => none
          | some d => some (sbAnd c d)
      | _, _ => none

def evEqAgg (tt : TT) (t : Nat) (xs ys : List AV) : Option SB :=
  match tt t with
  | none => none
  | some i => match i.kind with
    | .struct fs => if i.eqs then eqFs tt xs ys fs else none
    | _ => none

def intPart : AV → Option (IntKind × SE)
  | .int k e => some (k, e)
  | _ => none
def litInt : AV → Option Int
  | .int _ (.lit n) => some n
  | _ => none

/-- of a value that can be nil: is it? -/
def isNil (k : TK) (x : AV) : Option Bool :=
  match k with
  | .slice _ => match x with
    | .nils => some true
    | .slice _ _ _ _ => some false
    | .ro _ _ _ => some false
    | _ => none
  | .pointer _ => match x with
    | .nilp => some true
    | .ptr _ _ => some false
    | .rptr _ => some false
    | _ => none
  | .map _ _ => match x with
    | .nilm => some true
    | .map _ => some false
    | _ => none
  | _ => none

def evEq (k : TK) (x y : AV) : Option SB :=
  match k with
  | .bool => match x, y with
    | .bool a, .bool b => eqBools a b
    | _, _ => none
  | k => match isNil k x, isNil k y with
    | some true, some b => some (.lit b)
    | some false, some true => some (.lit false)
    | _, _ => none

def evBin (tt : TT) (t : Nat) (op : BinOp) (x y : AV) : Option AV :=
  match x with
  | .int k a => match y with
    | .int k' b => match op with
      | .shr => intOp op k a b
      | .shl => none
      | _ => if k = k' then intOp op k a b else none
    | _ => none
  | .str a => match y with
    | .str b => strOp op a b
    | _ => none
  | _ => match tt t with
    | none => none
    | some i => match op, evEq i.kind x y with
      | .eql, some c => some (.bool c)
      | .neq, some c => some (.bool (sbNot c))
      | _, _ => none

def evUn (op : UnOp) (x : AV) : Option AV :=
  match op, x with
  | .not, .bool b => some (.bool (sbNot b))
  | .neg, .int k e => some (.int k (seSub k (.lit 0) e))
  | _, _ => none

/-! ### memory -/
def take? {α : Type} : Nat → List α → Option (List α)
  | 0, _ => some []
  | _ + 1, [] => none
  | n + 1, x :: xs => match take? n xs with
    | some l => some (x :: l)
    | none => none

def drop? {α : Type} : Nat → List α → Option (List α)
  | 0, l => some l
  | _ + 1, [] => none
  | n + 1, _ :: xs => drop? n xs

/-- write cells at a place: the place must lie within -/
def splice : List AV → Nat → List AV → Option (List AV)
  | cs, 0, [] => some cs
  | [], 0, _ :: _ => none
  | _ :: cs, 0, v :: vs => match splice cs 0 vs with
    | some l => some (v :: l)
    | none => none
  | [], _ + 1, _ => none
  | c :: cs, n + 1, vs => match splice cs n vs with
    | some l => some (c :: l)
    | none => none

def allOne : List AV → Bool
  | [] => true
  | v :: vs => v.one && allOne vs

def readAt (h : Hp) (p : AV) (n : Nat) : Option (List AV) :=
  match p with
  | .ptr id off => match h.get id with
    | some (.cells cs _) => match drop? off cs with
      | some l => take? n l
      | none => none
    | _ => none
  | .rptr cs => take? n cs
  | _ => none

def evLoad (tt : TT) (t : Nat) (p : AV) (h : Hp) : Option AV :=
  match tt t with
  | none => none
  | some i => match i.agg with
    | true => (readAt h p i.size).map .agg
    | false => match readAt h p 1 with
      | some (v :: _) => some v
      | _ => none

def evStore (tt : TT) (t : Nat) (p v : AV) (h : Hp) : Option Hp :=
  match tt t with
  | none => none
  | some i =>
    if v.cells.length = i.size && allOne v.cells then
      match p with
      | .ptr id off => match h.get id with
        | some (.cells cs e) => match splice cs off v.cells with
          | some cs' => some (h.put id (.cells cs' e))
          | none => none
        | _ => none
      | _ => none
    else none

def fillAll (place : Nat → Option (Nat × Nat)) (cs : List AV) : List (Nat × AV) → Option (List AV)
  | [] => some cs
  | (i, v) :: rest => match place i with
    | none => none
    | some (off, size) =>
      if v.cells.length = size && allOne v.cells then
        match splice cs off v.cells with
        | some cs' => fillAll place cs' rest
        | none => none
      else none

def sizeOf? (tt : TT) (t : Nat) : Option Nat := (tt t).map (·.size)

def evBuild (tt : TT) (t : Nat) (parts : List (Nat × AV)) : Option AV :=
  match tt t with
  | some i => match i.kind with
    | .struct fs => (fillAll (fun j => (nth? fs j).map fun f => (f.1, f.2.2)) i.zero parts).map .agg
    | .array _ e => match sizeOf? tt e with
      | some s => (fillAll (fun j => some (j * s, s)) i.zero parts).map .agg
      | none => none
    | _ => none
  | none => none

def repeatL {α : Type} (l : List α) : Nat → List α
  | 0 => []
  | n + 1 => l ++ repeatL l n

def evBuildSlice (tt : TT) (t len : Nat) (parts : List (Nat × AV)) (h : Hp) : Option (AV × Hp) :=
  match tt t with
  | some i => match i.kind with
    | .slice e => match tt e with
      | some ie =>
        if len ≤ 1000 ∧ ie.size ≤ 1000 ∧ ie.zero.length = ie.size then
          match fillAll (fun j => some (j * ie.size, ie.size)) (repeatL ie.zero len) parts with
          | some cs => some (.slice h.fresh 0 len (.exact len), h.new (.cells cs e))
          | none => none
        else none
      | none => none
    | _ => none
  | none => none

def evMakeSlice (tt : TT) (t : Nat) (l c : AV) (h : Hp) : Option (AV × Hp) :=
  match litInt l with
  | some (.ofNat n) => match litInt c with
    | some (.ofNat m) => match tt t with
      | some i => match i.kind with
        | .slice e => match tt e with
          | some ie =>
            if n ≤ m ∧ m ≤ 1000 ∧ ie.size ≤ 1000 ∧ ie.bytes ≤ 1000000 ∧ ie.zero.length = ie.size then
              some (.slice h.fresh 0 n (.exact m), h.new (.cells (repeatL ie.zero m) e))
            else none
          | none => none
        | _ => none
      | none => none
    | _ => none
  | _ => none

/-- a place further on -/
def moveP (off : Nat) (x : AV) : Option AV := match x with
  | .ptr id o => some (.ptr id (o + off))
  | .rptr cs => (drop? off cs).map .rptr
  | _ => none

/-- the value of a type at the head of cells -/
def partOf (i : TI) (l : List AV) : Option AV := match i.agg with
  | true => (take? i.size l).map .agg
  | false => match l with
    | v :: _ => some v
    | [] => none

def evFieldAddr (tt : TT) (t : Nat) (p : AV) (f : Nat) : Option AV :=
  match tt t with
  | some i => match i.kind with
    | .struct fs => match nth? fs f with
      | some (off, _, size) => match size with
        | 0 => none
        | _ => moveP off p
      | none => none
    | _ => none
  | none => none

def evField (tt : TT) (t : Nat) (x : AV) (f : Nat) : Option AV :=
  match tt t with
  | some i => match i.kind with
    | .struct fs => match nth? fs f with
      | some (off, ft, _) => match tt ft, x with
        | some fi, .agg cs => match drop? off cs with
          | some l => partOf fi l
          | none => none
        | _, _ => none
      | none => none
    | _ => none
  | none => none

def evIndexAddr (tt : TT) (t : Nat) (x ix : AV) : Option AV :=
  match litInt ix with
  | some (.ofNat i) => match tt t with
    | some ti => match ti.kind with
      | .array n e => if i < n then match sizeOf? tt e with
          | some s => moveP (i * s) x
          | none => none
        else none
      | .slice e => match sizeOf? tt e with
        | some s => match x with
          | .slice id o len _ => if i < len then some (.ptr id (o + i * s)) else none
          | .ro cs n _ => if i < n then (drop? (i * s) cs).map .rptr else none
          | _ => none
        | none => none
      | _ => none
    | none => none
  | _ => none

def inpCells (k : Nat) (e : SE) : List IntKind → Nat → List AV
  | [], _ => []
  | kd :: ks, j => .int kd (.inp (k * 8 + j) e) :: inpCells k e ks (j + 1)

/-- a place in what was handed in: the tests must tell that it is one -/
def evInpAt (tt : TT) (pc : List (SB × Bool)) (t k : Nat) (ks : List IntKind) (ix : AV) : Option AV :=
  match ix with
  | .int _ e => match tt t with
    | some ti => match ti.kind with
      | .slice el => match sizeOf? tt el with
        | some s => if s = ks.length ∧ k < 8 ∧ s ≤ 8 then match decideB pc (sbLt e (.lit 0)), decideB pc (sbLt e (.atm (900 + k))) with
            | some false, some true => some (.rptr (inpCells k e ks 0))
            | _, _ => none
          else none
        | none => none
      | _ => none
    | none => none
  | _ => none

def evIndex (tt : TT) (t : Nat) (x ix : AV) : Option AV :=
  match litInt ix with
  | some (.ofNat i) => match tt t with
    | some ti => match ti.kind, x with
      | .string, .str s => (nth? s i).map fun b => .int .u8 (.lit (Int.ofNat b))
      | .array n e, .agg cs => if i < n then match tt e with
          | some ie => match drop? (i * ie.size) cs with
            | some l => partOf ie l
            | none => none
          | none => none
        else none
      | _, _ => none
    | none => none
  | _ => none

/-- a bound of a slice expression -/
def bnd (x : Option AV) (d : Nat) (y : Nat) : Option Nat :=
  match x with
  | none => if d ≤ y then some d else none
  | some v => match litInt v with
    | some (.ofNat i) => if i ≤ y then some i else none
    | _ => none

def evSlice (tt : TT) (t : Nat) (x : AV) (lo hi mx : Option AV) : Option AV :=
  match tt t with
  | none => none
  | some ti => match ti.kind with
    | .string => match x, mx with
      | .str s, none => match bnd hi s.length s.length with
        | some h => match bnd lo 0 h with
          | some l => some (.str ((s.take h).drop l))
          | none => none
        | none => none
      | _, _ => none
    | .slice e => match sizeOf? tt e with
      | none => none
      | some s => match x with
        | .nils => if mx.isSome && hi.isNone then none else match bnd hi 0 0, bnd lo 0 0, bnd mx 0 0 with
          | some _, some _, some _ => some .nils
          | _, _, _ => none
        | .slice id o len (.exact c) => if mx.isSome && hi.isNone then none else match bnd mx c c with
          | none => none
          | some m => match bnd hi len m with
            | none => none
            | some h => match bnd lo 0 h with
              | none => none
              | some l => some (.slice id (o + l * s) (h - l) (.exact (m - l)))
        | .slice id o len (.rest es) => match mx with
          | none => match bnd hi len len with
            | none => none
            | some h => match bnd lo 0 h with
              | none => none
              | some l => if es = s then some (.slice id (o + l * s) (h - l) (.rest es)) else none
          | some _ => match hi, bnd mx 0 len with
            | none, _ => none
            | _, none => none
            | some _, some m => match bnd hi 0 m with
              | none => none
              | some h => match bnd lo 0 h with
                | none => none
                | some l => some (.slice id (o + l * s) (h - l) (.exact (m - l)))
        | .ro cs n full => match mx with
          | none => match bnd hi n n with
            | none => none
            | some h => match bnd lo 0 h with
              | none => none
              | some l => match drop? (l * s) cs with
                | none => none
                | some d => match take? ((h - l) * s) d with
                  | none => none
                  | some d' => some (.ro d' (h - l) (full && h == n))
          | some _ => match hi, bnd mx 0 n with
            | none, _ => none
            | _, none => none
            | some _, some m => match bnd hi 0 m with
              | none => none
              | some h => match bnd lo 0 h with
                | none => none
                | some l => match drop? (l * s) cs with
                  | none => none
                  | some d => match take? ((h - l) * s) d with
                    | none => none
                    | some d' => some (.ro d' (h - l) (h == m))
        | _ => none
    | .array n e => match sizeOf? tt e with
      | none => none
      | some s => match x with
        | .ptr id o => if mx.isSome && hi.isNone then none else match bnd mx n n with
          | none => none
          | some m => match bnd hi n m with
            | none => none
            | some h => match bnd lo 0 h with
              | none => none
              | some l => some (.slice id (o + l * s) (h - l) (.exact (m - l)))
        | _ => none
    | _ => none

/-- a slice expression over cells that are known to lie there, beyond the length -/
def evSliceH (tt : TT) (t : Nat) (x : AV) (lo hi mx : Option AV) (h : Hp) : Option AV :=
  match mx with
  | some _ => none
  | none => match tt t with
    | none => none
    | some ti => match ti.kind with
      | .slice e => match sizeOf? tt e with
        | none => none
        | some s => match x with
          | .slice id o len (.rest es) => if es = s ∧ 0 < s then match h.get id with
              | some (.cells cs _) => match bnd hi len ((cs.length - o) / s) with
                | none => none
                | some hh => match bnd lo 0 hh with
                  | none => none
                  | some l => some (.slice id (o + l * s) (hh - l) (.rest es))
              | _ => none
            else none
          | _ => none
      | _ => none

def bytesOut : List AV → Option (List Nat)
  | [] => some []
  | .int .u8 (.lit (.ofNat b)) :: xs => if b < 256 then match bytesOut xs with
      | some l => some (b :: l)
      | none => none
    else none
  | _ :: _ => none

def evConvert (tt : TT) (sT dT : Nat) (x : AV) (h : Hp) : Option (AV × Hp) :=
  match tt sT with
  | none => none
  | some j => match tt dT with
  | some i => match i.kind with
    | .int k => match x with
      | .int _ (.lit n) => some (.int k (.lit (fwrap k n)), h)
      | .int _ e => some (.int k (.wrap k e), h)
      | _ => none
    | .string => match j.kind with
        | .string => match x with
          | .str s => some (.str s, h)
          | _ => none
        | .slice e => match tt e with
          | none => none
          | some ie => if ie.kind = .int .u8 ∧ ie.size = 1 then match x with
              | .nils => some (.str [], h)
              | .slice id o len _ => match readAt h (.ptr id o) len with
                | some cs => (bytesOut cs).map fun l => (.str l, h)
                | none => none
              | _ => none
            else none
        | _ => none
    | .slice e => match tt e with
      | none => none
      | some ie => if ie.kind = .int .u8 ∧ j.kind = .string then match x with
          | .str s => some (.slice h.fresh 0 s.length (.rest 1), h.new (.cells (s.map fun c => .int .u8 (.lit (Int.ofNat c))) e))
          | _ => none
        else none
    | _ => none
  | none => none

/-! ### maps -/
/-- are two keys the same? both known -/
def keyEq (pc : List (SB × Bool)) (kk : TK) (a b : AV) : Option Bool :=
  match kk with
  | .int _ => match a, b with
    | .int k x, .int k' y => if k = k' then decideB pc (sbEq x y) else none
    | _, _ => none
  | .string => match a, b with
    | .str x, .str y => some (eqNats x y)
    | _, _ => none
  | .bool => match a, b with
    | .bool (.lit x), .bool (.lit y) => some (x == y)
    | _, _ => none
  | _ => none

def findK (pc : List (SB × Bool)) (kk : TK) (k : AV) : List (AV × AV × Nat) → Nat → Option (Option (Nat × AV))
  | [], _ => some none
  | (k', v, _) :: es, i => match keyEq pc kk k k' with
    | some true => some (some (i, v))
    | some false => findK pc kk k es (i + 1)
    | none => none

def setNth {α : Type} : List α → Nat → α → List α
  | [], _, _ => []
  | _ :: xs, 0, v => v :: xs
  | x :: xs, n + 1, v => x :: setNth xs n v

def setEntry (k v : AV) : List (AV × AV × Nat) → Nat → List (AV × AV × Nat)
  | [], _ => []
  | (_, _, b) :: es, 0 => (k, v, b) :: es
  | e :: es, n + 1 => e :: setEntry k v es n

def eraseNth {α : Type} : List α → Nat → List α
  | [], _ => []
  | _ :: xs, 0 => xs
  | x :: xs, n + 1 => x :: eraseNth xs n

/-- the kind of keys that are held against each other here -/
def keyKind (tt : TT) (t : Nat) : Option TK := match tt t with
  | some i => match i.kind with
    | .int k => some (.int k)
    | .string => some .string
    | .bool => some .bool
    | _ => none
  | none => none

def zeroOf (i : TI) : Option AV :=
  match i.agg with
  | true => some (.agg i.zero)
  | false => match i.zero with
    | [v] => some v
    | _ => none

/-- what a map holds -/
def mapEnts (m : AV) (h : Hp) : Option (List (AV × AV × Nat)) := match m with
  | .nilm => some []
  | .map id => match h.get id with
    | some (.map es _) => some es
    | _ => none
  | _ => none

def evLookup (tt : TT) (pc : List (SB × Bool)) (t : Nat) (m k : AV) (ok : Bool) (h : Hp) : Option AV :=
  match tt t with
  | some ti => match ti.kind with
    | .map kt et =>
      match keyKind tt kt with
      | none => none
      | some kk =>
        match tt et with
        | none => none
        | some ie =>
          match mapEnts m h with
          | none => none
          | some es => match findK pc kk k es 0 with
            | none => none
            | some (some (_, v)) => some (if ok then .tuple [v, .bool (.lit true)] else v)
            | some none => match zeroOf ie with
              | none => none
              | some z => some (if ok then .tuple [z, .bool (.lit false)] else z)
    | _ => none
  | none => none

def evMapUpdate (tt : TT) (pc : List (SB × Bool)) (t : Nat) (m k v : AV) (h : Hp) : Option Hp :=
  match tt t with
  | some ti => match ti.kind with
    | .map kt _ =>
      match keyKind tt kt with
      | none => none
      | some kk => match m with
        | .map id => match h.get id with
          | some (.map es c) => match findK pc kk k es 0 with
            | none => none
            | some (some (i, _)) => some (h.put id (.map (setEntry k v es i) c))
            | some none => some (h.put id (.map (es ++ [(k, v, c)]) (c + 1)))
          | _ => none
        | _ => none
    | _ => none
  | none => none

def evDelete (tt : TT) (pc : List (SB × Bool)) (t : Nat) (m k : AV) (h : Hp) : Option Hp :=
  match tt t with
  | some ti => match ti.kind with
    | .map kt _ =>
      match keyKind tt kt with
      | none => none
      | some kk => match m with
        | .nilm => some h
        | .map id => match h.get id with
          | some (.map es c) => match findK pc kk k es 0 with
            | none => none
            | some (some (i, _)) => some (h.put id (.map (eraseNth es i) c))
            | some none => some (h.put id (.map es c))
          | _ => none
        | _ => none
    | _ => none
  | none => none

/-! ### built-in functions -/
def evLen (tt : TT) (t : Nat) (x : AV) (h : Hp) : Option AV :=
  let n (k : Nat) : Option AV := some (.int .i64 (.lit (Int.ofNat k)))
  match tt t with
  | some ti => match ti.kind with
    | .string => match x with
      | .str s => n s.length
      | _ => none
    | .slice _ => match x with
      | .nils => n 0
      | .slice _ _ len _ => n len
      | .ro _ k _ => n k
      | .inp k _ => some (.int .i64 (.atm (900 + k)))
      | _ => none
    | .array k _ => n k
    | .map _ _ => match x with
      | .nilm => n 0
      | .map id => match h.get id with
        | some (.map es _) => n es.length
        | _ => none
      | _ => none
    | _ => none
  | none => none

/-- the first n elements of what is appended -/
def srcCells (s : Nat) (x : AV) (h : Hp) : Option (Nat × List AV) :=
  match x with
  | .nils => some (0, [])
  | .slice id o len _ => (readAt h (.ptr id o) (len * s)).map fun l => (len, l)
  | .ro cs n _ => (take? (n * s) cs).map fun l => (n, l)
  | .str b => if s = 1 then some (b.length, b.map fun c => .int .u8 (.lit (Int.ofNat c))) else none
  | _ => none

/-- a new array, of what was there and what comes behind it -/
def growTo (ie : TI) (e len m : Nat) (cs : List AV) (h : Hp) : Option (AV × Hp) :=
  if (len + m) * ie.bytes ≤ 1000000000 then some (.slice h.fresh 0 (len + m) (.rest ie.size), h.new (.cells cs e)) else none

/-- append of m elements, their cells 'news', to a slice of e's -/
def appendTo (ie : TI) (e m : Nat) (news : List AV) (x : AV) (h : Hp) : Option (AV × Hp) :=
  match x with
  | .nils => if m = 0 then some (.nils, h) else growTo ie e 0 m news h
  | .slice id o len (.exact c) =>
    if len + m ≤ c then
      match h.get id with
      | some (.cells cs e') => match splice cs (o + len * ie.size) news with
        | some cs' => some (.slice id o (len + m) (.exact c), h.put id (.cells cs' e'))
        | none => none
      | _ => none
    else match readAt h (.ptr id o) (len * ie.size) with
      | some old => growTo ie e len m (old ++ news) h
      | none => none
  | .slice id o len (.rest es) =>
    if es = ie.size then
      match h.get id with
      | some (.cells cs e') =>
        if o + (len + m) * ie.size ≤ cs.length then
          match splice cs (o + len * ie.size) news with
          | some cs' => some (.slice id o (len + m) (.rest es), h.put id (.cells cs' e'))
          | none => none
        else if o + len * ie.size = cs.length ∧ e' = e then
          match drop? o cs with
          | some old => growTo ie e len m (old ++ news) (h.drop id)
          | none => none
        else none
      | _ => none
    else none
  | .ro cs n full =>
    if m = 0 then some (.ro cs n full, h)
    else if full then match take? (n * ie.size) cs with
      | some old => growTo ie e n m (old ++ news) h
      | none => none
    else none
  | _ => none

def evAppend (tt : TT) (t t2 : Nat) (x y : AV) (h : Hp) : Option (AV × Hp) :=
  match tt t with
  | some ti => match ti.kind with
    | .slice e => match tt e with
      | some ie => match tt t2 with
        | none => none
        | some ti2 => match ti2.kind with
          | .int _ => none
          | _ =>
            if ie.size = 0 ∨ ie.bytes = 0 ∨ ¬ ie.zero.length = ie.size then none else
            match srcCells ie.size y h with
            | none => none
            | some (m, news) => appendTo ie e m news x h
      | none => none
    | _ => none
  | none => none

def evClear (tt : TT) (t : Nat) (x : AV) (h : Hp) : Option Hp :=
  match tt t with
  | some ti => match ti.kind with
    | .slice e => match tt e with
      | some ie => match x with
        | .nils => some h
        | .slice id o len _ => match len with
          | 0 => some h
          | _ => match ie.zero with
            | [] => none
            | _ => match h.get id with
              | some (.cells cs e') => match splice cs o (repeatL ie.zero len) with
                | some cs' => some (h.put id (.cells cs' e'))
                | none => none
              | _ => none
        | _ => none
      | none => none
    | _ => none
  | none => none

def evRange (tt : TT) (t : Nat) (x : AV) (h : Hp) : Option (AV × Hp) :=
  match tt t with
  | some ti => match ti.kind with
    | .string => match x with
      | .str b => some (.ptr h.fresh 0, h.new (.siter b 0))
      | _ => none
    | _ => none
  | none => none

def evNext (x : AV) (isS : Bool) (h : Hp) : Option (AV × Hp) :=
  match isS with
  | false => none
  | true => match x with
    | .ptr id 0 => match h.get id with
      | some (.siter b p) => match nth? b p with
        | none => some (.tuple [.bool (.lit false)], h)
        | some c => if c < 128 then some (.tuple [.bool (.lit true), .int .i64 (.lit (Int.ofNat p)), .int .i32 (.lit (Int.ofNat c))], h.put id (.siter b (p + 1))) else none
      | _ => none
    | _ => none

def foldMin (mx : Bool) : List AV → SE → IntKind → St → T (AV × St)
  | [], a, k, s => .ret (.int k a, s)
  | .int _ b :: xs, a, k, s => onB s (if mx then sbLt a b else sbLt b a) fun s c => if c then foldMin mx xs b k s else foldMin mx xs a k s
  | _, _, _, _ => .fail

/-- a number that is one of few: which -/
def enumT (k : IntKind) (r : SE) : Nat → Int → St → T (AV × St)
  | 0, j, s => .ret (.int k (.lit j), s)
  | n + 1, j, s => onB s (sbEq r (.lit j)) fun s b => match b with
    | true => .ret (.int k (.lit j), s)
    | false => enumT k r n (j + 1) s

def remT (s : St) (k : IntKind) (e : SE) (n : Nat) : T (AV × St) :=
  match decideB s.pc (sbLt e (.lit 0)) with
  | some false => enumT k (.rem e (.lit (Int.ofNat (n + 1)))) n 0 s
  | _ => enumT k (.rem e (.lit (Int.ofNat (n + 1)))) (n + n) (Int.negOfNat n) s

def remLit (op : BinOp) (a b : AV) : Option (IntKind × SE × Nat) :=
  match op with
  | .rem => match a with
    | .int k e => match b with
      | .int k' d => match d with
        | .lit z => match z with
          | .ofNat m => match m with
            | 0 => none
            | n + 1 => match e with
              | .lit _ => none
              | e => if k = k' ∧ n < 64 then some (k, e, n) else none
          | _ => none
        | _ => none
      | _ => none
    | _ => none
  | _ => none

/-! ### one operation that is no call of a function -/
def retV (s : St) (v : Option AV) : T (AV × St) := match v with | some v => .ret (v, s) | none => .fail
def retH (s : St) (h : Option Hp) : T (AV × St) := match h with | some h => .ret (AV.undef, { s with h := h }) | none => .fail
def retVH (s : St) (r : Option (AV × Hp)) : T (AV × St) := match r with | some (v, h) => .ret (v, { s with h := h }) | none => .fail

def evOpt (s : St) : Option Operand → Option (Option AV)
  | none => some none
  | some x => (ev s x).map some

def evParts (s : St) : List (Nat × Operand) → Option (List (Nat × AV))
  | [] => some []
  | (i, x) :: xs => match ev s x with
    | none => none
    | some a => match evParts s xs with
      | none => none
      | some as => some ((i, a) :: as)

abbrev Calls? := Nat → List AV → St → T (AV × St)

def on1 (s : St) (x : Operand) (f : AV → T (AV × St)) : T (AV × St) := match ev s x with | some v => f v | none => .fail

def evBuiltin (tt : TT) (s : St) (b : Builtin) (ts : List Nat) (args : List AV) : T (AV × St) :=
  match b, ts, args with
  | .len, [t], [x] => retV s (evLen tt t x s.h)
  | .append, [t, t2], [x, y] => retVH s (evAppend tt t t2 x y s.h)
  | .delete, [t, _], [m, k] => retH s (evDelete tt s.pc t m k s.h)
  | .clear, [t], [x] => retH s (evClear tt t x s.h)
  | .min, _, .int k a :: xs => foldMin false xs a k s
  | .max, _, .int k a :: xs => foldMin true xs a k s
  | _, _, _ => .fail

def evCall (tt : TT) (call : Calls?) (s : St) (c : Call) : T (AV × St) :=
  match evs s c.args.toList with
  | none => .fail
  | some args => match c.callee with
    | .builtin b => evBuiltin tt s b c.argTypes.toList args
    | .value f => match ev s f with
      | some (.func (.func g) fs cs) => call g (fs ++ args ++ cs) s
      | _ => .fail
    | .invoke _ _ => .fail

def evOp (tt : TT) (call : Calls?) (s : St) (op : Op) : T (AV × St) :=
  match op with
  | .move x => on1 s x fun v => .ret (v, s)
  | .assign x => on1 s x fun v => .ret (v, s)
  | .pick c a b => on1 s c fun c => match c with
    | .bool c => onB s c fun s b' => if b' then on1 s a fun v => .ret (v, s) else on1 s b fun v => .ret (v, s)
    | _ => .fail
  | .alloc t => match tt t with
    | some i => .ret (.ptr s.h.fresh 0, { s with h := s.h.new (.cells i.zero t) })
    | none => .fail
  | .box t x => on1 s x fun v => if allOne v.cells then .ret (.ptr s.h.fresh 0, { s with h := s.h.new (.cells v.cells t) }) else .fail
  | .build t parts => match evParts s parts.toList with
    | some ps => retV s (evBuild tt t ps)
    | none => .fail
  | .buildSlice t n parts => match evParts s parts.toList with
    | some ps => retVH s (evBuildSlice tt t n ps s.h)
    | none => .fail
  | .makeSlice t l c => on1 s l fun lv => match ev s c with
    | some cv => retVH s (evMakeSlice tt t lv cv s.h)
    | none => .fail
  | .load t x => on1 s x fun p => retV s (evLoad tt t p s.h)
  | .store t x y => on1 s x fun p => match ev s y with
    | some v => retH s (evStore tt t p v s.h)
    | none => .fail
  | .nilCheck x => on1 s x fun v => match v with
    | .ptr _ _ => .ret (v, s)
    | .rptr _ => .ret (v, s)
    | _ => .fail
  | .binOp op t x y _ => on1 s x fun a => match ev s y with
    | some b => match a with
      | .agg xs => match b, op with
        | .agg ys, .eql => match evEqAgg tt t xs ys with
          | some c => .ret (.bool c, s)
          | none => .fail
        | .agg ys, .neq => match evEqAgg tt t xs ys with
          | some c => .ret (.bool (sbNot c), s)
          | none => .fail
        | _, _ => .fail
      | a => match remLit op a b with
        | some (k, e, n) => remT s k e n
        | none => retV s (evBin tt t op a b)
    | none => .fail
  | .unOp op _ x => on1 s x fun v => retV s (evUn op v)
  | .convert sT dT x => on1 s x fun v => retVH s (evConvert tt sT dT v s.h)
  | .makeFunc fn fs cs => match evs s fs.toList, evs s cs.toList with
    | some f, some c => .ret (.func fn f c, s)
    | _, _ => .fail
  | .makeMap _ r => match r with
    | none => .ret (.map s.h.fresh, { s with h := s.h.new (.map [] 0) })
    | some _ => .fail
  | .slice t x lo hi mx => on1 s x fun v => match evOpt s lo, evOpt s hi, evOpt s mx with
    | some l, some h, some m => match evSlice tt t v l h m with
      | some v => .ret (v, s)
      | none => retV s (evSliceH tt t v l h m s.h)
    | _, _, _ => .fail
  | .fieldAddr t x f => on1 s x fun v => retV s (evFieldAddr tt t v f)
  | .field t x f => on1 s x fun v => retV s (evField tt t v f)
  | .indexAddr t x i => on1 s x fun v => match ev s i with
    | some i => match v with
      | .inp k ks => retV s (evInpAt tt s.pc t k ks i)
      | v => retV s (evIndexAddr tt t v i)
    | none => .fail
  | .index t x i => on1 s x fun v => match ev s i with
    | some i => retV s (evIndex tt t v i)
    | none => .fail
  | .lookup t m k ok => on1 s m fun v => match ev s k with
    | some k => retV s (evLookup tt s.pc t v k ok s.h)
    | none => .fail
  | .mapUpdate t m k x => on1 s m fun v => match ev s k, ev s x with
    | some k, some x => retH s (evMapUpdate tt s.pc t v k x s.h)
    | _, _ => .fail
  | .insert t m k x => on1 s m fun v => match ev s k, ev s x with
    | some k, some x => retH s (evMapUpdate tt s.pc t v k x s.h)
    | _, _ => .fail
  | .range t x => on1 s x fun v => retVH s (evRange tt t v s.h)
  | .next x isS => on1 s x fun v => retVH s (evNext v isS s.h)
  | .extract x i => on1 s x fun v => match v with
    | .tuple vs => retV s (nth? vs i)
    | _ => .fail
  | .call c => evCall tt call s c
  | _ => .fail

/-! ### regions, code, functions -/
/-- is the operation wanted? -/
def onGuard {α : Type} (ops : List Oper) (s : St) (o : Oper) (f : St → Bool → T α) : T α :=
  match o.guard with
  | none => f s true
  | some (j, want) => match nth? ops j with
    | some oj => match oj.dst with
      | some d => match s.slots.get d with
        | some (.bool c) => onB s c fun s b => f s (b == want)
        | some (.tuple _) => f s false
        | _ => .fail
      | none => .fail
    | none => .fail

def evOps (tt : TT) (call : Calls?) (all : List Oper) : List Oper → St → T St
  | [], s => .ret s
  | o :: rest, s => onGuard all s o fun s b =>
    if b then (evOp tt call s o.op).bind fun (v, s') => evOps tt call all rest (s'.setO o.dst v)
    else evOps tt call all rest (s.setO o.dst AV.undef)

inductive Ex where
  | normal
  | exit (id : Nat)
  | ret
  deriving DecidableEq, Inhabited

def evLoop (body : St → T (Ex × St)) : Nat → St → T (Ex × St)
  | 0, _ => .fail
  | n + 1, s => (body s).bind fun (e, s') => match e with
    | .normal => evLoop body n s'
    | e => .ret (e, s')

def evCode (tt : TT) (call : Calls?) (draw : Nat → List Oper → St → T St) (lf : Nat) : Code → St → T (Ex × St)
  | .skip, s => .ret (.normal, s)
  | .region id ops d, s =>
    if d then (draw id ops.toList s).bind fun s' => .ret (.normal, s')
    else (evOps tt call ops.toList ops.toList s).bind fun s' => .ret (.normal, s')
  | .seq a b, s => (evCode tt call draw lf a s).bind fun (e, s') => match e with
    | .normal => evCode tt call draw lf b s'
    | e => .ret (e, s')
  | .cond c x y, s => match ev s c with
    | some (.bool c) => onB s c fun s b => if b then evCode tt call draw lf x s else evCode tt call draw lf y s
    | _ => .fail
  | .block id b, s => (evCode tt call draw lf b s).bind fun (e, s') => match e with
    | .exit j => .ret (if j = id then .normal else .exit j, s')
    | e => .ret (e, s')
  | .loop b, s => evLoop (evCode tt call draw lf b) lf s
  | .exit id, s => .ret (.exit id, s)
  | .scope b, s => evCode tt call draw lf b s
  | .label _, s => .ret (.normal, s)
  | .ret, s => .ret (.ret, s)
  | _, _ => .fail

def initSlots : List AV → Nat → Tr AV → Tr AV
  | [], _, t => t
  | v :: vs, i, t => initSlots vs (i + 1) (t.put i (some v))

def evResult (tt : TT) (s : St) : ResultVar → Option AV
  | .tmp t => s.slots.get t
  | .cell a t => match s.slots.get a with
    | some p => evLoad tt t p s.h
    | none => none

def evResults (tt : TT) (s : St) : List ResultVar → Option (List AV)
  | [] => some []
  | r :: rs => match evResult tt s r with
    | none => none
    | some v => match evResults tt s rs with
      | none => none
      | some vs => some (v :: vs)

def evFn (tt : TT) (ft : Nat → Option Func) (hook : Nat → Option (List AV → St → T (AV × St))) (draw : Calls? → Nat → Nat → List Oper → St → T St) (lf : Nat) : Nat → Calls?
  | 0, _, _, _ => .fail
  | n + 1, g, args, s =>
    match hook g with
    | some h => h args s
    | none => match ft g with
      | none => .fail
      | some fn => match fn.body with
        | none => .fail
        | some c =>
          (evCode tt (evFn tt ft hook draw lf n) (draw (evFn tt ft hook draw lf n) g) lf c { s with slots := initSlots args 0 .nil }).bind fun (e, s') =>
            match e with
            | .exit _ => .fail
            | _ => match evResults tt s' fn.results.toList with
              | some [v] => .ret (v, { s' with slots := s.slots })
              | some vs => .ret (.tuple vs, { s' with slots := s.slots })
              | none => .fail

end
end Go.As

/-
  AS, part 0: tries.
-/
namespace Go.As

/-! ### tries -/
inductive Tr (α : Type) where
  | nil
  | node (v : Option α) (l r : Tr α)
  deriving Inhabited

/-- the kernel's way through a trie: by the recursors alone -/
noncomputable def Tr.get {α : Type} (t : Tr α) (k : Nat) : Option α :=
  Tr.rec (motive := fun _ => Nat → Option α) (fun _ => none)
    (fun v _ _ il ir k => Nat.rec (motive := fun _ => Option α) v (fun k' _ => Bool.rec (motive := fun _ => Option α) (ir (Nat.div k' 2)) (il (Nat.div k' 2)) (Nat.beq (Nat.mod k' 2) 0)) k) t k

def Tr.val {α : Type} : Tr α → Option α
  | .nil => none
  | .node v _ _ => v
def Tr.left {α : Type} : Tr α → Tr α
  | .nil => .nil
  | .node _ l _ => l
def Tr.right {α : Type} : Tr α → Tr α
  | .nil => .nil
  | .node _ _ r => r

/-- a node, its child reckoned first -/
noncomputable def Tr.mkL {α : Type} (v : Option α) (x r : Tr α) : Tr α := Tr.rec (motive := fun _ => Tr α) (.node v .nil r) (fun a b c _ _ => .node v (.node a b c) r) x
noncomputable def Tr.mkR {α : Type} (v : Option α) (l x : Tr α) : Tr α := Tr.rec (motive := fun _ => Tr α) (.node v l .nil) (fun a b c _ _ => .node v l (.node a b c)) x

noncomputable def Tr.putF {α : Type} (f : Nat) : Tr α → Nat → Option α → Tr α :=
  Nat.rec (motive := fun _ => Tr α → Nat → Option α → Tr α) (fun t _ _ => t)
    (fun _ ih t k x => Tr.rec (motive := fun _ => Tr α)
      (Nat.rec (motive := fun _ => Tr α) (.node x .nil .nil) (fun k' _ => Bool.rec (motive := fun _ => Tr α) (Tr.mkR none .nil (ih .nil (Nat.div k' 2) x)) (Tr.mkL none (ih .nil (Nat.div k' 2) x) .nil) (Nat.beq (Nat.mod k' 2) 0)) k)
      (fun v l r _ _ => Nat.rec (motive := fun _ => Tr α) (.node x l r) (fun k' _ => Bool.rec (motive := fun _ => Tr α) (Tr.mkR v l (ih r (Nat.div k' 2) x)) (Tr.mkL v (ih l (Nat.div k' 2) x) r) (Nat.beq (Nat.mod k' 2) 0)) k) t) f

noncomputable def Tr.put {α : Type} (t : Tr α) (k : Nat) (v : Option α) : Tr α := Tr.putF (Nat.succ k) t k v

theorem beq_dec (a b : Nat) : Nat.beq a b = decide (a = b) := by
  rw [Bool.eq_iff_iff]
  simp

theorem bool_rec_if {β : Sort _} (a b : β) (c : Nat) : Bool.rec (motive := fun _ => β) a b (Nat.beq c 0) = if c = 0 then b else a := by
  by_cases h : c = 0
  · subst h; rfl
  · rw [if_neg h]
    have : Nat.beq c 0 = false := by rw [beq_dec]; simpa using h
    rw [this]

theorem Tr.get_node {α : Type} (v : Option α) (l r : Tr α) (k : Nat) :
    (Tr.node v l r).get k = if k = 0 then v else if (k - 1) % 2 = 0 then l.get ((k - 1) / 2) else r.get ((k - 1) / 2) := by
  cases k with
  | zero => rfl
  | succ k =>
    simp only [Nat.add_sub_cancel, Nat.succ_ne_zero, if_false]
    exact bool_rec_if _ _ _

theorem Tr.get_parts {α : Type} (t : Tr α) (k : Nat) :
    t.get k = if k = 0 then t.val else if (k - 1) % 2 = 0 then t.left.get ((k - 1) / 2) else t.right.get ((k - 1) / 2) := by
  cases t with
  | nil =>
    have h : ∀ j, (Tr.nil : Tr α).get j = none := fun _ => rfl
    simp [h, Tr.val, Tr.left, Tr.right]
  | node v l r => rw [Tr.get_node]; rfl

theorem Tr.mkL_eq {α : Type} (v : Option α) (x r : Tr α) : Tr.mkL v x r = .node v x r := by cases x <;> rfl
theorem Tr.mkR_eq {α : Type} (v : Option α) (l x : Tr α) : Tr.mkR v l x = .node v l x := by cases x <;> rfl

theorem Tr.putF_zero {α : Type} (f : Nat) (t : Tr α) (v : Option α) : Tr.putF (f + 1) t 0 v = .node v t.left t.right := by cases t <;> rfl
theorem Tr.putF_succ {α : Type} (f : Nat) (t : Tr α) (k : Nat) (v : Option α) : Tr.putF (f + 1) t (k + 1) v = if k % 2 = 0 then .node t.val (Tr.putF f t.left (k / 2) v) t.right else .node t.val t.left (Tr.putF f t.right (k / 2) v) := by
  rw [← Tr.mkL_eq, ← Tr.mkR_eq]
  cases t <;> exact bool_rec_if _ _ _

theorem Tr.get_putF {α : Type} : ∀ (f : Nat) (t : Tr α) (k : Nat) (v : Option α) (j : Nat), k < f → (Tr.putF f t k v).get j = if j = k then v else t.get j := by
  intro f
  induction f with
  | zero => intro t k v j hk; omega
  | succ f ih =>
    intro t k v j hk
    cases k with
    | zero =>
      rw [Tr.putF_zero, Tr.get_node, Tr.get_parts t]
      split <;> simp_all
    | succ k =>
      rw [Tr.putF_succ, Tr.get_parts t j]
      split
      · rename_i h
        rw [Tr.get_node]
        by_cases hj : j = 0
        · subst hj; simp
        · rw [if_neg hj, if_neg hj]
          by_cases h2 : (j - 1) % 2 = 0
          · rw [if_pos h2, if_pos h2, ih _ _ _ _ (by omega)]
            by_cases h3 : j = k + 1
            · subst h3; simp
            · rw [if_neg h3, if_neg (by omega)]
          · rw [if_neg h2, if_neg h2, if_neg (by intro h3; subst h3; simp at h2; omega)]
      · rename_i h
        rw [Tr.get_node]
        by_cases hj : j = 0
        · subst hj; simp
        · rw [if_neg hj, if_neg hj]
          by_cases h2 : (j - 1) % 2 = 0
          · rw [if_pos h2, if_pos h2, if_neg (by intro h3; subst h3; simp at h2; omega)]
          · rw [if_neg h2, if_neg h2, ih _ _ _ _ (by omega)]
            by_cases h3 : j = k + 1
            · subst h3; simp
            · rw [if_neg h3, if_neg (by omega)]

theorem Tr.get_put {α : Type} (t : Tr α) (k : Nat) (v : Option α) (j : Nat) : (t.put k v).get j = if j = k then v else t.get j :=
  Tr.get_putF (Nat.succ k) t k v j (Nat.lt_succ_self _)


end Go.As

import Derived.Test.YtppmloolcbpkgaaGreatDoorAsCode2
/-
  AS, part 19: a part of a heap steps, the rest stays.
-/
namespace Go.As

def Tr.over {α : Type} : Tr α → Tr α → Tr α
  | .nil, b => b
  | .node v l r, b => .node (match v with | some x => some x | none => b.val) (Tr.over l b.left) (Tr.over r b.right)

def Tr.minus {α : Type} : Tr α → Tr α → Tr α
  | .nil, b => b
  | .node v l r, b => .node (match v with | some _ => none | none => b.val) (Tr.minus l b.left) (Tr.minus r b.right)

theorem Tr.get_over {α : Type} : ∀ (a b : Tr α) (k : Nat), (Tr.over a b).get k = match a.get k with | some x => some x | none => b.get k
  | .nil, b, k => by simp [Tr.over, Tr.get]
  | .node v l r, b, k => by
    simp only [Tr.over]
    rw [Tr.get_node, Tr.get_node, Tr.get_parts b k]
    by_cases h0 : k = 0
    · simp only [if_pos h0]
    · simp only [if_neg h0]
      by_cases h1 : (k - 1) % 2 = 0
      · simp only [if_pos h1]; exact Tr.get_over l b.left _
      · simp only [if_neg h1]; exact Tr.get_over r b.right _

theorem Tr.get_minus {α : Type} : ∀ (a b : Tr α) (k : Nat), (Tr.minus a b).get k = match a.get k with | some _ => none | none => b.get k
  | .nil, b, k => by simp [Tr.minus, Tr.get]
  | .node v l r, b, k => by
    simp only [Tr.minus]
    rw [Tr.get_node, Tr.get_node, Tr.get_parts b k]
    by_cases h0 : k = 0
    · simp only [if_pos h0]
    · simp only [if_neg h0]
      by_cases h1 : (k - 1) % 2 = 0
      · simp only [if_pos h1]; exact Tr.get_minus l b.left _
      · simp only [if_neg h1]; exact Tr.get_minus r b.right _

/-- a step, without a word of which ids are new -/
structure Stw (E : En) (H : Hp) (w : World) (E' : En) (H' : Hp) (w' : World) : Prop where
  ρ : E'.ρ = E.ρ
  dm : ∀ id, E.dm id → E'.dm id
  θ : ∀ id, E.dm id → E'.θ id = E.θ id
  κ : ∀ id, E.dm id → E'.κ id = E.κ id
  ro : ∀ b, E.ro b → E'.ro b
  roe : ∀ b, E'.ro b → E.ro b
  os : w'.os = w.os
  tape : w'.tape = w.tape
  output : w'.output = w.output
  size : w.heap.size ≤ w'.heap.size
  keep : ∀ b, b < w.heap.size → (∀ id o, H.get id = some o → (E.θ id).1 ≠ b) → w'.heap[b]? = w.heap[b]?
  own : ∀ id o, H'.get id = some o → (E'.θ id).1 < w.heap.size → ∃ id0 o0, H.get id0 = some o0 ∧ (E.θ id0).1 = (E'.θ id).1

section
variable {E E' E'' : En} {H H' H'' : Hp} {w w' w'' : World}

theorem Stp.weak (s : Stp E H w E' H' w') : Stw E H w E' H' w' := ⟨s.ρ, s.dm, s.θ, s.κ, s.ro, s.roe, s.os, s.tape, s.output, s.size, s.keep, s.own⟩
theorem Stw.strong (s : Stw E H w E' H' w') (h1 : H.next ≤ H'.next) (h2 : H'.res = none) (h3 : ∀ id, E'.dm id → E.dm id ∨ (H.next ≤ id ∧ id < H'.next)) : Stp E H w E' H' w' :=
  ⟨s.ρ, s.dm, s.θ, s.κ, s.ro, s.roe, h1, .inl h2, fun id h => (h3 id h).elim .inl fun h => .inr (.inl h), s.os, s.tape, s.output, s.size, s.keep, s.own⟩

theorem Stw.trans (a : Stw E H w E' H' w') (b : Stw E' H' w' E'' H'' w'') : Stw E H w E'' H'' w'' where
  ρ := b.ρ.trans a.ρ
  dm := fun id h => b.dm id (a.dm id h)
  θ := fun id h => (b.θ id (a.dm id h)).trans (a.θ id h)
  κ := fun id h => (b.κ id (a.dm id h)).trans (a.κ id h)
  ro := fun x h => b.ro x (a.ro x h)
  roe := fun x h => a.roe x (b.roe x h)
  os := b.os.trans a.os
  tape := b.tape.trans a.tape
  output := b.output.trans a.output
  size := Nat.le_trans a.size b.size
  keep := fun x hx hn => by
    rw [b.keep x (Nat.lt_of_lt_of_le hx a.size) ?_, a.keep x hx hn]
    intro id o ho he
    obtain ⟨id0, o0, h0, he0⟩ := a.own id o ho (by rw [he]; exact hx)
    exact hn id0 o0 h0 (he0.trans he)
  own := fun id o ho hlt => by
    obtain ⟨id1, o1, h1, he1⟩ := b.own id o ho (Nat.lt_of_lt_of_le hlt a.size)
    obtain ⟨id0, o0, h0, he0⟩ := a.own id1 o1 h1 (by rw [he1]; exact hlt)
    exact ⟨id0, o0, h0, he0.trans he1⟩

theorem Stw.keeps [Glob] (s : Stw E H w E' H' w') (r : RelH E H w) : Keeps E w.heap E' w'.heap :=
  ⟨s.ρ, s.dm, s.θ, s.κ, s.ro, fun b hb => s.keep b (r.rob b hb) fun id o ho he => (r.live id o ho).2.2 (by rw [he]; exact hb)⟩

/-- a part of the heap -/
theorem RelH.part [Glob] {H1 : Hp} (r : RelH E H w) (sub : ∀ id o, H1.get id = some o → H.get id = some o) (hn : H.next ≤ H1.next) (hr : ∀ q, H1.res = some q → q < H1.next ∧ ¬ E.dm q) : RelH E H1 w :=
  ⟨fun id h => r.fresh id (Nat.le_trans hn h), hr, fun id o h => r.live id o (sub id o h), fun i j o o' h h' e => r.inj i j o o' (sub _ _ h) (sub _ _ h') e, r.rob, r.glob⟩

/-- a part steps, the rest stays -/
theorem frame0 [Glob] {H1 H1' : Hp} (r : RelH E H w) (sub : ∀ id o, H1.get id = some o → H.get id = some o) (st : Stp E H1 w E' H1' w') (r' : RelH E' H1' w') (n : Nat) (hn : ∀ id, n ≤ id → ¬ E'.dm id) :
    ∃ H' : Hp, H' = ⟨Tr.over H1'.m (Tr.minus H1.m H.m), n, none⟩ ∧ (∀ id o, H1'.get id = some o → H'.get id = some o) ∧ (∀ id o, H.get id = some o → H1.get id = none → H'.get id = some o) ∧ RelH E' H' w' ∧ Stw E H w E' H' w' := by
  have hnot : ∀ id o, H.get id = some o → H1.get id = none → H1'.get id = none := by
    intro id o h h1
    cases h2 : H1'.get id with
    | none => rfl
    | some o' =>
      exfalso
      have hd := (r.live id o h).1
      have hθ := st.θ id hd
      obtain ⟨id0, o0, g1, g2⟩ := st.own id o' h2 (by rw [hθ]; exact live_lt r h)
      have := r.inj id0 id o0 o (sub _ _ g1) h (by rw [g2, hθ])
      subst this
      rw [h1] at g1
      simp at g1
  have hget : ∀ id, (⟨Tr.over H1'.m (Tr.minus H1.m H.m), n, none⟩ : Hp).get id = match H1'.get id with | some x => some x | none => match H1.get id with | some _ => none | none => H.get id := by
    intro id
    simp only [Hp.get, Tr.get_over, Tr.get_minus]
    cases H1'.m.get id with
    | some x => rfl
    | none => cases H1.m.get id <;> rfl
  have hcase : ∀ id o, (⟨Tr.over H1'.m (Tr.minus H1.m H.m), n, none⟩ : Hp).get id = some o → H1'.get id = some o ∨ (H1'.get id = none ∧ H1.get id = none ∧ H.get id = some o) := by
    intro id o h
    rw [hget] at h
    cases h1 : H1'.get id with
    | some x => rw [h1] at h; exact .inl h
    | none =>
      rw [h1] at h
      cases h2 : H1.get id with
      | some x => rw [h2] at h; simp at h
      | none => rw [h2] at h; exact .inr ⟨rfl, rfl, h⟩
  have hkeep : ∀ id o, H1.get id = none → H.get id = some o → w'.heap[(E.θ id).1]? = w.heap[(E.θ id).1]? := by
    intro id o h1 h
    refine st.keep _ (live_lt r h) fun id0 o0 h0 he => ?_
    have := r.inj id0 id o0 o (sub _ _ h0) h he
    subst this
    rw [h1] at h0
    simp at h0
  have k : Keeps E w.heap E' w'.heap := ⟨st.ρ, st.dm, st.θ, st.κ, st.ro, fun b hb => st.keep b (r.rob b hb) fun id o ho he => (r.live id o (sub _ _ ho)).2.2 (by rw [he]; exact hb)⟩
  refine ⟨_, rfl, fun id o h => by rw [hget, h], fun id o h h1 => by rw [hget, hnot id o h h1, h1]; exact h, ⟨hn, by simp, ?_, ?_, r'.rob, r'.glob⟩, ⟨st.ρ, st.dm, st.θ, st.κ, st.ro, st.roe, st.os, st.tape, st.output, st.size, ?_, ?_⟩⟩
  · intro id o h
    rcases hcase id o h with h1 | ⟨h1, h2, h3⟩
    · exact r'.live id o h1
    · obtain ⟨g1, g2, g3⟩ := r.live id o h3
      refine ⟨st.dm id g1, g2.keep k g1 (hkeep id o h2 h3), ?_⟩
      rw [st.θ id g1]
      intro hr
      exact g3 (st.roe _ hr)
  · intro i j o o' h h' he
    rcases hcase i o h with h1 | ⟨h1, h2, h3⟩ <;> rcases hcase j o' h' with g1 | ⟨g1, g2, g3⟩
    · exact r'.inj i j o o' h1 g1 he
    · exfalso
      rw [st.θ j (r.live j o' g3).1] at he
      obtain ⟨id0, o0, f1, f2⟩ := st.own i o h1 (by rw [he]; exact live_lt r g3)
      have := r.inj id0 j o0 o' (sub _ _ f1) g3 (f2.trans he)
      subst this
      rw [g2] at f1
      simp at f1
    · exfalso
      rw [st.θ i (r.live i o h3).1] at he
      obtain ⟨id0, o0, f1, f2⟩ := st.own j o' g1 (by rw [← he]; exact live_lt r h3)
      have := r.inj id0 i o0 o (sub _ _ f1) h3 (f2.trans he.symm)
      subst this
      rw [h2] at f1
      simp at f1
    · rw [st.θ i (r.live i o h3).1, st.θ j (r.live j o' g3).1] at he
      exact r.inj i j o o' h3 g3 he
  · intro b hb hno
    exact st.keep b hb fun id o h => hno id o (sub _ _ h)
  · intro id o h hlt
    rcases hcase id o h with h1 | ⟨h1, h2, h3⟩
    · obtain ⟨id0, o0, f1, f2⟩ := st.own id o h1 hlt
      exact ⟨id0, o0, sub _ _ f1, f2⟩
    · exact ⟨id, o, h3, by rw [st.θ id (r.live id o h3).1]⟩

theorem frame [Glob] {H1 H1' : Hp} (r : RelH E H w) (sub : ∀ id o, H1.get id = some o → H.get id = some o) (st : Stp E H1 w E' H1' w') (r' : RelH E' H1' w') (n : Nat) (hn : ∀ id, n ≤ id → ¬ E'.dm id) :
    ∃ H' : Hp, H'.next = n ∧ H'.res = none ∧ (∀ id o, H1'.get id = some o → H'.get id = some o) ∧ (∀ id o, H.get id = some o → H1.get id = none → H'.get id = some o) ∧ RelH E' H' w' ∧ Stw E H w E' H' w' := by
  obtain ⟨H', h0, h1, h2, h3, h4⟩ := frame0 r sub st r' n hn
  exact ⟨H', by rw [h0], by rw [h0], h1, h2, h3, h4⟩

end
end Go.As

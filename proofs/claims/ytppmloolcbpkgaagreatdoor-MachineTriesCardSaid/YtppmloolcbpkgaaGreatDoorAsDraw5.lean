import Derived.Test.YtppmloolcbpkgaaGreatDoorAsDraw4
/-
  AS, part 23: the run, step by step.
-/
namespace Go.As

section
variable {P : Program}

/-- what one step of the run shows -/
def StepF [Glob] (P : Program) (ρ : Nat → Int) (ops : Array Oper) (base N : Nat) (x : Item) (d : DSt) (v : AV) (ob : Option AObj) (d1 : DSt) : Prop :=
  ∃ h mm rest, d.stg = (h, mm) :: rest ∧ match x.k with
    | .pa => d1.stg = d.stg ∧ ∃ HA, Act1 P ρ ops x.o (only d.slots x.rd) ⟨.nil, N, some (base + x.i)⟩ v HA ∧ HA.next = N ∧ ob = HA.get (base + x.i)
    | .e => ob = none ∧ ∃ hn, d1.stg = (hn, mm ||| x.m) :: d.stg ∧ hn.next ≤ N ∧ hn.res = none ∧ Act1 P ρ ops x.o (only d.slots x.rd) (addBlks base x.m mm d.blks h) v hn
    | .r => ob = none ∧ d1.stg = d.stg

theorem dStep_ok [Glob] {tt : TT} (htt : TTok P tt) {call : Calls?} (hc : CallOk P call) {ops : Array Oper} {base N : Nat} {pc : List (SB × Bool)} {ρ : Nat → Int} (hp : PcOk ρ pc) {x : Item} {d d1 : DSt} (h : (dStep tt call ops.toList base N pc x d).leaf ρ = some d1) :
    ∃ v ob, d1.slots = slotO d.slots x.o.dst v ∧ d1.vs = v :: d.vs ∧ d1.obs = ob :: d.obs ∧ d1.blks = (match ob with | some b => (x.i, b) :: d.blks | none => d.blks) ∧ StepF P ρ ops base N x d v ob d1 := by
  unfold dStep at h
  split at h
  · simp [T.leaf] at h
  · rename_i h0 mm rest hs
    split at h
    · rename_i hk
      obtain ⟨⟨v, s'⟩, h1, h2⟩ := T.leaf_bind h
      have ha := ev1_ok htt hc (s := ⟨only d.slots x.rd, ⟨.nil, N, some (base + x.i)⟩, pc⟩) hp h1
      simp only at h2
      split at h2
      · rename_i hn
        have := leaf_ret h2
        subst this
        refine ⟨v, s'.h.get (base + x.i), rfl, rfl, rfl, ?_, h0, mm, rest, hs, ?_⟩
        · cases s'.h.get (base + x.i) <;> rfl
        · rw [hk]
          exact ⟨rfl, s'.h, ha, hn, rfl⟩
      · simp [T.leaf] at h2
    · rename_i hk
      obtain ⟨⟨v, s'⟩, h1, h2⟩ := T.leaf_bind h
      have ha := ev1_ok htt hc (s := ⟨only d.slots x.rd, addBlks base x.m mm d.blks h0, pc⟩) hp h1
      simp only at h2
      split at h2
      · rename_i hn
        have := leaf_ret h2
        subst this
        refine ⟨v, none, rfl, rfl, rfl, rfl, h0, mm, rest, hs, ?_⟩
        rw [hk]
        exact ⟨rfl, s'.h, by rw [hs], hn.1, hn.2, ha⟩
      · simp [T.leaf] at h2
    · rename_i hk
      obtain ⟨⟨v, s'⟩, h1, h2⟩ := T.leaf_bind h
      have := leaf_ret h2
      subst this
      refine ⟨v, none, rfl, rfl, rfl, rfl, h0, mm, rest, hs, ?_⟩
      rw [hk]
      exact ⟨rfl, rfl⟩

theorem StepF.stg [Glob] {ρ : Nat → Int} {ops : Array Oper} {base N : Nat} {x : Item} {d d1 : DSt} {v : AV} {ob : Option AObj} (h : StepF P ρ ops base N x d v ob d1) : ∃ pre, d1.stg = pre ++ d.stg ∧ pre.length = countE [x] := by
  obtain ⟨h0, mm, rest, hs, h1⟩ := h
  cases hk : x.k <;> rw [hk] at h1
  · exact ⟨[], by rw [h1.1]; rfl, by simp [countE, hk]⟩
  · obtain ⟨_, hn, h2, _⟩ := h1
    exact ⟨[(hn, mm ||| x.m)], by rw [h2]; rfl, by simp [countE, hk]⟩
  · exact ⟨[], by rw [h1.2]; rfl, by simp [countE, hk]⟩

theorem StepF.nxt [Glob] {ρ : Nat → Int} {ops : Array Oper} {base N : Nat} {x : Item} {d d1 : DSt} {v : AV} {ob : Option AObj} (h : StepF P ρ ops base N x d v ob d1) (hh : ∀ q ∈ d.stg, q.1.next ≤ N ∧ q.1.res = none) : ∀ q ∈ d1.stg, q.1.next ≤ N ∧ q.1.res = none := by
  obtain ⟨h0, mm, rest, hs, h1⟩ := h
  cases hk : x.k <;> rw [hk] at h1
  · rw [h1.1]; exact hh
  · obtain ⟨_, hn, h2, h3, h4, _⟩ := h1
    rw [h2]
    intro q hq
    rcases List.mem_cons.1 hq with rfl | hq
    · exact ⟨h3, h4⟩
    · exact hh q hq
  · rw [h1.2]; exact hh

/-- what the run shows -/
structure RunF [Glob] (P : Program) (ρ : Nat → Int) (ops : Array Oper) (base N : Nat) (xs : List Item) (d d' : DSt) : Prop where
  vs : ∃ pre, d'.vs = pre ++ d.vs ∧ pre.length = xs.length
  obs : ∃ pre, d'.obs = pre ++ d.obs ∧ pre.length = xs.length
  stg : ∃ pre, d'.stg = pre ++ d.stg ∧ pre.length = countE xs
  blk : ∀ a b, (a, b) ∈ d'.blks → (a, b) ∈ d.blks ∨ ∃ p x, xs[p]? = some x ∧ x.i = a ∧ d'.obs.reverse[d.obs.length + p]? = some (some b)
  blk2 : ∀ p x b, xs[p]? = some x → d'.obs.reverse[d.obs.length + p]? = some (some b) → (x.i, b) ∈ d'.blks
  blk3 : ∀ q, q ∈ d.blks → q ∈ d'.blks
  slot : ∀ t x, d'.slots.get t = some x → (∃ p y, xs[p]? = some y ∧ y.o.dst = some t ∧ d'.vs.reverse[d.vs.length + p]? = some x) ∨ (d.slots.get t = some x ∧ ∀ y ∈ xs, y.o.dst ≠ some t)
  same : ∀ t, (∀ y ∈ xs, y.o.dst ≠ some t) → d'.slots.get t = d.slots.get t
  nxt : (∀ q ∈ d.stg, q.1.next ≤ N ∧ q.1.res = none) → ∀ q ∈ d'.stg, q.1.next ≤ N ∧ q.1.res = none
  at_ : ∀ p x, xs[p]? = some x → ∃ dp dp1 v ob pre, StepF P ρ ops base N x dp v ob dp1 ∧ d'.vs.reverse[d.vs.length + p]? = some v ∧ d'.obs.reverse[d.obs.length + p]? = some ob ∧ d'.stg = pre ++ dp1.stg ∧ dp.stg.length = d.stg.length + countE (xs.take p) ∧
    (∀ q, q ∈ dp.blks → q ∈ d'.blks) ∧ (∀ t, (∀ y ∈ xs.drop p, y.o.dst ≠ some t) → d'.slots.get t = dp.slots.get t) ∧
    (∀ t z, dp.slots.get t = some z → (∃ p' y, p' < p ∧ xs[p']? = some y ∧ y.o.dst = some t ∧ d'.vs.reverse[d.vs.length + p']? = some z) ∨ (d.slots.get t = some z ∧ ∀ y ∈ xs.take p, y.o.dst ≠ some t))

theorem rev_at {α : Type} {l pre l0 : List α} {v : α} (h : l = pre ++ v :: l0) : l.reverse[l0.length]? = some v := by
  subst h
  simp

theorem countE_cons (x : Item) (xs : List Item) : countE (x :: xs) = countE [x] + countE xs := by
  simp only [countE]
  cases x.k <;> simp <;> omega

theorem dRun_ok [Glob] {tt : TT} (htt : TTok P tt) {call : Calls?} (hc : CallOk P call) {ops : Array Oper} {base N : Nat} {pc : List (SB × Bool)} {ρ : Nat → Int} (hp : PcOk ρ pc) : ∀ (xs : List Item) {d d' : DSt}, (dRun tt call ops.toList base N pc xs d).leaf ρ = some d' → RunF P ρ ops base N xs d d'
  | [], d, d', h => by
    have := leaf_ret h
    subst this
    exact ⟨⟨[], rfl, rfl⟩, ⟨[], rfl, rfl⟩, ⟨[], rfl, rfl⟩, fun a b h => .inl h, fun p x b hh => by simp at hh, fun q h => h, fun t x h => .inr ⟨h, by simp⟩, fun t _ => rfl, fun h => h, fun p x hh => by simp at hh⟩
  | x :: xs, d, d', h => by
    simp only [dRun] at h
    obtain ⟨d1, h1, h2⟩ := T.leaf_bind h
    obtain ⟨v, ob, e1, e2, e3, e4, hF⟩ := dStep_ok htt hc hp h1
    obtain ⟨⟨pv, v1, v2⟩, ⟨po, o1, o2⟩, ⟨ps, s1, s2⟩, b1, b2, b3, sl, sm, nx, hat⟩ := dRun_ok htt hc hp xs h2
    obtain ⟨qs, t1, t2⟩ := hF.stg
    have hv0 : d'.vs.reverse[d.vs.length]? = some v := rev_at (by rw [v1, e2])
    have ho0 : d'.obs.reverse[d.obs.length]? = some ob := rev_at (by rw [o1, e3])
    have hvl : d1.vs.length = d.vs.length + 1 := by rw [e2]; rfl
    have hol : d1.obs.length = d.obs.length + 1 := by rw [e3]; rfl
    have hb0 : ∀ q, q ∈ d.blks → q ∈ d1.blks := by
      intro q hq
      rw [e4]
      cases ob with
      | none => exact hq
      | some b => exact List.mem_cons_of_mem _ hq
    have hsh : ∀ (p n : Nat), n + 1 + p = n + (p + 1) := by intro p n; omega
    refine ⟨⟨pv ++ [v], by rw [v1, e2]; simp, by simp [v2]⟩, ⟨po ++ [ob], by rw [o1, e3]; simp, by simp [o2]⟩, ⟨ps ++ qs, by rw [s1, t1]; simp, by rw [List.length_append, countE_cons, s2, t2]; omega⟩, ?_, ?_, fun q hq => b3 q (hb0 q hq), ?_, ?_, fun hh => nx (hF.nxt hh), ?_⟩
    · intro a b hab
      rcases b1 a b hab with hh | ⟨p, y, g1, g2, g3⟩
      · rw [e4] at hh
        cases ob with
        | none => exact .inl hh
        | some c =>
          simp only [List.mem_cons, Prod.mk.injEq] at hh
          rcases hh with ⟨rfl, rfl⟩ | hh
          · exact .inr ⟨0, x, rfl, rfl, ho0⟩
          · exact .inl hh
      · exact .inr ⟨p + 1, y, by simpa using g1, g2, by rw [← hsh, ← hol]; exact g3⟩
    · intro p y b hy hb
      cases p with
      | zero =>
        simp at hy
        subst hy
        rw [Nat.add_zero, ho0] at hb
        simp at hb
        subst hb
        exact b3 _ (by rw [e4]; simp)
      | succ p =>
        refine b2 p y b (by simpa using hy) ?_
        rw [hol, hsh]
        exact hb
    · intro t y hy
      rcases sl t y hy with ⟨p, z, g1, g2, g3⟩ | ⟨g1, g2⟩
      · exact .inl ⟨p + 1, z, by simpa using g1, g2, by rw [← hsh, ← hvl]; exact g3⟩
      · rw [e1, slotO_get] at g1
        split at g1
        · rename_i hd
          simp at g1
          subst g1
          exact .inl ⟨0, x, rfl, hd, hv0⟩
        · rename_i hd
          refine .inr ⟨g1, fun z hz => ?_⟩
          rcases List.mem_cons.1 hz with rfl | hz
          · exact hd
          · exact g2 z hz
    · intro t ht
      rw [sm t fun y hy => ht y (by simp [hy]), e1, slotO_get, if_neg (ht x (by simp))]
    · intro p y hy
      cases p with
      | zero =>
        simp at hy
        subst hy
        refine ⟨d, d1, v, ob, ps, hF, hv0, ho0, s1, by simp [countE], fun q hq => b3 q (hb0 q hq), fun t ht => ?_, fun t z hz => .inr ⟨hz, by simp⟩⟩
        rw [sm t fun y hy => ht y (by simp [hy]), e1, slotO_get, if_neg (ht x (by simp))]
      | succ p =>
        obtain ⟨dp, dp1, v', ob', pre, g1, g2, g3, g4, g5, g6, g7, g8⟩ := hat p y (by simpa using hy)
        refine ⟨dp, dp1, v', ob', pre, g1, by rw [← hsh, ← hvl]; exact g2, by rw [← hsh, ← hol]; exact g3, g4, ?_, g6, fun t ht => g7 t (by simpa using ht), fun t z hz => ?_⟩
        · rw [g5, List.take_succ_cons, countE_cons, t1, List.length_append, t2]
          omega
        · rcases g8 t z hz with ⟨p', y', q1, q2, q3, q4⟩ | ⟨q1, q2⟩
          · exact .inl ⟨p' + 1, y', by omega, by simpa using q2, q3, by rw [← hsh, ← hvl]; exact q4⟩
          · rw [e1, slotO_get] at q1
            split at q1
            · rename_i hd
              simp at q1
              subst q1
              exact .inl ⟨0, x, by omega, rfl, hd, hv0⟩
            · rename_i hd
              refine .inr ⟨q1, fun u hu => ?_⟩
              rw [List.take_succ_cons] at hu
              rcases List.mem_cons.1 hu with rfl | hu
              · exact hd
              · exact q2 u hu

end
end Go.As

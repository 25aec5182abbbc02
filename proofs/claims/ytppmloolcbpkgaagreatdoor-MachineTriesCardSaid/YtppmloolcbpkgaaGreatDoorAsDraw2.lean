import Derived.Test.YtppmloolcbpkgaaGreatDoorAsDraw1
/-
  AS, part 20: a region in any order its edges allow.
-/
namespace Go.As

section
variable {P : Program}

/-- what one operation does, read off its own slots and its own part of the heap -/
def Act1 [Glob] (P : Program) (ρ : Nat → Int) (ops : Array Oper) (o : Oper) (S : Tr AV) (H : Hp) (v : AV) (H' : Hp) : Prop :=
  ∀ (E : En) (a : Act) (w : World), E.ρ = ρ → RelH E H w → SR E w.heap S a →
    (Region.wanted o (yielded ops a.tmps) = false ∧ v = AV.undef ∧ H' = H) ∨
    (Region.wanted o (yielded ops a.tmps) = true ∧ OpW P o a w (fun u w' => ∃ E', Stp E H w E' H' w' ∧ RelH E' H' w' ∧ VR E' w'.heap v u))

/-- an operation done -/
theorem Act1.wpOp [Glob] {ρ : Nat → Int} {ops : Array Oper} {o : Oper} {S : Tr AV} {H H' : Hp} {v : AV} (h : Act1 P ρ ops o S H v H') {E : En} {a : Act} {w : World} (hρ : E.ρ = ρ) (r : RelH E H w) (sr : SR E w.heap S a)
    {i : Nat} (ho : ops[i]? = some o) {K : Act → World → Prop} {Q : Exit → Act → World → Prop}
    (hk : ∀ (u : Value) (E' : En) (w' : World), Stp E H w E' H' w' → RelH E' H' w' → VR E' w'.heap v u → K (a.put o.dst u) w') : wpOp P ops Q i K a w := by
  unfold Go.wpOp
  simp only [ho]
  rcases h E a w hρ r sr with ⟨h1, rfl, rfl⟩ | ⟨h1, h2⟩
  · rw [h1]
    simp only [Bool.false_eq_true, if_false]
    exact hk undef E w (Stp.refl _ _ _) r undef_VR
  · rw [h1]
    simp only [if_true]
    exact .inl (h2 _ _ fun u w' ⟨E', q1, q2, q3⟩ => hk u E' w' q1 q2 q3)

inductive Kind where
  | pa
  | e
  | r
  deriving DecidableEq

structure Plan [Glob] (P : Program) (ρ : Nat → Int) (ops : Array Oper) (slots0 : Tr AV) (H0 : Hp) where
  base : Nat
  bf : Nat → Nat → Bool
  kd : Nat → Kind
  S : Nat → Tr AV
  val : Nat → AV
  st : Nat → Nat
  nE : Nat
  hp : Nat → Hp
  un : Nat → Nat → Bool
  blk : Nat → Option AObj
  gen : ∀ i j, bf i j = true → ∃ (o : Oper) (e : Edge), ops[j]? = some o ∧ e ∈ o.after ∧ Region.binds .any e = true ∧ (e.on = i ∨ bf i e.on = true)
  back : ∀ (j : Nat) (o : Oper), ops[j]? = some o → ∀ e ∈ o.after, Region.binds .any e = true → e.on < j
  dst : ∀ (i j : Nat) (oi oj : Oper) (d : Nat), ops[i]? = some oi → ops[j]? = some oj → oi.dst = some d → oj.dst = some d → i = j
  slots : ∀ (i : Nat) (o : Oper), ops[i]? = some o → ∀ t x, (S i).get t = some x → (∃ (j : Nat) (oj : Oper), bf j i = true ∧ ops[j]? = some oj ∧ oj.dst = some t ∧ val j = x) ∨ (slots0.get t = some x ∧ ∀ (j : Nat) (oj : Oper), ops[j]? = some oj → oj.dst = some t → bf i j = true)
  stl : ∀ (j : Nat) (o : Oper), ops[j]? = some o → kd j = .e → st j < nE
  inj : ∀ i j, kd i = .e → kd j = .e → st i = st j → i = j
  surj : ∀ (j : Nat) (o : Oper), ops[j]? = some o → kd j = .e → ∀ m, m < st j → ∃ i, kd i = .e ∧ st i = m ∧ bf i j = true
  pa : ∀ (i : Nat) (o : Oper), ops[i]? = some o → kd i = .pa → ∃ HA N, Act1 P ρ ops o (S i) ⟨.nil, N, some (base + i)⟩ (val i) HA ∧ HA.next = N ∧ blk i = HA.get (base + i) ∧ ∀ k, k ≤ nE → (hp k).next ≤ N
  ev : ∀ (j : Nat) (o : Oper), ops[j]? = some o → kd j = .e → ∃ Hin, Act1 P ρ ops o (S j) Hin (val j) (hp (st j + 1)) ∧ Hin.next = (hp (st j)).next ∧ Hin.res = none ∧
    (∀ id x, Hin.get id = some x → (hp (st j)).get id = some x ∨ ∃ a, bf a j = true ∧ un (st j) a = true ∧ id = base + a ∧ blk a = some x) ∧
    (∀ a, un (st j + 1) a = true → un (st j) a = true ∧ bf a j = false)
  rd : ∀ (i : Nat) (o : Oper), ops[i]? = some o → kd i = .r → ∀ k, k ≤ nE → (∀ j, kd j = .e → bf j i = true → st j < k) → (∀ (j : Nat) (oj : Oper), ops[j]? = some oj → kd j = .e → bf i j = true → k ≤ st j) →
    ∃ Hin, Act1 P ρ ops o (S i) Hin (val i) Hin ∧ Hin.next = (hp k).next ∧ Hin.res = none ∧
      (∀ id x, Hin.get id = some x → (hp k).get id = some x ∨ ∃ a, bf a i = true ∧ un k a = true ∧ id = base + a ∧ blk a = some x)
  unm : ∀ k a x, k ≤ nE → blk a = some x → un k a = true → (hp k).get (base + a) = none
  nob : ∀ i, kd i ≠ .pa → blk i = none
  first : base = H0.next ∧ base + ops.size ≤ (hp 0).next ∧ ∀ id x, (hp 0).get id = some x → H0.get id = some x

section
variable {gl : Glob} {ρ : Nat → Int} {ops : Array Oper} {slots0 : Tr AV} {H0 : Hp} (p : Plan P ρ ops slots0 H0)

/-- between two operations -/
structure Plan.Inv (E0 : En) (a0 : Act) (w0 : World) (L : Nat → Prop) (a : Act) (w : World) : Prop where
  defers : a.defers = a0.defers
  size : a.tmps.size = a0.tmps.size
  closed : ∀ i j, p.bf i j = true → L j → L i
  ex : ∃ (E : En) (Hc : Hp) (k : Nat), k ≤ p.nE ∧ (∀ (j : Nat) (o : Oper), ops[j]? = some o → p.kd j = .e → (L j ↔ p.st j < k)) ∧ E.ρ = ρ ∧ Stw E0 H0 w0 E Hc w ∧ RelH E Hc w ∧ Hc.next = (p.hp k).next ∧ Hc.res = none ∧
    p.base + ops.size ≤ Hc.next ∧ (∀ id, E.dm id → E0.dm id ∨ H0.next ≤ id) ∧ (∀ (i : Nat) (o : Oper), ops[i]? = some o → ¬ L i → ¬ E.dm (p.base + i)) ∧
    (∀ id x, (p.hp k).get id = some x → Hc.get id = some x) ∧ (∀ b x, L b → p.un k b = true → p.blk b = some x → Hc.get (p.base + b) = some x) ∧
    (∀ t x, slots0.get t = some x → (∀ (j : Nat) (oj : Oper), ops[j]? = some oj → oj.dst = some t → ¬ L j) → ∃ u, a.tmps[t]? = some u ∧ VR E w.heap x u) ∧
    (∀ (j : Nat) (oj : Oper) (t : Nat), L j → ops[j]? = some oj → oj.dst = some t → ∃ u, a.tmps[t]? = some u ∧ VR E w.heap (p.val j) u)


theorem put_get_ne {a : Act} {d : Option Nat} {u : Value} {t : Nat} (h : d ≠ some t) : (a.put d u).tmps[t]? = a.tmps[t]? := by
  cases d with
  | none => rfl
  | some x =>
    simp only [Act.put]
    rw [Array.getElem?_setIfInBounds_ne]
    intro e
    exact h (by rw [e])

theorem put_get {a : Act} {u : Value} {t : Nat} (h : t < a.tmps.size) : (a.put (some t) u).tmps[t]? = some u := by
  simp [Act.put, h]

theorem Plan.bf_lt : ∀ (j i : Nat), p.bf i j = true → i < j ∧ j < ops.size := by
  intro j
  induction j using Nat.strongRecOn with
  | _ j ih =>
    intro i h
    obtain ⟨o, e, g1, g2, g3, g4⟩ := p.gen i j h
    have hlt := p.back j o g1 e g2 g3
    have hj := (Array.getElem?_eq_some_iff.1 g1).1
    rcases g4 with rfl | g4
    · exact ⟨hlt, hj⟩
    · have := ih e.on hlt i g4
      exact ⟨by omega, hj⟩

theorem Plan.bf_op {i j : Nat} (h : p.bf i j = true) : ∃ o : Oper, ops[i]? = some o := by
  have := p.bf_lt j i h
  exact ⟨ops[i]'(by omega), by simp⟩

theorem Plan.step {E0 : En} {a0 : Act} {w0 : World} {L : Nat → Prop} {a : Act} {w : World} (hd : ∀ o ∈ ops.toList, ∀ d, o.dst = some d → d < a0.tmps.size) (inv : p.Inv E0 a0 w0 L a w) {i : Nat} {o : Oper} (ho : ops[i]? = some o) (hL : ¬ L i)
    (hr : ∀ e ∈ o.after, Region.binds .any e = true → L e.on) {K : Act → World → Prop} {Q : Exit → Act → World → Prop} (hk : ∀ a' w', p.Inv E0 a0 w0 (fun j => j = i ∨ L j) a' w' → K a' w') : wpOp P ops Q i K a w := by
  obtain ⟨h1, h2, hcl, E, Hc, k, hkn, hst, hρ, stw, rel, hnx, hres, hroom, hdm, hun, hhp, hbl, hs0, hs1⟩ := inv
  have hbf : ∀ j, p.bf j i = true → L j := by
    intro j hj
    obtain ⟨o', e, g1, g2, g3, g4⟩ := p.gen j i hj
    rw [ho] at g1
    simp at g1
    subst g1
    have := hr e g2 g3
    rcases g4 with rfl | g4
    · exact this
    · exact hcl j e.on g4 this
  have hii : p.bf i i ≠ true := fun h => hL (hbf i h)
  have hin : i < ops.size := (Array.getElem?_eq_some_iff.1 ho).1
  have sr : SR E w.heap (p.S i) a := by
    intro t x ht
    rcases p.slots i o ho t x ht with ⟨j, oj, g1, g2, g3, g4⟩ | ⟨g1, g2⟩
    · subst g4
      exact hs1 j oj t (hbf j g1) g2 g3
    · exact hs0 t x g1 fun j oj hj hjt hLj => hL (hcl i j (g2 j oj hj hjt) hLj)
  have hcl' : ∀ x j, p.bf x j = true → (j = i ∨ L j) → (x = i ∨ L x) := by
    intro x j hx hj
    rcases hj with rfl | hj
    · exact .inr (hbf x hx)
    · exact .inr (hcl x j hx hj)
  -- the end of every case
  have fin : ∀ (u : Value) (E' : En) (Hc' : Hp) (w' : World) (k' : Nat), Stw E Hc w E' Hc' w' → RelH E' Hc' w' → VR E' w'.heap (p.val i) u → k' ≤ p.nE → (∀ (j : Nat) (o : Oper), ops[j]? = some o → p.kd j = .e → ((j = i ∨ L j) ↔ p.st j < k')) →
      Hc'.next = (p.hp k').next → Hc'.res = none → Hc.next ≤ Hc'.next → (∀ id, E'.dm id → E.dm id ∨ Hc.next ≤ id ∨ id = p.base + i) → (∀ id x, (p.hp k').get id = some x → Hc'.get id = some x) →
      (∀ b x, (b = i ∨ L b) → p.un k' b = true → p.blk b = some x → Hc'.get (p.base + b) = some x) → K (a.put o.dst u) w' := by
    intro u E' Hc' w' k' q1 q2 q3 q4 q5 q6 q7 q8 q9 q10 q11
    have kp := q1.keeps rel
    refine hk _ _ ⟨by rw [As.put_defers]; exact h1, by rw [put_size]; exact h2, hcl', E', Hc', k', q4, q5, q1.ρ.trans hρ, stw.trans q1, q2, q6, q7, Nat.le_trans hroom q8, ?_, ?_, q10, q11, ?_, ?_⟩
    · intro id h
      rcases q9 id h with h | h | h
      · exact hdm id h
      · right
        have := p.first.1
        omega
      · right
        have := p.first.1
        omega
    · intro j oj hj hn hdj
      have hj2 := (Array.getElem?_eq_some_iff.1 hj).1
      rcases q9 _ hdj with h | h | h
      · exact hun j oj hj (fun h' => hn (.inr h')) h
      · omega
      · exact hn (.inl (by omega))
    · intro t x ht hno
      obtain ⟨y, g1, g2⟩ := hs0 t x ht fun j oj hj hjt h' => hno j oj hj hjt (.inr h')
      exact ⟨y, by rw [put_get_ne (fun e => hno i o ho e (.inl rfl))]; exact g1, VR.keep kp _ _ g2⟩
    · intro j oj t hj hoj ht
      by_cases hji : j = i
      · subst hji
        rw [ho] at hoj
        simp at hoj
        subst hoj
        rw [ht]
        exact ⟨u, put_get (by rw [h2]; exact hd o (Array.mem_toList_iff.2 (Array.mem_of_getElem? ho)) t ht), q3⟩
      · obtain ⟨y, g1, g2⟩ := hs1 j oj t (hj.resolve_left hji) hoj ht
        refine ⟨y, ?_, VR.keep kp _ _ g2⟩
        rw [put_get_ne]
        · exact g1
        · intro h
          exact hji (p.dst j i oj o t hoj ho ht h)
  cases hkd : p.kd i with
  | pa =>
    obtain ⟨HA, N, g1, g2, g3, g4⟩ := p.pa i o ho hkd
    have hN := g4 k hkn
    have hund := hun i o ho hL
    have r1 : RelH E ⟨.nil, N, some (p.base + i)⟩ w := rel.part (by intro id x h; simp [Hp.get, Tr.get] at h) (by show Hc.next ≤ N; omega) (by
      intro q hq
      simp at hq
      subst hq
      exact ⟨by show p.base + i < N; omega, hund⟩)
    refine g1.wpOp hρ r1 sr ho fun u E' w' st r' hv => ?_
    have hdn : ∀ id, E'.dm id → E.dm id ∨ id = p.base + i := by
      intro id h
      rcases st.dmn id h with h | h | h
      · exact .inl h
      · have h' : N ≤ id ∧ id < HA.next := h
        omega
      · have h' : some (p.base + i) = some id := h
        simp at h'
        exact .inr h'.symm
    obtain ⟨Hc', f1, f2, f3, f4, f5, f6⟩ := frame rel (by intro id x h; simp [Hp.get, Tr.get] at h) st r' Hc.next (fun id hid h => by
      rcases hdn id h with h | h
      · exact rel.fresh id hid h
      · omega)
    refine fin u E' Hc' w' k f6 f5 hv hkn ?_ (by rw [f1, hnx]) f2 (by omega) (fun id h => (hdn id h).elim .inl fun h => .inr (.inr h)) ?_ ?_
    · intro j oj hoj hj
      rw [← hst j oj hoj hj]
      constructor
      · intro h
        rcases h with rfl | h
        · rw [hkd] at hj; simp at hj
        · exact h
      · exact .inr
    · intro id x h
      exact f4 id x (hhp id x h) (by simp [Hp.get, Tr.get])
    · intro b x hb hu hx
      by_cases hbi : b = i
      · subst hbi
        rw [hx] at g3
        exact f3 _ _ g3.symm
      · exact f4 _ x (hbl b x (hb.resolve_left hbi) hu hx) (by simp [Hp.get, Tr.get])
  | e =>
    obtain ⟨Hin, g1, g2, g3, g4, g5⟩ := p.ev i o ho hkd
    have hge : k ≤ p.st i := by
      rcases Nat.lt_or_ge (p.st i) k with h | h
      · exact absurd ((hst i o ho hkd).2 h) hL
      · exact h
    have hsk : p.st i = k := by
      rcases Nat.lt_or_ge k (p.st i) with h | h
      · obtain ⟨j, e1, e2, e3⟩ := p.surj i o ho hkd k h
        have hj := hbf j e3
        obtain ⟨oj, hoj⟩ := p.bf_op e3
        have := (hst j oj hoj e1).1 hj
        omega
      · omega
    rw [hsk] at g1 g2 g4 g5
    have hkE := p.stl i o ho hkd
    have hsub : ∀ id x, Hin.get id = some x → Hc.get id = some x := by
      intro id x h
      rcases g4 id x h with h | ⟨b, e1, e2, rfl, e4⟩
      · exact hhp id x h
      · exact hbl b x (hbf b e1) e2 e4
    have r1 : RelH E Hin w := rel.part hsub (by omega) (by rw [g3]; simp)
    refine g1.wpOp hρ r1 sr ho fun u E' w' st r' hv => ?_
    have hdn : ∀ id, E'.dm id → E.dm id ∨ Hc.next ≤ id := by
      intro id h
      rcases st.dmn id h with h | h | h
      · exact .inl h
      · right; omega
      · rw [g3] at h; simp at h
    obtain ⟨Hc', f1, f2, f3, f4, f5, f6⟩ := frame rel hsub st r' (p.hp (k + 1)).next (fun id hid h => r'.fresh id hid h)
    have hmono := st.nxm
    refine fin u E' Hc' w' (k + 1) f6 f5 hv (by omega) ?_ f1 f2 (by omega) (fun id h => (hdn id h).elim .inl fun h => .inr (.inl h)) f3 ?_
    · intro j oj hoj hj
      constructor
      · intro h
        rcases h with rfl | h
        · omega
        · have := (hst j oj hoj hj).1 h
          omega
      · intro h
        rcases Nat.lt_or_ge (p.st j) k with h' | h'
        · exact .inr ((hst j oj hoj hj).2 h')
        · exact .inl (p.inj j i hj hkd (by omega))
    · intro b x hb hu hx
      obtain ⟨e1, e2⟩ := g5 b hu
      by_cases hbi : b = i
      · subst hbi
        rw [p.nob b (by rw [hkd]; simp)] at hx
        simp at hx
      · refine f4 _ x (hbl b x (hb.resolve_left hbi) e1 hx) ?_
        cases hy : Hin.get (p.base + b) with
        | none => rfl
        | some y =>
          exfalso
          rcases g4 _ y hy with h | ⟨c, c1, c2, c3, c4⟩
          · rw [p.unm k b x hkn hx e1] at h
            simp at h
          · have : c = b := by omega
            subst this
            rw [e2] at c1
            simp at c1
  | r =>
    have hk1 : ∀ j, p.kd j = .e → p.bf j i = true → p.st j < k := by
      intro j hj hb
      obtain ⟨oj, hoj⟩ := p.bf_op hb
      exact (hst j oj hoj hj).1 (hbf j hb)
    have hk2 : ∀ (j : Nat) (oj : Oper), ops[j]? = some oj → p.kd j = .e → p.bf i j = true → k ≤ p.st j := by
      intro j oj hoj hj hb
      rcases Nat.lt_or_ge (p.st j) k with h | h
      · exact absurd (hcl i j hb ((hst j oj hoj hj).2 h)) hL
      · exact h
    obtain ⟨Hin, g1, g2, g3, g4⟩ := p.rd i o ho hkd k hkn hk1 hk2
    have hsub : ∀ id x, Hin.get id = some x → Hc.get id = some x := by
      intro id x h
      rcases g4 id x h with h | ⟨b, e1, e2, rfl, e4⟩
      · exact hhp id x h
      · exact hbl b x (hbf b e1) e2 e4
    have r1 : RelH E Hin w := rel.part hsub (by omega) (by rw [g3]; simp)
    refine g1.wpOp hρ r1 sr ho fun u E' w' st r' hv => ?_
    have hdn : ∀ id, E'.dm id → E.dm id := by
      intro id h
      rcases st.dmn id h with h | h | h
      · exact h
      · omega
      · rw [g3] at h; simp at h
    obtain ⟨Hc', f1, f2, f3, f4, f5, f6⟩ := frame rel hsub st r' Hc.next (fun id hid h => rel.fresh id hid (hdn id h))
    have hall : ∀ id x, Hc.get id = some x → Hc'.get id = some x := by
      intro id x h
      cases h' : Hin.get id with
      | none => exact f4 id x h h'
      | some y =>
        have := hsub id y h'
        rw [h] at this
        simp at this
        subst this
        exact f3 id x h'
    refine fin u E' Hc' w' k f6 f5 hv hkn ?_ (by rw [f1, hnx]) f2 (by omega) (fun id h => .inl (hdn id h)) (fun id x h => hall id x (hhp id x h)) ?_
    · intro j oj hoj hj
      rw [← hst j oj hoj hj]
      constructor
      · intro h
        rcases h with rfl | h
        · rw [hkd] at hj; simp at hj
        · exact h
      · exact .inr
    · intro b x hb hu hx
      by_cases hbi : b = i
      · subst hbi
        rw [p.nob b (by rw [hkd]; simp)] at hx
        simp at hx
      · exact hall _ x (hbl b x (hb.resolve_left hbi) hu hx)


/-! ### the whole region -/
def left (l : Nat → Bool) : Nat → Nat
  | 0 => 0
  | n + 1 => left l n + (if l n then 0 else 1)

theorem left_le {l l' : Nat → Bool} (h : ∀ j, l j = true → l' j = true) : ∀ n, left l' n ≤ left l n
  | 0 => Nat.le_refl _
  | n + 1 => by
    have := left_le h n
    simp only [left]
    cases h1 : l n with
    | true => simp [h n h1]; exact this
    | false => cases l' n <;> simp <;> omega

theorem left_lt {l l' : Nat → Bool} (h : ∀ j, l j = true → l' j = true) {i : Nat} (h1 : l i = false) (h2 : l' i = true) : ∀ n, i < n → left l' n < left l n
  | 0, hi => by omega
  | n + 1, hi => by
    have hle := left_le h n
    simp only [left]
    by_cases hin : i = n
    · subst hin
      simp [h1, h2]
      omega
    · have := left_lt h h1 h2 n (by omega)
      cases h3 : l n with
      | true => simp [h n h3]; exact this
      | false => cases l' n <;> simp <;> omega

theorem left_zero {l : Nat → Bool} : ∀ n, left l n = 0 → ∀ i, i < n → l i = true
  | 0, _, i, hi => by omega
  | n + 1, h, i, hi => by
    simp only [left] at h
    by_cases hin : i = n
    · subst hin
      cases h3 : l i with
      | true => rfl
      | false => rw [h3] at h; simp at h
    · exact left_zero n (by omega) i (by omega)

theorem Plan.ready_nil (q : Plan P ρ ops slots0 H0) {listed : Array Bool} (hsz : listed.size = ops.size) (h : Region.ready .any ops listed = []) : ∀ i, i < ops.size → listed[i]? = some true := by
  intro i
  induction i using Nat.strongRecOn with
  | _ i ih =>
    intro hi
    cases hl : listed[i]? with
    | none => rw [Array.getElem?_eq_none_iff] at hl; omega
    | some b =>
      cases b with
      | true => rfl
      | false =>
        exfalso
        have ho : ops[i]? = some ops[i] := by simp [hi]
        have : i ∈ Region.ready .any ops listed := by
          rw [mem_ready]
          refine ⟨by simp [hl], ops[i], ho, fun e he hb => ?_⟩
          have hlt := q.back i _ ho e he hb
          simp [ih e.on hlt (by omega)]
        rw [h] at this
        simp at this

theorem Plan.any {E0 : En} {a0 : Act} {w0 : World} (hd : ∀ o ∈ ops.toList, ∀ d, o.dst = some d → d < a0.tmps.size) {Q : Exit → Act → World → Prop} (hq : ∀ a w, p.Inv E0 a0 w0 (fun i => i < ops.size) a w → Q .normal a w) :
    ∀ (fuel : Nat) (listed : Array Bool) (a : Act) (w : World), listed.size = ops.size → left (fun i => listed.getD i true) ops.size ≤ fuel → p.Inv E0 a0 w0 (fun i => listed[i]? = some true) a w → wpAny P .any ops Q fuel listed a w := by
  have hend : ∀ (listed : Array Bool) (a : Act) (w : World), listed.size = ops.size → p.Inv E0 a0 w0 (fun i => listed[i]? = some true) a w → Region.ready .any ops listed = [] → Q .normal a w := by
    intro listed a w hsz inv hnil
    have hall := p.ready_nil hsz hnil
    refine hq a w ?_
    have : (fun i => listed[i]? = some true) = (fun i => i < ops.size) := by
      funext i
      apply propext
      constructor
      · intro h
        have := (Array.getElem?_eq_some_iff.1 h).1
        omega
      · exact hall i
    rw [← this]
    exact inv
  intro fuel
  induction fuel with
  | zero =>
    intro listed a w hsz hleft inv
    have hall := left_zero (l := fun i => listed.getD i true) ops.size (by omega)
    have hnil : Region.ready .any ops listed = [] := by
      rw [List.eq_nil_iff_forall_not_mem]
      intro i hi
      rw [mem_ready] at hi
      obtain ⟨h1, o, h2, _⟩ := hi
      have := hall i (Array.getElem?_eq_some_iff.1 h2).1
      rw [h1] at this
      simp at this
    exact ⟨hnil, hend listed a w hsz inv hnil⟩
  | succ fuel ih =>
    intro listed a w hsz hleft inv
    refine ⟨hend listed a w hsz inv, fun i hi => ?_⟩
    rw [mem_ready] at hi
    obtain ⟨h1, o, h2, h3⟩ := hi
    have hin := (Array.getElem?_eq_some_iff.1 h2).1
    have hlf : listed[i]? = some false := by
      have : listed[i]? = some (listed[i]'(by omega)) := by simp
      rw [this]
      simp only [Array.getD_eq_getD_getElem?, this, Option.getD_some] at h1
      rw [h1]
    refine p.step hd inv h2 (by rw [hlf]; simp) (fun e he hb => ?_) fun a' w' inv' => ?_
    · have := h3 e he hb
      cases hc : listed[e.on]? with
      | none => simp [hc] at this
      | some b => simp [hc] at this; rw [this]
    · refine ih _ a' w' (by simpa using hsz) ?_ ?_
      · have := left_lt (l := fun j => listed.getD j true) (l' := fun j => (listed.setIfInBounds i true).getD j true) (i := i) (fun j hj => ?_) h1 ?_ ops.size hin
        · omega
        · by_cases hij : i = j
          · subst hij
            simp only [Array.getD_eq_getD_getElem?, Array.getElem?_setIfInBounds_self]
            split <;> rfl
          · rw [getD_set_ne true hij]; exact hj
        · simp only [Array.getD_eq_getD_getElem?, Array.getElem?_setIfInBounds_self]
          split <;> rfl
      · have : (fun j => (listed.setIfInBounds i true)[j]? = some true) = (fun j => j = i ∨ listed[j]? = some true) := by
          funext j
          apply propext
          by_cases hij : i = j
          · subst hij
            simp [hsz, hin]
          · rw [Array.getElem?_setIfInBounds_ne hij]
            constructor
            · exact .inr
            · rintro (rfl | h)
              · exact absurd rfl hij
              · exact h
        rw [this]
        exact inv'

/-- before the first operation -/
theorem Plan.start {E0 : En} {s0 : St} {a0 : Act} {w0 : World} (hs : s0.slots = slots0) (hh : s0.h = H0) (hρ : E0.ρ = ρ) (fit : Fit E0 s0 a0 w0) (listed : Array Bool) (hl : ∀ (i : Nat), listed[i]? ≠ some true) : p.Inv E0 a0 w0 (fun i => listed[i]? = some true) a0 w0 := by
  subst hs hh
  obtain ⟨h1, h2, h3⟩ := p.first
  have rel := fit.rel
  have r1 : RelH E0 ⟨s0.h.m, (p.hp 0).next, none⟩ w0 := rel.part (fun id x h => h) (by show s0.h.next ≤ (p.hp 0).next; omega) (by simp)
  refine ⟨rfl, rfl, fun i j _ h => absurd h (hl j), E0, ⟨s0.h.m, (p.hp 0).next, none⟩, 0, Nat.zero_le _, fun j o _ _ => ⟨fun h => absurd h (hl j), fun h => by omega⟩, hρ, ?_, r1, rfl, rfl, h2, fun id h => .inl h, ?_, fun id x h => h3 id x h, fun b x h => absurd h (hl b), ?_, fun j oj t h => absurd h (hl j)⟩
  · have := (Stp.refl E0 s0.h w0).weak
    exact ⟨this.ρ, this.dm, this.θ, this.κ, this.ro, this.roe, this.os, this.tape, this.output, this.size, this.keep, this.own⟩
  · intro i o _ _ hdm
    exact rel.fresh _ (by omega) hdm
  · intro t x ht _
    exact fit.sr t x ht

/-- after the last -/
theorem Plan.finish {E0 : En} {s0 s' : St} {a0 a : Act} {w0 w : World} (hh : s0.h = H0) (inv : p.Inv E0 a0 w0 (fun i => i < ops.size) a w) (hpc : PcOk ρ s'.pc)
    (hslots : ∀ t x, s'.slots.get t = some x → (∃ (j : Nat) (oj : Oper), ops[j]? = some oj ∧ oj.dst = some t ∧ p.val j = x) ∨ (slots0.get t = some x ∧ ∀ (j : Nat) (oj : Oper), ops[j]? = some oj → oj.dst ≠ some t))
    (hheap : ∀ id x, s'.h.get id = some x → (p.hp p.nE).get id = some x ∨ ∃ b, b < ops.size ∧ p.un p.nE b = true ∧ id = p.base + b ∧ p.blk b = some x)
    (hnext : (p.hp p.nE).next = s'.h.next) (hres : s'.h.res = none) (hall : ∀ (m : Nat), m < p.nE → ∃ (j : Nat) (o : Oper), ops[j]? = some o ∧ p.kd j = .e ∧ p.st j = m) : Then E0 s0 a0 w0 s' a w := by
  subst hh
  obtain ⟨h1, h2, hcl, E, Hc, k, hkn, hst, hρ, stw, rel, hnx, hrs, hroom, hdm, hun, hhp, hbl, hs0, hs1⟩ := inv
  have hk : k = p.nE := by
    rcases Nat.lt_or_ge k p.nE with h | h
    · obtain ⟨j, o, g1, g2, g3⟩ := hall k h
      have := (hst j o g1 g2).1 (Array.getElem?_eq_some_iff.1 g1).1
      omega
    · omega
  subst hk
  have hsub : ∀ id x, s'.h.get id = some x → Hc.get id = some x := by
    intro id x h
    rcases hheap id x h with h | ⟨b, e1, e2, rfl, e4⟩
    · exact hhp id x h
    · exact hbl b x e1 e2 e4
  have hf := p.first.1
  refine ⟨h1, h2, E, ?_, rel.part hsub (by omega) (by rw [hres]; simp), ?_, by rw [hρ]; exact hpc⟩
  · refine Stw.strong ⟨stw.ρ, stw.dm, stw.θ, stw.κ, stw.ro, stw.roe, stw.os, stw.tape, stw.output, stw.size, stw.keep, fun id o h => stw.own id o (hsub id o h)⟩ (by omega) hres fun id h => ?_
    rcases hdm id h with g | g
    · exact .inl g
    · right
      refine ⟨g, ?_⟩
      rcases Nat.lt_or_ge id s'.h.next with g' | g'
      · exact g'
      · exact absurd h (rel.fresh id (by omega))
  · intro t x ht
    rcases hslots t x ht with ⟨j, oj, g1, g2, rfl⟩ | ⟨g1, g2⟩
    · exact hs1 j oj t (Array.getElem?_eq_some_iff.1 g1).1 g1 g2
    · exact hs0 t x g1 fun j oj hj hjt _ => g2 j oj hj hjt

end
end
end Go.As

import Derived.Test.YtppmloolcbpkgaaGreatDoorAsDraw10
/-
  AS, part 26d: regions in two parts, of which the second one is small: it is run in all its orders.
-/
namespace Go.As
noncomputable section

/-! ### a part of a heap -/
def partM (h : Hp) : List Nat → Tr AObj → Tr AObj
  | [], t => t
  | i :: is, t => match h.get i with
    | some o => partM h is (t.put i (some o))
    | none => partM h is t

theorem partM_get {h : Hp} : ∀ (is : List Nat) (t : Tr AObj), (∀ id o, t.get id = some o → h.get id = some o) → ∀ id o, (partM h is t).get id = some o → h.get id = some o
  | [], _, ht, id, o, hg => ht id o hg
  | i :: is, t, ht, id, o, hg => by
    simp only [partM] at hg
    split at hg
    · rename_i x hx
      refine partM_get is _ (fun j y hy => ?_) id o hg
      rw [Tr.get_put] at hy
      split at hy
      · rename_i he
        subst he
        simp only [Option.some.injEq] at hy
        subst hy
        exact hx
      · exact ht j y hy
    · exact partM_get is t ht id o hg

/-! ### the same again -/
def sameObj : AObj → AObj → Bool
  | .cells a e, .cells b f => sameAVs a b && Nat.beq e f
  | _, _ => false
theorem sameObj_eq {a b : AObj} (h : sameObj a b = true) : a = b := by
  cases a <;> cases b <;> simp only [sameObj, Bool.false_eq_true, Bool.and_eq_true] at h
  rw [sameAVs_eq _ _ h.1, Nat.eq_of_beq_eq_true h.2]
def sameT {α : Type} (f : α → α → Bool) : Tr α → Tr α → Bool
  | .nil, .nil => true
  | .node v l r, .node u x y => (match v, u with | some a, some b => f a b | none, none => true | _, _ => false) && sameT f l x && sameT f r y
  | _, _ => false
theorem sameT_eq {α : Type} {f : α → α → Bool} (hf : ∀ a b, f a b = true → a = b) : ∀ (a b : Tr α), sameT f a b = true → a = b
  | .nil, b, h => by cases b <;> simp [sameT] at h; rfl
  | .node v l r, b, h => by
    cases b with
    | nil => simp [sameT] at h
    | node u x y =>
      simp only [sameT, Bool.and_eq_true] at h
      rw [sameT_eq hf l x h.1.2, sameT_eq hf r y h.2]
      have h1 := h.1.1
      cases v <;> cases u <;> simp only [Bool.false_eq_true] at h1
      · rfl
      · rw [hf _ _ h1]

/-! ### all orders -/
def inL (i : Nat) : List Nat → Bool
  | [] => false
  | j :: l => match Nat.beq i j with
    | true => true
    | false => inL i l
theorem inL_iff {i : Nat} : ∀ {l : List Nat}, inL i l = true ↔ i ∈ l
  | [] => by simp [inL]
  | j :: l => by
    simp only [inL, List.mem_cons]
    split
    · rename_i h; simp [Nat.eq_of_beq_eq_true h]
    · rename_i h; rw [inL_iff]; simp [Nat.ne_of_beq_eq_false h]
def without (i : Nat) : List Nat → List Nat
  | [] => []
  | j :: l => match Nat.beq i j with
    | true => without i l
    | false => j :: without i l
theorem mem_without {i k : Nat} : ∀ {l : List Nat}, k ∈ without i l ↔ k ∈ l ∧ k ≠ i
  | [] => by simp [without]
  | j :: l => by
    simp only [without]
    split
    · rename_i h
      have := Nat.eq_of_beq_eq_true h
      subst this
      rw [mem_without]
      simp only [List.mem_cons]
      constructor
      · rintro ⟨h1, h2⟩; exact ⟨.inr h1, h2⟩
      · rintro ⟨h1 | h1, h2⟩
        · exact absurd h1 h2
        · exact ⟨h1, h2⟩
    · rename_i h
      have := Nat.ne_of_beq_eq_false h
      simp only [List.mem_cons]
      rw [mem_without]
      constructor
      · rintro (rfl | ⟨h1, h2⟩)
        · exact ⟨.inl rfl, fun e => this e.symm⟩
        · exact ⟨.inr h1, h2⟩
      · rintro ⟨h1 | h1, h2⟩
        · exact .inl h1
        · exact .inr ⟨h1, h2⟩

/-- may it be done, while so many are left? -/
def mayBe (all : List Oper) (rem : List Nat) (i : Nat) : Bool := match nth? all i with
  | some o => o.after.toList.all fun e => !Region.binds .any e || (!inL e.on rem && Nat.blt e.on all.length)
  | none => false

def allTo (tt : TT) (call : Calls?) (all : List Oper) (pc : List (SB × Bool)) (tS : Tr AV) (tH : Hp) : Nat → List Nat → Tr AV → Hp → Bool
  | 0, rem, S, H => match rem with
    | [] => sameT sameAV S tS && sameT sameObj H.m tH.m && Nat.beq H.next tH.next && (match H.res with | none => true | _ => false)
    | _ => false
  | n + 1, rem, S, H => match rem with
    | [] => false
    | _ => rem.any (mayBe all rem) && rem.all fun i => match mayBe all rem i with
      | false => true
      | true => match nth? all i with
        | some o => match ev1 tt call all o ⟨S, H, pc⟩ with
          | .ret (v, s') => allTo tt call all pc tS tH n (without i rem) (slotO S o.dst v) s'.h
          | _ => false
        | none => false

section
variable {P : Program}

theorem slotO_SR {E : En} {h : Array Obj} {S : Tr AV} {a : Act} (sr : SR E h S a) {d : Option Nat} {v : AV} {u : Value} (hd : ∀ t, d = some t → t < a.tmps.size) (hv : VR E h v u) : SR E h (slotO S d v) (a.put d u) := by
  cases d with
  | none => exact sr
  | some t => exact sr.put (hd t rfl) hv

theorem allTo_ok [Glob] {tt : TT} (htt : TTok P tt) {call : Calls?} (hc : CallOk P call) {ops : Array Oper} {ρ : Nat → Int} {pc : List (SB × Bool)} (hpc : PcOk ρ pc) {tS : Tr AV} {tH : Hp} (htr : tH.res = none) {Q : Exit → Act → World → Prop} {m : Nat} (hd : ∀ o ∈ ops.toList, ∀ d, o.dst = some d → d < m) :
    ∀ (n : Nat) (rem : List Nat) (S : Tr AV) (H : Hp) (E : En) (a : Act) (w : World) (listed : Array Bool), allTo tt call ops.toList pc tS tH n rem S H = true → E.ρ = ρ → RelH E H w → SR E w.heap S a → a.tmps.size = m → listed.size = ops.size →
      (∀ i, i < ops.size → (listed[i]? = some true ↔ i ∉ rem)) → (∀ i ∈ rem, i < ops.size) →
      (∀ (a' : Act) (w' : World) (E' : En), Stp E H w E' tH w' → RelH E' tH w' → SR E' w'.heap tS a' → a'.tmps.size = m → a'.defers = a.defers → Q .normal a' w') → wpAny P .any ops Q n listed a w := by
  intro n
  have hat : ∀ (i : Nat), nth? ops.toList i = ops[i]? := fun i => by rw [nth?_eq, Array.getElem?_toList]
  have readyI : ∀ (rem : List Nat) (listed : Array Bool), listed.size = ops.size → (∀ i, i < ops.size → (listed[i]? = some true ↔ i ∉ rem)) → ∀ i, i ∈ Region.ready .any ops listed → i ∈ rem ∧ mayBe ops.toList rem i = true ∧ i < ops.size := by
    intro rem listed hsz hl i hi
    obtain ⟨o, ho, h1, h2⟩ := ready_mem.1 hi
    have hin : i < ops.size := (Array.getElem?_eq_some_iff.1 ho).1
    have hf : listed[i]? = some false := by
      have e : listed[i]? = some (listed[i]'(by omega)) := by simp
      rw [e]
      simp only [Array.getD_eq_getD_getElem?, e, Option.getD_some] at h1
      rw [h1]
    refine ⟨?_, ?_, hin⟩
    · apply Classical.byContradiction
      intro hn
      rw [(hl i hin).2 hn] at hf
      simp at hf
    · unfold mayBe
      rw [hat, ho]
      simp only [List.all_eq_true]
      intro e he
      cases hb : Region.binds .any e with
      | false => rfl
      | true =>
        have := h2 e he hb
        have hlt : e.on < ops.size := by
          rcases Nat.lt_or_ge e.on ops.size with h | h
          · exact h
          · simp [Array.getD_eq_getD_getElem?, Array.getElem?_eq_none (show listed.size ≤ e.on by omega)] at this
        simp only [Bool.not_true, Bool.false_or, Bool.and_eq_true, Bool.not_eq_true']
        refine ⟨?_, by simpa [Nat.blt_eq] using hlt⟩
        cases hin2 : inL e.on rem with
        | false => rfl
        | true =>
          exfalso
          have hm := inL_iff.1 hin2
          have e1 : listed[e.on]? = some (listed[e.on]'(by omega)) := by simp [hsz, hlt]
          simp only [Array.getD_eq_getD_getElem?, e1, Option.getD_some] at this
          rw [this] at e1
          exact (hl e.on hlt).1 e1 hm
  have readyO : ∀ (rem : List Nat) (listed : Array Bool), listed.size = ops.size → (∀ i, i < ops.size → (listed[i]? = some true ↔ i ∉ rem)) → (∀ i ∈ rem, i < ops.size) → rem.any (mayBe ops.toList rem) = true → Region.ready .any ops listed ≠ [] := by
    intro rem listed hsz hl hr hany hnil
    rw [List.any_eq_true] at hany
    obtain ⟨i, hi, hm⟩ := hany
    have hin := hr i hi
    have : i ∈ Region.ready .any ops listed := by
      rw [ready_mem]
      unfold mayBe at hm
      rw [hat] at hm
      split at hm
      · rename_i o ho
        refine ⟨o, ho, ?_, fun e he hb => ?_⟩
        · have e1 : listed[i]? = some (listed[i]'(by omega)) := by simp [hsz, hin]
          simp only [Array.getD_eq_getD_getElem?, e1, Option.getD_some]
          cases hb : listed[i]'(by omega) with
          | false => rfl
          | true =>
            rw [hb] at e1
            exact absurd hi ((hl i hin).1 e1)
        · rw [List.all_eq_true] at hm
          have := hm e he
          rw [hb] at this
          simp only [Bool.not_true, Bool.false_or, Bool.and_eq_true, Bool.not_eq_true'] at this
          obtain ⟨this, hlt⟩ := this
          have hlt : e.on < ops.size := by simpa [Nat.blt_eq] using hlt
          have hnot : e.on ∉ rem := fun h => by rw [inL_iff.2 h] at this; simp at this
          have := (hl e.on hlt).2 hnot
          simp [Array.getD_eq_getD_getElem?, this]
      · simp at hm
    rw [hnil] at this
    simp at this
  induction n with
  | zero =>
    intro rem S H E a w listed h hρ r sr ha hsz hl hr hq
    simp only [allTo] at h
    split at h
    · simp only [Bool.and_eq_true] at h
      obtain ⟨⟨⟨h1, h2⟩, h3⟩, h4⟩ := h
      have e1 := sameT_eq sameAV_eq _ _ h1
      have e2 := sameT_eq (fun _ _ => sameObj_eq) _ _ h2
      have e3 := Nat.eq_of_beq_eq_true h3
      have e4 : H.res = none := by
        split at h4
        · assumption
        · simp at h4
      have eH : H = tH := by
        obtain ⟨m1, n1, r1⟩ := H
        obtain ⟨m2, n2, r2⟩ := tH
        simp only at e2 e3 e4 htr
        subst e2 e3 e4 htr
        rfl
      subst e1 eH
      refine ⟨?_, hq a w E (Stp.refl _ _ _) r sr ha rfl⟩
      rw [List.eq_nil_iff_forall_not_mem]
      intro i hi
      have := (readyI [] listed hsz hl i hi).1
      simp at this
    · simp at h
  | succ n ih =>
    intro rem S H E a w listed h hρ r sr ha hsz hl hr hq
    simp only [allTo] at h
    split at h
    · simp at h
    · rename_i hne
      simp only [Bool.and_eq_true] at h
      refine ⟨fun h0 => absurd h0 (readyO rem listed hsz hl hr h.1), fun i hi => ?_⟩
      obtain ⟨g1, g2, g3⟩ := readyI rem listed hsz hl i hi
      have hi2 := (List.all_eq_true.1 h.2) i g1
      rw [g2] at hi2
      simp only at hi2
      split at hi2
      · rename_i o ho
        have ho' : ops[i]? = some o := by rw [← hat]; exact ho
        split at hi2
        · rename_i v s' hev
          have hact := ev1_ok htt hc (ops := ops) (o := o) (s := ⟨S, H, pc⟩) (s' := s') (v := v) (ρ := ρ) hpc (by rw [hev]; rfl)
          refine hact.wpOp hρ r sr ho' fun u E' w' st r' hv => ?_
          have hdo : ∀ t, o.dst = some t → t < a.tmps.size := by
            intro t ht
            rw [ha]
            exact hd o (Array.mem_toList_iff.2 (Array.mem_of_getElem? ho')) t ht
          have sr' : SR E' w'.heap (slotO S o.dst v) (a.put o.dst u) := slotO_SR (sr.keep (st.keeps r)) hdo hv
          refine ih (without i rem) _ _ E' (a.put o.dst u) w' (listed.setIfInBounds i true) hi2 (st.ρ.trans hρ) r' sr' (by rw [put_size]; exact ha) (by simpa using hsz) ?_ ?_ ?_
          · intro k hk
            rw [Array.getElem?_setIfInBounds, mem_without]
            by_cases hik : i = k
            · subst hik
              rw [if_pos rfl, if_pos (by omega)]
              simp
            · rw [if_neg hik, hl k hk]
              constructor
              · intro h1 h2; exact h1 h2.1
              · intro h1 h2; exact h1 ⟨h2, fun e => hik e.symm⟩
          · intro k hk
            exact hr k (mem_without.1 hk).1
          · intro a' w2 E2 st2 r2 sr2 hs2 hd2
            exact hq a' w2 E2 (st.trans st2) r2 sr2 hs2 (by rw [hd2, As.put_defers])
        · simp at hi2
      · simp at hi2

end
end
end Go.As

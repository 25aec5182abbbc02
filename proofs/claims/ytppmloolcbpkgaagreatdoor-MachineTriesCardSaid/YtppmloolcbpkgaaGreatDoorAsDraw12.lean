import Derived.Test.YtppmloolcbpkgaaGreatDoorAsDraw11
/-
  AS, part 26e: regions in two parts: sound.
-/
namespace Go.As
noncomputable section

def edgeOn (o : Oper) (j : Nat) : Bool := o.after.toList.any fun e => Region.binds .any e && Nat.beq e.on j

def splitOk (n1 : Nat) (all : List Oper) : Bool :=
  Nat.blt 0 n1 && Nat.ble n1 all.length &&
  (List.range all.length).all (fun j => match nth? all j with
    | some o => match Nat.blt j n1 with
      | true => (o.after.toList.all fun e => !Region.binds .any e || Nat.blt e.on j) && (match o.guard with | some (k, _) => Nat.blt k n1 | none => true)
      | false => edgeOn o (n1 - 1)
    | none => false) &&
  (match nth? all (n1 - 1) with
    | some o => (List.range (n1 - 1)).all fun i => edgeOn o i
    | none => false)

structure SplitF (n1 : Nat) (ops : Array Oper) : Prop where
  pos : 0 < n1
  le : n1 ≤ ops.size
  back : ∀ (i : Nat) (o : Oper), i < n1 → ops[i]? = some o → ∀ e ∈ o.after.toList, Region.binds .any e = true → e.on < i
  guard : ∀ (i : Nat) (o : Oper), i < n1 → ops[i]? = some o → ∀ k b, o.guard = some (k, b) → k < n1
  late : ∀ (i : Nat) (o : Oper), n1 ≤ i → ops[i]? = some o → ∃ e ∈ o.after.toList, Region.binds .any e = true ∧ e.on = n1 - 1
  last : ∀ (o : Oper), ops[n1 - 1]? = some o → ∀ i, i < n1 - 1 → ∃ e ∈ o.after.toList, Region.binds .any e = true ∧ e.on = i

theorem edgeOn_ok {o : Oper} {j : Nat} (h : edgeOn o j = true) : ∃ e ∈ o.after.toList, Region.binds .any e = true ∧ e.on = j := by
  unfold edgeOn at h
  rw [List.any_eq_true] at h
  obtain ⟨e, he, h⟩ := h
  simp only [Bool.and_eq_true] at h
  exact ⟨e, he, h.1, Nat.eq_of_beq_eq_true h.2⟩

theorem splitOk_ok {n1 : Nat} {ops : Array Oper} (h : splitOk n1 ops.toList = true) : SplitF n1 ops := by
  have hat : ∀ (i : Nat), nth? ops.toList i = ops[i]? := fun i => by rw [nth?_eq, Array.getElem?_toList]
  unfold splitOk at h
  simp only [Bool.and_eq_true] at h
  obtain ⟨⟨⟨h1, h2⟩, h3⟩, h4⟩ := h
  have h1 : 0 < n1 := by simpa [Nat.blt_eq] using h1
  have h2 : n1 ≤ ops.size := by simpa using Nat.le_of_ble_eq_true h2
  rw [List.all_eq_true] at h3
  have h3 : ∀ (i : Nat) (o : Oper), ops[i]? = some o → (match Nat.blt i n1 with
      | true => (o.after.toList.all fun e => !Region.binds .any e || Nat.blt e.on i) && (match o.guard with | some (k, _) => Nat.blt k n1 | none => true)
      | false => edgeOn o (n1 - 1)) = true := by
    intro i o ho
    have hi : i < ops.size := (Array.getElem?_eq_some_iff.1 ho).1
    have := h3 i (List.mem_range.2 (by simpa using hi))
    rw [hat, ho] at this
    exact this
  refine ⟨h1, h2, ?_, ?_, ?_, ?_⟩
  · intro i o hi ho e he hb
    have := h3 i o ho
    rw [show Nat.blt i n1 = true by simpa [Nat.blt_eq] using hi] at this
    simp only [Bool.and_eq_true] at this
    have := (List.all_eq_true.1 this.1) e he
    rw [hb] at this
    simpa [Nat.blt_eq] using this
  · intro i o hi ho k b hg
    have := h3 i o ho
    rw [show Nat.blt i n1 = true by simpa [Nat.blt_eq] using hi] at this
    simp only [Bool.and_eq_true, hg] at this
    simpa [Nat.blt_eq] using this.2
  · intro i o hi ho
    have := h3 i o ho
    rw [show Nat.blt i n1 = false by
      cases hb : Nat.blt i n1 with
      | false => rfl
      | true => rw [Nat.blt_eq] at hb; omega] at this
    exact edgeOn_ok this
  · intro o ho i hi
    rw [hat, ho] at h4
    exact edgeOn_ok ((List.all_eq_true.1 h4) i (List.mem_range.2 hi))

section
variable {P : Program}

theorem wp_exit {o : Oper} {a : Act} {w : World} {K : Act → World → Prop} {Q1 Q : Exit → Act → World → Prop} (h : ∀ e a w, e ≠ .normal → Q1 e a w → Q e a w) (hh : o.wp P a w K Q1) : o.wp P a w K Q := by
  have hl : LetsOut Q1 → LetsOut Q := fun ⟨a, w, h1⟩ => ⟨a, w, h _ _ _ (by simp) h1⟩
  unfold Oper.wp at *
  generalize (execOp a.eval o).run P w = r at *
  cases r with
  | ok n w' =>
    cases n <;> simp only [Oper.upon] at hh ⊢ <;>
      first
        | exact hh
        | exact Calls.mono hh (fun e w'' he => by cases e <;> first | exact he | exact h _ _ _ (by simp) he | exact hl he)
  | halt x w' => cases x <;> simp only [Oper.upon] at hh ⊢ <;> first | exact hh | exact h _ _ _ (by simp) hh

theorem left_set {l l' : Nat → Bool} {i : Nat} (h1 : l i = false) (h2 : l' i = true) (h : ∀ j, j ≠ i → l' j = l j) : ∀ n, i < n → left l' n + 1 = left l n
  | 0, hi => by omega
  | n + 1, hi => by
    simp only [left]
    by_cases hin : i = n
    · subst hin
      have : ∀ m, m ≤ i → left l' m = left l m := by
        intro m
        induction m with
        | zero => intro _; rfl
        | succ m ih =>
          intro hm
          simp only [left]
          rw [ih (by omega), h m (by omega)]
      rw [this i (Nat.le_refl _)]
      simp [h1, h2]
    · have := left_set h1 h2 h n (by omega)
      rw [h n (fun e => hin e.symm)]
      omega
theorem left_all {l : Nat → Bool} : ∀ n, (∀ i, i < n → l i = true) → left l n = 0
  | 0, _ => rfl
  | n + 1, h => by
    simp only [left]
    rw [left_all n (fun i hi => h i (by omega)), h n (by omega)]
    rfl

def firstT (n1 n : Nat) : Array Bool := (Array.range n).map fun i => decide (i < n1)

theorem wpAny_split {n1 : Nat} {ops : Array Oper} (sf : SplitF n1 ops) {Q Q1 : Exit → Act → World → Prop} (hq : ∀ e a w, e ≠ .normal → Q1 e a w → Q e a w) (hn : ∀ a w, Q1 .normal a w → wpAny P .any ops Q (ops.size - n1) (firstT n1 ops.size) a w) :
    ∀ (f : Nat) (l1 l : Array Bool) (a : Act) (w : World), l1.size = n1 → l.size = ops.size → (∀ i, i < n1 → l[i]? = l1[i]?) → (∀ i, n1 ≤ i → i < ops.size → l[i]? = some false) → left (fun i => l1.getD i true) n1 = f → (l1[n1 - 1]? = some true → f = 0) →
      wpAny P .any (ops.toList.take n1).toArray Q1 f l1 a w → wpAny P .any ops Q (f + (ops.size - n1)) l a w := by
  have hR : ∀ i, i < n1 → (ops.toList.take n1).toArray[i]? = ops[i]? := by
    intro i hi
    rw [List.getElem?_toArray, List.getElem?_take, if_pos hi, Array.getElem?_toList]
  have hRs : (ops.toList.take n1).toArray.size = n1 := by
    have := sf.le
    simp
    omega
  have hlf : LetsOut Q1 → LetsOut Q := fun ⟨a, w, h1⟩ => ⟨a, w, hq _ _ _ (by simp) h1⟩
  have hget : ∀ (l : Array Bool) (i : Nat), i < l.size → (l.getD i true = true ↔ l[i]? = some true) ∧ (l.getD i false = true ↔ l[i]? = some true) := by
    intro l i hi
    have e : l[i]? = some (l[i]'hi) := by simp
    simp only [Array.getD_eq_getD_getElem?, e, Option.getD_some]
    simp
  intro f
  induction f with
  | zero =>
    intro l1 l a w h1 h2 h3 h4 h5 h6 hw
    have hall := left_zero n1 h5
    have : l = firstT n1 ops.size := by
      apply Array.ext_getElem?
      intro i
      unfold firstT
      rcases Nat.lt_or_ge i ops.size with hi | hi
      · rw [Array.getElem?_map, Array.getElem?_range, if_pos hi]
        rcases Nat.lt_or_ge i n1 with hi1 | hi1
        · rw [h3 i hi1, ((hget l1 i (by omega)).1.1 (hall i hi1))]
          simp [hi1]
        · rw [h4 i hi1 hi]
          simp
          omega
      · rw [Array.getElem?_eq_none (by omega), Array.getElem?_eq_none (by simp; omega)]
    rw [this, Nat.zero_add]
    exact hn a w hw.2
  | succ f ih =>
    intro l1 l a w h1 h2 h3 h4 h5 h6 hw
    rw [show f + 1 + (ops.size - n1) = (f + (ops.size - n1)) + 1 by omega]
    have hle := sf.le
    have hpos := sf.pos
    have hlast : l1[n1 - 1]? = some true → False := fun h => by have := h6 h; omega
    refine ⟨fun hnil => ?_, fun i hi => ?_⟩
    · exfalso
      have hall : ∀ i, i < n1 → l[i]? = some true := by
        intro i
        induction i using Nat.strongRecOn with
        | _ i ih2 =>
          intro hi
          apply Classical.byContradiction
          intro hno
          have hio : ops[i]? = some (ops[i]'(by omega)) := by simp
          have : i ∈ Region.ready .any ops l := by
            rw [ready_mem]
            refine ⟨_, hio, ?_, fun e he hb => ?_⟩
            · cases hb : l.getD i true with
              | false => rfl
              | true => exact absurd ((hget l i (by omega)).1.1 hb) hno
            · have hlt := sf.back i _ hi hio e he hb
              exact (hget l e.on (by omega)).2.2 (ih2 e.on hlt (by omega))
          rw [hnil] at this
          simp at this
      have := left_all (l := fun i => l1.getD i true) n1 (fun i hi => (hget l1 i (by omega)).1.2 (by rw [← h3 i hi]; exact hall i hi))
      omega
    · obtain ⟨o, ho, g1, g2⟩ := ready_mem.1 hi
      have hin : i < ops.size := (Array.getElem?_eq_some_iff.1 ho).1
      have hi1 : i < n1 := by
        rcases Nat.lt_or_ge i n1 with h | h
        · exact h
        · exfalso
          obtain ⟨e, e1, e2, e3⟩ := sf.late i o h ho
          have := g2 e e1 e2
          rw [e3] at this
          have := (hget l (n1 - 1) (by omega)).2.1 this
          rw [h3 _ (by omega)] at this
          exact hlast this
      have hl1 : l1.getD i true = false := by
        cases hb : l1.getD i true with
        | false => rfl
        | true =>
          have := (hget l1 i (by omega)).1.1 hb
          rw [← h3 i hi1] at this
          have := (hget l i (by omega)).1.2 this
          rw [g1] at this
          simp at this
      have hed : ∀ e ∈ o.after.toList, Region.binds .any e = true → l1.getD e.on false = true := by
        intro e he hb
        have hlt := sf.back i o hi1 ho e he hb
        have := (hget l e.on (by omega)).2.1 (g2 e he hb)
        rw [h3 _ (by omega)] at this
        exact (hget l1 e.on (by omega)).2.2 this
      have hr1 : i ∈ Region.ready .any (ops.toList.take n1).toArray l1 := by
        rw [ready_mem]
        exact ⟨o, by rw [hR i hi1]; exact ho, hl1, hed⟩
      have hop := hw.2 i hr1
      have hnext : ∀ a w, wpAny P .any (ops.toList.take n1).toArray Q1 f (l1.setIfInBounds i true) a w → wpAny P .any ops Q (f + (ops.size - n1)) (l.setIfInBounds i true) a w := by
        intro a w hw2
        have hleft : left (fun j => (l1.setIfInBounds i true).getD j true) n1 = f := by
          have := left_set (l := fun j => l1.getD j true) (l' := fun j => (l1.setIfInBounds i true).getD j true) (i := i) hl1 (by
            simp only [Array.getD_eq_getD_getElem?, Array.getElem?_setIfInBounds_self]
            split <;> rfl) (fun j hj => by
            simp only [Array.getD_eq_getD_getElem?]
            rw [Array.getElem?_setIfInBounds_ne (fun e => hj e.symm)]) n1 hi1
          omega
        refine ih _ _ a w (by simpa using h1) (by simpa using h2) (fun k hk => ?_) (fun k hk1 hk2 => ?_) hleft (fun hlt => ?_) hw2
        · rw [Array.getElem?_setIfInBounds, Array.getElem?_setIfInBounds, h3 k hk, h1, h2]
          by_cases hik : i = k
          · rw [if_pos hik, if_pos hik, if_pos hin, if_pos hi1]
          · rw [if_neg hik, if_neg hik]
        · rw [Array.getElem?_setIfInBounds_ne (by omega)]
          exact h4 k hk1 hk2
        · by_cases hil : i = n1 - 1
          · rw [← hleft]
            refine left_all n1 fun k hk => ?_
            by_cases hk2 : k = i
            · subst hk2
              simp only [Array.getD_eq_getD_getElem?, Array.getElem?_setIfInBounds_self]
              split <;> rfl
            · obtain ⟨e, e1, e2, e3⟩ := sf.last o (by rw [← hil]; exact ho) k (by omega)
              have := hed e e1 e2
              rw [e3] at this
              have := (hget l1 k (by omega)).2.1 this
              simp only [Array.getD_eq_getD_getElem?]
              rw [Array.getElem?_setIfInBounds_ne (fun e => hk2 e.symm), this]
              rfl
          · rw [Array.getElem?_setIfInBounds_ne hil] at hlt
            exact absurd hlt hlast
      have hop := wpOp_mono hnext hop
      unfold wpOp at hop ⊢
      rw [hR i hi1, ho] at hop
      rw [ho]
      simp only at hop ⊢
      have hwant : Region.wanted o (yielded (ops.toList.take n1).toArray a.tmps) = Region.wanted o (yielded ops a.tmps) := by
        unfold Region.wanted
        cases hg : o.guard with
        | none => rfl
        | some g =>
          obtain ⟨k, b⟩ := g
          simp only
          have := sf.guard i o hi1 ho k b hg
          unfold yielded
          rw [hR k this]
      rw [hwant] at hop
      split
      · rename_i hwt
        rw [if_pos hwt] at hop
        rcases hop with h | ⟨h, h'⟩
        · exact .inl (wp_exit hq h)
        · exact .inr ⟨h, hlf h'⟩
      · rename_i hwt
        rw [if_neg hwt] at hop
        exact hop

end
end
end Go.As

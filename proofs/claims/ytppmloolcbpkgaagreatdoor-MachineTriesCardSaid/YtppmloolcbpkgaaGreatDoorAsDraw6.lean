import Derived.Test.YtppmloolcbpkgaaGreatDoorAsDraw5
/-
  AS, part 24: regions in any order are sound.
-/
namespace Go.As

section
variable {P : Program}

/-! ### counting -/
theorem cntE_succ {tt : TT} : ∀ {l : List Oper} {i : Nat} {o : Oper}, l[i]? = some o → cntE tt (l.take (i + 1)) = cntE tt (l.take i) + (match kindOf tt o.op with | .e => 1 | _ => 0)
  | [], i, o, h => by simp at h
  | x :: xs, 0, o, h => by
    simp at h
    subst h
    simp only [Nat.zero_add, List.take_succ_cons, List.take_zero, cntE]
    cases kindOf tt x.op <;> rfl
  | x :: xs, i + 1, o, h => by
    simp only [List.take_succ_cons, cntE]
    rw [cntE_succ (l := xs) (by simpa using h)]
    omega

theorem cntE_out {tt : TT} {l : List Oper} {i : Nat} (h : l[i]? = none) : cntE tt (l.take (i + 1)) = cntE tt (l.take i) := by
  have := List.getElem?_eq_none_iff.1 h
  rw [List.take_of_length_le (by omega), List.take_of_length_le (by omega)]

theorem cntE_mono {tt : TT} {l : List Oper} {i : Nat} : ∀ {j : Nat}, i ≤ j → cntE tt (l.take i) ≤ cntE tt (l.take j)
  | 0, h => by
    obtain rfl : i = 0 := by omega
    exact Nat.le_refl _
  | j + 1, h => by
    by_cases e : i = j + 1
    · subst e; exact Nat.le_refl _
    · have := cntE_mono (tt := tt) (l := l) (i := i) (j := j) (by omega)
      cases ho : l[j]? with
      | none => rw [cntE_out ho]; exact this
      | some o => rw [cntE_succ ho]; omega

theorem cntE_lt {tt : TT} {l : List Oper} {i j : Nat} {o : Oper} (ho : l[i]? = some o) (hk : kindOf tt o.op = .e) (h : i < j) : cntE tt (l.take i) < cntE tt (l.take j) := by
  have h1 := cntE_succ (tt := tt) ho
  rw [hk] at h1
  have h2 := cntE_mono (tt := tt) (l := l) (i := i + 1) (j := j) h
  simp only at h1
  omega

theorem cntE_surj {tt : TT} {l : List Oper} {m : Nat} : ∀ {j : Nat}, m < cntE tt (l.take j) → ∃ i o, i < j ∧ l[i]? = some o ∧ kindOf tt o.op = .e ∧ cntE tt (l.take i) = m
  | 0, h => by simp [cntE] at h
  | j + 1, h => by
    cases ho : l[j]? with
    | none =>
      rw [cntE_out ho] at h
      obtain ⟨i, o, h1, h2⟩ := cntE_surj h
      exact ⟨i, o, by omega, h2⟩
    | some o =>
      rw [cntE_succ ho] at h
      rcases Nat.lt_or_ge m (cntE tt (l.take j)) with h' | h'
      · obtain ⟨i, o, h1, h2⟩ := cntE_surj h'
        exact ⟨i, o, by omega, h2⟩
      · cases hk : kindOf tt o.op <;> rw [hk] at h <;> simp only at h <;> try omega
        exact ⟨j, o, by omega, ho, hk, by omega⟩

/-! ### the static part -/
def itm (tt : TT) (all : List Oper) (ms : List Nat) (j : Nat) (o : Oper) : Item := ⟨j, o, ms.getD j 0, kindOf tt o.op, cntE tt (all.take j), reads all o⟩

theorem items_at {tt : TT} {all : List Oper} {ms : List Nat} {j : Nat} {o : Oper} (h : all[j]? = some o) : (items tt all ms all 0 0)[j]? = some (itm tt all ms j o) := by
  rw [items_get, h]
  simp [itm]

theorem items_mem {tt : TT} {all : List Oper} {ms : List Nat} {x : Item} (h : x ∈ items tt all ms all 0 0) : ∃ j o, all[j]? = some o ∧ x = itm tt all ms j o := by
  obtain ⟨j, hj⟩ := List.getElem?_of_mem h
  cases ho : all[j]? with
  | none => rw [items_get, ho] at hj; simp at hj
  | some o =>
    rw [items_at ho] at hj
    simp at hj
    exact ⟨j, o, ho, hj.symm⟩

structure StatF (tt : TT) (all : List Oper) (ms : List Nat) : Prop where
  back : ∀ (j : Nat) (o : Oper), all[j]? = some o → ∀ e ∈ o.after, Region.binds .any e = true → e.on < j
  mask : ∀ (j : Nat) (o : Oper), all[j]? = some o → ms.getD j 0 = edgeMask ms o.after.toList
  rd : ∀ (j : Nat) (o : Oper), all[j]? = some o → ∀ t ∈ reads all o, ∀ (i : Nat) (oi : Oper), all[i]? = some oi → oi.dst = some t → (ms.getD j 0).testBit i = true ∨ (kindOf tt o.op ≠ .r ∧ (ms.getD i 0).testBit j = true)
  dst : ∀ (i j : Nat) (oi oj : Oper) (d : Nat), all[i]? = some oi → all[j]? = some oj → oi.dst = some d → oj.dst = some d → i = j
  tot : ∀ (i j : Nat) (oi oj : Oper), all[i]? = some oi → all[j]? = some oj → kindOf tt oi.op = .e → kindOf tt oj.op = .e → i < j → (ms.getD j 0).testBit i = true

theorem stat_ok {tt : TT} {all : List Oper} {q : Stat} (h : stat tt all = some q) : ∃ ms, q.is = items tt all ms all 0 0 ∧ q.nE = cntE tt all ∧ q.rs = ((q.is.filter (·.k.isR)).map fun x => (x, stages q.is q.nE x)) ∧ StatF tt all ms := by
  unfold stat at h
  simp only at h
  split at h
  · rename_i hok
    simp at h
    subst h
    refine ⟨masksGo all [], rfl, countE_items _ _ _, rfl, ?_⟩
    have key : ∀ (j : Nat) (o : Oper), all[j]? = some o → okItem (masksGo all []) (items tt all (masksGo all []) all 0 0) (itm tt all (masksGo all []) j o) = true := fun j o ho => List.all_eq_true.1 hok _ (List.mem_of_getElem? (items_at ho))
    have mem : ∀ (j : Nat) (o : Oper), all[j]? = some o → itm tt all (masksGo all []) j o ∈ items tt all (masksGo all []) all 0 0 := fun j o ho => List.mem_of_getElem? (items_at ho)
    refine ⟨?_, ?_, ?_, ?_, ?_⟩
    · intro j o ho e he hb
      have := key j o ho
      simp only [okItem, Bool.and_eq_true, List.all_eq_true] at this
      have := this.1.1.1.1 e (by simpa [itm] using he)
      simpa [hb, itm] using this
    · intro j o ho
      have := key j o ho
      simp only [okItem, Bool.and_eq_true] at this
      have := this.1.1.1.2
      simpa [itm] using this
    · intro j o ho t ht i oi hoi hd
      have := key j o ho
      simp only [okItem, Bool.and_eq_true, List.all_eq_true] at this
      have := this.1.1.2 t ht _ (mem i oi hoi)
      simp only [itm, hd, ne_eq, not_true_eq_false, decide_false, Bool.false_or, Bool.or_eq_true, Bool.and_eq_true, Bool.not_eq_true'] at this
      rcases this with h | ⟨h1, h2⟩
      · exact .inl h
      · refine .inr ⟨fun hk => ?_, h2⟩
        rw [hk] at h1
        simp [Kind.isR] at h1
    · intro i j oi oj d hi hj hdi hdj
      have := key i oi hi
      simp only [okItem, Bool.and_eq_true, List.all_eq_true] at this
      have := this.1.2 _ (mem j oj hj)
      simp [itm, hdi, hdj] at this
      exact this.symm
    · intro i j oi oj hi hj hki hkj hlt
      have := key j oj hj
      simp only [okItem, Bool.and_eq_true, List.all_eq_true] at this
      have := this.2
      simp only [itm, hkj, Kind.isE, Bool.not_true, Bool.false_or, List.all_eq_true] at this
      have := this _ (mem i oi hi)
      simpa [itm, hki, Kind.isE, hlt] using this
  · simp at h

/-! ### the reads -/
theorem rStages_ok [Glob] {tt : TT} (htt : TTok P tt) {call : Calls?} (hc : CallOk P call) {ops : Array Oper} {base : Nat} {pc : List (SB × Bool)} {ρ : Nat → Int} (hp : PcOk ρ pc) {x : Item} (hk : kindOf tt x.o.op = .r) {v : AV} {S : Tr AV} {blks : List (Nat × AObj)} {stg : List (Hp × Nat)} : ∀ (ks : List Nat), (rStages tt call ops.toList base pc x v S blks stg ks).leaf ρ = some () →
    ∀ k ∈ ks, ∃ h mm, stg[k]? = some (h, mm) ∧ Act1 P ρ ops x.o S (addBlks base x.m mm blks h) v (addBlks base x.m mm blks h)
  | [], _ => by simp
  | k :: ks, h => by
    simp only [rStages] at h
    split at h
    · rename_i h0 mm hn
      obtain ⟨⟨u, s'⟩, h1, h2⟩ := T.leaf_bind h
      simp only at h2
      split at h2
      · rename_i hs
        have ha := ev1_ok htt hc (s := ⟨S, addBlks base x.m mm blks h0, pc⟩) hp h1
        have hr := ev1_r hk h1
        rw [hr, sameAV_eq _ _ hs] at ha
        intro k' hk'
        rcases List.mem_cons.1 hk' with rfl | hk'
        · exact ⟨h0, mm, by rw [← nth?_eq]; exact hn, ha⟩
        · exact rStages_ok htt hc hp hk ks h2 k' hk'
      · simp [T.leaf] at h2
    · simp [T.leaf] at h

theorem rCheck_ok [Glob] {tt : TT} (htt : TTok P tt) {call : Calls?} (hc : CallOk P call) {ops : Array Oper} {base : Nat} {pc : List (SB × Bool)} {ρ : Nat → Int} (hp : PcOk ρ pc) {d : DSt} {stg : List (Hp × Nat)} {vs : List AV} : ∀ (rs : List (Item × List Nat)), (∀ r ∈ rs, kindOf tt r.1.o.op = .r) → (rCheck tt call ops.toList base pc d stg vs rs).leaf ρ = some () →
    ∀ r ∈ rs, ∃ v, vs[r.1.i]? = some v ∧ ∀ k ∈ r.2, ∃ h mm, stg[k]? = some (h, mm) ∧ Act1 P ρ ops r.1.o (only d.slots r.1.rd) (addBlks base r.1.m mm d.blks h) v (addBlks base r.1.m mm d.blks h)
  | [], _, _ => by simp
  | (x, ks) :: rs, hk, h => by
    simp only [rCheck] at h
    split at h
    · rename_i v hv
      obtain ⟨⟨⟩, h1, h2⟩ := T.leaf_bind h
      intro r hr
      rcases List.mem_cons.1 hr with rfl | hr
      · exact ⟨v, by rw [← nth?_eq]; exact hv, rStages_ok htt hc hp (hk _ (by simp)) ks h1⟩
      · exact rCheck_ok htt hc hp rs (fun r hr => hk r (by simp [hr])) h2 r hr
    · simp [T.leaf] at h

end
end Go.As

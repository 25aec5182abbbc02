import Derived.Test.YtppmloolcbpkgaaGreatDoorAsDraw6
/-
  AS, part 25: regions in any order are sound, the end.
-/
namespace Go.As

section
variable {P : Program}

theorem rev_mid {α : Type} {l pre : List α} {a b : α} {l0 : List α} (h : l = pre ++ a :: b :: l0) : l.reverse[l0.length]? = some b ∧ l.reverse[l0.length + 1]? = some a := by
  subst h
  constructor
  · simp
  · rw [show pre ++ a :: b :: l0 = (pre ++ [a]) ++ (b :: l0) by simp, List.reverse_append]
    rw [List.getElem?_append_right (by simp)]
    simp

theorem shift_bit {n b : Nat} (h : ((1 <<< n) - 1).testBit b = true) : b < n := by
  rw [Nat.shiftLeft_eq, Nat.one_mul, Nat.testBit_two_pow_sub_one] at h
  simpa using h

/-- the plan that a run gives -/
theorem plan_of [Glob] {tt : TT} {ops : Array Oper} {ms : List Nat} {ρ : Nat → Int} {slots0 : Tr AV} {H0 : Hp} {base N : Nat} {d : DSt} (sf : StatF tt ops.toList ms) (hb : base = H0.next) (hN : base + ops.size ≤ N)
    (rf : RunF P ρ ops base N (items tt ops.toList ms ops.toList 0 0) ⟨slots0, [(⟨H0.m, base + ops.size, none⟩, 0)], [], [], []⟩ d)
    (hrs : ∀ r ∈ ((items tt ops.toList ms ops.toList 0 0).filter (·.k.isR)).map fun x => (x, stages (items tt ops.toList ms ops.toList 0 0) (cntE tt ops.toList) x), ∃ v, d.vs.reverse[r.1.i]? = some v ∧ ∀ k ∈ r.2, ∃ h mm, d.stg.reverse[k]? = some (h, mm) ∧ Act1 P ρ ops r.1.o (only d.slots r.1.rd) (addBlks base r.1.m mm d.blks h) v (addBlks base r.1.m mm d.blks h))
    (hun : unCheck base d.blks d.stg = true) :
    ∃ p : Plan P ρ ops slots0 H0, p.base = base ∧ p.nE = cntE tt ops.toList ∧ (∀ i, p.val i = (d.vs.reverse[i]?).getD .nilp) ∧ (∀ k h mm, d.stg.reverse[k]? = some (h, mm) → p.hp k = h ∧ ∀ a, p.un k a = !mm.testBit a) ∧ (∀ i, p.blk i = (d.obs.reverse[i]?).getD none) ∧
      (∀ (m : Nat), m < p.nE → ∃ (j : Nat) (o : Oper), ops[j]? = some o ∧ p.kd j = .e ∧ p.st j = m) := by
  have hsz : ∀ (j : Nat), ops.toList[j]? = ops[j]? := fun j => Array.getElem?_toList
  have hlt : ∀ {j : Nat} {o : Oper}, ops[j]? = some o → j < ops.size := fun h => (Array.getElem?_eq_some_iff.1 h).1
  have hci : countE (items tt ops.toList ms ops.toList 0 0) = cntE tt ops.toList := countE_items _ _ _
  have hfull : cntE tt ops.toList = cntE tt (ops.toList.take ops.size) := by rw [List.take_of_length_le (by simp)]
  -- stages
  obtain ⟨ps, s1, s2⟩ := rf.stg
  rw [hci] at s2
  have hstl : d.stg.length = cntE tt ops.toList + 1 := by rw [s1, List.length_append, s2]; rfl
  have hst0 : d.stg.reverse[0]? = some (⟨H0.m, base + ops.size, none⟩, 0) := by
    rw [s1]; simp
  have hstk : ∀ k, k ≤ cntE tt ops.toList → ∃ h mm, d.stg.reverse[k]? = some (h, mm) := by
    intro k hk
    have : k < d.stg.reverse.length := by rw [List.length_reverse]; omega
    exact ⟨d.stg.reverse[k].1, d.stg.reverse[k].2, List.getElem?_eq_getElem this⟩
  have hnx := rf.nxt (by
    intro q hq
    simp only [List.mem_cons, List.not_mem_nil, or_false] at hq
    subst hq
    exact ⟨hN, rfl⟩)
  have hnx2 : ∀ (k : Nat) (h : Hp) (mm : Nat), d.stg.reverse[k]? = some (h, mm) → h.next ≤ N ∧ h.res = none := by
    intro k h mm hh
    exact hnx (h, mm) (by have := List.mem_of_getElem? hh; simpa using this)
  let hpf : Nat → Hp := fun k => ((d.stg.reverse[k]?).map (·.1)).getD ⟨.nil, 0, none⟩
  let unf : Nat → Nat → Bool := fun k a => match d.stg.reverse[k]? with | some q => !q.2.testBit a | none => false
  let bff : Nat → Nat → Bool := fun i j => match ops[j]? with | some _ => (ms.getD j 0).testBit i | none => false
  let kdf : Nat → Kind := fun i => match ops[i]? with | some o => kindOf tt o.op | none => .pa
  let blkf : Nat → Option AObj := fun i => (d.obs.reverse[i]?).getD none
  have hpe : ∀ k h mm, d.stg.reverse[k]? = some (h, mm) → hpf k = h ∧ ∀ a, unf k a = !mm.testBit a := by
    intro k h mm hh
    refine ⟨by simp only [hpf, hh]; rfl, fun a => by simp only [unf, hh]⟩
  have bfe : ∀ {i j : Nat} {o : Oper}, ops[j]? = some o → bff i j = (ms.getD j 0).testBit i := by
    intro i j o ho
    simp only [bff, ho]
  have kde : ∀ {j : Nat} {o : Oper}, ops[j]? = some o → kdf j = kindOf tt o.op := by
    intro j o ho
    simp only [kdf, ho]
  have kdE : ∀ {j : Nat}, kdf j = .e → ∃ o, ops[j]? = some o ∧ kindOf tt o.op = .e := by
    intro j hj
    cases ho : ops[j]? with
    | none => simp only [kdf, ho] at hj; simp at hj
    | some o => exact ⟨o, rfl, by rw [← kde ho]; exact hj⟩
  -- the step of the operation i
  have hbelow : ∀ (k : Nat), ∀ (o' : Oper), ops[k]? = some o' → ∀ b, (ms.getD k 0).testBit b = true → b < k := by
    intro k
    induction k using Nat.strongRecOn with
    | _ k ih =>
      intro o' ho' b hb'
      rw [sf.mask k o' (by rw [hsz]; exact ho')] at hb'
      obtain ⟨e, e1, e2, e3⟩ := edgeMask_bit hb'
      have e1' : e ∈ o'.after := by simpa using e1
      have hlt' := sf.back k o' (by rw [hsz]; exact ho') e e1' e2
      rcases e3 with rfl | e3
      · exact hlt'
      · have := hlt ho'
        have := ih e.on hlt' (ops[e.on]'(by omega)) (by simp) b e3
        omega
  have hat0 : ∀ (i : Nat), ∃ S : Tr AV, ∀ (o : Oper), ops[i]? = some o → ∃ dp dp1 v ob pre, dp.slots = S ∧ StepF P ρ ops base N (itm tt ops.toList ms i o) dp v ob dp1 ∧ d.vs.reverse[i]? = some v ∧ d.obs.reverse[i]? = some ob ∧ d.stg = pre ++ dp1.stg ∧ dp.stg.length = 1 + cntE tt (ops.toList.take i) ∧
      (∀ q, q ∈ dp.blks → q ∈ d.blks) ∧ (∀ t x, S.get t = some x → (∃ p oj, p < i ∧ ops[p]? = some oj ∧ oj.dst = some t ∧ d.vs.reverse[p]? = some x) ∨ (slots0.get t = some x ∧ ∀ (p : Nat) (oj : Oper), p < i → ops[p]? = some oj → oj.dst ≠ some t)) := by
    intro i
    cases hoi : ops[i]? with
    | none => exact ⟨.nil, fun o h => by simp at h⟩
    | some o0 =>
      have hx : (items tt ops.toList ms ops.toList 0 0)[i]? = some (itm tt ops.toList ms i o0) := items_at (by rw [hsz]; exact hoi)
      obtain ⟨dp, dp1, v, ob, pre, g1, g2, g3, g4, g5, g6, g7, g8⟩ := rf.at_ i _ hx
      refine ⟨dp.slots, fun o ho => ?_⟩
      simp only [Option.some.injEq] at ho
      subst ho
      refine ⟨dp, dp1, v, ob, pre, rfl, g1, by simpa using g2, by simpa using g3, g4, ?_, g6, ?_⟩
      · rw [g5]
        congr 1
        have : (items tt ops.toList ms ops.toList 0 0).take i = items tt ops.toList ms (ops.toList.take i) 0 0 := by
          apply List.ext_getElem?
          intro j
          rw [List.getElem?_take, items_get, items_get, List.getElem?_take]
          split
          · rename_i hj
            rw [List.take_take, Nat.min_eq_left (by omega)]
          · rfl
        rw [this, countE_items]
      · intro t x ht
        rcases g8 t x ht with ⟨p, y, q1, q2, q3, q4⟩ | ⟨q1, q2⟩
        · cases hoj : ops.toList[p]? with
          | none => rw [items_get, hoj] at q2; simp at q2
          | some oj =>
            rw [items_at hoj] at q2
            simp at q2
            subst q2
            exact .inl ⟨p, oj, q1, by rw [← hsz]; exact hoj, q3, by simpa using q4⟩
        · refine .inr ⟨q1, fun p oj hp hoj => ?_⟩
          have hm : itm tt ops.toList ms p oj ∈ (items tt ops.toList ms ops.toList 0 0).take i := by
            refine List.mem_of_getElem? (i := p) ?_
            rw [List.getElem?_take, if_pos hp]
            exact items_at (by rw [hsz]; exact hoj)
          exact q2 _ hm
  obtain ⟨Sd, hat⟩ := Classical.skolem.1 hat0
  let Sf : Nat → Tr AV := fun i => match ops[i]? with
    | some o => (match kindOf tt o.op with
      | .r => only d.slots (reads ops.toList o)
      | _ => only (Sd i) (reads ops.toList o))
    | none => .nil
  have SfR : ∀ {i : Nat} {o : Oper}, ops[i]? = some o → kindOf tt o.op = .r → Sf i = only d.slots (reads ops.toList o) := by
    intro i o ho hk
    simp only [Sf, ho, hk]
  have SfN : ∀ {i : Nat} {o : Oper}, ops[i]? = some o → kindOf tt o.op ≠ .r → Sf i = only (Sd i) (reads ops.toList o) := by
    intro i o ho hk
    have : Sf i = (match kindOf tt o.op with | .r => only d.slots (reads ops.toList o) | _ => only (Sd i) (reads ops.toList o)) := by simp only [Sf, ho]
    rw [this]
    cases hh : kindOf tt o.op with
    | r => exact absurd hh hk
    | pa => rfl
    | e => rfl
  have hblk : ∀ a b, (a, b) ∈ d.blks → blkf a = some b := by
    intro a b hab
    rcases rf.blk a b hab with h | ⟨p, x, g1, g2, g3⟩
    · simp at h
    · cases ho : ops.toList[p]? with
      | none => rw [items_get, ho] at g1; simp at g1
      | some o =>
        rw [items_at ho] at g1
        simp at g1
        subst g1
        have : p = a := g2
        subst this
        simp only [List.length_nil, Nat.zero_add] at g3
        simp only [blkf, g3, Option.getD_some]
  have hblk2 : ∀ a b, blkf a = some b → (a, b) ∈ d.blks := by
    intro a b hab
    have hob : d.obs.reverse[a]? = some (some b) := by
      simp only [blkf] at hab
      cases hh : d.obs.reverse[a]? with
      | none => rw [hh] at hab; simp at hab
      | some x => rw [hh] at hab; simp at hab; rw [hab]
    obtain ⟨po, o1, o2⟩ := rf.obs
    have hal : a < ops.size := by
      have h1 := (List.getElem?_eq_some_iff.1 hob).1
      rw [List.length_reverse, o1, List.append_nil, o2, items_length] at h1
      simpa using h1
    have hx : (items tt ops.toList ms ops.toList 0 0)[a]? = some (itm tt ops.toList ms a ops[a]) := items_at (by rw [hsz]; simp [hal])
    exact rf.blk2 a _ b hx (by simpa using hob)
  refine ⟨{
    base := base, bf := bff, kd := kdf, S := Sf, val := fun i => (d.vs.reverse[i]?).getD .nilp, st := fun i => cntE tt (ops.toList.take i), nE := cntE tt ops.toList, hp := hpf, un := unf, blk := blkf,
    gen := ?_, back := ?_, dst := ?_, slots := ?_, stl := ?_, inj := ?_, surj := ?_, pa := ?_, ev := ?_, rd := ?_, unm := ?_, nob := ?_, first := ?_ }, rfl, rfl, fun i => rfl, hpe, fun i => rfl, ?_⟩
  · intro i j h
    cases ho : ops[j]? with
    | none => simp only [bff, ho] at h; simp at h
    | some o =>
      rw [bfe ho, sf.mask j o (by rw [hsz]; exact ho)] at h
      obtain ⟨e, e1, e2, e3⟩ := edgeMask_bit h
      have e1' : e ∈ o.after := by simpa using e1
      refine ⟨o, e, rfl, e1', e2, e3.imp id fun h3 => ?_⟩
      have hl := sf.back j o (by rw [hsz]; exact ho) e e1' e2
      have hj := hlt ho
      rw [bfe (o := ops[e.on]'(by omega)) (by simp)]
      exact h3
  · intro j o ho e he hb'
    exact sf.back j o (by rw [hsz]; exact ho) e he hb'
  · intro i j oi oj dd hi hj h1 h2
    exact sf.dst i j oi oj dd (by rw [hsz]; exact hi) (by rw [hsz]; exact hj) h1 h2
  · intro i o ho t x ht
    cases hk : kindOf tt o.op with
    | r =>
      rw [SfR ho hk] at ht
      obtain ⟨h1, h2⟩ := only_get ht
      rcases rf.slot t x h2 with ⟨p, y, g1, g2, g3⟩ | ⟨g1, g2⟩
      · cases hoj : ops.toList[p]? with
        | none => rw [items_get, hoj] at g1; simp at g1
        | some oj =>
          rw [items_at hoj] at g1
          simp at g1
          subst g1
          have hp : ops[p]? = some oj := by rw [← hsz]; exact hoj
          refine .inl ⟨p, oj, ?_, hp, g2, ?_⟩
          · rw [bfe ho]
            rcases sf.rd i o (by rw [hsz]; exact ho) t h1 p oj hoj g2 with h | ⟨h, _⟩
            · exact h
            · exact absurd hk h
          · simp only [List.length_nil, Nat.zero_add] at g3
            simp only [g3, Option.getD_some]
      · refine .inr ⟨g1, fun j oj hoj hd => ?_⟩
        exact absurd hd (g2 _ (List.mem_of_getElem? (items_at (by rw [hsz]; exact hoj))))
    | _ =>
      rw [SfN ho (by rw [hk]; simp)] at ht
      obtain ⟨h1, h2⟩ := only_get ht
      obtain ⟨dp, dp1, v, ob, pre, _, _, _, _, _, _, _, g8⟩ := hat i o ho
      rcases g8 t x h2 with ⟨p, oj, q1, q2, q3, q4⟩ | ⟨q1, q2⟩
      · refine .inl ⟨p, oj, ?_, q2, q3, by rw [q4]; rfl⟩
        rw [bfe ho]
        rcases sf.rd i o (by rw [hsz]; exact ho) t h1 p oj (by rw [hsz]; exact q2) q3 with h | ⟨_, h⟩
        · exact h
        · have := hbelow p oj q2 i h
          omega
      · refine .inr ⟨q1, fun j oj hoj hd => ?_⟩
        rw [bfe hoj]
        rcases sf.rd i o (by rw [hsz]; exact ho) t h1 j oj (by rw [hsz]; exact hoj) hd with h | ⟨_, h⟩
        · exact absurd hd (q2 j oj (hbelow i o ho j h) hoj)
        · exact h
  · intro j o ho hk
    rw [kde ho] at hk
    rw [hfull]
    exact cntE_lt (by rw [hsz]; exact ho) hk (hlt ho)
  · intro i j hi hj he
    obtain ⟨oi, hoi, hki⟩ := kdE hi
    obtain ⟨oj, hoj, hkj⟩ := kdE hj
    rcases Nat.lt_trichotomy i j with h | h | h
    · have := cntE_lt (tt := tt) (l := ops.toList) (by rw [hsz]; exact hoi) hki h
      omega
    · exact h
    · have := cntE_lt (tt := tt) (l := ops.toList) (by rw [hsz]; exact hoj) hkj h
      omega
  · intro j o ho hk m hm
    obtain ⟨i, oi, h1, h2, h3, h4⟩ := cntE_surj hm
    rw [kde ho] at hk
    have h2' : ops[i]? = some oi := by rw [← hsz]; exact h2
    refine ⟨i, by rw [kde h2']; exact h3, h4, ?_⟩
    rw [bfe ho]
    exact sf.tot i j oi o h2 (by rw [hsz]; exact ho) h3 hk h1
  · intro i o ho hk
    rw [kde ho] at hk
    obtain ⟨dp, dp1, v, ob, pre, hdp, hF, g2, g3, g4, g5, g6, g7⟩ := hat i o ho
    obtain ⟨h0, mm, rest, hs, hF⟩ := hF
    simp only [itm, hk] at hF
    obtain ⟨_, HA, f1, f2, f3⟩ := hF
    rw [hdp] at f1
    refine ⟨HA, N, ?_, f2, ?_, ?_⟩
    · rw [SfN ho (by rw [hk]; simp)]
      simp only [g2, Option.getD_some]
      exact f1
    · simp only [blkf, g3, Option.getD_some]
      exact f3
    · intro k hk2
      obtain ⟨h2, mm2, hh⟩ := hstk k hk2
      rw [(hpe _ _ _ hh).1]
      exact (hnx2 _ _ _ hh).1
  · intro j o ho hk
    rw [kde ho] at hk
    obtain ⟨dp, dp1, v, ob, pre, hdp, hF, g2, g3, g4, g5, g6, g7⟩ := hat j o ho
    obtain ⟨h0, mm, rest, hs, hF⟩ := hF
    simp only [itm, hk] at hF
    obtain ⟨_, hn, f1, f2, f3, f4⟩ := hF
    rw [hdp] at f4
    rw [f1, hs] at g4
    have hrl : rest.length = cntE tt (ops.toList.take j) := by rw [hs] at g5; simp at g5; omega
    obtain ⟨r1, r2⟩ := rev_mid g4
    rw [hrl] at r1 r2
    obtain ⟨p1, p2⟩ := hpe _ _ _ r1
    obtain ⟨p3, p4⟩ := hpe _ _ _ r2
    refine ⟨addBlks base (ms.getD j 0) mm dp.blks h0, ?_, ?_, ?_, ?_, ?_⟩
    · rw [SfN ho (by rw [hk]; simp)]
      simp only [g2, Option.getD_some, p3]
      exact f4
    · rw [(addBlks_next _ _).1, p1]
    · rw [(addBlks_next _ _).2]
      exact (hnx2 _ _ _ r1).2
    · intro id x hx
      rcases addBlks_get hx with h | ⟨a, a1, a2, a3, a4⟩
      · left; rw [p1]; exact h
      · right
        exact ⟨a, by rw [bfe ho]; exact a2, by rw [p2, a3]; rfl, a4, hblk a x (g6 _ a1)⟩
    · intro a ha
      rw [p4] at ha
      simp only [Nat.testBit_or, Bool.not_or, Bool.and_eq_true, Bool.not_eq_true'] at ha
      refine ⟨by rw [p2, ha.1]; rfl, ?_⟩
      rw [bfe ho]
      exact ha.2
  · intro i o ho hk k hkn h1 h2
    rw [kde ho] at hk
    have hmem : itm tt ops.toList ms i o ∈ items tt ops.toList ms ops.toList 0 0 := List.mem_of_getElem? (items_at (by rw [hsz]; exact ho))
    obtain ⟨v, g1, g2⟩ := hrs (itm tt ops.toList ms i o, stages (items tt ops.toList ms ops.toList 0 0) (cntE tt ops.toList) (itm tt ops.toList ms i o)) (by
      rw [List.mem_map]
      exact ⟨_, List.mem_filter.2 ⟨hmem, by simp [itm, hk, Kind.isR]⟩, rfl⟩)
    have hks : k ∈ stages (items tt ops.toList ms ops.toList 0 0) (cntE tt ops.toList) (itm tt ops.toList ms i o) := by
      unfold stages
      rw [List.mem_filter, List.mem_range]
      refine ⟨by omega, List.all_eq_true.2 fun y hy => ?_⟩
      obtain ⟨j, oj, hoj, rfl⟩ := items_mem hy
      have hoj' : ops[j]? = some oj := by rw [← hsz]; exact hoj
      cases hkj : kindOf tt oj.op with
      | pa => simp [itm, hkj, Kind.isE]
      | r => simp [itm, hkj, Kind.isE]
      | e =>
        simp only [itm, hkj, Kind.isE, Bool.not_true, Bool.false_or, Bool.and_eq_true, Bool.or_eq_true, Bool.not_eq_true', decide_eq_true_eq]
        constructor
        · cases hbit : (ms.getD i 0).testBit j with
          | false => exact .inl rfl
          | true => exact .inr (h1 j (by rw [kde hoj']; exact hkj) (by rw [bfe ho]; exact hbit))
        · cases hbit : (ms.getD j 0).testBit i with
          | false => exact .inl rfl
          | true => exact .inr (h2 j oj hoj' (by rw [kde hoj']; exact hkj) (by rw [bfe hoj']; exact hbit))
    obtain ⟨h0, mm, g3, g4⟩ := g2 k hks
    obtain ⟨p1, p2⟩ := hpe _ _ _ g3
    refine ⟨addBlks base (ms.getD i 0) mm d.blks h0, ?_, ?_, ?_, ?_⟩
    · have g1' : d.vs.reverse[i]? = some v := g1
      rw [SfR ho hk]
      simp only [g1', Option.getD_some]
      exact g4
    · rw [(addBlks_next _ _).1, p1]
    · rw [(addBlks_next _ _).2]
      exact (hnx2 _ _ _ g3).2
    · intro id x hx
      rcases addBlks_get hx with h | ⟨a, a1, a2, a3, a4⟩
      · left; rw [p1]; exact h
      · right
        exact ⟨a, by rw [bfe ho]; exact a2, by rw [p2, a3]; rfl, a4, hblk a x a1⟩
  · intro k a x hk hx hu
    obtain ⟨h0, mm, hh⟩ := hstk k hk
    obtain ⟨p1, p2⟩ := hpe _ _ _ hh
    rw [p1]
    rw [p2] at hu
    unfold unCheck at hun
    have := List.all_eq_true.1 hun _ (hblk2 a x hx)
    have := List.all_eq_true.1 this (h0, mm) (by
      have := List.mem_of_getElem? hh
      simpa using this)
    simp only [Bool.or_eq_true, Option.isNone_iff_eq_none] at this
    simp only [Bool.not_eq_true'] at hu
    rcases this with h | h
    · rw [hu] at h; simp at h
    · exact h
  · intro i hk
    cases ho : ops[i]? with
    | none =>
      obtain ⟨po, o1, o2⟩ := rf.obs
      have hnone : d.obs.reverse[i]? = none := by
        rw [List.getElem?_eq_none_iff, List.length_reverse, o1, List.append_nil, o2, items_length]
        have := Array.getElem?_eq_none_iff.1 ho
        simpa using this
      simp only [blkf, hnone, Option.getD_none]
    | some o =>
      obtain ⟨dp, dp1, v, ob, pre, hdp, hF, g2, g3, g4, g5, g6, g7⟩ := hat i o ho
      obtain ⟨h0, mm, rest, hs, hF⟩ := hF
      rw [kde ho] at hk
      cases hkk : kindOf tt o.op with
      | pa => exact absurd hkk hk
      | e =>
        simp only [itm, hkk] at hF
        simp only [blkf, g3, Option.getD_some, hF.1]
      | r =>
        simp only [itm, hkk] at hF
        simp only [blkf, g3, Option.getD_some, hF.1]
  · have := (hpe 0 _ _ hst0).1
    refine ⟨hb, by rw [this]; exact Nat.le_refl _, fun id x h => ?_⟩
    rw [this] at h
    exact h
  · intro m hm
    have hm' : m < cntE tt (ops.toList.take ops.size) := by rw [← hfull]; exact hm
    obtain ⟨i, oi, h1, h2, h3, h4⟩ := cntE_surj hm'
    have h2' : ops[i]? = some oi := by rw [← hsz]; exact h2
    exact ⟨i, oi, h2', by show kdf i = _; rw [kde h2']; exact h3, h4⟩

end
end Go.As

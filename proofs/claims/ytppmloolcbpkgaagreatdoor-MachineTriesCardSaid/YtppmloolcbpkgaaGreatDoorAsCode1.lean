import Derived.Test.YtppmloolcbpkgaaGreatDoorAsOp12
/-
  AS, part 17: regions in their text's order, code, functions.
-/
namespace Go.As

section
variable {P : Program}

/-- the state and the frame fit -/
structure Fit [Glob] (E : En) (s : St) (a : Act) (w : World) : Prop where
  rel : RelH E s.h w
  sr : SR E w.heap s.slots a
  pc : PcOk E.ρ s.pc

/-- what comes of a piece of code -/
structure Then [Glob] (E : En) (s : St) (a : Act) (w : World) (s' : St) (a' : Act) (w' : World) : Prop where
  defers : a'.defers = a.defers
  size : a'.tmps.size = a.tmps.size
  step : ∃ E', Stp E s.h w E' s'.h w' ∧ Fit E' s' a' w'

theorem Then.refl [Glob] {E : En} {s : St} {a : Act} {w : World} (f : Fit E s a w) : Then E s a w s a w := ⟨rfl, rfl, E, Stp.refl _ _ _, f⟩

theorem SR.keep {E E' : En} {h h' : Array Obj} (k : Keeps E h E' h') {slots : Tr AV} {a : Act} (sr : SR E h slots a) : SR E' h' slots a := by
  intro t v ht
  obtain ⟨u, h1, h2⟩ := sr t v ht
  exact ⟨u, h1, VR.keep k v u h2⟩

theorem SR.put {E : En} {h : Array Obj} {slots : Tr AV} {a : Act} (sr : SR E h slots a) {d : Nat} {v : AV} {u : Value} (hd : d < a.tmps.size) (hv : VR E h v u) : SR E h (slots.put d (some v)) (a.put (some d) u) := by
  intro t x ht
  rw [Tr.get_put] at ht
  simp only [Act.put]
  split at ht
  · rename_i e
    subst e
    simp at ht
    subst ht
    exact ⟨u, by simp [hd], hv⟩
  · rename_i e
    obtain ⟨y, h1, h2⟩ := sr t x ht
    exact ⟨y, by rw [Array.getElem?_setIfInBounds_ne (fun q => e q.symm)]; exact h1, h2⟩

theorem SR.putO {E : En} {h : Array Obj} {s : St} {a : Act} (sr : SR E h s.slots a) {d : Option Nat} {v : AV} {u : Value} (hd : ∀ t, d = some t → t < a.tmps.size) (hv : VR E h v u) : SR E h (s.setO d v).slots (a.put d u) := by
  cases d with
  | none => exact sr
  | some t => exact sr.put (hd t rfl) hv

theorem put_size (a : Act) (d : Option Nat) (u : Value) : (a.put d u).tmps.size = a.tmps.size := by cases d <;> simp [Act.put]
theorem put_defers (a : Act) (d : Option Nat) (u : Value) : (a.put d u).defers = a.defers := by cases d <;> rfl
theorem setO_h (s : St) (d : Option Nat) (v : AV) : (s.setO d v).h = s.h := by cases d <;> rfl
theorem setO_pc (s : St) (d : Option Nat) (v : AV) : (s.setO d v).pc = s.pc := by cases d <;> rfl

/-- one operation done: the state and the frame fit again -/
theorem fit_after [Glob] {E : En} {s s' : St} {a : Act} {w w' : World} {v : AV} {u : Value} {d : Option Nat} (f : Fit E s a w) (hs : s'.slots = s.slots) (hp : PcOk E.ρ s'.pc) (h : After E s w v s' u w') (hd : ∀ t, d = some t → t < a.tmps.size) :
    Then E s a w (s'.setO d v) (a.put d u) w' := by
  obtain ⟨E', h1, h2, h3⟩ := h
  refine ⟨put_defers _ _ _, put_size _ _ _, E', by rw [setO_h]; exact h1, ⟨by rw [setO_h]; exact h2, ?_, by rw [setO_pc, h1.ρ]; exact hp⟩⟩
  refine SR.putO ?_ hd h3
  rw [hs]
  exact f.sr.keep (h1.keeps f.rel)

theorem Then.trans [Glob] {E : En} {s s1 s2 : St} {a a1 a2 : Act} {w w1 w2 : World} (h1 : Then E s a w s1 a1 w1) (h2 : ∀ E1, Stp E s.h w E1 s1.h w1 → Fit E1 s1 a1 w1 → Then E1 s1 a1 w1 s2 a2 w2) : Then E s a w s2 a2 w2 := by
  obtain ⟨d1, z1, E1, st1, f1⟩ := h1
  obtain ⟨d2, z2, E2, st2, f2⟩ := h2 E1 st1 f1
  exact ⟨d2.trans d1, z2.trans z1, E2, st1.trans st2, f2⟩

/-! ### guards -/
theorem onGuard_ok [Glob] {α : Type} {E : En} {w : World} {s : St} {a : Act} {ops : Array Oper} {o : Oper} {f : St → Bool → T α} {r : α} (fit : Fit E s a w) (h : (onGuard ops.toList s o f).leaf E.ρ = some r) :
    ∃ pc', PcOk E.ρ pc' ∧ (f { s with pc := pc' } (Region.wanted o (yielded ops a.tmps))).leaf E.ρ = some r := by
  unfold onGuard at h
  unfold Region.wanted
  split at h
  · rename_i hg
    rw [hg]
    exact ⟨s.pc, fit.pc, h⟩
  · rename_i j want hg
    rw [hg]
    split at h
    · rename_i oj hj
      rw [nth?_eq, Array.getElem?_toList] at hj
      split at h
      · rename_i d hd
        split at h
        · rename_i c hc
          obtain ⟨u, h1, h2⟩ := fit.sr d _ hc
          simp only [VR] at h2
          subst h2
          obtain ⟨pc', hp', h3⟩ := onB_ok fit.pc h
          refine ⟨pc', hp', ?_⟩
          have : yielded ops a.tmps j = some (c.den E.ρ) := by simp [yielded, hj, hd, h1]
          simp only [this]
          simpa using h3
        · rename_i vs hc
          obtain ⟨u, h1, h2⟩ := fit.sr d _ hc
          simp only [VR] at h2
          obtain ⟨us, rfl, _⟩ := h2
          refine ⟨s.pc, fit.pc, ?_⟩
          have : yielded ops a.tmps j = none := by simp [yielded, hj, hd, h1]
          simp only [this]
          simpa using h
        · simp [T.leaf] at h
      · simp [T.leaf] at h
    · simp [T.leaf] at h

/-! ### a region in its text's order -/
def dsts (n : Nat) (ops : List Oper) : Bool := ops.all fun o => match o.dst with | some d => d < n | none => true

theorem evOps_ok [Glob] {tt : TT} (htt : TTok P tt) {call : Calls?} (hc : CallOk P call) {ops : Array Oper} {Q : Exit → Act → World → Prop} : ∀ (rest : List Oper) (i : Nat) {E : En} {s s' : St} {a : Act} {w : World}, ops.toList.drop i = rest →
    (∀ o ∈ rest, ∀ d, o.dst = some d → d < a.tmps.size) → Fit E s a w → (evOps tt call ops.toList rest s).leaf E.ρ = some s' →
    (∀ a' w', Then E s a w s' a' w' → Q .normal a' w') → wpOps P ops Q (List.range' i rest.length) a w
  | [], i, E, s, s', a, w, _, _, fit, h, hq => by
    have := leaf_ret h
    subst this
    exact hq a w (Then.refl fit)
  | o :: rest, i, E, s, s', a, w, hi, hd, fit, h, hq => by
    simp only [evOps] at h
    obtain ⟨pc', hp', h1⟩ := onGuard_ok fit h
    have hoi : ops[i]? = some o := by
      have := congrArg (·[0]?) hi
      simpa using this
    have hrest : ops.toList.drop (i + 1) = rest := by
      have := congrArg List.tail hi
      simpa using this
    have fit' : Fit E { s with pc := pc' } a w := ⟨fit.rel, fit.sr, hp'⟩
    simp only [List.length_cons, List.range'_succ]
    show wpOps P ops Q (i :: List.range' (i + 1) rest.length) a w
    simp only [wpOps, hoi]
    cases hw : Region.wanted o (yielded ops a.tmps) <;> rw [hw] at h1
    · simp only [Bool.false_eq_true, if_false] at h1 ⊢
      have hstep : Then E s a w (St.setO { s with pc := pc' } o.dst AV.undef) (a.put o.dst undef) w :=
        fit_after (s' := { s with pc := pc' }) fit rfl hp' ⟨E, Stp.refl _ _ _, fit.rel, undef_VR⟩ (hd o (by simp))
      obtain ⟨d1, z1, E1, st1, f1⟩ := hstep
      refine evOps_ok htt hc rest (i + 1) hrest (fun o' ho' d hd' => by rw [z1]; exact hd o' (by simp [ho']) d hd') f1 (by rw [st1.ρ]; exact h1) fun a' w' ht => ?_
      exact hq a' w' ⟨ht.defers.trans d1, ht.size.trans z1, by obtain ⟨E2, st2, f2⟩ := ht.step; exact ⟨E2, st1.trans st2, f2⟩⟩
    · simp only [if_true] at h1 ⊢
      left
      obtain ⟨⟨v, s1⟩, h2, h3⟩ := T.leaf_bind h1
      obtain ⟨q1, q2, q3⟩ := evOp_ok htt hc (o := o) fit'.rel fit'.sr fit'.pc h2
      refine q3 _ _ fun u w1 hu => ?_
      have hstep : Then E s a w (s1.setO o.dst v) (a.put o.dst u) w1 := fit_after (s := s) (s' := s1) fit q1 q2 hu (hd o (by simp))
      obtain ⟨d1, z1, E1, st1, f1⟩ := hstep
      refine evOps_ok htt hc rest (i + 1) hrest (fun o' ho' d hd' => by rw [z1]; exact hd o' (by simp [ho']) d hd') f1 (by rw [st1.ρ]; exact h3) fun a' w' ht => ?_
      exact hq a' w' ⟨ht.defers.trans d1, ht.size.trans z1, by obtain ⟨E2, st2, f2⟩ := ht.step; exact ⟨E2, st1.trans st2, f2⟩⟩

/-- the draw's function serves, at any region -/
def DrawAny [Glob] (P : Program) (draw : List Oper → St → T St) : Prop :=
  ∀ (id : Nat) (ops : Array Oper) (E : En) (s s' : St) (a : Act) (w : World) (Q : Exit → Act → World → Prop), (∀ o ∈ ops.toList, ∀ d, o.dst = some d → d < a.tmps.size) → Fit E s a w → (draw ops.toList s).leaf E.ρ = some s' →
    (∀ a' w', Then E s a w s' a' w' → Q .normal a' w') → (Code.region id ops true).wp P Q a w

/-- the draw's function serves, where a check of the region's text stands -/
def DrawOk [Glob] (P : Program) (chk : Nat → List Oper → Bool) (draw : Nat → List Oper → St → T St) : Prop :=
  ∀ (id : Nat) (ops : Array Oper), chk id ops.toList = true → ∀ (E : En) (s s' : St) (a : Act) (w : World) (Q : Exit → Act → World → Prop), (∀ o ∈ ops.toList, ∀ d, o.dst = some d → d < a.tmps.size) → Fit E s a w → (draw id ops.toList s).leaf E.ρ = some s' →
    (∀ a' w', Then E s a w s' a' w' → Q .normal a' w') → (Code.region id ops true).wp P Q a w

/-! ### code -/
def dstOk (chk : Nat → List Oper → Bool) (n : Nat) : Code → Bool
  | .region id ops d => dsts n ops.toList && (!d || chk id ops.toList)
  | .seq a b => dstOk chk n a && dstOk chk n b
  | .cond _ a b => dstOk chk n a && dstOk chk n b
  | .block _ b => dstOk chk n b
  | .loop b => dstOk chk n b
  | .scope b => dstOk chk n b
  | _ => true

theorem dsts_ok {n m : Nat} {ops : List Oper} (h : dsts n ops = true) (hm : n ≤ m) : ∀ o ∈ ops, ∀ d, o.dst = some d → d < m := by
  intro o ho d hd
  unfold dsts at h
  rw [List.all_eq_true] at h
  have := h o ho
  rw [hd] at this
  simp at this
  exact Nat.lt_of_lt_of_le this hm

def toExit : Ex → Exit
  | .normal => .normal
  | .exit id => .exit id
  | .ret => .ret

def Post [Glob] (E : En) (s : St) (a : Act) (w : World) (e : Ex) (s' : St) (x : Exit) (a' : Act) (w' : World) : Prop := x = toExit e ∧ Then E s a w s' a' w'

theorem Then.comp [Glob] {E E1 : En} {s s1 s2 : St} {a a1 a2 : Act} {w w1 w2 : World} (d1 : a1.defers = a.defers) (z1 : a1.tmps.size = a.tmps.size) (st1 : Stp E s.h w E1 s1.h w1) (h2 : Then E1 s1 a1 w1 s2 a2 w2) : Then E s a w s2 a2 w2 := by
  obtain ⟨d2, z2, E2, st2, f2⟩ := h2
  exact ⟨d2.trans d1, z2.trans z1, E2, st1.trans st2, f2⟩

def BodyOk [Glob] (P : Program) (c : Code) (n : Nat) (f : St → T (Ex × St)) : Prop :=
  ∀ (E : En) (s s' : St) (e : Ex) (a : Act) (w : World), n ≤ a.tmps.size → Fit E s a w → (f s).leaf E.ρ = some (e, s') → c.wp P (Post E s a w e s') a w

theorem evLoop_not {ρ : Nat → Int} {f : St → T (Ex × St)} : ∀ (k : Nat) {s s' : St} {e : Ex}, (evLoop f k s).leaf ρ = some (e, s') → e ≠ .normal
  | 0, s, s', e, h => by simp [evLoop, T.leaf] at h
  | k + 1, s, s', e, h => by
    simp only [evLoop] at h
    obtain ⟨⟨e1, s1⟩, h1, h2⟩ := T.leaf_bind h
    cases e1 with
    | normal => exact evLoop_not k h2
    | exit id => have := leaf_ret h2; simp only [Prod.mk.injEq] at this; rw [← this.1]; simp
    | ret => have := leaf_ret h2; simp only [Prod.mk.injEq] at this; rw [← this.1]; simp

theorem evLoop_ok [Glob] {c : Code} {n : Nat} {f : St → T (Ex × St)} (hf : BodyOk P c n f) : ∀ (k : Nat) {E : En} {s s' : St} {e : Ex} {a : Act} {w : World}, n ≤ a.tmps.size → Fit E s a w → (evLoop f k s).leaf E.ρ = some (e, s') →
    ∀ (Q : Exit → Act → World → Prop), (∀ a' w', Then E s a w s' a' w' → Q (toExit e) a' w') → e ≠ .normal ∧ Code.rounds P c Q k a w
  | 0, E, s, s', e, a, w, _, _, h, _, _ => by simp [evLoop, T.leaf] at h
  | k + 1, E, s, s', e, a, w, hn, fit, h, Q, hq => by
    simp only [evLoop] at h
    obtain ⟨⟨e1, s1⟩, h1, h2⟩ := T.leaf_bind h
    have hw := hf E s s1 e1 a w hn fit h1
    rw [rounds_succ]
    cases e1 with
    | normal =>
      simp only at h2
      constructor
      · exact evLoop_not k h2
      · refine wp_mono hw fun x a1 w1 ⟨hx, ht⟩ => ?_
        subst hx
        obtain ⟨d1, z1, E1, st1, f1⟩ := ht
        exact (evLoop_ok hf k (by rw [z1]; exact hn) f1 (by rw [st1.ρ]; exact h2) Q fun a' w' ht' => hq a' w' (ht'.comp d1 z1 st1)).2
    | exit id =>
      have := leaf_ret h2
      simp only [Prod.mk.injEq] at this
      obtain ⟨rfl, rfl⟩ := this
      refine ⟨by simp, wp_mono hw fun x a1 w1 ⟨hx, ht⟩ => ?_⟩
      subst hx
      exact hq a1 w1 ht
    | ret =>
      have := leaf_ret h2
      simp only [Prod.mk.injEq] at this
      obtain ⟨rfl, rfl⟩ := this
      refine ⟨by simp, wp_mono hw fun x a1 w1 ⟨hx, ht⟩ => ?_⟩
      subst hx
      exact hq a1 w1 ht

theorem evCode_ok [Glob] {tt : TT} (htt : TTok P tt) {call : Calls?} (hc : CallOk P call) {draw : Nat → List Oper → St → T St} {chk : Nat → List Oper → Bool} (hdr : DrawOk P chk draw) {lf n : Nat} : ∀ (c : Code), dstOk chk n c = true → BodyOk P c n (evCode tt call draw lf c)
  | .skip, _, E, s, s', e, a, w, _, fit, h => by
    have := leaf_ret h
    simp only [Prod.mk.injEq] at this
    obtain ⟨rfl, rfl⟩ := this
    exact wp_skip ⟨rfl, Then.refl fit⟩
  | .region id ops d, hdst, E, s, s', e, a, w, hn, fit, h => by
    simp only [evCode] at h
    simp only [dstOk, Bool.and_eq_true] at hdst
    have hd := dsts_ok hdst.1 hn
    cases d
    · simp only [Bool.false_eq_true, if_false] at h
      obtain ⟨s1, h1, h2⟩ := T.leaf_bind h
      have := leaf_ret h2
      simp only [Prod.mk.injEq] at this
      obtain ⟨rfl, rfl⟩ := this
      refine wp_region ?_
      have := evOps_ok (Q := Post E s a w .normal s1) htt hc ops.toList 0 (by simp) hd fit h1 (fun a' w' ht => ⟨rfl, ht⟩)
      rw [List.range_eq_range']
      simpa using this
    · simp only [if_true] at h
      obtain ⟨s1, h1, h2⟩ := T.leaf_bind h
      have := leaf_ret h2
      simp only [Prod.mk.injEq] at this
      obtain ⟨rfl, rfl⟩ := this
      exact hdr id ops (by simpa using hdst.2) E s s1 a w _ hd fit h1 (fun a' w' ht => ⟨rfl, ht⟩)
  | .seq x y, hdst, E, s, s', e, a, w, hn, fit, h => by
    simp only [dstOk, Bool.and_eq_true] at hdst
    simp only [evCode] at h
    obtain ⟨⟨e1, s1⟩, h1, h2⟩ := T.leaf_bind h
    refine wp_seq (wp_mono (evCode_ok htt hc hdr x hdst.1 E s s1 e1 a w hn fit h1) fun q a1 w1 ⟨hx, ht⟩ => ?_)
    subst hx
    cases e1 with
    | normal =>
      simp only at h2
      obtain ⟨d1, z1, E1, st1, f1⟩ := ht
      refine wp_mono (evCode_ok htt hc hdr y hdst.2 E1 s1 s' e a1 w1 (by rw [z1]; exact hn) f1 (by rw [st1.ρ]; exact h2)) fun q a2 w2 ⟨hx, ht'⟩ => ?_
      exact ⟨hx, ht'.comp d1 z1 st1⟩
    | exit id =>
      have := leaf_ret h2
      simp only [Prod.mk.injEq] at this
      obtain ⟨rfl, rfl⟩ := this
      exact ⟨rfl, ht⟩
    | ret =>
      have := leaf_ret h2
      simp only [Prod.mk.injEq] at this
      obtain ⟨rfl, rfl⟩ := this
      exact ⟨rfl, ht⟩
  | .cond c x y, hdst, E, s, s', e, a, w, hn, fit, h => by
    simp only [dstOk, Bool.and_eq_true] at hdst
    simp only [evCode] at h
    split at h
    · rename_i cb hcb
      have hv := ev_ok fit.sr hcb
      simp only [VR] at hv
      obtain ⟨pc', hp', h1⟩ := onB_ok fit.pc h
      have fit' : Fit E { s with pc := pc' } a w := ⟨fit.rel, fit.sr, hp'⟩
      refine wp_cond hv ?_
      cases hcd : cb.den E.ρ <;> rw [hcd] at h1
      · simp only [Bool.false_eq_true, if_false] at h1 ⊢
        exact wp_mono (evCode_ok htt hc hdr y hdst.2 E _ s' e a w hn fit' h1) fun q a2 w2 ⟨hx, ht⟩ => ⟨hx, ht.defers, ht.size, ht.step⟩
      · simp only [if_true] at h1 ⊢
        exact wp_mono (evCode_ok htt hc hdr x hdst.1 E _ s' e a w hn fit' h1) fun q a2 w2 ⟨hx, ht⟩ => ⟨hx, ht.defers, ht.size, ht.step⟩
    · simp [T.leaf] at h
  | .block id b, hdst, E, s, s', e, a, w, hn, fit, h => by
    simp only [dstOk] at hdst
    simp only [evCode] at h
    obtain ⟨⟨e1, s1⟩, h1, h2⟩ := T.leaf_bind h
    refine wp_block (wp_mono (evCode_ok htt hc hdr b hdst E s s1 e1 a w hn fit h1) fun q a1 w1 ⟨hx, ht⟩ => ?_)
    subst hx
    cases e1 with
    | normal =>
      have := leaf_ret h2
      simp only [Prod.mk.injEq] at this
      obtain ⟨rfl, rfl⟩ := this
      exact ⟨rfl, ht⟩
    | exit j =>
      have := leaf_ret h2
      simp only [Prod.mk.injEq] at this
      obtain ⟨rfl, rfl⟩ := this
      simp only [toExit, Exit.inBlock]
      by_cases hj : j = id
      · rw [if_pos hj, if_pos hj]; exact ⟨rfl, ht⟩
      · rw [if_neg hj, if_neg hj]; exact ⟨rfl, ht⟩
    | ret =>
      have := leaf_ret h2
      simp only [Prod.mk.injEq] at this
      obtain ⟨rfl, rfl⟩ := this
      exact ⟨rfl, ht⟩
  | .loop b, hdst, E, s, s', e, a, w, hn, fit, h => by
    simp only [dstOk] at hdst
    simp only [evCode] at h
    exact wp_loop_rounds lf (evLoop_ok (evCode_ok htt hc hdr b hdst) lf hn fit h (Post E s a w e s') (fun a' w' ht => ⟨rfl, ht⟩)).2
  | .exit id, _, E, s, s', e, a, w, _, fit, h => by
    have := leaf_ret h
    simp only [Prod.mk.injEq] at this
    obtain ⟨rfl, rfl⟩ := this
    exact wp_exit ⟨rfl, Then.refl fit⟩
  | .scope b, hdst, E, s, s', e, a, w, hn, fit, h => by
    simp only [dstOk] at hdst
    simp only [evCode] at h
    refine wp_scope_straight (wp_mono (evCode_ok htt hc hdr b hdst E s s' e a w hn fit h) fun q a1 w1 ⟨hx, ht⟩ => ?_)
    subst hx
    cases e <;> exact ⟨rfl, ht⟩
  | .label l, _, E, s, s', e, a, w, _, fit, h => by
    have := leaf_ret h
    simp only [Prod.mk.injEq] at this
    obtain ⟨rfl, rfl⟩ := this
    exact wp_label ⟨rfl, Then.refl fit⟩
  | .ret, _, E, s, s', e, a, w, _, fit, h => by
    have := leaf_ret h
    simp only [Prod.mk.injEq] at this
    obtain ⟨rfl, rfl⟩ := this
    exact wp_ret ⟨rfl, Then.refl fit⟩
  | .rangeFunc _ _ _ _, _, E, s, s', e, a, w, _, fit, h => by simp [evCode, T.leaf] at h
  | .goto _, _, E, s, s', e, a, w, _, fit, h => by simp [evCode, T.leaf] at h
  | .refuse _, _, E, s, s', e, a, w, _, fit, h => by simp [evCode, T.leaf] at h

end
end Go.As

import Derived.Test.YtppmloolcbpkgaaGreatDoorAsDraw3
/-
  AS, part 22: what the run of a region comes to.
-/
namespace Go.As

section
variable {P : Program}

theorem ev1_ok [Glob] {tt : TT} (htt : TTok P tt) {call : Calls?} (hc : CallOk P call) {ops : Array Oper} {o : Oper} {s s' : St} {v : AV} {ρ : Nat → Int} (hp : PcOk ρ s.pc) (h : (ev1 tt call ops.toList o s).leaf ρ = some (v, s')) :
    Act1 P ρ ops o s.slots s.h v s'.h := by
  intro E a w hρ r sr
  subst hρ
  unfold ev1 at h
  obtain ⟨pc', hp', h1⟩ := onGuard_ok ⟨r, sr, hp⟩ h
  cases hw : Region.wanted o (yielded ops a.tmps) <;> rw [hw] at h1
  · simp only [Bool.false_eq_true, if_false] at h1
    have := leaf_ret h1
    simp only [Prod.mk.injEq] at this
    obtain ⟨rfl, rfl⟩ := this
    exact .inl ⟨rfl, rfl, rfl⟩
  · simp only [if_true] at h1
    obtain ⟨_, _, q3⟩ := evOp_ok htt hc (s := { s with pc := pc' }) (o := o) r sr hp' h1
    exact .inr ⟨rfl, q3⟩

theorem onB_some {α : Type} {ρ : Nat → Int} {s : St} {c : SB} {f : St → Bool → T α} {r : α} (h : (onB s c f).leaf ρ = some r) : ∃ pc' b, (f { s with pc := pc' } b).leaf ρ = some r := by
  unfold onB at h
  split at h
  · rename_i b _; exact ⟨s.pc, b, h⟩
  · split at h <;> simp only [T.leaf] at h <;> split at h <;> exact ⟨_, _, h⟩

theorem onGuard_some {α : Type} {ρ : Nat → Int} {s : St} {all : List Oper} {o : Oper} {f : St → Bool → T α} {r : α} (h : (onGuard all s o f).leaf ρ = some r) : ∃ pc' b, (f { s with pc := pc' } b).leaf ρ = some r := by
  unfold onGuard at h
  split at h
  · exact ⟨s.pc, true, h⟩
  · split at h
    · split at h
      · split at h
        · obtain ⟨pc', b, h1⟩ := onB_some h; exact ⟨pc', _, h1⟩
        · exact ⟨s.pc, _, h⟩
        · simp [T.leaf] at h
      · simp [T.leaf] at h
    · simp [T.leaf] at h

theorem on1_some {ρ : Nat → Int} {s : St} {x : Operand} {f : AV → T (AV × St)} {r : AV × St} (h : (on1 s x f).leaf ρ = some r) : ∃ v, (f v).leaf ρ = some r := by
  unfold on1 at h
  split at h
  · exact ⟨_, h⟩
  · simp [T.leaf] at h

theorem retV_some {ρ : Nat → Int} {s s' : St} {x : Option AV} {v : AV} (h : (retV s x).leaf ρ = some (v, s')) : s' = s := by
  unfold retV at h
  split at h
  · have := leaf_ret h
    simp only [Prod.mk.injEq] at this
    exact this.2.symm
  · simp [T.leaf] at h

theorem kind_r {tt : TT} {op : Op} (h : kindOf tt op = .r) : (∃ t x, op = .load t x) ∨ (∃ t x i ok, op = .lookup t x i ok) ∨ ∃ c : Call, op = .call c ∧ c.callee = .builtin .len := by
  unfold kindOf at h
  split at h <;> try (simp at h; done)
  · exact .inl ⟨_, _, rfl⟩
  · exact .inr (.inl ⟨_, _, _, _, rfl⟩)
  · rename_i c
    split at h
    · rename_i b hb
      split at h <;> simp at h
      exact .inr (.inr ⟨c, rfl, hb⟩)
    · simp at h
  · split at h
    · split at h <;> simp at h
    · simp at h

theorem evOp_r {tt : TT} {call : Calls?} {op : Op} {s s' : St} {v : AV} {ρ : Nat → Int} (hk : kindOf tt op = .r) (h : (evOp tt call s op).leaf ρ = some (v, s')) : s'.h = s.h := by
  rcases kind_r hk with ⟨t, x, rfl⟩ | ⟨t, x, i, ok, rfl⟩ | ⟨c, rfl, hc⟩
  · simp only [evOp] at h
    obtain ⟨p, h1⟩ := on1_some h
    rw [retV_some h1]
  · simp only [evOp] at h
    obtain ⟨p, h1⟩ := on1_some h
    split at h1
    · rw [retV_some h1]
    · simp [T.leaf] at h1
  · simp only [evOp, evCall] at h
    split at h
    · simp [T.leaf] at h
    · rw [hc] at h
      simp only [evBuiltin] at h
      split at h
      all_goals first
        | (rw [retV_some h]; done)
        | (simp [T.leaf] at h; done)
        | (rename_i e _ _; simp at e; done)
        | skip
      all_goals simp_all

theorem ev1_r {tt : TT} {call : Calls?} {all : List Oper} {o : Oper} {s s' : St} {v : AV} {ρ : Nat → Int} (hk : kindOf tt o.op = .r) (h : (ev1 tt call all o s).leaf ρ = some (v, s')) : s'.h = s.h := by
  unfold ev1 at h
  obtain ⟨pc', b, h1⟩ := onGuard_some h
  cases b
  · simp only [Bool.false_eq_true, if_false] at h1
    have := leaf_ret h1
    simp only [Prod.mk.injEq] at this
    rw [← this.2]
  · simp only [if_true] at h1
    exact evOp_r (s := { s with pc := pc' }) hk h1

/-! ### small things -/
theorem addBlks_get {base bm mm : Nat} : ∀ {l : List (Nat × AObj)} {h : Hp} {id : Nat} {x : AObj}, (addBlks base bm mm l h).get id = some x → h.get id = some x ∨ ∃ a, (a, x) ∈ l ∧ bm.testBit a = true ∧ mm.testBit a = false ∧ id = base + a
  | [], h, id, x, hh => .inl hh
  | (a, y) :: r, h, id, x, hh => by
    simp only [addBlks] at hh
    split at hh
    · rename_i hb
      rw [Hp.get_put] at hh
      split at hh
      · rename_i e
        simp at hh
        subst hh
        simp at hb
        exact .inr ⟨a, by simp, hb.1, hb.2, e⟩
      · rcases addBlks_get hh with h1 | ⟨b, h1, h2⟩
        · exact .inl h1
        · exact .inr ⟨b, by simp [h1], h2⟩
    · rcases addBlks_get hh with h1 | ⟨b, h1, h2⟩
      · exact .inl h1
      · exact .inr ⟨b, by simp [h1], h2⟩

theorem addBlks_next {base bm mm : Nat} : ∀ (l : List (Nat × AObj)) (h : Hp), (addBlks base bm mm l h).next = h.next ∧ (addBlks base bm mm l h).res = h.res
  | [], h => ⟨rfl, rfl⟩
  | (a, y) :: r, h => by
    have := addBlks_next (base := base) (bm := bm) (mm := mm) r h
    simp only [addBlks]
    split
    · exact this
    · exact this

theorem only_get {slots : Tr AV} : ∀ {ts : List Nat} {t : Nat} {x : AV}, (only slots ts).get t = some x → t ∈ ts ∧ slots.get t = some x
  | [], t, x, h => by simp [only, Tr.get] at h
  | u :: us, t, x, h => by
    simp only [only] at h
    split at h
    · rename_i v hv
      rw [Tr.get_put] at h
      split at h
      · rename_i e
        subst e
        exact ⟨by simp, by rw [hv]; exact h⟩
      · have := only_get h
        exact ⟨by simp [this.1], this.2⟩
    · have := only_get h
      exact ⟨by simp [this.1], this.2⟩

theorem only_congr {s s' : Tr AV} : ∀ {ts : List Nat}, (∀ t ∈ ts, s.get t = s'.get t) → only s ts = only s' ts
  | [], _ => rfl
  | u :: us, h => by
    simp only [only]
    rw [h u (by simp), only_congr fun t ht => h t (by simp [ht])]

theorem slotO_get {slots : Tr AV} {d : Option Nat} {v : AV} {t : Nat} : (slotO slots d v).get t = if d = some t then some v else slots.get t := by
  cases d with
  | none => simp [slotO]
  | some u =>
    simp only [slotO, Tr.get_put, Option.some.injEq]
    by_cases h : t = u
    · subst h; simp
    · rw [if_neg h, if_neg (fun e => h e.symm)]

theorem edgeMask_bit {ms : List Nat} {i : Nat} : ∀ {es : List Edge}, (edgeMask ms es).testBit i = true → ∃ e ∈ es, Region.binds .any e = true ∧ (e.on = i ∨ (ms.getD e.on 0).testBit i = true)
  | [], h => by simp [edgeMask] at h
  | e :: es, h => by
    simp only [edgeMask] at h
    split at h
    · rename_i hb
      simp only [Nat.testBit_or, Bool.or_eq_true] at h
      rcases h with (h | h) | h
      · rw [Nat.shiftLeft_eq, Nat.one_mul, Nat.testBit_two_pow] at h
        exact ⟨e, by simp, hb, .inl (by simpa using h)⟩
      · exact ⟨e, by simp, hb, .inr h⟩
      · obtain ⟨e', h1, h2⟩ := edgeMask_bit h
        exact ⟨e', by simp [h1], h2⟩
    · obtain ⟨e', h1, h2⟩ := edgeMask_bit h
      exact ⟨e', by simp [h1], h2⟩

/-! ### the items -/
def cntE (tt : TT) : List Oper → Nat
  | [] => 0
  | o :: os => (match kindOf tt o.op with | .e => 1 | _ => 0) + cntE tt os

theorem items_get {tt : TT} {all : List Oper} {ms : List Nat} : ∀ (os : List Oper) (i n j : Nat), (items tt all ms os i n)[j]? = (os[j]?).map fun o => ⟨i + j, o, ms.getD (i + j) 0, kindOf tt o.op, n + cntE tt (os.take j), reads all o⟩
  | [], i, n, j => by simp [items]
  | o :: os, i, n, j => by
    simp only [items]
    cases j with
    | zero => simp [cntE]
    | succ j =>
      rw [List.getElem?_cons_succ, items_get os]
      simp only [List.getElem?_cons_succ, List.take_succ_cons, cntE]
      congr 1
      funext o'
      have : i + 1 + j = i + (j + 1) := by omega
      rw [this]
      congr 1
      cases kindOf tt o.op <;> simp <;> omega

theorem items_length {tt : TT} {all : List Oper} {ms : List Nat} : ∀ (os : List Oper) (i n : Nat), (items tt all ms os i n).length = os.length
  | [], i, n => rfl
  | o :: os, i, n => by simp [items, items_length os]

theorem countE_items {tt : TT} {all : List Oper} {ms : List Nat} : ∀ (os : List Oper) (i n : Nat), countE (items tt all ms os i n) = cntE tt os
  | [], i, n => rfl
  | o :: os, i, n => by
    simp only [items, countE, cntE, countE_items os]
    cases kindOf tt o.op <;> simp <;> omega

end
end Go.As

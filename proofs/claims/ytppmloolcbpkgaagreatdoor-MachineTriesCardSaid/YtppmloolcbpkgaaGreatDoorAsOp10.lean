import Derived.Test.YtppmloolcbpkgaaGreatDoorAsOp9
/-
  AS, part 14: clear, ranges over strings, tests, min and max.
-/
namespace Go.As

section
variable {P : Program} {E : En} {w : World}

theorem evClear_ok [Glob] {tt : TT} (htt : TTok P tt) {H H' : Hp} (r : RelH E H w) {t ty : Nat} {x : AV} {u : Value} (hx : VR E w.heap x u) (h : evClear tt t x H = some H') :
    ∃ w', (Builtin.clear_ #[t] ty #[u]).run P w = .ok (.tuple #[]) w' ∧ Stp E H w E H' w' ∧ RelH E H' w' := by
  unfold evClear at h
  split at h
  · rename_i ti hti
    split at h
    · rename_i e hk
      have hu := und_slice (htt t ti hti) hk
      split at h
      · rename_i ie hie
        obtain ⟨inf, d, z, h1, h2, h3, h4, h5, h6, h7, h8⟩ := (htt e ie hie).all
        have hz := ofScalars_VRs (E := E) (h := w.heap) h4
        split at h
        · simp at h
          subst h
          simp only [VR] at hx
          subst hx
          exact ⟨w, by simp [Builtin.clear_, run_underlying hu], Stp.refl _ _ _, r⟩
        · rename_i id o len c
          simp only [VR] at hx
          obtain ⟨hid, a, cap, rfl, hlen, hc⟩ := hx
          split at h
          · simp at h
            subst h
            exact ⟨w, by simp [Builtin.clear_, run_underlying hu], Stp.refl _ _ _, r⟩
          · rename_i hl0
            split at h
            · simp at h
            · rename_i hne
              split at h
              · rename_i cs e' hl
                split at h
                · rename_i cs' hs
                  simp at h
                  subst h
                  have ha : a = ⟨(E.θ id).1, (E.θ id).2 + o, none⟩ := by
                    rcases slice_addr hc with ha | ha
                    · exact ha
                    · exfalso; exact hl0 (by omega)
                  have hzne : z.cells.toList ≠ [] := by
                    intro hx
                    have := hz.1.length
                    rw [hx] at this
                    exact hne (List.eq_nil_of_length_eq_zero (by simpa using this.symm))
                  have hzc : (Builtin.zeroCells z.cells len).toList = repeatL z.cells.toList len := zeros_eq z.cells hzne len
                  obtain ⟨w', g1, g2, g3⟩ := write_step (P := P) r hl hs (repeatL_VRs hz.1 len) (fun u hu => hz.2 u (repeatL_mem hu))
                  refine ⟨w', ?_, g2, g3⟩
                  subst ha
                  obtain ⟨l, rfl⟩ : ∃ l, len = l + 1 := ⟨len - 1, by have : len ≠ 0 := fun hh => hl0 hh; omega⟩
                  simp [Builtin.clear_, run_underlying hu, zeroValue, typeInfo, h1, h3, hzc, g1]
                · simp at h
              · simp at h
        · simp at h
      · simp at h
    · simp at h
  · simp at h

theorem evRange_ok [Glob] {tt : TT} (htt : TTok P tt) {H H' : Hp} (r : RelH E H w) {t : Nat} {x v : AV} {u : Value} (hx : VR E w.heap x u) (h : evRange tt t x H = some (v, H')) :
    ∃ y w' E', (Instr.range t u).run P w = .ok y w' ∧ Stp E H w E' H' w' ∧ RelH E' H' w' ∧ VR E' w'.heap v y := by
  unfold evRange at h
  split at h
  · rename_i ti hti
    split at h
    · rename_i hk
      split at h
      · rename_i b
        simp only [Option.some.injEq, Prod.mk.injEq] at h
        obtain ⟨rfl, rfl⟩ := h
        simp only [VR] at hx
        obtain ⟨rfl, hlt⟩ := hx
        obtain ⟨s1, s2⟩ := new_step r (.stringIter (strB b) 0) (.siter b 0) 0 (w' := w.iter (strB b) 0) rfl ⟨rfl, rfl, rfl⟩ (by
          simp only [OR, En.ext_θ_new]
          exact ⟨World.iter_heap _ _ _, trivial, hlt⟩)
        exact ⟨_, _, _, run_range_string w t (strB b) (und_string (htt t ti hti) hk), s1, s2, ptr_new r 0 _ 0⟩
      · simp at h
    · simp at h
  · simp at h

theorem evNext_ok [Glob] {H H' : Hp} (r : RelH E H w) {x v : AV} {u : Value} {isS : Bool} (hx : VR E w.heap x u) (h : evNext x isS H = some (v, H')) (ty : Nat) :
    ∃ y w', (Instr.next u isS ty).run P w = .ok y w' ∧ Stp E H w E H' w' ∧ RelH E H' w' ∧ VR E w'.heap v y := by
  unfold evNext at h
  split at h
  · simp at h
  · split at h
    · rename_i id
      split at h
      · rename_i b p hl
        obtain ⟨g1, g2, g3⟩ := (r.live id _ hl).2.1
        simp only [VR] at hx
        obtain ⟨rfl, hid⟩ := hx
        rw [g2]
        have hg := getObj_run (P := P) g1 (by simp)
        split at h
        · rename_i hn
          simp only [Option.some.injEq, Prod.mk.injEq] at h
          obtain ⟨rfl, rfl⟩ := h
          rw [nth?_eq, List.getElem?_eq_none_iff] at hn
          have hp : ¬ p < (strB b).size := by rw [strB_size]; omega
          refine ⟨.tuple #[.bool false], w, ?_, Stp.refl _ _ _, r, ?_⟩
          · simp [Instr.next, hg, hp]
          · simp only [VR, VRs]; exact ⟨[.bool false], rfl, _, _, rfl, by simp [SB.den], rfl⟩
        · rename_i c hn
          split at h
          · rename_i hc
            simp only [Option.some.injEq, Prod.mk.injEq] at h
            obtain ⟨rfl, rfl⟩ := h
            rw [nth?_eq] at hn
            have hpl := (List.getElem?_eq_some_iff.1 hn).1
            have hp : p < (strB b).size := by rw [strB_size]; exact hpl
            have hb : (strB b)[p]'hp = UInt8.ofNat c := by
              have h1 : (strB b)[p]? = some ((strB b)[p]'hp) := getElem?_pos (strB b) p hp
              rw [strB_get, hn] at h1
              simpa using h1.symm
            have hbn : ((strB b)[p]'hp).toNat = c := by rw [hb]; simp; omega
            have hdec := decode_ascii (strB b) p hp (by rw [hbn]; exact hc)
            obtain ⟨s1, s2⟩ := setObj_step r hl (.siter b (p + 1)) (.stringIter (strB b) (p + 1)) (by
              intro h' hh _
              exact ⟨hh, g2, g3⟩)
            refine ⟨.tuple #[.bool true, goInt p, .int .i32 ((strB b)[p]'hp).toNat], _, ?_, s1, s2, ?_⟩
            · simp only [Instr.next, Sem.run_bind, hg, Result.andThen_ok, hp, if_true, hdec, setObj_run (P := P) g1 (by simp), Sem.run_pure]
            · simp only [VR, VRs, hbn]
              exact ⟨_, rfl, _, _, rfl, by simp [SB.den], _, _, rfl, by simp [SE.den, goInt], _, _, rfl, by simp [SE.den], rfl⟩
          · simp at h
      · simp at h
    · simp at h

/-! ### tests -/
theorem pc_cons {ρ : Nat → Int} {pc : List (SB × Bool)} (hp : PcOk ρ pc) {c : SB} {b : Bool} (h : c.den ρ = b) : PcOk ρ ((c, b) :: pc) := by
  intro d x hm
  rcases List.mem_cons.1 hm with hm | hm
  · simp only [Prod.mk.injEq] at hm; rw [hm.1, hm.2]; exact h
  · exact hp d x hm

theorem onB_ok {α : Type} {ρ : Nat → Int} {s : St} (hp : PcOk ρ s.pc) {c : SB} {f : St → Bool → T α} {r : α} (h : (onB s c f).leaf ρ = some r) :
    ∃ pc', PcOk ρ pc' ∧ (f { s with pc := pc' } (c.den ρ)).leaf ρ = some r := by
  unfold onB at h
  split at h
  · rename_i b hb
    exact ⟨s.pc, hp, by rw [decideB_ok hp hb]; exact h⟩
  · split at h
    · rename_i d
      simp only [T.leaf] at h
      split at h
      · rename_i hc
        exact ⟨_, pc_cons hp hc, by simp only [SB.den, hc]; exact h⟩
      · rename_i hc
        exact ⟨_, pc_cons hp hc, by simp only [SB.den, hc]; exact h⟩
    · simp only [T.leaf] at h
      split at h
      · rename_i hc
        exact ⟨_, pc_cons hp hc, by rw [hc]; exact h⟩
      · rename_i hc
        exact ⟨_, pc_cons hp hc, by rw [hc]; exact h⟩

theorem T.leaf_bind {α β : Type} {ρ : Nat → Int} {f : α → T β} {r : β} : ∀ {x : T α}, (x.bind f).leaf ρ = some r → ∃ a, x.leaf ρ = some a ∧ (f a).leaf ρ = some r
  | .fail, h => by simp [T.bind, T.leaf] at h
  | .ret a, h => ⟨a, rfl, h⟩
  | .split c x y, h => by
    simp only [T.bind, T.leaf] at h ⊢
    split at h <;> exact T.leaf_bind h

theorem foldMin_ok {mx : Bool} : ∀ {xs : List AV} {a : SE} {k : IntKind} {s s' : St} {us : List Value} {v : AV}, PcOk E.ρ s.pc → VRs E w.heap xs us → (foldMin mx xs a k s).leaf E.ρ = some (v, s') →
    s'.h = s.h ∧ s'.slots = s.slots ∧ PcOk E.ρ s'.pc ∧ ∃ u, (us.foldlM (if mx then Builtin.max2 else Builtin.min2) (.int k (a.den E.ρ))).run P w = .ok u w ∧ VR E w.heap v u
  | [], a, k, s, s', us, v, hp, hv, h => by
    simp only [foldMin, T.leaf, Option.some.injEq, Prod.mk.injEq] at h
    obtain ⟨rfl, rfl⟩ := h
    rw [VRs_nil] at hv
    subst hv
    exact ⟨rfl, rfl, hp, _, rfl, by simp only [VR]⟩
  | x :: xs, a, k, s, s', us, v, hp, hv, h => by
    rw [VRs_cons] at hv
    obtain ⟨u, vs, rfl, hx, hxs⟩ := hv
    cases x <;> simp only [foldMin, T.leaf, reduceCtorEq] at h
    rename_i k' b
    simp only [VR] at hx
    subst hx
    obtain ⟨pc', hp', h1⟩ := onB_ok hp h
    cases mx
    · simp only [Bool.false_eq_true, if_false, sbLt_den] at h1 ⊢
      by_cases hc : b.den E.ρ < a.den E.ρ
      · simp only [hc, decide_true, if_true] at h1
        obtain ⟨q1, q2, q3, u, q4, q5⟩ := foldMin_ok hp' hxs h1
        refine ⟨q1, q2, q3, u, ?_, q5⟩
        simp only [List.foldlM_cons, Sem.run_bind, Builtin.min2, Sem.run_pure, Result.andThen_ok, hc, if_true]
        simpa using q4
      · simp only [hc, decide_false, Bool.false_eq_true, if_false] at h1
        obtain ⟨q1, q2, q3, u, q4, q5⟩ := foldMin_ok hp' hxs h1
        refine ⟨q1, q2, q3, u, ?_, q5⟩
        simp only [List.foldlM_cons, Sem.run_bind, Builtin.min2, Sem.run_pure, Result.andThen_ok, hc, if_false]
        simpa using q4
    · simp only [if_true, sbLt_den] at h1 ⊢
      by_cases hc : a.den E.ρ < b.den E.ρ
      · simp only [hc, decide_true, if_true] at h1
        obtain ⟨q1, q2, q3, u, q4, q5⟩ := foldMin_ok hp' hxs h1
        refine ⟨q1, q2, q3, u, ?_, q5⟩
        simp only [List.foldlM_cons, Sem.run_bind, Builtin.max2, Sem.run_pure, Result.andThen_ok, gt_iff_lt, hc, if_true]
        simpa using q4
      · simp only [hc, decide_false, Bool.false_eq_true, if_false] at h1
        obtain ⟨q1, q2, q3, u, q4, q5⟩ := foldMin_ok hp' hxs h1
        refine ⟨q1, q2, q3, u, ?_, q5⟩
        simp only [List.foldlM_cons, Sem.run_bind, Builtin.max2, Sem.run_pure, Result.andThen_ok, gt_iff_lt, hc, if_false]
        simpa using q4

end
end Go.As

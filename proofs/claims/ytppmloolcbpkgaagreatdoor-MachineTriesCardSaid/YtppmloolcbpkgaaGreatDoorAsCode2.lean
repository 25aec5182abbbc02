import Derived.Test.YtppmloolcbpkgaaGreatDoorAsCode1
/-
  AS, part 18: functions.
-/
namespace Go.As

section
variable {P : Program}

theorem init_get : ∀ (args : List AV) (i : Nat) (t : Tr AV) (k : Nat), (initSlots args i t).get k = if i ≤ k ∧ k < i + args.length then args[k - i]? else t.get k
  | [], i, t, k => by
    have : ¬(i ≤ k ∧ k < i + ([] : List AV).length) := by simp
    rw [if_neg this]
    rfl
  | v :: vs, i, t, k => by
    simp only [initSlots, init_get vs (i + 1), Tr.get_put, List.length_cons]
    by_cases h1 : i + 1 ≤ k ∧ k < i + 1 + vs.length
    · have h2 : i ≤ k ∧ k < i + (vs.length + 1) := by omega
      rw [if_pos h1, if_pos h2]
      have : k - i = (k - (i + 1)) + 1 := by omega
      rw [this, List.getElem?_cons_succ]
    · rw [if_neg h1]
      by_cases h3 : k = i
      · subst h3
        have h2 : k ≤ k ∧ k < k + (vs.length + 1) := by omega
        rw [if_pos h2]
        simp
      · have h2 : ¬(i ≤ k ∧ k < i + (vs.length + 1)) := by omega
        rw [if_neg h2]
        first
          | rw [if_neg h3]
          | rw [if_neg (fun q => h3 q.symm)]

theorem VRs.get {E : En} {h : Array Obj} : ∀ {vs : List AV} {us : List Value}, VRs E h vs us → ∀ (i : Nat) (v : AV), vs[i]? = some v → ∃ u, us[i]? = some u ∧ VR E h v u
  | [], us, hv, i, v, hi => by simp at hi
  | x :: xs, us, hv, i, v, hi => by
    cases us with
    | nil => simp [VRs] at hv
    | cons y ys =>
      simp only [VRs] at hv
      obtain ⟨u', us', he, h1, h2⟩ := hv
      simp only [List.cons.injEq] at he
      obtain ⟨rfl, rfl⟩ := he
      cases i with
      | zero => simp at hi; subst hi; exact ⟨y, by simp, h1⟩
      | succ i => simpa using VRs.get h2 i v (by simpa using hi)

theorem init_SR {E : En} {h : Array Obj} {args : List AV} {vals : List Value} (hv : VRs E h args vals) (n : Nat) :
    SR E h (initSlots args 0 .nil) { tmps := vals.toArray ++ Array.replicate n undef, defers := [] } := by
  intro t v ht
  rw [init_get] at ht
  split at ht
  · rename_i hk
    obtain ⟨u, h1, h2⟩ := VRs.get hv t v (by simpa using ht)
    refine ⟨u, ?_, h2⟩
    have : t < vals.length := by
      rcases Nat.lt_or_ge t vals.length with h | h
      · exact h
      · rw [List.getElem?_eq_none h] at h1; simp at h1
    rw [Array.getElem?_append_left (by simpa using this)]
    simpa using h1
  · simp [Tr.get] at ht

/-- one result -/
def resVar (a : Act) : ResultVar → Sem Value
  | .tmp t => pure (a.tmps.getD t undef)
  | .cell b t => do loadVar t (← asAddr (a.tmps.getD b undef))

/-- what the results come to -/
def resV (vs : List AV) : AV := match vs with | [x] => x | vs => .tuple vs

theorem resV_many {vs : List AV} (h : ∀ v, vs = [v] → False) : resV vs = .tuple vs := by
  unfold resV
  split
  · exact absurd rfl (h _)
  · rfl

theorem resV_ok {E : En} {h : Array Obj} {vs : List AV} {us : List Value} (g2 : VRs E h vs us) : VR E h (resV vs) (if h : us.toArray.size = 1 then us.toArray[0] else .tuple us.toArray) := by
  cases vs with
  | nil =>
    simp only [VRs] at g2
    subst g2
    simp [resV, VR, VRs]
  | cons x xs =>
    cases xs with
    | nil =>
      simp only [VRs] at g2
      obtain ⟨u, us', rfl, h1, rfl⟩ := g2
      simpa [resV] using h1
    | cons x2 xs =>
      have g3 := g2
      simp only [VRs] at g2
      obtain ⟨u, us', rfl, h1, u2, us2, rfl, h2, h3⟩ := g2
      have : ¬ ((u :: u2 :: us2).toArray.size = 1) := by simp
      rw [dif_neg this]
      simp only [resV, VR]
      exact ⟨_, rfl, g3⟩

theorem evResult_ok [Glob] {tt : TT} (htt : TTok P tt) {E : En} {s : St} {a : Act} {w : World} (fit : Fit E s a w) {r : ResultVar} {v : AV} (h : evResult tt s r = some v) :
    ∃ u, (resVar a r).run P w = .ok u w ∧ VR E w.heap v u := by
  cases r with
  | tmp t =>
    simp only [evResult] at h
    obtain ⟨u, h1, h2⟩ := fit.sr t v h
    exact ⟨u, by simp [resVar, h1, Array.getD_eq_getD_getElem?], h2⟩
  | cell b t =>
    simp only [evResult] at h
    split at h
    · rename_i p hp
      obtain ⟨u, h1, h2⟩ := fit.sr b p hp
      obtain ⟨x, bb, o, rfl, h3, h4⟩ := evLoad_ok htt fit.rel h2 h
      exact ⟨x, by simp [resVar, h1, Array.getD_eq_getD_getElem?, asAddr, h3], h4⟩
    · simp at h

theorem evResults_ok [Glob] {tt : TT} (htt : TTok P tt) {E : En} {s : St} {a : Act} {w : World} (fit : Fit E s a w) : ∀ {rs : List ResultVar} {vs : List AV}, evResults tt s rs = some vs →
    ∃ us, (rs.mapM (resVar a)).run P w = .ok us w ∧ VRs E w.heap vs us
  | [], vs, h => by
    simp [evResults] at h
    subst h
    exact ⟨[], by simp, by simp [VRs]⟩
  | r :: rs, vs, h => by
    simp only [evResults] at h
    split at h
    · simp at h
    · rename_i v hv
      split at h
      · simp at h
      · rename_i vs' hvs
        simp at h
        subst h
        obtain ⟨u, h1, h2⟩ := evResult_ok htt fit hv
        obtain ⟨us, h3, h4⟩ := evResults_ok htt fit hvs
        refine ⟨u :: us, ?_, by simp only [VRs]; exact ⟨u, us, rfl, h2, h4⟩⟩
        rw [List.mapM_cons]
        simp [Sem.run_bind, h1, h3]

/-- the functions' table is the program's -/
def FTok (P : Program) (chk : Nat → Nat → List Oper → Bool) (ft : Nat → Option Func) : Prop := ∀ g fn, ft g = some fn → P.funcs[g]? = some fn ∧ (fn.name == "runtime.NumGoroutine") = false ∧ ∀ c, fn.body = some c → dstOk (chk g) fn.ntmps c = true

theorem evFn_ok [Glob] {tt : TT} (htt : TTok P tt) {chk : Nat → Nat → List Oper → Bool} {ft : Nat → Option Func} (hft : FTok P chk ft) {hook : Nat → Option (List AV → St → T (AV × St))} (hh : ∀ g h, hook g = some h → FnOk P g h)
    {draw : Calls? → Nat → Nat → List Oper → St → T St} (hdr : ∀ call, CallOk P call → ∀ g, DrawOk P (chk g) (draw call g)) (lf : Nat) : ∀ (n : Nat), CallOk P (evFn tt ft hook draw lf n)
  | 0 => by
    intro g args s E w vals v s' _ _ _ h
    simp [evFn, T.leaf] at h
  | n + 1 => by
    have ih := evFn_ok htt hft hh hdr lf n
    intro g args s E w vals v s' r hv hp h
    simp only [evFn] at h
    split at h
    · rename_i f hf
      exact hh g f hf args s E w vals v s' r hv hp h
    · split at h
      · simp [T.leaf] at h
      · rename_i fn hfn
        obtain ⟨hf, hname, hdst⟩ := hft g fn hfn
        split at h
        · simp [T.leaf] at h
        · rename_i c hb
          obtain ⟨⟨e, s1⟩, h1, h2⟩ := T.leaf_bind h
          have fit : Fit E { s with slots := initSlots args 0 .nil } { tmps := vals.toArray ++ Array.replicate (fn.ntmps - vals.toArray.size) undef, defers := [] } w :=
            ⟨r, init_SR hv _, hp⟩
          have hwp := evCode_ok htt ih (hdr _ ih g) (lf := lf) c (hdst c hb) E _ s1 e _ w (by simp; omega) fit h1
          have hout : ∃ vs, evResults tt s1 fn.results.toList = some vs ∧ (e = .normal ∨ e = .ret) ∧ s' = { s1 with slots := s.slots } ∧ v = resV vs := by
            cases e with
            | exit id => simp [T.leaf] at h2
            | normal =>
              simp only at h2
              split at h2
              · rename_i x hx
                have := leaf_ret h2
                simp only [Prod.mk.injEq] at this
                exact ⟨_, hx, .inl rfl, this.2.symm, this.1.symm⟩
              · rename_i vs hn hx
                have := leaf_ret h2
                simp only [Prod.mk.injEq] at this
                refine ⟨_, hx, .inl rfl, this.2.symm, ?_⟩
                rw [← this.1]
                exact (resV_many hn).symm
              · simp [T.leaf] at h2
            | ret =>
              simp only at h2
              split at h2
              · rename_i x hx
                have := leaf_ret h2
                simp only [Prod.mk.injEq] at this
                exact ⟨_, hx, .inr rfl, this.2.symm, this.1.symm⟩
              · rename_i vs hn hx
                have := leaf_ret h2
                simp only [Prod.mk.injEq] at this
                refine ⟨_, hx, .inr rfl, this.2.symm, ?_⟩
                rw [← this.1]
                exact (resV_many hn).symm
              · simp [T.leaf] at h2
          obtain ⟨vs, hr, he, rfl, rfl⟩ := hout
          have hpc : PcOk E.ρ s1.pc := by
            obtain ⟨_, _, _, ⟨_, ht⟩, _⟩ := hwp default [] []
            obtain ⟨E1, st1, f1⟩ := ht.step
            have := f1.pc
            rw [st1.ρ] at this
            exact this
          refine ⟨rfl, hpc, ?_⟩
          have hcalls : Calls P g vals.toArray w fun e w'' => ∃ u, e = .returned u ∧ After E s w (resV vs) { s1 with slots := s.slots } u w'' := by
            refine calls_of_wp hf hb (wp_mono hwp fun x a1 w1 ⟨hx, ht⟩ => ?_)
            subst hx
            obtain ⟨d1, z1, E1, st1, f1⟩ := ht
            obtain ⟨us, g1, g2⟩ := evResults_ok htt f1 hr
            have : ∃ u, (results fn a1.tmps).run P w1 = .ok u w1 ∧ VR E1 w1.heap (resV vs) u := by
              refine ⟨if h : us.toArray.size = 1 then us.toArray[0] else .tuple us.toArray, ?_, ?_⟩
              · have hm : (fn.results.mapM (resVar a1)).run P w1 = .ok us.toArray w1 := by
                  rw [Array.mapM_eq_mapM_toList]
                  rw [map_eq_pure_bind]
                  simp only [Sem.run_bind, g1]
                  rfl
                have hres : results fn a1.tmps = (do let vs ← fn.results.mapM (resVar a1); pure (if h : vs.size = 1 then vs[0] else .tuple vs)) := rfl
                rw [hres]
                simp only [Sem.run_bind, hm]
                rfl
              · exact resV_ok g2
            obtain ⟨u, g3, g4⟩ := this
            rcases he with rfl | rfl
            · exact ⟨d1, u, g3, u, rfl, E1, st1, f1.rel, g4⟩
            · exact ⟨d1, u, g3, u, rfl, E1, st1, f1.rel, g4⟩
          have hrun : (callFunc g vals.toArray).run P w = .ok (.enter g vals.toArray) w := by
            unfold callFunc
            simp [hf, hb, by simpa using hname]
          unfold CallW NextW
          rw [hrun]
          exact hcalls

end
end Go.As

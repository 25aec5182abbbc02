import Derived.Test.YtppmloolcbpkgaaGreatDoorAsBridge
/-
  AS, part 28: functions whose answer is known.
-/
namespace Go.As
noncomputable section
open Go.RowKit

/-! ### values that hang on no block -/
mutual
def closedV : AV → Bool
  | .bool (.lit _) => true
  | .int _ (.lit _) => true
  | .str _ => true
  | .nilp => true
  | .nils => true
  | .nilm => true
  | .nilf => true
  | .nili => true
  | .iface _ v => closedV v
  | .agg cs => closedVs cs
  | .tuple cs => closedVs cs
  | .func _ fs cs => closedVs fs && closedVs cs
  | _ => false
def closedVs : List AV → Bool
  | [] => true
  | x :: xs => closedV x && closedVs xs
end

section
variable {P : Program}

mutual
theorem closed_VR {E E' : En} {h h' : Array Obj} : ∀ (x : AV) (u : Value), closedV x = true → VR E h x u → VR E' h' x u
  | .bool b, u, hc, hv => by cases b <;> simp [closedV] at hc; simpa [VR, SB.den] using hv
  | .int k e, u, hc, hv => by cases e <;> simp [closedV] at hc; simpa [VR, SE.den] using hv
  | .str s, u, _, hv => by simp only [VR] at *; exact hv
  | .nilp, u, _, hv => by simp only [VR] at *; exact hv
  | .nils, u, _, hv => by simp only [VR] at *; exact hv
  | .nilm, u, _, hv => by simp only [VR] at *; exact hv
  | .nilf, u, _, hv => by simp only [VR] at *; exact hv
  | .nili, u, _, hv => by simp only [VR] at *; exact hv
  | .iface t x, u, hc, hv => by
    simp only [VR, closedV] at *
    obtain ⟨y, h1, h2⟩ := hv
    exact ⟨y, h1, closed_VR x y hc h2⟩
  | .agg cs, u, hc, hv => by
    simp only [VR, closedV] at *
    obtain ⟨us, h1, h2⟩ := hv
    exact ⟨us, h1, closed_VRs cs us hc h2⟩
  | .tuple cs, u, hc, hv => by
    simp only [VR, closedV] at *
    obtain ⟨us, h1, h2⟩ := hv
    exact ⟨us, h1, closed_VRs cs us hc h2⟩
  | .func fn fs cs, u, hc, hv => by
    simp only [VR, closedV, Bool.and_eq_true] at *
    obtain ⟨us, ws, h1, h2, h3⟩ := hv
    exact ⟨us, ws, h1, closed_VRs fs us hc.1 h2, closed_VRs cs ws hc.2 h3⟩
  | .ptr _ _, _, hc, _ => by simp [closedV] at hc
  | .rptr _, _, hc, _ => by simp [closedV] at hc
  | .slice _ _ _ _, _, hc, _ => by simp [closedV] at hc
  | .ro _ _ _, _, hc, _ => by simp [closedV] at hc
  | .map _, _, hc, _ => by simp [closedV] at hc
  | .opq _, _, hc, _ => by simp [closedV] at hc
  | .inp _ _, _, hc, _ => by simp [closedV] at hc
theorem closed_VRs {E E' : En} {h h' : Array Obj} : ∀ (xs : List AV) (us : List Value), closedVs xs = true → VRs E h xs us → VRs E' h' xs us
  | [], us, _, hv => by simp only [VRs] at *; exact hv
  | x :: xs, us, hc, hv => by
    simp only [VRs, closedVs, Bool.and_eq_true] at *
    obtain ⟨u, vs, h1, h2, h3⟩ := hv
    exact ⟨u, vs, h1, closed_VR x u hc.1 h2, closed_VRs xs vs hc.2 h3⟩
end

/-- nothing that is known changes -/
theorem below_stp [Glob] {E : En} {H : Hp} {w w' : World} (r : RelH E H w) (b : Below w.heap.size w w') : Stp E H w E H w' ∧ RelH E H w' := by
  have hk : Keeps E w.heap E w'.heap := ⟨rfl, fun _ h => h, fun _ _ => rfl, fun _ _ => rfl, fun _ h => h, fun x hx => b.block x (r.rob x hx)⟩
  refine ⟨⟨rfl, fun _ h => h, fun _ _ => rfl, fun _ _ => rfl, fun _ h => h, fun _ h => h, Nat.le_refl _, .inr rfl, fun _ h => .inl h, b.os, b.tape, b.output, b.size, fun x hx _ => b.block x hx, fun id o h _ => ⟨id, o, h, rfl⟩⟩, r.fresh, r.res, fun id o h => ?_, r.inj, fun x hx => Nat.lt_of_lt_of_le (r.rob x hx) b.size, Glob.keep r.glob hk.ro hk.roh⟩
  obtain ⟨h1, h2, h3⟩ := r.live id o h
  exact ⟨h1, h2.keep hk h1 (b.block _ (live_lt r h)), h3⟩

/-- a function called with values that hang on nothing, whose answer hangs on nothing -/
def memo (args : List AV) (v : AV) : List AV → St → T (AV × St) := fun as s => if sameAVs as args then .ret (v, s) else .fail

def gives (args : List AV) (v : AV) (f : List AV → St → T (AV × St)) : Bool :=
  closedVs args && closedV v && (match f args ⟨.nil, Hp.zero, []⟩ with | .ret (u, _) => sameAV u v | _ => false)

theorem memo_ok [Glob] {g : FuncId} {f : List AV → St → T (AV × St)} (hf : FnOk P g f) {fn : Func} (hfn : P.funcs[g]? = some fn) (hname : (fn.name == "runtime.NumGoroutine") = false) {c : Code} (hb : fn.body = some c)
    {args : List AV} {v : AV} (h : gives args v f = true) : FnOk P g (memo args v) := by
  intro as s E w vals u s' r hv hp hl
  unfold memo at hl
  split at hl
  · rename_i hs
    have := leaf_ret hl
    simp only [Prod.mk.injEq] at this
    obtain ⟨rfl, rfl⟩ := this
    rw [sameAVs_eq _ _ hs] at hv
    unfold gives at h
    simp only [Bool.and_eq_true] at h
    obtain ⟨⟨h1, h2⟩, h3⟩ := h
    split at h3
    · rename_i u' s1 hrun
      have hu := sameAV_eq _ _ h3
      subst hu
      have hc := calls_of_run hf hfn hname hb (ρ := E.ρ) (ro := E.ro) (w := w) r.rob r.glob (closed_VRs args vals h1 hv) (v := u') (s' := s1) (by rw [hrun]; rfl)
      refine ⟨rfl, hp, ?_⟩
      have hrun : (callFunc g vals.toArray).run P w = .ok (.enter g vals.toArray) w := by
        unfold callFunc
        simp [hfn, hb, by simpa using hname]
      unfold CallW NextW
      rw [hrun]
      exact Calls.mono hc fun e w' ⟨x, E', he, hx, _, hbl⟩ => ⟨x, he, E, (below_stp r hbl).1, (below_stp r hbl).2, closed_VR u' x h2 hx⟩
    · simp at h3
  · simp [T.leaf] at hl

/-- one of two ways -/
def orElse (f g : List AV → St → T (AV × St)) : List AV → St → T (AV × St) := fun as s => match f as s with | .fail => g as s | x => x

theorem orElse_ok [Glob] {id : FuncId} {f g : List AV → St → T (AV × St)} (hf : FnOk P id f) (hg : FnOk P id g) : FnOk P id (orElse f g) := by
  intro as s E w vals u s' r hv hp hl
  unfold orElse at hl
  split at hl
  · exact hg as s E w vals u s' r hv hp hl
  · exact hf as s E w vals u s' r hv hp hl

end
end
end Go.As

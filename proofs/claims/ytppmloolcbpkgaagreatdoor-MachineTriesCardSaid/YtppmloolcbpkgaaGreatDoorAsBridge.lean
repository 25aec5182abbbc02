import Derived.Test.YtppmloolcbpkgaaGreatDoorAsDraw8
/-
  AS, part 27: from a run to a call.
-/
namespace Go.As
noncomputable section
open Go.RowKit

section
variable {P : Program}

/-- the environment at the start: no block is known; what lies there may be read, if `ro` says so -/
def En.zero (ρ : Nat → Int) (ro : Nat → Prop) : En := { ρ := ρ, θ := fun _ => (0, 0), κ := fun _ => 0, dm := fun _ => False, ro := ro }

def Hp.zero : Hp := ⟨.nil, 0, none⟩

theorem zero_rel [Glob] (ρ : Nat → Int) (ro : Nat → Prop) (w : World) (h : ∀ b, ro b → b < w.heap.size) (hg : Glob.ok ro w.heap) : RelH (En.zero ρ ro) Hp.zero w :=
  ⟨fun _ _ h => h, by simp [Hp.zero], fun id o h => by simp [Hp.zero, Hp.get, Tr.get] at h, fun id _ o _ h => by simp [Hp.zero, Hp.get, Tr.get] at h, h, hg⟩

theorem Stp.below {E E' : En} {H' : Hp} {w w' : World} (s : Stp E Hp.zero w E' H' w') : Below w.heap.size w w' :=
  ⟨s.os, s.tape, s.output, s.size, fun k hk => s.keep k hk fun id o h => by simp [Hp.zero, Hp.get, Tr.get] at h⟩

/-- what a call that ran to a value gives -/
theorem calls_of_run [Glob] {g : FuncId} {f : List AV → St → T (AV × St)} (hf : FnOk P g f) {fn : Func} (hfn : P.funcs[g]? = some fn) (hname : (fn.name == "runtime.NumGoroutine") = false) {c : Code} (hb2 : fn.body = some c)
    {ρ : Nat → Int} {ro : Nat → Prop} {w : World} (hro : ∀ b, ro b → b < w.heap.size) (hg : Glob.ok ro w.heap) {args : List AV} {vals : List Value} (hv : VRs (En.zero ρ ro) w.heap args vals) {v : AV} {s' : St}
    (h : (f args ⟨.nil, Hp.zero, []⟩).leaf ρ = some (v, s')) : Calls P g vals.toArray w fun e w' => ∃ u E', e = .returned u ∧ VR E' w'.heap v u ∧ E'.ρ = ρ ∧ Below w.heap.size w w' := by
  obtain ⟨_, _, h3⟩ := hf args ⟨.nil, Hp.zero, []⟩ (En.zero ρ ro) w vals v s' (zero_rel ρ ro w hro hg) hv (by simp [PcOk]) h
  have hrun : (callFunc g vals.toArray).run P w = .ok (.enter g vals.toArray) w := by
    unfold callFunc
    simp [hfn, hb2, by simpa using hname]
  unfold CallW NextW at h3
  rw [hrun] at h3
  exact Calls.mono h3 fun e w' ⟨u, he, E', st, _, hv⟩ => ⟨u, E', he, hv, st.ρ, st.below⟩

/-- the answer 'true' -/
def saysTrue : T (AV × St) → Bool
  | .ret (.bool (.lit b), _) => b
  | .ret _ => false
  | .split _ a b => saysTrue a && saysTrue b
  | .fail => false

theorem saysTrue_leaf {ρ : Nat → Int} : ∀ {x : T (AV × St)}, saysTrue x = true → ∃ s, x.leaf ρ = some (.bool (.lit true), s)
  | .fail, h => by simp [saysTrue] at h
  | .ret (v, s), h => by
    cases v with
    | bool b =>
      cases b with
      | lit b => simp only [saysTrue] at h; subst h; exact ⟨s, rfl⟩
      | _ => simp [saysTrue] at h
    | _ => simp [saysTrue] at h
  | .split c a b, h => by
    simp only [saysTrue, Bool.and_eq_true] at h
    simp only [T.leaf]
    split
    · exact saysTrue_leaf h.1
    · exact saysTrue_leaf h.2

theorem calls_true [Glob] {g : FuncId} {f : List AV → St → T (AV × St)} (hf : FnOk P g f) {fn : Func} (hfn : P.funcs[g]? = some fn) (hname : (fn.name == "runtime.NumGoroutine") = false) {c : Code} (hb2 : fn.body = some c)
    {ρ : Nat → Int} {ro : Nat → Prop} {w : World} (hro : ∀ b, ro b → b < w.heap.size) (hg : Glob.ok ro w.heap) {args : List AV} {vals : List Value} (hv : VRs (En.zero ρ ro) w.heap args vals)
    (h : saysTrue (f args ⟨.nil, Hp.zero, []⟩) = true) : Calls P g vals.toArray w fun e w' => e = .returned (.bool true) ∧ Below w.heap.size w w' := by
  obtain ⟨s', hs⟩ := saysTrue_leaf (ρ := ρ) h
  refine Calls.mono (calls_of_run hf hfn hname hb2 hro hg hv hs) fun e w' ⟨u, E', he, hu, _, hb⟩ => ?_
  simp only [VR, SB.den] at hu
  subst hu
  exact ⟨he, hb⟩

end
end
end Go.As

import Derived.Test.YtppmloolcbpkgaaGreatDoorAsRMachineBranches0
/-
  AS: the law MachineBranches: a call.
-/
namespace Go.As.Try.MachineBranches
open Go hiding Stat
open Go.As Go.Proofs Go.RowKit Go.As.Try
set_option maxRecDepth 100000
theorem rests0 : ∀ c ∈ cs0, restAt g (bodyOf Tryz.f4) path c = true := by
  intro c hc
  simp only [cs0, List.mem_cons, List.not_mem_nil, or_false] at hc
  rcases hc with rfl
  · exact rest0
theorem call0 {ρ : Nat → Int} {ro : Nat → Prop} {w : World} (hro : ∀ b, ro b → b < w.heap.size) (hgl : Glob.ok ro w.heap) {vals : List Value} (hv : VRs (En.zero ρ ro) w.heap args vals) (hp : PcOk ρ pc0) :
    Calls Tryz.prog 4 vals.toArray w fun e w' => e = .returned (.bool true) ∧ Below w.heap.size w w' :=
  law_cut g_ok (fn := Tryz.f4) (fn_at (by kernel_rfl) (by decide)) (by kernel_rfl) rfl (dst_at (by kernel_rfl)) isP rests0 hro hgl hv hp up0
end Go.As.Try.MachineBranches

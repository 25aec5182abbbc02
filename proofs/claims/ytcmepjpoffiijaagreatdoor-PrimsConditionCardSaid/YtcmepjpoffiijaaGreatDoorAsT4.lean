import Derived.Test.YtcmepjpoffiijaaGreatDoorAsT3
namespace Go.As.Try
open Go Go.As Go.Proofs Go.RowKit
set_option maxRecDepth 100000
theorem awake_run : gives [] (.bool (.lit true)) (run 16) = true := by kernel_rfl
theorem awake_ok : FnOk Tryz.prog 16 (memo [] (.bool (.lit true))) := by
  have hb : ∃ c, Tryz.f16.body = some c := by
    cases h : Tryz.f16.body with
    | none =>
      have : Tryz.f16.body.isSome = true := by kernel_rfl
      rw [h] at this
      simp at this
    | some c => exact ⟨c, rfl⟩
  obtain ⟨c, hb⟩ := hb
  exact memo_ok (run_ok 16) (fn := Tryz.f16) (fn_at (by kernel_rfl) (by decide)) (by kernel_rfl) hb awake_run
end Go.As.Try
#print axioms Go.As.Try.awake_ok

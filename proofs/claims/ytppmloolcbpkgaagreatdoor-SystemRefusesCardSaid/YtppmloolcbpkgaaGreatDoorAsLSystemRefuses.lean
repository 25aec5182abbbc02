import Derived.Test.YtppmloolcbpkgaaGreatDoorAsRSystemRefuses0
import Derived.Test.YtppmloolcbpkgaaGreatDoorAsRSystemRefuses1
/-
  AS: the law SystemRefuses: a call.
-/
namespace Go.As.Try.SystemRefuses
open Go hiding Stat
open Go.As Go.Proofs Go.RowKit Go.As.Try
set_option maxRecDepth 100000
theorem rests0 : ∀ c ∈ cs0, restAt g (bodyOf Tryz.f7) path c = true := by
  intro c hc
  simp only [cs0, List.mem_cons, List.not_mem_nil, or_false] at hc
  rcases hc with rfl | rfl | rfl | rfl | rfl | rfl | rfl | rfl | rfl | rfl | rfl | rfl | rfl | rfl | rfl | rfl | rfl | rfl
  · exact rest0
  · exact rest1
  · exact rest2
  · exact rest3
  · exact rest4
  · exact rest5
  · exact rest6
  · exact rest7
  · exact rest8
  · exact rest9
  · exact rest10
  · exact rest11
  · exact rest12
  · exact rest13
  · exact rest14
  · exact rest15
  · exact rest16
  · exact rest17
theorem call0 {ρ : Nat → Int} {ro : Nat → Prop} {w : World} (hro : ∀ b, ro b → b < w.heap.size) (hgl : Glob.ok ro w.heap) {vals : List Value} (hv : VRs (En.zero ρ ro) w.heap args vals) (hp : PcOk ρ pc0) :
    Calls Tryz.prog 7 vals.toArray w fun e w' => e = .returned (.bool true) ∧ Below w.heap.size w w' :=
  law_cut g_ok (fn := Tryz.f7) (fn_at (by kernel_rfl) (by decide)) (by kernel_rfl) rfl (dst_at (by kernel_rfl)) isP rests0 hro hgl hv hp up0
end Go.As.Try.SystemRefuses

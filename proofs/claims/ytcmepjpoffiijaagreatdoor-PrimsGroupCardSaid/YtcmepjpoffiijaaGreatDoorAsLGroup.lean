import Derived.Test.YtcmepjpoffiijaaGreatDoorAsT5
/-
  AS: the law Group: its loop's states, a round from each, the run up to the loop.
-/
namespace Go.As.Try.Group
open Go hiding Stat
open Go.As Go.Proofs Go.RowKit Go.As.Try
set_option maxRecDepth 100000
def c0 : CS := ⟨1, [(0, .inp 0 [.i64, .i64, .i64]), (3, .ptr 0 0), (4, .int .i64 (.lit 0)), (5, .int .i64 (.atm 0))],
  [.cells [.slice 1 0 1 (.rest 5), .slice 2 0 4 (.rest 3), .slice 3 0 1 (.rest 6)] 69,
   .cells [.int .u8 (.lit 7), .str [119], .int .i64 (.lit 0), .str [], .int .i64 (.lit 1)] 75,
   .cells [.str [97], .nils, .nils, .str [98], .nils, .nils, .str [100], .nils, .nils, .str [101], .nils, .nils] 79,
   .cells [.int .i64 (.lit (-1)), .int .i64 (.lit 0), .bool (.lit false), .int .i64 (.lit 0), .nils, .nils] 51],
  [(.lt (.atm 0) (.lit 0), false)], .sub (.lit 60) (.atm 0)⟩
def h0 : Hint := ⟨[(.lt (.inp 2 (.atm 0)) (.lit 0), false), (.lt (.lit 1099511627776) (.inp 2 (.atm 0)), false)], [], 0⟩
def c1 : CS := ⟨2, [(0, .inp 0 [.i64, .i64, .i64]), (3, .ptr 0 0), (4, .int .i64 (.atm 1)), (5, .int .i64 (.atm 0))],
  [.cells [.slice 1 0 1 (.rest 5), .slice 2 0 4 (.rest 3), .slice 3 0 1 (.rest 6)] 69,
   .cells [.int .u8 (.lit 7), .str [119], .int .i64 (.lit 0), .str [], .int .i64 (.lit 1)] 75,
   .cells [.str [97], .nils, .nils, .str [98], .nils, .nils, .str [100], .nils, .nils, .str [101], .nils, .nils] 79,
   .cells [.int .i64 (.lit (-1)), .int .i64 (.atm 1), .bool (.lit false), .int .i64 (.lit 0), .nils, .nils] 51],
  [(.lt (.atm 0) (.lit 0), false), (.lt (.atm 1) (.lit 0), false), (.lt (.lit 1099511627776) (.atm 1), false)], .sub (.lit 60) (.atm 0)⟩
def h1 : Hint := ⟨[(.lt (.inp 2 (.atm 0)) (.wrap .i64 (.sub (.lit 0) (.atm 1))), false), (.lt (.wrap .i64 (.sub (.lit 1099511627776) (.atm 1))) (.inp 2 (.atm 0)), false), (.lt (.lit 0) (.atm 1), false), (.eq (.atm 1) (.lit 0), false)], [], 0⟩
def cs : List CS := [c0, c1]
def path : List Nat := [0, 1, 0, 1, 1, 1]
noncomputable def g : Cfg := cfg pvG 11 Tryz.f11.results.toList
theorem isL : isLoop (bodyOf Tryz.f11) path = true := by kernel_rfl
theorem r0 : roundAt g (bodyOf Tryz.f11) path cs h0 c0 = true := by kernel_rfl
theorem r1 : roundAt g (bodyOf Tryz.f11) path cs h1 c1 = true := by kernel_rfl
theorem rounds : ∀ c ∈ cs, ∃ h, roundAt g (bodyOf Tryz.f11) path cs h c = true := by
  intro c hc
  simp only [cs, List.mem_cons, List.not_mem_nil, or_false] at hc
  rcases hc with rfl | rfl
  · exact ⟨h0, r0⟩
  · exact ⟨h1, r1⟩
theorem begins : go g (tab1 path cs) 1000 [] (bodyOf Tryz.f11) [] ⟨initSlots [.inp 0 [.i64, .i64, .i64]] 0 .nil, Hp.zero, []⟩ = true := by kernel_rfl
theorem calls {ρ : Nat → Int} {ro : Nat → Prop} {w : World} (hro : ∀ b, ro b → b < w.heap.size) (hgl : Glob.ok ro w.heap) {vals : List Value} (hv : VRs (En.zero ρ ro) w.heap [.inp 0 [.i64, .i64, .i64]] vals) (hp : PcOk ρ []) :
    Calls Tryz.prog 11 vals.toArray w fun e w' => e = .returned (.bool true) ∧ Below w.heap.size w w' :=
  law_one (cfg_ok pvG_ok 11 _) (fn := Tryz.f11) (fn_at (by kernel_rfl) (by decide)) (by kernel_rfl) rfl (dst_at (by kernel_rfl)) isL rounds hro hgl hv hp begins
end Go.As.Try.Group
#print axioms Go.As.Try.Group.calls

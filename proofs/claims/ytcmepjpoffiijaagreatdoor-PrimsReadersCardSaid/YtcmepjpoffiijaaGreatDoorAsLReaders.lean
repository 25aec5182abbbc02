import Derived.Test.YtcmepjpoffiijaaGreatDoorAsT5
/-
  AS: the law Readers: its loop's states, a round from each, the run up to the loop.
-/
namespace Go.As.Try.Readers
open Go hiding Stat
open Go.As Go.Proofs Go.RowKit Go.As.Try
set_option maxRecDepth 100000
def c0 : CS := ⟨1, [(0, .inp 0 [.i64, .i64, .i64]), (3, .ptr 0 0), (4, .map 1), (5, .int .i64 (.lit (-1))), (6, .int .i64 (.atm 0))],
  [.cells [.slice 2 0 1 (.rest 5), .slice 3 0 4 (.rest 3), .slice 4 0 1 (.rest 6)] 69,
   .map [] 0,
   .cells [.int .u8 (.lit 2), .str [114], .int .i64 (.lit 0), .str [], .int .i64 (.lit 1)] 75,
   .cells [.str [97], .nils, .nils, .str [98], .nils, .nils, .str [100], .nils, .nils, .str [101], .nils, .nils] 79,
   .cells [.int .i64 (.lit (-1)), .int .i64 (.lit 0), .bool (.lit false), .int .i64 (.lit 0), .nils, .nils] 51],
  [(.lt (.atm 0) (.lit 0), false)], .sub (.lit 60) (.atm 0)⟩
def h0 : Hint := ⟨[], [], 0⟩
def c1 : CS := ⟨2, [(0, .inp 0 [.i64, .i64, .i64]), (3, .ptr 0 0), (4, .map 1), (5, .int .i64 (.lit (-1))), (6, .int .i64 (.atm 0))],
  [.cells [.slice 2 0 1 (.rest 5), .slice 3 0 4 (.rest 3), .slice 4 0 1 (.rest 6)] 69,
   .map [(.int .i64 (.atm 1), .int .i64 (.lit 1), 0)] 0,
   .cells [.int .u8 (.lit 2), .str [114], .int .i64 (.lit 0), .str [], .int .i64 (.lit 1)] 75,
   .cells [.str [97], .nils, .nils, .str [98], .nils, .nils, .str [100], .nils, .nils, .str [101], .nils, .nils] 79,
   .cells [.int .i64 (.lit (-1)), .int .i64 (.lit 0), .bool (.lit false), .int .i64 (.lit 0), .slice 5 0 1 (.rest 1), .nils] 51,
   .cells [.int .i64 (.atm 1)] 3],
  [(.lt (.atm 0) (.lit 0), false), (.lt (.atm 1) (.lit 0), false), (.lt (.atm 1) (.lit 4), true)], .sub (.lit 60) (.atm 0)⟩
def h1 : Hint := ⟨[(.eq (.rem (.add (.rem (.inp 0 (.atm 0)) (.lit 4)) (.lit 4)) (.lit 4)) (.atm 1), true)], [], 0⟩
def c2 : CS := ⟨2, [(0, .inp 0 [.i64, .i64, .i64]), (3, .ptr 0 0), (4, .map 1), (5, .int .i64 (.atm 1)), (6, .int .i64 (.atm 0))],
  [.cells [.slice 2 0 1 (.rest 5), .slice 3 0 4 (.rest 3), .slice 4 0 1 (.rest 6)] 69,
   .map [] 0,
   .cells [.int .u8 (.lit 2), .str [114], .int .i64 (.lit 0), .str [], .int .i64 (.lit 1)] 75,
   .cells [.str [97], .nils, .nils, .str [98], .nils, .nils, .str [100], .nils, .nils, .str [101], .nils, .nils] 79,
   .cells [.int .i64 (.atm 1), .int .i64 (.lit 0), .bool (.lit false), .int .i64 (.lit 0), .nils, .nils] 51],
  [(.lt (.atm 0) (.lit 0), false), (.lt (.atm 1) (.lit 0), false), (.lt (.atm 1) (.lit 4), true)], .sub (.lit 60) (.atm 0)⟩
def h2 : Hint := ⟨[(.eq (.rem (.add (.rem (.inp 0 (.atm 0)) (.lit 4)) (.lit 4)) (.lit 4)) (.atm 1), true)], [], 0⟩
def c3 : CS := ⟨1, [(0, .inp 0 [.i64, .i64, .i64]), (3, .ptr 0 0), (4, .map 1), (5, .int .i64 (.lit (-1))), (6, .int .i64 (.atm 0))],
  [.cells [.slice 2 0 1 (.rest 5), .slice 3 0 4 (.rest 3), .slice 4 0 1 (.rest 6)] 69,
   .map [] 0,
   .cells [.int .u8 (.lit 2), .str [114], .int .i64 (.lit 0), .str [], .int .i64 (.lit 1)] 75,
   .cells [.str [97], .nils, .nils, .str [98], .nils, .nils, .str [100], .nils, .nils, .str [101], .nils, .nils] 79,
   .cells [.int .i64 (.lit (-1)), .int .i64 (.lit 0), .bool (.lit false), .int .i64 (.lit 0), .slice 5 0 0 (.rest 1), .nils] 51,
   .cells [.int .i64 (.lit 0)] 3],
  [(.lt (.atm 0) (.lit 0), false)], .sub (.lit 60) (.atm 0)⟩
def h3 : Hint := ⟨[], [], 0⟩
def c4 : CS := ⟨3, [(0, .inp 0 [.i64, .i64, .i64]), (3, .ptr 0 0), (4, .map 1), (5, .int .i64 (.lit (-1))), (6, .int .i64 (.atm 0))],
  [.cells [.slice 2 0 1 (.rest 5), .slice 3 0 4 (.rest 3), .slice 4 0 1 (.rest 6)] 69,
   .map [(.int .i64 (.atm 1), .int .i64 (.lit 1), 0), (.int .i64 (.atm 2), .int .i64 (.lit 1), 0)] 0,
   .cells [.int .u8 (.lit 2), .str [114], .int .i64 (.lit 0), .str [], .int .i64 (.lit 1)] 75,
   .cells [.str [97], .nils, .nils, .str [98], .nils, .nils, .str [100], .nils, .nils, .str [101], .nils, .nils] 79,
   .cells [.int .i64 (.lit (-1)), .int .i64 (.lit 0), .bool (.lit false), .int .i64 (.lit 0), .slice 5 0 2 (.rest 1), .nils] 51,
   .cells [.int .i64 (.atm 1), .int .i64 (.atm 2)] 3],
  [(.lt (.atm 0) (.lit 0), false), (.eq (.atm 1) (.atm 2), false), (.lt (.atm 1) (.lit 0), false), (.lt (.atm 1) (.lit 4), true), (.lt (.atm 2) (.lit 0), false), (.lt (.atm 2) (.lit 4), true)], .sub (.lit 60) (.atm 0)⟩
def h4 : Hint := ⟨[(.eq (.rem (.add (.rem (.inp 0 (.atm 0)) (.lit 4)) (.lit 4)) (.lit 4)) (.atm 1), true), (.eq (.rem (.add (.rem (.inp 0 (.atm 0)) (.lit 4)) (.lit 4)) (.lit 4)) (.atm 2), true)], [], 0⟩
def c5 : CS := ⟨1, [(0, .inp 0 [.i64, .i64, .i64]), (3, .ptr 0 0), (4, .map 1), (5, .int .i64 (.lit (-1))), (6, .int .i64 (.atm 0))],
  [.cells [.slice 2 0 1 (.rest 5), .slice 3 0 4 (.rest 3), .slice 4 0 1 (.rest 6)] 69,
   .map [] 0,
   .cells [.int .u8 (.lit 2), .str [114], .int .i64 (.lit 0), .str [], .int .i64 (.lit 1)] 75,
   .cells [.str [97], .nils, .nils, .str [98], .nils, .nils, .str [100], .nils, .nils, .str [101], .nils, .nils] 79,
   .cells [.int .i64 (.lit (-1)), .int .i64 (.lit 0), .bool (.lit false), .int .i64 (.lit 0), .slice 5 0 0 (.exact 0), .nils] 51,
   .cells [] 3],
  [(.lt (.atm 0) (.lit 0), false)], .sub (.lit 60) (.atm 0)⟩
def h5 : Hint := ⟨[], [], 0⟩
def c6 : CS := ⟨2, [(0, .inp 0 [.i64, .i64, .i64]), (3, .ptr 0 0), (4, .map 1), (5, .int .i64 (.atm 1)), (6, .int .i64 (.atm 0))],
  [.cells [.slice 2 0 1 (.rest 5), .slice 3 0 4 (.rest 3), .slice 4 0 1 (.rest 6)] 69,
   .map [] 0,
   .cells [.int .u8 (.lit 2), .str [114], .int .i64 (.lit 0), .str [], .int .i64 (.lit 1)] 75,
   .cells [.str [97], .nils, .nils, .str [98], .nils, .nils, .str [100], .nils, .nils, .str [101], .nils, .nils] 79,
   .cells [.int .i64 (.atm 1), .int .i64 (.lit 0), .bool (.lit false), .int .i64 (.lit 0), .slice 5 0 0 (.exact 0), .nils] 51,
   .cells [] 3],
  [(.lt (.atm 0) (.lit 0), false), (.lt (.atm 1) (.lit 0), false), (.lt (.atm 1) (.lit 4), true)], .sub (.lit 60) (.atm 0)⟩
def h6 : Hint := ⟨[(.eq (.rem (.add (.rem (.inp 0 (.atm 0)) (.lit 4)) (.lit 4)) (.lit 4)) (.atm 1), true)], [], 0⟩
def c7 : CS := ⟨2, [(0, .inp 0 [.i64, .i64, .i64]), (3, .ptr 0 0), (4, .map 1), (5, .int .i64 (.lit (-1))), (6, .int .i64 (.atm 0))],
  [.cells [.slice 2 0 1 (.rest 5), .slice 3 0 4 (.rest 3), .slice 4 0 1 (.rest 6)] 69,
   .map [(.int .i64 (.atm 1), .int .i64 (.lit 1), 0)] 0,
   .cells [.int .u8 (.lit 2), .str [114], .int .i64 (.lit 0), .str [], .int .i64 (.lit 1)] 75,
   .cells [.str [97], .nils, .nils, .str [98], .nils, .nils, .str [100], .nils, .nils, .str [101], .nils, .nils] 79,
   .cells [.int .i64 (.lit (-1)), .int .i64 (.lit 0), .bool (.lit false), .int .i64 (.lit 0), .slice 5 0 1 (.rest 1), .nils] 51,
   .cells [.int .i64 (.atm 1), .int .i64 (.lit 0)] 3],
  [(.lt (.atm 0) (.lit 0), false), (.lt (.atm 1) (.lit 0), false), (.lt (.atm 1) (.lit 4), true)], .sub (.lit 60) (.atm 0)⟩
def h7 : Hint := ⟨[(.eq (.rem (.add (.rem (.inp 0 (.atm 0)) (.lit 4)) (.lit 4)) (.lit 4)) (.atm 1), true)], [], 0⟩
def c8 : CS := ⟨4, [(0, .inp 0 [.i64, .i64, .i64]), (3, .ptr 0 0), (4, .map 1), (5, .int .i64 (.lit (-1))), (6, .int .i64 (.atm 0))],
  [.cells [.slice 2 0 1 (.rest 5), .slice 3 0 4 (.rest 3), .slice 4 0 1 (.rest 6)] 69,
   .map [(.int .i64 (.atm 1), .int .i64 (.lit 1), 0), (.int .i64 (.atm 2), .int .i64 (.lit 1), 0), (.int .i64 (.atm 3), .int .i64 (.lit 1), 0)] 0,
   .cells [.int .u8 (.lit 2), .str [114], .int .i64 (.lit 0), .str [], .int .i64 (.lit 1)] 75,
   .cells [.str [97], .nils, .nils, .str [98], .nils, .nils, .str [100], .nils, .nils, .str [101], .nils, .nils] 79,
   .cells [.int .i64 (.lit (-1)), .int .i64 (.lit 0), .bool (.lit false), .int .i64 (.lit 0), .slice 5 0 3 (.rest 1), .nils] 51,
   .cells [.int .i64 (.atm 1), .int .i64 (.atm 2), .int .i64 (.atm 3)] 3],
  [(.lt (.atm 0) (.lit 0), false), (.eq (.atm 2) (.atm 3), false), (.eq (.atm 1) (.atm 3), false), (.eq (.atm 1) (.atm 2), false), (.lt (.atm 1) (.lit 0), false), (.lt (.atm 1) (.lit 4), true), (.lt (.atm 2) (.lit 0), false), (.lt (.atm 2) (.lit 4), true), (.lt (.atm 3) (.lit 0), false), (.lt (.atm 3) (.lit 4), true)], .sub (.lit 60) (.atm 0)⟩
def h8 : Hint := ⟨[(.eq (.rem (.add (.rem (.inp 0 (.atm 0)) (.lit 4)) (.lit 4)) (.lit 4)) (.atm 1), true), (.eq (.rem (.add (.rem (.inp 0 (.atm 0)) (.lit 4)) (.lit 4)) (.lit 4)) (.atm 2), true), (.eq (.rem (.add (.rem (.inp 0 (.atm 0)) (.lit 4)) (.lit 4)) (.lit 4)) (.atm 3), true)], [], 0⟩
def c9 : CS := ⟨3, [(0, .inp 0 [.i64, .i64, .i64]), (3, .ptr 0 0), (4, .map 1), (5, .int .i64 (.lit (-1))), (6, .int .i64 (.atm 0))],
  [.cells [.slice 2 0 1 (.rest 5), .slice 3 0 4 (.rest 3), .slice 4 0 1 (.rest 6)] 69,
   .map [(.int .i64 (.atm 1), .int .i64 (.lit 1), 0), (.int .i64 (.atm 2), .int .i64 (.lit 1), 0)] 0,
   .cells [.int .u8 (.lit 2), .str [114], .int .i64 (.lit 0), .str [], .int .i64 (.lit 1)] 75,
   .cells [.str [97], .nils, .nils, .str [98], .nils, .nils, .str [100], .nils, .nils, .str [101], .nils, .nils] 79,
   .cells [.int .i64 (.lit (-1)), .int .i64 (.lit 0), .bool (.lit false), .int .i64 (.lit 0), .slice 5 0 2 (.rest 1), .nils] 51,
   .cells [.int .i64 (.atm 1), .int .i64 (.atm 2), .int .i64 (.lit 0)] 3],
  [(.lt (.atm 0) (.lit 0), false), (.eq (.atm 1) (.atm 2), false), (.lt (.atm 1) (.lit 0), false), (.lt (.atm 1) (.lit 4), true), (.lt (.atm 2) (.lit 0), false), (.lt (.atm 2) (.lit 4), true)], .sub (.lit 60) (.atm 0)⟩
def h9 : Hint := ⟨[(.eq (.rem (.add (.rem (.inp 0 (.atm 0)) (.lit 4)) (.lit 4)) (.lit 4)) (.atm 1), true), (.eq (.rem (.add (.rem (.inp 0 (.atm 0)) (.lit 4)) (.lit 4)) (.lit 4)) (.atm 2), true)], [], 0⟩
def c10 : CS := ⟨5, [(0, .inp 0 [.i64, .i64, .i64]), (3, .ptr 0 0), (4, .map 1), (5, .int .i64 (.lit (-1))), (6, .int .i64 (.atm 0))],
  [.cells [.slice 2 0 1 (.rest 5), .slice 3 0 4 (.rest 3), .slice 4 0 1 (.rest 6)] 69,
   .map [(.int .i64 (.atm 1), .int .i64 (.lit 1), 0), (.int .i64 (.atm 2), .int .i64 (.lit 1), 0), (.int .i64 (.atm 3), .int .i64 (.lit 1), 0), (.int .i64 (.atm 4), .int .i64 (.lit 1), 0)] 0,
   .cells [.int .u8 (.lit 2), .str [114], .int .i64 (.lit 0), .str [], .int .i64 (.lit 1)] 75,
   .cells [.str [97], .nils, .nils, .str [98], .nils, .nils, .str [100], .nils, .nils, .str [101], .nils, .nils] 79,
   .cells [.int .i64 (.lit (-1)), .int .i64 (.lit 0), .bool (.lit false), .int .i64 (.lit 0), .slice 5 0 4 (.rest 1), .nils] 51,
   .cells [.int .i64 (.atm 1), .int .i64 (.atm 2), .int .i64 (.atm 3), .int .i64 (.atm 4)] 3],
  [(.lt (.atm 0) (.lit 0), false), (.eq (.atm 3) (.atm 4), false), (.eq (.atm 2) (.atm 4), false), (.eq (.atm 1) (.atm 4), false), (.eq (.atm 2) (.atm 3), false), (.eq (.atm 1) (.atm 3), false), (.eq (.atm 1) (.atm 2), false), (.lt (.atm 1) (.lit 0), false), (.lt (.atm 1) (.lit 4), true), (.lt (.atm 2) (.lit 0), false), (.lt (.atm 2) (.lit 4), true), (.lt (.atm 3) (.lit 0), false), (.lt (.atm 3) (.lit 4), true), (.lt (.atm 4) (.lit 0), false), (.lt (.atm 4) (.lit 4), true)], .sub (.lit 60) (.atm 0)⟩
def h10 : Hint := ⟨[(.eq (.rem (.add (.rem (.inp 0 (.atm 0)) (.lit 4)) (.lit 4)) (.lit 4)) (.atm 1), true), (.eq (.rem (.add (.rem (.inp 0 (.atm 0)) (.lit 4)) (.lit 4)) (.lit 4)) (.atm 2), true), (.eq (.rem (.add (.rem (.inp 0 (.atm 0)) (.lit 4)) (.lit 4)) (.lit 4)) (.atm 3), true), (.eq (.rem (.add (.rem (.inp 0 (.atm 0)) (.lit 4)) (.lit 4)) (.lit 4)) (.atm 4), true)], [.rem (.add (.rem (.inp 0 (.atm 0)) (.lit 4)) (.lit 4)) (.lit 4), .atm 1, .atm 2, .atm 3, .atm 4], 4⟩
def c11 : CS := ⟨4, [(0, .inp 0 [.i64, .i64, .i64]), (3, .ptr 0 0), (4, .map 1), (5, .int .i64 (.lit (-1))), (6, .int .i64 (.atm 0))],
  [.cells [.slice 2 0 1 (.rest 5), .slice 3 0 4 (.rest 3), .slice 4 0 1 (.rest 6)] 69,
   .map [(.int .i64 (.atm 1), .int .i64 (.lit 1), 0), (.int .i64 (.atm 2), .int .i64 (.lit 1), 0), (.int .i64 (.atm 3), .int .i64 (.lit 1), 0)] 0,
   .cells [.int .u8 (.lit 2), .str [114], .int .i64 (.lit 0), .str [], .int .i64 (.lit 1)] 75,
   .cells [.str [97], .nils, .nils, .str [98], .nils, .nils, .str [100], .nils, .nils, .str [101], .nils, .nils] 79,
   .cells [.int .i64 (.lit (-1)), .int .i64 (.lit 0), .bool (.lit false), .int .i64 (.lit 0), .slice 5 0 3 (.rest 1), .nils] 51,
   .cells [.int .i64 (.atm 1), .int .i64 (.atm 2), .int .i64 (.atm 3), .int .i64 (.lit 0)] 3],
  [(.lt (.atm 0) (.lit 0), false), (.eq (.atm 2) (.atm 3), false), (.eq (.atm 1) (.atm 3), false), (.eq (.atm 1) (.atm 2), false), (.lt (.atm 1) (.lit 0), false), (.lt (.atm 1) (.lit 4), true), (.lt (.atm 2) (.lit 0), false), (.lt (.atm 2) (.lit 4), true), (.lt (.atm 3) (.lit 0), false), (.lt (.atm 3) (.lit 4), true)], .sub (.lit 60) (.atm 0)⟩
def h11 : Hint := ⟨[(.eq (.rem (.add (.rem (.inp 0 (.atm 0)) (.lit 4)) (.lit 4)) (.lit 4)) (.atm 1), true), (.eq (.rem (.add (.rem (.inp 0 (.atm 0)) (.lit 4)) (.lit 4)) (.lit 4)) (.atm 2), true), (.eq (.rem (.add (.rem (.inp 0 (.atm 0)) (.lit 4)) (.lit 4)) (.lit 4)) (.atm 3), true)], [], 0⟩
def cs : List CS := [c0, c1, c2, c3, c4, c5, c6, c7, c8, c9, c10, c11]
def path : List Nat := [0, 1, 0, 1, 1, 1, 1]
noncomputable def g : Cfg := cfg prv 7 Tryz.f7.results.toList
theorem isL : isLoop (bodyOf Tryz.f7) path = true := by kernel_rfl
theorem r0 : roundAt g (bodyOf Tryz.f7) path cs h0 c0 = true := by kernel_rfl
theorem r1 : roundAt g (bodyOf Tryz.f7) path cs h1 c1 = true := by kernel_rfl
theorem r2 : roundAt g (bodyOf Tryz.f7) path cs h2 c2 = true := by kernel_rfl
theorem r3 : roundAt g (bodyOf Tryz.f7) path cs h3 c3 = true := by kernel_rfl
theorem r4 : roundAt g (bodyOf Tryz.f7) path cs h4 c4 = true := by kernel_rfl
theorem r5 : roundAt g (bodyOf Tryz.f7) path cs h5 c5 = true := by kernel_rfl
theorem r6 : roundAt g (bodyOf Tryz.f7) path cs h6 c6 = true := by kernel_rfl
theorem r7 : roundAt g (bodyOf Tryz.f7) path cs h7 c7 = true := by kernel_rfl
theorem r8 : roundAt g (bodyOf Tryz.f7) path cs h8 c8 = true := by kernel_rfl
theorem r9 : roundAt g (bodyOf Tryz.f7) path cs h9 c9 = true := by kernel_rfl
theorem r10 : roundAt g (bodyOf Tryz.f7) path cs h10 c10 = true := by kernel_rfl
theorem r11 : roundAt g (bodyOf Tryz.f7) path cs h11 c11 = true := by kernel_rfl
theorem rounds : ∀ c ∈ cs, ∃ h, roundAt g (bodyOf Tryz.f7) path cs h c = true := by
  intro c hc
  simp only [cs, List.mem_cons, List.not_mem_nil, or_false] at hc
  rcases hc with rfl | rfl | rfl | rfl | rfl | rfl | rfl | rfl | rfl | rfl | rfl | rfl
  · exact ⟨h0, r0⟩
  · exact ⟨h1, r1⟩
  · exact ⟨h2, r2⟩
  · exact ⟨h3, r3⟩
  · exact ⟨h4, r4⟩
  · exact ⟨h5, r5⟩
  · exact ⟨h6, r6⟩
  · exact ⟨h7, r7⟩
  · exact ⟨h8, r8⟩
  · exact ⟨h9, r9⟩
  · exact ⟨h10, r10⟩
  · exact ⟨h11, r11⟩
theorem begins : go g (tab1 path cs) 1000 [] (bodyOf Tryz.f7) [] ⟨initSlots [.inp 0 [.i64, .i64, .i64]] 0 .nil, Hp.zero, []⟩ = true := by kernel_rfl
theorem calls {ρ : Nat → Int} {ro : Nat → Prop} {w : World} (hro : ∀ b, ro b → b < w.heap.size) (hgl : Glob.ok ro w.heap) {vals : List Value} (hv : VRs (En.zero ρ ro) w.heap [.inp 0 [.i64, .i64, .i64]] vals) (hp : PcOk ρ []) :
    Calls Tryz.prog 7 vals.toArray w fun e w' => e = .returned (.bool true) ∧ Below w.heap.size w w' :=
  law_one (cfg_ok prv_ok 7 _) (fn := Tryz.f7) (fn_at (by kernel_rfl) (by decide)) (by kernel_rfl) rfl (dst_at (by kernel_rfl)) isL rounds hro hgl hv hp begins
end Go.As.Try.Readers
#print axioms Go.As.Try.Readers.calls

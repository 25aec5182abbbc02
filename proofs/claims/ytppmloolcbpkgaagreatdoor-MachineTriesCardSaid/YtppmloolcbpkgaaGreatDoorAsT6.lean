import Derived.Test.YtppmloolcbpkgaaGreatDoorAsT3
import Derived.Test.YtppmloolcbpkgaaGreatDoorAsDeep
import Derived.Test.YtppmloolcbpkgaaGreatDoorCards
import Derived.Test.YtppmloolcbpkgaaGreatDoorTie
import Derived.ProofKit
import Derived.OpenShut
import Derived.Deep.DeepHandedRow
import Derived.LaidLaws
/-
  AS: from a run to a row: the witness, for laws that take numbers.
-/
namespace Go.As.Try
open Go hiding Stat
open Go.As Go.Proofs Go.RowKit Go.ChangeShapes Go.WideShapes Go.ChangeAt
open Go.Proofs.YtppmloolcbpkgaaGreatDoor
set_option maxRecDepth 100000

theorem own : ownKnob Tryz.prog.godebug = none := by kernel_rfl
theorem laidOut : laidOutB Tryz.prog = true := by kernel_rfl

theorem u8_bounds {n : Int} (h : (Lit.int .u8 n).wf = true) : 0 ≤ n ∧ n ≤ 255 := by
  have h0 : IntKind.u8.min = 0 := rfl
  have h1 : IntKind.u8.max = 255 := rfl
  simp only [Lit.wf, Bool.and_eq_true, decide_eq_true_eq, h0, h1] at h
  exact h

theorem glob_of {W : World} (h : W.ShapedOpen Tryz.prog) : Glob.ok (fun b => b < W.heap.size) W.heap := by
  obtain ⟨m, hm⟩ := LaysM.n144.s1_3 Tryz.laysM144 W h
  refine ⟨?_, m, by rw [← cell?_eq]; exact hm⟩
  rw [cell?_eq] at hm
  unfold hcell at hm
  split at hm
  · rename_i hb
    exact (Array.getElem?_eq_some_iff.1 hb).1
  · simp at hm

/-! ### the witness -/
def litCell : DataW Unit → Value
  | .lit (.int k n) => .int k n
  | _ => undef
def cellsD : DataW Unit → Array Value
  | .agg l => (l.map litCell).toArray
  | d => #[litCell d]
def layAt (d : DataW Unit) : Obj → Obj
  | .cells _ t f => .cells (cellsD d) t f
  | o => o
noncomputable def layOne (h : Array Obj) (x : String × DataW Unit) : Array Obj := match Tryz.prog.globalNamed x.1 with
  | some g => h.modify g (layAt x.2)
  | none => h
noncomputable def laidWorld (os : Os) : World :=
  { World.holding Tryz.prog os ⟨#[], #[], []⟩ with heap := Rows.systemRefusesRow.laid.foldl layOne (World.holding Tryz.prog os ⟨#[], #[], []⟩).heap }
end Go.As.Try

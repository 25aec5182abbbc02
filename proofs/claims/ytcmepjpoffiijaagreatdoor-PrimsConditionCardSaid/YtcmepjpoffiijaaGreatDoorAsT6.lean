import Derived.Test.YtcmepjpoffiijaaGreatDoorAsT5
import Derived.Test.YtcmepjpoffiijaaGreatDoorCards
import Derived.Test.YtcmepjpoffiijaaGreatDoorTie
import Derived.ProofKit
import Derived.OpenShut
import Derived.Deep.DeepHandedRow
import Derived.LaidLaws
/-
  AS: from a run to a row: what a law's arguments are; the witness.
-/
namespace Go.As.Try
open Go hiding Stat
open Go.As Go.Proofs Go.RowKit Go.ChangeShapes Go.WideShapes Go.ChangeAt
open Go.Proofs.YtcmepjpoffiijaaGreatDoor
set_option maxRecDepth 100000

theorem own : ownKnob Tryz.prog.godebug = none := by kernel_rfl
theorem laidOut : laidOutB Tryz.prog = true := by kernel_rfl
theorem cells62 : Tryz.prog.cellsOf 62 = 3 := by kernel_rfl
theorem cells3 : Tryz.prog.cellsOf 3 = 1 := by kernel_rfl
theorem cells2 : Tryz.prog.cellsOf 2 = 1 := by kernel_rfl

section
variable {H : Type} {enc : TypeId × Value → H} {W : World}

theorem trod_int {t : TypeId} {k : IntKind} {fuel : Nat} {cs : List Value} {x : DataW H × List MemPlace} (ht : Tryz.prog.underlying t = some (.int k)) (h : DataW.trod enc Tryz.prog W 0 (fun _ => true) true fuel t cs = some x) : ∃ n, cs = [.int k n] := by
  cases fuel with
  | zero => simp [DataW.trod] at h
  | succ fuel =>
    unfold DataW.trod at h
    rw [ht] at h
    split at h <;> simp_all

theorem trod_act {fuel : Nat} {cs : List Value} {x : DataW H × List MemPlace} (h : DataW.trod enc Tryz.prog W 0 (fun _ => true) true fuel 62 cs = some x) :
    ∃ a b c, cs = [.int .i64 a, .int .i64 b, .int .i64 c] := by
  cases fuel with
  | zero => simp [DataW.trod] at h
  | succ fuel =>
    unfold DataW.trod at h
    rw [Tryz.underlying62] at h
    simp only [cells62] at h
    split at h
    · rename_i hlen
      match cs, hlen with
      | [u, v, w], _ =>
        simp only [List.mapM_cons, List.mapM_nil, cells3, cells2, List.drop, List.take, Option.map_eq_some_iff] at h
        obtain ⟨l, hl, _⟩ := h
        simp only [bind, Option.bind_eq_some_iff] at hl
        obtain ⟨a, ha, l2, ⟨b, hb, l3, ⟨c, hc, _⟩, _⟩, _⟩ := hl
        obtain ⟨n1, e1⟩ := trod_int Tryz.underlying3 ha
        obtain ⟨n2, e2⟩ := trod_int Tryz.underlying3 hb
        obtain ⟨n3, e3⟩ := trod_int Tryz.underlying2 hc
        simp only [List.cons.injEq, and_true] at e1 e2 e3
        subst e1 e2 e3
        exact ⟨n1, n2, n3, rfl⟩
    · simp at h

/-- the numbers: how many, one beside, what lies in the cells -/
def inpρ (W : World) (a : Addr) (len : Nat) (es : Nat) (u : Int) (n : Nat) : Int :=
  if n = 900 then (len : Int) else if n = 899 then u else match W.cell? (a.add (((n - 1000) / 64) * es + (n - 1000) % 64)) with
    | some (.int _ z) => z
    | _ => 0

theorem add_add (a : Addr) (m n : Nat) : (a.add m).add n = a.add (m + n) := by
  unfold Addr.add
  by_cases h1 : m = 0
  · subst h1; simp
  · by_cases h2 : n = 0
    · subst h2; simp
    · simp [h1, h2, Nat.add_assoc]

theorem inpρ_at {W : World} {a : Addr} {len es : Nat} {u : Int} {i j : Nat} {k : IntKind} {z : Int} (hj : j < 8) (h : W.cell? (a.add (i * es + j)) = some (.int k z)) : inpρ W a len es u (1000 + i * 64 + (0 * 8 + j)) = z := by
  unfold inpρ
  rw [if_neg (by omega), if_neg (by omega)]
  have h1 : (1000 + i * 64 + (0 * 8 + j) - 1000) / 64 = i := by omega
  have h2 : (1000 + i * 64 + (0 * 8 + j) - 1000) % 64 = j := by omega
  rw [h1, h2, h]

theorem cell_in {b o : Nat} {v : Value} (h : W.cell? ⟨b, o, none⟩ = some v) : b < W.heap.size := by
  rw [cell?_eq] at h
  unfold hcell at h
  split at h
  · rename_i hb
    exact (Array.getElem?_eq_some_iff.1 hb).1
  · simp at h

theorem acts_VR {r : Reach} {base : Nat} {v : Value} {d : DataW H} {ps : List MemPlace} (hv : Value.okWide Tryz.prog W r base 57 v) (h : DataW.Trod enc Tryz.prog W 0 (fun _ => true) true 57 v d ps) (u : Int) :
    ∃ ρ : Nat → Int, ρ 899 = u ∧ VR (En.zero ρ (fun b => b < W.heap.size)) W.heap (.inp 0 [.i64, .i64, .i64]) v := by
  obtain ⟨a0, len, cap, rfl⟩ := okWide_slice Tryz.underlying57 hv
  obtain ⟨fuel, hf⟩ := h
  rcases DataW.trod_slice Tryz.underlying57 hf with ⟨hcs, _⟩ | ⟨a, len', cap', elems, rest, n, rfl, hcs, _, _, hl, _, hlen, hel, _, _⟩
  · have : (Value.slice a0 len cap).cells.toList = [.slice a0 len cap] := rfl
    rw [this] at hcs
    simp only [List.cons.injEq, Value.slice.injEq, and_true] at hcs
    obtain ⟨rfl, rfl, rfl⟩ := hcs
    refine ⟨fun n => if n = 899 then u else 0, by simp, ?_⟩
    simp only [VR]
    exact .inl ⟨⟨_, _, rfl⟩, by simp [En.zero]⟩
  · have : (Value.slice a0 len cap).cells.toList = [.slice a0 len cap] := rfl
    rw [this] at hcs
    simp only [List.cons.injEq, Value.slice.injEq, and_true] at hcs
    obtain ⟨rfl, rfl, rfl⟩ := hcs
    refine ⟨inpρ W a len 3 u, by simp [inpρ], ?_⟩
    simp only [VR]
    have cell : ∀ i j kd, i < len → [IntKind.i64, IntKind.i64, IntKind.i64][j]? = some kd → ∃ z, W.cell? (a.add (i * 3 + j)) = some (.int kd z) := by
      intro i j kd hi hj
      have he := hel i hi
      rw [List.getElem?_eq_getElem (by omega), cells62] at he
      rw [Option.bind_eq_some_iff] at he
      obtain ⟨cs, h1, h2⟩ := he
      obtain ⟨_, h4, h5⟩ := World.cells?_some h1
      obtain ⟨x, y, z, rfl⟩ := trod_act h2
      have hj3 : j < 3 := by
        rcases Nat.lt_or_ge j 3 with h | h
        · exact h
        · rw [List.getElem?_eq_none (by simpa using h)] at hj; simp at hj
      have := h5 j hj3
      have e : (a.add (i * 3)).add j = a.add (i * 3 + j) := add_add _ _ _
      rw [e] at this
      match j, hj3, hj, this with
      | 0, _, hj, this => simp at hj this; subst hj; exact ⟨x, this⟩
      | 1, _, hj, this => simp at hj this; subst hj; exact ⟨y, this⟩
      | 2, _, hj, this => simp at hj this; subst hj; exact ⟨z, this⟩
    rcases Nat.eq_zero_or_pos len with h0 | h0
    · subst h0
      exact .inl ⟨⟨_, _, rfl⟩, by simp [En.zero, inpρ]⟩
    · obtain ⟨b, o, spot⟩ := a
      obtain ⟨z0, hz0⟩ := cell 0 0 .i64 h0 rfl
      have hspot : spot = none := by simpa [Addr.add] using World.cell?_spot hz0
      subst hspot
      refine .inr ⟨b, o, len, cap, rfl, hl, by simp [En.zero, inpρ], ?_, ?_⟩
      · have : (Addr.mk b o none).add (0 * 3 + 0) = ⟨b, o, none⟩ := by simp [Addr.add]
        rw [this] at hz0
        exact cell_in hz0
      · intro i j kd hi hj
        obtain ⟨z, hz⟩ := cell i j kd hi hj
        have hj8 : j < 8 := by
          rcases Nat.lt_or_ge j 3 with h | h
          · omega
          · rw [List.getElem?_eq_none (by simpa using h)] at hj; simp at hj
        have := inpρ_at (len := len) (u := u) hj8 hz
        show hcell W.heap b (o + i * 3 + j) = some (.int kd (inpρ W ⟨b, o, none⟩ len 3 u (1000 + i * 64 + (0 * 8 + j))))
        rw [this, ← cell?_eq]
        have e : (Addr.mk b o none).add (i * 3 + j) = ⟨b, o + i * 3 + j, none⟩ := by simp [Addr.add, Nat.add_assoc]
        rw [← e]
        exact hz
theorem ints_VR {r : Reach} {base : Nat} {v : Value} {d : DataW H} {ps : List MemPlace} (hv : Value.okWide Tryz.prog W r base 49 v) (h : DataW.Trod enc Tryz.prog W 0 (fun _ => true) true 49 v d ps) (u : Int) :
    ∃ ρ : Nat → Int, ρ 899 = u ∧ VR (En.zero ρ (fun b => b < W.heap.size)) W.heap (.inp 0 [.i64]) v := by
  obtain ⟨a0, len, cap, rfl⟩ := okWide_slice Tryz.underlying49 hv
  obtain ⟨fuel, hf⟩ := h
  rcases DataW.trod_slice Tryz.underlying49 hf with ⟨hcs, _⟩ | ⟨a, len', cap', elems, rest, n, rfl, hcs, _, _, hl, _, hlen, hel, _, _⟩
  · have : (Value.slice a0 len cap).cells.toList = [.slice a0 len cap] := rfl
    rw [this] at hcs
    simp only [List.cons.injEq, Value.slice.injEq, and_true] at hcs
    obtain ⟨rfl, rfl, rfl⟩ := hcs
    refine ⟨fun n => if n = 899 then u else 0, by simp, ?_⟩
    simp only [VR]
    exact .inl ⟨⟨_, _, rfl⟩, by simp [En.zero]⟩
  · have : (Value.slice a0 len cap).cells.toList = [.slice a0 len cap] := rfl
    rw [this] at hcs
    simp only [List.cons.injEq, Value.slice.injEq, and_true] at hcs
    obtain ⟨rfl, rfl, rfl⟩ := hcs
    refine ⟨inpρ W a len 1 u, by simp [inpρ], ?_⟩
    simp only [VR]
    have cell : ∀ i j kd, i < len → [IntKind.i64][j]? = some kd → ∃ z, W.cell? (a.add (i * 1 + j)) = some (.int kd z) := by
      intro i j kd hi hj
      have he := hel i hi
      rw [List.getElem?_eq_getElem (by omega), cells3] at he
      rw [Option.bind_eq_some_iff] at he
      obtain ⟨cs, h1, h2⟩ := he
      obtain ⟨_, h4, h5⟩ := World.cells?_some h1
      obtain ⟨x, rfl⟩ := trod_int Tryz.underlying3 h2
      have hj3 : j < 1 := by
        rcases Nat.lt_or_ge j 1 with h | h
        · exact h
        · rw [List.getElem?_eq_none (by simpa using h)] at hj; simp at hj
      have := h5 j hj3
      have e : (a.add (i * 1)).add j = a.add (i * 1 + j) := add_add _ _ _
      rw [e] at this
      match j, hj3, hj, this with
      | 0, _, hj, this => simp at hj this; subst hj; exact ⟨x, by simpa using this⟩
    rcases Nat.eq_zero_or_pos len with h0 | h0
    · subst h0
      exact .inl ⟨⟨_, _, rfl⟩, by simp [En.zero, inpρ]⟩
    · obtain ⟨b, o, spot⟩ := a
      obtain ⟨z0, hz0⟩ := cell 0 0 .i64 h0 rfl
      have hspot : spot = none := by simpa [Addr.add] using World.cell?_spot hz0
      subst hspot
      refine .inr ⟨b, o, len, cap, rfl, hl, by simp [En.zero, inpρ], ?_, ?_⟩
      · have : (Addr.mk b o none).add (0 * 1 + 0) = ⟨b, o, none⟩ := by simp [Addr.add]
        rw [this] at hz0
        exact cell_in hz0
      · intro i j kd hi hj
        obtain ⟨z, hz⟩ := cell i j kd hi hj
        have hj8 : j < 8 := by
          rcases Nat.lt_or_ge j 1 with h | h
          · omega
          · rw [List.getElem?_eq_none (by simpa using h)] at hj; simp at hj
        have := inpρ_at (len := len) (u := u) hj8 hz
        show hcell W.heap b (o + i * 1 + j) = some (.int kd (inpρ W ⟨b, o, none⟩ len 1 u (1000 + i * 64 + (0 * 8 + j))))
        rw [this, ← cell?_eq]
        have e : (Addr.mk b o none).add (i * 1 + j) = ⟨b, o + i * 1 + j, none⟩ := by simp [Addr.add, Nat.add_assoc]
        rw [← e]
        exact hz
end

theorem u8_nonneg {n : Int} (h : (Lit.int .u8 n).wf = true) : 0 ≤ n := by
  have h0 : IntKind.u8.min = 0 := rfl
  simp only [Lit.wf, Bool.and_eq_true, decide_eq_true_eq, h0] at h
  exact h.1

theorem glob_of {W : World} (h : W.ShapedOpen Tryz.prog) : Glob.ok (fun b => b < W.heap.size) W.heap := by
  obtain ⟨m, hm⟩ := LaysM.n144.s1_3 Tryz.laysM144 W h
  exact ⟨cell_in hm, m, by rw [← cell?_eq]; exact hm⟩

/-! ### the witness -/
def litCell : DataW Unit → Value
  | .lit (.int k n) => .int k n
  | _ => undef
def cellsD : DataW Unit → Array Value
  | .agg l => (l.map litCell).toArray
  | d => #[litCell d]
def layAt (d : DataW Unit) : Obj → Obj
  | .cells _ t f => .cells (cellsD d) t f
  | o => o
noncomputable def layOne (h : Array Obj) (x : String × DataW Unit) : Array Obj := match Tryz.prog.globalNamed x.1 with
  | some g => h.modify g (layAt x.2)
  | none => h
noncomputable def laidWorld (os : Os) : World :=
  { World.holding Tryz.prog os ⟨#[], #[], []⟩ with heap := Rows.primsMutexRow.laid.foldl layOne (World.holding Tryz.prog os ⟨#[], #[], []⟩).heap }
theorem laid_met1 (os : Os) : laidMet Tryz.prog Rows.primsMutexRow.laid ((laidWorld os).forCall (fun _ _ => 0) ⟨#[], #[.slice none 0 0], []⟩).memory :=
  laidMet_of_run' 8 (by kernel_rfl) (by kernel_rfl)
theorem laid_met2 (os : Os) : laidMet Tryz.prog Rows.primsMutexRow.laid ((laidWorld os).forCall (fun _ _ => 0) ⟨#[], #[.int .u8 0, .slice none 0 0], []⟩).memory :=
  laidMet_of_run' 8 (by kernel_rfl) (by kernel_rfl)
theorem reads1 (os : Os) {H : Type} (enc : TypeId × Value → H) : ∃ places, DataW.whole enc Tryz.prog ((laidWorld os).forCall (fun _ _ => 0) ⟨#[], #[.slice none 0 0], []⟩).memory Tryz.f6.params.toList [] false #[Value.slice none 0 0].toList 8 = some ([.nil], [], places) :=
  ⟨[], by kernel_rfl⟩
theorem reads2 (os : Os) {H : Type} (enc : TypeId × Value → H) : ∃ places, DataW.whole enc Tryz.prog ((laidWorld os).forCall (fun _ _ => 0) ⟨#[], #[.int .u8 0, .slice none 0 0], []⟩).memory Tryz.f8.params.toList [] false #[Value.int .u8 0, Value.slice none 0 0].toList 8 = some ([.lit (.int .u8 0), .nil], [], places) :=
  ⟨[], by kernel_rfl⟩
theorem reads3 (os : Os) {H : Type} (enc : TypeId × Value → H) : ∃ places, DataW.whole enc Tryz.prog ((laidWorld os).forCall (fun _ _ => 0) ⟨#[], #[.int .u8 0, .slice none 0 0], []⟩).memory Tryz.f5.params.toList [] false #[Value.int .u8 0, Value.slice none 0 0].toList 8 = some ([.lit (.int .u8 0), .nil], [], places) :=
  ⟨[], by kernel_rfl⟩
theorem laid_met3 (os : Os) : laidMet Tryz.prog Rows.primsMutexRow.laid ((laidWorld os).forCall (fun _ _ => 0) ⟨#[], #[.int .u8 0, .slice none 0 0], []⟩).memory := laid_met2 os
end Go.As.Try

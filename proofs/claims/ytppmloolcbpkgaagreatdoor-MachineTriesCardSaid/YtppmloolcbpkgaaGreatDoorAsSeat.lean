import Derived.Test.YtppmloolcbpkgaaGreatDoorAsHooks
import Derived.Test.YtppmloolcbpkgaaGreatDoorAsDraw13
/-
  AS, part 30: a program's tables.
-/
namespace Go.As
noncomputable section

def lim {α : Type} (n : Nat) (t : Tr α) (k : Nat) : Option α := match Nat.ble n k with
  | true => none
  | false => t.get k

theorem lim_get {α : Type} {n : Nat} {t : Tr α} {f : Nat → Option α} (h : (List.range n).map t.get = (List.range n).map f) {k : Nat} {x : α} (hk : lim n t k = some x) : f k = some x := by
  unfold lim at hk
  split at hk
  · simp at hk
  · rename_i hle
    have hlt : k < n := by
      have : ¬ (n ≤ k) := by
        intro h
        rw [Nat.ble_eq_true_of_le h] at hle
        simp at hle
      omega
    have := congrArg (fun l => l[k]?) h
    simp only [List.getElem?_map, List.getElem?_range hlt, Option.map_some, Option.some.injEq] at this
    rw [← this]
    exact hk

section
variable {P : Program}

theorem ttok_of {n : Nat} {tab : Tr TI} (h : (List.range n).map tab.get = (List.range n).map (tiOf P)) : TTok P (lim n tab) := fun _ _ hk => tiOf_ok (lim_get h hk)

def okFn (chk : Nat → List Oper → Bool) (f : Func) : Bool := !(f.name == "runtime.NumGoroutine") && (match f.body with | some c => dstOk chk f.ntmps c | none => true)

/-- the table of what is reckoned of regions -/
def hAt {α : Type} (t : Tr (Tr α)) (g id : Nat) : Option α := match t.get g with
  | some u => u.get id
  | none => none

theorem ftok_of {n : Nat} {ftab : Tr Func} (h : (List.range n).map ftab.get = (List.range n).map (fun g => P.funcs[g]?)) {chk : Nat → Nat → List Oper → Bool} (hc : (List.range n).all (fun g => match ftab.get g with | some f => okFn (chk g) f | none => true) = true) : FTok P chk (lim n ftab) := by
  intro g fn hk
  have h1 := lim_get h hk
  refine ⟨h1, ?_⟩
  have hlt : g < n := by
    unfold lim at hk
    split at hk
    · simp at hk
    · rename_i hle
      rcases Nat.lt_or_ge g n with h | h
      · exact h
      · rw [Nat.ble_eq_true_of_le h] at hle; simp at hle
  have hget : ftab.get g = some fn := by
    unfold lim at hk
    split at hk
    · simp at hk
    · exact hk
  have := List.all_eq_true.1 hc g (List.mem_range.2 hlt)
  rw [hget] at this
  simp only [okFn, Bool.and_eq_true, Bool.not_eq_true'] at this
  refine ⟨this.1, fun c hb => ?_⟩
  rw [hb] at this
  exact this.2

end
end
end Go.As

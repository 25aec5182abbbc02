import Derived.Test.YtppmloolcbpkgaaGreatDoorAsT2
namespace Go.As.Try
open Go Go.As Go.Proofs Go.RowKit
set_option maxRecDepth 100000

def maxLen : Nat := Tryz.laysM144_ren.g 1

instance glob : Glob where
  ok ro h := ro maxLen ∧ ∃ m, hcell h maxLen 0 = some (.int .i64 m)
  keep := by
    intro ro ro' h h' hk h1 h2
    obtain ⟨a, m, hm⟩ := hk
    refine ⟨h1 _ a, m, ?_⟩
    unfold hcell at *
    rw [h2 _ a]
    exact hm

theorem tt_ok : TTok Tryz.prog (lim 383 tab) := ttok_of types_eq
theorem ft_ok : FTok Tryz.prog (chkR (lim 383 tab) (hAt htab)) (lim 338 ftab) := ftok_of funcs_eq funcs_ok

def b (n : Nat) : AV := .int .u8 (.lit (.ofNat n))
def classesV : AV := .agg [b 0, b 0, b 0, b 0, b 0, b 0, b 0, b 0, b 0, b 1, b 1, b 0, b 0, b 1, b 0, b 0, b 0, b 0, b 0, b 0, b 0, b 0, b 0, b 0, b 0, b 0, b 0, b 0, b 0, b 0, b 0, b 0, b 1, b 0, b 0, b 2, b 0, b 0, b 0, b 0, b 5, b 5, b 5, b 5, b 0, b 5, b 0, b 0, b 3, b 3, b 3, b 3, b 3, b 3, b 3, b 3, b 3, b 3, b 0, b 5, b 5, b 5, b 0, b 0, b 0, b 4, b 4, b 4, b 4, b 4, b 4, b 4, b 4, b 4, b 4, b 4, b 4, b 4, b 4, b 4, b 4, b 4, b 4, b 4, b 4, b 4, b 4, b 4, b 4, b 4, b 4, b 0, b 0, b 0, b 0, b 4, b 0, b 4, b 4, b 4, b 4, b 4, b 4, b 4, b 4, b 4, b 4, b 4, b 4, b 4, b 4, b 4, b 4, b 4, b 4, b 4, b 4, b 4, b 4, b 4, b 4, b 4, b 4, b 5, b 0, b 5, b 0, b 0, b 0, b 0, b 0, b 0, b 0, b 0, b 0, b 0, b 0, b 0, b 0, b 0, b 0, b 0, b 0, b 0, b 0, b 0, b 0, b 0, b 0, b 0, b 0, b 0, b 0, b 0, b 0, b 0, b 0, b 0, b 0, b 0, b 0, b 0, b 0, b 0, b 0, b 0, b 0, b 0, b 0, b 0, b 0, b 0, b 0, b 0, b 0, b 0, b 0, b 0, b 0, b 0, b 0, b 0, b 0, b 0, b 0, b 0, b 0, b 0, b 0, b 0, b 0, b 0, b 0, b 0, b 0, b 0, b 0, b 0, b 0, b 0, b 0, b 0, b 0, b 0, b 0, b 0, b 0, b 0, b 0, b 0, b 0, b 0, b 0, b 0, b 0, b 0, b 0, b 0, b 0, b 0, b 0, b 0, b 0, b 0, b 0, b 0, b 0, b 0, b 0, b 0, b 0, b 0, b 0, b 0, b 0, b 0, b 0, b 0, b 0, b 0, b 0, b 0, b 0, b 0, b 0, b 0, b 0, b 0, b 0, b 0, b 0, b 0, b 0, b 0, b 0, b 0]

def hook0 (g : Nat) : Option (List AV → St → T (AV × St)) :=
  match Nat.beq g 287 with
  | true => some hookCount
  | false => match Nat.beq g 310 with
    | true => some hookIndex
    | false => match Nat.beq g 210 with
      | true => some hookContains
      | false => none

theorem fn_at {g : Nat} {f : Func} (h : ftab.get g = some f) (hg : g < 338) : Tryz.prog.funcs[g]? = some f := by
  have := congrArg (fun l => l[g]?) funcs_eq
  simp only [List.getElem?_map, List.getElem?_range hg, Option.map_some, Option.some.injEq] at this
  rw [← this]
  exact h

theorem f287 : FnOk Tryz.prog 287 hookCount := count_ok (fn := Tryz.f287) (fn_at (by kernel_rfl) (by decide)) (by kernel_rfl) (by kernel_rfl) (by kernel_rfl) (by kernel_rfl)
theorem f310 : FnOk Tryz.prog 310 hookIndex := index_ok (fn := Tryz.f310) (fn_at (by kernel_rfl) (by decide)) (by kernel_rfl) (by kernel_rfl) (by kernel_rfl) (by kernel_rfl)
theorem ren210 : Tryz.laysM144_ren.f 144 = 210 := by kernel_rfl
theorem f210 : FnOk Tryz.prog 210 hookContains := by
  refine contains_ok ?_ ?_
  · intro ro w ⟨_, m, hm⟩ s sub hs
    have := Any.strings_Contains { Tryz.laysM144 with } s sub m w hs (by rw [cell?_eq]; exact hm)
    rw [ren210] at this
    exact this
  · intro args w
    have hf : Tryz.prog.funcs[210]? = some Tryz.f210 := fn_at (by kernel_rfl) (by decide)
    have hn : (Tryz.f210.name == "runtime.NumGoroutine") = false := by kernel_rfl
    have hb : Tryz.f210.body.isNone = false := by kernel_rfl
    unfold callFunc
    simp only [Sem.run_bind, run_program, Result.andThen_ok, hf]
    rw [hn, hb]
    simp

theorem hook0_ok : ∀ (g : Nat) (h : List AV → St → T (AV × St)), hook0 g = some h → FnOk Tryz.prog g h := by
  intro g h hh
  unfold hook0 at hh
  split at hh
  · rename_i hg
    have := Nat.eq_of_beq_eq_true hg
    subst this
    simp at hh
    subst hh
    exact f287
  · split at hh
    · rename_i hg
      have := Nat.eq_of_beq_eq_true hg
      subst this
      simp at hh
      subst hh
      exact f310
    · split at hh
      · rename_i hg
        have := Nat.eq_of_beq_eq_true hg
        subst this
        simp at hh
        subst hh
        exact f210
      · simp at hh

noncomputable def run0 (g : Nat) : List AV → St → T (AV × St) := evFn (lim 383 tab) (lim 338 ftab) hook0 (drawR (lim 383 tab) (hAt htab)) 100000 60 g
theorem run0_ok (g : Nat) : FnOk Tryz.prog g (run0 g) := evFn_ok tt_ok ft_ok hook0_ok (fun _ hc => drawR_ok tt_ok mixed hc) 100000 60 g

theorem classes_run : gives [] classesV (run0 205) = true := by kernel_rfl
theorem classes_ok : FnOk Tryz.prog 205 (memo [] classesV) := by
  have hb : ∃ c, Tryz.f205.body = some c := by
    cases h : Tryz.f205.body with
    | none =>
      have : Tryz.f205.body.isSome = true := by kernel_rfl
      rw [h] at this
      simp at this
    | some c => exact ⟨c, rfl⟩
  obtain ⟨c, hb⟩ := hb
  exact memo_ok (run0_ok 205) (fn := Tryz.f205) (fn_at (by kernel_rfl) (by decide)) (by kernel_rfl) hb classes_run

def hook (g : Nat) : Option (List AV → St → T (AV × St)) :=
  match Nat.beq g 205 with
  | true => some (memo [] classesV)
  | false => hook0 g

theorem hook_ok : ∀ (g : Nat) (h : List AV → St → T (AV × St)), hook g = some h → FnOk Tryz.prog g h := by
  intro g h hh
  unfold hook at hh
  split at hh
  · rename_i hg
    have := Nat.eq_of_beq_eq_true hg
    subst this
    simp at hh
    subst hh
    exact classes_ok
  · exact hook0_ok g h hh

noncomputable def run (g : Nat) : List AV → St → T (AV × St) := evFn (lim 383 tab) (lim 338 ftab) hook (drawR (lim 383 tab) (hAt htab)) 100000 60 g
theorem run_ok (g : Nat) : FnOk Tryz.prog g (run g) := evFn_ok tt_ok ft_ok hook_ok (fun _ hc => drawR_ok tt_ok mixed hc) 100000 60 g
end Go.As.Try

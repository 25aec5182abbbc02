import Derived.Test.YtcmepjpoffiijaaGreatDoorAsT4
import Derived.Test.YtcmepjpoffiijaaGreatDoorAsCut4
import Derived.WalkKit
/-
  AS: Pick, awake; what a law is run with.
-/
namespace Go.As.Try
open Go hiding Stat
open Go.As Go.Proofs Go.RowKit
set_option maxRecDepth 100000

set_option maxHeartbeats 1000000 in
theorem pick_any (x n : Int) (w : World) (h1 : 1 ≤ n) (h2 : n ≤ 16) : Calls Tryz.prog 27 #[.int .i64 x, .int .i64 n] w fun e w' => e = .returned (.int .i64 (pickI x n)) ∧ w' = w := by
  have hn : ¬ n < 1 := by omega
  have h0 : ¬ n = 0 := by omega
  by_cases hc : x.tmod n < 0
  · have hw : IntKind.i64.wrap (x.tmod n + n) = x.tmod n + n := by
      have h1 := Int.tmod_lt_of_pos (-x) (b := n) (by omega)
      rw [Int.neg_tmod] at h1
      rw [← fwrap_eq]
      simp only [fwrap]
      rw [if_pos (by omega)]
    go_enter Tryz.func27, Tryz.ntmps27
    go_wp2
    go_ret
    refine ⟨?_, rfl⟩
    rw [pickI, if_pos hc]
    rfl
  · go_enter Tryz.func27, Tryz.ntmps27
    go_wp2
    go_ret
    refine ⟨?_, rfl⟩
    rw [pickI, if_neg (by omega)]
    rfl

theorem run27 (args : Array Value) (w : World) : (callFunc 27 args).run Tryz.prog w = .ok (.enter 27 args) w := by
  have hf : Tryz.prog.funcs[27]? = some Tryz.f27 := fn_at (by kernel_rfl) (by decide)
  have hn : (Tryz.f27.name == "runtime.NumGoroutine") = false := by kernel_rfl
  have hb : Tryz.f27.body.isNone = false := by kernel_rfl
  unfold callFunc
  simp only [Sem.run_bind, run_program, Result.andThen_ok, hf]
  rw [hn, hb]
  simp

/-- a pick of a thread, out of four, stays a number that is not known -/
def symT (e : SE) (n : Int) : Bool := match e with
  | .inp b _ => decide (n = 4) && Nat.beq b 0
  | _ => false

def hook2 (g : Nat) : Option (List AV → St → T (AV × St)) :=
  match Nat.beq g 27 with
  | true => some (hookPick symT)
  | false => match Nat.beq g 16 with
    | true => some (memo [] (.bool (.lit true)))
    | false => hook g

theorem hook2_ok : ∀ (g : Nat) (h : List AV → St → T (AV × St)), hook2 g = some h → FnOk Tryz.prog g h := by
  intro g h hh
  unfold hook2 at hh
  split at hh
  · rename_i hg
    have := Nat.eq_of_beq_eq_true hg
    subst this
    simp only [Option.some.injEq] at hh
    subst hh
    exact pick_ok pick_any run27 symT
  · split at hh
    · rename_i hg
      have := Nat.eq_of_beq_eq_true hg
      subst this
      simp only [Option.some.injEq] at hh
      subst hh
      exact awake_ok
    · exact hook_ok g h hh

noncomputable def call2 : Calls? := evFn (lim 262 tab) (lim 225 ftab) hook2 (drawH (lim 262 tab) (hAt htab)) 100000 60
theorem call2_ok : CallOk Tryz.prog call2 := evFn_ok tt_ok ft_ok hook2_ok (fun _ hc => drawH_ok tt_ok mixed hc) 100000 60

noncomputable def cfg (pv : List (SB × Bool) → SB → Bool → Bool) (f : Nat) (res : List ResultVar) : Cfg := ⟨lim 262 tab, call2, drawH (lim 262 tab) (hAt htab) call2 f, 100000, pv, res⟩
theorem cfg_ok {pv : List (SB × Bool) → SB → Bool → Bool} (hpv : PvOk pv) (f : Nat) (res : List ResultVar) : CfgOk Tryz.prog (cfg pv f res) (chkH (lim 262 tab) (hAt htab) f) :=
  ⟨tt_ok, call2_ok, drawH_ok tt_ok mixed call2_ok f, hpv⟩

theorem dst_at {f : Nat} {fn : Func} (h : lim 225 ftab f = some fn) : ∀ c, fn.body = some c → dstOk (chkH (lim 262 tab) (hAt htab) f) fn.ntmps c = true := (ft_ok f fn h).2.2
end Go.As.Try

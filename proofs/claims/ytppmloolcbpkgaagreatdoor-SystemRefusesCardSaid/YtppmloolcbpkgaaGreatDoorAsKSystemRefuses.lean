import Derived.Test.YtppmloolcbpkgaaGreatDoorAsT3
import Derived.Test.YtppmloolcbpkgaaGreatDoorAsDeep
import Derived.Test.YtppmloolcbpkgaaGreatDoorAsCut4
/-
  AS: the law SystemRefuses: data whose check is known.
-/
namespace Go.As.Try.SystemRefuses
open Go hiding Stat
open Go.As Go.Proofs Go.RowKit Go.As.Try
set_option maxRecDepth 100000
def key0 : List AV := [.agg [.ro [.int .u8 (.lit 1), .str [109], .int .i64 (.lit 0), .str [], .int .i64 (.lit 1)] 1 false, .ro [.str [97], .nils, .ro [.int .u8 (.lit 1), .int .u8 (.lit 1), .int .i64 (.lit 0), .int .i64 (.lit (-1)), .int .i64 (.lit 0), .int .i64 (.lit 0), .nils, .int .u8 (.lit 1), .int .u8 (.lit 2), .int .i64 (.lit 0), .int .i64 (.lit (-1)), .int .i64 (.lit 0), .int .i64 (.lit 0), .nils] 2 false, .str [98], .nils, .ro [.int .u8 (.lit 1), .int .u8 (.lit 1), .int .i64 (.lit 0), .int .i64 (.lit (-1)), .int .i64 (.lit 0), .int .i64 (.lit 0), .nils] 1 false] 2 false]]
theorem k0 : givesK key0 (.int .i64 (.lit 0)) (run 43) = true := by kernel_rfl
def key1 : List AV := [.agg [.ro [.int .u8 (.lit 1), .str [109], .int .i64 (.lit 0), .str [], .int .i64 (.lit 1), .int .u8 (.lit 2), .str [114], .int .i64 (.lit 0), .str [], .int .i64 (.lit 1), .int .u8 (.lit 3), .str [115], .int .i64 (.lit 2), .str [], .int .i64 (.lit 1), .int .u8 (.lit 6), .str [111], .int .i64 (.lit 0), .str [], .int .i64 (.lit 1), .int .u8 (.lit 8), .str [113], .int .i64 (.lit 1), .str [], .int .i64 (.lit 1), .int .u8 (.lit 7), .str [119], .int .i64 (.lit 0), .str [], .int .i64 (.lit 1), .int .u8 (.lit 5), .str [98], .int .i64 (.lit 2), .str [], .int .i64 (.lit 1), .int .u8 (.lit 9), .str [118], .int .i64 (.lit 3), .str [], .int .i64 (.lit 1)] 8 false, .ro [.str [97], .nils, .ro [.int .u8 (.lit 1), .int .u8 (.lit 2), .int .i64 (.lit 0), .int .i64 (.lit (-1)), .int .i64 (.lit 0), .int .i64 (.lit 0), .nils, .int .u8 (.lit 1), .int .u8 (.lit 6), .int .i64 (.lit 1), .int .i64 (.lit (-1)), .int .i64 (.lit 0), .int .i64 (.lit 0), .nils, .int .u8 (.lit 1), .int .u8 (.lit 8), .int .i64 (.lit 1), .int .i64 (.lit (-1)), .int .i64 (.lit 0), .int .i64 (.lit 0), .nils, .int .u8 (.lit 1), .int .u8 (.lit 10), .int .i64 (.lit 2), .int .i64 (.lit (-1)), .int .i64 (.lit 0), .int .i64 (.lit 0), .nils, .int .u8 (.lit 1), .int .u8 (.lit 18), .int .i64 (.lit 5), .int .i64 (.lit (-1)), .int .i64 (.lit 0), .int .i64 (.lit 0), .nils] 5 false, .str [100], .nils, .ro [.int .u8 (.lit 1), .int .u8 (.lit 2), .int .i64 (.lit 0), .int .i64 (.lit (-1)), .int .i64 (.lit 0), .int .i64 (.lit 0), .nils] 1 false] 2 false]]
theorem k1 : givesK key1 (.int .i64 (.lit 0)) (run 43) = true := by kernel_rfl
def tbl : List (List AV × AV) := [(key0, .int .i64 (.lit 0)), (key1, .int .i64 (.lit 0))]
theorem tbl_ok : ∀ p ∈ tbl, givesK p.1 p.2 (run 43) = true := by
  intro p hp
  simp only [tbl, List.mem_cons, List.not_mem_nil, or_false] at hp
  rcases hp with rfl | rfl
  · exact k0
  · exact k1
theorem chk_ok : FnOk Tryz.prog 43 (orElse (memoH tbl) (run 43)) := by
  obtain ⟨c, hb⟩ := Option.isSome_iff_exists.1 (show Tryz.f43.body.isSome = true by kernel_rfl)
  exact orElse_ok (memoH_ok (run_ok 43) (fn := Tryz.f43) (fn_at (by kernel_rfl) (by decide)) (by kernel_rfl) hb tbl_ok) (run_ok 43)
noncomputable def hookA (g : Nat) : Option (List AV → St → T (AV × St)) :=
  match Nat.beq g 43 with
  | true => some (orElse (memoH tbl) (run 43))
  | false => hook g
theorem hookA_ok : ∀ (g : Nat) (h : List AV → St → T (AV × St)), hookA g = some h → FnOk Tryz.prog g h := by
  intro g h hh
  unfold hookA at hh
  split at hh
  · rename_i hg
    have := Nat.eq_of_beq_eq_true hg
    subst this
    simp only [Option.some.injEq] at hh
    subst hh
    exact chk_ok
  · exact hook_ok g h hh
noncomputable def runA (g : Nat) : List AV → St → T (AV × St) := evFn (lim 383 tab) (lim 338 ftab) hookA (drawR (lim 383 tab) (hAt htab)) 100000 60 g
theorem runA_ok (g : Nat) : FnOk Tryz.prog g (runA g) := evFn_ok tt_ok ft_ok hookA_ok (fun _ hc => drawR_ok tt_ok mixed hc) 100000 60 g
theorem awake_run : gives [] (.bool (.lit true)) (runA 24) = true := by kernel_rfl
theorem awake_ok : FnOk Tryz.prog 24 (memo [] (.bool (.lit true))) := by
  obtain ⟨c, hb⟩ := Option.isSome_iff_exists.1 (show Tryz.f24.body.isSome = true by kernel_rfl)
  exact memo_ok (runA_ok 24) (fn := Tryz.f24) (fn_at (by kernel_rfl) (by decide)) (by kernel_rfl) hb awake_run
noncomputable def hookL (g : Nat) : Option (List AV → St → T (AV × St)) :=
  match Nat.beq g 24 with
  | true => some (memo [] (.bool (.lit true)))
  | false => hookA g
theorem hookL_ok : ∀ (g : Nat) (h : List AV → St → T (AV × St)), hookL g = some h → FnOk Tryz.prog g h := by
  intro g h hh
  unfold hookL at hh
  split at hh
  · rename_i hg
    have := Nat.eq_of_beq_eq_true hg
    subst this
    simp only [Option.some.injEq] at hh
    subst hh
    exact awake_ok
  · exact hookA_ok g h hh
noncomputable def runL (g : Nat) : List AV → St → T (AV × St) := evFn (lim 383 tab) (lim 338 ftab) hookL (drawR (lim 383 tab) (hAt htab)) 100000 60 g
theorem runL_ok (g : Nat) : FnOk Tryz.prog g (runL g) := evFn_ok tt_ok ft_ok hookL_ok (fun _ hc => drawR_ok tt_ok mixed hc) 100000 60 g
noncomputable def callL : Calls? := evFn (lim 383 tab) (lim 338 ftab) hookL (drawR (lim 383 tab) (hAt htab)) 100000 60
theorem callL_ok : CallOk Tryz.prog callL := evFn_ok tt_ok ft_ok hookL_ok (fun _ hc => drawR_ok tt_ok mixed hc) 100000 60
noncomputable def g : Cfg := ⟨lim 383 tab, callL, drawR (lim 383 tab) (hAt htab) callL 7, 100000, prv, Tryz.f7.results.toList⟩
theorem g_ok : CfgOk Tryz.prog g (chkR (lim 383 tab) (hAt htab) 7) := ⟨tt_ok, callL_ok, drawR_ok tt_ok mixed callL_ok 7, prv_ok⟩
theorem dst_at {f : Nat} {fn : Func} (h : lim 338 ftab f = some fn) : ∀ c, fn.body = some c → dstOk (chkR (lim 383 tab) (hAt htab) f) fn.ntmps c = true := (ft_ok f fn h).2.2
def args : List AV := [.int .u8 (.atm 951), .int .u8 (.atm 952), .int .i64 (.atm 953)]
end Go.As.Try.SystemRefuses

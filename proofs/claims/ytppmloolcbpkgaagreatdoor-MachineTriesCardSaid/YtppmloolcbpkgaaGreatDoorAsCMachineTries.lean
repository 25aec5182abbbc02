/-
  Proved: the given card of the law MachineTries: whatever the input, the call returns true and each argument reads afterwards as it did. Conditions: those of the given row alone (its listed package-level variables start as the program's text lays them).
-/
import Derived.Test.YtppmloolcbpkgaaGreatDoorAsT6
import Derived.Test.YtppmloolcbpkgaaGreatDoorAsBMachineTries0
import Derived.Test.YtppmloolcbpkgaaGreatDoorAsBMachineTries1
/-
  AS: the row and the card of the law MachineTries.
-/
namespace Go.Proofs.YtppmloolcbpkgaaGreatDoor.fnMachineTries
open Go hiding Stat
open Go.As Go.As.Try Go.As.Try.MachineTries Go.Proofs Go.RowKit Go.ChangeShapes Go.WideShapes Go.ChangeAt
set_option maxRecDepth 100000

theorem wrap_u8 {n : Int} (h : 0 ≤ n ∧ n ≤ 255) : IntKind.i64.wrap n = n := by
  rw [← fwrap_eq]
  simp only [fwrap]
  rw [if_pos (by omega)]

theorem calls {ro : Nat → Prop} {w : World} (hro : ∀ b, ro b → b < w.heap.size) (hgl : Glob.ok ro w.heap) (n0 n1 : Int) (h0 : 0 ≤ n0 ∧ n0 ≤ 255) (h1 : 0 ≤ n1 ∧ n1 ≤ 255) :
    Calls Tryz.prog 5 #[.int .u8 n0, .int .u8 n1] w fun e w' => e = .returned (.bool true) ∧ Below w.heap.size w w' := by
  let ρ : Nat → Int := fun i => if i = 951 then n0 else n1
  have e0 : ρ 951 = n0 := rfl
  have e1 : ρ 952 = n1 := rfl
  have hw := wrap_u8 h1
  have hv : VRs (En.zero ρ ro) w.heap args [.int .u8 n0, .int .u8 n1] := by
    simp only [args, VRs_cons, VRs_nil, VR, SE.den]
    exact ⟨_, _, rfl, rfl, _, _, rfl, rfl, rfl⟩
  have key : ∀ k : Int, n0.tmod 31 = k → go g (tab1 path cs) 1000 [] (bodyOf Tryz.f5) [] ⟨initSlots args 0 .nil, Hp.zero, pcOf k⟩ = true → Calls Tryz.prog 5 #[.int .u8 n0, .int .u8 n1] w fun e w' => e = .returned (.bool true) ∧ Below w.heap.size w w' := by
    intro k hk hb
    refine law_one g_ok (fn := Tryz.f5) (fn_at (by kernel_rfl) (by decide)) (by kernel_rfl) rfl (dst_at (by kernel_rfl)) isL rounds (ρ := ρ) hro hgl hv ?_ hb
    refine pc_cons (pc_cons (pc_cons (pc_cons (by simp [PcOk]) ?_) ?_) ?_) ?_
    · simp only [SB.den, SE.den, e1]; exact decide_eq_false (by omega)
    · simp only [SB.den, SE.den, e0]; exact decide_eq_false (by omega)
    · simp only [SB.den, SE.den, e1, hw]; exact decide_eq_false (by omega)
    · simp only [SB.den, SE.den, e0, hk]; simp
  have g1 := Int.tmod_nonneg 31 h0.1
  have g2 := Int.tmod_lt_of_pos n0 (b := 31) (by omega)
  obtain ⟨k, hk, hlt⟩ : ∃ k : Nat, n0.tmod 31 = (k : Int) ∧ k < 31 := ⟨(n0.tmod 31).toNat, by omega, by omega⟩
  match k, hlt with
  | 0, _ => exact key 0 hk begins0
  | 1, _ => exact key 1 hk begins1
  | 2, _ => exact key 2 hk begins2
  | 3, _ => exact key 3 hk begins3
  | 4, _ => exact key 4 hk begins4
  | 5, _ => exact key 5 hk begins5
  | 6, _ => exact key 6 hk begins6
  | 7, _ => exact key 7 hk begins7
  | 8, _ => exact key 8 hk begins8
  | 9, _ => exact key 9 hk begins9
  | 10, _ => exact key 10 hk begins10
  | 11, _ => exact key 11 hk begins11
  | 12, _ => exact key 12 hk begins12
  | 13, _ => exact key 13 hk begins13
  | 14, _ => exact key 14 hk begins14
  | 15, _ => exact key 15 hk begins15
  | 16, _ => exact key 16 hk begins16
  | 17, _ => exact key 17 hk begins17
  | 18, _ => exact key 18 hk begins18
  | 19, _ => exact key 19 hk begins19
  | 20, _ => exact key 20 hk begins20
  | 21, _ => exact key 21 hk begins21
  | 22, _ => exact key 22 hk begins22
  | 23, _ => exact key 23 hk begins23
  | 24, _ => exact key 24 hk begins24
  | 25, _ => exact key 25 hk begins25
  | 26, _ => exact key 26 hk begins26
  | 27, _ => exact key 27 hk begins27
  | 28, _ => exact key 28 hk begins28
  | 29, _ => exact key 29 hk begins29
  | 30, _ => exact key 30 hk begins30
  | k + 31, h => exact absurd h (by omega)

theorem contract (H : Type) (enc : TypeId × Value → H) (W : World) (base : Nat) (args : Array Value) (ds gs : List (DataW H)) (before : List MemPlace)
    (hval : ∀ (j : Nat) t v, Tryz.f5.params[j]? = some t → args[j]? = some v → Value.okWide Tryz.prog W .any base t v)
    (hW : DataW.Whole enc Tryz.prog Tryz.f5.params.toList Rows.machineTriesSpec.vars false W args.toList ds gs before) (hsh : W.ShapedOpen Tryz.prog) :
    Calls Tryz.prog 5 args W fun e W' => ∃ v, e = .returned v ∧ Rows.machineTriesSpec.post enc Tryz.prog Tryz.f5 false true false false W args v W' := by
  have hW' := hW
  obtain ⟨p, q, hA0, hV, rfl, hfz, hnd⟩ := hW
  have hA : DataW.TrodAll enc Tryz.prog W 0 (fun _ => true) true Tryz.f5.params.toList args.toList ds p := hA0
  rw [Tryz.params5] at hA hval
  obtain ⟨v0, vs0, d0, ds0, p0, q0, hargs, rfl, rfl, h0, r0⟩ := trodAll_cons hA
  obtain ⟨v1, vs1, d1, ds1, p1, q1, rfl, rfl, rfl, h1, r1⟩ := trodAll_cons r0
  obtain ⟨rfl, rfl, rfl⟩ := trodAll_nil r1
  obtain rfl : args = #[v0, v1] := by cases args; simp_all
  obtain ⟨rfl, rfl⟩ := trodVars_none hV
  clear hA0
  simp only [List.append_nil] at hW'
  obtain ⟨n0, rfl, rfl, rfl, w0⟩ := open_int Tryz.underlying5 (hval 0 5 v0 rfl rfl) h0
  obtain ⟨n1, rfl, rfl, rfl, w1⟩ := open_int Tryz.underlying5 (hval 1 5 v1 rfl rfl) h1
  refine (calls (ro := fun b => b < W.heap.size) (fun _ h => h) (glob_of hsh) n0 n1 (u8_bounds w0) (u8_bounds w1)).mono fun e W' ⟨he, hb⟩ => ?_
  subst he
  exact ⟨_, rfl, ⟨_, _, _, [], _, [], hW', trodAll_mk1 (shut_bool Tryz.underlying4 _), trodAll_mk2 (shut_int Tryz.underlying5 w0) (shut_int Tryz.underlying5 w1), rfl, hb.frame _, fun h => by cases h⟩⟩

theorem laid_met (os : Os) : laidMet Tryz.prog Rows.machineTriesRow.laid ((laidWorld os).forCall (fun _ _ => 0) ⟨#[], #[Value.int .u8 0, .int .u8 0], []⟩).memory :=
  laidMet_of_run' 8 (by kernel_rfl) (by kernel_rfl)
theorem reads (os : Os) {H : Type} (enc : TypeId × Value → H) : ∃ places, DataW.whole enc Tryz.prog ((laidWorld os).forCall (fun _ _ => 0) ⟨#[], #[Value.int .u8 0, .int .u8 0], []⟩).memory Tryz.f5.params.toList [] false #[Value.int .u8 0, .int .u8 0].toList 8 = some ([.lit (.int .u8 0), .lit (.int .u8 0)], [], places) :=
  ⟨[], by kernel_rfl⟩

set_option maxHeartbeats 400000 in
theorem lifted (os : Os) (started : os.Started) (H : Type) (enc : TypeId × Value → H) (F : Stop.Interp) :
    ReturnsInHanded {} Tryz.checked os 5 .any ((OpenSpec.ofChange Rows.machineTriesSpec).preRow enc Tryz.prog Tryz.f5 Rows.machineTriesRow.domain false Rows.machineTriesRow.laid) (((OpenSpec.ofChange Rows.machineTriesSpec).at F).post enc Tryz.prog Tryz.f5 false true false false) := by
  obtain ⟨places, hx⟩ := reads os enc
  refine returnsInHanded_of_row (C := Tryz.checked) (s := OpenSpec.ofChange Rows.machineTriesSpec) own started (by kernel_rfl) Tryz.func5
    (witness_row_at (enc := enc) (C := Tryz.checked) false (laidWorld os) #[Value.int .u8 0, .int .u8 0] rfl (by kernel_rfl) (by kernel_rfl) (by kernel_rfl)
      (OpenSpec.preRow_of_cond 8 hx (by kernel_rfl) (fun k hk => by cases hk) (by kernel_rfl) (laid_met os))) ?_
  intro W base args ds gs before hval hW _ _ _ _ hsh _
  exact contract H enc W base args ds gs before hval hW hsh

theorem and_t {a b : Bool} (h1 : a = true) (h2 : b = true) : (a && b) = true := by rw [h1, h2]; rfl
theorem fact0 : Rows.machineTriesRow.wf (OpenSpec.ofChange (OpenSpec.ofChange Rows.machineTriesSpec).bare) = true := by kernel_rfl
theorem fact1 : laidOutB Tryz.pinned.checked.prog = true := by kernel_rfl
theorem fact2 : mapsRowed Tryz.pinned.checked.prog = true := by kernel_rfl
theorem fact3 : Tryz.f5.params.all (Tryz.pinned.checked.prog.readableRec ·) = true := by kernel_rfl
theorem fact4 : namedTie Tryz.pinned.checked.prog Rows.machineTriesRow.named (OpenSpec.ofChange Rows.machineTriesSpec).bare.vars = true := by kernel_rfl
theorem fact5 : (Rows.machineTriesRow.stops == []) = true := by kernel_rfl
theorem fact6 : (Tryz.pinned.checked.prog.stops == []) = true := by kernel_rfl
theorem fact7 : (Rows.machineTriesRow.knobs == []) = true := by kernel_rfl
theorem fact8 : (Tryz.pinned.checked.prog.stopKnobs == []) = true := by kernel_rfl
theorem fact9 : (Rows.machineTriesRow.inPlace == Tryz.pinned.checked.prog.inPlace 5) = true := by kernel_rfl
theorem fact10 : (Rows.machineTriesRow.unfollowed == Tryz.pinned.checked.prog.unfollowed 5) = true := by kernel_rfl
theorem fact11 : (Rows.machineTriesRow.recurses == Tryz.pinned.checked.prog.recurses 5) = true := by kernel_rfl
theorem fact12 : (Rows.machineTriesRow.named == Tryz.pinned.checked.prog.varsNamed 5) = true := by kernel_rfl
theorem fact13 : (Rows.machineTriesRow.maps == (Tryz.f5.params.toList ++ (OpenSpec.ofChange Rows.machineTriesSpec).bare.plain.varTypes Tryz.pinned.checked.prog).any (Tryz.pinned.checked.prog.mapsRec ·)) = true := by kernel_rfl
theorem fact14 : (Rows.machineTriesRow.ifaces == (Tryz.f5.params.toList ++ (OpenSpec.ofChange Rows.machineTriesSpec).bare.plain.varTypes Tryz.pinned.checked.prog).any (Tryz.pinned.checked.prog.ifacesRec ·)) = true := by kernel_rfl
theorem fact15 : (Rows.machineTriesRow.mapsOut == Tryz.pinned.checked.prog.mapsAmong Tryz.f5.resultTypes.toList) = true := by kernel_rfl
theorem fact16 : (Rows.machineTriesRow.loops == (Tryz.f5.params.toList ++ (OpenSpec.ofChange Rows.machineTriesSpec).bare.plain.varTypes Tryz.pinned.checked.prog).any (Tryz.pinned.checked.prog.loopsFrom ·)) = true := by kernel_rfl
theorem fact17 : (Rows.machineTriesRow.wideKeys == (Tryz.f5.params.toList ++ (OpenSpec.ofChange Rows.machineTriesSpec).bare.plain.varTypes Tryz.pinned.checked.prog ++ Tryz.f5.resultTypes.toList).any (Tryz.pinned.checked.prog.wideKeysFrom ·)) = true := by kernel_rfl
theorem fact18 : (OpenSpec.ofChange Rows.machineTriesSpec).bare.vars.all (Tryz.pinned.checked.prog.varReadable ·) = true := by kernel_rfl
theorem fact19 : Tryz.f5.resultTypes.all (fun t => Tryz.pinned.checked.prog.readableRec t && decide (t < Tryz.pinned.checked.prog.types.size)) = true := by kernel_rfl
theorem fact20 : (Rows.machineTriesRow.ifacesOut == Tryz.f5.resultTypes.toList.any (Tryz.pinned.checked.prog.ifacesRec ·)) = true := by kernel_rfl
theorem fact21 : (Rows.machineTriesRow.loopsOut == Tryz.f5.resultTypes.toList.any (Tryz.pinned.checked.prog.loopsFrom ·)) = true := by kernel_rfl
theorem fact22 : (Rows.machineTriesRow.plainKeys == Tryz.pinned.checked.prog.plainKeys) = true := by kernel_rfl
theorem fact23 : Rows.machineTriesRow.shortTexts.isNone = true := by kernel_rfl
theorem fact24 : Tryz.pinned.checked.prog.stopsHeard = true := by kernel_rfl
theorem fact25 : Tryz.pinned.checked.prog.mayEnter = true := by kernel_rfl
theorem fact26 : (Rows.machineTriesRow.lifted == Tryz.pinned.checked.prog.liftsFinal) = true := by kernel_rfl
theorem fact27 : (Tryz.pinned.checked.prog.make == some Rows.machineTriesRow.make) = true := by kernel_rfl
theorem fact28 : (Rows.machineTriesRow.kinds == (if Rows.machineTriesRow.domain.isEmpty then [] else Tryz.f5.params.toList.map fun t => match Tryz.pinned.checked.prog.underlying t with | some (.int k) => some k | _ => none)) = true := by kernel_rfl
theorem fact29 : (Rows.machineTriesRow.pinned == Rows.machineTriesRow.pinnedBy) = true := by kernel_rfl
theorem fact30 : (Rows.machineTriesRow.veiled == (Tryz.f5.params.toList ++ (OpenSpec.ofChange Rows.machineTriesSpec).bare.plain.varTypes Tryz.pinned.checked.prog ++ Tryz.f5.resultTypes.toList).any (Tryz.pinned.checked.prog.veiledRec ·)) = true := by kernel_rfl
theorem fact31 : Rows.machineTriesRow.veiledFits Tryz.pinned.checked.prog Tryz.f5.params.toList (Tryz.f5.params.toList ++ (OpenSpec.ofChange Rows.machineTriesSpec).bare.plain.varTypes Tryz.pinned.checked.prog ++ Tryz.f5.resultTypes.toList) = true := by kernel_rfl
theorem closed : joinedFacts Tryz.pinned.checked.prog 5 Tryz.f5 (OpenSpec.ofChange Rows.machineTriesSpec).bare Rows.machineTriesRow = true := (and_t (and_t (and_t (and_t (and_t (and_t (and_t (and_t (and_t (and_t (and_t (and_t (and_t (and_t (and_t (and_t (and_t (and_t (and_t (and_t (and_t (and_t (and_t (and_t (and_t (and_t (and_t (and_t (and_t (and_t (and_t fact0 fact1) fact2) fact3) fact4) fact5) fact6) fact7) fact8) fact9) fact10) fact11) fact12) fact13) fact14) fact15) fact16) fact17) fact18) fact19) fact20) fact21) fact22) fact23) fact24) fact25) fact26) fact27) fact28) fact29) fact30) fact31)

theorem said : Rows.MachineTriesSaid :=
  OpenClaim.holds_of_cond 5 Tryz.f5 rfl rfl rfl rfl rfl rfl rfl ⟨rfl, rfl, rfl, rfl, rfl⟩ rfl rfl rfl rfl rfl (by kernel_rfl) Tryz.func5 closed
    (of_decide_eq_true (by kernel_rfl)) (by unfold Func.isWrapper; first | (rw [if_pos (by decide +kernel)]; kernel_rfl) | (rw [if_neg (by decide +kernel)]; exact ⟨rfl, rfl⟩))
    (fun os started H enc _ F => by rw [OpenClaim.pre_eq_preRow]; exact lifted os started H enc F)

theorem plain (f : FuncId) (fn : Func) (hf : Tryz.pinned.checked.prog.funcNamed "amanuensis/amanuensislaw13.MachineTries" = some f) (hfn : Tryz.pinned.checked.prog.funcs[f]? = some fn) :
    false = Tryz.pinned.checked.prog.looks [] ∧ ∀ (j : Nat) t, fn.params[j]? = some t → Tryz.pinned.checked.prog.wantsStandIn t = false := by
  obtain rfl : f = 5 := Option.some.inj ((show Tryz.prog.funcNamed "amanuensis/amanuensislaw13.MachineTries" = some 5 by kernel_rfl).symm.trans hf) |>.symm
  obtain rfl : fn = Tryz.f5 := (Option.some.inj (Tryz.func5.symm.trans hfn)).symm
  refine ⟨by kernel_rfl, fun j t ht => ?_⟩
  rw [Tryz.params5] at ht
  have hm := Array.mem_of_getElem? ht
  simp only [List.mem_toArray, List.mem_cons, List.not_mem_nil, or_false] at hm
  rcases hm with rfl | rfl
  all_goals exact (by kernel_rfl : Tryz.prog.wantsStandIn _ = false)

theorem card : Rows.MachineTriesCardSaid :=
  Claim7.holds_tied_plain_at .later [] _ _ _ _ said (fun _ h => by cases h) (by kernel_rfl) (fun _ h => by cases h) machineTries_row_tie rfl ⟨rfl, rfl⟩ (by kernel_rfl) rfl plain (by kernel_rfl)
end Go.Proofs.YtppmloolcbpkgaaGreatDoor.fnMachineTries
#print axioms Go.Proofs.YtppmloolcbpkgaaGreatDoor.fnMachineTries.card

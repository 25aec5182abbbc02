import Derived.Test.YtppmloolcbpkgaaGreatDoorAsCut3
import Derived.Test.YtppmloolcbpkgaaGreatDoorAsHooks
import Derived.Test.YtppmloolcbpkgaaGreatDoorAsDraw9
/-
  AS, part 34: a call of a function whose loops are cut; a place picked out of few.
-/
namespace Go.As
noncomputable section
open Go.RowKit

section
variable {P : Program}

theorem top_zero [Glob] {ρ : Nat → Int} {ro : Nat → Prop} {w : World} (hro : ∀ b, ro b → b < w.heap.size) (hgl : Glob.ok ro w.heap) {args : List AV} {vals : List Value} (hv : VRs (En.zero ρ ro) w.heap args vals) {pc : List (SB × Bool)} (hp : PcOk ρ pc) (n : Nat) :
    Top ⟨w, ro, ρ⟩ (En.zero ρ ro) ⟨initSlots args 0 .nil, Hp.zero, pc⟩ { tmps := vals.toArray ++ Array.replicate n undef, defers := [] } w :=
  ⟨⟨zero_rel ρ ro w hro hgl, init_SR hv _, hp⟩, fun _ _ => rfl, rfl, Below.refl _ _, fun id o h => by simp [Hp.zero, Hp.get, Tr.get] at h⟩

/-- a call of a law -/
theorem law_calls [Glob] {g : Cfg} {chk : Nat → List Oper → Bool} (hg : CfgOk P g chk) {f : FuncId} {fn : Func} {body : Code} (hf : P.funcs[f]? = some fn) (hb : fn.body = some body) (hres : g.res = fn.results.toList) (hd : dstOk chk fn.ntmps body = true)
    {ρ : Nat → Int} {ro : Nat → Prop} {w : World} (hro : ∀ b, ro b → b < w.heap.size) (hgl : Glob.ok ro w.heap) {args : List AV} {vals : List Value} (hv : VRs (En.zero ρ ro) w.heap args vals) {pc : List (SB × Bool)} (hp : PcOk ρ pc)
    {tabs : Tabs} (ht : TabsOk P body fn.ntmps ⟨w, ro, ρ⟩ (bodyPost P fn (Says ⟨w, ro, ρ⟩)) tabs) {n : Nat} (h : go g tabs n [] body [] ⟨initSlots args 0 .nil, Hp.zero, pc⟩ = true) :
    Calls P f vals.toArray w fun e w' => e = .returned (.bool true) ∧ Below w.heap.size w w' := by
  refine calls_of_wp hf hb ?_
  exact (go_ok hg hd hres ht n).1 [] body [] _ _ _ w rfl h (top_zero hro hgl hv hp _) (by simp; omega) rfl

/-- one loop cut -/
def tab1 (p : List Nat) (cs : List CS) : Tabs := fun q => match numsEq p q with
  | true => some cs
  | false => none

def noTabs : Tabs := fun _ => none

theorem noTabs_ok [Glob] {body : Code} {N : Nat} {B : Base} {Q : Exit → Act → World → Prop} : TabsOk P body N B Q noTabs := by
  intro p cs h
  simp [noTabs] at h

theorem tab1_ok [Glob] {g : Cfg} {chk : Nat → List Oper → Bool} (hg : CfgOk P g chk) {fn : Func} {body : Code} (hres : g.res = fn.results.toList) (hd : dstOk chk fn.ntmps body = true) {B : Base} {p : List Nat} {cs : List CS} {n : Nat} {b : Code} {fr : List Fr}
    (hl : locate body p = some (.loop b, fr)) (h : ∀ c ∈ cs, ∃ hi, round g noTabs n b fr cs hi c = true) : TabsOk P body fn.ntmps B (bodyPost P fn (Says B)) (tab1 p cs) := by
  intro q cs' hq b' fr' hl'
  unfold tab1 at hq
  split at hq
  · rename_i he
    have he := numsEq_eq he
    subst he
    simp only [Option.some.injEq] at hq
    subst hq
    rw [hl] at hl'
    simp only [Option.some.injEq, Prod.mk.injEq] at hl'
    obtain ⟨rfl, rfl⟩ := hl'
    exact loop_ok hg hd hres noTabs_ok hl h
  · simp at hq

/-- a place that is come to in one of some states; what stands there, run from each -/
theorem tabCut_ok [Glob] {g : Cfg} {chk : Nat → List Oper → Bool} (hg : CfgOk P g chk) {fn : Func} {body : Code} (hres : g.res = fn.results.toList) (hd : dstOk chk fn.ntmps body = true) {B : Base} {p : List Nat} {cs : List CS} {n : Nat} {b : Code} {fr : List Fr}
    {tabs : Tabs} (ht : TabsOk P body fn.ntmps B (bodyPost P fn (Says B)) tabs) (hl : locate body p = some (b, fr)) (h : ∀ c ∈ cs, go g tabs n p b fr c.st = true) : TabsOk P body fn.ntmps B (bodyPost P fn (Says B)) (tab1 p cs) := by
  intro q cs' hq b' fr' hl' c hc E a w t hN hdf
  unfold tab1 at hq
  split at hq
  · rename_i he
    have he := numsEq_eq he
    subst he
    simp only [Option.some.injEq] at hq
    subst hq
    rw [hl] at hl'
    simp only [Option.some.injEq, Prod.mk.injEq] at hl'
    obtain ⟨rfl, rfl⟩ := hl'
    exact (go_ok hg hd hres ht n).1 p b fr c.st E a w hl (h c hc) t hN hdf
  · simp at hq

def bodyOf (fn : Func) : Code := match fn.body with
  | some c => c
  | none => .skip
def loopB (c : Code) (p : List Nat) : Code := match locate c p with
  | some (.loop b, _) => b
  | _ => .skip
def loopF (c : Code) (p : List Nat) : List Fr := match locate c p with
  | some (_, fr) => fr
  | _ => []
def isLoop (c : Code) (p : List Nat) : Bool := match locate c p with
  | some (.loop _, _) => true
  | _ => false

theorem isLoop_ok {c : Code} {p : List Nat} (h : isLoop c p = true) : locate c p = some (.loop (loopB c p), loopF c p) := by
  unfold isLoop at h
  unfold loopB loopF
  split at h
  · rename_i b fr hb
    rw [hb]
  · simp at h

def codeAt (c : Code) (p : List Nat) : Code := match locate c p with
  | some (b, _) => b
  | _ => .skip
def isPlace (c : Code) (p : List Nat) : Bool := match locate c p with
  | some _ => true
  | none => false
theorem isPlace_ok {c : Code} {p : List Nat} (h : isPlace c p = true) : locate c p = some (codeAt c p, loopF c p) := by
  unfold isPlace at h
  unfold codeAt loopF
  split at h
  · rename_i x hx
    rw [hx]
  · simp at h

/-- what stands at a place, run from a state -/
def restAt (g : Cfg) (c : Code) (p : List Nat) (s : CS) : Bool := go g noTabs 1000 p (codeAt c p) (loopF c p) s.st

/-- a call of a law, cut at one place -/
theorem law_cut [Glob] {g : Cfg} {chk : Nat → List Oper → Bool} (hg : CfgOk P g chk) {f : FuncId} {fn : Func} (hf : P.funcs[f]? = some fn) (hb : fn.body.isSome = true) (hres : g.res = fn.results.toList) (hd : ∀ c, fn.body = some c → dstOk chk fn.ntmps c = true)
    {p : List Nat} (hl : isPlace (bodyOf fn) p = true) {cs : List CS} (hr : ∀ c ∈ cs, restAt g (bodyOf fn) p c = true)
    {ρ : Nat → Int} {ro : Nat → Prop} {w : World} (hro : ∀ b, ro b → b < w.heap.size) (hgl : Glob.ok ro w.heap) {args : List AV} {vals : List Value} (hv : VRs (En.zero ρ ro) w.heap args vals) {pc : List (SB × Bool)} (hp : PcOk ρ pc)
    (h : go g (tab1 p cs) 1000 [] (bodyOf fn) [] ⟨initSlots args 0 .nil, Hp.zero, pc⟩ = true) :
    Calls P f vals.toArray w fun e w' => e = .returned (.bool true) ∧ Below w.heap.size w w' := by
  obtain ⟨body, hbody⟩ := Option.isSome_iff_exists.1 hb
  have e : bodyOf fn = body := by unfold bodyOf; rw [hbody]
  rw [e] at hl hr h
  exact law_calls hg hf hbody hres (hd body hbody) hro hgl hv hp (tabCut_ok hg hres (hd body hbody) noTabs_ok (isPlace_ok hl) hr) h

/-- all rounds of a table -/
def roundAt (g : Cfg) (c : Code) (p : List Nat) (cs : List CS) (h : Hint) (s : CS) : Bool := round g noTabs 1000 (loopB c p) (loopF c p) cs h s

/-- a call of a law with one loop -/
theorem law_one [Glob] {g : Cfg} {chk : Nat → List Oper → Bool} (hg : CfgOk P g chk) {f : FuncId} {fn : Func} (hf : P.funcs[f]? = some fn) (hb : fn.body.isSome = true) (hres : g.res = fn.results.toList) (hd : ∀ c, fn.body = some c → dstOk chk fn.ntmps c = true)
    {p : List Nat} (hl : isLoop (bodyOf fn) p = true) {cs : List CS} (hr : ∀ c ∈ cs, ∃ h, roundAt g (bodyOf fn) p cs h c = true)
    {ρ : Nat → Int} {ro : Nat → Prop} {w : World} (hro : ∀ b, ro b → b < w.heap.size) (hgl : Glob.ok ro w.heap) {args : List AV} {vals : List Value} (hv : VRs (En.zero ρ ro) w.heap args vals) {pc : List (SB × Bool)} (hp : PcOk ρ pc)
    (h : go g (tab1 p cs) 1000 [] (bodyOf fn) [] ⟨initSlots args 0 .nil, Hp.zero, pc⟩ = true) :
    Calls P f vals.toArray w fun e w' => e = .returned (.bool true) ∧ Below w.heap.size w w' := by
  obtain ⟨body, hbody⟩ := Option.isSome_iff_exists.1 hb
  have e : bodyOf fn = body := by unfold bodyOf; rw [hbody]
  rw [e] at hl hr h
  exact law_calls hg hf hbody hres (hd body hbody) hro hgl hv hp (tab1_ok hg hres (hd body hbody) (isLoop_ok hl) hr) h

/-! ### a prover that knows of sums within bounds -/
def sumIn (pc : List (SB × Bool)) (m : Int) (a b : SE) : Bool :=
  (match bounds a pc with
    | (some la, some ha) => decide (0 ≤ la) && decide (ha ≤ m) && decide (m ≤ 4611686018427387904)
    | _ => false) &&
  (match lookPc (.lt b (.wrap .i64 (.sub (.lit 0) a))) pc with | some v => !v | none => false) &&
  (match lookPc (.lt (.wrap .i64 (.sub (.lit m) a)) b) pc with | some v => !v | none => false)

def pvG (pc : List (SB × Bool)) (c : SB) (v : Bool) : Bool := prv pc c v || (match c, v with
  | .lt (.wrap .i64 (.add a b)) (.lit 0), false => sumIn pc 1099511627776 a b
  | .lt (.lit 1099511627776) (.wrap .i64 (.add a b)), false => sumIn pc 1099511627776 a b
  | _, _ => false)

theorem sumIn_ok {ρ : Nat → Int} {pc : List (SB × Bool)} (hp : PcOk ρ pc) {m : Int} {a b : SE} (h : sumIn pc m a b = true) : 0 ≤ IntKind.i64.wrap (a.den ρ + b.den ρ) ∧ IntKind.i64.wrap (a.den ρ + b.den ρ) ≤ m := by
  unfold sumIn at h
  simp only [Bool.and_eq_true] at h
  obtain ⟨⟨h1, h2⟩, h3⟩ := h
  have hw := within_ok (e := a) hp
  split at h1
  · rename_i la ha e
    rw [e] at hw
    have w1 := hw.1 la rfl
    have w2 := hw.2 ha rfl
    simp only [Bool.and_eq_true, decide_eq_true_eq] at h1
    split at h2
    · rename_i v2 e2
      split at h3
      · rename_i v3 e3
        simp only [Bool.not_eq_true'] at h2 h3
        subst h2 h3
        have f2 := lt_fact (lookPc_ok hp e2)
        have f3 := lt_fact (lookPc_ok hp e3)
        simp only [SE.den, Bool.false_eq_true, iff_false, Int.not_lt] at f2 f3
        rw [← fwrap_eq] at f2 f3 ⊢
        simp only [fwrap] at f2 f3 ⊢
        rw [if_pos (by omega)] at f2 f3
        rw [if_pos (by omega)]
        omega
      · simp at h3
    · simp at h2
  · simp at h1

theorem pvG_ok : PvOk pvG := by
  intro ρ pc c v hp h
  unfold pvG at h
  simp only [Bool.or_eq_true] at h
  rcases h with h | h
  · exact prv_ok ρ pc c v hp h
  · split at h
    · have := sumIn_ok hp h
      simp only [SB.den, decide_eq_false_iff_not, Int.not_lt]
      exact this.1
    · have := sumIn_ok hp h
      simp only [SB.den, decide_eq_false_iff_not, Int.not_lt]
      exact this.2
    · simp at h

/-! ### a place out of few -/
def pickI (x n : Int) : Int := if x.tmod n < 0 then x.tmod n + n else x.tmod n

def pickE (e : SE) (n : Int) : SE := .rem (.add (.rem e (.lit n)) (.lit n)) (.lit n)

theorem pickE_den (ρ : Nat → Int) (e : SE) {n : Int} (hn : 1 ≤ n) : (pickE e n).den ρ = pickI (e.den ρ) n := by
  have h1 := Int.tmod_lt_of_pos (e.den ρ) (b := n) (by omega)
  have h2 : -n < (e.den ρ).tmod n := by
    have h1 := Int.tmod_lt_of_pos (-(e.den ρ)) (b := n) (by omega)
    rw [Int.neg_tmod] at h1
    omega
  simp only [pickE, SE.den, pickI]
  split
  · rw [Int.tmod_eq_of_lt (by omega) (by omega)]
  · rw [Int.tmod_eq_emod_of_nonneg (by omega), Int.add_emod_right, Int.emod_eq_of_lt (by omega) (by omega)]

theorem pickI_range (x : Int) {n : Int} (hn : 1 ≤ n) : 0 ≤ pickI x n ∧ pickI x n < n := by
  have h1 := Int.tmod_lt_of_pos x (b := n) (by omega)
  have h2 : -n < x.tmod n := by
    have h1 := Int.tmod_lt_of_pos (-x) (b := n) (by omega)
    rw [Int.neg_tmod] at h1
    omega
  unfold pickI
  split <;> omega

/-- what the tests tell to be equal to a number -/
def findEq (e : SE) : List (SB × Bool) → Option SE
  | [] => none
  | (c, v) :: l => match v with
    | false => findEq e l
    | true => match c with
      | .eq x y => match seEq x e with
        | true => some y
        | false => findEq e l
      | _ => findEq e l

theorem findEq_ok {ρ : Nat → Int} {e y : SE} : ∀ {pc : List (SB × Bool)}, PcOk ρ pc → findEq e pc = some y → y.den ρ = e.den ρ
  | [], _, h => by simp [findEq] at h
  | (c, v) :: l, hp, h => by
    have ih := fun h => findEq_ok (e := e) (y := y) (pc := l) (fun c b hm => hp c b (by simp [hm])) h
    have hc := hp c v (by simp)
    simp only [findEq] at h
    split at h
    · exact ih h
    · split at h
      · split at h
        · rename_i he
          have he := seEq_eq _ _ he
          simp only [Option.some.injEq] at h
          subst he h
          have := (eq_fact hc).2 rfl
          exact this.symm
        · exact ih h
      · exact ih h

/-- Pick: a number of few; where `sym` says so, it stays a number that is not known -/
def hookPick (sym : SE → Int → Bool) : List AV → St → T (AV × St) := fun args s => match args with
  | [.int .i64 e, .int .i64 (.lit n)] => if 1 ≤ n ∧ n ≤ 16 then
      match sym e n with
      | true => match findEq (pickE e n) s.pc with
        | some y => .ret (.int .i64 y, s)
        | none => .ret (.int .i64 (pickE e n), s)
      | false => enumT .i64 (pickE e n) (n.toNat - 1) 0 s
    else .fail
  | _ => .fail

theorem pick_ok [Glob] {g : FuncId} (hg : ∀ (x n : Int) (w : World), 1 ≤ n → n ≤ 16 → Calls P g #[.int .i64 x, .int .i64 n] w fun e w' => e = .returned (.int .i64 (pickI x n)) ∧ w' = w)
    (hrun : ∀ (args : Array Value) (w : World), (callFunc g args).run P w = .ok (.enter g args) w) (sym : SE → Int → Bool) : FnOk P g (hookPick sym) := by
  intro as s E w vals u s' r hv hp hl
  unfold hookPick at hl
  split at hl
  · rename_i e n
    split at hl
    · rename_i hn
      simp only [VRs, VR] at hv
      obtain ⟨u1, r1, rfl, rfl, u2, r2, rfl, rfl, rfl⟩ := hv
      have hcall := hg (e.den E.ρ) n w hn.1 hn.2
      have hrg := pickI_range (e.den E.ρ) hn.1
      rw [← pickE_den E.ρ e hn.1] at hrg hcall
      have fin : s'.slots = s.slots → s'.h = s.h → PcOk E.ρ s'.pc → VR E w.heap u (.int .i64 ((pickE e n).den E.ρ)) → s'.slots = s.slots ∧ PcOk E.ρ s'.pc ∧ CallW P g [Value.int .i64 (e.den E.ρ), Value.int .i64 ((SE.lit n).den E.ρ)].toArray w (After E s w u s') := by
        intro h1 h2 h3 h4
        refine ⟨h1, h3, ?_⟩
        unfold CallW NextW
        rw [hrun]
        refine Calls.mono hcall fun e' w' ⟨he, hw⟩ => ?_
        subst hw
        exact ⟨_, he, E, by rw [h2]; exact Stp.refl _ _ _, by rw [h2]; exact r, h4⟩
      split at hl
      · split at hl
        · rename_i y hy
          have := leaf_ret hl
          simp only [Prod.mk.injEq] at this
          obtain ⟨rfl, rfl⟩ := this
          exact fin rfl rfl hp (by simp only [VR, findEq_ok hp hy])
        · have := leaf_ret hl
          simp only [Prod.mk.injEq] at this
          obtain ⟨rfl, rfl⟩ := this
          exact fin rfl rfl hp (by simp only [VR])
      · obtain ⟨q1, q2, q3, q4⟩ := enumT_ok (n.toNat - 1) 0 hp hrg.1 (by omega) hl
        exact fin q1 q2 q3 (q4 _)
    · simp [T.leaf] at hl
  · simp [T.leaf] at hl

end
end
end Go.As

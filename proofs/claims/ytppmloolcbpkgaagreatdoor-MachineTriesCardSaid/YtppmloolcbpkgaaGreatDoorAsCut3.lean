import Derived.Test.YtppmloolcbpkgaaGreatDoorAsCut2
import Derived.Deep.LoopGhost
/-
  AS, part 33: a function that is called with what was handed in, its loops cut at their heads.
-/
namespace Go.As
noncomputable section
open Go.RowKit

/-! ### what stays -/
structure Base where
  w0 : World
  ro : Nat → Prop
  ρ0 : Nat → Int

structure Top [Glob] (B : Base) (E : En) (s : St) (a : Act) (w : World) : Prop where
  fit : Fit E s a w
  hi : ∀ i, 900 ≤ i → E.ρ i = B.ρ0 i
  ro : E.ro = B.ro
  below : Below B.w0.heap.size B.w0 w
  own : ∀ id o, s.h.get id = some o → B.w0.heap.size ≤ (E.θ id).1

theorem Top.then [Glob] {B : Base} {E : En} {s s' : St} {a a' : Act} {w w' : World} (t : Top B E s a w) (h : Then E s a w s' a' w') : ∃ E', Top B E' s' a' w' ∧ E'.ρ = E.ρ := by
  obtain ⟨_, _, E', st, f'⟩ := h
  refine ⟨E', ⟨f', fun i hi => by rw [st.ρ]; exact t.hi i hi, ?_, ?_, ?_⟩, st.ρ⟩
  · rw [← t.ro]
    funext b
    exact propext ⟨st.roe b, st.ro b⟩
  · refine t.below.trans ⟨st.os, st.tape, st.output, st.size, fun k hk => ?_⟩
    exact st.keep k (Nat.lt_of_lt_of_le hk t.below.size) fun id o ho he => by
      have := t.own id o ho
      omega
  · intro id o ho
    rcases Nat.lt_or_ge (E'.θ id).1 w.heap.size with h | h
    · obtain ⟨id0, o0, h0, he⟩ := st.own id o ho h
      rw [← he]
      exact t.own id0 o0 h0
    · exact Nat.le_trans t.below.size h

theorem Top.fits [Glob] {pv : List (SB × Bool) → SB → Bool → Bool} (hpv : PvOk pv) {B : Base} {E : En} {c : CS} {s : St} {r : Ren} {a : Act} {w : World} (t : Top B E s a w) (h : c.fits pv s r = true) : r.ns.length ≤ 900 ∧ Top B (E.ren r) c.st a w := by
  obtain ⟨hl, f, ho⟩ := fits_fit hpv t.fit h
  refine ⟨hl, f, fun i hi => ?_, t.ro, t.below, fun id o hid => ?_⟩
  · show r.env E.ρ i = _
    rw [Ren.env_high hl hi]
    exact t.hi i hi
  · obtain ⟨o', h'⟩ := ho id o hid
    exact t.own _ _ h'

/-! ### the places of a body -/
inductive Fr where
  | seq (p : List Nat) (c : Code)
  | block (id : Nat)

def locate (body : Code) : List Nat → Option (Code × List Fr)
  | [] => some (body, [])
  | d :: p => match locate body p with
    | some (.seq a b, fr) => match d with
      | 0 => some (a, .seq (1 :: p) b :: fr)
      | _ => some (b, fr)
    | some (.block id b, fr) => some (b, .block id :: fr)
    | _ => none

def FrOk (body : Code) : List Fr → Prop
  | [] => True
  | .seq p c :: fr => locate body p = some (c, fr) ∧ FrOk body fr
  | .block _ :: fr => FrOk body fr

/-- what is left to do -/
def KF (P : Program) (Q : Exit → Act → World → Prop) : List Fr → Exit → Act → World → Prop
  | [] => Q
  | .seq _ c :: fr => Exit.then (fun a w => c.wp P (KF P Q fr) a w) (KF P Q fr)
  | .block id :: fr => Exit.inBlock id (KF P Q fr)

/-! ### the run -/
def leafAll {α : Type} : T α → (α → Bool) → Bool
  | .fail, _ => false
  | .ret a, f => f a
  | .split _ x y, f => leafAll x f && leafAll y f

theorem leafAll_leaf {α : Type} {f : α → Bool} (ρ : Nat → Int) : ∀ {x : T α}, leafAll x f = true → ∃ a, x.leaf ρ = some a ∧ f a = true
  | .fail, h => by simp [leafAll] at h
  | .ret a, h => ⟨a, rfl, h⟩
  | .split c x y, h => by
    simp only [leafAll, Bool.and_eq_true] at h
    simp only [T.leaf]
    split
    · exact leafAll_leaf ρ h.1
    · exact leafAll_leaf ρ h.2

structure Cfg where
  tt : TT
  call : Calls?
  draw : Nat → List Oper → St → T St
  lf : Nat
  pv : List (SB × Bool) → SB → Bool → Bool
  /-- the function's answer -/
  res : List ResultVar

def Cfg.ev (g : Cfg) (c : Code) (s : St) : T (Ex × St) := evCode g.tt g.call g.draw g.lf c s

def isTrue : Option (List AV) → Bool
  | some [.bool (.lit b)] => b
  | _ => false

def endsTrue (g : Cfg) (e : Ex) (s : St) : Bool := match e with
  | .exit _ => false
  | _ => isTrue (evResults g.tt s g.res)

/-- a quick look: numbers that are known, lengths -/
def quickV : AV → AV → Bool
  | .int _ (.lit a), .int _ (.lit b) => a == b
  | .int _ (.lit _), .int _ _ => false
  | .slice _ _ n _, .slice _ _ m _ => Nat.beq n m
  | .slice _ _ _ _, _ => false
  | .nils, .nils => true
  | .nils, _ => false
  | _, _ => true
def quick (s : Tr AV) : List (Nat × AV) → Bool
  | [] => true
  | (t, v) :: l => match s.get t with
    | some v' => match quickV v v' with
      | true => quick s l
      | false => false
    | none => false

def anyFits (pv : List (SB × Bool) → SB → Bool → Bool) (s : St) : List CS → Bool
  | [] => false
  | c :: cs => match quick s.slots c.slots with
    | false => anyFits pv s cs
    | true => match c.fits pv s (c.guess s) with
      | true => true
      | false => anyFits pv s cs

abbrev Tabs := List Nat → Option (List CS)

mutual
def go (g : Cfg) (tabs : Tabs) : Nat → List Nat → Code → List Fr → St → Bool
  | 0, _, _, _, _ => false
  | n + 1, p, c, fr, s => match tabs p with
    | some cs => anyFits g.pv s cs
    | none => match c with
      | .seq a b => go g tabs n (0 :: p) a (.seq (1 :: p) b :: fr) s
      | .block id b => go g tabs n (0 :: p) b (.block id :: fr) s
      | c => leafAll (g.ev c s) fun (e, s') => cont g tabs n fr e s'
def cont (g : Cfg) (tabs : Tabs) : Nat → List Fr → Ex → St → Bool
  | 0, _, _, _ => false
  | n + 1, fr, e, s => match fr with
    | [] => endsTrue g e s
    | .seq p c :: fr => match e with
      | .normal => go g tabs n p c fr s
      | e => cont g tabs n fr e s
    | .block id :: fr => match e with
      | .exit j => match Nat.beq j id with
        | true => cont g tabs n fr .normal s
        | false => cont g tabs n fr (.exit j) s
      | e => cont g tabs n fr e s
end

/-- the number that falls -/
def falls (pc : List (SB × Bool)) (m m' : SE) (r : Ren) : Bool := match m, m' with
  | .lit a, .lit b => decide (0 ≤ b) && decide (b < a)
  | .sub (.lit n) (.atm i), .sub (.lit n') (.atm j) => decide (n = n') && decide (n < 1000000) && Nat.beq i j &&
      seEq (r.se (.atm j)) (.wrap .i64 (.add (.atm i) (.lit 1))) && (match decideB pc (.lt (.atm i) (.lit n)) with | some b => b | none => false) && (match decideB pc (.lt (.atm i) (.lit 0)) with | some b => !b | none => false)
  | _, _ => false

def anyFalls (pv : List (SB × Bool) → SB → Bool → Bool) (s : St) (m : SE) : List CS → Bool
  | [] => false
  | c :: cs => match quick s.slots c.slots with
    | false => anyFalls pv s m cs
    | true => match c.fits pv s (c.guess s) with
      | true => falls s.pc m c.m (c.guess s)
      | false => anyFalls pv s m cs

/-- more numbers, each another one, than there are: it cannot be -/
def apart (pc : List (SB × Bool)) (x : SE) : List SE → Bool
  | [] => true
  | y :: l => match decEq pc x y with
    | some false => apart pc x l
    | _ => false
def allApart (pc : List (SB × Bool)) : List SE → Bool
  | [] => true
  | x :: l => apart pc x l && allApart pc l
def allIn (pc : List (SB × Bool)) (n : Int) : List SE → Bool
  | [] => true
  | x :: l => (match bounds x pc with | (some lo, some hi) => decide (0 ≤ lo) && decide (hi < n) | _ => false) && allIn pc n l

structure Hint where
  /-- tests made ahead; whether one that holds ends them -/
  ts : List (SB × Bool) := []
  /-- numbers below n -/
  xs : List SE := []
  n : Nat := 0

def absurdPc (h : Hint) (pc : List (SB × Bool)) : Bool := match Nat.blt h.n h.xs.length with
  | true => allIn pc (Int.ofNat h.n) h.xs && allApart pc h.xs
  | false => false

def splitB (k : St → Bool) : List (SB × Bool) → St → Bool
  | [], s => k s
  | (c, st) :: cs, s => match decideB s.pc c with
    | some b => match b && st with
      | true => k s
      | false => splitB k cs s
    | none => (match st with
        | true => k { s with pc := (c, true) :: s.pc }
        | false => splitB k cs { s with pc := (c, true) :: s.pc }) && splitB k cs { s with pc := (c, false) :: s.pc }

/-- a round of a loop from one state of its table -/
def round (g : Cfg) (tabs : Tabs) (n : Nat) (b : Code) (fr : List Fr) (cs : List CS) (h : Hint) (c : CS) : Bool :=
  splitB (fun s => absurdPc h s.pc || leafAll (g.ev b s) fun (e, s') => match e with
    | .normal => anyFalls g.pv s' c.m cs
    | e => cont g tabs n fr e s') h.ts c.st

/-! ### soundness -/
section
variable {P : Program} {g : Cfg} {chk : Nat → List Oper → Bool} {N : Nat} {body : Code} {B : Base} {Q : Exit → Act → World → Prop}

structure CfgOk [Glob] (P : Program) (g : Cfg) (chk : Nat → List Oper → Bool) : Prop where
  tt : TTok P g.tt
  call : CallOk P g.call
  draw : DrawOk P chk g.draw
  pv : PvOk g.pv

theorem dst_locate (h : dstOk chk N body = true) : ∀ (p : List Nat) {c : Code} {fr : List Fr}, locate body p = some (c, fr) → dstOk chk N c = true
  | [], c, fr, hl => by
    simp only [locate, Option.some.injEq, Prod.mk.injEq] at hl
    rw [← hl.1]; exact h
  | d :: p, c, fr, hl => by
    simp only [locate] at hl
    split at hl
    · rename_i a b fr' hp
      have := dst_locate h p hp
      simp only [dstOk, Bool.and_eq_true] at this
      split at hl
      · simp only [Option.some.injEq, Prod.mk.injEq] at hl; rw [← hl.1]; exact this.1
      · simp only [Option.some.injEq, Prod.mk.injEq] at hl; rw [← hl.1]; exact this.2
    · rename_i id b fr' hp
      have := dst_locate h p hp
      simp only [dstOk] at this
      simp only [Option.some.injEq, Prod.mk.injEq] at hl; rw [← hl.1]; exact this
    · simp at hl

/-- a piece of code, run -/
theorem ev_wp [Glob] (hg : CfgOk P g chk) {c : Code} (hd : dstOk chk N c = true) {E : En} {s : St} {a : Act} {w : World} (t : Top B E s a w) (hN : N ≤ a.tmps.size) {f : Ex × St → Bool} (h : leafAll (g.ev c s) f = true) :
    ∃ e s', f (e, s') = true ∧ c.wp P (fun x a' w' => x = toExit e ∧ a'.tmps.size = a.tmps.size ∧ a'.defers = a.defers ∧ ∃ E', Top B E' s' a' w' ∧ E'.ρ = E.ρ) a w := by
  obtain ⟨⟨e, s'⟩, h1, h2⟩ := leafAll_leaf E.ρ h
  refine ⟨e, s', h2, wp_mono (evCode_ok hg.tt hg.call hg.draw c hd E s s' e a w hN t.fit h1) fun x a' w' ⟨hx, ht⟩ => ?_⟩
  exact ⟨hx, ht.size, ht.defers, t.then ht⟩

theorem anyFits_ok [Glob] (hpv : PvOk g.pv) {cs : List CS} {E : En} {s : St} {a : Act} {w : World} (t : Top B E s a w) (h : anyFits g.pv s cs = true) : ∃ c ∈ cs, ∃ E', Top B E' c.st a w := by
  induction cs with
  | nil => simp [anyFits] at h
  | cons c cs ih =>
    simp only [anyFits] at h
    split at h
    · obtain ⟨c', h1, h2⟩ := ih h
      exact ⟨c', by simp [h1], h2⟩
    · split at h
      · rename_i hf
        exact ⟨c, by simp, _, (t.fits hpv hf).2⟩
      · obtain ⟨c', h1, h2⟩ := ih h
        exact ⟨c', by simp [h1], h2⟩

theorem falls_ok {pc : List (SB × Bool)} {m m' : SE} {r : Ren} (hl : r.ns.length ≤ 900) {ρ : Nat → Int} (hp : PcOk ρ pc) (h : falls pc m m' r = true) (hm : ∀ i n, m = .sub (.lit n) (.atm i) → m.den ρ = n - ρ i) :
    (m'.den (r.env ρ)).toNat < (m.den ρ).toNat := by
  unfold falls at h
  split at h
  · simp only [Bool.and_eq_true, decide_eq_true_eq] at h
    simp only [SE.den]
    omega
  · simp only [Bool.and_eq_true, decide_eq_true_eq] at h
    obtain ⟨⟨⟨⟨⟨rfl, h2⟩, h3⟩, h4⟩, h5⟩, h6⟩ := h
    rename_i n i j
    have h3 := Nat.eq_of_beq_eq_true h3
    subst h3
    have h4 := congrArg (SE.den ρ) (seEq_eq _ _ h4)
    rw [Ren.se_den hl] at h4
    simp only [SE.den] at h4 ⊢
    split at h5
    · rename_i b hb
      subst h5
      have hb := decideB_ok hp hb
      split at h6
      · rename_i b' hb'
        have hb' := decideB_ok hp hb'
        simp only [Bool.not_eq_true'] at h6
        subst h6
        simp only [SB.den, decide_eq_true_eq, decide_eq_false_iff_not, Int.not_lt] at hb hb'
        simp only [SE.den] at hb hb'
        rw [h4, ← fwrap_eq]
        simp only [fwrap]
        rw [if_pos (by omega)]
        omega
      · simp at h6
    · simp at h5
  · simp at h

theorem anyFalls_ok [Glob] (hpv : PvOk g.pv) {cs : List CS} {m : SE} {E : En} {s : St} {a : Act} {w : World} (t : Top B E s a w) (h : anyFalls g.pv s m cs = true) :
    ∃ c ∈ cs, ∃ E', Top B E' c.st a w ∧ (c.m.den E'.ρ).toNat < (m.den E.ρ).toNat := by
  induction cs with
  | nil => simp [anyFalls] at h
  | cons c cs ih =>
    simp only [anyFalls] at h
    split at h
    · obtain ⟨c', h1, h2⟩ := ih h
      exact ⟨c', by simp [h1], h2⟩
    · split at h
      · rename_i hf
        obtain ⟨hl, ht⟩ := t.fits hpv hf
        exact ⟨c, by simp, _, ht, falls_ok hl t.fit.pc h (fun i n e => by rw [e]; rfl)⟩
      · obtain ⟨c', h1, h2⟩ := ih h
        exact ⟨c', by simp [h1], h2⟩

theorem splitB_ok {k : St → Bool} {ρ : Nat → Int} : ∀ {cs : List (SB × Bool)} {s : St}, PcOk ρ s.pc → splitB k cs s = true → ∃ pc', PcOk ρ pc' ∧ k { s with pc := pc' } = true
  | [], s, hp, h => ⟨s.pc, hp, h⟩
  | (c, st) :: cs, s, hp, h => by
    simp only [splitB] at h
    split at h
    · split at h
      · exact ⟨s.pc, hp, h⟩
      · exact splitB_ok hp h
    · simp only [Bool.and_eq_true] at h
      cases hc : c.den ρ with
      | true =>
        have h := h.1
        split at h
        · exact ⟨_, pc_cons hp hc, h⟩
        · obtain ⟨pc', hp', h'⟩ := splitB_ok (s := { s with pc := (c, true) :: s.pc }) (pc_cons hp hc) h
          exact ⟨pc', hp', h'⟩
      | false =>
        obtain ⟨pc', hp', h'⟩ := splitB_ok (s := { s with pc := (c, false) :: s.pc }) (pc_cons hp hc) h.2
        exact ⟨pc', hp', h'⟩

theorem pigeon : ∀ (n : Nat) (l : List Int), (∀ x ∈ l, 0 ≤ x ∧ x < (n : Int)) → l.Nodup → l.length ≤ n
  | 0, l, h, _ => by
    cases l with
    | nil => simp
    | cons x l => have := h x (by simp); omega
  | n + 1, l, h, hd => by
    by_cases hm : (n : Int) ∈ l
    · have := pigeon n (l.erase (n : Int)) (fun x hx => by
        rw [hd.mem_erase_iff] at hx
        have := h x hx.2
        have h1 := hx.1
        omega) (hd.erase _)
      rw [List.length_erase_of_mem hm] at this
      omega
    · have := pigeon n l (fun x hx => by
        have h1 := h x hx
        have : x ≠ (n : Int) := fun e => hm (e ▸ hx)
        omega) hd
      omega

theorem absurdPc_ok {h : Hint} {ρ : Nat → Int} {pc : List (SB × Bool)} (hp : PcOk ρ pc) (ha : absurdPc h pc = true) : False := by
  unfold absurdPc at ha
  split at ha
  · rename_i hlt
    have hlt := blt_lt hlt
    simp only [Bool.and_eq_true] at ha
    obtain ⟨h1, h2⟩ := ha
    have hin : ∀ (l : List SE), allIn pc (Int.ofNat h.n) l = true → ∀ x ∈ l.map (SE.den ρ), 0 ≤ x ∧ x < (h.n : Int) := by
      intro l
      induction l with
      | nil => simp
      | cons e l ih =>
        intro hl x hx
        simp only [allIn, Bool.and_eq_true] at hl
        simp only [List.map_cons, List.mem_cons] at hx
        rcases hx with rfl | hx
        · have hw := within_ok (e := e) hp
          have hl := hl.1
          split at hl
          · rename_i lo hi e1
            rw [e1] at hw
            have w1 := hw.1 lo rfl
            have w2 := hw.2 hi rfl
            simp only [Bool.and_eq_true, decide_eq_true_eq] at hl
            have : Int.ofNat h.n = (h.n : Int) := rfl
            omega
          · simp at hl
        · exact ih hl.2 x hx
    have hap : ∀ (l : List SE) (x : SE), apart pc x l = true → x.den ρ ∉ l.map (SE.den ρ) := by
      intro l x
      induction l with
      | nil => simp
      | cons e l ih =>
        intro hl
        simp only [apart] at hl
        split at hl
        · rename_i he
          have he := decEq_ok hp he
          simp only [List.map_cons, List.mem_cons, not_or]
          exact ⟨fun q => by simpa using he.1 q, ih hl⟩
        · simp at hl
    have hnd : ∀ (l : List SE), allApart pc l = true → (l.map (SE.den ρ)).Nodup := by
      intro l
      induction l with
      | nil => simp
      | cons e l ih =>
        intro hl
        simp only [allApart, Bool.and_eq_true] at hl
        rw [List.map_cons, List.nodup_cons]
        exact ⟨hap l e hl.1, ih hl.2⟩
    have := pigeon h.n (h.xs.map (SE.den ρ)) (hin _ h1) (hnd _ h2)
    simp only [List.length_map] at this
    omega
  · simp at ha

theorem Top.pc [Glob] {B : Base} {E : En} {s : St} {a : Act} {w : World} {pc : List (SB × Bool)} (t : Top B E s a w) (hp : PcOk E.ρ pc) : Top B E { s with pc := pc } a w :=
  ⟨⟨t.fit.rel, t.fit.sr, hp⟩, t.hi, t.ro, t.below, t.own⟩

theorem locate_fr : ∀ (p : List Nat) {c : Code} {fr : List Fr}, locate body p = some (c, fr) → FrOk body fr
  | [], c, fr, h => by
    simp only [locate, Option.some.injEq, Prod.mk.injEq] at h
    rw [← h.2]; trivial
  | d :: p, c, fr, h => by
    have h0 := h
    simp only [locate] at h
    split at h
    · rename_i a b fr' hp
      have ih := locate_fr p hp
      split at h
      · simp only [Option.some.injEq, Prod.mk.injEq] at h
        obtain ⟨rfl, rfl⟩ := h
        refine ⟨?_, ih⟩
        simp only [locate, hp]
      · simp only [Option.some.injEq, Prod.mk.injEq] at h
        rw [← h.2]; exact ih
    · rename_i id b fr' hp
      have ih := locate_fr p hp
      simp only [Option.some.injEq, Prod.mk.injEq] at h
      rw [← h.2]; exact ih
    · simp at h

/-- the answer 'true', and nothing changed below -/
def Says (B : Base) (e : Ending) (w : World) : Prop := e = .returned (.bool true) ∧ Below B.w0.heap.size B.w0 w

theorem ends_ok [Glob] (hg : CfgOk P g chk) {fn : Func} (hres : g.res = fn.results.toList) {e : Ex} {s : St} {E : En} {a : Act} {w : World} (t : Top B E s a w) (hd : a.defers = []) (h : endsTrue g e s = true) :
    bodyPost P fn (Says B) (toExit e) a w := by
  have key : isTrue (evResults g.tt s g.res) = true → ∃ v, (results fn a.tmps).run P w = .ok v w ∧ Says B (.returned v) w := by
    intro hi
    unfold isTrue at hi
    split at hi
    · rename_i b hr
      subst hi
      rw [hres] at hr
      obtain ⟨us, g1, g2⟩ := evResults_ok hg.tt t.fit hr
      rw [VRs_cons] at g2
      obtain ⟨u, vs, rfl, h1, h2⟩ := g2
      rw [VRs_nil] at h2
      subst h2
      simp only [VR, SB.den] at h1
      subst h1
      refine ⟨.bool true, ?_, rfl, t.below⟩
      have hm : (fn.results.mapM (resVar a)).run P w = .ok #[.bool true] w := by
        rw [Array.mapM_eq_mapM_toList]
        rw [map_eq_pure_bind]
        simp only [Sem.run_bind, g1]
        rfl
      have hr2 : results fn a.tmps = (do let vs ← fn.results.mapM (resVar a); pure (if h : vs.size = 1 then vs[0] else .tuple vs)) := rfl
      rw [hr2]
      simp only [Sem.run_bind, hm]
      rfl
    · simp at hi
  unfold endsTrue at h
  cases e with
  | exit id => simp at h
  | normal => exact ⟨hd, key h⟩
  | ret => exact ⟨hd, key h⟩

/-- a table that is sound -/
def TabsOk [Glob] (P : Program) (body : Code) (N : Nat) (B : Base) (Q : Exit → Act → World → Prop) (tabs : Tabs) : Prop :=
  ∀ p cs, tabs p = some cs → ∀ b fr, locate body p = some (b, fr) → ∀ c ∈ cs, ∀ E a w, Top B E c.st a w → N ≤ a.tmps.size → a.defers = [] → b.wp P (KF P Q fr) a w

theorem go_ok [Glob] (hg : CfgOk P g chk) (hd : dstOk chk N body = true) {fn : Func} (hres : g.res = fn.results.toList) {tabs : Tabs} (ht : TabsOk P body N B (bodyPost P fn (Says B)) tabs) : ∀ n : Nat,
    (∀ p c fr s E a w, locate body p = some (c, fr) → go g tabs n p c fr s = true → Top B E s a w → N ≤ a.tmps.size → a.defers = [] → c.wp P (KF P (bodyPost P fn (Says B)) fr) a w) ∧
    (∀ fr e s E a w, FrOk body fr → cont g tabs n fr e s = true → Top B E s a w → N ≤ a.tmps.size → a.defers = [] → KF P (bodyPost P fn (Says B)) fr (toExit e) a w)
  | 0 => ⟨fun _ _ _ _ _ _ _ _ h => by simp [go] at h, fun _ _ _ _ _ _ _ h => by simp [cont] at h⟩
  | n + 1 => by
    obtain ⟨ih1, ih2⟩ := go_ok hg hd hres ht n
    have leaf : ∀ p c fr s E a w, locate body p = some (c, fr) → leafAll (g.ev c s) (fun (e, s') => cont g tabs n fr e s') = true → Top B E s a w → N ≤ a.tmps.size → a.defers = [] → c.wp P (KF P (bodyPost P fn (Says B)) fr) a w := by
      intro p c fr s E a w hl h t hN hdf
      obtain ⟨e, s', h1, h2⟩ := ev_wp hg (dst_locate hd p hl) t hN h
      refine wp_mono h2 fun x a' w' ⟨hx, hs, hdf', E', t', _⟩ => ?_
      subst hx
      exact ih2 fr e s' E' a' w' (locate_fr p hl) h1 t' (by omega) (by rw [hdf', hdf])
    constructor
    · intro p c fr s E a w hl h t hN hdf
      simp only [go] at h
      split at h
      · rename_i cs hcs
        obtain ⟨c0, hc, E', t'⟩ := anyFits_ok hg.pv t h
        exact ht p cs hcs c fr hl c0 hc E' a w t' hN hdf
      · cases c with
        | seq x y =>
          simp only at h
          refine wp_seq ?_
          exact ih1 (0 :: p) x (.seq (1 :: p) y :: fr) s E a w (by simp only [locate, hl]) h t hN hdf
        | block id b =>
          simp only at h
          refine wp_block ?_
          exact ih1 (0 :: p) b (.block id :: fr) s E a w (by simp only [locate, hl]) h t hN hdf
        | _ => simp only at h; exact leaf p _ fr s E a w hl h t hN hdf
    · intro fr e s E a w hf h t hN hdf
      cases fr with
      | nil =>
        simp only [cont] at h
        exact ends_ok hg hres t hdf h
      | cons f fr =>
        cases f with
        | seq p c =>
          simp only [cont] at h
          obtain ⟨hl, hf'⟩ := hf
          cases e with
          | normal => exact ih1 p c fr s E a w hl h t hN hdf
          | exit id => exact ih2 fr (.exit id) s E a w hf' h t hN hdf
          | ret => exact ih2 fr .ret s E a w hf' h t hN hdf
        | block id =>
          simp only [cont] at h
          have hf' : FrOk body fr := hf
          cases e with
          | normal => exact ih2 fr .normal s E a w hf' h t hN hdf
          | ret => exact ih2 fr .ret s E a w hf' h t hN hdf
          | exit j =>
            simp only at h
            show (if j = id then _ else _)
            split at h
            · rename_i hj
              rw [if_pos (Nat.eq_of_beq_eq_true hj)]
              exact ih2 fr .normal s E a w hf' h t hN hdf
            · rename_i hj
              rw [if_neg (Nat.ne_of_beq_eq_false hj)]
              exact ih2 fr (.exit j) s E a w hf' h t hN hdf

/-- a loop whose rounds lead from states of its table to states of its table -/
theorem loop_ok [Glob] (hg : CfgOk P g chk) (hd : dstOk chk N body = true) {fn : Func} (hres : g.res = fn.results.toList) {tabs : Tabs} (ht : TabsOk P body N B (bodyPost P fn (Says B)) tabs) {n : Nat} {p : List Nat} {b : Code} {fr : List Fr} (hl : locate body p = some (.loop b, fr))
    {cs : List CS} (h : ∀ c ∈ cs, ∃ hi, round g tabs n b fr cs hi c = true) : ∀ c ∈ cs, ∀ E a w, Top B E c.st a w → N ≤ a.tmps.size → a.defers = [] → (Code.loop b).wp P (KF P (bodyPost P fn (Says B)) fr) a w := by
  intro c hc E a w t hN hdf
  have hdb : dstOk chk N b = true := by
    have := dst_locate hd p hl
    simpa [dstOk] using this
  refine wp_loop_ghost (fun k a w => ∃ c ∈ cs, ∃ E, Top B E c.st a w ∧ N ≤ a.tmps.size ∧ a.defers = [] ∧ (c.m.den E.ρ).toNat = k) (c.m.den E.ρ).toNat ⟨c, hc, E, t, hN, hdf, rfl⟩ ?_
  intro k a w ⟨c, hc, E, t, hN, hdf, hk⟩
  obtain ⟨hs, hr⟩ := h c hc
  unfold round at hr
  obtain ⟨pc', hp', hr⟩ := splitB_ok t.fit.pc hr
  have t1 := t.pc hp'
  simp only [Bool.or_eq_true] at hr
  rcases hr with hr | hr
  · exact (absurdPc_ok hp' hr).elim
  obtain ⟨⟨e, s'⟩, h3, h2⟩ := leafAll_leaf E.ρ hr
  refine wp_mono (evCode_ok hg.tt hg.call hg.draw b hdb E _ s' e a w hN t1.fit h3) fun x a' w' ⟨hx, hth⟩ => ?_
  subst hx
  obtain ⟨E', t', hρ⟩ := t1.then hth
  have hN' : N ≤ a'.tmps.size := by rw [hth.size]; exact hN
  have hdf' : a'.defers = [] := by rw [hth.defers, hdf]
  cases e with
  | normal =>
    simp only at h2
    obtain ⟨c', hc', E2, t2, hlt⟩ := anyFalls_ok hg.pv t' h2
    refine ⟨_, ?_, c', hc', E2, t2, hN', hdf', rfl⟩
    rw [hρ] at hlt
    omega
  | exit id => exact (go_ok hg hd hres ht n).2 fr (.exit id) s' E' a' w' (locate_fr p hl) h2 t' hN' hdf'
  | ret => exact (go_ok hg hd hres ht n).2 fr .ret s' E' a' w' (locate_fr p hl) h2 t' hN' hdf'

end
end
end Go.As

import Derived.Test.YtppmloolcbpkgaaGreatDoorAsCut4
/-
  AS: a prover that knows of a number that is one more.
-/
namespace Go.As
noncomputable section

def smallB (pc : List (SB × Bool)) (b : SE) : Bool := match bounds b pc with
  | (some lo, some hi) => decide (-1000000 ≤ lo) && decide (hi ≤ 1000000)
  | _ => false

def isLt (pc : List (SB × Bool)) (a b : SE) : Bool := match decLt pc a b with
  | some v => v
  | none => false

def upBy (pc : List (SB × Bool)) (b : SE) (m : Int) : List (SB × Bool) → Bool
  | [] => false
  | (c, _) :: l => (match c with
    | .lt x y => (seEq x b && isLt pc b y && (match bounds y pc with | (_, some h) => decide (h < m) | _ => false))
    | _ => false) || upBy pc b m l

def pvT (pc : List (SB × Bool)) (c : SB) (v : Bool) : Bool := prv pc c v || (match c, v with
  | .lt a (.wrap .i64 (.add b (.lit 1))), false => smallB pc b && isLt pc b a
  | .lt (.wrap .i64 (.add b (.lit 1))) (.lit m), true => smallB pc b && upBy pc b m pc
  | _, _ => false)

theorem smallB_ok {ρ : Nat → Int} {pc : List (SB × Bool)} (hp : PcOk ρ pc) {b : SE} (h : smallB pc b = true) : IntKind.i64.wrap (b.den ρ + 1) = b.den ρ + 1 := by
  unfold smallB at h
  have hw := within_ok (e := b) hp
  split at h
  · rename_i lo hi e
    rw [e] at hw
    have w1 := hw.1 lo rfl
    have w2 := hw.2 hi rfl
    simp only [Bool.and_eq_true, decide_eq_true_eq] at h
    rw [← fwrap_eq]
    simp only [fwrap]
    rw [if_pos (by omega)]
  · simp at h

theorem isLt_ok {ρ : Nat → Int} {pc : List (SB × Bool)} (hp : PcOk ρ pc) {a b : SE} (h : isLt pc a b = true) : a.den ρ < b.den ρ := by
  unfold isLt at h
  split at h
  · rename_i v hv
    subst h
    exact (decLt_ok hp hv).2 rfl
  · simp at h

theorem upBy_ok {ρ : Nat → Int} {pc : List (SB × Bool)} (hp : PcOk ρ pc) {b : SE} {m : Int} : ∀ {l : List (SB × Bool)}, upBy pc b m l = true → b.den ρ + 1 < m
  | [], h => by simp [upBy] at h
  | (c, _) :: l, h => by
    simp only [upBy, Bool.or_eq_true] at h
    rcases h with h | h
    · split at h
      · rename_i x y
        simp only [Bool.and_eq_true] at h
        obtain ⟨⟨_, h2⟩, h3⟩ := h
        have h2 := isLt_ok hp h2
        have hw := within_ok (e := y) hp
        split at h3
        · rename_i lo hh e
          rw [e] at hw
          have w2 := hw.2 hh rfl
          simp only [decide_eq_true_eq] at h3
          omega
        · simp at h3
      · simp at h
    · exact upBy_ok hp h

theorem pvT_ok : PvOk pvT := by
  intro ρ pc c v hp h
  unfold pvT at h
  simp only [Bool.or_eq_true] at h
  rcases h with h | h
  · exact prv_ok ρ pc c v hp h
  · split at h
    · rename_i a b
      simp only [Bool.and_eq_true] at h
      have h1 := smallB_ok hp h.1
      have h2 := isLt_ok hp h.2
      have h3 : (SE.wrap .i64 (.add b (.lit 1))).den ρ = b.den ρ + 1 := h1
      refine decide_eq_false ?_
      rw [h3]
      omega
    · rename_i b m
      simp only [Bool.and_eq_true] at h
      have h1 := smallB_ok hp h.1
      have h2 := upBy_ok hp h.2
      have h3 : (SE.wrap .i64 (.add b (.lit 1))).den ρ = b.den ρ + 1 := h1
      refine decide_eq_true ?_
      rw [h3]
      exact h2
    · simp at h

/-! ### a round in pieces -/
def piecesB : List (SB × Bool) → List (SB × Bool) → List (List (SB × Bool))
  | [], pc => [pc]
  | (c, st) :: cs, pc => match decideB pc c with
    | some b => match b && st with
      | true => [pc]
      | false => piecesB cs pc
    | none => (match st with
        | true => [(c, true) :: pc]
        | false => piecesB cs ((c, true) :: pc)) ++ piecesB cs ((c, false) :: pc)

theorem splitB_pieces {k : St → Bool} : ∀ {ts : List (SB × Bool)} {s : St}, (∀ pc ∈ piecesB ts s.pc, k { s with pc := pc } = true) → splitB k ts s = true
  | [], s, h => h s.pc (by simp [piecesB])
  | (c, st) :: cs, s, h => by
    simp only [piecesB] at h
    simp only [splitB]
    split
    · rename_i b hb
      rw [hb] at h
      simp only at h
      split
      · rename_i hs
        rw [hs] at h
        exact h s.pc (by simp)
      · rename_i hs
        rw [hs] at h
        exact splitB_pieces h
    · rename_i hb
      rw [hb] at h
      simp only at h
      rw [Bool.and_eq_true]
      refine ⟨?_, splitB_pieces (s := { s with pc := (c, false) :: s.pc }) fun pc hp => h pc (List.mem_append_right _ hp)⟩
      cases st with
      | true => exact h _ (List.mem_append_left _ (by simp))
      | false => exact splitB_pieces (s := { s with pc := (c, true) :: s.pc }) fun pc hp => h pc (List.mem_append_left _ hp)

def pieceAt (g : Cfg) (c : Code) (p : List Nat) (cs : List CS) (h : Hint) (s : CS) (pc : List (SB × Bool)) : Bool :=
  absurdPc h pc || leafAll (g.ev (loopB c p) { s.st with pc := pc }) fun (e, s') => match e with
    | .normal => anyFalls g.pv s' s.m cs
    | e => cont g noTabs 1000 (loopF c p) e s'

theorem roundAt_pieces {g : Cfg} {c : Code} {p : List Nat} {cs : List CS} {h : Hint} {s : CS} (hp : ∀ pc ∈ piecesB h.ts s.st.pc, pieceAt g c p cs h s pc = true) : roundAt g c p cs h s = true :=
  splitB_pieces hp

end
end Go.As

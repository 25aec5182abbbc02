import Derived.Test.YtppmloolcbpkgaaGreatDoorAsDraw8
/-
  AS, part 26b: what is reckoned of a region ahead of its runs.
-/
namespace Go.As
noncomputable section

structure DInfo where
  m : Nat
  k : Kind
  st : Nat
  rd : List Nat

structure DHint where
  is : List DInfo
  nE : Nat
  rs : List (Nat × List Nat)

def kindEq : Kind → Kind → Bool
  | .pa, .pa => true
  | .e, .e => true
  | .r, .r => true
  | _, _ => false

def numsEq : List Nat → List Nat → Bool
  | [], [] => true
  | a :: x, b :: y => Nat.beq a b && numsEq x y
  | _, _ => false

def sameIs : List Item → List DInfo → Bool
  | [], [] => true
  | x :: xs, d :: ds => Nat.beq x.m d.m && kindEq x.k d.k && Nat.beq x.st d.st && numsEq x.rd d.rd && sameIs xs ds
  | _, _ => false

def sameRs : List (Item × List Nat) → List (Nat × List Nat) → Bool
  | [], [] => true
  | (x, ks) :: xs, (i, js) :: ys => Nat.beq x.i i && numsEq ks js && sameRs xs ys
  | _, _ => false

def zipI : Nat → List Oper → List DInfo → List Item
  | i, o :: os, d :: ds => ⟨i, o, d.m, d.k, d.st, d.rd⟩ :: zipI (i + 1) os ds
  | _, _, _ => []

def rsOf (is : List Item) : List (Nat × List Nat) → List (Item × List Nat)
  | [] => []
  | (i, ks) :: r => match nth? is i with
    | some x => (x, ks) :: rsOf is r
    | none => rsOf is r

def statOf (all : List Oper) (H : DHint) : Stat := ⟨zipI 0 all H.is, H.nE, rsOf (zipI 0 all H.is) H.rs⟩

def hintOk (tt : TT) (all : List Oper) (H : DHint) : Bool := match stat tt all with
  | none => false
  | some q => sameIs q.is H.is && Nat.beq q.nE H.nE && sameRs q.rs H.rs

theorem kindEq_eq {a b : Kind} (h : kindEq a b = true) : a = b := by cases a <;> cases b <;> simp [kindEq] at h <;> rfl
theorem numsEq_eq : ∀ {a b : List Nat}, numsEq a b = true → a = b
  | [], [], _ => rfl
  | [], _ :: _, h => by simp [numsEq] at h
  | _ :: _, [], h => by simp [numsEq] at h
  | a :: x, b :: y, h => by
    simp only [numsEq, Bool.and_eq_true] at h
    rw [Nat.eq_of_beq_eq_true h.1, numsEq_eq h.2]

theorem items_zip {tt : TT} {all : List Oper} {ms : List Nat} : ∀ {os : List Oper} {i n : Nat} {ds : List DInfo}, sameIs (items tt all ms os i n) ds = true → items tt all ms os i n = zipI i os ds
  | [], i, n, ds, h => by cases ds <;> simp [items, sameIs, zipI] at *
  | o :: os, i, n, ds, h => by
    cases ds with
    | nil => simp [items, sameIs] at h
    | cons d ds =>
      simp only [items, sameIs, Bool.and_eq_true] at h
      obtain ⟨⟨⟨⟨h1, h2⟩, h3⟩, h4⟩, h5⟩ := h
      have ih := items_zip h5
      simp only [items, zipI]
      rw [ih, Nat.eq_of_beq_eq_true h1, kindEq_eq h2, Nat.eq_of_beq_eq_true h3, numsEq_eq h4]

theorem rsOf_eq {is : List Item} : ∀ {xs : List (Item × List Nat)} {ys : List (Nat × List Nat)}, (∀ p ∈ xs, nth? is p.1.i = some p.1) → sameRs xs ys = true → rsOf is ys = xs
  | [], [], _, _ => rfl
  | [], _ :: _, _, h => by simp [sameRs] at h
  | _ :: _, [], _, h => by simp [sameRs] at h
  | (x, ks) :: xs, (i, js) :: ys, hm, h => by
    simp only [sameRs, Bool.and_eq_true] at h
    have h1 := hm (x, ks) (by simp)
    simp only [rsOf]
    rw [← Nat.eq_of_beq_eq_true h.1.1, h1, ← numsEq_eq h.1.2, rsOf_eq (fun p hp => hm p (by simp [hp])) h.2]

theorem zipI_nth : ∀ {i : Nat} {os : List Oper} {ds : List DInfo} {x : Item}, x ∈ zipI i os ds → i ≤ x.i ∧ nth? (zipI i os ds) (x.i - i) = some x
  | _, [], _, _, h => by simp [zipI] at h
  | _, _ :: _, [], _, h => by simp [zipI] at h
  | i, o :: os, d :: ds, x, h => by
    simp only [zipI, List.mem_cons] at h ⊢
    rcases h with rfl | h
    · simp [nth?]
    · obtain ⟨h1, h2⟩ := zipI_nth h
      refine ⟨by omega, ?_⟩
      have : x.i - i = (x.i - (i + 1)) + 1 := by omega
      rw [this]
      exact h2

theorem hintOk_ok {tt : TT} {all : List Oper} {H : DHint} (h : hintOk tt all H = true) : stat tt all = some (statOf all H) := by
  unfold hintOk at h
  split at h
  · simp at h
  · rename_i q hq
    rw [hq]
    simp only [Bool.and_eq_true] at h
    obtain ⟨⟨h1, h2⟩, h3⟩ := h
    have hq' := hq
    unfold stat at hq'
    simp only at hq'
    split at hq'
    · simp only [Option.some.injEq] at hq'
      subst hq'
      have e1 := items_zip h1
      simp only at h2 h3
      have e3 : rsOf (zipI 0 all H.is) H.rs = _ := rsOf_eq (is := zipI 0 all H.is) (by
        intro p hp
        simp only [List.mem_map, List.mem_filter] at hp
        obtain ⟨x, ⟨hx, _⟩, rfl⟩ := hp
        rw [e1] at hx
        have := (zipI_nth hx).2
        simpa using this) h3
      unfold statOf
      rw [e3, ← Nat.eq_of_beq_eq_true h2, ← e1]
    · simp at hq'

def drawH (tt : TT) (H : Nat → Nat → Option DHint) (call : Calls?) (g id : Nat) (all : List Oper) (s : St) : T St := match H g id with
  | some h => drawQ tt call all (statOf all h) s
  | none => .fail

def chkH (tt : TT) (H : Nat → Nat → Option DHint) (g id : Nat) (all : List Oper) : Bool := match H g id with
  | some h => hintOk tt all h
  | none => true

theorem drawH_ok [Glob] {P : Program} {tt : TT} (htt : TTok P tt) (hm : P.follows .mixedOrders = true) {H : Nat → Nat → Option DHint} {call : Calls?} (hc : CallOk P call) (g : Nat) : DrawOk P (chkH tt H g) (drawH tt H call g) := by
  intro id ops hk E s s' a w Q hd fit h hq
  unfold chkH at hk
  unfold drawH at h
  split at hk
  · rename_i h0 hh
    rw [hh] at h
    have := hintOk_ok hk
    refine draw_ok htt hm hc id ops E s s' a w Q hd fit ?_ hq
    unfold draw
    rw [this]
    exact h
  · rename_i hh
    rw [hh] at h
    simp [T.leaf] at h

end
end Go.As

import Derived.Test.YtppmloolcbpkgaaGreatDoorAsDraw12
/-
  AS, part 26f: what is reckoned of a region: its order, or its two parts.
-/
namespace Go.As
noncomputable section

def remOf (n1 n : Nat) : List Nat := (List.range (n - n1)).map fun k => k + n1

def refsA : AV → List Nat
  | .ptr i _ => [i]
  | .slice i _ _ _ => [i]
  | _ => []

def idsT (S : Tr AV) : List Nat → List Nat
  | [] => []
  | t :: ts => match S.get t with
    | some v => refsA v ++ idsT S ts
    | none => idsT S ts

def idsOf (all : List Oper) (S : Tr AV) : List Nat → List Nat
  | [] => []
  | i :: is => match nth? all i with
    | some o => idsT S (opTmps o.op) ++ idsOf all S is
    | none => idsOf all S is

def seqRun (tt : TT) (call : Calls?) (all : List Oper) (pc : List (SB × Bool)) : List Nat → Tr AV → Hp → Option (Tr AV × Hp)
  | [], S, H => some (S, H)
  | i :: is, S, H => match nth? all i with
    | some o => match ev1 tt call all o ⟨S, H, pc⟩ with
      | .ret (v, s') => seqRun tt call all pc is (slotO S o.dst v) s'.h
      | _ => none
    | none => none

def drawTwo (tt : TT) (call : Calls?) (all : List Oper) (n1 : Nat) (s1 : St) : T St :=
  match s1.h.res with
  | some _ => .fail
  | none => match (⟨partM s1.h (idsOf all s1.slots (remOf n1 all.length)) .nil, s1.h.next, none⟩ : Hp) with
    | small => match seqRun tt call all s1.pc (remOf n1 all.length) s1.slots small with
      | some (S, H) => match H.res with
        | none => match Nat.beq H.next s1.h.next && allTo tt call all s1.pc S H (all.length - n1) (remOf n1 all.length) s1.slots small with
          | true => .ret ⟨S, ⟨Tr.over H.m (Tr.minus small.m s1.h.m), s1.h.next, none⟩, s1.pc⟩
          | false => .fail
        | some _ => .fail
      | none => .fail

structure QHint where
  ord : List Nat
  n1 : Nat
  h : DHint

def drawR (tt : TT) (H : Nat → Nat → Option QHint) (call : Calls?) (g id : Nat) (all : List Oper) (s : St) : T St := match H g id with
  | some p => match p.n1 with
    | 0 => match p.ord with
      | [] => drawQ tt call all (statOf all p.h) s
      | o :: os => match permOps (o :: os) all with
        | all' => drawQ tt call all' (statOf all' p.h) s
    | n1 => (drawQ tt call (all.take n1) (statOf (all.take n1) p.h) s).bind (drawTwo tt call all n1)
  | none => .fail

def chkR (tt : TT) (H : Nat → Nat → Option QHint) (g id : Nat) (all : List Oper) : Bool := match H g id with
  | some p => match p.n1 with
    | 0 => match p.ord with
      | [] => hintOk tt all p.h
      | o :: os => permOk (o :: os) all.length && hintOk tt (permOps (o :: os) all) p.h
    | n1 => splitOk n1 all && hintOk tt (all.take n1) p.h
  | none => true

section
variable {P : Program}

theorem mem_remOf {n1 n i : Nat} (h : n1 ≤ n) : i ∈ remOf n1 n ↔ n1 ≤ i ∧ i < n := by
  unfold remOf
  rw [List.mem_map]
  constructor
  · rintro ⟨k, hk, rfl⟩
    rw [List.mem_range] at hk
    omega
  · rintro ⟨h1, h2⟩
    exact ⟨i - n1, List.mem_range.2 (by omega), by omega⟩

theorem left_repl (n : Nat) : ∀ m, m ≤ n → left (fun i => (Array.replicate n false).getD i true) m = m := by
  intro m
  induction m with
  | zero => intro _; rfl
  | succ m ih =>
    intro hm
    have hlt : m < n := by omega
    simp only [left]
    rw [ih (by omega)]
    simp [hlt]

theorem drawTwo_ok [Glob] {tt : TT} (htt : TTok P tt) {call : Calls?} (hc : CallOk P call) {ops : Array Oper} {n1 : Nat} (sf : SplitF n1 ops) {E : En} {s s1 s' : St} {a a1 : Act} {w w1 : World} {Q : Exit → Act → World → Prop}
    (hd : ∀ o ∈ ops.toList, ∀ d, o.dst = some d → d < a.tmps.size) (ht : Then E s a w s1 a1 w1) (h : (drawTwo tt call ops.toList n1 s1).leaf E.ρ = some s') (hq : ∀ a' w', Then E s a w s' a' w' → Q .normal a' w') :
    wpAny P .any ops Q (ops.size - n1) (firstT n1 ops.size) a1 w1 := by
  obtain ⟨d1, z1, E1, st1, f1⟩ := ht
  have hlen : ops.toList.length = ops.size := Array.length_toList
  unfold drawTwo at h
  split at h
  · simp [T.leaf] at h
  · rename_i hres
    simp only at h
    split at h
    · rename_i S H hseq
      split at h
      · rename_i hHr
        split at h
        · rename_i hall
          simp only [Bool.and_eq_true] at hall
          have hnx := Nat.eq_of_beq_eq_true hall.1
          have := leaf_ret h
          subst this
          have hsub : ∀ id o, (⟨partM s1.h (idsOf ops.toList s1.slots (remOf n1 ops.toList.length)) .nil, s1.h.next, none⟩ : Hp).get id = some o → s1.h.get id = some o :=
            fun id o hg => partM_get _ _ (fun _ _ hh => by simp [Tr.get] at hh) id o hg
          have rs := f1.rel.part hsub (Nat.le_refl _) (by simp)
          have hpc : PcOk E1.ρ s1.pc := f1.pc
          have hal := hall.2
          rw [hlen] at hal
          refine allTo_ok htt hc (ops := ops) (ρ := E1.ρ) (pc := s1.pc) hpc hHr (m := a.tmps.size) hd (ops.size - n1) (remOf n1 ops.size) s1.slots _ E1 a1 w1 (firstT n1 ops.size) hal rfl (by rw [hlen] at rs; exact rs) f1.sr z1 (by simp [firstT]) ?_ ?_ ?_
          · intro i hi
            rw [mem_remOf sf.le]
            unfold firstT
            rw [Array.getElem?_map, Array.getElem?_range, if_pos hi]
            simp only [Option.map_some, Option.some.injEq, decide_eq_true_eq]
            omega
          · intro i hi
            exact ((mem_remOf sf.le).1 hi).2
          · intro a2 w2 E2 st2 r2 sr2 z2 d2
            rw [hlen] at hsub
            obtain ⟨Hc, e0, _, _, r3, stw⟩ := frame0 f1.rel hsub st2 r2 s1.h.next (fun id hid => r2.fresh id (by omega))
            have stp := stw.strong (by rw [e0]; exact Nat.le_refl _) (by rw [e0]) (fun id hdm => by
              rcases st2.dmn id hdm with h1 | h1 | h1
              · exact .inl h1
              · have h1' : s1.h.next ≤ id ∧ id < H.next := h1
                omega
              · simp at h1)
            subst e0
            refine hq a2 w2 ⟨d2.trans d1, z2, E2, st1.trans ?_, ?_⟩
            · rw [hlen]; exact stp
            · refine ⟨by rw [hlen]; exact r3, sr2, ?_⟩
              show PcOk E2.ρ s1.pc
              rw [st2.ρ]
              exact hpc
        · simp [T.leaf] at h
      · simp [T.leaf] at h
    · simp [T.leaf] at h

theorem drawR_ok [Glob] {tt : TT} (htt : TTok P tt) (hm : P.follows .mixedOrders = true) {H : Nat → Nat → Option QHint} {call : Calls?} (hc : CallOk P call) (g : Nat) : DrawOk P (chkR tt H g) (drawR tt H call g) := by
  intro id ops hk E s s' a w Q hd fit h hq
  unfold chkR at hk
  unfold drawR at h
  split at hk
  · rename_i p hp
    rw [hp] at h
    simp only at h
    split at hk
    · rename_i hn
      rw [hn] at h
      simp only at h
      have hP := drawP_ok (P := P) htt hm (H := fun _ _ => some ⟨p.ord, p.h⟩) hc g id ops (by
        unfold chkP
        exact hk) E s s' a w Q hd fit (by
        unfold drawP
        exact h) hq
      exact hP
    · rename_i n1 hn
      split at h
      · rename_i h0
        exact absurd h0 hn
      · rename_i n1' _
        simp only [Bool.and_eq_true] at hk
        have sf := splitOk_ok hk.1
        have hst := hintOk_ok hk.2
        obtain ⟨s1, h1, h2⟩ := T.leaf_bind h
        refine wp_region_any hm ?_
        have hle := sf.le
        have hRs : (ops.toList.take p.n1).toArray.size = p.n1 := by simp; omega
        have hd1 : ∀ o ∈ (ops.toList.take p.n1).toArray.toList, ∀ d, o.dst = some d → d < a.tmps.size := by
          intro o ho
          exact hd o (List.mem_of_mem_take (by simpa using ho))
        have key := draw_any (P := P) (ops := (ops.toList.take p.n1).toArray) (Q := fun e a' w' => match e with | .normal => wpAny P .any ops Q (ops.size - p.n1) (firstT p.n1 ops.size) a' w' | e => Q e a' w') htt hc hd1 fit (s' := s1) (by
          unfold draw
          rw [List.toList_toArray, hst]
          exact h1) (fun a' w' ht => drawTwo_ok htt hc sf hd ht h2 hq)
        rw [hRs] at key
        have := wpAny_split sf (Q := Q) (fun e a w hne hh => by
          cases e with
          | normal => exact absurd rfl hne
          | _ => exact hh) (fun a w hh => hh) p.n1 (Array.replicate p.n1 false) (Array.replicate ops.size false) a _ (by simp) (by simp) (fun i hi => by
          rw [Array.getElem?_replicate, Array.getElem?_replicate, if_pos hi, if_pos (by omega)]) (fun i _ hi => by
          rw [Array.getElem?_replicate, if_pos hi]) (by
          exact left_repl p.n1 p.n1 (Nat.le_refl _)) (fun hh => by
          rw [Array.getElem?_replicate, if_pos (by have := sf.pos; omega)] at hh
          simp at hh) key
        rw [show p.n1 + (ops.size - p.n1) = ops.size by omega] at this
        exact this
  · rename_i hh
    rw [hh] at h
    simp [T.leaf] at h

end
end
end Go.As

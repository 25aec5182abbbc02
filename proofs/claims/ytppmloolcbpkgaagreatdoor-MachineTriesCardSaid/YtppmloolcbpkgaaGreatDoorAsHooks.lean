import Derived.Test.YtppmloolcbpkgaaGreatDoorAsMemo
import Derived.Lib.Bytealg
import Derived.Lib.IndexMore
/-
  AS, part 29: functions of the standard library.
-/
namespace Go.As
noncomputable section
open Go.RowKit

section
variable {P : Program}

/-- a function without a body, whose row hands back a value and changes nothing -/
theorem extern_ok {g : FuncId} {fn : Func} {e : Array Value → Sem Value} (hf : P.funcs[g]? = some fn) (hname : (fn.name == "runtime.NumGoroutine") = false) (hb : fn.body.isNone = true) (hn : Extern.findNext fn = none) (he : Extern.find fn = some e)
    {args : Array Value} {w : World} {u : Value} (hr : (e args).run P w = .ok u w) : (callFunc g args).run P w = .ok (.value u) w := by
  have hb2 : fn.body = none := by simpa using hb
  unfold callFunc
  simp [hf, hb2, by simpa using hname, hn, he, hr]

def countL (c : Nat) : List Nat → Nat
  | [] => 0
  | x :: xs => if x.beq c then countL c xs + 1 else countL c xs

def hookCount : List AV → St → T (AV × St) := fun args s => match args with
  | [.str b, .int .u8 (.lit (.ofNat c))] => if c < 256 then .ret (.int .i64 (.lit (Int.ofNat (countL c b))), s) else .fail
  | _ => .fail

theorem toU8_eq {a b : Nat} (ha : a < 256) (hb : b < 256) : (UInt8.ofNat a == UInt8.ofNat b) = a.beq b := by
  rw [Bool.eq_iff_iff]
  simp only [beq_iff_eq, Nat.beq_eq]
  constructor
  · intro h
    have := congrArg UInt8.toNat h
    simp only [UInt8.toNat_ofNat'] at this
    omega
  · intro h
    rw [h]

theorem countL_eq {c : Nat} (hc : c < 256) : ∀ {s : List Nat}, (∀ b ∈ s, b < 256) → Lib.countByte (s.map UInt8.ofNat) (UInt8.ofNat c) = countL c s
  | [], _ => rfl
  | x :: xs, h => by
    have ih := countL_eq hc (s := xs) fun b hb => h b (by simp [hb])
    unfold Lib.countByte at *
    rw [List.map_cons, List.count_cons, ih, toU8_eq (h x (by simp)) hc]
    simp only [countL]
    cases x.beq c <;> simp

theorem count_ok [Glob] {g : FuncId} {fn : Func} (hf : P.funcs[g]? = some fn) (hname : (fn.name == "runtime.NumGoroutine") = false) (hb : fn.body.isNone = true) (hn : Extern.findNext fn = none) (he : Extern.find fn = some Extern.BytealgCount.count) : FnOk P g hookCount := by
  intro as s E w vals u s' r hv hp hl
  unfold hookCount at hl
  split at hl
  · rename_i b c
    split at hl
    · rename_i hc
      have := leaf_ret hl
      simp only [Prod.mk.injEq] at this
      obtain ⟨rfl, rfl⟩ := this
      simp only [VRs, VR, SE.den] at hv
      obtain ⟨u1, r1, rfl, ⟨rfl, hbb⟩, u2, r2, rfl, rfl, rfl⟩ := hv
      refine ⟨rfl, hp, ?_⟩
      unfold CallW NextW
      rw [extern_ok hf hname hb hn he (Lib.run_countString (strB b) (Int.ofNat c) w)]
      refine ⟨E, Stp.refl _ _ _, r, ?_⟩
      simp only [VR, SE.den]
      have : (Int.ofNat c).toNat.toUInt8 = UInt8.ofNat c := rfl
      rw [this]
      have h2 : (strB b).data.toList = b.map UInt8.ofNat := by simp [strB]
      rw [h2, countL_eq hc hbb]
      rfl
    · simp [T.leaf] at hl
  · simp [T.leaf] at hl

def indexL (c : Nat) : List Nat → Int
  | [] => -1
  | x :: xs => if x.beq c then 0 else match indexL c xs with
    | .ofNat n => .ofNat (n + 1)
    | .negSucc n => .negSucc n

def hookIndex : List AV → St → T (AV × St) := fun args s => match args with
  | [.str b, .int .u8 (.lit (.ofNat c))] => if c < 256 then .ret (.int .i64 (.lit (indexL c b)), s) else .fail
  | _ => .fail

theorem indexL_eq {c : Nat} (hc : c < 256) : ∀ {s : List Nat}, (∀ b ∈ s, b < 256) → Lib.indexByte (s.map UInt8.ofNat) (UInt8.ofNat c) = indexL c s
  | [], _ => rfl
  | x :: xs, h => by
    have ih := indexL_eq hc (s := xs) fun b hb => h b (by simp [hb])
    have hge := Lib.indexByte_ge (xs.map UInt8.ofNat) (UInt8.ofNat c)
    simp only [List.map_cons, Lib.indexByte, indexL]
    rw [toU8_eq (h x (by simp)) hc]
    cases x.beq c
    · simp only [Bool.false_eq_true, if_false]
      rw [ih] at hge ⊢
      cases hi : indexL c xs with
      | ofNat n => rw [hi] at hge; simp
      | negSucc n =>
        rw [hi] at hge
        have : n = 0 := by omega
        subst this
        rfl
    · rfl

theorem index_ok [Glob] {g : FuncId} {fn : Func} (hf : P.funcs[g]? = some fn) (hname : (fn.name == "runtime.NumGoroutine") = false) (hb : fn.body.isNone = true) (hn : Extern.findNext fn = none) (he : Extern.find fn = some Extern.BytealgIndexByte.indexByte) : FnOk P g hookIndex := by
  intro as s E w vals u s' r hv hp hl
  unfold hookIndex at hl
  split at hl
  · rename_i b c
    split at hl
    · rename_i hc
      have := leaf_ret hl
      simp only [Prod.mk.injEq] at this
      obtain ⟨rfl, rfl⟩ := this
      simp only [VRs, VR, SE.den] at hv
      obtain ⟨u1, r1, rfl, ⟨rfl, hbb⟩, u2, r2, rfl, rfl, rfl⟩ := hv
      refine ⟨rfl, hp, ?_⟩
      unfold CallW NextW
      rw [extern_ok hf hname hb hn he (Lib.run_indexByteString (strB b) (Int.ofNat c) w)]
      refine ⟨E, Stp.refl _ _ _, r, ?_⟩
      simp only [VR, SE.den]
      have : (Int.ofNat c).toNat.toUInt8 = UInt8.ofNat c := rfl
      rw [this]
      have h2 : (strB b).data.toList = b.map UInt8.ofNat := by simp [strB]
      rw [h2, indexL_eq hc hbb]
    · simp [T.leaf] at hl
  · simp [T.leaf] at hl

/-! ### strings.Contains -/
def preL : List Nat → List Nat → Bool
  | [], _ => true
  | _ :: _, [] => false
  | a :: x, b :: y => if a.beq b then preL x y else false

def withinL (c : List Nat) : List Nat → Bool
  | [] => preL c []
  | b :: bs => if preL c (b :: bs) then true else withinL c bs

def hookContains : List AV → St → T (AV × St) := fun args s => match args with
  | [.str b, .str c] => if b.length < 4294967281 then .ret (.bool (.lit (withinL c b)), s) else .fail
  | _ => .fail

theorem preL_eq : ∀ {c s : List Nat}, (∀ b ∈ c, b < 256) → (∀ b ∈ s, b < 256) → (c.map UInt8.ofNat).isPrefixOf (s.map UInt8.ofNat) = preL c s
  | [], _, _, _ => by simp [preL]
  | _ :: _, [], _, _ => by simp [preL]
  | a :: x, b :: y, hc, hs => by
    have ih := preL_eq (c := x) (s := y) (fun z hz => hc z (by simp [hz])) (fun z hz => hs z (by simp [hz]))
    simp only [List.map_cons, List.isPrefixOf, preL]
    rw [toU8_eq (hc a (by simp)) (hs b (by simp)), ih]
    cases a.beq b <;> simp

theorem index_ge (sub : List UInt8) : ∀ l : List UInt8, -1 ≤ Lib.index l sub
  | [] => by unfold Lib.index; split <;> omega
  | b :: l => by
    have ih := index_ge sub l
    unfold Lib.index
    split
    · omega
    · split <;> omega

theorem withinL_eq {c : List Nat} (hc : ∀ b ∈ c, b < 256) : ∀ {s : List Nat}, (∀ b ∈ s, b < 256) → Lib.contains (s.map UInt8.ofNat) (c.map UInt8.ofNat) = withinL c s
  | [], _ => by
    cases c <;> simp [Lib.contains, Lib.index, withinL, preL]
  | b :: bs, h => by
    have ih := withinL_eq hc (s := bs) fun z hz => h z (by simp [hz])
    have hp := preL_eq hc h
    simp only [List.map_cons] at hp
    unfold Lib.contains at *
    simp only [List.map_cons, Lib.index, withinL]
    rw [hp, ← ih]
    have hge := index_ge (c.map UInt8.ofNat) (bs.map UInt8.ofNat)
    cases preL c (b :: bs)
    · simp only [Bool.false_eq_true, if_false]
      by_cases h1 : Lib.index (bs.map UInt8.ofNat) (c.map UInt8.ofNat) = -1
      · rw [h1]; rfl
      · rw [if_neg (by simpa using h1)]
        rw [decide_eq_decide]
        omega
    · simp

/-- the contract of strings.Contains as the shelf has it, read off a fact on the read-only blocks -/
theorem contains_ok [Glob] {g : FuncId} (hg : ∀ (ro : Nat → Prop) (w : World), Glob.ok ro w.heap → ∀ s sub : ByteArray, s.size < 4294967281 → Calls P g #[.string s, .string sub] w fun e w' => e = .returned (.bool (Lib.contains s.data.toList sub.data.toList)) ∧ w' = w)
    (hrun : ∀ (args : Array Value) (w : World), (callFunc g args).run P w = .ok (.enter g args) w) : FnOk P g hookContains := by
  intro as s E w vals u s' r hv hp hl
  unfold hookContains at hl
  split at hl
  · rename_i b c
    split at hl
    · rename_i hlen
      have := leaf_ret hl
      simp only [Prod.mk.injEq] at this
      obtain ⟨rfl, rfl⟩ := this
      simp only [VRs, VR] at hv
      obtain ⟨u1, r1, rfl, ⟨rfl, hbb⟩, u2, r2, rfl, ⟨rfl, hcc⟩, rfl⟩ := hv
      refine ⟨rfl, hp, ?_⟩
      unfold CallW NextW
      rw [hrun]
      refine Calls.mono (hg E.ro w r.glob (strB b) (strB c) (by simpa [strB, ByteArray.size] using hlen)) fun e w' ⟨he, hw⟩ => ?_
      subst hw
      refine ⟨_, he, E, Stp.refl _ _ _, r, ?_⟩
      simp only [VR, SB.den]
      have h2 : ∀ l : List Nat, (strB l).data.toList = l.map UInt8.ofNat := by intro l; simp [strB]
      rw [h2, h2, withinL_eq hcc hbb]
    · simp [T.leaf] at hl
  · simp [T.leaf] at hl

end
end
end Go.As

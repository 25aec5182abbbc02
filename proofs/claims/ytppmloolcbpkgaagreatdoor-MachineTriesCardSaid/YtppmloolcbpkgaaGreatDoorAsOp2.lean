import Derived.Test.YtppmloolcbpkgaaGreatDoorAsDec
/-
  AS, part 6: arithmetic, comparisons; building; addresses; slices.
-/
namespace Go.As

section
variable {P : Program} {E : En} {w : World}

theorem intOp_ok {op : BinOp} {t : Nat} {k k' : IntKind} {a b : SE} {v : AV} (hk : op = .shr ∨ k = k') (h : intOp op k a b = some v) :
    ∃ u, (binOp op t (.int k (a.den E.ρ)) (.int k' (b.den E.ρ))).run P w = .ok u w ∧ VR E w.heap v u := by
  unfold intOp at h
  cases op <;> simp only [Option.some.injEq, reduceCtorEq] at h
  case add => obtain rfl : k = k' := by simpa using hk
              subst h; exact ⟨_, by simp [binOp, Op.intArith]; rfl, by simp only [VR, seAdd_den]⟩
  case sub => obtain rfl : k = k' := by simpa using hk
              subst h; exact ⟨_, by simp [binOp, Op.intArith]; rfl, by simp only [VR, seSub_den]⟩
  case mul => obtain rfl : k = k' := by simpa using hk
              subst h; exact ⟨_, by simp [binOp, Op.intArith]; rfl, by simp only [VR, seMul_den]⟩
  case quo =>
    obtain rfl : k = k' := by simpa using hk
    split at h
    · split at h
      · simp at h
      · rename_i hy
        simp at h
        subst h
        exact ⟨_, by simp [binOp, Op.intDiv, SE.den, hy]; rfl, by simp only [VR, SE.den, fwrap_eq]⟩
    · split at h
      · simp at h
      · rename_i hy
        simp at h
        subst h
        exact ⟨_, by simp [binOp, Op.intDiv, SE.den, hy]; rfl, by simp only [VR, SE.den]⟩
    · simp at h
  case rem =>
    obtain rfl : k = k' := by simpa using hk
    split at h
    · split at h
      · simp at h
      · rename_i hy
        simp at h
        subst h
        exact ⟨_, by simp [binOp, Op.intDiv, SE.den, hy]; rfl, by simp only [VR, SE.den]⟩
    · split at h
      · simp at h
      · rename_i hy
        simp at h
        subst h
        exact ⟨_, by simp [binOp, Op.intDiv, SE.den, hy]; rfl, by simp only [VR, SE.den]⟩
    · simp at h
  case shr =>
    split at h
    · split at h
      · simp at h
      · rename_i hy
        simp at h
        subst h
        exact ⟨_, by simp [binOp, Op.shift, SE.den, hy]; rfl, by simp only [VR, SE.den]⟩
    · simp at h
  all_goals
    obtain rfl : k = k' := by simpa using hk
    subst h
    refine ⟨_, by simp [binOp, Op.intCmp]; rfl, ?_⟩
    simp only [VR, sbEq_den, sbNot_den, sbLt_den, sbLe_den]
    first | rfl | (congr 1; simp [bne]; done) | (congr 1; rw [Bool.eq_iff_iff]; simp; done) | skip

theorem eqGuard_run {op : BinOp} {t : Nat} {x y : Operand} {a b : Value} (h1 : ∀ cs ds, ¬ (a = .agg cs ∧ b = .agg ds)) (h2 : ¬ (a = .nilIface ∧ b = .nilIface)) :
    (eqGuard op t x y a b).run P w = .ok () w := by
  cases op
  case eql =>
    cases a <;> first
      | (cases b <;> first | (exact absurd ⟨rfl, rfl⟩ (h1 _ _)) | (exact absurd ⟨rfl, rfl⟩ h2) | rfl)
      | rfl
  case neq =>
    cases a <;> first
      | (cases b <;> first | (exact absurd ⟨rfl, rfl⟩ (h1 _ _)) | (exact absurd ⟨rfl, rfl⟩ h2) | rfl)
      | rfl
  all_goals rfl

theorem eqBools_den {ρ : Nat → Int} {a b c : SB} (h : eqBools a b = some c) : c.den ρ = (a.den ρ == b.den ρ) := by
  unfold eqBools at h
  split at h <;> simp only [Option.some.injEq, reduceCtorEq] at h <;> subst h
  · simp [SB.den]
  · rename Bool => q
    cases q <;> simp [SB.den, sbNot_den]
  · rename Bool => q
    cases q <;> simp [SB.den, sbNot_den]

theorem run_und {d : TypeDesc} {t : Nat} (h : P.underlying t = some d) (w : World) : (underlying t).run P w = .ok d w := run_underlying h w

theorem kinds_of {i : TI} {t : Nat} (h : TIok P t i) : ∃ d, P.underlying t = some d ∧ KOk P d i.kind := by
  obtain ⟨inf, d, z, h1, h2, h3, h4, h5, h6, h7, _⟩ := h.all
  exact ⟨d, h2, h7⟩

theorem evEq_ok {i : TI} {t : Nat} (ht : TIok P t i) {x y : AV} {u u' : Value} (hx : VR E w.heap x u) (hy : VR E w.heap y u') {c : SB} (h : evEq i.kind x y = some c) :
    (Op.equal t u u').run P w = .ok (c.den E.ρ) w ∧ (∀ cs ds, ¬ (u = .agg cs ∧ u' = .agg ds)) ∧ ¬ (u = .nilIface ∧ u' = .nilIface) ∧ (∀ k n, u ≠ .int k n) ∧ (∀ s, u ≠ .string s) ∧ (∀ k n, u ≠ .float k n) ∧ (∀ k n m, u ≠ .complex k n m) := by
  obtain ⟨d, h1, h2⟩ := kinds_of ht
  have hm : ∀ a b, Op.equal t a b = Op.equalIn (9999 + 1) t a b := fun _ _ => rfl
  rw [hm]
  clear hm
  generalize (9999 : Nat) = n
  unfold evEq at h
  split at h
  · rename_i hk
    rw [hk] at h2
    cases d <;> simp only [KOk] at h2
    split at h
    · simp only [VR] at hx hy
      subst hx hy
      refine ⟨?_, by simp, by simp, by simp, by simp, by simp, by simp⟩
      rw [eqBools_den h]
      simp [Op.equalIn, run_und h1]
    · simp at h
  · rename_i k hk
    cases hkk : i.kind <;> rw [hkk] at h h2 <;> simp only [isNil, reduceCtorEq] at h
    case pointer e =>
      cases d <;> simp only [KOk] at h2
      cases x <;> simp only [reduceCtorEq] at h <;> cases y <;> simp only [reduceCtorEq, Option.some.injEq] at h <;> subst h <;> simp only [VR] at hx hy
      all_goals
        first | (obtain ⟨b, o, us, rfl, _⟩ := hx) | (obtain ⟨rfl, _⟩ := hx) | subst hx
        first | (obtain ⟨b', o', us', rfl, _⟩ := hy) | (obtain ⟨rfl, _⟩ := hy) | subst hy
        exact ⟨by simp [Op.equalIn, run_und h1, SB.den], by simp, by simp, by simp, by simp, by simp, by simp⟩
    case slice e =>
      cases d <;> simp only [KOk] at h2
      cases x <;> simp only [reduceCtorEq] at h <;> cases y <;> simp only [reduceCtorEq, Option.some.injEq] at h <;> subst h <;> simp only [VR] at hx hy
      all_goals
        first | (obtain ⟨b, o, cap, us, rfl, _⟩ := hx) | (obtain ⟨_, b, cap, rfl, _⟩ := hx) | subst hx
        first | (obtain ⟨b', o', cap', us', rfl, _⟩ := hy) | (obtain ⟨_, b', cap', rfl, _⟩ := hy) | subst hy
        exact ⟨by simp [Op.equalIn, run_und h1, SB.den], by simp, by simp, by simp, by simp, by simp, by simp⟩
    case map k' e =>
      cases d <;> simp only [KOk] at h2
      cases x <;> simp only [reduceCtorEq] at h <;> cases y <;> simp only [reduceCtorEq, Option.some.injEq] at h <;> subst h <;> simp only [VR] at hx hy
      all_goals
        first | (obtain ⟨rfl, _⟩ := hx) | subst hx
        first | (obtain ⟨rfl, _⟩ := hy) | subst hy
        exact ⟨by simp [Op.equalIn, run_und h1, SB.den], by simp, by simp, by simp, by simp, by simp, by simp⟩

theorem binOp_eql {t : Nat} {u u' : Value} {b : Bool} (h : (Op.equal t u u').run P w = .ok b w) (h1 : ∀ k n, u ≠ .int k n) (h2 : ∀ s, u ≠ .string s) (h3 : ∀ k n, u ≠ .float k n) (h4 : ∀ k n m, u ≠ .complex k n m) :
    (binOp .eql t u u').run P w = .ok (.bool b) w ∧ (binOp .neq t u u').run P w = .ok (.bool (!b)) w := by
  cases u <;> first
    | exact absurd rfl (h1 _ _)
    | exact absurd rfl (h2 _)
    | exact absurd rfl (h3 _ _)
    | exact absurd rfl (h4 _ _ _)
    | (constructor <;> (cases u' <;> simp [binOp, h]))

theorem evBin_ok {tt : TT} (htt : TTok P tt) {t : Nat} {op : BinOp} {x y v : AV} {u u' : Value} (hx : VR E w.heap x u) (hy : VR E w.heap y u') (h : evBin tt t op x y = some v) :
    (∃ r, (binOp op t u u').run P w = .ok r w ∧ VR E w.heap v r) ∧ (∀ cs ds, ¬ (u = .agg cs ∧ u' = .agg ds)) ∧ ¬ (u = .nilIface ∧ u' = .nilIface) := by
  unfold evBin at h
  split at h
  · split at h
    · simp only [VR] at hx hy
      subst hx hy
      refine ⟨?_, by simp, by simp⟩
      split at h
      · exact intOp_ok (.inl rfl) h
      · simp at h
      · split at h
        · rename_i hk; exact intOp_ok (.inr hk) h
        · simp at h
    · simp at h
  · split at h
    · simp only [VR] at hx hy
      obtain ⟨rfl, hx⟩ := hx
      obtain ⟨rfl, hy⟩ := hy
      refine ⟨?_, by simp, by simp⟩
      obtain ⟨r, h1, h2⟩ := strOp_ok (P := P) (E := E) (w := w) hx hy h
      refine ⟨r, ?_, h2⟩
      cases op <;> first | (simp [strOp] at h; done) | (simpa [binOp] using h1)
    · simp at h
  · split at h
    · simp at h
    · rename_i i hi
      split at h
      · rename_i c hc
        simp at h
        subst h
        obtain ⟨e1, e2, e3, e4, e5, e6, e7⟩ := evEq_ok (w := w) (htt t i hi) hx hy hc
        exact ⟨⟨_, (binOp_eql e1 e4 e5 e6 e7).1, by simp only [VR]⟩, e2, e3⟩
      · rename_i c hc
        simp at h
        subst h
        obtain ⟨e1, e2, e3, e4, e5, e6, e7⟩ := evEq_ok (w := w) (htt t i hi) hx hy hc
        exact ⟨⟨_, (binOp_eql e1 e4 e5 e6 e7).2, by simp only [VR, sbNot_den]⟩, e2, e3⟩
      · simp at h

theorem evUn_ok {op : UnOp} {x v : AV} {u : Value} (hx : VR E w.heap x u) (h : evUn op x = some v) : ∃ r, (Op.unary op u).run P w = .ok r w ∧ VR E w.heap v r := by
  unfold evUn at h
  split at h
  · simp at h; subst h
    simp only [VR] at hx; subst hx
    exact ⟨_, rfl, by simp only [VR, sbNot_den]⟩
  · simp at h; subst h
    simp only [VR] at hx; subst hx
    exact ⟨_, rfl, by simp only [VR, seSub_den, SE.den]⟩
  · simp at h

end
end Go.As

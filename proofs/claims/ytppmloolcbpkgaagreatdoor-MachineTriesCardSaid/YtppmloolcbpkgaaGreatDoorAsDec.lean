import Derived.Test.YtppmloolcbpkgaaGreatDoorAsOp1
/-
  AS, part 5b: what the tests so far tell.
-/
namespace Go.As

theorem lookPc_ok {ρ : Nat → Int} {c : SB} {b : Bool} : ∀ {pc : List (SB × Bool)}, PcOk ρ pc → lookPc c pc = some b → c.den ρ = b
  | [], _, h => by simp [lookPc] at h
  | (d, x) :: l, hp, h => by
    simp only [lookPc] at h
    split at h
    · rename_i he
      have he := sbSame_eq _ _ he
      simp at h
      subst he h
      exact hp _ _ (by simp)
    · exact lookPc_ok (fun c b hm => hp c b (by simp [hm])) h

def Within (lo hi : Option Int) (x : Int) : Prop := (∀ l, lo = some l → l ≤ x) ∧ ∀ h, hi = some h → x ≤ h

theorem maxO_ok {lo : Option Int} {z x : Int} (h : ∀ l, lo = some l → l ≤ x) (hz : z ≤ x) : ∀ l, maxO lo z = some l → l ≤ x := by
  intro l hl
  unfold maxO at hl
  split at hl
  · simp at hl; omega
  · have := h _ rfl
    simp at hl
    split at hl <;> omega
theorem minO_ok {hi : Option Int} {z x : Int} (h : ∀ l, hi = some l → x ≤ l) (hz : x ≤ z) : ∀ l, minO hi z = some l → x ≤ l := by
  intro l hl
  unfold minO at hl
  split at hl
  · simp at hl; omega
  · have := h _ rfl
    simp at hl
    split at hl <;> omega

theorem offLo_ok {lo : Option Int} {z x : Int} (h : ∀ l, lo = some l → l ≤ x) (hz : x ≠ z) : ∀ l, offLo lo z = some l → l ≤ x := by
  intro l hl
  unfold offLo at hl
  split at hl
  · simp at hl
  · have := h _ rfl
    simp at hl
    split at hl <;> omega
theorem offHi_ok {hi : Option Int} {z x : Int} (h : ∀ l, hi = some l → x ≤ l) (hz : x ≠ z) : ∀ l, offHi hi z = some l → x ≤ l := by
  intro l hl
  unfold offHi at hl
  split at hl
  · simp at hl
  · have := h _ rfl
    simp at hl
    split at hl <;> omega

theorem lt_fact {ρ : Nat → Int} {x y : SE} {v : Bool} (h : (SB.lt x y).den ρ = v) : (x.den ρ < y.den ρ) ↔ v = true := by
  subst h; simp [SB.den]
theorem eq_fact {ρ : Nat → Int} {x y : SE} {v : Bool} (h : (SB.eq x y).den ρ = v) : (x.den ρ = y.den ρ) ↔ v = true := by
  subst h; simp [SB.den]

theorem baseB_ok {ρ : Nat → Int} (e : SE) : Within (baseB e).1 (baseB e).2 (e.den ρ) := by
  have h0 : Within none none (e.den ρ) := ⟨by simp, by simp⟩
  unfold baseB
  split
  · split
    · split
      · split
        · split
          · split
            · split
              · rename_i k m x n hn
                obtain ⟨hn, rfl, rfl⟩ := hn
                simp only [SE.den]
                have h1 := Int.tmod_lt_of_pos (m.den ρ) (b := n) (by omega)
                have h2 : -n < (m.den ρ).tmod n := by
                  have h1 := Int.tmod_lt_of_pos (-(m.den ρ)) (b := n) (by omega)
                  rw [Int.neg_tmod] at h1
                  omega
                have h3 := Int.tmod_nonneg n (a := (m.den ρ).tmod n + n) (by omega)
                have h4 := Int.tmod_lt_of_pos ((m.den ρ).tmod n + n) (b := n) (by omega)
                constructor <;> intro l hl <;> simp at hl <;> omega
              · exact h0
            · exact h0
          · exact h0
        · exact h0
      · exact h0
    · exact h0
  · exact h0

theorem within_ok {ρ : Nat → Int} {e : SE} : ∀ {pc : List (SB × Bool)}, PcOk ρ pc → Within (bounds e pc).1 (bounds e pc).2 (e.den ρ)
  | [], _ => baseB_ok e
  | (c, v) :: l, hp => by
    have ih := within_ok (e := e) (pc := l) (fun c b hm => hp c b (by simp [hm]))
    have hc := hp c v (by simp)
    unfold bounds
    split
    · have hc := lt_fact hc
      split
      · split
        · exact ih
        · rename_i he
          have he := seEq_eq _ _ he
          subst he
          revert ih
          split
          rename_i lo hi hb
          rw [hb]
          intro ih
          simp only [SE.den] at hc
          cases v
          · exact ⟨ih.1, minO_ok ih.2 (by simp at hc; omega)⟩
          · exact ⟨maxO_ok ih.1 (by simp at hc; omega), ih.2⟩
      · split
        · split
          · exact ih
          · rename_i he
            have he := seEq_eq _ _ he
            subst he
            revert ih
            split
            rename_i lo hi hb
            rw [hb]
            intro ih
            simp only [SE.den] at hc
            cases v
            · exact ⟨maxO_ok ih.1 (by simp at hc; omega), ih.2⟩
            · exact ⟨ih.1, minO_ok ih.2 (by simp at hc; omega)⟩
        · exact ih
    · split
      · split
        · split
          · exact ih
          · rename_i he
            have he := seEq_eq _ _ he
            subst he
            revert ih
            split
            rename_i lo hi hb
            rw [hb]
            intro ih
            simp only [SB.den, SE.den, beq_eq_false_iff_ne] at hc
            exact ⟨offLo_ok ih.1 hc, offHi_ok ih.2 hc⟩
        · split
          · exact ih
          · rename_i he
            have he := seEq_eq _ _ he
            subst he
            simp only [SB.den, SE.den, beq_iff_eq] at hc
            exact ⟨fun l hl => by simp at hl; omega, fun l hl => by simp at hl; omega⟩
      · exact ih
    · exact ih

theorem withinX_ok {ρ : Nat → Int} {e : SE} {pc : List (SB × Bool)} (hp : PcOk ρ pc) : Within (boundsX e pc).1 (boundsX e pc).2 (e.den ρ) := by
  have h0 := within_ok (e := e) hp
  unfold boundsX
  split
  · split
    · split
      · split
        · rename_i b _ c
          have hb := within_ok (e := b) hp
          split
          · rename_i lo hi hbb
            rw [hbb] at hb
            have b1 := hb.1 lo rfl
            have b2 := hb.2 hi rfl
            split
            · rename_i hr
              revert h0
              split
              rename_i l2 h2 hee
              rw [hee]
              intro h0
              have hw : (SE.wrap .i64 (.add b (.lit c))).den ρ = b.den ρ + c := by
                simp only [SE.den]
                rw [← fwrap_eq]
                simp only [fwrap]
                rw [if_pos (by omega)]
              exact ⟨maxO_ok h0.1 (by rw [hw]; omega), minO_ok h0.2 (by rw [hw]; omega)⟩
            · exact h0
          · exact h0
        · exact h0
      · exact h0
    · exact h0
  · exact h0

theorem lookE_ok {ρ : Nat → Int} {pc : List (SB × Bool)} (hp : PcOk ρ pc) {a b : SE} {v : Bool} (h : lookE a b pc = some v) : a.den ρ = b.den ρ ↔ v = true := by
  unfold lookE at h
  split at h
  · rename_i h1
    simp at h
    subst h
    exact eq_fact (lookPc_ok hp h1)
  · rw [← eq_fact (lookPc_ok hp h)]
    exact eq_comm

theorem decLt_ok {ρ : Nat → Int} {pc : List (SB × Bool)} (hp : PcOk ρ pc) {a b : SE} {v : Bool} (h : decLt pc a b = some v) : a.den ρ < b.den ρ ↔ v = true := by
  unfold decLt at h
  split at h
  · rename_i h1
    simp at h
    subst h
    exact lt_fact (lookPc_ok hp h1)
  · split at h
    · have hb := withinX_ok (e := b) hp
      have hz : ∀ z, (SE.lit z).den ρ = z := fun _ => rfl
      simp only [hz] at *
      generalize hbb : boundsX _ pc = p at h hb
      obtain ⟨lo, hi⟩ := p
      simp only [Within] at h hb
      split at h
      · rename_i l
        have := hb.1 l rfl
        split at h
        · simp at h; subst h; simp; omega
        · split at h
          · rename_i hh
            have := hb.2 hh rfl
            split at h
            · simp at h; subst h; simp; omega
            · simp at h
          · simp at h
      · split at h
        · rename_i hh
          have := hb.2 hh rfl
          split at h
          · simp at h; subst h; simp; omega
          · simp at h
        · simp at h
    · split at h
      · have hb := withinX_ok (e := a) hp
        have hz : ∀ z, (SE.lit z).den ρ = z := fun _ => rfl
        simp only [hz] at *
        generalize hbb : boundsX _ pc = p at h hb
        obtain ⟨lo, hi⟩ := p
        simp only [Within] at h hb
        split at h
        · rename_i hh
          have := hb.2 hh rfl
          split at h
          · simp at h; subst h; simp; omega
          · split at h
            · rename_i l
              have := hb.1 l rfl
              split at h
              · simp at h; subst h; simp; omega
              · simp at h
            · simp at h
        · split at h
          · rename_i l
            have := hb.1 l rfl
            split at h
            · simp at h; subst h; simp; omega
            · simp at h
          · simp at h
      · split at h
        · rename_i h1
          have h1 := lookE_ok hp h1
          simp at h h1
          subst h
          simp; omega
        · rename_i h1
          have h1 := lookE_ok hp h1
          simp at h1
          split at h
          · rename_i h2
            have h2 := lt_fact (lookPc_ok hp h2)
            simp at h
            subst h
            cases v <;> simp at h2 <;> simp <;> omega
          · simp at h
        · split at h
          · rename_i h2
            have h2 := lt_fact (lookPc_ok hp h2)
            simp at h h2
            subst h
            simp; omega
          · simp at h

theorem decEq_ok {ρ : Nat → Int} {pc : List (SB × Bool)} (hp : PcOk ρ pc) {a b : SE} {v : Bool} (h : decEq pc a b = some v) : a.den ρ = b.den ρ ↔ v = true := by
  unfold decEq at h
  split at h
  · rename_i h1
    simp at h
    subst h
    exact lookE_ok hp h1
  · split at h
    · have hb := withinX_ok (e := a) hp
      have hz : ∀ z, (SE.lit z).den ρ = z := fun _ => rfl
      simp only [hz] at *
      generalize hbb : boundsX _ pc = p at h hb
      obtain ⟨lo, hi⟩ := p
      simp only [Within] at h hb
      split at h
      · rename_i l
        have := hb.1 l rfl
        split at h
        · simp at h; subst h; simp; omega
        · split at h
          · rename_i hh
            have := hb.2 hh rfl
            split at h
            · simp at h; subst h; simp; omega
            · split at h
              · simp at h; subst h; simp; omega
              · simp at h
          · simp at h
      · split at h
        · rename_i hh
          have := hb.2 hh rfl
          split at h
          · simp at h; subst h; simp; omega
          · simp at h
        · simp at h
    · split at h
      · rename_i h2
        have h2 := lt_fact (lookPc_ok hp h2)
        simp at h h2
        subst h
        simp; omega
      · rename_i h2
        have h2 := lt_fact (lookPc_ok hp h2)
        simp at h2
        split at h
        · rename_i h3
          have h3 := lt_fact (lookPc_ok hp h3)
          simp at h
          subst h
          cases v <;> simp at h3 <;> simp <;> omega
        · simp at h
      · split at h
        · rename_i h2
          have h2 := lt_fact (lookPc_ok hp h2)
          simp at h h2
          subst h
          simp; omega
        · simp at h

theorem decideA_ok {ρ : Nat → Int} {pc : List (SB × Bool)} (hp : PcOk ρ pc) {c : SB} {b : Bool} (h : decideA pc c = some b) : c.den ρ = b := by
  unfold decideA at h
  split at h
  · simp at h; simp [SB.den, h]
  · have := decLt_ok hp h
    simp only [SB.den]
    cases b <;> simp at this ⊢ <;> omega
  · have := decEq_ok hp h
    simp only [SB.den]
    cases b <;> simp at this ⊢ <;> omega
  · exact lookPc_ok hp h

theorem decideB_ok {ρ : Nat → Int} {pc : List (SB × Bool)} (hp : PcOk ρ pc) {c : SB} {b : Bool} (h : decideB pc c = some b) : c.den ρ = b := by
  unfold decideB at h
  split at h
  · rw [Option.map_eq_some_iff] at h
    obtain ⟨x, h1, rfl⟩ := h
    simp only [SB.den, decideA_ok hp h1]
  · exact decideA_ok hp h

end Go.As

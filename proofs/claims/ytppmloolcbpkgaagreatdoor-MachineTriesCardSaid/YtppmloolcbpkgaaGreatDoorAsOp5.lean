import Derived.Test.YtppmloolcbpkgaaGreatDoorAsOp4
import Derived.Lib.Strings
/-
  AS, part 9: slices.
-/
namespace Go.As

section
variable {P : Program} {E : En} {w : World}

def OptR (E : En) (h : Array Obj) : Option AV → Option Value → Prop
  | none, o => o = none
  | some x, o => ∃ u, o = some u ∧ VR E h x u

theorem evOpt_ok {s : St} {a : Act} (sr : SR E w.heap s.slots a) {x : Option Operand} {v : Option AV} (h : evOpt s x = some v) : OptR E w.heap v (x.map a.eval) := by
  cases x with
  | none => simp [evOpt] at h; subst h; simp [OptR]
  | some x =>
    simp only [evOpt, Option.map_eq_some_iff] at h
    obtain ⟨b, h1, rfl⟩ := h
    exact ⟨_, rfl, ev_ok sr h1⟩

theorem bnd_some {x : AV} {u : Value} {d y k : Nat} (hx : VR E w.heap x u) (h : bnd (some x) d y = some k) {y' : Nat} (hy : y ≤ y') (code : BoundsCode) :
    (Instr.sliceBound u y' code).run P w = .ok k w ∧ k ≤ y := by
  unfold bnd at h
  simp only at h
  split at h
  · rename_i i hi
    obtain ⟨kk, rfl⟩ := litInt_ok hx hi
    split at h
    · rename_i hle
      simp at h
      subst h
      refine ⟨?_, hle⟩
      have : ((i : Int) ≤ (y' : Int)) := by omega
      simp [Instr.sliceBound, asIntOf]
      omega
    · simp at h
  · simp at h

theorem bnd_none {d y k : Nat} (h : bnd none d y = some k) : k = d ∧ d ≤ y := by
  unfold bnd at h
  simp only at h
  split at h
  · simp at h; exact ⟨h.symm, by assumption⟩
  · simp at h

/-- the three bounds; what is held against them may be more than was known -/
theorem bounds_ok {isSlice : Bool} {len cap m0 h0 : Nat} {lo hi mx : Option AV} {lo' hi' mx' : Option Value} (hlo : OptR E w.heap lo lo') (hhi : OptR E w.heap hi hi') (hmx : OptR E w.heap mx mx')
    (hmh : mx.isSome = true → hi.isSome = true) {m h l d : Nat}
    (hm : (mx = none ∧ m = cap ∧ m0 ≤ cap) ∨ (∃ x, mx = some x ∧ bnd mx d m0 = some m ∧ m0 ≤ cap))
    (hh : bnd hi len h0 = some h) (hh0 : (mx = none → h0 ≤ cap) ∧ (mx ≠ none → h0 = m)) (hl : bnd lo 0 h = some l) :
    (Instr.sliceBounds isSlice len cap lo' hi' mx').run P w = .ok (l, h, m) w ∧ l ≤ h := by
  have key : ∀ (c : BoundsCode) (v : AV) (u : Value), lo = some v → VR E w.heap v u → (Instr.sliceBound u h c).run P w = .ok l w ∧ l ≤ h := by
    intro c v u hv hu
    subst hv
    exact bnd_some hu hl (Nat.le_refl _) c
  have key0 : lo = none → l = 0 := fun hv => by subst hv; exact (bnd_none hl).1
  unfold Instr.sliceBounds
  rcases hm with ⟨rfl, rfl, hm0⟩ | ⟨x, rfl, hm1, hm0⟩
  · simp only [OptR] at hmx
    subst hmx
    have hb := hh0.1 rfl
    cases hi with
    | none =>
      simp only [OptR] at hhi
      subst hhi
      obtain ⟨rfl, _⟩ := bnd_none hh
      cases lo with
      | none =>
        simp only [OptR] at hlo
        subst hlo
        obtain rfl := key0 rfl
        simp
      | some v =>
        obtain ⟨u, rfl, hu⟩ := hlo
        obtain ⟨k1, k2⟩ := key .sliceB v u rfl hu
        simp [k1, k2]
    | some y =>
      obtain ⟨uy, rfl, huy⟩ := hhi
      have h1 := fun c => (bnd_some (P := P) huy hh hb c).1
      cases lo with
      | none =>
        simp only [OptR] at hlo
        subst hlo
        obtain rfl := key0 rfl
        simp [h1]
      | some v =>
        obtain ⟨u, rfl, hu⟩ := hlo
        obtain ⟨k1, k2⟩ := key .sliceB v u rfl hu
        simp [h1, k1, k2]
  · obtain ⟨ux, rfl, hux⟩ := hmx
    have h2 := fun c => (bnd_some (P := P) hux hm1 hm0 c).1
    have hb := hh0.2 (by simp)
    subst hb
    cases hi with
    | none => simp at hmh
    | some y =>
      obtain ⟨uy, rfl, huy⟩ := hhi
      have h1 := fun c => (bnd_some (P := P) huy hh (Nat.le_refl _) c).1
      cases lo with
      | none =>
        simp only [OptR] at hlo
        subst hlo
        obtain rfl := key0 rfl
        simp [h1, h2]
      | some v =>
        obtain ⟨u, rfl, hu⟩ := hlo
        obtain ⟨k1, k2⟩ := key .slice3C v u rfl hu
        simp [h1, h2, k1, k2]

theorem strB_extract (s : List Nat) (l h : Nat) : (strB s).extract l h = strB ((s.take h).drop l) := by
  apply ByteArray.ext
  apply Array.ext'
  rw [Lib.extract_data]
  simp [strB, List.map_take, List.map_drop, List.drop_take]

theorem capR_slice {id o len cap l h m es : Nat} {a : Addr} {c c' : ACap} (hc : CapR E id o len a cap c) (hlen : len ≤ cap) (hlh : l ≤ h) (hhm : h ≤ m) (hmc : m ≤ cap)
    (hcc : (∃ k, c = .exact k ∧ c' = .exact (m - l)) ∨ (c = .rest es ∧ c' = .exact (m - l)) ∨ (c = .rest es ∧ c' = .rest es ∧ m = cap)) (s : Nat) (hes : c' = .rest es → es = s) :
    CapR E id (o + l * s) (h - l) (if m = l then a else a.add (l * s)) (m - l) c' := by
  rcases hcc with ⟨k, rfl, rfl⟩ | ⟨rfl, rfl⟩ | ⟨rfl, rfl, rfl⟩
  · simp only [CapR] at *
    refine ⟨trivial, ?_⟩
    by_cases hml : m = l
    · right; omega
    · left
      rw [if_neg hml]
      rcases hc.2 with ha | ha
      · rw [ha, add_none, Nat.add_assoc]
      · omega
  · simp only [CapR] at *
    refine ⟨trivial, ?_⟩
    by_cases hml : m = l
    · right; omega
    · left
      rw [if_neg hml]
      rcases hc with ha | ha
      · rw [ha.1, add_none, Nat.add_assoc]
      · omega
  · simp only [CapR] at *
    obtain rfl := hes trivial
    by_cases hml : m = l
    · right
      rcases hc with ha | ha
      · subst hml; exact ⟨by omega, by omega, ha.2⟩
      · subst hml; refine ⟨by omega, by omega, ?_⟩; rw [ha.1, Nat.zero_mul, Nat.add_zero]; exact ha.2.2
    · left
      rw [if_neg hml]
      rcases hc with ha | ha
      · refine ⟨by rw [ha.1, add_none, Nat.add_assoc], ?_⟩
        rw [← ha.2, Nat.add_assoc, ← Nat.add_mul]
        congr 2
        omega
      · omega

theorem bnd_le {x : Option AV} {d y k : Nat} (h : bnd x d y = some k) : k ≤ y := by
  unfold bnd at h
  split at h
  · split at h
    · simp at h; omega
    · simp at h
  · split at h
    · split at h
      · simp at h; omega
      · simp at h
    · simp at h

theorem evSliceH_ok [Glob] {tt : TT} (htt : TTok P tt) {H : Hp} (r : RelH E H w) {t : Nat} {x v : AV} {u : Value} {lo hi mx : Option AV} {lo' hi' mx' : Option Value} (hx : VR E w.heap x u)
    (hlo : OptR E w.heap lo lo') (hhi : OptR E w.heap hi hi') (hmx : OptR E w.heap mx mx') (h : evSliceH tt t x lo hi mx H = some v) :
    ∃ r, (Instr.sliceAt t u lo' hi' mx').run P w = .ok r w ∧ VR E w.heap v r := by
  unfold evSliceH at h
  split at h
  · simp at h
  · split at h
    · simp at h
    · rename_i ti hti
      have htok := htt t ti hti
      split at h
      · rename_i e hk
        have hu := und_slice htok hk
        split at h
        · simp at h
        · rename_i s hs
          simp only [sizeOf?, Option.map_eq_some_iff] at hs
          obtain ⟨ie, hie, rfl⟩ := hs
          have hsz := sizeOf_run (w := w) (htt e ie hie)
          split at h
          · rename_i id o len es
            split at h
            · rename_i hes
              split at h
              · rename_i cs ty hl
                split at h
                · simp at h
                · rename_i b hbh
                  split at h
                  · simp at h
                  · rename_i l hbl
                    simp at h
                    subst h
                    obtain ⟨hes, hpos⟩ := hes
                    subst hes
                    simp only [VR] at hx
                    obtain ⟨hid, a, cap, rfl, hlen, hc⟩ := hx
                    have hlive := (r.live id _ hl).2.1
                    simp only [OR] at hlive
                    obtain ⟨arr, lo1, hi1, us, q1, q2, q3, q4, q5, q6, q7⟩ := hlive
                    have hcap : (cs.length - o) / ie.size ≤ cap := by
                      simp only [CapR] at hc
                      rcases hc with hc | hc
                      · have : cs.length - o ≤ cap * ie.size := by omega
                        exact Nat.div_le_of_le_mul (by rw [Nat.mul_comm]; exact this)
                      · have : cs.length - o = 0 := by omega
                        rw [this]
                        simp
                    obtain ⟨e1, e2⟩ := bounds_ok (P := P) (w := w) (isSlice := true) (len := len) (cap := cap) (m0 := cap) (d := 0) (m := cap) hlo hhi hmx (by simp) (.inl ⟨rfl, rfl, Nat.le_refl _⟩) hbh ⟨fun _ => hcap, by simp⟩ hbl
                    have hbl2 := bnd_le hbh
                    refine ⟨.slice (some (if cap = l then a else a.add (l * ie.size))) (b - l) (cap - l), ?_, ?_⟩
                    · simp [Instr.sliceAt, run_underlying hu, Instr.slice, e1, hsz] <;> split <;> rfl
                    · simp only [VR]
                      exact ⟨hid, _, _, rfl, by omega, capR_slice (es := ie.size) hc hlen e2 (by omega) (Nat.le_refl _) (.inr (.inr ⟨rfl, rfl, rfl⟩)) _ (fun _ => rfl)⟩
              · simp at h
            · simp at h
          · simp at h
      · simp at h

theorem evSlice_ok {tt : TT} (htt : TTok P tt) {t : Nat} {x v : AV} {u : Value} {lo hi mx : Option AV} {lo' hi' mx' : Option Value} (hx : VR E w.heap x u)
    (hlo : OptR E w.heap lo lo') (hhi : OptR E w.heap hi hi') (hmx : OptR E w.heap mx mx') (h : evSlice tt t x lo hi mx = some v) :
    ∃ r, (Instr.sliceAt t u lo' hi' mx').run P w = .ok r w ∧ VR E w.heap v r := by
  unfold evSlice at h
  split at h
  · simp at h
  · rename_i ti hti
    have htok := htt t ti hti
    split at h
    · rename_i hk
      have hu := und_string htok hk
      split at h
      · rename_i s
        simp only [OptR] at hmx
        subst hmx
        split at h
        · rename_i b hb
          split at h
          · rename_i l hl
            simp at h
            subst h
            simp only [VR] at hx
            obtain ⟨rfl, hlt⟩ := hx
            obtain ⟨e1, e2⟩ := bounds_ok (P := P) (w := w) (isSlice := false) (len := s.length) (cap := s.length) (m0 := s.length) (d := 0) hlo hhi (mx := none) (mx' := none) rfl (by simp) (.inl ⟨rfl, rfl, Nat.le_refl _⟩) hb ⟨fun _ => Nat.le_refl _, by simp⟩ hl
            refine ⟨.string ((strB s).extract l b), ?_, ?_⟩
            · rw [← strB_size] at e1
              simp [Instr.sliceAt, run_underlying hu, Instr.slice, e1]
            · simp only [VR, strB_extract]
              exact ⟨trivial, fun c hc => hlt c (List.mem_of_mem_take (List.mem_of_mem_drop hc))⟩
          · simp at h
        · simp at h
      · simp at h
    · rename_i e hk
      have hu := und_slice htok hk
      split at h
      · simp at h
      · rename_i s hs
        simp only [sizeOf?, Option.map_eq_some_iff] at hs
        obtain ⟨ie, hie, rfl⟩ := hs
        have hsz := fun w' => sizeOf_run (htt e ie hie) w'
        split at h
        · split at h
          · simp at h
          · rename_i hmh
            split at h
            · rename_i kh kl km hbh hbl hbm
              simp at h
              subst h
              simp only [VR] at hx
              subst hx
              obtain rfl : kh = 0 := by have := bnd_le hbh; omega
              obtain rfl : kl = 0 := by have := bnd_le hbl; omega
              obtain rfl : km = 0 := by have := bnd_le hbm; omega
              have hm : (mx = none ∧ 0 = 0 ∧ 0 ≤ 0) ∨ (∃ x, mx = some x ∧ bnd mx 0 0 = some 0 ∧ 0 ≤ 0) := by
                cases mx with
                | none => exact .inl ⟨rfl, rfl, Nat.le_refl _⟩
                | some y => exact .inr ⟨y, rfl, hbm, Nat.le_refl _⟩
              obtain ⟨e1, e2⟩ := bounds_ok (P := P) (w := w) (isSlice := true) (len := 0) (cap := 0) (m0 := 0) (d := 0) (m := 0) hlo hhi hmx (by cases mx <;> cases hi <;> simp_all) hm hbh ⟨fun _ => Nat.le_refl _, fun _ => rfl⟩ hbl
              refine ⟨.slice none 0 0, ?_, by simp only [VR]⟩
              simp [Instr.sliceAt, run_underlying hu, Instr.slice, e1, hsz]
            · simp at h
        · rename_i id o len c
          split at h
          · simp at h
          · rename_i hmh
            split at h
            · simp at h
            · rename_i m hbm
              split at h
              · simp at h
              · rename_i b hbh
                split at h
                · simp at h
                · rename_i l hbl
                  simp at h
                  subst h
                  simp only [VR] at hx
                  obtain ⟨hid, a, cap, rfl, hlen, hc⟩ := hx
                  have hcap : cap = c := by simp only [CapR] at hc; exact hc.1
                  subst hcap
                  have hm : (mx = none ∧ m = cap ∧ cap ≤ cap) ∨ (∃ x, mx = some x ∧ bnd mx cap cap = some m ∧ cap ≤ cap) := by
                    cases mx with
                    | none => exact .inl ⟨rfl, (bnd_none hbm).1, Nat.le_refl _⟩
                    | some y => exact .inr ⟨y, rfl, hbm, Nat.le_refl _⟩
                  obtain ⟨e1, e2⟩ := bounds_ok (P := P) (w := w) (isSlice := true) (len := len) (cap := cap) (m0 := cap) (d := cap) (m := m) hlo hhi hmx (by cases mx <;> cases hi <;> simp_all) hm hbh ⟨fun _ => bnd_le hbm, fun _ => rfl⟩ hbl
                  refine ⟨.slice (some (if m = l then a else a.add (l * ie.size))) (b - l) (m - l), ?_, ?_⟩
                  · simp [Instr.sliceAt, run_underlying hu, Instr.slice, e1, hsz] <;> split <;> rfl
                  · simp only [VR]
                    exact ⟨hid, _, _, rfl, by have := bnd_le hbh; omega, capR_slice (es := 0) hc hlen e2 (bnd_le hbh) (bnd_le hbm) (.inl ⟨_, rfl, rfl⟩) _ (by simp)⟩
        · rename_i id o len es
          split at h
          · split at h
            · simp at h
            · rename_i b hbh
              split at h
              · simp at h
              · rename_i l hbl
                split at h
                · rename_i hes
                  simp at h
                  subst h
                  simp only [VR] at hx
                  obtain ⟨hid, a, cap, rfl, hlen, hc⟩ := hx
                  obtain ⟨e1, e2⟩ := bounds_ok (P := P) (w := w) (isSlice := true) (len := len) (cap := cap) (m0 := cap) (d := 0) (m := cap) hlo hhi hmx (by simp) (.inl ⟨rfl, rfl, Nat.le_refl _⟩) hbh ⟨fun _ => hlen, by simp⟩ hbl
                  have hbl2 := bnd_le hbh
                  refine ⟨.slice (some (if cap = l then a else a.add (l * ie.size))) (b - l) (cap - l), ?_, ?_⟩
                  · simp [Instr.sliceAt, run_underlying hu, Instr.slice, e1, hsz] <;> split <;> rfl
                  · simp only [VR]
                    exact ⟨hid, _, _, rfl, by omega, capR_slice (es := es) hc hlen e2 (by omega) (Nat.le_refl _) (.inr (.inr ⟨rfl, rfl, rfl⟩)) _ (fun _ => hes)⟩
                · simp at h
          · rename_i y
            split at h
            · simp at h
            · simp at h
            · rename_i b0 m hbm
              split at h
              · simp at h
              · rename_i b hbh
                split at h
                · simp at h
                · rename_i l hbl
                  simp at h
                  subst h
                  simp only [VR] at hx
                  obtain ⟨hid, a, cap, rfl, hlen, hc⟩ := hx
                  obtain ⟨e1, e2⟩ := bounds_ok (P := P) (w := w) (isSlice := true) (len := len) (cap := cap) (m0 := len) (d := 0) (m := m) hlo hhi hmx (by simp) (.inr ⟨y, rfl, hbm, hlen⟩) hbh ⟨by simp, fun _ => rfl⟩ hbl
                  have hb2 := bnd_le hbh
                  have hm2 := bnd_le hbm
                  refine ⟨.slice (some (if m = l then a else a.add (l * ie.size))) (b - l) (m - l), ?_, ?_⟩
                  · simp [Instr.sliceAt, run_underlying hu, Instr.slice, e1, hsz] <;> split <;> rfl
                  · simp only [VR]
                    exact ⟨hid, _, _, rfl, by omega, capR_slice (es := es) hc hlen e2 hb2 (by omega) (.inr (.inl ⟨rfl, rfl⟩)) _ (by simp)⟩
        · rename_i cs n full
          split at h
          · split at h
            · simp at h
            · rename_i b hbh
              split at h
              · simp at h
              · rename_i l hbl
                split at h
                · simp at h
                · rename_i d hd
                  split at h
                  · simp at h
                  · rename_i d' hd'
                    simp at h
                    subst h
                    simp only [VR] at hx
                    obtain ⟨bb, o, cap, us, rfl, hn, hfull, h4, h5, h6, h7⟩ := hx
                    obtain ⟨e1, e2⟩ := bounds_ok (P := P) (w := w) (isSlice := true) (len := n) (cap := cap) (m0 := cap) (d := 0) (m := cap) hlo hhi hmx (by simp) (.inl ⟨rfl, rfl, Nat.le_refl _⟩) hbh ⟨fun _ => hn, by simp⟩ hbl
                    have hb2 := bnd_le hbh
                    obtain ⟨g1, g2, g3⟩ := h5.drop? hd
                    obtain ⟨g4, g5⟩ := g1.take? hd'
                    refine ⟨.slice (some (if cap = l then ⟨bb, o, none⟩ else (⟨bb, o, none⟩ : Addr).add (l * ie.size))) (b - l) (cap - l), ?_, ?_⟩
                    · simp [Instr.sliceAt, run_underlying hu, Instr.slice, e1, hsz] <;> split <;> rfl
                    · simp only [VR]
                      by_cases hml : cap = l
                      · have h0 : b - l = 0 := by omega
                        refine ⟨bb, o, cap - l, (us.drop (l * ie.size)).take ((b - l) * ie.size), by rw [if_pos hml], by omega, fun _ => by omega, h4, g4, ?_, fun u hu => h7 u (List.mem_of_mem_drop (List.mem_of_mem_take hu))⟩
                        rw [h0, Nat.zero_mul]
                        intro i u hu
                        simp at hu
                      · refine ⟨bb, o + l * ie.size, cap - l, (us.drop (l * ie.size)).take ((b - l) * ie.size), by rw [if_neg hml, add_none], by omega, ?_, h4, g4, (h6.drop _).take _, fun u hu => h7 u (List.mem_of_mem_drop (List.mem_of_mem_take hu))⟩
                        intro hf
                        simp only [Bool.and_eq_true, beq_iff_eq] at hf
                        have := hfull hf.1
                        omega
          · rename_i y
            split at h
            · simp at h
            · simp at h
            · rename_i b0 m hbm
              split at h
              · simp at h
              · rename_i b hbh
                split at h
                · simp at h
                · rename_i l hbl
                  split at h
                  · simp at h
                  · rename_i d hd
                    split at h
                    · simp at h
                    · rename_i d' hd'
                      simp at h
                      subst h
                      simp only [VR] at hx
                      obtain ⟨bb, o, cap, us, rfl, hn, hfull, h4, h5, h6, h7⟩ := hx
                      obtain ⟨e1, e2⟩ := bounds_ok (P := P) (w := w) (isSlice := true) (len := n) (cap := cap) (m0 := n) (d := 0) (m := m) hlo hhi hmx (by simp) (.inr ⟨y, rfl, hbm, hn⟩) hbh ⟨by simp, fun _ => rfl⟩ hbl
                      have hb2 := bnd_le hbh
                      obtain ⟨g1, g2, g3⟩ := h5.drop? hd
                      obtain ⟨g4, g5⟩ := g1.take? hd'
                      refine ⟨.slice (some (if m = l then ⟨bb, o, none⟩ else (⟨bb, o, none⟩ : Addr).add (l * ie.size))) (b - l) (m - l), ?_, ?_⟩
                      · simp [Instr.sliceAt, run_underlying hu, Instr.slice, e1, hsz] <;> split <;> rfl
                      · simp only [VR]
                        by_cases hml : m = l
                        · have h0 : b - l = 0 := by omega
                          refine ⟨bb, o, m - l, (us.drop (l * ie.size)).take ((b - l) * ie.size), by rw [if_pos hml], by omega, fun _ => by omega, h4, g4, ?_, fun u hu => h7 u (List.mem_of_mem_drop (List.mem_of_mem_take hu))⟩
                          rw [h0, Nat.zero_mul]
                          intro i u hu
                          simp at hu
                        · refine ⟨bb, o + l * ie.size, m - l, (us.drop (l * ie.size)).take ((b - l) * ie.size), by rw [if_neg hml, add_none], by omega, ?_, h4, g4, (h6.drop _).take _, fun u hu => h7 u (List.mem_of_mem_drop (List.mem_of_mem_take hu))⟩
                          intro hf
                          simp only [beq_iff_eq] at hf
                          omega
        · simp at h
    · rename_i n e hk
      have hu := und_array htok hk
      split at h
      · simp at h
      · rename_i s hs
        simp only [sizeOf?, Option.map_eq_some_iff] at hs
        obtain ⟨ie, hie, rfl⟩ := hs
        have hsz := fun w' => sizeOf_run (htt e ie hie) w'
        split at h
        · rename_i id o
          split at h
          · simp at h
          · rename_i hmh
            split at h
            · simp at h
            · rename_i m hbm
              split at h
              · simp at h
              · rename_i b hbh
                split at h
                · simp at h
                · rename_i l hbl
                  simp at h
                  subst h
                  simp only [VR] at hx
                  obtain ⟨rfl, hid⟩ := hx
                  have hm : (mx = none ∧ m = n ∧ n ≤ n) ∨ (∃ x, mx = some x ∧ bnd mx n n = some m ∧ n ≤ n) := by
                    cases mx with
                    | none => exact .inl ⟨rfl, (bnd_none hbm).1, Nat.le_refl _⟩
                    | some y => exact .inr ⟨y, rfl, hbm, Nat.le_refl _⟩
                  obtain ⟨e1, e2⟩ := bounds_ok (P := P) (w := w) (isSlice := false) (len := n) (cap := n) (m0 := n) (d := n) (m := m) hlo hhi hmx (by cases mx <;> cases hi <;> simp_all) hm hbh ⟨fun _ => bnd_le hbm, fun _ => rfl⟩ hbl
                  refine ⟨.slice (some (if m = l then ⟨(E.θ id).1, (E.θ id).2 + o, none⟩ else (⟨(E.θ id).1, (E.θ id).2 + o, none⟩ : Addr).add (l * ie.size))) (b - l) (m - l), ?_, ?_⟩
                  · simp [Instr.sliceAt, run_underlying hu, Instr.sureAddr, e1, hsz] <;> split <;> rfl
                  · simp only [VR, CapR]
                    refine ⟨hid, _, _, rfl, by have := bnd_le hbh; omega, rfl, ?_⟩
                    by_cases hml : m = l
                    · right; omega
                    · left; rw [if_neg hml, add_none, Nat.add_assoc]
        · simp at h
    · simp at h

end
end Go.As

import Derived.Test.YtppmloolcbpkgaaGreatDoorAsOp3
/-
  AS, part 8: addresses, parts, slices, conversions.
-/
namespace Go.As

section
variable {P : Program} {E : En} {w : World}

theorem place_of {i : TI} {t : Nat} (hti : TIok P t i) {fs : List (Nat × Nat × Nat)} (hk : i.kind = .struct fs) {f off ft sz : Nat} (h : nth? fs f = some (off, ft, sz)) :
    ∃ (flds : Array Field) (fd : Field) (inf : TypeInfo), P.underlying t = some (.struct flds) ∧ flds[f]? = some fd ∧ fd.offset = off ∧ fd.type = ft ∧ P.info? ft = some inf ∧ inf.size = sz := by
  obtain ⟨flds, hu, hm⟩ := und_struct hti hk
  have h1 := mapM_nth hm f
  rw [← nth?_eq, h, Array.getElem?_toList] at h1
  cases hf : flds[f]? with
  | none => rw [hf] at h1; simp at h1
  | some fd =>
    rw [hf] at h1
    simp only [Option.bind_some] at h1
    cases hi : P.info? fd.type with
    | none => rw [hi] at h1; simp at h1
    | some inf =>
      rw [hi] at h1
      simp at h1
      obtain ⟨rfl, rfl, rfl⟩ := h1
      exact ⟨flds, fd, inf, hu, hf, rfl, rfl, hi, rfl⟩

/-- a place further on -/
theorem place_add {x v : AV} {u : Value} {off : Nat} (hx : VR E w.heap x u) (h : moveP off x = some v) :
    ∃ b o, u = .pointer (some ⟨b, o, none⟩) ∧ VR E w.heap v (.pointer (some ⟨b, o + off, none⟩)) := by
  unfold moveP at h
  cases x <;> simp only [Option.some.injEq, reduceCtorEq, Option.map_eq_some_iff] at h
  case ptr id o =>
    subst h
    simp only [VR] at hx ⊢
    obtain ⟨rfl, hid⟩ := hx
    exact ⟨_, _, rfl, by rw [Nat.add_assoc], hid⟩
  case rptr cs =>
    obtain ⟨l, h1, rfl⟩ := h
    simp only [VR] at hx ⊢
    obtain ⟨b, o, us, rfl, h2, h3, h4, h5⟩ := hx
    exact ⟨b, o, rfl, b, o + off, us.drop off, rfl, h2, (h3.drop? h1).1, h4.drop off, fun u hu => h5 u (List.mem_of_mem_drop hu)⟩

theorem evFieldAddr_ok {tt : TT} (htt : TTok P tt) {t f : Nat} {x v : AV} {u : Value} (hx : VR E w.heap x u) (h : evFieldAddr tt t x f = some v) :
    ∃ r, (Instr.fieldAt t u f).run P w = .ok r w ∧ VR E w.heap v r := by
  unfold evFieldAddr at h
  split at h
  · rename_i i hi
    split at h
    · rename_i fs hk
      split at h
      · rename_i off ft sz hn
        obtain ⟨flds, fd, inf, hu, hf, h1, h2, h3, h4⟩ := place_of (htt t i hi) hk hn
        split at h
        · simp at h
        · rename_i hsz
          obtain ⟨b, o, rfl, hv⟩ := place_add hx h
          refine ⟨_, ?_, hv⟩
          have hne : ¬ inf.size = 0 := by rw [h4]; exact hsz
          simp [Instr.fieldAt, run_underlying hu, hf, Instr.sureAddr, fieldPlace, sizeOf, typeInfo, h2, h3, hne, add_none, h1]
      · simp at h
    · simp at h
  · simp at h

/-- a part of cells -/
theorem part_ok {i : TI} {t : Nat} (hti : TIok P t i) {cs l : List AV} {us : List Value} {off : Nat} {v : AV} (hv : VRs E w.heap cs us) (hd : drop? off cs = some l)
    (h : partOf i l = some v) :
    ∃ r, (part t us.toArray off).run P w = .ok r w ∧ VR E w.heap v r := by
  obtain ⟨h1, h2, h3⟩ := hv.drop? hd
  have hlen := hv.length
  unfold partOf at h
  split at h
  · rename_i hagg
    rw [Option.map_eq_some_iff] at h
    obtain ⟨l', h4, rfl⟩ := h
    obtain ⟨h5, h6⟩ := h1.take? h4
    refine ⟨.agg (us.toArray.extract off (off + i.size)), ?_, ?_⟩
    · simp [part, isAgg_run hti, hagg, sizeOf_run hti]
    · simp only [VR]
      refine ⟨(us.drop off).take i.size, ?_, h5⟩
      simp
  · rename_i hagg
    split at h
    · rename_i x l'
      simp at h
      subst h
      rw [VRs_cons] at h1
      obtain ⟨u, vs, he, h5, _⟩ := h1
      refine ⟨u, ?_, h5⟩
      have hg : us[off]? = some u := by
        have := congrArg (·[0]?) he
        simpa using this
      simp [part, isAgg_run hti, hagg, hg]
    · simp at h

theorem evField_ok {tt : TT} (htt : TTok P tt) {t f : Nat} {x v : AV} {u : Value} (hx : VR E w.heap x u) (h : evField tt t x f = some v) :
    ∃ r, (Instr.field t u f).run P w = .ok r w ∧ VR E w.heap v r := by
  unfold evField at h
  split at h
  · rename_i i hi
    split at h
    · rename_i fs hk
      split at h
      · rename_i off ft sz hn
        obtain ⟨flds, fd, inf, hu, hf, h1, h2, h3, h4⟩ := place_of (htt t i hi) hk hn
        split at h
        · rename_i fi cs hfi
          split at h
          · rename_i l hl
            simp only [VR] at hx
            obtain ⟨us, rfl, hv⟩ := hx
            obtain ⟨r, e1, e2⟩ := part_ok (w := w) (htt ft fi hfi) hv hl h
            refine ⟨r, ?_, e2⟩
            simp [Instr.field, run_underlying hu, hf, asAgg, h1, h2, e1]
          · simp at h
        · simp at h
      · simp at h
    · simp at h
  · simp at h

theorem litInt_ok {x : AV} {u : Value} {n : Int} (hx : VR E w.heap x u) (h : litInt x = some n) : ∃ k, u = .int k n := by
  cases x <;> simp [litInt] at h
  rename_i k e
  cases e <;> simp at h
  subst h
  simp only [VR, SE.den] at hx
  exact ⟨k, hx⟩

theorem evIndexAddr_ok {tt : TT} (htt : TTok P tt) {t : Nat} {x ix v : AV} {u ui : Value} (hx : VR E w.heap x u) (hix : VR E w.heap ix ui) (h : evIndexAddr tt t x ix = some v) :
    ∃ r, (Instr.indexAt t u ui).run P w = .ok r w ∧ VR E w.heap v r := by
  unfold evIndexAddr at h
  split at h
  · rename_i i hi
    obtain ⟨k, rfl⟩ := litInt_ok hix hi
    split at h
    · rename_i ti hti
      have htok := htt t ti hti
      split at h
      · rename_i n e hk
        split at h
        · rename_i hlt
          split at h
          · rename_i s hs
            simp only [sizeOf?, Option.map_eq_some_iff] at hs
            obtain ⟨ie, hie, rfl⟩ := hs
            obtain ⟨b, o, rfl, hv⟩ := place_add hx h
            refine ⟨_, ?_, hv⟩
            have hu := und_array htok hk
            simp [Instr.indexAt, asIntOf, run_underlying hu, Instr.sureAddr, sizeOf_run (htt e ie hie), hlt, add_none]
          · simp at h
        · simp at h
      · rename_i e hk
        have hu := und_slice htok hk
        split at h
        · rename_i s hs
          simp only [sizeOf?, Option.map_eq_some_iff] at hs
          obtain ⟨ie, hie, rfl⟩ := hs
          split at h
          · rename_i id o len c
            split at h
            · rename_i hlt
              simp at h
              subst h
              simp only [VR] at hx
              obtain ⟨hid, a, cap, rfl, hcap, hc⟩ := hx
              have ha : a = ⟨(E.θ id).1, (E.θ id).2 + o, none⟩ := by
                cases c with
                | exact c =>
                  simp only [CapR] at hc
                  rcases hc.2 with hc | hc
                  · exact hc
                  · omega
                | rest es =>
                  simp only [CapR] at hc
                  rcases hc with hc | hc
                  · exact hc.1
                  · omega
              subst ha
              refine ⟨.pointer (some ⟨(E.θ id).1, (E.θ id).2 + o + i * ie.size, none⟩), ?_, by simp only [VR]; exact ⟨by rw [Nat.add_assoc], hid⟩⟩
              simp [Instr.indexAt, asIntOf, run_underlying hu, sizeOf_run (htt e ie hie), hlt, add_none]
            · simp at h
          · rename_i cs n full
            split at h
            · rename_i hlt
              rw [Option.map_eq_some_iff] at h
              obtain ⟨l, h1, rfl⟩ := h
              simp only [VR] at hx
              obtain ⟨b, o, cap, us, rfl, h2, h3, h4, h5, h6, h7⟩ := hx
              refine ⟨.pointer (some ⟨b, o + i * ie.size, none⟩), ?_, ?_⟩
              · simp [Instr.indexAt, asIntOf, run_underlying hu, sizeOf_run (htt e ie hie), hlt, add_none]
              · simp only [VR]
                exact ⟨b, _, us.drop (i * ie.size), rfl, h4, (h5.drop? h1).1, h6.drop _, fun u hu => h7 u (List.mem_of_mem_drop hu)⟩
            · simp at h
          · simp at h
        · simp at h
      · simp at h
    · simp at h
  · simp at h

theorem strB_get (s : List Nat) (i : Nat) : (strB s)[i]? = (s[i]?).map UInt8.ofNat := by
  have h1 : (strB s)[i]? = (strB s).data[i]? := rfl
  rw [h1]
  simp [strB]

theorem evIndex_ok {tt : TT} (htt : TTok P tt) {t : Nat} {x ix v : AV} {u ui : Value} (hx : VR E w.heap x u) (hix : VR E w.heap ix ui) (h : evIndex tt t x ix = some v) :
    ∃ r, (Instr.index t u ui).run P w = .ok r w ∧ VR E w.heap v r := by
  unfold evIndex at h
  split at h
  · rename_i i hi
    obtain ⟨k, rfl⟩ := litInt_ok hix hi
    split at h
    · rename_i ti hti
      have htok := htt t ti hti
      split at h
      · rename_i s hk
        rw [Option.map_eq_some_iff] at h
        obtain ⟨b, hb, rfl⟩ := h
        simp only [VR] at hx
        obtain ⟨rfl, hlt⟩ := hx
        rw [nth?_eq] at hb
        have hg : (strB s)[i]? = some (UInt8.ofNat b) := by rw [strB_get, hb]; rfl
        have h256 := hlt b (List.mem_of_getElem? hb)
        refine ⟨_, by simp [Instr.index, asIntOf, run_underlying (und_string htok hk), hg]; rfl, ?_⟩
        simp only [VR, SE.den]
        congr 1
        simp
        omega
      · rename_i n e cs hk
        split at h
        · rename_i hlt
          split at h
          · rename_i ie hie
            split at h
            · rename_i l hl
              simp only [VR] at hx
              obtain ⟨us, rfl, hv⟩ := hx
              obtain ⟨r, e1, e2⟩ := part_ok (w := w) (htt e ie hie) hv hl h
              refine ⟨r, ?_, e2⟩
              simp [Instr.index, asIntOf, run_underlying (und_array htok hk), hlt, sizeOf_run (htt e ie hie), e1]
            · simp at h
          · simp at h
        · simp at h
      · simp at h
    · simp at h
  · simp at h

end
end Go.As

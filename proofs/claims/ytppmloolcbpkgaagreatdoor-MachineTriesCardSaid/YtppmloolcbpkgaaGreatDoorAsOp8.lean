import Derived.Test.YtppmloolcbpkgaaGreatDoorAsOp7
/-
  AS, part 12: look-up, map update, delete, len, clear, range, next.
-/
namespace Go.As

section
variable {P : Program} {E : En} {w : World}

theorem map_live [Glob] {H : Hp} (r : RelH E H w) {id c : Nat} {es : List (AV × AV × Nat)} (hl : H.get id = some (.map es c)) : ∃ ents c', w.heap[(E.θ id).1]? = some (.map ents c') ∧ EntR E w.heap es ents.toList :=
  (r.live id _ hl).2.1

theorem evLookup_ok [Glob] {tt : TT} (htt : TTok P tt) {pc : List (SB × Bool)} (hp : PcOk E.ρ pc) {H : Hp} (r : RelH E H w) {t : Nat} {m k v : AV} {um uk : Value} {ok : Bool} (hm : VR E w.heap m um) (hk : VR E w.heap k uk) (h : evLookup tt pc t m k ok H = some v) :
    ∃ x, (Instr.lookup t um uk ok).run P w = .ok x w ∧ VR E w.heap v x := by
  unfold evLookup at h
  split at h
  · rename_i ti hti
    split at h
    · rename_i kt et hkind
      have hu := und_map (htt t ti hti) hkind
      split at h
      · simp at h
      · rename_i kk hkk
        obtain ⟨d, hd1, hd2⟩ := keyKind_ok htt hkk
        split at h
        · simp at h
        · rename_i ie hie
          have key : ∀ (es : List (AV × AV × Nat)) (ents : Array MapEntry), EntR E w.heap es ents.toList →
              (match findK pc kk k es 0 with
                | none => none
                | some (some (_, v)) => some (if ok then .tuple [v, .bool (.lit true)] else v)
                | some none => match zeroOf ie with
                  | none => none
                  | some z => some (if ok then .tuple [z, .bool (.lit false)] else z)) = some v →
              ∃ (o : Option (Nat × Value)) (x : Value), (Instr.findKey kt uk ents.toList).run P w = .ok o w ∧
                (match o with
                  | some (_, y) => x = (if ok then .tuple #[y, .bool true] else y)
                  | none => ∃ z, (zeroValue et).run P w = .ok z w ∧ x = (if ok then .tuple #[z, .bool false] else z)) ∧ VR E w.heap v x := by
            intro es ents he hh
            split at hh
            · simp at hh
            · rename_i j v' hf
              simp at hh
              subst hh
              rcases findK_ok hp hd2 hk he hf with ⟨q1, _⟩ | ⟨jj, v2, e, q1, q2, q3, q4, q5⟩
              · simp at q1
              · simp only [Option.some.injEq, Prod.mk.injEq] at q1
                obtain ⟨rfl, rfl⟩ := q1
                refine ⟨_, _, findKey_run hd1 q4, rfl, ?_⟩
                cases ok
                · exact q3
                · simp only [if_true, VR, VRs]
                  exact ⟨[e.val, .bool true], rfl, _, _, rfl, q3, _, _, rfl, by simp [SB.den], rfl⟩
            · rename_i hf
              split at hh
              · simp at hh
              · rename_i z hz
                simp at hh
                subst hh
                obtain ⟨u, e1, e2⟩ := zeroOf_ok (P := P) (w := w) (E := E) (htt et ie hie) hz
                rcases findK_ok hp hd2 hk he hf with ⟨_, q2⟩ | ⟨jj, v2, e, q1, _⟩
                · refine ⟨none, _, findKey_run hd1 q2, ⟨u, e1, rfl⟩, ?_⟩
                  cases ok
                  · exact e2
                  · simp only [if_true, VR, VRs]
                    exact ⟨[u, .bool false], rfl, _, _, rfl, e2, _, _, rfl, by simp [SB.den], rfl⟩
                · simp at q1
          split at h
          · simp at h
          · rename_i es hes
            unfold mapEnts at hes
            split at hes
            · simp at hes
              subst hes
              simp only [VR] at hm
              subst hm
              obtain ⟨o, x, e1, e2, e3⟩ := key [] #[] (by simp [EntR]) h
              refine ⟨x, ?_, e3⟩
              cases o with
              | none =>
                obtain ⟨z, e4, rfl⟩ := e2
                cases ok <;> simp [Instr.lookup, run_underlying hu, checkKey_run hd1 hd2, e1, e4]
              | some p =>
                obtain ⟨j, y⟩ := p
                simp only at e2
                subst e2
                cases ok <;> simp [Instr.lookup, run_underlying hu, checkKey_run hd1 hd2, e1]
            · rename_i id
              split at hes
              · rename_i es' c hl
                simp at hes
                subst hes
                simp only [VR] at hm
                obtain ⟨rfl, hid⟩ := hm
                obtain ⟨ents, c', g1, g2⟩ := map_live r hl
                have hg := getObj_run (P := P) g1 (by simp)
                obtain ⟨o, x, e1, e2, e3⟩ := key es' ents g2 h
                refine ⟨x, ?_, e3⟩
                cases o with
                | none =>
                  obtain ⟨z, e4, rfl⟩ := e2
                  cases ok <;> simp [Instr.lookup, run_underlying hu, hg, checkKey_run hd1 hd2, e1, e4]
                | some p =>
                  obtain ⟨j, y⟩ := p
                  simp only at e2
                  subst e2
                  cases ok <;> simp [Instr.lookup, run_underlying hu, hg, checkKey_run hd1 hd2, e1]
              · simp at hes
            · simp at hes
    · simp at h
  · simp at h

theorem modify_set {α : Type} (ents : Array α) (i : Nat) (e : α) (f : α → α) (h : ents.toList[i]? = some e) : (ents.modify i f).toList = ents.toList.set i (f e) := by
  apply List.ext_getElem?
  intro j
  have hi := (List.getElem?_eq_some_iff.1 h).1
  rw [Array.getElem?_toList, Array.getElem?_modify, List.getElem?_set]
  by_cases hj : i = j
  · subst hj
    rw [Array.getElem?_toList] at h
    simp [h]
    simpa using hi
  · simp [hj]

theorem evMapUpdate_ok [Glob] {tt : TT} (htt : TTok P tt) {pc : List (SB × Bool)} (hp : PcOk E.ρ pc) {H H' : Hp} (r : RelH E H w) {t : Nat} {m k v : AV} {um uk uv : Value} (hm : VR E w.heap m um) (hk : VR E w.heap k uk) (hv : VR E w.heap v uv) (h : evMapUpdate tt pc t m k v H = some H') :
    ∃ w', (Instr.mapUpdate t um uk uv).run P w = .ok () w' ∧ Stp E H w E H' w' ∧ RelH E H' w' := by
  unfold evMapUpdate at h
  split at h
  · rename_i ti hti
    split at h
    · rename_i kt et hkind
      have hu := und_map (htt t ti hti) hkind
      split at h
      · simp at h
      · rename_i kk hkk
        obtain ⟨d, hd1, hd2⟩ := keyKind_ok htt hkk
        split at h
        · rename_i id
          split at h
          · rename_i es c hl
            simp only [VR] at hm
            obtain ⟨rfl, hid⟩ := hm
            obtain ⟨ents, c', g1, g2⟩ := map_live r hl
            have hg := getObj_run (P := P) g1 (by simp)
            split at h
            · simp at h
            · rename_i i v' hf
              simp at h
              subst h
              rcases findK_ok hp hd2 hk g2 hf with ⟨q1, _⟩ | ⟨jj, v2, e, q1, q2, q3, q4, q5⟩
              · simp at q1
              · simp only [Option.some.injEq, Prod.mk.injEq, Nat.zero_add] at q1
                obtain ⟨rfl, rfl⟩ := q1
                simp only [Nat.zero_add] at q4
                have hkt : (Instr.keyThatStays (((ents[i]?).map (·.key)).getD uk) uk).run P w = .ok uk w := by
                  rw [Array.getElem?_toList] at q2
                  simp only [q2, Option.map_some, Option.getD_some, Instr.keyThatStays]
                  rw [if_pos (q5 9999)]
                  rfl
                refine ⟨_, ?_, setObj_step r hl (.map (setEntry k v es i) c) (.map (ents.modify i fun e => { e with key := uk, val := uv }) c') ?_⟩
                · simp [Instr.mapUpdate, run_underlying hu, hg, checkKey_run hd1 hd2, findKey_run hd1 q4, hkt, setObj_run (P := P) g1]
                · intro h' hh kp
                  simp only [OR]
                  refine ⟨_, _, hh, ?_⟩
                  rw [modify_set ents i e _ q2]
                  exact EntR.set (VR.keep kp _ _ hk) (VR.keep kp _ _ hv) (EntR.keep kp _ _ g2) q2
            · rename_i hf
              simp at h
              subst h
              rcases findK_ok hp hd2 hk g2 hf with ⟨_, q2⟩ | ⟨jj, v2, e, q1, _⟩
              · refine ⟨_, ?_, setObj_step r hl (.map (es ++ [(k, v, c)]) (c + 1)) (.map (ents.push { key := uk, val := uv, born := c' }) (c' + 1)) ?_⟩
                · simp [Instr.mapUpdate, run_underlying hu, hg, checkKey_run hd1 hd2, findKey_run hd1 q2, setObj_run (P := P) g1]
                · intro h' hh kp
                  simp only [OR]
                  refine ⟨_, _, hh, ?_⟩
                  rw [Array.toList_push]
                  exact EntR.push (VR.keep kp _ _ hk) (VR.keep kp _ _ hv) (EntR.keep kp _ _ g2)
              · simp at q1
          · simp at h
        · simp at h
    · simp at h
  · simp at h

theorem evDelete_ok [Glob] {tt : TT} (htt : TTok P tt) {pc : List (SB × Bool)} (hp : PcOk E.ρ pc) {H H' : Hp} (r : RelH E H w) {t : Nat} {ts : Nat} {m k : AV} {um uk : Value} (hm : VR E w.heap m um) (hk : VR E w.heap k uk) (h : evDelete tt pc t m k H = some H') (ty : Nat) :
    ∃ w', (Builtin.delete_ #[t, ts] ty #[um, uk]).run P w = .ok (.tuple #[]) w' ∧ Stp E H w E H' w' ∧ RelH E H' w' := by
  unfold evDelete at h
  split at h
  · rename_i ti hti
    split at h
    · rename_i kt et hkind
      have hu := und_map (htt t ti hti) hkind
      split at h
      · simp at h
      · rename_i kk hkk
        obtain ⟨d, hd1, hd2⟩ := keyKind_ok htt hkk
        split at h
        · simp at h
          subst h
          simp only [VR] at hm
          subst hm
          exact ⟨w, by simp [Builtin.delete_, run_underlying hu, checkKey_run hd1 hd2], Stp.refl _ _ _, r⟩
        · rename_i id
          split at h
          · rename_i es c hl
            simp only [VR] at hm
            obtain ⟨rfl, hid⟩ := hm
            obtain ⟨ents, c', g1, g2⟩ := map_live r hl
            have hg := getObj_run (P := P) g1 (by simp)
            split at h
            · simp at h
            · rename_i i v' hf
              simp at h
              subst h
              rcases findK_ok hp hd2 hk g2 hf with ⟨q1, _⟩ | ⟨jj, v2, e, q1, q2, q3, q4, q5⟩
              · simp at q1
              · simp only [Option.some.injEq, Prod.mk.injEq, Nat.zero_add] at q1
                obtain ⟨rfl, rfl⟩ := q1
                simp only [Nat.zero_add] at q4
                refine ⟨_, ?_, setObj_step r hl (.map (eraseNth es i) c) (.map (ents.eraseIdxIfInBounds i) c') ?_⟩
                · simp [Builtin.delete_, run_underlying hu, hg, checkKey_run hd1 hd2, findKey_run hd1 q4, setObj_run (P := P) g1]
                · intro h' hh kp
                  simp only [OR]
                  refine ⟨_, _, hh, ?_⟩
                  have hil : i < ents.size := by have := (List.getElem?_eq_some_iff.1 q2).1; simpa using this
                  have : (ents.eraseIdxIfInBounds i).toList = ents.toList.eraseIdx i := by
                    simp [Array.eraseIdxIfInBounds, hil]
                  rw [this]
                  exact EntR.erase (EntR.keep kp _ _ g2)
            · rename_i hf
              simp at h
              subst h
              rcases findK_ok hp hd2 hk g2 hf with ⟨_, q2⟩ | ⟨jj, v2, e, q1, _⟩
              · refine ⟨_, ?_, setObj_step r hl (.map es c) (.map ents c') ?_⟩
                · simp [Builtin.delete_, run_underlying hu, hg, checkKey_run hd1 hd2, findKey_run hd1 q2, setObj_run (P := P) g1]
                · intro h' hh kp
                  simp only [OR]
                  exact ⟨_, _, hh, EntR.keep kp _ _ g2⟩
              · simp at q1
          · simp at h
        · simp at h
    · simp at h
  · simp at h

theorem evLen_ok [Glob] {tt : TT} (htt : TTok P tt) {H : Hp} (r : RelH E H w) {t ty : Nat} {x v : AV} {u : Value} (hx : VR E w.heap x u) (h : evLen tt t x H = some v) :
    ∃ y, (Builtin.len_ #[t] ty #[u]).run P w = .ok y w ∧ VR E w.heap v y := by
  unfold evLen at h
  simp only at h
  split at h
  · rename_i ti hti
    have htok := htt t ti hti
    split at h
    · rename_i hk
      split at h
      · rename_i s
        simp at h
        subst h
        simp only [VR] at hx
        obtain ⟨rfl, _⟩ := hx
        exact ⟨_, by simp [Builtin.len_, run_underlying (und_string htok hk)]; rfl, by simp [VR, SE.den, goInt, strB_size]⟩
      · simp at h
    · rename_i e hk
      have hu := und_slice htok hk
      split at h
      · simp at h; subst h; simp only [VR] at hx; subst hx
        exact ⟨_, by simp [Builtin.len_, run_underlying hu]; rfl, by simp [VR, SE.den, goInt]⟩
      · simp at h; subst h; simp only [VR] at hx; obtain ⟨_, a, cap, rfl, _⟩ := hx
        exact ⟨_, by simp [Builtin.len_, run_underlying hu]; rfl, by simp [VR, SE.den, goInt]⟩
      · simp at h; subst h; simp only [VR] at hx; obtain ⟨b, o, cap, us, rfl, _⟩ := hx
        exact ⟨_, by simp [Builtin.len_, run_underlying hu]; rfl, by simp [VR, SE.den, goInt]⟩
      · simp at h; subst h; simp only [VR] at hx
        rcases hx with ⟨⟨x, cap, rfl⟩, h0⟩ | ⟨b, o, n, cap, rfl, _, h0, _⟩
        · exact ⟨_, by simp [Builtin.len_, run_underlying hu]; rfl, by simp [VR, SE.den, goInt, h0]⟩
        · exact ⟨_, by simp [Builtin.len_, run_underlying hu]; rfl, by simp [VR, SE.den, goInt, h0]⟩
      · simp at h
    · rename_i k e hk
      have hu := und_array htok hk
      simp at h
      subst h
      exact ⟨_, by simp [Builtin.len_, run_underlying hu]; rfl, by simp [VR, SE.den, goInt]⟩
    · rename_i kt et hk
      have hu := und_map htok hk
      split at h
      · simp at h; subst h; simp only [VR] at hx; subst hx
        exact ⟨_, by simp [Builtin.len_, run_underlying hu]; rfl, by simp [VR, SE.den, goInt]⟩
      · rename_i id
        split at h
        · rename_i es c hl
          simp at h
          subst h
          simp only [VR] at hx
          obtain ⟨rfl, hid⟩ := hx
          obtain ⟨ents, c', g1, g2⟩ := map_live r hl
          have hg := getObj_run (P := P) g1 (by simp)
          have hlen := g2.length
          simp only [Array.length_toList] at hlen
          exact ⟨_, by simp [Builtin.len_, run_underlying hu, hg]; rfl, by simp [VR, SE.den, goInt, hlen]⟩
        · simp at h
      · simp at h
    · simp at h
  · simp at h

end
end Go.As

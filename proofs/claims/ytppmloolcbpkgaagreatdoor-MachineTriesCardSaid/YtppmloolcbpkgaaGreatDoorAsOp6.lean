import Derived.Test.YtppmloolcbpkgaaGreatDoorAsOp5
import Derived.Laws.IdiomStrings
import Derived.Laws.RangeString
/-
  AS, part 10: conversions, maps, ranges over strings.
-/
namespace Go.As

section
variable {P : Program} {E : En} {w : World}

theorem bytesOut_ok {h : Array Obj} : ∀ {cs : List AV} {us : List Value} {l : List Nat}, bytesOut cs = some l → VRs E h cs us → us = (l.map UInt8.ofNat).map (fun b => Value.int .u8 (b.toNat : Int)) ∧ ∀ b ∈ l, b < 256
  | [], us, l, h1, h2 => by
    simp [bytesOut] at h1
    subst h1
    rw [VRs_nil] at h2
    simp [h2]
  | x :: cs, us, l, h1, h2 => by
    rw [VRs_cons] at h2
    obtain ⟨u, vs, rfl, h3, h4⟩ := h2
    unfold bytesOut at h1
    split at h1
    · rename_i he; simp at he
    · rename_i b xs he
      simp only [List.cons.injEq] at he
      obtain ⟨rfl, rfl⟩ := he
      split at h1
      · rename_i hb
        split at h1
        · rename_i l' hl
          simp at h1
          subst h1
          obtain ⟨e1, e2⟩ := bytesOut_ok hl h4
          simp only [VR, SE.den] at h3
          refine ⟨?_, ?_⟩
          · rw [h3, e1]
            simp [UInt8.toNat_ofNat', Nat.mod_eq_of_lt hb]
          · intro y hy
            rcases List.mem_cons.1 hy with rfl | hy
            · exact hb
            · exact e2 y hy
        · simp at h1
      · simp at h1
    · simp at h1

theorem evConvert_ok [Glob] {tt : TT} (htt : TTok P tt) {H H' : Hp} (r : RelH E H w) {sT dT : Nat} {x v : AV} {u : Value} (hx : VR E w.heap x u) (h : evConvert tt sT dT x H = some (v, H')) :
    ∃ y w' E', (convert sT dT u).run P w = .ok y w' ∧ Stp E H w E' H' w' ∧ RelH E' H' w' ∧ VR E' w'.heap v y := by
  unfold evConvert at h
  split at h
  · simp at h
  · rename_i j hj
    obtain ⟨sd, hsd, hsk⟩ := kinds_of (htt sT j hj)
    split at h
    · rename_i i hi
      have hti := htt dT i hi
      split at h
      · rename_i k hk
        have hd := und_int hti hk
        split at h
        · rename_i kk n
          simp only [Option.some.injEq, Prod.mk.injEq] at h
          obtain ⟨rfl, rfl⟩ := h
          simp only [VR] at hx
          subst hx
          refine ⟨.int k (k.wrap n), w, E, ?_, Stp.refl _ _ _, r, by simp only [VR, SE.den, fwrap_eq]⟩
          simp [convert, run_underlying hsd, run_underlying hd, Conv.intToInt, SE.den]
        · rename_i kk e hne
          simp only [Option.some.injEq, Prod.mk.injEq] at h
          obtain ⟨rfl, rfl⟩ := h
          simp only [VR] at hx
          subst hx
          refine ⟨.int k (k.wrap (e.den E.ρ)), w, E, ?_, Stp.refl _ _ _, r, by simp only [VR, SE.den]⟩
          simp [convert, run_underlying hsd, run_underlying hd, Conv.intToInt]
        · simp at h
      · rename_i hk
        have hd := und_string hti hk
        split at h
        · rename_i hjk
          split at h
          · rename_i s
            simp only [Option.some.injEq, Prod.mk.injEq] at h
            obtain ⟨rfl, rfl⟩ := h
            have hx' := hx
            simp only [VR] at hx
            obtain ⟨rfl, _⟩ := hx
            refine ⟨_, w, E, ?_, Stp.refl _ _ _, r, hx'⟩
            simp [convert, run_underlying (und_string (htt sT j hj) hjk), run_underlying hd]
          · simp at h
        · rename_i e hjk
          have hs := und_slice (htt sT j hj) hjk
          split at h
          · simp at h
          · rename_i ie hie
            split at h
            · rename_i hu8
              have he := und_int (htt e ie hie) hu8.1
              split at h
              · simp only [Option.some.injEq, Prod.mk.injEq] at h
                obtain ⟨rfl, rfl⟩ := h
                simp only [VR] at hx
                subst hx
                refine ⟨.string .empty, w, E, ?_, Stp.refl _ _ _, r, ?_⟩
                · rw [run_convert_bytes_string w sT dT e none 0 0 hs he hd]
                  rfl
                · simp only [VR]
                  exact ⟨rfl, by simp⟩
              · rename_i id o len c
                split at h
                · rename_i cs hcs
                  rw [Option.map_eq_some_iff] at h
                  obtain ⟨l, hl, he2⟩ := h
                  simp only [Prod.mk.injEq] at he2
                  obtain ⟨rfl, rfl⟩ := he2
                  simp only [VR] at hx
                  obtain ⟨hid, a, cap, rfl, hcap, hc⟩ := hx
                  obtain ⟨b, o', us, e1, e2, e3, e4, e5⟩ := readAt_ok r (p := .ptr id o) (u := .pointer (some ⟨(E.θ id).1, (E.θ id).2 + o, none⟩)) (by simp only [VR]; exact ⟨trivial, hid⟩) hcs
                  obtain ⟨e6, e7⟩ := bytesOut_ok hl e3
                  have hlen : len = (l.map UInt8.ofNat).length := by
                    have := e3.length
                    rw [e6] at e2
                    simp at e2
                    simp [e2]
                  have ha : a = ⟨(E.θ id).1, (E.θ id).2 + o, none⟩ ∨ len = 0 := by
                    cases c with
                    | exact c =>
                      simp only [CapR] at hc
                      rcases hc.2 with hc | hc
                      · exact .inl hc
                      · right; omega
                    | rest es =>
                      simp only [CapR] at hc
                      rcases hc with hc | hc
                      · exact .inl hc.1
                      · right; omega
                  refine ⟨.string (strB l), w, E, ?_, Stp.refl _ _ _, r, by simp only [VR]; exact ⟨trivial, e7⟩⟩
                  rw [hlen]
                  refine run_convert_bytes_back w sT dT e a cap (l.map UInt8.ofNat) hs he hd fun k hk => ?_
                  rcases ha with ha | ha
                  · subst ha
                    rw [add_none, cell?_eq]
                    simp only [Value.pointer.injEq, Option.some.injEq, Addr.mk.injEq] at e1
                    obtain ⟨e1a, e1b, _⟩ := e1
                    rw [e1a, e1b]
                    refine e4 k _ ?_
                    rw [e6, List.getElem?_map, List.getElem?_eq_getElem hk]
                    rfl
                  · omega
                · simp at h
              · simp at h
            · simp at h
        · simp at h
      · rename_i e hk
        have hd := und_slice hti hk
        split at h
        · simp at h
        · rename_i ie hie
          split at h
          · rename_i hu8
            have he := und_int (htt e ie hie) hu8.1
            split at h
            · rename_i s
              simp only [Option.some.injEq, Prod.mk.injEq] at h
              obtain ⟨rfl, rfl⟩ := h
              simp only [VR] at hx
              obtain ⟨rfl, hlt⟩ := hx
              have hs := und_string (htt sT j hj) hu8.2
              have hsz : (strB s).size = s.length := strB_size s
              have hge := grownCap_ge w (strB s).size 0 e
              have hrow : (bytesRow (strB s) (grownCap w (strB s).size 0 e)).size = grownCap w (strB s).size 0 e := by
                have h1 : (strB s).data.size = s.length := hsz
                simp only [bytesRow, Array.size_append, Array.size_map, Array.size_replicate, h1]
                omega
              have hv : VRs E w.heap (s.map fun c => AV.int .u8 (.lit (Int.ofNat c))) ((s.map UInt8.ofNat).map (fun b => Value.int .u8 (b.toNat : Int))) := by
                clear hge hrow hsz
                induction s with
                | nil => simp [VRs]
                | cons b s ih =>
                  have hb := hlt b (by simp)
                  rw [List.map_cons, List.map_cons, List.map_cons, VRs_cons]
                  refine ⟨_, _, rfl, ?_, ih fun c hc => hlt c (by simp [hc])⟩
                  simp [VR, SE.den, UInt8.toNat_ofNat', Nat.mod_eq_of_lt hb]
              obtain ⟨s1, s2⟩ := newcells_step r (bytesRow (strB s) (grownCap w (strB s).size 0 e)) (bytesRow (strB s) (grownCap w (strB s).size 0 e)).size ((bytesRow (strB s) (grownCap w (strB s).size 0 e)).size + 1) e hv
                (by intro u hu; simp only [List.mem_map] at hu; obtain ⟨b, _, rfl⟩ := hu; rfl)
                (by
                  intro k u hu
                  have hk := (List.getElem?_eq_some_iff.1 hu).1
                  simp only [List.length_map] at hk
                  simp only [bytesRow]
                  rw [Array.getElem?_append_left (by have h1 : (strB s).data.size = s.length := hsz; simp only [Array.size_map, h1]; exact hk)]
                  rw [← hu]
                  simp [strB])
                (by intro o h1 h2; omega)
                (w' := w.drew.alloc (.cells (bytesRow (strB s) (grownCap w (strB s).size 0 e)) e ((bytesRow (strB s) (grownCap w (strB s).size 0 e)).size, (bytesRow (strB s) (grownCap w (strB s).size 0 e)).size + 1))) rfl ⟨rfl, rfl, rfl⟩
              refine ⟨_, _, _, run_bytes_of_string w sT dT e (strB s) hs hd he, s1, s2, ?_⟩
              simp only [VR, hsz]
              refine ⟨En.ext_dm_new _ _ _ _, ⟨w.heap.size, 0, none⟩, _, rfl, by rw [← hsz]; exact hge, ?_⟩
              simp only [CapR, En.ext_θ_new, En.ext_κ_new]
              left
              refine ⟨trivial, ?_⟩
              rw [← hsz, hrow]
              omega
            · simp at h
          · simp at h
      · simp at h
    · simp at h

end
end Go.As

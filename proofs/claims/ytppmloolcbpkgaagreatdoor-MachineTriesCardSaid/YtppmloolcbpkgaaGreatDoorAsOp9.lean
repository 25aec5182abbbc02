import Derived.Test.YtppmloolcbpkgaaGreatDoorAsOp8
/-
  AS, part 13: append.
-/
namespace Go.As

section
variable {P : Program} {E : En} {w : World}

/-- what is appended, as the built-in sees it -/
structure Src (P : Program) (E : En) (w : World) (s m : Nat) (news : List AV) (u : Value) (us : Array Value) : Prop where
  len : ∀ w2, (Builtin.lenOf u).run P w2 = .ok m w2
  first : ∀ w2 : World, w2.heap = w.heap → (Builtin.firstCells s m u).run P w2 = .ok us w2
  vrs : VRs E w.heap news us.toList
  size : us.size = m * s
  ones : ∀ x ∈ us.toList, x.oneCell' = true

theorem CellsAt.loads {b o n : Nat} {us : List Value} (hn : us.length = n) (h : CellsAt w.heap b o us) (w2 : World) (hw : w2.heap = w.heap) : (loadCells ⟨b, o, none⟩ n).run P w2 = .ok us.toArray w2 :=
  run_loadCells_at hn (by rw [hw]; exact h)

theorem slice_addr {id off len cap : Nat} {a : Addr} {c : ACap} (hc : CapR E id off len a cap c) : a = ⟨(E.θ id).1, (E.θ id).2 + off, none⟩ ∨ cap = 0 := by
  cases c with
  | exact c =>
    simp only [CapR] at hc
    rcases hc.2 with hc2 | hc2
    · exact .inl hc2
    · right; omega
  | rest es =>
    simp only [CapR] at hc
    rcases hc with hc | hc
    · exact .inl hc.1
    · exact .inr hc.1

/-- the cells of a slice's own -/
theorem slice_first [Glob] {H : Hp} (r : RelH E H w) {id o len cap s : Nat} {a : Addr} {c : ACap} {l : List AV} (hid : E.dm id) (hc : CapR E id o len a cap c) (hlen : len ≤ cap) (h : readAt H (.ptr id o) (len * s) = some l) :
    ∃ us : List Value, us.length = len * s ∧ VRs E w.heap l us ∧ (∀ u ∈ us, u.oneCell' = true) ∧ ∀ w2 : World, w2.heap = w.heap → (loadCells a (len * s)).run P w2 = .ok us.toArray w2 := by
  obtain ⟨b, o', us, e1, e2, e3, e4, e5⟩ := readAt_ok r (p := .ptr id o) (u := .pointer (some ⟨(E.θ id).1, (E.θ id).2 + o, none⟩)) (by simp only [VR]; exact ⟨trivial, hid⟩) h
  simp only [Value.pointer.injEq, Option.some.injEq, Addr.mk.injEq] at e1
  obtain ⟨e1a, e1b, _⟩ := e1
  refine ⟨us, e2, e3, e5, fun w2 hw => ?_⟩
  rcases slice_addr hc with ha | ha
  · rw [ha, e1a, e1b]
    exact e4.loads e2 w2 hw
  · obtain rfl : len = 0 := by omega
    rw [Nat.zero_mul] at e2 ⊢
    rw [List.eq_nil_of_length_eq_zero e2]
    rfl

theorem srcCells_ok [Glob] {H : Hp} (r : RelH E H w) {s m : Nat} {y : AV} {u : Value} {news : List AV} (hy : VR E w.heap y u) (h : srcCells s y H = some (m, news)) : ∃ us, Src P E w s m news u us := by
  unfold srcCells at h
  split at h
  · simp only [Option.some.injEq, Prod.mk.injEq] at h
    obtain ⟨rfl, rfl⟩ := h
    simp only [VR] at hy
    subst hy
    exact ⟨#[], fun _ => rfl, fun w2 _ => by simp [Builtin.firstCells], by simp [VRs], by simp, by simp⟩
  · rename_i id o len c
    rw [Option.map_eq_some_iff] at h
    obtain ⟨l, h1, h2⟩ := h
    simp only [Prod.mk.injEq] at h2
    obtain ⟨rfl, rfl⟩ := h2
    simp only [VR] at hy
    obtain ⟨hid, a, cap, rfl, hlen, hc⟩ := hy
    obtain ⟨us, e1, e2, e3, e4⟩ := slice_first (P := P) r hid hc hlen h1
    exact ⟨us.toArray, fun _ => rfl, fun w2 hw => by simp only [Builtin.firstCells]; exact e4 w2 hw, by simpa using e2, by simpa using e1, by simpa using e3⟩
  · rename_i cs n full
    rw [Option.map_eq_some_iff] at h
    obtain ⟨l, h1, h2⟩ := h
    simp only [Prod.mk.injEq] at h2
    obtain ⟨rfl, rfl⟩ := h2
    simp only [VR] at hy
    obtain ⟨b, o, cap, us, rfl, hn, hf, h4, h5, h6, h7⟩ := hy
    obtain ⟨g1, g2⟩ := h5.take? h1
    have hl := h5.length
    have htl : (us.take (n * s)).length = n * s := by rw [List.length_take]; omega
    exact ⟨(us.take (n * s)).toArray, fun _ => rfl, fun w2 hw => by simp only [Builtin.firstCells]; exact (h6.take (n * s)).loads htl w2 hw, by simpa using g1, by simpa using htl,
      fun x hx => h7 x (List.mem_of_mem_take (by simpa using hx))⟩
  · rename_i b
    split at h
    · rename_i hs
      simp only [Option.some.injEq, Prod.mk.injEq] at h
      obtain ⟨rfl, rfl⟩ := h
      simp only [VR] at hy
      obtain ⟨rfl, hlt⟩ := hy
      have hsz : (strB b).size = b.length := strB_size b
      have hex : (strB b).extract 0 b.length = strB b := by rw [strB_extract]; simp
      refine ⟨(strB b).data.map fun c => Value.int .u8 (c.toNat : Int), fun w2 => by simp [Builtin.lenOf, hsz], fun w2 _ => by simp [Builtin.firstCells, hex], ?_, ?_, ?_⟩
      · have : ((strB b).data.map fun c => Value.int .u8 (c.toNat : Int)).toList = (b.map UInt8.ofNat).map fun c => Value.int .u8 (c.toNat : Int) := by simp [strB]
        rw [this]
        clear hex hsz this
        induction b with
        | nil => simp [VRs]
        | cons x b ih =>
          have hx := hlt x (by simp)
          rw [List.map_cons, List.map_cons, List.map_cons, VRs_cons]
          refine ⟨_, _, rfl, ?_, ih fun c hc => hlt c (by simp [hc])⟩
          simp [VR, SE.den, UInt8.toNat_ofNat', Nat.mod_eq_of_lt hx]
      · have h1 : (strB b).data.size = b.length := hsz
        rw [Array.size_map, h1, hs, Nat.mul_one]
      · intro x hx
        simp only [Array.toList_map, List.mem_map] at hx
        obtain ⟨c, _, rfl⟩ := hx
        rfl
    · simp at h
  · simp at h

/-- the built-in where there is room -/
theorem append_room {t t2 ty e s m n cap : Nat} {d2 : TypeDesc} {inf : TypeInfo} {a : Option Addr} {u2 : Value} {us : Array Value} {news : List AV} {w' : World} (ht : P.underlying t = some (.slice e)) (ht2 : P.underlying t2 = some d2)
    (hd2 : ∀ k, d2 ≠ .int k) (hi : P.info? e = some inf) (hs : inf.size = s) (src : Src P E w s m news u2 us) (hroom : n + m ≤ cap)
    (hst : match a with | some a => (storeCells (a.add (n * s)) us.toList).run P w = .ok () w' | none => w' = w) :
    (Builtin.append_ #[t, t2] ty #[.slice a n cap, u2]).run P w = .ok (.slice a (n + m) cap) w' := by
  have hf := src.first w rfl
  have hl := src.len w
  cases a with
  | none =>
    simp only at hst
    subst hst
    simp [Builtin.append_, run_underlying ht, run_underlying ht2, sizeOf, typeInfo, hi, hs, hl, hroom, hf]
  | some a =>
    simp only at hst
    simp [Builtin.append_, run_underlying ht, run_underlying ht2, sizeOf, typeInfo, hi, hs, hl, hroom, hf, hst]

/-- the built-in where there is none -/
theorem append_grow {t t2 ty e s m n cap : Nat} {d2 : TypeDesc} {inf : TypeInfo} {z u u2 : Value} {us olds : Array Value} {news : List AV} (ht : P.underlying t = some (.slice e)) (ht2 : P.underlying t2 = some d2)
    (hd2 : ∀ k, d2 ≠ .int k) (hi : P.info? e = some inf) (hs : inf.size = s) (hz : inf.zero = some z) (hb : inf.bytes ≠ 0) (src : Src P E w s m news u2 us) (hroom : cap < n + m) (hbound : (n + m) * inf.bytes ≤ 1000000000)
    (a : Option Addr) (hu : u = .slice a n cap) (hold : ∀ w2 : World, w2.heap = w.heap → (Builtin.firstCells s n u).run P w2 = .ok olds w2) :
    (Builtin.append_ #[t, t2] ty #[u, u2]).run P w = .ok (.slice (some ⟨w.heap.size, 0, none⟩) (n + m) (grownCap w (n + m) cap e))
      (w.drew.alloc (.cells (olds ++ us ++ Builtin.zeroCells z.cells (grownCap w (n + m) cap e - (n + m))) e)) := by
  subst hu
  have hf := src.first w.drew rfl
  have ho := hold w.drew rfl
  have hl := src.len w
  have hn : ¬ (n + m ≤ cap) := by omega
  have h48 : ¬ (281474976710656 < Builtin.nextslicecap (n + m) cap * inf.bytes) := by
    have h1 : Builtin.nextslicecap (n + m) cap * inf.bytes ≤ 2 * (n + m) * inf.bytes := Nat.mul_le_mul_right _ (nextslicecap_le hroom)
    have h2 : 2 * (n + m) * inf.bytes = 2 * ((n + m) * inf.bytes) := Nat.mul_assoc _ _ _
    omega
  have h48' : ¬ (2 ^ 48 < Builtin.nextslicecap (n + m) cap * inf.bytes) := h48
  simp [Builtin.append_, run_underlying ht, run_underlying ht2, sizeOf, typeInfo, zeroValue, hi, hs, hz, hl, hn, hb, h48', Question.forced, ho, hf, newRow, grownCap]

theorem growTo_ok [Glob] {t t2 ty : Nat} {H H' : Hp} (r : RelH E H w) {ie : TI} {e n m cap : Nat} {cs news old : List AV} {v : AV} {d2 : TypeDesc} {u2 : Value} {us olds : Array Value} (hte : TIok P e ie)
    (ht : P.underlying t = some (.slice e)) (ht2 : P.underlying t2 = some d2) (hd2 : ∀ k, d2 ≠ .int k) (hb0 : ie.bytes ≠ 0) (hzl : ie.zero.length = ie.size)
    (src : Src P E w ie.size m news u2 us) (hroom : cap < n + m) (a : Option Addr) (hcs : cs = old ++ news)
    (hov : VRs E w.heap old olds.toList) (ho1 : ∀ x ∈ olds.toList, x.oneCell' = true) (hos : olds.size = n * ie.size)
    (hold : ∀ w2 : World, w2.heap = w.heap → (Builtin.firstCells ie.size n (.slice a n cap)).run P w2 = .ok olds w2) (h : growTo ie e n m cs H = some (v, H')) :
    ∃ x w' E', (Builtin.append_ #[t, t2] ty #[.slice a n cap, u2]).run P w = .ok x w' ∧ Stp E H w E' H' w' ∧ RelH E' H' w' ∧ VR E' w'.heap v x := by
  subst hcs
  unfold growTo at h
  split at h
  · rename_i hbound
    simp only [Option.some.injEq, Prod.mk.injEq] at h
    obtain ⟨rfl, rfl⟩ := h
    obtain ⟨inf, d, z, h1, h2, h3, h4, h5, h6, h7, h8⟩ := hte.all
    have hz := ofScalars_VRs (E := E) (h := w.heap) h4
    have hzs : z.cells.size = ie.size := by have := hz.1.length; simp only [Array.length_toList] at this; omega
    have hge := grownCap_ge w (n + m) cap e
    have hsrc := src.size
    obtain ⟨s1, s2⟩ := newcells_step r (olds ++ us ++ Builtin.zeroCells z.cells (grownCap w (n + m) cap e - (n + m))) 0 0 e (hov.append src.vrs)
      (by intro x hx; rcases List.mem_append.1 hx with hx | hx; exact ho1 x hx; exact src.ones x hx)
      (by
        intro i x hx
        have hi := (List.getElem?_eq_some_iff.1 hx).1
        rw [Array.getElem?_append_left (by simpa using hi)]
        rw [← Array.getElem?_toList, Array.toList_append]
        exact hx)
      (by omega) (w' := w.drew.alloc (.cells (olds ++ us ++ Builtin.zeroCells z.cells (grownCap w (n + m) cap e - (n + m))) e)) rfl ⟨rfl, rfl, rfl⟩
    refine ⟨_, _, _, append_grow (s := ie.size) ht ht2 hd2 h1 h5 h3 (by rw [h6]; exact hb0) src hroom (by rw [h6]; exact hbound) a rfl hold, s1, s2, ?_⟩
    simp only [VR]
    refine ⟨En.ext_dm_new _ _ _ _, _, _, rfl, hge, ?_⟩
    simp only [CapR, En.ext_θ_new, En.ext_κ_new]
    left
    refine ⟨trivial, ?_⟩
    simp only [Array.size_append, size_zeroCells, hos, hsrc, hzs, ← Nat.add_mul]
    rw [Nat.zero_add]
    congr 1
    omega
  · simp at h

set_option maxHeartbeats 800000 in
theorem appendTo_ok [Glob] {t t2 ty : Nat} {H H' : Hp} (r : RelH E H w) {ie : TI} {e m : Nat} {news : List AV} {x v : AV} {d2 : TypeDesc} {u u2 : Value} {us : Array Value} (hte : TIok P e ie)
    (ht : P.underlying t = some (.slice e)) (ht2 : P.underlying t2 = some d2) (hd2 : ∀ k, d2 ≠ .int k) (hs0 : ie.size ≠ 0) (hb0 : ie.bytes ≠ 0) (hzl : ie.zero.length = ie.size)
    (src : Src P E w ie.size m news u2 us) (hx : VR E w.heap x u) (h : appendTo ie e m news x H = some (v, H')) :
    ∃ y w' E', (Builtin.append_ #[t, t2] ty #[u, u2]).run P w = .ok y w' ∧ Stp E H w E' H' w' ∧ RelH E' H' w' ∧ VR E' w'.heap v y := by
  obtain ⟨inf, d, z, h1, h2, h3, h4, h5, h6, h7, h8⟩ := hte.all
  have hpos : 0 < ie.size := by omega
  have hnl := src.vrs.length
  have hns := src.size
  simp only [Array.length_toList] at hnl
  unfold appendTo at h
  split at h
  · -- nil
    simp only [VR] at hx
    subst hx
    split at h
    · rename_i hm
      subst hm
      simp only [Option.some.injEq, Prod.mk.injEq] at h
      obtain ⟨rfl, rfl⟩ := h
      exact ⟨_, w, E, append_room (s := ie.size) ht ht2 hd2 h1 h5 src (Nat.le_refl _) (by simp only), Stp.refl _ _ _, r, by simp [VR]⟩
    · rename_i hm
      exact growTo_ok (cap := 0) r hte ht ht2 hd2 hb0 hzl src (by omega) none (old := []) (olds := #[]) (by simp) (by simp [VRs]) (by simp) (by simp) (fun w2 _ => by simp [Builtin.firstCells]) h
  · -- a slice of a known capacity
    rename_i id o len c
    have hx0 := hx
    simp only [VR] at hx
    obtain ⟨hid, a, cap, rfl, hlen, hc⟩ := hx
    have hcap : cap = c := by simp only [CapR] at hc; exact hc.1
    subst hcap
    split at h
    · rename_i hroom
      split at h
      · rename_i cs e' hl
        split at h
        · rename_i cs' hs
          simp only [Option.some.injEq, Prod.mk.injEq] at h
          obtain ⟨rfl, rfl⟩ := h
          obtain ⟨w', g1, g2, g3⟩ := write_step (P := P) r hl hs src.vrs src.ones
          have hst : (storeCells (a.add (len * ie.size)) us.toList).run P w = .ok () w' := by
            rcases slice_addr hc with ha | ha
            · rw [ha, add_none, Nat.add_assoc]; exact g1
            · obtain rfl : m = 0 := by omega
              have hnil : us.toList = [] := List.eq_nil_of_length_eq_zero (by rw [Array.length_toList, hns, Nat.zero_mul])
              rw [hnil] at g1 ⊢
              exact g1
          refine ⟨_, w', E, append_room (s := ie.size) ht ht2 hd2 h1 h5 src hroom hst, g2, g3, ?_⟩
          simp only [VR]
          refine ⟨hid, a, cap, rfl, hroom, ?_⟩
          simp only [CapR] at hc ⊢
          exact hc
        · simp at h
      · simp at h
    · rename_i hroom
      split at h
      · rename_i old hold
        obtain ⟨ols, f1, f2, f3, f4⟩ := slice_first (P := P) r hid hc hlen hold
        exact growTo_ok (cap := cap) r hte ht ht2 hd2 hb0 hzl src (by omega) (some a) (old := old) (olds := ols.toArray) rfl (by simpa using f2) (by simpa using f3) (by simpa using f1)
          (fun w2 hw => by simp only [Builtin.firstCells]; exact f4 w2 hw) h
      · simp at h
  · -- a slice up to its block's end
    rename_i id o len es
    split at h
    · rename_i hes
      subst hes
      simp only [VR] at hx
      obtain ⟨hid, a, cap, rfl, hlen, hc⟩ := hx
      split at h
      · rename_i cs e' hl
        obtain ⟨arr, lo, hi, cus, b1, b2, b3, b4, b5, b6, b7⟩ := (r.live id _ hl).2.1
        split at h
        · rename_i hle
          split at h
          · rename_i cs' hs
            simp only [Option.some.injEq, Prod.mk.injEq] at h
            obtain ⟨rfl, rfl⟩ := h
            obtain ⟨w', g1, g2, g3⟩ := write_step (P := P) r hl hs src.vrs src.ones
            have hroom : len + m ≤ cap := by
              simp only [CapR] at hc
              rcases hc with ⟨_, hc⟩ | ⟨rfl, rfl, hc⟩
              · have : (len + m) * ie.size ≤ cap * ie.size := by omega
                exact Nat.le_of_mul_le_mul_right this hpos
              · have : (0 + m) * ie.size = 0 := by omega
                rcases Nat.mul_eq_zero.1 this with hh | hh <;> omega
            have hst : (storeCells (a.add (len * ie.size)) us.toList).run P w = .ok () w' := by
              rcases slice_addr hc with ha | ha
              · rw [ha, add_none, Nat.add_assoc]; exact g1
              · obtain rfl : m = 0 := by omega
                have hnil : us.toList = [] := List.eq_nil_of_length_eq_zero (by rw [Array.length_toList, hns, Nat.zero_mul])
                rw [hnil] at g1 ⊢
                exact g1
            refine ⟨_, w', E, append_room (s := ie.size) ht ht2 hd2 h1 h5 src hroom hst, g2, g3, ?_⟩
            simp only [VR]
            refine ⟨hid, a, cap, rfl, hroom, ?_⟩
            simp only [CapR] at hc ⊢
            rcases hc with hc | ⟨rfl, rfl, hc⟩
            · exact .inl hc
            · exact .inr ⟨rfl, by omega, hc⟩
          · simp at h
        · rename_i hnle
          split at h
          · rename_i hend
            obtain ⟨hend, rfl⟩ := hend
            split at h
            · rename_i old hd
              obtain ⟨d1, d2', d3⟩ := b2.drop? hd
              have hcl := b2.length
              have hm0 : m ≠ 0 := by
                intro hm
                subst hm
                rw [Nat.add_zero] at hnle
                omega
              by_cases hroom : len + m ≤ cap
              · -- in place
                have hfirst : a = ⟨(E.θ id).1, (E.θ id).2 + o, none⟩ ∧ o + cap * ie.size = E.κ id := by
                  simp only [CapR] at hc
                  rcases hc with hc | hc
                  · exact hc
                  · omega
                obtain ⟨rfl, hkap⟩ := hfirst
                unfold growTo at h
                split at h
                · simp only [Option.some.injEq, Prod.mk.injEq] at h
                  obtain ⟨rfl, rfl⟩ := h
                  have hml : len * ie.size + m * ie.size ≤ cap * ie.size := by rw [← Nat.add_mul]; exact Nat.mul_le_mul_right _ hroom
                  have hul : us.toList.length = m * ie.size := by simpa using hns
                  obtain ⟨w', arr', e1, e2, e3, e4, e5, e6, e7⟩ := run_storeCells_ok (P := P) (E.θ id).1 ((E.θ id).2 + (o + len * ie.size)) e' lo hi us.toList 0 arr w b1 b6 (by omega) src.ones
                  have hst : (storeCells ((⟨(E.θ id).1, (E.θ id).2 + o, none⟩ : Addr).add (len * ie.size)) us.toList).run P w = .ok () w' := by
                    rw [add_none, Nat.add_assoc]; exact e1
                  have kp : Keeps E w.heap (E.ext H.fresh ((E.θ id).1, (E.θ id).2 + o) (cap * ie.size)) w'.heap :=
                    ⟨rfl, fun _ hh => .inr hh, fun _ hh => En.ext_θ E _ _ _ (r.undm hh), fun _ hh => En.ext_κ E _ _ _ (r.undm hh), fun _ hh => hh, (keeps_write r hl e4).roh⟩
                  have hstep := renew_step r hl (.cells (old ++ news) e') o (cap * ie.size) e3 e4 e2 (by
                    simp only [OR, En.ext_θ_new, En.ext_κ_new]
                    refine ⟨arr', lo, hi, cus.drop o ++ us.toList, e5, VRs.keep kp _ _ (d1.append src.vrs), ?_, ?_, by omega, by rw [e6]; exact b6, ?_⟩
                    · intro i y hy
                      rw [e7]
                      have hdl : (cus.drop o).length = len * ie.size := by rw [List.length_drop]; omega
                      rw [List.getElem?_append] at hy
                      split at hy
                      · rename_i hi'
                        rw [if_neg (by omega)]
                        rw [List.getElem?_drop] at hy
                        rw [Nat.add_assoc]
                        exact b3 _ _ hy
                      · rename_i hi'
                        have hi2 := (List.getElem?_eq_some_iff.1 hy).1
                        rw [if_pos (by omega)]
                        rw [show (E.θ id).2 + o + i - ((E.θ id).2 + (o + len * ie.size) + 0) = i - (cus.drop o).length from by omega]
                        exact hy
                    · rw [List.length_append, d3]; omega
                    · intro y hy
                      rcases List.mem_append.1 hy with hy | hy
                      · exact b7 y (List.mem_of_mem_drop hy)
                      · exact src.ones y hy)
                  refine ⟨_, w', _, append_room (s := ie.size) ht ht2 hd2 h1 h5 src hroom hst, hstep.1, hstep.2, ?_⟩
                  simp only [VR, show (H.drop id).fresh = H.fresh from rfl]
                  refine ⟨En.ext_dm_new _ _ _ _, _, _, rfl, hroom, ?_⟩
                  simp only [CapR, En.ext_θ_new, En.ext_κ_new]
                  left
                  exact ⟨by simp, by omega⟩
                · simp at h
              · -- a new array
                have hread : readAt H (.ptr id o) (len * ie.size) = some old := by
                  simp only [readAt, hl, hd]
                  have : len * ie.size = old.length := by omega
                  rw [this]
                  clear h hd d1 d3 this
                  induction old with
                  | nil => rfl
                  | cons y ys ih => simp [As.take?, ih]
                obtain ⟨ols, f1, f2, f3, f4⟩ := slice_first (P := P) r hid hc hlen hread
                obtain ⟨q1, q2⟩ := drop_step r id
                have src' : Src P E w ie.size m news u2 us := src
                obtain ⟨y, w', E', p1, p2, p3, p4⟩ := growTo_ok (t := t) (t2 := t2) (ty := ty) (cap := cap) q2 hte ht ht2 hd2 hb0 hzl src' (by omega) (some a) (old := old) (olds := ols.toArray) rfl (by simpa using f2) (by simpa using f3) (by simpa using f1)
                  (fun w2 hw => by simp only [Builtin.firstCells]; exact f4 w2 hw) h
                exact ⟨y, w', E', p1, q1.trans p2, p3, p4⟩
            · simp at h
          · simp at h
      · simp at h
    · simp at h
  · -- read only
    rename_i cs n full
    have hx0 := hx
    simp only [VR] at hx
    obtain ⟨b, o, cap, cus, rfl, hn, hf, g4, g5, g6, g7⟩ := hx
    split at h
    · rename_i hm
      subst hm
      simp only [Option.some.injEq, Prod.mk.injEq] at h
      obtain ⟨rfl, rfl⟩ := h
      have hnil : us.toList = [] := List.eq_nil_of_length_eq_zero (by rw [Array.length_toList, hns, Nat.zero_mul])
      exact ⟨_, w, E, append_room (s := ie.size) ht ht2 hd2 h1 h5 src (by omega) (by simp only [hnil]; rfl), Stp.refl _ _ _, r, hx0⟩
    · rename_i hm
      split at h
      · rename_i hfull
        have hcap := hf hfull
        subst hcap
        split at h
        · rename_i old hold
          obtain ⟨j1, j2⟩ := g5.take? hold
          have hcl := g5.length
          have htl : (cus.take (cap * ie.size)).length = cap * ie.size := by rw [List.length_take]; omega
          exact growTo_ok (cap := cap) r hte ht ht2 hd2 hb0 hzl src (by omega) (some ⟨b, o, none⟩) (old := old) (olds := (cus.take (cap * ie.size)).toArray) rfl (by simpa using j1)
            (fun x hx => g7 x (List.mem_of_mem_take (by simpa using hx))) (by simpa using htl)
            (fun w2 hw => by simp only [Builtin.firstCells]; exact (g6.take _).loads htl w2 hw) h
        · simp at h
      · simp at h
  · simp at h

theorem evAppend_ok [Glob] {tt : TT} (htt : TTok P tt) {H H' : Hp} (r : RelH E H w) {t t2 ty : Nat} {x y v : AV} {u u2 : Value} (hx : VR E w.heap x u) (hy : VR E w.heap y u2) (h : evAppend tt t t2 x y H = some (v, H')) :
    ∃ z w' E', (Builtin.append_ #[t, t2] ty #[u, u2]).run P w = .ok z w' ∧ Stp E H w E' H' w' ∧ RelH E' H' w' ∧ VR E' w'.heap v z := by
  unfold evAppend at h
  split at h
  · rename_i ti hti
    split at h
    · rename_i e hk
      split at h
      · rename_i ie hie
        split at h
        · simp at h
        · rename_i ti2 hti2
          obtain ⟨d2, hd2, hk2⟩ := kinds_of (htt t2 ti2 hti2)
          split at h
          · simp at h
          · rename_i k2 hne
            split at h
            · simp at h
            · rename_i hcond
              simp only [not_or, Classical.not_not] at hcond
              split at h
              · simp at h
              · rename_i m news hsrc
                obtain ⟨us, src⟩ := srcCells_ok (P := P) r hy hsrc
                refine appendTo_ok r (htt e ie hie) (und_slice (htt t ti hti) hk) hd2 ?_ hcond.1 hcond.2.1 hcond.2.2 src hx h
                intro k hd
                subst hd
                cases hkk : ti2.kind <;> rw [hkk] at hk2 <;> simp only [KOk] at hk2
                exact hne _ hkk
      · simp at h
    · simp at h
  · simp at h

end
end Go.As

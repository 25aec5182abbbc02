import Derived.Test.YtppmloolcbpkgaaGreatDoorAsOp2
/-
  AS, part 7: new blocks, building, addresses, parts.
-/
namespace Go.As

section
variable {P : Program} {E : En} {w : World}

/-- a new block of cells -/
theorem newcells_step [Glob] {H : Hp} {w' : World} (r : RelH E H w) {cs : List AV} {us : List Value} (arr : Array Value) (lo hi : Nat) (e : TypeId) (hv : VRs E w.heap cs us) (h1 : ∀ u ∈ us, u.oneCell' = true)
    (ha : ∀ (i : Nat) (u : Value), us[i]? = some u → arr[i]? = some u) (hf : ∀ o : Nat, lo ≤ o → o < hi → arr.size ≤ o) (hw : w'.heap = w.heap.push (.cells arr e (lo, hi))) (al : Alike w w') :
    Stp E H w (E.ext H.fresh (w.heap.size, 0) arr.size) (H.new (.cells cs e)) w' ∧ RelH (E.ext H.fresh (w.heap.size, 0) arr.size) (H.new (.cells cs e)) w' := by
  refine new_step r _ _ _ hw al ?_
  have k := keeps_push r (w.heap.size, 0) arr.size (.cells arr e (lo, hi))
  rw [← hw] at k
  have hlen := hv.length
  simp only [OR, En.ext_θ_new, En.ext_κ_new]
  refine ⟨arr, lo, hi, us, by rw [hw]; simp, VRs.keep k _ _ hv, fun i u hu => by rw [Nat.zero_add]; exact ha i u hu, ?_, by omega, hf, h1⟩
  rw [← hlen]
  rcases Nat.lt_or_ge arr.size us.length with hh | hh
  · have := ha arr.size us[arr.size] (by simp [hh])
    simp at this
  · exact hh

theorem ptr_new [Glob] {H : Hp} (_ : RelH E H w) (c : Nat) (h : Array Obj) (off : Nat) : VR (E.ext H.fresh (w.heap.size, 0) c) h (.ptr H.fresh off) (.pointer (some ⟨w.heap.size, off, none⟩)) := by
  simp only [VR, En.ext_θ_new]
  exact ⟨by simp, En.ext_dm_new _ _ _ _⟩

/-! ### store -/
theorem evStore_ok [Glob] {tt : TT} (htt : TTok P tt) {H H' : Hp} (r : RelH E H w) {t : Nat} {p v : AV} {u x : Value} (hp : VR E w.heap p u) (hx : VR E w.heap v x) (h : evStore tt t p v H = some H') :
    ∃ w', (Instr.storeAt t u x).run P w = .ok () w' ∧ Stp E H w E H' w' ∧ RelH E H' w' := by
  unfold evStore at h
  split at h
  · simp at h
  · rename_i i hi
    split at h
    · rename_i hc
      simp only [Bool.and_eq_true, decide_eq_true_eq] at hc
      split at h
      · split at h
        · rename_i id off cs e hl
          split at h
          · rename_i cs' hs
            simp at h
            subst h
            simp only [VR] at hp
            obtain ⟨rfl, _⟩ := hp
            have hcv := hx.cells hc.2
            have hlen : x.cells.size = i.size := by have := hcv.length; simp only [Array.length_toList] at this; omega
            obtain ⟨w', h1, h2, h3⟩ := write_step (P := P) r hl hs hcv (hcv.ones hc.2)
            refine ⟨w', ?_, h2, h3⟩
            simp [Instr.storeAt, Instr.sureAddr, storeVar, sizeOf_run (htt t i hi), hlen, h1]
          · simp at h
        · simp at h
      · simp at h
    · simp at h

/-! ### parts that are filled in -/
theorem foldl_set : ∀ (vs : List Value) (off k : Nat) (arr : Array Value), off + k + vs.length ≤ arr.size →
    ((vs.zipIdx k).foldl (fun cs p => cs.setIfInBounds (off + p.2) p.1) arr).size = arr.size ∧
    ∀ i, ((vs.zipIdx k).foldl (fun cs p => cs.setIfInBounds (off + p.2) p.1) arr)[i]? = if off + k ≤ i ∧ i < off + k + vs.length then vs[i - (off + k)]? else arr[i]?
  | [], off, k, arr, _ => ⟨rfl, fun i => by rw [if_neg (by simp)]; rfl⟩
  | v :: vs, off, k, arr, h => by
    simp only [List.zipIdx_cons, List.foldl_cons]
    obtain ⟨h1, h2⟩ := foldl_set vs off (k + 1) (arr.setIfInBounds (off + k) v) (by simp at h ⊢; omega)
    refine ⟨by rw [h1]; simp, fun i => ?_⟩
    rw [h2 i]
    simp only [List.length_cons] at h ⊢
    by_cases hi : off + k = i
    · rw [if_neg (by omega), if_pos (by omega)]
      subst hi
      have hlt : off + k < arr.size := by omega
      simp [hlt]
    · by_cases hj : off + (k + 1) ≤ i ∧ i < off + (k + 1) + vs.length
      · rw [if_pos hj, if_pos (by omega), show i - (off + k) = (i - (off + (k + 1))) + 1 from by omega]
        simp
      · rw [if_neg hj, if_neg (by omega), Array.getElem?_setIfInBounds_ne hi]

def PartsR (E : En) (h : Array Obj) : List (Nat × AV) → List (Nat × Value) → Prop
  | [], ps => ps = []
  | (i, v) :: xs, ps => ∃ x r, ps = (i, x) :: r ∧ VR E h v x ∧ PartsR E h xs r

theorem fillAll_ok {place : Nat → Option (Nat × Nat)} {h : Array Obj} : ∀ {parts : List (Nat × AV)} {cs cs' : List AV} {us : Array Value} {ps : List (Nat × Value)},
    fillAll place cs parts = some cs' → VRs E h cs us.toList → PartsR E h parts ps → (∀ u ∈ us.toList, u.oneCell' = true) →
    ∃ us' : Array Value, Instr.fill place us ps = some us' ∧ VRs E h cs' us'.toList ∧ ∀ u ∈ us'.toList, u.oneCell' = true
  | [], cs, cs', us, ps, h1, h2, h3, h4 => by
    simp only [PartsR] at h3
    subst h3
    simp [fillAll] at h1
    subst h1
    exact ⟨us, rfl, h2, h4⟩
  | (i, v) :: parts, cs, cs', us, ps, h1, h2, h3, h4 => by
      simp only [PartsR] at h3
      obtain ⟨x, ps', rfl, hx, hb⟩ := h3
      simp only [fillAll] at h1
      split at h1
      · simp at h1
      · rename_i off size hp
        split at h1
        · rename_i hc
          simp only [Bool.and_eq_true, decide_eq_true_eq] at hc
          split at h1
          · rename_i cs2 hs
            have hcv := hx.cells hc.2
            have hlen := hcv.length
            simp only [Array.length_toList] at hlen
            obtain ⟨e1, e2, us', e3, e4⟩ := splice_ok hs h2 hcv
            have hul := h2.length
            simp only [Array.length_toList] at hul
            have hfold := foldl_set x.cells.toList off 0 us (by simp; omega)
            have heq : (x.cells.zipIdx.foldl (fun cs (c, j) => cs.setIfInBounds (off + j) c) us).toList = us' := by
              apply List.ext_getElem?
              intro k
              rw [e4 k]
              have h5 := hfold.2 k
              simp only [Nat.add_zero, Array.length_toList] at h5
              rw [Array.getElem?_toList, ← Array.foldl_toList, Array.toList_zipIdx]
              rw [h5]
              simp only [Array.length_toList, Array.getElem?_toList]
            have h6 : ∀ u ∈ (x.cells.zipIdx.foldl (fun cs (c, j) => cs.setIfInBounds (off + j) c) us).toList, u.oneCell' = true := by
              rw [heq]
              intro u hu
              rw [List.mem_iff_getElem?] at hu
              obtain ⟨k, hk⟩ := hu
              rw [e4 k] at hk
              split at hk
              · exact hcv.ones hc.2 u (List.mem_of_getElem? hk)
              · exact h4 u (List.mem_of_getElem? hk)
            obtain ⟨us2, g1, g2, g3⟩ := fillAll_ok (us := x.cells.zipIdx.foldl (fun cs (c, j) => cs.setIfInBounds (off + j) c) us) h1 (by rw [heq]; exact e3) hb h6
            refine ⟨us2, ?_, g2, g3⟩
            simp only [Instr.fill, hp]
            rw [if_neg]
            · exact g1
            · simp only [Bool.or_eq_true, decide_eq_true_eq, not_or]
              constructor
              · omega
              · omega
          · simp at h1
        · simp at h1

theorem evParts_ok {s : St} {a : Act} (sr : SR E w.heap s.slots a) : ∀ {xs : List (Nat × Operand)} {ps : List (Nat × AV)}, evParts s xs = some ps → PartsR E w.heap ps (xs.map fun p => (p.1, a.eval p.2))
  | [], ps, h => by simp [evParts] at h; subst h; simp [PartsR]
  | (i, x) :: xs, ps, h => by
    simp only [evParts] at h
    split at h
    · simp at h
    · rename_i b hb
      split at h
      · simp at h
      · rename_i bs hbs
        simp at h
        subst h
        simp only [List.map_cons, PartsR]
        exact ⟨_, _, rfl, ev_ok sr hb, evParts_ok sr hbs⟩

theorem nth?_eq {α : Type} : ∀ (l : List α) (i : Nat), nth? l i = l[i]?
  | [], i => by cases i <;> rfl
  | x :: xs, 0 => rfl
  | x :: xs, i + 1 => by simp [nth?, nth?_eq xs i]

theorem mapM_nth {α β : Type} {f : α → Option β} : ∀ {l : List α} {r : List β}, l.mapM f = some r → ∀ i : Nat, r[i]? = (l[i]?).bind f
  | [], r, h, i => by simp at h; subst h; simp
  | x :: xs, r, h, i => by
    simp only [List.mapM_cons, Option.bind_eq_bind, Option.bind_eq_some_iff] at h
    obtain ⟨y, h1, ys, h2, h3⟩ := h
    simp only [pure, Option.some.injEq] at h3
    subst h3
    cases i with
    | zero => simp [h1]
    | succ i => simpa using mapM_nth h2 i

theorem mapM_mk {α β : Type} {f : α → Option β} : ∀ {l : List α} {r : List β}, r.length = l.length → (∀ i : Nat, r[i]? = (l[i]?).bind f) → l.mapM f = some r
  | [], r, h, _ => by simp at h; subst h; simp
  | x :: xs, [], h, _ => by simp at h
  | x :: xs, y :: ys, h, h2 => by
    have h0 := h2 0
    simp at h0
    have ih := mapM_mk (l := xs) (r := ys) (by simpa using h) (fun i => by simpa using h2 (i + 1))
    simp [List.mapM_cons, h0.symm, ih]

theorem mapM_length {α β : Type} {f : α → Option β} : ∀ {l : List α} {r : List β}, l.mapM f = some r → r.length = l.length
  | [], r, h => by simp at h; subst h; simp
  | x :: xs, r, h => by
    simp only [List.mapM_cons, Option.bind_eq_bind, Option.bind_eq_some_iff] at h
    obtain ⟨y, h1, ys, h2, h3⟩ := h
    simp only [pure, Option.some.injEq] at h3
    subst h3
    simp [mapM_length h2]

/-! ### build -/
theorem evBuild_ok {tt : TT} (htt : TTok P tt) {t : Nat} {parts : List (Nat × AV)} {ps : Array (Nat × Value)} {v : AV} (hp : PartsR E w.heap parts ps.toList) (h : evBuild tt t parts = some v) :
    ∃ x, (Instr.build t ps).run P w = .ok x w ∧ VR E w.heap v x := by
  unfold evBuild at h
  split at h
  · rename_i i hi
    have hti := htt t i hi
    obtain ⟨inf, z, g1, g2, g3, g4, g5⟩ := info_of hti
    have hz := ofScalars_VRs (E := E) (h := w.heap) g5
    split at h
    · rename_i fs hk
      rw [Option.map_eq_some_iff] at h
      obtain ⟨cs', h1, rfl⟩ := h
      obtain ⟨us', e1, e2, e3⟩ := fillAll_ok h1 hz.1 hp hz.2
      obtain ⟨flds, hu, hm⟩ := und_struct hti hk
      have hb : P.built t ps.toList = some us' := by
        unfold Program.built
        have hm2 : (flds.toList.mapM fun f => (P.info? f.type).map fun i => (f.offset, i.size)) = some (fs.map fun x => (x.1, x.2.2)) := by
          refine mapM_mk (by simp [mapM_length hm]) fun i => ?_
          have := mapM_nth hm i
          rw [List.getElem?_map, this]
          cases flds.toList[i]? with
          | none => rfl
          | some f => simp only [Option.bind_some, Option.map_map]; rfl
        simp only [g1, hu, g4, hm2]
        rw [← e1]
        congr 1
        funext j
        simp [nth?_eq]
      exact ⟨_, run_build w t ps us' hb, by simp only [VR]; exact ⟨us'.toList, by simp, e2⟩⟩
    · rename_i n e hk
      split at h
      · rename_i s hs
        rw [Option.map_eq_some_iff] at h
        obtain ⟨cs', h1, rfl⟩ := h
        obtain ⟨us', e1, e2, e3⟩ := fillAll_ok h1 hz.1 hp hz.2
        simp only [sizeOf?, Option.map_eq_some_iff] at hs
        obtain ⟨ie, hie, rfl⟩ := hs
        obtain ⟨inf', z', f1, f2, f3, f4, f5⟩ := info_of (htt e ie hie)
        have hb : P.built t ps.toList = some us' := by
          unfold Program.built
          simp only [g1, und_array hti hk, g4, f1]
          rw [← e1, f2]
        exact ⟨_, run_build w t ps us' hb, by simp only [VR]; exact ⟨us'.toList, by simp, e2⟩⟩
      · simp at h
    · simp at h
  · simp at h

theorem repeatL_get {α : Type} (l : List α) (hl : l ≠ []) : ∀ (n i : Nat), i < n * l.length → (repeatL l n)[i]? = l[i % l.length]?
  | 0, i, h => by simp at h
  | n + 1, i, h => by
    have hpos : 0 < l.length := List.length_pos_iff.2 hl
    simp only [repeatL]
    rw [List.getElem?_append]
    split
    · rename_i h2; rw [Nat.mod_eq_of_lt h2]
    · rename_i h2
      rw [repeatL_get l hl n (i - l.length) (by rw [Nat.add_mul] at h; omega)]
      congr 1
      rw [← Nat.mod_eq_sub_mod (by omega)]

theorem repeatL_length {α : Type} (l : List α) : ∀ n, (repeatL l n).length = n * l.length
  | 0 => by simp [repeatL]
  | n + 1 => by simp [repeatL, repeatL_length l n, Nat.add_mul]; omega

theorem repeatL_VRs {h : Array Obj} {cs : List AV} {us : List Value} (hv : VRs E h cs us) : ∀ n, VRs E h (repeatL cs n) (repeatL us n)
  | 0 => by simp [repeatL, VRs]
  | n + 1 => hv.append (repeatL_VRs hv n)

theorem repeatL_mem {α : Type} {l : List α} {x : α} : ∀ {n}, x ∈ repeatL l n → x ∈ l
  | 0, h => by simp [repeatL] at h
  | n + 1, h => by
    simp only [repeatL, List.mem_append] at h
    rcases h with h | h
    · exact h
    · exact repeatL_mem h

/-- the cells of so many zero values -/
theorem zeros_eq (z : Array Value) (hz : z.toList ≠ []) (n : Nat) : ((Array.range (n * z.size)).map (z[· % z.size]!)).toList = repeatL z.toList n := by
  apply List.ext_getElem?
  intro i
  have hpos : 0 < z.size := by have := List.length_pos_iff.2 hz; simpa using this
  by_cases hi : i < n * z.size
  · rw [repeatL_get _ hz n i (by simpa using hi)]
    have hm : i % z.size < z.size := Nat.mod_lt _ hpos
    simp only [Array.getElem?_toList, Array.getElem?_map, Array.getElem?_range, hi, if_true, Option.map_some, Array.length_toList]
    rw [getElem!_pos z (i % z.size) hm, Array.getElem?_eq_getElem hm]
  · rw [List.getElem?_eq_none (by simp; omega), List.getElem?_eq_none (by rw [repeatL_length]; simp; omega)]

/-! ### buildSlice -/
theorem evBuildSlice_ok [Glob] {tt : TT} (htt : TTok P tt) {H H' : Hp} (r : RelH E H w) {t len : Nat} {parts : List (Nat × AV)} {ps : Array (Nat × Value)} {v : AV} (hp : PartsR E w.heap parts ps.toList) (h : evBuildSlice tt t len parts H = some (v, H')) :
    ∃ x w' E', (Instr.buildSlice t len ps).run P w = .ok x w' ∧ Stp E H w E' H' w' ∧ RelH E' H' w' ∧ VR E' w'.heap v x := by
  unfold evBuildSlice at h
  split at h
  · rename_i i hi
    have hti := htt t i hi
    split at h
    · rename_i e hk
      split at h
      · rename_i ie hie
        have htie := htt e ie hie
        obtain ⟨inf, z, g1, g2, g3, g4, g5⟩ := info_of htie
        have hz := ofScalars_VRs (E := E) (h := w.heap) g5
        split at h
        · rename_i hb
          split at h
          · rename_i cs h1
            simp only [Option.some.injEq, Prod.mk.injEq] at h
            obtain ⟨rfl, rfl⟩ := h
            have hsz : len * ie.size ≤ 2 ^ 24 := by
              have : len * ie.size ≤ 1000 * 1000 := Nat.mul_le_mul hb.1 hb.2.1
              omega
            have hzl : z.cells.size = ie.size := by have := hz.1.length; simp only [Array.length_toList] at this; omega
            have key : ∃ us' : Array Value, Instr.fill (fun i => some (i * inf.size, inf.size)) ((Array.range (len * inf.size)).map ((if len * inf.size = 0 then #[] else z.cells)[· % (if len * inf.size = 0 then #[] else z.cells).size]!)) ps.toList = some us' ∧ VRs E w.heap cs us'.toList ∧ ∀ u ∈ us'.toList, u.oneCell' = true := by
              rw [g2]
              by_cases h0 : len * ie.size = 0
              · rw [if_pos h0, h0]
                have hrep : repeatL ie.zero len = [] := by
                  apply List.eq_nil_of_length_eq_zero
                  rw [repeatL_length, hb.2.2]
                  exact h0
                refine fillAll_ok h1 ?_ hp ?_
                · rw [hrep]; simp [VRs]
                · simp
              · rw [if_neg h0]
                have hne : z.cells.toList ≠ [] := by
                  intro hx
                  have hx' : z.cells.size = 0 := by have := congrArg List.length hx; simpa using this
                  rw [hzl] at hx'
                  simp [hx'] at h0
                have hzz := zeros_eq z.cells hne len
                rw [hzl] at hzz
                refine fillAll_ok h1 ?_ hp ?_
                · rw [hzl, hzz]; exact repeatL_VRs hz.1 len
                · rw [hzl, hzz]; intro u hu; exact hz.2 u (repeatL_mem hu)
            obtain ⟨us', e1, e2, e3⟩ := key
            refine ⟨.slice (some ⟨w.heap.size, 0, none⟩) len len, { w with heap := w.heap.push (.cells us' e) }, E.ext H.fresh (w.heap.size, 0) us'.size, ?_, ?_⟩
            · by_cases h0 : len * inf.size = 0
              · rw [if_pos h0] at e1
                rw [h0] at e1
                have e0 : ∀ f : Nat → Value, (Array.range 0).map f = #[] := by intro f; simp
                rw [e0] at e1
                simp [Instr.buildSlice, run_underlying (und_slice hti hk), sizeOf, typeInfo, g1, h0, e0, e1, newRow]
              · rw [if_neg h0] at e1
                have h24 : ¬ (2 ^ 24 < len * inf.size) := by rw [g2]; omega
                simp only [Instr.buildSlice, Sem.run_bind, run_underlying (und_slice hti hk), Result.andThen_ok, sizeOf, typeInfo, zeroValue, run_program, g1, g4, Sem.run_pure, newRow, gt_iff_lt, h24, h0, if_false, Sem.run_ite]
                rw [e1]
                rfl
            · obtain ⟨s1, s2⟩ := newcells_step r us' 0 0 e e2 e3 (fun i u hu => by rw [← Array.getElem?_toList]; exact hu) (by omega) (w' := { w with heap := w.heap.push (.cells us' e) }) rfl ⟨rfl, rfl, rfl⟩
              refine ⟨s1, s2, ?_⟩
              simp only [VR]
              exact ⟨En.ext_dm_new _ _ _ _, ⟨w.heap.size, 0, none⟩, len, rfl, Nat.le_refl _, by simp [CapR, En.ext_θ_new]⟩
          · simp at h
        · simp at h
      · simp at h
    · simp at h
  · simp at h

/-! ### makeSlice -/
theorem litInt_VR {E : En} {h : Array Obj} {v : AV} {u : Value} {n : Int} (hv : VR E h v u) (hl : litInt v = some n) : ∃ k, u = .int k n := by
  unfold litInt at hl
  split at hl
  · simp only [Option.some.injEq] at hl
    subst hl
    simp only [VR, SE.den] at hv
    exact ⟨_, hv⟩
  · simp at hl

theorem evMakeSlice_ok [Glob] {tt : TT} (htt : TTok P tt) {H H' : Hp} (r : RelH E H w) {t : Nat} {l c : AV} {lu cu : Value} {v : AV} (hl : VR E w.heap l lu) (hc : VR E w.heap c cu) (h : evMakeSlice tt t l c H = some (v, H')) :
    ∃ x w' E', (Instr.makeSlice t lu cu).run P w = .ok x w' ∧ Stp E H w E' H' w' ∧ RelH E' H' w' ∧ VR E' w'.heap v x := by
  unfold evMakeSlice at h
  split at h
  · rename_i n hln
    split at h
    · rename_i m hcm
      obtain ⟨k1, rfl⟩ := litInt_VR hl hln
      obtain ⟨k2, rfl⟩ := litInt_VR hc hcm
      split at h
      · rename_i i hi
        have hti := htt t i hi
        split at h
        · rename_i e hk
          split at h
          · rename_i ie hie
            have htie := htt e ie hie
            obtain ⟨inf, z, g1, g2, g3, g4, g5⟩ := info_of htie
            have hz := ofScalars_VRs (E := E) (h := w.heap) g5
            split at h
            · rename_i hb
              obtain ⟨b1, b2, b3, b4, b5⟩ := hb
              simp only [Option.some.injEq, Prod.mk.injEq] at h
              obtain ⟨rfl, rfl⟩ := h
              have hzl : z.cells.size = ie.size := by have := hz.1.length; simp only [Array.length_toList] at this; omega
              have wn : IntKind.i64.wrap (Int.ofNat n) = Int.ofNat n := by
                rw [← fwrap_eq]; simp only [fwrap]; rw [if_pos (by constructor <;> simp <;> omega)]
              have wm : IntKind.i64.wrap (Int.ofNat m) = Int.ofNat m := by
                rw [← fwrap_eq]; simp only [fwrap]; rw [if_pos (by constructor <;> simp <;> omega)]
              have hbm : inf.bytes * m ≤ 1000000000 := by rw [g3]; exact Nat.mul_le_mul b4 b2
              have ai : ∀ (k : IntKind) (x : Int) (w : World), (asInt (Value.int k x)).run P w = .ok x w := fun _ _ _ => rfl
              have key : ∃ us' : Array Value, ((Array.range (m * inf.size)).map ((if m * inf.size = 0 then #[] else z.cells)[· % (if m * inf.size = 0 then #[] else z.cells).size]!)) = us' ∧ VRs E w.heap (repeatL ie.zero m) us'.toList ∧ ∀ u ∈ us'.toList, u.oneCell' = true := by
                rw [g2]
                by_cases h0 : m * ie.size = 0
                · rw [if_pos h0, h0]
                  have hrep : repeatL ie.zero m = [] := by
                    apply List.eq_nil_of_length_eq_zero
                    rw [repeatL_length, b5]
                    exact h0
                  refine ⟨_, rfl, ?_, ?_⟩
                  · rw [hrep]; simp [VRs]
                  · simp
                · rw [if_neg h0]
                  have hne : z.cells.toList ≠ [] := by
                    intro hx
                    have hx' : z.cells.size = 0 := by have := congrArg List.length hx; simpa using this
                    rw [hzl] at hx'
                    simp [hx'] at h0
                  have hzz := zeros_eq z.cells hne m
                  rw [hzl] at hzz
                  refine ⟨_, rfl, ?_, ?_⟩
                  · rw [hzl, hzz]; exact repeatL_VRs hz.1 m
                  · rw [hzl, hzz]; intro u hu; exact hz.2 u (repeatL_mem hu)
              obtain ⟨us', e1, e2, e3⟩ := key
              refine ⟨.slice (some ⟨w.heap.size, 0, none⟩) n m, { w with heap := w.heap.push (.cells us' e) }, E.ext H.fresh (w.heap.size, 0) us'.size, ?_, ?_⟩
              · have t1 : ¬ (Int.ofNat m < 0) := by simp
                have t2 : ¬ ((inf.bytes : Int) * Int.ofNat m > 2 ^ 48) := by
                  have h1 : ((inf.bytes * m : Nat) : Int) ≤ ((1000000000 : Nat) : Int) := Int.ofNat_le.2 hbm
                  rw [Int.natCast_mul] at h1
                  show ¬ ((inf.bytes : Int) * (m : Int) > 2 ^ 48)
                  omega
                have t3 : ¬ (Int.ofNat n < 0) := by simp
                have t4 : ¬ (Int.ofNat n > Int.ofNat m) := by simp; omega
                have t5 : (askRoom (m * inf.bytes)).run P w = .ok () w := by
                  have : ¬ (m * inf.bytes > roomBytes) := by
                    unfold roomBytes
                    rw [Nat.mul_comm]
                    omega
                  unfold askRoom
                  rw [if_neg this]
                  rfl
                have t6 : (Int.ofNat m).toNat = m := rfl
                have t7 : (Int.ofNat n).toNat = n := rfl
                by_cases h0 : m * inf.size = 0
                · rw [if_pos h0] at e1
                  rw [h0] at e1
                  simp only [Instr.makeSlice, Sem.run_bind, run_underlying (und_slice hti hk), Result.andThen_ok, ai, sizeOf, typeInfo, zeroValue, run_program, g1, g4, Sem.run_pure, newRow, Sem.run_ite, wn, wm, t1, t2, t3, t4, t6, t7, h0, decide_false, Bool.or_false, Bool.false_eq_true, if_false, if_true]
                  rw [t5, Result.andThen_ok, e1]
                  rfl
                · rw [if_neg h0] at e1
                  simp only [Instr.makeSlice, Sem.run_bind, run_underlying (und_slice hti hk), Result.andThen_ok, ai, sizeOf, typeInfo, zeroValue, run_program, g1, g4, Sem.run_pure, newRow, Sem.run_ite, wn, wm, t1, t2, t3, t4, t6, t7, h0, decide_false, Bool.or_false, Bool.false_eq_true, if_false]
                  rw [t5, Result.andThen_ok, e1]
                  rfl
              · obtain ⟨s1, s2⟩ := newcells_step r us' 0 0 e e2 e3 (fun i u hu => by rw [← Array.getElem?_toList]; exact hu) (by omega) (w' := { w with heap := w.heap.push (.cells us' e) }) rfl ⟨rfl, rfl, rfl⟩
                refine ⟨s1, s2, ?_⟩
                simp only [VR]
                exact ⟨En.ext_dm_new _ _ _ _, ⟨w.heap.size, 0, none⟩, m, rfl, b1, by simp [CapR, En.ext_θ_new]⟩
            · simp at h
          · simp at h
        · simp at h
      · simp at h
    · simp at h
  · simp at h

end
end Go.As

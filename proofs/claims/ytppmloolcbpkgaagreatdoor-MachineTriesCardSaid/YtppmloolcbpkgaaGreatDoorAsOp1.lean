import Derived.Test.YtppmloolcbpkgaaGreatDoorAsPrim
/-
  AS, part 5: operations that only reckon or read.
-/
namespace Go.As

def PcOk (ρ : Nat → Int) (pc : List (SB × Bool)) : Prop := ∀ c b, (c, b) ∈ pc → c.den ρ = b

def SR (E : En) (h : Array Obj) (slots : Tr AV) (a : Act) : Prop := ∀ t v, slots.get t = some v → ∃ u, a.tmps[t]? = some u ∧ VR E h v u

def OpW (P : Program) (o : Oper) (a : Act) (w : World) (R : Value → World → Prop) : Prop :=
  ∀ (K : Act → World → Prop) (Q : Exit → Act → World → Prop), (∀ u w', R u w' → K (a.put o.dst u) w') → o.wp P a w K Q

theorem OpW.value {P : Program} {o : Oper} {a : Act} {w w' : World} {R : Value → World → Prop} {u : Value} (h : (execOp a.eval o).run P w = .ok (.value u) w') (hr : R u w') : OpW P o a w R :=
  fun K Q hk => by unfold Oper.wp; rw [h]; exact hk u w' hr
theorem OpW.skip {P : Program} {o : Oper} {a : Act} {w w' : World} {R : Value → World → Prop} (h : (execOp a.eval o).run P w = .ok .skip w') (hr : R undef w') : OpW P o a w R :=
  fun K Q hk => by unfold Oper.wp; rw [h]; exact hk _ w' hr

theorem ev_ok {E : En} {w : World} {s : St} {a : Act} (sr : SR E w.heap s.slots a) {x : Operand} {v : AV} (h : ev s x = some v) : VR E w.heap v (a.eval x) := by
  cases x with
  | tmp t =>
    obtain ⟨u, h1, h2⟩ := sr t v h
    simp only [Act.eval, Array.getD_eq_getD_getElem?, h1, Option.getD_some]
    exact h2
  | const c => exact ofConst_VR h
  | func f =>
    simp [ev] at h
    subst h
    simp only [VR, Act.eval]
    exact ⟨[], [], rfl, rfl, rfl⟩
  | global g => simp [ev] at h

theorem evs_ok {E : En} {w : World} {s : St} {a : Act} (sr : SR E w.heap s.slots a) : ∀ {xs : List Operand} {vs : List AV}, evs s xs = some vs → VRs E w.heap vs (xs.map a.eval)
  | [], vs, h => by simp [evs] at h; subst h; simp [VRs]
  | x :: xs, vs, h => by
    simp only [evs] at h
    split at h
    · simp at h
    · rename_i b hb
      split at h
      · simp at h
      · rename_i bs hbs
        simp at h
        subst h
        rw [List.map_cons, VRs_cons]
        exact ⟨_, _, rfl, ev_ok sr hb, evs_ok sr hbs⟩

/-! ### the type table, run -/
section
variable {P : Program} {t : Nat} {i : TI}

theorem isAgg_run (h : TIok P t i) (w : World) : (isAgg t).run P w = .ok i.agg w := by
  obtain ⟨inf, d, z, h1, h2, h3, h4, h5, h6, h7, _⟩ := h.all
  unfold isAgg
  simp only [Sem.run_bind, run_underlying h2, Result.andThen_ok]
  cases d <;> cases hk : i.kind <;> simp only [hk, KOk] at h7 <;> simp [TI.agg, TK.agg, hk]
theorem sizeOf_run (h : TIok P t i) (w : World) : (sizeOf t).run P w = .ok i.size w := by
  obtain ⟨inf, d, z, h1, h2, h3, h4, h5, h6, h7, _⟩ := h.all
  simp [sizeOf, typeInfo, h1, h5]
theorem zeroValue_run (h : TIok P t i) (w : World) : ∃ z, (zeroValue t).run P w = .ok z w ∧ ofScalars z.cells.toList = some i.zero := by
  obtain ⟨inf, d, z, h1, h2, h3, h4, h5, h6, h7, _⟩ := h.all
  exact ⟨z, by simp [zeroValue, typeInfo, h1, h3], h4⟩
theorem und_slice (h : TIok P t i) {e : Nat} (hk : i.kind = .slice e) : P.underlying t = some (.slice e) := by
  obtain ⟨inf, d, z, h1, h2, h3, h4, h5, h6, h7, _⟩ := h.all
  rw [h2]
  cases d <;> simp [hk, KOk] at h7
  rw [h7]
theorem und_array (h : TIok P t i) {n e : Nat} (hk : i.kind = .array n e) : P.underlying t = some (.array n e) := by
  obtain ⟨inf, d, z, h1, h2, h3, h4, h5, h6, h7, _⟩ := h.all
  rw [h2]
  cases d <;> simp [hk, KOk] at h7
  rw [h7.1, h7.2]
theorem und_map (h : TIok P t i) {k e : Nat} (hk : i.kind = .map k e) : P.underlying t = some (.map k e) := by
  obtain ⟨inf, d, z, h1, h2, h3, h4, h5, h6, h7, _⟩ := h.all
  rw [h2]
  cases d <;> simp [hk, KOk] at h7
  rw [h7.1, h7.2]
theorem und_int (h : TIok P t i) {k : IntKind} (hk : i.kind = .int k) : P.underlying t = some (.int k) := by
  obtain ⟨inf, d, z, h1, h2, h3, h4, h5, h6, h7, _⟩ := h.all
  rw [h2]
  cases d <;> simp [hk, KOk] at h7
  rw [h7]
theorem und_string (h : TIok P t i) (hk : i.kind = .string) : P.underlying t = some .string := by
  obtain ⟨inf, d, z, h1, h2, h3, h4, h5, h6, h7, _⟩ := h.all
  rw [h2]
  cases d <;> simp [hk, KOk] at h7
  rfl
theorem und_bool (h : TIok P t i) (hk : i.kind = .bool) : P.underlying t = some .bool := by
  obtain ⟨inf, d, z, h1, h2, h3, h4, h5, h6, h7, _⟩ := h.all
  rw [h2]
  cases d <;> simp [hk, KOk] at h7
  rfl
theorem und_struct (h : TIok P t i) {l : List (Nat × Nat × Nat)} (hk : i.kind = .struct l) : ∃ fs : Array Field, P.underlying t = some (.struct fs) ∧ (fs.toList.mapM fun f => (P.info? f.type).map fun i => (f.offset, f.type, i.size)) = some l := by
  obtain ⟨inf, d, z, h1, h2, h3, h4, h5, h6, h7, _⟩ := h.all
  rw [h2]
  cases d <;> simp [hk, KOk] at h7
  exact ⟨_, rfl, h7⟩
theorem info_of (h : TIok P t i) : ∃ inf z, P.info? t = some inf ∧ inf.size = i.size ∧ inf.bytes = i.bytes ∧ inf.zero = some z ∧ ofScalars z.cells.toList = some i.zero := by
  obtain ⟨inf, d, z, h1, h2, h3, h4, h5, h6, h7, _⟩ := h.all
  exact ⟨inf, z, h1, h5, h6, h3, h4⟩
end

/-! ### load -/
theorem sureAddr_run {P : Program} {a : Addr} {w : World} : (Instr.sureAddr (.pointer (some a))).run P w = .ok a w := rfl

theorem evLoad_ok [Glob] {P : Program} {tt : TT} (htt : TTok P tt) {E : En} {H : Hp} {w : World} (r : RelH E H w) {t : Nat} {p v : AV} {u : Value} (hp : VR E w.heap p u) (h : evLoad tt t p H = some v) :
    ∃ x b o, u = .pointer (some ⟨b, o, none⟩) ∧ (loadVar t ⟨b, o, none⟩).run P w = .ok x w ∧ VR E w.heap v x := by
  unfold evLoad at h
  split at h
  · simp at h
  · rename_i i hi
    have hti := htt t i hi
    split at h
    · rename_i hagg
      rw [Option.map_eq_some_iff] at h
      obtain ⟨l, hl, rfl⟩ := h
      obtain ⟨b, o, us, rfl, h2, h3, h4, _⟩ := readAt_ok r hp hl
      refine ⟨.agg us.toArray, b, o, rfl, ?_, by simp only [VR]; exact ⟨us, rfl, h3⟩⟩
      simp [loadVar, isAgg_run hti, hagg, sizeOf_run hti, run_loadCells_at h2 h4]
    · rename_i hagg
      split at h
      · rename_i v' l hl
        simp at h
        subst h
        obtain ⟨b, o, us, rfl, h2, h3, h4, _⟩ := readAt_ok r hp hl
        rw [VRs_cons] at h3
        obtain ⟨x, vs, rfl, h5, _⟩ := h3
        refine ⟨x, b, o, rfl, ?_, h5⟩
        have hc : w.cell? ⟨b, o, none⟩ = some x := by rw [cell?_eq]; exact h4 0 x rfl
        simp [loadVar, isAgg_run hti, hagg, hc]
      · simp at h

/-! ### arithmetic -/
theorem fwrap_eq (k : IntKind) (n : Int) : fwrap k n = k.wrap n := by
  unfold fwrap
  split
  · split
    · rename_i h; exact (IntWalk.i64_in n h).symm
    · rfl
  · split
    · rename_i h; exact (IntWalk.u8_in n h).symm
    · rfl
  · rfl

theorem seAdd_den (ρ : Nat → Int) (k : IntKind) (a b : SE) : (seAdd k a b).den ρ = k.wrap (a.den ρ + b.den ρ) := by
  unfold seAdd
  split <;> simp [SE.den, fwrap_eq]
theorem seSub_den (ρ : Nat → Int) (k : IntKind) (a b : SE) : (seSub k a b).den ρ = k.wrap (a.den ρ - b.den ρ) := by
  unfold seSub
  split <;> simp [SE.den, fwrap_eq]
theorem seMul_den (ρ : Nat → Int) (k : IntKind) (a b : SE) : (seMul k a b).den ρ = k.wrap (a.den ρ * b.den ρ) := by
  unfold seMul
  split <;> simp [SE.den, fwrap_eq]
theorem sbLt_den (ρ : Nat → Int) (a b : SE) : (sbLt a b).den ρ = decide (a.den ρ < b.den ρ) := by
  unfold sbLt
  split
  · rfl
  · simp [SB.den]
theorem sbLe_den (ρ : Nat → Int) (a b : SE) : (sbLe a b).den ρ = decide (a.den ρ ≤ b.den ρ) := by
  unfold sbLe
  split
  · rfl
  · simp only [SB.den]
    rw [Bool.eq_iff_iff]
    simp
theorem sbEq_den (ρ : Nat → Int) (a b : SE) : (sbEq a b).den ρ = (a.den ρ == b.den ρ) := by
  unfold sbEq
  split
  · simp [SB.den, SE.den]
  · simp only [SB.den, SE.den]
    rw [Bool.eq_iff_iff]
    simp
    exact eq_comm
  · split
    · rename_i h; have h := seEq_eq _ _ h; subst h; simp [SB.den]
    · simp [SB.den]
theorem sbNot_den (ρ : Nat → Int) (s : SB) : (sbNot s).den ρ = !(s.den ρ) := by
  unfold sbNot
  split <;> simp [SB.den]

theorem eqNats_iff : ∀ (x y : List Nat), eqNats x y = true ↔ x = y
  | [], [] => by simp [eqNats]
  | [], _ :: _ => by simp [eqNats]
  | _ :: _, [] => by simp [eqNats]
  | a :: x, b :: y => by
    simp only [eqNats]
    cases h : a.beq b with
    | true => have := Nat.eq_of_beq_eq_true h; subst this; simp [eqNats_iff x y]
    | false => have := Nat.ne_of_beq_eq_false h; simp [this]

theorem strB_toList (s : List Nat) : (strB s).toList = s.map UInt8.ofNat := by
  rw [Go.ByteArray.toList_eq]
  simp [strB]

theorem strB_size (s : List Nat) : (strB s).size = s.length := by
  show (List.map UInt8.ofNat s).toArray.size = _
  simp

theorem ofNat_inj {a b : Nat} (ha : a < 256) (hb : b < 256) (h : UInt8.ofNat a = UInt8.ofNat b) : a = b := by
  have := congrArg UInt8.toNat h
  simpa [UInt8.toNat_ofNat', Nat.mod_eq_of_lt ha, Nat.mod_eq_of_lt hb] using this

theorem map_inj : ∀ {x y : List Nat}, (∀ b ∈ x, b < 256) → (∀ b ∈ y, b < 256) → x.map UInt8.ofNat = y.map UInt8.ofNat → x = y
  | [], [], _, _, _ => rfl
  | [], _ :: _, _, _, h => by simp at h
  | _ :: _, [], _, _, h => by simp at h
  | a :: x, b :: y, hx, hy, h => by
    simp only [List.map_cons, List.cons.injEq] at h
    rw [ofNat_inj (hx a (by simp)) (hy b (by simp)) h.1, map_inj (fun c hc => hx c (by simp [hc])) (fun c hc => hy c (by simp [hc])) h.2]

theorem strB_eq {x y : List Nat} (hx : ∀ b ∈ x, b < 256) (hy : ∀ b ∈ y, b < 256) : ((strB x).toList == (strB y).toList) = eqNats x y := by
  rw [strB_toList, strB_toList, Bool.eq_iff_iff, beq_iff_eq, eqNats_iff]
  exact ⟨map_inj hx hy, fun h => by rw [h]⟩

theorem strB_less : ∀ {x y : List Nat}, (∀ b ∈ x, b < 256) → (∀ b ∈ y, b < 256) → Op.bytesLess (x.map UInt8.ofNat) (y.map UInt8.ofNat) = bytesLess x y
  | [], [], _, _ => by simp [Op.bytesLess, bytesLess]
  | [], _ :: _, _, _ => by simp [Op.bytesLess, bytesLess]
  | _ :: _, [], _, _ => by simp [Op.bytesLess, bytesLess]
  | a :: x, b :: y, hx, hy => by
    have ha := hx a (by simp)
    have hb := hy b (by simp)
    have ih := strB_less (x := x) (y := y) (fun c hc => hx c (by simp [hc])) (fun c hc => hy c (by simp [hc]))
    simp only [List.map_cons, Op.bytesLess, bytesLess, ih]
    have h1 : decide (UInt8.ofNat a < UInt8.ofNat b) = a.blt b := by
      rw [Bool.eq_iff_iff, decide_eq_true_iff, UInt8.lt_iff_toNat_lt, UInt8.toNat_ofNat', UInt8.toNat_ofNat', Nat.mod_eq_of_lt ha, Nat.mod_eq_of_lt hb]
      simp [Nat.blt]
      omega
    have h2 : (UInt8.ofNat a == UInt8.ofNat b) = a.beq b := by
      rw [Bool.eq_iff_iff, beq_iff_eq]
      exact ⟨fun h => by rw [ofNat_inj ha hb h]; simp, fun h => by rw [Nat.eq_of_beq_eq_true h]⟩
    rw [h1, h2]
    cases a.blt b <;> cases a.beq b <;> simp

theorem strOp_ok {P : Program} {E : En} {w : World} {op : BinOp} {x y : List Nat} {v : AV} (hx : ∀ b ∈ x, b < 256) (hy : ∀ b ∈ y, b < 256) (h : strOp op x y = some v) :
    ∃ u, (Op.stringOp op (strB x) (strB y)).run P w = .ok u w ∧ VR E w.heap v u := by
  have he := strB_eq hx hy
  have hl : Op.bytesLess (strB x).toList (strB y).toList = bytesLess x y := by rw [strB_toList, strB_toList]; exact strB_less hx hy
  unfold strOp at h
  cases op <;> simp only [Option.some.injEq, reduceCtorEq] at h
  case add =>
    split at h
    · rename_i hh
      simp at h
      subst h
      have hm : IntKind.i64.max = 9223372036854775807 := by decide
      refine ⟨.string (strB x ++ strB y), ?_, ?_⟩
      · simp only [Op.stringOp, strB_size, hm]
        rw [if_neg (by omega)]
        rfl
      · simp only [VR]
        refine ⟨?_, ?_⟩
        · congr 1
          apply ByteArray.ext
          simp [strB]
        · intro b hb
          rcases List.mem_append.1 hb with hb | hb
          · exact hx b hb
          · exact hy b hb
    · simp at h
  all_goals
    subst h
    exact ⟨_, rfl, by simp only [VR, SB.den, he, hl]⟩

end Go.As

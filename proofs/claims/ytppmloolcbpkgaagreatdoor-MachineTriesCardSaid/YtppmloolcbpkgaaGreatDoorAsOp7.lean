import Derived.Test.YtppmloolcbpkgaaGreatDoorAsOp6
/-
  AS, part 11: maps; ranges over strings; the built-in functions but append.
-/
namespace Go.As

section
variable {P : Program} {E : En} {w : World}

def KeyD (d : TypeDesc) : TK → Prop
  | .int _ => ∃ k, d = .int k
  | .string => d = .string
  | .bool => d = .bool
  | _ => False

theorem keyKind_ok {tt : TT} (htt : TTok P tt) {t : Nat} {kk : TK} (h : keyKind tt t = some kk) : ∃ d, P.underlying t = some d ∧ KeyD d kk := by
  unfold keyKind at h
  split at h
  · rename_i i hi
    split at h <;> simp only [Option.some.injEq, reduceCtorEq] at h <;> subst h
    · rename_i k hk; exact ⟨_, und_int (htt t i hi) hk, k, rfl⟩
    · rename_i hk; exact ⟨_, und_string (htt t i hi) hk, rfl⟩
    · rename_i hk; exact ⟨_, und_bool (htt t i hi) hk, rfl⟩
  · simp at h

theorem strB_beq {x y : List Nat} (hx : ∀ b ∈ x, b < 256) (hy : ∀ b ∈ y, b < 256) : (strB x == strB y) = eqNats x y := by
  have e : (strB x == strB y) = ((strB x).data == (strB y).data) := rfl
  rw [e, Bool.eq_iff_iff, beq_iff_eq, eqNats_iff]
  constructor
  · intro h
    have h2 := congrArg (fun b => b.toList) h
    simp only [strB] at h2
    exact map_inj hx hy h2
  · intro h; rw [h]

theorem keyEq_ok {h : Array Obj} {pc : List (SB × Bool)} (hp : PcOk E.ρ pc) {kk : TK} {d : TypeDesc} (hd : KeyD d kk) {a b : AV} {u u' : Value} (ha : VR E h a u) (hb : VR E h b u') {c : Bool} (hc : keyEq pc kk a b = some c) :
    Instr.sameNow d u u' = some c ∧ (c = true → ∀ n, Instr.sameBits (n + 1) u' u = true) := by
  unfold keyEq at hc
  split at hc
  · obtain ⟨k, rfl⟩ := hd
    split at hc
    · simp only [VR] at ha hb
      subst ha hb
      split at hc
      · rename_i hk
        subst hk
        have hc := decideB_ok hp hc
        rw [sbEq_den] at hc
        subst hc
        refine ⟨by simp [Instr.sameNow], fun hh n => ?_⟩
        simp at hh
        simp [Instr.sameBits, hh]
      · simp at hc
    · simp at hc
  · simp only [KeyD] at hd
    subst hd
    split at hc
    · simp only [VR] at ha hb
      obtain ⟨rfl, ha⟩ := ha
      obtain ⟨rfl, hb⟩ := hb
      simp at hc
      subst hc
      have he := strB_beq ha hb
      refine ⟨by simp only [Instr.sameNow, he], fun hh n => ?_⟩
      simp only [Instr.sameBits]
      have h2 := (eqNats_iff _ _).1 hh
      subst h2
      rw [he]
      exact hh
    · simp at hc
  · simp only [KeyD] at hd
    subst hd
    split at hc
    · simp only [VR, SB.den] at ha hb
      subst ha hb
      simp at hc
      subst hc
      refine ⟨by simp [Instr.sameNow], fun hh n => ?_⟩
      simp at hh
      simp [Instr.sameBits, hh]
    · simp at hc
  · simp at hc

theorem checkKey_run {t : Nat} {kk : TK} {d : TypeDesc} (hu : P.underlying t = some d) (hd : KeyD d kk) (b : Bool) (v : Value) : (Instr.checkKey b 10000 t v).run P w = .ok () w := by
  have h0 : (10000 : Nat) = 9999 + 1 := rfl
  rw [h0]
  generalize (9999 : Nat) = n
  cases kk <;> simp only [KeyD] at hd
  · subst hd; simp [Instr.checkKey, run_underlying hu]
  · obtain ⟨k, rfl⟩ := hd; simp [Instr.checkKey, run_underlying hu]
  · subst hd; simp [Instr.checkKey, run_underlying hu]

theorem findK_ok {h : Array Obj} {pc : List (SB × Bool)} (hp : PcOk E.ρ pc) {kk : TK} {d : TypeDesc} (hd : KeyD d kk) {k : AV} {u : Value} (hk : VR E h k u) : ∀ {es : List (AV × AV × Nat)} {ents : List MapEntry} {i : Nat} {res : Option (Nat × AV)},
    EntR E h es ents → findK pc kk k es i = some res →
    (res = none ∧ Instr.findNow d u ents i = some none) ∨
    (∃ j v e, res = some (i + j, v) ∧ ents[j]? = some e ∧ VR E h v e.val ∧ Instr.findNow d u ents i = some (some (i + j, e.val)) ∧ ∀ n, Instr.sameBits (n + 1) e.key u = true)
  | [], ents, i, res, he, hf => by
    simp only [EntR] at he
    subst he
    simp [findK] at hf
    exact .inl ⟨hf.symm, by simp [Instr.findNow]⟩
  | (k', v, b) :: es, ents, i, res, he, hf => by
    simp only [EntR] at he
    obtain ⟨e, r, rfl, h1, h2, h3, h4⟩ := he
    simp only [findK] at hf
    split at hf
    · rename_i hc
      simp at hf
      subst hf
      obtain ⟨g1, g2⟩ := keyEq_ok hp hd hk h1 hc
      exact .inr ⟨0, v, e, rfl, rfl, h2, by simp [Instr.findNow, g1], g2 rfl⟩
    · rename_i hc
      obtain ⟨g1, g2⟩ := keyEq_ok hp hd hk h1 hc
      rcases findK_ok hp hd hk h4 hf with ⟨q1, q2⟩ | ⟨j, v', e', q1, q2, q3, q4, q5⟩
      · exact .inl ⟨q1, by simp [Instr.findNow, g1, q2]⟩
      · refine .inr ⟨j + 1, v', e', ?_, by simpa using q2, q3, ?_, q5⟩
        · rw [q1]; congr 2; omega
        · simp only [Instr.findNow, g1, q4]; congr 3; omega
    · simp at hf

theorem findKey_run {t : Nat} {d : TypeDesc} (hu : P.underlying t = some d) {u : Value} {ents : List MapEntry} {r : Option (Nat × Value)} (h : Instr.findNow d u ents 0 = some r) : (Instr.findKey t u ents).run P w = .ok r w := by
  simp [Instr.findKey, run_underlying hu, h]

theorem getObj_run {r : Nat} {o : Obj} (h : w.heap[r]? = some o) (hn : ∀ c e f, o ≠ .cells c e f) : (getObj r).run P w = .ok o w := by
  unfold getObj
  cases o <;> first | exact absurd rfl (hn _ _ _) | simp only [Sem.run, h]
theorem setObj_run {r : Nat} {o o' : Obj} (h : w.heap[r]? = some o) (hn : ∀ c e f, o ≠ .cells c e f) : (setObj r o').run P w = .ok () { w with heap := w.heap.setIfInBounds r o' } := by
  unfold setObj
  cases o <;> first | exact absurd rfl (hn _ _ _) | simp only [Sem.run, h]

/-- a live block that is no row of cells is set anew -/
theorem setObj_step [Glob] {H : Hp} (r : RelH E H w) {id : Nat} {o : AObj} (hl : H.get id = some o) (ao : AObj) (o' : Obj)
    (ho : ∀ h', h'[(E.θ id).1]? = some o' → Keeps E w.heap E h' → OR E h' id ao) :
    Stp E H w E (H.put id ao) { w with heap := w.heap.setIfInBounds (E.θ id).1 o' } ∧ RelH E (H.put id ao) { w with heap := w.heap.setIfInBounds (E.θ id).1 o' } := by
  have hlt := live_lt r hl
  have hother : ∀ b, b ≠ (E.θ id).1 → ({ w with heap := w.heap.setIfInBounds (E.θ id).1 o' } : World).heap[b]? = w.heap[b]? := fun b hb => by
    show (w.heap.setIfInBounds (E.θ id).1 o')[b]? = _
    rw [Array.getElem?_setIfInBounds_ne (fun e => hb e.symm)]
  refine put_step r hl ao (by simp) hother ⟨rfl, rfl, rfl⟩ (ho _ ?_ (keeps_write r hl hother))
  show (w.heap.setIfInBounds (E.θ id).1 o')[(E.θ id).1]? = _
  simp [hlt]

theorem EntR.length {h : Array Obj} : ∀ {es : List (AV × AV × Nat)} {ents : List MapEntry}, EntR E h es ents → ents.length = es.length
  | [], ents, he => by simp only [EntR] at he; simp [he]
  | (k, v, b) :: es, ents, he => by
    simp only [EntR] at he
    obtain ⟨e, r, rfl, _, _, _, h4⟩ := he
    simp [h4.length]

theorem EntR.set {h : Array Obj} {k v : AV} {uk uv : Value} (hk : VR E h k uk) (hv : VR E h v uv) : ∀ {es : List (AV × AV × Nat)} {ents : List MapEntry} {i : Nat} {e : MapEntry}, EntR E h es ents → ents[i]? = some e →
    EntR E h (setEntry k v es i) (ents.set i { e with key := uk, val := uv })
  | [], ents, i, e, he, hi => by simp only [EntR] at he; subst he; simp at hi
  | (k', v', b) :: es, ents, 0, e, he, hi => by
    simp only [EntR] at he
    obtain ⟨e0, r, rfl, h1, h2, h3, h4⟩ := he
    simp at hi
    subst hi
    simp only [setEntry, List.set_cons_zero, EntR]
    exact ⟨_, r, rfl, hk, hv, h3, h4⟩
  | (k', v', b) :: es, ents, i + 1, e, he, hi => by
    simp only [EntR] at he
    obtain ⟨e0, r, rfl, h1, h2, h3, h4⟩ := he
    simp only [setEntry, List.set_cons_succ, EntR]
    exact ⟨e0, _, rfl, h1, h2, h3, EntR.set hk hv h4 (by simpa using hi)⟩

theorem EntR.push {h : Array Obj} {k v : AV} {uk uv : Value} {c c' : Nat} (hk : VR E h k uk) (hv : VR E h v uv) : ∀ {es : List (AV × AV × Nat)} {ents : List MapEntry}, EntR E h es ents →
    EntR E h (es ++ [(k, v, c)]) (ents ++ [{ key := uk, val := uv, born := c' }])
  | [], ents, he => by
    simp only [EntR] at he
    subst he
    simp only [List.nil_append, EntR]
    exact ⟨_, [], rfl, hk, hv, trivial, rfl⟩
  | (k', v', b) :: es, ents, he => by
    simp only [EntR] at he
    obtain ⟨e0, r, rfl, h1, h2, h3, h4⟩ := he
    simp only [List.cons_append, EntR]
    exact ⟨e0, _, rfl, h1, h2, h3, EntR.push hk hv h4⟩

theorem EntR.erase {h : Array Obj} : ∀ {es : List (AV × AV × Nat)} {ents : List MapEntry} {i : Nat}, EntR E h es ents → EntR E h (eraseNth es i) (ents.eraseIdx i)
  | [], ents, i, he => by simp only [EntR] at he; subst he; simp [eraseNth, EntR]
  | (k', v', b) :: es, ents, 0, he => by
    simp only [EntR] at he
    obtain ⟨e0, r, rfl, h1, h2, h3, h4⟩ := he
    simpa [eraseNth] using h4
  | (k', v', b) :: es, ents, i + 1, he => by
    simp only [EntR] at he
    obtain ⟨e0, r, rfl, h1, h2, h3, h4⟩ := he
    simp only [eraseNth, List.eraseIdx_cons_succ, EntR]
    exact ⟨e0, _, rfl, h1, h2, h3, EntR.erase h4⟩

/-! ### look-up -/
theorem zeroOf_ok {t : Nat} {i : TI} (hti : TIok P t i) {z : AV} (h : zeroOf i = some z) : ∃ u, (zeroValue t).run P w = .ok u w ∧ VR E w.heap z u := by
  obtain ⟨inf, d, zv, h1, h2, h3, h4, h5, h6, h7, h8⟩ := hti.all
  have hz := ofScalars_VRs (E := E) (h := w.heap) h4
  have hr : (zeroValue t).run P w = .ok zv w := by simp [zeroValue, typeInfo, h1, h3]
  refine ⟨zv, hr, ?_⟩
  unfold zeroOf at h
  split at h
  · rename_i ha
    simp at h
    subst h
    rw [ha] at h8
    cases zv <;> simp only [isAggV, reduceCtorEq] at h8
    rename_i cs
    simp only [VR]
    exact ⟨cs.toList, by simp, hz.1⟩
  · rename_i ha
    split at h
    · rename_i v hv
      simp at h
      subst h
      rw [hv] at hz
      obtain ⟨u, vs, e1, e2, e3⟩ := VRs_cons.1 hz.1
      rw [VRs_nil] at e3
      subst e3
      rw [ha] at h8
      have : zv = u := by cases zv <;> simp_all [isAggV, Value.cells]
      rw [this]
      exact e2
    · simp at h

end
end Go.As

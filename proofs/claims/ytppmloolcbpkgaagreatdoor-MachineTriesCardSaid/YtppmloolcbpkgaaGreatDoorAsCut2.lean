import Derived.Test.YtppmloolcbpkgaaGreatDoorAsCut1
/-
  AS, part 32: a state that is an instance of one of a table's.
-/
namespace Go.As
noncomputable section
open Go.RowKit

/-- a state of a table: what is known of slots, of blocks, of numbers (atoms below k); a number that falls -/
structure CS where
  k : Nat
  slots : List (Nat × AV)
  objs : List AObj
  pc : List (SB × Bool)
  m : SE

def slotsTr : List (Nat × AV) → Tr AV → Tr AV
  | [], t => t
  | (i, v) :: l, t => slotsTr l (t.put i (some v))

def objsTr : List AObj → Nat → Tr AObj → Tr AObj
  | [], _, t => t
  | o :: os, i, t => objsTr os (i + 1) (t.put i (some o))

def CS.st (c : CS) : St := ⟨slotsTr c.slots .nil, ⟨objsTr c.objs 0 .nil, c.objs.length, none⟩, c.pc⟩

/-! ### a guess at the names -/
structure Gs where
  ns : Tr SE
  bl : Tr (Nat × Nat)

def Gs.num (g : Gs) (i : Nat) (e : SE) : Gs := match g.ns.get i with
  | some _ => g
  | none => ⟨g.ns.put i (some e), g.bl⟩
def Gs.blk (g : Gs) (i j k : Nat) : Gs := match g.bl.get i with
  | some _ => g
  | none => ⟨g.ns, g.bl.put i (some (j, k))⟩

def gsSE (x y : SE) (g : Gs) : Gs := match x with
  | .atm i => g.num i y
  | _ => g

mutual
def gsAV : AV → AV → Gs → Gs
  | .int _ e, .int _ f, g => gsSE e f g
  | .ptr i o, .ptr j p, g => g.blk i j (p - o)
  | .slice i o _ _, .slice j p _ _, g => g.blk i j (p - o)
  | .map i, .map j, g => g.blk i j 0
  | .agg a, .agg b, g => gsAVs a b g
  | .tuple a, .tuple b, g => gsAVs a b g
  | .iface _ a, .iface _ b, g => gsAV a b g
  | .func _ a b, .func _ c d, g => gsAVs b d (gsAVs a c g)
  | .rptr a, .rptr b, g => gsAVs a b g
  | .ro a _ _, .ro b _ _, g => gsAVs a b g
  | _, _, g => g
def gsAVs : List AV → List AV → Gs → Gs
  | x :: xs, y :: ys, g => gsAVs xs ys (gsAV x y g)
  | _, _, g => g
end

def gsEnts : List (AV × AV × Nat) → List (AV × AV × Nat) → Gs → Gs
  | (k, v, _) :: xs, (k', v', _) :: ys, g => gsEnts xs ys (gsAV v v' (gsAV k k' g))
  | _, _, g => g

def gsOb (k : Nat) (o o' : AObj) (g : Gs) : Gs := match o, o' with
  | .cells a _, .cells b _ => match drop? k b with
    | some b => gsAVs a b g
    | none => g
  | .map a _, .map b _ => gsEnts a b g
  | _, _ => g

def gsSlots (s : Tr AV) : List (Nat × AV) → Gs → Gs
  | [], g => g
  | (t, v) :: l, g => match s.get t with
    | some v' => gsSlots s l (gsAV v v' g)
    | none => gsSlots s l g

def gsObjs (h : Hp) : List AObj → Nat → Gs → Gs
  | [], _, g => g
  | o :: os, i, g => match g.bl.get i with
    | some (j, k) => match h.get j with
      | some o' => gsObjs h os (i + 1) (gsOb k o o' g)
      | none => gsObjs h os (i + 1) g
    | none => gsObjs h os (i + 1) g

def listNs (g : Tr SE) : Nat → Nat → List SE
  | 0, _ => []
  | n + 1, i => match g.get i with
    | some e => e :: listNs g n (i + 1)
    | none => .lit 0 :: listNs g n (i + 1)
def listBl (g : Tr (Nat × Nat)) : Nat → Nat → List Nat
  | 0, _ => []
  | n + 1, i => match g.get i with
    | some (e, _) => e :: listBl g n (i + 1)
    | none => 0 :: listBl g n (i + 1)
def listSh (g : Tr (Nat × Nat)) : Nat → Nat → List Nat
  | 0, _ => []
  | n + 1, i => match g.get i with
    | some (_, e) => e :: listSh g n (i + 1)
    | none => 0 :: listSh g n (i + 1)

def CS.guess (c : CS) (s : St) : Ren := match gsObjs s.h c.objs 0 (gsSlots s.slots c.slots ⟨.nil, .nil⟩) with
  | ⟨ns, bl⟩ => ⟨listNs ns c.k 0, listBl bl c.objs.length 0, listSh bl c.objs.length 0⟩

/-! ### the check -/
def notIn (i : Nat) : List Nat → Bool
  | [] => true
  | j :: l => match Nat.beq i j with
    | true => false
    | false => notIn i l
def distinctN : List Nat → Bool
  | [] => true
  | i :: l => notIn i l && distinctN l

def slotsOk (r : Ren) (n : Nat) (s : Tr AV) : List (Nat × AV) → Bool
  | [] => true
  | (t, v) :: l => match s.get t with
    | some v' => idsOk n v && sameAV (r.av v) v' && slotsOk r n s l
    | none => false

def objsOk (r : Ren) (n : Nat) (h : Hp) : List AObj → Nat → Bool
  | [], _ => true
  | o :: os, i => match h.get (r.id i) with
    | some o' => obOk n o && sameOb r (r.sft i) o o' && objsOk r n h os (i + 1)
    | none => false

/-- a number's bounds, sums and differences too -/
def bnd0 (pc : List (SB × Bool)) (e : SE) : Option Int × Option Int := match e with
  | .lit z => (some z, some z)
  | e => bounds e pc

def inI64 (a b : Int) : Bool := decide (-9223372036854775808 ≤ a) && decide (b ≤ 9223372036854775807)

def bnds (pc : List (SB × Bool)) (e : SE) : Option Int × Option Int := match e with
  | .wrap .i64 (.add a b) => match bnd0 pc a, bnd0 pc b with
    | (some la, some ha), (some lb, some hb) => if inI64 (la + lb) (ha + hb) then (some (la + lb), some (ha + hb)) else bounds e pc
    | _, _ => bounds e pc
  | .wrap .i64 (.sub a b) => match bnd0 pc a, bnd0 pc b with
    | (some la, some ha), (some lb, some hb) => if inI64 (la - hb) (ha - lb) then (some (la - hb), some (ha - lb)) else bounds e pc
    | _, _ => bounds e pc
  | e => bnd0 pc e

def belowO (a b : Option Int) : Bool := match a, b with
  | some x, some y => decide (x < y)
  | _, _ => false
def atMostO (a b : Option Int) : Bool := match a, b with
  | some x, some y => decide (x ≤ y)
  | _, _ => false

/-- a test that comes out so, for sure -/
def prv (pc : List (SB × Bool)) (c : SB) (v : Bool) : Bool :=
  match decideB pc c with
  | some b => b == v
  | none => match c with
    | .lt a b => match v with
      | true => belowO (bnds pc a).2 (bnds pc b).1
      | false => atMostO (bnds pc b).2 (bnds pc a).1
    | .eq a b => match v with
      | true => false
      | false => belowO (bnds pc a).2 (bnds pc b).1 || belowO (bnds pc b).2 (bnds pc a).1
    | _ => false

def factsOk (pv : List (SB × Bool) → SB → Bool → Bool) (r : Ren) (pc : List (SB × Bool)) : List (SB × Bool) → Bool
  | [] => true
  | (c, v) :: l => pv pc (r.sb c) v && factsOk pv r pc l

def CS.fits (pv : List (SB × Bool) → SB → Bool → Bool) (c : CS) (s : St) (r : Ren) : Bool :=
  Nat.ble r.ns.length 900 && Nat.beq r.bl.length c.objs.length && distinctN r.bl && slotsOk r c.objs.length s.slots c.slots && objsOk r c.objs.length s.h c.objs 0 && factsOk pv r s.pc c.pc

/-! ### soundness -/
theorem slotsTr_get : ∀ {l : List (Nat × AV)} {t : Tr AV} {i : Nat} {v : AV}, (slotsTr l t).get i = some v → (i, v) ∈ l ∨ t.get i = some v
  | [], t, i, v, h => .inr h
  | (j, x) :: l, t, i, v, h => by
    simp only [slotsTr] at h
    rcases slotsTr_get h with h | h
    · exact .inl (by simp [h])
    · rw [Tr.get_put] at h
      split at h
      · rename_i e
        simp only [Option.some.injEq] at h
        exact .inl (by rw [e, h]; simp)
      · exact .inr h

theorem objsTr_get : ∀ {l : List AObj} {i : Nat} {t : Tr AObj} {j : Nat}, (objsTr l i t).get j = if i ≤ j ∧ j < i + l.length then l[j - i]? else t.get j
  | [], i, t, j => by
    rw [if_neg (by simp)]
    rfl
  | o :: os, i, t, j => by
    simp only [objsTr]
    rw [objsTr_get, Tr.get_put]
    simp only [List.length_cons]
    by_cases h1 : i + 1 ≤ j ∧ j < i + 1 + os.length
    · rw [if_pos h1, if_pos (by omega)]
      have : j - i = (j - (i + 1)) + 1 := by omega
      rw [this, List.getElem?_cons_succ]
    · rw [if_neg h1]
      by_cases h3 : j = i
      · subst h3
        rw [if_pos rfl, if_pos (by omega)]
        simp
      · rw [if_neg h3, if_neg (by omega)]

theorem notIn_ok {i : Nat} : ∀ {l : List Nat}, notIn i l = true → i ∉ l
  | [], _ => by simp
  | j :: l, h => by
    simp only [notIn] at h
    split at h
    · simp at h
    · rename_i hb
      have := Nat.ne_of_beq_eq_false hb
      simp [this, notIn_ok h]

theorem distinct_inj : ∀ {l : List Nat}, distinctN l = true → ∀ {i j x : Nat}, nth? l i = some x → nth? l j = some x → i = j
  | [], _, i, _, _, h, _ => by simp [nth?] at h
  | y :: l, hd, i, j, x, h1, h2 => by
    simp only [distinctN, Bool.and_eq_true] at hd
    have hn := notIn_ok hd.1
    have hm : ∀ {i : Nat} {l : List Nat} {x : Nat}, nth? l i = some x → x ∈ l := by
      intro i l x h
      rw [nth?_eq] at h
      exact List.mem_of_getElem? h
    cases i with
    | zero =>
      cases j with
      | zero => rfl
      | succ j =>
        simp only [nth?, Option.some.injEq] at h1 h2
        subst h1
        exact absurd (hm h2) hn
    | succ i =>
      cases j with
      | zero =>
        simp only [nth?, Option.some.injEq] at h1 h2
        subst h2
        exact absurd (hm h1) hn
      | succ j =>
        simp only [nth?] at h1 h2
        rw [distinct_inj hd.2 h1 h2]

theorem slotsOk_mem {r : Ren} {n : Nat} {s : Tr AV} : ∀ {l : List (Nat × AV)}, slotsOk r n s l = true → ∀ {t : Nat} {v : AV}, (t, v) ∈ l → ∃ v', s.get t = some v' ∧ idsOk n v = true ∧ r.av v = v'
  | [], _, _, _, h => by simp at h
  | (t0, v0) :: l, hs, t, v, h => by
    simp only [slotsOk] at hs
    split at hs
    · rename_i v' hv
      simp only [Bool.and_eq_true] at hs
      rcases List.mem_cons.1 h with h | h
      · simp only [Prod.mk.injEq] at h
        obtain ⟨rfl, rfl⟩ := h
        exact ⟨v', hv, hs.1.1, sameAV_eq _ _ hs.1.2⟩
      · exact slotsOk_mem hs.2 h
    · simp at hs

theorem objsOk_get {r : Ren} {n : Nat} {h : Hp} : ∀ {l : List AObj} {i : Nat}, objsOk r n h l i = true → ∀ {j : Nat} {o : AObj}, l[j]? = some o → ∃ o', h.get (r.id (i + j)) = some o' ∧ obOk n o = true ∧ sameOb r (r.sft (i + j)) o o' = true
  | [], _, _, _, _, h => by simp at h
  | o0 :: os, i, hs, j, o, hj => by
    simp only [objsOk] at hs
    split at hs
    · rename_i o' ho
      simp only [Bool.and_eq_true] at hs
      cases j with
      | zero =>
        simp at hj
        subst hj
        exact ⟨o', ho, hs.1.1, hs.1.2⟩
      | succ j =>
        have := objsOk_get hs.2 (j := j) (by simpa using hj)
        rw [show i + (j + 1) = i + 1 + j by omega]
        exact this
    · simp at hs

/-- a prover of tests that says the truth -/
def PvOk (pv : List (SB × Bool) → SB → Bool → Bool) : Prop := ∀ (ρ : Nat → Int) (pc : List (SB × Bool)) (c : SB) (v : Bool), PcOk ρ pc → pv pc c v = true → c.den ρ = v

theorem bnd0_ok {ρ : Nat → Int} {pc : List (SB × Bool)} (hp : PcOk ρ pc) (e : SE) : Within (bnd0 pc e).1 (bnd0 pc e).2 (e.den ρ) := by
  unfold bnd0
  split
  · simp [Within, SE.den]
  · exact within_ok hp

theorem inI64_wrap {a b x : Int} (h : inI64 a b = true) (h1 : a ≤ x) (h2 : x ≤ b) : IntKind.i64.wrap x = x := by
  simp only [inI64, Bool.and_eq_true, decide_eq_true_eq] at h
  rw [← fwrap_eq]
  simp only [fwrap]
  rw [if_pos (by omega)]

theorem bnds_ok {ρ : Nat → Int} {pc : List (SB × Bool)} (hp : PcOk ρ pc) (e : SE) : Within (bnds pc e).1 (bnds pc e).2 (e.den ρ) := by
  unfold bnds
  split
  · rename_i a b
    have ha := bnd0_ok hp a
    have hb := bnd0_ok hp b
    split
    · rename_i la ha' lb hb' e1 e2
      rw [e1] at ha
      rw [e2] at hb
      have a1 := ha.1 la rfl
      have a2 := ha.2 ha' rfl
      have b1 := hb.1 lb rfl
      have b2 := hb.2 hb' rfl
      split
      · rename_i hi
        simp only [SE.den]
        rw [inI64_wrap hi (by omega) (by omega)]
        constructor <;> intro l hl <;> simp at hl <;> omega
      · exact within_ok hp
    · exact within_ok hp
  · rename_i a b
    have ha := bnd0_ok hp a
    have hb := bnd0_ok hp b
    split
    · rename_i la ha' lb hb' e1 e2
      rw [e1] at ha
      rw [e2] at hb
      have a1 := ha.1 la rfl
      have a2 := ha.2 ha' rfl
      have b1 := hb.1 lb rfl
      have b2 := hb.2 hb' rfl
      split
      · rename_i hi
        simp only [SE.den]
        rw [inI64_wrap hi (by omega) (by omega)]
        constructor <;> intro l hl <;> simp at hl <;> omega
      · exact within_ok hp
    · exact within_ok hp
  · exact bnd0_ok hp e

theorem belowO_ok {a b : Option Int} {x y : Int} (h : belowO a b = true) (h1 : ∀ z, a = some z → x ≤ z) (h2 : ∀ z, b = some z → z ≤ y) : x < y := by
  unfold belowO at h
  split at h
  · have := h1 _ rfl
    have := h2 _ rfl
    simp at h
    omega
  · simp at h
theorem atMostO_ok {a b : Option Int} {x y : Int} (h : atMostO a b = true) (h1 : ∀ z, a = some z → x ≤ z) (h2 : ∀ z, b = some z → z ≤ y) : x ≤ y := by
  unfold atMostO at h
  split at h
  · have := h1 _ rfl
    have := h2 _ rfl
    simp at h
    omega
  · simp at h

theorem prv_ok : PvOk prv := by
  intro ρ pc c v hp h
  unfold prv at h
  split at h
  · rename_i b hb
    rw [decideB_ok hp hb]
    simpa using h
  · split at h
    · have ha := fun a => bnds_ok hp a
      split at h
      · have := belowO_ok h (ha _).2 (ha _).1
        simp [SB.den, this]
      · have := atMostO_ok h (ha _).2 (ha _).1
        simp [SB.den]; omega
    · have ha := fun a => bnds_ok hp a
      split at h
      · simp at h
      · simp only [Bool.or_eq_true] at h
        simp only [SB.den, beq_eq_false_iff_ne, ne_eq]
        rcases h with h | h
        · have := belowO_ok h (ha _).2 (ha _).1
          omega
        · have := belowO_ok h (ha _).2 (ha _).1
          omega
    · simp at h

theorem factsOk_ok {pv : List (SB × Bool) → SB → Bool → Bool} (hpv : PvOk pv) {r : Ren} (hl : r.ns.length ≤ 900) {ρ : Nat → Int} {pc : List (SB × Bool)} (hp : PcOk ρ pc) : ∀ {l : List (SB × Bool)}, factsOk pv r pc l = true → PcOk (r.env ρ) l
  | [], _ => by intro c b h; simp at h
  | (c0, v0) :: l, h => by
    simp only [factsOk, Bool.and_eq_true] at h
    intro c b hm
    rcases List.mem_cons.1 hm with hm | hm
    · simp only [Prod.mk.injEq] at hm
      obtain ⟨rfl, rfl⟩ := hm
      rw [← Ren.sb_den hl]
      exact hpv ρ pc _ _ hp h.1
    · exact factsOk_ok hpv hl hp h.2 c b hm

theorem fits_fit [Glob] {pv : List (SB × Bool) → SB → Bool → Bool} (hpv : PvOk pv) {E : En} {c : CS} {s : St} {r : Ren} {a : Act} {w : World} (f : Fit E s a w) (h : c.fits pv s r = true) : r.ns.length ≤ 900 ∧ Fit (E.ren r) c.st a w ∧
    ∀ id o, c.st.h.get id = some o → ∃ o', s.h.get (r.id id) = some o' := by
  unfold CS.fits at h
  simp only [Bool.and_eq_true] at h
  obtain ⟨⟨⟨⟨⟨h1, h2⟩, h3⟩, h4⟩, h5⟩, h6⟩ := h
  have hl := Nat.le_of_ble_eq_true h1
  have hn := Nat.eq_of_beq_eq_true h2
  have hget : ∀ id o, c.st.h.get id = some o → c.objs[id]? = some o := by
    intro id o ho
    have : (objsTr c.objs 0 .nil).get id = some o := ho
    rw [objsTr_get] at this
    split at this
    · simpa using this
    · simp [Tr.get] at this
  refine ⟨hl, ⟨⟨?_, ?_, ?_, ?_, f.rel.rob, f.rel.glob⟩, ?_, factsOk_ok hpv hl f.pc h6⟩, ?_⟩
  · intro id hid hd
    have : id < r.bl.length := hd.1
    have hid : c.objs.length ≤ id := hid
    omega
  · intro x hx
    simp [CS.st] at hx
  · intro id o ho
    obtain ⟨o', g1, g2, g3⟩ := objsOk_get h5 (hget id o ho)
    rw [Nat.zero_add] at g1 g3
    obtain ⟨q1, q2, q3⟩ := f.rel.live _ _ g1
    have hlt := (List.getElem?_eq_some_iff.1 (hget id o ho)).1
    exact ⟨⟨by omega, q1⟩, OR.ren hl (by rw [hn]; exact g2) g3 q2, q3⟩
  · intro id id' o o' ho ho' he
    obtain ⟨p, g1, _⟩ := objsOk_get h5 (hget id o ho)
    obtain ⟨p', g1', _⟩ := objsOk_get h5 (hget id' o' ho')
    rw [Nat.zero_add] at g1 g1'
    have heq := f.rel.inj _ _ _ _ g1 g1' he
    have hlt := (List.getElem?_eq_some_iff.1 (hget id o ho)).1
    have hlt' := (List.getElem?_eq_some_iff.1 (hget id' o' ho')).1
    unfold Ren.id at heq
    cases e1 : nth? r.bl id with
    | none => rw [nth?_eq, List.getElem?_eq_none_iff] at e1; omega
    | some x =>
      cases e2 : nth? r.bl id' with
      | none => rw [nth?_eq, List.getElem?_eq_none_iff] at e2; omega
      | some y =>
        rw [e1, e2] at heq
        simp only at heq
        subst heq
        exact distinct_inj h3 e1 e2
  · intro t v ht
    have : (slotsTr c.slots .nil).get t = some v := ht
    rcases slotsTr_get this with h | h
    · obtain ⟨v', g1, g2, g3⟩ := slotsOk_mem h4 h
      obtain ⟨u, q1, q2⟩ := f.sr t v' g1
      exact ⟨u, q1, VR.ren hl v u (by rw [hn]; exact g2) (by rw [g3]; exact q2)⟩
    · simp [Tr.get] at h
  · intro id o ho
    obtain ⟨o', g1, _⟩ := objsOk_get h5 (hget id o ho)
    rw [Nat.zero_add] at g1
    exact ⟨o', g1⟩

end
end Go.As

import GoSem.Claim
import Derived.Orders
import Derived.Scope
import Derived.LoopN
import Derived.Below
import GoSem.Core.View
import GoSem.Core.Layout
import GoSem.Op.Equal
import Derived.WalkKit
import Derived.Lib.Strings
import Derived.Laws.IdiomStrings
import Derived.Laws.RangeString
import Derived.Laws.StructEq
import Derived.Lib.Bytealg
import Derived.Lib.IndexMore
import Derived.Deep.LoopGhost
import Derived.Test.YtcmepjpoffiijaaGreatDoorAsZA4
set_option linter.unusedSectionVars false
set_option linter.unusedVariables false
set_option linter.unusedSimpArgs false
section
namespace Go.As
noncomputable section
open Go.RowKit
structure CS where
 k : Nat
 slots : List (Nat × AV)
 objs : List dP
 pc : List (SB × Bool)
 m : SE
def pX : List (Nat × AV) → Tr AV → Tr AV
 | [], t => t
 | (i, v) :: l, t => pX l (t.put i (some v))
def tK : List dP → Nat → Tr dP → Tr dP
 | [], _, t => t
 | o :: os, i, t => tK os (i + 1) (t.put i (some o))
def CS.st (c : CS) : St := ⟨pX c.slots .nil, ⟨tK c.objs 0 .nil, c.objs.length, none⟩, c.pc⟩
structure Gs where
 ns : Tr SE
 bl : Tr (Nat × Nat)
def Gs.num (g : Gs) (i : Nat) (e : SE) : Gs := match g.ns.get i with
 | some _ => g
 | none => ⟨g.ns.put i (some e), g.bl⟩
def Gs.blk (g : Gs) (i j k : Nat) : Gs := match g.bl.get i with
 | some _ => g
 | none => ⟨g.ns, g.bl.put i (some (j, k))⟩
def Gg (x y : SE) (g : Gs) : Gs := match x with
 | .aA i => g.num i y
 | _ => g
def awZ : SB → SB → Gs → Gs
 | .not a, .not b, g => awZ a b g
 | .eq a b, .eq c d, g => Gg b d (Gg a c g)
 | _, _, g => g
mutual
def aeG : AV → AV → Gs → Gs
 | .bool a, .bool b, g => awZ a b g
 | .int _ e, .int _ f, g => Gg e f g
 | .ptr i o, .ptr j p, g => g.blk i j (p - o)
 | .slice i o _ _, .slice j p _ _, g => g.blk i j (p - o)
 | .map i, .map j, g => g.blk i j 0
 | .agg a, .agg b, g => Ey a b g
 | .tuple a, .tuple b, g => Ey a b g
 | .iface _ a, .iface _ b, g => aeG a b g
 | .func _ a b, .func _ c d, g => Ey b d (Ey a c g)
 | .qI a, .qI b, g => Ey a b g
 | .ro a _ _, .ro b _ _, g => Ey a b g
 | .dat a _, .dat b _, g => Gg a b g
 | .lJ a, .lJ b, g => Gg a b g
 | .uM i a _, .uM j b _, g => (Gg a b g).blk i j 0
 | .nY i _ a _, .nY j _ b _, g => (Gg a b g).blk i j 0
 | .Fv a _, .Fv b _, g => Gg a b g
 | .yX i l a _, .yX j k b _, g => (Gg l k (Gg a b g)).blk i j 0
 | _, _, g => g
def Ey : List AV → List AV → Gs → Gs
 | x :: xs, y :: ys, g => Ey xs ys (aeG x y g)
 | _, _, g => g
end
def aeF : List (AV × AV × Nat) → List (AV × AV × Nat) → Gs → Gs
 | (k, v, _) :: xs, (k', v', _) :: ys, g => aeF xs ys (aeG v v' (aeG k k' g))
 | _, _, g => g
def anI : List (SE × List AV) → List (SE × List AV) → Gs → Gs
 | (i, a) :: x, (j, b) :: y, g => anI x y (Ey a b (Gg i j g))
 | _, _, g => g
def aAr (k : Nat) (o o' : dP) (g : Gs) : Gs := match o, o' with
 | .cells a _, .cells b _ => match eY k b with
   | some b => Ey a b g
   | none => g
 | .map a _, .map b _ => aeF a b g
 | .vec a _ _ ov, .vec b _ _ uO => anI ov uO (Gg a b g)
 | .iI a _, .iI b _ => Gg a b g
 | _, _ => g
def IL (s : Tr AV) : List (Nat × AV) → Gs → Gs
 | [], g => g
 | (t, v) :: l, g => match s.get t with
   | some v' => IL s l (aeG v v' g)
   | none => IL s l g
def Gh (h : Hp) : List dP → Nat → Gs → Gs
 | [], _, g => g
 | o :: os, i, g => match g.bl.get i with
   | some (j, k) => match h.get j with
     | some o' => Gh h os (i + 1) (aAr k o o' g)
     | none => Gh h os (i + 1) g
   | none => Gh h os (i + 1) g
def Dj (g : Tr SE) : Nat → Nat → List SE
 | 0, _ => []
 | n + 1, i => match g.get i with
   | some e => e :: Dj g n (i + 1)
   | none => .lit 0 :: Dj g n (i + 1)
def PV (g : Tr (Nat × Nat)) : Nat → Nat → List Nat
 | 0, _ => []
 | n + 1, i => match g.get i with
   | some (e, _) => e :: PV g n (i + 1)
   | none => 0 :: PV g n (i + 1)
def PU (g : Tr (Nat × Nat)) : Nat → Nat → List Nat
 | 0, _ => []
 | n + 1, i => match g.get i with
   | some (_, e) => e :: PU g n (i + 1)
   | none => 0 :: PU g n (i + 1)
def CS.guess (c : CS) (s : St) : Ren := match Gh s.h c.objs 0 (IL s.slots c.slots ⟨.nil, .nil⟩) with
 | ⟨ns, bl⟩ => ⟨Dj ns c.k 0, PV bl c.objs.length 0, PU bl c.objs.length 0⟩
def XL (i : Nat) : List Nat → Bool
 | [] => true
 | j :: l => match Nat.beq i j with
   | true => false
   | false => XL i l
def BF : List Nat → Bool
 | [] => true
 | i :: l => XL i l && BF l
def Iy (r : Ren) (n : Nat) (s : Tr AV) : List (Nat × AV) → Bool
 | [] => true
 | (t, v) :: l => match s.get t with
   | some v' => oN n v && eG (r.av v) v' && Iy r n s l
   | none => false
def FX (r : Ren) (n : Nat) (h : Hp) : List dP → Nat → Bool
 | [], _ => true
 | o :: os, i => match h.get (r.id i) with
   | some o' => Zi n o && gX r (r.yZ i) o o' && FX r n h os (i + 1)
   | none => false
def Uy (pc : List (SB × Bool)) (e : SE) : Option Int × Option Int := match e with
 | .lit z => (some z, some z)
 | e => bounds e pc
def X4 (a b : Int) : Bool := decide (-9223372036854775808 ≤ a) && decide (b ≤ 9223372036854775807)
def LD (pc : List (SB × Bool)) (e : SE) : Option Int × Option Int := match e with
 | .wrap .i64 (.add a b) => match Uy pc a, Uy pc b with
   | (some la, some ha), (some lb, some hb) => if X4 (la + lb) (ha + hb) then (some (la + lb), some (ha + hb)) else bounds e pc
   | _, _ => bounds e pc
 | .wrap .i64 (.sub a b) => match Uy pc a, Uy pc b with
   | (some la, some ha), (some lb, some hb) => if X4 (la - hb) (ha - lb) then (some (la - hb), some (ha - lb)) else bounds e pc
   | _, _ => bounds e pc
 | e => Uy pc e
def LH (a b : Option Int) : Bool := match a, b with
 | some x, some y => decide (x < y)
 | _, _ => false
def Rw (a b : Option Int) : Bool := match a, b with
 | some x, some y => decide (x ≤ y)
 | _, _ => false
def prv (pc : List (SB × Bool)) (c : SB) (v : Bool) : Bool :=
 match jF pc c with
 | some b => b == v
 | none => match c with
   | .lt a b => match v with
     | true => LH (LD pc a).2 (LD pc b).1
     | false => Rw (LD pc b).2 (LD pc a).1
   | .eq a b => match v with
     | true => false
     | false => LH (LD pc a).2 (LD pc b).1 || LH (LD pc b).2 (LD pc a).1
   | _ => false
def IQ (pv : List (SB × Bool) → SB → Bool → Bool) (r : Ren) (pc : List (SB × Bool)) : List (SB × Bool) → Bool
 | [] => true
 | (c, v) :: l => pv pc (r.sb c) v && IQ pv r pc l
def CS.fits (pv : List (SB × Bool) → SB → Bool → Bool) (c : CS) (s : St) (r : Ren) : Bool :=
 Nat.ble r.ns.length 900 && Nat.beq r.bl.length c.objs.length && BF r.bl && Iy r c.objs.length s.slots c.slots && FX r c.objs.length s.h c.objs 0 && IQ pv r s.pc c.pc
theorem zD : ∀ {l : List (Nat × AV)} {t : Tr AV} {i : Nat} {v : AV}, (pX l t).get i = some v → (i, v) ∈ l ∨ t.get i = some v
 | [], t, i, v, h => .inr h
 | (j, x) :: l, t, i, v, h => by
   simp only [pX] at h
   rcases zD h with h | h
   ·exact .inl (by simp [h])
   ·rw [Tr.get_put] at h
    split at h
    ·rename_i e
     simp only [Option.some.injEq] at h
     exact .inl (by rw [e, h]; simp)
    ·exact .inr h
theorem lT : ∀ {l : List dP} {i : Nat} {t : Tr dP} {j : Nat}, (tK l i t).get j = if i ≤ j ∧ j < i + l.length then l[j - i]? else t.get j
 | [], i, t, j => by
   rw [if_neg (by simp)]
   rfl
 | o :: os, i, t, j => by
   simp only [tK]
   rw [lT, Tr.get_put]
   simp only [List.length_cons]
   by_cases h1 : i + 1 ≤ j ∧ j < i + 1 + os.length
   ·rw [if_pos h1, if_pos (by omega)]
    have : j - i = (j - (i + 1)) + 1 := by omega
    rw [this, List.getElem?_cons_succ]
   ·rw [if_neg h1]
    by_cases h3 : j = i
    ·subst h3
     rw [if_pos rfl, if_pos (by omega)]
     simp
    ·rw [if_neg h3, if_neg (by omega)]
theorem Td {i : Nat} : ∀ {l : List Nat}, XL i l = true → i ∉ l
 | [], _ => by simp
 | j :: l, h => by
   simp only [XL] at h
   split at h
   ·simp at h
   ·rename_i hb
    have := Nat.ne_of_beq_eq_false hb
    simp [this, Td h]
theorem sD : ∀ {l : List Nat}, BF l = true → ∀ {i j x : Nat}, gG l i = some x → gG l j = some x → i = j
 | [], _, i, _, _, h, _ => by simp [gG] at h
 | y :: l, hd, i, j, x, h1, h2 => by
   simp only [BF, Bool.and_eq_true] at hd
   have hn := Td hd.1
   have hm : ∀ {i : Nat} {l : List Nat} {x : Nat}, gG l i = some x → x ∈ l := by
    intro i l x h
    rw [bU] at h
    exact List.mem_of_getElem? h
   cases i with
   | zero =>
     cases j with
     | zero => rfl
     | succ j =>
       simp only [gG, Option.some.injEq] at h1 h2
       subst h1
       exact absurd (hm h2) hn
   | succ i =>
     cases j with
     | zero =>
       simp only [gG, Option.some.injEq] at h1 h2
       subst h2
       exact absurd (hm h1) hn
     | succ j =>
       simp only [gG] at h1 h2
       rw [sD hd.2 h1 h2]
theorem GU {r : Ren} {n : Nat} {s : Tr AV} : ∀ {l : List (Nat × AV)}, Iy r n s l = true → ∀ {t : Nat} {v : AV}, (t, v) ∈ l → ∃ v', s.get t = some v' ∧ oN n v = true ∧ r.av v = v'
 | [], _, _, _, h => by simp at h
 | (t0, v0) :: l, hs, t, v, h => by
   simp only [Iy] at hs
   split at hs
   ·rename_i v' hv
    simp only [Bool.and_eq_true] at hs
    rcases List.mem_cons.1 h with h | h
    ·simp only [Prod.mk.injEq] at h
     obtain ⟨rfl, rfl⟩ := h
     exact ⟨v', hv, hs.1.1, nT _ _ hs.1.2⟩
    ·exact GU hs.2 h
   ·simp at hs
theorem kR {r : Ren} {n : Nat} {h : Hp} : ∀ {l : List dP} {i : Nat}, FX r n h l i = true → ∀ {j : Nat} {o : dP}, l[j]? = some o → ∃ o', h.get (r.id (i + j)) = some o' ∧ Zi n o = true ∧ gX r (r.yZ (i + j)) o o' = true
 | [], _, _, _, _, h => by simp at h
 | o0 :: os, i, hs, j, o, hj => by
   simp only [FX] at hs
   split at hs
   ·rename_i o' ho
    simp only [Bool.and_eq_true] at hs
    cases j with
    | zero =>
      simp at hj
      subst hj
      exact ⟨o', ho, hs.1.1, hs.1.2⟩
    | succ j =>
      have := kR hs.2 (j := j) (by simpa using hj)
      rw [show i + (j + 1) = i + 1 + j by omega]
      exact this
   ·simp at hs
def Xb (pv : List (SB × Bool) → SB → Bool → Bool) : Prop := ∀ (ρ : Nat → Int) (pc : List (SB × Bool)) (c : SB) (v : Bool), aZ ρ pc → pv pc c v = true → c.den ρ = v
theorem E8 {ρ : Nat → Int} {pc : List (SB × Bool)} (hp : aZ ρ pc) (e : SE) : Within (Uy pc e).1 (Uy pc e).2 (e.den ρ) := by
 unfold Uy
 split
 ·simp [Within, SE.den]
 ·exact lZ hp
theorem JZ {a b x : Int} (h : X4 a b = true) (h1 : a ≤ x) (h2 : x ≤ b) : IntKind.i64.wrap x = x := by
 simp only [X4, Bool.and_eq_true, decide_eq_true_eq] at h
 rw [← nJ]
 simp only [yT]
 rw [if_pos (by omega)]
theorem Yx {ρ : Nat → Int} {pc : List (SB × Bool)} (hp : aZ ρ pc) (e : SE) : Within (LD pc e).1 (LD pc e).2 (e.den ρ) := by
 unfold LD
 split
 ·rename_i a b
  have ha := E8 hp a
  have hb := E8 hp b
  split
  ·rename_i la ha' lb hb' e1 e2
   rw [e1] at ha
   rw [e2] at hb
   have a1 := ha.1 la rfl
   have a2 := ha.2 ha' rfl
   have b1 := hb.1 lb rfl
   have b2 := hb.2 hb' rfl
   split
   ·rename_i hi
    simp only [SE.den]
    rw [JZ hi (by omega) (by omega)]
    constructor <;> intro l hl <;> simp at hl <;> omega
   ·exact lZ hp
  ·exact lZ hp
 ·rename_i a b
  have ha := E8 hp a
  have hb := E8 hp b
  split
  ·rename_i la ha' lb hb' e1 e2
   rw [e1] at ha
   rw [e2] at hb
   have a1 := ha.1 la rfl
   have a2 := ha.2 ha' rfl
   have b1 := hb.1 lb rfl
   have b2 := hb.2 hb' rfl
   split
   ·rename_i hi
    simp only [SE.den]
    rw [JZ hi (by omega) (by omega)]
    constructor <;> intro l hl <;> simp at hl <;> omega
   ·exact lZ hp
  ·exact lZ hp
 ·exact E8 hp e
theorem Gy {a b : Option Int} {x y : Int} (h : LH a b = true) (h1 : ∀ z, a = some z → x ≤ z) (h2 : ∀ z, b = some z → z ≤ y) : x < y := by
 unfold LH at h
 split at h
 ·have := h1 _ rfl
  have := h2 _ rfl
  simp at h
  omega
 ·simp at h
theorem WY {a b : Option Int} {x y : Int} (h : Rw a b = true) (h1 : ∀ z, a = some z → x ≤ z) (h2 : ∀ z, b = some z → z ≤ y) : x ≤ y := by
 unfold Rw at h
 split at h
 ·have := h1 _ rfl
  have := h2 _ rfl
  simp at h
  omega
 ·simp at h
theorem VD : Xb prv := by
 intro ρ pc c v hp h
 unfold prv at h
 split at h
 ·rename_i b hb
  rw [fF hp hb]
  simpa using h
 ·split at h
  ·have ha := fun a => Yx hp a
   split at h
   ·have := Gy h (ha _).2 (ha _).1
    simp [SB.den, this]
   ·have := WY h (ha _).2 (ha _).1
    simp [SB.den]; omega
  ·have ha := fun a => Yx hp a
   split at h
   ·simp at h
   ·simp only [Bool.or_eq_true] at h
    simp only [SB.den, beq_eq_false_iff_ne, ne_eq]
    rcases h with h | h
    ·have := Gy h (ha _).2 (ha _).1
     omega
    ·have := Gy h (ha _).2 (ha _).1
     omega
  ·simp at h
theorem Ku {pv : List (SB × Bool) → SB → Bool → Bool} (hpv : Xb pv) {r : Ren} (hl : r.ns.length ≤ 900) {ρ : Nat → Int} {pc : List (SB × Bool)} (hp : aZ ρ pc) : ∀ {l : List (SB × Bool)}, IQ pv r pc l = true → aZ (r.env ρ) l
 | [], _ => by intro c b h; simp at h
 | (c0, v0) :: l, h => by
   simp only [IQ, Bool.and_eq_true] at h
   intro c b hm
   rcases List.mem_cons.1 hm with hm | hm
   ·simp only [Prod.mk.injEq] at hm
    obtain ⟨rfl, rfl⟩ := hm
    rw [← Ren.FN hl]
    exact hpv ρ pc _ _ hp h.1
   ·exact Ku hpv hl hp h.2 c b hm
theorem ED [Glob] {pv : List (SB × Bool) → SB → Bool → Bool} (hpv : Xb pv) {E : En} {c : CS} {s : St} {r : Ren} {a : Act} {w : World} (f : Fit E s a w) (h : c.fits pv s r = true) : r.ns.length ≤ 900 ∧ Fit (E.ren r) c.st a w ∧
 ∀ id o, c.st.h.get id = some o → ∃ o', s.h.get (r.id id) = some o' := by
 unfold CS.fits at h
 simp only [Bool.and_eq_true] at h
 obtain ⟨⟨⟨⟨⟨h1, h2⟩, h3⟩, h4⟩, h5⟩, h6⟩ := h
 have hl := Nat.le_of_ble_eq_true h1
 have hn := Nat.eq_of_beq_eq_true h2
 have hget : ∀ id o, c.st.h.get id = some o → c.objs[id]? = some o := by
  intro id o ho
  have : (tK c.objs 0 .nil).get id = some o := ho
  rw [lT] at this
  split at this
  ·simpa using this
  ·simp [Tr.get] at this
 refine ⟨hl, ⟨⟨?_, ?_, ?_, ?_, f.rel.A8, Glob.ren f.rel.glob fun i hi => Ren.nK hl hi⟩, ?_, Ku hpv hl f.pc h6⟩, ?_⟩
 ·intro id hid hd
  have : id < r.bl.length := hd.1
  have hid : c.objs.length ≤ id := hid
  omega
 ·intro x hx
  simp [CS.st] at hx
 ·intro id o ho
  obtain ⟨o', g1, g2, g3⟩ := kR h5 (hget id o ho)
  rw [Nat.zero_add] at g1 g3
  obtain ⟨q1, q2, q3⟩ := f.rel.live _ _ g1
  have hlt := (List.getElem?_eq_some_iff.1 (hget id o ho)).1
  exact ⟨⟨by omega, q1⟩, OR.ren hl (by rw [hn]; exact g2) g3 q2, q3⟩
 ·intro id id' o o' ho ho' he
  obtain ⟨p, g1, _⟩ := kR h5 (hget id o ho)
  obtain ⟨p', g1', _⟩ := kR h5 (hget id' o' ho')
  rw [Nat.zero_add] at g1 g1'
  have heq := f.rel.inj _ _ _ _ g1 g1' he
  have hlt := (List.getElem?_eq_some_iff.1 (hget id o ho)).1
  have hlt' := (List.getElem?_eq_some_iff.1 (hget id' o' ho')).1
  unfold Ren.id at heq
  cases e1 : gG r.bl id with
  | none => rw [bU, List.getElem?_eq_none_iff] at e1; omega
  | some x =>
    cases e2 : gG r.bl id' with
    | none => rw [bU, List.getElem?_eq_none_iff] at e2; omega
    | some y =>
      rw [e1, e2] at heq
      simp only at heq
      subst heq
      exact sD h3 e1 e2
 ·intro t v ht
  have : (pX c.slots .nil).get t = some v := ht
  rcases zD this with h | h
  ·obtain ⟨v', g1, g2, g3⟩ := GU h4 h
   obtain ⟨u, q1, q2⟩ := f.sr t v' g1
   exact ⟨u, q1, VR.ren hl v u (by rw [hn]; exact g2) (by rw [g3]; exact q2)⟩
  ·simp [Tr.get] at h
 ·intro id o ho
  obtain ⟨o', g1, _⟩ := kR h5 (hget id o ho)
  rw [Nat.zero_add] at g1
  exact ⟨o', g1⟩
end
end Go.As
end
section
namespace Go.As
noncomputable section
open Go.RowKit
structure Base where
 w0 : World
 ro : Nat → Prop
 ρ0 : Nat → Int
structure Top [Glob] (B : Base) (E : En) (s : St) (a : Act) (w : World) : Prop where
 fit : Fit E s a w
 hi : ∀ i, 900 ≤ i → E.ρ i = B.ρ0 i
 ro : ∀ b, B.ro b → E.ro b
 below : Below B.w0.heap.size B.w0 w
 own : ∀ id o, s.h.get id = some o → B.w0.heap.size ≤ (E.θ id).1
theorem Top.then [Glob] {B : Base} {E : En} {s s' : St} {a a' : Act} {w w' : World} (t : Top B E s a w) (h : Then E s a w s' a' w') : ∃ E', Top B E' s' a' w' ∧ E'.ρ = E.ρ := by
 obtain ⟨_, _, E', st, f'⟩ := h
 refine ⟨E', ⟨f', fun i hi => by rw [st.ρ]; exact t.hi i hi, fun b hb => st.ro b (t.ro b hb), ?_, ?_⟩, st.ρ⟩
 ·refine t.below.trans ⟨st.os, st.tape, st.output, st.size, fun k hk => ?_⟩
  exact st.keep k (Nat.lt_of_lt_of_le hk t.below.size) fun id o ho he => by
   have := t.own id o ho
   omega
 ·intro id o ho
  rcases Nat.lt_or_ge (E'.θ id).1 w.heap.size with h | h
  ·obtain ⟨BP, o0, h0, he⟩ := st.own id o ho h
   rw [← he]
   exact t.own BP o0 h0
  ·exact Nat.le_trans t.below.size h
theorem Top.fits [Glob] {pv : List (SB × Bool) → SB → Bool → Bool} (hpv : Xb pv) {B : Base} {E : En} {c : CS} {s : St} {r : Ren} {a : Act} {w : World} (t : Top B E s a w) (h : c.fits pv s r = true) : r.ns.length ≤ 900 ∧ Top B (E.ren r) c.st a w := by
 obtain ⟨hl, f, ho⟩ := ED hpv t.fit h
 refine ⟨hl, f, fun i hi => ?_, t.ro, t.below, fun id o hid => ?_⟩
 ·show r.env E.ρ i = _
  rw [Ren.nK hl hi]
  exact t.hi i hi
 ·obtain ⟨o', h'⟩ := ho id o hid
  exact t.own _ _ h'
inductive Fr where
 | seq (p : List Nat) (c : Code)
 | block (id : Nat)
def locate (body : Code) : List Nat → Option (Code × List Fr)
 | [] => some (body, [])
 | d :: p => match locate body p with
   | some (.seq a b, fr) => match d with
     | 0 => some (a, .seq (1 :: p) b :: fr)
     | _ => some (b, fr)
   | some (.block id b, fr) => some (b, .block id :: fr)
   | _ => none
def ahW (body : Code) : List Fr → Prop
 | [] => True
 | .seq p c :: fr => locate body p = some (c, fr) ∧ ahW body fr
 | .block _ :: fr => ahW body fr
def KF (P : Program) (Q : Exit → Act → World → Prop) : List Fr → Exit → Act → World → Prop
 | [] => Q
 | .seq _ c :: fr => Exit.then (fun a w => c.wp P (KF P Q fr) a w) (KF P Q fr)
 | .block id :: fr => Exit.inBlock id (KF P Q fr)
def rX {α : Type} : T α → (α → Bool) → Bool
 | .fail, _ => false
 | .ret a, f => f a
 | .split _ x y, f => rX x f && rX y f
theorem rW {α : Type} {f : α → Bool} (ρ : Nat → Int) : ∀ {x : T α}, rX x f = true → ∃ a, x.leaf ρ = some a ∧ f a = true
 | .fail, h => by simp [rX] at h
 | .ret a, h => ⟨a, rfl, h⟩
 | .split c x y, h => by
   simp only [rX, Bool.and_eq_true] at h
   simp only [T.leaf]
   split
   ·exact rW ρ h.1
   ·exact rW ρ h.2
structure Cfg where
 tt : TT
 call : dM
 draw : Nat → List Oper → St → T St
 lf : Nat
 pv : List (SB × Bool) → SB → Bool → Bool
 res : List ResultVar
def Cfg.ev (g : Cfg) (c : Code) (s : St) : T (Ex × St) := kH g.tt g.call g.draw g.lf c s
def isTrue : Option (List AV) → Bool
 | some [.bool (.lit b)] => b
 | _ => false
def KT (g : Cfg) (e : Ex) (s : St) : Bool := match e with
 | .exit _ => false
 | _ => isTrue (lI g.tt s g.res)
def apV : AV → AV → Bool
 | .int _ (.lit a), .int _ (.lit b) => a == b
 | .int _ (.lit _), .int _ _ => false
 | .slice _ _ n _, .slice _ _ m _ => Nat.beq n m
 | .slice _ _ _ _, _ => false
 | .aP, .aP => true
 | .aP, _ => false
 | _, _ => true
def quick (s : Tr AV) : List (Nat × AV) → Bool
 | [] => true
 | (t, v) :: l => match s.get t with
   | some v' => match apV v v' with
     | true => quick s l
     | false => false
   | none => false
def BK (pv : List (SB × Bool) → SB → Bool → Bool) (s : St) : List CS → Bool
 | [] => false
 | c :: cs => match quick s.slots c.slots with
   | false => BK pv s cs
   | true => match c.fits pv s (c.guess s) with
     | true => true
     | false => BK pv s cs
abbrev Tabs := List Nat → Option (List CS)
mutual
def go (g : Cfg) (tabs : Tabs) : Nat → List Nat → Code → List Fr → St → Bool
 | 0, _, _, _, _ => false
 | n + 1, p, c, fr, s => match tabs p with
   | some cs => BK g.pv s cs
   | none => match c with
     | .seq a b => go g tabs n (0 :: p) a (.seq (1 :: p) b :: fr) s
     | .block id b => go g tabs n (0 :: p) b (.block id :: fr) s
     | c => rX (g.ev c s) fun (e, s') => cont g tabs n fr e s'
def cont (g : Cfg) (tabs : Tabs) : Nat → List Fr → Ex → St → Bool
 | 0, _, _, _ => false
 | n + 1, fr, e, s => match fr with
   | [] => KT g e s
   | .seq p c :: fr => match e with
     | .normal => go g tabs n p c fr s
     | e => cont g tabs n fr e s
   | .block id :: fr => match e with
     | .exit j => match Nat.beq j id with
       | true => cont g tabs n fr .normal s
       | false => cont g tabs n fr (.exit j) s
     | e => cont g tabs n fr e s
end
def falls (pc : List (SB × Bool)) (m m' : SE) (r : Ren) : Bool := match m, m' with
 | .lit a, .lit b => decide (0 ≤ b) && decide (b < a)
 | .sub (.lit n) (.aA i), .sub (.lit n') (.aA j) => decide (n = n') && decide (n < 1000000) && Nat.beq i j &&
  fK (r.se (.aA j)) (.wrap .i64 (.add (.aA i) (.lit 1))) && (match jF pc (.lt (.aA i) (.lit n)) with | some b => b | none => false) && (match jF pc (.lt (.aA i) (.lit 0)) with | some b => !b | none => false)
 | _, _ => false
def wZ (pv : List (SB × Bool) → SB → Bool → Bool) (s : St) (m : SE) : List CS → Bool
 | [] => false
 | c :: cs => match quick s.slots c.slots with
   | false => wZ pv s m cs
   | true => match c.fits pv s (c.guess s) with
     | true => falls s.pc m c.m (c.guess s)
     | false => wZ pv s m cs
def apart (pc : List (SB × Bool)) (x : SE) : List SE → Bool
 | [] => true
 | y :: l => match decEq pc x y with
   | some false => apart pc x l
   | _ => false
def Fe (pc : List (SB × Bool)) : List SE → Bool
 | [] => true
 | x :: l => apart pc x l && Fe pc l
def allIn (pc : List (SB × Bool)) (n : Int) : List SE → Bool
 | [] => true
 | x :: l => (match bounds x pc with | (some lo, some hi) => decide (0 ≤ lo) && decide (hi < n) | _ => false) && allIn pc n l
structure Hint where
 ts : List (SB × Bool) := []
 xs : List SE := []
 n : Nat := 0
def LM (h : Hint) (pc : List (SB × Bool)) : Bool := match Nat.blt h.n h.xs.length with
 | true => allIn pc (Int.ofNat h.n) h.xs && Fe pc h.xs
 | false => false
def splitB (k : St → Bool) : List (SB × Bool) → St → Bool
 | [], s => k s
 | (c, st) :: cs, s => match jF s.pc c with
   | some b => match b && st with
     | true => k s
     | false => splitB k cs s
   | none => (match st with
    | true => k { s with pc := (c, true) :: s.pc }
    | false => splitB k cs { s with pc := (c, true) :: s.pc }) && splitB k cs { s with pc := (c, false) :: s.pc }
def round (g : Cfg) (tabs : Tabs) (n : Nat) (b : Code) (fr : List Fr) (cs : List CS) (h : Hint) (c : CS) : Bool :=
 splitB (fun s => LM h s.pc || rX (g.ev b s) fun (e, s') => match e with
  | .normal => wZ g.pv s' c.m cs
  | e => cont g tabs n fr e s') h.ts c.st
section
variable {P : Program} {g : Cfg} {chk : Nat → List Oper → Bool} {N : Nat} {body : Code} {B : Base} {Q : Exit → Act → World → Prop}
structure YQ [Glob] (P : Program) (g : Cfg) (chk : Nat → List Oper → Bool) : Prop where
 tt : dW P g.tt
 call : jE P g.call
 draw : yR P chk g.draw
 pv : Xb g.pv
theorem yH (h : iQ chk N body = true) : ∀ (p : List Nat) {c : Code} {fr : List Fr}, locate body p = some (c, fr) → iQ chk N c = true
 | [], c, fr, hl => by
   simp only [locate, Option.some.injEq, Prod.mk.injEq] at hl
   rw [← hl.1]; exact h
 | d :: p, c, fr, hl => by
   simp only [locate] at hl
   split at hl
   ·rename_i a b fr' hp
    have := yH h p hp
    simp only [iQ, Bool.and_eq_true] at this
    split at hl
    ·simp only [Option.some.injEq, Prod.mk.injEq] at hl; rw [← hl.1]; exact this.1
    ·simp only [Option.some.injEq, Prod.mk.injEq] at hl; rw [← hl.1]; exact this.2
   ·rename_i id b fr' hp
    have := yH h p hp
    simp only [iQ] at this
    simp only [Option.some.injEq, Prod.mk.injEq] at hl; rw [← hl.1]; exact this
   ·simp at hl
theorem ayH [Glob] (hg : YQ P g chk) {c : Code} (hd : iQ chk N c = true) {E : En} {s : St} {a : Act} {w : World} (t : Top B E s a w) (hN : N ≤ a.tmps.size) {f : Ex × St → Bool} (h : rX (g.ev c s) f = true) :
 ∃ e s', f (e, s') = true ∧ c.wp P (fun x a' w' => x = vF e ∧ a'.tmps.size = a.tmps.size ∧ a'.defers = a.defers ∧ ∃ E', Top B E' s' a' w' ∧ E'.ρ = E.ρ) a w := by
 obtain ⟨⟨e, s'⟩, h1, h2⟩ := rW E.ρ h
 refine ⟨e, s', h2, wp_mono (kG hg.tt hg.call hg.draw c hd E s s' e a w hN t.fit h1) fun x a' w' ⟨hx, ht⟩ => ?_⟩
 exact ⟨hx, ht.size, ht.defers, t.then ht⟩
theorem WZ [Glob] (hpv : Xb g.pv) {cs : List CS} {E : En} {s : St} {a : Act} {w : World} (t : Top B E s a w) (h : BK g.pv s cs = true) : ∃ c ∈ cs, ∃ E', Top B E' c.st a w := by
 induction cs with
 | nil => simp [BK] at h
 | cons c cs ih =>
   simp only [BK] at h
   split at h
   ·obtain ⟨c', h1, h2⟩ := ih h
    exact ⟨c', by simp [h1], h2⟩
   ·split at h
    ·rename_i hf
     exact ⟨c, by simp, _, (t.fits hpv hf).2⟩
    ·obtain ⟨c', h1, h2⟩ := ih h
     exact ⟨c', by simp [h1], h2⟩
theorem aeP {pc : List (SB × Bool)} {m m' : SE} {r : Ren} (hl : r.ns.length ≤ 900) {ρ : Nat → Int} (hp : aZ ρ pc) (h : falls pc m m' r = true) (hm : ∀ i n, m = .sub (.lit n) (.aA i) → m.den ρ = n - ρ i) :
 (m'.den (r.env ρ)).toNat < (m.den ρ).toNat := by
 unfold falls at h
 split at h
 ·simp only [Bool.and_eq_true, decide_eq_true_eq] at h
  simp only [SE.den]
  omega
 ·simp only [Bool.and_eq_true, decide_eq_true_eq] at h
  obtain ⟨⟨⟨⟨⟨rfl, h2⟩, h3⟩, h4⟩, h5⟩, h6⟩ := h
  rename_i n i j
  have h3 := Nat.eq_of_beq_eq_true h3
  subst h3
  have h4 := congrArg (SE.den ρ) (bK _ _ h4)
  rw [Ren.dR hl] at h4
  simp only [SE.den] at h4 ⊢
  split at h5
  ·rename_i b hb
   subst h5
   have hb := fF hp hb
   split at h6
   ·rename_i b' hb'
    have hb' := fF hp hb'
    simp only [Bool.not_eq_true'] at h6
    subst h6
    simp only [SB.den, decide_eq_true_eq, decide_eq_false_iff_not, Int.not_lt] at hb hb'
    simp only [SE.den] at hb hb'
    rw [h4, ← nJ]
    simp only [yT]
    rw [if_pos (by omega)]
    omega
   ·simp at h6
  ·simp at h5
 ·simp at h
theorem UE [Glob] (hpv : Xb g.pv) {cs : List CS} {m : SE} {E : En} {s : St} {a : Act} {w : World} (t : Top B E s a w) (h : wZ g.pv s m cs = true) :
 ∃ c ∈ cs, ∃ E', Top B E' c.st a w ∧ (c.m.den E'.ρ).toNat < (m.den E.ρ).toNat := by
 induction cs with
 | nil => simp [wZ] at h
 | cons c cs ih =>
   simp only [wZ] at h
   split at h
   ·obtain ⟨c', h1, h2⟩ := ih h
    exact ⟨c', by simp [h1], h2⟩
   ·split at h
    ·rename_i hf
     obtain ⟨hl, ht⟩ := t.fits hpv hf
     exact ⟨c, by simp, _, ht, aeP hl t.fit.pc h (fun i n e => by rw [e]; rfl)⟩
    ·obtain ⟨c', h1, h2⟩ := ih h
     exact ⟨c', by simp [h1], h2⟩
theorem AU {k : St → Bool} {ρ : Nat → Int} : ∀ {cs : List (SB × Bool)} {s : St}, aZ ρ s.pc → splitB k cs s = true → ∃ pc', aZ ρ pc' ∧ k { s with pc := pc' } = true
 | [], s, hp, h => ⟨s.pc, hp, h⟩
 | (c, st) :: cs, s, hp, h => by
   simp only [splitB] at h
   split at h
   ·split at h
    ·exact ⟨s.pc, hp, h⟩
    ·exact AU hp h
   ·simp only [Bool.and_eq_true] at h
    cases hc : c.den ρ with
    | true =>
      have h := h.1
      split at h
      ·exact ⟨_, xM hp hc, h⟩
      ·obtain ⟨pc', hp', h'⟩ := AU (s := { s with pc := (c, true) :: s.pc }) (xM hp hc) h
       exact ⟨pc', hp', h'⟩
    | false =>
      obtain ⟨pc', hp', h'⟩ := AU (s := { s with pc := (c, false) :: s.pc }) (xM hp hc) h.2
      exact ⟨pc', hp', h'⟩
theorem VE : ∀ (n : Nat) (l : List Int), (∀ x ∈ l, 0 ≤ x ∧ x < (n : Int)) → l.Nodup → l.length ≤ n
 | 0, l, h, _ => by
   cases l with
   | nil => simp
   | cons x l => have := h x (by simp); omega
 | n + 1, l, h, hd => by
   by_cases hm : (n : Int) ∈ l
   ·have := VE n (l.erase (n : Int)) (fun x hx => by
     rw [hd.mem_erase_iff] at hx
     have := h x hx.2
     have h1 := hx.1
     omega) (hd.erase _)
    rw [List.length_erase_of_mem hm] at this
    omega
   ·have := VE n l (fun x hx => by
     have h1 := h x hx
     have : x ≠ (n : Int) := fun e => hm (e ▸ hx)
     omega) hd
    omega
theorem UG {h : Hint} {ρ : Nat → Int} {pc : List (SB × Bool)} (hp : aZ ρ pc) (ha : LM h pc = true) : False := by
 unfold LM at ha
 split at ha
 ·rename_i hlt
  have hlt := Aq hlt
  simp only [Bool.and_eq_true] at ha
  obtain ⟨h1, h2⟩ := ha
  have hin : ∀ (l : List SE), allIn pc (Int.ofNat h.n) l = true → ∀ x ∈ l.map (SE.den ρ), 0 ≤ x ∧ x < (h.n : Int) := by
   intro l
   induction l with
   | nil => simp
   | cons e l ih =>
     intro hl x hx
     simp only [allIn, Bool.and_eq_true] at hl
     simp only [List.map_cons, List.mem_cons] at hx
     rcases hx with rfl | hx
     ·have hw := lZ (e := e) hp
      have hl := hl.1
      split at hl
      ·rename_i lo hi e1
       rw [e1] at hw
       have w1 := hw.1 lo rfl
       have w2 := hw.2 hi rfl
       simp only [Bool.and_eq_true, decide_eq_true_eq] at hl
       have : Int.ofNat h.n = (h.n : Int) := rfl
       omega
      ·simp at hl
     ·exact ih hl.2 x hx
  have hap : ∀ (l : List SE) (x : SE), apart pc x l = true → x.den ρ ∉ l.map (SE.den ρ) := by
   intro l x
   induction l with
   | nil => simp
   | cons e l ih =>
     intro hl
     simp only [apart] at hl
     split at hl
     ·rename_i he
      have he := Uo hp he
      simp only [List.map_cons, List.mem_cons, not_or]
      exact ⟨fun q => by simpa using he.1 q, ih hl⟩
     ·simp at hl
  have hnd : ∀ (l : List SE), Fe pc l = true → (l.map (SE.den ρ)).Nodup := by
   intro l
   induction l with
   | nil => simp
   | cons e l ih =>
     intro hl
     simp only [Fe, Bool.and_eq_true] at hl
     rw [List.map_cons, List.nodup_cons]
     exact ⟨hap l e hl.1, ih hl.2⟩
  have := VE h.n (h.xs.map (SE.den ρ)) (hin _ h1) (hnd _ h2)
  simp only [List.length_map] at this
  omega
 ·simp at ha
theorem Top.pc [Glob] {B : Base} {E : En} {s : St} {a : Act} {w : World} {pc : List (SB × Bool)} (t : Top B E s a w) (hp : aZ E.ρ pc) : Top B E { s with pc := pc } a w :=
 ⟨⟨t.fit.rel, t.fit.sr, hp⟩, t.hi, t.ro, t.below, t.own⟩
theorem wP : ∀ (p : List Nat) {c : Code} {fr : List Fr}, locate body p = some (c, fr) → ahW body fr
 | [], c, fr, h => by
   simp only [locate, Option.some.injEq, Prod.mk.injEq] at h
   rw [← h.2]; trivial
 | d :: p, c, fr, h => by
   have h0 := h
   simp only [locate] at h
   split at h
   ·rename_i a b fr' hp
    have ih := wP p hp
    split at h
    ·simp only [Option.some.injEq, Prod.mk.injEq] at h
     obtain ⟨rfl, rfl⟩ := h
     refine ⟨?_, ih⟩
     simp only [locate, hp]
    ·simp only [Option.some.injEq, Prod.mk.injEq] at h
     rw [← h.2]; exact ih
   ·rename_i id b fr' hp
    have ih := wP p hp
    simp only [Option.some.injEq, Prod.mk.injEq] at h
    rw [← h.2]; exact ih
   ·simp at h
def Says (B : Base) (e : Ending) (w : World) : Prop := e = .returned (.bool true) ∧ Below B.w0.heap.size B.w0 w
theorem alQ [Glob] (hg : YQ P g chk) {fn : Func} (hres : g.res = fn.results.toList) {e : Ex} {s : St} {E : En} {a : Act} {w : World} (t : Top B E s a w) (hd : a.defers = []) (h : KT g e s = true) :
 bodyPost P fn (Says B) (vF e) a w := by
 have key : isTrue (lI g.tt s g.res) = true → ∃ v, (results fn a.tmps).run P w = .ok v w ∧ Says B (.returned v) w := by
  intro hi
  unfold isTrue at hi
  split at hi
  ·rename_i b hr
   subst hi
   rw [hres] at hr
   obtain ⟨us, g1, g2⟩ := rY hg.tt t.fit hr
   rw [aQ] at g2
   obtain ⟨u, vs, rfl, h1, h2⟩ := g2
   rw [jG] at h2
   subst h2
   simp only [VR, SB.den] at h1
   subst h1
   refine ⟨.bool true, ?_, rfl, t.below⟩
   have hm : (fn.results.mapM (vH a)).run P w = .ok #[.bool true] w := by
    rw [Array.mapM_eq_mapM_toList]
    rw [map_eq_pure_bind]
    simp only [Sem.run_bind, g1]
    rfl
   have hr2 : results fn a.tmps = (do let vs ← fn.results.mapM (vH a); pure (if h : vs.size = 1 then vs[0] else .tuple vs)) := rfl
   rw [hr2]
   simp only [Sem.run_bind, hm]
   rfl
  ·simp at hi
 unfold KT at h
 cases e with
 | exit id => simp at h
 | normal => exact ⟨hd, key h⟩
 | ret => exact ⟨hd, key h⟩
def ahQ [Glob] (P : Program) (body : Code) (N : Nat) (B : Base) (Q : Exit → Act → World → Prop) (tabs : Tabs) : Prop :=
 ∀ p cs, tabs p = some cs → ∀ b fr, locate body p = some (b, fr) → ∀ c ∈ cs, ∀ E a w, Top B E c.st a w → N ≤ a.tmps.size → a.defers = [] → b.wp P (KF P Q fr) a w
theorem go_ok [Glob] (hg : YQ P g chk) (hd : iQ chk N body = true) {fn : Func} (hres : g.res = fn.results.toList) {tabs : Tabs} (ht : ahQ P body N B (bodyPost P fn (Says B)) tabs) : ∀ n : Nat,
 (∀ p c fr s E a w, locate body p = some (c, fr) → go g tabs n p c fr s = true → Top B E s a w → N ≤ a.tmps.size → a.defers = [] → c.wp P (KF P (bodyPost P fn (Says B)) fr) a w) ∧
 (∀ fr e s E a w, ahW body fr → cont g tabs n fr e s = true → Top B E s a w → N ≤ a.tmps.size → a.defers = [] → KF P (bodyPost P fn (Says B)) fr (vF e) a w)
 | 0 => ⟨fun _ _ _ _ _ _ _ _ h => by simp [go] at h, fun _ _ _ _ _ _ _ h => by simp [cont] at h⟩
 | n + 1 => by
   obtain ⟨ih1, ih2⟩ := go_ok hg hd hres ht n
   have leaf : ∀ p c fr s E a w, locate body p = some (c, fr) → rX (g.ev c s) (fun (e, s') => cont g tabs n fr e s') = true → Top B E s a w → N ≤ a.tmps.size → a.defers = [] → c.wp P (KF P (bodyPost P fn (Says B)) fr) a w := by
    intro p c fr s E a w hl h t hN hdf
    obtain ⟨e, s', h1, h2⟩ := ayH hg (yH hd p hl) t hN h
    refine wp_mono h2 fun x a' w' ⟨hx, hs, aeD, E', t', _⟩ => ?_
    subst hx
    exact ih2 fr e s' E' a' w' (wP p hl) h1 t' (by omega) (by rw [aeD, hdf])
   constructor
   ·intro p c fr s E a w hl h t hN hdf
    simp only [go] at h
    split at h
    ·rename_i cs hcs
     obtain ⟨c0, hc, E', t'⟩ := WZ hg.pv t h
     exact ht p cs hcs c fr hl c0 hc E' a w t' hN hdf
    ·cases c with
     | seq x y =>
       simp only at h
       refine wp_seq ?_
       exact ih1 (0 :: p) x (.seq (1 :: p) y :: fr) s E a w (by simp only [locate, hl]) h t hN hdf
     | block id b =>
       simp only at h
       refine wp_block ?_
       exact ih1 (0 :: p) b (.block id :: fr) s E a w (by simp only [locate, hl]) h t hN hdf
     | _ => simp only at h; exact leaf p _ fr s E a w hl h t hN hdf
   ·intro fr e s E a w hf h t hN hdf
    cases fr with
    | nil =>
      simp only [cont] at h
      exact alQ hg hres t hdf h
    | cons f fr =>
      cases f with
      | seq p c =>
        simp only [cont] at h
        obtain ⟨hl, hf'⟩ := hf
        cases e with
        | normal => exact ih1 p c fr s E a w hl h t hN hdf
        | exit id => exact ih2 fr (.exit id) s E a w hf' h t hN hdf
        | ret => exact ih2 fr .ret s E a w hf' h t hN hdf
      | block id =>
        simp only [cont] at h
        have hf' : ahW body fr := hf
        cases e with
        | normal => exact ih2 fr .normal s E a w hf' h t hN hdf
        | ret => exact ih2 fr .ret s E a w hf' h t hN hdf
        | exit j =>
          simp only at h
          show (if j = id then _ else _)
          split at h
          ·rename_i hj
           rw [if_pos (Nat.eq_of_beq_eq_true hj)]
           exact ih2 fr .normal s E a w hf' h t hN hdf
          ·rename_i hj
           rw [if_neg (Nat.ne_of_beq_eq_false hj)]
           exact ih2 fr (.exit j) s E a w hf' h t hN hdf
theorem ayZ [Glob] (hg : YQ P g chk) (hd : iQ chk N body = true) {fn : Func} (hres : g.res = fn.results.toList) {tabs : Tabs} (ht : ahQ P body N B (bodyPost P fn (Says B)) tabs) {n : Nat} {p : List Nat} {b : Code} {fr : List Fr} (hl : locate body p = some (.loop b, fr))
 {cs : List CS} (h : ∀ c ∈ cs, ∃ hi, round g tabs n b fr cs hi c = true) : ∀ c ∈ cs, ∀ E a w, Top B E c.st a w → N ≤ a.tmps.size → a.defers = [] → (Code.loop b).wp P (KF P (bodyPost P fn (Says B)) fr) a w := by
 intro c hc E a w t hN hdf
 have hdb : iQ chk N b = true := by
  have := yH hd p hl
  simpa [iQ] using this
 refine wp_loop_ghost (fun k a w => ∃ c ∈ cs, ∃ E, Top B E c.st a w ∧ N ≤ a.tmps.size ∧ a.defers = [] ∧ (c.m.den E.ρ).toNat = k) (c.m.den E.ρ).toNat ⟨c, hc, E, t, hN, hdf, rfl⟩ ?_
 intro k a w ⟨c, hc, E, t, hN, hdf, hk⟩
 obtain ⟨hs, hr⟩ := h c hc
 unfold round at hr
 obtain ⟨pc', hp', hr⟩ := AU t.fit.pc hr
 have t1 := t.pc hp'
 simp only [Bool.or_eq_true] at hr
 rcases hr with hr | hr
 ·exact (UG hp' hr).elim
 obtain ⟨⟨e, s'⟩, h3, h2⟩ := rW E.ρ hr
 refine wp_mono (kG hg.tt hg.call hg.draw b hdb E _ s' e a w hN t1.fit h3) fun x a' w' ⟨hx, hth⟩ => ?_
 subst hx
 obtain ⟨E', t', hρ⟩ := t1.then hth
 have hN' : N ≤ a'.tmps.size := by rw [hth.size]; exact hN
 have aeD : a'.defers = [] := by rw [hth.defers, hdf]
 cases e with
 | normal =>
   simp only at h2
   obtain ⟨c', hc', E2, t2, hlt⟩ := UE hg.pv t' h2
   refine ⟨_, ?_, c', hc', E2, t2, hN', aeD, rfl⟩
   rw [hρ] at hlt
   omega
 | exit id => exact (go_ok hg hd hres ht n).2 fr (.exit id) s' E' a' w' (wP p hl) h2 t' hN' aeD
 | ret => exact (go_ok hg hd hres ht n).2 fr .ret s' E' a' w' (wP p hl) h2 t' hN' aeD
end
end
end Go.As
end
section
namespace Go.As
noncomputable section
open Go.RowKit
section
variable {P : Program} {c : Code} {Q : Exit → Act → World → Prop} {a : Act} {w : World}
def LV (P : Program) (c : Code) (Q : Exit → Act → World → Prop) (a : Act) (w : World) : Prop :=
 ∀ b k cs, ∃ e a' w', Q e a' w' ∧ Arrives P (lone (b.at a (.code c :: .inLoop c :: k)) cs w) b k cs e a' w'
theorem VN (h : c.wp P (Exit.then (LV P c Q) Q) a w) : LV P c Q a w := by
 intro b k cs
 obtain ⟨e, a₁, w₁, hq, harr⟩ := h b (.inLoop c :: k) cs
 cases e with
 | normal =>
   obtain ⟨e₂, a₂, w₂, hq₂, harr₂⟩ := hq b k cs
   exact ⟨e₂, a₂, w₂, hq₂, .of_steps (Steps.trans harr (.one step_inLoop)) harr₂⟩
 | exit id => exact ⟨_, a₁, w₁, hq, .pass (x := .inLoop c) rfl (fun _ _ => .inl (by simp)) harr⟩
 | goto l => exact ⟨_, a₁, w₁, hq, .pass (x := .inLoop c) rfl (fun _ _ => .inl (by simp)) harr⟩
 | ret => exact ⟨_, a₁, w₁, hq, .pass (x := .inLoop c) rfl (fun _ _ => .inl (by simp)) harr⟩
 | panic ch => exact ⟨_, a₁, w₁, hq, .pass (x := .inLoop c) rfl (fun _ _ => .inl (by simp)) harr⟩
 | outgrown => exact ⟨_, a₁, w₁, hq, .pass (x := .inLoop c) rfl (fun _ _ => .inl (by simp)) harr⟩
theorem VO (h : LV P c Q a w) : (Code.loop c).wp P Q a w := by
 intro b k cs
 obtain ⟨e, a', w', hq, harr⟩ := h b k cs
 exact ⟨e, a', w', hq, .of_steps (.one step_loop) harr⟩
end
inductive FrE where
 | seq (p : List Nat) (c : Code)
 | block (id : Nat)
 | loop (p : List Nat) (b : Code)
 | scope
def rV (body : Code) : List Nat → Option (Code × List FrE)
 | [] => some (body, [])
 | d :: p => match rV body p with
   | some (.seq a b, fr) => match d with
     | 0 => some (a, .seq (1 :: p) b :: fr)
     | _ => some (b, fr)
   | some (.block id b, fr) => some (b, .block id :: fr)
   | some (.cond _ a b, fr) => match d with
     | 0 => some (a, fr)
     | _ => some (b, fr)
   | some (.loop b, fr) => some (b, .loop p b :: fr)
   | some (.scope b, fr) => some (b, .scope :: fr)
   | _ => none
def LW (body : Code) : List FrE → Prop
 | [] => True
 | .seq p c :: fr => rV body p = some (c, fr) ∧ LW body fr
 | .block _ :: fr => LW body fr
 | .loop p b :: fr => rV body p = some (.loop b, fr) ∧ LW body fr
 | .scope :: fr => LW body fr
def KE (P : Program) (Q : Exit → Act → World → Prop) : List FrE → Exit → Act → World → Prop
 | [] => Q
 | .seq _ c :: fr => Exit.then (fun a w => c.wp P (KE P Q fr) a w) (KE P Q fr)
 | .block id :: fr => Exit.inBlock id (KE P Q fr)
 | .loop _ b :: fr => Exit.then (LV P b (KE P Q fr)) (KE P Q fr)
 | .scope :: fr => Exit.noGoto (KE P Q fr)
inductive RK where
 | one (c : CK)
 | agg (cs : List CK)
 deriving DecidableEq, Inhabited
def RK.flat : RK → List CK
 | .one c => [c]
 | .agg cs => cs
def rQ : List RK → List CK
 | [] => []
 | r :: rs => r.flat ++ rQ rs
def Yw (c : CK) (t : SE) : AV := match c with
 | .int k => .int k t
 | .bool => .bool (.not (.eq t (.lit 0)))
 | .str => .lJ t
 | .sl ty => .dat t ty
def Ak : List CK → (Nat → SE) → Nat → List AV
 | [], _, _ => []
 | c :: cs, f, i => Yw c (f i) :: Ak cs f (i + 1)
def tN : List RK → (Nat → SE) → Nat → List AV
 | [], _, _ => []
 | .one c :: r, f, i => Yw c (f i) :: tN r f (i + 1)
 | .agg cs :: r, f, i => .agg (Ak cs f i) :: tN r f (i + cs.length)
def adB (c : CK) (v : AV) : Option SE := match c with
 | .int k => match v with
   | .int k' e => if k = k' then some e else none
   | _ => none
 | .bool => none
 | .str => yS v
 | .sl t => rJ (.sl t) v
def akU : AV → Bool
 | .agg _ => false
 | .tuple _ => false
 | _ => true
def cellsOf : List RK → List AV → Option (List AV)
 | [], [] => some []
 | .one _ :: rs, v :: vs => match akU v with
   | true => match cellsOf rs vs with
     | some l => some (v :: l)
     | none => none
   | false => none
 | .agg cs :: rs, v :: vs => match v with
   | .agg xs => match Nat.beq xs.length cs.length with
     | true => match cellsOf rs vs with
       | some l => some (xs ++ l)
       | none => none
     | false => none
   | _ => none
 | _, _ => none
def outs {α : Type} : List CK → List AV → St → (List SE → St → T α) → T α
 | [], [], s, k => k [] s
 | c :: cs, v :: vs, s, k => match c with
   | .bool => match v with
     | .bool b => oV s b fun s b => outs cs vs s fun es s => k (.lit (if b then 1 else 0) :: es) s
     | _ => .fail
   | c => match adB c v with
     | some e => outs cs vs s fun es s => k (e :: es) s
     | none => .fail
 | _, _, _, _ => .fail
def gW : List SE → SE
 | [] => .dat (.i 0)
 | e :: es => fV (FM e) (gW es)
def rO (r : SE) (i : Nat) : SE := .op .num (.op (.cell i) r (.lit 0)) (.lit 0)
inductive Lf where
 | out (es : List SE)
 | jump (j : Nat) (es : List SE)
 deriving Inhabited
structure GL where
 tt : TT
 call : dM
 draw : Nat → List Oper → St → T St
 lf : Nat
 res : List ResultVar
 nC : List RK
 dU : List dP := []
 ko : Nat := 0
 uN : List CS := []
 jJ : Nat := 0
def GL.ev (g : GL) (c : Code) (s : St) : T (Ex × St) := kH g.tt g.call g.draw g.lf c s
abbrev Il := List Nat → Option (List (Nat × CS))
def aqO : Nat → Tr (Nat × Nat)
 | 0 => .nil
 | n + 1 => (aqO n).put n (some (n, 0))
def iT (g : GL) (h : Hp) : Ren := match Gh h g.dU 0 ⟨.nil, aqO g.dU.length⟩ with
 | ⟨ns, _⟩ => ⟨Dj ns g.ko 0, List.range g.dU.length, []⟩
def CS.kS (m : Nat) (c : CS) (s : St) : Ren := match Gh s.h c.objs 0 (IL s.slots c.slots ⟨.nil, aqO m⟩) with
 | ⟨ns, bl⟩ => ⟨Dj ns c.k 0, PV bl c.objs.length 0, PU bl c.objs.length 0⟩
def J4 (m : Nat) (r : Ren) : Bool := match m with
 | 0 => true
 | n + 1 => (match gG r.bl n with | some j => Nat.beq j n | none => false) && Nat.beq (r.yZ n) 0 && J4 n r
def Hf : Nat → Nat → List SE → List SE
 | 0, _, ns => ns
 | _ + 1, _, [] => []
 | n + 1, i, _ :: ns => .aA i :: Hf n (i + 1) ns
def vN (jJ : Nat) (r : Ren) : Ren := match jJ with
 | 0 => r
 | n + 1 => { r with ns := Hf (n + 1) 0 r.ns }
def Ui (n m jJ : Nat) (s : St) : List CS → Nat → T Lf
 | [], _ => .fail
 | c :: l, i => match quick s.slots c.slots && Nat.beq n c.slots.length with
   | false => Ui n m jJ s l (i + 1)
   | true => match c.fits prv s (vN jJ (c.kS m s)) && J4 m (vN jJ (c.kS m s)) with
     | true => .ret (.out (.lit (Int.ofNat i) :: (vN jJ (c.kS m s)).ns))
     | false => Ui n m jJ s l (i + 1)
def afA (g : GL) (e : Ex) (s : St) : T Lf := match e with
 | .exit _ => .fail
 | _ => match lI g.tt s g.res with
   | none => .fail
   | some vs => match g.uN with
     | [] => match cellsOf g.nC vs with
       | none => .fail
       | some cells => Ez cells s fun cells s => match FX (iT g s.h) g.dU.length s.h g.dU 0 with
         | true => outs (rQ g.nC) cells s fun es _ => .ret (.out ((iT g s.h).ns ++ es))
         | false => .fail
     | c :: l => Ui vs.length g.dU.length g.jJ ⟨aW vs 0 .nil, s.h, s.pc⟩ (c :: l) 0
def vK (m jJ : Nat) (s : St) : List (Nat × CS) → T Lf
 | [] => .fail
 | (j, c) :: l => match quick s.slots c.slots with
   | false => vK m jJ s l
   | true => match c.fits prv s (vN jJ (c.kS m s)) && J4 m (vN jJ (c.kS m s)) with
     | true => .ret (.jump j (vN jJ (c.kS m s)).ns)
     | false => vK m jJ s l
def U3 {α : Type} (k : St → T α) : List (Nat × Nat) → St → T α
 | [], s => k s
 | (t, g) :: l, s => match s.slots.get t with
   | some (.int _ e) => oV s (.eq e (.aA g)) fun s _ => U3 k l s
   | _ => U3 k l s
def Ap {α : Type} (k : St → T α) : List Nat → St → T α
 | [], s => k s
 | t :: ts, s => match s.slots.get t with
   | some (.bool c) => oV s c fun s b => Ap k ts { s with slots := s.slots.put t (some (.bool (.lit b))) }
   | _ => Ap k ts s
def ahF : List (Nat × AV) → List Nat → List Nat
 | [], acc => acc
 | (t, .bool _) :: l, acc => ahF l (t :: acc)
 | _ :: l, acc => ahF l acc
def ahG : List (Nat × CS) → List Nat → List Nat
 | [], acc => acc
 | (_, c) :: l, acc => ahG l (ahF c.slots acc)
mutual
def BQ (g : GL) (tabs : Il) : Nat → List Nat → Code → List FrE → St → T Lf
 | 0, _, _, _, _ => .fail
 | n + 1, p, c, fr, s => match tabs p with
   | some l => Ap (fun s => vK g.dU.length g.jJ s l) (ahG l []) s
   | none => match c with
     | .seq a b => BQ g tabs n (0 :: p) a (.seq (1 :: p) b :: fr) s
     | .block id b => BQ g tabs n (0 :: p) b (.block id :: fr) s
     | .scope b => BQ g tabs n (0 :: p) b (.scope :: fr) s
     | .cond v a b => match As.ev s v with
       | some (.bool c) => oV s c fun s t => match t with
         | true => BQ g tabs n (0 :: p) a fr s
         | false => BQ g tabs n (1 :: p) b fr s
       | _ => .fail
     | c => (g.ev c s).bind fun (e, s') => yB g tabs n fr e s'
def yB (g : GL) (tabs : Il) : Nat → List FrE → Ex → St → T Lf
 | 0, _, _, _ => .fail
 | n + 1, fr, e, s => match fr with
   | [] => afA g e s
   | .seq p c :: fr => match e with
     | .normal => BQ g tabs n p c fr s
     | e => yB g tabs n fr e s
   | .block id :: fr => match e with
     | .exit j => match Nat.beq j id with
       | true => yB g tabs n fr .normal s
       | false => yB g tabs n fr (.exit j) s
     | e => yB g tabs n fr e s
   | .loop p _ :: fr => match e with
     | .normal => match tabs p with
       | some l => Ap (fun s => vK g.dU.length g.jJ s l) (ahG l []) s
       | none => .fail
     | e => yB g tabs n fr e s
   | .scope :: fr => yB g tabs n fr e s
end
abbrev Fz := Nat → List Int → Option (List Int)
def nX (xs : List Int) : Int := enc (dL (xs.map .i))
def Good (F : Fz) (ρ : Nat → Int) : Prop := ∀ j xs, ρ (jT (2 * j) (nX xs)) = (if (F j xs).isSome then 1 else 0) ∧ ρ (jT (2 * j + 1) (nX xs)) = nX ((F j xs).getD [])
def low (xs : List Int) (i : Nat) : Int := xs.getD i 0
open Classical in
def dF (F : Fz) (lo : Nat → Int) (i : Nat) : Int := if i < 900 then lo i else
 if h : ∃ p : Nat × List Int, i = jT (2 * p.1) (nX p.2) then (if (F h.choose.1 h.choose.2).isSome then 1 else 0) else
 if h : ∃ p : Nat × List Int, i = jT (2 * p.1 + 1) (nX p.2) then nX ((F h.choose.1 h.choose.2).getD []) else 0
theorem UA {a b : List Int} (h : nX a = nX b) : a = b := by
 unfold nX at h
 have := Gv (oO h)
 have hinj : ∀ {x y : List Int}, x.map D.i = y.map D.i → x = y := by
  intro x
  induction x with
  | nil => intro y h; cases y with | nil => rfl | cons z y => simp at h
  | cons z x ih =>
    intro y h
    cases y with
    | nil => simp at h
    | cons q y =>
      simp only [List.map_cons, List.cons.injEq, D.i.injEq] at h
      rw [h.1, ih h.2]
 exact hinj this
theorem wY {f g : Nat} {a b : Int} (h : jT f a = jT g b) : f = g ∧ a = b := by
 unfold jT at h
 obtain ⟨h1, h2⟩ := FZ (a := f) (b := zN a) (a' := g) (b' := zN b) (by omega)
 exact ⟨h1, aaG h2⟩
theorem Az (f : Nat) (a : Int) : 1000 ≤ jT f a := by unfold jT; omega
theorem uD {F : Fz} {lo : Nat → Int} {i : Nat} (h : i < 900) : dF F lo i = lo i := by unfold dF; rw [if_pos h]
theorem mJ (F : Fz) (lo : Nat → Int) : Good F (dF F lo) := by
 intro j xs
 have h1 := Az (2 * j) (nX xs)
 have h2 := Az (2 * j + 1) (nX xs)
 constructor
 ·unfold dF
  rw [if_neg (by omega)]
  have h : ∃ p : Nat × List Int, jT (2 * j) (nX xs) = jT (2 * p.1) (nX p.2) := ⟨(j, xs), rfl⟩
  rw [dif_pos h]
  obtain ⟨q1, q2⟩ := wY h.choose_spec
  have q2 := UA q2
  have q1 : h.choose.1 = j := by omega
  rw [← q2, q1]
 ·unfold dF
  rw [if_neg (by omega)]
  have hn : ¬ ∃ p : Nat × List Int, jT (2 * j + 1) (nX xs) = jT (2 * p.1) (nX p.2) := by
   rintro ⟨p, hp⟩
   have := (wY hp).1
   omega
  rw [dif_neg hn]
  have h : ∃ p : Nat × List Int, jT (2 * j + 1) (nX xs) = jT (2 * p.1 + 1) (nX p.2) := ⟨(j, xs), rfl⟩
  rw [dif_pos h]
  obtain ⟨q1, q2⟩ := wY h.choose_spec
  have q2 := UA q2
  have q1 : h.choose.1 = j := by omega
  rw [← q2, q1]
theorem Good.ren {F : Fz} {ρ ρ' : Nat → Int} (g : Good F ρ) (h : ∀ i, 900 ≤ i → ρ' i = ρ i) : Good F ρ' := by
 intro j xs
 have h1 := Az (2 * j) (nX xs)
 have h2 := Az (2 * j + 1) (nX xs)
 rw [h _ (by omega), h _ (by omega)]
 exact g j xs
def dX (tree : Nat → T Lf) : Nat → Fz
 | 0, _, _ => none
 | n + 1, j, xs => match (tree j).leaf (dF (dX tree n) (low xs)) with
   | none => none
   | some (.out es) => some (es.map (SE.den (dF (dX tree n) (low xs))))
   | some (.jump j' es) => dX tree n j' (es.map (SE.den (dF (dX tree n) (low xs))))
def MS : List CK → Bool
 | [] => true
 | c :: l => match c with
   | .int _ => MS l
   | .bool => MS l
   | _ => false
def aeA (j : Nat) (LK nC : List RK) : List AV → St → T (AV × St) := fun args s => match cellsOf LK args with
 | none => .fail
 | some cells => Ez cells s fun cells s1 => outs (rQ LK) cells s1 fun es s2 =>
  oV s2 (.eq (.ap (2 * j) (gW es)) (.lit 1)) fun s3 b => match b with
   | true => .ret (match tN nC (rO (.ap (2 * j + 1) (gW es))) 0 with | [v] => v | vs => .tuple vs, match MS (rQ nC) with
     | true => { s3 with h := s.h }
     | false => s3)
   | false => .fail
end
end Go.As
end
section
namespace Go.As
open Go.RowKit
def fJ (K : Nat) : SE → Bool
 | .lit _ => true
 | .aA i => Nat.blt i K
 | .add a b => fJ K a && fJ K b
 | .sub a b => fJ K a && fJ K b
 | .mul a b => fJ K a && fJ K b
 | .quo a b => fJ K a && fJ K b
 | .rem a b => fJ K a && fJ K b
 | .wrap _ a => fJ K a
 | .inp _ _ => false
 | .dat _ => true
 | .op _ a b => fJ K a && fJ K b
 | .ap _ _ => false
def zH (K : Nat) : SB → Bool
 | .lit _ => true
 | .lt a b => fJ K a && fJ K b
 | .le a b => fJ K a && fJ K b
 | .eq a b => fJ K a && fJ K b
 | .not s => zH K s
 | .and a b => zH K a && zH K b
mutual
def mV (K : Nat) : AV → Bool
 | .bool b => zH K b
 | .int _ e => fJ K e
 | .qI cs => nR K cs
 | .ro cs _ _ => nR K cs
 | .func _ a b => nR K a && nR K b
 | .iface _ v => mV K v
 | .agg cs => nR K cs
 | .tuple cs => nR K cs
 | .inp _ _ => false
 | .dat e _ => fJ K e
 | .lJ e => fJ K e
 | .uM _ n _ => fJ K n
 | .nY _ _ i _ => fJ K i
 | .yX _ l n _ => fJ K l && fJ K n
 | .Fv z _ => fJ K z
 | _ => true
def nR (K : Nat) : List AV → Bool
 | [] => true
 | x :: xs => mV K x && nR K xs
end
def I5 (K : Nat) : List (AV × AV × Nat) → Bool
 | [] => true
 | (k, v, _) :: l => mV K k && mV K v && I5 K l
def JD (K : Nat) : List (SE × List AV) → Bool
 | [] => true
 | (i, cs) :: l => fJ K i && nR K cs && JD K l
def D7 (K : Nat) : dP → Bool
 | .cells cs _ => nR K cs
 | .map es _ => I5 K es
 | .mM _ _ => true
 | .vec e _ _ ov => fJ K e && JD K ov
 | .iI e _ => fJ K e
def XG (K : Nat) : List (SB × Bool) → Bool
 | [] => true
 | (c, _) :: l => zH K c && XG K l
def wB (K : Nat) : List (Nat × AV) → Bool
 | [] => true
 | (_, v) :: l => mV K v && wB K l
def IG (K : Nat) : List dP → Bool
 | [] => true
 | o :: l => D7 K o && IG K l
def Ai (K : Nat) (c : CS) : Bool := wB K c.slots && IG K c.objs && XG K c.pc
section
variable {K : Nat} {ρ ρ' : Nat → Int} (hρ : ∀ i, i < K → ρ' i = ρ i)
include hρ
theorem cZ : ∀ e : SE, fJ K e = true → e.den ρ' = e.den ρ
 | .lit _, _ => rfl
 | .aA i, h => by simp only [fJ] at h; exact hρ i (Aq h)
 | .add a b, h => by simp only [fJ, Bool.and_eq_true] at h; simp only [SE.den, cZ a h.1, cZ b h.2]
 | .sub a b, h => by simp only [fJ, Bool.and_eq_true] at h; simp only [SE.den, cZ a h.1, cZ b h.2]
 | .mul a b, h => by simp only [fJ, Bool.and_eq_true] at h; simp only [SE.den, cZ a h.1, cZ b h.2]
 | .quo a b, h => by simp only [fJ, Bool.and_eq_true] at h; simp only [SE.den, cZ a h.1, cZ b h.2]
 | .rem a b, h => by simp only [fJ, Bool.and_eq_true] at h; simp only [SE.den, cZ a h.1, cZ b h.2]
 | .wrap _ a, h => by simp only [fJ] at h; simp only [SE.den, cZ a h]
 | .inp _ _, h => by simp [fJ] at h
 | .dat _, _ => rfl
 | .op _ a b, h => by simp only [fJ, Bool.and_eq_true] at h; simp only [SE.den, cZ a h.1, cZ b h.2]
 | .ap _ _, h => by simp [fJ] at h
theorem wG : ∀ c : SB, zH K c = true → c.den ρ' = c.den ρ
 | .lit _, _ => rfl
 | .lt a b, h => by simp only [zH, Bool.and_eq_true] at h; simp only [SB.den, cZ hρ a h.1, cZ hρ b h.2]
 | .le a b, h => by simp only [zH, Bool.and_eq_true] at h; simp only [SB.den, cZ hρ a h.1, cZ hρ b h.2]
 | .eq a b, h => by simp only [zH, Bool.and_eq_true] at h; simp only [SB.den, cZ hρ a h.1, cZ hρ b h.2]
 | .not s, h => by simp only [zH] at h; simp only [SB.den, wG s h]
 | .and a b, h => by simp only [zH, Bool.and_eq_true] at h; simp only [SB.den, wG a h.1, wG b h.2]
end
section
variable {K : Nat} {E E' : En} (hρ : ∀ i, i < K → E'.ρ i = E.ρ i) (hθ : E'.θ = E.θ) (hκ : E'.κ = E.κ) (hdm : E'.dm = E.dm) (hro : E'.ro = E.ro) {h : Array Obj}
include hρ hθ hκ hdm hro
theorem fE.low {id off len : Nat} {a : Addr} {cap : Nat} {c : UQ} (hc : fE E id off len a cap c) : fE E' id off len a cap c := by
 cases c <;> simp only [fE] at * <;> rw [hθ]
 ·exact hc
 ·rw [hκ]; exact hc
mutual
theorem VR.low : ∀ (x : AV) (u : Value), mV K x = true → VR E h x u → VR E' h x u
 | .bool b, u, hl, hv => by simp only [VR, mV] at *; rw [wG hρ b hl]; exact hv
 | .int _ e, u, hl, hv => by simp only [VR, mV] at *; rw [cZ hρ e hl]; exact hv
 | .str s, u, _, hv => by simp only [VR] at *; exact hv
 | .ptr id off, u, _, hv => by simp only [VR] at *; rw [hθ, hdm]; exact hv
 | .jW, u, _, hv => by simp only [VR] at *; exact hv
 | .qI cs, u, hl, hv => by
   simp only [VR, mV] at *
   obtain ⟨b, o, us, h1, h2, h3, h4, h5⟩ := hv
   exact ⟨b, o, us, h1, by rw [hro]; exact h2, bD.low cs us hl h3, h4, h5⟩
 | .slice id off len c, u, _, hv => by
   simp only [VR] at *
   obtain ⟨h1, a, cap, h2, h3, h4⟩ := hv
   exact ⟨by rw [hdm]; exact h1, a, cap, h2, h3, fE.low hρ hθ hκ hdm hro h4⟩
 | .aP, u, _, hv => by simp only [VR] at *; exact hv
 | .ro cs n full, u, hl, hv => by
   simp only [VR, mV] at *
   obtain ⟨b, o, cap, us, h1, h2, h3, h4, h5, h6, h7⟩ := hv
   exact ⟨b, o, cap, us, h1, h2, h3, by rw [hro]; exact h4, bD.low cs us hl h5, h6, h7⟩
 | .map id, u, _, hv => by simp only [VR] at *; rw [hθ, hdm]; exact hv
 | .oZ, u, _, hv => by simp only [VR] at *; exact hv
 | .func fn fs cs, u, hl, hv => by
   simp only [VR, mV, Bool.and_eq_true] at *
   obtain ⟨us, ws, h1, h2, h3⟩ := hv
   exact ⟨us, ws, h1, bD.low fs us hl.1 h2, bD.low cs ws hl.2 h3⟩
 | .BO, u, _, hv => by simp only [VR] at *; exact hv
 | .iface t x, u, hl, hv => by
   simp only [VR, mV] at *
   obtain ⟨y, h1, h2⟩ := hv
   exact ⟨y, h1, VR.low x y hl h2⟩
 | .D8, u, _, hv => by simp only [VR] at *; exact hv
 | .agg cs, u, hl, hv => by
   simp only [VR, mV] at *
   obtain ⟨us, h1, h2⟩ := hv
   exact ⟨us, h1, bD.low cs us hl h2⟩
 | .tuple cs, u, hl, hv => by
   simp only [VR, mV] at *
   obtain ⟨us, h1, h2⟩ := hv
   exact ⟨us, h1, bD.low cs us hl h2⟩
 | .opq _, u, _, hv => by simp only [VR] at hv
 | .inp _ _, u, hl, _ => by simp [mV] at hl
 | .emp, u, _, hv => by simp only [VR] at *; exact hv
 | .dat e t, u, hl, hv => by simp only [VR, mV] at *; rw [cZ hρ e hl, hro]; exact hv
 | .lJ e, u, hl, hv => by simp only [VR, mV] at *; rw [cZ hρ e hl, hro]; exact hv
 | .uM id n t, u, hl, hv => by
   simp only [VR, mV] at *
   obtain ⟨h1, k, a, cap, h2, h3, h4, h5⟩ := hv
   exact ⟨by rw [hdm]; exact h1, k, a, cap, by rw [cZ hρ n hl]; exact h2, h3, h4, fE.low hρ hθ hκ hdm hro h5⟩
 | .nY id es i off, u, hl, hv => by
   simp only [VR, mV] at *
   obtain ⟨h1, k, h2, h3⟩ := hv
   exact ⟨by rw [hdm]; exact h1, k, by rw [cZ hρ i hl]; exact h2, by rw [hθ]; exact h3⟩
 | .any, u, _, _ => by simp only [VR]
 | .Fv z t, u, hl, hv => by simp only [VR, mV] at *; rw [cZ hρ z hl, hro]; exact hv
 | .yX id lo n t, u, hl, hv => by
   simp only [VR, mV, Bool.and_eq_true] at *
   obtain ⟨h1, l, k, a, cap, h2, h3, h4, h5, h6⟩ := hv
   exact ⟨by rw [hdm]; exact h1, l, k, a, cap, by rw [cZ hρ lo hl.1]; exact h2, by rw [cZ hρ n hl.2]; exact h3, h4, h5, fE.low hρ hθ hκ hdm hro h6⟩
theorem bD.low : ∀ (xs : List AV) (us : List Value), nR K xs = true → bD E h xs us → bD E' h xs us
 | [], us, _, hv => by simp only [bD] at *; exact hv
 | x :: xs, us, hl, hv => by
   simp only [bD, nR, Bool.and_eq_true] at *
   obtain ⟨u, vs, h1, h2, h3⟩ := hv
   exact ⟨u, vs, h1, VR.low x u hl.1 h2, bD.low xs vs hl.2 h3⟩
end
theorem eF.low : ∀ {es : List (AV × AV × Nat)} {ents : List MapEntry}, I5 K es = true → eF E h es ents → eF E' h es ents
 | [], _, _, hv => by simp only [eF] at *; exact hv
 | (k, v, b) :: es, ents, hl, hv => by
   simp only [eF, I5, Bool.and_eq_true] at *
   obtain ⟨e, r, h1, h2, h3, h4, h5⟩ := hv
   exact ⟨e, r, h1, VR.low hρ hθ hκ hdm hro k _ hl.1.1 h2, VR.low hρ hθ hκ hdm hro v _ hl.1.2 h3, h4, eF.low hl.2 h5⟩
theorem Ny {i : Nat} : ∀ {ov : List (SE × List AV)}, JD K ov = true → dO E'.ρ i ov = dO E.ρ i ov
 | [], _ => rfl
 | (j, cs) :: l, hl => by
   simp only [JD, Bool.and_eq_true] at hl
   simp only [dO]
   rw [cZ hρ j hl.1.1, Ny hl.2]
theorem NC : ∀ {ov : List (SE × List AV)}, JD K ov = true → ∀ p ∈ ov, nR K p.2 = true
 | [], _, p, hp => by simp at hp
 | (j, cs) :: l, hl, p, hp => by
   simp only [JD, Bool.and_eq_true] at hl
   rcases List.mem_cons.1 hp with rfl | hp
   ·exact hl.1.2
   ·exact NC hl.2 p hp
theorem ER {r : Row} {ov : List (SE × List AV)} (hl : JD K ov = true) : ∀ (ds : List D) (i : Nat) {us : List Value}, bD E h (aG E.ρ r ov ds i) us → bD E' h (aG E'.ρ r ov ds i) us
 | [], _, us, hv => by simp only [aG, bD] at *; exact hv
 | d :: ds, i, us, hv => by
   simp only [aG] at *
   obtain ⟨a, b, rfl, h1, h2⟩ := hv.split
   refine bD.append ?_ (ER hl ds (i + 1) h2)
   rw [Ny hρ hθ hκ hdm hro hl]
   cases ho : dO E.ρ i ov with
   | none =>
     rw [ho] at h1
     rw [iE] at h1 ⊢
     rw [hro]
     exact h1
   | some cs =>
     rw [ho] at h1
     obtain ⟨p, p1, p2, _⟩ := mG ho
     exact bD.low hρ hθ hκ hdm hro cs a (by rw [← p2]; exact NC hρ hθ hκ hdm hro hl p p1) h1
theorem OR.low {id : Nat} {o : dP} (hl : D7 K o = true) (ho : OR E h id o) : OR E' h id o := by
 cases o with
 | cells cs e =>
   simp only [OR, D7] at *
   obtain ⟨arr, lo, hi, us, h1, h2, h3, h4, h5, h6, h7⟩ := ho
   rw [hθ, hκ]
   exact ⟨arr, lo, hi, us, h1, bD.low hρ hθ hκ hdm hro cs us hl h2, h3, h4, h5, h6, h7⟩
 | map es c =>
   simp only [OR, D7] at *
   obtain ⟨ents, c', h1, h2⟩ := ho
   rw [hθ]
   exact ⟨ents, c', h1, eF.low hρ hθ hκ hdm hro hl h2⟩
 | mM s p => simp only [OR] at *; rw [hθ]; exact ho
 | iI e t =>
   simp only [OR, D7] at *
   obtain ⟨ents, c', h1, h2⟩ := ho
   rw [hθ, cZ hρ e hl, hro]
   exact ⟨ents, c', h1, h2⟩
 | vec e t ty ov =>
   simp only [OR, D7, Bool.and_eq_true] at *
   obtain ⟨⟨h0, hw⟩, arr, lo, hi, us, h1, h2, h3, h4, h5, h6, h7⟩ := ho
   have he := cZ hρ e hl.1
   rw [hθ, hκ, he]
   refine ⟨⟨h0, hw⟩, arr, lo, hi, us, h1, ER hρ hθ hκ hdm hro hl.2 _ _ h2, h3, ?_, h5, h6, h7⟩
   rw [bQ h0] at h4 ⊢
   exact h4
end
theorem SS {K : Nat} {ρ ρ' : Nat → Int} (hρ : ∀ i, i < K → ρ' i = ρ i) : ∀ {pc : List (SB × Bool)}, XG K pc = true → aZ ρ pc → aZ ρ' pc
 | [], _, _ => by intro c b h; simp at h
 | (c0, b0) :: l, hl, hp => by
   simp only [XG, Bool.and_eq_true] at hl
   intro c b hm
   rcases List.mem_cons.1 hm with hm | hm
   ·simp only [Prod.mk.injEq] at hm
    obtain ⟨rfl, rfl⟩ := hm
    rw [wG hρ c hl.1]
    exact hp c b (by simp)
   ·exact SS hρ hl.2 (fun c b h => hp c b (by simp [h])) c b hm
theorem DL {K : Nat} : ∀ {l : List (Nat × AV)}, wB K l = true → ∀ {t : Nat} {v : AV}, (t, v) ∈ l → mV K v = true
 | [], _, _, _, h => by simp at h
 | (t0, v0) :: l, hs, t, v, h => by
   simp only [wB, Bool.and_eq_true] at hs
   rcases List.mem_cons.1 h with h | h
   ·simp only [Prod.mk.injEq] at h
    rw [h.2]; exact hs.1
   ·exact DL hs.2 h
theorem zM {K : Nat} : ∀ {l : List dP}, IG K l = true → ∀ {i : Nat} {o : dP}, l[i]? = some o → D7 K o = true
 | [], _, _, _, h => by simp at h
 | o0 :: l, hs, i, o, h => by
   simp only [IG, Bool.and_eq_true] at hs
   cases i with
   | zero => simp at h; rw [← h]; exact hs.1
   | succ i => exact zM hs.2 (by simpa using h)
structure Fh (E : En) (s : St) (a : Act) (w : World) : Prop where
 fresh : ∀ id, s.h.next ≤ id → ¬ E.dm id
 res : ∀ r, s.h.res = some r → r < s.h.next ∧ ¬ E.dm r
 live : ∀ id o, s.h.get id = some o → E.dm id ∧ OR E w.heap id o ∧ ¬ E.ro (E.θ id).1
 inj : ∀ id id' o o', s.h.get id = some o → s.h.get id' = some o' → (E.θ id).1 = (E.θ id').1 → id = id'
 A8 : ∀ b, E.ro b → b < w.heap.size
 sr : SR E w.heap s.slots a
 pc : aZ E.ρ s.pc
theorem Fit.x [Glob] {E : En} {s : St} {a : Act} {w : World} (f : Fit E s a w) : Fh E s a w := ⟨f.rel.fresh, f.rel.res, f.rel.live, f.rel.inj, f.rel.A8, f.sr, f.pc⟩
theorem Fh.fit [Glob] {E : En} {s : St} {a : Act} {w : World} (f : Fh E s a w) (hg : Glob.ok E.ρ E.ro w.heap) : Fit E s a w := ⟨⟨f.fresh, f.res, f.live, f.inj, f.A8, hg⟩, f.sr, f.pc⟩
theorem Fh.low {K : Nat} {E : En} {c : CS} {a : Act} {w : World} {ρ' : Nat → Int} (hc : Ai K c = true) (hρ : ∀ i, i < K → ρ' i = E.ρ i) (f : Fh E c.st a w) : Fh { E with ρ := ρ' } c.st a w := by
 unfold Ai at hc
 simp only [Bool.and_eq_true] at hc
 obtain ⟨⟨h1, h2⟩, h3⟩ := hc
 refine ⟨f.fresh, f.res, fun id o ho => ?_, f.inj, f.A8, fun t v ht => ?_, SS hρ h3 f.pc⟩
 ·obtain ⟨q1, q2, q3⟩ := f.live id o ho
  refine ⟨q1, OR.low (E := E) (E' := { E with ρ := ρ' }) hρ rfl rfl rfl rfl ?_ q2, q3⟩
  have : (tK c.objs 0 .nil).get id = some o := ho
  rw [lT] at this
  split at this
  ·exact zM h2 this
  ·simp [Tr.get] at this
 ·obtain ⟨u, q1, q2⟩ := f.sr t v ht
  refine ⟨u, q1, VR.low (E := E) (E' := { E with ρ := ρ' }) hρ rfl rfl rfl rfl v u ?_ q2⟩
  have : (pX c.slots .nil).get t = some v := ht
  rcases zD this with h | h
  ·exact DL h1 h
  ·simp [Tr.get] at h
end Go.As
end
section
namespace Go.As
open Go.RowKit
def AL (ro : Nat → Prop) (h : Array Obj) (c : CK) (n : Int) (u : Value) : Prop := match c with
 | .int k => u = .int k n
 | .bool => u = .bool (!(n == 0))
 | c => Rd ro h c (dec n) u
def iF (ro : Nat → Prop) (h : Array Obj) : List CK → List Int → List Value → Prop
 | [], ns, us => ns = [] ∧ us = []
 | c :: cs, ns, us => ∃ n ns' u us', ns = n :: ns' ∧ us = u :: us' ∧ AL ro h c n u ∧ iF ro h cs ns' us'
theorem Lu {E : En} {h : Array Obj} {c : CK} {t : SE} {u : Value} : VR E h (Yw c t) u ↔ AL E.ro h c (t.den E.ρ) u := by
 cases c <;> simp only [Yw, AL, VR, SB.den, SE.den]
theorem adA {E : En} {h : Array Obj} {c : CK} {v : AV} {u : Value} {e : SE} (hv : VR E h v u) (hn : adB c v = some e) : AL E.ro h c (e.den E.ρ) u := by
 unfold adB at hn
 split at hn
 ·split at hn
  ·split at hn
   ·rename_i hk
    subst hk
    simp only [Option.some.injEq] at hn
    subst hn
    simpa only [AL, VR] using hv
   ·simp at hn
  ·simp at hn
 ·simp at hn
 ·obtain ⟨s, rfl, hs⟩ := DI hv hn
  simp only [AL, hs]
  exact .str s
 ·exact pV hv hn
theorem iF.length {ro : Nat → Prop} {h : Array Obj} : ∀ {cs : List CK} {ns : List Int} {us : List Value}, iF ro h cs ns us → ns.length = cs.length ∧ us.length = cs.length
 | [], ns, us, hh => by simp only [iF] at hh; simp [hh.1, hh.2]
 | c :: cs, ns, us, hh => by
   obtain ⟨n, ns', u, us', rfl, rfl, _, h2⟩ := hh
   have := h2.length
   simp [this.1, this.2]
theorem AL.keep {ro ro' : Nat → Prop} {h h' : Array Obj} (k1 : ∀ b, ro b → ro' b) (k2 : ∀ b, ro b → h'[b]? = h[b]?) {c : CK} {n : Int} {u : Value} (r : AL ro h c n u) : AL ro' h' c n u := by
 cases c with
 | int k => exact r
 | bool => exact r
 | str => exact Rd.keep k1 k2 r
 | sl t => exact Rd.keep k1 k2 r
theorem Ls {E : En} {h : Array Obj} {f : Nat → SE} : ∀ {cs : List CK} {i : Nat} {ns : List Int} {us : List Value}, iF E.ro h cs ns us → (∀ k n, ns[k]? = some n → (f (i + k)).den E.ρ = n) → bD E h (Ak cs f i) us
 | [], _, _, us, hh, _ => by simp only [iF] at hh; rw [hh.2]; simp [Ak, bD]
 | c :: cs, i, ns, us, hh, hf => by
   obtain ⟨n, ns', u, us', rfl, rfl, h1, h2⟩ := hh
   simp only [Ak, aQ]
   refine ⟨u, us', rfl, ?_, Ls h2 fun k m hk => ?_⟩
   ·rw [Lu]
    have := hf 0 n rfl
    rw [Nat.add_zero] at this
    rw [this]
    exact h1
   ·have := hf (k + 1) m (by simpa using hk)
    rw [show i + 1 + k = i + (k + 1) by omega]
    exact this
theorem Ux {E : En} {h : Array Obj} {f : Nat → SE} : ∀ {cs : List CK} {i : Nat} {us : List Value}, bD E h (Ak cs f i) us → iF E.ro h cs ((List.range' i cs.length).map fun k => (f k).den E.ρ) us
 | [], _, us, hh => by simp only [Ak, bD] at hh; simp [iF, hh]
 | c :: cs, i, us, hh => by
   simp only [Ak, aQ] at hh
   obtain ⟨u, us', rfl, h1, h2⟩ := hh
   simp only [List.length_cons, List.range'_succ, List.map_cons, iF]
   exact ⟨_, _, u, us', rfl, rfl, Lu.1 h1, Ux h2⟩
inductive Shape : List RK → List Value → List Value → Prop where
 | nil : Shape [] [] []
 | one (c : CK) {rs : List RK} {us fl : List Value} (u : Value) : Shape rs us fl → Shape (.one c :: rs) (u :: us) (u :: fl)
 | agg (cs : List CK) {rs : List RK} {us fl : List Value} (xs : List Value) (h : xs.length = cs.length) : Shape rs us fl → Shape (.agg cs :: rs) (.agg xs.toArray :: us) (xs ++ fl)
theorem qE {E : En} {h : Array Obj} : ∀ {nC : List RK} {vs cells : List AV} {us : List Value}, bD E h vs us → cellsOf nC vs = some cells → ∃ fl, Shape nC us fl ∧ bD E h cells fl
 | [], [], cells, us, hv, hc => by
   simp only [cellsOf, Option.some.injEq] at hc
   subst hc
   simp only [bD] at hv
   subst hv
   exact ⟨[], .nil, by simp [bD]⟩
 | [], _ :: _, cells, us, hv, hc => by simp [cellsOf] at hc
 | .one _ :: _, [], cells, us, hv, hc => by simp [cellsOf] at hc
 | .agg _ :: _, [], cells, us, hv, hc => by simp [cellsOf] at hc
 | .one c :: rs, v :: vs, cells, us, hv, hc => by
   rw [aQ] at hv
   obtain ⟨u, us', rfl, h1, h2⟩ := hv
   simp only [cellsOf] at hc
   split at hc
   ·split at hc
    ·rename_i l hl
     simp only [Option.some.injEq] at hc
     subst hc
     obtain ⟨fl, s, v2⟩ := qE h2 hl
     exact ⟨u :: fl, .one c u s, by rw [aQ]; exact ⟨u, fl, rfl, h1, v2⟩⟩
    ·simp at hc
   ·simp at hc
 | .agg cs :: rs, v :: vs, cells, us, hv, hc => by
   rw [aQ] at hv
   obtain ⟨u, us', rfl, h1, h2⟩ := hv
   simp only [cellsOf] at hc
   split at hc
   ·rename_i xs
    split at hc
    ·rename_i hlen
     have hlen := Nat.eq_of_beq_eq_true hlen
     split at hc
     ·rename_i l hl
      simp only [Option.some.injEq] at hc
      subst hc
      obtain ⟨fl, s, v2⟩ := qE h2 hl
      simp only [VR] at h1
      obtain ⟨ws, rfl, h3⟩ := h1
      exact ⟨ws ++ fl, .agg cs ws (by rw [h3.length, hlen]) s, h3.append v2⟩
     ·simp at hc
    ·simp at hc
   ·simp at hc
theorem CP {ro : Nat → Prop} {h : Array Obj} : ∀ {cs ds : List CK} {ns : List Int} {us vs : List Value}, us.length = cs.length → iF ro h (cs ++ ds) ns (us ++ vs) → ∃ a b, ns = a ++ b ∧ iF ro h cs a us ∧ iF ro h ds b vs
 | [], ds, ns, us, vs, hl, hh => by
   have : us = [] := List.eq_nil_of_length_eq_zero hl
   subst this
   exact ⟨[], ns, rfl, by simp [iF], hh⟩
 | c :: cs, ds, ns, us, vs, hl, hh => by
   simp only [List.cons_append, iF] at hh
   obtain ⟨n, ns', u, us', rfl, he, h1, h2⟩ := hh
   cases us with
   | nil => simp at hl
   | cons x us =>
     simp only [List.cons_append, List.cons.injEq] at he
     obtain ⟨rfl, rfl⟩ := he
     obtain ⟨a, b, rfl, h3, h4⟩ := CP (by simpa using hl) h2
     exact ⟨n :: a, b, rfl, ⟨n, a, x, us, rfl, rfl, h1, h3⟩, h4⟩
theorem wO {E : En} {h : Array Obj} {f : Nat → SE} : ∀ {nC : List RK} {us fl : List Value} {ns : List Int} {i : Nat}, Shape nC us fl → iF E.ro h (rQ nC) ns fl → (∀ k n, ns[k]? = some n → (f (i + k)).den E.ρ = n) → bD E h (tN nC f i) us
 | [], us, fl, ns, i, s, _, _ => by cases s; simp [tN, bD]
 | .one c :: rs, us, fl, ns, i, s, hc, hf => by
   cases s with
   | one _ u s =>
     simp only [rQ, RK.flat, List.cons_append, List.nil_append, iF] at hc
     obtain ⟨n, ns', u', us', rfl, he, h1, h2⟩ := hc
     simp only [List.cons.injEq] at he
     obtain ⟨rfl, rfl⟩ := he
     simp only [tN, aQ]
     refine ⟨_, _, rfl, ?_, wO s h2 fun k m hk => ?_⟩
     ·rw [Lu]
      have := hf 0 n rfl
      rw [Nat.add_zero] at this
      rw [this]; exact h1
     ·have := hf (k + 1) m (by simpa using hk)
      rw [show i + 1 + k = i + (k + 1) by omega]
      exact this
 | .agg cs :: rs, us, fl, ns, i, s, hc, hf => by
   cases s with
   | agg _ xs hl s =>
     simp only [rQ, RK.flat] at hc
     obtain ⟨a, b, rfl, h1, h2⟩ := CP hl hc
     have hal := h1.length.1
     simp only [tN, aQ, VR]
     refine ⟨_, _, rfl, ⟨xs, rfl, Ls h1 fun k m hk => hf k m ?_⟩, wO s h2 fun k m hk => ?_⟩
     ·rw [List.getElem?_append_left (List.getElem?_eq_some_iff.1 hk).1]; exact hk
     ·have := hf (cs.length + k) m (by rw [List.getElem?_append_right (by omega), show cs.length + k - a.length = k by omega]; exact hk)
      rw [show i + cs.length + k = i + (cs.length + k) by omega]
      exact this
section
variable {P : Program} {E : En} {w : World}
theorem IE {α : Type} {r : α} {h : Array Obj} : ∀ {cs : List CK} {vs : List AV} {s : St} {k : List SE → St → T α} {us : List Value}, aZ E.ρ s.pc → bD E h vs us → (outs cs vs s k).leaf E.ρ = some r →
 ∃ es pc', aZ E.ρ pc' ∧ iF E.ro h cs (es.map (SE.den E.ρ)) us ∧ (k es { s with pc := pc' }).leaf E.ρ = some r
 | [], [], s, k, us, hp, hv, hl => by
   simp only [outs] at hl
   simp only [bD] at hv
   exact ⟨[], s.pc, hp, by simp [iF, hv], hl⟩
 | [], _ :: _, s, k, us, hp, hv, hl => by simp [outs, T.leaf] at hl
 | _ :: _, [], s, k, us, hp, hv, hl => by simp [outs, T.leaf] at hl
 | c :: cs, v :: vs, s, k, us, hp, hv, hl => by
   rw [aQ] at hv
   obtain ⟨u, us', rfl, h1, h2⟩ := hv
   simp only [outs] at hl
   split at hl
   ·split at hl
    ·rename_i b
     obtain ⟨pc1, hp1, hl1⟩ := cO hp hl
     obtain ⟨es, pc2, hp2, q1, q2⟩ := IE (s := { s with pc := pc1 }) hp1 h2 hl1
     refine ⟨_ :: es, pc2, hp2, ?_, q2⟩
     simp only [List.map_cons, iF]
     refine ⟨_, _, u, us', rfl, rfl, ?_, q1⟩
     simp only [VR] at h1
     subst h1
     simp only [AL, SE.den]
     cases b.den E.ρ <;> rfl
    ·simp [T.leaf] at hl
   ·split at hl
    ·rename_i e he
     obtain ⟨es, pc2, hp2, q1, q2⟩ := IE hp h2 hl
     refine ⟨_ :: es, pc2, hp2, ?_, q2⟩
     simp only [List.map_cons, iF]
     exact ⟨_, _, u, us', rfl, rfl, adA h1 he, q1⟩
    ·simp [T.leaf] at hl
theorem CX (ρ : Nat → Int) : ∀ es : List SE, dec ((gW es).den ρ) = dL ((es.map (SE.den ρ)).map .i)
 | [] => by simp only [gW, SE.den, aC]; rfl
 | e :: es => by
   simp only [gW, fV, SE.den, aN.den, aC, nG, CX ρ es, List.map_cons, dL]
theorem kN (ρ : Nat → Int) : ∀ es : List SE, (gW es).den ρ = nX (es.map (SE.den ρ))
 | [] => rfl
 | e :: es => by
   have := CX ρ (e :: es)
   simp only [gW, fV, SE.den, aN.den, aC, nG, CX ρ es, List.map_cons, nX, dL]
theorem AZ {ρ : Nat → Int} {r : SE} {ys : List Int} (h : r.den ρ = nX ys) {i : Nat} {y : Int} (hi : ys[i]? = some y) : (rO r i).den ρ = y := by
 simp only [rO, SE.den, aN.den, h, nX, aC, D.hd, bC, List.getElem?_map, hi, Option.map_some, Option.getD_some, D.n]
def amV (nC : List RK) (ys : List Int) (ro : Nat → Prop) (h : Array Obj) (u : Value) : Prop := ∃ us fl, Shape nC us fl ∧ iF ro h (rQ nC) ys fl ∧ u = if hh : us.toArray.size = 1 then us.toArray[0] else .tuple us.toArray
def ahR (P : Program) (GB : (Nat → Prop) → Array Obj → Prop) (g : FuncId) (LK nC : List RK) (f : List Int → Option (List Int)) : Prop :=
 ∀ xs ys, f xs = some ys → ∀ (ro : Nat → Prop) (w : World) (vals fl : List Value), (∀ b, ro b → b < w.heap.size) → GB ro w.heap → Shape LK vals fl → iF ro w.heap (rQ LK) xs fl →
  Calls P g vals.toArray w fun e w' => ∃ u, e = .returned u ∧ Below w.heap.size w w' ∧ ∃ ro' : Nat → Prop, (∀ b, ro b → ro' b) ∧ (∀ b, ro' b → ro b ∨ w.heap.size ≤ b) ∧ (∀ b, ro' b → b < w'.heap.size) ∧ amV nC ys ro' w'.heap u
theorem iF.apQ {ro ro' : Nat → Prop} {h h' : Array Obj} : ∀ {cs : List CK} {ns : List Int} {us : List Value}, iF ro h cs ns us → MS cs = true → iF ro' h' cs ns us
 | [], ns, us, hh, _ => hh
 | c :: cs, ns, us, hh, hs => by
   obtain ⟨n, ns', u, us', rfl, rfl, h1, h2⟩ := hh
   simp only [MS] at hs
   split at hs
   ·exact ⟨n, ns', u, us', rfl, rfl, h1, h2.apQ hs⟩
   ·exact ⟨n, ns', u, us', rfl, rfl, h1, h2.apQ hs⟩
   ·simp at hs
theorem adZ [Glob] {GB : (Nat → Prop) → Array Obj → Prop} (hgb : ∀ ρ ro h, Glob.ok ρ ro h → GB ro h) {F : Fz} (hgood : ∀ ρ ro h, Glob.ok ρ ro h → Good F ρ) {g : FuncId} {j : Nat} {LK nC : List RK} (hs : ahR P GB g LK nC (F j))
 (hrun : ∀ (args : Array Value) (w : World), (callFunc g args).run P w = .ok (.enter g args) w) : mY P g (aeA j LK nC) := by
 intro aAX s E w vals v s' r hv hp hl
 unfold aeA at hl
 split at hl
 ·simp [T.leaf] at hl
 ·rename_i cells hc
  obtain ⟨fl, sh, hv2⟩ := qE hv hc
  obtain ⟨cells', h1, pcF, E1, hpF, f, hfr, hl⟩ := wU rfl r hp hl
  have hv3 := hfr _ hv2
  have s1 := f.dV
  have r1 := f.rel
  have hρ := f.ρ
  rw [← hρ] at hl hpF
  obtain ⟨es, pc1, hp1, q1, q2⟩ := IE (s := { s with h := h1, pc := pcF }) hpF hv3 hl
  obtain ⟨pc2, hp2, q3⟩ := cO (s := { s with h := h1, pc := pc1 }) hp1 q2
  split at q3
  ·rename_i ht
   have hg := hgood _ _ _ r1.glob
   have hg1 := (hg j (es.map (SE.den E1.ρ))).1
   have hg2 := (hg j (es.map (SE.den E1.ρ))).2
   simp only [SB.den, SE.den, kN, hg1, beq_iff_eq] at ht
   have hsome : (F j (es.map (SE.den E1.ρ))).isSome = true := by
    cases hh : (F j (es.map (SE.den E1.ρ))).isSome with
    | true => rfl
    | false => rw [hh] at ht; simp at ht
   obtain ⟨ys, hys⟩ := Option.isSome_iff_exists.1 hsome
   have hres := aF q3
   simp only [Prod.mk.injEq] at hres
   obtain ⟨rfl, hs'⟩ := hres
   have hrun' := hs _ ys hys E1.ro w vals fl r1.A8 (hgb _ _ _ r1.glob) sh q1
   have hval : ∀ (E2 : En) (h2 : Array Obj) (us fl' : List Value), E2.ρ = E1.ρ → Shape nC us fl' → iF E2.ro h2 (rQ nC) ys fl' →
    VR E2 h2 (match tN nC (rO (.ap (2 * j + 1) (gW es))) 0 with | [v] => v | vs => .tuple vs) (if hh : us.toArray.size = 1 then us.toArray[0] else .tuple us.toArray) := by
    intro E2 h2 us fl' hE2 sh' c1
    have hvr : bD E2 h2 (tN nC (rO (.ap (2 * j + 1) (gW es))) 0) us := by
     refine wO sh' c1 fun k n hk => ?_
     rw [Nat.zero_add]
     refine AZ (ys := ys) ?_ hk
     show E2.ρ _ = _
     rw [hE2, kN, hg2, hys]
     rfl
    have := Iz hvr
    unfold resV at this
    exact this
   cases hsc : MS (rQ nC) with
   | true =>
     rw [hsc] at hs'
     simp only at hs'
     subst hs'
     refine ⟨rfl, by rw [← hρ]; exact hp2, ?_⟩
     unfold uK uJ
     rw [hrun]
     refine Calls.mono hrun' fun e w' ⟨u, he, hb, ro', k1, k2, k3, k4⟩ => ⟨u, he, ?_⟩
     have hkeep : Keeps E w.heap E w'.heap := ⟨rfl, fun _ h => h, fun _ _ => rfl, fun _ _ => rfl, fun _ h => h, fun b hbr => hb.block b (r.A8 b hbr)⟩
     have st2 : Stp E s.h w E s.h w' :=
      ⟨rfl, fun _ h => h, fun _ _ => rfl, fun _ _ => rfl, fun _ h => h, fun b hbr => .inl hbr, Nat.le_refl _, .inr rfl, fun _ h => .inl h, hb.os, hb.tape, hb.output, hb.size, fun b hbl _ => hb.block b hbl, fun id o h _ => ⟨id, o, h, rfl⟩⟩
     have r2 : aX E s.h w' := by
      refine ⟨r.fresh, r.res, fun id o h => ?_, r.inj, fun b hbr => Nat.lt_of_lt_of_le (r.A8 b hbr) hb.size, Glob.keep r.glob (fun _ h => h) hkeep.Js⟩
      obtain ⟨g1, g2, g3⟩ := r.live id o h
      exact ⟨g1, g2.keep hkeep g1 (hb.block _ (iV r h)), g3⟩
     obtain ⟨us, fl', sh', c1, rfl⟩ := k4
     exact ⟨E, st2, r2, hval E w'.heap us fl' hρ.symm sh' (c1.apQ hsc)⟩
   | false =>
     rw [hsc] at hs'
     simp only at hs'
     subst hs'
     refine ⟨rfl, by rw [← hρ]; exact hp2, ?_⟩
     unfold uK uJ
     rw [hrun]
     refine Calls.mono hrun' fun e w' ⟨u, he, hb, ro', k1, k2, k3, k4⟩ => ⟨u, he, ?_⟩
     have hkeep : Keeps E1 w.heap { E1 with ro := ro' } w'.heap := ⟨rfl, fun _ h => h, fun _ _ => rfl, fun _ _ => rfl, k1, fun b hbr => hb.block b (r1.A8 b hbr)⟩
     have st2 : Stp E1 h1 w { E1 with ro := ro' } h1 w' :=
      ⟨rfl, fun _ h => h, fun _ _ => rfl, fun _ _ => rfl, k1, fun b hbr => (k2 b hbr).imp id .inr, Nat.le_refl _, .inr rfl, fun _ h => .inl h, hb.os, hb.tape, hb.output, hb.size, fun b hbl _ => hb.block b hbl, fun id o h _ => ⟨id, o, h, rfl⟩⟩
     have r2 : aX { E1 with ro := ro' } h1 w' := by
      refine ⟨r1.fresh, r1.res, fun id o h => ?_, r1.inj, k3, Glob.keep r1.glob k1 hkeep.Js⟩
      obtain ⟨g1, g2, g3⟩ := r1.live id o h
      refine ⟨g1, g2.keep hkeep g1 (hb.block _ (iV r1 h)), fun hr => ?_⟩
      rcases k2 _ hr with hr | hr
      ·exact g3 hr
      ·have hlt : (E1.θ id).1 < w.heap.size := iV r1 h
       have hge : w.heap.size ≤ (E1.θ id).1 := hr
       omega
     obtain ⟨us, fl', sh', c1, rfl⟩ := k4
     exact ⟨{ E1 with ro := ro' }, s1.trans st2, r2, hval { E1 with ro := ro' } w'.heap us fl' rfl sh' c1⟩
  ·simp [T.leaf] at q3
end
end Go.As
end
section
namespace Go.As
open Go.RowKit
structure oU where
 w0 : World
 ro : Nat → Prop
 m : Nat
 θ : Nat → Nat × Nat
 κ : Nat → Nat
def oU.fp (B : oU) (b : Nat) : Prop := ∃ i, i < B.m ∧ (B.θ i).1 = b
structure Bel (B : oU) (w : World) : Prop where
 os : w.os = B.w0.os
 tape : w.tape = B.w0.tape
 output : w.output = B.w0.output
 size : B.w0.heap.size ≤ w.heap.size
 blk : ∀ k, k < B.w0.heap.size → ¬ B.fp k → w.heap[k]? = B.w0.heap[k]?
structure rD (B : oU) (E : En) (s : St) (a : Act) (w : World) : Prop where
 fit : Fh E s a w
 ro : ∀ b, B.ro b → E.ro b
 FU : ∀ b, E.ro b → B.ro b ∨ B.w0.heap.size ≤ b ∨ B.fp b
 bel : Bel B w
 own : ∀ id o, s.h.get id = some o → B.w0.heap.size ≤ (E.θ id).1 ∨ B.fp (E.θ id).1
 inx : ∀ i, i < B.m → E.dm i ∧ E.θ i = B.θ i ∧ E.κ i = B.κ i
section
variable {P : Program} {B : oU}
theorem rD.then [Glob] {E : En} {s s' : St} {a a' : Act} {w w' : World} (t : rD B E s a w) (h : Then E s a w s' a' w') : ∃ E', rD B E' s' a' w' ∧ E'.ρ = E.ρ ∧ Glob.ok E'.ρ E'.ro w'.heap := by
 obtain ⟨_, _, E', st, f'⟩ := h
 have hown : ∀ id o, s'.h.get id = some o → B.w0.heap.size ≤ (E'.θ id).1 ∨ B.fp (E'.θ id).1 := by
  intro id o ho
  rcases Nat.lt_or_ge (E'.θ id).1 w.heap.size with h | h
  ·obtain ⟨BP, o0, h0, he⟩ := st.own id o ho h
   rw [← he]
   exact t.own BP o0 h0
  ·exact .inl (Nat.le_trans t.bel.size h)
 refine ⟨E', ⟨f'.x, fun b hb => st.ro b (t.ro b hb), fun b hb => ?_, ⟨st.os.trans t.bel.os, st.tape.trans t.bel.tape, st.output.trans t.bel.output, Nat.le_trans t.bel.size st.size, fun k hk hn => ?_⟩, hown, fun i hi => ?_⟩, st.ρ, f'.rel.glob⟩
 ·rcases st.FU b hb with h | ⟨id, o, h1, h2⟩ | h
  ·exact t.FU b h
  ·rw [← h2]; exact .inr (t.own id o h1)
  ·exact .inr (.inl (Nat.le_trans t.bel.size h))
 ·rw [← t.bel.blk k hk hn]
  refine st.keep k (Nat.lt_of_lt_of_le hk t.bel.size) fun id o ho he => ?_
  rcases t.own id o ho with h | h
  ·omega
  ·rw [he] at h; exact hn h
 ·obtain ⟨h1, h2, h3⟩ := t.inx i hi
  exact ⟨st.dm i h1, by rw [st.θ i h1]; exact h2, by rw [st.κ i h1]; exact h3⟩
theorem rD.pc {E : En} {s : St} {a : Act} {w : World} {pc : List (SB × Bool)} (t : rD B E s a w) (hp : aZ E.ρ pc) : rD B E { s with pc := pc } a w :=
 ⟨⟨t.fit.fresh, t.fit.res, t.fit.live, t.fit.inj, t.fit.A8, t.fit.sr, hp⟩, t.ro, t.FU, t.bel, t.own, t.inx⟩
theorem J3 {r : Ren} : ∀ {m : Nat}, J4 m r = true → ∀ i, i < m → i < r.bl.length ∧ r.id i = i ∧ r.yZ i = 0
 | 0, _, i, hi => by omega
 | n + 1, h, i, hi => by
   simp only [J4, Bool.and_eq_true] at h
   obtain ⟨⟨h1, h2⟩, h3⟩ := h
   by_cases he : i = n
   ·subst he
    split at h1
    ·rename_i j hj
     have h1 := Nat.eq_of_beq_eq_true h1
     subst h1
     refine ⟨?_, ?_, Nat.eq_of_beq_eq_true h2⟩
     ·rw [bU] at hj
      exact (List.getElem?_eq_some_iff.1 hj).1
     ·unfold Ren.id; rw [hj]
    ·simp at h1
   ·exact J3 h3 i (by omega)
theorem rD.fits [Glob] {E : En} {c : CS} {s : St} {r : Ren} {a : Act} {w : World} (t : rD B E s a w) (hg : Glob.ok E.ρ E.ro w.heap) (h : c.fits prv s r = true) (hid : J4 B.m r = true) : r.ns.length ≤ 900 ∧ rD B (E.ren r) c.st a w := by
 obtain ⟨hl, f, ho⟩ := ED VD (t.fit.fit hg) h
 refine ⟨hl, f.x, t.ro, t.FU, t.bel, fun id o hid => ?_, fun i hi => ?_⟩
 ·obtain ⟨o', h'⟩ := ho id o hid
  exact t.own _ _ h'
 ·obtain ⟨q1, q2, q3⟩ := J3 hid i hi
  obtain ⟨h1, h2, h3⟩ := t.inx i hi
  refine ⟨⟨q1, by rw [q2]; exact h1⟩, ?_, ?_⟩
  ·show ((E.θ (r.id i)).1, (E.θ (r.id i)).2 + r.yZ i) = _
   rw [q2, q3, Nat.add_zero]
   exact h2
  ·show E.κ (r.id i) - r.yZ i = _
   rw [q2, q3, Nat.sub_zero]
   exact h3
theorem rD.low {K : Nat} {E : En} {c : CS} {a : Act} {w : World} {ρ' : Nat → Int} (hc : Ai K c = true) (hρ : ∀ i, i < K → ρ' i = E.ρ i) (t : rD B E c.st a w) : rD B { E with ρ := ρ' } c.st a w :=
 ⟨t.fit.low hc hρ, t.ro, t.FU, t.bel, t.own, t.inx⟩
def oU.out (B : oU) (ys : List Int) (ro : Nat → Prop) : En := { ρ := low ys, θ := B.θ, κ := B.κ, dm := fun i => i < B.m, ro := ro }
def QE (B : oU) (nC : List RK) (dU : List dP) (ko : Nat) (ys : List Int) (e : Ending) (w' : World) : Prop :=
 ∃ u, e = .returned u ∧ Bel B w' ∧ ∃ ro' : Nat → Prop, (∀ b, B.ro b → ro' b) ∧ (∀ b, ro' b → B.ro b ∨ B.w0.heap.size ≤ b) ∧ (∀ b, ro' b → b < w'.heap.size) ∧ (∀ i, i < B.m → ¬ ro' (B.θ i).1) ∧
  (∀ i o, dU[i]? = some o → OR (B.out ys ro') w'.heap i o) ∧ amV nC (ys.drop ko) ro' w'.heap u
def Y6 (us : List Value) : Value := if h : us.toArray.size = 1 then us.toArray[0] else .tuple us.toArray
def QR (B : oU) (uN : List CS) (ys : List Int) (e : Ending) (w' : World) : Prop :=
 ∃ (us : List Value) (i : Nat) (c : CS) (E' : En), e = .returned (Y6 us) ∧ Bel B w' ∧ uN[i]? = some c ∧ ys[0]? = some (i : Int) ∧ ys.length = c.k + 1 ∧ (∀ a x, ys[a + 1]? = some x → E'.ρ a = x) ∧ us.length = c.slots.length ∧
  Fh E' c.st { tmps := us.toArray, defers := [] } w' ∧ (∀ b, B.ro b → E'.ro b) ∧ (∀ b, E'.ro b → B.ro b ∨ B.w0.heap.size ≤ b) ∧ (∀ i, i < B.m → i < c.objs.length ∧ E'.dm i ∧ E'.θ i = B.θ i ∧ E'.κ i = B.κ i) ∧ (∀ id o, c.st.h.get id = some o → B.m ≤ id → B.w0.heap.size ≤ (E'.θ id).1)
def QX (B : oU) (nC : List RK) (dU : List dP) (ko : Nat) (uN : List CS) (ys : List Int) : Ending → World → Prop := match uN with
 | [] => QE B nC dU ko ys
 | c :: l => QR B (c :: l) ys
structure Xe [Glob] (P : Program) (g : GL) (chk : Nat → List Oper → Bool) : Prop where
 tt : dW P g.tt
 call : jE P g.call
 draw : yR P chk g.draw
theorem wV {chk : Nat → List Oper → Bool} {N : Nat} {body : Code} (h : iQ chk N body = true) : ∀ (p : List Nat) {c : Code} {fr : List FrE}, rV body p = some (c, fr) → iQ chk N c = true
 | [], c, fr, hl => by
   simp only [rV, Option.some.injEq, Prod.mk.injEq] at hl
   rw [← hl.1]; exact h
 | d :: p, c, fr, hl => by
   simp only [rV] at hl
   split at hl
   ·rename_i a b fr' hp
    have := wV h p hp
    simp only [iQ, Bool.and_eq_true] at this
    split at hl
    ·simp only [Option.some.injEq, Prod.mk.injEq] at hl; rw [← hl.1]; exact this.1
    ·simp only [Option.some.injEq, Prod.mk.injEq] at hl; rw [← hl.1]; exact this.2
   ·rename_i id b fr' hp
    have := wV h p hp
    simp only [iQ] at this
    simp only [Option.some.injEq, Prod.mk.injEq] at hl; rw [← hl.1]; exact this
   ·rename_i v a b fr' hp
    have := wV h p hp
    simp only [iQ, Bool.and_eq_true] at this
    split at hl
    ·simp only [Option.some.injEq, Prod.mk.injEq] at hl; rw [← hl.1]; exact this.1
    ·simp only [Option.some.injEq, Prod.mk.injEq] at hl; rw [← hl.1]; exact this.2
   ·rename_i b fr' hp
    have := wV h p hp
    simp only [iQ] at this
    simp only [Option.some.injEq, Prod.mk.injEq] at hl; rw [← hl.1]; exact this
   ·rename_i b fr' hp
    have := wV h p hp
    simp only [iQ] at this
    simp only [Option.some.injEq, Prod.mk.injEq] at hl; rw [← hl.1]; exact this
   ·simp at hl
theorem Bg {body : Code} : ∀ (p : List Nat) {c : Code} {fr : List FrE}, rV body p = some (c, fr) → LW body fr
 | [], c, fr, h => by
   simp only [rV, Option.some.injEq, Prod.mk.injEq] at h
   rw [← h.2]; trivial
 | d :: p, c, fr, h => by
   have h0 := h
   simp only [rV] at h
   split at h
   ·rename_i a b fr' hp
    have ih := Bg p hp
    split at h
    ·simp only [Option.some.injEq, Prod.mk.injEq] at h
     obtain ⟨rfl, rfl⟩ := h
     refine ⟨?_, ih⟩
     simp only [rV, hp]
    ·simp only [Option.some.injEq, Prod.mk.injEq] at h
     rw [← h.2]; exact ih
   ·rename_i id b fr' hp
    have ih := Bg p hp
    simp only [Option.some.injEq, Prod.mk.injEq] at h
    rw [← h.2]; exact ih
   ·rename_i v a b fr' hp
    have ih := Bg p hp
    split at h
    ·simp only [Option.some.injEq, Prod.mk.injEq] at h; rw [← h.2]; exact ih
    ·simp only [Option.some.injEq, Prod.mk.injEq] at h; rw [← h.2]; exact ih
   ·rename_i b fr' hp
    have ih := Bg p hp
    simp only [Option.some.injEq, Prod.mk.injEq] at h
    rw [← h.2]
    exact ⟨hp, ih⟩
   ·rename_i b fr' hp
    have ih := Bg p hp
    simp only [Option.some.injEq, Prod.mk.injEq] at h
    rw [← h.2]; exact ih
   ·simp at h
def UM (F : Fz) (ρ : Nat → Int) (ys : List Int) : Lf → Prop
 | .out es => es.map (SE.den ρ) = ys
 | .jump j es => F j (es.map (SE.den ρ)) = some ys
def ahV [Glob] (P : Program) (body : Code) (N : Nat) (B : oU) (Q : Exit → Act → World → Prop) (F : Fz) (ys : List Int) (tabs : Il) : Prop :=
 ∀ p l, tabs p = some l → ∃ b fr, rV body p = some (.loop b, fr) ∧ ∀ j c, (j, c) ∈ l → ∀ E a w, rD B E c.st a w → Glob.ok E.ρ E.ro w.heap → (∃ xs : List Int, (∀ i x, xs[i]? = some x → E.ρ i = x) ∧ xs.length = c.k ∧ c.k ≤ 900 ∧ F j xs = some ys) → N ≤ a.tmps.size → a.defers = [] → LV P b (KE P Q fr) a w
theorem qA (g : Tr SE) : ∀ (n i : Nat), (Dj g n i).length = n
 | 0, _ => rfl
 | n + 1, i => by
   simp only [Dj]
   split <;> simp [qA g n (i + 1)]
theorem yA (m : Nat) (c : CS) (s : St) : (c.kS m s).ns.length = c.k := by
 unfold CS.kS
 split
 exact qA _ _ _
theorem EC : ∀ (n i : Nat) (ns : List SE), (Hf n i ns).length = ns.length
 | 0, _, _ => rfl
 | _ + 1, _, [] => rfl
 | n + 1, i, _ :: ns => by simp only [Hf, List.length_cons, EC n (i + 1) ns]
theorem Aa (jJ : Nat) (r : Ren) : (vN jJ r).ns.length = r.ns.length := by
 unfold vN
 split
 ·rfl
 ·exact EC _ _ _
theorem OQ {α : Type} {k : St → T α} {E : En} {a : Act} {w : World} {x : α} : ∀ {ts : List (Nat × Nat)} {s : St}, (U3 k ts s).leaf E.ρ = some x → rD B E s a w → ∃ s', rD B E s' a w ∧ (k s').leaf E.ρ = some x
 | [], s, h, t => ⟨s, t, h⟩
 | (i, g) :: ts, s, h, t => by
   simp only [U3] at h
   split at h
   ·obtain ⟨pc', hp', h1⟩ := cO t.fit.pc h
    exact OQ h1 (t.pc hp')
   ·exact OQ h t
theorem Bj [Glob] {jJ : Nat} {F : Fz} {ys : List Int} {body : Code} {N : Nat} {Q : Exit → Act → World → Prop} {tabs : Il} (hj : ahV P body N B Q F ys tabs) {p : List Nat} {l0 : List (Nat × CS)} (hp : tabs p = some l0) {b : Code} {fr : List FrE} (hl : rV body p = some (.loop b, fr)) :
 ∀ {l : List (Nat × CS)} {s : St} {lf : Lf} {E : En} {a : Act} {w : World}, (∀ x ∈ l, x ∈ l0) → (vK B.m jJ s l).leaf E.ρ = some lf → UM F E.ρ ys lf → rD B E s a w → Glob.ok E.ρ E.ro w.heap → N ≤ a.tmps.size → a.defers = [] → LV P b (KE P Q fr) a w
 | [], s, lf, E, a, w, _, h, _, _, _, _, _ => by simp [vK, T.leaf] at h
 | (j, c) :: l, s, lf, E, a, w, hsub, h, hlf, t, hg, hN, hd => by
   simp only [vK] at h
   split at h
   ·exact Bj hj hp hl (fun x hx => hsub x (by simp [hx])) h hlf t hg hN hd
   ·split at h
    ·rename_i hf
     have := aF h
     subst this
     simp only [Bool.and_eq_true] at hf
     obtain ⟨hle, t'⟩ := t.fits hg hf.1 hf.2
     obtain ⟨b', fr', hl', hh⟩ := hj p l0 hp
     rw [hl] at hl'
     simp only [Option.some.injEq, Prod.mk.injEq, Code.loop.injEq] at hl'
     obtain ⟨rfl, rfl⟩ := hl'
     have hgl : (vN jJ (c.kS B.m s)).ns.length = c.k := by rw [Aa, yA]
     refine hh j c (hsub _ (by simp)) (E.ren (vN jJ (c.kS B.m s))) a w t' (Glob.ren hg fun i hi => Ren.nK hle hi) ⟨(vN jJ (c.kS B.m s)).ns.map (SE.den E.ρ), fun i x hi => ?_, by simp [hgl], by rw [← hgl]; exact hle, hlf⟩ hN hd
     rw [List.getElem?_map, Option.map_eq_some_iff] at hi
     obtain ⟨e, he, rfl⟩ := hi
     show (vN jJ (c.kS B.m s)).env E.ρ i = _
     unfold Ren.env
     rw [bU, he]
    ·exact Bj hj hp hl (fun x hx => hsub x (by simp [hx])) h hlf t hg hN hd
theorem BI {α : Type} {k : St → T α} {E : En} {a : Act} {w : World} {x : α} : ∀ {ts : List Nat} {s : St}, (Ap k ts s).leaf E.ρ = some x → rD B E s a w → ∃ s', rD B E s' a w ∧ (k s').leaf E.ρ = some x
 | [], s, h, t => ⟨s, t, h⟩
 | i :: ts, s, h, t => by
   simp only [Ap] at h
   split at h
   ·rename_i c hc
    obtain ⟨pc', hp', h1⟩ := cO t.fit.pc h
    refine BI h1 ⟨⟨t.fit.fresh, t.fit.res, t.fit.live, t.fit.inj, t.fit.A8, fun j v hj => ?_, hp'⟩, t.ro, t.FU, t.bel, t.own, t.inx⟩
    simp only at hj
    rw [Tr.get_put] at hj
    split at hj
    ·rename_i he
     subst he
     simp only [Option.some.injEq] at hj
     subst hj
     obtain ⟨u, h2, h3⟩ := t.fit.sr _ _ hc
     refine ⟨u, h2, ?_⟩
     simp only [VR] at h3 ⊢
     rw [h3]
     rfl
    ·exact t.fit.sr j v hj
   ·exact BI h t
theorem Zg (g : GL) (h : Hp) : (iT g h).ns.length = g.ko ∧ (iT g h).bl = List.range g.dU.length ∧ (iT g h).sh = [] := by
 unfold iT
 split
 exact ⟨qA _ _ _, rfl, rfl⟩
def oM (K : Nat) : List dP → Bool
 | [] => true
 | o :: l => D7 K o && oM K l
theorem xO {K : Nat} : ∀ {l : List dP}, oM K l = true → ∀ {i : Nat} {o : dP}, l[i]? = some o → D7 K o = true
 | [], _, _, _, h => by simp at h
 | o0 :: l, hs, i, o, h => by
   simp only [oM, Bool.and_eq_true] at hs
   cases i with
   | zero => simp at h; rw [← h]; exact hs.1
   | succ i => exact xO hs.2 (by simpa using h)
theorem I7 {n m jJ : Nat} {s : St} {ρ : Nat → Int} {lf : Lf} : ∀ {l : List CS} {k : Nat}, (Ui n m jJ s l k).leaf ρ = some lf → ∃ i c, l[i - k]? = some c ∧ (c.fits prv s (vN jJ (c.kS m s)) = true ∧ J4 m (vN jJ (c.kS m s)) = true) ∧ n = c.slots.length ∧ lf = .out (.lit (i : Int) :: (vN jJ (c.kS m s)).ns) ∧ k ≤ i
 | [], k, h => by simp [Ui, T.leaf] at h
 | c :: l, k, h => by
   simp only [Ui] at h
   split at h
   ·obtain ⟨i, c', q1, q2, q3, q4, q5⟩ := I7 h
    refine ⟨i, c', ?_, q2, q3, q4, by omega⟩
    rw [show i - k = (i - (k + 1)) + 1 by omega, List.getElem?_cons_succ]
    exact q1
   ·rename_i hq
    simp only [Bool.and_eq_true] at hq
    split at h
    ·rename_i hf
     have := aF h
     simp only [Bool.and_eq_true] at hf
     exact ⟨k, c, by simp, hf, Nat.eq_of_beq_eq_true hq.2, this.symm, Nat.le_refl _⟩
    ·obtain ⟨i, c', q1, q2, q3, q4, q5⟩ := I7 h
     refine ⟨i, c', ?_, q2, q3, q4, by omega⟩
     rw [show i - k = (i - (k + 1)) + 1 by omega, List.getElem?_cons_succ]
     exact q1
theorem alR [Glob] {g : GL} {chk : Nat → List Oper → Bool} (hg : Xe P g chk) {fn : Func} (hres : g.res = fn.results.toList) (hm : g.dU.length = B.m) (hlo : oM g.ko g.dU = true) (hko : g.ko ≤ 900) {e : Ex} {s : St} {lf : Lf} {E : En} {a : Act} {w : World} {F : Fz} {ys : List Int} (h : (afA g e s).leaf E.ρ = some lf) (hlf : UM F E.ρ ys lf)
 (t : rD B E s a w) (hgl : Glob.ok E.ρ E.ro w.heap) (hd : a.defers = []) : bodyPost P fn (QX B g.nC g.dU g.ko g.uN ys) (vF e) a w := by
 have fit := t.fit.fit hgl
 have key : ∀ {x : T Lf}, x = (match lI g.tt s g.res with
  | none => T.fail
  | some vs => match g.uN with
    | [] => match cellsOf g.nC vs with
      | none => .fail
      | some cells => Ez cells s fun cells s => match FX (iT g s.h) g.dU.length s.h g.dU 0 with
        | true => outs (rQ g.nC) cells s fun es _ => .ret (.out ((iT g s.h).ns ++ es))
        | false => .fail
    | c :: l => Ui vs.length g.dU.length g.jJ ⟨aW vs 0 .nil, s.h, s.pc⟩ (c :: l) 0) → x.leaf E.ρ = some lf → ∃ v, (results fn a.tmps).run P w = .ok v w ∧ QX B g.nC g.dU g.ko g.uN ys (.returned v) w := by
  intro x hx hl
  subst hx
  split at hl
  ·simp [T.leaf] at hl
  ·rename_i vs hr
   rw [hres] at hr
   obtain ⟨us, g1, g2⟩ := rY hg.tt fit hr
   have hrun : (results fn a.tmps).run P w = .ok (Y6 us) w := by
    have hm : (fn.results.mapM (vH a)).run P w = .ok us.toArray w := by
     rw [Array.mapM_eq_mapM_toList]
     rw [map_eq_pure_bind]
     simp only [Sem.run_bind, g1]
     rfl
    have hr2 : results fn a.tmps = (do let vs ← fn.results.mapM (vH a); pure (if h : vs.size = 1 then vs[0] else .tuple vs)) := rfl
    rw [hr2]
    simp only [Sem.run_bind, hm]
    rfl
   split at hl
   ·rename_i Ie
    split at hl
    ·simp [T.leaf] at hl
    ·rename_i cells hc
     rw [Ie]
     show ∃ v, _ ∧ QE B g.nC g.dU g.ko ys (.returned v) w
     obtain ⟨fl, sh, hv2⟩ := qE g2 hc
     obtain ⟨cells', h1, pcF, E1, hpF, f, hfr, hl⟩ := wU rfl fit.rel fit.pc hl
     have hv3 := hfr _ hv2
     have s1 := f.dV
     have r1 := f.rel
     split at hl
     ·rename_i hob
      have hρ := f.ρ
      rw [← hρ] at hl hlf hpF
      obtain ⟨es, pc1, hp1, q1, q2⟩ := IE (s := { s with h := h1, pc := pcF }) hpF hv3 hl
      have := aF q2
      subst this
      simp only [UM] at hlf
      obtain ⟨n1, n2, n3⟩ := Zg g h1
      have hdrop : ys.drop g.ko = es.map (SE.den E1.ρ) := by
       rw [← hlf, List.map_append, List.drop_append_of_le_length (by simp [n1])]
       rw [List.drop_of_length_le (by simp [n1]), List.nil_append]
      have aAk : ∀ i, i < g.ko → low ys i = (iT g h1).env E1.ρ i := by
       intro i hi
       have hlt : i < (iT g h1).ns.length := by omega
       unfold low Ren.env
       rw [bU, List.getElem?_eq_getElem hlt, ← hlf, List.getD_eq_getElem?_getD, List.map_append, List.getElem?_append_left (by simpa using hlt), List.getElem?_map, List.getElem?_eq_getElem hlt]
       rfl
      have akM : ∀ i, i < B.m → E1.dm i ∧ E1.θ i = B.θ i ∧ E1.κ i = B.κ i := by
       intro i hi
       obtain ⟨h1, h2, h3⟩ := t.inx i hi
       exact ⟨s1.dm i h1, by rw [s1.θ i h1]; exact h2, by rw [s1.κ i h1]; exact h3⟩
      have akN : ∀ i, i < g.dU.length → (iT g h1).id i = i := by
       intro i hi
       unfold Ren.id
       rw [n2, bU, List.getElem?_range hi]
      have TF : ∀ i, (iT g h1).yZ i = 0 := by
       intro i
       unfold Ren.yZ
       rw [n3]
       rfl
      have hlive : ∀ i, i < B.m → ¬ E1.ro (B.θ i).1 := by
       intro i hi
       have hlt : i < g.dU.length := by omega
       obtain ⟨o', q3, _, _⟩ := kR hob (List.getElem?_eq_getElem hlt)
       rw [Nat.zero_add, akN i hlt] at q3
       have := (r1.live i o' q3).2.2
       rw [(akM i hi).2.1] at this
       exact this
      refine ⟨Y6 us, hrun, _, rfl, t.bel, E1.ro, fun b hb => s1.ro b (t.ro b hb), fun b hb => ?_, r1.A8, hlive, fun i o hi => ?_, us, fl, sh, by rw [hdrop]; exact q1, rfl⟩
      ·have key : B.ro b ∨ B.w0.heap.size ≤ b ∨ B.fp b := by
        rcases s1.FU b hb with h | ⟨id, o, h1, h2⟩ | h
        ·exact t.FU b h
        ·rw [← h2]; exact .inr (t.own id o h1)
        ·exact .inr (.inl (Nat.le_trans t.bel.size h))
       rcases key with h | h | ⟨i, hi, he⟩
       ·exact .inl h
       ·exact .inr h
       ·exact absurd hb (by rw [← he]; exact hlive i hi)
      ·have hil := (List.getElem?_eq_some_iff.1 hi).1
       obtain ⟨o', q3, q4, q5⟩ := kR hob hi
       rw [Nat.zero_add] at q3 q5
       have ho := (r1.live _ o' q3).2.1
       have ho2 := OR.ren (E := E1) (r := iT g h1) (by omega) (id := i) (by rw [n2, List.length_range]; exact q4) q5 ho
       have kp : Keeps (E1.ren (iT g h1)) w.heap { ρ := (iT g h1).env E1.ρ, θ := B.θ, κ := B.κ, dm := fun i => i < B.m, ro := E1.ro } w.heap := by
        have hd : ∀ id, (E1.ren (iT g h1)).dm id → id < g.dU.length := by
         intro id hh
         have := hh.1
         rw [n2, List.length_range] at this
         exact this
        refine ⟨rfl, fun id hh => by have := hd id hh; show id < B.m; omega, fun id hh => ?_, fun id hh => ?_, fun _ h => h, fun _ _ => rfl⟩
        ·have := hd id hh
         show B.θ id = ((E1.θ ((iT g h1).id id)).1, (E1.θ ((iT g h1).id id)).2 + (iT g h1).yZ id)
         rw [akN id this, TF, Nat.add_zero, (akM id (by omega)).2.1]
        ·have := hd id hh
         show B.κ id = E1.κ ((iT g h1).id id) - (iT g h1).yZ id
         rw [akN id this, TF, Nat.sub_zero, (akM id (by omega)).2.2]
       have awO : (E1.ren (iT g h1)).dm i := by
        refine ⟨by rw [n2, List.length_range]; exact hil, ?_⟩
        rw [akN i hil]
        exact (akM i (by omega)).1
       have hθi : (E1.ren (iT g h1)).θ i = B.θ i := (kp.θ i awO).symm
       have ho3 := OR.keep kp awO rfl ho2
       exact OR.low (K := g.ko) (E := { ρ := (iT g h1).env E1.ρ, θ := B.θ, κ := B.κ, dm := fun i => i < B.m, ro := E1.ro }) (E' := B.out ys E1.ro) aAk rfl rfl rfl rfl (xO hlo hi) ho3
     ·simp [T.leaf] at hl
   ·rename_i c0 l0 Ie
    have hq : QR B (c0 :: l0) ys (.returned (Y6 us)) w := by
     have t0 : rD B E ⟨aW vs 0 .nil, s.h, s.pc⟩ { tmps := us.toArray, defers := [] } w := by
      refine ⟨⟨t.fit.fresh, t.fit.res, t.fit.live, t.fit.inj, t.fit.A8, ?_, t.fit.pc⟩, t.ro, t.FU, t.bel, t.own, t.inx⟩
      have := Ej g2 0
      simpa using this
     obtain ⟨i, c, q1, ⟨q2, q2'⟩, q3, q4, _⟩ := I7 hl
     rw [hm] at q2 q2' q4
     obtain ⟨hle, t1⟩ := t0.fits hgl q2 q2'
     rw [q4] at hlf
     simp only [UM, List.map_cons] at hlf
     subst hlf
     have hbl : (vN g.jJ (c.kS B.m ⟨aW vs 0 .nil, s.h, s.pc⟩)).bl.length = c.objs.length := by
      have := q2
      unfold CS.fits at this
      simp only [Bool.and_eq_true] at this
      exact Nat.eq_of_beq_eq_true this.1.1.1.1.2
     have hin : ∀ i, i < B.m → i < c.objs.length := fun i hi => by rw [← hbl]; exact (J3 q2' i hi).1
     have hlive : ∀ i, i < B.m → ∃ o, c.st.h.get i = some o := by
      intro i hi
      have hi2 := hin i hi
      refine ⟨c.objs[i], ?_⟩
      show (tK c.objs 0 .nil).get i = _
      rw [lT, if_pos (by omega)]
      simp
     have hfp : ∀ b, B.fp b → ¬ (E.ren (vN g.jJ (c.kS B.m ⟨aW vs 0 .nil, s.h, s.pc⟩))).ro b := by
      rintro b ⟨i, hi, rfl⟩ hb
      obtain ⟨o, ho⟩ := hlive i hi
      have := (t1.fit.live i o ho).2.2
      rw [(t1.inx i hi).2.1] at this
      exact this hb
     refine ⟨us, i, c, E.ren (vN g.jJ (c.kS B.m ⟨aW vs 0 .nil, s.h, s.pc⟩)), rfl, t.bel, by simpa using q1, by simp [SE.den], by simp [Aa, yA], fun a x ha => ?_, by rw [← q3, g2.length], t1.fit, t1.ro, fun b hb => ?_, fun i hi => ⟨hin i hi, t1.inx i hi⟩, fun id o ho hid => ?_⟩
     ·simp only [List.getElem?_cons_succ, List.getElem?_map, Option.map_eq_some_iff] at ha
      obtain ⟨e, he, rfl⟩ := ha
      show (vN g.jJ (c.kS B.m ⟨aW vs 0 .nil, s.h, s.pc⟩)).env E.ρ a = _
      unfold Ren.env
      rw [bU, he]
     ·rcases t1.FU b hb with h | h | h
      ·exact .inl h
      ·exact .inr h
      ·exact absurd hb (hfp b h)
     ·rcases t1.own id o ho with h | ⟨i, hi, he⟩
      ·exact h
      ·obtain ⟨o', ho'⟩ := hlive i hi
       rw [← (t1.inx i hi).2.1] at he
       have := t1.fit.inj i id o' o ho' ho he
       omega
    exact ⟨Y6 us, hrun, by rw [Ie]; exact hq⟩
 unfold afA at h
 cases e with
 | exit id => simp [T.leaf] at h
 | normal => exact ⟨hd, key rfl h⟩
 | ret => exact ⟨hd, key rfl h⟩
theorem LZ {P : Program} {Q : Exit → Act → World → Prop} {e : Ex} {a : Act} {w : World} (h : Q (vF e) a w) : Exit.noGoto Q (vF e) a w := by
 cases e <;> exact h
theorem P7 [Glob] {g : GL} {chk : Nat → List Oper → Bool} (hg : Xe P g chk) {body : Code} {N : Nat} (hd : iQ chk N body = true) {fn : Func} (hres : g.res = fn.results.toList) (hm : g.dU.length = B.m) (hlo : oM g.ko g.dU = true) (hko : g.ko ≤ 900) {F : Fz} {ys : List Int} {tabs : Il}
 (hj : ahV P body N B (bodyPost P fn (QX B g.nC g.dU g.ko g.uN ys)) F ys tabs) : ∀ n : Nat,
 (∀ p c fr s lf E a w, rV body p = some (c, fr) → (BQ g tabs n p c fr s).leaf E.ρ = some lf → UM F E.ρ ys lf → rD B E s a w → Glob.ok E.ρ E.ro w.heap → N ≤ a.tmps.size → a.defers = [] → c.wp P (KE P (bodyPost P fn (QX B g.nC g.dU g.ko g.uN ys)) fr) a w) ∧
 (∀ fr e s lf E a w, LW body fr → (yB g tabs n fr e s).leaf E.ρ = some lf → UM F E.ρ ys lf → rD B E s a w → Glob.ok E.ρ E.ro w.heap → N ≤ a.tmps.size → a.defers = [] → KE P (bodyPost P fn (QX B g.nC g.dU g.ko g.uN ys)) fr (vF e) a w)
 | 0 => ⟨fun _ _ _ _ _ _ _ _ _ h => by simp [BQ, T.leaf] at h, fun _ _ _ _ _ _ _ _ h => by simp [yB, T.leaf] at h⟩
 | n + 1 => by
   obtain ⟨ih1, ih2⟩ := P7 hg hd hres hm hlo hko hj n
   have leaf : ∀ p c fr s lf E a w, rV body p = some (c, fr) → ((g.ev c s).bind fun (e, s') => yB g tabs n fr e s').leaf E.ρ = some lf → UM F E.ρ ys lf → rD B E s a w → Glob.ok E.ρ E.ro w.heap → N ≤ a.tmps.size → a.defers = [] → c.wp P (KE P (bodyPost P fn (QX B g.nC g.dU g.ko g.uN ys)) fr) a w := by
    intro p c fr s lf E a w hl h hlf t hgl hN hdf
    obtain ⟨⟨e, s'⟩, h1, h2⟩ := T.fB h
    refine wp_mono (kG hg.tt hg.call hg.draw c (wV hd p hl) E s s' e a w hN (t.fit.fit hgl) h1) fun x a' w' ⟨hx, ht⟩ => ?_
    subst hx
    obtain ⟨E', t', hρ, hg'⟩ := t.then ht
    exact ih2 fr e s' lf E' a' w' (Bg p hl) (by rw [hρ]; exact h2) (by rw [hρ]; exact hlf) t' hg' (by rw [ht.size]; exact hN) (by rw [ht.defers, hdf])
   constructor
   ·intro p c fr s lf E a w hl h hlf t hgl hN hdf
    simp only [BQ] at h
    split at h
    ·rename_i l hcs
     obtain ⟨b, fr', hl', _⟩ := hj p l hcs
     rw [hl] at hl'
     simp only [Option.some.injEq, Prod.mk.injEq] at hl'
     obtain ⟨rfl, rfl⟩ := hl'
     obtain ⟨s', t', h'⟩ := BI h t
     exact VO (Bj hj hcs hl (fun _ hx => hx) (by rw [← hm]; exact h') hlf t' hgl hN hdf)
    ·cases c with
     | seq x y =>
       simp only at h
       refine wp_seq ?_
       exact ih1 (0 :: p) x (.seq (1 :: p) y :: fr) s lf E a w (by simp only [rV, hl]) h hlf t hgl hN hdf
     | block id b =>
       simp only at h
       refine wp_block ?_
       exact ih1 (0 :: p) b (.block id :: fr) s lf E a w (by simp only [rV, hl]) h hlf t hgl hN hdf
     | scope b =>
       simp only at h
       refine wp_scope_straight ?_
       exact ih1 (0 :: p) b (.scope :: fr) s lf E a w (by simp only [rV, hl]) h hlf t hgl hN hdf
     | cond v x y =>
       simp only at h
       split at h
       ·rename_i c hv
        obtain ⟨pc', hp', h1⟩ := cO t.fit.pc h
        have hvr := jB t.fit.sr hv
        simp only [VR] at hvr
        refine wp_cond hvr ?_
        cases hcd : c.den E.ρ with
        | true =>
          rw [hcd] at h1
          simp only at h1
          exact ih1 (0 :: p) x fr _ lf E a w (by simp only [rV, hl]) h1 hlf (t.pc hp') hgl hN hdf
        | false =>
          rw [hcd] at h1
          simp only at h1
          exact ih1 (1 :: p) y fr _ lf E a w (by simp only [rV, hl]) h1 hlf (t.pc hp') hgl hN hdf
       ·simp [T.leaf] at h
     | _ => simp only at h; exact leaf p _ fr s lf E a w hl h hlf t hgl hN hdf
   ·intro fr e s lf E a w hf h hlf t hgl hN hdf
    cases fr with
    | nil =>
      simp only [yB] at h
      exact alR hg hres hm hlo hko h hlf t hgl hdf
    | cons f fr =>
      cases f with
      | seq p c =>
        simp only [yB] at h
        obtain ⟨hl, hf'⟩ := hf
        cases e with
        | normal => exact ih1 p c fr s lf E a w hl h hlf t hgl hN hdf
        | exit id => exact ih2 fr (.exit id) s lf E a w hf' h hlf t hgl hN hdf
        | ret => exact ih2 fr .ret s lf E a w hf' h hlf t hgl hN hdf
      | block id =>
        simp only [yB] at h
        have hf' : LW body fr := hf
        cases e with
        | normal => exact ih2 fr .normal s lf E a w hf' h hlf t hgl hN hdf
        | ret => exact ih2 fr .ret s lf E a w hf' h hlf t hgl hN hdf
        | exit j =>
          simp only at h
          show (if j = id then _ else _)
          split at h
          ·rename_i hj'
           rw [if_pos (Nat.eq_of_beq_eq_true hj')]
           exact ih2 fr .normal s lf E a w hf' h hlf t hgl hN hdf
          ·rename_i hj'
           rw [if_neg (Nat.ne_of_beq_eq_false hj')]
           exact ih2 fr (.exit j) s lf E a w hf' h hlf t hgl hN hdf
      | loop p b =>
        simp only [yB] at h
        obtain ⟨hl, hf'⟩ := hf
        cases e with
        | normal =>
          simp only at h
          split at h
          ·rename_i l hcs
           obtain ⟨s', t', h'⟩ := BI h t
           exact Bj hj hcs hl (fun _ hx => hx) (by rw [← hm]; exact h') hlf t' hgl hN hdf
          ·simp [T.leaf] at h
        | exit id => exact ih2 fr (.exit id) s lf E a w hf' h hlf t hgl hN hdf
        | ret => exact ih2 fr .ret s lf E a w hf' h hlf t hgl hN hdf
      | scope =>
        simp only [yB] at h
        exact LZ (P := P) (ih2 fr e s lf E a w hf h hlf t hgl hN hdf)
end
end Go.As
end

import GoSem.Claim
import Derived.Orders
import Derived.Scope
import Derived.LoopN
import Derived.Below
import GoSem.Core.View
import GoSem.Core.Layout
import GoSem.Op.Equal
import Derived.WalkKit
import Derived.Lib.Strings
import Derived.Laws.IdiomStrings
import Derived.Laws.RangeString
import Derived.Laws.StructEq
import Derived.Test.YtcmepjpoffiijaaGreatDoorAsZA1
set_option linter.unusedSectionVars false
set_option linter.unusedVariables false
set_option linter.unusedSimpArgs false
section
namespace Go.As
section
variable {P : Program} {E : En} {w : World}
theorem Y3 (ρ : Nat → Int) (a b : SB) : (acH a b).den ρ = (a.den ρ && b.den ρ) := by
 unfold acH
 split <;> simp [SB.den]
theorem ZH {i : TI} {t : Nat} (hti : rM P t i) {x y : AV} {u v : Value} (hx : VR E w.heap x u) (hy : VR E w.heap y v) {c : SB} (h : WJ i.kind x y = some c) (d : Nat) :
 (Op.equalIn (d + 1) t u v).run P w = .ok (c.den E.ρ) w ∧ u.oneCell' = true ∧ v.oneCell' = true ∧ i.agg = false := by
 unfold WJ at h
 split at h
 ·rename_i k hk
  split at h
  ·split at h
   ·rename_i hkk
    subst hkk
    simp at h
    subst h
    simp only [VR] at hx hy
    subst hx hy
    exact ⟨by rw [run_equalIn_int w d t _ _ _ _ (AQ hti hk), kZ], rfl, rfl, by simp [TI.agg, TK.agg, hk]⟩
   ·simp at h
  ·simp at h
 ·rename_i hk
  split at h
  ·simp at h
   subst h
   simp only [VR] at hx hy
   obtain ⟨rfl, hx⟩ := hx
   obtain ⟨rfl, hy⟩ := hy
   exact ⟨by rw [run_equalIn_string w d t _ _ (fU hti hk), Xx hx hy]; rfl, rfl, rfl, by simp [TI.agg, TK.agg, hk]⟩
  ·obtain ⟨a, b, rfl, rfl, hd⟩ := Jl hx hy h
   exact ⟨by rw [run_equalIn_string w d t _ _ (fU hti hk), CW, hd], rfl, rfl, by simp [TI.agg, TK.agg, hk]⟩
 ·rename_i hk
  split at h
  ·simp only [VR] at hx hy
   subst hx hy
   exact ⟨by rw [run_equalIn_bool' w d t _ _ (RV hti hk), Hq h], rfl, rfl, by simp [TI.agg, TK.agg, hk]⟩
  ·simp at h
 ·simp at h
theorem Yi {tt : TT} (htt : dW P tt) {xs ys : List AV} {us vs : List Value} (hx : bD E w.heap xs us) (hy : bD E w.heap ys vs) (d : Nat) : ∀ {zZ : List Field} {l : List (Nat × Nat × Nat)} {c : SB},
 (zZ.mapM fun f => (P.info? f.type).map fun i => (f.offset, f.type, i.size)) = some l → (∀ f ∈ zZ, f.name ≠ "_") → aeW tt xs ys l = some c →
 (Op.eqFields (d + 1) us.toArray vs.toArray zZ).run P w = .ok (c.den E.ρ) w
 | [], l, c, hm, _, h => by
   simp at hm
   subst hm
   simp [aeW] at h
   subst h
   simp [Op.eqFields, SB.den]
 | f :: zZ, l, c, hm, hn, h => by
   simp only [List.mapM_cons, Option.bind_eq_bind, Option.bind_eq_some_iff] at hm
   obtain ⟨p, h1, ls, h2, h3⟩ := hm
   simp only [pure, Option.some.injEq] at h3
   subst h3
   rw [Option.map_eq_some_iff] at h1
   obtain ⟨inf, aAU, rfl⟩ := h1
   simp only [aeW] at h
   split at h
   ·simp at h
   ·rename_i i hi
    split at h
    ·rename_i x y hxn hyn
     split at h
     ·simp at h
     ·rename_i c1 hc1
      split at h
      ·simp at h
      ·rename_i c2 hc2
       simp at h
       subst h
       obtain ⟨u, hu1, hu2⟩ := hx.nth hxn
       obtain ⟨v, hv1, hv2⟩ := hy.nth hyn
       obtain ⟨e1, e2, e3, e4⟩ := ZH (w := w) (htt f.type i hi) hu2 hv2 hc1 d
       have ih := Yi htt hx hy d h2 (fun g hg => hn g (by simp [hg])) hc2
       have p1 : (part f.type us.toArray f.offset).run P w = .ok u w := by simp [part, sH (htt f.type i hi), e4, hu1]
       have p2 : (part f.type vs.toArray f.offset).run P w = .ok v w := by simp [part, sH (htt f.type i hi), e4, hv1]
       simp only [Op.eqFields]
       rw [if_pos (hn f (by simp))]
       simp only [Sem.run_bind, p1, p2, e1, Result.andThen_ok, Y3]
       cases hcd : c1.den E.ρ
       ·simp
       ·simp [ih]
    ·simp at h
theorem KJ {tt : TT} (htt : dW P tt) {t : Nat} {xs ys : List AV} {us vs : List Value} {c : SB} (hx : bD E w.heap xs us) (hy : bD E w.heap ys vs) (h : IY tt t xs ys = some c) (op : BinOp) (x y : Operand) :
 (eqGuard op t x y (.agg us.toArray) (.agg vs.toArray)).run P w = .ok () w ∧ (binOp .eql t (.agg us.toArray) (.agg vs.toArray)).run P w = .ok (.bool (c.den E.ρ)) w ∧ (binOp .neq t (.agg us.toArray) (.agg vs.toArray)).run P w = .ok (.bool (!(c.den E.ρ))) w := by
 unfold IY at h
 split at h
 ·simp at h
 ·rename_i i hi
  split at h
  ·rename_i fs hk
   split at h
   ·rename_i hq
    have hti := htt t i hi
    have he := hti.eqs hq
    obtain ⟨zZ, hu, hm⟩ := CV hti hk
    unfold aeV at he
    rw [hu] at he
    simp only [Bool.and_eq_true, Bool.not_eq_true', List.all_eq_true, bne_iff_ne, ne_eq] at he
    obtain ⟨⟨h1, h2⟩, h3⟩ := he
    have hf : P.fieldsOf t = zZ := by simp [Program.fieldsOf, hu]
    have h10 : (10000 : Nat) = 9998 + 1 + 1 := rfl
    have key : (Op.equalIn 10000 t (.agg us.toArray) (.agg vs.toArray)).run P w = .ok (c.den E.ρ) w := by
     rw [h10]
     generalize (9998 : Nat) = n
     rw [run_equalIn_struct w (n + 1) t _ _ (by rw [hf]; exact hu) h1, hf]
     exact Yi htt hx hy n hm (fun f hf => (h3 f hf).1) h
    refine ⟨run_eqGuard_agg w op t x y _ _ h2, ?_, ?_⟩
    ·rw [run_eql_struct, key]; rfl
    ·rw [run_neq_struct, key]; rfl
   ·simp at h
  ·simp at h
def After [Glob] (E : En) (s : St) (w : World) (v : AV) (s' : St) (u : Value) (w' : World) : Prop := ∃ E', Stp E s.h w E' s'.h w' ∧ aX E' s'.h w' ∧ VR E' w'.heap v u
def lX [Glob] (P : Program) (E : En) (s : St) (o : Oper) (a : Act) (w : World) (v : AV) (s' : St) : Prop :=
 s'.slots = s.slots ∧ aZ E.ρ s'.pc ∧ vV P o a w (After E s w v s')
theorem aF {α : Type} {ρ : Nat → Int} {a b : α} (h : (T.ret a).leaf ρ = some b) : a = b := by simpa [T.leaf] using h
theorem iU {s : St} {a : Act} {x : Operand} {f : AV → T (AV × St)} {r : AV × St} (sr : SR E w.heap s.slots a) (h : (Fj s x f).leaf E.ρ = some r) : ∃ v, VR E w.heap v (a.eval x) ∧ (f v).leaf E.ρ = some r := by
 unfold Fj at h
 split at h
 ·rename_i v hv; exact ⟨v, jB sr hv, h⟩
 ·simp [T.leaf] at h
theorem jX {s s' : St} {v : AV} {r : Option AV} {ρ : Nat → Int} (h : (wK s r).leaf ρ = some (v, s')) : r = some v ∧ s' = s := by
 unfold wK at h
 split at h
 ·have := aF h; simp only [Prod.mk.injEq] at this; exact ⟨by rw [this.1], this.2.symm⟩
 ·simp [T.leaf] at h
theorem DV {s s' : St} {v : AV} {r : Option Hp} {ρ : Nat → Int} (h : (Vx s r).leaf ρ = some (v, s')) : ∃ H, r = some H ∧ v = AV.undef ∧ s' = { s with h := H } := by
 unfold Vx at h
 split at h
 ·rename_i H; have := aF h; simp only [Prod.mk.injEq] at this; exact ⟨H, rfl, this.1.symm, this.2.symm⟩
 ·simp [T.leaf] at h
theorem tJ {s s' : St} {v : AV} {r : Option (AV × Hp)} {ρ : Nat → Int} (h : (GY s r).leaf ρ = some (v, s')) : ∃ H, r = some (v, H) ∧ s' = { s with h := H } := by
 unfold GY at h
 split at h
 ·rename_i x H; have := aF h; simp only [Prod.mk.injEq] at this; obtain ⟨rfl, rfl⟩ := this; exact ⟨H, rfl, rfl⟩
 ·simp [T.leaf] at h
theorem oG {h : Array Obj} : VR E h AV.undef undef := by simp only [AV.undef, VR, bD]; exact ⟨[], rfl, rfl⟩
variable {s s' : St} {o : Oper} {a : Act} {v : AV}
theorem lX.pure [Glob] (hp : aZ E.ρ s.pc) (r : aX E s.h w) {u : Value} (h : (execOp a.eval o).run P w = .ok (.value u) w) (hv : VR E w.heap v u) : lX P E s o a w v s :=
 ⟨rfl, hp, vV.value h ⟨E, Stp.refl _ _ _, r, hv⟩⟩
theorem lX.heap [Glob] {H' : Hp} {E' : En} {w' : World} (hp : aZ E.ρ s.pc) {u : Value} (h : (execOp a.eval o).run P w = .ok (.value u) w') (h1 : Stp E s.h w E' H' w') (h2 : aX E' H' w') (hv : VR E' w'.heap v u) :
 lX P E s o a w v { s with h := H' } :=
 ⟨rfl, hp, vV.value h ⟨E', h1, h2, hv⟩⟩
theorem lX.unit [Glob] {H' : Hp} {w' : World} (hp : aZ E.ρ s.pc) (h : (execOp a.eval o).run P w = .ok .skip w') (h1 : Stp E s.h w E H' w') (h2 : aX E H' w') :
 lX P E s o a w AV.undef { s with h := H' } :=
 ⟨rfl, hp, vV.skip h ⟨E, h1, h2, oG⟩⟩
end
end Go.As
end
section
namespace Go.As
theorem Dq {α : Type} {ρ : Nat → Int} {kk : TK} {k : AV} {r : α} {f : St → T α} : ∀ {es : List (AV × AV × Nat)} {s : St}, aZ ρ s.pc → (yM kk k es s f).leaf ρ = some r → ∃ pc', aZ ρ pc' ∧ (f { s with pc := pc' }).leaf ρ = some r
 | [], s, hp, h => ⟨s.pc, hp, h⟩
 | (k', v, b) :: es, s, hp, h => by
   simp only [yM] at h
   split at h
   ·split at h
    ·exact ⟨s.pc, hp, h⟩
    ·exact Dq hp h
   ·split at h
    ·obtain ⟨pc1, hp1, h1⟩ := cO hp h
     split at h1
     ·exact ⟨pc1, hp1, h1⟩
     ·obtain ⟨pc2, hp2, h2⟩ := Dq (s := { s with pc := pc1 }) hp1 h1
      exact ⟨pc2, hp2, h2⟩
    ·exact ⟨s.pc, hp, h⟩
theorem uP {α : Type} {ρ : Nat → Int} {tt : TT} {t : Nat} {m k : AV} {r : α} {f : St → T α} {s : St} (hp : aZ ρ s.pc) (h : (qF tt t m k s f).leaf ρ = some r) : ∃ pc', aZ ρ pc' ∧ (f { s with pc := pc' }).leaf ρ = some r := by
 unfold qF at h
 split at h
 ·split at h
  ·split at h
   ·split at h
    ·exact Dq hp h
    ·exact ⟨s.pc, hp, h⟩
   ·exact ⟨s.pc, hp, h⟩
  ·exact ⟨s.pc, hp, h⟩
 ·exact ⟨s.pc, hp, h⟩
theorem Ug {ρ : Nat → Int} {k : IntKind} {e : SE} {f : AV → St → T (AV × St)} {r : AV × St} : ∀ (n j : Nat) {s : St}, aZ ρ s.pc → (j : Int) ≤ e.den ρ → e.den ρ < (j : Int) + n → (Uh k e f n j s).leaf ρ = some r →
 ∃ (i : Nat) (pc' : List (SB × Bool)), aZ ρ pc' ∧ e.den ρ = (i : Int) ∧ (f (.int k (.lit (Int.ofNat i))) { s with pc := pc' }).leaf ρ = some r
 | 0, j, s, _, _, _, h => by simp [Uh, T.leaf] at h
 | n + 1, j, s, hp, h1, h2, h => by
   simp only [Uh] at h
   split at h
   ·exact ⟨j, s.pc, hp, by omega, h⟩
   ·obtain ⟨pc1, hp1, h3⟩ := cO hp h
    rw [kZ] at h3
    split at h3
    ·rename_i he
     simp only [SE.den, beq_iff_eq] at he
     exact ⟨j, pc1, hp1, he, h3⟩
    ·rename_i he
     simp only [SE.den, beq_eq_false_iff_ne, ne_eq] at he
     have hj : (Int.ofNat j) = (j : Int) := rfl
     rw [hj] at he
     obtain ⟨i, pc2, hp2, q1, q2⟩ := Ug n (j + 1) (s := { s with pc := pc1 }) hp1 (by push_cast; omega) (by push_cast at h2 ⊢; omega) h3
     exact ⟨i, pc2, hp2, q1, q2⟩
theorem pY {α : Type} {ρ : Nat → Int} {s : St} (hp : aZ ρ s.pc) {i n : SE} {f : St → T α} {r : α} (h : (D5 s i n f).leaf ρ = some r) :
 ∃ pc', aZ ρ pc' ∧ 0 ≤ i.den ρ ∧ i.den ρ < n.den ρ ∧ (f { s with pc := pc' }).leaf ρ = some r := by
 unfold D5 at h
 obtain ⟨pc1, hp1, h1⟩ := cO hp h
 split at h1
 ·simp [T.leaf] at h1
 ·rename_i e1
  rw [dS, decide_eq_false_iff_not] at e1
  obtain ⟨pc2, hp2, h2⟩ := cO (s := { s with pc := pc1 }) hp1 h1
  split at h2
  ·rename_i e2
   rw [dS, decide_eq_true_eq] at e2
   simp only [SE.den, Int.not_lt] at e1
   exact ⟨pc2, hp2, e1, e2, h2⟩
  ·simp [T.leaf] at h2
theorem Fb {E : En} {h0 : Array Obj} {tt : TT} {t : Nat} {x ix : AV} {ui : Value} {f : AV → St → T (AV × St)} {r : AV × St} {s : St} (hp : aZ E.ρ s.pc) (hix : VR E h0 ix ui) (h : (OE tt t x ix s f).leaf E.ρ = some r) :
 ∃ ix' pc', aZ E.ρ pc' ∧ VR E h0 ix' ui ∧ (f ix' { s with pc := pc' }).leaf E.ρ = some r := by
 unfold OE at h
 split at h
 ·exact ⟨ix, s.pc, hp, hix, h⟩
 ·split at h
  ·rename_i k e _
   split at h
   ·rename_i n hn
    obtain ⟨pc1, hp1, h1, h2, h3⟩ := pY hp h
    simp only [SE.den] at h2
    obtain ⟨i, pc2, hp2, q1, q2⟩ := Ug n 0 (s := { s with pc := pc1 }) hp1 (by simpa using h1) (by simpa using h2) h3
    refine ⟨_, pc2, hp2, ?_, q2⟩
    simp only [VR, SE.den] at hix ⊢
    rw [hix, q1]
    rfl
   ·simp [T.leaf] at h
  ·simp [T.leaf] at h
theorem NK {ro : Nat → Prop} {h : Array Obj} {t : Nat} {d : D} {v : Value} (r : Rd ro h (.sl t) d v) : (0 < d.l.length → ∃ a n cap, v = .slice (some a) n cap) ∧ (d = .i 1 → v = .slice none 0 0) ∧ (d = .i 2 → ∃ a n cap, v = .slice (some a) n cap) := by
 generalize hc : CK.sl t = c at r
 cases r with
 | int k n => simp at hc
 | bool b => simp at hc
 | str s => simp at hc
 | nil t => exact ⟨by simp [D.l], fun _ => rfl, by simp⟩
 | non t a cap => exact ⟨by simp [D.l], by simp, fun _ => ⟨a, 0, cap, rfl⟩⟩
 | one t c b o cap ds f hr hcp hb h1 h2 => exact ⟨fun _ => ⟨_, _, _, rfl⟩, fun q => by cases ds <;> simp [dL] at q, fun q => by cases ds <;> simp [dL] at q⟩
 | many t cs b o cap rows f hr hcp hb hl h1 h2 => exact ⟨fun _ => ⟨_, _, _, rfl⟩, fun q => by cases rows <;> simp [dL] at q, fun q => by cases rows <;> simp [dL] at q⟩
theorem PE {P : Program} {E : En} {w : World} {tt : TT} (htt : dW P tt) {t e : Nat} {ti : TI} (hti : tt t = some ti) (hk : ti.kind = .slice e) {u : Value} {b : Bool} (hu : (b = true ∧ u = .slice none 0 0) ∨ (b = false ∧ ∃ a n cap, u = .slice (some a) n cap)) {s s' : St} {op : BinOp} {v : AV} {ρ : Nat → Int}
 (h : (adC s op b).leaf ρ = some (v, s')) : s' = s ∧ ∃ y, (binOp op t u (.slice none 0 0)).run P w = .ok y w ∧ VR E w.heap v y ∧ (∀ cs ds, ¬ (u = .agg cs ∧ (Value.slice none 0 0) = .agg ds)) ∧ ¬ (u = .nilIface ∧ (Value.slice none 0 0) = .nilIface) := by
 obtain ⟨d, h1, h2⟩ := wQ (htt t ti hti)
 rw [hk] at h2
 have he : (Op.equal t u (.slice none 0 0)).run P w = .ok b w := by
  have hm : Op.equal t u (.slice none 0 0) = Op.equalIn (9999 + 1) t u (.slice none 0 0) := rfl
  rw [hm]
  generalize (9999 : Nat) = n
  cases d <;> simp only [OJ] at h2
  rcases hu with ⟨rfl, rfl⟩ | ⟨rfl, a, m, cap, rfl⟩ <;> simp [Op.equalIn, DR h1]
 have hns : (∀ k n, u ≠ .int k n) ∧ (∀ s, u ≠ .string s) ∧ (∀ k n, u ≠ .float k n) ∧ (∀ k n m, u ≠ .complex k n m) := by
  rcases hu with ⟨_, rfl⟩ | ⟨_, a, m, cap, rfl⟩ <;> simp
 obtain ⟨q1, q2⟩ := binOp_eql he hns.1 hns.2.1 hns.2.2.1 hns.2.2.2
 unfold adC at h
 split at h
 ·simp only [T.leaf, Option.some.injEq, Prod.mk.injEq] at h
  obtain ⟨rfl, rfl⟩ := h
  exact ⟨rfl, _, q1, by simp only [VR, SB.den], by simp, by simp⟩
 ·simp only [T.leaf, Option.some.injEq, Prod.mk.injEq] at h
  obtain ⟨rfl, rfl⟩ := h
  exact ⟨rfl, _, q2, by simp only [VR, SB.den], by simp, by simp⟩
 ·simp [T.leaf] at h
theorem akC {P : Program} {E : En} {w : World} {tt : TT} (htt : dW P tt) {t : Nat} {a b : AV} {e : SE} (hn : VK tt t a b = some e) {u u' : Value} (ha : VR E w.heap a u) (hb : VR E w.heap b u') {s s' : St} (hp : aZ E.ρ s.pc) {op : BinOp} {v : AV} (h : (aqB s e op).leaf E.ρ = some (v, s')) :
 s'.slots = s.slots ∧ s'.h = s.h ∧ aZ E.ρ s'.pc ∧ ∃ y, (binOp op t u u').run P w = .ok y w ∧ VR E w.heap v y ∧ (∀ cs ds, ¬ (u = .agg cs ∧ u' = .agg ds)) ∧ ¬ (u = .nilIface ∧ u' = .nilIface) := by
 unfold VK at hn
 split at hn
 ·split at hn
  ·split at hn
   ·rename_i ti hti
    split at hn
    ·rename_i el hk
     simp only [Option.some.injEq] at hn
     subst hn
     simp only [VR] at ha hb
     subst hb
     obtain ⟨k1, k2, k3⟩ := NK ha
     unfold aqB at h
     obtain ⟨pc1, hp1, h1⟩ := cO hp h
     split at h1
     ·rename_i t1
      rw [dS, decide_eq_true_eq, dB] at t1
      simp only [SE.den] at t1
      obtain ⟨rfl, q⟩ := PE (P := P) (E := E) (w := w) htt hti hk (.inr ⟨rfl, k1 (by omega)⟩) h1
      exact ⟨rfl, rfl, hp1, q⟩
     ·obtain ⟨pc2, hp2, h2⟩ := cO (s := { s with pc := pc1 }) hp1 h1
      split at h2
      ·rename_i t2
       rw [sG, nO, beq_iff_eq] at t2
       simp only [SE.den] at t2
       obtain ⟨rfl, q⟩ := PE (P := P) (E := E) (w := w) htt hti hk (.inl ⟨rfl, k2 (oO t2)⟩) h2
       exact ⟨rfl, rfl, hp2, q⟩
      ·obtain ⟨pc3, hp3, h3⟩ := cO (s := { s with pc := pc2 }) hp2 h2
       split at h3
       ·rename_i t3
        rw [sG, nO, beq_iff_eq] at t3
        simp only [SE.den] at t3
        obtain ⟨rfl, q⟩ := PE (P := P) (E := E) (w := w) htt hti hk (.inr ⟨rfl, k3 (oO t3)⟩) h3
        exact ⟨rfl, rfl, hp3, q⟩
       ·simp [T.leaf] at h3
    ·simp at hn
   ·simp at hn
  ·simp at hn
 ·simp at hn
end Go.As
end
section
namespace Go.As
section
variable {P : Program} {E : En} {w : World}
theorem aX.swap [Glob] {H H2 : Hp} (r : aX E H w) {id : Nat} {o o' : dP} (hl : H.get id = some o) (ho : OR E w.heap id o') (hg : H2.get id = some o') (hs : ∀ j, j ≠ id → H2.get j = H.get j) (hn : H2.next = H.next) (hr : H2.res = H.res) : aX E H2 w := by
 have key : ∀ j x, H2.get j = some x → ∃ y, H.get j = some y := by
  intro j x hj
  by_cases h : j = id
  ·exact ⟨o, by rw [h]; exact hl⟩
  ·exact ⟨x, by rw [← hs j h]; exact hj⟩
 refine ⟨fun i hi => r.fresh i (by rw [← hn]; exact hi), fun q hq => by rw [hn]; exact r.res q (by rw [← hr]; exact hq), fun j x hj => ?_, fun i j x y hi hj he => ?_, r.A8, r.glob⟩
 ·by_cases h : j = id
  ·subst h
   rw [hg] at hj
   simp only [Option.some.injEq] at hj
   subst hj
   exact ⟨(r.live j o hl).1, ho, (r.live j o hl).2.2⟩
  ·exact r.live j x (by rw [← hs j h]; exact hj)
 ·obtain ⟨x', hx⟩ := key i x hi
  obtain ⟨y', hy⟩ := key j y hj
  exact r.inj i j x' y' hx hy he
structure RG (H H2 : Hp) : Prop where
 ab : ∀ j x, H.get j = some x → ∃ y, H2.get j = some y
 ba : ∀ j x, H2.get j = some x → ∃ y, H.get j = some y
 next : H2.next = H.next
 res : H2.res = H.res
theorem RG.put {H : Hp} {id : Nat} {o o' : dP} (hl : H.get id = some o) : RG H (H.put id o') := by
 refine ⟨fun j x hj => ?_, fun j x hj => ?_, rfl, rfl⟩
 ·rw [Hp.get_put]
  split
  ·exact ⟨o', rfl⟩
  ·exact ⟨x, hj⟩
 ·rw [Hp.get_put] at hj
  split at hj
  ·rename_i h; exact ⟨o, by rw [h]; exact hl⟩
  ·exact ⟨x, hj⟩
theorem RG.symm {H H2 : Hp} (a : RG H H2) : RG H2 H := ⟨a.ba, a.ab, a.next.symm, a.res.symm⟩
theorem Stp.left {H H2 H' : Hp} {E' : En} {w' : World} (a : RG H H2) (s : Stp E H w E' H' w') : Stp E H2 w E' H' w' :=
 ⟨s.ρ, s.dm, s.θ, s.κ, s.ro, fun b hb => (s.FU b hb).imp id (Or.imp (fun ⟨i, o, h1, h2⟩ => by obtain ⟨y, hy⟩ := a.ab i o h1; exact ⟨i, y, hy, h2⟩) id), by rw [a.next]; exact s.nxm, by rw [a.res]; exact s.rsm,
  fun i hi => by rw [a.next, a.res]; exact s.dmn i hi, s.os, s.tape, s.output, s.size, fun b hb hn => s.keep b hb fun i o ho => by obtain ⟨y, hy⟩ := a.ab i o ho; exact hn i y hy,
  fun i o ho hlt => by obtain ⟨i0, o0, h1, h2⟩ := s.own i o ho hlt; obtain ⟨y, hy⟩ := a.ab i0 o0 h1; exact ⟨i0, y, hy, h2⟩⟩
theorem Stp.right {H H' H2 : Hp} {E' : En} {w' : World} (a : RG H' H2) (s : Stp E H w E' H' w') : Stp E H w E' H2 w' :=
 ⟨s.ρ, s.dm, s.θ, s.κ, s.ro, s.FU, by rw [a.next]; exact s.nxm, by rw [a.res]; exact s.rsm,
  fun i hi => by rw [a.next]; exact s.dmn i hi, s.os, s.tape, s.output, s.size, s.keep,
  fun i o ho hlt => by obtain ⟨y, hy⟩ := a.ba i o ho; exact s.own i y hy hlt⟩
theorem dJ.of {ro : Nat → Prop} {h : Array Obj} {d : D} (f : Nat → Value) : ∀ (cs : List CK) (j : Nat), (∀ i c, cs[i]? = some c → kM ro h c (d.hd (j + i)) (f (j + i))) → dJ ro h cs j d ((List.range' j cs.length).map f)
 | [], j, _ => by simp [dJ]
 | c :: cs, j, hh => by
   simp only [List.length_cons, List.range'_succ, List.map_cons, dJ]
   refine ⟨f j, _, rfl, by simpa using hh 0 c (by simp), dJ.of f cs (j + 1) fun i c' hi => ?_⟩
   have := hh (i + 1) c' (by simpa using hi)
   rw [show j + 1 + i = j + (i + 1) by omega]
   exact this
theorem Rd.row {ro : Nat → Prop} {h : Array Obj} {t : Nat} {d : D} {v : Value} (r : Rd ro h (.sl t) d v) {i : Nat} {x : D} (hi : d.l[i]? = some x) :
 ∃ b o cap us, v = .slice (some ⟨b, o, none⟩) d.l.length cap ∧ ro b ∧ BX ro h (rowOf t) x us ∧ gJ h b (o + i * (rowOf t).es) us := by
 generalize hc : CK.sl t = c at r
 cases r with
 | int k n => simp at hc
 | bool b => simp at hc
 | str s => simp at hc
 | nil t => simp [D.l] at hi
 | non t a cap => simp [D.l] at hi
 | one t' c b o cap ds f hr hcp hb h1 h2 =>
   simp only [CK.sl.injEq] at hc
   subst hc
   rw [bC] at hi ⊢
   refine ⟨b, o, cap, [f i], rfl, hb, ?_, ?_⟩
   ·rw [hr]
    exact ⟨_, rfl, (h2 i x hi).cell⟩
   ·rw [hr]
    intro j u hj
    cases j with
    | zero =>
      simp at hj
      subst hj
      simpa [Row.es] using h1 i x hi
    | succ j => simp at hj
 | many t' cs b o cap rows f hr hcp hb hl h1 h2 =>
   simp only [CK.sl.injEq] at hc
   subst hc
   rw [bC] at hi ⊢
   rw [List.getElem?_map, Option.map_eq_some_iff] at hi
   obtain ⟨row, hrow, rfl⟩ := hi
   have hlen := hl row (List.mem_of_getElem? hrow)
   refine ⟨b, o, cap, (List.range' 0 cs.length).map (f i), by simp, hb, ?_, ?_⟩
   ·rw [hr]
    refine dJ.of (f i) cs 0 fun j c hj => ?_
    have hjl : j < row.length := by rw [hlen]; exact (List.getElem?_eq_some_iff.1 hj).1
    have hd : row[j]? = some row[j] := List.getElem?_eq_getElem hjl
    rw [Nat.zero_add]
    have : (dL row).hd j = row[j] := by simp [D.hd, hd]
    rw [this]
    exact (h2 i row j _ c hrow hd hj).cell
   ·rw [hr]
    intro j u hj
    rw [List.getElem?_map, Option.map_eq_some_iff] at hj
    obtain ⟨k, hk, rfl⟩ := hj
    have hjl : j < cs.length := by
     have := (List.getElem?_eq_some_iff.1 hk).1
     simpa using this
    rw [List.getElem?_range' hjl] at hk
    simp only [Option.some.injEq] at hk
    obtain rfl : k = j := by omega
    have hd : row[k]? = some row[k] := List.getElem?_eq_getElem (by omega)
    exact h1 i row k _ hrow hd
theorem Gz (ρ : Nat → Int) (e i : SE) {x : D} {k : Nat} (hi : i.den ρ = (k : Int)) (hx : (dec (e.den ρ)).l[k]? = some x) : dec ((SE.op .at e i).den ρ) = x := by
 simp only [SE.den, aN.den, aC, D.at, hi, Int.toNat_natCast, hx, Option.getD_some]
theorem pU {tt : TT} (htt : dW P tt) {ty z : Nat} (h : yG tt ty = some z) : ∃ el ie, P.underlying ty = some (.slice el) ∧ tt el = some ie ∧ ie.size = z := by
 unfold yG at h
 split at h
 ·rename_i ti hti
  split at h
  ·rename_i el hk
   simp only [jK, Option.map_eq_some_iff] at h
   obtain ⟨ie, hie, rfl⟩ := h
   exact ⟨el, ie, fH (htt ty ti hti) hk, hie, rfl⟩
  ·simp at h
 ·simp at h
theorem WC {tt : TT} (htt : dW P tt) {s s' : St} (hp : aZ E.ρ s.pc) {ty t : Nat} {e : SE} {ix v : AV} {u ui : Value} (hx : VR E w.heap (.dat e t) u) (hix : VR E w.heap ix ui) (h : (QS tt s ty t e ix).leaf E.ρ = some (v, s')) :
 s'.slots = s.slots ∧ s'.h = s.h ∧ aZ E.ρ s'.pc ∧ ∃ r, (Instr.indexAt ty u ui).run P w = .ok r w ∧ VR E w.heap v r := by
 unfold QS at h
 split at h
 ·rename_i kd i
  split at h
  ·rename_i z hz
   split at h
   ·rename_i hes
    obtain ⟨pc', hp', h1, h2, h3⟩ := pY hp h
    have := aF h3
    simp only [Prod.mk.injEq] at this
    obtain ⟨rfl, rfl⟩ := this
    refine ⟨rfl, rfl, hp', ?_⟩
    rw [dB] at h2
    simp only [VR] at hx hix
    subst hix
    obtain ⟨el, ie, hu, hie, rfl⟩ := pU htt hz
    obtain ⟨k, hk⟩ : ∃ k : Nat, i.den E.ρ = (k : Int) := ⟨(i.den E.ρ).toNat, by omega⟩
    have hlt : k < (dec (e.den E.ρ)).l.length := by omega
    have hd : (dec (e.den E.ρ)).l[k]? = some (dec (e.den E.ρ)).l[k] := List.getElem?_eq_getElem hlt
    obtain ⟨b, o, cap, us, rfl, g1, g2, g3⟩ := hx.row hd
    refine ⟨.pointer (some ⟨b, o + k * ie.size, none⟩), ?_, ?_⟩
    ·rw [hk]
     simp [Instr.indexAt, asIntOf, run_underlying hu, dQ (htt el ie hie), hlt, eX]
    ·simp only [VR]
     exact ⟨b, _, us, rfl, g1, by rw [iE, Gz E.ρ e i hk hd]; exact g2, by rw [hes]; exact g3, g2.ones⟩
   ·simp [T.leaf] at h
  ·simp [T.leaf] at h
 ·simp [T.leaf] at h
theorem V7 {tt : TT} (htt : dW P tt) {s s' : St} (hp : aZ E.ρ s.pc) {ty t id : Nat} {n : SE} {ix v : AV} {u ui : Value} (hx : VR E w.heap (.uM id n t) u) (hix : VR E w.heap ix ui) (h : (QC tt s ty id t n ix).leaf E.ρ = some (v, s')) :
 s'.slots = s.slots ∧ s'.h = s.h ∧ aZ E.ρ s'.pc ∧ ∃ r, (Instr.indexAt ty u ui).run P w = .ok r w ∧ VR E w.heap v r := by
 unfold QC at h
 split at h
 ·rename_i kd i
  split at h
  ·rename_i z hz
   split at h
   ·rename_i hes
    obtain ⟨pc', hp', h1, h2, h3⟩ := pY hp h
    have := aF h3
    simp only [Prod.mk.injEq] at this
    obtain ⟨rfl, rfl⟩ := this
    refine ⟨rfl, rfl, hp', ?_⟩
    simp only [VR] at hx hix
    subst hix
    obtain ⟨hid, m, a, cap, hn, rfl, hcap, hc⟩ := hx
    obtain ⟨el, ie, hu, hie, rfl⟩ := pU htt hz
    obtain ⟨k, hk⟩ : ∃ k : Nat, i.den E.ρ = (k : Int) := ⟨(i.den E.ρ).toNat, by omega⟩
    have hlt : k < m := by omega
    have ha : a = ⟨(E.θ id).1, (E.θ id).2, none⟩ := by
     simp only [fE] at hc
     rcases hc with hc | hc
     ·simpa using hc.1
     ·omega
    subst ha
    refine ⟨.pointer (some ⟨(E.θ id).1, (E.θ id).2 + k * ie.size, none⟩), ?_, ?_⟩
    ·rw [hk]
     simp [Instr.indexAt, asIntOf, run_underlying hu, dQ (htt el ie hie), hlt, eX]
    ·simp only [VR]
     exact ⟨hid, k, hk, by rw [Nat.add_zero]⟩
   ·simp [T.leaf] at h
  ·simp [T.leaf] at h
 ·simp [T.leaf] at h
theorem qJ {ρ : Nat → Int} {pc : List (SB × Bool)} (hp : aZ ρ pc) {dflt cs : List AV} {i : SE} {k : Nat} (hi : i.den ρ = (k : Int)) : ∀ {ov : List (SE × List AV)}, qK pc dflt i ov = some cs →
 dO ρ k ov = some cs ∨ (dO ρ k ov = none ∧ cs = dflt)
 | [], h => by simp only [qK, Option.some.injEq] at h; exact .inr ⟨rfl, h.symm⟩
 | (j, c) :: l, h => by
   simp only [qK] at h
   simp only [dO]
   split at h
   ·rename_i he
    have he := bK _ _ he
    subst he
    rw [if_pos hi]
    simp only [Option.some.injEq] at h
    subst h
    exact .inl rfl
   ·split at h
    ·rename_i b hd
     have hd := fF hp hd
     rw [kZ] at hd
     split at h
     ·rw [beq_iff_eq, hi] at hd
      rw [if_pos hd.symm]
      exact .inl h
     ·rw [beq_eq_false_iff_ne, hi] at hd
      rw [if_neg (fun q => hd q.symm)]
      exact qJ hp hi h
    ·simp at h
theorem AP {α : Type} {ρ : Nat → Int} {i : SE} {r : α} : ∀ {ov : List (SE × List AV)} {s : St} {k : St → T α}, aZ ρ s.pc → (zB i ov s k).leaf ρ = some r → ∃ pc', aZ ρ pc' ∧ (k { s with pc := pc' }).leaf ρ = some r
 | [], s, k, hp, h => ⟨s.pc, hp, h⟩
 | (j, c) :: l, s, k, hp, h => by
   simp only [zB] at h
   split at h
   ·exact ⟨s.pc, hp, h⟩
   ·obtain ⟨pc1, hp1, h1⟩ := cO hp h
    split at h1
    ·exact ⟨pc1, hp1, h1⟩
    ·exact AP (s := { s with pc := pc1 }) hp1 h1
theorem kP {ρ : Nat → Int} {r : Row} {ov : List (SE × List AV)} (ho : DY r ov) : ∀ {ds : List D} {j k : Nat} {x : D}, ds[k]? = some x →
 aG ρ r ov ds j = aG ρ r ov (ds.take k) j ++ ((match dO ρ (j + k) ov with | some cs => cs | none => iR r (.dat x)) ++ aG ρ r ov (ds.drop (k + 1)) (j + k + 1)) ∧ (aG ρ r ov (ds.take k) j).length = k * r.es
 | [], j, k, x, h => by simp at h
 | d :: ds, j, 0, x, h => by
   simp only [List.getElem?_cons_zero, Option.some.injEq] at h
   subst h
   refine ⟨?_, by simp [aG]⟩
   simp only [List.take_zero, aG, List.nil_append, Nat.add_zero, List.drop_succ_cons, List.drop_zero]
   rfl
 | d :: ds, j, k + 1, x, h => by
   have h' : ds[k]? = some x := by simpa using h
   have hk : k < ds.length := (List.getElem?_eq_some_iff.1 h').1
   obtain ⟨h1, h2⟩ := kP (ρ := ρ) ho (j := j + 1) h'
   refine ⟨?_, ?_⟩
   ·simp only [List.take_succ_cons, aG, List.append_assoc, List.drop_succ_cons]
    rw [h1, show j + 1 + k = j + (k + 1) by omega]
   ·rw [bQ ho, List.length_take, List.length_cons]
    congr 1
    omega
theorem yI {α : Type} : ∀ (a b : List α), eY a.length (a ++ b) = some b
 | [], _ => rfl
 | x :: a, b => by simp [eY, yI a b]
theorem KW {α : Type} : ∀ {n : Nat} {a b l : List α}, eY n a = some l → eY n (a ++ b) = some (l ++ b)
 | 0, a, b, l, h => by simp only [eY, Option.some.injEq] at h ⊢; rw [h]
 | n + 1, [], b, l, h => by simp [eY] at h
 | n + 1, x :: a, b, l, h => by simp only [eY, List.cons_append] at h ⊢; exact KW h
theorem Je {α : Type} : ∀ {n : Nat} {a b l : List α}, iZ n a = some l → iZ n (a ++ b) = some l
 | 0, a, b, l, h => by simp only [iZ] at h ⊢; exact h
 | n + 1, [], b, l, h => by simp [iZ] at h
 | n + 1, x :: a, b, l, h => by
   simp only [iZ, List.cons_append] at h ⊢
   split at h
   ·rename_i l' hl
    rw [Je hl]
    exact h
   ·simp at h
theorem Ot {α : Type} : ∀ {a b : Nat} {l m : List α}, eY a l = some m → eY (a + b) l = eY b m
 | 0, b, l, m, h => by simp only [eY, Option.some.injEq] at h; subst h; rw [Nat.zero_add]
 | a + 1, b, [], m, h => by simp [eY] at h
 | a + 1, b, x :: l, m, h => by
   rw [show a + 1 + b = (a + b) + 1 by omega]
   simp only [eY] at h ⊢
   exact Ot h
noncomputable def dI (ρ : Nat → Int) (e : SE) (t : Nat) (ov : List (SE × List AV)) : List AV := aG ρ (rowOf t) ov (dec (e.den ρ)).l 0
theorem OR.wW {h : Array Obj} {id : Nat} {e : SE} {t : Nat} {ty : TypeId} {ov : List (SE × List AV)} : OR E h id (.vec e t ty ov) ↔ (DY (rowOf t) ov ∧ H8 (rowOf t) (dec (e.den E.ρ))) ∧ OR E h id (.cells (dI E.ρ e t ov) ty) := by
 simp only [OR, dI]
theorem aX.wW [Glob] {H : Hp} (r : aX E H w) {id : Nat} {e : SE} {t : Nat} {ty : TypeId} {ov : List (SE × List AV)} (hl : H.get id = some (.vec e t ty ov)) : aX E (H.put id (.cells (dI E.ρ e t ov) ty)) w ∧ DY (rowOf t) ov ∧ H8 (rowOf t) (dec (e.den E.ρ)) := by
 obtain ⟨h1, h2⟩ := OR.wW.1 (r.live id _ hl).2.1
 exact ⟨r.swap hl h2 (by rw [Hp.get_put, if_pos rfl]) (fun j hj => by rw [Hp.get_put, if_neg hj]) rfl rfl, h1⟩
theorem CZ {h : Array Obj} {r : Row} {x y : SE} (hd : dec (x.den E.ρ) = dec (y.den E.ρ)) {us : List Value} : bD E h (iR r x) us ↔ bD E h (iR r y) us := by
 rw [iE, iE, hd]
theorem agX [Glob] {H : Hp} (r : aX E H w) {id : Nat} {e i : SE} {t : Nat} {ty : TypeId} {ov : List (SE × List AV)} (hl : H.get id = some (.vec e t ty ov)) {k : Nat} (hi : i.den E.ρ = (k : Int)) (hk : (k : Int) < (dZ e).den E.ρ)
 {pc : List (SB × Bool)} (hp : aZ E.ρ pc) {cs : List AV} (hc : qK pc (iR (rowOf t) (.op .at e i)) i ov = some cs) :
 ∃ pre row post, dI E.ρ e t ov = pre ++ (row ++ post) ∧ pre.length = k * (rowOf t).es ∧ row.length = (rowOf t).es ∧ (∀ h us, bD E h row us ↔ bD E h cs us) ∧ cs.length = (rowOf t).es := by
 obtain ⟨_, ho, hwf⟩ := r.wW hl
 rw [dB] at hk
 have hlt : k < (dec (e.den E.ρ)).l.length := by omega
 have hd : (dec (e.den E.ρ)).l[k]? = some (dec (e.den E.ρ)).l[k] := List.getElem?_eq_getElem hlt
 obtain ⟨h1, h2⟩ := kP (ρ := E.ρ) ho (j := 0) hd
 refine ⟨_, _, _, h1, h2, ?_⟩
 rw [Nat.zero_add]
 rcases qJ hp hi hc with h3 | ⟨h3, rfl⟩
 ·rw [h3]
  obtain ⟨p, p1, p2, _⟩ := mG h3
  have := ho p p1
  rw [p2] at this
  exact ⟨this, fun h us => Iff.rfl, this⟩
 ·rw [h3]
  refine ⟨iW _ _, fun h us => CZ ?_, iW _ _⟩
  rw [Gz E.ρ e i hi hd]
  simp only [SE.den, aC]
theorem Zd {i : TI} {l m : List AV} {v : AV} (h : partOf i l = some v) : partOf i (l ++ m) = some v := by
 unfold partOf at h ⊢
 split at h
 ·rename_i ha
  rw [Option.map_eq_some_iff] at h
  obtain ⟨l', h1, rfl⟩ := h
  rw [Je h1]
  rfl
 ·split at h
  ·simp only [Option.some.injEq] at h
   subst h
   rfl
  ·simp at h
theorem bD.azD {h : Array Obj} {n : Nat} {xs ys : List AV} {us : List Value} (hv : bD E h xs us) (ht : As.iZ n xs = some ys) : bD E h ys (us.take n) ∧ n ≤ us.length := by
 have := hv.iZ ht
 exact ⟨this.1, by rw [hv.length]; exact this.2⟩
theorem NS [Glob] {tt : TT} (htt : dW P tt) {H : Hp} (r : aX E H w) {id : Nat} {cs : List AV} {e : TypeId} (hl : H.get id = some (.cells cs e)) {ty : Nat} {ti : TI} (hti : tt ty = some ti) {off : Nat} {l : List AV} (hd : eY off cs = some l) {v : AV} (hv : partOf ti l = some v) :
 ∃ x, (loadVar ty ⟨(E.θ id).1, (E.θ id).2 + off, none⟩).run P w = .ok x w ∧ VR E w.heap v x := by
 have hld : Gm tt ty (.ptr id off) H = some v := by
  unfold Gm partOf at *
  rw [hti]
  simp only [oK, hl, hd]
  split at hv
  ·exact hv
  ·split at hv
   ·simp only [Option.some.injEq] at hv
    subst hv
    rfl
   ·simp at hv
 have hid := (r.live id _ hl).1
 obtain ⟨x, b, o, h1, h2, h3⟩ := Gj htt r (p := .ptr id off) (u := .pointer (some ⟨(E.θ id).1, (E.θ id).2 + off, none⟩)) (by simp only [VR]; exact ⟨trivial, hid⟩) hld
 simp only [Value.pointer.injEq, Option.some.injEq, Addr.mk.injEq] at h1
 obtain ⟨rfl, rfl, _⟩ := h1
 exact ⟨x, h2, h3⟩
theorem JO {k : IntKind} : ∀ {cs : List AV} {ds : List D}, JQ k cs = some ds → ds.length = cs.length ∧ ∀ (i : Nat), i < cs.length → ∃ n, ds[i]? = some (.i n) ∧ cs[i]? = some (.int k (.lit n))
 | [], ds, h => by
   simp only [JQ, Option.some.injEq] at h
   subst h
   exact ⟨rfl, fun i hi => by simp at hi⟩
 | v :: vs, ds, h => by
   simp only [JQ] at h
   split at h
   ·split at h
    ·rename_i k' n
     split at h
     ·rename_i hk
      subst hk
      split at h
      ·rename_i ds' hds
       simp only [Option.some.injEq] at h
       subst h
       obtain ⟨h1, h2⟩ := JO hds
       refine ⟨by simp [h1], fun i hi => ?_⟩
       cases i with
       | zero => exact ⟨n, rfl, rfl⟩
       | succ i => exact h2 i (by simpa using hi)
      ·simp at h
     ·simp at h
    ·simp at h
   ·simp at h
theorem Gq {α : Type} : ∀ {i : Nat} {cs : List α} {a : α}, cs[i]? = some a → ∃ l, eY i cs = some (a :: l)
 | 0, [], a, h => by simp at h
 | 0, c :: cs, a, h => by simp only [List.getElem?_cons_zero, Option.some.injEq] at h; subst h; exact ⟨cs, rfl⟩
 | i + 1, [], a, h => by simp at h
 | i + 1, c :: cs, a, h => Gq (cs := cs) (by simpa using h)
theorem TR {ρ : Nat → Int} {s s' : St} {cs : List AV} {e : SE} {v : AV} (hp : aZ ρ s.pc) (h : (Og s cs e).leaf ρ = some (v, s')) :
 s'.slots = s.slots ∧ s'.h = s.h ∧ aZ ρ s'.pc ∧ ∃ (i : Nat) (k : IntKind) (n : Int) (x : SE), e.den ρ = (i : Int) ∧ i < cs.length ∧ cs[i]? = some (.int k (.lit n)) ∧ v = .int k x ∧ x.den ρ = n := by
 unfold Og at h
 split at h
 ·simp [T.leaf] at h
 ·rename_i k hk
  split at h
  ·simp [T.leaf] at h
  ·rename_i ds hds
   obtain ⟨h1, h2⟩ := JO hds
   obtain ⟨pc', hp', g1, g2, g3⟩ := pY hp h
   simp only [T.leaf, Option.some.injEq, Prod.mk.injEq] at g3
   obtain ⟨rfl, rfl⟩ := g3
   have g2' : e.den ρ < (ds.length : Int) := by simpa [SE.den] using g2
   have hi : e.den ρ = ((e.den ρ).toNat : Int) := by omega
   have hlt : (e.den ρ).toNat < cs.length := by omega
   obtain ⟨n, d1, d2⟩ := h2 _ hlt
   refine ⟨rfl, rfl, hp', _, k, n, _, hi, hlt, d2, rfl, ?_⟩
   simp only [FK, SE.den, aN.den, aC, D.at, bC, d1, Option.getD_some, D.n]
theorem Wu [Glob] {tt : TT} (htt : dW P tt) {s s' : St} (r : aX E s.h w) (hp : aZ E.ρ s.pc) {ty id es : Nat} {i : SE} {off : Nat} {v : AV} {u : Value} (hx : VR E w.heap (.nY id es i off) u) (h : (EJ tt s ty id es i off).leaf E.ρ = some (v, s')) :
 s'.slots = s.slots ∧ s'.h = s.h ∧ aZ E.ρ s'.pc ∧ ∃ x b o, u = .pointer (some ⟨b, o, none⟩) ∧ (loadVar ty ⟨b, o, none⟩).run P w = .ok x w ∧ VR E w.heap v x := by
 unfold EJ at h
 split at h
 ·rename_i o hl
  split at h
  ·rename_i cs ety
   split at h
   ·rename_i ti hti
    split at h
    ·simp [T.leaf] at h
    ·rename_i hb
     simp only [Bool.or_eq_false_iff, Bool.not_eq_false'] at hb
     have hes := Nat.eq_of_beq_eq_true hb.1.2
     have hof := Nat.eq_of_beq_eq_true hb.2
     subst hes hof
     obtain ⟨h1, h2, h3, k, kd, n, x, g1, g2, g3, rfl, g5⟩ := TR hp h
     refine ⟨h1, h2, h3, ?_⟩
     simp only [VR] at hx
     obtain ⟨hid, k', hk, rfl⟩ := hx
     have hkk : k' = k := by omega
     subst hkk
     obtain ⟨l, hd⟩ := Gq g3
     obtain ⟨y, q1, q2⟩ := NS (P := P) htt r hl hti hd (v := .int kd (.lit n)) (by unfold partOf; rw [hb.1.1])
     refine ⟨y, _, _, rfl, by rw [Nat.mul_one, Nat.add_zero]; exact q1, ?_⟩
     simp only [VR, SE.den] at q2 ⊢
     rw [q2, g5]
   ·simp [T.leaf] at h
  ·rename_i e t FD ov
   split at h
   ·rename_i ti hti
    split at h
    ·rename_i hes
     obtain ⟨pc0, hp0, h1, h2, h3⟩ := pY hp h
     obtain ⟨pc', hp', h3⟩ := AP (s := { s with pc := pc0 }) hp0 h3
     split at h3
     ·rename_i cs hc
      split at h3
      ·rename_i l hdr
       obtain ⟨e1, rfl⟩ := jX h3
       refine ⟨rfl, rfl, hp', ?_⟩
       simp only [VR] at hx
       obtain ⟨hid, k, hk, rfl⟩ := hx
       obtain ⟨pre, row, post, c1, c2, c3, c4, c5⟩ := agX r hl hk (by rw [← hk]; exact h2) hp' hc
       obtain ⟨rc, ho, hwf⟩ := r.wW hl
       have hrow : OR E w.heap id (.cells (pre ++ (cs ++ post)) FD) := by
        have := (rc.live id _ (by rw [Hp.get_put, if_pos rfl])).2.1
        rw [c1] at this
        simp only [OR] at this ⊢
        obtain ⟨arr, lo, hi, us, q1, q2, q3, q4, q5, q6, q7⟩ := this
        refine ⟨arr, lo, hi, us, q1, ?_, q3, by simp only [List.length_append, c3, c5] at q4 ⊢; exact q4, q5, q6, q7⟩
        obtain ⟨a, b, rfl, a1, a2⟩ := q2.split
        obtain ⟨a', b', rfl, b1, b2⟩ := a2.split
        exact a1.append (((c4 _ _).1 b1).append b2)
       have r2 := r.swap (H2 := s.h.put id (.cells (pre ++ (cs ++ post)) FD)) hl hrow (by rw [Hp.get_put, if_pos rfl]) (fun j hj => by rw [Hp.get_put, if_neg hj]) rfl rfl
       have aAl : eY (k * es + off) (pre ++ (cs ++ post)) = some (l ++ post) := by
        rw [Ot (m := cs ++ post) (by rw [← hes, ← c2]; exact yI pre _)]
        exact KW hdr
       obtain ⟨x, g1, g2⟩ := NS htt r2 (by rw [Hp.get_put, if_pos rfl]) hti aAl (Zd e1)
       exact ⟨x, _, _, rfl, g1, g2⟩
      ·simp [T.leaf] at h3
     ·simp [T.leaf] at h3
    ·simp [T.leaf] at h
   ·simp [T.leaf] at h
  ·simp [T.leaf] at h
 ·simp [T.leaf] at h
end
end Go.As
end
section
namespace Go.As
theorem kM.rd {ro : Nat → Prop} {h : Array Obj} {c : CK} {d : D} {u : Value} (r : kM ro h c d u) (wf : uI c d) : Rd ro h c d u := by
 cases c with
 | int k =>
   simp only [kM, uI] at r wf
   rw [wf, r]
   exact .int k d.n
 | bool =>
   simp only [kM, uI] at r wf
   subst r
   rcases wf with rfl | rfl
   ·exact .bool false
   ·exact .bool true
 | str => exact r
 | sl t => exact r
theorem dJ.get {ro : Nat → Prop} {h : Array Obj} {d : D} : ∀ {cs : List CK} {j : Nat} {us : List Value}, dJ ro h cs j d us → ∀ {k : Nat} {c : CK}, cs[k]? = some c → ∃ u, us[k]? = some u ∧ kM ro h c (d.hd (j + k)) u
 | [], _, _, _, k, c, hk => by simp at hk
 | c0 :: cs, j, us, hh, k, c, hk => by
   simp only [dJ] at hh
   obtain ⟨u, vs, rfl, h1, h2⟩ := hh
   cases k with
   | zero =>
     simp at hk
     subst hk
     exact ⟨u, rfl, h1⟩
   | succ k =>
     obtain ⟨x, h3, h4⟩ := h2.get (by simpa using hk)
     exact ⟨x, by simpa using h3, by rw [show j + (k + 1) = j + 1 + k by omega]; exact h4⟩
theorem dJ.length {ro : Nat → Prop} {h : Array Obj} {d : D} : ∀ {cs : List CK} {j : Nat} {us : List Value}, dJ ro h cs j d us → us.length = cs.length
 | [], _, us, hh => by simp only [dJ] at hh; subst hh; rfl
 | c :: cs, j, us, hh => by
   simp only [dJ] at hh
   obtain ⟨u, vs, rfl, _, h2⟩ := hh
   simp [h2.length]
theorem dJ.shift {ro : Nat → Prop} {h : Array Obj} {a b : D} : ∀ {cs : List CK} {j : Nat} {us : List Value}, dJ ro h cs (j + 1) (.p a b) us ↔ dJ ro h cs j b us
 | [], _, us => by simp only [dJ]
 | c :: cs, j, us => by
   simp only [dJ, Ew]
   constructor
   ·rintro ⟨u, vs, rfl, h1, h2⟩
    exact ⟨u, vs, rfl, h1, dJ.shift.1 h2⟩
   ·rintro ⟨u, vs, rfl, h1, h2⟩
    exact ⟨u, vs, rfl, h1, dJ.shift.2 h2⟩
section
variable {P : Program} {E : En} {w : World}
theorem sN {ρ : Nat → Int} {c : CK} {v : AV} {a : SE} (h : rJ c v = some a) : uI c (dec (a.den ρ)) := by
 unfold rJ at h
 split at h
 ·split at h
  ·split at h
   ·simp only [Option.some.injEq] at h
    subst h
    simp only [uI, nG, aC, D.n]
   ·simp at h
  ·simp at h
 ·split at h
  ·split at h
   ·rename_i b
    simp only [Option.some.injEq] at h
    subst h
    simp only [uI, SE.den, aC]
    cases b <;> simp
   ·split at h
    ·split at h
     ·split at h
      ·simp only [Option.some.injEq] at h
       subst h
       simp only [uI, SE.den, aN.den, aC]
       split <;> simp
      ·simp at h
     ·simp at h
    ·simp at h
   ·simp at h
  ·simp at h
 ·trivial
 ·trivial
theorem pV {h : Array Obj} {c : CK} {v : AV} {u : Value} {a : SE} (hv : VR E h v u) (hc : rJ c v = some a) : kM E.ro h c (dec (a.den E.ρ)) u := by
 unfold rJ at hc
 split at hc
 ·split at hc
  ·split at hc
   ·rename_i hk
    subst hk
    simp only [Option.some.injEq] at hc
    subst hc
    simp only [VR] at hv
    simp only [kM, nG, aC, D.n]
    exact hv
   ·simp at hc
  ·simp at hc
 ·split at hc
  ·split at hc
   ·rename_i b
    simp only [Option.some.injEq] at hc
    subst hc
    simp only [VR, SB.den] at hv
    subst hv
    simp only [kM, SE.den, aC]
    cases b <;> rfl
   ·split at hc
    ·split at hc
     ·split at hc
      ·rename_i x n hn
       subst hn
       simp only [Option.some.injEq] at hc
       subst hc
       simp only [VR, SB.den, SE.den] at hv
       subst hv
       simp only [kM, SE.den, aN.den, nG, aC, D.n]
       congr 2
       split
       ·rename_i hz; rw [hz]
       ·rename_i hz; simpa using hz
      ·simp at hc
     ·simp at hc
    ·simp at hc
   ·simp at hc
  ·simp at hc
 ·obtain ⟨s, rfl, hs⟩ := DI hv hc
  simp only [kM, hs]
  exact .str s
 ·split at hc
  ·split at hc
   ·rename_i ht
    subst ht
    simp only [Option.some.injEq] at hc
    subst hc
    exact hv
   ·simp at hc
  ·simp only [Option.some.injEq] at hc
   subst hc
   simp only [VR] at hv
   subst hv
   simp only [kM, SE.den, aC]
   exact .nil _
  ·split at hc
   ·rename_i ht
    subst ht
    simp only [Option.some.injEq] at hc
    subst hc
    simp only [VR] at hv
    exact hv.2
   ·simp at hc
  ·split at hc
   ·simp only [Option.some.injEq] at hc
    subst hc
    simp only [VR] at hv
    obtain ⟨_, a, cap, rfl, _⟩ := hv
    simp only [kM, SE.den, aC]
    exact .non _ _ _
   ·simp at hc
  ·simp at hc
theorem ES {ρ : Nat → Int} : ∀ {cs : List CK} {vs : List AV} {x : SE}, codeCells cs vs = some x → Ry cs (dec (x.den ρ))
 | [], [], x, h => by
   simp only [codeCells, Option.some.injEq] at h
   subst h
   refine ⟨?_, ?_, ?_⟩
   ·simp only [SE.den, aC]; rfl
   ·simp only [SE.den, aC]; rfl
   ·intro j c y hj; simp at hj
 | [], _ :: _, x, h => by simp [codeCells] at h
 | _ :: _, [], x, h => by simp [codeCells] at h
 | c :: cs, v :: vs, x, h => by
   simp only [codeCells] at h
   split at h
   ·simp at h
   ·rename_i a ha
    split at h
    ·simp at h
    ·rename_i b hb
     simp only [Option.some.injEq] at h
     subst h
     obtain ⟨h1, h2, h3⟩ := ES (ρ := ρ) hb
     refine ⟨?_, ?_, ?_⟩
     ·simp only [fV, SE.den, aN.den, aC, D.l, dL]
      rw [← h1]
     ·simp only [fV, SE.den, aN.den, aC, D.l, List.length_cons, h2]
     ·intro j c' y hj hy
      simp only [fV, SE.den, aN.den, aC, D.l] at hy
      cases j with
      | zero =>
        simp only [List.getElem?_cons_zero, Option.some.injEq] at hj hy
        subst hj hy
        exact sN ha
      | succ j => exact h3 j c' y (by simpa using hj) (by simpa using hy)
theorem ET {h : Array Obj} : ∀ {cs : List CK} {vs : List AV} {us : List Value} {x : SE}, bD E h vs us → codeCells cs vs = some x → dJ E.ro h cs 0 (dec (x.den E.ρ)) us
 | [], [], us, x, hv, hc => by simp only [bD] at hv; subst hv; simp [dJ]
 | [], _ :: _, _, x, _, hc => by simp [codeCells] at hc
 | _ :: _, [], _, x, _, hc => by simp [codeCells] at hc
 | c :: cs, v :: vs, us, x, hv, hc => by
   simp only [codeCells] at hc
   rw [aQ] at hv
   obtain ⟨u, us', rfl, h1, h2⟩ := hv
   split at hc
   ·simp at hc
   ·rename_i a ha
    split at hc
    ·simp at hc
    ·rename_i b hb
     simp only [Option.some.injEq] at hc
     subst hc
     simp only [dJ, fV, SE.den, aN.den, aC]
     refine ⟨u, us', rfl, by rw [Eu]; exact pV h1 ha, ?_⟩
     rw [dJ.shift]
     exact ET h2 hb
theorem Dt {ρ : Nat → Int} {r : Row} {cs : List AV} {x : SE} (h : codeRow r cs = some x) : xB r (dec (x.den ρ)) := by
 unfold codeRow at h
 split at h
 ·split at h
  ·exact sN h
  ·simp at h
 ·exact ES h
theorem Du {h : Array Obj} {r : Row} {cs : List AV} {us : List Value} {x : SE} (hv : bD E h cs us) (hc : codeRow r cs = some x) : BX E.ro h r (dec (x.den E.ρ)) us := by
 unfold codeRow at hc
 split at hc
 ·split at hc
  ·rw [aQ] at hv
   obtain ⟨u, us', rfl, h1, h2⟩ := hv
   rw [jG] at h2
   subst h2
   exact ⟨u, rfl, pV h1 hc⟩
  ·simp at hc
 ·exact ET hv hc
theorem Aj {ρ : Nat → Int} {r : Row} : ∀ (m : Nat) {e e1 : SE} {news : List AV}, qW r e m news = some e1 →
 ∃ ds : List D, ds.length = m ∧ (dec (e1.den ρ)).l = (dec (e.den ρ)).l ++ ds ∧ (dec (e.den ρ) = dL (dec (e.den ρ)).l → dec (e1.den ρ) = dL (dec (e1.den ρ)).l) ∧ (∀ d ∈ ds, xB r d) ∧
  ∀ (E' : En) (h : Array Obj) (us : List Value) (j : Nat), E'.ρ = ρ → bD E' h news us → bD E' h (aG ρ r [] ds j) us
 | 0, e, e1, [], h => by
   simp only [qW, Option.some.injEq] at h
   subst h
   exact ⟨[], rfl, by simp, id, by simp, fun E' h us j _ hv => by simpa [aG] using hv⟩
 | 0, e, e1, _ :: _, h => by simp [qW] at h
 | m + 1, e, e1, news, h => by
   simp only [qW] at h
   split at h
   ·simp at h
   ·rename_i x hx
    obtain ⟨ds, h1, h2, h3, h4, h5⟩ := Aj (ρ := ρ) m h
    have hs : dec ((SE.op .snoc e x).den ρ) = dL ((dec (e.den ρ)).l ++ [dec (x.den ρ)]) := by simp only [SE.den, aN.den, aC]
    refine ⟨dec (x.den ρ) :: ds, by simp [h1], ?_, fun _ => h3 (by rw [hs, bC]), ?_, ?_⟩
    ·rw [h2, hs, bC]; simp
    ·intro d hd
     rcases List.mem_cons.1 hd with rfl | hd
     ·exact Dt hx
     ·exact h4 d hd
    ·intro E' h us j hρ hv
     rw [← List.take_append_drop r.es news] at hv
     obtain ⟨a, b, rfl, a1, a2⟩ := hv.split
     simp only [aG, dO]
     refine bD.append ?_ (h5 E' h b (j + 1) hρ a2)
     rw [iE]
     simp only [SE.den, aC]
     have := Du a1 hx
     rw [hρ] at this
     exact this
theorem Xi {h : Array Obj} {id : Nat} {e : SE} {t : Nat} {ty : TypeId} {ro : Nat → Prop} (hro : ∀ b, E.ro b → ro b) (hb : ro (E.θ id).1) (ho : OR E h id (.vec e t ty [])) {k cap : Nat} {a : Addr} (hk : k = (dec (e.den E.ρ)).l.length) (hcap : k ≤ cap)
 (hc : 0 < k → a = ⟨(E.θ id).1, (E.θ id).2, none⟩) : Rd ro h (.sl t) (dec (e.den E.ρ)) (.slice (some a) k cap) := by
 obtain ⟨⟨hov, hwf⟩, hcl⟩ := OR.wW.1 ho
 obtain ⟨us, h1, h2, h3⟩ := CO hcl
 obtain ⟨w1, w2, w3⟩ := hwf
 rcases Nat.eq_zero_or_pos k with h0 | hpos
 ·subst h0
  exact absurd (List.eq_nil_of_length_eq_zero hk.symm) w3
 ·have ha : a = ⟨(E.θ id).1, (E.θ id).2, none⟩ := hc hpos
  subst ha
  subst hk
  have hrow : ∀ (i : Nat) (x : D), (dec (e.den E.ρ)).l[i]? = some x → ∃ rs, BX ro h (rowOf t) x rs ∧ ∀ j u, rs[j]? = some u → us[i * (rowOf t).es + j]? = some u := by
   intro i x hx
   obtain ⟨c1, c2⟩ := kP (ρ := E.ρ) hov (j := 0) hx
   unfold dI at h1
   rw [c1] at h1
   obtain ⟨p, q, rfl, p1, p2⟩ := h1.split
   obtain ⟨q1, q2, rfl, r1, r2⟩ := p2.split
   have hp := p1.length
   rw [c2] at hp
   refine ⟨q1, ?_, ?_⟩
   ·have r1' : bD E h (iR (rowOf t) (.dat x)) q1 := r1
    rw [iE] at r1'
    simp only [SE.den, aC] at r1'
    have mono : ∀ c d u, kM E.ro h c d u → kM ro h c d u := by
     intro c d u hh
     cases c with
     | int k => exact hh
     | bool => exact hh
     | str => exact Rd.keep hro (fun _ _ => rfl) hh
     | sl t => exact Rd.keep hro (fun _ _ => rfl) hh
    have awD : ∀ (cs : List CK) (j : Nat) (d : D) (us : List Value), dJ E.ro h cs j d us → dJ ro h cs j d us := by
     intro cs
     induction cs with
     | nil => intro j d us hh; exact hh
     | cons c cs ih =>
       intro j d us hh
       obtain ⟨u, vs, rfl, g1, g2⟩ := hh
       exact ⟨u, vs, rfl, mono _ _ _ g1, ih _ _ _ g2⟩
    cases hr : rowOf t with
    | one c =>
      rw [hr] at r1'
      obtain ⟨u, rfl, g1⟩ := r1'
      exact ⟨u, rfl, mono _ _ _ g1⟩
    | many cs =>
      rw [hr] at r1'
      exact awD _ _ _ _ r1'
   ·intro j u hj
    rw [List.getElem?_append_right (by omega), hp]
    rw [show i * (rowOf t).es + j - i * (rowOf t).es = j by omega]
    have := (List.getElem?_eq_some_iff.1 hj).1
    rw [List.getElem?_append_left this]
    exact hj
  rw [w1]
  simp only [bC] at hrow ⊢
  generalize hL : (dec (e.den E.ρ)).l = L at *
  cases hr : rowOf t with
  | one c =>
    refine .one t c _ _ cap L (fun i => (us[i]?).getD undef) hr hcap hb ?_ ?_
    ·intro i d hd
     obtain ⟨rs, g1, g2⟩ := hrow i d hd
     rw [hr] at g1
     obtain ⟨u, rfl, g3⟩ := g1
     have := g2 0 u rfl
     rw [hr] at this
     simp only [Row.es, Nat.mul_one, Nat.add_zero] at this
     rw [this]
     exact h2 i u this
    ·intro i d hd
     obtain ⟨rs, g1, g2⟩ := hrow i d hd
     rw [hr] at g1
     obtain ⟨u, rfl, g3⟩ := g1
     have := g2 0 u rfl
     rw [hr] at this
     simp only [Row.es, Nat.mul_one, Nat.add_zero] at this
     rw [this]
     have hw := w2 d (List.mem_of_getElem? hd)
     rw [hr] at hw
     exact g3.rd hw
  | many cs =>
    have hwr : ∀ d ∈ L, Ry cs d := by
     intro d hd
     have := w2 d hd
     rw [hr] at this
     exact this
    have hLm : L = (L.map D.l).map dL := by
     rw [List.map_map]
     have : L.map (dL ∘ D.l) = L.map (fun d => d) := List.map_congr_left fun d hd => (hwr d hd).1.symm
     rw [this, List.map_id']
    have hlen : (L.map D.l).length = L.length := by simp
    have hcap' : (L.map D.l).length ≤ cap := by rw [hlen]; exact hcap
    have goal : Rd ro h (.sl t) (dL ((L.map D.l).map dL)) (.slice (some ⟨(E.θ id).1, (E.θ id).2, none⟩) (L.map D.l).length cap) := by
     refine .many t cs _ _ cap (L.map D.l) (fun i j => (us[i * cs.length + j]?).getD undef) hr hcap' hb ?_ ?_ ?_
     ·intro r hrm
      rw [List.mem_map] at hrm
      obtain ⟨d, hd, rfl⟩ := hrm
      exact (hwr d hd).2.1
     ·intro i r j d hi hj
      rw [List.getElem?_map, Option.map_eq_some_iff] at hi
      obtain ⟨x, hx, rfl⟩ := hi
      obtain ⟨rs, g1, g2⟩ := hrow i x hx
      rw [hr] at g1
      have hjl : j < cs.length := by rw [← (hwr x (List.mem_of_getElem? hx)).2.1]; exact (List.getElem?_eq_some_iff.1 hj).1
      obtain ⟨u, g3, g4⟩ := dJ.get g1 (List.getElem?_eq_getElem hjl)
      have := g2 j u g3
      rw [hr] at this
      simp only [Row.es] at this
      rw [this, Nat.add_assoc]
      exact h2 _ u this
     ·intro i r j d c hi hj hcj
      rw [List.getElem?_map, Option.map_eq_some_iff] at hi
      obtain ⟨x, hx, rfl⟩ := hi
      obtain ⟨rs, g1, g2⟩ := hrow i x hx
      rw [hr] at g1
      obtain ⟨u, g3, g4⟩ := dJ.get g1 hcj
      have := g2 j u g3
      rw [hr] at this
      simp only [Row.es] at this
      rw [this]
      rw [Nat.zero_add] at g4
      have hd : x.hd j = d := by simp [D.hd, hj]
      rw [hd] at g4
      exact g4.rd ((hwr x (List.mem_of_getElem? hx)).2.2 j c d hcj hj)
    rw [← hLm, hlen] at goal
    exact goal
theorem aaJ {h : Array Obj} {id : Nat} {e : SE} {t : Nat} {ty : TypeId} {ro : Nat → Prop} (hro : ∀ b, E.ro b → ro b) (hb : ro (E.θ id).1) (ho : OR E h id (.vec e t ty [])) {k cap : Nat} {a : Addr} (hk : k = (dec (e.den E.ρ)).l.length) (hcap : k ≤ cap)
 (hc : fE E id 0 k a cap (.rest (rowOf t).es)) : Rd ro h (.sl t) (dec (e.den E.ρ)) (.slice (some a) k cap) := by
 refine Xi hro hb ho hk hcap fun hpos => ?_
 simp only [fE] at hc
 rcases hc with hc | hc
 ·simpa using hc.1
 ·omega
structure Sub (H' H : Hp) : Prop where
 get : ∀ j o, H'.get j = some o → H.get j = some o
 next : H'.next = H.next
 res : H'.res = H.res
theorem Sub.refl (H : Hp) : Sub H H := ⟨fun _ _ h => h, rfl, rfl⟩
theorem Sub.trans {A B C : Hp} (a : Sub B A) (b : Sub C B) : Sub C A := ⟨fun j o h => a.get j o (b.get j o h), b.next.trans a.next, b.res.trans a.res⟩
theorem Sub.drop (H : Hp) (id : Nat) : Sub (H.drop id) H := by
 refine ⟨fun j o hj => ?_, rfl, rfl⟩
 rw [Hp.wS] at hj
 split at hj
 ·simp at hj
 ·exact hj
theorem Rk [Glob] {H : Hp} (r : aX E H w) {id : Nat} {o : dP} (hl : H.get id = some o) :
 Keeps E w.heap { E with ro := fun b => E.ro b ∨ b = (E.θ id).1 } w.heap ∧ Stp E H w { E with ro := fun b => E.ro b ∨ b = (E.θ id).1 } (H.drop id) w ∧ aX { E with ro := fun b => E.ro b ∨ b = (E.θ id).1 } (H.drop id) w := by
 have hk : Keeps E w.heap { E with ro := fun b => E.ro b ∨ b = (E.θ id).1 } w.heap := ⟨rfl, fun _ h => h, fun _ _ => rfl, fun _ _ => rfl, fun _ h => .inl h, fun _ _ => rfl⟩
 have hg : ∀ j o, (H.drop id).get j = some o → H.get j = some o ∧ j ≠ id := by
  intro j o hj
  rw [Hp.wS] at hj
  split at hj
  ·simp at hj
  ·rename_i hne; exact ⟨hj, hne⟩
 refine ⟨hk, ⟨rfl, fun _ h => h, fun _ _ => rfl, fun _ _ => rfl, fun _ h => .inl h, ?_, Nat.le_refl _, .inr rfl, fun _ h => .inl h, rfl, rfl, rfl, Nat.le_refl _, fun _ _ _ => rfl, fun j o hj _ => ⟨j, o, (hg j o hj).1, rfl⟩⟩,
  ⟨r.fresh, r.res, ?_, ?_, ?_, Glob.keep r.glob (fun _ h => .inl h) (fun _ _ => rfl)⟩⟩
 ·intro b hb
  rcases hb with hb | rfl
  ·exact .inl hb
  ·exact .inr (.inl ⟨id, _, hl, rfl⟩)
 ·intro j o hj
  obtain ⟨h1, h2⟩ := hg j o hj
  obtain ⟨g1, g2, g3⟩ := r.live j o h1
  refine ⟨g1, g2.keep hk g1 rfl, ?_⟩
  rintro (hb | hb)
  ·exact g3 hb
  ·exact h2 (r.inj j id o _ h1 hl hb)
 ·intro i j x y hi hj he
  exact r.inj i j x y (hg i x hi).1 (hg j y hj).1 he
 ·intro b hb
  rcases hb with hb | rfl
  ·exact r.A8 b hb
  ·exact iV r hl
theorem arA [Glob] {H H' : Hp} (r : aX E H w) {v v' : AV} (h : frz v H = (v', H')) :
 ∃ E', E'.ρ = E.ρ ∧ Stp E H w E' H' w ∧ aX E' H' w ∧ (∀ u, VR E w.heap v u → VR E' w.heap v' u) ∧ Sub H' H := by
 have same : (v, H) = (v', H') → ∃ E', E'.ρ = E.ρ ∧ Stp E H w E' H' w ∧ aX E' H' w ∧ (∀ u, VR E w.heap v u → VR E' w.heap v' u) ∧ Sub H' H := by
  intro he
  simp only [Prod.mk.injEq] at he
  obtain ⟨rfl, rfl⟩ := he
  exact ⟨E, rfl, Stp.refl _ _ _, r, fun _ h => h, Sub.refl _⟩
 unfold frz at h
 split at h
 ·rename_i id n t
  split at h
  ·rename_i o hl
   split at h
   ·rename_i e t' ty ov
    split at h
    ·split at h
     ·rename_i ht
      split at h
      ·rename_i hn
       simp only [Prod.mk.injEq] at h
       obtain ⟨rfl, rfl⟩ := h
       have ht := Nat.eq_of_beq_eq_true ht
       have hn := bK _ _ hn
       subst ht hn
       have hlive := r.live id _ hl
       obtain ⟨hk, s1, r1⟩ := Rk r hl
       refine ⟨{ E with ro := fun b => E.ro b ∨ b = (E.θ id).1 }, rfl, s1, r1, fun u hv => ?_, Sub.drop _ _⟩
       simp only [VR] at hv ⊢
       obtain ⟨hid, k, a, cap, h1, rfl, h2, h3⟩ := hv
       rw [dB] at h1
       exact aaJ (fun _ h => .inl h) (.inr rfl) hlive.2.1 (by omega) h2 h3
      ·exact same h
     ·exact same h
    ·exact same h
   ·exact same h
  ·exact same h
 ·simp only [Prod.mk.injEq] at h
  obtain ⟨rfl, rfl⟩ := h
  exact ⟨E, rfl, Stp.refl _ _ _, r, fun u hu => by simp only [VR] at hu ⊢; exact hu.2, Sub.refl _⟩
 ·exact same h
end
end Go.As
end
section
namespace Go.As
section
variable {P : Program} {E : En} {w : World}
theorem Rd.part {ro : Nat → Prop} {h : Array Obj} {t : Nat} {d : D} {b o n cap l k : Nat} (r : Rd ro h (.sl t) d (.slice (some ⟨b, o, none⟩) n cap)) (hl : l ≤ k) (hk : k ≤ n) (hn : n ≤ cap) :
 Rd ro h (.sl t) (gV d ((d.l.take k).drop l)) (.slice (some (if cap = l then ⟨b, o, none⟩ else ⟨b, o + l * (rowOf t).es, none⟩)) (k - l) (cap - l)) := by
 by_cases h0 : k - l = 0
 ·have : (d.l.take k).drop l = [] := by
   apply List.drop_eq_nil_of_le
   rw [List.length_take]
   omega
  have hd : d ≠ .i 1 := by
   intro q
   obtain ⟨_, q2, _⟩ := NK r
   have := q2 q
   simp at this
  rw [this, h0]
  simp only [gV]
  rw [if_neg hd]
  exact .non _ _ _
 ·rw [if_neg (by omega)]
  have hne : (d.l.take k).drop l ≠ [] := by
   intro q
   have := congrArg List.length q
   obtain ⟨x, cap', hv, _⟩ := r.slice
   simp only [Value.slice.injEq] at hv
   rw [List.length_drop, List.length_take] at this
   simp at this
   omega
  rw [EN hne]
  generalize hc : CK.sl t = c at r
  generalize hv : Value.slice (some ⟨b, o, none⟩) n cap = v at r
  cases r with
  | int k n => simp at hc
  | bool b => simp at hc
  | str s => simp at hc
  | nil t => simp at hv
  | non t a cap =>
    simp only [Value.slice.injEq] at hv
    omega
  | one t' c b' o' cap' ds f hr hcp hb h1 h2 =>
    simp only [CK.sl.injEq] at hc
    subst hc
    simp only [Value.slice.injEq, Option.some.injEq, Addr.mk.injEq] at hv
    obtain ⟨⟨rfl, rfl, _⟩, rfl, rfl⟩ := hv
    rw [bC]
    have hlen : ((ds.take k).drop l).length = k - l := by rw [List.length_drop, List.length_take]; omega
    have hget : ∀ i d, ((ds.take k).drop l)[i]? = some d → ds[l + i]? = some d := by
     intro i d hd
     rw [List.getElem?_drop, List.getElem?_take] at hd
     split at hd
     ·exact hd
     ·simp at hd
    rw [← hlen]
    refine .one t c b (o + l * (rowOf t).es) (cap - l) ((ds.take k).drop l) (fun i => f (l + i)) hr (by rw [hlen]; omega) hb ?_ ?_
    ·intro i d hd
     have := h1 (l + i) d (hget i d hd)
     rw [hr, show o + l * (Row.one c).es + i = o + (l + i) by simp only [Row.es]; omega]
     exact this
    ·intro i d hd
     exact h2 (l + i) d (hget i d hd)
  | many t' cs b' o' cap' rows f hr hcp hb hll h1 h2 =>
    simp only [CK.sl.injEq] at hc
    subst hc
    simp only [Value.slice.injEq, Option.some.injEq, Addr.mk.injEq] at hv
    obtain ⟨⟨rfl, rfl, _⟩, rfl, rfl⟩ := hv
    rw [bC]
    have hlen : ((rows.take k).drop l).length = k - l := by rw [List.length_drop, List.length_take]; omega
    have hget : ∀ i d, ((rows.take k).drop l)[i]? = some d → rows[l + i]? = some d := by
     intro i d hd
     rw [List.getElem?_drop, List.getElem?_take] at hd
     split at hd
     ·exact hd
     ·simp at hd
    rw [← hlen, ← List.map_take, ← List.map_drop]
    refine .many t cs b (o + l * (rowOf t).es) (cap - l) ((rows.take k).drop l) (fun i => f (l + i)) hr (by rw [hlen]; omega) hb (fun r hrm => hll r (List.mem_of_mem_take (List.mem_of_mem_drop hrm))) ?_ ?_
    ·intro i r j d hi hj
     have := h1 (l + i) r j d (hget i r hi) hj
     rw [hr, show o + l * (Row.many cs).es + i * cs.length + j = o + (l + i) * cs.length + j by simp only [Row.es, Nat.add_mul]; omega]
     exact this
    ·intro i r j d c hi hj hcj
     exact h2 (l + i) r j d c (hget i r hi) hj hcj
theorem Rd.avX {ro : Nat → Prop} {h : Array Obj} {t : Nat} {d : D} {x : Option Addr} {n cap l k : Nat} (r : Rd ro h (.sl t) d (.slice x n cap)) (hl : l ≤ k) (hk : k ≤ n) (hn : n ≤ cap) :
 Rd ro h (.sl t) (gV d ((d.l.take k).drop l)) (.slice (match x with | some a => some (if cap = l then a else a.add (l * (rowOf t).es)) | none => none) (k - l) (cap - l)) := by
 have hx : (∃ b o, x = some ⟨b, o, none⟩) ∨ (d = .i 1 ∧ x = none ∧ n = 0 ∧ cap = 0) ∨ (d = .i 2 ∧ n = 0 ∧ ∃ a, x = some a) := by
  generalize hc : CK.sl t = c at r
  generalize hv : Value.slice x n cap = v at r
  cases r with
  | int k n => simp at hc
  | bool b => simp at hc
  | str s => simp at hc
  | nil t => simp only [Value.slice.injEq] at hv; exact .inr (.inl ⟨rfl, hv.1, hv.2.1, hv.2.2⟩)
  | non t a cap => simp only [Value.slice.injEq] at hv; exact .inr (.inr ⟨rfl, hv.2.1, a, hv.1⟩)
  | one t' c b' o' cap' ds f hr hcp hb h1 h2 => simp only [Value.slice.injEq] at hv; exact .inl ⟨_, _, hv.1⟩
  | many t' cs b' o' cap' rows f hr hcp hb hll h1 h2 => simp only [Value.slice.injEq] at hv; exact .inl ⟨_, _, hv.1⟩
 rcases hx with ⟨b, o, rfl⟩ | ⟨rfl, rfl, rfl, rfl⟩ | ⟨rfl, rfl, a, rfl⟩
 ·have := r.part hl hk hn
  simp only [eX]
  exact this
 ·obtain rfl : k = 0 := by omega
  obtain rfl : l = 0 := by omega
  exact .nil _
 ·obtain rfl : k = 0 := by omega
  obtain rfl : l = 0 := by omega
  exact .non _ _ _
theorem agS (l : List D) : dL l ≠ .i 1 := by cases l <;> simp [dL]
theorem Rd.empty0 {ro : Nat → Prop} {h : Array Obj} {t : Nat} {d : D} {x : Option Addr} {n cap : Nat} (r : Rd ro h (.sl t) d (.slice x n cap)) : Rd ro h (.sl t) (gV d []) (.slice x 0 0) := by
 generalize hc : CK.sl t = c at r
 generalize hv : Value.slice x n cap = v at r
 cases r with
 | int k n => simp at hc
 | bool b => simp at hc
 | str s => simp at hc
 | nil t =>
   simp only [Value.slice.injEq] at hv
   obtain ⟨rfl, _, _⟩ := hv
   exact .nil _
 | non t a cap =>
   simp only [Value.slice.injEq] at hv
   obtain ⟨rfl, _, _⟩ := hv
   exact .non _ _ _
 | one t' c b' o' cap' ds f hr hcp hb h1 h2 =>
   simp only [Value.slice.injEq] at hv
   obtain ⟨rfl, _, _⟩ := hv
   rw [sK (agS _)]
   exact .non _ _ _
 | many t' cs b' o' cap' rows f hr hcp hb hll h1 h2 =>
   simp only [Value.slice.injEq] at hv
   obtain ⟨rfl, _, _⟩ := hv
   rw [sK (agS _)]
   exact .non _ _ _
theorem WB [Glob] {tt : TT} (htt : dW P tt) {s s' : St} (hp : aZ E.ρ s.pc) {ty t : Nat} {e : SE} {lo hi mx : Option AV} {lo' hi' mx' : Option Value} {v : AV} {u : Value} (hx : VR E w.heap (.dat e t) u)
 (hlo : iJ E w.heap lo lo') (hhi : iJ E w.heap hi hi') (hmx : iJ E w.heap mx mx') (h : (QO tt s ty t e lo hi mx).leaf E.ρ = some (v, s')) :
 s'.slots = s.slots ∧ s'.h = s.h ∧ aZ E.ρ s'.pc ∧ ∃ r, (Instr.sliceAt ty u lo' hi' mx').run P w = .ok r w ∧ VR E w.heap v r := by
 unfold QO at h
 split at h
 ·rename_i m
  split at h
  ·rename_i hm
   split at h
   ·simp [T.leaf] at h
   ·rename_i z hz
    split at h
    ·split at h
     ·rename_i hv
      split at h
      ·rename_i hh
       have := aF h
       simp only [Prod.mk.injEq] at this
       obtain ⟨rfl, rfl⟩ := this
       refine ⟨rfl, rfl, hp, ?_⟩
       obtain ⟨el, ie, hu, hie, rfl⟩ := pU htt hz
       have hsz := dQ (htt el ie hie)
       simp only [VR] at hx
       obtain ⟨x, cap, rfl, hcap⟩ := hx.slice
       have zb : ∀ (a : AV), Iq a = true → ∀ d y, bnd (some a) d y = some 0 := by
        intro a ha d y
        unfold Iq at ha
        unfold bnd
        split at ha
        ·rename_i n hn
         have := Bl ha
         subst this
         simp only [hn]
         rw [if_pos (Nat.zero_le y)]
        ·simp at ha
       obtain ⟨e1, e2⟩ := gK (P := P) (w := w) (isSlice := true) (len := (dec (e.den E.ρ)).l.length) (cap := cap) (m0 := cap) (d := 0) (m := 0) (h0 := 0) (h := 0) (l := 0) hlo hhi hmx (fun _ => rfl) (.inr ⟨m, rfl, zb m hm _ _, Nat.le_refl _⟩) (zb hv hh _ _) ⟨fun q => by simp at q, fun _ => rfl⟩ (by simp [bnd])
       refine ⟨.slice x 0 0, ?_, ?_⟩
       rotate_left
       ·simp only [VR]
        refine ⟨⟨x, rfl⟩, ?_⟩
        simp only [SE.den, aN.den, aC]
        exact hx.empty0
       cases x with
       | none => simp [Instr.sliceAt, run_underlying hu, Instr.slice, e1, hsz]
       | some a => simp [Instr.sliceAt, run_underlying hu, Instr.slice, e1, hsz]
      ·simp [T.leaf] at h
     ·simp [T.leaf] at h
    ·simp [T.leaf] at h
  ·simp [T.leaf] at h
 ·simp only [iJ] at hmx
  subst hmx
  split at h
  ·simp [T.leaf] at h
  ·rename_i z hz
   split at h
   ·rename_i hes
    obtain ⟨el, ie, hu, hie, rfl⟩ := pU htt hz
    have hsz := dQ (htt el ie hie)
    simp only [VR] at hx
    obtain ⟨x, cap, rfl, hcap⟩ := hx.slice
    have fin : ∀ (l k : Nat) (e' : SE) (lo2 hi2 : Option AV), iJ E w.heap lo2 lo' → iJ E w.heap hi2 hi' → bnd hi2 (dec (e.den E.ρ)).l.length (dec (e.den E.ρ)).l.length = some k → bnd lo2 0 k = some l → dec (e'.den E.ρ) = gV (dec (e.den E.ρ)) (((dec (e.den E.ρ)).l.take k).drop l) →
     ∃ r, (Instr.sliceAt ty (.slice x (dec (e.den E.ρ)).l.length cap) lo' hi' none).run P w = .ok r w ∧ VR E w.heap (.dat e' t) r := by
     intro l k e' lo2 hi2 h1 h2 h3 h4 h5
     obtain ⟨e1, e2⟩ := gK (P := P) (w := w) (isSlice := true) (len := (dec (e.den E.ρ)).l.length) (cap := cap) (m0 := cap) (d := 0) (m := cap) h1 h2 (mx := none) (mx' := none) (by simp [iJ]) (by simp) (.inl ⟨rfl, rfl, Nat.le_refl _⟩) h3 ⟨fun _ => hcap, by simp⟩ h4
     have hk := mX h3
     have hrd := hx.avX e2 hk hcap
     refine ⟨_, ?_, by simp only [VR, h5]; exact hrd⟩
     cases x with
     | none => simp [Instr.sliceAt, run_underlying hu, Instr.slice, e1, hsz]
     | some a => simp [Instr.sliceAt, run_underlying hu, Instr.slice, e1, hsz, hes] <;> split <;> rfl
    have lit : ∀ (k : IntKind) (n : Nat) (q : SE) (o : Option Value), q.den E.ρ = (n : Int) → iJ E w.heap (some (.int k q)) o → iJ E w.heap (some (.int k (.lit (Int.ofNat n)))) o := by
     intro k n q o hq ho
     obtain ⟨y, rfl, hy⟩ := ho
     refine ⟨y, rfl, ?_⟩
     simp only [VR, SE.den] at hy ⊢
     rw [hy, hq]
     rfl
    have bl : ∀ (k : IntKind) (n d y : Nat), n ≤ y → bnd (some (.int k (.lit (Int.ofNat n)))) d y = some n := by
     intro k n d y hn
     simp [bnd, lU, hn]
    split at h
    ·
     simp only [iJ] at hhi
     subst hhi
     split at h
     ·rename_i kl ql
      obtain ⟨pc1, hp1, h1⟩ := cO hp h
      split at h1
      ·simp [T.leaf] at h1
      ·rename_i t1
       obtain ⟨pc2, hp2, h2⟩ := cO (s := { s with pc := pc1 }) hp1 h1
       split at h2
       ·simp [T.leaf] at h2
       ·rename_i t2
        have := aF h2
        simp only [Prod.mk.injEq] at this
        obtain ⟨rfl, rfl⟩ := this
        rw [dS, decide_eq_false_iff_not] at t1 t2
        rw [dB] at t2
        simp only [SE.den, Int.not_lt] at t1 t2
        obtain ⟨l, hl⟩ : ∃ l : Nat, ql.den E.ρ = (l : Int) := ⟨(ql.den E.ρ).toNat, by omega⟩
        refine ⟨rfl, rfl, hp2, fin l (dec (e.den E.ρ)).l.length _ _ none (lit kl l ql lo' hl hlo) (by simp [iJ]) (by simp [bnd]) (bl _ _ _ _ (by omega)) ?_⟩
        simp only [SE.den, aN.den, aC, hl, Int.toNat_natCast, List.take_length]
     ·simp [T.leaf] at h
    ·rename_i kh qh
     obtain ⟨pc1, hp1, h1⟩ := cO hp h
     split at h1
     ·simp [T.leaf] at h1
     ·rename_i t1
      rw [dS, decide_eq_false_iff_not, dB] at t1
      split at h1
      ·simp only [iJ] at hlo
       subst hlo
       obtain ⟨pc2, hp2, h2⟩ := cO (s := { s with pc := pc1 }) hp1 h1
       split at h2
       ·simp [T.leaf] at h2
       ·rename_i t2
        have := aF h2
        simp only [Prod.mk.injEq] at this
        obtain ⟨rfl, rfl⟩ := this
        rw [dS, decide_eq_false_iff_not] at t2
        simp only [SE.den, Int.not_lt] at t2
        obtain ⟨k, hk⟩ : ∃ k : Nat, qh.den E.ρ = (k : Int) := ⟨(qh.den E.ρ).toNat, by omega⟩
        refine ⟨rfl, rfl, hp2, fin 0 k _ none _ (by simp [iJ]) (lit kh k qh hi' hk hhi) (bl _ _ _ _ (by omega)) (by simp [bnd]) ?_⟩
        simp only [SE.den, aN.den, aC, hk, Int.toNat_natCast, List.drop_zero]
      ·rename_i kl ql
       obtain ⟨pc2, hp2, h2⟩ := cO (s := { s with pc := pc1 }) hp1 h1
       split at h2
       ·simp [T.leaf] at h2
       ·rename_i t2
        obtain ⟨pc3, hp3, h3⟩ := cO (s := { s with pc := pc2 }) hp2 h2
        split at h3
        ·simp [T.leaf] at h3
        ·rename_i t3
         have := aF h3
         simp only [Prod.mk.injEq] at this
         obtain ⟨rfl, rfl⟩ := this
         rw [dS, decide_eq_false_iff_not] at t2 t3
         simp only [SE.den, Int.not_lt] at t2 t3
         obtain ⟨l, hl⟩ : ∃ l : Nat, ql.den E.ρ = (l : Int) := ⟨(ql.den E.ρ).toNat, by omega⟩
         obtain ⟨k, hk⟩ : ∃ k : Nat, qh.den E.ρ = (k : Int) := ⟨(qh.den E.ρ).toNat, by omega⟩
         refine ⟨rfl, rfl, hp3, fin l k _ _ _ (lit kl l ql lo' hl hlo) (lit kh k qh hi' hk hhi) (bl _ _ _ _ (by omega)) (bl _ _ _ _ (by omega)) ?_⟩
         simp only [SE.den, aN.den, aC, hl, hk, Int.toNat_natCast, kU]
         exact yO fun q => by rw [q]; simp [D.l]
      ·simp [T.leaf] at h1
    ·simp [T.leaf] at h
   ·simp [T.leaf] at h
end
end Go.As
end
section
namespace Go.As
theorem JW {e : SE} (h : isZ e = true) : e = .lit 0 := by
 unfold isZ at h
 split at h
 ·rw [Bl h]
 ·simp at h
theorem sQ (ρ : Nat → Int) (a b : SE) : (xA a b).den ρ = a.den ρ + b.den ρ := by
 unfold xA
 split
 ·rename_i h
  rw [JW h]
  simp only [SE.den, Int.zero_add]
 ·rfl
theorem YV (ρ : Nat → Int) (a b : SE) : (Jj a b).den ρ = a.den ρ - b.den ρ := by
 unfold Jj
 split
 ·rename_i h
  rw [JW h]
  simp only [SE.den, Int.sub_zero]
 ·rfl
theorem JB {ρ : Nat → Int} {e lo n : SE} {l k : Nat} (hl : lo.den ρ = (l : Int)) (hn : n.den ρ = (k : Int)) :
 dec ((Py e lo n).den ρ) = gV (dec (e.den ρ)) (((dec (e.den ρ)).l.take (l + k)).drop l) := by
 unfold Py
 split
 ·rename_i h
  have h := JW h
  subst h
  simp only [SE.den] at hl
  have : l = 0 := by omega
  subst this
  simp only [SE.den, aN.den, aC, hn, Int.toNat_natCast, Nat.zero_add, List.drop_zero]
 ·have h2 : ((l : Int) + (k : Int)).toNat = l + k := by omega
  simp only [SE.den, aN.den, aC, hl, hn, h2, Int.toNat_natCast, kU]
  exact yO fun h => by rw [h]; simp [D.l]
theorem FW {α : Type} {ρ : Nat → Int} {e lo n : SE} {s : St} {k : St → T α} {x : α} (hp : aZ ρ s.pc) (h : (JH e lo n s k).leaf ρ = some x) :
 ∃ pc', aZ ρ pc' ∧ 0 ≤ lo.den ρ ∧ 0 ≤ n.den ρ ∧ lo.den ρ + n.den ρ ≤ ((dec (e.den ρ)).l.length : Int) ∧ (k { s with pc := pc' }).leaf ρ = some x := by
 unfold JH at h
 obtain ⟨pc1, hp1, h1⟩ := cO hp h
 split at h1
 ·simp [T.leaf] at h1
 ·rename_i hb1
  obtain ⟨pc2, hp2, h2⟩ := cO (s := { s with pc := pc1 }) hp1 h1
  split at h2
  ·simp [T.leaf] at h2
  ·rename_i hb2
   obtain ⟨pc3, hp3, h3⟩ := cO (s := { s with pc := pc2 }) hp2 h2
   split at h3
   ·simp [T.leaf] at h3
   ·rename_i hb3
    rw [dS, decide_eq_false_iff_not] at hb1 hb2 hb3
    rw [dB, sQ] at hb3
    simp only [SE.den] at hb1 hb2
    exact ⟨pc3, hp3, by omega, by omega, by omega, h3⟩
theorem xE {h : Hp} {id t : Nat} {e : SE} {ty : TypeId} (hv : MB h id t = some (e, ty)) : h.get id = some (.vec e t ty []) := by
 unfold MB at hv
 split at hv
 ·rename_i o ho
  split at hv
  ·split at hv
   ·split at hv
    ·rename_i ht
     have ht := Nat.eq_of_beq_eq_true ht
     simp only [Option.some.injEq, Prod.mk.injEq] at hv
     obtain ⟨rfl, rfl⟩ := hv
     rw [ho, ht]
    ·simp at hv
   ·simp at hv
  ·simp at hv
 ·simp at hv
theorem Rd.avQ {ro : Nat → Prop} {h : Array Obj} {t : Nat} {d : D} {a : Addr} {n cap cap' : Nat} (r : Rd ro h (.sl t) d (.slice (some a) n cap)) (hc : n ≤ cap') : Rd ro h (.sl t) d (.slice (some a) n cap') := by
 generalize hk : CK.sl t = c at r
 generalize hv : Value.slice (some a) n cap = v at r
 cases r with
 | int k n => simp at hk
 | bool b => simp at hk
 | str s => simp at hk
 | nil t => simp at hv
 | non t a cap =>
   simp only [CK.sl.injEq] at hk
   simp only [Value.slice.injEq, Option.some.injEq] at hv
   obtain ⟨rfl, rfl, rfl⟩ := hv
   subst hk
   exact .non _ _ _
 | one t' c b' o' cap' ds f hr hcp hb h1 h2 =>
   simp only [CK.sl.injEq] at hk
   simp only [Value.slice.injEq, Option.some.injEq] at hv
   obtain ⟨rfl, rfl, rfl⟩ := hv
   subst hk
   exact .one _ _ _ _ _ _ _ hr hc hb h1 h2
 | many t' cs b' o' cap' rows f hr hcp hb hll h1 h2 =>
   simp only [CK.sl.injEq] at hk
   simp only [Value.slice.injEq, Option.some.injEq] at hv
   obtain ⟨rfl, rfl, rfl⟩ := hv
   subst hk
   exact .many _ _ _ _ _ _ _ hr hc hb hll h1 h2
section
variable {P : Program} {E : En} {w : World}
theorem aaK {h : Array Obj} {id : Nat} {e : SE} {t : Nat} {ty : TypeId} {ro : Nat → Prop} (hro : ∀ b, E.ro b → ro b) (hb : ro (E.θ id).1) (ho : OR E h id (.vec e t ty [])) {l k cap : Nat} {a : Addr} (hk : l + k ≤ (dec (e.den E.ρ)).l.length) (hcap : k ≤ cap)
 (hc : fE E id (l * (rowOf t).es) k a cap (.rest (rowOf t).es)) : Rd ro h (.sl t) (gV (dec (e.den E.ρ)) (((dec (e.den E.ρ)).l.take (l + k)).drop l)) (.slice (some a) k cap) := by
 have hw := (OR.wW.1 ho).1.2
 have hne : dec (e.den E.ρ) ≠ .i 1 := by
  intro q
  have := hw.2.2
  rw [q] at this
  exact this rfl
 rcases Nat.eq_zero_or_pos k with h0 | hpos
 ·subst h0
  have : ((dec (e.den E.ρ)).l.take (l + 0)).drop l = [] := by
   apply List.drop_eq_nil_of_le
   rw [List.length_take]
   omega
  rw [this, sK hne]
  exact .non _ _ _
 ·simp only [fE] at hc
  obtain ⟨rfl, _⟩ : a = ⟨(E.θ id).1, (E.θ id).2 + l * (rowOf t).es, none⟩ ∧ l * (rowOf t).es + cap * (rowOf t).es = E.κ id := by
   rcases hc with hc | hc
   ·exact hc
   ·omega
  have r0 := Xi hro hb ho (k := (dec (e.den E.ρ)).l.length) (cap := (dec (e.den E.ρ)).l.length + l + 1) (a := ⟨(E.θ id).1, (E.θ id).2, none⟩) rfl (by omega) (fun _ => rfl)
  have r1 := r0.part (l := l) (k := l + k) (by omega) hk (by omega)
  rw [if_neg (by omega), show l + k - l = k by omega] at r1
  exact r1.avQ hcap
structure Xc [Glob] (E : En) (w : World) (H : Hp) (E' : En) (H' : Hp) : Prop where
 ρ : E'.ρ = E.ρ
 dV : Stp E H w E' H' w
 rel : aX E' H' w
 sub : Sub H' H
theorem Xc.refl [Glob] {H : Hp} (r : aX E H w) : Xc E w H E H := ⟨rfl, Stp.refl _ _ _, r, Sub.refl _⟩
theorem Xc.trans [Glob] {E1 E2 : En} {H H1 H2 : Hp} (a : Xc E w H E1 H1) (b : Xc E1 w H1 E2 H2) : Xc E w H E2 H2 :=
 ⟨b.ρ.trans a.ρ, a.dV.trans b.dV, b.rel, a.sub.trans b.sub⟩
theorem Yd [Glob] {α : Type} {ρ : Nat → Int} {v : AV} {s : St} {k : AV → St → T α} {x : α} (hρ : E.ρ = ρ) (r : aX E s.h w) (hp : aZ ρ s.pc) (h : (akS v s k).leaf ρ = some x) :
 ∃ v' h' pc' E', aZ ρ pc' ∧ Xc E w s.h E' h' ∧ (∀ u, VR E w.heap v u → VR E' w.heap v' u) ∧ (k v' { s with h := h', pc := pc' }).leaf ρ = some x := by
 unfold akS at h
 split at h
 ·rename_i id lo n t
  split at h
  ·rename_i e ty hv
   have hl := xE hv
   obtain ⟨pc', hp', h1, h2, h3, h4⟩ := FW hp h
   obtain ⟨hk, s1, r1⟩ := Rk r hl
   refine ⟨_, _, pc', { E with ro := fun b => E.ro b ∨ b = (E.θ id).1 }, hp', ⟨rfl, s1, r1, Sub.drop _ _⟩, fun u hu => ?_, h4⟩
   simp only [VR] at hu ⊢
   obtain ⟨hid, l, m, a, cap, q1, q2, rfl, q4, q5⟩ := hu
   rw [JB q1 q2]
   rw [hρ] at q1 q2
   have hh := aaK (E := E) (ro := fun b => E.ro b ∨ b = (E.θ id).1) (fun _ h => .inl h) (.inr rfl) (r.live id _ hl).2.1 (l := l) (k := m) (by rw [hρ]; omega) q4 q5
   exact hh
  ·exact ⟨_, _, s.pc, E, hp, Xc.refl r, fun _ h => h, h⟩
 ·cases hf : frz v s.h with
  | mk v' h' =>
    rw [hf] at h
    obtain ⟨E', q1, q2, q3, q4, q5⟩ := arA r hf
    exact ⟨v', h', s.pc, E', hp, ⟨q1, q2, q3, q5⟩, q4, h⟩
theorem TP [Glob] {α : Type} {ρ : Nat → Int} : ∀ {vs : List AV} {s : St} {E : En} {k : List AV → St → T α} {x : α}, E.ρ = ρ → aX E s.h w → aZ ρ s.pc → (Yc vs s k).leaf ρ = some x →
 ∃ vs' h' pc' E', aZ ρ pc' ∧ Xc E w s.h E' h' ∧ (∀ us, bD E w.heap vs us → bD E' w.heap vs' us) ∧ (k vs' { s with h := h', pc := pc' }).leaf ρ = some x
 | [], s, E, k, x, hρ, r, hp, h => ⟨[], s.h, s.pc, E, hp, Xc.refl r, fun _ h => h, h⟩
 | v :: vs, s, E, k, x, hρ, r, hp, h => by
   simp only [Yc] at h
   obtain ⟨v1, h1, pc1, E1, hp1, f1, q1, g1⟩ := Yd hρ r hp h
   obtain ⟨vs1, h2, pc2, E2, hp2, f2, q2, g2⟩ := TP (s := { s with h := h1, pc := pc1 }) (f1.ρ.trans hρ) f1.rel hp1 g1
   refine ⟨v1 :: vs1, h2, pc2, E2, hp2, f1.trans f2, fun us hu => ?_, g2⟩
   rw [aQ] at hu ⊢
   obtain ⟨u, us', rfl, a, b⟩ := hu
   exact ⟨u, us', rfl, VR.keep (f2.dV.keeps f1.rel) _ _ (q1 u a), q2 us' (bD.keep (f1.dV.keeps r) _ _ b)⟩
theorem DX {ρ : Nat → Int} {i : Nat} {j : SE} {cs : List AV} : ∀ {pre : List (SE × List AV)}, dO ρ i (pre ++ [(j, cs)]) = match dO ρ i pre with | some c => some c | none => if j.den ρ = (i : Int) then some cs else none
 | [] => rfl
 | (a, b) :: pre => by
   simp only [List.cons_append, dO]
   split
   ·rfl
   ·exact DX
theorem ajL (ρ : Nat → Int) (e j x : SE) : dec ((SE.op .set e (fV (FM j) x)).den ρ) = dL (iC (dec (e.den ρ)).l (j.den ρ) (dec (x.den ρ))) := by
 simp only [fV, SE.den, aN.den, aC, nG, D.n]
theorem Sv (ds : List D) (z : Int) (x : D) (n : Nat) : (iC ds z x)[n]? = if z = (n : Int) ∧ n < ds.length then some x else ds[n]? := by
 unfold iC
 split
 ·rw [if_neg (by omega)]
 ·rw [List.getElem?_set]
  by_cases hz : z = (n : Int)
  ·subst hz
   simp only [Int.toNat_natCast, if_true, true_and]
   split
   ·rfl
   ·rename_i hn
    rw [List.getElem?_eq_none (by omega)]
  ·rw [if_neg (by omega), if_neg (fun q => hz q.1)]
theorem CG {ρ : Nat → Int} {E1 E2 : En} {h : Array Obj} {r : Row} {pre : List (SE × List AV)} {j : SE} {cs : List AV} {X : D} (mono : ∀ a us, bD E1 h a us → bD E2 h a us) (hX : ∀ us, bD E1 h cs us → BX E2.ro h r X us) :
 ∀ {L L' : List D} {i : Nat} {us : List Value}, L'.length = L.length → (∀ n : Nat, L'[n]? = if j.den ρ = ((i + n : Nat) : Int) ∧ n < L.length then some X else L[n]?) →
  bD E1 h (aG ρ r (pre ++ [(j, cs)]) L i) us → bD E2 h (aG ρ r pre L' i) us
 | [], [], i, us, _, _, hv => by simp only [aG, bD] at *; exact hv
 | [], _ :: _, _, _, hl, _, _ => by simp at hl
 | _ :: _, [], _, _, hl, _, _ => by simp at hl
 | d :: L, d' :: L', i, us, hl, hg, hv => by
   simp only [aG] at *
   obtain ⟨a, b, rfl, a1, a2⟩ := hv.split
   have h0 := hg 0
   simp only [List.getElem?_cons_zero, Nat.add_zero, List.length_cons] at h0
   refine bD.append ?_ (CG mono hX (by simpa using hl) (fun n => ?_) a2)
   ·rw [DX] at a1
    cases ho : dO ρ i pre with
    | some c =>
      rw [ho] at a1
      exact mono _ _ a1
    | none =>
      rw [ho] at a1
      simp only at a1 ⊢
      by_cases hj : j.den ρ = (i : Int)
      ·rw [if_pos hj] at a1
       rw [if_pos ⟨hj, by omega⟩] at h0
       simp only [Option.some.injEq] at h0
       subst h0
       rw [iE]
       simp only [SE.den, aC]
       exact hX _ a1
      ·rw [if_neg hj] at a1
       rw [if_neg (fun q => hj q.1)] at h0
       simp only [Option.some.injEq] at h0
       subst h0
       exact mono _ _ a1
   ·have := hg (n + 1)
    simp only [List.getElem?_cons_succ, List.length_cons] at this
    rw [this, show i + (n + 1) = i + 1 + n by omega]
    by_cases hc : j.den ρ = ((i + 1 + n : Nat) : Int) ∧ n < L.length
    ·rw [if_pos hc, if_pos ⟨hc.1, by omega⟩]
    ·rw [if_neg hc, if_neg (fun q => hc ⟨q.1, by omega⟩)]
theorem ajM {r : Row} {ds : List D} {z : Int} {x : D} (h1 : ∀ d ∈ ds, xB r d) (h2 : xB r x) : ∀ d ∈ iC ds z x, xB r d := by
 intro d hd
 obtain ⟨n, hn⟩ := List.mem_iff_getElem?.1 hd
 rw [Sv] at hn
 split at hn
 ·simp only [Option.some.injEq] at hn
  subst hn
  exact h2
 ·exact h1 d (List.mem_of_getElem? hn)
theorem ajN {ds : List D} {z : Int} {x : D} (h : ds ≠ []) : iC ds z x ≠ [] := by
 intro q
 have := congrArg List.length q
 rw [iM] at this
 exact h (List.eq_nil_of_length_eq_zero this)
theorem SV [Glob] {α : Type} {ρ : Nat → Int} {t : Nat} : ∀ {ov : List (SE × List AV)} {e : SE} {s : St} {E : En} {k : SE → St → T α} {x : α} (pre : List (SE × List AV)), E.ρ = ρ → aX E s.h w → aZ ρ s.pc → H8 (rowOf t) (dec (e.den ρ)) →
 (XI t ov e s k).leaf ρ = some x →
 ∃ e' h' pc' E', aZ ρ pc' ∧ Xc E w s.h E' h' ∧ H8 (rowOf t) (dec (e'.den ρ)) ∧ (dec (e'.den ρ)).l.length = (dec (e.den ρ)).l.length ∧
  (∀ us, bD E w.heap (aG ρ (rowOf t) (pre ++ ov) (dec (e.den ρ)).l 0) us → bD E' w.heap (aG ρ (rowOf t) pre (dec (e'.den ρ)).l 0) us) ∧ (k e' { s with h := h', pc := pc' }).leaf ρ = some x
 | [], e, s, E, k, x, pre, hρ, r, hp, hw, h => ⟨e, s.h, s.pc, E, hp, Xc.refl r, hw, rfl, fun us hu => by rw [List.append_nil] at hu; exact hu, h⟩
 | (j, cs) :: ov, e, s, E, k, x, pre, hρ, r, hp, hw, h => by
   simp only [XI] at h
   obtain ⟨e1, h1, pc1, E1, hp1, f1, w1, l1, c1, g1⟩ := SV (pre ++ [(j, cs)]) hρ r hp hw h
   obtain ⟨cs2, h2, pc2, E2, hp2, f2, c2, g2⟩ := TP (s := { s with h := h1, pc := pc1 }) (f1.ρ.trans hρ) f1.rel hp1 g1
   split at g2
   ·rename_i y hy
    have hρ2 : E2.ρ = ρ := f2.ρ.trans (f1.ρ.trans hρ)
    have hsd := ajL ρ e1 j y
    refine ⟨_, h2, pc2, E2, hp2, f1.trans f2, ?_, ?_, ?_, g2⟩
    ·rw [hsd]
     exact ⟨by rw [bC], by rw [bC]; exact ajM w1.2.1 (Dt hy), by rw [bC]; exact ajN w1.2.2⟩
    ·rw [hsd, bC, iM, l1]
    ·intro us hu
     rw [hsd, bC]
     have hu1 := c1 us (by rw [List.append_assoc]; exact hu)
     refine CG (j := j) (cs := cs) (X := dec (y.den ρ)) (fun a us ha => bD.keep (f2.dV.keeps f1.rel) _ _ ha) (fun us hus => ?_) (iM _ _ _) (fun n => ?_) hu1
     ·have := Du (c2 us hus) hy
      rw [hρ2] at this
      exact this
     ·rw [Sv, Nat.zero_add]
   ·simp [T.leaf] at g2
theorem Zf {v : AV} {h : Hp} {id t : Nat} {e : SE} {ov : List (SE × List AV)} (hv : apW v h = some (id, e, t, ov)) : ∃ ty, v = .uM id (dZ e) t ∧ h.get id = some (.vec e t ty ov) := by
 unfold apW at hv
 split at hv
 ·split at hv
  ·rename_i o ho
   split at hv
   ·split at hv
    ·simp at hv
    ·split at hv
     ·rename_i ht
      split at hv
      ·rename_i hn
       have ht := Nat.eq_of_beq_eq_true ht
       have hn := bK _ _ hn
       simp only [Option.some.injEq, Prod.mk.injEq] at hv
       obtain ⟨rfl, rfl, rfl, rfl⟩ := hv
       subst ht hn
       exact ⟨_, rfl, ho⟩
      ·simp at hv
     ·simp at hv
   ·simp at hv
  ·simp at hv
 ·simp at hv
theorem akR [Glob] {α : Type} {ρ : Nat → Int} {v : AV} {s : St} {k : AV → St → T α} {x : α} (hρ : E.ρ = ρ) (r : aX E s.h w) (hp : aZ ρ s.pc) (h : (arB v s k).leaf ρ = some x) :
 ∃ v' h' pc' E', aZ ρ pc' ∧ Xc E w s.h E' h' ∧ (∀ u, VR E w.heap v u → VR E' w.heap v' u) ∧ (k v' { s with h := h', pc := pc' }).leaf ρ = some x := by
 unfold arB at h
 split at h
 ·rename_i id e t ov hv
  obtain ⟨ty, rfl, hl⟩ := Zf hv
  obtain ⟨hid, ho, aAS⟩ := r.live id _ hl
  have ho' := ho
  simp only [OR] at ho'
  rw [hρ] at ho'
  obtain ⟨⟨hov, hwf⟩, arr, lo, hi, us, q1, q2, q3, q4, q5, q6, q7⟩ := ho'
  obtain ⟨e', h', pc', E', hp', f, w', l', c', g⟩ := SV [] hρ r hp hwf h
  split at g
  ·rename_i o hg
   have hg' := f.sub.get _ _ hg
   rw [hl] at hg'
   simp only [Option.some.injEq] at hg'
   subst hg'
   obtain ⟨hk, s1, r1⟩ := Rk f.rel hg
   have hρ' : E'.ρ = ρ := f.ρ.trans hρ
   refine ⟨_, _, pc', { E' with ro := fun b => E'.ro b ∨ b = (E'.θ id).1 }, hp', ⟨f.ρ, f.dV.trans s1, r1, f.sub.trans (Sub.drop _ _)⟩, fun u hu => ?_, g⟩
   simp only [VR] at hu ⊢
   obtain ⟨_, m, a, cap, p1, rfl, p3, p4⟩ := hu
   rw [dB, hρ] at p1
   have hθ := f.dV.θ id hid
   have hκ := f.dV.κ id hid
   have hO : OR E' w.heap id (.vec e' t ty []) := by
    simp only [OR]
    rw [hρ', hθ, hκ]
    have hv' := c' us (by rw [List.nil_append]; exact q2)
    refine ⟨⟨fun p hp => by simp at hp, w'⟩, arr, lo, hi, us, q1, hv', q3, ?_, q5, q6, q7⟩
    have e1 := hv'.length
    have e2 := q2.length
    omega
   have hh := aaJ (E := E') (ro := fun b => E'.ro b ∨ b = (E'.θ id).1) (fun _ h => .inl h) (.inr rfl) hO (k := m) (cap := cap) (a := a) (by rw [hρ', l']; omega) p3 (by
    simp only [fE] at p4 ⊢
    rw [hθ, hκ]
    exact p4)
   exact hh
  ·simp [T.leaf] at g
 ·exact Yd hρ r hp h
theorem wU [Glob] {α : Type} {ρ : Nat → Int} : ∀ {vs : List AV} {s : St} {E : En} {k : List AV → St → T α} {x : α}, E.ρ = ρ → aX E s.h w → aZ ρ s.pc → (Ez vs s k).leaf ρ = some x →
 ∃ vs' h' pc' E', aZ ρ pc' ∧ Xc E w s.h E' h' ∧ (∀ us, bD E w.heap vs us → bD E' w.heap vs' us) ∧ (k vs' { s with h := h', pc := pc' }).leaf ρ = some x
 | [], s, E, k, x, hρ, r, hp, h => ⟨[], s.h, s.pc, E, hp, Xc.refl r, fun _ h => h, h⟩
 | v :: vs, s, E, k, x, hρ, r, hp, h => by
   simp only [Ez] at h
   obtain ⟨v1, h1, pc1, E1, hp1, f1, q1, g1⟩ := akR hρ r hp h
   obtain ⟨vs1, h2, pc2, E2, hp2, f2, q2, g2⟩ := wU (s := { s with h := h1, pc := pc1 }) (f1.ρ.trans hρ) f1.rel hp1 g1
   refine ⟨v1 :: vs1, h2, pc2, E2, hp2, f1.trans f2, fun us hu => ?_, g2⟩
   rw [aQ] at hu ⊢
   obtain ⟨u, us', rfl, a, b⟩ := hu
   exact ⟨u, us', rfl, VR.keep (f2.dV.keeps f1.rel) _ _ (q1 u a), q2 us' (bD.keep (f1.dV.keeps r) _ _ b)⟩
end
end Go.As
end
section
namespace Go.As
section
variable {P : Program} {E : En} {w : World}
theorem nD : ∀ {cs vs l : List AV} {o : Nat}, splice cs o vs = some l → l.length = cs.length
 | cs, [], l, 0, h => by simp only [splice, Option.some.injEq] at h; rw [h]
 | [], v :: vs, l, 0, h => by simp [splice] at h
 | c :: cs, v :: vs, l, 0, h => by
   simp only [splice] at h
   split at h
   ·rename_i l' hl
    simp only [Option.some.injEq] at h
    subst h
    simp [nD hl]
   ·simp at h
 | [], vs, l, o + 1, h => by simp [splice] at h
 | c :: cs, vs, l, o + 1, h => by
   simp only [splice] at h
   split at h
   ·rename_i l' hl
    simp only [Option.some.injEq] at h
    subst h
    simp [nD hl]
   ·simp at h
theorem qH : ∀ {cs vs l : List AV} {o : Nat} (m : List AV), splice cs o vs = some l → splice (cs ++ m) o vs = some (l ++ m)
 | cs, [], l, 0, m, h => by simp only [splice, Option.some.injEq] at h ⊢; rw [h]
 | [], v :: vs, l, 0, m, h => by simp [splice] at h
 | c :: cs, v :: vs, l, 0, m, h => by
   simp only [splice, List.cons_append] at h ⊢
   split at h
   ·rename_i l' hl
    simp only [Option.some.injEq] at h
    subst h
    rw [qH m hl]
    rfl
   ·simp at h
 | [], vs, l, o + 1, m, h => by simp [splice] at h
 | c :: cs, vs, l, o + 1, m, h => by
   simp only [splice, List.cons_append] at h ⊢
   split at h
   ·rename_i l' hl
    simp only [Option.some.injEq] at h
    subst h
    rw [qH m hl]
    rfl
   ·simp at h
theorem xI : ∀ {cs vs l : List AV} {o : Nat} (p : List AV), splice cs o vs = some l → splice (p ++ cs) (p.length + o) vs = some (p ++ l)
 | cs, vs, l, o, [], h => by simpa using h
 | cs, vs, l, o, x :: p, h => by
   have := xI p h
   rw [List.cons_append, List.length_cons, show p.length + 1 + o = (p.length + o) + 1 by omega]
   simp only [splice, this, List.cons_append]
theorem vZ : ∀ {cs vs l : List AV} {o : Nat}, splice cs o vs = some l → ∀ j : Nat, l[j]? = if o ≤ j ∧ j < o + vs.length then vs[j - o]? else cs[j]?
 | cs, [], l, 0, h, j => by
   simp only [splice, Option.some.injEq] at h
   rw [h, if_neg (by simp)]
 | [], v :: vs, l, 0, h, j => by simp [splice] at h
 | c :: cs, v :: vs, l, 0, h, j => by
   simp only [splice] at h
   split at h
   ·rename_i l' hl
    simp only [Option.some.injEq] at h
    subst h
    cases j with
    | zero => simp
    | succ j =>
      have := vZ hl j
      simp only [List.getElem?_cons_succ, this, List.length_cons, Nat.sub_zero]
      by_cases hj : j < vs.length
      ·rw [if_pos (by omega), if_pos (by omega)]
      ·rw [if_neg (by omega), if_neg (by omega)]
   ·simp at h
 | [], vs, l, o + 1, h, j => by simp [splice] at h
 | c :: cs, vs, l, o + 1, h, j => by
   simp only [splice] at h
   split at h
   ·rename_i l' hl
    simp only [Option.some.injEq] at h
    subst h
    cases j with
    | zero => rw [if_neg (by omega)]; rfl
    | succ j =>
      have := vZ hl j
      simp only [List.getElem?_cons_succ, this]
      by_cases hj : o ≤ j ∧ j < o + vs.length
      ·rw [if_pos hj, if_pos (by omega), show j + 1 - (o + 1) = j - o by omega]
      ·rw [if_neg hj, if_neg (by omega)]
   ·simp at h
theorem EU (x : SE) : ∀ (cs : List CK) (j k : Nat), (kJ cs j x)[k]? = (cs[k]?).map fun c => yP c (lQ (j + k) x)
 | [], j, k => by simp [kJ]
 | c :: cs, j, 0 => by simp [kJ]
 | c :: cs, j, k + 1 => by
   simp only [kJ, List.getElem?_cons_succ, EU x cs (j + 1) k]
   rw [show j + 1 + k = j + (k + 1) by omega]
theorem GV {ρ : Nat → Int} {ks : List CK} : ∀ {vs : List AV} {off : Nat} {x x' : SE}, setCells ks off vs x = some x' → off + vs.length ≤ (dec (x.den ρ)).l.length →
 (dec (x'.den ρ)).l.length = (dec (x.den ρ)).l.length ∧ (dec (x.den ρ) = dL (dec (x.den ρ)).l → dec (x'.den ρ) = dL (dec (x'.den ρ)).l) ∧
 ∀ j, (j < off ∨ off + vs.length ≤ j) ∧ (dec (x'.den ρ)).l[j]? = (dec (x.den ρ)).l[j]? ∨ ∃ c v a, off ≤ j ∧ vs[j - off]? = some v ∧ ks[j]? = some c ∧ rJ c v = some a ∧ (dec (x'.den ρ)).l[j]? = some (dec (a.den ρ))
 | [], off, x, x', h, _ => by
   simp only [setCells, Option.some.injEq] at h
   subst h
   refine ⟨rfl, id, fun j => .inl ⟨?_, rfl⟩⟩
   simp only [List.length_nil]
   omega
 | v :: vs, off, x, x', h, hle => by
   simp only [setCells] at h
   split at h
   ·rename_i c hc
    split at h
    ·rename_i a ha
     simp only [List.length_cons] at hle
     have hs : dec ((SE.op .set x (fV (.dat (.i (Int.ofNat off))) a)).den ρ) = dL ((dec (x.den ρ)).l.set off (dec (a.den ρ))) := by
      simp only [fV, SE.den, aN.den, aC, D.n]
      rfl
     obtain ⟨h1, h2, h3⟩ := GV (ρ := ρ) h (by rw [hs, bC, List.length_set]; omega)
     rw [hs, bC, List.length_set] at h1
     rw [hs] at h2 h3
     simp only [bC] at h2 h3
     rw [bU] at hc
     refine ⟨h1, fun _ => h2 trivial, fun j => ?_⟩
     rcases h3 j with ⟨q1, q2⟩ | ⟨c', v', a', q1, q2, q3, q4, q5⟩
     ·by_cases hj : j = off
      ·subst hj
       refine .inr ⟨c, v, a, Nat.le_refl _, by simp, hc, ha, ?_⟩
       rw [q2, List.getElem?_set_self (by omega)]
      ·refine .inl ⟨by simp only [List.length_cons]; omega, ?_⟩
       rw [q2, List.getElem?_set_ne (fun q => hj q.symm)]
     ·refine .inr ⟨c', v', a', by omega, ?_, q3, q4, q5⟩
      rw [show j - off = (j - (off + 1)) + 1 by omega, List.getElem?_cons_succ]
      exact q2
    ·simp at h
   ·simp at h
theorem dJ.mk {ro : Nat → Prop} {h : Array Obj} {d : D} : ∀ {cs : List CK} {j : Nat} {us : List Value}, us.length = cs.length → (∀ k c u, cs[k]? = some c → us[k]? = some u → kM ro h c (d.hd (j + k)) u) → dJ ro h cs j d us
 | [], j, us, hl, _ => by
   simp only [dJ]
   exact List.eq_nil_of_length_eq_zero hl
 | c :: cs, j, [], hl, _ => by simp at hl
 | c :: cs, j, u :: us, hl, hh => by
   simp only [dJ]
   refine ⟨u, us, rfl, by simpa using hh 0 c u rfl rfl, dJ.mk (by simpa using hl) fun k c' u' h1 h2 => ?_⟩
   have := hh (k + 1) c' u' (by simpa using h1) (by simpa using h2)
   rw [show j + 1 + k = j + (k + 1) by omega]
   exact this
theorem WV {r : Row} {e e' i : SE} {off k : Nat} {vs : List AV} {x : D} (hc : Ro r e i off vs = some e') (hi : i.den E.ρ = (k : Int)) (hx : (dec (e.den E.ρ)).l[k]? = some x) (hwf : xB r x) (hle : off + vs.length ≤ r.es) :
 ∃ x', dec (e'.den E.ρ) = dL ((dec (e.den E.ρ)).l.set k x') ∧ xB r x' ∧ ∀ (h : Array Obj) (us' : List Value), us'.length = r.es → (∀ j v u, off ≤ j → vs[j - off]? = some v → us'[j]? = some u → VR E h v u) →
  (∀ j a u, (j < off ∨ off + vs.length ≤ j) → (iR r (.op .at e i))[j]? = some a → us'[j]? = some u → VR E h a u) → BX E.ro h r x' us' := by
 unfold Ro at hc
 split at hc
 ·rename_i c
  split at hc
  ·split at hc
   ·rename_i v
    split at hc
    ·rename_i a ha
     simp only [Option.some.injEq] at hc
     subst hc
     refine ⟨dec (a.den E.ρ), ?_, sN ha, ?_⟩
     ·simp only [fV, SE.den, aN.den, aC, nG, D.n, hi, wC]
     ·intro h us' h1 h2 _
      cases us' with
      | nil => simp [Row.es] at h1
      | cons y ys =>
        have : ys = [] := by
         cases ys with
         | nil => rfl
         | cons z zs => simp [Row.es] at h1
        subst this
        exact ⟨y, rfl, pV (h2 0 v y (Nat.le_refl _) rfl rfl) ha⟩
    ·simp at hc
   ·simp at hc
  ·simp at hc
 ·rename_i ks
  split at hc
  ·rename_i x' hx'
   simp only [Option.some.injEq] at hc
   subst hc
   have hat := Gz E.ρ e i hi hx
   obtain ⟨w1, w2, w3⟩ := hwf
   obtain ⟨g1, g2, g3⟩ := GV (ρ := E.ρ) hx' (by rw [hat, w2]; exact hle)
   rw [hat] at g1 g2 g3
   refine ⟨dec (x'.den E.ρ), ?_, ⟨g2 w1, by rw [g1, w2], ?_⟩, ?_⟩
   ·simp only [fV, SE.den, aN.den, aC, nG, D.n, hi, wC]
   ·intro j c y hj hy
    rcases g3 j with ⟨_, q2⟩ | ⟨c', v', a', _, _, q3, q4, q5⟩
    ·exact w3 j c y hj (by rw [← q2]; exact hy)
    ·rw [q5] at hy
     rw [hj] at q3
     simp only [Option.some.injEq] at hy q3
     subst hy q3
     exact sN q4
   ·intro h us' h1 h2 h3
    show dJ E.ro h ks 0 (dec (x'.den E.ρ)) us'
    refine dJ.mk h1 fun j c u hj hu => ?_
    rw [Nat.zero_add]
    rcases g3 j with ⟨q1, q2⟩ | ⟨c', v', a', q1, q2, q3, q4, q5⟩
    ·have p2 := h3 j (yP c (lQ j (.op .at e i))) u q1 (by simp only [iR, EU, hj, Option.map_some, Nat.zero_add]) hu
     rw [sO, xK, hat] at p2
     have : (dec (x'.den E.ρ)).hd j = x.hd j := by simp only [D.hd, q2]
     rw [this]
     exact p2
    ·rw [hj] at q3
     simp only [Option.some.injEq] at q3
     subst q3
     have : (dec (x'.den E.ρ)).hd j = dec (a'.den E.ρ) := by simp only [D.hd, q5, Option.getD_some]
     rw [this]
     exact pV (h2 j v' u q1 q2 hu) q4
  ·simp at hc
theorem lV {ρ : Nat → Int} {r : Row} {ov uO : List (SE × List AV)} : ∀ (ds : List D) (i : Nat), (∀ j, i ≤ j → j < i + ds.length → dO ρ j ov = dO ρ j uO) → aG ρ r ov ds i = aG ρ r uO ds i
 | [], _, _ => rfl
 | d :: ds, i, h => by
   simp only [aG]
   rw [h i (Nat.le_refl _) (by simp), lV ds (i + 1) fun j h1 h2 => h j (by omega) (by simp only [List.length_cons]; omega)]
theorem Jz {ρ : Nat → Int} {pc : List (SB × Bool)} (hp : aZ ρ pc) {i : SE} {k : Nat} (hi : i.den ρ = (k : Int)) {cs' : List AV} {r : Row} (hcs : cs'.length = r.es) : ∀ {ov uO : List (SE × List AV)}, Np pc i cs' ov = some uO → DY r ov →
 DY r uO ∧ dO ρ k uO = some cs' ∧ ∀ j : Nat, j ≠ k → dO ρ j uO = dO ρ j ov
 | [], uO, h, _ => by simp [Np] at h
 | (j, c) :: l, uO, h, ho => by
   simp only [Np] at h
   split at h
   ·rename_i he
    have he := bK _ _ he
    subst he
    simp only [Option.some.injEq] at h
    subst h
    refine ⟨?_, by simp [dO, hi], ?_⟩
    ·intro p hp'
     rcases List.mem_cons.1 hp' with rfl | hp'
     ·exact hcs
     ·exact ho p (by simp [hp'])
    ·intro m hm
     simp only [dO, hi]
     rw [if_neg (by omega), if_neg (by omega)]
   ·split at h
    ·rename_i b hd
     split at h
     ·have hd := fF hp hd
      rw [kZ, beq_iff_eq, hi] at hd
      simp only [Option.some.injEq] at h
      subst h
      refine ⟨?_, by simp [dO, hd], ?_⟩
      ·intro p hp'
       rcases List.mem_cons.1 hp' with rfl | hp'
       ·exact hcs
       ·exact ho p (by simp [hp'])
      ·intro m hm
       simp only [dO, ← hd]
       rw [if_neg (by omega), if_neg (by omega)]
     split at h
     ·rename_i l' hl
      simp only [Option.some.injEq] at h
      subst h
      have hd := fF hp hd
      rw [kZ, beq_eq_false_iff_ne, hi] at hd
      obtain ⟨g1, g2, g3⟩ := Jz hp hi hcs hl fun p hp' => ho p (by simp [hp'])
      refine ⟨?_, ?_, ?_⟩
      ·intro p hp'
       rcases List.mem_cons.1 hp' with rfl | hp'
       ·exact ho _ (by simp)
       ·exact g1 p hp'
      ·simp only [dO]
       rw [if_neg (fun q => hd q.symm)]
       exact g2
      ·intro m hm
       simp only [dO]
       split
       ·rfl
       ·exact g3 m hm
     ·simp at h
    ·simp at h
theorem OH {ρ : Nat → Int} {pc : List (SB × Bool)} (hp : aZ ρ pc) {i : SE} {k : Nat} (hi : i.den ρ = (k : Int)) : ∀ {ov : List (SE × List AV)}, AA pc i ov = true → dO ρ k ov = none
 | [], _ => rfl
 | (j, c) :: l, h => by
   simp only [AA] at h
   split at h
   ·rename_i hd
    have hd := fF hp hd
    rw [kZ, beq_eq_false_iff_ne, hi] at hd
    simp only [dO]
    rw [if_neg (fun q => hd q.symm)]
    exact OH hp hi h
   ·simp at h
theorem OR.congr {h : Array Obj} {id : Nat} {a b : List AV} {ty : TypeId} (ho : OR E h id (.cells a ty)) (hl : b.length = a.length) (hv : ∀ us, bD E h a us → bD E h b us) : OR E h id (.cells b ty) := by
 simp only [OR] at ho ⊢
 obtain ⟨arr, lo, hi, us, q1, q2, q3, q4, q5, q6, q7⟩ := ho
 exact ⟨arr, lo, hi, us, q1, hv us q2, q3, by rw [hl]; exact q4, q5, q6, q7⟩
set_option maxHeartbeats 800000 in
theorem TU [Glob] {E1 : En} {tt : TT} (htt : dW P tt) {s s' : St} (r1 : aX E1 s.h w) (hp : aZ E1.ρ s.pc) {ty id es : Nat} {i : SE} {off : Nat} {one : Bool} {vs : List AV} {v' : AV} {u x : Value} (hx : VR E1 w.heap (.nY id es i off) u)
 (hcv : one = true → bD E1 w.heap vs x.cells.toList ∧ ∀ u ∈ x.cells.toList, u.oneCell' = true) (h : (Ky tt s ty id es i off one vs).leaf E1.ρ = some (v', s')) :
 s'.slots = s.slots ∧ aZ E1.ρ s'.pc ∧ v' = AV.undef ∧ ∃ w' E', (Instr.storeAt ty u x).run P w = .ok () w' ∧ Stp E1 s.h w E' s'.h w' ∧ aX E' s'.h w' := by
 unfold Ky at h
 split at h
 ·rename_i o hl
  split at h
  ·rename_i e t FD ov
   split at h
   ·rename_i ti hti
    split at h
    ·rename_i hcond
     obtain ⟨hes, hvl, hone⟩ := hcond
     obtain ⟨pc0, hp0, t1, t2, h3⟩ := pY hp h
     obtain ⟨pc', hp', h3⟩ := AP (s := { s with pc := pc0 }) hp0 h3
     split at h3
     ·rename_i cs hc
      split at h3
      ·rename_i cs' hs
       obtain ⟨hvs, aeB⟩ := hcv hone
       have hx1 := hx
       simp only [VR] at hx1
       obtain ⟨hid, k, hk, rfl⟩ := hx1
       obtain ⟨rc, ho, hwf⟩ := r1.wW hl
       rw [dB] at t2
       have hlt : k < (dec (e.den E1.ρ)).l.length := by omega
       have hd : (dec (e.den E1.ρ)).l[k]? = some (dec (e.den E1.ρ)).l[k] := List.getElem?_eq_getElem hlt
       generalize hxk : (dec (e.den E1.ρ)).l[k] = xk at hd
       obtain ⟨c1, c2⟩ := kP (ρ := E1.ρ) ho (j := 0) hd
       rw [Nat.zero_add] at c1
       generalize hpre : aG E1.ρ (rowOf t) ov ((dec (e.den E1.ρ)).l.take k) 0 = pre at c1 c2
       generalize hpost : aG E1.ρ (rowOf t) ov ((dec (e.den E1.ρ)).l.drop (k + 1)) (k + 1) = post at c1
       have hrow : (∀ h us, bD E1 h (match dO E1.ρ k ov with | some cs => cs | none => iR (rowOf t) (.dat xk)) us ↔ bD E1 h cs us) ∧ cs.length = (rowOf t).es := by
        rcases qJ hp' hk hc with g | ⟨g, rfl⟩
        ·rw [g]
         obtain ⟨p, p1, p2, _⟩ := mG g
         have := ho p p1
         rw [p2] at this
         exact ⟨fun _ _ => Iff.rfl, this⟩
        ·rw [g]
         refine ⟨fun h us => CZ ?_, iW _ _⟩
         rw [Gz E1.ρ e i hk hd]
         simp only [SE.den, aC]
       obtain ⟨hrv, hcl⟩ := hrow
       have hcl' : cs'.length = (rowOf t).es := by rw [nD hs, hcl]
       have hor : OR E1 w.heap id (.cells (pre ++ (cs ++ post)) FD) := by
        have := (rc.live id _ (by rw [Hp.get_put, if_pos rfl])).2.1
        unfold dI at this
        rw [c1] at this
        refine OR.congr this ?_ ?_
        ·simp only [List.length_append, hcl]
         congr 2
         split
         ·rename_i cs0 h0
          obtain ⟨p, p1, p2, _⟩ := mG h0
          have := ho p p1
          rw [p2] at this
          exact this.symm
         ·rw [iW]
        ·intro us q2
         obtain ⟨a, b, rfl, a1, a2⟩ := q2.split
         obtain ⟨a', b', rfl, b1, b2⟩ := a2.split
         exact a1.append (((hrv _ _).1 b1).append b2)
       have r2 := r1.swap (H2 := s.h.put id (.cells (pre ++ (cs ++ post)) FD)) hl hor (by rw [Hp.get_put, if_pos rfl]) (fun j hj => by rw [Hp.get_put, if_neg hj]) rfl rfl
       have hs2 : splice (pre ++ (cs ++ post)) (k * es + off) vs = some (pre ++ (cs' ++ post)) := by
        rw [← hes, ← c2]
        exact xI pre (qH post hs)
       obtain ⟨w', g1, g2, g3⟩ := nN (P := P) r2 (by rw [Hp.get_put, if_pos rfl]) hs2 hvs aeB
       have hlen : x.cells.size = ti.size := by have := hvs.length; simp only [Array.length_toList] at this; omega
       have hrun : (Instr.storeAt ty (.pointer (some ⟨(E1.θ id).1, (E1.θ id).2 + (k * es + off), none⟩)) x).run P w = .ok () w' := by
        simp [Instr.storeAt, Instr.sureAddr, storeVar, dQ (htt ty ti hti), hlen, g1]
       have fin : ∀ (o' : dP), OR E1 w'.heap id o' → ∃ w' E', (Instr.storeAt ty (.pointer (some ⟨(E1.θ id).1, (E1.θ id).2 + (k * es + off), none⟩)) x).run P w = .ok () w' ∧ Stp E1 s.h w E' (s.h.put id o') w' ∧ aX E' (s.h.put id o') w' := by
        intro o' ho'
        have al1 : RG (s.h.put id (.cells (pre ++ (cs ++ post)) FD)) s.h := (RG.put hl).symm
        have al2 : RG ((s.h.put id (.cells (pre ++ (cs ++ post)) FD)).put id (.cells (pre ++ (cs' ++ post)) FD)) (s.h.put id o') := by
         refine ⟨fun j y hj => ?_, fun j y hj => ?_, rfl, rfl⟩
         ·rw [Hp.get_put]
          split
          ·exact ⟨o', rfl⟩
          ·rename_i hne
           rw [Hp.get_put, if_neg hne, Hp.get_put, if_neg hne] at hj
           exact ⟨y, hj⟩
         ·rw [Hp.get_put] at hj ⊢
          split
          ·exact ⟨_, rfl⟩
          ·rename_i hne
           rw [if_neg hne] at hj
           rw [Hp.get_put, if_neg hne]
           exact ⟨y, hj⟩
        refine ⟨w', E1, hrun, (g2.left al1).right al2, ?_⟩
        exact g3.swap (id := id) (by rw [Hp.get_put, if_pos rfl]) ho' (by rw [Hp.get_put, if_pos rfl]) (fun j hj => by rw [Hp.get_put, if_neg hj, Hp.get_put, if_neg hj, Hp.get_put, if_neg hj]) rfl rfl
       have hcells := (g3.live id _ (by rw [Hp.get_put, if_pos rfl])).2.1
       have apart : ∀ uO : List (SE × List AV), DY (rowOf t) uO → dO E1.ρ k uO = some cs' → (∀ j : Nat, j ≠ k → dO E1.ρ j uO = dO E1.ρ j ov) → OR E1 w'.heap id (.vec e t FD uO) := by
        intro uO q1 q2 q3
        refine OR.wW.2 ⟨⟨q1, hwf⟩, ?_⟩
        have : dI E1.ρ e t uO = pre ++ (cs' ++ post) := by
         unfold dI
         obtain ⟨d1, _⟩ := kP (ρ := E1.ρ) q1 (j := 0) hd
         rw [Nat.zero_add, q2] at d1
         rw [d1, ← hpre, ← hpost]
         congr 1
         ·refine lV _ _ fun j _ hj => q3 j ?_
          rw [List.length_take] at hj
          omega
         ·congr 1
          exact lV _ _ fun j hj _ => q3 j (by omega)
        rw [this]
        exact hcells
       split at h3
       ·rename_i uO hov
        have := aF h3
        simp only [Prod.mk.injEq] at this
        obtain ⟨rfl, rfl⟩ := this
        refine ⟨rfl, hp', rfl, ?_⟩
        obtain ⟨q1, q2, q3⟩ := Jz hp' hk hcl' hov ho
        exact fin _ (apart uO q1 q2 q3)
       ·split at h3
        ·rename_i habs
         have hnone := OH hp' hk habs
         split at h3
         ·rename_i e' hset
          have := aF h3
          simp only [Prod.mk.injEq] at this
          obtain ⟨rfl, rfl⟩ := this
          refine ⟨rfl, hp', rfl, fin _ ?_⟩
          have hxm : xk ∈ (dec (e.den E1.ρ)).l := List.mem_of_getElem? hd
          have hle : off + vs.length ≤ (rowOf t).es := by
           rw [← hcl]
           rcases Nat.eq_zero_or_pos vs.length with hz | hz
           ·have awI := List.eq_nil_of_length_eq_zero hz
            subst awI
            have : ∀ (l c : List AV) (o : Nat), splice c o [] = some l → o ≤ c.length := by
             intro l c
             induction c generalizing l with
             | nil => intro o ho; cases o with | zero => exact Nat.zero_le _ | succ o => simp [splice] at ho
             | cons a c ih =>
               intro o ho
               cases o with
               | zero => exact Nat.zero_le _
               | succ o =>
                 simp only [splice] at ho
                 split at ho
                 ·rename_i l' hl'
                  have := ih l' o hl'
                  simp; omega
                 ·simp at ho
            have := this _ _ _ hs
            simpa using this
           ·have := vZ hs (off + vs.length - 1)
            rw [if_pos (by omega)] at this
            have hsome : (vs[off + vs.length - 1 - off]?).isSome = true := by
             rw [List.getElem?_eq_getElem (by omega)]; rfl
            rw [← this] at hsome
            obtain ⟨y, hy⟩ := Option.isSome_iff_exists.1 hsome
            have := (List.getElem?_eq_some_iff.1 hy).1
            rw [nD hs] at this
            omega
          obtain ⟨x', z1, z2, z3⟩ := WV hset hk hd (hwf.2.1 xk hxm) hle
          refine OR.wW.2 ⟨⟨ho, ?_⟩, ?_⟩
          ·rw [z1]
           refine ⟨by rw [bC], fun y hy => ?_, by rw [bC]; intro q; have := congrArg List.length q; simp at this; exact hwf.2.2 this⟩
           rw [bC] at hy
           rcases List.mem_or_eq_of_mem_set hy with hy | rfl
           ·exact hwf.2.1 y hy
           ·exact z2
          ·have hd' : (dec (e'.den E1.ρ)).l[k]? = some x' := by
            rw [z1, bC, List.getElem?_set_self hlt]
           obtain ⟨d1, d2⟩ := kP (ρ := E1.ρ) ho (j := 0) hd'
           rw [Nat.zero_add, hnone] at d1
           have X8 : dI E1.ρ e' t ov = pre ++ (iR (rowOf t) (.dat x') ++ post) := by
            unfold dI
            rw [d1, ← hpre, ← hpost, z1, bC]
            congr 1
            ·rw [List.take_set_of_le (Nat.le_refl _)]
            ·congr 1
             rw [List.drop_set_of_lt (by omega)]
           rw [X8]
           refine OR.congr hcells (by simp only [List.length_append, iW, hcl']) fun us q2 => ?_
           obtain ⟨a, b, rfl, a1, a2⟩ := q2.split
           obtain ⟨a', b', rfl, b1, b2⟩ := a2.split
           refine a1.append (bD.append ?_ b2)
           rw [iE]
           simp only [SE.den, aC]
           have awQ : cs = iR (rowOf t) (.op .at e i) := by
            rcases qJ hp' hk hc with g | ⟨g, g'⟩
            ·rw [hnone] at g; simp at g
            ·exact g'
           refine z3 _ a' (by rw [b1.length, hcl']) ?_ ?_
           ·intro j vj uj hj1 hj2 hj3
            have hjl := (List.getElem?_eq_some_iff.1 hj2).1
            have := vZ hs j
            rw [if_pos (by omega), hj2] at this
            obtain ⟨y, y1, y2⟩ := b1.nth (by rw [bU]; exact this)
            rw [hj3] at y1
            simp only [Option.some.injEq] at y1
            subst y1
            exact y2
           ·intro j aj uj hj1 hj2 hj3
            have := vZ hs j
            rw [if_neg (by omega), awQ, hj2] at this
            obtain ⟨y, y1, y2⟩ := b1.nth (by rw [bU]; exact this)
            rw [hj3] at y1
            simp only [Option.some.injEq] at y1
            subst y1
            exact y2
         ·have := aF h3
          simp only [Prod.mk.injEq] at this
          obtain ⟨rfl, rfl⟩ := this
          refine ⟨rfl, hp', rfl, fin _ (apart _ ?_ ?_ ?_)⟩
          ·intro p hp'
           rcases List.mem_cons.1 hp' with rfl | hp'
           ·exact hcl'
           ·exact ho p hp'
          ·simp only [dO]
           rw [if_pos hk]
          ·intro j hj
           simp only [dO]
           rw [if_neg (by omega)]
        ·simp [T.leaf] at h3
      ·simp [T.leaf] at h3
     ·simp [T.leaf] at h3
    ·simp [T.leaf] at h
   ·simp [T.leaf] at h
  ·simp [T.leaf] at h
 ·simp [T.leaf] at h
theorem akT {E1 : En} {h : Array Obj} {c : CK} {v : AV} {u : Value} (hv : VR E1 h v u) : VR E1 h (arC c v) u := by
 unfold arC
 split
 ·split
  ·simp only [VR] at hv ⊢
   subst hv
   exact ⟨⟨none, rfl⟩, by simp only [SE.den, aC]; exact .nil _⟩
  ·split
   ·split
    ·split
     ·simp only [VR] at hv ⊢
      obtain ⟨_, a, cap, rfl, _, hc⟩ := hv
      simp only [fE] at hc
      obtain ⟨rfl, _⟩ := hc
      exact ⟨⟨some a, rfl⟩, by simp only [SE.den, aC]; exact .non _ _ _⟩
     ·exact hv
    ·exact hv
   ·exact hv
  ·exact hv
 ·exact hv
theorem N9 {E1 : En} {h : Array Obj} : ∀ (cs : List CK) {vs : List AV} {us : List Value}, bD E1 h vs us → bD E1 h (Kq cs vs) us
 | [], vs, us, hv => hv
 | _ :: _, [], us, hv => hv
 | c :: cs, v :: vs, us, hv => by
   rw [aQ] at hv
   obtain ⟨u, us', rfl, h1, h2⟩ := hv
   simp only [Kq]
   rw [aQ]
   exact ⟨u, us', rfl, akT h1, N9 cs h2⟩
theorem P9 : ∀ (cs : List CK) (vs : List AV), (Kq cs vs).length = vs.length
 | [], _ => rfl
 | _ :: _, [] => rfl
 | c :: cs, v :: vs => by simp only [Kq, List.length_cons, P9 cs vs]
set_option maxHeartbeats 800000 in
theorem TS [Glob] {E1 : En} {tt : TT} (htt : dW P tt) {s s' : St} (r1 : aX E1 s.h w) (hp : aZ E1.ρ s.pc) {ty id es : Nat} {i j0 : SE} {off : Nat} {one : Bool} {vs : List AV} {v' : AV} {u x : Value} (hx : VR E1 w.heap (.nY id es i off) u)
 (hcv : one = true → bD E1 w.heap vs x.cells.toList ∧ ∀ u ∈ x.cells.toList, u.oneCell' = true) (h : (Kw tt s ty id es i j0 off one vs).leaf E1.ρ = some (v', s')) :
 s'.slots = s.slots ∧ aZ E1.ρ s'.pc ∧ v' = AV.undef ∧ ∃ w' E', (Instr.storeAt ty u x).run P w = .ok () w' ∧ Stp E1 s.h w E' s'.h w' ∧ aX E' s'.h w' := by
 unfold Kw at h
 split at h
 ·rename_i o hl
  split at h
  ·rename_i e t FD ov
   split at h
   ·rename_i ti hti
    split at h
    ·rename_i hcond
     obtain ⟨hes, hvl, hone⟩ := hcond
     obtain ⟨pc0, hp0, t1, t2, h3⟩ := pY hp h
     obtain ⟨pc', hp', h3⟩ := AP (s := { s with pc := pc0 }) hp0 h3
     split at h3
     ·rename_i hdb
      have hij := fF hp' hdb
      split at h3
      ·rename_i cs hc
       split at h3
       ·rename_i cs' hs
        obtain ⟨awH, aeB⟩ := hcv hone
        have hvs := N9 ((Vw (rowOf t)).drop off) awH
        have hx1 := hx
        simp only [VR] at hx1
        obtain ⟨hid, k, hk, rfl⟩ := hx1
        simp only [SB.den, beq_iff_eq] at hij
        have hk2 : j0.den E1.ρ = (k : Int) := by rw [← hij]; exact hk
        obtain ⟨rc, ho, hwf⟩ := r1.wW hl
        rw [dB] at t2
        have hlt : k < (dec (e.den E1.ρ)).l.length := by omega
        have hd : (dec (e.den E1.ρ)).l[k]? = some (dec (e.den E1.ρ)).l[k] := List.getElem?_eq_getElem hlt
        generalize hxk : (dec (e.den E1.ρ)).l[k] = xk at hd
        obtain ⟨c1, c2⟩ := kP (ρ := E1.ρ) ho (j := 0) hd
        rw [Nat.zero_add] at c1
        generalize hpre : aG E1.ρ (rowOf t) ov ((dec (e.den E1.ρ)).l.take k) 0 = pre at c1 c2
        generalize hpost : aG E1.ρ (rowOf t) ov ((dec (e.den E1.ρ)).l.drop (k + 1)) (k + 1) = post at c1
        have hrow : (∀ h us, bD E1 h (match dO E1.ρ k ov with | some cs => cs | none => iR (rowOf t) (.dat xk)) us ↔ bD E1 h cs us) ∧ cs.length = (rowOf t).es := by
         rcases qJ hp' hk2 hc with g | ⟨g, rfl⟩
         ·rw [g]
          obtain ⟨p, p1, p2, _⟩ := mG g
          have := ho p p1
          rw [p2] at this
          exact ⟨fun _ _ => Iff.rfl, this⟩
         ·rw [g]
          refine ⟨fun h us => CZ ?_, iW _ _⟩
          rw [Gz E1.ρ e j0 hk2 hd]
          simp only [SE.den, aC]
        obtain ⟨hrv, hcl⟩ := hrow
        have hcl' : cs'.length = (rowOf t).es := by rw [nD hs, hcl]
        have hor : OR E1 w.heap id (.cells (pre ++ (cs ++ post)) FD) := by
         have := (rc.live id _ (by rw [Hp.get_put, if_pos rfl])).2.1
         unfold dI at this
         rw [c1] at this
         refine OR.congr this ?_ ?_
         ·simp only [List.length_append, hcl]
          congr 2
          split
          ·rename_i cs0 h0
           obtain ⟨p, p1, p2, _⟩ := mG h0
           have := ho p p1
           rw [p2] at this
           exact this.symm
          ·rw [iW]
         ·intro us q2
          obtain ⟨a, b, rfl, a1, a2⟩ := q2.split
          obtain ⟨a', b', rfl, b1, b2⟩ := a2.split
          exact a1.append (((hrv _ _).1 b1).append b2)
        have r2 := r1.swap (H2 := s.h.put id (.cells (pre ++ (cs ++ post)) FD)) hl hor (by rw [Hp.get_put, if_pos rfl]) (fun j hj => by rw [Hp.get_put, if_neg hj]) rfl rfl
        have hs2 : splice (pre ++ (cs ++ post)) (k * es + off) (Kq ((Vw (rowOf t)).drop off) vs) = some (pre ++ (cs' ++ post)) := by
         rw [← hes, ← c2]
         exact xI pre (qH post hs)
        obtain ⟨w', g1, g2, g3⟩ := nN (P := P) r2 (by rw [Hp.get_put, if_pos rfl]) hs2 hvs aeB
        have hlen : x.cells.size = ti.size := by have := awH.length; simp only [Array.length_toList] at this; omega
        have hrun : (Instr.storeAt ty (.pointer (some ⟨(E1.θ id).1, (E1.θ id).2 + (k * es + off), none⟩)) x).run P w = .ok () w' := by
         simp [Instr.storeAt, Instr.sureAddr, storeVar, dQ (htt ty ti hti), hlen, g1]
        have fin : ∀ (o' : dP), OR E1 w'.heap id o' → ∃ w' E', (Instr.storeAt ty (.pointer (some ⟨(E1.θ id).1, (E1.θ id).2 + (k * es + off), none⟩)) x).run P w = .ok () w' ∧ Stp E1 s.h w E' (s.h.put id o') w' ∧ aX E' (s.h.put id o') w' := by
         intro o' ho'
         have al1 : RG (s.h.put id (.cells (pre ++ (cs ++ post)) FD)) s.h := (RG.put hl).symm
         have al2 : RG ((s.h.put id (.cells (pre ++ (cs ++ post)) FD)).put id (.cells (pre ++ (cs' ++ post)) FD)) (s.h.put id o') := by
          refine ⟨fun j y hj => ?_, fun j y hj => ?_, rfl, rfl⟩
          ·rw [Hp.get_put]
           split
           ·exact ⟨o', rfl⟩
           ·rename_i hne
            rw [Hp.get_put, if_neg hne, Hp.get_put, if_neg hne] at hj
            exact ⟨y, hj⟩
          ·rw [Hp.get_put] at hj ⊢
           split
           ·exact ⟨_, rfl⟩
           ·rename_i hne
            rw [if_neg hne] at hj
            rw [Hp.get_put, if_neg hne]
            exact ⟨y, hj⟩
         refine ⟨w', E1, hrun, (g2.left al1).right al2, ?_⟩
         exact g3.swap (id := id) (by rw [Hp.get_put, if_pos rfl]) ho' (by rw [Hp.get_put, if_pos rfl]) (fun j hj => by rw [Hp.get_put, if_neg hj, Hp.get_put, if_neg hj, Hp.get_put, if_neg hj]) rfl rfl
        have hcells := (g3.live id _ (by rw [Hp.get_put, if_pos rfl])).2.1
        have apart : ∀ uO : List (SE × List AV), DY (rowOf t) uO → dO E1.ρ k uO = some cs' → (∀ j : Nat, j ≠ k → dO E1.ρ j uO = dO E1.ρ j ov) → OR E1 w'.heap id (.vec e t FD uO) := by
         intro uO q1 q2 q3
         refine OR.wW.2 ⟨⟨q1, hwf⟩, ?_⟩
         have : dI E1.ρ e t uO = pre ++ (cs' ++ post) := by
          unfold dI
          obtain ⟨d1, _⟩ := kP (ρ := E1.ρ) q1 (j := 0) hd
          rw [Nat.zero_add, q2] at d1
          rw [d1, ← hpre, ← hpost]
          congr 1
          ·refine lV _ _ fun j _ hj => q3 j ?_
           rw [List.length_take] at hj
           omega
          ·congr 1
           exact lV _ _ fun j hj _ => q3 j (by omega)
         rw [this]
         exact hcells
        split at h3
        ·rename_i uO hov
         have := aF h3
         simp only [Prod.mk.injEq] at this
         obtain ⟨rfl, rfl⟩ := this
         refine ⟨rfl, hp', rfl, ?_⟩
         obtain ⟨q1, q2, q3⟩ := Jz hp' hk2 hcl' hov ho
         exact fin _ (apart uO q1 q2 q3)
        ·split at h3
         ·rename_i habs
          have := aF h3
          simp only [Prod.mk.injEq] at this
          obtain ⟨rfl, rfl⟩ := this
          refine ⟨rfl, hp', rfl, fin _ (apart _ ?_ ?_ ?_)⟩
          ·intro p hp'
           rcases List.mem_cons.1 hp' with rfl | hp'
           ·exact hcl'
           ·exact ho p hp'
          ·simp only [dO]
           rw [if_pos hk2]
          ·intro j hj
           simp only [dO]
           rw [if_neg (by omega)]
         ·simp [T.leaf] at h3
       ·simp [T.leaf] at h3
      ·simp [T.leaf] at h3
     ·simp [T.leaf] at h3
    ·simp [T.leaf] at h
   ·simp [T.leaf] at h
  ·simp [T.leaf] at h
 ·simp [T.leaf] at h
theorem TV [Glob] {tt : TT} (htt : dW P tt) {s s' : St} (r : aX E s.h w) (hp : aZ E.ρ s.pc) {ty id es : Nat} {i : SE} {off : Nat} {v v' : AV} {u x : Value} (hx : VR E w.heap (.nY id es i off) u) (hv : VR E w.heap v x) (h : (Kz tt s ty id es i off v).leaf E.ρ = some (v', s')) :
 s'.slots = s.slots ∧ aZ E.ρ s'.pc ∧ v' = AV.undef ∧ ∃ w' E', (Instr.storeAt ty u x).run P w = .ok () w' ∧ Stp E s.h w E' s'.h w' ∧ aX E' s'.h w' := by
 unfold Kz at h
 split at h
 ·exact TS htt r hp hx (fun hone => ⟨hv.cells hone, (hv.cells hone).ones hone⟩) h
 ·obtain ⟨vs, h1, pc1, E1, hp1, f, q, g⟩ := wU rfl r hp h
  have hρ := f.ρ
  rw [← hρ] at hp1 g
  obtain ⟨a1, a2, a3, w', E', a4, a5, a6⟩ := TU htt (s := { s with h := h1, pc := pc1 }) f.rel hp1 (VR.keep (f.dV.keeps r) _ _ hx) (fun hone => ⟨q _ (hv.cells hone), (hv.cells hone).ones hone⟩) g
  exact ⟨a1, by rw [← hρ]; exact a2, a3, w', E', a4, f.dV.trans a5, a6⟩
end
end Go.As
end
section
namespace Go.As
section
variable {P : Program} {E : En} {w : World}
theorem BX.length {ro : Nat → Prop} {h : Array Obj} {r : Row} {d : D} {us : List Value} (hh : BX ro h r d us) : us.length = r.es := by
 cases r with
 | one c => obtain ⟨u, rfl, _⟩ := hh; rfl
 | many cs => exact dJ.length hh
theorem gJ.append {h : Array Obj} {b o : Nat} {us vs : List Value} (h1 : gJ h b o us) (h2 : gJ h b (o + us.length) vs) : gJ h b o (us ++ vs) := by
 intro i u hi
 rw [List.getElem?_append] at hi
 split at hi
 ·exact h1 i u hi
 ·rename_i hlt
  have := h2 _ u hi
  rw [show o + us.length + (i - us.length) = o + i by omega] at this
  exact this
theorem Jr {ro : Nat → Prop} (hro : ro = E.ro) {h : Array Obj} {r : Row} {b o : Nat} : ∀ (L : List D) (j : Nat), (∀ i x, L[i]? = some x → ∃ us, BX ro h r x us ∧ gJ h b (o + (j + i) * r.es) us) →
 ∃ us, bD E h (aG E.ρ r [] L j) us ∧ gJ h b (o + j * r.es) us ∧ us.length = L.length * r.es ∧ ∀ u ∈ us, u.oneCell' = true
 | [], j, _ => ⟨[], by simp [aG, bD], fun i u hi => by simp at hi, by simp, by simp⟩
 | d :: L, j, hh => by
   subst hro
   obtain ⟨a, a1, a2⟩ := hh 0 d rfl
   obtain ⟨b', b1, b2, b3, b4⟩ := Jr rfl L (j + 1) fun i x hi => by
    have := hh (i + 1) x (by simpa using hi)
    rw [show j + (i + 1) = j + 1 + i by omega] at this
    exact this
   have hal := a1.length
   refine ⟨a ++ b', ?_, ?_, ?_, ?_⟩
   ·simp only [aG, dO]
    refine bD.append ?_ b1
    rw [iE]
    simpa only [SE.den, aC] using a1
   ·rw [Nat.add_zero] at a2
    refine a2.append ?_
    rw [hal, show o + j * r.es + r.es = o + (j + 1) * r.es by rw [Nat.add_mul]; omega]
    exact b2
   ·rw [List.length_append, hal, b3, List.length_cons, Nat.add_mul]; omega
   ·intro u hu
    rcases List.mem_append.1 hu with hu | hu
    ·exact a1.ones u hu
    ·exact b4 u hu
theorem amH {t : Nat} {d : D} {u : Value} (hr : Rd E.ro w.heap (.sl t) d u) (hne : d.l ≠ []) : ∃ us, Src P E w (rowOf t).es d.l.length (aG E.ρ (rowOf t) [] d.l 0) u us := by
 obtain ⟨x, hx⟩ : ∃ x, d.l[0]? = some x := by
  cases h : d.l with
  | nil => exact absurd h hne
  | cons a l => exact ⟨a, rfl⟩
 obtain ⟨b, o, cap, us0, rfl, hb, _, _⟩ := hr.row hx
 obtain ⟨us, h1, h2, h3, h4⟩ := Jr (E := E) (ro := E.ro) rfl (h := w.heap) (r := rowOf t) (b := b) (o := o) d.l 0 fun i x hi => by
  obtain ⟨b', o', cap', us', he, _, g1, g2⟩ := hr.row hi
  simp only [Value.slice.injEq, Option.some.injEq, Addr.mk.injEq] at he
  obtain ⟨⟨rfl, rfl, _⟩, _, _⟩ := he
  exact ⟨us', g1, by rw [Nat.zero_add]; exact g2⟩
 rw [Nat.zero_mul, Nat.add_zero] at h2
 exact ⟨us.toArray, fun _ => rfl, fun w2 hw => by simp only [Builtin.firstCells]; exact h2.loads h3 w2 hw, by simpa using h1, by simpa using h3, by simpa using h4⟩
structure Grown (ρ : Nat → Int) (r : Row) (e0 e1 : SE) (ds : List D) (news : List AV) : Prop where
 l : (dec (e1.den ρ)).l = (dec (e0.den ρ)).l ++ ds
 wf : dec (e1.den ρ) = dL (dec (e1.den ρ)).l
 rows : ∀ d ∈ ds, xB r d
 vr : ∀ (E' : En) (h : Array Obj) (us : List Value) (j : Nat), E'.ρ = ρ → bD E' h news us → bD E' h (aG ρ r [] ds j) us
theorem nI (r : Row) : DY r [] := fun p hp => by simp at hp
theorem PG [Glob] {E' : En} {H0 : Hp} {w' : World} {cells : List AV} {e : TypeId} {e1 : SE} {t : Nat} (r : aX E' (H0.new (.cells cells e)) w') (hwf : H8 (rowOf t) (dec (e1.den E'.ρ))) (hl : (dI E'.ρ e1 t []).length = cells.length)
 (hv : ∀ us, bD E' w'.heap cells us → bD E' w'.heap (dI E'.ρ e1 t []) us) : aX E' (H0.new (.vec e1 t e [])) w' := by
 have hg : (H0.new (.cells cells e)).get H0.fresh = some (.cells cells e) := by rw [Hp.lN, if_pos rfl]
 refine r.swap hg (OR.wW.2 ⟨⟨nI _, hwf⟩, OR.congr (r.live _ _ hg).2.1 hl hv⟩) (by rw [Hp.lN, if_pos rfl]) (fun j hj => by rw [Hp.lN, if_neg hj, Hp.lN, if_neg hj]) ?_ ?_
 ·unfold Hp.new; split <;> rfl
 ·unfold Hp.new; split <;> rfl
theorem PI {H0 H1 : Hp} {o o' : dP} (hn : H1.next = H0.next) (hr : H1.res = H0.res) (hg : ∀ j, (H0.get j).isSome = (H1.get j).isSome) : RG (H0.new o) (H1.new o') := by
 have hf : H1.fresh = H0.fresh := by unfold Hp.fresh; rw [hn, hr]
 have key : ∀ {A B : Option dP} {x : dP}, A.isSome = B.isSome → A = some x → ∃ y, B = some y := by
  intro A B x h1 h2
  rw [h2] at h1
  exact Option.isSome_iff_exists.1 h1.symm
 refine ⟨fun j x hj => ?_, fun j x hj => ?_, ?_, ?_⟩
 ·rw [Hp.lN] at hj ⊢
  rw [hf]
  split
  ·exact ⟨o', rfl⟩
  ·rename_i hne
   rw [if_neg hne] at hj
   exact key (hg j) hj
 ·rw [Hp.lN] at hj ⊢
  rw [hf] at hj
  split
  ·exact ⟨o, rfl⟩
  ·rename_i hne
   rw [if_neg hne] at hj
   exact key (hg j).symm hj
 ·unfold Hp.new
  rw [hr]
  split <;> simp [hn]
 ·unfold Hp.new
  rw [hr]
  split <;> simp
set_option maxHeartbeats 800000 in
theorem Dw [Glob] {t t2 ty : Nat} {H h0 : Hp} (r : aX E H w) {ie : TI} {e m : Nat} {own : Option Nat} {news : List AV} {x : AV} {d2 : TypeDesc} {u u2 : Value} {us : Array Value} (hte : rM P e ie)
 (ht : P.underlying t = some (.slice e)) (ht2 : P.underlying t2 = some d2) (hd2 : ∀ k, d2 ≠ .int k) (hs0 : ie.size ≠ 0) (hb0 : ie.bytes ≠ 0) (hzl : ie.zero.length = ie.size) (hb4 : ie.bytes ≤ 400)
 (src : Src P E w ie.size m news u2 us) (hm : 0 < m) (hx : VR E w.heap x u) {e0 e1 : SE} {t' : Nat} (hb : Au e own x H = some (e0, t', h0)) (hes : (rowOf t').es = ie.size) {ds : List D} (g : Grown E.ρ (rowOf t') e0 e1 ds news) (hds : ds.length = m)
 (hlim : ((dec (e0.den E.ρ)).l.length + m) * ie.bytes ≤ 140737488355328) :
 ∃ y w' E', (Builtin.append_ #[t, t2] ty #[u, u2]).run P w = .ok y w' ∧ Stp E H w E' (h0.new (.vec e1 t' e [])) w' ∧ aX E' (h0.new (.vec e1 t' e [])) w' ∧ VR E' w'.heap (.uM h0.fresh (dZ e1) t') y := by
 have hbound : ∀ k, k ≤ (dec (e0.den E.ρ)).l.length → (k + m) * ie.bytes ≤ 140737488355328 := by
  intro k hk
  exact Nat.le_trans (Nat.mul_le_mul_right _ (by omega)) hlim
 have hnl : news.length = m * ie.size := by
  have h1 := src.vrs.length
  have h2 := src.size
  simp only [Array.length_toList] at h1
  omega
 have fresh0 : ∀ (a : Option Addr), u = .slice a 0 0 → h0 = H → (dec (e0.den E.ρ)).l = [] →
  ∃ y w' E', (Builtin.append_ #[t, t2] ty #[u, u2]).run P w = .ok y w' ∧ Stp E H w E' (h0.new (.vec e1 t' e [])) w' ∧ aX E' (h0.new (.vec e1 t' e [])) w' ∧ VR E' w'.heap (.uM h0.fresh (dZ e1) t') y := by
  intro a hu he hnil
  subst hu he
  have hgl : vM ie e 0 m news h0 = some (.slice h0.fresh 0 (0 + m) (.rest ie.size), h0.new (.cells news e)) := by
   unfold vM
   rw [if_pos (hbound 0 (by omega))]
  obtain ⟨y, w', E', p1, p2, p3, p4⟩ := wR (t := t) (t2 := t2) (ty := ty) (cap := 0) r hte ht ht2 hd2 hb0 hzl src (by omega) a (old := []) (olds := #[]) (cs := news) (by simp) (by simp [bD]) (by simp) (by simp)
   (fun w2 _ => by
    cases a with
    | none => simp [Builtin.firstCells]
    | some a => simp only [Builtin.firstCells, Nat.zero_mul]; rfl) hgl
  have hρ := p2.ρ
  have hl1 : (dec (e1.den E'.ρ)).l = ds := by rw [hρ, g.l, hnil, List.nil_append]
  have hwf : H8 (rowOf t') (dec (e1.den E'.ρ)) := by
   refine ⟨by rw [hρ]; exact g.wf, fun d hd => ?_, by rw [hl1]; intro q; rw [q] at hds; simp at hds; omega⟩
   rw [hl1] at hd
   exact g.rows d hd
  refine ⟨y, w', E', p1, p2.right (PI rfl rfl fun _ => rfl), PG p3 hwf ?_ ?_, ?_⟩
  ·unfold dI
   rw [bQ (nI _), hl1, hds, hes, hnl]
  ·intro us' hus
   unfold dI
   rw [hl1, hρ]
   exact g.vr E' w'.heap us' 0 hρ hus
  ·simp only [VR] at p4 ⊢
   obtain ⟨q1, a', cap', q2, q3, q4⟩ := p4
   refine ⟨q1, 0 + m, a', cap', ?_, q2, q3, ?_⟩
   ·rw [dB, hl1, hds, Nat.zero_add]
   ·rw [hes]; exact q4
 unfold Au at hb
 split at hb
 ·rename_i id n t0
  split at hb
  ·rename_i o hl
   split at hb
   ·rename_i WR t00 FH ov
    split at hb
    ·split at hb
     ·rename_i ht0
      split at hb
      ·rename_i hty
       split at hb
       ·rename_i hn
        simp only [Option.some.injEq, Prod.mk.injEq] at hb
        obtain ⟨rfl, rfl, rfl⟩ := hb
        have ht0 := Nat.eq_of_beq_eq_true ht0
        have hty := Nat.eq_of_beq_eq_true hty
        have hn := bK _ _ hn
        subst ht0 hty hn
        obtain ⟨r2, _, azZ⟩ := r.wW hl
        simp only [VR] at hx
        obtain ⟨hid, k, a, cap, hk, rfl, hkc, hcap⟩ := hx
        rw [dB] at hk
        have hk : k = (dec (WR.den E.ρ)).l.length := by omega
        have hx2 : VR E w.heap (.slice id 0 k (.rest ie.size)) (.slice (some a) k cap) := by
         simp only [VR]
         exact ⟨hid, a, cap, rfl, hkc, by rw [← hes]; exact hcap⟩
        have hcl : (dI E.ρ WR t0 []).length = k * ie.size := by
         unfold dI
         rw [bQ (nI _), hes, hk]
        have aAP : 0 < m * ie.size := Nat.mul_pos hm (by omega)
        have happ : Aw ie FH m news (.slice id 0 k (.rest ie.size)) (H.put id (.cells (dI E.ρ WR t0 []) FH)) =
         some (.slice H.fresh 0 (k + m) (.rest ie.size), ((H.put id (.cells (dI E.ρ WR t0 []) FH)).drop id).new (.cells (dI E.ρ WR t0 [] ++ news) FH)) := by
         unfold Aw
         simp only [if_true]
         rw [Hp.get_put, if_pos rfl]
         simp only
         rw [if_neg (by rw [hcl, Nat.add_mul]; omega), if_pos ⟨by omega, trivial⟩]
         simp only [eY]
         unfold vM
         rw [if_pos (hbound k (by omega))]
         rfl
        obtain ⟨y, w', E', p1, p2, p3, p4⟩ := H7 (t := t) (t2 := t2) (ty := ty) r2 hte ht ht2 hd2 hs0 hb0 hzl src hx2 happ
        have hρ := p2.ρ
        have hl1 : (dec (e1.den E'.ρ)).l = (dec (WR.den E.ρ)).l ++ ds := by rw [hρ, g.l]
        have hwf : H8 (rowOf t0) (dec (e1.den E'.ρ)) := by
         refine ⟨by rw [hρ]; exact g.wf, fun d hd => ?_, by rw [hl1]; intro q; have := congrArg List.length q; simp at this; rw [this.2] at hds; simp at hds; omega⟩
         rw [hl1] at hd
         rcases List.mem_append.1 hd with hd | hd
         ·exact azZ.2.1 d hd
         ·exact g.rows d hd
        have X8 : dI E'.ρ e1 t0 [] = dI E.ρ WR t0 [] ++ aG E.ρ (rowOf t0) [] ds (0 + (dec (WR.den E.ρ)).l.length) := by
         unfold dI
         rw [hl1, hρ, yV]
        have hdrop : ∀ j, (((H.put id (.cells (dI E.ρ WR t0 []) FH)).drop id).get j) = (H.drop id).get j := by
         intro j
         rw [Hp.wS, Hp.wS]
         split
         ·rfl
         ·rename_i hne
          rw [Hp.get_put, if_neg hne]
        have al : RG (((H.put id (.cells (dI E.ρ WR t0 []) FH)).drop id).new (.cells (dI E.ρ WR t0 [] ++ news) FH)) ((H.drop id).new (.vec e1 t0 FH [])) :=
         PI rfl rfl fun j => by rw [hdrop]
        have p3' : aX E' ((H.drop id).new (.cells (dI E.ρ WR t0 [] ++ news) FH)) w' := by
         have hg : (((H.put id (.cells (dI E.ρ WR t0 []) FH)).drop id).new (.cells (dI E.ρ WR t0 [] ++ news) FH)).get H.fresh = some (.cells (dI E.ρ WR t0 [] ++ news) FH) := by
          rw [Hp.lN]
          exact if_pos rfl
         refine p3.swap hg (p3.live _ _ hg).2.1 (by rw [Hp.lN]; exact if_pos rfl) (fun j hj => ?_) ?_ ?_
         ·rw [Hp.lN, Hp.lN]
          show (if j = H.fresh then _ else _) = (if j = H.fresh then _ else _)
          rw [if_neg hj, if_neg hj, hdrop]
         ·unfold Hp.new
          simp only [Hp.drop, Hp.put]
          split <;> rfl
         ·unfold Hp.new
          simp only [Hp.drop, Hp.put]
          split <;> rfl
        refine ⟨y, w', E', p1, (p2.left (RG.put hl).symm).right al, PG p3' hwf ?_ ?_, ?_⟩
        ·rw [X8, List.length_append, List.length_append, bQ (nI _), hds, hes, hnl]
        ·intro us' hus
         obtain ⟨a1, a2, rfl, b1, b2⟩ := hus.split
         rw [X8]
         exact b1.append (g.vr E' w'.heap a2 _ hρ b2)
        ·simp only [VR] at p4 ⊢
         obtain ⟨q1, a', cap', q2, q3, q4⟩ := p4
         refine ⟨q1, k + m, a', cap', ?_, q2, q3, ?_⟩
         ·rw [dB, hl1, List.length_append, hds, hk]
         ·rw [hes]; exact q4
       ·simp at hb
      ·simp at hb
     ·simp at hb
    ·simp at hb
   ·simp at hb
  ·simp at hb
 ·split at hb
  ·simp only [Option.some.injEq, Prod.mk.injEq] at hb
   obtain ⟨rfl, rfl, rfl⟩ := hb
   simp only [VR] at hx
   exact fresh0 none hx rfl (by simp only [SE.den, aC, D.l])
  ·simp at hb
 ·split at hb
  ·simp only [Option.some.injEq, Prod.mk.injEq] at hb
   obtain ⟨rfl, rfl, rfl⟩ := hb
   simp only [VR] at hx
   obtain ⟨x, hx⟩ := hx
   exact fresh0 x hx rfl (by simp only [SE.den, aC, D.l])
  ·simp at hb
 ·split at hb
  ·simp only [Option.some.injEq, Prod.mk.injEq] at hb
   obtain ⟨rfl, rfl, rfl⟩ := hb
   simp only [VR] at hx
   obtain ⟨⟨x, hx⟩, _⟩ := hx
   exact fresh0 x hx rfl (by simp only [SE.den, aC, D.l])
  ·simp at hb
 ·split at hb
  ·split at hb
   ·split at hb
    ·split at hb
     ·simp only [Option.some.injEq, Prod.mk.injEq] at hb
      obtain ⟨rfl, rfl, rfl⟩ := hb
      simp only [VR] at hx
      obtain ⟨_, a, cap, rfl, _, hc⟩ := hx
      simp only [fE] at hc
      obtain ⟨rfl, _⟩ := hc
      exact fresh0 (some a) rfl rfl (by simp only [SE.den, aC, D.l])
     ·simp at hb
    ·simp at hb
   ·simp at hb
  ·simp at hb
 ·simp at hb
end
end Go.As
end
section
namespace Go.As
section
variable {P : Program} {E : En} {w : World}
theorem Src.frz {E1 : En} {s m : Nat} {news news' : List AV} {u : Value} {us : Array Value} (src : Src P E w s m news u us) (h : bD E1 w.heap news' us.toList) : Src P E1 w s m news' u us :=
 ⟨src.len, src.first, h, src.size, src.ones⟩
theorem room_le {bytes n m : Nat} (hb0 : bytes ≠ 0) (hb4 : bytes ≤ 400) (hm : (m : Int) < roomOf bytes 1000000) (hn : n < 1000000) : (n + m) * bytes ≤ 140737488355328 := by
 have hm' : (m : Int) < ((140737488355328 / bytes - 1000000 : Nat) : Int) := hm
 have h1 : m < 140737488355328 / bytes - 1000000 := by omega
 have h2 : n + m ≤ 140737488355328 / bytes := by omega
 exact Nat.le_trans (Nat.mul_le_mul_right _ h2) (Nat.div_mul_le_self _ _)
theorem acJ {bytes m : Nat} (hm : (m : Int) < roomOf bytes 0) : (([] : List D).length + m) * bytes ≤ 140737488355328 := by
 have hm' : (m : Int) < ((140737488355328 / bytes - 0 : Nat) : Int) := hm
 have h2 : ([] : List D).length + m ≤ 140737488355328 / bytes := by simp only [List.length_nil]; omega
 exact Nat.le_trans (Nat.mul_le_mul_right _ h2) (Nat.div_mul_le_self _ _)
theorem acI {bytes n m : Nat} (hn : (n : Int) < roomOf bytes (m + 1)) {k : Nat} (hk : k = m + 1) : (n + k) * bytes ≤ 140737488355328 := by
 have hn' : (n : Int) < ((140737488355328 / bytes - (m + 1) : Nat) : Int) := hn
 have h2 : n + k ≤ 140737488355328 / bytes := by omega
 exact Nat.le_trans (Nat.mul_le_mul_right _ h2) (Nat.div_mul_le_self _ _)
theorem Lp {ρ : Nat → Int} {r : Row} {m : Nat} {e e1 : SE} {news : List AV} (h : qW r e m news = some e1) (hw : dec (e.den ρ) = dL (dec (e.den ρ)).l) : ∃ ds, ds.length = m ∧ Grown ρ r e e1 ds news := by
 obtain ⟨ds, h1, h2, h3, h4, h5⟩ := Aj (ρ := ρ) m h
 exact ⟨ds, h1, h2, h3 hw, h4, h5⟩
theorem Yz [Glob] {H h0 : Hp} (r : aX E H w) {e : Nat} {own : Option Nat} {x : AV} {e0 : SE} {t : Nat} (h : Au e own x H = some (e0, t, h0)) : dec (e0.den E.ρ) = dL (dec (e0.den E.ρ)).l := by
 have hz : dec ((SE.dat (.i 0)).den E.ρ) = dL (dec ((SE.dat (.i 0)).den E.ρ)).l := by simp only [SE.den, aC]; rfl
 unfold Au at h
 split at h
 ·split at h
  ·rename_i o hl
   split at h
   ·split at h
    ·split at h
     ·split at h
      ·split at h
       ·simp only [Option.some.injEq, Prod.mk.injEq] at h
        obtain ⟨rfl, _⟩ := h
        exact (r.wW hl).2.2.1
       ·simp at h
      ·simp at h
     ·simp at h
    ·simp at h
   ·simp at h
  ·simp at h
 ·split at h
  ·simp only [Option.some.injEq, Prod.mk.injEq] at h
   obtain ⟨rfl, _⟩ := h
   exact hz
  ·simp at h
 ·split at h
  ·simp only [Option.some.injEq, Prod.mk.injEq] at h
   obtain ⟨rfl, _⟩ := h
   exact hz
  ·simp at h
 ·split at h
  ·simp only [Option.some.injEq, Prod.mk.injEq] at h
   obtain ⟨rfl, _⟩ := h
   exact hz
  ·simp at h
 ·split at h
  ·split at h
   ·split at h
    ·split at h
     ·simp only [Option.some.injEq, Prod.mk.injEq] at h
      obtain ⟨rfl, _⟩ := h
      exact hz
     ·simp at h
    ·simp at h
   ·simp at h
  ·simp at h
 ·simp at h
theorem H6 [Glob] {t t2 ty : Nat} {ie : TI} {e : Nat} {d2 : TypeDesc} {u u2 : Value} {us : Array Value} {news : List AV} (hte : rM P e ie) (ht : P.underlying t = some (.slice e)) (ht2 : P.underlying t2 = some d2) (hd2 : ∀ k, d2 ≠ .int k)
 (src : Src P E w ie.size 0 news u2 us) (ho : ∃ a n cap, u = .slice a n cap ∧ n ≤ cap) : (Builtin.append_ #[t, t2] ty #[u, u2]).run P w = .ok u w := by
 obtain ⟨inf, d, z, h1, h2, h3, h4, h5, h6, h7, h8⟩ := hte.all
 obtain ⟨a, n, cap, rfl, hn⟩ := ho
 have hus : us.toList = [] := List.eq_nil_of_length_eq_zero (by rw [Array.length_toList, src.size, Nat.zero_mul])
 have := lW (t := t) (t2 := t2) (ty := ty) (n := n) (cap := cap) (a := a) (w' := w) ht ht2 hd2 h1 h5 src (by omega) (by
  cases a with
  | none => rfl
  | some a => rw [hus]; rfl)
 exact this
theorem Ze {x : AV} {u : Value} {H h0 : Hp} {e t : Nat} {own : Option Nat} {e0 : SE} (hx : VR E w.heap x u) (hb : Au e own x H = some (e0, t, h0)) : ∃ a n cap, u = .slice a n cap ∧ n ≤ cap := by
 unfold Au at hb
 split at hb
 ·simp only [VR] at hx
  obtain ⟨_, k, a, cap, _, rfl, hk, _⟩ := hx
  exact ⟨_, _, _, rfl, hk⟩
 ·simp only [VR] at hx
  exact ⟨none, 0, 0, hx, Nat.le_refl _⟩
 ·simp only [VR] at hx
  obtain ⟨x, hx⟩ := hx
  exact ⟨x, 0, 0, hx, Nat.le_refl _⟩
 ·simp only [VR] at hx
  obtain ⟨⟨x, hx⟩, _⟩ := hx
  exact ⟨x, 0, 0, hx, Nat.le_refl _⟩
 ·simp only [VR] at hx
  obtain ⟨_, a, cap, rfl, hk, _⟩ := hx
  exact ⟨_, _, _, rfl, hk⟩
 ·simp at hb
theorem Tt {x : AV} {u : Value} {own : Option Nat} (hx : VR E w.heap x u) (hb : adN own x = true) : ∃ a n cap, u = .slice a n cap ∧ n ≤ cap := by
 unfold adN at hb
 split at hb
 ·simp only [VR] at hx
  obtain ⟨_, k, a, cap, _, rfl, hk, _⟩ := hx
  exact ⟨_, _, _, rfl, hk⟩
 ·simp only [VR] at hx
  obtain ⟨_, l, k, a, cap, _, _, rfl, hk, _⟩ := hx
  exact ⟨_, _, _, rfl, hk⟩
 ·simp only [VR] at hx
  exact ⟨none, 0, 0, hx, Nat.le_refl _⟩
 ·simp only [VR] at hx
  obtain ⟨x, hx⟩ := hx
  exact ⟨x, 0, 0, hx, Nat.le_refl _⟩
 ·simp only [VR] at hx
  obtain ⟨⟨x, hx⟩, _⟩ := hx
  exact ⟨x, 0, 0, hx, Nat.le_refl _⟩
 ·simp only [VR] at hx
  obtain ⟨_, a, cap, rfl, hk, _⟩ := hx
  exact ⟨_, _, _, rfl, hk⟩
 ·simp at hb
set_option maxHeartbeats 800000 in
theorem QY [Glob] {tt : TT} (htt : dW P tt) {s s' : St} (r : aX E s.h w) (hp : aZ E.ρ s.pc) {t t2 ty : Nat} {x y v : AV} {u u2 : Value} (hx : VR E w.heap x u) (hy : VR E w.heap y u2) (hsl : anF y = false → ∃ a n cap, u = .slice a n cap ∧ n ≤ cap) (h : (Gn tt t t2 x y s).leaf E.ρ = some (v, s')) :
 s'.slots = s.slots ∧ aZ E.ρ s'.pc ∧ ∃ z w' E', (Builtin.append_ #[t, t2] ty #[u, u2]).run P w = .ok z w' ∧ Stp E s.h w E' s'.h w' ∧ aX E' s'.h w' ∧ VR E' w'.heap v z := by
 unfold Gn at h
 split at h
 ·rename_i ti hti
  split at h
  ·rename_i e hk
   split at h
   ·rename_i ie hie
    split at h
    ·simp [T.leaf] at h
    ·rename_i ti2 adU
     obtain ⟨d2, hd2, hk2⟩ := wQ (htt t2 ti2 adU)
     split at h
     ·simp [T.leaf] at h
     ·rename_i k2 hne
      have TM : ∀ k, d2 ≠ .int k := by
       intro k hd
       subst hd
       cases hkk : ti2.kind <;> rw [hkk] at hk2 <;> simp only [OJ] at hk2
       exact hne _ hkk
      split at h
      ·simp [T.leaf] at h
      ·rename_i hcond
       simp only [not_or, Classical.not_not] at hcond
       obtain ⟨hs0, hb0, hzl, hb4⟩ := hcond
       have hte := htt e ie hie
       have hu := fH (htt t ti hti) hk
       split at h
       ·
        rename_i e2 ty2
        split at h
        ·rename_i e0 t' h0 hb
         split at h
         ·rename_i hc
          obtain ⟨hes, hrow⟩ := hc
          obtain ⟨pc1, hp1, h1⟩ := cO hp h
          rw [sG, dB] at h1
          simp only [VR] at hy
          obtain ⟨xa, cap2, hu2, _⟩ := hy.slice
          split at h1
          ·rename_i hz
           simp only [SE.den, beq_iff_eq] at hz
           have := aF h1
           simp only [Prod.mk.injEq] at this
           obtain ⟨rfl, rfl⟩ := this
           have hz' : (dec (e2.den E.ρ)).l.length = 0 := by omega
           rw [hz'] at hu2
           subst hu2
           have src : Src P E w ie.size 0 [] (.slice xa 0 cap2) #[] := ⟨fun _ => rfl, fun w2 _ => by
            cases xa with
            | none => simp [Builtin.firstCells]
            | some a => simp only [Builtin.firstCells, Nat.zero_mul]; rfl, by simp [bD], by simp, by simp⟩
           exact ⟨rfl, hp1, u, w, E, H6 hte hu hd2 TM src (Ze hx hb), Stp.refl _ _ _, r, hx⟩
          ·rename_i hz
           simp only [SE.den, beq_eq_false_iff_ne, ne_eq] at hz
           obtain ⟨pc2, hp2, h2⟩ := cO (s := { s with pc := pc1 }) hp1 h1
           split at h2
           ·rename_i t2'
            obtain ⟨pc3, hp3, h3⟩ := cO (s := { s with pc := pc2 }) hp2 h2
            split at h3
            ·rename_i t3
             rw [dS, decide_eq_true_eq, dB] at t2' t3
             simp only [SE.den] at t2' t3
             have hne' : (dec (e2.den E.ρ)).l ≠ [] := by intro q; rw [q] at hz; simp at hz
             obtain ⟨us, src⟩ := amH (P := P) (w := w) hy hne'
             rw [hrow] at src
             rw [hes] at src
             have hpos : 0 < (dec (e2.den E.ρ)).l.length := by
              rcases Nat.eq_zero_or_pos (dec (e2.den E.ρ)).l.length with q | q
              ·omega
              ·exact q
             have aqQ : dec (e2.den E.ρ) = dL (dec (e2.den E.ρ)).l ∧ ∀ d ∈ (dec (e2.den E.ρ)).l, xB (rowOf ty2) d := by
              have key : ∀ {d : D} {v : Value}, Rd E.ro w.heap (.sl ty2) d v → d.l ≠ [] → d = dL d.l ∧ ∀ x ∈ d.l, xB (rowOf ty2) x := by
               intro d v hr hne
               have ahA : ∀ {c : CK} {d : D} {v : Value}, Rd E.ro w.heap c d v → uI c d := by
                intro c d v hr
                cases hr with
                | int k n => rfl
                | bool b => cases b <;> simp [uI]
                | str s => trivial
                | nil t => trivial
                | non t a cap => trivial
                | one t c b o cap ds f hr hc hb h1 h2 => trivial
                | many t cs b o cap rows f hr hc hb hl h1 h2 => trivial
               generalize hc : CK.sl ty2 = c at hr
               cases hr with
               | int k n => simp at hc
               | bool b => simp at hc
               | str s => simp at hc
               | nil t => exact absurd rfl hne
               | non t a cap => exact absurd rfl hne
               | one t c b o cap ds f hr hcp hb h1 h2 =>
                 simp only [CK.sl.injEq] at hc
                 subst hc
                 refine ⟨by rw [bC], fun x hx => ?_⟩
                 rw [bC] at hx
                 obtain ⟨i, hi⟩ := List.mem_iff_getElem?.1 hx
                 rw [hr]
                 exact ahA (h2 i x hi)
               | many t cs b o cap rows f hr hcp hb hl h1 h2 =>
                 simp only [CK.sl.injEq] at hc
                 subst hc
                 refine ⟨by rw [bC], fun x hx => ?_⟩
                 rw [bC, List.mem_map] at hx
                 obtain ⟨row, hrm, rfl⟩ := hx
                 obtain ⟨i, hi⟩ := List.mem_iff_getElem?.1 hrm
                 rw [hr]
                 refine ⟨by rw [bC], by rw [bC]; exact hl row hrm, fun j c y hj hy => ?_⟩
                 rw [bC] at hy
                 exact ahA (h2 i row j y c hi hy hj)
              exact key hy hne'
             rw [hrow] at aqQ
             have grown : ∀ e1 : SE, (dec (e1.den E.ρ)).l = (dec (e0.den E.ρ)).l ++ (dec (e2.den E.ρ)).l → dec (e1.den E.ρ) = dL (dec (e1.den E.ρ)).l → Grown E.ρ (rowOf t') e0 e1 (dec (e2.den E.ρ)).l (aG E.ρ (rowOf t') [] (dec (e2.den E.ρ)).l 0) := by
              intro e1 q1 q2
              refine ⟨q1, q2, aqQ.2, fun E' h us j hρ hv => ?_⟩
              have : aG E.ρ (rowOf t') [] (dec (e2.den E.ρ)).l j = aG E.ρ (rowOf t') [] (dec (e2.den E.ρ)).l 0 := by
               generalize (dec (e2.den E.ρ)).l = L
               clear hv q1 q2
               have gen : ∀ (L : List D) (a b : Nat), aG E.ρ (rowOf t') [] L a = aG E.ρ (rowOf t') [] L b := by
                intro L
                induction L with
                | nil => intro a b; rfl
                | cons d L ih => intro a b; simp only [aG, dO]; rw [ih (a + 1) (b + 1)]
               exact gen L j 0
              rw [this]
              exact hv
             have hbw := Yz r hb
             split at h3
             ·rename_i hnil
              have awS : (dec (e0.den E.ρ)).l = [] := by
               unfold VX at hnil
               split at hnil
               ·split at hnil
                ·simp only [SE.den, aC, D.l]
                ·simp at hnil
               ·simp at hnil
              have := aF h3
              simp only [Prod.mk.injEq] at this
              obtain ⟨rfl, rfl⟩ := this
              obtain ⟨z, w', E', p1, p2, p3, p4⟩ := Dw (t := t) (t2 := t2) (ty := ty) r hte hu hd2 TM hs0 hb0 hzl hb4 src hpos hx hb hes (grown e2 (by rw [awS, List.nil_append]) aqQ.1) rfl (by rw [awS]; refine acJ (bytes := ie.bytes) ?_; have q := t2'; unfold acK at q; rw [hnil] at q; exact q)
              exact ⟨rfl, hp3, z, w', E', p1, p2, p3, p4⟩
             ·rename_i hnil
              have := aF h3
              simp only [Prod.mk.injEq] at this
              obtain ⟨rfl, rfl⟩ := this
              obtain ⟨z, w', E', p1, p2, p3, p4⟩ := Dw (t := t) (t2 := t2) (ty := ty) r hte hu hd2 TM hs0 hb0 hzl hb4 src hpos hx hb hes (grown (.op .cat e0 e2) (by simp only [SE.den, aN.den, aC, bC]) (by simp only [SE.den, aN.den, aC, bC])) rfl (room_le hb0 hb4 (by have q := t2'; unfold acK at q; rw [hnil] at q; exact q) (by omega))
              exact ⟨rfl, hp3, z, w', E', p1, p2, p3, p4⟩
            ·simp [T.leaf] at h3
           ·simp [T.leaf] at h2
         ·simp [T.leaf] at h
        ·simp [T.leaf] at h
       ·
        split at h
        ·rename_i m news hsrc
         obtain ⟨us, src⟩ := uQ (P := P) r hy hsrc
         split at h
         ·have := aF h
          simp only [Prod.mk.injEq] at this
          obtain ⟨rfl, rfl⟩ := this
          exact ⟨rfl, hp, u, w, E, H6 hte hu hd2 TM src (hsl (by
           cases y <;> first | rfl | (rename_i hnd _ _ _; exact absurd rfl (hnd _ _)) | (rename_i hnd; exact absurd rfl (hnd _ _)))), Stp.refl _ _ _, r, hx⟩
         ·rename_i m'
          obtain ⟨news', h1, pcF, E1, hpF, f, hvs, h⟩ := wU rfl r hp h
          split at h
          ·rename_i e0 t' h0 hb
           split at h
           ·rename_i hc
            obtain ⟨hes, hm⟩ := hc
            have hρ := f.ρ
            obtain ⟨pc1, hp1, h2⟩ := cO (s := { s with h := h1, pc := pcF }) hpF h
            split at h2
            ·rename_i t3
             rw [dS, decide_eq_true_eq, dB] at t3
             simp only [SE.den] at t3
             split at h2
             ·rename_i e1 hcr
              have := aF h2
              simp only [Prod.mk.injEq] at this
              obtain ⟨rfl, rfl⟩ := this
              obtain ⟨ds, hds, g⟩ := Lp (ρ := E1.ρ) hcr (Yz f.rel hb)
              obtain ⟨z, w', E', p1, p2, p3, p4⟩ := Dw (t := t) (t2 := t2) (ty := ty) f.rel hte hu hd2 TM hs0 hb0 hzl hb4 (src.frz (hvs _ src.vrs)) (by omega) (VR.keep (f.dV.keeps r) _ _ hx) hb hes g hds (acI (by rw [hρ]; exact t3) (by omega))
              exact ⟨rfl, hp1, z, w', E', p1, f.dV.trans p2, p3, p4⟩
             ·simp [T.leaf] at h2
            ·simp [T.leaf] at h2
           ·simp [T.leaf] at h
          ·simp [T.leaf] at h
        ·simp [T.leaf] at h
   ·simp [T.leaf] at h
  ·simp [T.leaf] at h
 ·simp [T.leaf] at h
end
end Go.As
end

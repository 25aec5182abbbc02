import Derived.Test.YtppmloolcbpkgaaGreatDoorAsOp10
import Derived.Laws.StructEq
/-
  AS, part 15: '==' of structs; one operation that is no call of a function.
-/
namespace Go.As

section
variable {P : Program} {E : En} {w : World}

theorem sbAnd_den (ρ : Nat → Int) (a b : SB) : (sbAnd a b).den ρ = (a.den ρ && b.den ρ) := by
  unfold sbAnd
  split <;> simp [SB.den]

theorem eqCell_ok {i : TI} {t : Nat} (hti : TIok P t i) {x y : AV} {u v : Value} (hx : VR E w.heap x u) (hy : VR E w.heap y v) {c : SB} (h : eqCell i.kind x y = some c) (d : Nat) :
    (Op.equalIn (d + 1) t u v).run P w = .ok (c.den E.ρ) w ∧ u.oneCell' = true ∧ v.oneCell' = true ∧ i.agg = false := by
  unfold eqCell at h
  split at h
  · rename_i k hk
    split at h
    · split at h
      · rename_i hkk
        subst hkk
        simp at h
        subst h
        simp only [VR] at hx hy
        subst hx hy
        exact ⟨by rw [run_equalIn_int w d t _ _ _ _ (und_int hti hk), sbEq_den], rfl, rfl, by simp [TI.agg, TK.agg, hk]⟩
      · simp at h
    · simp at h
  · rename_i hk
    split at h
    · simp at h
      subst h
      simp only [VR] at hx hy
      obtain ⟨rfl, hx⟩ := hx
      obtain ⟨rfl, hy⟩ := hy
      exact ⟨by rw [run_equalIn_string w d t _ _ (und_string hti hk), strB_eq hx hy]; rfl, rfl, rfl, by simp [TI.agg, TK.agg, hk]⟩
    · simp at h
  · rename_i hk
    split at h
    · simp only [VR] at hx hy
      subst hx hy
      exact ⟨by rw [run_equalIn_bool' w d t _ _ (und_bool hti hk), eqBools_den h], rfl, rfl, by simp [TI.agg, TK.agg, hk]⟩
    · simp at h
  · simp at h

theorem eqFs_ok {tt : TT} (htt : TTok P tt) {xs ys : List AV} {us vs : List Value} (hx : VRs E w.heap xs us) (hy : VRs E w.heap ys vs) (d : Nat) : ∀ {flds : List Field} {l : List (Nat × Nat × Nat)} {c : SB},
    (flds.mapM fun f => (P.info? f.type).map fun i => (f.offset, f.type, i.size)) = some l → (∀ f ∈ flds, f.name ≠ "_") → eqFs tt xs ys l = some c →
    (Op.eqFields (d + 1) us.toArray vs.toArray flds).run P w = .ok (c.den E.ρ) w
  | [], l, c, hm, _, h => by
    simp at hm
    subst hm
    simp [eqFs] at h
    subst h
    simp [Op.eqFields, SB.den]
  | f :: flds, l, c, hm, hn, h => by
    simp only [List.mapM_cons, Option.bind_eq_bind, Option.bind_eq_some_iff] at hm
    obtain ⟨p, h1, ls, h2, h3⟩ := hm
    simp only [pure, Option.some.injEq] at h3
    subst h3
    rw [Option.map_eq_some_iff] at h1
    obtain ⟨inf, hinf, rfl⟩ := h1
    simp only [eqFs] at h
    split at h
    · simp at h
    · rename_i i hi
      split at h
      · rename_i x y hxn hyn
        split at h
        · simp at h
        · rename_i c1 hc1
          split at h
          · simp at h
          · rename_i c2 hc2
            simp at h
            subst h
            obtain ⟨u, hu1, hu2⟩ := hx.nth hxn
            obtain ⟨v, hv1, hv2⟩ := hy.nth hyn
            obtain ⟨e1, e2, e3, e4⟩ := eqCell_ok (w := w) (htt f.type i hi) hu2 hv2 hc1 d
            have ih := eqFs_ok htt hx hy d h2 (fun g hg => hn g (by simp [hg])) hc2
            have p1 : (part f.type us.toArray f.offset).run P w = .ok u w := by simp [part, isAgg_run (htt f.type i hi), e4, hu1]
            have p2 : (part f.type vs.toArray f.offset).run P w = .ok v w := by simp [part, isAgg_run (htt f.type i hi), e4, hv1]
            simp only [Op.eqFields]
            rw [if_pos (hn f (by simp))]
            simp only [Sem.run_bind, p1, p2, e1, Result.andThen_ok, sbAnd_den]
            cases hcd : c1.den E.ρ
            · simp
            · simp [ih]
      · simp at h

theorem evEqAgg_ok {tt : TT} (htt : TTok P tt) {t : Nat} {xs ys : List AV} {us vs : List Value} {c : SB} (hx : VRs E w.heap xs us) (hy : VRs E w.heap ys vs) (h : evEqAgg tt t xs ys = some c) (op : BinOp) (x y : Operand) :
    (eqGuard op t x y (.agg us.toArray) (.agg vs.toArray)).run P w = .ok () w ∧ (binOp .eql t (.agg us.toArray) (.agg vs.toArray)).run P w = .ok (.bool (c.den E.ρ)) w ∧ (binOp .neq t (.agg us.toArray) (.agg vs.toArray)).run P w = .ok (.bool (!(c.den E.ρ))) w := by
  unfold evEqAgg at h
  split at h
  · simp at h
  · rename_i i hi
    split at h
    · rename_i fs hk
      split at h
      · rename_i hq
        have hti := htt t i hi
        have he := hti.eqs hq
        obtain ⟨flds, hu, hm⟩ := und_struct hti hk
        unfold eqsOf at he
        rw [hu] at he
        simp only [Bool.and_eq_true, Bool.not_eq_true', List.all_eq_true, bne_iff_ne, ne_eq] at he
        obtain ⟨⟨h1, h2⟩, h3⟩ := he
        have hf : P.fieldsOf t = flds := by simp [Program.fieldsOf, hu]
        have h10 : (10000 : Nat) = 9998 + 1 + 1 := rfl
        have key : (Op.equalIn 10000 t (.agg us.toArray) (.agg vs.toArray)).run P w = .ok (c.den E.ρ) w := by
          rw [h10]
          generalize (9998 : Nat) = n
          rw [run_equalIn_struct w (n + 1) t _ _ (by rw [hf]; exact hu) h1, hf]
          exact eqFs_ok htt hx hy n hm (fun f hf => (h3 f hf).1) h
        refine ⟨run_eqGuard_agg w op t x y _ _ h2, ?_, ?_⟩
        · rw [run_eql_struct, key]; rfl
        · rw [run_neq_struct, key]; rfl
      · simp at h
    · simp at h

/-! ### one operation -/
/-- what an operation does to the relation -/
def After [Glob] (E : En) (s : St) (w : World) (v : AV) (s' : St) (u : Value) (w' : World) : Prop := ∃ E', Stp E s.h w E' s'.h w' ∧ RelH E' s'.h w' ∧ VR E' w'.heap v u

def OpOk [Glob] (P : Program) (E : En) (s : St) (o : Oper) (a : Act) (w : World) (v : AV) (s' : St) : Prop :=
  s'.slots = s.slots ∧ PcOk E.ρ s'.pc ∧ OpW P o a w (After E s w v s')

theorem leaf_ret {α : Type} {ρ : Nat → Int} {a b : α} (h : (T.ret a).leaf ρ = some b) : a = b := by simpa [T.leaf] using h

theorem on1_ok {s : St} {a : Act} {x : Operand} {f : AV → T (AV × St)} {r : AV × St} (sr : SR E w.heap s.slots a) (h : (on1 s x f).leaf E.ρ = some r) : ∃ v, VR E w.heap v (a.eval x) ∧ (f v).leaf E.ρ = some r := by
  unfold on1 at h
  split at h
  · rename_i v hv; exact ⟨v, ev_ok sr hv, h⟩
  · simp [T.leaf] at h

theorem retV_ok {s s' : St} {v : AV} {r : Option AV} {ρ : Nat → Int} (h : (retV s r).leaf ρ = some (v, s')) : r = some v ∧ s' = s := by
  unfold retV at h
  split at h
  · have := leaf_ret h; simp only [Prod.mk.injEq] at this; exact ⟨by rw [this.1], this.2.symm⟩
  · simp [T.leaf] at h
theorem retH_ok {s s' : St} {v : AV} {r : Option Hp} {ρ : Nat → Int} (h : (retH s r).leaf ρ = some (v, s')) : ∃ H, r = some H ∧ v = AV.undef ∧ s' = { s with h := H } := by
  unfold retH at h
  split at h
  · rename_i H; have := leaf_ret h; simp only [Prod.mk.injEq] at this; exact ⟨H, rfl, this.1.symm, this.2.symm⟩
  · simp [T.leaf] at h
theorem retVH_ok {s s' : St} {v : AV} {r : Option (AV × Hp)} {ρ : Nat → Int} (h : (retVH s r).leaf ρ = some (v, s')) : ∃ H, r = some (v, H) ∧ s' = { s with h := H } := by
  unfold retVH at h
  split at h
  · rename_i x H; have := leaf_ret h; simp only [Prod.mk.injEq] at this; obtain ⟨rfl, rfl⟩ := this; exact ⟨H, rfl, rfl⟩
  · simp [T.leaf] at h

theorem undef_VR {h : Array Obj} : VR E h AV.undef undef := by simp only [AV.undef, VR, VRs]; exact ⟨[], rfl, rfl⟩

variable {s s' : St} {o : Oper} {a : Act} {v : AV}

theorem OpOk.pure [Glob] (hp : PcOk E.ρ s.pc) (r : RelH E s.h w) {u : Value} (h : (execOp a.eval o).run P w = .ok (.value u) w) (hv : VR E w.heap v u) : OpOk P E s o a w v s :=
  ⟨rfl, hp, OpW.value h ⟨E, Stp.refl _ _ _, r, hv⟩⟩

theorem OpOk.heap [Glob] {H' : Hp} {E' : En} {w' : World} (hp : PcOk E.ρ s.pc) {u : Value} (h : (execOp a.eval o).run P w = .ok (.value u) w') (h1 : Stp E s.h w E' H' w') (h2 : RelH E' H' w') (hv : VR E' w'.heap v u) :
    OpOk P E s o a w v { s with h := H' } :=
  ⟨rfl, hp, OpW.value h ⟨E', h1, h2, hv⟩⟩

theorem OpOk.unit [Glob] {H' : Hp} {w' : World} (hp : PcOk E.ρ s.pc) (h : (execOp a.eval o).run P w = .ok .skip w') (h1 : Stp E s.h w E H' w') (h2 : RelH E H' w') :
    OpOk P E s o a w AV.undef { s with h := H' } :=
  ⟨rfl, hp, OpW.skip h ⟨E, h1, h2, undef_VR⟩⟩

end
end Go.As

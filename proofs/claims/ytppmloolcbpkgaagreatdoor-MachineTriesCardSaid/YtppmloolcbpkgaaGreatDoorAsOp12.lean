import Derived.Test.YtppmloolcbpkgaaGreatDoorAsOp11
/-
  AS, part 16: every operation.
-/
namespace Go.As

theorem arr_map {α β : Type} (f : α → β) (xs : Array α) : xs.map f = (xs.toList.map f).toArray := by
  apply Array.ext'
  simp

/-- what comes of a call, as the operation sees it -/
def NextW (P : Program) (R : Value → World → Prop) : Result Next → Prop
  | .ok (.value u) w' => R u w'
  | .ok (.enter f args) w' => Calls P f args w' fun e w'' => ∃ u, e = .returned u ∧ R u w''
  | _ => False

def CallW (P : Program) (g : FuncId) (vals : Array Value) (w : World) (R : Value → World → Prop) : Prop := NextW P R ((callFunc g vals).run P w)

def FnOk [Glob] (P : Program) (g : FuncId) (f : List AV → St → T (AV × St)) : Prop :=
  ∀ (args : List AV) (s : St) (E : En) (w : World) (vals : List Value) (v : AV) (s' : St), RelH E s.h w → VRs E w.heap args vals → PcOk E.ρ s.pc → (f args s).leaf E.ρ = some (v, s') →
    s'.slots = s.slots ∧ PcOk E.ρ s'.pc ∧ CallW P g vals.toArray w (After E s w v s')

theorem inpCells_VRs {E : En} {h : Array Obj} {k : Nat} {e : SE} {i : Nat} (he : e.den E.ρ = (i : Int)) : ∀ (ks : List IntKind) (j : Nat),
    VRs E h (inpCells k e ks j) ((ks.zipIdx j).map fun p => .int p.1 (E.ρ (1000 + i * 64 + (k * 8 + p.2))))
  | [], j => by simp [inpCells, VRs]
  | kd :: ks, j => by
    simp only [inpCells, List.zipIdx_cons, List.map_cons]
    rw [VRs_cons]
    refine ⟨_, _, rfl, ?_, inpCells_VRs he ks (j + 1)⟩
    simp only [VR, SE.den, he, Int.toNat_natCast]

theorem evInpAt_ok {P : Program} {E : En} {w : World} {tt : TT} (htt : TTok P tt) {pc : List (SB × Bool)} (hp : PcOk E.ρ pc) {t k : Nat} {ks : List IntKind} {ix v : AV} {u ui : Value} (hx : VR E w.heap (.inp k ks) u) (hix : VR E w.heap ix ui)
    (h : evInpAt tt pc t k ks ix = some v) : ∃ r, (Instr.indexAt t u ui).run P w = .ok r w ∧ VR E w.heap v r := by
  unfold evInpAt at h
  split at h
  · rename_i kd e
    split at h
    · rename_i ti hti
      split at h
      · rename_i el hk
        have hu := und_slice (htt t ti hti) hk
        split at h
        · rename_i s hs
          simp only [sizeOf?, Option.map_eq_some_iff] at hs
          obtain ⟨ie, hie, rfl⟩ := hs
          split at h
          · rename_i hc
            split at h
            · rename_i h1 h2
              simp at h
              subst h
              have h1 := decideB_ok hp h1
              have h2 := decideB_ok hp h2
              rw [sbLt_den, decide_eq_false_iff_not] at h1
              rw [sbLt_den, decide_eq_true_eq] at h2
              simp only [SE.den, Int.not_lt] at h1 h2
              simp only [VR] at hx hix
              subst hix
              rcases hx with ⟨⟨x, cap, rfl⟩, h0⟩ | ⟨b, o, n, cap, rfl, g1, g2, g3, g4⟩
              · omega
              · obtain ⟨i, hi⟩ : ∃ i : Nat, e.den E.ρ = (i : Int) := ⟨(e.den E.ρ).toNat, by omega⟩
                have hin : i < n := by omega
                refine ⟨.pointer (some ⟨b, o + i * ie.size, none⟩), ?_, ?_⟩
                · rw [hi]
                  simp [Instr.indexAt, asIntOf, run_underlying hu, sizeOf_run (htt el ie hie), hin, add_none]
                · simp only [VR]
                  refine ⟨b, _, _, rfl, g3, inpCells_VRs hi ks 0, ?_, ?_⟩
                  · intro j u hj
                    rw [List.getElem?_map, List.getElem?_zipIdx, Option.map_map, Option.map_eq_some_iff] at hj
                    obtain ⟨kd', h3, rfl⟩ := hj
                    rw [hc.1, g4 i j kd' hin h3]
                    simp
                  · intro u hu'
                    rw [List.mem_map] at hu'
                    obtain ⟨p, _, rfl⟩ := hu'
                    rfl
            · simp at h
          · simp at h
        · simp at h
      · simp at h
    · simp at h
  · simp at h

theorem enumT_ok {E : En} {k : IntKind} {r : SE} : ∀ (n : Nat) (j : Int) {s s' : St} {v : AV}, PcOk E.ρ s.pc → j ≤ r.den E.ρ → r.den E.ρ ≤ j + n → (enumT k r n j s).leaf E.ρ = some (v, s') →
    s'.slots = s.slots ∧ s'.h = s.h ∧ PcOk E.ρ s'.pc ∧ ∀ h, VR E h v (.int k (r.den E.ρ))
  | 0, j, s, s', v, hp, h1, h2, h => by
    simp only [enumT, T.leaf, Option.some.injEq, Prod.mk.injEq] at h
    obtain ⟨rfl, rfl⟩ := h
    refine ⟨rfl, rfl, hp, fun h => ?_⟩
    simp only [VR, SE.den]
    congr 1
    omega
  | n + 1, j, s, s', v, hp, h1, h2, h => by
    simp only [enumT] at h
    obtain ⟨pc', hp', h3⟩ := onB_ok hp h
    rw [sbEq_den] at h3
    split at h3
    · rename_i he
      simp only [T.leaf, Option.some.injEq, Prod.mk.injEq] at h3
      obtain ⟨rfl, rfl⟩ := h3
      simp only [SE.den, beq_iff_eq] at he
      exact ⟨rfl, rfl, hp', fun h => by simp only [VR, SE.den, he]⟩
    · rename_i he
      simp only [SE.den, beq_eq_false_iff_ne, ne_eq] at he
      exact enumT_ok (s := { s with pc := pc' }) n (j + 1) hp' (by omega) (by push_cast at h2 ⊢; omega) h3

theorem remT_ok {E : En} {s s' : St} {k : IntKind} {e : SE} {n : Nat} {v : AV} (hp : PcOk E.ρ s.pc) (h : (remT s k e n).leaf E.ρ = some (v, s')) :
    s'.slots = s.slots ∧ s'.h = s.h ∧ PcOk E.ρ s'.pc ∧ ∀ h, VR E h v (.int k ((e.den E.ρ).tmod ((n : Int) + 1))) := by
  have hr : (SE.rem e (.lit (Int.ofNat (n + 1)))).den E.ρ = (e.den E.ρ).tmod ((n : Int) + 1) := by simp [SE.den]
  have hlt := Int.tmod_lt_of_pos (e.den E.ρ) (b := (n : Int) + 1) (by omega)
  unfold remT at h
  rw [← hr] at hlt ⊢
  split at h
  · rename_i hd
    have hd := decideB_ok hp hd
    rw [sbLt_den, decide_eq_false_iff_not] at hd
    simp only [SE.den, Int.not_lt] at hd
    have := Int.tmod_nonneg ((n : Int) + 1) hd
    rw [← hr] at this
    exact enumT_ok n 0 hp this (by omega) h
  · have : -(n : Int) ≤ (SE.rem e (.lit (Int.ofNat (n + 1)))).den E.ρ := by
      rw [hr]
      have h1 := Int.tmod_lt_of_pos (-(e.den E.ρ)) (b := (n : Int) + 1) (by omega)
      rw [Int.neg_tmod] at h1
      omega
    refine enumT_ok (n + n) (Int.negOfNat n) hp ?_ ?_ h
    · rw [Int.negOfNat_eq]; exact this
    · rw [Int.negOfNat_eq]
      have : (Int.ofNat n) = (n : Int) := rfl
      rw [this]; push_cast; omega

theorem remLit_ok {E : En} {h : Array Obj} {op : BinOp} {a b : AV} {k : IntKind} {e : SE} {n : Nat} (hr : remLit op a b = some (k, e, n)) {u u' : Value} (ha : VR E h a u) (hb : VR E h b u') :
    op = .rem ∧ u = .int k (e.den E.ρ) ∧ u' = .int k ((n : Int) + 1) := by
  unfold remLit at hr
  split at hr
  · split at hr
    · split at hr
      · split at hr
        · split at hr
          · split at hr
            · simp at hr
            · split at hr
              · simp at hr
              · split at hr
                · rename_i hc
                  simp only [Option.some.injEq, Prod.mk.injEq] at hr
                  obtain ⟨rfl, rfl, rfl⟩ := hr
                  simp only [VR] at ha hb
                  refine ⟨rfl, ha, ?_⟩
                  rw [hb, hc.1]
                  simp [SE.den]
                · simp at hr
          · simp at hr
        · simp at hr
      · simp at hr
    · simp at hr
  · simp at hr

def CallOk [Glob] (P : Program) (call : Calls?) : Prop := ∀ g, FnOk P g (call g)

theorem OpW.next {P : Program} {o : Oper} {a : Act} {w : World} {R : Value → World → Prop} (h : NextW P R ((execOp a.eval o).run P w)) : OpW P o a w R := by
  intro K Q hk
  unfold Oper.wp
  generalize (execOp a.eval o).run P w = r at h
  cases r with
  | halt x w' => exact h.elim
  | ok n w' =>
    cases n <;> first
      | exact h.elim
      | exact hk _ _ h
      | (exact Calls.mono h fun e w'' ⟨u, he, hr⟩ => by subst he; exact hk _ _ hr)

section
variable {P : Program} {E : En} {w : World} {s s' : St} {o : Oper} {a : Act} {v : AV}

theorem evBuiltin_ok [Glob] {tt : TT} (htt : TTok P tt) (r : RelH E s.h w) (hp : PcOk E.ρ s.pc) {b : Builtin} {ts : List Nat} {args : List AV} {vals : List Value} (hv : VRs E w.heap args vals) (ty : Nat) (cs : Array Bool)
    (h : (evBuiltin tt s b ts args).leaf E.ρ = some (v, s')) : s'.slots = s.slots ∧ PcOk E.ρ s'.pc ∧ ∃ u w', (builtin b ts.toArray ty cs vals.toArray).run P w = .ok (.value u) w' ∧ After E s w v s' u w' := by
  unfold evBuiltin at h
  split at h
  · rename_i t x
    obtain ⟨e1, rfl⟩ := retV_ok h
    rw [VRs_cons] at hv
    obtain ⟨u, vs, rfl, hx, hxs⟩ := hv
    rw [VRs_nil] at hxs
    subst hxs
    obtain ⟨y, h1, h2⟩ := evLen_ok (ty := ty) htt r hx e1
    exact ⟨rfl, hp, y, w, by simp [builtin, h1], E, Stp.refl _ _ _, r, h2⟩
  · rename_i t t2 x y
    obtain ⟨H, e1, rfl⟩ := retVH_ok h
    rw [VRs_cons] at hv
    obtain ⟨u, vs, rfl, hx, hxs⟩ := hv
    rw [VRs_cons] at hxs
    obtain ⟨u2, vs, rfl, hy, hys⟩ := hxs
    rw [VRs_nil] at hys
    subst hys
    obtain ⟨z, w', E', h1, h2, h3, h4⟩ := evAppend_ok (ty := ty) htt r hx hy e1
    exact ⟨rfl, hp, z, w', by simp [builtin, h1], E', h2, h3, h4⟩
  · rename_i t ts' m k
    obtain ⟨H, e1, rfl, rfl⟩ := retH_ok h
    rw [VRs_cons] at hv
    obtain ⟨u, vs, rfl, hx, hxs⟩ := hv
    rw [VRs_cons] at hxs
    obtain ⟨u2, vs, rfl, hy, hys⟩ := hxs
    rw [VRs_nil] at hys
    subst hys
    obtain ⟨w', h1, h2, h3⟩ := evDelete_ok (ts := ts') htt hp r hx hy e1 ty
    exact ⟨rfl, hp, .tuple #[], w', by simp [builtin, h1], E, h2, h3, by simp only [AV.undef, VR, VRs]; exact ⟨[], rfl, rfl⟩⟩
  · rename_i t x
    obtain ⟨H, e1, rfl, rfl⟩ := retH_ok h
    rw [VRs_cons] at hv
    obtain ⟨u, vs, rfl, hx, hxs⟩ := hv
    rw [VRs_nil] at hxs
    subst hxs
    obtain ⟨w', h1, h2, h3⟩ := evClear_ok (ty := ty) htt r hx e1
    exact ⟨rfl, hp, .tuple #[], w', by simp [builtin, h1], E, h2, h3, by simp only [AV.undef, VR, VRs]; exact ⟨[], rfl, rfl⟩⟩
  · rename_i k e xs
    rw [VRs_cons] at hv
    obtain ⟨u, vs, rfl, hx, hxs⟩ := hv
    simp only [VR] at hx
    subst hx
    obtain ⟨q1, q2, q3, u, q4, q5⟩ := foldMin_ok (P := P) (w := w) hp hxs h
    refine ⟨q2, q3, u, w, ?_, E, by rw [q1]; exact Stp.refl _ _ _, by rw [q1]; exact r, q5⟩
    simp only [Bool.false_eq_true, if_false] at q4
    simp [builtin, Builtin.min_, q4]
  · rename_i k e xs
    rw [VRs_cons] at hv
    obtain ⟨u, vs, rfl, hx, hxs⟩ := hv
    simp only [VR] at hx
    subst hx
    obtain ⟨q1, q2, q3, u, q4, q5⟩ := foldMin_ok (P := P) (w := w) hp hxs h
    refine ⟨q2, q3, u, w, ?_, E, by rw [q1]; exact Stp.refl _ _ _, by rw [q1]; exact r, q5⟩
    simp only [if_true] at q4
    simp [builtin, Builtin.max_, q4]
  · simp [T.leaf] at h

theorem evCall_ok [Glob] {tt : TT} (htt : TTok P tt) {call : Calls?} (hc : CallOk P call) (r : RelH E s.h w) (sr : SR E w.heap s.slots a) (hp : PcOk E.ρ s.pc) {c : Call} (ho : o.op = .call c)
    (h : (evCall tt call s c).leaf E.ρ = some (v, s')) : OpOk P E s o a w v s' := by
  unfold evCall at h
  split at h
  · simp [T.leaf] at h
  · rename_i args hargs
    have hv := evs_ok sr hargs
    have hmap : c.args.map a.eval = (c.args.toList.map a.eval).toArray := arr_map _ _
    split at h
    · rename_i b hcal
      obtain ⟨q1, q2, u, w', q3, q4⟩ := evBuiltin_ok htt r hp hv o.type (c.args.map fun | .const _ => true | _ => false) h
      refine ⟨q1, q2, OpW.value ?_ q4⟩
      simp only [execOp, ho, resolve, hcal, Sem.run_bind, Sem.run_pure, Result.andThen_ok, invoke, hmap]
      exact q3
    · rename_i f hcal
      split at h
      · rename_i g fs cs hf
        have hfv := ev_ok sr hf
        simp only [VR] at hfv
        obtain ⟨us, ws, he, h1, h2⟩ := hfv
        obtain ⟨q1, q2, q3⟩ := hc g _ s E w _ v s' r ((h1.append hv).append h2) hp h
        refine ⟨q1, q2, OpW.next ?_⟩
        unfold CallW at q3
        simp only [execOp, ho, resolve, hcal, Sem.run_bind, he, Deferred.ofValue, Sem.run_pure, Result.andThen_ok, invoke, hmap]
        simpa using q3
      · simp [T.leaf] at h
    · simp [T.leaf] at h

theorem evOp_ok [Glob] {tt : TT} (htt : TTok P tt) {call : Calls?} (hc : CallOk P call) (r : RelH E s.h w) (sr : SR E w.heap s.slots a) (hp : PcOk E.ρ s.pc) (h : (evOp tt call s o.op).leaf E.ρ = some (v, s')) : OpOk P E s o a w v s' := by
  obtain ⟨dst, op, type, pos, after, guard⟩ := o
  simp only at h
  cases op <;> simp only [evOp] at h <;> first | (simp [T.leaf] at h; done) | skip
  case move x =>
    obtain ⟨u, h1, h2⟩ := on1_ok sr h
    have := leaf_ret h2
    simp only [Prod.mk.injEq] at this
    obtain ⟨rfl, rfl⟩ := this
    exact OpOk.pure hp r (u := a.eval x) rfl h1
  case assign x =>
    obtain ⟨u, h1, h2⟩ := on1_ok sr h
    have := leaf_ret h2
    simp only [Prod.mk.injEq] at this
    obtain ⟨rfl, rfl⟩ := this
    exact OpOk.pure hp r (u := a.eval x) rfl h1
  case pick c x y =>
    obtain ⟨cv, h1, h2⟩ := on1_ok sr h
    split at h2
    · rename_i cb
      obtain ⟨pc', hp', h3⟩ := onB_ok hp h2
      simp only [VR] at h1
      cases hcd : cb.den E.ρ <;> rw [hcd] at h1 h3
      · simp only [Bool.false_eq_true, if_false] at h3
        obtain ⟨u, h4, h5⟩ := on1_ok (s := { s with pc := pc' }) sr h3
        have := leaf_ret h5
        simp only [Prod.mk.injEq] at this
        obtain ⟨rfl, rfl⟩ := this
        exact ⟨rfl, hp', OpW.value (u := a.eval y) (by simp [execOp, h1, asBool]) ⟨E, Stp.refl _ _ _, r, h4⟩⟩
      · simp only [if_true] at h3
        obtain ⟨u, h4, h5⟩ := on1_ok (s := { s with pc := pc' }) sr h3
        have := leaf_ret h5
        simp only [Prod.mk.injEq] at this
        obtain ⟨rfl, rfl⟩ := this
        exact ⟨rfl, hp', OpW.value (u := a.eval x) (by simp [execOp, h1, asBool]) ⟨E, Stp.refl _ _ _, r, h4⟩⟩
    · simp [T.leaf] at h2
  case alloc t =>
    split at h
    · rename_i i hi
      have := leaf_ret h
      simp only [Prod.mk.injEq] at this
      obtain ⟨rfl, rfl⟩ := this
      obtain ⟨inf, z, g1, g2, g3, g4, g5⟩ := info_of (htt t i hi)
      have hz := ofScalars_VRs (E := E) (h := w.heap) g5
      obtain ⟨s1, s2⟩ := newcells_step r z.cells 0 0 t hz.1 hz.2 (fun i u hu => by rw [← Array.getElem?_toList]; exact hu) (by omega) (w' := { w with heap := w.heap.push (.cells z.cells t) }) rfl ⟨rfl, rfl, rfl⟩
      exact OpOk.heap hp (u := .pointer (some ⟨w.heap.size, 0, none⟩)) (by simp [execOp, Instr.alloc, zeroValue, typeInfo, g1, g4, newVar, newRow]) s1 s2 (ptr_new r _ _ 0)
    · simp [T.leaf] at h
  case box t x =>
    obtain ⟨u, h1, h2⟩ := on1_ok sr h
    split at h2
    · rename_i hone
      have := leaf_ret h2
      simp only [Prod.mk.injEq] at this
      obtain ⟨rfl, rfl⟩ := this
      have hcv := h1.cells hone
      obtain ⟨s1, s2⟩ := newcells_step r (a.eval x).cells 0 0 t hcv (hcv.ones hone) (fun i u hu => by rw [← Array.getElem?_toList]; exact hu) (by omega) (w' := { w with heap := w.heap.push (.cells (a.eval x).cells t) }) rfl ⟨rfl, rfl, rfl⟩
      exact OpOk.heap hp (u := .pointer (some ⟨w.heap.size, 0, none⟩)) (by simp [execOp, Instr.box, newVar, newRow]) s1 s2 (ptr_new r _ _ 0)
    · simp [T.leaf] at h2
  case build t parts =>
    split at h
    · rename_i ps hps
      obtain ⟨e1, rfl⟩ := retV_ok h
      have hpr := evParts_ok sr hps
      obtain ⟨x, h1, h2⟩ := evBuild_ok (w := w) (ps := parts.map fun p => (p.1, a.eval p.2)) htt (by simpa using hpr) e1
      exact OpOk.pure hp r (u := x) (by simp [execOp, h1]) h2
    · simp [T.leaf] at h
  case buildSlice t len parts =>
    split at h
    · rename_i ps hps
      obtain ⟨H, e1, rfl⟩ := retVH_ok h
      have hpr := evParts_ok sr hps
      obtain ⟨x, w', E', h1, h2, h3, h4⟩ := evBuildSlice_ok (ps := parts.map fun p => (p.1, a.eval p.2)) htt r (by simpa using hpr) e1
      exact OpOk.heap hp (u := x) (by simp [execOp, h1]) h2 h3 h4
    · simp [T.leaf] at h
  case makeSlice t l c =>
    obtain ⟨u, h1, h2⟩ := on1_ok sr h
    split at h2
    · rename_i cv hc
      obtain ⟨H, e1, rfl⟩ := retVH_ok h2
      obtain ⟨x, w', E', g1, g2, g3, g4⟩ := evMakeSlice_ok htt r h1 (ev_ok sr hc) e1
      exact OpOk.heap hp (u := x) (by simp [execOp, g1]) g2 g3 g4
    · simp [T.leaf] at h2
  case insert t m k x =>
    obtain ⟨u, h1, h2⟩ := on1_ok sr h
    split at h2
    · rename_i kv xv hk hx
      obtain ⟨H, e1, rfl, rfl⟩ := retH_ok h2
      obtain ⟨w', g1, g2, g3⟩ := evMapUpdate_ok htt hp r h1 (ev_ok sr hk) (ev_ok sr hx) e1
      exact OpOk.unit hp (by simp [execOp, g1]) g2 g3
    · simp [T.leaf] at h2
  case load t x =>
    obtain ⟨u, h1, h2⟩ := on1_ok sr h
    obtain ⟨e1, rfl⟩ := retV_ok h2
    obtain ⟨y, b, off, g1, g2, g3⟩ := evLoad_ok htt r h1 e1
    exact OpOk.pure hp r (u := y) (by simp [execOp, Instr.loadAt, g1, Instr.sureAddr, g2]) g3
  case store t x y =>
    obtain ⟨u, h1, h2⟩ := on1_ok sr h
    split at h2
    · rename_i yv hy
      obtain ⟨H, e1, rfl, rfl⟩ := retH_ok h2
      obtain ⟨w', g1, g2, g3⟩ := evStore_ok htt r h1 (ev_ok sr hy) e1
      exact OpOk.unit hp (by simp [execOp, g1]) g2 g3
    · simp [T.leaf] at h2
  case nilCheck x =>
    obtain ⟨u, h1, h2⟩ := on1_ok sr h
    split at h2
    · have := leaf_ret h2
      simp only [Prod.mk.injEq] at this
      obtain ⟨rfl, rfl⟩ := this
      have h1' := h1
      simp only [VR] at h1
      exact OpOk.pure hp r (u := a.eval x) (by simp [execOp, h1.1]) h1'
    · have := leaf_ret h2
      simp only [Prod.mk.injEq] at this
      obtain ⟨rfl, rfl⟩ := this
      have h1' := h1
      simp only [VR] at h1
      obtain ⟨b, off, us, hu, _⟩ := h1
      exact OpOk.pure hp r (u := a.eval x) (by simp [execOp, hu]) h1'
    · simp [T.leaf] at h2
  case binOp bop t x y yt =>
    obtain ⟨u, h1, h2⟩ := on1_ok sr h
    split at h2
    · rename_i yv hy
      have hyv := ev_ok sr hy
      split at h2
      · rename_i xs
        simp only [VR] at h1
        obtain ⟨us, hus, h1⟩ := h1
        split at h2
        · rename_i ys
          simp only [VR] at hyv
          obtain ⟨vs, hvs, hyv⟩ := hyv
          split at h2
          · rename_i c hcc
            have := leaf_ret h2
            simp only [Prod.mk.injEq] at this
            obtain ⟨rfl, rfl⟩ := this
            obtain ⟨g1, g2, g3⟩ := evEqAgg_ok (w := w) htt h1 hyv hcc .eql x y
            exact OpOk.pure hp r (u := .bool (c.den E.ρ)) (by simp [execOp, hus, hvs, g1, g2]) (by simp only [VR])
          · simp [T.leaf] at h2
        · rename_i ys
          simp only [VR] at hyv
          obtain ⟨vs, hvs, hyv⟩ := hyv
          split at h2
          · rename_i c hcc
            have := leaf_ret h2
            simp only [Prod.mk.injEq] at this
            obtain ⟨rfl, rfl⟩ := this
            obtain ⟨g1, g2, g3⟩ := evEqAgg_ok (w := w) htt h1 hyv hcc .neq x y
            exact OpOk.pure hp r (u := .bool (!(c.den E.ρ))) (by simp [execOp, hus, hvs, g1, g3]) (by simp only [VR, sbNot_den])
          · simp [T.leaf] at h2
        · simp [T.leaf] at h2
      · split at h2
        · rename_i k e n hrl
          obtain ⟨rfl, hu1, hu2⟩ := remLit_ok hrl h1 hyv
          obtain ⟨q1, q2, q3, q4⟩ := remT_ok hp h2
          refine ⟨q1, q3, OpW.value (u := .int k ((e.den E.ρ).tmod ((n : Int) + 1))) (w' := w) ?_ ⟨E, by rw [q2]; exact Stp.refl _ _ _, by rw [q2]; exact r, q4 _⟩⟩
          have hne : ¬ ((n : Int) + 1 = 0) := by omega
          simp [execOp, hu1, hu2, binOp, Op.intDiv, hne, eqGuard]
        · obtain ⟨e1, rfl⟩ := retV_ok h2
          obtain ⟨⟨y', g1, g2⟩, g3, g4⟩ := evBin_ok (w := w) htt h1 hyv e1
          exact OpOk.pure hp r (u := y') (by simp [execOp, eqGuard_run (P := P) (w := w) g3 g4, g1]) g2
    · simp [T.leaf] at h2
  case unOp uop t x =>
    obtain ⟨u, h1, h2⟩ := on1_ok sr h
    obtain ⟨e1, rfl⟩ := retV_ok h2
    obtain ⟨y, g1, g2⟩ := evUn_ok (P := P) (w := w) h1 e1
    exact OpOk.pure hp r (u := y) (by simp [execOp, g1]) g2
  case convert sT dT x =>
    obtain ⟨u, h1, h2⟩ := on1_ok sr h
    obtain ⟨H, e1, rfl⟩ := retVH_ok h2
    obtain ⟨y, w', E', g1, g2, g3, g4⟩ := evConvert_ok htt r h1 e1
    exact OpOk.heap hp (u := y) (by simp [execOp, g1]) g2 g3 g4
  case makeFunc fn fs cs =>
    split at h
    · rename_i f c hf hcs
      have := leaf_ret h
      simp only [Prod.mk.injEq] at this
      obtain ⟨rfl, rfl⟩ := this
      have h1 := evs_ok sr hf
      have h2 := evs_ok sr hcs
      refine OpOk.pure hp r (u := .func fn (fs.map a.eval) (cs.map a.eval)) (by simp [execOp, Instr.makeFunc]) ?_
      simp only [VR]
      have m1 : fs.map a.eval = (fs.toList.map a.eval).toArray := arr_map _ _
      have m2 : cs.map a.eval = (cs.toList.map a.eval).toArray := arr_map _ _
      exact ⟨_, _, by rw [m1, m2], h1, h2⟩
    · simp [T.leaf] at h
  case makeMap t res =>
    split at h
    · have := leaf_ret h
      simp only [Prod.mk.injEq] at this
      obtain ⟨rfl, rfl⟩ := this
      obtain ⟨s1, s2⟩ := new_step r (.map #[] 0) (.map [] 0) 0 (w' := { w with heap := w.heap.push (.map #[] 0) }) rfl ⟨rfl, rfl, rfl⟩ (by
        simp only [OR, En.ext_θ_new]
        exact ⟨#[], 0, by simp, by simp [EntR]⟩)
      exact OpOk.heap hp (u := .map (some w.heap.size)) (by simp [execOp, Instr.makeMap]) s1 s2 (by simp only [VR, En.ext_θ_new]; exact ⟨trivial, En.ext_dm_new _ _ _ _⟩)
    · simp [T.leaf] at h
  case slice t x lo hi mx =>
    obtain ⟨u, h1, h2⟩ := on1_ok sr h
    split at h2
    · rename_i l hh m hl hhh hm
      split at h2
      · rename_i v' e1
        have := leaf_ret h2
        simp only [Prod.mk.injEq] at this
        obtain ⟨rfl, rfl⟩ := this
        obtain ⟨y, g1, g2⟩ := evSlice_ok (w := w) htt h1 (evOpt_ok sr hl) (evOpt_ok sr hhh) (evOpt_ok sr hm) e1
        exact OpOk.pure hp r (u := y) (by simp [execOp, g1]) g2
      · obtain ⟨e1, rfl⟩ := retV_ok h2
        obtain ⟨y, g1, g2⟩ := evSliceH_ok (w := w) htt r h1 (evOpt_ok sr hl) (evOpt_ok sr hhh) (evOpt_ok sr hm) e1
        exact OpOk.pure hp r (u := y) (by simp [execOp, g1]) g2
    · simp [T.leaf] at h2
  case fieldAddr t x f =>
    obtain ⟨u, h1, h2⟩ := on1_ok sr h
    obtain ⟨e1, rfl⟩ := retV_ok h2
    obtain ⟨y, g1, g2⟩ := evFieldAddr_ok (w := w) htt h1 e1
    exact OpOk.pure hp r (u := y) (by simp [execOp, g1]) g2
  case field t x f =>
    obtain ⟨u, h1, h2⟩ := on1_ok sr h
    obtain ⟨e1, rfl⟩ := retV_ok h2
    obtain ⟨y, g1, g2⟩ := evField_ok (w := w) htt h1 e1
    exact OpOk.pure hp r (u := y) (by simp [execOp, g1]) g2
  case indexAddr t x i =>
    obtain ⟨u, h1, h2⟩ := on1_ok sr h
    split at h2
    · rename_i iv hi
      split at h2
      · obtain ⟨e1, rfl⟩ := retV_ok h2
        obtain ⟨y, g1, g2⟩ := evInpAt_ok (w := w) htt hp h1 (ev_ok sr hi) e1
        exact OpOk.pure hp r (u := y) (by simp [execOp, g1]) g2
      · obtain ⟨e1, rfl⟩ := retV_ok h2
        obtain ⟨y, g1, g2⟩ := evIndexAddr_ok (w := w) htt h1 (ev_ok sr hi) e1
        exact OpOk.pure hp r (u := y) (by simp [execOp, g1]) g2
    · simp [T.leaf] at h2
  case index t x i =>
    obtain ⟨u, h1, h2⟩ := on1_ok sr h
    split at h2
    · rename_i iv hi
      obtain ⟨e1, rfl⟩ := retV_ok h2
      obtain ⟨y, g1, g2⟩ := evIndex_ok (w := w) htt h1 (ev_ok sr hi) e1
      exact OpOk.pure hp r (u := y) (by simp [execOp, g1]) g2
    · simp [T.leaf] at h2
  case lookup t m k ok =>
    obtain ⟨u, h1, h2⟩ := on1_ok sr h
    split at h2
    · rename_i kv hk
      obtain ⟨e1, rfl⟩ := retV_ok h2
      obtain ⟨y, g1, g2⟩ := evLookup_ok htt hp r h1 (ev_ok sr hk) e1
      exact OpOk.pure hp r (u := y) (by simp [execOp, g1]) g2
    · simp [T.leaf] at h2
  case mapUpdate t m k x =>
    obtain ⟨u, h1, h2⟩ := on1_ok sr h
    split at h2
    · rename_i kv xv hk hx
      obtain ⟨H, e1, rfl, rfl⟩ := retH_ok h2
      obtain ⟨w', g1, g2, g3⟩ := evMapUpdate_ok htt hp r h1 (ev_ok sr hk) (ev_ok sr hx) e1
      exact OpOk.unit hp (by simp [execOp, g1]) g2 g3
    · simp [T.leaf] at h2
  case range t x =>
    obtain ⟨u, h1, h2⟩ := on1_ok sr h
    obtain ⟨H, e1, rfl⟩ := retVH_ok h2
    obtain ⟨y, w', E', g1, g2, g3, g4⟩ := evRange_ok htt r h1 e1
    exact OpOk.heap hp (u := y) (by simp [execOp, g1]) g2 g3 g4
  case next x isS =>
    obtain ⟨u, h1, h2⟩ := on1_ok sr h
    obtain ⟨H, e1, rfl⟩ := retVH_ok h2
    obtain ⟨y, w', g1, g2, g3, g4⟩ := evNext_ok (P := P) r h1 e1 type
    exact OpOk.heap hp (u := y) (by simp [execOp, g1]) g2 g3 g4
  case extract x i =>
    obtain ⟨u, h1, h2⟩ := on1_ok sr h
    split at h2
    · rename_i vs
      obtain ⟨e1, rfl⟩ := retV_ok h2
      simp only [VR] at h1
      obtain ⟨us, hus, h1⟩ := h1
      obtain ⟨y, g1, g2⟩ := h1.nth e1
      exact OpOk.pure hp r (u := y) (by simp [execOp, Instr.extract, hus, g1]) g2
    · simp [T.leaf] at h2
  case call c => exact evCall_ok htt hc r sr hp rfl h

end
end Go.As

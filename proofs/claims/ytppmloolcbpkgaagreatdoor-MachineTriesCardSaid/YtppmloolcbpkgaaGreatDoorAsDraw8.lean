import Derived.Test.YtppmloolcbpkgaaGreatDoorAsDraw7
/-
  AS, part 26: regions in any order serve.
-/
namespace Go.As

section
variable {P : Program}

theorem draw_any [Glob] {tt : TT} (htt : TTok P tt) {call : Calls?} (hc : CallOk P call) {ops : Array Oper} {E : En} {s s' : St} {a : Act} {w : World} {Q : Exit → Act → World → Prop}
    (hd : ∀ o ∈ ops.toList, ∀ d, o.dst = some d → d < a.tmps.size) (fit : Fit E s a w) (h : (draw tt call ops.toList s).leaf E.ρ = some s') (hq : ∀ a' w', Then E s a w s' a' w' → Q .normal a' w') :
    wpAny P .any ops Q ops.size (Array.replicate ops.size false) a { w with drawn := w.drawn + 1 } := by
  unfold draw drawQ at h
  split at h
  · simp [T.leaf] at h
  · rename_i q hq0
    split at h
    · simp [T.leaf] at h
    · rename_i hres
      simp only at h
      obtain ⟨d, h1, h2⟩ := T.leaf_bind h
      obtain ⟨ms, e1, e2, e3, sf⟩ := stat_ok hq0
      rw [e1, ] at h1
      have rf := dRun_ok htt hc fit.pc _ h1
      split at h2
      · simp [T.leaf] at h2
      · rename_i h0 mm rest hstg
        obtain ⟨⟨⟩, h3, h4⟩ := T.leaf_bind h2
        split at h4
        · rename_i hun
          have := leaf_ret h4
          subst this
          have hrs := rCheck_ok htt hc fit.pc q.rs (by
            intro r hr
            rw [e3, List.mem_map] at hr
            obtain ⟨x, hx, rfl⟩ := hr
            rw [List.mem_filter, e1] at hx
            obtain ⟨j, o, ho, rfl⟩ := items_mem hx.1
            have h5 : (kindOf tt o.op).isR = true := hx.2
            show kindOf tt o.op = .r
            revert h5
            cases kindOf tt o.op <;> simp [Kind.isR]) h3
          rw [e3, e1, e2] at hrs
          obtain ⟨p, p1, p2, p3, p4, p5, p6⟩ := plan_of sf (base := s.h.next) (H0 := s.h) rfl (Nat.le_add_right _ _) rf hrs hun
          have hsz : ∀ (j : Nat), ops.toList[j]? = ops[j]? := fun j => Array.getElem?_toList
          let w1 : World := { w with drawn := w.drawn + 1 }
          have fit1 : Fit E s a w1 := ⟨⟨fit.rel.fresh, fit.rel.res, fit.rel.live, fit.rel.inj, fit.rel.rob, fit.rel.glob⟩, fit.sr, fit.pc⟩
          have hlist : ∀ (i : Nat), (Array.replicate ops.size false)[i]? ≠ some true := by
            intro i hh
            have := Array.mem_of_getElem? hh
            simp at this
          refine p.any (E0 := E) (a0 := a) (w0 := w1) hd ?_ ops.size _ a w1 (by simp) ?_ (p.start rfl rfl rfl fit1 _ hlist)
          · intro a' w' inv
            obtain ⟨ps, s1, s2⟩ := rf.stg
            rw [countE_items] at s2
            have hlen : rest.length = cntE tt ops.toList := by
              have : d.stg.length = cntE tt ops.toList + 1 := by rw [s1, List.length_append, s2]; rfl
              rw [hstg] at this
              simpa using this
            have hlast : d.stg.reverse[cntE tt ops.toList]? = some (h0, mm) := by
              rw [← hlen]
              exact rev_at (pre := []) hstg
            obtain ⟨q1, q2⟩ := p4 _ _ _ hlast
            have hnx := rf.nxt (by
              intro q hq
              simp only [List.mem_cons, List.not_mem_nil, or_false] at hq
              subst hq
              exact ⟨Nat.le_add_right _ _, rfl⟩) (h0, mm) (by rw [hstg]; simp)
            have ht := p.finish (s0 := s) (s' := { s with slots := d.slots, h := addBlks s.h.next ((1 <<< ops.toList.length) - 1) mm d.blks h0 }) (w0 := w1) rfl inv fit.pc ?_ ?_ ?_ ?_ p6
            · refine hq a' w' ⟨ht.defers, ht.size, ?_⟩
              obtain ⟨E', st, f'⟩ := ht.step
              exact ⟨E', ⟨st.ρ, st.dm, st.θ, st.κ, st.ro, st.roe, st.nxm, st.rsm, st.dmn, st.os, st.tape, st.output, st.size, st.keep, st.own⟩, f'⟩
            · intro t x ht
              rcases rf.slot t x ht with ⟨j, y, g1, g2, g3⟩ | ⟨g1, g2⟩
              · cases hoj : ops.toList[j]? with
                | none => rw [items_get, hoj] at g1; simp at g1
                | some oj =>
                  rw [items_at hoj] at g1
                  simp at g1
                  subst g1
                  refine .inl ⟨j, oj, by rw [← hsz]; exact hoj, g2, ?_⟩
                  simp only [List.length_nil, Nat.zero_add] at g3
                  rw [p3, g3]
                  rfl
              · refine .inr ⟨g1, fun j oj hoj => ?_⟩
                exact g2 _ (List.mem_of_getElem? (items_at (by rw [hsz]; exact hoj)))
            · intro id x hx
              rw [p2, q1, p1]
              rcases addBlks_get hx with h | ⟨b, b1, b2, b3, b4⟩
              · exact .inl h
              · right
                have hlt : b < ops.size := by
                  have := shift_bit b2
                  simpa using this
                refine ⟨b, hlt, by rw [q2, b3]; rfl, b4, ?_⟩
                rcases rf.blk b x b1 with h | ⟨j, y, g1, g2, g3⟩
                · simp at h
                · cases hoj : ops.toList[j]? with
                  | none => rw [items_get, hoj] at g1; simp at g1
                  | some oj =>
                    rw [items_at hoj] at g1
                    simp at g1
                    subst g1
                    have : j = b := g2
                    subst this
                    simp only [List.length_nil, Nat.zero_add] at g3
                    rw [p5, g3]
                    rfl
            · rw [p2, q1]
              exact (addBlks_next _ _).1.symm
            · show (addBlks s.h.next ((1 <<< ops.toList.length) - 1) mm d.blks h0).res = none
              rw [(addBlks_next _ _).2]
              exact hnx.2
          · have : ∀ (l : Nat → Bool) (n : Nat), left l n ≤ n := by
              intro l n
              induction n with
              | zero => exact Nat.le_refl _
              | succ n ih => simp only [left]; split <;> omega
            exact this _ _
        · simp [T.leaf] at h4

theorem draw_ok [Glob] {tt : TT} (htt : TTok P tt) (hm : P.follows .mixedOrders = true) {call : Calls?} (hc : CallOk P call) : DrawAny P (draw tt call) := by
  intro id ops E s s' a w Q hd fit h hq
  exact wp_region_any hm (draw_any htt hc hd fit h hq)

end
end Go.As

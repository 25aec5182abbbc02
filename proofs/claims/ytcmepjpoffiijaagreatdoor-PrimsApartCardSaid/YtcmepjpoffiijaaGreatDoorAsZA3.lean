import GoSem.Claim
import Derived.Orders
import Derived.Scope
import Derived.LoopN
import Derived.Below
import GoSem.Core.View
import GoSem.Core.Layout
import GoSem.Op.Equal
import Derived.WalkKit
import Derived.Lib.Strings
import Derived.Laws.IdiomStrings
import Derived.Laws.RangeString
import Derived.Laws.StructEq
import Derived.Test.YtcmepjpoffiijaaGreatDoorAsZA2
set_option linter.unusedSectionVars false
set_option linter.unusedVariables false
set_option linter.unusedSimpArgs false
section
namespace Go.As
section
variable {P : Program} {E : En} {w : World}
theorem Xh {h : Array Obj} {id t : Nat} {n : SE} {u : Value} (hv : VR E h (.uM id n t) u) : VR E h (.yX id (.lit 0) n t) u := by
 simp only [VR] at hv ⊢
 obtain ⟨h1, k, a, cap, h2, h3, h4, h5⟩ := hv
 exact ⟨h1, 0, k, a, cap, rfl, h2, h3, h4, by rw [Nat.zero_mul]; exact h5⟩
theorem V6 {tt : TT} (htt : dW P tt) {s s' : St} (hp : aZ E.ρ s.pc) {ty t id : Nat} {lo n : SE} {ix v : AV} {u ui : Value} (hx : VR E w.heap (.yX id lo n t) u) (hix : VR E w.heap ix ui) (h : (QB tt s ty id t lo n ix).leaf E.ρ = some (v, s')) :
 s'.slots = s.slots ∧ s'.h = s.h ∧ aZ E.ρ s'.pc ∧ ∃ r, (Instr.indexAt ty u ui).run P w = .ok r w ∧ VR E w.heap v r := by
 unfold QB at h
 split at h
 ·rename_i kd i
  split at h
  ·rename_i z hz
   split at h
   ·rename_i hes
    obtain ⟨pc', hp', h1, h2, h3⟩ := pY hp h
    have := aF h3
    simp only [Prod.mk.injEq] at this
    obtain ⟨rfl, rfl⟩ := this
    refine ⟨rfl, rfl, hp', ?_⟩
    simp only [VR] at hx hix
    subst hix
    obtain ⟨hid, l, m, a, cap, hl, hn, rfl, hcap, hc⟩ := hx
    obtain ⟨el, ie, hu, hie, rfl⟩ := pU htt hz
    obtain ⟨k, hk⟩ : ∃ k : Nat, i.den E.ρ = (k : Int) := ⟨(i.den E.ρ).toNat, by omega⟩
    have hlt : k < m := by omega
    have ha : a = ⟨(E.θ id).1, (E.θ id).2 + l * ie.size, none⟩ := by
     simp only [fE] at hc
     rcases hc with hc | hc
     ·rw [hes]; exact hc.1
     ·omega
    subst ha
    refine ⟨.pointer (some ⟨(E.θ id).1, (E.θ id).2 + l * ie.size + k * ie.size, none⟩), ?_, ?_⟩
    ·rw [hk]
     simp [Instr.indexAt, asIntOf, run_underlying hu, dQ (htt el ie hie), hlt, eX]
    ·simp only [VR]
     exact ⟨hid, l + k, by rw [sQ, hl, hk]; rfl, by rw [Nat.add_zero, Nat.add_mul, Nat.add_assoc]⟩
   ·simp [T.leaf] at h
  ·simp [T.leaf] at h
 ·simp [T.leaf] at h
theorem adI {lo : Option AV} {lo' : Option Value} {l : SE} {n : Nat} (h : L6 lo = some l) (hlo : iJ E w.heap lo lo') (hn : l.den E.ρ = (n : Int)) :
 ∃ lo2, iJ E w.heap lo2 lo' ∧ ∀ y, n ≤ y → bnd lo2 0 y = some n := by
 unfold L6 at h
 split at h
 ·simp only [Option.some.injEq] at h
  subst h
  simp only [SE.den] at hn
  have : n = 0 := by omega
  subst this
  exact ⟨none, hlo, fun y _ => by simp [bnd]⟩
 ·split at h
  ·rename_i v k q
   simp only [Option.some.injEq] at h
   subst h
   obtain ⟨y, rfl, hy⟩ := hlo
   refine ⟨some (.int k (.lit (Int.ofNat n))), ⟨y, rfl, ?_⟩, fun y hy => by simp [bnd, lU, hy]⟩
   simp only [VR, SE.den] at hy ⊢
   rw [hy, hn]
   rfl
  ·simp at h
theorem IK {k : IntKind} {q : SE} {n : Nat} {o : Option Value} (hq : q.den E.ρ = (n : Int)) (ho : iJ E w.heap (some (.int k q)) o) : iJ E w.heap (some (.int k (.lit (Int.ofNat n)))) o := by
 obtain ⟨y, rfl, hy⟩ := ho
 refine ⟨y, rfl, ?_⟩
 simp only [VR, SE.den] at hy ⊢
 rw [hy, hq]
 rfl
theorem Ja {k : IntKind} {n d y : Nat} (hn : n ≤ y) : bnd (some (.int k (.lit (Int.ofNat n)))) d y = some n := by
 simp [bnd, lU, hn]
theorem Kv [Glob] {tt : TT} (htt : dW P tt) {s s' : St} (r : aX E s.h w) (hp : aZ E.ρ s.pc) {ty id t : Nat} {lo0 n0 : SE} {lo hi mx : Option AV} {lo' hi' mx' : Option Value} {v : AV} {u : Value} (hx : VR E w.heap (.yX id lo0 n0 t) u)
 (hlo : iJ E w.heap lo lo') (hhi : iJ E w.heap hi hi') (hmx : iJ E w.heap mx mx') (h : (IW tt s ty id t lo0 n0 lo hi mx).leaf E.ρ = some (v, s')) :
 s'.slots = s.slots ∧ s'.h = s.h ∧ aZ E.ρ s'.pc ∧ ∃ r, (Instr.sliceAt ty u lo' hi' mx').run P w = .ok r w ∧ VR E w.heap v r := by
 unfold IW at h
 split at h
 ·simp [T.leaf] at h
 ·rename_i z hz
  split at h
  ·rename_i hcond
   obtain ⟨hes, hz0⟩ := hcond
   obtain ⟨el, ie, hu, hie, rfl⟩ := pU htt hz
   have hsz := dQ (htt el ie hie)
   simp only [VR] at hx
   obtain ⟨hid, l0, m0, a, cap, g1, g2, rfl, hcap, hc⟩ := hx
   have fin : ∀ (l k : Nat) (e1 e2 : SE), (Instr.sliceBounds true m0 cap lo' hi' none).run P w = .ok (l, k, cap) w → l ≤ k → k ≤ cap → e1.den E.ρ = (l : Int) → e2.den E.ρ = (k : Int) →
    ∃ r, (Instr.sliceAt ty (.slice (some a) m0 cap) lo' hi' none).run P w = .ok r w ∧ VR E w.heap (.yX id (xA lo0 e1) (Jj e2 e1) t) r := by
    intro l k e1 e2 hb hlk hk he1 he2
    refine ⟨.slice (some (if cap = l then a else a.add (l * ie.size))) (k - l) (cap - l), ?_, ?_⟩
    ·simp [Instr.sliceAt, run_underlying hu, Instr.slice, hb, hsz] <;> split <;> rfl
    ·simp only [VR]
     refine ⟨hid, l0 + l, k - l, _, _, by rw [sQ, g1, he1]; rfl, by rw [YV, he1, he2]; omega, rfl, by omega, ?_⟩
     rw [Nat.add_mul]
     have q := uG (l := l) (h := k) (m := cap) (es := (rowOf t).es) hc hcap hlk hk (Nat.le_refl _) (.inr (.inr ⟨rfl, rfl, rfl⟩)) (rowOf t).es (fun _ => rfl)
     rw [hes]
     exact q
   split at h
   ·simp [T.leaf] at h
   ·rename_i ql hql
    obtain ⟨pc1, hp1, h1⟩ := cO hp h
    split at h1
    ·simp [T.leaf] at h1
    ·rename_i t1
     rw [dS, decide_eq_false_iff_not] at t1
     simp only [SE.den, Int.not_lt] at t1
     obtain ⟨l, hl⟩ : ∃ l : Nat, ql.den E.ρ = (l : Int) := ⟨(ql.den E.ρ).toNat, by omega⟩
     obtain ⟨lo2, hlo2, hbl⟩ := adI hql hlo hl
     split at h1
     ·
      simp only [iJ] at hhi
      subst hhi
      split at h1
      ·simp [T.leaf] at h1
      ·simp only [iJ] at hmx
       subst hmx
       obtain ⟨pc2, hp2, h2⟩ := cO (s := { s with pc := pc1 }) hp1 h1
       split at h2
       ·simp [T.leaf] at h2
       ·rename_i t2
        have := aF h2
        simp only [Prod.mk.injEq] at this
        obtain ⟨rfl, rfl⟩ := this
        rw [dS, decide_eq_false_iff_not] at t2
        have hlm : l ≤ m0 := by omega
        obtain ⟨e1, e2⟩ := gK (P := P) (w := w) (isSlice := true) (len := m0) (cap := cap) (m0 := cap) (d := 0) (m := cap) (h0 := cap) (h := m0) (l := l) hlo2 (hi := none) (hi' := none) (by simp [iJ]) (mx := none) (mx' := none) (by simp [iJ]) (by simp) (.inl ⟨rfl, rfl, Nat.le_refl _⟩) (by simp [bnd, hcap]) ⟨fun _ => Nat.le_refl _, by simp⟩ (hbl _ hlm)
        exact ⟨rfl, rfl, hp2, fin l m0 _ _ e1 hlm hcap hl g2⟩
     ·rename_i hv
      split at h1
      ·rename_i kh qh
       obtain ⟨pc2, hp2, h2⟩ := cO (s := { s with pc := pc1 }) hp1 h1
       split at h2
       ·simp [T.leaf] at h2
       ·rename_i t2
        rw [dS, decide_eq_false_iff_not] at t2
        obtain ⟨k, hk⟩ : ∃ k : Nat, qh.den E.ρ = (k : Int) := ⟨(qh.den E.ρ).toNat, by omega⟩
        have hlk : l ≤ k := by omega
        split at h2
        ·rename_i mv
         split at h2
         ·rename_i km qm
          obtain ⟨pc3, hp3, h3⟩ := cO (s := { s with pc := pc2 }) hp2 h2
          split at h3
          ·simp [T.leaf] at h3
          ·rename_i t3
           obtain ⟨pc4, hp4, h4⟩ := cO (s := { s with pc := pc3 }) hp3 h3
           split at h4
           ·simp [T.leaf] at h4
           ·rename_i t4
            have := aF h4
            simp only [Prod.mk.injEq] at this
            obtain ⟨rfl, rfl⟩ := this
            rw [dS, decide_eq_false_iff_not] at t3 t4
            obtain ⟨m, hm⟩ : ∃ m : Nat, qm.den E.ρ = (m : Int) := ⟨(qm.den E.ρ).toNat, by omega⟩
            obtain ⟨e1, e2⟩ := gK (P := P) (w := w) (isSlice := true) (len := m0) (cap := cap) (m0 := cap) (d := 0) (m := m) (h0 := m) (h := k) (l := l) hlo2 (IK hk hhi) (IK hm hmx) (by simp) (.inr ⟨_, rfl, Ja (by omega), Nat.le_refl _⟩) (Ja (by omega)) ⟨by simp, fun _ => rfl⟩ (hbl _ hlk)
            refine ⟨rfl, rfl, hp4, .slice (some (if m = l then a else a.add (l * ie.size))) (k - l) (m - l), ?_, by simp only [VR]⟩
            simp [Instr.sliceAt, run_underlying hu, Instr.slice, e1, hsz] <;> split <;> rfl
         ·simp [T.leaf] at h2
        ·simp only [iJ] at hmx
         subst hmx
         have go : k ≤ cap → ∃ r, (Instr.sliceAt ty (.slice (some a) m0 cap) lo' hi' none).run P w = .ok r w ∧ VR E w.heap (.yX id (xA lo0 ql) (Jj qh ql) t) r := by
          intro hkc
          obtain ⟨e1, e2⟩ := gK (P := P) (w := w) (isSlice := true) (len := m0) (cap := cap) (m0 := cap) (d := 0) (m := cap) (h0 := cap) (h := k) (l := l) hlo2 (IK hk hhi) (mx := none) (mx' := none) (by simp [iJ]) (by simp) (.inl ⟨rfl, rfl, Nat.le_refl _⟩) (Ja hkc) ⟨fun _ => Nat.le_refl _, by simp⟩ (hbl _ hlk)
          exact fin l k _ _ e1 hlk hkc hl hk
         obtain ⟨pc3, hp3, h3⟩ := cO (s := { s with pc := pc2 }) hp2 h2
         split at h3
         ·rename_i t3
          have := aF h3
          simp only [Prod.mk.injEq] at this
          obtain ⟨rfl, rfl⟩ := this
          rw [dS, decide_eq_false_iff_not] at t3
          exact ⟨rfl, rfl, hp3, go (by omega)⟩
         ·split at h3
          ·simp [T.leaf] at h3
          ·rename_i hz1
           split at h3
           ·simp [T.leaf] at h3
           ·rename_i e FD hva
            obtain ⟨pc4, hp4, h4⟩ := cO (s := { s with pc := pc3 }) hp3 h3
            split at h4
            ·simp [T.leaf] at h4
            ·rename_i t4
             have := aF h4
             simp only [Prod.mk.injEq] at this
             obtain ⟨rfl, rfl⟩ := this
             rw [dS, decide_eq_false_iff_not, dB] at t4
             refine ⟨rfl, rfl, hp4, go ?_⟩
             have hlv := xE hva
             obtain ⟨ho, q0⟩ := OR.wW.1 (r.live id _ hlv).2.1
             have hlo0 := JW hz1
             subst hlo0
             simp only [SE.den] at g1
             have hl0 : l0 = 0 := by omega
             subst hl0
             simp only [OR] at q0
             obtain ⟨arr, lo1, hi1, us, q1, q2, q3, q4, q5, q6, q7⟩ := q0
             unfold dI at q4
             rw [bQ ho.1] at q4
             have hne : 0 < (dec (e.den E.ρ)).l.length := List.length_pos_iff.2 ho.2.2.2
             have hpos : 0 < (rowOf t).es := by omega
             simp only [fE] at hc
             have hκ : (dec (e.den E.ρ)).l.length ≤ cap := by
              rcases hc with hc | hc
              ·have : (dec (e.den E.ρ)).l.length * (rowOf t).es ≤ cap * (rowOf t).es := by omega
               exact Nat.le_of_mul_le_mul_right this hpos
              ·have := Nat.mul_pos hne hpos
               omega
             omega
      ·simp [T.leaf] at h1
  ·simp [T.leaf] at h
theorem Wy [Glob] {tt : TT} (htt : dW P tt) {s s' : St} (hp : aZ E.ρ s.pc) {ty t : Nat} {z : SE} {lo hi mx : Option AV} {lo' hi' mx' : Option Value} {v : AV} {u : Value} (hx : VR E w.heap (.Fv z t) u)
 (hlo : iJ E w.heap lo lo') (hhi : iJ E w.heap hi hi') (hmx : iJ E w.heap mx mx') (h : (QN tt s ty z t lo hi mx).leaf E.ρ = some (v, s')) :
 s'.slots = s.slots ∧ s'.h = s.h ∧ aZ E.ρ s'.pc ∧ ∃ r, (Instr.sliceAt ty u lo' hi' mx').run P w = .ok r w ∧ VR E w.heap v r := by
 unfold QN at h
 split at h
 ·simp [T.leaf] at h
 ·simp only [iJ] at hmx
  subst hmx
  split at h
  ·simp [T.leaf] at h
  ·rename_i zz hz
   obtain ⟨el, ie, hu, hie, rfl⟩ := pU htt hz
   have hsz := dQ (htt el ie hie)
   split at h
   ·rename_i Fq
    split at h
    ·rename_i hbl
     have := aF h
     simp only [Prod.mk.injEq] at this
     obtain ⟨rfl, rfl⟩ := this
     have hx0 := hx
     simp only [VR] at hx
     obtain ⟨⟨x, rfl⟩, hr⟩ := hx
     obtain ⟨e1, e2⟩ := gK (P := P) (w := w) (isSlice := true) (len := 0) (cap := 0) (m0 := 0) (d := 0) (m := 0) hlo hhi (mx := none) (mx' := none) (by simp [iJ]) (by simp) (.inl ⟨rfl, rfl, Nat.le_refl _⟩) Fq ⟨fun _ => Nat.le_refl _, by simp⟩ hbl
     refine ⟨rfl, rfl, hp, .slice x 0 0, ?_, hx0⟩
     simp [Instr.sliceAt, run_underlying hu, Instr.slice, e1, hsz]
    ·simp [T.leaf] at h
   ·simp [T.leaf] at h
end
end Go.As
end
section
namespace Go.As
theorem Jo : ∀ {B V : List AV}, V.length = B.length → splice B 0 V = some V
 | [], [], _ => rfl
 | [], _ :: _, h => by simp at h
 | _ :: _, [], h => by simp at h
 | b :: B, v :: V, h => by
   simp only [splice]
   rw [Jo (by simpa using h)]
theorem Vr {A B C V : List AV} (h : V.length = B.length) : splice (A ++ (B ++ C)) A.length V = some (A ++ (V ++ C)) := by
 have := xI A (qH C (Jo h))
 rwa [Nat.add_zero] at this
theorem MG {α : Type} : ∀ {a b : List α}, iZ a.length (a ++ b) = some a
 | [], b => rfl
 | x :: a, b => by simp only [List.length_cons, List.cons_append, iZ, MG]
theorem oQ {ρ : Nat → Int} {r : Row} : ∀ (L : List D) (a b : Nat), aG ρ r [] L a = aG ρ r [] L b
 | [], _, _ => rfl
 | d :: L, a, b => by simp only [aG, dO]; rw [oQ L (a + 1) (b + 1)]
theorem kV {ρ : Nat → Int} {r : Row} : ∀ (A B : List D), aG ρ r [] (A ++ B) 0 = aG ρ r [] A 0 ++ aG ρ r [] B 0
 | [], B => rfl
 | d :: A, B => by
   simp only [List.cons_append, aG, dO, List.append_assoc]
   rw [oQ (A ++ B) 1 0, oQ A 1 0, kV A B]
section
variable {P : Program} {E : En} {w : World}
theorem aaI [Glob] {H : Hp} (r : aX E H w) {id t : Nat} {e0 : SE} {FH : TypeId} (hl : H.get id = some (.vec e0 t FH [])) (hs0 : (rowOf t).es ≠ 0) {k cap : Nat} {a : Addr} (hc : fE E id 0 k a cap (.rest (rowOf t).es)) :
 a = ⟨(E.θ id).1, (E.θ id).2, none⟩ ∧ (dec (e0.den E.ρ)).l.length ≤ cap := by
 obtain ⟨ho, q0⟩ := OR.wW.1 (r.live id _ hl).2.1
 simp only [OR] at q0
 obtain ⟨arr, lo1, hi1, us, q1, q2, q3, q4, q5, q6, q7⟩ := q0
 unfold dI at q4
 rw [bQ ho.1] at q4
 have hne : 0 < (dec (e0.den E.ρ)).l.length := List.length_pos_iff.2 ho.2.2.2
 have hpos : 0 < (rowOf t).es := by omega
 simp only [fE] at hc
 rcases hc with hc | hc
 ·refine ⟨by simpa using hc.1, ?_⟩
  have : (dec (e0.den E.ρ)).l.length * (rowOf t).es ≤ cap * (rowOf t).es := by omega
  exact Nat.le_of_mul_le_mul_right this hpos
 ·have := Nat.mul_pos hne hpos
  omega
theorem Jc [Glob] {H : Hp} (r : aX E H w) {id t : Nat} {e0 : SE} {FH : TypeId} (hl : H.get id = some (.vec e0 t FH [])) {n mm : Nat} (hle : n + mm ≤ (dec (e0.den E.ρ)).l.length) {ds : List D} (hds : ds.length = mm) (hwf : ∀ d ∈ ds, xB (rowOf t) d)
 {us : List Value} (hv : bD E w.heap (aG E.ρ (rowOf t) [] ds 0) us) (h1 : ∀ u ∈ us, u.oneCell' = true) {e1 : SE} (he1 : dec (e1.den E.ρ) = dL ((dec (e0.den E.ρ)).l.take n ++ ds ++ (dec (e0.den E.ρ)).l.drop (n + mm))) :
 ∃ w', (storeCells ⟨(E.θ id).1, (E.θ id).2 + n * (rowOf t).es, none⟩ us).run P w = .ok () w' ∧ Stp E H w E (H.put id (.vec e1 t FH [])) w' ∧ aX E (H.put id (.vec e1 t FH [])) w' := by
 obtain ⟨rc, ho, hw⟩ := r.wW hl
 generalize hL : (dec (e0.den E.ρ)).l = L at *
 have hsp : L = L.take n ++ ((L.drop n).take mm ++ L.drop (n + mm)) := by
  conv => lhs; rw [← List.take_append_drop n L]
  congr 1
  conv => lhs; rw [← List.take_append_drop mm (L.drop n)]
  rw [List.drop_drop]
 have hc : dI E.ρ e0 t [] = aG E.ρ (rowOf t) [] (L.take n) 0 ++ (aG E.ρ (rowOf t) [] ((L.drop n).take mm) 0 ++ aG E.ρ (rowOf t) [] (L.drop (n + mm)) 0) := by
  unfold dI
  rw [hL]
  conv => lhs; rw [hsp]
  rw [kV, kV]
 have hlA : (aG E.ρ (rowOf t) [] (L.take n) 0).length = n * (rowOf t).es := by
  rw [bQ (nI _), List.length_take]
  congr 1
  omega
 have hsl : splice (dI E.ρ e0 t []) (n * (rowOf t).es) (aG E.ρ (rowOf t) [] ds 0) = some (dI E.ρ e1 t []) := by
  have : dI E.ρ e1 t [] = aG E.ρ (rowOf t) [] (L.take n) 0 ++ (aG E.ρ (rowOf t) [] ds 0 ++ aG E.ρ (rowOf t) [] (L.drop (n + mm)) 0) := by
   unfold dI
   rw [he1, bC, kV, kV, List.append_assoc]
  rw [this, hc, ← hlA]
  refine Vr ?_
  rw [bQ (nI _), bQ (nI _), List.length_take, List.length_drop, hds]
  congr 1
  omega
 obtain ⟨w', g1, g2, g3⟩ := nN (P := P) rc (by rw [Hp.get_put, if_pos rfl]) hsl hv h1
 have al1 : RG (H.put id (.cells (dI E.ρ e0 t []) FH)) H := (RG.put hl).symm
 have al2 : RG ((H.put id (.cells (dI E.ρ e0 t []) FH)).put id (.cells (dI E.ρ e1 t []) FH)) (H.put id (.vec e1 t FH [])) := by
  refine ⟨fun j y hj => ?_, fun j y hj => ?_, rfl, rfl⟩
  ·rw [Hp.get_put]
   split
   ·exact ⟨_, rfl⟩
   ·rename_i hne
    rw [Hp.get_put, if_neg hne, Hp.get_put, if_neg hne] at hj
    exact ⟨y, hj⟩
  ·rw [Hp.get_put] at hj ⊢
   split
   ·exact ⟨_, rfl⟩
   ·rename_i hne
    rw [if_neg hne] at hj
    rw [Hp.get_put, if_neg hne]
    exact ⟨y, hj⟩
 have hcells := (g3.live id _ (by rw [Hp.get_put, if_pos rfl])).2.1
 have hor : OR E w'.heap id (.vec e1 t FH []) := by
  refine OR.wW.2 ⟨⟨nI _, ?_⟩, hcells⟩
  rw [he1]
  refine ⟨by rw [bC], ?_, ?_⟩
  ·rw [bC]
   intro d hd
   rcases List.mem_append.1 hd with hd | hd
   ·rcases List.mem_append.1 hd with hd | hd
    ·exact hw.2.1 d (by rw [hL]; exact List.mem_of_mem_take hd)
    ·exact hwf d hd
   ·exact hw.2.1 d (by rw [hL]; exact List.mem_of_mem_drop hd)
  ·rw [bC]
   intro q
   have := congrArg List.length q
   simp only [List.length_append, List.length_take, List.length_drop, List.length_nil, hds] at this
   have hne := List.length_pos_iff.2 hw.2.2
   rw [hL] at hne
   omega
 refine ⟨w', g1, (g2.left al1).right al2, ?_⟩
 exact g3.swap (id := id) (by rw [Hp.get_put, if_pos rfl]) hor (by rw [Hp.get_put, if_pos rfl]) (fun j hj => by rw [Hp.get_put, if_neg hj, Hp.get_put, if_neg hj, Hp.get_put, if_neg hj]) rfl rfl
theorem UD [Glob] {s s' : St} (r : aX E s.h w) (hp : aZ E.ρ s.pc) {id t t1 t2 ty e : Nat} {e0 n1 m sd lo : SE} {FH : TypeId} {ie : TI} {d2 : TypeDesc} (hte : rM P e ie) (ht : P.underlying t1 = some (.slice e)) (ht2 : P.underlying t2 = some d2) (hd2 : ∀ k, d2 ≠ .int k)
 (hes : (rowOf t).es = ie.size) (hs0 : ie.size ≠ 0) (hl : s.h.get id = some (.vec e0 t FH [])) (hlo : isZ lo = true) {u u2 : Value} {us : Array Value} {ds : List D} (hx : VR E w.heap (.yX id lo n1 t) u) {mm : Nat} (hm : m.den E.ρ = (mm : Int))
 (hds : ds.length = mm) (hsd : (dec (sd.den E.ρ)).l = ds) (hwf : ∀ d ∈ ds, xB (rowOf t) d) {news : List AV} (src : Src P E w ie.size mm news u2 us) (hv : bD E w.heap (aG E.ρ (rowOf t) [] ds 0) us.toList) {v : AV} (h : (YB id t FH e0 n1 m sd s).leaf E.ρ = some (v, s')) :
 s'.slots = s.slots ∧ aZ E.ρ s'.pc ∧ ∃ z w' E', (Builtin.append_ #[t1, t2] ty #[u, u2]).run P w = .ok z w' ∧ Stp E s.h w E' s'.h w' ∧ aX E' s'.h w' ∧ VR E' w'.heap v z := by
 unfold YB at h
 obtain ⟨pc', hp', g1, g2, g3, g4⟩ := FW hp h
 have := aF g4
 simp only [Prod.mk.injEq] at this
 obtain ⟨rfl, rfl⟩ := this
 have hlo := JW hlo
 subst hlo
 have hx0 := hx
 simp only [VR] at hx
 obtain ⟨hid, l0, k, a, cap, q1, q2, rfl, q4, q5⟩ := hx
 simp only [SE.den] at q1
 have hl0 : l0 = 0 := by omega
 subst hl0
 rw [Nat.zero_mul] at q5
 obtain ⟨rfl, hroom⟩ := aaI r hl (by rw [hes]; exact hs0) q5
 have hle : k + mm ≤ (dec (e0.den E.ρ)).l.length := by omega
 obtain ⟨inf, d, z, h1, h2, h3, h4, h5, h6, h7, h8⟩ := hte.all
 obtain ⟨w', f1, f2, f3⟩ := Jc (P := P) r hl (n := k) hle hds hwf hv src.ones (e1 := .op .cat (.op .cat (.op .take e0 n1) sd) (.op .drop e0 (xA n1 m))) (by
  have hn : ((k : Int) + (mm : Int)).toNat = k + mm := by omega
  simp only [SE.den, aN.den, aC, bC, sQ, kU, q2, hm, hn, hsd, Int.toNat_natCast])
 refine ⟨rfl, hp', .slice (some ⟨(E.θ id).1, (E.θ id).2, none⟩) (k + mm) cap, w', E, ?_, f2, f3, ?_⟩
 ·exact lW (s := ie.size) ht ht2 hd2 h1 h5 src (by omega) (by simp only [eX]; rw [← hes]; exact f1)
 ·simp only [VR]
  refine ⟨hid, 0, k + mm, _, _, rfl, by rw [sQ, q2, hm]; rfl, rfl, by omega, ?_⟩
  rw [Nat.zero_mul]
  simp only [fE] at q5 ⊢
  rcases q5 with q5 | q5
  ·exact .inl q5
  ·have hne := List.length_pos_iff.2 (OR.wW.1 (r.live id _ hl).2.1).1.2.2.2
   omega
theorem Uf [Glob] {tt : TT} (htt : dW P tt) {s s' : St} (r : aX E s.h w) (hp : aZ E.ρ s.pc) {t t2 ty id t' : Nat} {lo n1 : SE} {y v : AV} {u u2 : Value} (hlo : isZ lo = true) (hx : VR E w.heap (.yX id lo n1 t') u) (hy : VR E w.heap y u2) (h : (KO tt t t2 id n1 t' y s).leaf E.ρ = some (v, s')) :
 s'.slots = s.slots ∧ aZ E.ρ s'.pc ∧ ∃ z w' E', (Builtin.append_ #[t, t2] ty #[u, u2]).run P w = .ok z w' ∧ Stp E s.h w E' s'.h w' ∧ aX E' s'.h w' ∧ VR E' w'.heap v z := by
 unfold KO at h
 split at h
 ·rename_i ti hti
  split at h
  ·rename_i e hk
   split at h
   ·rename_i ie hie
    split at h
    ·simp [T.leaf] at h
    ·rename_i ti2 adU
     obtain ⟨d2, hd2, hk2⟩ := wQ (htt t2 ti2 adU)
     split at h
     ·simp [T.leaf] at h
     ·rename_i k2 hne
      have TM : ∀ k, d2 ≠ .int k := by
       intro k hd
       subst hd
       cases hkk : ti2.kind <;> rw [hkk] at hk2 <;> simp only [OJ] at hk2
       exact hne _ hkk
      split at h
      ·simp [T.leaf] at h
      ·rename_i hcond
       simp only [not_or, Classical.not_not] at hcond
       obtain ⟨hs0, hb0, hzl, hes⟩ := hcond
       have hte := htt e ie hie
       have hu := fH (htt t ti hti) hk
       split at h
       ·simp [T.leaf] at h
       ·rename_i e0 FH hva
        have hl := xE hva
        split at h
        ·rename_i id2 lo2 n2 t2'
         split at h
         ·rename_i hi2
          split at h
          ·rename_i ht2
           have hi2 := Nat.eq_of_beq_eq_true hi2
           have ht2 := Nat.eq_of_beq_eq_true ht2
           subst hi2 ht2
           obtain ⟨pc1, hp1, g1, g2, g3, g4⟩ := FW hp h
           have hy0 := hy
           simp only [VR] at hy
           obtain ⟨hid, l, k, a, cap, q1, q2, rfl, q4, q5⟩ := hy
           obtain ⟨rc, ho, hw⟩ := r.wW hl
           generalize hL : (dec (e0.den E.ρ)).l = L at *
           have hlk : l + k ≤ L.length := by omega
           have hsp : L = L.take l ++ ((L.take (l + k)).drop l ++ L.drop (l + k)) := by
            conv => lhs; rw [← List.take_append_drop (l + k) L]
            conv => lhs; rw [← List.take_append_drop l (L.take (l + k))]
            rw [List.take_take, List.append_assoc]
            congr 2
            omega
           have hcc : dI E.ρ e0 t2' [] = aG E.ρ (rowOf t2') [] (L.take l) 0 ++ (aG E.ρ (rowOf t2') [] ((L.take (l + k)).drop l) 0 ++ aG E.ρ (rowOf t2') [] (L.drop (l + k)) 0) := by
            unfold dI
            rw [hL]
            conv => lhs; rw [hsp]
            rw [kV, kV]
           have hlA : (aG E.ρ (rowOf t2') [] (L.take l) 0).length = l * (rowOf t2').es := by
            rw [bQ (nI _), List.length_take]
            congr 1
            omega
           have hlen : ((L.take (l + k)).drop l).length = k := by rw [List.length_drop, List.length_take]; omega
           have hlB : (aG E.ρ (rowOf t2') [] ((L.take (l + k)).drop l) 0).length = k * (rowOf t2').es := by
            rw [bQ (nI _), hlen]
           have hy1 : VR E w.heap (.slice id2 (l * (rowOf t2').es) k (.rest (rowOf t2').es)) (.slice (some a) k cap) := by
            simp only [VR]
            exact ⟨hid, a, cap, rfl, q4, q5⟩
           obtain ⟨us, src⟩ := uQ (P := P) rc hy1 (s := ie.size) (m := k) (news := aG E.ρ (rowOf t2') [] ((L.take (l + k)).drop l) 0) (by
            simp only [vY, oK, Hp.get_put, if_true]
            rw [hcc, ← hlA, yI]
            simp only
            rw [← hes, ← hlB, MG]
            rfl)
           refine UD (s := { s with pc := pc1 }) r hp1 hte hu hd2 TM hes hs0 hl hlo hx q2 hlen (by rw [JB q1 q2, kU, hL]) (fun d hd => hw.2.1 d ?_) src src.vrs g4
           rw [hL]
           exact List.mem_of_mem_take (List.mem_of_mem_drop hd)
          ·simp [T.leaf] at h
         ·simp [T.leaf] at h
        ·split at h
         ·simp [T.leaf] at h
         ·rename_i m news hsrc
          obtain ⟨us, src⟩ := uQ (P := P) r hy hsrc
          split at h
          ·simp [T.leaf] at h
          ·rename_i m'
           split at h
           ·split at h
            ·rename_i sd hcr
             obtain ⟨ds, c1, c2, c3, c4, c5⟩ := Aj (ρ := E.ρ) _ hcr
             simp only [SE.den, aC, D.l, List.nil_append] at c2
             exact UD r hp hte hu hd2 TM hes hs0 hl hlo hx (mm := m' + 1) (by simp only [SE.den]; rfl) c1 c2 c4 src (c5 E w.heap _ 0 rfl src.vrs) h
            ·simp [T.leaf] at h
           ·simp [T.leaf] at h
   ·simp [T.leaf] at h
  ·simp [T.leaf] at h
 ·simp [T.leaf] at h
theorem Ho [Glob] {tt : TT} (htt : dW P tt) {s s' : St} (r : aX E s.h w) (hp : aZ E.ρ s.pc) {t ty id t' : Nat} {lo n : SE} {v : AV} {u : Value} (hx : VR E w.heap (.yX id lo n t') u) (h : (EM tt t id lo n t' s).leaf E.ρ = some (v, s')) :
 s'.slots = s.slots ∧ aZ E.ρ s'.pc ∧ v = AV.undef ∧ ∃ w' E', (Builtin.clear_ #[t] ty #[u]).run P w = .ok (.tuple #[]) w' ∧ Stp E s.h w E' s'.h w' ∧ aX E' s'.h w' := by
 unfold EM at h
 split at h
 ·rename_i ti hti
  split at h
  ·rename_i e hk
   have hu := fH (htt t ti hti) hk
   split at h
   ·rename_i ie hie
    obtain ⟨inf, d, z, h1, h2, h3, h4, h5, h6, h7, h8⟩ := (htt e ie hie).all
    have hz := fC (E := E) (h := w.heap) h4
    split at h
    ·rename_i hcond
     obtain ⟨hes, hs0⟩ := hcond
     split at h
     ·simp [T.leaf] at h
     ·rename_i e0 FD hva
      have hl := xE hva
      split at h
      ·simp [T.leaf] at h
      ·rename_i zz hzz
       obtain ⟨pc1, hp1, g1⟩ := cO hp h
       split at g1
       ·simp [T.leaf] at g1
       ·rename_i t1
        obtain ⟨pc2, hp2, g2⟩ := cO (s := { s with pc := pc1 }) hp1 g1
        split at g2
        ·simp [T.leaf] at g2
        ·rename_i t2
         obtain ⟨pc3, hp3, g3⟩ := cO (s := { s with pc := pc2 }) hp2 g2
         split at g3
         ·simp [T.leaf] at g3
         ·rename_i t3
          have := aF g3
          simp only [Prod.mk.injEq] at this
          obtain ⟨rfl, rfl⟩ := this
          rw [dS, decide_eq_false_iff_not] at t1 t2
          rw [kZ, beq_iff_eq, sQ, dB] at t3
          simp only [VR] at hx
          obtain ⟨hid, l, k, a, cap, q1, q2, rfl, q4, q5⟩ := hx
          have hlk : l + k = (dec (e0.den E.ρ)).l.length := by omega
          have hn0 : (dec (e0.den E.ρ)).l.length - l = k := by omega
          have hwz := Dt (ρ := E.ρ) hzz
          have hrz : BX E.ro w.heap (rowOf t') (dec (zz.den E.ρ)) z.cells.toList := Du hz.1 hzz
          have azY : bD E w.heap (iR (rowOf t') (.dat (dec (zz.den E.ρ)))) z.cells.toList := by
           rw [iE]
           simp only [SE.den, aC]
           exact hrz
          have hrep : ∀ m : Nat, aG E.ρ (rowOf t') [] (List.replicate m (dec (zz.den E.ρ))) 0 = repeatL (iR (rowOf t') (.dat (dec (zz.den E.ρ)))) m := by
           intro m
           induction m with
           | zero => rfl
           | succ m ih =>
             simp only [List.replicate_succ, aG, dO, repeatL]
             rw [oQ _ 1 0, ih]
          have hv : bD E w.heap (aG E.ρ (rowOf t') [] (List.replicate k (dec (zz.den E.ρ))) 0) (repeatL z.cells.toList k) := by
           rw [hrep]
           exact qM azY k
          obtain ⟨w', f1, f2, f3⟩ := Jc (P := P) r hl (n := l) (mm := k) (by omega) (List.length_replicate) (fun d hd => by rw [List.eq_of_mem_replicate hd]; exact hwz) hv (fun u hu => hz.2 u (qL hu)) (e1 := .op .fill e0 (fV (FM lo) zz)) (by
           simp only [fV, SE.den, aN.den, aC, nG, D.n, q1, Int.toNat_natCast, hn0, hlk]
           rw [List.drop_length, List.append_nil])
          refine ⟨rfl, hp3, rfl, w', E, ?_, f2, f3⟩
          rcases Nat.eq_zero_or_pos k with hk0 | hk0
          ·subst hk0
           simp only [repeatL] at f1
           have : w' = w := by
            simp [storeCells] at f1
            exact f1.symm
           subst this
           simp [Builtin.clear_, run_underlying hu]
          ·have ha : a = ⟨(E.θ id).1, (E.θ id).2 + l * (rowOf t').es, none⟩ := by
            simp only [fE] at q5
            rcases q5 with q5 | q5
            ·exact q5.1
            ·omega
           have aqP : z.cells.toList ≠ [] := by
            intro hx
            have := BX.length hrz
            rw [hx] at this
            simp at this
            omega
           have hzc : (Builtin.zeroCells z.cells k).toList = repeatL z.cells.toList k := Dy z.cells aqP k
           subst ha
           obtain ⟨j, rfl⟩ : ∃ j, k = j + 1 := ⟨k - 1, by omega⟩
           simp [Builtin.clear_, run_underlying hu, zeroValue, typeInfo, h1, h3, hzc, f1]
    ·simp [T.leaf] at h
   ·simp [T.leaf] at h
  ·simp [T.leaf] at h
 ·simp [T.leaf] at h
end
end Go.As
end
section
namespace Go.As
theorem nU (l : List Nat) : (mQ l).l.length = l.length := by simp [mQ]
theorem ZL {a b : List Nat} (h : mQ a = mQ b) : a = b := by
 have := Gv h
 induction a generalizing b with
 | nil => cases b with
   | nil => rfl
   | cons y b => simp at this
 | cons x a ih => cases b with
   | nil => simp at this
   | cons y b =>
     simp only [List.map_cons, List.cons.injEq, D.i.injEq, Int.ofNat_eq_natCast, Int.ofNat_inj] at this
     rw [this.1, ih (b := b) (by unfold mQ; exact congrArg dL (by simpa using this.2)) (by simpa using this.2)]
theorem Lj : ∀ (x y : List Nat), Yq (x.map fun b => D.i (Int.ofNat b)) (y.map fun b => D.i (Int.ofNat b)) = bytesLess x y
 | [], [] => rfl
 | [], _ :: _ => rfl
 | _ :: _, [] => rfl
 | a :: x, b :: y => by
   simp only [List.map_cons, Yq, bytesLess, D.n, Lj x y]
   have i1 : (Int.ofNat a < Int.ofNat b) = (a < b) := propext Int.ofNat_lt
   have i2 : (Int.ofNat b < Int.ofNat a) = (b < a) := propext Int.ofNat_lt
   simp only [i1, i2]
   rcases Nat.lt_trichotomy a b with h | h | h
   ·have h1 : a.blt b = true := by simp [Nat.blt]; omega
    simp [h, h1]
   ·subst h
    have h1 : a.blt a = false := by rw [Bool.eq_false_iff]; simp [Nat.blt]
    simp [h1]
   ·have h2 : a.blt b = false := by rw [Bool.eq_false_iff]; simp [Nat.blt]; omega
    have h3 : a.beq b = false := by rw [Bool.eq_false_iff]; simp; omega
    have h4 : ¬ a < b := by omega
    simp [h, h2, h3, h4]
section
variable {P : Program} {E : En} {w : World}
theorem VR.akD {h : Array Obj} {e : SE} {v : Value} (hv : VR E h (.lJ e) v) : ∃ l : List Nat, v = .string (bP l) ∧ (∀ b ∈ l, b < 256) ∧ dec (e.den E.ρ) = mQ l := by
 simp only [VR] at hv
 obtain ⟨s, rfl, hs⟩ := hv.string
 refine ⟨bytesOf s, by rw [mF], Dv s, ?_⟩
 rw [hs, EO _ (Dv s)]
 conv => lhs; rw [← mF s]
 simp [yN, bP]
theorem VR.acY {h : Array Obj} {e : SE} {l : List Nat} (hl : ∀ b ∈ l, b < 256) (he : dec (e.den E.ρ) = mQ l) : VR E h (.lJ e) (.string (bP l)) := by
 simp only [VR]
 rw [he, EO _ hl]
 have := Rd.str (ro := E.ro) (h := h) (bP l)
 simpa [yN, bP] using this
theorem Jk {h : Array Obj} {x : AV} {u : Value} {e : SE} (hx : VR E h x u) (hs : yS x = some e) : ∃ l : List Nat, u = .string (bP l) ∧ (∀ b ∈ l, b < 256) ∧ dec (e.den E.ρ) = mQ l := by
 unfold yS at hs
 split at hs
 ·simp only [Option.some.injEq] at hs
  subst hs
  simp only [VR] at hx
  exact ⟨_, hx.1, hx.2, by simp only [SE.den, aC]⟩
 ·simp only [Option.some.injEq] at hs
  subst hs
  exact hx.akD
 ·simp at hs
theorem V9 {tt : TT} (htt : dW P tt) {s s' : St} (hp : aZ E.ρ s.pc) {ty : Nat} {e : SE} {ix v : AV} {u ui : Value} (hx : VR E w.heap (.lJ e) u) (hix : VR E w.heap ix ui) (h : (QF tt s ty e ix).leaf E.ρ = some (v, s')) :
 s'.slots = s.slots ∧ s'.h = s.h ∧ aZ E.ρ s'.pc ∧ ∃ r, (Instr.index ty u ui).run P w = .ok r w ∧ VR E w.heap v r := by
 unfold QF at h
 split at h
 ·rename_i kd i
  split at h
  ·rename_i ti hti
   split at h
   ·rename_i hk
    obtain ⟨pc', hp', h1, h2, h3⟩ := pY hp h
    have := aF h3
    simp only [Prod.mk.injEq] at this
    obtain ⟨rfl, rfl⟩ := this
    refine ⟨rfl, rfl, hp', ?_⟩
    obtain ⟨l, rfl, hb, hd⟩ := hx.akD
    simp only [VR] at hix
    subst hix
    rw [dB, hd, nU] at h2
    obtain ⟨k, hk2⟩ : ∃ k : Nat, i.den E.ρ = (k : Int) := ⟨(i.den E.ρ).toNat, by omega⟩
    have hlt : k < l.length := by omega
    have hg : (bP l)[k]? = some (UInt8.ofNat l[k]) := by rw [Jm, List.getElem?_eq_getElem hlt]; rfl
    have h256 := hb l[k] (List.getElem_mem hlt)
    rw [hk2]
    refine ⟨_, by simp [Instr.index, asIntOf, run_underlying (fU (htt ty ti hti) hk), hg]; rfl, ?_⟩
    have hdk : (dec (e.den E.ρ)).l[k]? = some (.i (Int.ofNat l[k])) := by
     rw [hd]
     simp only [mQ, bC, List.getElem?_map, List.getElem?_eq_getElem hlt, Option.map_some]
    simp only [VR, FK, Gz E.ρ e i hk2 hdk, D.n]
    congr 1
    simp
    omega
   ·simp [T.leaf] at h
  ·simp [T.leaf] at h
 ·simp [T.leaf] at h
theorem V8 {tt : TT} (htt : dW P tt) {s s' : St} (hp : aZ E.ρ s.pc) {ty : Nat} {e : SE} {lo hi mx : Option AV} {lo' hi' mx' : Option Value} {v : AV} {u : Value} (hx : VR E w.heap (.lJ e) u)
 (hlo : iJ E w.heap lo lo') (hhi : iJ E w.heap hi hi') (hmx : iJ E w.heap mx mx') (h : (QD tt s ty e lo hi mx).leaf E.ρ = some (v, s')) :
 s'.slots = s.slots ∧ s'.h = s.h ∧ aZ E.ρ s'.pc ∧ ∃ r, (Instr.sliceAt ty u lo' hi' mx').run P w = .ok r w ∧ VR E w.heap v r := by
 unfold QD at h
 split at h
 ·simp [T.leaf] at h
 ·simp only [iJ] at hmx
  subst hmx
  split at h
  ·simp [T.leaf] at h
  ·rename_i ti hti
   split at h
   ·rename_i hk
    have hu := fU (htt ty ti hti) hk
    split at h
    ·simp [T.leaf] at h
    ·rename_i ql hql
     split at h
     ·simp [T.leaf] at h
     ·rename_i qh hqh
      obtain ⟨pc1, hp1, h1⟩ := cO hp h
      split at h1
      ·simp [T.leaf] at h1
      ·rename_i t1
       obtain ⟨pc2, hp2, h2⟩ := cO (s := { s with pc := pc1 }) hp1 h1
       split at h2
       ·simp [T.leaf] at h2
       ·rename_i t2
        obtain ⟨pc3, hp3, h3⟩ := cO (s := { s with pc := pc2 }) hp2 h2
        split at h3
        ·simp [T.leaf] at h3
        ·rename_i t3
         have := aF h3
         simp only [Prod.mk.injEq] at this
         obtain ⟨rfl, rfl⟩ := this
         refine ⟨rfl, rfl, hp3, ?_⟩
         obtain ⟨l, rfl, hb, hd⟩ := hx.akD
         rw [dS, decide_eq_false_iff_not] at t1 t2 t3
         rw [dB, hd, nU] at t3
         simp only [SE.den, Int.not_lt] at t1
         obtain ⟨a, ha⟩ : ∃ a : Nat, ql.den E.ρ = (a : Int) := ⟨(ql.den E.ρ).toNat, by omega⟩
         obtain ⟨b, hbb⟩ : ∃ b : Nat, qh.den E.ρ = (b : Int) := ⟨(qh.den E.ρ).toNat, by omega⟩
         have hle : b ≤ l.length := by omega
         have hab : a ≤ b := by omega
         obtain ⟨lo2, hlo2, hbl⟩ := adI hql hlo ha
         have hhi2 : ∃ hi2, iJ E w.heap hi2 hi' ∧ bnd hi2 l.length l.length = some b := by
          unfold hiE at hqh
          split at hqh
          ·simp only [Option.some.injEq] at hqh
           subst hqh
           rw [dB, hd, nU] at hbb
           have : b = l.length := by omega
           subst this
           exact ⟨none, hhi, by simp [bnd]⟩
          ·split at hqh
           ·simp only [Option.some.injEq] at hqh
            subst hqh
            exact ⟨_, IK hbb hhi, Ja hle⟩
           ·simp at hqh
         obtain ⟨hi2, hhi2, Fq⟩ := hhi2
         obtain ⟨e1, e2⟩ := gK (P := P) (w := w) (isSlice := false) (len := l.length) (cap := l.length) (m0 := l.length) (d := 0) hlo2 hhi2 (mx := none) (mx' := none) rfl (by simp) (.inl ⟨rfl, rfl, Nat.le_refl _⟩) Fq ⟨fun _ => Nat.le_refl _, by simp⟩ (hbl b hab)
         refine ⟨.string ((bP l).extract a b), ?_, ?_⟩
         ·rw [← mD] at e1
          simp [Instr.sliceAt, run_underlying hu, Instr.slice, e1]
         ·rw [xG]
          refine VR.acY (fun c hc => hb c (List.mem_of_mem_take (List.mem_of_mem_drop hc))) ?_
          simp only [fV, SE.den, aN.den, aC, nG, D.hd, D.l, List.getElem?_cons_zero, List.getElem?_cons_succ, Option.getD_some, D.n, ha, hbb, Int.toNat_natCast, hd]
          simp only [mQ, bC, List.map_take, List.map_drop]
   ·simp [T.leaf] at h
theorem O8 {x y : AV} {a b : SE} (h : Iw x y = some (a, b)) : yS x = some a ∧ yS y = some b := by
 unfold Iw at h
 split at h
 ·simp at h
 ·split at h
  ·simp at h
  ·rename_i c hc
   split at h
   ·simp at h
   ·rename_i d hd
    simp only [Option.some.injEq, Prod.mk.injEq] at h
    exact ⟨by rw [hc, h.1], by rw [hd, h.2]⟩
theorem ML (ρ : Nat → Int) {a b : SE} {x y : List Nat} (ha : dec (a.den ρ) = mQ x) (hb : dec (b.den ρ) = mQ y) : (MN a b).den ρ = bytesLess x y := by
 simp only [MN, SB.den, SE.den, aN.den, ha, hb, mQ, bC]
 have := Lj x y
 rw [this]
 cases bytesLess x y <;> rfl
theorem EX : ∀ (x y : List Nat), (bytesLess x y || jC x y) = !(bytesLess y x)
 | [], [] => rfl
 | [], _ :: _ => rfl
 | _ :: _, [] => rfl
 | a :: x, b :: y => by
   have ih := EX x y
   simp only [bytesLess, jC]
   rcases Nat.lt_trichotomy a b with h | h | h
   ·have h1 : a.blt b = true := by simp [Nat.blt]; omega
    have h2 : b.blt a = false := by rw [Bool.eq_false_iff]; simp [Nat.blt]; omega
    have h3 : b.beq a = false := by rw [Bool.eq_false_iff]; simp; omega
    simp [h1, h2, h3]
   ·subst h
    have h1 : a.blt a = false := by rw [Bool.eq_false_iff]; simp [Nat.blt]
    simp [h1, ih]
   ·have h1 : b.blt a = true := by simp [Nat.blt]; omega
    have h2 : a.blt b = false := by rw [Bool.eq_false_iff]; simp [Nat.blt]; omega
    have h3 : a.beq b = false := by rw [Bool.eq_false_iff]; simp; omega
    simp [h1, h2, h3]
theorem Zz {s s' : St} (hp : aZ E.ρ s.pc) {t : Nat} {op : BinOp} {x y v : AV} {a b : SE} {u u' : Value} (hx : VR E w.heap x u) (hy : VR E w.heap y u') (hs : Iw x y = some (a, b)) (h : (Wh op a b s).leaf E.ρ = some (v, s')) :
 s'.slots = s.slots ∧ s'.h = s.h ∧ aZ E.ρ s'.pc ∧ (∃ r, (binOp op t u u').run P w = .ok r w ∧ VR E w.heap v r) ∧ (∀ cs ds, ¬ (u = .agg cs ∧ u' = .agg ds)) ∧ ¬ (u = .nilIface ∧ u' = .nilIface) := by
 obtain ⟨hsx, hsy⟩ := O8 hs
 obtain ⟨l, rfl, hbl, hdl⟩ := Jk hx hsx
 obtain ⟨m, rfl, hbm, hdm⟩ := Jk hy hsy
 have heq : ((Cb (pG a) (pG b)).den E.ρ) = jC l m := by
  rw [sG, nO, nO, hdl, hdm, Bool.eq_iff_iff, beq_iff_eq, pR]
  exact ⟨fun q => ZL (oO q), fun q => by rw [q]⟩
 have hne : (∀ cs ds, ¬ (Value.string (bP l) = .agg cs ∧ Value.string (bP m) = .agg ds)) ∧ ¬ (Value.string (bP l) = .nilIface ∧ Value.string (bP m) = .nilIface) := ⟨by simp, by simp⟩
 have fin : ∀ (c : AV) (o : BinOp), Sm o l m = some c → (∀ q, VR E w.heap c q → VR E w.heap v q) → (∀ q, (Op.stringOp o (bP l) (bP m)).run P w = .ok q w → (binOp o t (.string (bP l)) (.string (bP m))).run P w = .ok q w) →
  ∃ r, (binOp o t (.string (bP l)) (.string (bP m))).run P w = .ok r w ∧ VR E w.heap v r := by
  intro c o ho hc hq
  obtain ⟨r, h1, h2⟩ := Sl (P := P) (E := E) (w := w) hbl hbm ho
  exact ⟨r, hq _ h1, hc r h2⟩
 unfold Wh at h
 split at h
 ·obtain ⟨pc1, hp1, h1⟩ := cO hp h
  split at h1
  ·simp [T.leaf] at h1
  ·rename_i t1
   obtain ⟨pc2, hp2, h2⟩ := cO (s := { s with pc := pc1 }) hp1 h1
   split at h2
   ·simp [T.leaf] at h2
   ·rename_i t2
    have := aF h2
    simp only [Prod.mk.injEq] at this
    obtain ⟨rfl, rfl⟩ := this
    rw [dS, decide_eq_true_eq, dB, hdl, nU] at t1
    rw [dS, decide_eq_true_eq, dB, hdm, nU] at t2
    simp only [SE.den] at t1 t2
    refine ⟨rfl, rfl, hp2, ⟨.string (bP (l ++ m)), ?_, ?_⟩, hne⟩
    ·have hm : IntKind.i64.max = 9223372036854775807 := by decide
     have : (Op.stringOp .add (bP l) (bP m)).run P w = .ok (.string (bP l ++ bP m)) w := by
      simp only [Op.stringOp, mD, hm]
      rw [if_neg (by omega)]
      rfl
     have e : bP l ++ bP m = bP (l ++ m) := by
      apply ByteArray.ext
      simp [bP]
     rw [e] at this
     simpa [binOp] using this
    ·refine VR.acY (fun c hc => ?_) ?_
     ·rcases List.mem_append.1 hc with hc | hc
      ·exact hbl c hc
      ·exact hbm c hc
     ·simp only [SE.den, aN.den, aC, hdl, hdm]
      simp only [mQ, bC, List.map_append]
 all_goals first
  | (simp [T.leaf] at h; done)
  | (have := aF h
     simp only [Prod.mk.injEq] at this
     obtain ⟨rfl, rfl⟩ := this
     refine ⟨rfl, rfl, hp, ?_, hne⟩
     refine fin _ _ rfl (fun q hq => ?_) (fun q hq => by simpa [binOp] using hq)
     simp only [VR, SB.den, pI] at hq ⊢
     first
      | (rw [heq]; exact hq)
      | (rw [ML E.ρ hdl hdm]; exact hq)
      | (rw [ML E.ρ hdm hdl]; rw [EX] at hq; simpa using hq))
theorem WG [Glob] {tt : TT} (htt : dW P tt) {s s' : St} (r : aX E s.h w) (hp : aZ E.ρ s.pc) {sT dT : Nat} {e : SE} {v : AV} {u : Value} (hx : VR E w.heap (.lJ e) u) (h : (IZ tt sT dT e s).leaf E.ρ = some (v, s')) :
 s'.slots = s.slots ∧ aZ E.ρ s'.pc ∧ ∃ y w' E', (convert sT dT u).run P w = .ok y w' ∧ Stp E s.h w E' s'.h w' ∧ aX E' s'.h w' ∧ VR E' w'.heap v y := by
 unfold IZ at h
 split at h
 ·simp [T.leaf] at h
 ·rename_i j hj
  split at h
  ·rename_i hjk
   split at h
   ·simp [T.leaf] at h
   ·rename_i i hi
    split at h
    ·rename_i el hik
     split at h
     ·rename_i ie hie
      split at h
      ·rename_i k aAh
       split at h
       ·obtain ⟨l, rfl, hb, hd⟩ := hx.akD
        have hcv : sJ tt sT dT (.str l) s.h = some (.slice s.h.fresh 0 l.length (.rest 1), s.h.new (.cells (l.map fun c => .int .u8 (.lit (Int.ofNat c))) el)) := by
         unfold sJ
         simp only [hj, hi, hik, hie, aAh, hjk]
         simp
        obtain ⟨y, w', E', g1, g2, g3, g4⟩ := EL (P := P) htt r (x := .str l) (u := .string (bP l)) (by simp only [VR]; exact ⟨trivial, hb⟩) hcv
        obtain ⟨pc1, hp1, h1⟩ := cO hp h
        rw [sG, dB, hd, nU] at h1
        split at h1
        ·rename_i hz
         have := aF h1
         simp only [Prod.mk.injEq] at this
         obtain ⟨rfl, rfl⟩ := this
         simp only [SE.den, beq_iff_eq] at hz
         have hl0 : l = [] := List.eq_nil_of_length_eq_zero (by omega)
         subst hl0
         exact ⟨rfl, hp1, y, w', E', g1, g2, g3, g4⟩
        ·rename_i hz
         have := aF h1
         simp only [Prod.mk.injEq] at this
         obtain ⟨rfl, rfl⟩ := this
         simp only [SE.den, beq_eq_false_iff_ne, ne_eq] at hz
         have hd' : dec (e.den E'.ρ) = mQ l := by rw [g2.ρ]; exact hd
         have hcc : dI E'.ρ e 14 [] = l.map fun c => AV.int .u8 (.lit (Int.ofNat c)) := by
          unfold dI
          rw [hd']
          simp only [mQ, bC]
          have : ∀ (l : List Nat) (i : Nat), aG E'.ρ (rowOf 14) [] (l.map fun b => D.i (Int.ofNat b)) i = l.map fun c => AV.int .u8 (.lit (Int.ofNat c)) := by
           intro l
           induction l with
           | nil => intro i; rfl
           | cons a l ih =>
             intro i
             simp only [List.map_cons, aG, dO, ih]
             rfl
          exact this l 0
         have r2 := PG (e1 := e) (t := 14) g3 (by
          rw [hd']
          refine ⟨by simp only [mQ, bC], fun x hx => ?_, fun q => ?_⟩
          ·simp only [mQ, bC, List.mem_map] at hx
           obtain ⟨b, _, rfl⟩ := hx
           rfl
          ·have := congrArg List.length q
           rw [nU] at this
           exact hz (by simp at this; simp [this])) (by rw [hcc]) (fun us hu => by rw [hcc]; exact hu)
         refine ⟨rfl, hp1, y, w', E', g1, g2.right (PI rfl rfl fun _ => rfl), r2, ?_⟩
         simp only [VR] at g4 ⊢
         obtain ⟨q1, a, cap, q2, q3, q4⟩ := g4
         exact ⟨q1, l.length, a, cap, by rw [dB, hd', nU], q2, q3, q4⟩
       ·simp [T.leaf] at h
      ·simp [T.leaf] at h
     ·simp [T.leaf] at h
    ·simp [T.leaf] at h
  ·simp [T.leaf] at h
end
end Go.As
end
section
namespace Go.As
section
variable {P : Program} {E : En} {w : World}
def X0 (c : CK) : Prop := (∃ k, c = .int k) ∨ c = .str
theorem NR (t : Nat) : X0 (mapOf t).1 := by
 unfold mapOf
 split <;> first | exact .inl ⟨_, rfl⟩ | exact .inr rfl
theorem bytes_beq (p q : ByteArray) : (p == q) = decide (p = q) := by
 rw [Bool.eq_iff_iff, decide_eq_true_eq]
 have e : (p == q) = (p.data == q.data) := rfl
 rw [e, beq_iff_eq]
 constructor
 ·intro h; cases p; cases q; simp only at h; rw [h]
 ·intro h; rw [h]
theorem adL {ro : Nat → Prop} {h : Array Obj} {c : CK} (hc : X0 c) {dt : TypeDesc} (hd : GK dt (G9 c)) {d d' : D} {u u' : Value} (r : Rd ro h c d u) (r' : Rd ro h c d' u') :
 Instr.sameNow dt u u' = some (decide (d = d')) ∧ (d = d' → ∀ n, Instr.sameBits (n + 1) u' u = true) := by
 rcases hc with ⟨k, rfl⟩ | rfl
 ·simp only [G9] at hd
  obtain ⟨k', rfl⟩ := hd
  cases r with
  | int _ n =>
    cases r' with
    | int _ m =>
      refine ⟨?_, fun hh n => ?_⟩
      ·simp only [Instr.sameNow, D.i.injEq]
       first
        | rfl
        | (congr 1; rw [Bool.eq_iff_iff]; simp)
      ·simp only [D.i.injEq] at hh
       subst hh
       simp [Instr.sameBits]
 ·simp only [G9] at hd
  simp only [GK] at hd
  subst hd
  obtain ⟨a, rfl, rfl⟩ := r.string
  obtain ⟨b, rfl, rfl⟩ := r'.string
  refine ⟨?_, fun hh n => ?_⟩
  ·simp only [Instr.sameNow, bytes_beq]
   congr 1
   rw [decide_eq_decide]
   exact ⟨fun q => by rw [q], fun q => Le q⟩
  ·have := Le hh
   subst this
   simp [Instr.sameBits, bytes_beq]
theorem EF {ro : Nat → Prop} {h : Array Obj} {t : Nat} {dt : TypeDesc} (hd : GK dt (G9 (mapOf t).1)) {kd : D} {u : Value} (hk : Rd ro h (mapOf t).1 kd u) : ∀ {ds : List D} {ents : List MapEntry} {i : Nat},
 mZ ro h t ds ents →
 (Ed ds kd = none ∧ Instr.findNow dt u ents i = some none ∧ (∀ v, Ti ds kd v = ds ++ [.p kd v]) ∧ Tj ds kd = ds) ∨
 (∃ j x e, Ed ds kd = some x ∧ ents[j]? = some e ∧ Rd ro h (mapOf t).2 x e.val ∧ Instr.findNow dt u ents i = some (some (i + j, e.val)) ∧ (∀ n, Instr.sameBits (n + 1) e.key u = true) ∧ (∀ v, Ti ds kd v = ds.set j (.p kd v)) ∧ Tj ds kd = ds.eraseIdx j)
 | [], ents, i, he => by
   simp only [mZ] at he
   subst he
   exact .inl ⟨rfl, by simp [Instr.findNow], fun _ => rfl, rfl⟩
 | d :: ds, ents, i, he => by
   obtain ⟨e, r, rfl, h1, h2, h3, h4⟩ := he
   obtain ⟨g1, g2⟩ := adL (NR t) hd hk h2
   by_cases hkd : ZM d = kd
   ·have g1' : Instr.sameNow dt u e.key = some true := by rw [g1, decide_eq_true hkd.symm]
    refine .inr ⟨0, amI d, e, by simp only [Ed, if_pos hkd], rfl, h3, by simp [Instr.findNow, g1'], g2 hkd.symm, fun v => by simp only [Ti, if_pos hkd, List.set_cons_zero], by simp only [Tj, if_pos hkd, List.eraseIdx_cons_zero]⟩
   ·have g1' : Instr.sameNow dt u e.key = some false := by rw [g1, decide_eq_false (fun q => hkd q.symm)]
    rcases EF (i := i + 1) hd hk h4 with ⟨q1, q2, q3, q4⟩ | ⟨j, x, e', q1, q2, q3, q4, q5, q6, q7⟩
    ·exact .inl ⟨by simp only [Ed, if_neg hkd, q1], by simp [Instr.findNow, g1', q2], fun v => by simp only [Ti, if_neg hkd, q3, List.cons_append], by simp only [Tj, if_neg hkd, q4]⟩
    ·refine .inr ⟨j + 1, x, e', by simp only [Ed, if_neg hkd, q1], by simpa using q2, q3, ?_, q5, fun v => by simp only [Ti, if_neg hkd, q6, List.set_cons_succ], by simp only [Tj, if_neg hkd, q7, List.eraseIdx_cons_succ]⟩
     simp only [Instr.findNow, g1', q4]; congr 3; omega
theorem mZ.set {ro : Nat → Prop} {h : Array Obj} {t : Nat} {kd vd : D} {uk uv : Value} (hk : Rd ro h (mapOf t).1 kd uk) (hv : Rd ro h (mapOf t).2 vd uv) : ∀ {ds : List D} {ents : List MapEntry} {i : Nat} {e : MapEntry}, mZ ro h t ds ents → ents[i]? = some e →
 mZ ro h t (ds.set i (.p kd vd)) (ents.set i { e with key := uk, val := uv })
 | [], ents, i, e, he, hi => by simp only [mZ] at he; subst he; simp at hi
 | d :: ds, ents, 0, e, he, hi => by
   obtain ⟨e0, r, rfl, h1, h2, h3, h4⟩ := he
   simp at hi
   subst hi
   simp only [List.set_cons_zero]
   exact ⟨_, r, rfl, rfl, hk, hv, h4⟩
 | d :: ds, ents, i + 1, e, he, hi => by
   obtain ⟨e0, r, rfl, h1, h2, h3, h4⟩ := he
   simp only [List.set_cons_succ]
   exact ⟨e0, _, rfl, h1, h2, h3, mZ.set hk hv h4 (by simpa using hi)⟩
theorem mZ.push {ro : Nat → Prop} {h : Array Obj} {t : Nat} {kd vd : D} {uk uv : Value} {c : Nat} (hk : Rd ro h (mapOf t).1 kd uk) (hv : Rd ro h (mapOf t).2 vd uv) : ∀ {ds : List D} {ents : List MapEntry}, mZ ro h t ds ents →
 mZ ro h t (ds ++ [.p kd vd]) (ents ++ [{ key := uk, val := uv, born := c }])
 | [], ents, he => by
   simp only [mZ] at he
   subst he
   exact ⟨_, [], rfl, rfl, hk, hv, rfl⟩
 | d :: ds, ents, he => by
   obtain ⟨e0, r, rfl, h1, h2, h3, h4⟩ := he
   simp only [List.cons_append]
   exact ⟨e0, _, rfl, h1, h2, h3, mZ.push hk hv h4⟩
theorem mZ.erase {ro : Nat → Prop} {h : Array Obj} {t : Nat} : ∀ {ds : List D} {ents : List MapEntry} {i : Nat}, mZ ro h t ds ents → mZ ro h t (ds.eraseIdx i) (ents.eraseIdx i)
 | [], ents, i, he => by simp only [mZ] at he; subst he; simp [mZ]
 | d :: ds, ents, 0, he => by
   obtain ⟨e0, r, rfl, h1, h2, h3, h4⟩ := he
   simpa using h4
 | d :: ds, ents, i + 1, he => by
   obtain ⟨e0, r, rfl, h1, h2, h3, h4⟩ := he
   simp only [List.eraseIdx_cons_succ]
   exact ⟨e0, _, rfl, h1, h2, h3, mZ.erase h4⟩
theorem Di {m : AV} {h : Hp} {id t : Nat} {e : SE} (hm : Ce m h = some (id, e, t)) : m = .map id ∧ h.get id = some (.iI e t) := by
 unfold Ce at hm
 split at hm
 ·split at hm
  ·rename_i o ho
   split at hm
   ·simp only [Option.some.injEq, Prod.mk.injEq] at hm
    obtain ⟨rfl, rfl, rfl⟩ := hm
    exact ⟨rfl, ho⟩
   ·simp at hm
  ·simp at hm
 ·simp at hm
theorem F6 {tt : TT} (htt : dW P tt) {h : Array Obj} {ty t : Nat} {k : AV} {uk : Value} {a : SE} {ie : TI} (hk : VR E h k uk) (hm : mapKey tt ty t k = some (a, ie)) :
 ∃ kt et dt, P.underlying ty = some (.map kt et) ∧ P.underlying kt = some dt ∧ GK dt (G9 (mapOf t).1) ∧ rM P et ie ∧ Rd E.ro h (mapOf t).1 (dec (a.den E.ρ)) uk := by
 unfold mapKey at hm
 split at hm
 ·simp at hm
 ·rename_i ti hti
  split at hm
  ·rename_i kt et hkind
   split at hm
   ·simp at hm
   ·rename_i ki hki
    split at hm
    ·rename_i hkk
     split at hm
     ·simp at hm
     ·rename_i ie' hie
      split at hm
      ·simp at hm
      ·rename_i a0 ha0
       simp only [Option.some.injEq, Prod.mk.injEq] at hm
       obtain ⟨rfl, rfl⟩ := hm
       have hu := DC (htt ty ti hti) hkind
       have hkd : ∃ dt, P.underlying kt = some dt ∧ GK dt (G9 (mapOf t).1) := by
        rcases NR t with ⟨q, hq⟩ | hq
        ·rw [hq] at hkk ⊢
         exact ⟨_, AQ (htt kt ki hki) hkk, q, rfl⟩
        ·rw [hq] at hkk ⊢
         exact ⟨_, fU (htt kt ki hki) hkk, rfl⟩
       obtain ⟨dt, h1, h2⟩ := hkd
       refine ⟨kt, et, dt, hu, h1, h2, htt et ie' hie, ?_⟩
       rw [nO, aC]
       exact (pV hk ha0).rd (sN ha0)
    ·simp at hm
  ·simp at hm
theorem F5 [Glob] {H : Hp} (r : aX E H w) {id t : Nat} {e : SE} (hl : H.get id = some (.iI e t)) : ∃ ents c', w.heap[(E.θ id).1]? = some (.map ents c') ∧ mZ E.ro w.heap t (dec (e.den E.ρ)).l ents.toList :=
 (r.live id _ hl).2.1
theorem nV {t : Nat} {c : CK} {d : TypeDesc} (hu : P.underlying t = some d) (hd : GK d (G9 c)) (b : Bool) (v : Value) : (Instr.checkKey b 10000 t v).run P w = .ok () w := iH hu hd b v
theorem Zt {ρ : Nat → Int} (e a : SE) : (aeE e a).den ρ = ((SE.op .JJ e a).den ρ == (SE.lit 0).den ρ) := by
 unfold aeE
 split
 ·split
  ·simp only [SB.den, SE.den, aN.den, aC]
   split <;> rename_i hq <;> simp [hq]
  ·rfl
 ·rfl
theorem Ws [Glob] {tt : TT} (htt : dW P tt) {s s' : St} (r : aX E s.h w) (hp : aZ E.ρ s.pc) {ty id t : Nat} {m k v : AV} {e : SE} {um uk : Value} {ok : Bool} (hm : VR E w.heap m um) (hk : VR E w.heap k uk) (hat : Ce m s.h = some (id, e, t)) (h : (EI tt ty k ok e t s).leaf E.ρ = some (v, s')) :
 s'.slots = s.slots ∧ s'.h = s.h ∧ aZ E.ρ s'.pc ∧ ∃ x, (Instr.lookup ty um uk ok).run P w = .ok x w ∧ VR E w.heap v x := by
 obtain ⟨rfl, hl⟩ := Di hat
 unfold EI at h
 split at h
 ·simp [T.leaf] at h
 ·rename_i a ie hmk
  obtain ⟨kt, et, dt, hu, hd1, hd2, hie, hrk⟩ := F6 htt hk hmk
  split at h
  ·simp [T.leaf] at h
  ·rename_i z hz
   obtain ⟨u0, z1, z2⟩ := Md (P := P) (w := w) (E := E) hie hz
   obtain ⟨ents, c', g1, g2⟩ := F5 r hl
   have hg := kT (P := P) g1 (by simp)
   simp only [VR] at hm
   obtain ⟨rfl, hid⟩ := hm
   have hf := EF (i := 0) hd2 hrk g2
   obtain ⟨pc1, hp1, h1⟩ := cO hp h
   rw [Zt] at h1
   simp only [SE.den, aN.den] at h1
   rcases hf with ⟨q1, q2, _, _⟩ | ⟨j, x, en, q1, q2, q3, q4, q5, _, _⟩
   ·rw [q1] at h1
    have := aF h1
    simp only [Prod.mk.injEq] at this
    obtain ⟨rfl, rfl⟩ := this
    refine ⟨rfl, rfl, hp1, (if ok then .tuple #[u0, .bool false] else u0), ?_, ?_⟩
    ·cases ok <;> simp [Instr.lookup, run_underlying hu, hg, nV hd1 hd2, gU hd1 q2, z1]
    ·cases ok
     ·exact z2
     ·simp only [if_true, VR, bD]
      exact ⟨[u0, .bool false], rfl, _, _, rfl, z2, _, _, rfl, by simp [SB.den], rfl⟩
   ·rw [q1] at h1
    have := aF h1
    simp only [Prod.mk.injEq] at this
    obtain ⟨rfl, rfl⟩ := this
    have hval : VR E w.heap (yP (mapOf t).2 (.op .JK e a)) en.val := by
     rw [sO]
     simp only [SE.den, aN.den, aC, q1, Option.getD_some]
     exact q3.cell
    refine ⟨rfl, rfl, hp1, (if ok then .tuple #[en.val, .bool true] else en.val), ?_, ?_⟩
    ·cases ok <;> simp [Instr.lookup, run_underlying hu, hg, nV hd1 hd2, gU hd1 q4]
    ·cases ok
     ·exact hval
     ·simp only [if_true, VR, bD]
      exact ⟨[en.val, .bool true], rfl, _, _, rfl, hval, _, _, rfl, by simp [SB.den], rfl⟩
theorem ZA [Glob] {tt : TT} (htt : dW P tt) {s s' : St} (r : aX E s.h w) {ty id t : Nat} {m k x v : AV} {e : SE} {um uk ux : Value} (hm : VR E w.heap m um) (hk : VR E w.heap k uk) (hx : VR E w.heap x ux) (hat : Ce m s.h = some (id, e, t)) (h : (Wp tt ty id k x e t s).leaf E.ρ = some (v, s')) :
 s'.slots = s.slots ∧ s'.pc = s.pc ∧ v = AV.undef ∧ ∃ w', (Instr.mapUpdate ty um uk ux).run P w = .ok () w' ∧ Stp E s.h w E s'.h w' ∧ aX E s'.h w' := by
 obtain ⟨rfl, hl⟩ := Di hat
 unfold Wp at h
 split at h
 ·simp [T.leaf] at h
 ·rename_i a ie hmk
  obtain ⟨kt, et, dt, hu, hd1, hd2, hie, hrk⟩ := F6 htt hk hmk
  split at h
  ·simp [T.leaf] at h
  ·rename_i b hb
   have := aF h
   simp only [Prod.mk.injEq] at this
   obtain ⟨rfl, rfl⟩ := this
   have hrx := (pV hx hb).rd (sN hb)
   obtain ⟨ents, c', g1, g2⟩ := F5 r hl
   have hg := kT (P := P) g1 (by simp)
   simp only [VR] at hm
   obtain ⟨rfl, hid⟩ := hm
   refine ⟨rfl, rfl, rfl, ?_⟩
   have hden : dec ((SE.op .Eb e (fV a b)).den E.ρ) = dL (Ti (dec (e.den E.ρ)).l (dec (a.den E.ρ)) (dec (b.den E.ρ))) := by
    simp only [fV, SE.den, aN.den, aC]
   rcases EF (i := 0) hd2 hrk g2 with ⟨q1, q2, q3, _⟩ | ⟨j, y, en, q1, q2, q3, q4, q5, q6, _⟩
   ·refine ⟨_, ?_, jL r hl (.iI (.op .Eb e (fV a b)) t) (.map (ents.push { key := uk, val := ux, born := c' }) (c' + 1)) ?_⟩
    ·simp [Instr.mapUpdate, run_underlying hu, hg, nV hd1 hd2, gU hd1 q2, kQ (P := P) g1]
    ·intro h' hh kp
     simp only [OR]
     refine ⟨_, _, hh, ?_⟩
     rw [hden, bC, q3, Array.toList_push]
     exact mZ.push (hrk.keep kp.ro kp.Js) (hrx.keep kp.ro kp.Js) (g2.keep kp.ro kp.Js)
   ·simp only [Nat.zero_add] at q4
    have hkt : (Instr.keyThatStays (((ents[j]?).map (·.key)).getD uk) uk).run P w = .ok uk w := by
     have q2' := q2
     rw [Array.getElem?_toList] at q2'
     simp only [q2', Option.map_some, Option.getD_some, Instr.keyThatStays]
     rw [if_pos (q5 9999)]
     rfl
    refine ⟨_, ?_, jL r hl (.iI (.op .Eb e (fV a b)) t) (.map (ents.modify j fun e => { e with key := uk, val := ux }) c') ?_⟩
    ·simp [Instr.mapUpdate, run_underlying hu, hg, nV hd1 hd2, gU hd1 q4, hkt, kQ (P := P) g1]
    ·intro h' hh kp
     simp only [OR]
     refine ⟨_, _, hh, ?_⟩
     rw [hden, bC, q6, JI ents j en _ q2]
     exact mZ.set (hrk.keep kp.ro kp.Js) (hrx.keep kp.ro kp.Js) (g2.keep kp.ro kp.Js) q2
theorem Oh [Glob] {tt : TT} (htt : dW P tt) {s s' : St} (r : aX E s.h w) (hp : aZ E.ρ s.pc) {ty : Nat} {m k x v : AV} {um uk ux : Value} (hm : VR E w.heap m um) (hk : VR E w.heap k uk) (hx : VR E w.heap x ux) (h : (QJ tt ty m k x s).leaf E.ρ = some (v, s')) :
 s'.slots = s.slots ∧ aZ E.ρ s'.pc ∧ v = AV.undef ∧ ∃ w' E', (Instr.mapUpdate ty um uk ux).run P w = .ok () w' ∧ Stp E s.h w E' s'.h w' ∧ aX E' s'.h w' := by
 unfold QJ at h
 obtain ⟨vs, h1, pc1, E1, hp1, f, q, g⟩ := wU rfl r hp h
 have hρ := f.ρ
 rw [← hρ] at hp1 g
 have hv := q [ux] (by simp only [bD]; exact ⟨ux, [], rfl, hx, rfl⟩)
 split at g
 ·rename_i x1
  simp only [bD] at hv
  obtain ⟨u1, us1, e1, hx1, e2⟩ := hv
  subst e2
  simp only [List.cons.injEq, and_true] at e1
  subst e1
  split at g
  ·rename_i id e t hat
   obtain ⟨a1, a2, a3, w', a4, a5, a6⟩ := ZA htt (s := { s with h := h1, pc := pc1 }) f.rel (VR.keep (f.dV.keeps r) _ _ hm) (VR.keep (f.dV.keeps r) _ _ hk) hx1 hat g
   exact ⟨a1, by rw [a2, ← hρ]; exact hp1, a3, w', E1, a4, f.dV.trans a5, a6⟩
  ·simp [T.leaf] at g
 ·simp [T.leaf] at g
theorem ZF [Glob] {tt : TT} (htt : dW P tt) {s s' : St} (r : aX E s.h w) {ty id t ts : Nat} {m k v : AV} {e : SE} {um uk : Value} (hm : VR E w.heap m um) (hk : VR E w.heap k uk) (hat : Ce m s.h = some (id, e, t)) (h : (WA tt ty id k e t s).leaf E.ρ = some (v, s')) (tr : Nat) :
 s'.slots = s.slots ∧ s'.pc = s.pc ∧ v = AV.undef ∧ ∃ w', (Builtin.delete_ #[ty, ts] tr #[um, uk]).run P w = .ok (.tuple #[]) w' ∧ Stp E s.h w E s'.h w' ∧ aX E s'.h w' := by
 obtain ⟨rfl, hl⟩ := Di hat
 unfold WA at h
 split at h
 ·simp [T.leaf] at h
 ·rename_i a ie hmk
  obtain ⟨kt, et, dt, hu, hd1, hd2, hie, hrk⟩ := F6 htt hk hmk
  have := aF h
  simp only [Prod.mk.injEq] at this
  obtain ⟨rfl, rfl⟩ := this
  obtain ⟨ents, c', g1, g2⟩ := F5 r hl
  have hg := kT (P := P) g1 (by simp)
  simp only [VR] at hm
  obtain ⟨rfl, hid⟩ := hm
  refine ⟨rfl, rfl, rfl, ?_⟩
  have hden : dec ((SE.op .Zl e a).den E.ρ) = dL (Tj (dec (e.den E.ρ)).l (dec (a.den E.ρ))) := by
   simp only [SE.den, aN.den, aC]
  rcases EF (i := 0) hd2 hrk g2 with ⟨q1, q2, _, q3⟩ | ⟨j, y, en, q1, q2, q3, q4, q5, _, q6⟩
  ·refine ⟨_, ?_, jL r hl (.iI (.op .Zl e a) t) (.map ents c') ?_⟩
   ·simp [Builtin.delete_, run_underlying hu, hg, nV hd1 hd2, gU hd1 q2, kQ (P := P) g1]
   ·intro h' hh kp
    simp only [OR]
    refine ⟨_, _, hh, ?_⟩
    rw [hden, bC, q3]
    exact g2.keep kp.ro kp.Js
  ·simp only [Nat.zero_add] at q4
   refine ⟨_, ?_, jL r hl (.iI (.op .Zl e a) t) (.map (ents.eraseIdxIfInBounds j) c') ?_⟩
   ·simp [Builtin.delete_, run_underlying hu, hg, nV hd1 hd2, gU hd1 q4, kQ (P := P) g1]
   ·intro h' hh kp
    simp only [OR]
    refine ⟨_, _, hh, ?_⟩
    have hil : j < ents.size := by have := (List.getElem?_eq_some_iff.1 q2).1; simpa using this
    have : (ents.eraseIdxIfInBounds j).toList = ents.toList.eraseIdx j := by
     simp [Array.eraseIdxIfInBounds, hil]
    rw [this, hden, bC, q6]
    exact mZ.erase (g2.keep kp.ro kp.Js)
end
end Go.As
end
section
namespace Go.As
theorem Rx {α β : Type} (f : α → β) (xs : Array α) : xs.map f = (xs.toList.map f).toArray := by
 apply Array.ext'
 simp
def uJ (P : Program) (R : Value → World → Prop) : Result Next → Prop
 | .ok (.value u) w' => R u w'
 | .ok (.enter f args) w' => Calls P f args w' fun e w'' => ∃ u, e = .returned u ∧ R u w''
 | _ => False
def uK (P : Program) (g : FuncId) (vals : Array Value) (w : World) (R : Value → World → Prop) : Prop := uJ P R ((callFunc g vals).run P w)
def mY [Glob] (P : Program) (g : FuncId) (f : List AV → St → T (AV × St)) : Prop :=
 ∀ (args : List AV) (s : St) (E : En) (w : World) (vals : List Value) (v : AV) (s' : St), aX E s.h w → bD E w.heap args vals → aZ E.ρ s.pc → (f args s).leaf E.ρ = some (v, s') →
  s'.slots = s.slots ∧ aZ E.ρ s'.pc ∧ uK P g vals.toArray w (After E s w v s')
theorem Ei {E : En} {h : Array Obj} {k : Nat} {e : SE} {i : Nat} (he : e.den E.ρ = (i : Int)) : ∀ (ks : List IntKind) (j : Nat),
 bD E h (zS k e ks j) ((ks.zipIdx j).map fun p => .int p.1 (E.ρ (1000 + i * 64 + (k * 8 + p.2))))
 | [], j => by simp [zS, bD]
 | kd :: ks, j => by
   simp only [zS, List.zipIdx_cons, List.map_cons]
   rw [aQ]
   refine ⟨_, _, rfl, ?_, Ei he ks (j + 1)⟩
   simp only [VR, SE.den, he, Int.toNat_natCast]
theorem Wv {P : Program} {E : En} {w : World} {tt : TT} (htt : dW P tt) {pc : List (SB × Bool)} (hp : aZ E.ρ pc) {t k : Nat} {ks : List IntKind} {ix v : AV} {u ui : Value} (hx : VR E w.heap (.inp k ks) u) (hix : VR E w.heap ix ui)
 (h : QL tt pc t k ks ix = some v) : ∃ r, (Instr.indexAt t u ui).run P w = .ok r w ∧ VR E w.heap v r := by
 unfold QL at h
 split at h
 ·rename_i kd e
  split at h
  ·rename_i ti hti
   split at h
   ·rename_i el hk
    have hu := fH (htt t ti hti) hk
    split at h
    ·rename_i s hs
     simp only [jK, Option.map_eq_some_iff] at hs
     obtain ⟨ie, hie, rfl⟩ := hs
     split at h
     ·rename_i hc
      split at h
      ·rename_i h1 h2
       simp at h
       subst h
       have h1 := fF hp h1
       have h2 := fF hp h2
       rw [dS, decide_eq_false_iff_not] at h1
       rw [dS, decide_eq_true_eq] at h2
       simp only [SE.den, Int.not_lt] at h1 h2
       simp only [VR] at hx hix
       subst hix
       rcases hx with ⟨⟨x, cap, rfl⟩, h0⟩ | ⟨b, o, n, cap, rfl, g1, g2, g3, g4⟩
       ·omega
       ·obtain ⟨i, hi⟩ : ∃ i : Nat, e.den E.ρ = (i : Int) := ⟨(e.den E.ρ).toNat, by omega⟩
        have hin : i < n := by omega
        refine ⟨.pointer (some ⟨b, o + i * ie.size, none⟩), ?_, ?_⟩
        ·rw [hi]
         simp [Instr.indexAt, asIntOf, run_underlying hu, dQ (htt el ie hie), hin, eX]
        ·simp only [VR]
         refine ⟨b, _, _, rfl, g3, Ei hi ks 0, ?_, ?_⟩
         ·intro j u hj
          rw [List.getElem?_map, List.getElem?_zipIdx, Option.map_map, Option.map_eq_some_iff] at hj
          obtain ⟨kd', h3, rfl⟩ := hj
          rw [hc.1, g4 i j kd' hin h3]
          simp
         ·intro u hu'
          rw [List.mem_map] at hu'
          obtain ⟨p, _, rfl⟩ := hu'
          rfl
      ·simp at h
     ·simp at h
    ·simp at h
   ·simp at h
  ·simp at h
 ·simp at h
theorem KQ {E : En} {k : IntKind} {r : SE} : ∀ (n : Nat) (j : Int) {s s' : St} {v : AV}, aZ E.ρ s.pc → j ≤ r.den E.ρ → r.den E.ρ ≤ j + n → (Om k r n j s).leaf E.ρ = some (v, s') →
 s'.slots = s.slots ∧ s'.h = s.h ∧ aZ E.ρ s'.pc ∧ ∀ h, VR E h v (.int k (r.den E.ρ))
 | 0, j, s, s', v, hp, h1, h2, h => by
   simp only [Om, T.leaf, Option.some.injEq, Prod.mk.injEq] at h
   obtain ⟨rfl, rfl⟩ := h
   refine ⟨rfl, rfl, hp, fun h => ?_⟩
   simp only [VR, SE.den]
   congr 1
   omega
 | n + 1, j, s, s', v, hp, h1, h2, h => by
   simp only [Om] at h
   obtain ⟨pc', hp', h3⟩ := cO hp h
   rw [kZ] at h3
   split at h3
   ·rename_i he
    simp only [T.leaf, Option.some.injEq, Prod.mk.injEq] at h3
    obtain ⟨rfl, rfl⟩ := h3
    simp only [SE.den, beq_iff_eq] at he
    exact ⟨rfl, rfl, hp', fun h => by simp only [VR, SE.den, he]⟩
   ·rename_i he
    simp only [SE.den, beq_eq_false_iff_ne, ne_eq] at he
    exact KQ (s := { s with pc := pc' }) n (j + 1) hp' (by omega) (by push_cast at h2 ⊢; omega) h3
theorem ajT {E : En} {s s' : St} {k : IntKind} {e : SE} {n : Nat} {v : AV} (hp : aZ E.ρ s.pc) (h : (apT s k e n).leaf E.ρ = some (v, s')) :
 s'.slots = s.slots ∧ s'.h = s.h ∧ aZ E.ρ s'.pc ∧ ∀ h, VR E h v (.int k ((e.den E.ρ).tmod ((n : Int) + 1))) := by
 have hr : (SE.rem e (.lit (Int.ofNat (n + 1)))).den E.ρ = (e.den E.ρ).tmod ((n : Int) + 1) := by simp [SE.den]
 have hlt := Int.tmod_lt_of_pos (e.den E.ρ) (b := (n : Int) + 1) (by omega)
 unfold apT at h
 rw [← hr] at hlt ⊢
 split at h
 ·rename_i hd
  have hd := fF hp hd
  rw [dS, decide_eq_false_iff_not] at hd
  simp only [SE.den, Int.not_lt] at hd
  have := Int.tmod_nonneg ((n : Int) + 1) hd
  rw [← hr] at this
  exact KQ n 0 hp this (by omega) h
 ·have : -(n : Int) ≤ (SE.rem e (.lit (Int.ofNat (n + 1)))).den E.ρ := by
   rw [hr]
   have h1 := Int.tmod_lt_of_pos (-(e.den E.ρ)) (b := (n : Int) + 1) (by omega)
   rw [Int.neg_tmod] at h1
   omega
  refine KQ (n + n) (Int.negOfNat n) hp ?_ ?_ h
  ·rw [Int.negOfNat_eq]; exact this
  ·rw [Int.negOfNat_eq]
   have : (Int.ofNat n) = (n : Int) := rfl
   rw [this]; push_cast; omega
theorem Y8 {E : En} {h : Array Obj} {op : BinOp} {a b : AV} {k : IntKind} {e : SE} {n : Nat} (hr : VA op a b = some (k, e, n)) {u u' : Value} (ha : VR E h a u) (hb : VR E h b u') :
 op = .rem ∧ u = .int k (e.den E.ρ) ∧ u' = .int k ((n : Int) + 1) := by
 unfold VA at hr
 split at hr
 ·split at hr
  ·split at hr
   ·split at hr
    ·split at hr
     ·split at hr
      ·simp at hr
      ·split at hr
       ·simp at hr
       ·split at hr
        ·rename_i hc
         simp only [Option.some.injEq, Prod.mk.injEq] at hr
         obtain ⟨rfl, rfl, rfl⟩ := hr
         simp only [VR] at ha hb
         refine ⟨rfl, ha, ?_⟩
         rw [hb, hc.1]
         simp [SE.den]
        ·simp at hr
     ·simp at hr
    ·simp at hr
   ·simp at hr
  ·simp at hr
 ·simp at hr
def jE [Glob] (P : Program) (call : dM) : Prop := ∀ g, mY P g (call g)
theorem vV.next {P : Program} {o : Oper} {a : Act} {w : World} {R : Value → World → Prop} (h : uJ P R ((execOp a.eval o).run P w)) : vV P o a w R := by
 intro K Q hk
 unfold Oper.wp
 generalize (execOp a.eval o).run P w = r at h
 cases r with
 | halt x w' => exact h.elim
 | ok n w' =>
   cases n <;> first
    | exact h.elim
    | exact hk _ _ h
    | (exact Calls.mono h fun e w'' ⟨u, he, hr⟩ => by subst he; exact hk _ _ hr)
theorem LG {tt : TT} {t n : Nat} {ix : AV} {e : SE} (h : Yy tt t ix = some (n, e)) : ∃ k ti el ie, ix = .int k e ∧ tt t = some ti ∧ ti.kind = .array n el ∧ tt el = some ie ∧ ie.size = 1 ∧ ie.agg = false := by
 unfold Yy at h
 split at h
 ·simp at h
 ·split at h
  ·split at h
   ·rename_i ti hti
    split at h
    ·rename_i n' el hk
     split at h
     ·split at h
      ·rename_i ie hie
       split at h
       ·rename_i hc
        simp only [Option.some.injEq, Prod.mk.injEq] at h
        obtain ⟨rfl, rfl⟩ := h
        exact ⟨_, ti, el, ie, rfl, hti, hk, hie, hc.1, hc.2⟩
       ·simp at h
      ·simp at h
     ·simp at h
    ·simp at h
   ·simp at h
  ·simp at h
section
variable {P : Program} {E : En} {w : World} {s s' : St} {o : Oper} {a : Act} {v : AV}
theorem QV [Glob] {tt : TT} (htt : dW P tt) (r : aX E s.h w) (hp : aZ E.ρ s.pc) {b : Builtin} {ts : List Nat} {args : List AV} {vals : List Value} (hv : bD E w.heap args vals) (ty : Nat) (cs : Array Bool)
 (h : (BD tt s b ts args).leaf E.ρ = some (v, s')) : s'.slots = s.slots ∧ aZ E.ρ s'.pc ∧ ∃ u w', (builtin b ts.toArray ty cs vals.toArray).run P w = .ok (.value u) w' ∧ After E s w v s' u w' := by
 unfold BD at h
 split at h
 ·rename_i t x
  obtain ⟨e1, rfl⟩ := jX h
  rw [aQ] at hv
  obtain ⟨u, vs, rfl, hx, hxs⟩ := hv
  rw [jG] at hxs
  subst hxs
  obtain ⟨y, h1, h2⟩ := aeQ (ty := ty) htt r hx e1
  exact ⟨rfl, hp, y, w, by simp [builtin, h1], E, Stp.refl _ _ _, r, h2⟩
 ·rename_i t t2 id lo n t' y
  rw [aQ] at hv
  obtain ⟨u, vs, rfl, hx, hxs⟩ := hv
  rw [aQ] at hxs
  obtain ⟨u2, vs, rfl, hy, hys⟩ := hxs
  rw [jG] at hys
  subst hys
  split at h
  ·rename_i hz
   obtain ⟨q1, q2, z, w', E', h1, h2, h3, h4⟩ := Uf (ty := ty) htt r hp hz hx hy h
   exact ⟨q1, q2, z, w', by simp [builtin, h1], E', h2, h3, h4⟩
  ·simp [T.leaf] at h
 ·rename_i t t2 x y _
  rw [aQ] at hv
  obtain ⟨u, vs, rfl, hx, hxs⟩ := hv
  rw [aQ] at hxs
  obtain ⟨u2, vs, rfl, hy, hys⟩ := hxs
  rw [jG] at hys
  subst hys
  split at h
  ·rename_i hown
   obtain ⟨q1, q2, z, w', E', h1, h2, h3, h4⟩ := QY (ty := ty) htt r hp hx hy (fun hd => by rw [hd, Bool.or_false] at hown; exact Tt hx hown) h
   exact ⟨q1, q2, z, w', by simp [builtin, h1], E', h2, h3, h4⟩
  obtain ⟨H, e1, rfl⟩ := tJ h
  obtain ⟨z, w', E', h1, h2, h3, h4⟩ := Ue (ty := ty) htt r hx hy e1
  exact ⟨rfl, hp, z, w', by simp [builtin, h1], E', h2, h3, h4⟩
 ·rename_i t ts' m k
  rw [aQ] at hv
  obtain ⟨u, vs, rfl, hx, hxs⟩ := hv
  rw [aQ] at hxs
  obtain ⟨u2, vs, rfl, hy, hys⟩ := hxs
  rw [jG] at hys
  subst hys
  split at h
  ·rename_i id e t' hat
   obtain ⟨q1, q2, rfl, w', h1, h2, h3⟩ := ZF (ts := ts') htt r hx hy hat h ty
   exact ⟨q1, by rw [q2]; exact hp, .tuple #[], w', by simp [builtin, h1], E, h2, h3, by simp only [AV.undef, VR, bD]; exact ⟨[], rfl, rfl⟩⟩
  obtain ⟨pc', hp', h⟩ := uP hp h
  obtain ⟨H, e1, rfl, rfl⟩ := DV h
  obtain ⟨w', h1, h2, h3⟩ := Ud (ts := ts') htt hp' r hx hy e1 ty
  exact ⟨rfl, hp', .tuple #[], w', by simp [builtin, h1], E, h2, h3, by simp only [AV.undef, VR, bD]; exact ⟨[], rfl, rfl⟩⟩
 ·rename_i t id n t'
  rw [aQ] at hv
  obtain ⟨u, vs, rfl, hx, hxs⟩ := hv
  rw [jG] at hxs
  subst hxs
  obtain ⟨q1, q2, rfl, w', E', h1, h2, h3⟩ := Ho (ty := ty) htt r hp (Xh hx) h
  exact ⟨q1, q2, .tuple #[], w', by simp [builtin, h1], E', h2, h3, by simp only [AV.undef, VR, bD]; exact ⟨[], rfl, rfl⟩⟩
 ·rename_i t id lo n t'
  rw [aQ] at hv
  obtain ⟨u, vs, rfl, hx, hxs⟩ := hv
  rw [jG] at hxs
  subst hxs
  obtain ⟨q1, q2, rfl, w', E', h1, h2, h3⟩ := Ho (ty := ty) htt r hp hx h
  exact ⟨q1, q2, .tuple #[], w', by simp [builtin, h1], E', h2, h3, by simp only [AV.undef, VR, bD]; exact ⟨[], rfl, rfl⟩⟩
 ·rename_i t x _ _
  obtain ⟨H, e1, rfl, rfl⟩ := DV h
  rw [aQ] at hv
  obtain ⟨u, vs, rfl, hx, hxs⟩ := hv
  rw [jG] at hxs
  subst hxs
  obtain ⟨w', h1, h2, h3⟩ := WE (ty := ty) htt r hx e1
  exact ⟨rfl, hp, .tuple #[], w', by simp [builtin, h1], E, h2, h3, by simp only [AV.undef, VR, bD]; exact ⟨[], rfl, rfl⟩⟩
 ·rename_i k e xs
  rw [aQ] at hv
  obtain ⟨u, vs, rfl, hx, hxs⟩ := hv
  simp only [VR] at hx
  subst hx
  obtain ⟨q1, q2, q3, u, q4, q5⟩ := pO (P := P) (w := w) hp hxs h
  refine ⟨q2, q3, u, w, ?_, E, by rw [q1]; exact Stp.refl _ _ _, by rw [q1]; exact r, q5⟩
  simp only [Bool.false_eq_true, if_false] at q4
  simp [builtin, Builtin.min_, q4]
 ·rename_i k e xs
  rw [aQ] at hv
  obtain ⟨u, vs, rfl, hx, hxs⟩ := hv
  simp only [VR] at hx
  subst hx
  obtain ⟨q1, q2, q3, u, q4, q5⟩ := pO (P := P) (w := w) hp hxs h
  refine ⟨q2, q3, u, w, ?_, E, by rw [q1]; exact Stp.refl _ _ _, by rw [q1]; exact r, q5⟩
  simp only [if_true] at q4
  simp [builtin, Builtin.max_, q4]
 ·simp [T.leaf] at h
theorem ZG [Glob] {tt : TT} (htt : dW P tt) {call : dM} (hc : jE P call) (r : aX E s.h w) (sr : SR E w.heap s.slots a) (hp : aZ E.ρ s.pc) {c : Call} (ho : o.op = .call c)
 (h : (QU tt call s c).leaf E.ρ = some (v, s')) : lX P E s o a w v s' := by
 unfold QU at h
 split at h
 ·simp [T.leaf] at h
 ·rename_i args hargs
  have hv := QA sr hargs
  have hmap : c.args.map a.eval = (c.args.toList.map a.eval).toArray := Rx _ _
  split at h
  ·rename_i b aqV
   obtain ⟨q1, q2, u, w', q3, q4⟩ := QV htt r hp hv o.type (c.args.map fun | .const _ => true | _ => false) h
   refine ⟨q1, q2, vV.value ?_ q4⟩
   simp only [execOp, ho, resolve, aqV, Sem.run_bind, Sem.run_pure, Result.andThen_ok, invoke, hmap]
   exact q3
  ·rename_i f aqV
   split at h
   ·rename_i g fs cs hf
    have hfv := jB sr hf
    simp only [VR] at hfv
    obtain ⟨us, ws, he, h1, h2⟩ := hfv
    obtain ⟨q1, q2, q3⟩ := hc g _ s E w _ v s' r ((h1.append hv).append h2) hp h
    refine ⟨q1, q2, vV.next ?_⟩
    unfold uK at q3
    simp only [execOp, ho, resolve, aqV, Sem.run_bind, he, Deferred.ofValue, Sem.run_pure, Result.andThen_ok, invoke, hmap]
    simpa using q3
   ·simp [T.leaf] at h
  ·simp [T.leaf] at h
theorem ahD [Glob] {α : Type} {E : En} {h : Array Obj} {v : AV} {u : Value} {s : St} {k : AV → St → T α} {r : α} (hp : aZ E.ρ s.pc) (hv : VR E h v u) (hl : (ahE v s k).leaf E.ρ = some r) :
 ∃ v' pc', aZ E.ρ pc' ∧ VR E h v' u ∧ (k v' { s with pc := pc' }).leaf E.ρ = some r := by
 unfold ahE at hl
 split at hl
 ·split at hl
  ·exact ⟨_, s.pc, hp, hv, hl⟩
  ·obtain ⟨pc1, hp1, h1⟩ := cO hp hl
   refine ⟨_, pc1, hp1, ?_, h1⟩
   simp only [VR, SB.den] at *
   exact hv
 ·exact ⟨_, s.pc, hp, hv, hl⟩
theorem Yf [Glob] {tt : TT} (htt : dW P tt) {call : dM} (hc : jE P call) (r : aX E s.h w) (sr : SR E w.heap s.slots a) (hp : aZ E.ρ s.pc) (h : (QK tt call s o.op).leaf E.ρ = some (v, s')) : lX P E s o a w v s' := by
 obtain ⟨dst, op, type, pos, after, guard⟩ := o
 simp only at h
 cases op <;> simp only [QK] at h <;> first | (simp [T.leaf] at h; done) | skip
 case move x =>
  obtain ⟨u, h1, h2⟩ := iU sr h
  have := aF h2
  simp only [Prod.mk.injEq] at this
  obtain ⟨rfl, rfl⟩ := this
  exact lX.pure hp r (u := a.eval x) rfl h1
 case assign x =>
  obtain ⟨u, h1, h2⟩ := iU sr h
  have := aF h2
  simp only [Prod.mk.injEq] at this
  obtain ⟨rfl, rfl⟩ := this
  exact lX.pure hp r (u := a.eval x) rfl h1
 case pick c x y =>
  obtain ⟨cv, h1, h2⟩ := iU sr h
  split at h2
  ·rename_i cb
   obtain ⟨pc', hp', h3⟩ := cO hp h2
   simp only [VR] at h1
   cases hcd : cb.den E.ρ <;> rw [hcd] at h1 h3
   ·simp only [Bool.false_eq_true, if_false] at h3
    obtain ⟨u, h4, h5⟩ := iU (s := { s with pc := pc' }) sr h3
    have := aF h5
    simp only [Prod.mk.injEq] at this
    obtain ⟨rfl, rfl⟩ := this
    exact ⟨rfl, hp', vV.value (u := a.eval y) (by simp [execOp, h1, asBool]) ⟨E, Stp.refl _ _ _, r, h4⟩⟩
   ·simp only [if_true] at h3
    obtain ⟨u, h4, h5⟩ := iU (s := { s with pc := pc' }) sr h3
    have := aF h5
    simp only [Prod.mk.injEq] at this
    obtain ⟨rfl, rfl⟩ := this
    exact ⟨rfl, hp', vV.value (u := a.eval x) (by simp [execOp, h1, asBool]) ⟨E, Stp.refl _ _ _, r, h4⟩⟩
  ·simp [T.leaf] at h2
 case alloc t =>
  split at h
  ·rename_i i hi
   have := aF h
   simp only [Prod.mk.injEq] at this
   obtain ⟨rfl, rfl⟩ := this
   obtain ⟨inf, z, g1, g2, g3, g4, g5⟩ := Em (htt t i hi)
   have hz := fC (E := E) (h := w.heap) g5
   obtain ⟨s1, s2⟩ := lG r z.cells 0 0 t hz.1 hz.2 (fun i u hu => by rw [← Array.getElem?_toList]; exact hu) (by omega) (w' := { w with heap := w.heap.push (.cells z.cells t) }) rfl ⟨rfl, rfl, rfl⟩
   exact lX.heap hp (u := .pointer (some ⟨w.heap.size, 0, none⟩)) (by simp [execOp, Instr.alloc, zeroValue, typeInfo, g1, g4, newVar, newRow]) s1 s2 (Pq r _ _ 0)
  ·simp [T.leaf] at h
 case box t x =>
  obtain ⟨u, h1, h2⟩ := iU sr h
  split at h2
  ·rename_i hone
   have := aF h2
   simp only [Prod.mk.injEq] at this
   obtain ⟨rfl, rfl⟩ := this
   have hcv := h1.cells hone
   obtain ⟨s1, s2⟩ := lG r (a.eval x).cells 0 0 t hcv (hcv.ones hone) (fun i u hu => by rw [← Array.getElem?_toList]; exact hu) (by omega) (w' := { w with heap := w.heap.push (.cells (a.eval x).cells t) }) rfl ⟨rfl, rfl, rfl⟩
   exact lX.heap hp (u := .pointer (some ⟨w.heap.size, 0, none⟩)) (by simp [execOp, Instr.box, newVar, newRow]) s1 s2 (Pq r _ _ 0)
  ·simp [T.leaf] at h2
 case build t parts =>
  split at h
  ·rename_i ps hps
   obtain ⟨e1, rfl⟩ := jX h
   have hpr := Dn sr hps
   obtain ⟨x, h1, h2⟩ := WH (w := w) (ps := parts.map fun p => (p.1, a.eval p.2)) htt (by simpa using hpr) e1
   exact lX.pure hp r (u := x) (by simp [execOp, h1]) h2
  ·simp [T.leaf] at h
 case buildSlice t len parts =>
  split at h
  ·rename_i ps hps
   obtain ⟨H, e1, rfl⟩ := tJ h
   have hpr := Dn sr hps
   obtain ⟨x, w', E', h1, h2, h3, h4⟩ := Ih (ps := parts.map fun p => (p.1, a.eval p.2)) htt r (by simpa using hpr) e1
   exact lX.heap hp (u := x) (by simp [execOp, h1]) h2 h3 h4
  ·simp [T.leaf] at h
 case makeSlice t l c =>
  obtain ⟨u, h1, h2⟩ := iU sr h
  split at h2
  ·rename_i cv hc
   obtain ⟨H, e1, rfl⟩ := tJ h2
   obtain ⟨x, w', E', g1, g2, g3, g4⟩ := KD htt r h1 (jB sr hc) e1
   exact lX.heap hp (u := x) (by simp [execOp, g1]) g2 g3 g4
  ·simp [T.leaf] at h2
 case insert t m k x =>
  obtain ⟨u, h1, h2⟩ := iU sr h
  split at h2
  ·rename_i kv xv hk hx
   split at h2
   ·obtain ⟨q1, q2, rfl, w', E', g1, g2, g3⟩ := Oh (P := P) htt r hp h1 (jB sr hk) (jB sr hx) h2
    exact ⟨q1, q2, vV.skip (by simp [execOp, g1]) ⟨E', g2, g3, oG⟩⟩
   obtain ⟨pc', hp', h2⟩ := uP hp h2
   obtain ⟨H, e1, rfl, rfl⟩ := DV h2
   obtain ⟨w', g1, g2, g3⟩ := Ac htt hp' r h1 (jB sr hk) (jB sr hx) e1
   exact ⟨rfl, hp', vV.skip (by simp [execOp, g1]) ⟨E, g2, g3, oG⟩⟩
  ·simp [T.leaf] at h2
 case load t x =>
  obtain ⟨u, h1, h2⟩ := iU sr h
  split at h2
  ·obtain ⟨q1, q2, q3, y, b, off, g1, g2, g3⟩ := Wu htt r hp h1 h2
   exact ⟨q1, q3, vV.value (u := y) (by simp [execOp, Instr.loadAt, g1, Instr.sureAddr, g2]) ⟨E, by rw [q2]; exact Stp.refl _ _ _, by rw [q2]; exact r, g3⟩⟩
  obtain ⟨e1, rfl⟩ := jX h2
  obtain ⟨y, b, off, g1, g2, g3⟩ := Gj htt r h1 e1
  exact lX.pure hp r (u := y) (by simp [execOp, Instr.loadAt, g1, Instr.sureAddr, g2]) g3
 case store t x y =>
  obtain ⟨u, h1, h2⟩ := iU sr h
  split at h2
  ·rename_i yv hy
   obtain ⟨yv', pc', hp', hyv, h2⟩ := ahD hp (jB sr hy) h2
   split at h2
   ·obtain ⟨q1, q2, rfl, w', E', g1, g2, g3⟩ := TV htt (s := { s with pc := pc' }) r hp' h1 hyv h2
    exact ⟨q1, q2, vV.skip (by simp [execOp, g1]) ⟨E', g2, g3, oG⟩⟩
   obtain ⟨H, e1, rfl, rfl⟩ := DV h2
   obtain ⟨w', g1, g2, g3⟩ := Wi htt r h1 hyv e1
   exact ⟨rfl, hp', vV.skip (by simp [execOp, g1]) ⟨E, g2, g3, oG⟩⟩
  ·simp [T.leaf] at h2
 case nilCheck x =>
  obtain ⟨u, h1, h2⟩ := iU sr h
  split at h2
  ·have := aF h2
   simp only [Prod.mk.injEq] at this
   obtain ⟨rfl, rfl⟩ := this
   have h1' := h1
   simp only [VR] at h1
   exact lX.pure hp r (u := a.eval x) (by simp [execOp, h1.1]) h1'
  ·have := aF h2
   simp only [Prod.mk.injEq] at this
   obtain ⟨rfl, rfl⟩ := this
   have h1' := h1
   simp only [VR] at h1
   obtain ⟨b, off, us, hu, _⟩ := h1
   exact lX.pure hp r (u := a.eval x) (by simp [execOp, hu]) h1'
  ·have := aF h2
   simp only [Prod.mk.injEq] at this
   obtain ⟨rfl, rfl⟩ := this
   have h1' := h1
   simp only [VR] at h1
   obtain ⟨_, k, _, hu⟩ := h1
   exact lX.pure hp r (u := a.eval x) (by simp [execOp, hu]) h1'
  ·simp [T.leaf] at h2
 case binOp bop t x y yt =>
  obtain ⟨u, h1, h2⟩ := iU sr h
  split at h2
  ·rename_i yv hy
   have hyv := jB sr hy
   split at h2
   ·rename_i xs
    simp only [VR] at h1
    obtain ⟨us, hus, h1⟩ := h1
    split at h2
    ·rename_i ys
     simp only [VR] at hyv
     obtain ⟨vs, hvs, hyv⟩ := hyv
     split at h2
     ·rename_i c hcc
      have := aF h2
      simp only [Prod.mk.injEq] at this
      obtain ⟨rfl, rfl⟩ := this
      obtain ⟨g1, g2, g3⟩ := KJ (w := w) htt h1 hyv hcc .eql x y
      exact lX.pure hp r (u := .bool (c.den E.ρ)) (by simp [execOp, hus, hvs, g1, g2]) (by simp only [VR])
     ·simp [T.leaf] at h2
    ·rename_i ys
     simp only [VR] at hyv
     obtain ⟨vs, hvs, hyv⟩ := hyv
     split at h2
     ·rename_i c hcc
      have := aF h2
      simp only [Prod.mk.injEq] at this
      obtain ⟨rfl, rfl⟩ := this
      obtain ⟨g1, g2, g3⟩ := KJ (w := w) htt h1 hyv hcc .neq x y
      exact lX.pure hp r (u := .bool (!(c.den E.ρ))) (by simp [execOp, hus, hvs, g1, g3]) (by simp only [VR, pI])
     ·simp [T.leaf] at h2
    ·simp [T.leaf] at h2
   ·split at h2
    ·rename_i e hna
     obtain ⟨q1, q2, q3, y', g1, g2, g3, g4⟩ := akC (P := P) (w := w) htt hna h1 hyv hp h2
     exact ⟨q1, q3, vV.value (u := y') (by simp [execOp, Ag (P := P) (w := w) g3 g4, g1]) ⟨E, by rw [q2]; exact Stp.refl _ _ _, by rw [q2]; exact r, g2⟩⟩
    split at h2
    ·rename_i k e n hrl
     obtain ⟨rfl, hu1, hu2⟩ := Y8 hrl h1 hyv
     obtain ⟨q1, q2, q3, q4⟩ := ajT hp h2
     refine ⟨q1, q3, vV.value (u := .int k ((e.den E.ρ).tmod ((n : Int) + 1))) (w' := w) ?_ ⟨E, by rw [q2]; exact Stp.refl _ _ _, by rw [q2]; exact r, q4 _⟩⟩
     have hne : ¬ ((n : Int) + 1 = 0) := by omega
     simp [execOp, hu1, hu2, binOp, Op.intDiv, hne, eqGuard]
    split at h2
    ·rename_i x' y' hsp
     obtain ⟨q1, q2, q3, ⟨y'', g1, g2⟩, g3, g4⟩ := Zz (P := P) (w := w) (t := t) hp h1 hyv hsp h2
     exact ⟨q1, q3, vV.value (u := y'') (by simp [execOp, Ag (P := P) (w := w) g3 g4, g1]) ⟨E, by rw [q2]; exact Stp.refl _ _ _, by rw [q2]; exact r, g2⟩⟩
    ·obtain ⟨e1, rfl⟩ := jX h2
     obtain ⟨⟨y', g1, g2⟩, g3, g4⟩ := aeS (w := w) htt h1 hyv e1
     exact lX.pure hp r (u := y') (by simp [execOp, Ag (P := P) (w := w) g3 g4, g1]) g2
  ·simp [T.leaf] at h2
 case unOp uop t x =>
  obtain ⟨u, h1, h2⟩ := iU sr h
  obtain ⟨e1, rfl⟩ := jX h2
  obtain ⟨y, g1, g2⟩ := alO (P := P) (w := w) h1 e1
  exact lX.pure hp r (u := y) (by simp [execOp, g1]) g2
 case convert sT dT x =>
  obtain ⟨u, h1, h2⟩ := iU sr h
  split at h2
  ·obtain ⟨q1, q2, y, w', E', g1, g2, g3, g4⟩ := WG (P := P) htt r hp h1 h2
   exact ⟨q1, q2, vV.value (u := y) (by simp [execOp, g1]) ⟨E', g2, g3, g4⟩⟩
  obtain ⟨H, e1, rfl⟩ := tJ h2
  obtain ⟨y, w', E', g1, g2, g3, g4⟩ := EL htt r h1 e1
  exact lX.heap hp (u := y) (by simp [execOp, g1]) g2 g3 g4
 case makeFunc fn fs cs =>
  split at h
  ·rename_i f c hf hcs
   have := aF h
   simp only [Prod.mk.injEq] at this
   obtain ⟨rfl, rfl⟩ := this
   have h1 := QA sr hf
   have h2 := QA sr hcs
   refine lX.pure hp r (u := .func fn (fs.map a.eval) (cs.map a.eval)) (by simp [execOp, Instr.makeFunc]) ?_
   simp only [VR]
   have m1 : fs.map a.eval = (fs.toList.map a.eval).toArray := Rx _ _
   have m2 : cs.map a.eval = (cs.toList.map a.eval).toArray := Rx _ _
   exact ⟨_, _, by rw [m1, m2], h1, h2⟩
  ·simp [T.leaf] at h
 case makeMap t res =>
  split at h
  ·split at h
   ·rename_i m hm
    have := aF h
    simp only [Prod.mk.injEq] at this
    obtain ⟨rfl, rfl⟩ := this
    obtain ⟨s1, s2⟩ := D9 r (.map #[] 0) (.iI (.dat (.i 0)) m) 0 (w' := { w with heap := w.heap.push (.map #[] 0) }) rfl ⟨rfl, rfl, rfl⟩ (by
     simp only [OR, En.ext_θ_new]
     exact ⟨#[], 0, by simp, by simp [mZ, SE.den, aC, D.l]⟩)
    exact lX.heap hp (u := .map (some w.heap.size)) (by simp [execOp, Instr.makeMap]) s1 s2 (by simp only [VR, En.ext_θ_new]; exact ⟨trivial, En.jV _ _ _ _⟩)
   have := aF h
   simp only [Prod.mk.injEq] at this
   obtain ⟨rfl, rfl⟩ := this
   obtain ⟨s1, s2⟩ := D9 r (.map #[] 0) (.map [] 0) 0 (w' := { w with heap := w.heap.push (.map #[] 0) }) rfl ⟨rfl, rfl, rfl⟩ (by
    simp only [OR, En.ext_θ_new]
    exact ⟨#[], 0, by simp, by simp [eF]⟩)
   exact lX.heap hp (u := .map (some w.heap.size)) (by simp [execOp, Instr.makeMap]) s1 s2 (by simp only [VR, En.ext_θ_new]; exact ⟨trivial, En.jV _ _ _ _⟩)
  ·simp [T.leaf] at h
 case slice t x lo hi mx =>
  obtain ⟨u, h1, h2⟩ := iU sr h
  split at h2
  ·rename_i l hh m hl hhh hm
   split at h2
   ·obtain ⟨q1, q2, q3, y, g1, g2⟩ := WB (w := w) htt hp h1 (fD sr hl) (fD sr hhh) (fD sr hm) h2
    exact ⟨q1, q3, vV.value (u := y) (by simp [execOp, g1]) ⟨E, by rw [q2]; exact Stp.refl _ _ _, by rw [q2]; exact r, g2⟩⟩
   ·obtain ⟨q1, q2, q3, y, g1, g2⟩ := Kv htt r hp (Xh h1) (fD sr hl) (fD sr hhh) (fD sr hm) h2
    exact ⟨q1, q3, vV.value (u := y) (by simp [execOp, g1]) ⟨E, by rw [q2]; exact Stp.refl _ _ _, by rw [q2]; exact r, g2⟩⟩
   ·obtain ⟨q1, q2, q3, y, g1, g2⟩ := Kv htt r hp h1 (fD sr hl) (fD sr hhh) (fD sr hm) h2
    exact ⟨q1, q3, vV.value (u := y) (by simp [execOp, g1]) ⟨E, by rw [q2]; exact Stp.refl _ _ _, by rw [q2]; exact r, g2⟩⟩
   ·obtain ⟨q1, q2, q3, y, g1, g2⟩ := V8 (w := w) htt hp h1 (fD sr hl) (fD sr hhh) (fD sr hm) h2
    exact ⟨q1, q3, vV.value (u := y) (by simp [execOp, g1]) ⟨E, by rw [q2]; exact Stp.refl _ _ _, by rw [q2]; exact r, g2⟩⟩
   ·obtain ⟨q1, q2, q3, y, g1, g2⟩ := Wy (w := w) htt hp h1 (fD sr hl) (fD sr hhh) (fD sr hm) h2
    exact ⟨q1, q3, vV.value (u := y) (by simp [execOp, g1]) ⟨E, by rw [q2]; exact Stp.refl _ _ _, by rw [q2]; exact r, g2⟩⟩
   split at h2
   ·rename_i v' e1
    have := aF h2
    simp only [Prod.mk.injEq] at this
    obtain ⟨rfl, rfl⟩ := this
    obtain ⟨y, g1, g2⟩ := Wj (w := w) htt h1 (fD sr hl) (fD sr hhh) (fD sr hm) e1
    exact lX.pure hp r (u := y) (by simp [execOp, g1]) g2
   ·obtain ⟨e1, rfl⟩ := jX h2
    obtain ⟨y, g1, g2⟩ := TW (w := w) htt r h1 (fD sr hl) (fD sr hhh) (fD sr hm) e1
    exact lX.pure hp r (u := y) (by simp [execOp, g1]) g2
  ·simp [T.leaf] at h2
 case fieldAddr t x f =>
  obtain ⟨u, h1, h2⟩ := iU sr h
  obtain ⟨e1, rfl⟩ := jX h2
  obtain ⟨y, g1, g2⟩ := KI (w := w) htt h1 e1
  exact lX.pure hp r (u := y) (by simp [execOp, g1]) g2
 case field t x f =>
  obtain ⟨u, h1, h2⟩ := iU sr h
  obtain ⟨e1, rfl⟩ := jX h2
  obtain ⟨y, g1, g2⟩ := Wx (w := w) htt h1 e1
  exact lX.pure hp r (u := y) (by simp [execOp, g1]) g2
 case indexAddr t x i =>
  obtain ⟨u, h1, h2⟩ := iU sr h
  split at h2
  ·rename_i iv hi
   split at h2
   ·obtain ⟨e1, rfl⟩ := jX h2
    obtain ⟨y, g1, g2⟩ := Wv (w := w) htt hp h1 (jB sr hi) e1
    exact lX.pure hp r (u := y) (by simp [execOp, g1]) g2
   ·obtain ⟨q1, q2, q3, y, g1, g2⟩ := WC (w := w) htt hp h1 (jB sr hi) h2
    exact ⟨q1, q3, vV.value (u := y) (by simp [execOp, g1]) ⟨E, by rw [q2]; exact Stp.refl _ _ _, by rw [q2]; exact r, g2⟩⟩
   ·obtain ⟨q1, q2, q3, y, g1, g2⟩ := V7 (w := w) htt hp h1 (jB sr hi) h2
    exact ⟨q1, q3, vV.value (u := y) (by simp [execOp, g1]) ⟨E, by rw [q2]; exact Stp.refl _ _ _, by rw [q2]; exact r, g2⟩⟩
   ·obtain ⟨q1, q2, q3, y, g1, g2⟩ := V6 (w := w) htt hp h1 (jB sr hi) h2
    exact ⟨q1, q3, vV.value (u := y) (by simp [execOp, g1]) ⟨E, by rw [q2]; exact Stp.refl _ _ _, by rw [q2]; exact r, g2⟩⟩
   ·rename_i pid po
    split at h2
    ·rename_i n e hb
     split at h2
     ·rename_i ho
      subst ho
      obtain ⟨kd, ti, el, ie, rfl, b1, b2, b3, b4, b5⟩ := LG hb
      obtain ⟨pc', hp', t1, t2, h3⟩ := pY hp h2
      have := aF h3
      simp only [Prod.mk.injEq] at this
      obtain ⟨rfl, rfl⟩ := this
      have hiv := jB sr hi
      simp only [VR] at hiv
      simp only [SE.den] at t2
      obtain ⟨k, hk⟩ : ∃ k : Nat, e.den E.ρ = (k : Int) := ⟨(e.den E.ρ).toNat, by omega⟩
      have hlt : k < n := by simp at t2; omega
      rw [hk] at hiv
      obtain ⟨y, g1, g2⟩ := tY (P := P) (w := w) htt (t := t) (ix := .int kd (.lit (Int.ofNat k))) h1 (by simp only [VR, SE.den]; exact hiv) (v := .ptr pid (0 + k * ie.size)) (by
       unfold qU
       simp only [lU, b1, b2, jK, b3, Option.map_some]
       rw [if_pos hlt]
       rfl)
      refine ⟨rfl, hp', vV.value (u := y) (by simp [execOp, g1]) ⟨E, Stp.refl _ _ _, r, ?_⟩⟩
      simp only [VR] at g2 ⊢
      exact ⟨g2.2, k, hk, by rw [g2.1, b4]; congr 3; omega⟩
     ·simp [T.leaf] at h2
    ·obtain ⟨ix', pc', hp', hix, h2⟩ := Fb hp (jB sr hi) h2
     obtain ⟨e1, rfl⟩ := jX h2
     obtain ⟨y, g1, g2⟩ := tY (w := w) htt h1 hix e1
     exact ⟨rfl, hp', vV.value (u := y) (by simp [execOp, g1]) ⟨E, Stp.refl _ _ _, r, g2⟩⟩
   ·obtain ⟨ix', pc', hp', hix, h2⟩ := Fb hp (jB sr hi) h2
    obtain ⟨e1, rfl⟩ := jX h2
    obtain ⟨y, g1, g2⟩ := tY (w := w) htt h1 hix e1
    exact ⟨rfl, hp', vV.value (u := y) (by simp [execOp, g1]) ⟨E, Stp.refl _ _ _, r, g2⟩⟩
  ·simp [T.leaf] at h2
 case index t x i =>
  obtain ⟨u, h1, h2⟩ := iU sr h
  split at h2
  ·rename_i iv hi
   split at h2
   ·obtain ⟨q1, q2, q3, y, g1, g2⟩ := V9 (w := w) htt hp h1 (jB sr hi) h2
    exact ⟨q1, q3, vV.value (u := y) (by simp [execOp, g1]) ⟨E, by rw [q2]; exact Stp.refl _ _ _, by rw [q2]; exact r, g2⟩⟩
   ·rename_i cs
    split at h2
    ·rename_i n e hb
     split at h2
     ·rename_i hn
      have hn := Nat.eq_of_beq_eq_true hn
      obtain ⟨kd, ti, el, ie, rfl, b1, b2, b3, b4, b5⟩ := LG hb
      obtain ⟨q1, q2, q3, k, kk, z, x', c1, c2, c3, rfl, c5⟩ := TR hp h2
      have hiv := jB sr hi
      simp only [VR] at hiv
      rw [c1] at hiv
      obtain ⟨l, hd⟩ := Gq c3
      obtain ⟨y, g1, g2⟩ := Dp (P := P) (w := w) htt (t := t) (ix := .int kd (.lit (Int.ofNat k))) h1 (by simp only [VR, SE.den]; exact hiv) (v := .int kk (.lit z)) (by
       unfold EK
       simp only [lU, b1, b2, b3]
       rw [if_pos (by omega), b4, Nat.mul_one, hd]
       simp [partOf, b5])
      refine ⟨q1, q3, vV.value (u := y) (w' := w) (by simp [execOp, g1]) ⟨E, by rw [q2]; exact Stp.refl _ _ _, by rw [q2]; exact r, ?_⟩⟩
      simp only [VR, SE.den] at g2 ⊢
      rw [g2, c5]
     ·simp [T.leaf] at h2
    ·obtain ⟨ix', pc', hp', hix, h2⟩ := Fb hp (jB sr hi) h2
     obtain ⟨e1, rfl⟩ := jX h2
     obtain ⟨y, g1, g2⟩ := Dp (w := w) htt h1 hix e1
     exact ⟨rfl, hp', vV.value (u := y) (by simp [execOp, g1]) ⟨E, Stp.refl _ _ _, r, g2⟩⟩
   obtain ⟨ix', pc', hp', hix, h2⟩ := Fb hp (jB sr hi) h2
   obtain ⟨e1, rfl⟩ := jX h2
   obtain ⟨y, g1, g2⟩ := Dp (w := w) htt h1 hix e1
   exact ⟨rfl, hp', vV.value (u := y) (by simp [execOp, g1]) ⟨E, Stp.refl _ _ _, r, g2⟩⟩
  ·simp [T.leaf] at h2
 case lookup t m k ok =>
  obtain ⟨u, h1, h2⟩ := iU sr h
  split at h2
  ·rename_i kv hk
   split at h2
   ·rename_i id e t' hat
    obtain ⟨q1, q2, q3, y, g1, g2⟩ := Ws (P := P) htt r hp h1 (jB sr hk) hat h2
    exact ⟨q1, q3, vV.value (u := y) (by simp [execOp, g1]) ⟨E, by rw [q2]; exact Stp.refl _ _ _, by rw [q2]; exact r, g2⟩⟩
   obtain ⟨pc', hp', h2⟩ := uP hp h2
   obtain ⟨e1, rfl⟩ := jX h2
   obtain ⟨y, g1, g2⟩ := Ub htt hp' r h1 (jB sr hk) e1
   exact ⟨rfl, hp', vV.value (u := y) (by simp [execOp, g1]) ⟨E, Stp.refl _ _ _, r, g2⟩⟩
  ·simp [T.leaf] at h2
 case mapUpdate t m k x =>
  obtain ⟨u, h1, h2⟩ := iU sr h
  split at h2
  ·rename_i kv xv hk hx
   split at h2
   ·obtain ⟨q1, q2, rfl, w', E', g1, g2, g3⟩ := Oh (P := P) htt r hp h1 (jB sr hk) (jB sr hx) h2
    exact ⟨q1, q2, vV.skip (by simp [execOp, g1]) ⟨E', g2, g3, oG⟩⟩
   obtain ⟨pc', hp', h2⟩ := uP hp h2
   obtain ⟨H, e1, rfl, rfl⟩ := DV h2
   obtain ⟨w', g1, g2, g3⟩ := Ac htt hp' r h1 (jB sr hk) (jB sr hx) e1
   exact ⟨rfl, hp', vV.skip (by simp [execOp, g1]) ⟨E, g2, g3, oG⟩⟩
  ·simp [T.leaf] at h2
 case range t x =>
  obtain ⟨u, h1, h2⟩ := iU sr h
  obtain ⟨H, e1, rfl⟩ := tJ h2
  obtain ⟨y, w', E', g1, g2, g3, g4⟩ := Wn htt r h1 e1
  exact lX.heap hp (u := y) (by simp [execOp, g1]) g2 g3 g4
 case next x isS =>
  obtain ⟨u, h1, h2⟩ := iU sr h
  obtain ⟨H, e1, rfl⟩ := tJ h2
  obtain ⟨y, w', g1, g2, g3, g4⟩ := ZB (P := P) r h1 e1 type
  exact lX.heap hp (u := y) (by simp [execOp, g1]) g2 g3 g4
 case extract x i =>
  obtain ⟨u, h1, h2⟩ := iU sr h
  split at h2
  ·rename_i vs
   obtain ⟨e1, rfl⟩ := jX h2
   simp only [VR] at h1
   obtain ⟨us, hus, h1⟩ := h1
   obtain ⟨y, g1, g2⟩ := h1.nth e1
   exact lX.pure hp r (u := y) (by simp [execOp, Instr.extract, hus, g1]) g2
  ·simp [T.leaf] at h2
 case call c => exact ZG htt hc r sr hp rfl h
end
end Go.As
end
section
namespace Go.As
section
variable {P : Program}
structure Fit [Glob] (E : En) (s : St) (a : Act) (w : World) : Prop where
 rel : aX E s.h w
 sr : SR E w.heap s.slots a
 pc : aZ E.ρ s.pc
structure Then [Glob] (E : En) (s : St) (a : Act) (w : World) (s' : St) (a' : Act) (w' : World) : Prop where
 defers : a'.defers = a.defers
 size : a'.tmps.size = a.tmps.size
 step : ∃ E', Stp E s.h w E' s'.h w' ∧ Fit E' s' a' w'
theorem Then.refl [Glob] {E : En} {s : St} {a : Act} {w : World} (f : Fit E s a w) : Then E s a w s a w := ⟨rfl, rfl, E, Stp.refl _ _ _, f⟩
theorem SR.keep {E E' : En} {h h' : Array Obj} (k : Keeps E h E' h') {slots : Tr AV} {a : Act} (sr : SR E h slots a) : SR E' h' slots a := by
 intro t v ht
 obtain ⟨u, h1, h2⟩ := sr t v ht
 exact ⟨u, h1, VR.keep k v u h2⟩
theorem SR.put {E : En} {h : Array Obj} {slots : Tr AV} {a : Act} (sr : SR E h slots a) {d : Nat} {v : AV} {u : Value} (hd : d < a.tmps.size) (hv : VR E h v u) : SR E h (slots.put d (some v)) (a.put (some d) u) := by
 intro t x ht
 rw [Tr.get_put] at ht
 simp only [Act.put]
 split at ht
 ·rename_i e
  subst e
  simp at ht
  subst ht
  exact ⟨u, by simp [hd], hv⟩
 ·rename_i e
  obtain ⟨y, h1, h2⟩ := sr t x ht
  exact ⟨y, by rw [Array.getElem?_setIfInBounds_ne (fun q => e q.symm)]; exact h1, h2⟩
theorem SR.azS {E : En} {h : Array Obj} {s : St} {a : Act} (sr : SR E h s.slots a) {d : Option Nat} {v : AV} {u : Value} (hd : ∀ t, d = some t → t < a.tmps.size) (hv : VR E h v u) : SR E h (s.Sz d v).slots (a.put d u) := by
 cases d with
 | none => exact sr
 | some t => exact sr.put (hd t rfl) hv
theorem Jw (a : Act) (d : Option Nat) (u : Value) : (a.put d u).tmps.size = a.tmps.size := by cases d <;> simp [Act.put]
theorem put_defers (a : Act) (d : Option Nat) (u : Value) : (a.put d u).defers = a.defers := by cases d <;> rfl
theorem acC (s : St) (d : Option Nat) (v : AV) : (s.Sz d v).h = s.h := by cases d <;> rfl
theorem ajO (s : St) (d : Option Nat) (v : AV) : (s.Sz d v).pc = s.pc := by cases d <;> rfl
theorem Ob [Glob] {E : En} {s s' : St} {a : Act} {w w' : World} {v : AV} {u : Value} {d : Option Nat} (f : Fit E s a w) (hs : s'.slots = s.slots) (hp : aZ E.ρ s'.pc) (h : After E s w v s' u w') (hd : ∀ t, d = some t → t < a.tmps.size) :
 Then E s a w (s'.Sz d v) (a.put d u) w' := by
 obtain ⟨E', h1, h2, h3⟩ := h
 refine ⟨put_defers _ _ _, Jw _ _ _, E', by rw [acC]; exact h1, ⟨by rw [acC]; exact h2, ?_, by rw [ajO, h1.ρ]; exact hp⟩⟩
 refine SR.azS ?_ hd h3
 rw [hs]
 exact f.sr.keep (h1.keeps f.rel)
theorem Then.trans [Glob] {E : En} {s s1 s2 : St} {a a1 a2 : Act} {w w1 w2 : World} (h1 : Then E s a w s1 a1 w1) (h2 : ∀ E1, Stp E s.h w E1 s1.h w1 → Fit E1 s1 a1 w1 → Then E1 s1 a1 w1 s2 a2 w2) : Then E s a w s2 a2 w2 := by
 obtain ⟨d1, z1, E1, st1, f1⟩ := h1
 obtain ⟨d2, z2, E2, st2, f2⟩ := h2 E1 st1 f1
 exact ⟨d2.trans d1, z2.trans z1, E2, st1.trans st2, f2⟩
theorem JF [Glob] {α : Type} {E : En} {w : World} {s : St} {a : Act} {ops : Array Oper} {o : Oper} {f : St → Bool → T α} {r : α} (fit : Fit E s a w) (h : (Bf ops.toList s o f).leaf E.ρ = some r) :
 ∃ pc', aZ E.ρ pc' ∧ (f { s with pc := pc' } (Region.wanted o (yielded ops a.tmps))).leaf E.ρ = some r := by
 unfold Bf at h
 unfold Region.wanted
 split at h
 ·rename_i hg
  rw [hg]
  exact ⟨s.pc, fit.pc, h⟩
 ·rename_i j want hg
  rw [hg]
  split at h
  ·rename_i oj hj
   rw [bU, Array.getElem?_toList] at hj
   split at h
   ·rename_i d hd
    split at h
    ·rename_i c hc
     obtain ⟨u, h1, h2⟩ := fit.sr d _ hc
     simp only [VR] at h2
     subst h2
     obtain ⟨pc', hp', h3⟩ := cO fit.pc h
     refine ⟨pc', hp', ?_⟩
     have : yielded ops a.tmps j = some (c.den E.ρ) := by simp [yielded, hj, hd, h1]
     simp only [this]
     simpa using h3
    ·rename_i vs hc
     obtain ⟨u, h1, h2⟩ := fit.sr d _ hc
     simp only [VR] at h2
     obtain ⟨us, rfl, _⟩ := h2
     refine ⟨s.pc, fit.pc, ?_⟩
     have : yielded ops a.tmps j = none := by simp [yielded, hj, hd, h1]
     simp only [this]
     simpa using h
    ·simp [T.leaf] at h
   ·simp [T.leaf] at h
  ·simp [T.leaf] at h
def atV (n : Nat) (ops : List Oper) : Bool := ops.all fun o => match o.dst with | some d => d < n | none => true
theorem KC [Glob] {tt : TT} (htt : dW P tt) {call : dM} (hc : jE P call) {ops : Array Oper} {Q : Exit → Act → World → Prop} : ∀ (rest : List Oper) (i : Nat) {E : En} {s s' : St} {a : Act} {w : World}, ops.toList.drop i = rest →
 (∀ o ∈ rest, ∀ d, o.dst = some d → d < a.tmps.size) → Fit E s a w → (Ua tt call ops.toList rest s).leaf E.ρ = some s' →
 (∀ a' w', Then E s a w s' a' w' → Q .normal a' w') → wpOps P ops Q (List.range' i rest.length) a w
 | [], i, E, s, s', a, w, _, _, fit, h, hq => by
   have := aF h
   subst this
   exact hq a w (Then.refl fit)
 | o :: rest, i, E, s, s', a, w, hi, hd, fit, h, hq => by
   simp only [Ua] at h
   obtain ⟨pc', hp', h1⟩ := JF fit h
   have hoi : ops[i]? = some o := by
    have := congrArg (·[0]?) hi
    simpa using this
   have hrest : ops.toList.drop (i + 1) = rest := by
    have := congrArg List.tail hi
    simpa using this
   have fit' : Fit E { s with pc := pc' } a w := ⟨fit.rel, fit.sr, hp'⟩
   simp only [List.length_cons, List.range'_succ]
   show wpOps P ops Q (i :: List.range' (i + 1) rest.length) a w
   simp only [wpOps, hoi]
   cases hw : Region.wanted o (yielded ops a.tmps) <;> rw [hw] at h1
   ·simp only [Bool.false_eq_true, if_false] at h1 ⊢
    have hstep : Then E s a w (St.Sz { s with pc := pc' } o.dst AV.undef) (a.put o.dst undef) w :=
     Ob (s' := { s with pc := pc' }) fit rfl hp' ⟨E, Stp.refl _ _ _, fit.rel, oG⟩ (hd o (by simp))
    obtain ⟨d1, z1, E1, st1, f1⟩ := hstep
    refine KC htt hc rest (i + 1) hrest (fun o' ho' d hd' => by rw [z1]; exact hd o' (by simp [ho']) d hd') f1 (by rw [st1.ρ]; exact h1) fun a' w' ht => ?_
    exact hq a' w' ⟨ht.defers.trans d1, ht.size.trans z1, by obtain ⟨E2, st2, f2⟩ := ht.step; exact ⟨E2, st1.trans st2, f2⟩⟩
   ·simp only [if_true] at h1 ⊢
    left
    obtain ⟨⟨v, s1⟩, h2, h3⟩ := T.fB h1
    obtain ⟨q1, q2, q3⟩ := Yf htt hc (o := o) fit'.rel fit'.sr fit'.pc h2
    refine q3 _ _ fun u w1 hu => ?_
    have hstep : Then E s a w (s1.Sz o.dst v) (a.put o.dst u) w1 := Ob (s := s) (s' := s1) fit q1 q2 hu (hd o (by simp))
    obtain ⟨d1, z1, E1, st1, f1⟩ := hstep
    refine KC htt hc rest (i + 1) hrest (fun o' ho' d hd' => by rw [z1]; exact hd o' (by simp [ho']) d hd') f1 (by rw [st1.ρ]; exact h3) fun a' w' ht => ?_
    exact hq a' w' ⟨ht.defers.trans d1, ht.size.trans z1, by obtain ⟨E2, st2, f2⟩ := ht.step; exact ⟨E2, st1.trans st2, f2⟩⟩
def amU [Glob] (P : Program) (draw : List Oper → St → T St) : Prop :=
 ∀ (id : Nat) (ops : Array Oper) (E : En) (s s' : St) (a : Act) (w : World) (Q : Exit → Act → World → Prop), (∀ o ∈ ops.toList, ∀ d, o.dst = some d → d < a.tmps.size) → Fit E s a w → (draw ops.toList s).leaf E.ρ = some s' →
  (∀ a' w', Then E s a w s' a' w' → Q .normal a' w') → (Code.region id ops true).wp P Q a w
def yR [Glob] (P : Program) (chk : Nat → List Oper → Bool) (draw : Nat → List Oper → St → T St) : Prop :=
 ∀ (id : Nat) (ops : Array Oper), chk id ops.toList = true → ∀ (E : En) (s s' : St) (a : Act) (w : World) (Q : Exit → Act → World → Prop), (∀ o ∈ ops.toList, ∀ d, o.dst = some d → d < a.tmps.size) → Fit E s a w → (draw id ops.toList s).leaf E.ρ = some s' →
  (∀ a' w', Then E s a w s' a' w' → Q .normal a' w') → (Code.region id ops true).wp P Q a w
def iQ (chk : Nat → List Oper → Bool) (n : Nat) : Code → Bool
 | .region id ops d => atV n ops.toList && (!d || chk id ops.toList)
 | .seq a b => iQ chk n a && iQ chk n b
 | .cond _ a b => iQ chk n a && iQ chk n b
 | .block _ b => iQ chk n b
 | .loop b => iQ chk n b
 | .scope b => iQ chk n b
 | _ => true
theorem alZ {n m : Nat} {ops : List Oper} (h : atV n ops = true) (hm : n ≤ m) : ∀ o ∈ ops, ∀ d, o.dst = some d → d < m := by
 intro o ho d hd
 unfold atV at h
 rw [List.all_eq_true] at h
 have := h o ho
 rw [hd] at this
 simp at this
 exact Nat.lt_of_lt_of_le this hm
def vF : Ex → Exit
 | .normal => .normal
 | .exit id => .exit id
 | .ret => .ret
def Post [Glob] (E : En) (s : St) (a : Act) (w : World) (e : Ex) (s' : St) (x : Exit) (a' : Act) (w' : World) : Prop := x = vF e ∧ Then E s a w s' a' w'
theorem Then.comp [Glob] {E E1 : En} {s s1 s2 : St} {a a1 a2 : Act} {w w1 w2 : World} (d1 : a1.defers = a.defers) (z1 : a1.tmps.size = a.tmps.size) (st1 : Stp E s.h w E1 s1.h w1) (h2 : Then E1 s1 a1 w1 s2 a2 w2) : Then E s a w s2 a2 w2 := by
 obtain ⟨d2, z2, E2, st2, f2⟩ := h2
 exact ⟨d2.trans d1, z2.trans z1, E2, st1.trans st2, f2⟩
def ahX [Glob] (P : Program) (c : Code) (n : Nat) (f : St → T (Ex × St)) : Prop :=
 ∀ (E : En) (s s' : St) (e : Ex) (a : Act) (w : World), n ≤ a.tmps.size → Fit E s a w → (f s).leaf E.ρ = some (e, s') → c.wp P (Post E s a w e s') a w
theorem KG {ρ : Nat → Int} {f : St → T (Ex × St)} : ∀ (k : Nat) {s s' : St} {e : Ex}, (Ae f k s).leaf ρ = some (e, s') → e ≠ .normal
 | 0, s, s', e, h => by simp [Ae, T.leaf] at h
 | k + 1, s, s', e, h => by
   simp only [Ae] at h
   obtain ⟨⟨e1, s1⟩, h1, h2⟩ := T.fB h
   cases e1 with
   | normal => exact KG k h2
   | exit id => have := aF h2; simp only [Prod.mk.injEq] at this; rw [← this.1]; simp
   | ret => have := aF h2; simp only [Prod.mk.injEq] at this; rw [← this.1]; simp
theorem Oj [Glob] {c : Code} {n : Nat} {f : St → T (Ex × St)} (hf : ahX P c n f) : ∀ (k : Nat) {E : En} {s s' : St} {e : Ex} {a : Act} {w : World}, n ≤ a.tmps.size → Fit E s a w → (Ae f k s).leaf E.ρ = some (e, s') →
 ∀ (Q : Exit → Act → World → Prop), (∀ a' w', Then E s a w s' a' w' → Q (vF e) a' w') → e ≠ .normal ∧ Code.rounds P c Q k a w
 | 0, E, s, s', e, a, w, _, _, h, _, _ => by simp [Ae, T.leaf] at h
 | k + 1, E, s, s', e, a, w, hn, fit, h, Q, hq => by
   simp only [Ae] at h
   obtain ⟨⟨e1, s1⟩, h1, h2⟩ := T.fB h
   have hw := hf E s s1 e1 a w hn fit h1
   rw [rounds_succ]
   cases e1 with
   | normal =>
     simp only at h2
     constructor
     ·exact KG k h2
     ·refine wp_mono hw fun x a1 w1 ⟨hx, ht⟩ => ?_
      subst hx
      obtain ⟨d1, z1, E1, st1, f1⟩ := ht
      exact (Oj hf k (by rw [z1]; exact hn) f1 (by rw [st1.ρ]; exact h2) Q fun a' w' ht' => hq a' w' (ht'.comp d1 z1 st1)).2
   | exit id =>
     have := aF h2
     simp only [Prod.mk.injEq] at this
     obtain ⟨rfl, rfl⟩ := this
     refine ⟨by simp, wp_mono hw fun x a1 w1 ⟨hx, ht⟩ => ?_⟩
     subst hx
     exact hq a1 w1 ht
   | ret =>
     have := aF h2
     simp only [Prod.mk.injEq] at this
     obtain ⟨rfl, rfl⟩ := this
     refine ⟨by simp, wp_mono hw fun x a1 w1 ⟨hx, ht⟩ => ?_⟩
     subst hx
     exact hq a1 w1 ht
theorem kG [Glob] {tt : TT} (htt : dW P tt) {call : dM} (hc : jE P call) {draw : Nat → List Oper → St → T St} {chk : Nat → List Oper → Bool} (hdr : yR P chk draw) {lf n : Nat} : ∀ (c : Code), iQ chk n c = true → ahX P c n (kH tt call draw lf c)
 | .skip, _, E, s, s', e, a, w, _, fit, h => by
   have := aF h
   simp only [Prod.mk.injEq] at this
   obtain ⟨rfl, rfl⟩ := this
   exact wp_skip ⟨rfl, Then.refl fit⟩
 | .region id ops d, hdst, E, s, s', e, a, w, hn, fit, h => by
   simp only [kH] at h
   simp only [iQ, Bool.and_eq_true] at hdst
   have hd := alZ hdst.1 hn
   cases d
   ·simp only [Bool.false_eq_true, if_false] at h
    obtain ⟨s1, h1, h2⟩ := T.fB h
    have := aF h2
    simp only [Prod.mk.injEq] at this
    obtain ⟨rfl, rfl⟩ := this
    refine wp_region ?_
    have := KC (Q := Post E s a w .normal s1) htt hc ops.toList 0 (by simp) hd fit h1 (fun a' w' ht => ⟨rfl, ht⟩)
    rw [List.range_eq_range']
    simpa using this
   ·simp only [if_true] at h
    obtain ⟨s1, h1, h2⟩ := T.fB h
    have := aF h2
    simp only [Prod.mk.injEq] at this
    obtain ⟨rfl, rfl⟩ := this
    exact hdr id ops (by simpa using hdst.2) E s s1 a w _ hd fit h1 (fun a' w' ht => ⟨rfl, ht⟩)
 | .seq x y, hdst, E, s, s', e, a, w, hn, fit, h => by
   simp only [iQ, Bool.and_eq_true] at hdst
   simp only [kH] at h
   obtain ⟨⟨e1, s1⟩, h1, h2⟩ := T.fB h
   refine wp_seq (wp_mono (kG htt hc hdr x hdst.1 E s s1 e1 a w hn fit h1) fun q a1 w1 ⟨hx, ht⟩ => ?_)
   subst hx
   cases e1 with
   | normal =>
     simp only at h2
     obtain ⟨d1, z1, E1, st1, f1⟩ := ht
     refine wp_mono (kG htt hc hdr y hdst.2 E1 s1 s' e a1 w1 (by rw [z1]; exact hn) f1 (by rw [st1.ρ]; exact h2)) fun q a2 w2 ⟨hx, ht'⟩ => ?_
     exact ⟨hx, ht'.comp d1 z1 st1⟩
   | exit id =>
     have := aF h2
     simp only [Prod.mk.injEq] at this
     obtain ⟨rfl, rfl⟩ := this
     exact ⟨rfl, ht⟩
   | ret =>
     have := aF h2
     simp only [Prod.mk.injEq] at this
     obtain ⟨rfl, rfl⟩ := this
     exact ⟨rfl, ht⟩
 | .cond c x y, hdst, E, s, s', e, a, w, hn, fit, h => by
   simp only [iQ, Bool.and_eq_true] at hdst
   simp only [kH] at h
   split at h
   ·rename_i cb hcb
    have hv := jB fit.sr hcb
    simp only [VR] at hv
    obtain ⟨pc', hp', h1⟩ := cO fit.pc h
    have fit' : Fit E { s with pc := pc' } a w := ⟨fit.rel, fit.sr, hp'⟩
    refine wp_cond hv ?_
    cases hcd : cb.den E.ρ <;> rw [hcd] at h1
    ·simp only [Bool.false_eq_true, if_false] at h1 ⊢
     exact wp_mono (kG htt hc hdr y hdst.2 E _ s' e a w hn fit' h1) fun q a2 w2 ⟨hx, ht⟩ => ⟨hx, ht.defers, ht.size, ht.step⟩
    ·simp only [if_true] at h1 ⊢
     exact wp_mono (kG htt hc hdr x hdst.1 E _ s' e a w hn fit' h1) fun q a2 w2 ⟨hx, ht⟩ => ⟨hx, ht.defers, ht.size, ht.step⟩
   ·simp [T.leaf] at h
 | .block id b, hdst, E, s, s', e, a, w, hn, fit, h => by
   simp only [iQ] at hdst
   simp only [kH] at h
   obtain ⟨⟨e1, s1⟩, h1, h2⟩ := T.fB h
   refine wp_block (wp_mono (kG htt hc hdr b hdst E s s1 e1 a w hn fit h1) fun q a1 w1 ⟨hx, ht⟩ => ?_)
   subst hx
   cases e1 with
   | normal =>
     have := aF h2
     simp only [Prod.mk.injEq] at this
     obtain ⟨rfl, rfl⟩ := this
     exact ⟨rfl, ht⟩
   | exit j =>
     have := aF h2
     simp only [Prod.mk.injEq] at this
     obtain ⟨rfl, rfl⟩ := this
     simp only [vF, Exit.inBlock]
     by_cases hj : j = id
     ·rw [if_pos hj, if_pos hj]; exact ⟨rfl, ht⟩
     ·rw [if_neg hj, if_neg hj]; exact ⟨rfl, ht⟩
   | ret =>
     have := aF h2
     simp only [Prod.mk.injEq] at this
     obtain ⟨rfl, rfl⟩ := this
     exact ⟨rfl, ht⟩
 | .loop b, hdst, E, s, s', e, a, w, hn, fit, h => by
   simp only [iQ] at hdst
   simp only [kH] at h
   exact wp_loop_rounds lf (Oj (kG htt hc hdr b hdst) lf hn fit h (Post E s a w e s') (fun a' w' ht => ⟨rfl, ht⟩)).2
 | .exit id, _, E, s, s', e, a, w, _, fit, h => by
   have := aF h
   simp only [Prod.mk.injEq] at this
   obtain ⟨rfl, rfl⟩ := this
   exact wp_exit ⟨rfl, Then.refl fit⟩
 | .scope b, hdst, E, s, s', e, a, w, hn, fit, h => by
   simp only [iQ] at hdst
   simp only [kH] at h
   refine wp_scope_straight (wp_mono (kG htt hc hdr b hdst E s s' e a w hn fit h) fun q a1 w1 ⟨hx, ht⟩ => ?_)
   subst hx
   cases e <;> exact ⟨rfl, ht⟩
 | .label l, _, E, s, s', e, a, w, _, fit, h => by
   have := aF h
   simp only [Prod.mk.injEq] at this
   obtain ⟨rfl, rfl⟩ := this
   exact wp_label ⟨rfl, Then.refl fit⟩
 | .ret, _, E, s, s', e, a, w, _, fit, h => by
   have := aF h
   simp only [Prod.mk.injEq] at this
   obtain ⟨rfl, rfl⟩ := this
   exact wp_ret ⟨rfl, Then.refl fit⟩
 | .rangeFunc _ _ _ _, _, E, s, s', e, a, w, _, fit, h => by simp [kH, T.leaf] at h
 | .goto _, _, E, s, s', e, a, w, _, fit, h => by simp [kH, T.leaf] at h
 | .refuse _, _, E, s, s', e, a, w, _, fit, h => by simp [kH, T.leaf] at h
end
end Go.As
end
section
namespace Go.As
section
variable {P : Program}
theorem TA : ∀ (args : List AV) (i : Nat) (t : Tr AV) (k : Nat), (aW args i t).get k = if i ≤ k ∧ k < i + args.length then args[k - i]? else t.get k
 | [], i, t, k => by
   have : ¬(i ≤ k ∧ k < i + ([] : List AV).length) := by simp
   rw [if_neg this]
   rfl
 | v :: vs, i, t, k => by
   simp only [aW, TA vs (i + 1), Tr.get_put, List.length_cons]
   by_cases h1 : i + 1 ≤ k ∧ k < i + 1 + vs.length
   ·have h2 : i ≤ k ∧ k < i + (vs.length + 1) := by omega
    rw [if_pos h1, if_pos h2]
    have : k - i = (k - (i + 1)) + 1 := by omega
    rw [this, List.getElem?_cons_succ]
   ·rw [if_neg h1]
    by_cases h3 : k = i
    ·subst h3
     have h2 : k ≤ k ∧ k < k + (vs.length + 1) := by omega
     rw [if_pos h2]
     simp
    ·have h2 : ¬(i ≤ k ∧ k < i + (vs.length + 1)) := by omega
     rw [if_neg h2]
     first
      | rw [if_neg h3]
      | rw [if_neg (fun q => h3 q.symm)]
theorem bD.get {E : En} {h : Array Obj} : ∀ {vs : List AV} {us : List Value}, bD E h vs us → ∀ (i : Nat) (v : AV), vs[i]? = some v → ∃ u, us[i]? = some u ∧ VR E h v u
 | [], us, hv, i, v, hi => by simp at hi
 | x :: xs, us, hv, i, v, hi => by
   cases us with
   | nil => simp [bD] at hv
   | cons y ys =>
     simp only [bD] at hv
     obtain ⟨u', us', he, h1, h2⟩ := hv
     simp only [List.cons.injEq] at he
     obtain ⟨rfl, rfl⟩ := he
     cases i with
     | zero => simp at hi; subst hi; exact ⟨y, by simp, h1⟩
     | succ i => simpa using bD.get h2 i v (by simpa using hi)
theorem Ej {E : En} {h : Array Obj} {args : List AV} {vals : List Value} (hv : bD E h args vals) (n : Nat) :
 SR E h (aW args 0 .nil) { tmps := vals.toArray ++ Array.replicate n undef, defers := [] } := by
 intro t v ht
 rw [TA] at ht
 split at ht
 ·rename_i hk
  obtain ⟨u, h1, h2⟩ := bD.get hv t v (by simpa using ht)
  refine ⟨u, ?_, h2⟩
  have : t < vals.length := by
   rcases Nat.lt_or_ge t vals.length with h | h
   ·exact h
   ·rw [List.getElem?_eq_none h] at h1; simp at h1
  rw [Array.getElem?_append_left (by simpa using this)]
  simpa using h1
 ·simp [Tr.get] at ht
def vH (a : Act) : ResultVar → Sem Value
 | .tmp t => pure (a.tmps.getD t undef)
 | .cell b t => do loadVar t (← asAddr (a.tmps.getD b undef))
def resV (vs : List AV) : AV := match vs with | [x] => x | vs => .tuple vs
theorem Nk {vs : List AV} (h : ∀ v, vs = [v] → False) : resV vs = .tuple vs := by
 unfold resV
 split
 ·exact absurd rfl (h _)
 ·rfl
theorem Iz {E : En} {h : Array Obj} {vs : List AV} {us : List Value} (g2 : bD E h vs us) : VR E h (resV vs) (if h : us.toArray.size = 1 then us.toArray[0] else .tuple us.toArray) := by
 cases vs with
 | nil =>
   simp only [bD] at g2
   subst g2
   simp [resV, VR, bD]
 | cons x xs =>
   cases xs with
   | nil =>
     simp only [bD] at g2
     obtain ⟨u, us', rfl, h1, rfl⟩ := g2
     simpa [resV] using h1
   | cons x2 xs =>
     have g3 := g2
     simp only [bD] at g2
     obtain ⟨u, us', rfl, h1, u2, us2, rfl, h2, h3⟩ := g2
     have : ¬ ((u :: u2 :: us2).toArray.size = 1) := by simp
     rw [dif_neg this]
     simp only [resV, VR]
     exact ⟨_, rfl, g3⟩
theorem TY [Glob] {tt : TT} (htt : dW P tt) {E : En} {s : St} {a : Act} {w : World} (fit : Fit E s a w) {r : ResultVar} {v : AV} (h : EH tt s r = some v) :
 ∃ u, (vH a r).run P w = .ok u w ∧ VR E w.heap v u := by
 cases r with
 | tmp t =>
   simp only [EH] at h
   obtain ⟨u, h1, h2⟩ := fit.sr t v h
   exact ⟨u, by simp [vH, h1, Array.getD_eq_getD_getElem?], h2⟩
 | cell b t =>
   simp only [EH] at h
   split at h
   ·rename_i p hp
    obtain ⟨u, h1, h2⟩ := fit.sr b p hp
    obtain ⟨x, bb, o, rfl, h3, h4⟩ := Gj htt fit.rel h2 h
    exact ⟨x, by simp [vH, h1, Array.getD_eq_getD_getElem?, asAddr, h3], h4⟩
   ·simp at h
theorem rY [Glob] {tt : TT} (htt : dW P tt) {E : En} {s : St} {a : Act} {w : World} (fit : Fit E s a w) : ∀ {rs : List ResultVar} {vs : List AV}, lI tt s rs = some vs →
 ∃ us, (rs.mapM (vH a)).run P w = .ok us w ∧ bD E w.heap vs us
 | [], vs, h => by
   simp [lI] at h
   subst h
   exact ⟨[], by simp, by simp [bD]⟩
 | r :: rs, vs, h => by
   simp only [lI] at h
   split at h
   ·simp at h
   ·rename_i v hv
    split at h
    ·simp at h
    ·rename_i vs' hvs
     simp at h
     subst h
     obtain ⟨u, h1, h2⟩ := TY htt fit hv
     obtain ⟨us, h3, h4⟩ := rY htt fit hvs
     refine ⟨u :: us, ?_, by simp only [bD]; exact ⟨u, us, rfl, h2, h4⟩⟩
     rw [List.mapM_cons]
     simp [Sem.run_bind, h1, h3]
def ZY (P : Program) (chk : Nat → Nat → List Oper → Bool) (ft : Nat → Option Func) : Prop := ∀ g fn, ft g = some fn → P.funcs[g]? = some fn ∧ (fn.name == "runtime.NumGoroutine") = false ∧ ∀ c, fn.body = some c → iQ (chk g) fn.ntmps c = true
theorem IX [Glob] {tt : TT} (htt : dW P tt) {chk : Nat → Nat → List Oper → Bool} {ft : Nat → Option Func} (hft : ZY P chk ft) {hook : Nat → Option (List AV → St → T (AV × St))} (hh : ∀ g h, hook g = some h → mY P g h)
 {draw : dM → Nat → Nat → List Oper → St → T St} (hdr : ∀ call, jE P call → ∀ g, yR P (chk g) (draw call g)) (lf : Nat) : ∀ (n : Nat), jE P (Uc tt ft hook draw lf n)
 | 0 => by
   intro g args s E w vals v s' _ _ _ h
   simp [Uc, T.leaf] at h
 | n + 1 => by
   have ih := IX htt hft hh hdr lf n
   intro g args s E w vals v s' r hv hp h
   simp only [Uc] at h
   split at h
   ·rename_i f hf
    exact hh g f hf args s E w vals v s' r hv hp h
   ·split at h
    ·simp [T.leaf] at h
    ·rename_i fn hfn
     obtain ⟨hf, hname, hdst⟩ := hft g fn hfn
     split at h
     ·simp [T.leaf] at h
     ·rename_i c hb
      obtain ⟨⟨e, s1⟩, h1, h2⟩ := T.fB h
      have fit : Fit E { s with slots := aW args 0 .nil } { tmps := vals.toArray ++ Array.replicate (fn.ntmps - vals.toArray.size) undef, defers := [] } w :=
       ⟨r, Ej hv _, hp⟩
      have hwp := kG htt ih (hdr _ ih g) (lf := lf) c (hdst c hb) E _ s1 e _ w (by simp; omega) fit h1
      have hout : ∃ vs, lI tt s1 fn.results.toList = some vs ∧ (e = .normal ∨ e = .ret) ∧ s' = { s1 with slots := s.slots } ∧ v = resV vs := by
       cases e with
       | exit id => simp [T.leaf] at h2
       | normal =>
         simp only at h2
         split at h2
         ·rename_i x hx
          have := aF h2
          simp only [Prod.mk.injEq] at this
          exact ⟨_, hx, .inl rfl, this.2.symm, this.1.symm⟩
         ·rename_i vs hn hx
          have := aF h2
          simp only [Prod.mk.injEq] at this
          refine ⟨_, hx, .inl rfl, this.2.symm, ?_⟩
          rw [← this.1]
          exact (Nk hn).symm
         ·simp [T.leaf] at h2
       | ret =>
         simp only at h2
         split at h2
         ·rename_i x hx
          have := aF h2
          simp only [Prod.mk.injEq] at this
          exact ⟨_, hx, .inr rfl, this.2.symm, this.1.symm⟩
         ·rename_i vs hn hx
          have := aF h2
          simp only [Prod.mk.injEq] at this
          refine ⟨_, hx, .inr rfl, this.2.symm, ?_⟩
          rw [← this.1]
          exact (Nk hn).symm
         ·simp [T.leaf] at h2
      obtain ⟨vs, hr, he, rfl, rfl⟩ := hout
      have hpc : aZ E.ρ s1.pc := by
       obtain ⟨_, _, _, ⟨_, ht⟩, _⟩ := hwp default [] []
       obtain ⟨E1, st1, f1⟩ := ht.step
       have := f1.pc
       rw [st1.ρ] at this
       exact this
      refine ⟨rfl, hpc, ?_⟩
      have aqU : Calls P g vals.toArray w fun e w'' => ∃ u, e = .returned u ∧ After E s w (resV vs) { s1 with slots := s.slots } u w'' := by
       refine calls_of_wp hf hb (wp_mono hwp fun x a1 w1 ⟨hx, ht⟩ => ?_)
       subst hx
       obtain ⟨d1, z1, E1, st1, f1⟩ := ht
       obtain ⟨us, g1, g2⟩ := rY htt f1 hr
       have : ∃ u, (results fn a1.tmps).run P w1 = .ok u w1 ∧ VR E1 w1.heap (resV vs) u := by
        refine ⟨if h : us.toArray.size = 1 then us.toArray[0] else .tuple us.toArray, ?_, ?_⟩
        ·have hm : (fn.results.mapM (vH a1)).run P w1 = .ok us.toArray w1 := by
          rw [Array.mapM_eq_mapM_toList]
          rw [map_eq_pure_bind]
          simp only [Sem.run_bind, g1]
          rfl
         have hres : results fn a1.tmps = (do let vs ← fn.results.mapM (vH a1); pure (if h : vs.size = 1 then vs[0] else .tuple vs)) := rfl
         rw [hres]
         simp only [Sem.run_bind, hm]
         rfl
        ·exact Iz g2
       obtain ⟨u, g3, g4⟩ := this
       rcases he with rfl | rfl
       ·exact ⟨d1, u, g3, u, rfl, E1, st1, f1.rel, g4⟩
       ·exact ⟨d1, u, g3, u, rfl, E1, st1, f1.rel, g4⟩
      have hrun : (callFunc g vals.toArray).run P w = .ok (.enter g vals.toArray) w := by
       unfold callFunc
       simp [hf, hb, by simpa using hname]
      unfold uK uJ
      rw [hrun]
      exact aqU
end
end Go.As
end
section
namespace Go.As
def Tr.over {α : Type} : Tr α → Tr α → Tr α
 | .nil, b => b
 | .node v l r, b => .node (match v with | some x => some x | none => b.val) (Tr.over l b.left) (Tr.over r b.right)
def Tr.minus {α : Type} : Tr α → Tr α → Tr α
 | .nil, b => b
 | .node v l r, b => .node (match v with | some _ => none | none => b.val) (Tr.minus l b.left) (Tr.minus r b.right)
theorem Tr.Ko {α : Type} : ∀ (a b : Tr α) (k : Nat), (Tr.over a b).get k = match a.get k with | some x => some x | none => b.get k
 | .nil, b, k => by simp [Tr.over, Tr.get]
 | .node v l r, b, k => by
   simp only [Tr.over]
   rw [Tr.qR, Tr.qR, Tr.Bq b k]
   by_cases h0 : k = 0
   ·simp only [if_pos h0]
   ·simp only [if_neg h0]
    by_cases h1 : (k - 1) % 2 = 0
    ·simp only [if_pos h1]; exact Tr.Ko l b.left _
    ·simp only [if_neg h1]; exact Tr.Ko r b.right _
theorem Tr.Gi {α : Type} : ∀ (a b : Tr α) (k : Nat), (Tr.minus a b).get k = match a.get k with | some _ => none | none => b.get k
 | .nil, b, k => by simp [Tr.minus, Tr.get]
 | .node v l r, b, k => by
   simp only [Tr.minus]
   rw [Tr.qR, Tr.qR, Tr.Bq b k]
   by_cases h0 : k = 0
   ·simp only [if_pos h0]
   ·simp only [if_neg h0]
    by_cases h1 : (k - 1) % 2 = 0
    ·simp only [if_pos h1]; exact Tr.Gi l b.left _
    ·simp only [if_neg h1]; exact Tr.Gi r b.right _
structure YE (E : En) (H : Hp) (w : World) (E' : En) (H' : Hp) (w' : World) : Prop where
 ρ : E'.ρ = E.ρ
 dm : ∀ id, E.dm id → E'.dm id
 θ : ∀ id, E.dm id → E'.θ id = E.θ id
 κ : ∀ id, E.dm id → E'.κ id = E.κ id
 ro : ∀ b, E.ro b → E'.ro b
 FU : ∀ b, E'.ro b → E.ro b ∨ (∃ id o, H.get id = some o ∧ (E.θ id).1 = b) ∨ w.heap.size ≤ b
 os : w'.os = w.os
 tape : w'.tape = w.tape
 output : w'.output = w.output
 size : w.heap.size ≤ w'.heap.size
 keep : ∀ b, b < w.heap.size → (∀ id o, H.get id = some o → (E.θ id).1 ≠ b) → w'.heap[b]? = w.heap[b]?
 own : ∀ id o, H'.get id = some o → (E'.θ id).1 < w.heap.size → ∃ BP o0, H.get BP = some o0 ∧ (E.θ BP).1 = (E'.θ id).1
section
variable {E E' E'' : En} {H H' H'' : Hp} {w w' w'' : World}
theorem Stp.weak (s : Stp E H w E' H' w') : YE E H w E' H' w' := ⟨s.ρ, s.dm, s.θ, s.κ, s.ro, s.FU, s.os, s.tape, s.output, s.size, s.keep, s.own⟩
theorem YE.strong (s : YE E H w E' H' w') (h1 : H.next ≤ H'.next) (h2 : H'.res = none) (h3 : ∀ id, E'.dm id → E.dm id ∨ (H.next ≤ id ∧ id < H'.next)) : Stp E H w E' H' w' :=
 ⟨s.ρ, s.dm, s.θ, s.κ, s.ro, s.FU, h1, .inl h2, fun id h => (h3 id h).elim .inl fun h => .inr (.inl h), s.os, s.tape, s.output, s.size, s.keep, s.own⟩
theorem YE.trans (a : YE E H w E' H' w') (b : YE E' H' w' E'' H'' w'') : YE E H w E'' H'' w'' where
 ρ := b.ρ.trans a.ρ
 dm := fun id h => b.dm id (a.dm id h)
 θ := fun id h => (b.θ id (a.dm id h)).trans (a.θ id h)
 κ := fun id h => (b.κ id (a.dm id h)).trans (a.κ id h)
 ro := fun x h => b.ro x (a.ro x h)
 FU := fun x h => by
  rcases b.FU x h with h | ⟨id, o, h1, h2⟩ | h
  ·exact a.FU x h
  ·rcases Nat.lt_or_ge x w.heap.size with hx | hx
   ·obtain ⟨BP, o0, h3, h4⟩ := a.own id o h1 (by rw [h2]; exact hx)
    exact .inr (.inl ⟨BP, o0, h3, h4.trans h2⟩)
   ·exact .inr (.inr hx)
  ·exact .inr (.inr (Nat.le_trans a.size h))
 os := b.os.trans a.os
 tape := b.tape.trans a.tape
 output := b.output.trans a.output
 size := Nat.le_trans a.size b.size
 keep := fun x hx hn => by
  rw [b.keep x (Nat.lt_of_lt_of_le hx a.size) ?_, a.keep x hx hn]
  intro id o ho he
  obtain ⟨BP, o0, h0, he0⟩ := a.own id o ho (by rw [he]; exact hx)
  exact hn BP o0 h0 (he0.trans he)
 own := fun id o ho hlt => by
  obtain ⟨id1, o1, h1, he1⟩ := b.own id o ho (Nat.lt_of_lt_of_le hlt a.size)
  obtain ⟨BP, o0, h0, he0⟩ := a.own id1 o1 h1 (by rw [he1]; exact hlt)
  exact ⟨BP, o0, h0, he0.trans he1⟩
theorem YE.keeps [Glob] (s : YE E H w E' H' w') (r : aX E H w) : Keeps E w.heap E' w'.heap :=
 ⟨s.ρ, s.dm, s.θ, s.κ, s.ro, fun b hb => s.keep b (r.A8 b hb) fun id o ho he => (r.live id o ho).2.2 (by rw [he]; exact hb)⟩
theorem aX.part [Glob] {H1 : Hp} (r : aX E H w) (sub : ∀ id o, H1.get id = some o → H.get id = some o) (hn : H.next ≤ H1.next) (hr : ∀ q, H1.res = some q → q < H1.next ∧ ¬ E.dm q) : aX E H1 w :=
 ⟨fun id h => r.fresh id (Nat.le_trans hn h), hr, fun id o h => r.live id o (sub id o h), fun i j o o' h h' e => r.inj i j o o' (sub _ _ h) (sub _ _ h') e, r.A8, r.glob⟩
theorem aeN [Glob] {H1 UN : Hp} (r : aX E H w) (sub : ∀ id o, H1.get id = some o → H.get id = some o) (st : Stp E H1 w E' UN w') (r' : aX E' UN w') (n : Nat) (hn : ∀ id, n ≤ id → ¬ E'.dm id) :
 ∃ H' : Hp, H' = ⟨Tr.over UN.m (Tr.minus H1.m H.m), n, none⟩ ∧ (∀ id o, UN.get id = some o → H'.get id = some o) ∧ (∀ id o, H.get id = some o → H1.get id = none → H'.get id = some o) ∧ aX E' H' w' ∧ YE E H w E' H' w' := by
 have hnot : ∀ id o, H.get id = some o → H1.get id = none → UN.get id = none := by
  intro id o h h1
  cases h2 : UN.get id with
  | none => rfl
  | some o' =>
    exfalso
    have hd := (r.live id o h).1
    have hθ := st.θ id hd
    obtain ⟨BP, o0, g1, g2⟩ := st.own id o' h2 (by rw [hθ]; exact iV r h)
    have := r.inj BP id o0 o (sub _ _ g1) h (by rw [g2, hθ])
    subst this
    rw [h1] at g1
    simp at g1
 have hget : ∀ id, (⟨Tr.over UN.m (Tr.minus H1.m H.m), n, none⟩ : Hp).get id = match UN.get id with | some x => some x | none => match H1.get id with | some _ => none | none => H.get id := by
  intro id
  simp only [Hp.get, Tr.Ko, Tr.Gi]
  cases UN.m.get id with
  | some x => rfl
  | none => cases H1.m.get id <;> rfl
 have hcase : ∀ id o, (⟨Tr.over UN.m (Tr.minus H1.m H.m), n, none⟩ : Hp).get id = some o → UN.get id = some o ∨ (UN.get id = none ∧ H1.get id = none ∧ H.get id = some o) := by
  intro id o h
  rw [hget] at h
  cases h1 : UN.get id with
  | some x => rw [h1] at h; exact .inl h
  | none =>
    rw [h1] at h
    cases h2 : H1.get id with
    | some x => rw [h2] at h; simp at h
    | none => rw [h2] at h; exact .inr ⟨rfl, rfl, h⟩
 have hkeep : ∀ id o, H1.get id = none → H.get id = some o → w'.heap[(E.θ id).1]? = w.heap[(E.θ id).1]? := by
  intro id o h1 h
  refine st.keep _ (iV r h) fun BP o0 h0 he => ?_
  have := r.inj BP id o0 o (sub _ _ h0) h he
  subst this
  rw [h1] at h0
  simp at h0
 have k : Keeps E w.heap E' w'.heap := ⟨st.ρ, st.dm, st.θ, st.κ, st.ro, fun b hb => st.keep b (r.A8 b hb) fun id o ho he => (r.live id o (sub _ _ ho)).2.2 (by rw [he]; exact hb)⟩
 refine ⟨_, rfl, fun id o h => by rw [hget, h], fun id o h h1 => by rw [hget, hnot id o h h1, h1]; exact h, ⟨hn, by simp, ?_, ?_, r'.A8, r'.glob⟩, ⟨st.ρ, st.dm, st.θ, st.κ, st.ro, fun b hb => (st.FU b hb).imp id (Or.imp (fun ⟨i, o, h1, h2⟩ => ⟨i, o, sub _ _ h1, h2⟩) id), st.os, st.tape, st.output, st.size, ?_, ?_⟩⟩
 ·intro id o h
  rcases hcase id o h with h1 | ⟨h1, h2, h3⟩
  ·exact r'.live id o h1
  ·obtain ⟨g1, g2, g3⟩ := r.live id o h3
   refine ⟨st.dm id g1, g2.keep k g1 (hkeep id o h2 h3), ?_⟩
   rw [st.θ id g1]
   intro hr
   rcases st.FU _ hr with hr | ⟨BP, o0, f1, f2⟩ | hr
   ·exact g3 hr
   ·have := r.inj BP id o0 o (sub _ _ f1) h3 f2
    subst this
    rw [h2] at f1
    simp at f1
   ·have := iV r h3
    omega
 ·intro i j o o' h h' he
  rcases hcase i o h with h1 | ⟨h1, h2, h3⟩ <;> rcases hcase j o' h' with g1 | ⟨g1, g2, g3⟩
  ·exact r'.inj i j o o' h1 g1 he
  ·exfalso
   rw [st.θ j (r.live j o' g3).1] at he
   obtain ⟨BP, o0, f1, f2⟩ := st.own i o h1 (by rw [he]; exact iV r g3)
   have := r.inj BP j o0 o' (sub _ _ f1) g3 (f2.trans he)
   subst this
   rw [g2] at f1
   simp at f1
  ·exfalso
   rw [st.θ i (r.live i o h3).1] at he
   obtain ⟨BP, o0, f1, f2⟩ := st.own j o' g1 (by rw [← he]; exact iV r h3)
   have := r.inj BP i o0 o (sub _ _ f1) h3 (f2.trans he.symm)
   subst this
   rw [h2] at f1
   simp at f1
  ·rw [st.θ i (r.live i o h3).1, st.θ j (r.live j o' g3).1] at he
   exact r.inj i j o o' h3 g3 he
 ·intro b hb hno
  exact st.keep b hb fun id o h => hno id o (sub _ _ h)
 ·intro id o h hlt
  rcases hcase id o h with h1 | ⟨h1, h2, h3⟩
  ·obtain ⟨BP, o0, f1, f2⟩ := st.own id o h1 hlt
   exact ⟨BP, o0, sub _ _ f1, f2⟩
  ·exact ⟨id, o, h3, by rw [st.θ id (r.live id o h3).1]⟩
theorem frame [Glob] {H1 UN : Hp} (r : aX E H w) (sub : ∀ id o, H1.get id = some o → H.get id = some o) (st : Stp E H1 w E' UN w') (r' : aX E' UN w') (n : Nat) (hn : ∀ id, n ≤ id → ¬ E'.dm id) :
 ∃ H' : Hp, H'.next = n ∧ H'.res = none ∧ (∀ id o, UN.get id = some o → H'.get id = some o) ∧ (∀ id o, H.get id = some o → H1.get id = none → H'.get id = some o) ∧ aX E' H' w' ∧ YE E H w E' H' w' := by
 obtain ⟨H', h0, h1, h2, h3, h4⟩ := aeN r sub st r' n hn
 exact ⟨H', by rw [h0], by rw [h0], h1, h2, h3, h4⟩
end
end Go.As
end
section
namespace Go.As
section
variable {P : Program}
def LX [Glob] (P : Program) (ρ : Nat → Int) (ops : Array Oper) (o : Oper) (S : Tr AV) (H : Hp) (v : AV) (H' : Hp) : Prop :=
 ∀ (E : En) (a : Act) (w : World), E.ρ = ρ → aX E H w → SR E w.heap S a →
  (Region.wanted o (yielded ops a.tmps) = false ∧ v = AV.undef ∧ H' = H) ∨
  (Region.wanted o (yielded ops a.tmps) = true ∧ vV P o a w (fun u w' => ∃ E', Stp E H w E' H' w' ∧ aX E' H' w' ∧ VR E' w'.heap v u))
theorem LX.wpOp [Glob] {ρ : Nat → Int} {ops : Array Oper} {o : Oper} {S : Tr AV} {H H' : Hp} {v : AV} (h : LX P ρ ops o S H v H') {E : En} {a : Act} {w : World} (hρ : E.ρ = ρ) (r : aX E H w) (sr : SR E w.heap S a)
 {i : Nat} (ho : ops[i]? = some o) {K : Act → World → Prop} {Q : Exit → Act → World → Prop}
 (hk : ∀ (u : Value) (E' : En) (w' : World), Stp E H w E' H' w' → aX E' H' w' → VR E' w'.heap v u → K (a.put o.dst u) w') : wpOp P ops Q i K a w := by
 unfold Go.wpOp
 simp only [ho]
 rcases h E a w hρ r sr with ⟨h1, rfl, rfl⟩ | ⟨h1, h2⟩
 ·rw [h1]
  simp only [Bool.false_eq_true, if_false]
  exact hk undef E w (Stp.refl _ _ _) r oG
 ·rw [h1]
  simp only [if_true]
  exact .inl (h2 _ _ fun u w' ⟨E', q1, q2, q3⟩ => hk u E' w' q1 q2 q3)
inductive Kind where
 | pa
 | e
 | r
 deriving DecidableEq
structure Plan [Glob] (P : Program) (ρ : Nat → Int) (ops : Array Oper) (sZ : Tr AV) (H0 : Hp) where
 base : Nat
 bf : Nat → Nat → Bool
 kd : Nat → Kind
 S : Nat → Tr AV
 val : Nat → AV
 st : Nat → Nat
 nE : Nat
 hp : Nat → Hp
 un : Nat → Nat → Bool
 blk : Nat → Option dP
 gen : ∀ i j, bf i j = true → ∃ (o : Oper) (e : Edge), ops[j]? = some o ∧ e ∈ o.after ∧ Region.binds .any e = true ∧ (e.on = i ∨ bf i e.on = true)
 back : ∀ (j : Nat) (o : Oper), ops[j]? = some o → ∀ e ∈ o.after, Region.binds .any e = true → e.on < j
 dst : ∀ (i j : Nat) (oi oj : Oper) (d : Nat), ops[i]? = some oi → ops[j]? = some oj → oi.dst = some d → oj.dst = some d → i = j
 slots : ∀ (i : Nat) (o : Oper), ops[i]? = some o → ∀ t x, (S i).get t = some x → (∃ (j : Nat) (oj : Oper), bf j i = true ∧ ops[j]? = some oj ∧ oj.dst = some t ∧ val j = x) ∨ (sZ.get t = some x ∧ ∀ (j : Nat) (oj : Oper), ops[j]? = some oj → oj.dst = some t → bf i j = true)
 stl : ∀ (j : Nat) (o : Oper), ops[j]? = some o → kd j = .e → st j < nE
 inj : ∀ i j, kd i = .e → kd j = .e → st i = st j → i = j
 avA : ∀ (j : Nat) (o : Oper), ops[j]? = some o → kd j = .e → ∀ m, m < st j → ∃ i, kd i = .e ∧ st i = m ∧ bf i j = true
 pa : ∀ (i : Nat) (o : Oper), ops[i]? = some o → kd i = .pa → ∃ HA N, LX P ρ ops o (S i) ⟨.nil, N, some (base + i)⟩ (val i) HA ∧ HA.next = N ∧ blk i = HA.get (base + i) ∧ ∀ k, k ≤ nE → (hp k).next ≤ N
 ev : ∀ (j : Nat) (o : Oper), ops[j]? = some o → kd j = .e → ∃ RJ, LX P ρ ops o (S j) RJ (val j) (hp (st j + 1)) ∧ RJ.next = (hp (st j)).next ∧ RJ.res = none ∧
  (∀ id x, RJ.get id = some x → (hp (st j)).get id = some x ∨ ∃ a, bf a j = true ∧ un (st j) a = true ∧ id = base + a ∧ blk a = some x) ∧
  (∀ a, un (st j + 1) a = true → un (st j) a = true ∧ bf a j = false)
 rd : ∀ (i : Nat) (o : Oper), ops[i]? = some o → kd i = .r → ∀ k, k ≤ nE → (∀ j, kd j = .e → bf j i = true → st j < k) → (∀ (j : Nat) (oj : Oper), ops[j]? = some oj → kd j = .e → bf i j = true → k ≤ st j) →
  ∃ RJ, LX P ρ ops o (S i) RJ (val i) RJ ∧ RJ.next = (hp k).next ∧ RJ.res = none ∧
   (∀ id x, RJ.get id = some x → (hp k).get id = some x ∨ ∃ a, bf a i = true ∧ un k a = true ∧ id = base + a ∧ blk a = some x)
 unm : ∀ k a x, k ≤ nE → blk a = some x → un k a = true → (hp k).get (base + a) = none
 nob : ∀ i, kd i ≠ .pa → blk i = none
 first : base = H0.next ∧ base + ops.size ≤ (hp 0).next ∧ ∀ id x, (hp 0).get id = some x → H0.get id = some x
section
variable {gl : Glob} {ρ : Nat → Int} {ops : Array Oper} {sZ : Tr AV} {H0 : Hp} (p : Plan P ρ ops sZ H0)
structure Plan.Inv (E0 : En) (a0 : Act) (w0 : World) (L : Nat → Prop) (a : Act) (w : World) : Prop where
 defers : a.defers = a0.defers
 size : a.tmps.size = a0.tmps.size
 closed : ∀ i j, p.bf i j = true → L j → L i
 ex : ∃ (E : En) (Hc : Hp) (k : Nat), k ≤ p.nE ∧ (∀ (j : Nat) (o : Oper), ops[j]? = some o → p.kd j = .e → (L j ↔ p.st j < k)) ∧ E.ρ = ρ ∧ YE E0 H0 w0 E Hc w ∧ aX E Hc w ∧ Hc.next = (p.hp k).next ∧ Hc.res = none ∧
  p.base + ops.size ≤ Hc.next ∧ (∀ id, E.dm id → E0.dm id ∨ H0.next ≤ id) ∧ (∀ (i : Nat) (o : Oper), ops[i]? = some o → ¬ L i → ¬ E.dm (p.base + i)) ∧
  (∀ id x, (p.hp k).get id = some x → Hc.get id = some x) ∧ (∀ b x, L b → p.un k b = true → p.blk b = some x → Hc.get (p.base + b) = some x) ∧
  (∀ t x, sZ.get t = some x → (∀ (j : Nat) (oj : Oper), ops[j]? = some oj → oj.dst = some t → ¬ L j) → ∃ u, a.tmps[t]? = some u ∧ VR E w.heap x u) ∧
  (∀ (j : Nat) (oj : Oper) (t : Nat), L j → ops[j]? = some oj → oj.dst = some t → ∃ u, a.tmps[t]? = some u ∧ VR E w.heap (p.val j) u)
theorem Jy {a : Act} {d : Option Nat} {u : Value} {t : Nat} (h : d ≠ some t) : (a.put d u).tmps[t]? = a.tmps[t]? := by
 cases d with
 | none => rfl
 | some x =>
   simp only [Act.put]
   rw [Array.getElem?_setIfInBounds_ne]
   intro e
   exact h (by rw [e])
theorem ajU {a : Act} {u : Value} {t : Nat} (h : t < a.tmps.size) : (a.put (some t) u).tmps[t]? = some u := by
 simp [Act.put, h]
theorem Plan.ayW : ∀ (j i : Nat), p.bf i j = true → i < j ∧ j < ops.size := by
 intro j
 induction j using Nat.strongRecOn with
 | _ j ih =>
   intro i h
   obtain ⟨o, e, g1, g2, g3, g4⟩ := p.gen i j h
   have hlt := p.back j o g1 e g2 g3
   have hj := (Array.getElem?_eq_some_iff.1 g1).1
   rcases g4 with rfl | g4
   ·exact ⟨hlt, hj⟩
   ·have := ih e.on hlt i g4
    exact ⟨by omega, hj⟩
theorem Plan.aoP {i j : Nat} (h : p.bf i j = true) : ∃ o : Oper, ops[i]? = some o := by
 have := p.ayW j i h
 exact ⟨ops[i]'(by omega), by simp⟩
theorem Plan.step {E0 : En} {a0 : Act} {w0 : World} {L : Nat → Prop} {a : Act} {w : World} (hd : ∀ o ∈ ops.toList, ∀ d, o.dst = some d → d < a0.tmps.size) (inv : p.Inv E0 a0 w0 L a w) {i : Nat} {o : Oper} (ho : ops[i]? = some o) (hL : ¬ L i)
 (hr : ∀ e ∈ o.after, Region.binds .any e = true → L e.on) {K : Act → World → Prop} {Q : Exit → Act → World → Prop} (hk : ∀ a' w', p.Inv E0 a0 w0 (fun j => j = i ∨ L j) a' w' → K a' w') : wpOp P ops Q i K a w := by
 obtain ⟨h1, h2, hcl, E, Hc, k, hkn, hst, hρ, UR, rel, hnx, hres, hroom, hdm, hun, hhp, hbl, hs0, hs1⟩ := inv
 have hbf : ∀ j, p.bf j i = true → L j := by
  intro j hj
  obtain ⟨o', e, g1, g2, g3, g4⟩ := p.gen j i hj
  rw [ho] at g1
  simp at g1
  subst g1
  have := hr e g2 g3
  rcases g4 with rfl | g4
  ·exact this
  ·exact hcl j e.on g4 this
 have hii : p.bf i i ≠ true := fun h => hL (hbf i h)
 have hin : i < ops.size := (Array.getElem?_eq_some_iff.1 ho).1
 have sr : SR E w.heap (p.S i) a := by
  intro t x ht
  rcases p.slots i o ho t x ht with ⟨j, oj, g1, g2, g3, g4⟩ | ⟨g1, g2⟩
  ·subst g4
   exact hs1 j oj t (hbf j g1) g2 g3
  ·exact hs0 t x g1 fun j oj hj hjt hLj => hL (hcl i j (g2 j oj hj hjt) hLj)
 have hcl' : ∀ x j, p.bf x j = true → (j = i ∨ L j) → (x = i ∨ L x) := by
  intro x j hx hj
  rcases hj with rfl | hj
  ·exact .inr (hbf x hx)
  ·exact .inr (hcl x j hx hj)
 have fin : ∀ (u : Value) (E' : En) (U1 : Hp) (w' : World) (k' : Nat), YE E Hc w E' U1 w' → aX E' U1 w' → VR E' w'.heap (p.val i) u → k' ≤ p.nE → (∀ (j : Nat) (o : Oper), ops[j]? = some o → p.kd j = .e → ((j = i ∨ L j) ↔ p.st j < k')) →
  U1.next = (p.hp k').next → U1.res = none → Hc.next ≤ U1.next → (∀ id, E'.dm id → E.dm id ∨ Hc.next ≤ id ∨ id = p.base + i) → (∀ id x, (p.hp k').get id = some x → U1.get id = some x) →
  (∀ b x, (b = i ∨ L b) → p.un k' b = true → p.blk b = some x → U1.get (p.base + b) = some x) → K (a.put o.dst u) w' := by
  intro u E' U1 w' k' q1 q2 q3 q4 q5 q6 q7 q8 q9 q10 q11
  have kp := q1.keeps rel
  refine hk _ _ ⟨by rw [As.put_defers]; exact h1, by rw [Jw]; exact h2, hcl', E', U1, k', q4, q5, q1.ρ.trans hρ, UR.trans q1, q2, q6, q7, Nat.le_trans hroom q8, ?_, ?_, q10, q11, ?_, ?_⟩
  ·intro id h
   rcases q9 id h with h | h | h
   ·exact hdm id h
   ·right
    have := p.first.1
    omega
   ·right
    have := p.first.1
    omega
  ·intro j oj hj hn hdj
   have hj2 := (Array.getElem?_eq_some_iff.1 hj).1
   rcases q9 _ hdj with h | h | h
   ·exact hun j oj hj (fun h' => hn (.inr h')) h
   ·omega
   ·exact hn (.inl (by omega))
  ·intro t x ht hno
   obtain ⟨y, g1, g2⟩ := hs0 t x ht fun j oj hj hjt h' => hno j oj hj hjt (.inr h')
   exact ⟨y, by rw [Jy (fun e => hno i o ho e (.inl rfl))]; exact g1, VR.keep kp _ _ g2⟩
  ·intro j oj t hj hoj ht
   by_cases hji : j = i
   ·subst hji
    rw [ho] at hoj
    simp at hoj
    subst hoj
    rw [ht]
    exact ⟨u, ajU (by rw [h2]; exact hd o (Array.mem_toList_iff.2 (Array.mem_of_getElem? ho)) t ht), q3⟩
   ·obtain ⟨y, g1, g2⟩ := hs1 j oj t (hj.resolve_left hji) hoj ht
    refine ⟨y, ?_, VR.keep kp _ _ g2⟩
    rw [Jy]
    ·exact g1
    ·intro h
     exact hji (p.dst j i oj o t hoj ho ht h)
 cases hkd : p.kd i with
 | pa =>
   obtain ⟨HA, N, g1, g2, g3, g4⟩ := p.pa i o ho hkd
   have hN := g4 k hkn
   have aAc := hun i o ho hL
   have r1 : aX E ⟨.nil, N, some (p.base + i)⟩ w := rel.part (by intro id x h; simp [Hp.get, Tr.get] at h) (by show Hc.next ≤ N; omega) (by
    intro q hq
    simp at hq
    subst hq
    exact ⟨by show p.base + i < N; omega, aAc⟩)
   refine g1.wpOp hρ r1 sr ho fun u E' w' st r' hv => ?_
   have hdn : ∀ id, E'.dm id → E.dm id ∨ id = p.base + i := by
    intro id h
    rcases st.dmn id h with h | h | h
    ·exact .inl h
    ·have h' : N ≤ id ∧ id < HA.next := h
     omega
    ·have h' : some (p.base + i) = some id := h
     simp at h'
     exact .inr h'.symm
   obtain ⟨U1, f1, f2, f3, f4, f5, f6⟩ := frame rel (by intro id x h; simp [Hp.get, Tr.get] at h) st r' Hc.next (fun id hid h => by
    rcases hdn id h with h | h
    ·exact rel.fresh id hid h
    ·omega)
   refine fin u E' U1 w' k f6 f5 hv hkn ?_ (by rw [f1, hnx]) f2 (by omega) (fun id h => (hdn id h).elim .inl fun h => .inr (.inr h)) ?_ ?_
   ·intro j oj hoj hj
    rw [← hst j oj hoj hj]
    constructor
    ·intro h
     rcases h with rfl | h
     ·rw [hkd] at hj; simp at hj
     ·exact h
    ·exact .inr
   ·intro id x h
    exact f4 id x (hhp id x h) (by simp [Hp.get, Tr.get])
   ·intro b x hb hu hx
    by_cases hbi : b = i
    ·subst hbi
     rw [hx] at g3
     exact f3 _ _ g3.symm
    ·exact f4 _ x (hbl b x (hb.resolve_left hbi) hu hx) (by simp [Hp.get, Tr.get])
 | e =>
   obtain ⟨RJ, g1, g2, g3, g4, g5⟩ := p.ev i o ho hkd
   have hge : k ≤ p.st i := by
    rcases Nat.lt_or_ge (p.st i) k with h | h
    ·exact absurd ((hst i o ho hkd).2 h) hL
    ·exact h
   have hsk : p.st i = k := by
    rcases Nat.lt_or_ge k (p.st i) with h | h
    ·obtain ⟨j, e1, e2, e3⟩ := p.avA i o ho hkd k h
     have hj := hbf j e3
     obtain ⟨oj, hoj⟩ := p.aoP e3
     have := (hst j oj hoj e1).1 hj
     omega
    ·omega
   rw [hsk] at g1 g2 g4 g5
   have hkE := p.stl i o ho hkd
   have hsub : ∀ id x, RJ.get id = some x → Hc.get id = some x := by
    intro id x h
    rcases g4 id x h with h | ⟨b, e1, e2, rfl, e4⟩
    ·exact hhp id x h
    ·exact hbl b x (hbf b e1) e2 e4
   have r1 : aX E RJ w := rel.part hsub (by omega) (by rw [g3]; simp)
   refine g1.wpOp hρ r1 sr ho fun u E' w' st r' hv => ?_
   have hdn : ∀ id, E'.dm id → E.dm id ∨ Hc.next ≤ id := by
    intro id h
    rcases st.dmn id h with h | h | h
    ·exact .inl h
    ·right; omega
    ·rw [g3] at h; simp at h
   obtain ⟨U1, f1, f2, f3, f4, f5, f6⟩ := frame rel hsub st r' (p.hp (k + 1)).next (fun id hid h => r'.fresh id hid h)
   have hmono := st.nxm
   refine fin u E' U1 w' (k + 1) f6 f5 hv (by omega) ?_ f1 f2 (by omega) (fun id h => (hdn id h).elim .inl fun h => .inr (.inl h)) f3 ?_
   ·intro j oj hoj hj
    constructor
    ·intro h
     rcases h with rfl | h
     ·omega
     ·have := (hst j oj hoj hj).1 h
      omega
    ·intro h
     rcases Nat.lt_or_ge (p.st j) k with h' | h'
     ·exact .inr ((hst j oj hoj hj).2 h')
     ·exact .inl (p.inj j i hj hkd (by omega))
   ·intro b x hb hu hx
    obtain ⟨e1, e2⟩ := g5 b hu
    by_cases hbi : b = i
    ·subst hbi
     rw [p.nob b (by rw [hkd]; simp)] at hx
     simp at hx
    ·refine f4 _ x (hbl b x (hb.resolve_left hbi) e1 hx) ?_
     cases hy : RJ.get (p.base + b) with
     | none => rfl
     | some y =>
       exfalso
       rcases g4 _ y hy with h | ⟨c, c1, c2, c3, c4⟩
       ·rw [p.unm k b x hkn hx e1] at h
        simp at h
       ·have : c = b := by omega
        subst this
        rw [e2] at c1
        simp at c1
 | r =>
   have hk1 : ∀ j, p.kd j = .e → p.bf j i = true → p.st j < k := by
    intro j hj hb
    obtain ⟨oj, hoj⟩ := p.aoP hb
    exact (hst j oj hoj hj).1 (hbf j hb)
   have hk2 : ∀ (j : Nat) (oj : Oper), ops[j]? = some oj → p.kd j = .e → p.bf i j = true → k ≤ p.st j := by
    intro j oj hoj hj hb
    rcases Nat.lt_or_ge (p.st j) k with h | h
    ·exact absurd (hcl i j hb ((hst j oj hoj hj).2 h)) hL
    ·exact h
   obtain ⟨RJ, g1, g2, g3, g4⟩ := p.rd i o ho hkd k hkn hk1 hk2
   have hsub : ∀ id x, RJ.get id = some x → Hc.get id = some x := by
    intro id x h
    rcases g4 id x h with h | ⟨b, e1, e2, rfl, e4⟩
    ·exact hhp id x h
    ·exact hbl b x (hbf b e1) e2 e4
   have r1 : aX E RJ w := rel.part hsub (by omega) (by rw [g3]; simp)
   refine g1.wpOp hρ r1 sr ho fun u E' w' st r' hv => ?_
   have hdn : ∀ id, E'.dm id → E.dm id := by
    intro id h
    rcases st.dmn id h with h | h | h
    ·exact h
    ·omega
    ·rw [g3] at h; simp at h
   obtain ⟨U1, f1, f2, f3, f4, f5, f6⟩ := frame rel hsub st r' Hc.next (fun id hid h => rel.fresh id hid (hdn id h))
   have hall : ∀ id x, Hc.get id = some x → U1.get id = some x := by
    intro id x h
    cases h' : RJ.get id with
    | none => exact f4 id x h h'
    | some y =>
      have := hsub id y h'
      rw [h] at this
      simp at this
      subst this
      exact f3 id x h'
   refine fin u E' U1 w' k f6 f5 hv hkn ?_ (by rw [f1, hnx]) f2 (by omega) (fun id h => .inl (hdn id h)) (fun id x h => hall id x (hhp id x h)) ?_
   ·intro j oj hoj hj
    rw [← hst j oj hoj hj]
    constructor
    ·intro h
     rcases h with rfl | h
     ·rw [hkd] at hj; simp at hj
     ·exact h
    ·exact .inr
   ·intro b x hb hu hx
    by_cases hbi : b = i
    ·subst hbi
     rw [p.nob b (by rw [hkd]; simp)] at hx
     simp at hx
    ·exact hall _ x (hbl b x (hb.resolve_left hbi) hu hx)
def left (l : Nat → Bool) : Nat → Nat
 | 0 => 0
 | n + 1 => left l n + (if l n then 0 else 1)
theorem left_le {l l' : Nat → Bool} (h : ∀ j, l j = true → l' j = true) : ∀ n, left l' n ≤ left l n
 | 0 => Nat.le_refl _
 | n + 1 => by
   have := left_le h n
   simp only [left]
   cases h1 : l n with
   | true => simp [h n h1]; exact this
   | false => cases l' n <;> simp <;> omega
theorem XU {l l' : Nat → Bool} (h : ∀ j, l j = true → l' j = true) {i : Nat} (h1 : l i = false) (h2 : l' i = true) : ∀ n, i < n → left l' n < left l n
 | 0, hi => by omega
 | n + 1, hi => by
   have hle := left_le h n
   simp only [left]
   by_cases hin : i = n
   ·subst hin
    simp [h1, h2]
    omega
   ·have := XU h h1 h2 n (by omega)
    cases h3 : l n with
    | true => simp [h n h3]; exact this
    | false => cases l' n <;> simp <;> omega
theorem F8 {l : Nat → Bool} : ∀ n, left l n = 0 → ∀ i, i < n → l i = true
 | 0, _, i, hi => by omega
 | n + 1, h, i, hi => by
   simp only [left] at h
   by_cases hin : i = n
   ·subst hin
    cases h3 : l i with
    | true => rfl
    | false => rw [h3] at h; simp at h
   ·exact F8 n (by omega) i (by omega)
theorem Plan.ready_nil (q : Plan P ρ ops sZ H0) {listed : Array Bool} (hsz : listed.size = ops.size) (h : Region.ready .any ops listed = []) : ∀ i, i < ops.size → listed[i]? = some true := by
 intro i
 induction i using Nat.strongRecOn with
 | _ i ih =>
   intro hi
   cases hl : listed[i]? with
   | none => rw [Array.getElem?_eq_none_iff] at hl; omega
   | some b =>
     cases b with
     | true => rfl
     | false =>
       exfalso
       have ho : ops[i]? = some ops[i] := by simp [hi]
       have : i ∈ Region.ready .any ops listed := by
        rw [mem_ready]
        refine ⟨by simp [hl], ops[i], ho, fun e he hb => ?_⟩
        have hlt := q.back i _ ho e he hb
        simp [ih e.on hlt (by omega)]
       rw [h] at this
       simp at this
theorem Plan.any {E0 : En} {a0 : Act} {w0 : World} (hd : ∀ o ∈ ops.toList, ∀ d, o.dst = some d → d < a0.tmps.size) {Q : Exit → Act → World → Prop} (hq : ∀ a w, p.Inv E0 a0 w0 (fun i => i < ops.size) a w → Q .normal a w) :
 ∀ (fuel : Nat) (listed : Array Bool) (a : Act) (w : World), listed.size = ops.size → left (fun i => listed.getD i true) ops.size ≤ fuel → p.Inv E0 a0 w0 (fun i => listed[i]? = some true) a w → wpAny P .any ops Q fuel listed a w := by
 have hend : ∀ (listed : Array Bool) (a : Act) (w : World), listed.size = ops.size → p.Inv E0 a0 w0 (fun i => listed[i]? = some true) a w → Region.ready .any ops listed = [] → Q .normal a w := by
  intro listed a w hsz inv hnil
  have hall := p.ready_nil hsz hnil
  refine hq a w ?_
  have : (fun i => listed[i]? = some true) = (fun i => i < ops.size) := by
   funext i
   apply propext
   constructor
   ·intro h
    have := (Array.getElem?_eq_some_iff.1 h).1
    omega
   ·exact hall i
  rw [← this]
  exact inv
 intro fuel
 induction fuel with
 | zero =>
   intro listed a w hsz hleft inv
   have hall := F8 (l := fun i => listed.getD i true) ops.size (by omega)
   have hnil : Region.ready .any ops listed = [] := by
    rw [List.eq_nil_iff_forall_not_mem]
    intro i hi
    rw [mem_ready] at hi
    obtain ⟨h1, o, h2, _⟩ := hi
    have := hall i (Array.getElem?_eq_some_iff.1 h2).1
    rw [h1] at this
    simp at this
   exact ⟨hnil, hend listed a w hsz inv hnil⟩
 | succ fuel ih =>
   intro listed a w hsz hleft inv
   refine ⟨hend listed a w hsz inv, fun i hi => ?_⟩
   rw [mem_ready] at hi
   obtain ⟨h1, o, h2, h3⟩ := hi
   have hin := (Array.getElem?_eq_some_iff.1 h2).1
   have hlf : listed[i]? = some false := by
    have : listed[i]? = some (listed[i]'(by omega)) := by simp
    rw [this]
    simp only [Array.getD_eq_getD_getElem?, this, Option.getD_some] at h1
    rw [h1]
   refine p.step hd inv h2 (by rw [hlf]; simp) (fun e he hb => ?_) fun a' w' azX => ?_
   ·have := h3 e he hb
    cases hc : listed[e.on]? with
    | none => simp [hc] at this
    | some b => simp [hc] at this; rw [this]
   ·refine ih _ a' w' (by simpa using hsz) ?_ ?_
    ·have := XU (l := fun j => listed.getD j true) (l' := fun j => (listed.setIfInBounds i true).getD j true) (i := i) (fun j hj => ?_) h1 ?_ ops.size hin
     ·omega
     ·by_cases hij : i = j
      ·subst hij
       simp only [Array.getD_eq_getD_getElem?, Array.getElem?_setIfInBounds_self]
       split <;> rfl
      ·rw [getD_set_ne true hij]; exact hj
     ·simp only [Array.getD_eq_getD_getElem?, Array.getElem?_setIfInBounds_self]
      split <;> rfl
    ·have : (fun j => (listed.setIfInBounds i true)[j]? = some true) = (fun j => j = i ∨ listed[j]? = some true) := by
      funext j
      apply propext
      by_cases hij : i = j
      ·subst hij
       simp [hsz, hin]
      ·rw [Array.getElem?_setIfInBounds_ne hij]
       constructor
       ·exact .inr
       ·rintro (rfl | h)
        ·exact absurd rfl hij
        ·exact h
     rw [this]
     exact azX
theorem Plan.start {E0 : En} {s0 : St} {a0 : Act} {w0 : World} (hs : s0.slots = sZ) (hh : s0.h = H0) (hρ : E0.ρ = ρ) (fit : Fit E0 s0 a0 w0) (listed : Array Bool) (hl : ∀ (i : Nat), listed[i]? ≠ some true) : p.Inv E0 a0 w0 (fun i => listed[i]? = some true) a0 w0 := by
 subst hs hh
 obtain ⟨h1, h2, h3⟩ := p.first
 have rel := fit.rel
 have r1 : aX E0 ⟨s0.h.m, (p.hp 0).next, none⟩ w0 := rel.part (fun id x h => h) (by show s0.h.next ≤ (p.hp 0).next; omega) (by simp)
 refine ⟨rfl, rfl, fun i j _ h => absurd h (hl j), E0, ⟨s0.h.m, (p.hp 0).next, none⟩, 0, Nat.zero_le _, fun j o _ _ => ⟨fun h => absurd h (hl j), fun h => by omega⟩, hρ, ?_, r1, rfl, rfl, h2, fun id h => .inl h, ?_, fun id x h => h3 id x h, fun b x h => absurd h (hl b), ?_, fun j oj t h => absurd h (hl j)⟩
 ·have := (Stp.refl E0 s0.h w0).weak
  exact ⟨this.ρ, this.dm, this.θ, this.κ, this.ro, this.FU, this.os, this.tape, this.output, this.size, this.keep, this.own⟩
 ·intro i o _ _ hdm
  exact rel.fresh _ (by omega) hdm
 ·intro t x ht _
  exact fit.sr t x ht
theorem Plan.finish {E0 : En} {s0 s' : St} {a0 a : Act} {w0 w : World} (hh : s0.h = H0) (inv : p.Inv E0 a0 w0 (fun i => i < ops.size) a w) (hpc : aZ ρ s'.pc)
 (aqS : ∀ t x, s'.slots.get t = some x → (∃ (j : Nat) (oj : Oper), ops[j]? = some oj ∧ oj.dst = some t ∧ p.val j = x) ∨ (sZ.get t = some x ∧ ∀ (j : Nat) (oj : Oper), ops[j]? = some oj → oj.dst ≠ some t))
 (hheap : ∀ id x, s'.h.get id = some x → (p.hp p.nE).get id = some x ∨ ∃ b, b < ops.size ∧ p.un p.nE b = true ∧ id = p.base + b ∧ p.blk b = some x)
 (hnext : (p.hp p.nE).next = s'.h.next) (hres : s'.h.res = none) (hall : ∀ (m : Nat), m < p.nE → ∃ (j : Nat) (o : Oper), ops[j]? = some o ∧ p.kd j = .e ∧ p.st j = m) : Then E0 s0 a0 w0 s' a w := by
 subst hh
 obtain ⟨h1, h2, hcl, E, Hc, k, hkn, hst, hρ, UR, rel, hnx, hrs, hroom, hdm, hun, hhp, hbl, hs0, hs1⟩ := inv
 have hk : k = p.nE := by
  rcases Nat.lt_or_ge k p.nE with h | h
  ·obtain ⟨j, o, g1, g2, g3⟩ := hall k h
   have := (hst j o g1 g2).1 (Array.getElem?_eq_some_iff.1 g1).1
   omega
  ·omega
 subst hk
 have hsub : ∀ id x, s'.h.get id = some x → Hc.get id = some x := by
  intro id x h
  rcases hheap id x h with h | ⟨b, e1, e2, rfl, e4⟩
  ·exact hhp id x h
  ·exact hbl b x e1 e2 e4
 have hf := p.first.1
 refine ⟨h1, h2, E, ?_, rel.part hsub (by omega) (by rw [hres]; simp), ?_, by rw [hρ]; exact hpc⟩
 ·refine YE.strong ⟨UR.ρ, UR.dm, UR.θ, UR.κ, UR.ro, UR.FU, UR.os, UR.tape, UR.output, UR.size, UR.keep, fun id o h => UR.own id o (hsub id o h)⟩ (by omega) hres fun id h => ?_
  rcases hdm id h with g | g
  ·exact .inl g
  ·right
   refine ⟨g, ?_⟩
   rcases Nat.lt_or_ge id s'.h.next with g' | g'
   ·exact g'
   ·exact absurd h (rel.fresh id (by omega))
 ·intro t x ht
  rcases aqS t x ht with ⟨j, oj, g1, g2, rfl⟩ | ⟨g1, g2⟩
  ·exact hs1 j oj t (Array.getElem?_eq_some_iff.1 g1).1 g1 g2
  ·exact hs0 t x g1 fun j oj hj hjt _ => g2 j oj hj hjt
end
end
end Go.As
end

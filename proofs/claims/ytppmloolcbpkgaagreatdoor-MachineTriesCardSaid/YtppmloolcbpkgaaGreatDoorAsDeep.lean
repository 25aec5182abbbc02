import Derived.Test.YtppmloolcbpkgaaGreatDoorAsMemo
/-
  AS: functions whose answer is known at data that lies in memory.
-/
namespace Go.As
noncomputable section
open Go.RowKit

mutual
/-- does a value, with what it points to, read as one that hangs on no block? -/
def matchV (h : Hp) : AV → AV → Bool
  | .bool (.lit a), v => match v with
    | .bool (.lit b) => a == b
    | _ => false
  | .int k (.lit a), v => match v with
    | .int k' (.lit b) => decide (k = k') && decide (a = b)
    | _ => false
  | .str s, v => match v with
    | .str t => eqNats s t
    | _ => false
  | .nils, v => match v with
    | .nils => true
    | _ => false
  | .agg ks, v => match v with
    | .agg cs => Nat.beq ks.length cs.length && matchP h ks cs
    | _ => false
  | .ro ks n false, v => match v with
    | .slice id off len _ => match Nat.beq n len with
      | true => match n with
        | 0 => false
        | _ => match h.get id with
          | some (.cells cs _) => match drop? off cs with
            | some l => matchP h ks l
            | none => false
          | _ => false
      | false => false
    | .ro cs m _ => Nat.beq n m && matchP h ks cs
    | _ => false
  | _, _ => false
/-- each of some values, whatever stands behind them -/
def matchP (h : Hp) : List AV → List AV → Bool
  | [], _ => true
  | k :: ks, l => match l with
    | v :: vs => match matchV h k v with
      | true => matchP h ks vs
      | false => false
    | [] => false
end

def lookM (h : Hp) (as : List AV) : List (List AV × AV) → Option AV
  | [] => none
  | (k, v) :: l => match Nat.beq k.length as.length with
    | true => match matchP h k as with
      | true => some v
      | false => lookM h as l
    | false => lookM h as l

/-- a function whose answers are known for some data -/
def memoH (tbl : List (List AV × AV)) : List AV → St → T (AV × St) := fun as s => match lookM s.h as tbl with
  | some v => .ret (v, s)
  | none => .fail

def givesK (key : List AV) (v : AV) (f : List AV → St → T (AV × St)) : Bool :=
  closedV v && (match f key ⟨.nil, Hp.zero, []⟩ with | .ret (u, _) => sameAV u v | _ => false)

section
variable {P : Program}

mutual
theorem matchV_ok [Glob] {E : En} {H : Hp} {w : World} (r : RelH E H w) (ρ : Nat → Int) : ∀ (key v : AV) (u : Value), matchV H key v = true → VR E w.heap v u → VR (En.zero ρ (fun b => b < w.heap.size)) w.heap key u
  | .bool b, v, u, hm, hv => by
    cases b <;> simp only [matchV, Bool.false_eq_true] at hm
    split at hm
    · simp only [beq_iff_eq] at hm
      subst hm
      simpa [VR, SB.den] using hv
    · simp at hm
  | .int k e, v, u, hm, hv => by
    cases e <;> simp only [matchV, Bool.false_eq_true] at hm
    split at hm
    · simp only [Bool.and_eq_true, decide_eq_true_eq] at hm
      obtain ⟨rfl, rfl⟩ := hm
      simpa [VR, SE.den] using hv
    · simp at hm
  | .str s, v, u, hm, hv => by
    simp only [matchV] at hm
    split at hm
    · have := (eqNats_iff _ _).1 hm
      subst this
      simpa only [VR] using hv
    · simp at hm
  | .nils, v, u, hm, hv => by
    simp only [matchV] at hm
    split at hm
    · simpa only [VR] using hv
    · simp at hm
  | .agg ks, v, u, hm, hv => by
    simp only [matchV] at hm
    split at hm
    · rename_i cs
      simp only [Bool.and_eq_true] at hm
      simp only [VR] at hv ⊢
      obtain ⟨us, rfl, h2⟩ := hv
      obtain ⟨h3, h4⟩ := matchP_ok r ρ ks cs us hm.2 h2
      have e := Nat.eq_of_beq_eq_true hm.1
      rw [e, ← h2.length, List.take_length] at h3
      exact ⟨us, rfl, h3⟩
    · simp at hm
  | .ro ks n true, v, u, hm, hv => by simp [matchV] at hm
  | .ro ks n false, v, u, hm, hv => by
    simp only [matchV] at hm
    split at hm
    · rename_i id off len c
      split at hm
      · rename_i hn
        have hn := Nat.eq_of_beq_eq_true hn
        subst hn
        split at hm
        · simp at hm
        · rename_i hn0
          split at hm
          · rename_i cs e hg
            split at hm
            · rename_i l hl
              simp only [VR] at hv ⊢
              obtain ⟨hd, a, cap, rfl, hle, hcap⟩ := hv
              obtain ⟨_, ho, _⟩ := r.live id _ hg
              simp only [OR] at ho
              obtain ⟨arr, lo, hi, us, hb, h2, h3, _, _, _, h7⟩ := ho
              obtain ⟨q1, q2, q3⟩ := h2.drop? hl
              obtain ⟨p1, p2⟩ := matchP_ok r ρ ks l _ hm q1
              have ha : a = ⟨(E.θ id).1, (E.θ id).2 + off, none⟩ := by
                cases c with
                | exact c =>
                  simp only [CapR] at hcap
                  rcases hcap.2 with h | h
                  · exact h
                  · exact absurd (by omega) hn0
                | rest es =>
                  simp only [CapR] at hcap
                  rcases hcap with h | h
                  · exact h.1
                  · exact absurd (by omega) hn0
              subst ha
              have hlt : (E.θ id).1 < w.heap.size := (Array.getElem?_eq_some_iff.1 hb).1
              refine ⟨_, _, cap, _, rfl, hle, by simp, hlt, p1, ?_, ?_⟩
              · intro i x hx
                have hx' : us[off + i]? = some x := by
                  rw [List.getElem?_take] at hx
                  split at hx
                  · rw [List.getElem?_drop] at hx; exact hx
                  · simp at hx
                have := h3 _ _ hx'
                unfold hcell
                rw [hb]
                simp only
                rw [← this]
                congr 1
                omega
              · intro x hx
                exact h7 x (List.mem_of_mem_drop (List.mem_of_mem_take hx))
            · simp at hm
          · simp at hm
      · simp at hm
    · rename_i cs m f
      simp only [Bool.and_eq_true] at hm
      have hn := Nat.eq_of_beq_eq_true hm.1
      subst hn
      simp only [VR] at hv ⊢
      obtain ⟨b, o, cap, us, rfl, h2, h3, h4, h5, h6, h7⟩ := hv
      obtain ⟨p1, p2⟩ := matchP_ok r ρ ks cs _ hm.2 h5
      refine ⟨b, o, cap, _, rfl, h2, by simp, r.rob b h4, p1, ?_, fun x hx => h7 x (List.mem_of_mem_take hx)⟩
      intro i x hx
      rw [List.getElem?_take] at hx
      split at hx
      · exact h6 i x hx
      · simp at hx
    · simp at hm
  | .ptr _ _, v, u, hm, _ => by simp [matchV] at hm
  | .nilp, v, u, hm, _ => by simp [matchV] at hm
  | .rptr _, v, u, hm, _ => by simp [matchV] at hm
  | .slice _ _ _ _, v, u, hm, _ => by simp [matchV] at hm
  | .map _, v, u, hm, _ => by simp [matchV] at hm
  | .nilm, v, u, hm, _ => by simp [matchV] at hm
  | .func _ _ _, v, u, hm, _ => by simp [matchV] at hm
  | .nilf, v, u, hm, _ => by simp [matchV] at hm
  | .iface _ _, v, u, hm, _ => by simp [matchV] at hm
  | .nili, v, u, hm, _ => by simp [matchV] at hm
  | .tuple _, v, u, hm, _ => by simp [matchV] at hm
  | .opq _, v, u, hm, _ => by simp [matchV] at hm
  | .inp _ _, v, u, hm, _ => by simp [matchV] at hm
theorem matchP_ok [Glob] {E : En} {H : Hp} {w : World} (r : RelH E H w) (ρ : Nat → Int) : ∀ (ks vs : List AV) (us : List Value), matchP H ks vs = true → VRs E w.heap vs us →
    VRs (En.zero ρ (fun b => b < w.heap.size)) w.heap ks (us.take ks.length) ∧ ks.length ≤ us.length
  | [], vs, us, _, _ => by simp [VRs]
  | k :: ks, [], us, hm, _ => by simp [matchP] at hm
  | k :: ks, v :: vs, us, hm, hv => by
    simp only [matchP] at hm
    split at hm
    · rename_i h1
      rw [VRs_cons] at hv
      obtain ⟨u, us', rfl, hu, hus⟩ := hv
      obtain ⟨p1, p2⟩ := matchP_ok r ρ ks vs us' hm hus
      rw [List.length_cons, List.take_succ_cons, VRs_cons]
      exact ⟨⟨u, _, rfl, matchV_ok r ρ k v u h1 hu, p1⟩, by simp; exact p2⟩
    · simp at hm
end

theorem lookM_ok {h : Hp} {as : List AV} {v : AV} : ∀ {tbl : List (List AV × AV)}, lookM h as tbl = some v → ∃ k, (k, v) ∈ tbl ∧ k.length = as.length ∧ matchP h k as = true
  | [], hl => by simp [lookM] at hl
  | (k, x) :: l, hl => by
    simp only [lookM] at hl
    split at hl
    · rename_i h1
      split at hl
      · rename_i h2
        simp only [Option.some.injEq] at hl
        subst hl
        exact ⟨k, by simp, Nat.eq_of_beq_eq_true h1, h2⟩
      · obtain ⟨k', h1, h2⟩ := lookM_ok hl
        exact ⟨k', by simp [h1], h2⟩
    · obtain ⟨k', h1, h2⟩ := lookM_ok hl
      exact ⟨k', by simp [h1], h2⟩

theorem memoH_ok [Glob] {g : FuncId} {f : List AV → St → T (AV × St)} (hf : FnOk P g f) {fn : Func} (hfn : P.funcs[g]? = some fn) (hname : (fn.name == "runtime.NumGoroutine") = false) {c : Code} (hb : fn.body = some c)
    {tbl : List (List AV × AV)} (h : ∀ p ∈ tbl, givesK p.1 p.2 f = true) : FnOk P g (memoH tbl) := by
  intro as s E w vals u s' r hv hp hl
  unfold memoH at hl
  split at hl
  · rename_i v hlook
    have := leaf_ret hl
    simp only [Prod.mk.injEq] at this
    obtain ⟨rfl, rfl⟩ := this
    obtain ⟨k, hmem, hlen, hmat⟩ := lookM_ok hlook
    have hk := h _ hmem
    unfold givesK at hk
    simp only [Bool.and_eq_true] at hk
    obtain ⟨h2, h3⟩ := hk
    split at h3
    · rename_i u' s1 hrun
      have hu := sameAV_eq _ _ h3
      subst hu
      obtain ⟨p1, _⟩ := matchP_ok r E.ρ k as vals hmat hv
      rw [hlen, ← hv.length, List.take_length] at p1
      have hgl : Glob.ok (fun b => b < w.heap.size) w.heap := Glob.keep r.glob r.rob fun _ _ => rfl
      have hc := calls_of_run hf hfn hname hb (ρ := E.ρ) (ro := fun b => b < w.heap.size) (w := w) (fun _ h => h) hgl p1 (v := u') (s' := s1) (by rw [hrun]; rfl)
      refine ⟨rfl, hp, ?_⟩
      have hrun : (callFunc g vals.toArray).run P w = .ok (.enter g vals.toArray) w := by
        unfold callFunc
        simp [hfn, hb, by simpa using hname]
      unfold CallW NextW
      rw [hrun]
      exact Calls.mono hc fun e w' ⟨x, E', he, hx, _, hbl⟩ => ⟨x, he, E, (below_stp r hbl).1, (below_stp r hbl).2, closed_VR u' x h2 hx⟩
    · simp at h3
  · simp [T.leaf] at hl

/-- a call, run with some tests known -/
theorem calls_true_pc [Glob] {g : FuncId} {f : List AV → St → T (AV × St)} (hf : FnOk P g f) {fn : Func} (hfn : P.funcs[g]? = some fn) (hname : (fn.name == "runtime.NumGoroutine") = false) {c : Code} (hb2 : fn.body = some c)
    {ρ : Nat → Int} {ro : Nat → Prop} {w : World} (hro : ∀ b, ro b → b < w.heap.size) (hg : Glob.ok ro w.heap) {args : List AV} {vals : List Value} (hv : VRs (En.zero ρ ro) w.heap args vals) {pc : List (SB × Bool)} (hp : PcOk ρ pc)
    (h : saysTrue (f args ⟨.nil, Hp.zero, pc⟩) = true) : Calls P g vals.toArray w fun e w' => e = .returned (.bool true) ∧ Below w.heap.size w w' := by
  obtain ⟨s', hs⟩ := saysTrue_leaf (ρ := ρ) h
  obtain ⟨_, _, h3⟩ := hf args ⟨.nil, Hp.zero, pc⟩ (En.zero ρ ro) w vals _ s' (zero_rel ρ ro w hro hg) hv hp hs
  have hrun : (callFunc g vals.toArray).run P w = .ok (.enter g vals.toArray) w := by
    unfold callFunc
    simp [hfn, hb2, by simpa using hname]
  unfold CallW NextW at h3
  rw [hrun] at h3
  refine Calls.mono h3 fun e w' ⟨u, he, E', st, _, hv⟩ => ?_
  simp only [VR, SB.den] at hv
  subst hv
  exact ⟨he, st.below⟩

end
end
end Go.As

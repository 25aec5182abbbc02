import Derived.Test.YtppmloolcbpkgaaGreatDoorAsHeap
import Derived.Test.YtppmloolcbpkgaaGreatDoorAsTab
import Derived.WalkKit
/-
  AS, part 4: reading and writing cells; the type table; scalars.
-/
namespace Go.As

theorem add_none (b o n : Nat) : (⟨b, o, none⟩ : Addr).add n = ⟨b, o + n, none⟩ := by unfold Addr.add; split <;> simp_all

/-! ### the type table -/
def KOk (P : Program) : TypeDesc → TK → Prop
  | .bool, .bool => True
  | .int k, .int k' => k = k'
  | .string, .string => True
  | .pointer e, .pointer e' => e = e'
  | .slice e, .slice e' => e = e'
  | .array n e, .array n' e' => n = n' ∧ e = e'
  | .map k e, .map k' e' => k = k' ∧ e = e'
  | .struct fs, .struct l => (fs.toList.mapM fun f => (P.info? f.type).map fun i => (f.offset, f.type, i.size)) = some l
  | .func _ _ _, .func => True
  | .interface _, .iface _ => True
  | .tuple _, .tuple => True
  | _, _ => False

structure TIok (P : Program) (t : Nat) (i : TI) : Prop where
  eqs : i.eqs = true → eqsOf P t = true
  all : ∃ inf d z, P.info? t = some inf ∧ P.underlying t = some d ∧ inf.zero = some z ∧ ofScalars z.cells.toList = some i.zero ∧ inf.size = i.size ∧ inf.bytes = i.bytes ∧ KOk P d i.kind ∧ isAggV z = i.agg

def TTok (P : Program) (tt : TT) : Prop := ∀ t i, tt t = some i → TIok P t i

theorem tkOf_ok {P : Program} {d : TypeDesc} {k : TK} (h : tkOf P d = some k) : KOk P d k := by
  cases d
  case struct fs =>
    simp only [tkOf, Option.map_eq_some_iff] at h
    obtain ⟨l, h1, rfl⟩ := h
    exact h1
  all_goals first
    | (simp only [tkOf, Option.some.injEq] at h; subst h; simp [KOk]; done)
    | (simp [tkOf] at h; done)

theorem tiOf_ok {P : Program} {t : Nat} {i : TI} (h : tiOf P t = some i) : TIok P t i := by
  unfold tiOf at h
  split at h
  · simp at h
  · rename_i inf h1
    split at h
    · simp at h
    · rename_i d h2
      split at h
      · simp at h
      · rename_i k hk
        split at h
        · simp at h
        · rename_i z h3
          unfold tiMk at h
          split at h
          · rename_i zs h4
            split at h
            · rename_i ha
              simp only [Option.some.injEq] at h
              subst h
              exact ⟨fun hq => hq, inf, d, z, h1, h2, h3, h4, rfl, rfl, tkOf_ok hk, ha⟩
            · simp at h
          · simp at h

/-! ### scalars -/
theorem strB_bytesOf (s : ByteArray) : strB (bytesOf s) = s := by
  unfold strB bytesOf
  have : (List.map UInt8.ofNat (List.map (fun x => x.toNat) s.data.toList)) = s.data.toList := by
    rw [List.map_map]
    conv => rhs; rw [← List.map_id s.data.toList]
    apply List.map_congr_left
    intro b _
    simp
  rw [this]

theorem bytesOf_lt (s : ByteArray) : ∀ b ∈ bytesOf s, b < 256 := by
  intro b hb
  unfold bytesOf at hb
  rw [List.mem_map] at hb
  obtain ⟨c, _, rfl⟩ := hb
  exact c.toNat_lt

theorem ofScalar_VR {E : En} {h : Array Obj} {v : Value} {a : AV} (hv : ofScalar v = some a) : VR E h a v ∧ v.oneCell' = true := by
  cases v with
  | bool b => simp [ofScalar] at hv; subst hv; simp [VR, SB.den, Value.oneCell']
  | int k n => simp [ofScalar] at hv; subst hv; simp [VR, SE.den, Value.oneCell']
  | string s => simp [ofScalar] at hv; subst hv; exact ⟨by simp only [VR]; exact ⟨by rw [strB_bytesOf], bytesOf_lt s⟩, rfl⟩
  | pointer a => cases a <;> simp [ofScalar] at hv; subst hv; simp [VR, Value.oneCell']
  | slice a l c =>
    cases a with
    | some a => simp [ofScalar] at hv
    | none =>
      cases l with
      | succ l => simp [ofScalar] at hv
      | zero => cases c with
        | succ c => simp [ofScalar] at hv
        | zero => simp [ofScalar] at hv; subst hv; simp [VR, Value.oneCell']
  | map r => cases r <;> simp [ofScalar] at hv; subst hv; simp [VR, Value.oneCell']
  | nilFunc => simp [ofScalar] at hv; subst hv; simp [VR, Value.oneCell']
  | nilIface => simp [ofScalar] at hv; subst hv; simp [VR, Value.oneCell']
  | func fn f c =>
    simp only [ofScalar] at hv
    split at hv
    · rename_i hx
      simp at hx hv
      subst hv
      obtain ⟨rfl, rfl⟩ := hx
      exact ⟨by simp only [VR]; exact ⟨[], [], rfl, rfl, rfl⟩, rfl⟩
    · simp at hv
  | _ => simp [ofScalar] at hv

theorem ofScalars_VRs {E : En} {h : Array Obj} : ∀ {vs : List Value} {as : List AV}, ofScalars vs = some as → VRs E h as vs ∧ ∀ v ∈ vs, v.oneCell' = true
  | [], as, hv => by simp [ofScalars] at hv; subst hv; simp [VRs]
  | v :: vs, as, hv => by
    simp only [ofScalars] at hv
    split at hv
    · simp at hv
    · rename_i a ha
      split at hv
      · simp at hv
      · rename_i as' has
        simp at hv
        subst hv
        have h1 := ofScalar_VR (E := E) (h := h) ha
        have h2 := ofScalars_VRs (E := E) (h := h) has
        refine ⟨by rw [VRs_cons]; exact ⟨v, vs, rfl, h1.1, h2.1⟩, ?_⟩
        intro u hu
        rcases List.mem_cons.1 hu with rfl | hu
        · exact h1.2
        · exact h2.2 u hu

theorem ofConst_VR {E : En} {h : Array Obj} {v : Value} {a : AV} (hv : ofConst v = some a) : VR E h a v := by
  cases v with
  | agg cs =>
    simp only [ofConst, Option.map_eq_some_iff] at hv
    obtain ⟨l, h1, rfl⟩ := hv
    simp only [VR]
    exact ⟨cs.toList, by simp, (ofScalars_VRs h1).1⟩
  | tuple cs =>
    simp only [ofConst, Option.map_eq_some_iff] at hv
    obtain ⟨l, h1, rfl⟩ := hv
    simp only [VR]
    exact ⟨cs.toList, by simp, (ofScalars_VRs h1).1⟩
  | _ => exact (ofScalar_VR (by simpa [ofConst] using hv)).1

/-! ### one cell, many cells -/
theorem VR.one {E : En} {h : Array Obj} {x : AV} {v : Value} (hv : VR E h x v) (h1 : x.one = true) : v.oneCell' = true := by
  cases x with
  | agg cs => simp [AV.one] at h1
  | tuple cs => simp [AV.one] at h1
  | opq i => simp [AV.one] at h1
  | inp k ks => simp only [VR] at hv; rcases hv with ⟨⟨x, cap, rfl⟩, _⟩ | ⟨b, o, n, cap, rfl, _⟩ <;> rfl
  | slice id off len c => simp only [VR] at hv; obtain ⟨_, a, cap, rfl, _⟩ := hv; rfl
  | ro cs n full => simp only [VR] at hv; obtain ⟨b, o, cap, us, rfl, _⟩ := hv; rfl
  | rptr cs => simp only [VR] at hv; obtain ⟨b, o, us, rfl, _⟩ := hv; rfl
  | func fn fs cs => simp only [VR] at hv; obtain ⟨us, ws, rfl, _⟩ := hv; rfl
  | iface t x => simp only [VR] at hv; obtain ⟨u, rfl, _⟩ := hv; rfl
  | str s => simp only [VR] at hv; rw [hv.1]; rfl
  | ptr id off => simp only [VR] at hv; rw [hv.1]; rfl
  | map id => simp only [VR] at hv; rw [hv.1]; rfl
  | _ => simp only [VR] at hv; rw [hv]; rfl

theorem VRs.ones {E : En} {h : Array Obj} : ∀ {xs : List AV} {us : List Value}, VRs E h xs us → allOne xs = true → ∀ u ∈ us, u.oneCell' = true
  | [], us, hv, _ => by rw [VRs_nil] at hv; subst hv; simp
  | x :: xs, us, hv, h1 => by
    rw [VRs_cons] at hv
    obtain ⟨u, vs, rfl, h2, h3⟩ := hv
    simp [allOne] at h1
    intro y hy
    rcases List.mem_cons.1 hy with rfl | hy
    · exact h2.one h1.1
    · exact h3.ones h1.2 y hy

/-- the cells of a value -/
theorem VR.cells {E : En} {h : Array Obj} {x : AV} {v : Value} (hv : VR E h x v) (h1 : allOne x.cells = true) : VRs E h x.cells v.cells.toList := by
  cases x with
  | agg cs =>
    simp only [VR] at hv
    obtain ⟨us, rfl, h2⟩ := hv
    simpa [AV.cells, Value.cells] using h2
  | _ =>
    all_goals
      simp only [AV.cells] at h1 ⊢
      have h2 := hv.one (by simpa [allOne] using h1)
      rw [VRs_cons]
      refine ⟨v, [], ?_, hv, rfl⟩
      cases v <;> first | rfl | simp [Value.oneCell'] at h2

theorem cells_single {v : Value} (h : v.oneCell' = true) : v.cells = #[v] := by cases v <;> first | rfl | simp [Value.oneCell'] at h

/-! ### reading -/
theorem run_loadCells_at {P : Program} {w : World} {b o n : Nat} {us : List Value} (hn : us.length = n) (h : CellsAt w.heap b o us) :
    (loadCells ⟨b, o, none⟩ n).run P w = .ok us.toArray w := by
  subst hn
  refine run_loadCells_list w _ us fun j v hj => ?_
  rw [add_none, cell?_eq]
  exact h j v hj

theorem CellsAt.drop {h : Array Obj} {b o : Nat} {us : List Value} (hc : CellsAt h b o us) (k : Nat) : CellsAt h b (o + k) (us.drop k) := by
  intro i u hu
  rw [List.getElem?_drop] at hu
  have := hc (k + i) u hu
  rwa [show o + k + i = o + (k + i) from by omega]

theorem CellsAt.take {h : Array Obj} {b o : Nat} {us : List Value} (hc : CellsAt h b o us) (k : Nat) : CellsAt h b o (us.take k) := by
  intro i u hu
  rw [List.getElem?_take] at hu
  split at hu
  · exact hc i u hu
  · simp at hu

/-- the cells of a live block -/
theorem cells_of_live {E : En} {h : Array Obj} {id : Nat} {cs : List AV} {e : TypeId} (ho : OR E h id (.cells cs e)) :
    ∃ us, VRs E h cs us ∧ CellsAt h (E.θ id).1 (E.θ id).2 us ∧ ∀ u ∈ us, u.oneCell' = true := by
  obtain ⟨arr, lo, hi, us, h1, h2, h3, h4, h5, h6, h7⟩ := ho
  refine ⟨us, h2, fun i u hu => ?_, h7⟩
  simp only [hcell, h1]
  exact h3 i u hu

/-- what a read gives -/
theorem readAt_ok [Glob] {E : En} {H : Hp} {w : World} (r : RelH E H w) {p : AV} {u : Value} {n : Nat} {l : List AV} (hp : VR E w.heap p u) (h : readAt H p n = some l) :
    ∃ b o us, u = .pointer (some ⟨b, o, none⟩) ∧ us.length = n ∧ VRs E w.heap l us ∧ CellsAt w.heap b o us ∧ ∀ u ∈ us, u.oneCell' = true := by
  cases p with
  | ptr id off =>
    simp only [readAt] at h
    split at h
    · rename_i cs e hl
      split at h
      · rename_i l' hd
        obtain ⟨us, h2, h3, h4⟩ := cells_of_live (r.live id _ hl).2.1
        obtain ⟨h5, h6, h7⟩ := h2.drop? hd
        obtain ⟨h8, h9⟩ := h5.take? h
        simp only [VR] at hp
        refine ⟨_, _, _, hp.1, ?_, h8, (h3.drop off).take n, fun x hx => h4 x (List.mem_of_mem_drop (List.mem_of_mem_take hx))⟩
        have := h5.length
        rw [List.length_take]
        omega
      · simp at h
    · simp at h
  | rptr cs =>
    simp only [readAt] at h
    simp only [VR] at hp
    obtain ⟨b, o, us, rfl, _, h2, h3, h4⟩ := hp
    obtain ⟨h5, h6⟩ := h2.take? h
    refine ⟨b, o, _, rfl, ?_, h5, h3.take n, fun x hx => h4 x (List.mem_of_mem_take hx)⟩
    have := h2.length
    rw [List.length_take]
    omega
  | _ => simp [readAt] at h

/-! ### writing -/
theorem splice_ok {E : En} {h : Array Obj} : ∀ {cs : List AV} {o : Nat} {vs cs' : List AV} {us ws : List Value}, splice cs o vs = some cs' → VRs E h cs us → VRs E h vs ws →
    cs'.length = cs.length ∧ o + vs.length ≤ cs.length ∧ ∃ us', VRs E h cs' us' ∧ ∀ i, us'[i]? = if o ≤ i ∧ i < o + ws.length then ws[i - o]? else us[i]?
  | cs, 0, [], cs', us, ws, h1, h2, h3 => by
    cases cs <;> simp [splice] at h1 <;> subst h1 <;> rw [VRs_nil] at h3 <;> subst h3 <;> exact ⟨rfl, by simp, us, h2, fun i => by simp⟩
  | [], 0, _ :: _, cs', us, ws, h1, h2, h3 => by simp [splice] at h1
  | c :: cs, 0, v :: vs, cs', us, ws, h1, h2, h3 => by
    simp only [splice] at h1
    split at h1
    · rename_i l hl
      simp at h1
      subst h1
      rw [VRs_cons] at h2 h3
      obtain ⟨u, us', rfl, ha, hb⟩ := h2
      obtain ⟨x, ws', rfl, hc, hd⟩ := h3
      obtain ⟨e1, e2, us'', e3, e4⟩ := splice_ok hl hb hd
      refine ⟨by simp [e1], by simp at e2 ⊢; omega, x :: us'', by rw [VRs_cons]; exact ⟨x, us'', rfl, hc, e3⟩, ?_⟩
      intro i
      cases i with
      | zero => simp
      | succ i =>
        have := e4 i
        simp only [Nat.zero_le, true_and, Nat.zero_add, Nat.sub_zero, List.getElem?_cons_succ, List.length_cons, Nat.add_lt_add_iff_right] at this ⊢
        exact this
    · simp at h1
  | [], _ + 1, vs, cs', us, ws, h1, h2, h3 => by cases vs <;> simp [splice] at h1
  | c :: cs, o + 1, vs, cs', us, ws, h1, h2, h3 => by
    have h1' : (match splice cs o vs with | some l => some (c :: l) | none => none) = some cs' := by cases vs <;> exact h1
    split at h1'
    · rename_i l hl
      simp at h1'
      subst h1'
      rw [VRs_cons] at h2
      obtain ⟨u, us', rfl, ha, hb⟩ := h2
      obtain ⟨e1, e2, us'', e3, e4⟩ := splice_ok hl hb h3
      refine ⟨by simp [e1], by simp; omega, u :: us'', by rw [VRs_cons]; exact ⟨u, us'', rfl, ha, e3⟩, ?_⟩
      intro i
      cases i with
      | zero => simp
      | succ i =>
        have := e4 i
        simp only [List.getElem?_cons_succ]
        rw [this]
        by_cases hh : o ≤ i ∧ i < o + ws.length
        · rw [if_pos hh, if_pos (by omega)]
          congr 1
          omega
        · rw [if_neg hh, if_neg (by omega)]
    · simp at h1'

/-- cells are stored one by one -/
theorem run_storeCells_ok {P : Program} (b o : Nat) (e : TypeId) (lo hi : Nat) : ∀ (vs : List Value) (i : Nat) (arr : Array Value) (w : World),
    w.heap[b]? = some (.cells arr e (lo, hi)) → (∀ x, lo ≤ x → x < hi → arr.size ≤ x) → o + i + vs.length ≤ arr.size → (∀ v ∈ vs, v.oneCell' = true) →
    ∃ w' arr', (storeCells ⟨b, o, none⟩ vs i).run P w = .ok () w' ∧ Alike w w' ∧ w'.heap.size = w.heap.size ∧ (∀ j, j ≠ b → w'.heap[j]? = w.heap[j]?) ∧
      w'.heap[b]? = some (.cells arr' e (lo, hi)) ∧ arr'.size = arr.size ∧ ∀ j, arr'[j]? = if o + i ≤ j ∧ j < o + i + vs.length then vs[j - (o + i)]? else arr[j]?
  | [], i, arr, w, hb, _, _, _ => ⟨w, arr, rfl, ⟨rfl, rfl, rfl⟩, rfl, fun _ _ => rfl, hb, rfl, fun j => by rw [if_neg (by simp)]⟩
  | v :: vs, i, arr, w, hb, hf, hl, h1 => by
    have hin : o + i < arr.size := by simp at hl; omega
    have hcell : w.cell? ⟨b, o + i, none⟩ = some arr[o + i] := by simp [World.cell?, hb, hin]
    have hfro : w.frozen? ⟨b, o + i, none⟩ = false := by
      simp only [World.frozen?, hb, Bool.and_eq_false_iff, decide_eq_false_iff_not]
      by_cases hx : lo ≤ o + i
      · right
        intro hy
        have := hf _ hx hy
        omega
      · left; exact hx
    have hst : (store ((⟨b, o, none⟩ : Addr).add i) v).run P w = .ok () (w.setCell ⟨b, o + i, none⟩ v) := by
      rw [add_none, run_store P w _ v _ (h1 v (by simp)), hcell]
      simp [hfro]
    have hb2 : (w.setCell ⟨b, o + i, none⟩ v).heap[b]? = some (.cells (arr.setIfInBounds (o + i) v) e (lo, hi)) := by
      simp [World.setCell, Array.getElem?_modify, hb]
    have hsz : (w.setCell ⟨b, o + i, none⟩ v).heap.size = w.heap.size := by simp [World.setCell]
    have hot : ∀ j, j ≠ b → (w.setCell ⟨b, o + i, none⟩ v).heap[j]? = w.heap[j]? := by
      intro j hj
      simp only [World.setCell, Array.getElem?_modify]
      rw [if_neg (fun e => hj e.symm)]
    obtain ⟨w', arr', e1, e2, e3, e4, e5, e6, e7⟩ := run_storeCells_ok (P := P) b o e lo hi vs (i + 1) _ _ hb2 (by simpa using hf) (by simp at hl ⊢; omega) (fun x hx => h1 x (by simp [hx]))
    refine ⟨w', arr', ?_, ⟨e2.os, e2.tape, e2.output⟩, e3.trans hsz, fun j hj => (e4 j hj).trans (hot j hj), e5, by simpa using e6, ?_⟩
    · simp only [storeCells, Sem.run_bind, hst, Result.andThen_ok]
      exact e1
    · intro j
      rw [e7 j]
      simp only [List.length_cons]
      by_cases hj : o + i = j
      · rw [if_neg (by omega), if_pos (by omega)]
        subst hj
        simp [hin]
      · by_cases hj2 : o + (i + 1) ≤ j ∧ j < o + (i + 1) + vs.length
        · rw [if_pos hj2, if_pos (by omega)]
          rw [show j - (o + i) = (j - (o + (i + 1))) + 1 from by omega]
          simp
        · rw [if_neg hj2, if_neg (by omega)]
          rw [Array.getElem?_setIfInBounds_ne hj]

/-- a write into a live block of cells -/
theorem write_step [Glob] {P : Program} {E : En} {H : Hp} {w : World} (r : RelH E H w) {id off : Nat} {cs vs cs' : List AV} {e : TypeId} {ws : List Value} (hl : H.get id = some (.cells cs e))
    (hs : splice cs off vs = some cs') (hv : VRs E w.heap vs ws) (h1 : ∀ u ∈ ws, u.oneCell' = true) :
    ∃ w', (storeCells ⟨(E.θ id).1, (E.θ id).2 + off, none⟩ ws).run P w = .ok () w' ∧ Stp E H w E (H.put id (.cells cs' e)) w' ∧ RelH E (H.put id (.cells cs' e)) w' := by
  obtain ⟨arr, lo, hi, us, g1, g2, g3, g4, g5, g6, g7⟩ := (r.live id _ hl).2.1
  obtain ⟨s1, s2, us', s3, s4⟩ := splice_ok hs g2 hv
  have hlen := hv.length
  have hlu := g2.length
  obtain ⟨w', arr', e1, e2, e3, e4, e5, e6, e7⟩ := run_storeCells_ok (P := P) (E.θ id).1 ((E.θ id).2 + off) e lo hi ws 0 arr w g1 g6 (by omega) h1
  refine ⟨w', e1, put_step r hl _ e3 e4 e2 ?_⟩
  have k := keeps_write r hl e4
  refine ⟨arr', lo, hi, us', e5, VRs.keep k _ _ s3, ?_, by omega, by rw [e6]; exact g5, by rw [e6]; exact g6, ?_⟩
  · intro i u hu
    rw [s4 i] at hu
    rw [e7]
    split at hu
    · rename_i hh
      rw [if_pos (by omega), show (E.θ id).2 + i - ((E.θ id).2 + off + 0) = i - off from by omega]
      exact hu
    · rename_i hh
      rw [if_neg (by omega)]
      exact g3 i u hu
  · intro u hu
    rw [List.mem_iff_getElem?] at hu
    obtain ⟨i, hi'⟩ := hu
    rw [s4 i] at hi'
    split at hi'
    · exact h1 u (List.mem_of_getElem? hi')
    · exact g7 u (List.mem_of_getElem? hi')

end Go.As

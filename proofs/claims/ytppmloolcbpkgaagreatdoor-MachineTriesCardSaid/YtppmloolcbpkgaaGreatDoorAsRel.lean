import Derived.Test.YtppmloolcbpkgaaGreatDoorAsCore
import Derived.LoopN
import Derived.Below
/-
  AS, part 2: what abstract values and heaps say of a world.
-/
namespace Go.As

structure En where
  ρ : Nat → Int
  θ : Nat → Nat × Nat
  κ : Nat → Nat
  dm : Nat → Prop
  ro : Nat → Prop

def strB (s : List Nat) : ByteArray := ⟨(s.map UInt8.ofNat).toArray⟩

def hcell (h : Array Obj) (b o : Nat) : Option Value :=
  match h[b]? with
  | some (.cells c _ _) => c[o]?
  | _ => none

theorem cell?_eq (w : World) (b o : Nat) : w.cell? ⟨b, o, none⟩ = hcell w.heap b o := by
  unfold World.cell? hcell
  simp only [Option.isSome_none, Bool.false_eq_true, if_false]
  cases w.heap[b]? with
  | none => rfl
  | some o => cases o <;> rfl

def CellsAt (h : Array Obj) (b o : Nat) (us : List Value) : Prop := ∀ i u, us[i]? = some u → hcell h b (o + i) = some u

def CapR (E : En) (id off len : Nat) (a : Addr) (cap : Nat) : ACap → Prop
  | .exact c => cap = c ∧ ((a = ⟨(E.θ id).1, (E.θ id).2 + off, none⟩) ∨ c = 0)
  | .rest es => (a = ⟨(E.θ id).1, (E.θ id).2 + off, none⟩ ∧ off + cap * es = E.κ id) ∨ (cap = 0 ∧ len = 0 ∧ off = E.κ id)

mutual
def VR (E : En) (h : Array Obj) : AV → Value → Prop
  | .bool b, v => v = .bool (b.den E.ρ)
  | .int k e, v => v = .int k (e.den E.ρ)
  | .str s, v => v = .string (strB s) ∧ ∀ b ∈ s, b < 256
  | .ptr id off, v => v = .pointer (some ⟨(E.θ id).1, (E.θ id).2 + off, none⟩) ∧ E.dm id
  | .nilp, v => v = .pointer none
  | .rptr cs, v => ∃ b o us, v = .pointer (some ⟨b, o, none⟩) ∧ E.ro b ∧ VRs E h cs us ∧ CellsAt h b o us ∧ ∀ u ∈ us, u.oneCell' = true
  | .slice id off len c, v => E.dm id ∧ ∃ a cap, v = .slice (some a) len cap ∧ len ≤ cap ∧ CapR E id off len a cap c
  | .nils, v => v = .slice none 0 0
  | .ro cs n full, v => ∃ b o cap us, v = .slice (some ⟨b, o, none⟩) n cap ∧ n ≤ cap ∧ (full = true → cap = n) ∧ E.ro b ∧ VRs E h cs us ∧ CellsAt h b o us ∧ ∀ u ∈ us, u.oneCell' = true
  | .map id, v => v = .map (some (E.θ id).1) ∧ E.dm id
  | .nilm, v => v = .map none
  | .func fn fs cs, v => ∃ us ws, v = .func fn us.toArray ws.toArray ∧ VRs E h fs us ∧ VRs E h cs ws
  | .nilf, v => v = .nilFunc
  | .iface t x, v => ∃ u, v = .iface t u ∧ VR E h x u
  | .nili, v => v = .nilIface
  | .agg cs, v => ∃ us, v = .agg us.toArray ∧ VRs E h cs us
  | .tuple cs, v => ∃ us, v = .tuple us.toArray ∧ VRs E h cs us
  | .opq _, _ => False
  | .inp k ks, v => ((∃ x cap, v = .slice x 0 cap) ∧ E.ρ (900 + k) = 0) ∨ ∃ b o n cap, v = .slice (some ⟨b, o, none⟩) n cap ∧ n ≤ cap ∧ E.ρ (900 + k) = (n : Int) ∧ E.ro b ∧
      ∀ i j kd, i < n → ks[j]? = some kd → hcell h b (o + i * ks.length + j) = some (.int kd (E.ρ (1000 + i * 64 + (k * 8 + j))))
def VRs (E : En) (h : Array Obj) : List AV → List Value → Prop
  | [], us => us = []
  | x :: xs, us => ∃ u vs, us = u :: vs ∧ VR E h x u ∧ VRs E h xs vs
end

theorem VRs_nil {E : En} {h : Array Obj} {us : List Value} : VRs E h [] us ↔ us = [] := by simp [VRs]
theorem VRs_cons {E : En} {h : Array Obj} {x : AV} {xs : List AV} {us : List Value} : VRs E h (x :: xs) us ↔ ∃ u vs, us = u :: vs ∧ VR E h x u ∧ VRs E h xs vs := by simp [VRs]

theorem VRs.length {E : En} {h : Array Obj} : ∀ {xs : List AV} {us : List Value}, VRs E h xs us → us.length = xs.length
  | [], us, hh => by rw [VRs_nil] at hh; simp [hh]
  | x :: xs, us, hh => by
    rw [VRs_cons] at hh
    obtain ⟨u, vs, rfl, _, h2⟩ := hh
    simp [h2.length]

theorem VRs.append {E : En} {h : Array Obj} : ∀ {xs ys : List AV} {us vs : List Value}, VRs E h xs us → VRs E h ys vs → VRs E h (xs ++ ys) (us ++ vs)
  | [], _, us, vs, h1, h2 => by rw [VRs_nil] at h1; subst h1; simpa using h2
  | x :: xs, ys, us, vs, h1, h2 => by
    rw [VRs_cons] at h1
    obtain ⟨u, us', rfl, hx, hxs⟩ := h1
    simp only [List.cons_append]
    rw [VRs_cons]
    exact ⟨u, us' ++ vs, rfl, hx, hxs.append h2⟩

theorem VRs.take? {E : En} {h : Array Obj} : ∀ {n : Nat} {xs ys : List AV} {us : List Value}, VRs E h xs us → As.take? n xs = some ys → VRs E h ys (us.take n) ∧ n ≤ xs.length
  | 0, xs, ys, us, _, h2 => by simp [As.take?] at h2; subst h2; simp [VRs]
  | n + 1, [], ys, us, _, h2 => by simp [As.take?] at h2
  | n + 1, x :: xs, ys, us, h1, h2 => by
    rw [VRs_cons] at h1
    obtain ⟨u, vs, rfl, hx, hxs⟩ := h1
    simp only [As.take?] at h2
    split at h2
    · rename_i l hl
      simp at h2
      subst h2
      have := hxs.take? hl
      rw [List.take_succ_cons, VRs_cons]
      exact ⟨⟨u, _, rfl, hx, this.1⟩, by simp; exact this.2⟩
    · simp at h2

theorem VRs.drop? {E : En} {h : Array Obj} : ∀ {n : Nat} {xs ys : List AV} {us : List Value}, VRs E h xs us → As.drop? n xs = some ys → VRs E h ys (us.drop n) ∧ n ≤ xs.length ∧ ys.length = xs.length - n
  | 0, xs, ys, us, h1, h2 => by simp [As.drop?] at h2; subst h2; simpa using h1
  | n + 1, [], ys, us, _, h2 => by simp [As.drop?] at h2
  | n + 1, x :: xs, ys, us, h1, h2 => by
    rw [VRs_cons] at h1
    obtain ⟨u, vs, rfl, hx, hxs⟩ := h1
    simp only [As.drop?] at h2
    have := hxs.drop? h2
    refine ⟨by simpa using this.1, by simp; exact this.2.1, by simp; exact this.2.2⟩

theorem VRs.nth {E : En} {h : Array Obj} : ∀ {i : Nat} {xs : List AV} {x : AV} {us : List Value}, VRs E h xs us → nth? xs i = some x → ∃ u, us[i]? = some u ∧ VR E h x u
  | _, [], _, us, _, h2 => by simp [nth?] at h2
  | 0, x :: xs, y, us, h1, h2 => by
    rw [VRs_cons] at h1
    obtain ⟨u, vs, rfl, hx, hxs⟩ := h1
    simp [nth?] at h2
    subst h2
    exact ⟨u, by simp, hx⟩
  | i + 1, x :: xs, y, us, h1, h2 => by
    rw [VRs_cons] at h1
    obtain ⟨u, vs, rfl, hx, hxs⟩ := h1
    simp only [nth?] at h2
    obtain ⟨v, h3, h4⟩ := hxs.nth h2
    exact ⟨v, by simpa using h3, h4⟩

/-! ### objects -/
def EntR (E : En) (h : Array Obj) : List (AV × AV × Nat) → List MapEntry → Prop
  | [], es => es = []
  | (k, v, b) :: xs, es => ∃ e r, es = e :: r ∧ VR E h k e.key ∧ VR E h v e.val ∧ b = b ∧ EntR E h xs r

def OR (E : En) (h : Array Obj) (id : Nat) : AObj → Prop
  | .cells cs e => ∃ arr lo hi us, h[(E.θ id).1]? = some (.cells arr e (lo, hi)) ∧ VRs E h cs us ∧ (∀ i u, us[i]? = some u → arr[(E.θ id).2 + i]? = some u) ∧
      cs.length ≤ E.κ id ∧ (E.θ id).2 + E.κ id = arr.size ∧ (∀ o, lo ≤ o → o < hi → arr.size ≤ o) ∧ (∀ u ∈ us, u.oneCell' = true)
  | .map es _ => ∃ ents c, h[(E.θ id).1]? = some (.map ents c) ∧ EntR E h es ents.toList
  | .siter s p => h[(E.θ id).1]? = some (.stringIter (strB s) p) ∧ (E.θ id).2 = 0 ∧ ∀ b ∈ s, b < 256

/-- a fact on the blocks that are only read; it stays while they stay -/
class Glob where
  ok : (Nat → Prop) → Array Obj → Prop
  keep : ∀ {ro ro' : Nat → Prop} {h h' : Array Obj}, ok ro h → (∀ b, ro b → ro' b) → (∀ b, ro b → h'[b]? = h[b]?) → ok ro' h'


structure RelH [Glob] (E : En) (H : Hp) (w : World) : Prop where
  fresh : ∀ id, H.next ≤ id → ¬ E.dm id
  res : ∀ r, H.res = some r → r < H.next ∧ ¬ E.dm r
  live : ∀ id o, H.get id = some o → E.dm id ∧ OR E w.heap id o ∧ ¬ E.ro (E.θ id).1
  inj : ∀ id id' o o', H.get id = some o → H.get id' = some o' → (E.θ id).1 = (E.θ id').1 → id = id'
  rob : ∀ b, E.ro b → b < w.heap.size
  glob : Glob.ok E.ro w.heap

structure Stp (E : En) (H : Hp) (w : World) (E' : En) (H' : Hp) (w' : World) : Prop where
  ρ : E'.ρ = E.ρ
  dm : ∀ id, E.dm id → E'.dm id
  θ : ∀ id, E.dm id → E'.θ id = E.θ id
  κ : ∀ id, E.dm id → E'.κ id = E.κ id
  ro : ∀ b, E.ro b → E'.ro b
  roe : ∀ b, E'.ro b → E.ro b
  nxm : H.next ≤ H'.next
  rsm : H'.res = none ∨ H'.res = H.res
  dmn : ∀ id, E'.dm id → E.dm id ∨ (H.next ≤ id ∧ id < H'.next) ∨ H.res = some id
  os : w'.os = w.os
  tape : w'.tape = w.tape
  output : w'.output = w.output
  size : w.heap.size ≤ w'.heap.size
  keep : ∀ b, b < w.heap.size → (∀ id o, H.get id = some o → (E.θ id).1 ≠ b) → w'.heap[b]? = w.heap[b]?
  own : ∀ id o, H'.get id = some o → (E'.θ id).1 < w.heap.size → ∃ id0 o0, H.get id0 = some o0 ∧ (E.θ id0).1 = (E'.θ id).1

theorem Stp.refl (E : En) (H : Hp) (w : World) : Stp E H w E H w :=
  ⟨rfl, fun _ h => h, fun _ _ => rfl, fun _ _ => rfl, fun _ h => h, fun _ h => h, Nat.le_refl _, .inr rfl, fun _ h => .inl h, rfl, rfl, rfl, Nat.le_refl _, fun _ _ _ => rfl, fun id o h _ => ⟨id, o, h, rfl⟩⟩

theorem Stp.trans {E E1 E2 : En} {H H1 H2 : Hp} {w w1 w2 : World} (a : Stp E H w E1 H1 w1) (b : Stp E1 H1 w1 E2 H2 w2) : Stp E H w E2 H2 w2 where
  ρ := b.ρ.trans a.ρ
  dm := fun id h => b.dm id (a.dm id h)
  θ := fun id h => (b.θ id (a.dm id h)).trans (a.θ id h)
  κ := fun id h => (b.κ id (a.dm id h)).trans (a.κ id h)
  ro := fun x h => b.ro x (a.ro x h)
  roe := fun x h => a.roe x (b.roe x h)
  nxm := Nat.le_trans a.nxm b.nxm
  rsm := by
    rcases b.rsm with h | h
    · exact .inl h
    · rw [h]; exact a.rsm
  dmn := fun id h => by
    rcases b.dmn id h with h | h | h
    · rcases a.dmn id h with h | h | h
      · exact .inl h
      · exact .inr (.inl ⟨h.1, Nat.lt_of_lt_of_le h.2 b.nxm⟩)
      · exact .inr (.inr h)
    · exact .inr (.inl ⟨Nat.le_trans a.nxm h.1, h.2⟩)
    · rcases a.rsm with h' | h'
      · rw [h'] at h; simp at h
      · exact .inr (.inr (h'.symm.trans h))
  os := b.os.trans a.os
  tape := b.tape.trans a.tape
  output := b.output.trans a.output
  size := Nat.le_trans a.size b.size
  keep := fun x hx hn => by
    rw [b.keep x (Nat.lt_of_lt_of_le hx a.size) ?_, a.keep x hx hn]
    intro id o ho he
    obtain ⟨id0, o0, h0, he0⟩ := a.own id o ho (by rw [he]; exact hx)
    exact hn id0 o0 h0 (he0.trans he)
  own := fun id o ho hlt => by
    obtain ⟨id1, o1, h1, he1⟩ := b.own id o ho (Nat.lt_of_lt_of_le hlt a.size)
    obtain ⟨id0, o0, h0, he0⟩ := a.own id1 o1 h1 (by rw [he1]; exact hlt)
    exact ⟨id0, o0, h0, he0.trans he1⟩

/-- what a value needs to stay as it was -/
structure Keeps (E : En) (h : Array Obj) (E' : En) (h' : Array Obj) : Prop where
  ρ : E'.ρ = E.ρ
  dm : ∀ id, E.dm id → E'.dm id
  θ : ∀ id, E.dm id → E'.θ id = E.θ id
  κ : ∀ id, E.dm id → E'.κ id = E.κ id
  ro : ∀ b, E.ro b → E'.ro b
  roh : ∀ b, E.ro b → h'[b]? = h[b]?

theorem Stp.keeps [Glob] {E E' : En} {H H' : Hp} {w w' : World} (s : Stp E H w E' H' w') (r : RelH E H w) : Keeps E w.heap E' w'.heap :=
  ⟨s.ρ, s.dm, s.θ, s.κ, s.ro, fun b hb => s.keep b (r.rob b hb) fun id o ho he => (r.live id o ho).2.2 (by rw [he]; exact hb)⟩

theorem CellsAt.keep {E E' : En} {h h' : Array Obj} (k : Keeps E h E' h') {b o : Nat} {us : List Value} (hb : E.ro b) (hc : CellsAt h b o us) : CellsAt h' b o us := by
  intro i u hu
  have := hc i u hu
  unfold hcell at *
  rw [k.roh b hb]
  exact this

theorem CapR.keep {E E' : En} {h h' : Array Obj} (k : Keeps E h E' h') {id off len : Nat} {a : Addr} {cap : Nat} {c : ACap} (hid : E.dm id) (hc : CapR E id off len a cap c) : CapR E' id off len a cap c := by
  cases c <;> simp only [CapR] at * <;> rw [k.θ id hid]
  · exact hc
  · rw [k.κ id hid]; exact hc

mutual
theorem VR.keep {E E' : En} {h h' : Array Obj} (k : Keeps E h E' h') : ∀ (x : AV) (v : Value), VR E h x v → VR E' h' x v
  | .bool b, v, hv => by simp only [VR] at *; rw [k.ρ]; exact hv
  | .int _ e, v, hv => by simp only [VR] at *; rw [k.ρ]; exact hv
  | .str s, v, hv => by simp only [VR] at *; exact hv
  | .ptr id off, v, hv => by simp only [VR] at *; rw [k.θ id hv.2]; exact ⟨hv.1, k.dm _ hv.2⟩
  | .nilp, v, hv => by simp only [VR] at *; exact hv
  | .rptr cs, v, hv => by
    simp only [VR] at *
    obtain ⟨b, o, us, h1, h2, h3, h4, h5⟩ := hv
    exact ⟨b, o, us, h1, k.ro b h2, VRs.keep k cs us h3, h4.keep k h2, h5⟩
  | .slice id off len c, v, hv => by
    simp only [VR] at *
    obtain ⟨h1, a, cap, h2, h3, h4⟩ := hv
    exact ⟨k.dm _ h1, a, cap, h2, h3, h4.keep k h1⟩
  | .nils, v, hv => by simp only [VR] at *; exact hv
  | .ro cs n full, v, hv => by
    simp only [VR] at *
    obtain ⟨b, o, cap, us, h1, h2, h3, h4, h5, h6, h7⟩ := hv
    exact ⟨b, o, cap, us, h1, h2, h3, k.ro b h4, VRs.keep k cs us h5, h6.keep k h4, h7⟩
  | .map id, v, hv => by simp only [VR] at *; rw [k.θ id hv.2]; exact ⟨hv.1, k.dm _ hv.2⟩
  | .nilm, v, hv => by simp only [VR] at *; exact hv
  | .func fn fs cs, v, hv => by
    simp only [VR] at *
    obtain ⟨us, ws, h1, h2, h3⟩ := hv
    exact ⟨us, ws, h1, VRs.keep k fs us h2, VRs.keep k cs ws h3⟩
  | .nilf, v, hv => by simp only [VR] at *; exact hv
  | .iface t x, v, hv => by
    simp only [VR] at *
    obtain ⟨u, h1, h2⟩ := hv
    exact ⟨u, h1, VR.keep k x u h2⟩
  | .nili, v, hv => by simp only [VR] at *; exact hv
  | .agg cs, v, hv => by
    simp only [VR] at *
    obtain ⟨us, h1, h2⟩ := hv
    exact ⟨us, h1, VRs.keep k cs us h2⟩
  | .tuple cs, v, hv => by
    simp only [VR] at *
    obtain ⟨us, h1, h2⟩ := hv
    exact ⟨us, h1, VRs.keep k cs us h2⟩
  | .opq _, v, hv => by simp only [VR] at hv
  | .inp kk ks, v, hv => by
    simp only [VR] at *
    rw [k.ρ]
    rcases hv with hv | ⟨b, o, n, cap, h1, h2, h3, h4, h5⟩
    · exact .inl hv
    · refine .inr ⟨b, o, n, cap, h1, h2, h3, k.ro b h4, fun i j kd hi hj => ?_⟩
      have := h5 i j kd hi hj
      unfold hcell at *
      rw [k.roh b h4]
      exact this
theorem VRs.keep {E E' : En} {h h' : Array Obj} (k : Keeps E h E' h') : ∀ (xs : List AV) (us : List Value), VRs E h xs us → VRs E' h' xs us
  | [], us, hv => by simp only [VRs] at *; exact hv
  | x :: xs, us, hv => by
    simp only [VRs] at *
    obtain ⟨u, vs, h1, h2, h3⟩ := hv
    exact ⟨u, vs, h1, VR.keep k x u h2, VRs.keep k xs vs h3⟩
end

theorem EntR.keep {E E' : En} {h h' : Array Obj} (k : Keeps E h E' h') : ∀ (xs : List (AV × AV × Nat)) (es : List MapEntry), EntR E h xs es → EntR E' h' xs es
  | [], es, hv => by simp only [EntR] at *; exact hv
  | (a, b, c) :: xs, es, hv => by
    simp only [EntR] at *
    obtain ⟨e, r, h1, h2, h3, h4, h5⟩ := hv
    exact ⟨e, r, h1, VR.keep k _ _ h2, VR.keep k _ _ h3, h4, EntR.keep k xs r h5⟩

/-- an object whose block is as it was -/
theorem OR.keep {E E' : En} {h h' : Array Obj} (k : Keeps E h E' h') {id : Nat} {o : AObj} (hid : E.dm id) (hb : h'[(E.θ id).1]? = h[(E.θ id).1]?) (ho : OR E h id o) : OR E' h' id o := by
  cases o with
  | cells cs e =>
    simp only [OR] at *
    obtain ⟨arr, lo, hi, us, h1, h2, h3, h4, h5, h6, h7⟩ := ho
    rw [k.θ id hid, k.κ id hid, hb]
    exact ⟨arr, lo, hi, us, h1, VRs.keep k cs us h2, h3, h4, h5, h6, h7⟩
  | map es c =>
    simp only [OR] at *
    obtain ⟨ents, c, h1, h2⟩ := ho
    rw [k.θ id hid, hb]
    exact ⟨ents, c, h1, EntR.keep k es _ h2⟩
  | siter s p =>
    simp only [OR] at *
    rw [k.θ id hid, hb]
    exact ho

end Go.As

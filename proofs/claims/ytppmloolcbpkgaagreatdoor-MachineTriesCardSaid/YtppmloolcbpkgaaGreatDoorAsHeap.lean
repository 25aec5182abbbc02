import Derived.Test.YtppmloolcbpkgaaGreatDoorAsRel
/-
  AS, part 3: tries; what a new block, a write, a move of a block do to the relation.
-/
namespace Go.As

theorem Hp.get_put (h : Hp) (i : Nat) (o : AObj) (j : Nat) : (h.put i o).get j = if j = i then some o else h.get j := by
  simp [Hp.get, Hp.put, Tr.get_put]
theorem Hp.get_new (h : Hp) (o : AObj) (j : Nat) : (h.new o).get j = if j = h.fresh then some o else h.get j := by
  unfold Hp.new Hp.fresh
  cases h.res <;> simp [Hp.get, Tr.get_put]

theorem RelH.unfresh [Glob] {E : En} {H : Hp} {w : World} (r : RelH E H w) : ¬ E.dm H.fresh := by
  unfold Hp.fresh
  cases hr : H.res with
  | none => exact r.fresh _ (Nat.le_refl _)
  | some x => exact (r.res x hr).2

theorem RelH.undm [Glob] {E : En} {H : Hp} {w : World} (r : RelH E H w) {i : Nat} (h : E.dm i) : i ≠ H.fresh := fun e => r.unfresh (e ▸ h)
theorem Hp.get_drop (h : Hp) (i j : Nat) : (h.drop i).get j = if j = i then none else h.get j := by
  simp [Hp.get, Hp.drop, Tr.get_put]

/-- the environment with one block more -/
def En.ext (E : En) (n : Nat) (p : Nat × Nat) (c : Nat) : En :=
  { E with θ := fun i => if i = n then p else E.θ i, κ := fun i => if i = n then c else E.κ i, dm := fun i => i = n ∨ E.dm i }

theorem En.ext_θ_new (E : En) (n : Nat) (p : Nat × Nat) (c : Nat) : (E.ext n p c).θ n = p := by simp [En.ext]
theorem En.ext_κ_new (E : En) (n : Nat) (p : Nat × Nat) (c : Nat) : (E.ext n p c).κ n = c := by simp [En.ext]
theorem En.ext_dm_new (E : En) (n : Nat) (p : Nat × Nat) (c : Nat) : (E.ext n p c).dm n := .inl rfl
theorem En.ext_θ (E : En) (n : Nat) (p : Nat × Nat) (c : Nat) {i : Nat} (h : i ≠ n) : (E.ext n p c).θ i = E.θ i := by simp [En.ext, h]
theorem En.ext_κ (E : En) (n : Nat) (p : Nat × Nat) (c : Nat) {i : Nat} (h : i ≠ n) : (E.ext n p c).κ i = E.κ i := by simp [En.ext, h]

theorem ext_fresh [Glob] {E : En} {H : Hp} {w : World} (r : RelH E H w) (p : Nat × Nat) (c : Nat) (o : AObj) : (∀ id, (H.new o).next ≤ id → ¬ (E.ext H.fresh p c).dm id) ∧ ∀ q, (H.new o).res = some q → q < (H.new o).next ∧ ¬ (E.ext H.fresh p c).dm q := by
  have h1 := r.fresh
  have h2 := r.res
  unfold Hp.new Hp.fresh
  cases hr : H.res with
  | none =>
    refine ⟨fun id hid hd => ?_, by simp⟩
    simp at hid
    rcases hd with hd | hd
    · have hd : id = H.next := hd
      omega
    · exact h1 id (by omega) hd
  | some q =>
    refine ⟨fun id hid hd => ?_, by simp⟩
    simp at hid
    have := h2 q hr
    rcases hd with hd | hd
    · have hd : id = q := hd
      omega
    · exact h1 id (by omega) hd

theorem new_next (H : Hp) (o : AObj) : H.next ≤ (H.new o).next ∧ ((H.new o).res = none ∨ (H.new o).res = H.res) ∧ ∀ id, id = H.fresh → (H.next ≤ id ∧ id < (H.new o).next) ∨ H.res = some id := by
  unfold Hp.new Hp.fresh
  cases hr : H.res with
  | none => exact ⟨Nat.le_succ _, .inl rfl, fun id e => .inl ⟨by have e : id = H.next := e; omega, by have e : id = H.next := e; show id < H.next + 1; omega⟩⟩
  | some q => exact ⟨Nat.le_refl _, .inl rfl, fun id e => .inr (by have e : id = q := e; rw [e])⟩

structure Alike (w w' : World) : Prop where
  os : w'.os = w.os
  tape : w'.tape = w.tape
  output : w'.output = w.output

theorem push_old {h : Array Obj} {o : Obj} {b : Nat} (hb : b < h.size) : (h.push o)[b]? = h[b]? := by
  rw [Array.getElem?_push, if_neg (by omega)]

theorem keeps_push [Glob] {E : En} {H : Hp} {w : World} (r : RelH E H w) (p : Nat × Nat) (c : Nat) (o : Obj) : Keeps E w.heap (E.ext H.fresh p c) (w.heap.push o) :=
  ⟨rfl, fun _ h => .inr h, fun _ h => En.ext_θ E _ p c (r.undm h), fun _ h => En.ext_κ E _ p c (r.undm h), fun _ h => h, fun b hb => push_old (r.rob b hb)⟩

theorem live_lt [Glob] {E : En} {H : Hp} {w : World} (r : RelH E H w) {id : Nat} {o : AObj} (h : H.get id = some o) : (E.θ id).1 < w.heap.size := by
  have h2 := (r.live id o h).2.1
  cases o with
  | cells cs e =>
    obtain ⟨arr, lo, hi, us, h1, _⟩ := h2
    exact (Array.getElem?_eq_some_iff.1 h1).1
  | map es c =>
    obtain ⟨ents, c', h1, _⟩ := h2
    exact (Array.getElem?_eq_some_iff.1 h1).1
  | siter s p => exact (Array.getElem?_eq_some_iff.1 h2.1).1

/-- a new block -/
theorem new_step [Glob] {E : En} {H : Hp} {w w' : World} (r : RelH E H w) (o : Obj) (ao : AObj) (c : Nat) (hw : w'.heap = w.heap.push o) (al : Alike w w')
    (ho : OR (E.ext H.fresh (w.heap.size, 0) c) w'.heap H.fresh ao) :
    Stp E H w (E.ext H.fresh (w.heap.size, 0) c) (H.new ao) w' ∧ RelH (E.ext H.fresh (w.heap.size, 0) c) (H.new ao) w' := by
  have k := keeps_push r (w.heap.size, 0) c o
  rw [← hw] at k
  have hf := ext_fresh r (w.heap.size, 0) c ao
  refine ⟨⟨k.ρ, k.dm, k.θ, k.κ, k.ro, fun _ h => h, (new_next H ao).1, (new_next H ao).2.1, fun id h => h.elim (fun e => .inr ((new_next H ao).2.2 id e)) .inl, al.os, al.tape, al.output, by rw [hw]; simp, fun b hb _ => by rw [hw, push_old hb], ?_⟩, ⟨hf.1, hf.2, ?_, ?_, ?_, Glob.keep r.glob k.ro k.roh⟩⟩
  · intro id o2 h2 hlt
    rw [Hp.get_new] at h2
    split at h2
    · rename_i he
      rw [he, En.ext_θ_new] at hlt
      simp at hlt
    · have h3 := (r.live id o2 h2).1
      exact ⟨id, o2, h2, by rw [En.ext_θ _ _ _ _ (r.undm h3)]⟩
  · intro id o2 h2
    rw [Hp.get_new] at h2
    split at h2
    · rename_i he
      simp at h2
      subst h2
      rw [he, En.ext_θ_new]
      refine ⟨En.ext_dm_new _ _ _ _, ho, fun hr => ?_⟩
      have := r.rob _ hr
      simp at this
    · obtain ⟨h3, h4, h5⟩ := r.live id o2 h2
      refine ⟨.inr h3, h4.keep k h3 ?_, ?_⟩
      · rw [hw, push_old (live_lt r h2)]
      · rw [En.ext_θ _ _ _ _ (r.undm h3)]; exact h5
  · intro id id' o1 o2 h1 h2 he
    rw [Hp.get_new] at h1 h2
    split at h1 <;> split at h2
    · omega
    · rename_i e1 _
      have h3 := (r.live id' o2 h2).1
      rw [e1, En.ext_θ_new, En.ext_θ _ _ _ _ (r.undm h3)] at he
      have := live_lt r h2
      simp only at he
      omega
    · rename_i _ e1
      have h3 := (r.live id o1 h1).1
      rw [e1, En.ext_θ_new, En.ext_θ _ _ _ _ (r.undm h3)] at he
      have := live_lt r h1
      simp only at he
      omega
    · have h3 := (r.live id o1 h1).1
      have h4 := (r.live id' o2 h2).1
      rw [En.ext_θ _ _ _ _ (r.undm h3), En.ext_θ _ _ _ _ (r.undm h4)] at he
      exact r.inj id id' o1 o2 h1 h2 he
  · intro b hb
    have := r.rob b hb
    rw [hw]
    simp
    omega

theorem keeps_write [Glob] {E : En} {H : Hp} {w w' : World} (r : RelH E H w) {id : Nat} {o : AObj} (hl : H.get id = some o)
    (hother : ∀ b, b ≠ (E.θ id).1 → w'.heap[b]? = w.heap[b]?) : Keeps E w.heap E w'.heap :=
  ⟨rfl, fun _ h => h, fun _ _ => rfl, fun _ _ => rfl, fun _ h => h, fun b hb => hother b fun e => (r.live id o hl).2.2 (by rw [← e]; exact hb)⟩

/-- a write into a live block -/
theorem put_step [Glob] {E : En} {H : Hp} {w w' : World} (r : RelH E H w) {id : Nat} {o : AObj} (hl : H.get id = some o) (ao : AObj)
    (hsize : w'.heap.size = w.heap.size) (hother : ∀ b, b ≠ (E.θ id).1 → w'.heap[b]? = w.heap[b]?) (al : Alike w w') (ho : OR E w'.heap id ao) :
    Stp E H w E (H.put id ao) w' ∧ RelH E (H.put id ao) w' := by
  have k := keeps_write r hl hother
  refine ⟨⟨rfl, fun _ h => h, fun _ _ => rfl, fun _ _ => rfl, fun _ h => h, fun _ h => h, Nat.le_refl _, .inr rfl, fun _ h => .inl h, al.os, al.tape, al.output, by omega, ?_, ?_⟩, ⟨r.fresh, r.res, ?_, ?_, ?_, Glob.keep r.glob k.ro k.roh⟩⟩
  · intro b _ hn
    exact hother b fun e => hn id o hl e.symm
  · intro j o2 h2 _
    rw [Hp.get_put] at h2
    split at h2
    · rename_i e; subst e; exact ⟨j, o, hl, rfl⟩
    · exact ⟨j, o2, h2, rfl⟩
  · intro j o2 h2
    rw [Hp.get_put] at h2
    split at h2
    · rename_i e
      subst e
      simp at h2
      subst h2
      exact ⟨(r.live j o hl).1, ho, (r.live j o hl).2.2⟩
    · rename_i e
      obtain ⟨h3, h4, h5⟩ := r.live j o2 h2
      refine ⟨h3, h4.keep k h3 (hother _ fun e2 => e (r.inj j id o2 o h2 hl e2)), h5⟩
  · intro i j o1 o2 h1 h2 he
    rw [Hp.get_put] at h1 h2
    split at h1 <;> split at h2
    · omega
    · rename_i e1 _; subst e1; exact r.inj i j o o2 hl h2 he
    · rename_i _ e1; subst e1; exact r.inj i j o1 o h1 hl he
    · exact r.inj i j o1 o2 h1 h2 he
  · intro b hb
    rw [hsize]
    exact r.rob b hb

/-- a block is forgotten -/
theorem drop_step [Glob] {E : En} {H : Hp} {w : World} (r : RelH E H w) (id : Nat) : Stp E H w E (H.drop id) w ∧ RelH E (H.drop id) w := by
  have hg : ∀ j o, (H.drop id).get j = some o → H.get j = some o := by
    intro j o h
    rw [Hp.get_drop] at h
    split at h
    · simp at h
    · exact h
  exact ⟨⟨rfl, fun _ h => h, fun _ _ => rfl, fun _ _ => rfl, fun _ h => h, fun _ h => h, Nat.le_refl _, .inr rfl, fun _ h => .inl h, rfl, rfl, rfl, Nat.le_refl _, fun _ _ _ => rfl, fun j o h _ => ⟨j, o, hg j o h, rfl⟩⟩,
    ⟨r.fresh, r.res, fun j o h => r.live j o (hg j o h), fun i j o1 o2 h1 h2 he => r.inj i j o1 o2 (hg _ _ h1) (hg _ _ h2) he, r.rob, r.glob⟩⟩

/-- a live block is written and goes by a new name, its first cells cut off -/
theorem renew_step [Glob] {E : En} {H : Hp} {w w' : World} (r : RelH E H w) {id : Nat} {o : AObj} (hl : H.get id = some o) (ao : AObj) (off c : Nat)
    (hsize : w'.heap.size = w.heap.size) (hother : ∀ b, b ≠ (E.θ id).1 → w'.heap[b]? = w.heap[b]?) (al : Alike w w')
    (ho : OR (E.ext H.fresh ((E.θ id).1, (E.θ id).2 + off) c) w'.heap H.fresh ao) :
    Stp E H w (E.ext H.fresh ((E.θ id).1, (E.θ id).2 + off) c) ((H.drop id).new ao) w' ∧ RelH (E.ext H.fresh ((E.θ id).1, (E.θ id).2 + off) c) ((H.drop id).new ao) w' := by
  have hdn : (H.drop id).fresh = H.fresh := rfl
  have hf := ext_fresh (drop_step r id).2 ((E.θ id).1, (E.θ id).2 + off) c ao
  rw [hdn] at hf
  have k : Keeps E w.heap (E.ext H.fresh ((E.θ id).1, (E.θ id).2 + off) c) w'.heap :=
    ⟨rfl, fun _ h => .inr h, fun _ h => En.ext_θ E _ _ c (r.undm h), fun _ h => En.ext_κ E _ _ c (r.undm h), fun _ h => h, (keeps_write r hl hother).roh⟩
  have hg : ∀ j o2, ((H.drop id).new ao).get j = some o2 → (j = H.fresh ∧ o2 = ao) ∨ (j ≠ id ∧ H.get j = some o2) := by
    intro j o2 h
    rw [Hp.get_new, hdn] at h
    split at h
    · rename_i e; simp at h; exact .inl ⟨e, h.symm⟩
    · rw [Hp.get_drop] at h
      split at h
      · simp at h
      · rename_i e; exact .inr ⟨e, h⟩
  refine ⟨⟨rfl, k.dm, k.θ, k.κ, k.ro, fun _ h => h, (new_next (H.drop id) ao).1, (new_next (H.drop id) ao).2.1, fun j h => h.elim (fun e => .inr ((new_next (H.drop id) ao).2.2 j e)) .inl, al.os, al.tape, al.output, by omega, ?_, ?_⟩, ⟨hf.1, hf.2, ?_, ?_, ?_, Glob.keep r.glob k.ro k.roh⟩⟩
  · intro b _ hn
    exact hother b fun e => hn id o hl e.symm
  · intro j o2 h2 hlt
    rcases hg j o2 h2 with ⟨rfl, rfl⟩ | ⟨_, h3⟩
    · exact ⟨id, o, hl, by rw [En.ext_θ_new]⟩
    · have := (r.live j o2 h3).1
      exact ⟨j, o2, h3, by rw [En.ext_θ _ _ _ _ (r.undm this)]⟩
  · intro j o2 h2
    rcases hg j o2 h2 with ⟨rfl, rfl⟩ | ⟨hne, h3⟩
    · rw [En.ext_θ_new]
      exact ⟨En.ext_dm_new _ _ _ _, ho, (r.live id o hl).2.2⟩
    · obtain ⟨h4, h5, h6⟩ := r.live j o2 h3
      refine ⟨.inr h4, h5.keep k h4 (hother _ fun e => hne (r.inj j id o2 o h3 hl e)), ?_⟩
      rw [En.ext_θ _ _ _ _ (r.undm h4)]; exact h6
  · intro i j o1 o2 h1 h2 he
    rcases hg i o1 h1 with ⟨e1, _⟩ | ⟨e1, h3⟩ <;> rcases hg j o2 h2 with ⟨e2, _⟩ | ⟨e2, h4⟩
    · omega
    · have := (r.live j o2 h4).1
      rw [e1, En.ext_θ_new, En.ext_θ _ _ _ _ (r.undm this)] at he
      exact absurd (r.inj id j o o2 hl h4 he).symm e2
    · have := (r.live i o1 h3).1
      rw [e2, En.ext_θ_new, En.ext_θ _ _ _ _ (r.undm this)] at he
      exact absurd (r.inj i id o1 o h3 hl he) e1
    · have h5 := (r.live i o1 h3).1
      have h6 := (r.live j o2 h4).1
      rw [En.ext_θ _ _ _ _ (r.undm h5), En.ext_θ _ _ _ _ (r.undm h6)] at he
      exact r.inj i j o1 o2 h3 h4 he
  · intro b hb
    rw [hsize]
    exact r.rob b hb

end Go.As

import Derived.Test.YtppmloolcbpkgaaGreatDoorAsDraw9
/-
  AS, part 26c: regions whose text is not in an order that their edges allow: run in another one.
-/
namespace Go.As
noncomputable section

def renum (pos : Nat → Nat) (o : Oper) : Oper := { o with after := o.after.map (fun e => { e with on := pos e.on }), guard := match o.guard with | none => none | some (j, b) => some (pos j, b) }

def posOf : List Nat → Nat → Nat
  | [], _ => 0
  | x :: xs, i => match Nat.beq x i with
    | true => 0
    | false => posOf xs i + 1

def permL (pos : Nat → Nat) (all : List Oper) : List Nat → List Oper
  | [] => []
  | i :: is => match nth? all i with
    | some o => renum pos o :: permL pos all is
    | none => []

def permOps (ord : List Nat) (all : List Oper) : List Oper := permL (posOf ord) all ord

/-- is it an order of so many? -/
def permOk (ord : List Nat) (n : Nat) : Bool :=
  Nat.beq ord.length n && (List.range n).all (fun i => match nth? ord (posOf ord i) with | some j => Nat.beq i j | none => false) &&
  (List.range n).all (fun j => match nth? ord j with | some i => Nat.blt i n && Nat.beq (posOf ord i) j | none => false)

theorem posOf_le : ∀ (ord : List Nat) (i : Nat), posOf ord i ≤ ord.length
  | [], _ => Nat.le_refl _
  | x :: xs, i => by
    simp only [posOf, List.length_cons]
    split
    · omega
    · have := posOf_le xs i; omega
theorem posOf_get : ∀ (ord : List Nat) (i : Nat), posOf ord i < ord.length → ord[posOf ord i]? = some i
  | [], _, h => by simp [posOf] at h
  | x :: xs, i, h => by
    simp only [posOf, List.length_cons] at h ⊢
    split
    · rename_i he
      simp [Nat.eq_of_beq_eq_true he]
    · rename_i he
      rw [he] at h
      simp only at h
      simpa using posOf_get xs i (by omega)

structure Perm (n : Nat) (ord : List Nat) : Prop where
  len : ord.length = n
  at' : ∀ i, i < n → ord[posOf ord i]? = some i
  back : ∀ j, j < n → ∃ i, ord[j]? = some i ∧ i < n ∧ posOf ord i = j

theorem permOk_ok {ord : List Nat} {n : Nat} (h : permOk ord n = true) : Perm n ord := by
  unfold permOk at h
  simp only [Bool.and_eq_true, List.all_eq_true, List.mem_range] at h
  obtain ⟨⟨h1, h2⟩, h3⟩ := h
  refine ⟨Nat.eq_of_beq_eq_true h1, fun i hi => ?_, fun j hj => ?_⟩
  · have := h2 i hi
    split at this
    · rename_i j hjj
      rw [nth?_eq] at hjj
      rw [hjj, Nat.eq_of_beq_eq_true this]
    · simp at this
  · have := h3 j hj
    split at this
    · rename_i i hii
      rw [nth?_eq] at hii
      simp only [Bool.and_eq_true] at this
      exact ⟨i, hii, by simpa [Nat.blt_eq] using this.1, Nat.eq_of_beq_eq_true this.2⟩
    · simp at this

theorem Perm.lt {n : Nat} {ord : List Nat} (p : Perm n ord) {i : Nat} (hi : i < n) : posOf ord i < n := by
  have := p.at' i hi
  rw [← p.len]
  exact (List.getElem?_eq_some_iff.1 this).1
theorem Perm.ge {n : Nat} {ord : List Nat} (p : Perm n ord) {i : Nat} (hi : ¬ i < n) : posOf ord i = n := by
  have h1 := posOf_le ord i
  rw [p.len] at h1
  rcases Nat.lt_or_ge (posOf ord i) n with h | h
  · have h2 := posOf_get ord i (by rw [p.len]; exact h)
    obtain ⟨k, h3, h4, _⟩ := p.back _ h
    rw [h2] at h3
    simp only [Option.some.injEq] at h3
    omega
  · omega
theorem Perm.inj {n : Nat} {ord : List Nat} (p : Perm n ord) {i j : Nat} (hi : i < n) (hj : j < n) (h : posOf ord i = posOf ord j) : i = j := by
  have h1 := p.at' i hi
  have h2 := p.at' j hj
  rw [h, h2] at h1
  simpa using h1.symm

theorem permL_get {pos : Nat → Nat} {all : List Oper} : ∀ {is : List Nat}, (∀ i ∈ is, i < all.length) → ∀ j : Nat, (permL pos all is)[j]? = (is[j]?).bind fun i => (all[i]?).map (renum pos)
  | [], _, j => by simp [permL]
  | i :: is, h, j => by
    have hi := h i (by simp)
    have ih := permL_get (pos := pos) (is := is) fun k hk => h k (by simp [hk])
    simp only [permL]
    rw [nth?_eq, List.getElem?_eq_getElem hi]
    cases j with
    | zero => simp [List.getElem?_eq_getElem hi]
    | succ j => simpa using ih j

section
variable {P : Program}

theorem permOps_get {ord : List Nat} {ops : Array Oper} (p : Perm ops.size ord) {i : Nat} (hi : i < ops.size) : (permOps ord ops.toList)[posOf ord i]? = (ops[i]?).map (renum (posOf ord)) := by
  unfold permOps
  rw [permL_get (by
    intro k hk
    obtain ⟨j, hj, rfl⟩ := List.getElem_of_mem hk
    obtain ⟨i', h1, h2, _⟩ := p.back j (by rw [← p.len]; exact hj)
    rw [List.getElem?_eq_getElem hj] at h1
    simp only [Option.some.injEq] at h1
    rw [h1]
    simpa using h2), p.at' i hi]
  simp
theorem permOps_len {ord : List Nat} {ops : Array Oper} (p : Perm ops.size ord) : (permOps ord ops.toList).length = ops.size := by
  have h0 : ∀ j, j < ops.size → (permOps ord ops.toList)[j]?.isSome = true := by
    intro j hj
    obtain ⟨i, _, h2, h3⟩ := p.back j hj
    have := permOps_get p h2
    rw [h3] at this
    rw [this]
    simp [h2]
  have hle : (permOps ord ops.toList).length ≤ ops.size := by
    have : ∀ (is : List Nat), (permL (posOf ord) ops.toList is).length ≤ is.length := by
      intro is
      induction is with
      | nil => simp [permL]
      | cons i is ih => simp only [permL]; split <;> simp; omega
    have := this ord
    rw [p.len] at this
    exact this
  rcases Nat.lt_or_ge (permOps ord ops.toList).length ops.size with h | h
  · have := h0 _ h
    rw [List.getElem?_eq_none (Nat.le_refl _)] at this
    simp at this
  · omega

theorem renum_wp (pos : Nat → Nat) (o : Oper) (a : Act) (w : World) (K : Act → World → Prop) (Q : Exit → Act → World → Prop) : (renum pos o).wp P a w K Q = o.wp P a w K Q := rfl
theorem renum_asks (pos : Nat → Nat) (o : Oper) (a : Act) (w : World) : (renum pos o).asks P a w = o.asks P a w := rfl

theorem yielded_perm {ord : List Nat} {ops : Array Oper} (p : Perm ops.size ord) (tmps : Array Value) (j : Nat) : yielded (permOps ord ops.toList).toArray tmps (posOf ord j) = yielded ops tmps j := by
  unfold yielded
  have : ((permOps ord ops.toList).toArray[posOf ord j]?).bind (·.dst) = (ops[j]?).bind (·.dst) := by
    rw [List.getElem?_toArray]
    rcases Nat.lt_or_ge j ops.size with h | h
    · rw [permOps_get p h]
      cases ops[j]? <;> rfl
    · rw [p.ge (by omega), List.getElem?_eq_none (by rw [permOps_len p]; exact Nat.le_refl _), Array.getElem?_eq_none h]
  rw [this]

theorem wanted_perm {ord : List Nat} {ops : Array Oper} (p : Perm ops.size ord) (tmps : Array Value) (o : Oper) :
    Region.wanted (renum (posOf ord) o) (yielded (permOps ord ops.toList).toArray tmps) = Region.wanted o (yielded ops tmps) := by
  unfold Region.wanted renum
  cases hg : o.guard with
  | none => rfl
  | some g =>
    obtain ⟨j, b⟩ := g
    simp only
    rw [yielded_perm p]

theorem ready_mem {md : Region.Mode} {ops : Array Oper} {listed : Array Bool} {i : Nat} : i ∈ Region.ready md ops listed ↔ ∃ o, ops[i]? = some o ∧ listed.getD i true = false ∧ ∀ e ∈ o.after.toList, Region.binds md e = true → listed.getD e.on false = true := by
  unfold Region.ready
  simp only [List.mem_filter, List.mem_range, Bool.and_eq_true, Bool.not_eq_true']
  constructor
  · rintro ⟨h1, h2, h3⟩
    have e := Array.getElem?_eq_getElem h1
    refine ⟨_, e, h2, ?_⟩
    rw [e] at h3
    simp only [Option.map_some, Option.getD_some, Array.all_eq_true_iff_forall_mem] at h3
    intro x hx hb
    have := h3 x (by simpa using hx)
    rw [hb] at this
    simpa using this
  · rintro ⟨o, h1, h2, h3⟩
    have hi : i < ops.size := (Array.getElem?_eq_some_iff.1 h1).1
    refine ⟨hi, h2, ?_⟩
    rw [h1]
    simp only [Option.map_some, Option.getD_some, Array.all_eq_true_iff_forall_mem]
    intro x hx
    cases hb : Region.binds md x with
    | false => rfl
    | true => simpa using h3 x (by simpa using hx) hb

theorem ready_perm {md : Region.Mode} {ord : List Nat} {ops : Array Oper} (p : Perm ops.size ord) {listed listed' : Array Bool} (hz : listed.size = ops.size) (hz' : listed'.size = ops.size) (hl : ∀ i, i < ops.size → listed'[posOf ord i]? = listed[i]?) {i : Nat} (hi : i < ops.size) :
    posOf ord i ∈ Region.ready md (permOps ord ops.toList).toArray listed' ↔ i ∈ Region.ready md ops listed := by
  have hg : ∀ (k : Nat) (d : Bool), listed'.getD (posOf ord k) d = listed.getD k d := by
    intro k d
    simp only [Array.getD_eq_getD_getElem?]
    rcases Nat.lt_or_ge k ops.size with h | h
    · rw [hl k h]
    · rw [p.ge (by omega), Array.getElem?_eq_none (by omega), Array.getElem?_eq_none (by omega)]
  rw [ready_mem, ready_mem, List.getElem?_toArray, permOps_get p hi, hg]
  constructor
  · rintro ⟨o, h1, h2, h3⟩
    rw [Option.map_eq_some_iff] at h1
    obtain ⟨o0, h0, rfl⟩ := h1
    refine ⟨o0, h0, h2, fun e he hb => ?_⟩
    have := h3 { e with on := posOf ord e.on } (by
      simp only [renum, Array.toList_map, List.mem_map]
      exact ⟨e, he, rfl⟩) hb
    rwa [hg] at this
  · rintro ⟨o, h1, h2, h3⟩
    refine ⟨renum (posOf ord) o, by rw [h1]; rfl, h2, fun e he hb => ?_⟩
    simp only [renum, Array.toList_map, List.mem_map] at he
    obtain ⟨e0, he0, rfl⟩ := he
    show listed'.getD (posOf ord e0.on) false = true
    rw [hg]
    exact h3 e0 he0 hb

theorem wpAny_perm {md : Region.Mode} {ord : List Nat} {ops : Array Oper} (p : Perm ops.size ord) {Q : Exit → Act → World → Prop} : ∀ (fuel : Nat) (listed listed' : Array Bool) (a : Act) (w : World), listed.size = ops.size → listed'.size = ops.size →
    (∀ i, i < ops.size → listed'[posOf ord i]? = listed[i]?) → wpAny P md (permOps ord ops.toList).toArray Q fuel listed' a w → wpAny P md ops Q fuel listed a w := by
  have nilF : ∀ (listed listed' : Array Bool), listed.size = ops.size → listed'.size = ops.size → (∀ i, i < ops.size → listed'[posOf ord i]? = listed[i]?) →
      (Region.ready md (permOps ord ops.toList).toArray listed' = [] ↔ Region.ready md ops listed = []) := by
    intro listed listed' hz hz' hl
    constructor
    · intro h
      rw [List.eq_nil_iff_forall_not_mem] at h ⊢
      intro i hm
      have hi : i < ops.size := by
        obtain ⟨o, ho, _⟩ := ready_mem.1 hm
        exact (Array.getElem?_eq_some_iff.1 ho).1
      exact h _ ((ready_perm p hz hz' hl hi).2 hm)
    · intro h
      rw [List.eq_nil_iff_forall_not_mem] at h ⊢
      intro j hm
      have hj : j < ops.size := by
        obtain ⟨o, ho, _⟩ := ready_mem.1 hm
        rw [List.getElem?_toArray] at ho
        rw [← permOps_len p]
        exact (List.getElem?_eq_some_iff.1 ho).1
      obtain ⟨i, _, h2, h3⟩ := p.back j hj
      subst h3
      exact h _ ((ready_perm p hz hz' hl h2).1 hm)
  intro fuel
  induction fuel with
  | zero =>
    intro listed listed' a w hz hz' hl h
    exact ⟨(nilF _ _ hz hz' hl).1 h.1, h.2⟩
  | succ fuel ih =>
    intro listed listed' a w hz hz' hl h
    refine ⟨fun h0 => h.1 ((nilF _ _ hz hz' hl).2 h0), fun i hm => ?_⟩
    have hi : i < ops.size := by
      obtain ⟨o, ho, _⟩ := ready_mem.1 hm
      exact (Array.getElem?_eq_some_iff.1 ho).1
    have hh := h.2 _ ((ready_perm p hz hz' hl hi).2 hm)
    have hstep : ∀ a w, wpAny P md (permOps ord ops.toList).toArray Q fuel (listed'.setIfInBounds (posOf ord i) true) a w → wpAny P md ops Q fuel (listed.setIfInBounds i true) a w := by
      intro a w hw
      refine ih _ _ a w (by simp [hz]) (by simp [hz']) (fun k hk => ?_) hw
      rw [Array.getElem?_setIfInBounds, Array.getElem?_setIfInBounds]
      by_cases hik : i = k
      · subst hik
        rw [if_pos rfl, if_pos rfl, hz, hz', if_pos hi, if_pos (p.lt hi)]
      · rw [if_neg hik, if_neg (fun h => hik (p.inj hi hk h)), hl k hk]
    have h2 := wpOp_mono hstep hh
    unfold wpOp at h2 ⊢
    rw [List.getElem?_toArray, permOps_get p hi] at h2
    cases ho : ops[i]? with
    | none => rw [ho] at h2; exact h2
    | some o =>
      rw [ho] at h2
      simp only [Option.map_some] at h2 ⊢
      rw [wanted_perm p, renum_wp, renum_asks] at h2
      exact h2

structure PHint where
  ord : List Nat
  h : DHint

def drawP (tt : TT) (H : Nat → Nat → Option PHint) (call : Calls?) (g id : Nat) (all : List Oper) (s : St) : T St := match H g id with
  | some p => match p.ord with
    | [] => drawQ tt call all (statOf all p.h) s
    | o :: os => match permOps (o :: os) all with
      | all' => drawQ tt call all' (statOf all' p.h) s
  | none => .fail

def chkP (tt : TT) (H : Nat → Nat → Option PHint) (g id : Nat) (all : List Oper) : Bool := match H g id with
  | some p => match p.ord with
    | [] => hintOk tt all p.h
    | o :: os => permOk (o :: os) all.length && hintOk tt (permOps (o :: os) all) p.h
  | none => true

theorem drawP_ok [Glob] {tt : TT} (htt : TTok P tt) (hm : P.follows .mixedOrders = true) {H : Nat → Nat → Option PHint} {call : Calls?} (hc : CallOk P call) (g : Nat) : DrawOk P (chkP tt H g) (drawP tt H call g) := by
  intro id ops hk E s s' a w Q hd fit h hq
  unfold chkP at hk
  unfold drawP at h
  split at hk
  · rename_i p hp
    rw [hp] at h
    simp only at h
    split at hk
    · rename_i he
      rw [he] at h
      have := hintOk_ok hk
      refine draw_ok htt hm hc id ops E s s' a w Q hd fit ?_ hq
      unfold draw
      rw [this]
      exact h
    · rename_i o os he
      rw [he] at h
      simp only at h
      simp only [Bool.and_eq_true] at hk
      have hp := permOk_ok hk.1
      have hp : Perm ops.size (o :: os) := by simpa using hp
      have := hintOk_ok hk.2
      refine wp_region_any hm ?_
      have hd' : ∀ x ∈ ((permOps (o :: os) ops.toList).toArray).toList, ∀ d, x.dst = some d → d < a.tmps.size := by
        intro x hx d hxd
        obtain ⟨j, hj, rfl⟩ := List.getElem_of_mem hx
        have hj' : j < ops.size := by rw [← permOps_len hp]; exact hj
        obtain ⟨i, _, h2, h3⟩ := hp.back j hj'
        have hg := permOps_get hp h2
        rw [h3] at hg
        have hx2 : (permOps (o :: os) ops.toList)[j]? = some ((permOps (o :: os) ops.toList).toArray.toList[j]) := by
          rw [List.getElem?_eq_getElem hj]
        rw [hx2] at hg
        rw [Array.getElem?_eq_getElem h2] at hg
        simp only [Option.map_some, Option.some.injEq] at hg
        rw [hg] at hxd
        exact hd (ops[i]) (by simp) d hxd
      have key := draw_any (ops := (permOps (o :: os) ops.toList).toArray) htt hc hd' fit (by
        unfold draw
        rw [this]
        exact h) hq
      have hsz : (permOps (o :: os) ops.toList).toArray.size = ops.size := by simpa using permOps_len hp
      rw [hsz] at key
      refine wpAny_perm hp _ _ _ _ _ (by simp) (by simp) (fun i hi => ?_) key
      rw [Array.getElem?_replicate, Array.getElem?_replicate, if_pos hi, if_pos (hp.lt hi)]
  · rename_i hh
    rw [hh] at h
    simp [T.leaf] at h

end
end
end Go.As

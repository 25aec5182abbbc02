import Derived.Test.YtppmloolcbpkgaaGreatDoorAsDraw2
/-
  AS, part 21: the evaluator of a region in any order.
-/
namespace Go.As
noncomputable section

mutual
def sameAV : AV → AV → Bool
  | .bool a, .bool b => decide (a = b)
  | .int k a, .int l b => decide (k = l) && decide (a = b)
  | .str a, .str b => decide (a = b)
  | .ptr i o, .ptr j p => decide (i = j) && decide (o = p)
  | .nilp, .nilp => true
  | .rptr a, .rptr b => sameAVs a b
  | .slice i o l c, .slice j p m d => decide (i = j) && decide (o = p) && decide (l = m) && decide (c = d)
  | .nils, .nils => true
  | .ro a n f, .ro b m g => sameAVs a b && decide (n = m) && decide (f = g)
  | .map i, .map j => decide (i = j)
  | .nilm, .nilm => true
  | .func f a b, .func g c d => decide (f = g) && sameAVs a c && sameAVs b d
  | .nilf, .nilf => true
  | .iface t v, .iface u x => decide (t = u) && sameAV v x
  | .nili, .nili => true
  | .agg a, .agg b => sameAVs a b
  | .tuple a, .tuple b => sameAVs a b
  | .opq i, .opq j => decide (i = j)
  | .inp i a, .inp j b => decide (i = j) && decide (a = b)
  | _, _ => false
def sameAVs : List AV → List AV → Bool
  | [], [] => true
  | x :: xs, y :: ys => sameAV x y && sameAVs xs ys
  | _, _ => false
end

mutual
theorem sameAV_eq : ∀ (x y : AV), sameAV x y = true → x = y
  | .bool a, y, h => by cases y <;> simp [sameAV] at h <;> simp [h]
  | .int k a, y, h => by cases y <;> simp [sameAV] at h <;> simp [h]
  | .str a, y, h => by cases y <;> simp [sameAV] at h <;> simp [h]
  | .ptr i o, y, h => by cases y <;> simp [sameAV] at h <;> simp [h]
  | .nilp, y, h => by cases y <;> simp [sameAV] at h <;> rfl
  | .rptr a, y, h => by cases y <;> simp [sameAV] at h; rw [sameAVs_eq _ _ h]
  | .slice i o l c, y, h => by cases y <;> simp [sameAV] at h <;> simp [h]
  | .nils, y, h => by cases y <;> simp [sameAV] at h <;> rfl
  | .ro a n f, y, h => by cases y <;> simp [sameAV] at h; rw [sameAVs_eq _ _ h.1.1, h.1.2, h.2]
  | .map i, y, h => by cases y <;> simp [sameAV] at h <;> simp [h]
  | .nilm, y, h => by cases y <;> simp [sameAV] at h <;> rfl
  | .func f a b, y, h => by cases y <;> simp [sameAV] at h; rw [h.1.1, sameAVs_eq _ _ h.1.2, sameAVs_eq _ _ h.2]
  | .nilf, y, h => by cases y <;> simp [sameAV] at h <;> rfl
  | .iface t v, y, h => by cases y <;> simp [sameAV] at h; rw [h.1, sameAV_eq _ _ h.2]
  | .nili, y, h => by cases y <;> simp [sameAV] at h <;> rfl
  | .agg a, y, h => by cases y <;> simp [sameAV] at h; rw [sameAVs_eq _ _ h]
  | .tuple a, y, h => by cases y <;> simp [sameAV] at h; rw [sameAVs_eq _ _ h]
  | .opq i, y, h => by cases y <;> simp [sameAV] at h <;> simp [h]
  | .inp i a, y, h => by cases y <;> simp [sameAV] at h <;> simp [h]
theorem sameAVs_eq : ∀ (xs ys : List AV), sameAVs xs ys = true → xs = ys
  | [], ys, h => by cases ys <;> simp [sameAVs] at h; rfl
  | x :: xs, ys, h => by
    cases ys with
    | nil => simp [sameAVs] at h
    | cons y ys => simp [sameAVs] at h; rw [sameAV_eq _ _ h.1, sameAVs_eq _ _ h.2]
end

/-! ### what does not hang on the state -/
def opTmps (o : Op) : List Nat := o.operands.toList.filterMap fun
  | .tmp t => some t
  | _ => none

def reads (all : List Oper) (o : Oper) : List Nat := match o.guard with
  | none => opTmps o.op
  | some (j, _) => match nth? all j with
    | some oj => match oj.dst with
      | some d => d :: opTmps o.op
      | none => opTmps o.op
    | none => opTmps o.op

def kindOf (tt : TT) : Op → Kind
  | .load _ _ => .r
  | .lookup _ _ _ _ => .r
  | .call c => match c.callee with
    | .builtin b => match b with
      | .len => .r
      | .min => .pa
      | .max => .pa
      | _ => .e
    | _ => .e
  | .store _ _ _ => .e
  | .insert _ _ _ _ => .e
  | .mapUpdate _ _ _ _ => .e
  | .next _ _ => .e
  | .range _ _ => .e
  | .convert t _ _ => match tt t with
    | some i => match i.kind with
      | .slice _ => .e
      | _ => .pa
    | none => .e
  | .panic _ => .e
  | _ => .pa

def edgeMask (ms : List Nat) : List Edge → Nat
  | [] => 0
  | e :: es => if Region.binds .any e then ((1 <<< e.on) ||| ms.getD e.on 0) ||| edgeMask ms es else edgeMask ms es

def masksGo : List Oper → List Nat → List Nat
  | [], ms => ms
  | o :: os, ms => masksGo os (ms ++ [edgeMask ms o.after.toList])

structure Item where
  i : Nat
  o : Oper
  m : Nat
  k : Kind
  st : Nat
  rd : List Nat

/-- the operations, each with its number, the mask of those before it, the number of effects ahead of it in the text -/
def items (tt : TT) (all : List Oper) (ms : List Nat) : List Oper → Nat → Nat → List Item
  | [], _, _ => []
  | o :: os, i, n => ⟨i, o, ms.getD i 0, kindOf tt o.op, n, reads all o⟩ :: items tt all ms os (i + 1) (match kindOf tt o.op with | .e => n + 1 | _ => n)

def Kind.isE : Kind → Bool
  | .e => true
  | _ => false
def Kind.isR : Kind → Bool
  | .r => true
  | _ => false

def okItem (ms : List Nat) (is : List Item) (x : Item) : Bool :=
  x.o.after.toList.all (fun e => !Region.binds .any e || decide (e.on < x.i)) &&
  decide (x.m = edgeMask ms x.o.after.toList) &&
  x.rd.all (fun t => is.all fun y => decide (y.o.dst ≠ some t) || x.m.testBit y.i || (!x.k.isR && y.m.testBit x.i)) &&
  is.all (fun y => decide (y.i = x.i) || (match y.o.dst with | some d => decide (x.o.dst ≠ some d) | none => true)) &&
  (!x.k.isE || is.all fun y => !y.k.isE || !decide (y.i < x.i) || x.m.testBit y.i)

/-- at which stages a read may come -/
def stages (is : List Item) (n : Nat) (x : Item) : List Nat :=
  (List.range (n + 1)).filter fun k => is.all fun y => !y.k.isE || ((!x.m.testBit y.i || decide (y.st < k)) && (!y.m.testBit x.i || decide (k ≤ y.st)))

structure Stat where
  is : List Item
  nE : Nat
  rs : List (Item × List Nat)

def countE : List Item → Nat
  | [] => 0
  | x :: xs => match x.k with | .e => countE xs + 1 | _ => countE xs

def stat (tt : TT) (all : List Oper) : Option Stat :=
  let ms := masksGo all []
  let is := items tt all ms all 0 0
  if is.all (okItem ms is) then
    some ⟨is, countE is, (is.filter (·.k.isR)).map fun x => (x, stages is (countE is) x)⟩
  else none

/-! ### the run -/
def only (slots : Tr AV) : List Nat → Tr AV
  | [] => .nil
  | t :: ts => match slots.get t with
    | some v => (only slots ts).put t (some v)
    | none => only slots ts

structure DSt where
  slots : Tr AV
  stg : List (Hp × Nat)
  blks : List (Nat × AObj)
  obs : List (Option AObj)
  vs : List AV

def addBlks (base bm mm : Nat) : List (Nat × AObj) → Hp → Hp
  | [], h => h
  | (a, x) :: r, h => if bm.testBit a && !mm.testBit a then (addBlks base bm mm r h).put (base + a) x else addBlks base bm mm r h

def ev1 (tt : TT) (call : Calls?) (all : List Oper) (o : Oper) (s : St) : T (AV × St) :=
  onGuard all s o fun s b => if b then evOp tt call s o.op else .ret (AV.undef, s)

def slotO (slots : Tr AV) (d : Option Nat) (v : AV) : Tr AV := match d with
  | some t => slots.put t (some v)
  | none => slots

def dStep (tt : TT) (call : Calls?) (all : List Oper) (base N : Nat) (pc : List (SB × Bool)) (x : Item) (d : DSt) : T DSt :=
  match d.stg with
  | [] => .fail
  | (h, mm) :: rest =>
    match x.k with
    | .pa => (ev1 tt call all x.o ⟨only d.slots x.rd, ⟨.nil, N, some (base + x.i)⟩, pc⟩).bind fun (v, s') =>
      if s'.h.next = N then
        .ret ⟨slotO d.slots x.o.dst v, d.stg, match s'.h.get (base + x.i) with | some b => (x.i, b) :: d.blks | none => d.blks, s'.h.get (base + x.i) :: d.obs, v :: d.vs⟩
      else .fail
    | .e => (ev1 tt call all x.o ⟨only d.slots x.rd, addBlks base x.m mm d.blks h, pc⟩).bind fun (v, s') =>
      if s'.h.next ≤ N ∧ s'.h.res = none then
        .ret ⟨slotO d.slots x.o.dst v, (s'.h, mm ||| x.m) :: (h, mm) :: rest, d.blks, none :: d.obs, v :: d.vs⟩
      else .fail
    | .r => (ev1 tt call all x.o ⟨only d.slots x.rd, addBlks base x.m mm d.blks h, pc⟩).bind fun (v, _) =>
      .ret ⟨slotO d.slots x.o.dst v, d.stg, d.blks, none :: d.obs, v :: d.vs⟩

def dRun (tt : TT) (call : Calls?) (all : List Oper) (base N : Nat) (pc : List (SB × Bool)) : List Item → DSt → T DSt
  | [], d => .ret d
  | x :: xs, d => (dStep tt call all base N pc x d).bind (dRun tt call all base N pc xs)

/-- a read gives the same at each of its stages -/
def rStages (tt : TT) (call : Calls?) (all : List Oper) (base : Nat) (pc : List (SB × Bool)) (x : Item) (v : AV) (S : Tr AV) (blks : List (Nat × AObj)) (stg : List (Hp × Nat)) : List Nat → T Unit
  | [] => .ret ()
  | k :: ks => match nth? stg k with
    | some (h, mm) => (ev1 tt call all x.o ⟨S, addBlks base x.m mm blks h, pc⟩).bind fun (u, _) =>
      if sameAV u v then rStages tt call all base pc x v S blks stg ks else .fail
    | none => .fail

def rCheck (tt : TT) (call : Calls?) (all : List Oper) (base : Nat) (pc : List (SB × Bool)) (d : DSt) (stg : List (Hp × Nat)) (vs : List AV) : List (Item × List Nat) → T Unit
  | [] => .ret ()
  | (x, ks) :: r => match nth? vs x.i with
    | some v => (rStages tt call all base pc x v (only d.slots x.rd) d.blks stg ks).bind fun _ => rCheck tt call all base pc d stg vs r
    | none => .fail

def unCheck (base : Nat) (blks : List (Nat × AObj)) (stg : List (Hp × Nat)) : Bool :=
  blks.all fun (a, _) => stg.all fun (h, mm) => mm.testBit a || (h.get (base + a)).isNone

def drawQ (tt : TT) (call : Calls?) (all : List Oper) (q : Stat) (s : St) : T St :=
    match s.h.res with
    | some _ => .fail
    | none =>
    let base := s.h.next
    let n := all.length
    let N := base + n + 1099511627776
    (dRun tt call all base N s.pc q.is ⟨s.slots, [(⟨s.h.m, base + n, none⟩, 0)], [], [], []⟩).bind fun d =>
      match d.stg with
      | [] => .fail
      | (h, mm) :: _ =>
        (rCheck tt call all base s.pc d d.stg.reverse d.vs.reverse q.rs).bind fun _ =>
          if unCheck base d.blks d.stg then .ret { s with slots := d.slots, h := addBlks base ((1 <<< n) - 1) mm d.blks h } else .fail

def draw (tt : TT) (call : Calls?) (all : List Oper) (s : St) : T St :=
  match stat tt all with
  | none => .fail
  | some q => drawQ tt call all q s

end
end Go.As

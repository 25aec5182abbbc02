import GoSem.Claim
import Derived.Orders
import Derived.Scope
import Derived.LoopN
import Derived.Below
import GoSem.Core.View
import GoSem.Core.Layout
import GoSem.Op.Equal
import Derived.WalkKit
import Derived.Lib.Strings
import Derived.Laws.IdiomStrings
import Derived.Laws.RangeString
import Derived.Laws.StructEq
import Derived.Lib.Bytealg
import Derived.Lib.IndexMore
import Derived.Test.YtcmepjpoffiijaaGreatDoorAsZA3
set_option linter.unusedSectionVars false
set_option linter.unusedVariables false
set_option linter.unusedSimpArgs false
section
namespace Go.As
noncomputable section
mutual
def eG : AV → AV → Bool
 | .bool a, .bool b => rF a b
 | .int k a, .int l b => decide (k = l) && fK a b
 | .str a, .str b => decide (a = b)
 | .ptr i o, .ptr j p => decide (i = j) && decide (o = p)
 | .jW, .jW => true
 | .qI a, .qI b => jM a b
 | .slice i o l c, .slice j p m d => decide (i = j) && decide (o = p) && decide (l = m) && decide (c = d)
 | .aP, .aP => true
 | .ro a n f, .ro b m g => jM a b && decide (n = m) && decide (f = g)
 | .map i, .map j => decide (i = j)
 | .oZ, .oZ => true
 | .func f a b, .func g c d => decide (f = g) && jM a c && jM b d
 | .BO, .BO => true
 | .iface t v, .iface u x => decide (t = u) && eG v x
 | .D8, .D8 => true
 | .agg a, .agg b => jM a b
 | .tuple a, .tuple b => jM a b
 | .opq i, .opq j => decide (i = j)
 | .inp i a, .inp j b => decide (i = j) && decide (a = b)
 | .emp, .emp => true
 | .dat a t, .dat b u => fK a b && Nat.beq t u
 | .lJ a, .lJ b => fK a b
 | .uM i n t, .uM j m u => Nat.beq i j && fK n m && Nat.beq t u
 | .nY i a x o, .nY j b y p => Nat.beq i j && Nat.beq a b && fK x y && Nat.beq o p
 | .yX i l n t, .yX j k m u => Nat.beq i j && fK l k && fK n m && Nat.beq t u
 | .any, .any => true
 | .Fv a t, .Fv b u => fK a b && Nat.beq t u
 | _, _ => false
def jM : List AV → List AV → Bool
 | [], [] => true
 | x :: xs, y :: ys => eG x y && jM xs ys
 | _, _ => false
end
mutual
theorem nT : ∀ (x y : AV), eG x y = true → x = y
 | .bool a, y, h => by cases y <;> simp [eG] at h <;> rw [wF _ _ h]
 | .int k a, y, h => by cases y <;> simp [eG] at h <;> rw [h.1, bK _ _ h.2]
 | .str a, y, h => by cases y <;> simp [eG] at h <;> simp [h]
 | .ptr i o, y, h => by cases y <;> simp [eG] at h <;> simp [h]
 | .jW, y, h => by cases y <;> simp [eG] at h <;> rfl
 | .qI a, y, h => by cases y <;> simp [eG] at h; rw [fZ _ _ h]
 | .slice i o l c, y, h => by cases y <;> simp [eG] at h <;> simp [h]
 | .aP, y, h => by cases y <;> simp [eG] at h <;> rfl
 | .ro a n f, y, h => by cases y <;> simp [eG] at h; rw [fZ _ _ h.1.1, h.1.2, h.2]
 | .map i, y, h => by cases y <;> simp [eG] at h <;> simp [h]
 | .oZ, y, h => by cases y <;> simp [eG] at h <;> rfl
 | .func f a b, y, h => by cases y <;> simp [eG] at h; rw [h.1.1, fZ _ _ h.1.2, fZ _ _ h.2]
 | .BO, y, h => by cases y <;> simp [eG] at h <;> rfl
 | .iface t v, y, h => by cases y <;> simp [eG] at h; rw [h.1, nT _ _ h.2]
 | .D8, y, h => by cases y <;> simp [eG] at h <;> rfl
 | .agg a, y, h => by cases y <;> simp [eG] at h; rw [fZ _ _ h]
 | .tuple a, y, h => by cases y <;> simp [eG] at h; rw [fZ _ _ h]
 | .opq i, y, h => by cases y <;> simp [eG] at h <;> simp [h]
 | .inp i a, y, h => by cases y <;> simp [eG] at h <;> simp [h]
 | .emp, y, h => by cases y <;> simp [eG] at h <;> rfl
 | .dat a t, y, h => by cases y <;> simp [eG] at h <;> rw [h.2, bK _ _ h.1]
 | .lJ a, y, h => by cases y <;> simp [eG] at h <;> rw [bK _ _ h]
 | .uM i n t, y, h => by cases y <;> simp [eG] at h <;> rw [h.1.1, bK _ _ h.1.2, h.2]
 | .nY i a x o, y, h => by cases y <;> simp [eG] at h <;> rw [h.1.1.1, h.1.1.2, bK _ _ h.1.2, h.2]
 | .yX i l n t, y, h => by cases y <;> simp [eG] at h <;> rw [h.1.1.1, bK _ _ h.1.1.2, bK _ _ h.1.2, h.2]
 | .any, y, h => by cases y <;> simp [eG] at h <;> rfl
 | .Fv a t, y, h => by cases y <;> simp [eG] at h <;> rw [h.2, bK _ _ h.1]
theorem fZ : ∀ (xs ys : List AV), jM xs ys = true → xs = ys
 | [], ys, h => by cases ys <;> simp [jM] at h; rfl
 | x :: xs, ys, h => by
   cases ys with
   | nil => simp [jM] at h
   | cons y ys => simp [jM] at h; rw [nT _ _ h.1, fZ _ _ h.2]
end
def JE (o : Op) : List Nat := o.operands.toList.filterMap fun
 | .tmp t => some t
 | _ => none
def reads (all : List Oper) (o : Oper) : List Nat := match o.guard with
 | none => JE o.op
 | some (j, _) => match gG all j with
   | some oj => match oj.dst with
     | some d => d :: JE o.op
     | none => JE o.op
   | none => JE o.op
def kindOf (tt : TT) : Op → Kind
 | .load _ _ => .r
 | .lookup _ _ _ _ => .r
 | .call c => match c.callee with
   | .builtin b => match b with
     | .len => .r
     | .min => .pa
     | .max => .pa
     | _ => .e
   | _ => .e
 | .store _ _ _ => .e
 | .insert _ _ _ _ => .e
 | .mapUpdate _ _ _ _ => .e
 | .next _ _ => .e
 | .range _ _ => .e
 | .convert t u _ => match tt t with
   | some i => match i.kind with
     | .slice _ => match tt u with
       | some j => match j.kind with
         | .string => .r
         | _ => .e
       | none => .e
     | _ => .pa
   | none => .e
 | .panic _ => .e
 | _ => .pa
def qV (ms : List Nat) : List Edge → Nat
 | [] => 0
 | e :: es => if Region.binds .any e then ((1 <<< e.on) ||| ms.getD e.on 0) ||| qV ms es else qV ms es
def uV : List Oper → List Nat → List Nat
 | [], ms => ms
 | o :: os, ms => uV os (ms ++ [qV ms o.after.toList])
structure Item where
 i : Nat
 o : Oper
 m : Nat
 k : Kind
 st : Nat
 rd : List Nat
def items (tt : TT) (all : List Oper) (ms : List Nat) : List Oper → Nat → Nat → List Item
 | [], _, _ => []
 | o :: os, i, n => ⟨i, o, ms.getD i 0, kindOf tt o.op, n, reads all o⟩ :: items tt all ms os (i + 1) (match kindOf tt o.op with | .e => n + 1 | _ => n)
def Kind.isE : Kind → Bool
 | .e => true
 | _ => false
def Kind.VW : Kind → Bool
 | .r => true
 | _ => false
def Df (ms : List Nat) (is : List Item) (x : Item) : Bool :=
 x.o.after.toList.all (fun e => !Region.binds .any e || decide (e.on < x.i)) &&
 decide (x.m = qV ms x.o.after.toList) &&
 x.rd.all (fun t => is.all fun y => decide (y.o.dst ≠ some t) || x.m.testBit y.i || (!x.k.VW && y.m.testBit x.i)) &&
 is.all (fun y => decide (y.i = x.i) || (match y.o.dst with | some d => decide (x.o.dst ≠ some d) | none => true)) &&
 (!x.k.isE || is.all fun y => !y.k.isE || !decide (y.i < x.i) || x.m.testBit y.i)
def stages (is : List Item) (n : Nat) (x : Item) : List Nat :=
 (List.range (n + 1)).filter fun k => is.all fun y => !y.k.isE || ((!x.m.testBit y.i || decide (y.st < k)) && (!y.m.testBit x.i || decide (k ≤ y.st)))
structure Stat where
 is : List Item
 nE : Nat
 rs : List (Item × List Nat)
def lK : List Item → Nat
 | [] => 0
 | x :: xs => match x.k with | .e => lK xs + 1 | _ => lK xs
def stat (tt : TT) (all : List Oper) : Option Stat :=
 let ms := uV all []
 let is := items tt all ms all 0 0
 if is.all (Df ms is) then
  some ⟨is, lK is, (is.filter (·.k.VW)).map fun x => (x, stages is (lK is) x)⟩
 else none
def only (slots : Tr AV) : List Nat → Tr AV
 | [] => .nil
 | t :: ts => match slots.get t with
   | some v => (only slots ts).put t (some v)
   | none => only slots ts
structure Xd where
 slots : Tr AV
 nS : List (Hp × Nat)
 blks : List (Nat × dP)
 obs : List (Option dP)
 vs : List AV
def fP (base bm mm : Nat) : List (Nat × dP) → Hp → Hp
 | [], h => h
 | (a, x) :: r, h => if bm.testBit a && !mm.testBit a then (fP base bm mm r h).put (base + a) x else fP base bm mm r h
def ev1 (tt : TT) (call : dM) (all : List Oper) (o : Oper) (s : St) : T (AV × St) :=
 Bf all s o fun s b => if b then QK tt call s o.op else .ret (AV.undef, s)
def zF (slots : Tr AV) (d : Option Nat) (v : AV) : Tr AV := match d with
 | some t => slots.put t (some v)
 | none => slots
def agR (tt : TT) (call : dM) (all : List Oper) (base N : Nat) (pc : List (SB × Bool)) (x : Item) (d : Xd) : T Xd :=
 match d.nS with
 | [] => .fail
 | (h, mm) :: rest =>
   match x.k with
   | .pa => (ev1 tt call all x.o ⟨only d.slots x.rd, ⟨.nil, N, some (base + x.i)⟩, pc⟩).bind fun (v, s') =>
     if s'.h.next = N then
      .ret ⟨zF d.slots x.o.dst v, d.nS, match s'.h.get (base + x.i) with | some b => (x.i, b) :: d.blks | none => d.blks, s'.h.get (base + x.i) :: d.obs, v :: d.vs⟩
     else .fail
   | .e => (ev1 tt call all x.o ⟨only d.slots x.rd, fP base x.m mm d.blks h, pc⟩).bind fun (v, s') =>
     if s'.h.next ≤ N ∧ s'.h.res = none then
      .ret ⟨zF d.slots x.o.dst v, (s'.h, mm ||| x.m) :: (h, mm) :: rest, d.blks, none :: d.obs, v :: d.vs⟩
     else .fail
   | .r => (ev1 tt call all x.o ⟨only d.slots x.rd, fP base x.m mm d.blks h, pc⟩).bind fun (v, _) =>
     .ret ⟨zF d.slots x.o.dst v, d.nS, d.blks, none :: d.obs, v :: d.vs⟩
def T.Fa {α β : Type} (pc : List (SB × Bool)) (f : List (SB × Bool) → α → T β) : T α → T β
 | .fail => .fail
 | .ret a => f pc a
 | .split c x y => match jF pc c with
   | some true => T.Fa pc f x
   | some false => T.Fa pc f y
   | none => .split c (T.Fa ((c, true) :: pc) f x) (T.Fa ((c, false) :: pc) f y)
def ZJ (tt : TT) (call : dM) (all : List Oper) (base N : Nat) : List Item → List (SB × Bool) → Xd → T (List (SB × Bool) × Xd)
 | [], pc, d => .ret (pc, d)
 | x :: xs, pc, d => (agR tt call all base N pc x d).Fa pc (ZJ tt call all base N xs)
def IB (tt : TT) (call : dM) (all : List Oper) (base : Nat) (pc : List (SB × Bool)) (x : Item) (v : AV) (S : Tr AV) (blks : List (Nat × dP)) (nS : List (Hp × Nat)) : List Nat → T Unit
 | [] => .ret ()
 | k :: ks => match gG nS k with
   | some (h, mm) => (ev1 tt call all x.o ⟨S, fP base x.m mm blks h, pc⟩).bind fun (u, _) =>
     if eG u v then IB tt call all base pc x v S blks nS ks else .fail
   | none => .fail
def Pm (tt : TT) (call : dM) (all : List Oper) (base : Nat) (d : Xd) (nS : List (Hp × Nat)) (vs : List AV) : List (Item × List Nat) → List (SB × Bool) → T (List (SB × Bool))
 | [], pc => .ret pc
 | (x, ks) :: r, pc => match gG vs x.i with
   | some v => (IB tt call all base pc x v (only d.slots x.rd) d.blks nS ks).Fa pc fun pc _ => Pm tt call all base d nS vs r pc
   | none => .fail
def OO (base : Nat) (blks : List (Nat × dP)) (nS : List (Hp × Nat)) : Bool :=
 blks.all fun (a, _) => nS.all fun (h, mm) => mm.testBit a || (h.get (base + a)).isNone
def Ht (tt : TT) (call : dM) (all : List Oper) (q : Stat) (s : St) : T St :=
 match s.h.res with
 | some _ => .fail
 | none =>
 let base := s.h.next
 let n := all.length
 let N := base + n + 1099511627776
 (ZJ tt call all base N q.is s.pc ⟨s.slots, [(⟨s.h.m, base + n, none⟩, 0)], [], [], []⟩).bind fun (pc, d) =>
  match d.nS with
  | [] => .fail
  | (h, mm) :: _ =>
    (Pm tt call all base d d.nS.reverse d.vs.reverse q.rs pc).bind fun pc =>
     if OO base d.blks d.nS then .ret ⟨d.slots, fP base ((1 <<< n) - 1) mm d.blks h, pc⟩ else .fail
def draw (tt : TT) (call : dM) (all : List Oper) (s : St) : T St :=
 match stat tt all with
 | none => .fail
 | some q => Ht tt call all q s
end
end Go.As
end
section
namespace Go.As
section
variable {P : Program}
theorem QZ [Glob] {tt : TT} (htt : dW P tt) {call : dM} (hc : jE P call) {ops : Array Oper} {o : Oper} {s s' : St} {v : AV} {ρ : Nat → Int} (hp : aZ ρ s.pc) (h : (ev1 tt call ops.toList o s).leaf ρ = some (v, s')) :
 LX P ρ ops o s.slots s.h v s'.h := by
 intro E a w hρ r sr
 subst hρ
 unfold ev1 at h
 obtain ⟨pc', hp', h1⟩ := JF ⟨r, sr, hp⟩ h
 cases hw : Region.wanted o (yielded ops a.tmps) <;> rw [hw] at h1
 ·simp only [Bool.false_eq_true, if_false] at h1
  have := aF h1
  simp only [Prod.mk.injEq] at this
  obtain ⟨rfl, rfl⟩ := this
  exact .inl ⟨rfl, rfl, rfl⟩
 ·simp only [if_true] at h1
  obtain ⟨_, _, q3⟩ := Yf htt hc (s := { s with pc := pc' }) (o := o) r sr hp' h1
  exact .inr ⟨rfl, q3⟩
theorem oL {α : Type} {ρ : Nat → Int} {s : St} {c : SB} {f : St → Bool → T α} {r : α} (h : (oV s c f).leaf ρ = some r) : ∃ pc' b, (f { s with pc := pc' } b).leaf ρ = some r := by
 unfold oV at h
 split at h
 ·rename_i b _; exact ⟨s.pc, b, h⟩
 ·split at h <;> simp only [T.leaf] at h <;> split at h <;> exact ⟨_, _, h⟩
theorem Pz {α : Type} {ρ : Nat → Int} {s : St} {all : List Oper} {o : Oper} {f : St → Bool → T α} {r : α} (h : (Bf all s o f).leaf ρ = some r) : ∃ pc' b, (f { s with pc := pc' } b).leaf ρ = some r := by
 unfold Bf at h
 split at h
 ·exact ⟨s.pc, true, h⟩
 ·split at h
  ·split at h
   ·split at h
    ·obtain ⟨pc', b, h1⟩ := oL h; exact ⟨pc', _, h1⟩
    ·exact ⟨s.pc, _, h⟩
    ·simp [T.leaf] at h
   ·simp [T.leaf] at h
  ·simp [T.leaf] at h
theorem JG {ρ : Nat → Int} {s : St} {x : Operand} {f : AV → T (AV × St)} {r : AV × St} (h : (Fj s x f).leaf ρ = some r) : ∃ v, (f v).leaf ρ = some r := by
 unfold Fj at h
 split at h
 ·exact ⟨_, h⟩
 ·simp [T.leaf] at h
theorem Ba {ρ : Nat → Int} {s s' : St} {x : Option AV} {v : AV} (h : (wK s x).leaf ρ = some (v, s')) : s' = s := by
 unfold wK at h
 split at h
 ·have := aF h
  simp only [Prod.mk.injEq] at this
  exact this.2.symm
 ·simp [T.leaf] at h
theorem aqI {tt : TT} {op : Op} (h : kindOf tt op = .r) : (∃ t x, op = .load t x) ∨ (∃ t x i ok, op = .lookup t x i ok) ∨ (∃ c : Call, op = .call c ∧ c.callee = .builtin .len) ∨ ∃ t u x i j e, op = .convert t u x ∧ tt t = some i ∧ i.kind = .slice e ∧ tt u = some j ∧ j.kind = .string := by
 unfold kindOf at h
 split at h <;> try (simp at h; done)
 ·exact .inl ⟨_, _, rfl⟩
 ·exact .inr (.inl ⟨_, _, _, _, rfl⟩)
 ·rename_i c
  split at h
  ·rename_i b hb
   split at h <;> simp at h
   exact .inr (.inr (.inl ⟨c, rfl, hb⟩))
  ·simp at h
 ·split at h
  ·rename_i i hi
   split at h
   ·rename_i e he
    split at h
    ·rename_i j hj
     split at h
     ·rename_i hs
      exact .inr (.inr (.inr ⟨_, _, _, i, j, e, rfl, hi, he, hj, hs⟩))
     ·simp at h
    ·simp at h
   ·simp at h
  ·simp at h
theorem NH {α : Type} {ρ : Nat → Int} {s : St} {i n : SE} {f : St → T α} {r : α} (h : (D5 s i n f).leaf ρ = some r) : ∃ pc', (f { s with pc := pc' }).leaf ρ = some r := by
 unfold D5 at h
 obtain ⟨pc1, b1, h1⟩ := oL h
 split at h1
 ·simp [T.leaf] at h1
 ·obtain ⟨pc2, b2, h2⟩ := oL h1
  split at h2
  ·exact ⟨pc2, h2⟩
  ·simp [T.leaf] at h2
theorem yL {α : Type} {ρ : Nat → Int} {kk : TK} {k : AV} {r : α} {f : St → T α} : ∀ {es : List (AV × AV × Nat)} {s : St}, (yM kk k es s f).leaf ρ = some r → ∃ pc', (f { s with pc := pc' }).leaf ρ = some r
 | [], s, h => ⟨s.pc, h⟩
 | (k', v, b) :: es, s, h => by
   simp only [yM] at h
   split at h
   ·split at h
    ·exact ⟨s.pc, h⟩
    ·exact yL h
   ·split at h
    ·obtain ⟨pc1, b1, h1⟩ := oL h
     split at h1
     ·exact ⟨pc1, h1⟩
     ·obtain ⟨pc2, h2⟩ := yL h1
      exact ⟨pc2, h2⟩
    ·exact ⟨s.pc, h⟩
theorem LY {α : Type} {ρ : Nat → Int} {tt : TT} {t : Nat} {m k : AV} {r : α} {f : St → T α} {s : St} (h : (qF tt t m k s f).leaf ρ = some r) : ∃ pc', (f { s with pc := pc' }).leaf ρ = some r := by
 unfold qF at h
 split at h
 ·split at h
  ·split at h
   ·split at h
    ·exact yL h
    ·exact ⟨s.pc, h⟩
   ·exact ⟨s.pc, h⟩
  ·exact ⟨s.pc, h⟩
 ·exact ⟨s.pc, h⟩
theorem alP {s s' : St} {cs : List AV} {e : SE} {v : AV} {ρ : Nat → Int} (h : (Og s cs e).leaf ρ = some (v, s')) : s'.h = s.h := by
 unfold Og at h
 split at h
 ·simp [T.leaf] at h
 ·split at h
  ·simp [T.leaf] at h
  ·obtain ⟨pc', h1⟩ := NH h
   have := aF h1
   simp only [Prod.mk.injEq] at this
   rw [← this.2]
theorem ZC {tt : TT} {s s' : St} {ty t : Nat} {k : AV} {ok : Bool} {e : SE} {v : AV} {ρ : Nat → Int} (h : (EI tt ty k ok e t s).leaf ρ = some (v, s')) : s'.h = s.h := by
 unfold EI at h
 split at h
 ·simp [T.leaf] at h
 ·split at h
  ·simp [T.leaf] at h
  ·obtain ⟨pc', b, h1⟩ := oL h
   split at h1 <;>
   ·have := aF h1
    simp only [Prod.mk.injEq] at this
    rw [← this.2]
theorem GN {α : Type} {ρ : Nat → Int} {i : SE} {r : α} : ∀ {ov : List (SE × List AV)} {s : St} {k : St → T α}, (zB i ov s k).leaf ρ = some r → ∃ pc', (k { s with pc := pc' }).leaf ρ = some r
 | [], s, k, h => ⟨s.pc, h⟩
 | (j, c) :: l, s, k, h => by
   simp only [zB] at h
   split at h
   ·exact ⟨s.pc, h⟩
   ·obtain ⟨pc1, b1, h1⟩ := oL h
    split at h1
    ·exact ⟨pc1, h1⟩
    ·obtain ⟨pc2, h2⟩ := GN h1
     exact ⟨pc2, h2⟩
theorem ZE {tt : TT} {s s' : St} {ty id es off : Nat} {i : SE} {v : AV} {ρ : Nat → Int} (h : (EJ tt s ty id es i off).leaf ρ = some (v, s')) : s'.h = s.h := by
 unfold EJ at h
 split at h
 ·split at h
  ·split at h
   ·split at h
    ·simp [T.leaf] at h
    ·exact alP h
   ·simp [T.leaf] at h
  ·split at h
   ·split at h
    ·obtain ⟨pc', h1⟩ := NH h
     obtain ⟨pc2, h1⟩ := GN h1
     split at h1
     ·split at h1
      ·rw [Ba h1]
      ·simp [T.leaf] at h1
     ·simp [T.leaf] at h1
    ·simp [T.leaf] at h
   ·simp [T.leaf] at h
  ·simp [T.leaf] at h
 ·simp [T.leaf] at h
theorem atA {tt : TT} {call : dM} {op : Op} {s s' : St} {v : AV} {ρ : Nat → Int} (hk : kindOf tt op = .r) (h : (QK tt call s op).leaf ρ = some (v, s')) : s'.h = s.h := by
 rcases aqI hk with ⟨t, x, rfl⟩ | ⟨t, x, i, ok, rfl⟩ | ⟨c, rfl, hc⟩ | ⟨t, u, x, i, j, e, rfl, hi, he, hj, hs⟩
 ·simp only [QK] at h
  obtain ⟨p, h1⟩ := JG h
  split at h1
  ·exact ZE h1
  ·rw [Ba h1]
 ·simp only [QK] at h
  obtain ⟨p, h1⟩ := JG h
  split at h1
  ·split at h1
   ·exact ZC h1
   obtain ⟨pc', h1⟩ := LY h1
   rw [Ba h1]
  ·simp [T.leaf] at h1
 ·simp only [QK, QU] at h
  split at h
  ·simp [T.leaf] at h
  ·rw [hc] at h
   simp only [BD] at h
   split at h
   all_goals first
    | (rw [Ba h]; done)
    | (simp [T.leaf] at h; done)
    | (rename_i e _ _; simp at e; done)
    | skip
   all_goals simp_all
 ·simp only [QK] at h
  obtain ⟨p, h1⟩ := JG h
  split at h1
  ·unfold IZ at h1
   rw [hi] at h1
   simp only [he] at h1
   simp [T.leaf] at h1
  obtain ⟨H, e1, rfl⟩ := tJ h1
  unfold sJ at e1
  rw [hi, hj] at e1
  simp only [hs, he] at e1
  split at e1
  ·simp at e1
  ·split at e1
   ·split at e1
    ·simp only [Option.some.injEq, Prod.mk.injEq] at e1
     exact e1.2.symm
    ·split at e1
     ·rw [Option.map_eq_some_iff] at e1
      obtain ⟨l, _, e2⟩ := e1
      simp only [Prod.mk.injEq] at e2
      exact e2.2.symm
     ·simp at e1
    ·simp at e1
   ·simp at e1
theorem ayI {tt : TT} {call : dM} {all : List Oper} {o : Oper} {s s' : St} {v : AV} {ρ : Nat → Int} (hk : kindOf tt o.op = .r) (h : (ev1 tt call all o s).leaf ρ = some (v, s')) : s'.h = s.h := by
 unfold ev1 at h
 obtain ⟨pc', b, h1⟩ := Pz h
 cases b
 ·simp only [Bool.false_eq_true, if_false] at h1
  have := aF h1
  simp only [Prod.mk.injEq] at this
  rw [← this.2]
 ·simp only [if_true] at h1
  exact atA (s := { s with pc := pc' }) hk h1
theorem rC {base bm mm : Nat} : ∀ {l : List (Nat × dP)} {h : Hp} {id : Nat} {x : dP}, (fP base bm mm l h).get id = some x → h.get id = some x ∨ ∃ a, (a, x) ∈ l ∧ bm.testBit a = true ∧ mm.testBit a = false ∧ id = base + a
 | [], h, id, x, hh => .inl hh
 | (a, y) :: r, h, id, x, hh => by
   simp only [fP] at hh
   split at hh
   ·rename_i hb
    rw [Hp.get_put] at hh
    split at hh
    ·rename_i e
     simp at hh
     subst hh
     simp at hb
     exact .inr ⟨a, by simp, hb.1, hb.2, e⟩
    ·rcases rC hh with h1 | ⟨b, h1, h2⟩
     ·exact .inl h1
     ·exact .inr ⟨b, by simp [h1], h2⟩
   ·rcases rC hh with h1 | ⟨b, h1, h2⟩
    ·exact .inl h1
    ·exact .inr ⟨b, by simp [h1], h2⟩
theorem kY {base bm mm : Nat} : ∀ (l : List (Nat × dP)) (h : Hp), (fP base bm mm l h).next = h.next ∧ (fP base bm mm l h).res = h.res
 | [], h => ⟨rfl, rfl⟩
 | (a, y) :: r, h => by
   have := kY (base := base) (bm := bm) (mm := mm) r h
   simp only [fP]
   split
   ·exact this
   ·exact this
theorem DZ {slots : Tr AV} : ∀ {ts : List Nat} {t : Nat} {x : AV}, (only slots ts).get t = some x → t ∈ ts ∧ slots.get t = some x
 | [], t, x, h => by simp [only, Tr.get] at h
 | u :: us, t, x, h => by
   simp only [only] at h
   split at h
   ·rename_i v hv
    rw [Tr.get_put] at h
    split at h
    ·rename_i e
     subst e
     exact ⟨by simp, by rw [hv]; exact h⟩
    ·have := DZ h
     exact ⟨by simp [this.1], this.2⟩
   ·have := DZ h
    exact ⟨by simp [this.1], this.2⟩
theorem VF {s s' : Tr AV} : ∀ {ts : List Nat}, (∀ t ∈ ts, s.get t = s'.get t) → only s ts = only s' ts
 | [], _ => rfl
 | u :: us, h => by
   simp only [only]
   rw [h u (by simp), VF fun t ht => h t (by simp [ht])]
theorem AY {slots : Tr AV} {d : Option Nat} {v : AV} {t : Nat} : (zF slots d v).get t = if d = some t then some v else slots.get t := by
 cases d with
 | none => simp [zF]
 | some u =>
   simp only [zF, Tr.get_put, Option.some.injEq]
   by_cases h : t = u
   ·subst h; simp
   ·rw [if_neg h, if_neg (fun e => h e.symm)]
theorem rZ {ms : List Nat} {i : Nat} : ∀ {es : List Edge}, (qV ms es).testBit i = true → ∃ e ∈ es, Region.binds .any e = true ∧ (e.on = i ∨ (ms.getD e.on 0).testBit i = true)
 | [], h => by simp [qV] at h
 | e :: es, h => by
   simp only [qV] at h
   split at h
   ·rename_i hb
    simp only [Nat.testBit_or, Bool.or_eq_true] at h
    rcases h with (h | h) | h
    ·rw [Nat.shiftLeft_eq, Nat.one_mul, Nat.testBit_two_pow] at h
     exact ⟨e, by simp, hb, .inl (by simpa using h)⟩
    ·exact ⟨e, by simp, hb, .inr h⟩
    ·obtain ⟨e', h1, h2⟩ := rZ h
     exact ⟨e', by simp [h1], h2⟩
   ·obtain ⟨e', h1, h2⟩ := rZ h
    exact ⟨e', by simp [h1], h2⟩
def kX (tt : TT) : List Oper → Nat
 | [] => 0
 | o :: os => (match kindOf tt o.op with | .e => 1 | _ => 0) + kX tt os
theorem lH {tt : TT} {all : List Oper} {ms : List Nat} : ∀ (os : List Oper) (i n j : Nat), (items tt all ms os i n)[j]? = (os[j]?).map fun o => ⟨i + j, o, ms.getD (i + j) 0, kindOf tt o.op, n + kX tt (os.take j), reads all o⟩
 | [], i, n, j => by simp [items]
 | o :: os, i, n, j => by
   simp only [items]
   cases j with
   | zero => simp [kX]
   | succ j =>
     rw [List.getElem?_cons_succ, lH os]
     simp only [List.getElem?_cons_succ, List.take_succ_cons, kX]
     congr 1
     funext o'
     have : i + 1 + j = i + (j + 1) := by omega
     rw [this]
     congr 1
     cases kindOf tt o.op <;> simp <;> omega
theorem xQ {tt : TT} {all : List Oper} {ms : List Nat} : ∀ (os : List Oper) (i n : Nat), (items tt all ms os i n).length = os.length
 | [], i, n => rfl
 | o :: os, i, n => by simp [items, xQ os]
theorem oP {tt : TT} {all : List Oper} {ms : List Nat} : ∀ (os : List Oper) (i n : Nat), lK (items tt all ms os i n) = kX tt os
 | [], i, n => rfl
 | o :: os, i, n => by
   simp only [items, lK, kX, oP os]
   cases kindOf tt o.op <;> simp <;> omega
end
end Go.As
end
section
namespace Go.As
section
variable {P : Program}
def LQ [Glob] (P : Program) (ρ : Nat → Int) (ops : Array Oper) (base N : Nat) (x : Item) (d : Xd) (v : AV) (ob : Option dP) (d1 : Xd) : Prop :=
 ∃ h mm rest, d.nS = (h, mm) :: rest ∧ match x.k with
  | .pa => d1.nS = d.nS ∧ ∃ HA, LX P ρ ops x.o (only d.slots x.rd) ⟨.nil, N, some (base + x.i)⟩ v HA ∧ HA.next = N ∧ ob = HA.get (base + x.i)
  | .e => ob = none ∧ ∃ hn, d1.nS = (hn, mm ||| x.m) :: d.nS ∧ hn.next ≤ N ∧ hn.res = none ∧ LX P ρ ops x.o (only d.slots x.rd) (fP base x.m mm d.blks h) v hn
  | .r => ob = none ∧ d1.nS = d.nS
theorem agQ [Glob] {tt : TT} (htt : dW P tt) {call : dM} (hc : jE P call) {ops : Array Oper} {base N : Nat} {pc : List (SB × Bool)} {ρ : Nat → Int} (hp : aZ ρ pc) {x : Item} {d d1 : Xd} (h : (agR tt call ops.toList base N pc x d).leaf ρ = some d1) :
 ∃ v ob, d1.slots = zF d.slots x.o.dst v ∧ d1.vs = v :: d.vs ∧ d1.obs = ob :: d.obs ∧ d1.blks = (match ob with | some b => (x.i, b) :: d.blks | none => d.blks) ∧ LQ P ρ ops base N x d v ob d1 := by
 unfold agR at h
 split at h
 ·simp [T.leaf] at h
 ·rename_i h0 mm rest hs
  split at h
  ·rename_i hk
   obtain ⟨⟨v, s'⟩, h1, h2⟩ := T.fB h
   have ha := QZ htt hc (s := ⟨only d.slots x.rd, ⟨.nil, N, some (base + x.i)⟩, pc⟩) hp h1
   simp only at h2
   split at h2
   ·rename_i hn
    have := aF h2
    subst this
    refine ⟨v, s'.h.get (base + x.i), rfl, rfl, rfl, ?_, h0, mm, rest, hs, ?_⟩
    ·cases s'.h.get (base + x.i) <;> rfl
    ·rw [hk]
     exact ⟨rfl, s'.h, ha, hn, rfl⟩
   ·simp [T.leaf] at h2
  ·rename_i hk
   obtain ⟨⟨v, s'⟩, h1, h2⟩ := T.fB h
   have ha := QZ htt hc (s := ⟨only d.slots x.rd, fP base x.m mm d.blks h0, pc⟩) hp h1
   simp only at h2
   split at h2
   ·rename_i hn
    have := aF h2
    subst this
    refine ⟨v, none, rfl, rfl, rfl, rfl, h0, mm, rest, hs, ?_⟩
    rw [hk]
    exact ⟨rfl, s'.h, by rw [hs], hn.1, hn.2, ha⟩
   ·simp [T.leaf] at h2
  ·rename_i hk
   obtain ⟨⟨v, s'⟩, h1, h2⟩ := T.fB h
   have := aF h2
   subst this
   refine ⟨v, none, rfl, rfl, rfl, rfl, h0, mm, rest, hs, ?_⟩
   rw [hk]
   exact ⟨rfl, rfl⟩
theorem LQ.nS [Glob] {ρ : Nat → Int} {ops : Array Oper} {base N : Nat} {x : Item} {d d1 : Xd} {v : AV} {ob : Option dP} (h : LQ P ρ ops base N x d v ob d1) : ∃ pre, d1.nS = pre ++ d.nS ∧ pre.length = lK [x] := by
 obtain ⟨h0, mm, rest, hs, h1⟩ := h
 cases hk : x.k <;> rw [hk] at h1
 ·exact ⟨[], by rw [h1.1]; rfl, by simp [lK, hk]⟩
 ·obtain ⟨_, hn, h2, _⟩ := h1
  exact ⟨[(hn, mm ||| x.m)], by rw [h2]; rfl, by simp [lK, hk]⟩
 ·exact ⟨[], by rw [h1.2]; rfl, by simp [lK, hk]⟩
theorem LQ.nxt [Glob] {ρ : Nat → Int} {ops : Array Oper} {base N : Nat} {x : Item} {d d1 : Xd} {v : AV} {ob : Option dP} (h : LQ P ρ ops base N x d v ob d1) (hh : ∀ q ∈ d.nS, q.1.next ≤ N ∧ q.1.res = none) : ∀ q ∈ d1.nS, q.1.next ≤ N ∧ q.1.res = none := by
 obtain ⟨h0, mm, rest, hs, h1⟩ := h
 cases hk : x.k <;> rw [hk] at h1
 ·rw [h1.1]; exact hh
 ·obtain ⟨_, hn, h2, h3, h4, _⟩ := h1
  rw [h2]
  intro q hq
  rcases List.mem_cons.1 hq with rfl | hq
  ·exact ⟨h3, h4⟩
  ·exact hh q hq
 ·rw [h1.2]; exact hh
structure ayY [Glob] (P : Program) (ρ : Nat → Int) (ops : Array Oper) (base N : Nat) (xs : List Item) (d d' : Xd) : Prop where
 vs : ∃ pre, d'.vs = pre ++ d.vs ∧ pre.length = xs.length
 obs : ∃ pre, d'.obs = pre ++ d.obs ∧ pre.length = xs.length
 nS : ∃ pre, d'.nS = pre ++ d.nS ∧ pre.length = lK xs
 blk : ∀ a b, (a, b) ∈ d'.blks → (a, b) ∈ d.blks ∨ ∃ p x, xs[p]? = some x ∧ x.i = a ∧ d'.obs.reverse[d.obs.length + p]? = some (some b)
 aAz : ∀ p x b, xs[p]? = some x → d'.obs.reverse[d.obs.length + p]? = some (some b) → (x.i, b) ∈ d'.blks
 aAW : ∀ q, q ∈ d.blks → q ∈ d'.blks
 slot : ∀ t x, d'.slots.get t = some x → (∃ p y, xs[p]? = some y ∧ y.o.dst = some t ∧ d'.vs.reverse[d.vs.length + p]? = some x) ∨ (d.slots.get t = some x ∧ ∀ y ∈ xs, y.o.dst ≠ some t)
 same : ∀ t, (∀ y ∈ xs, y.o.dst ≠ some t) → d'.slots.get t = d.slots.get t
 nxt : (∀ q ∈ d.nS, q.1.next ≤ N ∧ q.1.res = none) → ∀ q ∈ d'.nS, q.1.next ≤ N ∧ q.1.res = none
 at_ : ∀ p x, xs[p]? = some x → ∃ dp ZI v ob pre, LQ P ρ ops base N x dp v ob ZI ∧ d'.vs.reverse[d.vs.length + p]? = some v ∧ d'.obs.reverse[d.obs.length + p]? = some ob ∧ d'.nS = pre ++ ZI.nS ∧ dp.nS.length = d.nS.length + lK (xs.take p) ∧
  (∀ q, q ∈ dp.blks → q ∈ d'.blks) ∧ (∀ t, (∀ y ∈ xs.drop p, y.o.dst ≠ some t) → d'.slots.get t = dp.slots.get t) ∧
  (∀ t z, dp.slots.get t = some z → (∃ p' y, p' < p ∧ xs[p']? = some y ∧ y.o.dst = some t ∧ d'.vs.reverse[d.vs.length + p']? = some z) ∨ (d.slots.get t = some z ∧ ∀ y ∈ xs.take p, y.o.dst ≠ some t))
theorem rev_at {α : Type} {l pre l0 : List α} {v : α} (h : l = pre ++ v :: l0) : l.reverse[l0.length]? = some v := by
 subst h
 simp
theorem Hw (x : Item) (xs : List Item) : lK (x :: xs) = lK [x] + lK xs := by
 simp only [lK]
 cases x.k <;> simp <;> omega
theorem T.nP {α β : Type} {ρ : Nat → Int} {f : List (SB × Bool) → α → T β} {r : β} : ∀ {x : T α} {pc : List (SB × Bool)}, aZ ρ pc → (x.Fa pc f).leaf ρ = some r → ∃ a pc', x.leaf ρ = some a ∧ aZ ρ pc' ∧ (f pc' a).leaf ρ = some r
 | .fail, pc, _, h => by simp [T.Fa, T.leaf] at h
 | .ret a, pc, hp, h => ⟨a, pc, rfl, hp, h⟩
 | .split c x y, pc, hp, h => by
   simp only [T.Fa] at h
   cases hd : jF pc c with
   | some b =>
     rw [hd] at h
     have hb := fF hp hd
     simp only [T.leaf, hb]
     cases b with
     | true => exact T.nP hp h
     | false => exact T.nP hp h
   | none =>
     rw [hd] at h
     simp only [T.leaf] at h ⊢
     cases hb : c.den ρ with
     | true =>
       rw [hb] at h
       exact T.nP (x := x) (pc := (c, true) :: pc) (fun c' b' hm => by
        rcases List.mem_cons.1 hm with he | hm
        ·simp only [Prod.mk.injEq] at he; rw [he.1, he.2]; exact hb
        ·exact hp c' b' hm) h
     | false =>
       rw [hb] at h
       exact T.nP (x := y) (pc := (c, false) :: pc) (fun c' b' hm => by
        rcases List.mem_cons.1 hm with he | hm
        ·simp only [Prod.mk.injEq] at he; rw [he.1, he.2]; exact hb
        ·exact hp c' b' hm) h
theorem Ym {tt : TT} {call : dM} {all : List Oper} {base N : Nat} {ρ : Nat → Int} : ∀ (xs : List Item) {pc pc' : List (SB × Bool)} {d d' : Xd}, aZ ρ pc → (ZJ tt call all base N xs pc d).leaf ρ = some (pc', d') → aZ ρ pc'
 | [], pc, pc', d, d', hp, h => by
   have := aF h
   simp only [Prod.mk.injEq] at this
   rw [← this.1]; exact hp
 | x :: xs, pc, pc', d, d', hp, h => by
   simp only [ZJ] at h
   obtain ⟨d1, pc1, _, hp1, h2⟩ := T.nP hp h
   exact Ym xs hp1 h2
theorem Yn [Glob] {tt : TT} (htt : dW P tt) {call : dM} (hc : jE P call) {ops : Array Oper} {base N : Nat} {ρ : Nat → Int} : ∀ (xs : List Item) {pc pc' : List (SB × Bool)} {d d' : Xd}, aZ ρ pc → (ZJ tt call ops.toList base N xs pc d).leaf ρ = some (pc', d') → ayY P ρ ops base N xs d d'
 | [], pc, pc', d, d', hp, h => by
   have := aF h
   simp only [Prod.mk.injEq] at this
   obtain ⟨_, rfl⟩ := this
   exact ⟨⟨[], rfl, rfl⟩, ⟨[], rfl, rfl⟩, ⟨[], rfl, rfl⟩, fun a b h => .inl h, fun p x b hh => by simp at hh, fun q h => h, fun t x h => .inr ⟨h, by simp⟩, fun t _ => rfl, fun h => h, fun p x hh => by simp at hh⟩
 | x :: xs, pc, pc', d, d', hp, h => by
   simp only [ZJ] at h
   obtain ⟨d1, pc1, h1, hp1, h2⟩ := T.nP hp h
   obtain ⟨v, ob, e1, e2, e3, e4, hF⟩ := agQ htt hc hp h1
   obtain ⟨⟨pv, v1, v2⟩, ⟨po, o1, o2⟩, ⟨ps, s1, s2⟩, b1, b2, b3, sl, sm, nx, hat⟩ := Yn htt hc xs hp1 h2
   obtain ⟨qs, t1, t2⟩ := hF.nS
   have hv0 : d'.vs.reverse[d.vs.length]? = some v := rev_at (by rw [v1, e2])
   have ho0 : d'.obs.reverse[d.obs.length]? = some ob := rev_at (by rw [o1, e3])
   have hvl : d1.vs.length = d.vs.length + 1 := by rw [e2]; rfl
   have hol : d1.obs.length = d.obs.length + 1 := by rw [e3]; rfl
   have hb0 : ∀ q, q ∈ d.blks → q ∈ d1.blks := by
    intro q hq
    rw [e4]
    cases ob with
    | none => exact hq
    | some b => exact List.mem_cons_of_mem _ hq
   have hsh : ∀ (p n : Nat), n + 1 + p = n + (p + 1) := by intro p n; omega
   refine ⟨⟨pv ++ [v], by rw [v1, e2]; simp, by simp [v2]⟩, ⟨po ++ [ob], by rw [o1, e3]; simp, by simp [o2]⟩, ⟨ps ++ qs, by rw [s1, t1]; simp, by rw [List.length_append, Hw, s2, t2]; omega⟩, ?_, ?_, fun q hq => b3 q (hb0 q hq), ?_, ?_, fun hh => nx (hF.nxt hh), ?_⟩
   ·intro a b hab
    rcases b1 a b hab with hh | ⟨p, y, g1, g2, g3⟩
    ·rw [e4] at hh
     cases ob with
     | none => exact .inl hh
     | some c =>
       simp only [List.mem_cons, Prod.mk.injEq] at hh
       rcases hh with ⟨rfl, rfl⟩ | hh
       ·exact .inr ⟨0, x, rfl, rfl, ho0⟩
       ·exact .inl hh
    ·exact .inr ⟨p + 1, y, by simpa using g1, g2, by rw [← hsh, ← hol]; exact g3⟩
   ·intro p y b hy hb
    cases p with
    | zero =>
      simp at hy
      subst hy
      rw [Nat.add_zero, ho0] at hb
      simp at hb
      subst hb
      exact b3 _ (by rw [e4]; simp)
    | succ p =>
      refine b2 p y b (by simpa using hy) ?_
      rw [hol, hsh]
      exact hb
   ·intro t y hy
    rcases sl t y hy with ⟨p, z, g1, g2, g3⟩ | ⟨g1, g2⟩
    ·exact .inl ⟨p + 1, z, by simpa using g1, g2, by rw [← hsh, ← hvl]; exact g3⟩
    ·rw [e1, AY] at g1
     split at g1
     ·rename_i hd
      simp at g1
      subst g1
      exact .inl ⟨0, x, rfl, hd, hv0⟩
     ·rename_i hd
      refine .inr ⟨g1, fun z hz => ?_⟩
      rcases List.mem_cons.1 hz with rfl | hz
      ·exact hd
      ·exact g2 z hz
   ·intro t ht
    rw [sm t fun y hy => ht y (by simp [hy]), e1, AY, if_neg (ht x (by simp))]
   ·intro p y hy
    cases p with
    | zero =>
      simp at hy
      subst hy
      refine ⟨d, d1, v, ob, ps, hF, hv0, ho0, s1, by simp [lK], fun q hq => b3 q (hb0 q hq), fun t ht => ?_, fun t z hz => .inr ⟨hz, by simp⟩⟩
      rw [sm t fun y hy => ht y (by simp [hy]), e1, AY, if_neg (ht x (by simp))]
    | succ p =>
      obtain ⟨dp, ZI, v', ob', pre, g1, g2, g3, g4, g5, g6, g7, g8⟩ := hat p y (by simpa using hy)
      refine ⟨dp, ZI, v', ob', pre, g1, by rw [← hsh, ← hvl]; exact g2, by rw [← hsh, ← hol]; exact g3, g4, ?_, g6, fun t ht => g7 t (by simpa using ht), fun t z hz => ?_⟩
      ·rw [g5, List.take_succ_cons, Hw, t1, List.length_append, t2]
       omega
      ·rcases g8 t z hz with ⟨p', y', q1, q2, q3, q4⟩ | ⟨q1, q2⟩
       ·exact .inl ⟨p' + 1, y', by omega, by simpa using q2, q3, by rw [← hsh, ← hvl]; exact q4⟩
       ·rw [e1, AY] at q1
        split at q1
        ·rename_i hd
         simp at q1
         subst q1
         exact .inl ⟨0, x, by omega, rfl, hd, hv0⟩
        ·rename_i hd
         refine .inr ⟨q1, fun u hu => ?_⟩
         rw [List.take_succ_cons] at hu
         rcases List.mem_cons.1 hu with rfl | hu
         ·exact hd
         ·exact q2 u hu
end
end Go.As
end
section
namespace Go.As
section
variable {P : Program}
theorem BH {tt : TT} : ∀ {l : List Oper} {i : Nat} {o : Oper}, l[i]? = some o → kX tt (l.take (i + 1)) = kX tt (l.take i) + (match kindOf tt o.op with | .e => 1 | _ => 0)
 | [], i, o, h => by simp at h
 | x :: xs, 0, o, h => by
   simp at h
   subst h
   simp only [Nat.zero_add, List.take_succ_cons, List.take_zero, kX]
   cases kindOf tt x.op <;> rfl
 | x :: xs, i + 1, o, h => by
   simp only [List.take_succ_cons, kX]
   rw [BH (l := xs) (by simpa using h)]
   omega
theorem Ut {tt : TT} {l : List Oper} {i : Nat} (h : l[i]? = none) : kX tt (l.take (i + 1)) = kX tt (l.take i) := by
 have := List.getElem?_eq_none_iff.1 h
 rw [List.take_of_length_le (by omega), List.take_of_length_le (by omega)]
theorem OC {tt : TT} {l : List Oper} {i : Nat} : ∀ {j : Nat}, i ≤ j → kX tt (l.take i) ≤ kX tt (l.take j)
 | 0, h => by
   obtain rfl : i = 0 := by omega
   exact Nat.le_refl _
 | j + 1, h => by
   by_cases e : i = j + 1
   ·subst e; exact Nat.le_refl _
   ·have := OC (tt := tt) (l := l) (i := i) (j := j) (by omega)
    cases ho : l[j]? with
    | none => rw [Ut ho]; exact this
    | some o => rw [BH ho]; omega
theorem Rq {tt : TT} {l : List Oper} {i j : Nat} {o : Oper} (ho : l[i]? = some o) (hk : kindOf tt o.op = .e) (h : i < j) : kX tt (l.take i) < kX tt (l.take j) := by
 have h1 := BH (tt := tt) ho
 rw [hk] at h1
 have h2 := OC (tt := tt) (l := l) (i := i + 1) (j := j) h
 simp only at h1
 omega
theorem BG {tt : TT} {l : List Oper} {m : Nat} : ∀ {j : Nat}, m < kX tt (l.take j) → ∃ i o, i < j ∧ l[i]? = some o ∧ kindOf tt o.op = .e ∧ kX tt (l.take i) = m
 | 0, h => by simp [kX] at h
 | j + 1, h => by
   cases ho : l[j]? with
   | none =>
     rw [Ut ho] at h
     obtain ⟨i, o, h1, h2⟩ := BG h
     exact ⟨i, o, by omega, h2⟩
   | some o =>
     rw [BH ho] at h
     rcases Nat.lt_or_ge m (kX tt (l.take j)) with h' | h'
     ·obtain ⟨i, o, h1, h2⟩ := BG h'
      exact ⟨i, o, by omega, h2⟩
     ·cases hk : kindOf tt o.op <;> rw [hk] at h <;> simp only at h <;> try omega
      exact ⟨j, o, by omega, ho, hk, by omega⟩
def Fp (tt : TT) (all : List Oper) (ms : List Nat) (j : Nat) (o : Oper) : Item := ⟨j, o, ms.getD j 0, kindOf tt o.op, kX tt (all.take j), reads all o⟩
theorem jP {tt : TT} {all : List Oper} {ms : List Nat} {j : Nat} {o : Oper} (h : all[j]? = some o) : (items tt all ms all 0 0)[j]? = some (Fp tt all ms j o) := by
 rw [lH, h]
 simp [Fp]
theorem NW {tt : TT} {all : List Oper} {ms : List Nat} {x : Item} (h : x ∈ items tt all ms all 0 0) : ∃ j o, all[j]? = some o ∧ x = Fp tt all ms j o := by
 obtain ⟨j, hj⟩ := List.getElem?_of_mem h
 cases ho : all[j]? with
 | none => rw [lH, ho] at hj; simp at hj
 | some o =>
   rw [jP ho] at hj
   simp at hj
   exact ⟨j, o, ho, hj.symm⟩
structure aoQ (tt : TT) (all : List Oper) (ms : List Nat) : Prop where
 back : ∀ (j : Nat) (o : Oper), all[j]? = some o → ∀ e ∈ o.after, Region.binds .any e = true → e.on < j
 mask : ∀ (j : Nat) (o : Oper), all[j]? = some o → ms.getD j 0 = qV ms o.after.toList
 rd : ∀ (j : Nat) (o : Oper), all[j]? = some o → ∀ t ∈ reads all o, ∀ (i : Nat) (oi : Oper), all[i]? = some oi → oi.dst = some t → (ms.getD j 0).testBit i = true ∨ (kindOf tt o.op ≠ .r ∧ (ms.getD i 0).testBit j = true)
 dst : ∀ (i j : Nat) (oi oj : Oper) (d : Nat), all[i]? = some oi → all[j]? = some oj → oi.dst = some d → oj.dst = some d → i = j
 tot : ∀ (i j : Nat) (oi oj : Oper), all[i]? = some oi → all[j]? = some oj → kindOf tt oi.op = .e → kindOf tt oj.op = .e → i < j → (ms.getD j 0).testBit i = true
theorem ajI {tt : TT} {all : List Oper} {q : Stat} (h : stat tt all = some q) : ∃ ms, q.is = items tt all ms all 0 0 ∧ q.nE = kX tt all ∧ q.rs = ((q.is.filter (·.k.VW)).map fun x => (x, stages q.is q.nE x)) ∧ aoQ tt all ms := by
 unfold stat at h
 simp only at h
 split at h
 ·rename_i hok
  simp at h
  subst h
  refine ⟨uV all [], rfl, oP _ _ _, rfl, ?_⟩
  have key : ∀ (j : Nat) (o : Oper), all[j]? = some o → Df (uV all []) (items tt all (uV all []) all 0 0) (Fp tt all (uV all []) j o) = true := fun j o ho => List.all_eq_true.1 hok _ (List.mem_of_getElem? (jP ho))
  have mem : ∀ (j : Nat) (o : Oper), all[j]? = some o → Fp tt all (uV all []) j o ∈ items tt all (uV all []) all 0 0 := fun j o ho => List.mem_of_getElem? (jP ho)
  refine ⟨?_, ?_, ?_, ?_, ?_⟩
  ·intro j o ho e he hb
   have := key j o ho
   simp only [Df, Bool.and_eq_true, List.all_eq_true] at this
   have := this.1.1.1.1 e (by simpa [Fp] using he)
   simpa [hb, Fp] using this
  ·intro j o ho
   have := key j o ho
   simp only [Df, Bool.and_eq_true] at this
   have := this.1.1.1.2
   simpa [Fp] using this
  ·intro j o ho t ht i oi hoi hd
   have := key j o ho
   simp only [Df, Bool.and_eq_true, List.all_eq_true] at this
   have := this.1.1.2 t ht _ (mem i oi hoi)
   simp only [Fp, hd, ne_eq, not_true_eq_false, decide_false, Bool.false_or, Bool.or_eq_true, Bool.and_eq_true, Bool.not_eq_true'] at this
   rcases this with h | ⟨h1, h2⟩
   ·exact .inl h
   ·refine .inr ⟨fun hk => ?_, h2⟩
    rw [hk] at h1
    simp [Kind.VW] at h1
  ·intro i j oi oj d hi hj hdi hdj
   have := key i oi hi
   simp only [Df, Bool.and_eq_true, List.all_eq_true] at this
   have := this.1.2 _ (mem j oj hj)
   simp [Fp, hdi, hdj] at this
   exact this.symm
  ·intro i j oi oj hi hj hki hkj hlt
   have := key j oj hj
   simp only [Df, Bool.and_eq_true, List.all_eq_true] at this
   have := this.2
   simp only [Fp, hkj, Kind.isE, Bool.not_true, Bool.false_or, List.all_eq_true] at this
   have := this _ (mem i oi hi)
   simpa [Fp, hki, Kind.isE, hlt] using this
 ·simp at h
theorem Jv [Glob] {tt : TT} (htt : dW P tt) {call : dM} (hc : jE P call) {ops : Array Oper} {base : Nat} {pc : List (SB × Bool)} {ρ : Nat → Int} (hp : aZ ρ pc) {x : Item} (hk : kindOf tt x.o.op = .r) {v : AV} {S : Tr AV} {blks : List (Nat × dP)} {nS : List (Hp × Nat)} : ∀ (ks : List Nat), (IB tt call ops.toList base pc x v S blks nS ks).leaf ρ = some () →
 ∀ k ∈ ks, ∃ h mm, nS[k]? = some (h, mm) ∧ LX P ρ ops x.o S (fP base x.m mm blks h) v (fP base x.m mm blks h)
 | [], _ => by simp
 | k :: ks, h => by
   simp only [IB] at h
   split at h
   ·rename_i h0 mm hn
    obtain ⟨⟨u, s'⟩, h1, h2⟩ := T.fB h
    simp only at h2
    split at h2
    ·rename_i hs
     have ha := QZ htt hc (s := ⟨S, fP base x.m mm blks h0, pc⟩) hp h1
     have hr := ayI hk h1
     rw [hr, nT _ _ hs] at ha
     intro k' hk'
     rcases List.mem_cons.1 hk' with rfl | hk'
     ·exact ⟨h0, mm, by rw [← bU]; exact hn, ha⟩
     ·exact Jv htt hc hp hk ks h2 k' hk'
    ·simp [T.leaf] at h2
   ·simp [T.leaf] at h
theorem Nl [Glob] {tt : TT} (htt : dW P tt) {call : dM} (hc : jE P call) {ops : Array Oper} {base : Nat} {ρ : Nat → Int} {d : Xd} {nS : List (Hp × Nat)} {vs : List AV} : ∀ (rs : List (Item × List Nat)) {pc pc' : List (SB × Bool)}, aZ ρ pc → (∀ r ∈ rs, kindOf tt r.1.o.op = .r) → (Pm tt call ops.toList base d nS vs rs pc).leaf ρ = some pc' →
 aZ ρ pc' ∧ ∀ r ∈ rs, ∃ v, vs[r.1.i]? = some v ∧ ∀ k ∈ r.2, ∃ h mm, nS[k]? = some (h, mm) ∧ LX P ρ ops r.1.o (only d.slots r.1.rd) (fP base r.1.m mm d.blks h) v (fP base r.1.m mm d.blks h)
 | [], pc, pc', hp, _, h => by
   have := aF h
   subst this
   exact ⟨hp, by simp⟩
 | (x, ks) :: rs, pc, pc', hp, hk, h => by
   simp only [Pm] at h
   split at h
   ·rename_i v hv
    obtain ⟨⟨⟩, pc1, h1, hp1, h2⟩ := T.nP hp h
    obtain ⟨hp2, ih⟩ := Nl htt hc rs hp1 (fun r hr => hk r (by simp [hr])) h2
    refine ⟨hp2, fun r hr => ?_⟩
    rcases List.mem_cons.1 hr with rfl | hr
    ·exact ⟨v, by rw [← bU]; exact hv, Jv htt hc hp (hk _ (by simp)) ks h1⟩
    ·exact ih r hr
   ·simp [T.leaf] at h
end
end Go.As
end
section
namespace Go.As
section
variable {P : Program}
theorem ajS {α : Type} {l pre : List α} {a b : α} {l0 : List α} (h : l = pre ++ a :: b :: l0) : l.reverse[l0.length]? = some b ∧ l.reverse[l0.length + 1]? = some a := by
 subst h
 constructor
 ·simp
 ·rw [show pre ++ a :: b :: l0 = (pre ++ [a]) ++ (b :: l0) by simp, List.reverse_append]
  rw [List.getElem?_append_right (by simp)]
  simp
theorem YZ {n b : Nat} (h : ((1 <<< n) - 1).testBit b = true) : b < n := by
 rw [Nat.shiftLeft_eq, Nat.one_mul, Nat.testBit_two_pow_sub_one] at h
 simpa using h
theorem ajW [Glob] {tt : TT} {ops : Array Oper} {ms : List Nat} {ρ : Nat → Int} {sZ : Tr AV} {H0 : Hp} {base N : Nat} {d : Xd} (sf : aoQ tt ops.toList ms) (hb : base = H0.next) (hN : base + ops.size ≤ N)
 (rf : ayY P ρ ops base N (items tt ops.toList ms ops.toList 0 0) ⟨sZ, [(⟨H0.m, base + ops.size, none⟩, 0)], [], [], []⟩ d)
 (hrs : ∀ r ∈ ((items tt ops.toList ms ops.toList 0 0).filter (·.k.VW)).map fun x => (x, stages (items tt ops.toList ms ops.toList 0 0) (kX tt ops.toList) x), ∃ v, d.vs.reverse[r.1.i]? = some v ∧ ∀ k ∈ r.2, ∃ h mm, d.nS.reverse[k]? = some (h, mm) ∧ LX P ρ ops r.1.o (only d.slots r.1.rd) (fP base r.1.m mm d.blks h) v (fP base r.1.m mm d.blks h))
 (hun : OO base d.blks d.nS = true) :
 ∃ p : Plan P ρ ops sZ H0, p.base = base ∧ p.nE = kX tt ops.toList ∧ (∀ i, p.val i = (d.vs.reverse[i]?).getD .jW) ∧ (∀ k h mm, d.nS.reverse[k]? = some (h, mm) → p.hp k = h ∧ ∀ a, p.un k a = !mm.testBit a) ∧ (∀ i, p.blk i = (d.obs.reverse[i]?).getD none) ∧
  (∀ (m : Nat), m < p.nE → ∃ (j : Nat) (o : Oper), ops[j]? = some o ∧ p.kd j = .e ∧ p.st j = m) := by
 have hsz : ∀ (j : Nat), ops.toList[j]? = ops[j]? := fun j => Array.getElem?_toList
 have hlt : ∀ {j : Nat} {o : Oper}, ops[j]? = some o → j < ops.size := fun h => (Array.getElem?_eq_some_iff.1 h).1
 have hci : lK (items tt ops.toList ms ops.toList 0 0) = kX tt ops.toList := oP _ _ _
 have hfull : kX tt ops.toList = kX tt (ops.toList.take ops.size) := by rw [List.take_of_length_le (by simp)]
 obtain ⟨ps, s1, s2⟩ := rf.nS
 rw [hci] at s2
 have aAR : d.nS.length = kX tt ops.toList + 1 := by rw [s1, List.length_append, s2]; rfl
 have aAd : d.nS.reverse[0]? = some (⟨H0.m, base + ops.size, none⟩, 0) := by
  rw [s1]; simp
 have awJ : ∀ k, k ≤ kX tt ops.toList → ∃ h mm, d.nS.reverse[k]? = some (h, mm) := by
  intro k hk
  have : k < d.nS.reverse.length := by rw [List.length_reverse]; omega
  exact ⟨d.nS.reverse[k].1, d.nS.reverse[k].2, List.getElem?_eq_getElem this⟩
 have hnx := rf.nxt (by
  intro q hq
  simp only [List.mem_cons, List.not_mem_nil, or_false] at hq
  subst hq
  exact ⟨hN, rfl⟩)
 have hnx2 : ∀ (k : Nat) (h : Hp) (mm : Nat), d.nS.reverse[k]? = some (h, mm) → h.next ≤ N ∧ h.res = none := by
  intro k h mm hh
  exact hnx (h, mm) (by have := List.mem_of_getElem? hh; simpa using this)
 let hpf : Nat → Hp := fun k => ((d.nS.reverse[k]?).map (·.1)).getD ⟨.nil, 0, none⟩
 let unf : Nat → Nat → Bool := fun k a => match d.nS.reverse[k]? with | some q => !q.2.testBit a | none => false
 let bff : Nat → Nat → Bool := fun i j => match ops[j]? with | some _ => (ms.getD j 0).testBit i | none => false
 let kdf : Nat → Kind := fun i => match ops[i]? with | some o => kindOf tt o.op | none => .pa
 let Ru : Nat → Option dP := fun i => (d.obs.reverse[i]?).getD none
 have hpe : ∀ k h mm, d.nS.reverse[k]? = some (h, mm) → hpf k = h ∧ ∀ a, unf k a = !mm.testBit a := by
  intro k h mm hh
  refine ⟨by simp only [hpf, hh]; rfl, fun a => by simp only [unf, hh]⟩
 have bfe : ∀ {i j : Nat} {o : Oper}, ops[j]? = some o → bff i j = (ms.getD j 0).testBit i := by
  intro i j o ho
  simp only [bff, ho]
 have kde : ∀ {j : Nat} {o : Oper}, ops[j]? = some o → kdf j = kindOf tt o.op := by
  intro j o ho
  simp only [kdf, ho]
 have kdE : ∀ {j : Nat}, kdf j = .e → ∃ o, ops[j]? = some o ∧ kindOf tt o.op = .e := by
  intro j hj
  cases ho : ops[j]? with
  | none => simp only [kdf, ho] at hj; simp at hj
  | some o => exact ⟨o, rfl, by rw [← kde ho]; exact hj⟩
 have hbelow : ∀ (k : Nat), ∀ (o' : Oper), ops[k]? = some o' → ∀ b, (ms.getD k 0).testBit b = true → b < k := by
  intro k
  induction k using Nat.strongRecOn with
  | _ k ih =>
    intro o' ho' b hb'
    rw [sf.mask k o' (by rw [hsz]; exact ho')] at hb'
    obtain ⟨e, e1, e2, e3⟩ := rZ hb'
    have e1' : e ∈ o'.after := by simpa using e1
    have hlt' := sf.back k o' (by rw [hsz]; exact ho') e e1' e2
    rcases e3 with rfl | e3
    ·exact hlt'
    ·have := hlt ho'
     have := ih e.on hlt' (ops[e.on]'(by omega)) (by simp) b e3
     omega
 have aAo : ∀ (i : Nat), ∃ S : Tr AV, ∀ (o : Oper), ops[i]? = some o → ∃ dp ZI v ob pre, dp.slots = S ∧ LQ P ρ ops base N (Fp tt ops.toList ms i o) dp v ob ZI ∧ d.vs.reverse[i]? = some v ∧ d.obs.reverse[i]? = some ob ∧ d.nS = pre ++ ZI.nS ∧ dp.nS.length = 1 + kX tt (ops.toList.take i) ∧
  (∀ q, q ∈ dp.blks → q ∈ d.blks) ∧ (∀ t x, S.get t = some x → (∃ p oj, p < i ∧ ops[p]? = some oj ∧ oj.dst = some t ∧ d.vs.reverse[p]? = some x) ∨ (sZ.get t = some x ∧ ∀ (p : Nat) (oj : Oper), p < i → ops[p]? = some oj → oj.dst ≠ some t)) := by
  intro i
  cases hoi : ops[i]? with
  | none => exact ⟨.nil, fun o h => by simp at h⟩
  | some o0 =>
    have hx : (items tt ops.toList ms ops.toList 0 0)[i]? = some (Fp tt ops.toList ms i o0) := jP (by rw [hsz]; exact hoi)
    obtain ⟨dp, ZI, v, ob, pre, g1, g2, g3, g4, g5, g6, g7, g8⟩ := rf.at_ i _ hx
    refine ⟨dp.slots, fun o ho => ?_⟩
    simp only [Option.some.injEq] at ho
    subst ho
    refine ⟨dp, ZI, v, ob, pre, rfl, g1, by simpa using g2, by simpa using g3, g4, ?_, g6, ?_⟩
    ·rw [g5]
     congr 1
     have : (items tt ops.toList ms ops.toList 0 0).take i = items tt ops.toList ms (ops.toList.take i) 0 0 := by
      apply List.ext_getElem?
      intro j
      rw [List.getElem?_take, lH, lH, List.getElem?_take]
      split
      ·rename_i hj
       rw [List.take_take, Nat.min_eq_left (by omega)]
      ·rfl
     rw [this, oP]
    ·intro t x ht
     rcases g8 t x ht with ⟨p, y, q1, q2, q3, q4⟩ | ⟨q1, q2⟩
     ·cases hoj : ops.toList[p]? with
      | none => rw [lH, hoj] at q2; simp at q2
      | some oj =>
        rw [jP hoj] at q2
        simp at q2
        subst q2
        exact .inl ⟨p, oj, q1, by rw [← hsz]; exact hoj, q3, by simpa using q4⟩
     ·refine .inr ⟨q1, fun p oj hp hoj => ?_⟩
      have hm : Fp tt ops.toList ms p oj ∈ (items tt ops.toList ms ops.toList 0 0).take i := by
       refine List.mem_of_getElem? (i := p) ?_
       rw [List.getElem?_take, if_pos hp]
       exact jP (by rw [hsz]; exact hoj)
      exact q2 _ hm
 obtain ⟨Sd, hat⟩ := Classical.skolem.1 aAo
 let Sf : Nat → Tr AV := fun i => match ops[i]? with
  | some o => (match kindOf tt o.op with
    | .r => only d.slots (reads ops.toList o)
    | _ => only (Sd i) (reads ops.toList o))
  | none => .nil
 have SfR : ∀ {i : Nat} {o : Oper}, ops[i]? = some o → kindOf tt o.op = .r → Sf i = only d.slots (reads ops.toList o) := by
  intro i o ho hk
  simp only [Sf, ho, hk]
 have SfN : ∀ {i : Nat} {o : Oper}, ops[i]? = some o → kindOf tt o.op ≠ .r → Sf i = only (Sd i) (reads ops.toList o) := by
  intro i o ho hk
  have : Sf i = (match kindOf tt o.op with | .r => only d.slots (reads ops.toList o) | _ => only (Sd i) (reads ops.toList o)) := by simp only [Sf, ho]
  rw [this]
  cases hh : kindOf tt o.op with
  | r => exact absurd hh hk
  | pa => rfl
  | e => rfl
 have hblk : ∀ a b, (a, b) ∈ d.blks → Ru a = some b := by
  intro a b hab
  rcases rf.blk a b hab with h | ⟨p, x, g1, g2, g3⟩
  ·simp at h
  ·cases ho : ops.toList[p]? with
   | none => rw [lH, ho] at g1; simp at g1
   | some o =>
     rw [jP ho] at g1
     simp at g1
     subst g1
     have : p = a := g2
     subst this
     simp only [List.length_nil, Nat.zero_add] at g3
     simp only [Ru, g3, Option.getD_some]
 have hblk2 : ∀ a b, Ru a = some b → (a, b) ∈ d.blks := by
  intro a b hab
  have hob : d.obs.reverse[a]? = some (some b) := by
   simp only [Ru] at hab
   cases hh : d.obs.reverse[a]? with
   | none => rw [hh] at hab; simp at hab
   | some x => rw [hh] at hab; simp at hab; rw [hab]
  obtain ⟨po, o1, o2⟩ := rf.obs
  have hal : a < ops.size := by
   have h1 := (List.getElem?_eq_some_iff.1 hob).1
   rw [List.length_reverse, o1, List.append_nil, o2, xQ] at h1
   simpa using h1
  have hx : (items tt ops.toList ms ops.toList 0 0)[a]? = some (Fp tt ops.toList ms a ops[a]) := jP (by rw [hsz]; simp [hal])
  exact rf.aAz a _ b hx (by simpa using hob)
 refine ⟨{
  base := base, bf := bff, kd := kdf, S := Sf, val := fun i => (d.vs.reverse[i]?).getD .jW, st := fun i => kX tt (ops.toList.take i), nE := kX tt ops.toList, hp := hpf, un := unf, blk := Ru,
  gen := ?_, back := ?_, dst := ?_, slots := ?_, stl := ?_, inj := ?_, avA := ?_, pa := ?_, ev := ?_, rd := ?_, unm := ?_, nob := ?_, first := ?_ }, rfl, rfl, fun i => rfl, hpe, fun i => rfl, ?_⟩
 ·intro i j h
  cases ho : ops[j]? with
  | none => simp only [bff, ho] at h; simp at h
  | some o =>
    rw [bfe ho, sf.mask j o (by rw [hsz]; exact ho)] at h
    obtain ⟨e, e1, e2, e3⟩ := rZ h
    have e1' : e ∈ o.after := by simpa using e1
    refine ⟨o, e, rfl, e1', e2, e3.imp id fun h3 => ?_⟩
    have hl := sf.back j o (by rw [hsz]; exact ho) e e1' e2
    have hj := hlt ho
    rw [bfe (o := ops[e.on]'(by omega)) (by simp)]
    exact h3
 ·intro j o ho e he hb'
  exact sf.back j o (by rw [hsz]; exact ho) e he hb'
 ·intro i j oi oj dd hi hj h1 h2
  exact sf.dst i j oi oj dd (by rw [hsz]; exact hi) (by rw [hsz]; exact hj) h1 h2
 ·intro i o ho t x ht
  cases hk : kindOf tt o.op with
  | r =>
    rw [SfR ho hk] at ht
    obtain ⟨h1, h2⟩ := DZ ht
    rcases rf.slot t x h2 with ⟨p, y, g1, g2, g3⟩ | ⟨g1, g2⟩
    ·cases hoj : ops.toList[p]? with
     | none => rw [lH, hoj] at g1; simp at g1
     | some oj =>
       rw [jP hoj] at g1
       simp at g1
       subst g1
       have hp : ops[p]? = some oj := by rw [← hsz]; exact hoj
       refine .inl ⟨p, oj, ?_, hp, g2, ?_⟩
       ·rw [bfe ho]
        rcases sf.rd i o (by rw [hsz]; exact ho) t h1 p oj hoj g2 with h | ⟨h, _⟩
        ·exact h
        ·exact absurd hk h
       ·simp only [List.length_nil, Nat.zero_add] at g3
        simp only [g3, Option.getD_some]
    ·refine .inr ⟨g1, fun j oj hoj hd => ?_⟩
     exact absurd hd (g2 _ (List.mem_of_getElem? (jP (by rw [hsz]; exact hoj))))
  | _ =>
    rw [SfN ho (by rw [hk]; simp)] at ht
    obtain ⟨h1, h2⟩ := DZ ht
    obtain ⟨dp, ZI, v, ob, pre, _, _, _, _, _, _, _, g8⟩ := hat i o ho
    rcases g8 t x h2 with ⟨p, oj, q1, q2, q3, q4⟩ | ⟨q1, q2⟩
    ·refine .inl ⟨p, oj, ?_, q2, q3, by rw [q4]; rfl⟩
     rw [bfe ho]
     rcases sf.rd i o (by rw [hsz]; exact ho) t h1 p oj (by rw [hsz]; exact q2) q3 with h | ⟨_, h⟩
     ·exact h
     ·have := hbelow p oj q2 i h
      omega
    ·refine .inr ⟨q1, fun j oj hoj hd => ?_⟩
     rw [bfe hoj]
     rcases sf.rd i o (by rw [hsz]; exact ho) t h1 j oj (by rw [hsz]; exact hoj) hd with h | ⟨_, h⟩
     ·exact absurd hd (q2 j oj (hbelow i o ho j h) hoj)
     ·exact h
 ·intro j o ho hk
  rw [kde ho] at hk
  rw [hfull]
  exact Rq (by rw [hsz]; exact ho) hk (hlt ho)
 ·intro i j hi hj he
  obtain ⟨oi, hoi, hki⟩ := kdE hi
  obtain ⟨oj, hoj, hkj⟩ := kdE hj
  rcases Nat.lt_trichotomy i j with h | h | h
  ·have := Rq (tt := tt) (l := ops.toList) (by rw [hsz]; exact hoi) hki h
   omega
  ·exact h
  ·have := Rq (tt := tt) (l := ops.toList) (by rw [hsz]; exact hoj) hkj h
   omega
 ·intro j o ho hk m hm
  obtain ⟨i, oi, h1, h2, h3, h4⟩ := BG hm
  rw [kde ho] at hk
  have h2' : ops[i]? = some oi := by rw [← hsz]; exact h2
  refine ⟨i, by rw [kde h2']; exact h3, h4, ?_⟩
  rw [bfe ho]
  exact sf.tot i j oi o h2 (by rw [hsz]; exact ho) h3 hk h1
 ·intro i o ho hk
  rw [kde ho] at hk
  obtain ⟨dp, ZI, v, ob, pre, hdp, hF, g2, g3, g4, g5, g6, g7⟩ := hat i o ho
  obtain ⟨h0, mm, rest, hs, hF⟩ := hF
  simp only [Fp, hk] at hF
  obtain ⟨_, HA, f1, f2, f3⟩ := hF
  rw [hdp] at f1
  refine ⟨HA, N, ?_, f2, ?_, ?_⟩
  ·rw [SfN ho (by rw [hk]; simp)]
   simp only [g2, Option.getD_some]
   exact f1
  ·simp only [Ru, g3, Option.getD_some]
   exact f3
  ·intro k hk2
   obtain ⟨h2, mm2, hh⟩ := awJ k hk2
   rw [(hpe _ _ _ hh).1]
   exact (hnx2 _ _ _ hh).1
 ·intro j o ho hk
  rw [kde ho] at hk
  obtain ⟨dp, ZI, v, ob, pre, hdp, hF, g2, g3, g4, g5, g6, g7⟩ := hat j o ho
  obtain ⟨h0, mm, rest, hs, hF⟩ := hF
  simp only [Fp, hk] at hF
  obtain ⟨_, hn, f1, f2, f3, f4⟩ := hF
  rw [hdp] at f4
  rw [f1, hs] at g4
  have hrl : rest.length = kX tt (ops.toList.take j) := by rw [hs] at g5; simp at g5; omega
  obtain ⟨r1, r2⟩ := ajS g4
  rw [hrl] at r1 r2
  obtain ⟨p1, p2⟩ := hpe _ _ _ r1
  obtain ⟨p3, p4⟩ := hpe _ _ _ r2
  refine ⟨fP base (ms.getD j 0) mm dp.blks h0, ?_, ?_, ?_, ?_, ?_⟩
  ·rw [SfN ho (by rw [hk]; simp)]
   simp only [g2, Option.getD_some, p3]
   exact f4
  ·rw [(kY _ _).1, p1]
  ·rw [(kY _ _).2]
   exact (hnx2 _ _ _ r1).2
  ·intro id x hx
   rcases rC hx with h | ⟨a, a1, a2, a3, a4⟩
   ·left; rw [p1]; exact h
   ·right
    exact ⟨a, by rw [bfe ho]; exact a2, by rw [p2, a3]; rfl, a4, hblk a x (g6 _ a1)⟩
  ·intro a ha
   rw [p4] at ha
   simp only [Nat.testBit_or, Bool.not_or, Bool.and_eq_true, Bool.not_eq_true'] at ha
   refine ⟨by rw [p2, ha.1]; rfl, ?_⟩
   rw [bfe ho]
   exact ha.2
 ·intro i o ho hk k hkn h1 h2
  rw [kde ho] at hk
  have hmem : Fp tt ops.toList ms i o ∈ items tt ops.toList ms ops.toList 0 0 := List.mem_of_getElem? (jP (by rw [hsz]; exact ho))
  obtain ⟨v, g1, g2⟩ := hrs (Fp tt ops.toList ms i o, stages (items tt ops.toList ms ops.toList 0 0) (kX tt ops.toList) (Fp tt ops.toList ms i o)) (by
   rw [List.mem_map]
   exact ⟨_, List.mem_filter.2 ⟨hmem, by simp [Fp, hk, Kind.VW]⟩, rfl⟩)
  have hks : k ∈ stages (items tt ops.toList ms ops.toList 0 0) (kX tt ops.toList) (Fp tt ops.toList ms i o) := by
   unfold stages
   rw [List.mem_filter, List.mem_range]
   refine ⟨by omega, List.all_eq_true.2 fun y hy => ?_⟩
   obtain ⟨j, oj, hoj, rfl⟩ := NW hy
   have akK : ops[j]? = some oj := by rw [← hsz]; exact hoj
   cases hkj : kindOf tt oj.op with
   | pa => simp [Fp, hkj, Kind.isE]
   | r => simp [Fp, hkj, Kind.isE]
   | e =>
     simp only [Fp, hkj, Kind.isE, Bool.not_true, Bool.false_or, Bool.and_eq_true, Bool.or_eq_true, Bool.not_eq_true', decide_eq_true_eq]
     constructor
     ·cases hbit : (ms.getD i 0).testBit j with
      | false => exact .inl rfl
      | true => exact .inr (h1 j (by rw [kde akK]; exact hkj) (by rw [bfe ho]; exact hbit))
     ·cases hbit : (ms.getD j 0).testBit i with
      | false => exact .inl rfl
      | true => exact .inr (h2 j oj akK (by rw [kde akK]; exact hkj) (by rw [bfe akK]; exact hbit))
  obtain ⟨h0, mm, g3, g4⟩ := g2 k hks
  obtain ⟨p1, p2⟩ := hpe _ _ _ g3
  refine ⟨fP base (ms.getD i 0) mm d.blks h0, ?_, ?_, ?_, ?_⟩
  ·have g1' : d.vs.reverse[i]? = some v := g1
   rw [SfR ho hk]
   simp only [g1', Option.getD_some]
   exact g4
  ·rw [(kY _ _).1, p1]
  ·rw [(kY _ _).2]
   exact (hnx2 _ _ _ g3).2
  ·intro id x hx
   rcases rC hx with h | ⟨a, a1, a2, a3, a4⟩
   ·left; rw [p1]; exact h
   ·right
    exact ⟨a, by rw [bfe ho]; exact a2, by rw [p2, a3]; rfl, a4, hblk a x a1⟩
 ·intro k a x hk hx hu
  obtain ⟨h0, mm, hh⟩ := awJ k hk
  obtain ⟨p1, p2⟩ := hpe _ _ _ hh
  rw [p1]
  rw [p2] at hu
  unfold OO at hun
  have := List.all_eq_true.1 hun _ (hblk2 a x hx)
  have := List.all_eq_true.1 this (h0, mm) (by
   have := List.mem_of_getElem? hh
   simpa using this)
  simp only [Bool.or_eq_true, Option.isNone_iff_eq_none] at this
  simp only [Bool.not_eq_true'] at hu
  rcases this with h | h
  ·rw [hu] at h; simp at h
  ·exact h
 ·intro i hk
  cases ho : ops[i]? with
  | none =>
    obtain ⟨po, o1, o2⟩ := rf.obs
    have hnone : d.obs.reverse[i]? = none := by
     rw [List.getElem?_eq_none_iff, List.length_reverse, o1, List.append_nil, o2, xQ]
     have := Array.getElem?_eq_none_iff.1 ho
     simpa using this
    simp only [Ru, hnone, Option.getD_none]
  | some o =>
    obtain ⟨dp, ZI, v, ob, pre, hdp, hF, g2, g3, g4, g5, g6, g7⟩ := hat i o ho
    obtain ⟨h0, mm, rest, hs, hF⟩ := hF
    rw [kde ho] at hk
    cases hkk : kindOf tt o.op with
    | pa => exact absurd hkk hk
    | e =>
      simp only [Fp, hkk] at hF
      simp only [Ru, g3, Option.getD_some, hF.1]
    | r =>
      simp only [Fp, hkk] at hF
      simp only [Ru, g3, Option.getD_some, hF.1]
 ·have := (hpe 0 _ _ aAd).1
  refine ⟨hb, by rw [this]; exact Nat.le_refl _, fun id x h => ?_⟩
  rw [this] at h
  exact h
 ·intro m hm
  have hm' : m < kX tt (ops.toList.take ops.size) := by rw [← hfull]; exact hm
  obtain ⟨i, oi, h1, h2, h3, h4⟩ := BG hm'
  have h2' : ops[i]? = some oi := by rw [← hsz]; exact h2
  exact ⟨i, oi, h2', by show kdf i = _; rw [kde h2']; exact h3, h4⟩
end
end Go.As
end
section
namespace Go.As
section
variable {P : Program}
theorem KX [Glob] {tt : TT} (htt : dW P tt) {call : dM} (hc : jE P call) {ops : Array Oper} {E : En} {s s' : St} {a : Act} {w : World} {Q : Exit → Act → World → Prop}
 (hd : ∀ o ∈ ops.toList, ∀ d, o.dst = some d → d < a.tmps.size) (fit : Fit E s a w) (h : (draw tt call ops.toList s).leaf E.ρ = some s') (hq : ∀ a' w', Then E s a w s' a' w' → Q .normal a' w') :
 wpAny P .any ops Q ops.size (Array.replicate ops.size false) a { w with drawn := w.drawn + 1 } := by
 unfold draw Ht at h
 split at h
 ·simp [T.leaf] at h
 ·rename_i q hq0
  split at h
  ·simp [T.leaf] at h
  ·rename_i hres
   simp only at h
   obtain ⟨⟨pc1, d⟩, h1, h2⟩ := T.fB h
   simp only at h2
   obtain ⟨ms, e1, e2, e3, sf⟩ := ajI hq0
   rw [e1, ] at h1
   have rf := Yn htt hc _ fit.pc h1
   have hp1 := Ym _ fit.pc h1
   split at h2
   ·simp [T.leaf] at h2
   ·rename_i h0 mm rest aqR
    obtain ⟨pc2, h3, h4⟩ := T.fB h2
    split at h4
    ·rename_i hun
     have := aF h4
     subst this
     have awK := Nl htt hc q.rs hp1 (by
      intro r hr
      rw [e3, List.mem_map] at hr
      obtain ⟨x, hx, rfl⟩ := hr
      rw [List.mem_filter, e1] at hx
      obtain ⟨j, o, ho, rfl⟩ := NW hx.1
      have h5 : (kindOf tt o.op).VW = true := hx.2
      show kindOf tt o.op = .r
      revert h5
      cases kindOf tt o.op <;> simp [Kind.VW]) h3
     have hp2 := awK.1
     have hrs := awK.2
     rw [e3, e1, e2] at hrs
     obtain ⟨p, p1, p2, p3, p4, p5, p6⟩ := ajW sf (base := s.h.next) (H0 := s.h) rfl (Nat.le_add_right _ _) rf hrs hun
     have hsz : ∀ (j : Nat), ops.toList[j]? = ops[j]? := fun j => Array.getElem?_toList
     let w1 : World := { w with drawn := w.drawn + 1 }
     have aAs : Fit E s a w1 := ⟨⟨fit.rel.fresh, fit.rel.res, fit.rel.live, fit.rel.inj, fit.rel.A8, fit.rel.glob⟩, fit.sr, fit.pc⟩
     have hlist : ∀ (i : Nat), (Array.replicate ops.size false)[i]? ≠ some true := by
      intro i hh
      have := Array.mem_of_getElem? hh
      simp at this
     refine p.any (E0 := E) (a0 := a) (w0 := w1) hd ?_ ops.size _ a w1 (by simp) ?_ (p.start rfl rfl rfl aAs _ hlist)
     ·intro a' w' inv
      obtain ⟨ps, s1, s2⟩ := rf.nS
      rw [oP] at s2
      have hlen : rest.length = kX tt ops.toList := by
       have : d.nS.length = kX tt ops.toList + 1 := by rw [s1, List.length_append, s2]; rfl
       rw [aqR] at this
       simpa using this
      have hlast : d.nS.reverse[kX tt ops.toList]? = some (h0, mm) := by
       rw [← hlen]
       exact rev_at (pre := []) aqR
      obtain ⟨q1, q2⟩ := p4 _ _ _ hlast
      have hnx := rf.nxt (by
       intro q hq
       simp only [List.mem_cons, List.not_mem_nil, or_false] at hq
       subst hq
       exact ⟨Nat.le_add_right _ _, rfl⟩) (h0, mm) (by rw [aqR]; simp)
      have ht := p.finish (s0 := s) (s' := ⟨d.slots, fP s.h.next ((1 <<< ops.toList.length) - 1) mm d.blks h0, pc2⟩) (w0 := w1) rfl inv hp2 ?_ ?_ ?_ ?_ p6
      ·refine hq a' w' ⟨ht.defers, ht.size, ?_⟩
       obtain ⟨E', st, f'⟩ := ht.step
       exact ⟨E', ⟨st.ρ, st.dm, st.θ, st.κ, st.ro, st.FU, st.nxm, st.rsm, st.dmn, st.os, st.tape, st.output, st.size, st.keep, st.own⟩, f'⟩
      ·intro t x ht
       rcases rf.slot t x ht with ⟨j, y, g1, g2, g3⟩ | ⟨g1, g2⟩
       ·cases hoj : ops.toList[j]? with
        | none => rw [lH, hoj] at g1; simp at g1
        | some oj =>
          rw [jP hoj] at g1
          simp at g1
          subst g1
          refine .inl ⟨j, oj, by rw [← hsz]; exact hoj, g2, ?_⟩
          simp only [List.length_nil, Nat.zero_add] at g3
          rw [p3, g3]
          rfl
       ·refine .inr ⟨g1, fun j oj hoj => ?_⟩
        exact g2 _ (List.mem_of_getElem? (jP (by rw [hsz]; exact hoj)))
      ·intro id x hx
       rw [p2, q1, p1]
       rcases rC hx with h | ⟨b, b1, b2, b3, b4⟩
       ·exact .inl h
       ·right
        have hlt : b < ops.size := by
         have := YZ b2
         simpa using this
        refine ⟨b, hlt, by rw [q2, b3]; rfl, b4, ?_⟩
        rcases rf.blk b x b1 with h | ⟨j, y, g1, g2, g3⟩
        ·simp at h
        ·cases hoj : ops.toList[j]? with
         | none => rw [lH, hoj] at g1; simp at g1
         | some oj =>
           rw [jP hoj] at g1
           simp at g1
           subst g1
           have : j = b := g2
           subst this
           simp only [List.length_nil, Nat.zero_add] at g3
           rw [p5, g3]
           rfl
      ·rw [p2, q1]
       exact (kY _ _).1.symm
      ·show (fP s.h.next ((1 <<< ops.toList.length) - 1) mm d.blks h0).res = none
       rw [(kY _ _).2]
       exact hnx.2
     ·have : ∀ (l : Nat → Bool) (n : Nat), left l n ≤ n := by
       intro l n
       induction n with
       | zero => exact Nat.le_refl _
       | succ n ih => simp only [left]; split <;> omega
      exact this _ _
    ·simp [T.leaf] at h4
theorem Yj [Glob] {tt : TT} (htt : dW P tt) (hm : P.follows .mixedOrders = true) {call : dM} (hc : jE P call) : amU P (draw tt call) := by
 intro id ops E s s' a w Q hd fit h hq
 exact wp_region_any hm (KX htt hc hd fit h hq)
end
end Go.As
end
section
namespace Go.As
noncomputable section
open Go.RowKit
section
variable {P : Program}
def En.zero (ρ : Nat → Int) (ro : Nat → Prop) : En := { ρ := ρ, θ := fun _ => (0, 0), κ := fun _ => 0, dm := fun _ => False, ro := ro }
def Hp.zero : Hp := ⟨.nil, 0, none⟩
theorem RP [Glob] (ρ : Nat → Int) (ro : Nat → Prop) (w : World) (h : ∀ b, ro b → b < w.heap.size) (hg : Glob.ok ρ ro w.heap) : aX (En.zero ρ ro) Hp.zero w :=
 ⟨fun _ _ h => h, by simp [Hp.zero], fun id o h => by simp [Hp.zero, Hp.get, Tr.get] at h, fun id _ o _ h => by simp [Hp.zero, Hp.get, Tr.get] at h, h, hg⟩
theorem Stp.below {E E' : En} {H' : Hp} {w w' : World} (s : Stp E Hp.zero w E' H' w') : Below w.heap.size w w' :=
 ⟨s.os, s.tape, s.output, s.size, fun k hk => s.keep k hk fun id o h => by simp [Hp.zero, Hp.get, Tr.get] at h⟩
theorem EW [Glob] {g : FuncId} {f : List AV → St → T (AV × St)} (hf : mY P g f) {fn : Func} (hfn : P.funcs[g]? = some fn) (hname : (fn.name == "runtime.NumGoroutine") = false) {c : Code} (hb2 : fn.body = some c)
 {ρ : Nat → Int} {ro : Nat → Prop} {w : World} (hro : ∀ b, ro b → b < w.heap.size) (hg : Glob.ok ρ ro w.heap) {args : List AV} {vals : List Value} (hv : bD (En.zero ρ ro) w.heap args vals) {v : AV} {s' : St}
 (h : (f args ⟨.nil, Hp.zero, []⟩).leaf ρ = some (v, s')) : Calls P g vals.toArray w fun e w' => ∃ u E', e = .returned u ∧ VR E' w'.heap v u ∧ E'.ρ = ρ ∧ Below w.heap.size w w' := by
 obtain ⟨_, _, h3⟩ := hf args ⟨.nil, Hp.zero, []⟩ (En.zero ρ ro) w vals v s' (RP ρ ro w hro hg) hv (by simp [aZ]) h
 have hrun : (callFunc g vals.toArray).run P w = .ok (.enter g vals.toArray) w := by
  unfold callFunc
  simp [hfn, hb2, by simpa using hname]
 unfold uK uJ at h3
 rw [hrun] at h3
 exact Calls.mono h3 fun e w' ⟨u, he, E', st, _, hv⟩ => ⟨u, E', he, hv, st.ρ, st.below⟩
def oH : T (AV × St) → Bool
 | .ret (.bool (.lit b), _) => b
 | .ret _ => false
 | .split _ a b => oH a && oH b
 | .fail => false
theorem vG {ρ : Nat → Int} : ∀ {x : T (AV × St)}, oH x = true → ∃ s, x.leaf ρ = some (.bool (.lit true), s)
 | .fail, h => by simp [oH] at h
 | .ret (v, s), h => by
   cases v with
   | bool b =>
     cases b with
     | lit b => simp only [oH] at h; subst h; exact ⟨s, rfl⟩
     | _ => simp [oH] at h
   | _ => simp [oH] at h
 | .split c a b, h => by
   simp only [oH, Bool.and_eq_true] at h
   simp only [T.leaf]
   split
   ·exact vG h.1
   ·exact vG h.2
theorem atZ [Glob] {g : FuncId} {f : List AV → St → T (AV × St)} (hf : mY P g f) {fn : Func} (hfn : P.funcs[g]? = some fn) (hname : (fn.name == "runtime.NumGoroutine") = false) {c : Code} (hb2 : fn.body = some c)
 {ρ : Nat → Int} {ro : Nat → Prop} {w : World} (hro : ∀ b, ro b → b < w.heap.size) (hg : Glob.ok ρ ro w.heap) {args : List AV} {vals : List Value} (hv : bD (En.zero ρ ro) w.heap args vals)
 (h : oH (f args ⟨.nil, Hp.zero, []⟩) = true) : Calls P g vals.toArray w fun e w' => e = .returned (.bool true) ∧ Below w.heap.size w w' := by
 obtain ⟨s', hs⟩ := vG (ρ := ρ) h
 refine Calls.mono (EW hf hfn hname hb2 hro hg hv hs) fun e w' ⟨u, E', he, hu, _, hb⟩ => ?_
 simp only [VR, SB.den] at hu
 subst hu
 exact ⟨he, hb⟩
end
end
end Go.As
end
section
namespace Go.As
noncomputable section
open Go.RowKit
mutual
def jQ : AV → Bool
 | .bool (.lit _) => true
 | .int _ (.lit _) => true
 | .str _ => true
 | .jW => true
 | .aP => true
 | .oZ => true
 | .BO => true
 | .D8 => true
 | .iface _ v => jQ v
 | .agg cs => qX cs
 | .tuple cs => qX cs
 | .func _ fs cs => qX fs && qX cs
 | _ => false
def qX : List AV → Bool
 | [] => true
 | x :: xs => jQ x && qX xs
end
section
variable {P : Program}
mutual
theorem Gw {E E' : En} {h h' : Array Obj} : ∀ (x : AV) (u : Value), jQ x = true → VR E h x u → VR E' h' x u
 | .bool b, u, hc, hv => by cases b <;> simp [jQ] at hc; simpa [VR, SB.den] using hv
 | .int k e, u, hc, hv => by cases e <;> simp [jQ] at hc; simpa [VR, SE.den] using hv
 | .str s, u, _, hv => by simp only [VR] at *; exact hv
 | .jW, u, _, hv => by simp only [VR] at *; exact hv
 | .aP, u, _, hv => by simp only [VR] at *; exact hv
 | .oZ, u, _, hv => by simp only [VR] at *; exact hv
 | .BO, u, _, hv => by simp only [VR] at *; exact hv
 | .D8, u, _, hv => by simp only [VR] at *; exact hv
 | .iface t x, u, hc, hv => by
   simp only [VR, jQ] at *
   obtain ⟨y, h1, h2⟩ := hv
   exact ⟨y, h1, Gw x y hc h2⟩
 | .agg cs, u, hc, hv => by
   simp only [VR, jQ] at *
   obtain ⟨us, h1, h2⟩ := hv
   exact ⟨us, h1, pW cs us hc h2⟩
 | .tuple cs, u, hc, hv => by
   simp only [VR, jQ] at *
   obtain ⟨us, h1, h2⟩ := hv
   exact ⟨us, h1, pW cs us hc h2⟩
 | .func fn fs cs, u, hc, hv => by
   simp only [VR, jQ, Bool.and_eq_true] at *
   obtain ⟨us, ws, h1, h2, h3⟩ := hv
   exact ⟨us, ws, h1, pW fs us hc.1 h2, pW cs ws hc.2 h3⟩
 | .ptr _ _, _, hc, _ => by simp [jQ] at hc
 | .qI _, _, hc, _ => by simp [jQ] at hc
 | .slice _ _ _ _, _, hc, _ => by simp [jQ] at hc
 | .ro _ _ _, _, hc, _ => by simp [jQ] at hc
 | .map _, _, hc, _ => by simp [jQ] at hc
 | .opq _, _, hc, _ => by simp [jQ] at hc
 | .inp _ _, _, hc, _ => by simp [jQ] at hc
theorem pW {E E' : En} {h h' : Array Obj} : ∀ (xs : List AV) (us : List Value), qX xs = true → bD E h xs us → bD E' h' xs us
 | [], us, _, hv => by simp only [bD] at *; exact hv
 | x :: xs, us, hc, hv => by
   simp only [bD, qX, Bool.and_eq_true] at *
   obtain ⟨u, vs, h1, h2, h3⟩ := hv
   exact ⟨u, vs, h1, Gw x u hc.1 h2, pW xs vs hc.2 h3⟩
end
theorem OD [Glob] {E : En} {H : Hp} {w w' : World} (r : aX E H w) (b : Below w.heap.size w w') : Stp E H w E H w' ∧ aX E H w' := by
 have hk : Keeps E w.heap E w'.heap := ⟨rfl, fun _ h => h, fun _ _ => rfl, fun _ _ => rfl, fun _ h => h, fun x hx => b.block x (r.A8 x hx)⟩
 refine ⟨⟨rfl, fun _ h => h, fun _ _ => rfl, fun _ _ => rfl, fun _ h => h, fun _ h => .inl h, Nat.le_refl _, .inr rfl, fun _ h => .inl h, b.os, b.tape, b.output, b.size, fun x hx _ => b.block x hx, fun id o h _ => ⟨id, o, h, rfl⟩⟩, r.fresh, r.res, fun id o h => ?_, r.inj, fun x hx => Nat.lt_of_lt_of_le (r.A8 x hx) b.size, Glob.keep r.glob hk.ro hk.Js⟩
 obtain ⟨h1, h2, h3⟩ := r.live id o h
 exact ⟨h1, h2.keep hk h1 (b.block _ (iV r h)), h3⟩
def memo (args : List AV) (v : AV) : List AV → St → T (AV × St) := fun aAX s => if jM aAX args then .ret (v, s) else .fail
def gives (args : List AV) (v : AV) (f : List AV → St → T (AV × St)) : Bool :=
 qX args && jQ v && (match f args ⟨.nil, Hp.zero, []⟩ with | .ret (u, _) => eG u v | _ => false)
theorem IJ [Glob] {g : FuncId} {f : List AV → St → T (AV × St)} (hf : mY P g f) {fn : Func} (hfn : P.funcs[g]? = some fn) (hname : (fn.name == "runtime.NumGoroutine") = false) {c : Code} (hb : fn.body = some c)
 {args : List AV} {v : AV} (h : gives args v f = true) : mY P g (memo args v) := by
 intro aAX s E w vals u s' r hv hp hl
 unfold memo at hl
 split at hl
 ·rename_i hs
  have := aF hl
  simp only [Prod.mk.injEq] at this
  obtain ⟨rfl, rfl⟩ := this
  rw [fZ _ _ hs] at hv
  unfold gives at h
  simp only [Bool.and_eq_true] at h
  obtain ⟨⟨h1, h2⟩, h3⟩ := h
  split at h3
  ·rename_i u' s1 hrun
   have hu := nT _ _ h3
   subst hu
   have hc := EW hf hfn hname hb (ρ := E.ρ) (ro := E.ro) (w := w) r.A8 r.glob (pW args vals h1 hv) (v := u') (s' := s1) (by rw [hrun]; rfl)
   refine ⟨rfl, hp, ?_⟩
   have hrun : (callFunc g vals.toArray).run P w = .ok (.enter g vals.toArray) w := by
    unfold callFunc
    simp [hfn, hb, by simpa using hname]
   unfold uK uJ
   rw [hrun]
   exact Calls.mono hc fun e w' ⟨x, E', he, hx, _, hbl⟩ => ⟨x, he, E, (OD r hbl).1, (OD r hbl).2, Gw u' x h2 hx⟩
  ·simp at h3
 ·simp [T.leaf] at hl
def orElse (f g : List AV → St → T (AV × St)) : List AV → St → T (AV × St) := fun aAX s => match f aAX s with | .fail => g aAX s | x => x
theorem ND [Glob] {id : FuncId} {f g : List AV → St → T (AV × St)} (hf : mY P id f) (hg : mY P id g) : mY P id (orElse f g) := by
 intro aAX s E w vals u s' r hv hp hl
 unfold orElse at hl
 split at hl
 ·exact hg aAX s E w vals u s' r hv hp hl
 ·exact hf aAX s E w vals u s' r hv hp hl
end
end
end Go.As
end
section
namespace Go.As
noncomputable section
open Go.RowKit
section
variable {P : Program}
theorem Bv {g : FuncId} {fn : Func} {e : Array Value → Sem Value} (hf : P.funcs[g]? = some fn) (hname : (fn.name == "runtime.NumGoroutine") = false) (hb : fn.body.isNone = true) (hn : Extern.findNext fn = none) (he : Extern.find fn = some e)
 {args : Array Value} {w : World} {u : Value} (hr : (e args).run P w = .ok u w) : (callFunc g args).run P w = .ok (.value u) w := by
 have hb2 : fn.body = none := by simpa using hb
 unfold callFunc
 simp [hf, hb2, by simpa using hname, hn, he, hr]
def Ll (c : Nat) : List Nat → Nat
 | [] => 0
 | x :: xs => if x.beq c then Ll c xs + 1 else Ll c xs
def Gf : List AV → St → T (AV × St) := fun args s => match args with
 | [.str b, .int .u8 (.lit (.ofNat c))] => if c < 256 then .ret (.int .i64 (.lit (Int.ofNat (Ll c b))), s) else .fail
 | _ => .fail
theorem OU {a b : Nat} (ha : a < 256) (hb : b < 256) : (UInt8.ofNat a == UInt8.ofNat b) = a.beq b := by
 rw [Bool.eq_iff_iff]
 simp only [beq_iff_eq, Nat.beq_eq]
 constructor
 ·intro h
  have := congrArg UInt8.toNat h
  simp only [UInt8.toNat_ofNat'] at this
  omega
 ·intro h
  rw [h]
theorem Ov {c : Nat} (hc : c < 256) : ∀ {s : List Nat}, (∀ b ∈ s, b < 256) → Lib.countByte (s.map UInt8.ofNat) (UInt8.ofNat c) = Ll c s
 | [], _ => rfl
 | x :: xs, h => by
   have ih := Ov hc (s := xs) fun b hb => h b (by simp [hb])
   unfold Lib.countByte at *
   rw [List.map_cons, List.count_cons, ih, OU (h x (by simp)) hc]
   simp only [Ll]
   cases x.beq c <;> simp
theorem agV [Glob] {g : FuncId} {fn : Func} (hf : P.funcs[g]? = some fn) (hname : (fn.name == "runtime.NumGoroutine") = false) (hb : fn.body.isNone = true) (hn : Extern.findNext fn = none) (he : Extern.find fn = some Extern.BytealgCount.count) : mY P g Gf := by
 intro aAX s E w vals u s' r hv hp hl
 unfold Gf at hl
 split at hl
 ·rename_i b c
  split at hl
  ·rename_i hc
   have := aF hl
   simp only [Prod.mk.injEq] at this
   obtain ⟨rfl, rfl⟩ := this
   simp only [bD, VR, SE.den] at hv
   obtain ⟨u1, r1, rfl, ⟨rfl, hbb⟩, u2, r2, rfl, rfl, rfl⟩ := hv
   refine ⟨rfl, hp, ?_⟩
   unfold uK uJ
   rw [Bv hf hname hb hn he (Lib.run_countString (bP b) (Int.ofNat c) w)]
   refine ⟨E, Stp.refl _ _ _, r, ?_⟩
   simp only [VR, SE.den]
   have : (Int.ofNat c).toNat.toUInt8 = UInt8.ofNat c := rfl
   rw [this]
   have h2 : (bP b).data.toList = b.map UInt8.ofNat := by simp [bP]
   rw [h2, Ov hc hbb]
   rfl
  ·simp [T.leaf] at hl
 ·simp [T.leaf] at hl
def JY (c : Nat) : List Nat → Int
 | [] => -1
 | x :: xs => if x.beq c then 0 else match JY c xs with
   | .ofNat n => .ofNat (n + 1)
   | .negSucc n => .negSucc n
def F9 : List AV → St → T (AV × St) := fun args s => match args with
 | [.str b, .int .u8 (.lit (.ofNat c))] => if c < 256 then .ret (.int .i64 (.lit (JY c b)), s) else .fail
 | _ => .fail
theorem NZ {c : Nat} (hc : c < 256) : ∀ {s : List Nat}, (∀ b ∈ s, b < 256) → Lib.indexByte (s.map UInt8.ofNat) (UInt8.ofNat c) = JY c s
 | [], _ => rfl
 | x :: xs, h => by
   have ih := NZ hc (s := xs) fun b hb => h b (by simp [hb])
   have hge := Lib.indexByte_ge (xs.map UInt8.ofNat) (UInt8.ofNat c)
   simp only [List.map_cons, Lib.indexByte, JY]
   rw [OU (h x (by simp)) hc]
   cases x.beq c
   ·simp only [Bool.false_eq_true, if_false]
    rw [ih] at hge ⊢
    cases hi : JY c xs with
    | ofNat n => rw [hi] at hge; simp
    | negSucc n =>
      rw [hi] at hge
      have : n = 0 := by omega
      subst this
      rfl
   ·rfl
theorem adR [Glob] {g : FuncId} {fn : Func} (hf : P.funcs[g]? = some fn) (hname : (fn.name == "runtime.NumGoroutine") = false) (hb : fn.body.isNone = true) (hn : Extern.findNext fn = none) (he : Extern.find fn = some Extern.BytealgIndexByte.indexByte) : mY P g F9 := by
 intro aAX s E w vals u s' r hv hp hl
 unfold F9 at hl
 split at hl
 ·rename_i b c
  split at hl
  ·rename_i hc
   have := aF hl
   simp only [Prod.mk.injEq] at this
   obtain ⟨rfl, rfl⟩ := this
   simp only [bD, VR, SE.den] at hv
   obtain ⟨u1, r1, rfl, ⟨rfl, hbb⟩, u2, r2, rfl, rfl, rfl⟩ := hv
   refine ⟨rfl, hp, ?_⟩
   unfold uK uJ
   rw [Bv hf hname hb hn he (Lib.run_indexByteString (bP b) (Int.ofNat c) w)]
   refine ⟨E, Stp.refl _ _ _, r, ?_⟩
   simp only [VR, SE.den]
   have : (Int.ofNat c).toNat.toUInt8 = UInt8.ofNat c := rfl
   rw [this]
   have h2 : (bP b).data.toList = b.map UInt8.ofNat := by simp [bP]
   rw [h2, NZ hc hbb]
  ·simp [T.leaf] at hl
 ·simp [T.leaf] at hl
def Pv : List Nat → List Nat → Bool
 | [], _ => true
 | _ :: _, [] => false
 | a :: x, b :: y => if a.beq b then Pv x y else false
def Dz (c : List Nat) : List Nat → Bool
 | [] => Pv c []
 | b :: bs => if Pv c (b :: bs) then true else Dz c bs
def xY : List AV → St → T (AV × St) := fun args s => match args with
 | [.str b, .str c] => if b.length < 4294967281 then .ret (.bool (.lit (Dz c b)), s) else .fail
 | _ => .fail
theorem XF : ∀ {c s : List Nat}, (∀ b ∈ c, b < 256) → (∀ b ∈ s, b < 256) → (c.map UInt8.ofNat).isPrefixOf (s.map UInt8.ofNat) = Pv c s
 | [], _, _, _ => by simp [Pv]
 | _ :: _, [], _, _ => by simp [Pv]
 | a :: x, b :: y, hc, hs => by
   have ih := XF (c := x) (s := y) (fun z hz => hc z (by simp [hz])) (fun z hz => hs z (by simp [hz]))
   simp only [List.map_cons, List.isPrefixOf, Pv]
   rw [OU (hc a (by simp)) (hs b (by simp)), ih]
   cases a.beq b <;> simp
theorem index_ge (sub : List UInt8) : ∀ l : List UInt8, -1 ≤ Lib.index l sub
 | [] => by unfold Lib.index; split <;> omega
 | b :: l => by
   have ih := index_ge sub l
   unfold Lib.index
   split
   ·omega
   ·split <;> omega
theorem Jd {c : List Nat} (hc : ∀ b ∈ c, b < 256) : ∀ {s : List Nat}, (∀ b ∈ s, b < 256) → Lib.contains (s.map UInt8.ofNat) (c.map UInt8.ofNat) = Dz c s
 | [], _ => by
   cases c <;> simp [Lib.contains, Lib.index, Dz, Pv]
 | b :: bs, h => by
   have ih := Jd hc (s := bs) fun z hz => h z (by simp [hz])
   have hp := XF hc h
   simp only [List.map_cons] at hp
   unfold Lib.contains at *
   simp only [List.map_cons, Lib.index, Dz]
   rw [hp, ← ih]
   have hge := index_ge (c.map UInt8.ofNat) (bs.map UInt8.ofNat)
   cases Pv c (b :: bs)
   ·simp only [Bool.false_eq_true, if_false]
    by_cases h1 : Lib.index (bs.map UInt8.ofNat) (c.map UInt8.ofNat) = -1
    ·rw [h1]; rfl
    ·rw [if_neg (by simpa using h1)]
     rw [decide_eq_decide]
     omega
   ·simp
theorem Us [Glob] {g : FuncId} (hg : ∀ (ρ : Nat → Int) (ro : Nat → Prop) (w : World), Glob.ok ρ ro w.heap → ∀ s sub : ByteArray, s.size < 4294967281 → Calls P g #[.string s, .string sub] w fun e w' => e = .returned (.bool (Lib.contains s.data.toList sub.data.toList)) ∧ w' = w)
 (hrun : ∀ (args : Array Value) (w : World), (callFunc g args).run P w = .ok (.enter g args) w) : mY P g xY := by
 intro aAX s E w vals u s' r hv hp hl
 unfold xY at hl
 split at hl
 ·rename_i b c
  split at hl
  ·rename_i hlen
   have := aF hl
   simp only [Prod.mk.injEq] at this
   obtain ⟨rfl, rfl⟩ := this
   simp only [bD, VR] at hv
   obtain ⟨u1, r1, rfl, ⟨rfl, hbb⟩, u2, r2, rfl, ⟨rfl, hcc⟩, rfl⟩ := hv
   refine ⟨rfl, hp, ?_⟩
   unfold uK uJ
   rw [hrun]
   refine Calls.mono (hg E.ρ E.ro w r.glob (bP b) (bP c) (by simpa [bP, ByteArray.size] using hlen)) fun e w' ⟨he, hw⟩ => ?_
   subst hw
   refine ⟨_, he, E, Stp.refl _ _ _, r, ?_⟩
   simp only [VR, SB.den]
   have h2 : ∀ l : List Nat, (bP l).data.toList = l.map UInt8.ofNat := by intro l; simp [bP]
   rw [h2, h2, Jd hcc hbb]
  ·simp [T.leaf] at hl
 ·simp [T.leaf] at hl
end
end
end Go.As
end
section
namespace Go.As
noncomputable section
structure Ib where
 m : Nat
 k : Kind
 st : Nat
 rd : List Nat
structure Ic where
 is : List Ib
 nE : Nat
 rs : List (Nat × List Nat)
def VT : Kind → Kind → Bool
 | .pa, .pa => true
 | .e, .e => true
 | .r, .r => true
 | _, _ => false
def Dh : List Nat → List Nat → Bool
 | [], [] => true
 | a :: x, b :: y => Nat.beq a b && Dh x y
 | _, _ => false
def FT : List Item → List Ib → Bool
 | [], [] => true
 | x :: xs, d :: ds => Nat.beq x.m d.m && VT x.k d.k && Nat.beq x.st d.st && Dh x.rd d.rd && FT xs ds
 | _, _ => false
def FP : List (Item × List Nat) → List (Nat × List Nat) → Bool
 | [], [] => true
 | (x, ks) :: xs, (i, js) :: ys => Nat.beq x.i i && Dh ks js && FP xs ys
 | _, _ => false
def FC : Nat → List Oper → List Ib → List Item
 | i, o :: os, d :: ds => ⟨i, o, d.m, d.k, d.st, d.rd⟩ :: FC (i + 1) os ds
 | _, _, _ => []
def Y5 (is : List Item) : List (Nat × List Nat) → List (Item × List Nat)
 | [] => []
 | (i, ks) :: r => match gG is i with
   | some x => (x, ks) :: Y5 is r
   | none => Y5 is r
def statOf (all : List Oper) (H : Ic) : Stat := ⟨FC 0 all H.is, H.nE, Y5 (FC 0 all H.is) H.rs⟩
def xZ (tt : TT) (all : List Oper) (H : Ic) : Bool := match stat tt all with
 | none => false
 | some q => FT q.is H.is && Nat.beq q.nE H.nE && FP q.rs H.rs
theorem Zo {a b : Kind} (h : VT a b = true) : a = b := by cases a <;> cases b <;> simp [VT] at h <;> rfl
theorem FY : ∀ {a b : List Nat}, Dh a b = true → a = b
 | [], [], _ => rfl
 | [], _ :: _, h => by simp [Dh] at h
 | _ :: _, [], h => by simp [Dh] at h
 | a :: x, b :: y, h => by
   simp only [Dh, Bool.and_eq_true] at h
   rw [Nat.eq_of_beq_eq_true h.1, FY h.2]
theorem NU {tt : TT} {all : List Oper} {ms : List Nat} : ∀ {os : List Oper} {i n : Nat} {ds : List Ib}, FT (items tt all ms os i n) ds = true → items tt all ms os i n = FC i os ds
 | [], i, n, ds, h => by cases ds <;> simp [items, FT, FC] at *
 | o :: os, i, n, ds, h => by
   cases ds with
   | nil => simp [items, FT] at h
   | cons d ds =>
     simp only [items, FT, Bool.and_eq_true] at h
     obtain ⟨⟨⟨⟨h1, h2⟩, h3⟩, h4⟩, h5⟩ := h
     have ih := NU h5
     simp only [items, FC]
     rw [ih, Nat.eq_of_beq_eq_true h1, Zo h2, Nat.eq_of_beq_eq_true h3, FY h4]
theorem XB {is : List Item} : ∀ {xs : List (Item × List Nat)} {ys : List (Nat × List Nat)}, (∀ p ∈ xs, gG is p.1.i = some p.1) → FP xs ys = true → Y5 is ys = xs
 | [], [], _, _ => rfl
 | [], _ :: _, _, h => by simp [FP] at h
 | _ :: _, [], _, h => by simp [FP] at h
 | (x, ks) :: xs, (i, js) :: ys, hm, h => by
   simp only [FP, Bool.and_eq_true] at h
   have h1 := hm (x, ks) (by simp)
   simp only [Y5]
   rw [← Nat.eq_of_beq_eq_true h.1.1, h1, ← FY h.1.2, XB (fun p hp => hm p (by simp [hp])) h.2]
theorem RN : ∀ {i : Nat} {os : List Oper} {ds : List Ib} {x : Item}, x ∈ FC i os ds → i ≤ x.i ∧ gG (FC i os ds) (x.i - i) = some x
 | _, [], _, _, h => by simp [FC] at h
 | _, _ :: _, [], _, h => by simp [FC] at h
 | i, o :: os, d :: ds, x, h => by
   simp only [FC, List.mem_cons] at h ⊢
   rcases h with rfl | h
   ·simp [gG]
   ·obtain ⟨h1, h2⟩ := RN h
    refine ⟨by omega, ?_⟩
    have : x.i - i = (x.i - (i + 1)) + 1 := by omega
    rw [this]
    exact h2
theorem Bo {tt : TT} {all : List Oper} {H : Ic} (h : xZ tt all H = true) : stat tt all = some (statOf all H) := by
 unfold xZ at h
 split at h
 ·simp at h
 ·rename_i q hq
  rw [hq]
  simp only [Bool.and_eq_true] at h
  obtain ⟨⟨h1, h2⟩, h3⟩ := h
  have hq' := hq
  unfold stat at hq'
  simp only at hq'
  split at hq'
  ·simp only [Option.some.injEq] at hq'
   subst hq'
   have e1 := NU h1
   simp only at h2 h3
   have e3 : Y5 (FC 0 all H.is) H.rs = _ := XB (is := FC 0 all H.is) (by
    intro p hp
    simp only [List.mem_map, List.mem_filter] at hp
    obtain ⟨x, ⟨hx, _⟩, rfl⟩ := hp
    rw [e1] at hx
    have := (RN hx).2
    simpa using this) h3
   unfold statOf
   rw [e3, ← Nat.eq_of_beq_eq_true h2, ← e1]
  ·simp at hq'
def aoL (tt : TT) (H : Nat → Nat → Option Ic) (call : dM) (g id : Nat) (all : List Oper) (s : St) : T St := match H g id with
 | some h => Ht tt call all (statOf all h) s
 | none => .fail
def ayV (tt : TT) (H : Nat → Nat → Option Ic) (g id : Nat) (all : List Oper) : Bool := match H g id with
 | some h => xZ tt all h
 | none => true
theorem ayT [Glob] {P : Program} {tt : TT} (htt : dW P tt) (hm : P.follows .mixedOrders = true) {H : Nat → Nat → Option Ic} {call : dM} (hc : jE P call) (g : Nat) : yR P (ayV tt H g) (aoL tt H call g) := by
 intro id ops hk E s s' a w Q hd fit h hq
 unfold ayV at hk
 unfold aoL at h
 split at hk
 ·rename_i h0 hh
  rw [hh] at h
  have := Bo hk
  refine Yj htt hm hc id ops E s s' a w Q hd fit ?_ hq
  unfold draw
  rw [this]
  exact h
 ·rename_i hh
  rw [hh] at h
  simp [T.leaf] at h
end
end Go.As
end
section
namespace Go.As
noncomputable section
def Cc (pos : Nat → Nat) (o : Oper) : Oper := { o with after := o.after.map (fun e => { e with on := pos e.on }), guard := match o.guard with | none => none | some (j, b) => some (pos j, b) }
def posOf : List Nat → Nat → Nat
 | [], _ => 0
 | x :: xs, i => match Nat.beq x i with
   | true => 0
   | false => posOf xs i + 1
def G6 (pos : Nat → Nat) (all : List Oper) : List Nat → List Oper
 | [] => []
 | i :: is => match gG all i with
   | some o => Cc pos o :: G6 pos all is
   | none => []
def gZ (ord : List Nat) (all : List Oper) : List Oper := G6 (posOf ord) all ord
def Px (ord : List Nat) (n : Nat) : Bool :=
 Nat.beq ord.length n && (List.range n).all (fun i => match gG ord (posOf ord i) with | some j => Nat.beq i j | none => false) &&
 (List.range n).all (fun j => match gG ord j with | some i => Nat.blt i n && Nat.beq (posOf ord i) j | none => false)
theorem SN : ∀ (ord : List Nat) (i : Nat), posOf ord i ≤ ord.length
 | [], _ => Nat.le_refl _
 | x :: xs, i => by
   simp only [posOf, List.length_cons]
   split
   ·omega
   ·have := SN xs i; omega
theorem Nq : ∀ (ord : List Nat) (i : Nat), posOf ord i < ord.length → ord[posOf ord i]? = some i
 | [], _, h => by simp [posOf] at h
 | x :: xs, i, h => by
   simp only [posOf, List.length_cons] at h ⊢
   split
   ·rename_i he
    simp [Nat.eq_of_beq_eq_true he]
   ·rename_i he
    rw [he] at h
    simp only at h
    simpa using Nq xs i (by omega)
structure Perm (n : Nat) (ord : List Nat) : Prop where
 len : ord.length = n
 at' : ∀ i, i < n → ord[posOf ord i]? = some i
 back : ∀ j, j < n → ∃ i, ord[j]? = some i ∧ i < n ∧ posOf ord i = j
theorem Zc {ord : List Nat} {n : Nat} (h : Px ord n = true) : Perm n ord := by
 unfold Px at h
 simp only [Bool.and_eq_true, List.all_eq_true, List.mem_range] at h
 obtain ⟨⟨h1, h2⟩, h3⟩ := h
 refine ⟨Nat.eq_of_beq_eq_true h1, fun i hi => ?_, fun j hj => ?_⟩
 ·have := h2 i hi
  split at this
  ·rename_i j hjj
   rw [bU] at hjj
   rw [hjj, Nat.eq_of_beq_eq_true this]
  ·simp at this
 ·have := h3 j hj
  split at this
  ·rename_i i hii
   rw [bU] at hii
   simp only [Bool.and_eq_true] at this
   exact ⟨i, hii, by simpa [Nat.blt_eq] using this.1, Nat.eq_of_beq_eq_true this.2⟩
  ·simp at this
theorem Perm.lt {n : Nat} {ord : List Nat} (p : Perm n ord) {i : Nat} (hi : i < n) : posOf ord i < n := by
 have := p.at' i hi
 rw [← p.len]
 exact (List.getElem?_eq_some_iff.1 this).1
theorem Perm.ge {n : Nat} {ord : List Nat} (p : Perm n ord) {i : Nat} (hi : ¬ i < n) : posOf ord i = n := by
 have h1 := SN ord i
 rw [p.len] at h1
 rcases Nat.lt_or_ge (posOf ord i) n with h | h
 ·have h2 := Nq ord i (by rw [p.len]; exact h)
  obtain ⟨k, h3, h4, _⟩ := p.back _ h
  rw [h2] at h3
  simp only [Option.some.injEq] at h3
  omega
 ·omega
theorem Perm.inj {n : Nat} {ord : List Nat} (p : Perm n ord) {i j : Nat} (hi : i < n) (hj : j < n) (h : posOf ord i = posOf ord j) : i = j := by
 have h1 := p.at' i hi
 have h2 := p.at' j hj
 rw [h, h2] at h1
 simpa using h1.symm
theorem Ns {pos : Nat → Nat} {all : List Oper} : ∀ {is : List Nat}, (∀ i ∈ is, i < all.length) → ∀ j : Nat, (G6 pos all is)[j]? = (is[j]?).bind fun i => (all[i]?).map (Cc pos)
 | [], _, j => by simp [G6]
 | i :: is, h, j => by
   have hi := h i (by simp)
   have ih := Ns (pos := pos) (is := is) fun k hk => h k (by simp [hk])
   simp only [G6]
   rw [bU, List.getElem?_eq_getElem hi]
   cases j with
   | zero => simp [List.getElem?_eq_getElem hi]
   | succ j => simpa using ih j
section
variable {P : Program}
theorem qN {ord : List Nat} {ops : Array Oper} (p : Perm ops.size ord) {i : Nat} (hi : i < ops.size) : (gZ ord ops.toList)[posOf ord i]? = (ops[i]?).map (Cc (posOf ord)) := by
 unfold gZ
 rw [Ns (by
  intro k hk
  obtain ⟨j, hj, rfl⟩ := List.getElem_of_mem hk
  obtain ⟨i', h1, h2, _⟩ := p.back j (by rw [← p.len]; exact hj)
  rw [List.getElem?_eq_getElem hj] at h1
  simp only [Option.some.injEq] at h1
  rw [h1]
  simpa using h2), p.at' i hi]
 simp
theorem uT {ord : List Nat} {ops : Array Oper} (p : Perm ops.size ord) : (gZ ord ops.toList).length = ops.size := by
 have h0 : ∀ j, j < ops.size → (gZ ord ops.toList)[j]?.isSome = true := by
  intro j hj
  obtain ⟨i, _, h2, h3⟩ := p.back j hj
  have := qN p h2
  rw [h3] at this
  rw [this]
  simp [h2]
 have hle : (gZ ord ops.toList).length ≤ ops.size := by
  have : ∀ (is : List Nat), (G6 (posOf ord) ops.toList is).length ≤ is.length := by
   intro is
   induction is with
   | nil => simp [G6]
   | cons i is ih => simp only [G6]; split <;> simp; omega
  have := this ord
  rw [p.len] at this
  exact this
 rcases Nat.lt_or_ge (gZ ord ops.toList).length ops.size with h | h
 ·have := h0 _ h
  rw [List.getElem?_eq_none (Nat.le_refl _)] at this
  simp at this
 ·omega
theorem acL (pos : Nat → Nat) (o : Oper) (a : Act) (w : World) (K : Act → World → Prop) (Q : Exit → Act → World → Prop) : (Cc pos o).wp P a w K Q = o.wp P a w K Q := rfl
theorem Vy (pos : Nat → Nat) (o : Oper) (a : Act) (w : World) : (Cc pos o).asks P a w = o.asks P a w := rfl
theorem OL {ord : List Nat} {ops : Array Oper} (p : Perm ops.size ord) (tmps : Array Value) (j : Nat) : yielded (gZ ord ops.toList).toArray tmps (posOf ord j) = yielded ops tmps j := by
 unfold yielded
 have : ((gZ ord ops.toList).toArray[posOf ord j]?).bind (·.dst) = (ops[j]?).bind (·.dst) := by
  rw [List.getElem?_toArray]
  rcases Nat.lt_or_ge j ops.size with h | h
  ·rw [qN p h]
   cases ops[j]? <;> rfl
  ·rw [p.ge (by omega), List.getElem?_eq_none (by rw [uT p]; exact Nat.le_refl _), Array.getElem?_eq_none h]
 rw [this]
theorem RU {ord : List Nat} {ops : Array Oper} (p : Perm ops.size ord) (tmps : Array Value) (o : Oper) :
 Region.wanted (Cc (posOf ord) o) (yielded (gZ ord ops.toList).toArray tmps) = Region.wanted o (yielded ops tmps) := by
 unfold Region.wanted Cc
 cases hg : o.guard with
 | none => rfl
 | some g =>
   obtain ⟨j, b⟩ := g
   simp only
   rw [OL p]
theorem lD {md : Region.Mode} {ops : Array Oper} {listed : Array Bool} {i : Nat} : i ∈ Region.ready md ops listed ↔ ∃ o, ops[i]? = some o ∧ listed.getD i true = false ∧ ∀ e ∈ o.after.toList, Region.binds md e = true → listed.getD e.on false = true := by
 unfold Region.ready
 simp only [List.mem_filter, List.mem_range, Bool.and_eq_true, Bool.not_eq_true']
 constructor
 ·rintro ⟨h1, h2, h3⟩
  have e := Array.getElem?_eq_getElem h1
  refine ⟨_, e, h2, ?_⟩
  rw [e] at h3
  simp only [Option.map_some, Option.getD_some, Array.all_eq_true_iff_forall_mem] at h3
  intro x hx hb
  have := h3 x (by simpa using hx)
  rw [hb] at this
  simpa using this
 ·rintro ⟨o, h1, h2, h3⟩
  have hi : i < ops.size := (Array.getElem?_eq_some_iff.1 h1).1
  refine ⟨hi, h2, ?_⟩
  rw [h1]
  simp only [Option.map_some, Option.getD_some, Array.all_eq_true_iff_forall_mem]
  intro x hx
  cases hb : Region.binds md x with
  | false => rfl
  | true => simpa using h3 x (by simpa using hx) hb
theorem C9 {md : Region.Mode} {ord : List Nat} {ops : Array Oper} (p : Perm ops.size ord) {listed listed' : Array Bool} (hz : listed.size = ops.size) (hz' : listed'.size = ops.size) (hl : ∀ i, i < ops.size → listed'[posOf ord i]? = listed[i]?) {i : Nat} (hi : i < ops.size) :
 posOf ord i ∈ Region.ready md (gZ ord ops.toList).toArray listed' ↔ i ∈ Region.ready md ops listed := by
 have hg : ∀ (k : Nat) (d : Bool), listed'.getD (posOf ord k) d = listed.getD k d := by
  intro k d
  simp only [Array.getD_eq_getD_getElem?]
  rcases Nat.lt_or_ge k ops.size with h | h
  ·rw [hl k h]
  ·rw [p.ge (by omega), Array.getElem?_eq_none (by omega), Array.getElem?_eq_none (by omega)]
 rw [lD, lD, List.getElem?_toArray, qN p hi, hg]
 constructor
 ·rintro ⟨o, h1, h2, h3⟩
  rw [Option.map_eq_some_iff] at h1
  obtain ⟨o0, h0, rfl⟩ := h1
  refine ⟨o0, h0, h2, fun e he hb => ?_⟩
  have := h3 { e with on := posOf ord e.on } (by
   simp only [Cc, Array.toList_map, List.mem_map]
   exact ⟨e, he, rfl⟩) hb
  rwa [hg] at this
 ·rintro ⟨o, h1, h2, h3⟩
  refine ⟨Cc (posOf ord) o, by rw [h1]; rfl, h2, fun e he hb => ?_⟩
  simp only [Cc, Array.toList_map, List.mem_map] at he
  obtain ⟨e0, he0, rfl⟩ := he
  show listed'.getD (posOf ord e0.on) false = true
  rw [hg]
  exact h3 e0 he0 hb
theorem U2 {md : Region.Mode} {ord : List Nat} {ops : Array Oper} (p : Perm ops.size ord) {Q : Exit → Act → World → Prop} : ∀ (fuel : Nat) (listed listed' : Array Bool) (a : Act) (w : World), listed.size = ops.size → listed'.size = ops.size →
 (∀ i, i < ops.size → listed'[posOf ord i]? = listed[i]?) → wpAny P md (gZ ord ops.toList).toArray Q fuel listed' a w → wpAny P md ops Q fuel listed a w := by
 have awC : ∀ (listed listed' : Array Bool), listed.size = ops.size → listed'.size = ops.size → (∀ i, i < ops.size → listed'[posOf ord i]? = listed[i]?) →
  (Region.ready md (gZ ord ops.toList).toArray listed' = [] ↔ Region.ready md ops listed = []) := by
  intro listed listed' hz hz' hl
  constructor
  ·intro h
   rw [List.eq_nil_iff_forall_not_mem] at h ⊢
   intro i hm
   have hi : i < ops.size := by
    obtain ⟨o, ho, _⟩ := lD.1 hm
    exact (Array.getElem?_eq_some_iff.1 ho).1
   exact h _ ((C9 p hz hz' hl hi).2 hm)
  ·intro h
   rw [List.eq_nil_iff_forall_not_mem] at h ⊢
   intro j hm
   have hj : j < ops.size := by
    obtain ⟨o, ho, _⟩ := lD.1 hm
    rw [List.getElem?_toArray] at ho
    rw [← uT p]
    exact (List.getElem?_eq_some_iff.1 ho).1
   obtain ⟨i, _, h2, h3⟩ := p.back j hj
   subst h3
   exact h _ ((C9 p hz hz' hl h2).1 hm)
 intro fuel
 induction fuel with
 | zero =>
   intro listed listed' a w hz hz' hl h
   exact ⟨(awC _ _ hz hz' hl).1 h.1, h.2⟩
 | succ fuel ih =>
   intro listed listed' a w hz hz' hl h
   refine ⟨fun h0 => h.1 ((awC _ _ hz hz' hl).2 h0), fun i hm => ?_⟩
   have hi : i < ops.size := by
    obtain ⟨o, ho, _⟩ := lD.1 hm
    exact (Array.getElem?_eq_some_iff.1 ho).1
   have hh := h.2 _ ((C9 p hz hz' hl hi).2 hm)
   have hstep : ∀ a w, wpAny P md (gZ ord ops.toList).toArray Q fuel (listed'.setIfInBounds (posOf ord i) true) a w → wpAny P md ops Q fuel (listed.setIfInBounds i true) a w := by
    intro a w hw
    refine ih _ _ a w (by simp [hz]) (by simp [hz']) (fun k hk => ?_) hw
    rw [Array.getElem?_setIfInBounds, Array.getElem?_setIfInBounds]
    by_cases hik : i = k
    ·subst hik
     rw [if_pos rfl, if_pos rfl, hz, hz', if_pos hi, if_pos (p.lt hi)]
    ·rw [if_neg hik, if_neg (fun h => hik (p.inj hi hk h)), hl k hk]
   have h2 := wpOp_mono hstep hh
   unfold wpOp at h2 ⊢
   rw [List.getElem?_toArray, qN p hi] at h2
   cases ho : ops[i]? with
   | none => rw [ho] at h2; exact h2
   | some o =>
     rw [ho] at h2
     simp only [Option.map_some] at h2 ⊢
     rw [RU p, acL, Vy] at h2
     exact h2
structure ahT where
 ord : List Nat
 h : Ic
def agM (tt : TT) (H : Nat → Nat → Option ahT) (call : dM) (g id : Nat) (all : List Oper) (s : St) : T St := match H g id with
 | some p => match p.ord with
   | [] => Ht tt call all (statOf all p.h) s
   | o :: os => match gZ (o :: os) all with
     | all' => Ht tt call all' (statOf all' p.h) s
 | none => .fail
def atY (tt : TT) (H : Nat → Nat → Option ahT) (g id : Nat) (all : List Oper) : Bool := match H g id with
 | some p => match p.ord with
   | [] => xZ tt all p.h
   | o :: os => Px (o :: os) all.length && xZ tt (gZ (o :: os) all) p.h
 | none => true
theorem agL [Glob] {tt : TT} (htt : dW P tt) (hm : P.follows .mixedOrders = true) {H : Nat → Nat → Option ahT} {call : dM} (hc : jE P call) (g : Nat) : yR P (atY tt H g) (agM tt H call g) := by
 intro id ops hk E s s' a w Q hd fit h hq
 unfold atY at hk
 unfold agM at h
 split at hk
 ·rename_i p hp
  rw [hp] at h
  simp only at h
  split at hk
  ·rename_i he
   rw [he] at h
   have := Bo hk
   refine Yj htt hm hc id ops E s s' a w Q hd fit ?_ hq
   unfold draw
   rw [this]
   exact h
  ·rename_i o os he
   rw [he] at h
   simp only at h
   simp only [Bool.and_eq_true] at hk
   have hp := Zc hk.1
   have hp : Perm ops.size (o :: os) := by simpa using hp
   have := Bo hk.2
   refine wp_region_any hm ?_
   have hd' : ∀ x ∈ ((gZ (o :: os) ops.toList).toArray).toList, ∀ d, x.dst = some d → d < a.tmps.size := by
    intro x hx d hxd
    obtain ⟨j, hj, rfl⟩ := List.getElem_of_mem hx
    have hj' : j < ops.size := by rw [← uT hp]; exact hj
    obtain ⟨i, _, h2, h3⟩ := hp.back j hj'
    have hg := qN hp h2
    rw [h3] at hg
    have hx2 : (gZ (o :: os) ops.toList)[j]? = some ((gZ (o :: os) ops.toList).toArray.toList[j]) := by
     rw [List.getElem?_eq_getElem hj]
    rw [hx2] at hg
    rw [Array.getElem?_eq_getElem h2] at hg
    simp only [Option.map_some, Option.some.injEq] at hg
    rw [hg] at hxd
    exact hd (ops[i]) (by simp) d hxd
   have key := KX (ops := (gZ (o :: os) ops.toList).toArray) htt hc hd' fit (by
    unfold draw
    rw [this]
    exact h) hq
   have hsz : (gZ (o :: os) ops.toList).toArray.size = ops.size := by simpa using uT hp
   rw [hsz] at key
   refine U2 hp _ _ _ _ _ (by simp) (by simp) (fun i hi => ?_) key
   rw [Array.getElem?_replicate, Array.getElem?_replicate, if_pos hi, if_pos (hp.lt hi)]
 ·rename_i hh
  rw [hh] at h
  simp [T.leaf] at h
end
end
end Go.As
end
section
namespace Go.As
noncomputable section
def Nu (h : Hp) : List Nat → Tr dP → Tr dP
 | [], t => t
 | i :: is, t => match h.get i with
   | some o => Nu h is (t.put i (some o))
   | none => Nu h is t
theorem FV {h : Hp} : ∀ (is : List Nat) (t : Tr dP), (∀ id o, t.get id = some o → h.get id = some o) → ∀ id o, (Nu h is t).get id = some o → h.get id = some o
 | [], _, ht, id, o, hg => ht id o hg
 | i :: is, t, ht, id, o, hg => by
   simp only [Nu] at hg
   split at hg
   ·rename_i x hx
    refine FV is _ (fun j y hy => ?_) id o hg
    rw [Tr.get_put] at hy
    split at hy
    ·rename_i he
     subst he
     simp only [Option.some.injEq] at hy
     subst hy
     exact hx
    ·exact ht j y hy
   ·exact FV is t ht id o hg
def FQ : List (SE × List AV) → List (SE × List AV) → Bool
 | [], [] => true
 | (i, a) :: x, (j, b) :: y => fK i j && jM a b && FQ x y
 | _, _ => false
theorem MX : ∀ {a b : List (SE × List AV)}, FQ a b = true → a = b
 | [], [], _ => rfl
 | [], _ :: _, h => by simp [FQ] at h
 | _ :: _, [], h => by simp [FQ] at h
 | (i, a) :: x, (j, b) :: y, h => by
   simp only [FQ, Bool.and_eq_true] at h
   rw [bK _ _ h.1.1, fZ _ _ h.1.2, MX h.2]
def Ph : dP → dP → Bool
 | .cells a e, .cells b f => jM a b && Nat.beq e f
 | .vec a t e x, .vec b u f y => fK a b && Nat.beq t u && Nat.beq e f && FQ x y
 | _, _ => false
theorem Vt {a b : dP} (h : Ph a b = true) : a = b := by
 cases a <;> cases b <;> simp only [Ph, Bool.false_eq_true, Bool.and_eq_true] at h
 ·rw [fZ _ _ h.1, Nat.eq_of_beq_eq_true h.2]
 ·rw [bK _ _ h.1.1.1, Nat.eq_of_beq_eq_true h.1.1.2, Nat.eq_of_beq_eq_true h.1.2, MX h.2]
def GX {α : Type} (f : α → α → Bool) : Tr α → Tr α → Bool
 | .nil, .nil => true
 | .node v l r, .node u x y => (match v, u with | some a, some b => f a b | none, none => true | _, _ => false) && GX f l x && GX f r y
 | _, _ => false
theorem DN {α : Type} {f : α → α → Bool} (hf : ∀ a b, f a b = true → a = b) : ∀ (a b : Tr α), GX f a b = true → a = b
 | .nil, b, h => by cases b <;> simp [GX] at h; rfl
 | .node v l r, b, h => by
   cases b with
   | nil => simp [GX] at h
   | node u x y =>
     simp only [GX, Bool.and_eq_true] at h
     rw [DN hf l x h.1.2, DN hf r y h.2]
     have h1 := h.1.1
     cases v <;> cases u <;> simp only [Bool.false_eq_true] at h1
     ·rfl
     ·rw [hf _ _ h1]
def inL (i : Nat) : List Nat → Bool
 | [] => false
 | j :: l => match Nat.beq i j with
   | true => true
   | false => inL i l
theorem PZ {i : Nat} : ∀ {l : List Nat}, inL i l = true ↔ i ∈ l
 | [] => by simp [inL]
 | j :: l => by
   simp only [inL, List.mem_cons]
   split
   ·rename_i h; simp [Nat.eq_of_beq_eq_true h]
   ·rename_i h; rw [PZ]; simp [Nat.ne_of_beq_eq_false h]
def without (i : Nat) : List Nat → List Nat
 | [] => []
 | j :: l => match Nat.beq i j with
   | true => without i l
   | false => j :: without i l
theorem uU {i k : Nat} : ∀ {l : List Nat}, k ∈ without i l ↔ k ∈ l ∧ k ≠ i
 | [] => by simp [without]
 | j :: l => by
   simp only [without]
   split
   ·rename_i h
    have := Nat.eq_of_beq_eq_true h
    subst this
    rw [uU]
    simp only [List.mem_cons]
    constructor
    ·rintro ⟨h1, h2⟩; exact ⟨.inr h1, h2⟩
    ·rintro ⟨h1 | h1, h2⟩
     ·exact absurd h1 h2
     ·exact ⟨h1, h2⟩
   ·rename_i h
    have := Nat.ne_of_beq_eq_false h
    simp only [List.mem_cons]
    rw [uU]
    constructor
    ·rintro (rfl | ⟨h1, h2⟩)
     ·exact ⟨.inl rfl, fun e => this e.symm⟩
     ·exact ⟨.inr h1, h2⟩
    ·rintro ⟨h1 | h1, h2⟩
     ·exact .inl h1
     ·exact .inr ⟨h1, h2⟩
def NQ (all : List Oper) (rem : List Nat) (i : Nat) : Bool := match gG all i with
 | some o => o.after.toList.all fun e => !Region.binds .any e || (!inL e.on rem && Nat.blt e.on all.length)
 | none => false
def UF (tt : TT) (call : dM) (all : List Oper) (pc : List (SB × Bool)) (tS : Tr AV) (tH : Hp) : Nat → List Nat → Tr AV → Hp → Bool
 | 0, rem, S, H => match rem with
   | [] => GX eG S tS && GX Ph H.m tH.m && Nat.beq H.next tH.next && (match H.res with | none => true | _ => false)
   | _ => false
 | n + 1, rem, S, H => match rem with
   | [] => false
   | _ => rem.any (NQ all rem) && rem.all fun i => match NQ all rem i with
     | false => true
     | true => match gG all i with
       | some o => match ev1 tt call all o ⟨S, H, pc⟩ with
         | .ret (v, s') => UF tt call all pc tS tH n (without i rem) (zF S o.dst v) s'.h
         | _ => false
       | none => false
section
variable {P : Program}
theorem acA {E : En} {h : Array Obj} {S : Tr AV} {a : Act} (sr : SR E h S a) {d : Option Nat} {v : AV} {u : Value} (hd : ∀ t, d = some t → t < a.tmps.size) (hv : VR E h v u) : SR E h (zF S d v) (a.put d u) := by
 cases d with
 | none => exact sr
 | some t => exact sr.put (hd t rfl) hv
theorem ahO [Glob] {tt : TT} (htt : dW P tt) {call : dM} (hc : jE P call) {ops : Array Oper} {ρ : Nat → Int} {pc : List (SB × Bool)} (hpc : aZ ρ pc) {tS : Tr AV} {tH : Hp} (htr : tH.res = none) {Q : Exit → Act → World → Prop} {m : Nat} (hd : ∀ o ∈ ops.toList, ∀ d, o.dst = some d → d < m) :
 ∀ (n : Nat) (rem : List Nat) (S : Tr AV) (H : Hp) (E : En) (a : Act) (w : World) (listed : Array Bool), UF tt call ops.toList pc tS tH n rem S H = true → E.ρ = ρ → aX E H w → SR E w.heap S a → a.tmps.size = m → listed.size = ops.size →
  (∀ i, i < ops.size → (listed[i]? = some true ↔ i ∉ rem)) → (∀ i ∈ rem, i < ops.size) →
  (∀ (a' : Act) (w' : World) (E' : En), Stp E H w E' tH w' → aX E' tH w' → SR E' w'.heap tS a' → a'.tmps.size = m → a'.defers = a.defers → Q .normal a' w') → wpAny P .any ops Q n listed a w := by
 intro n
 have hat : ∀ (i : Nat), gG ops.toList i = ops[i]? := fun i => by rw [bU, Array.getElem?_toList]
 have acM : ∀ (rem : List Nat) (listed : Array Bool), listed.size = ops.size → (∀ i, i < ops.size → (listed[i]? = some true ↔ i ∉ rem)) → ∀ i, i ∈ Region.ready .any ops listed → i ∈ rem ∧ NQ ops.toList rem i = true ∧ i < ops.size := by
  intro rem listed hsz hl i hi
  obtain ⟨o, ho, h1, h2⟩ := lD.1 hi
  have hin : i < ops.size := (Array.getElem?_eq_some_iff.1 ho).1
  have hf : listed[i]? = some false := by
   have e : listed[i]? = some (listed[i]'(by omega)) := by simp
   rw [e]
   simp only [Array.getD_eq_getD_getElem?, e, Option.getD_some] at h1
   rw [h1]
  refine ⟨?_, ?_, hin⟩
  ·apply Classical.byContradiction
   intro hn
   rw [(hl i hin).2 hn] at hf
   simp at hf
  ·unfold NQ
   rw [hat, ho]
   simp only [List.all_eq_true]
   intro e he
   cases hb : Region.binds .any e with
   | false => rfl
   | true =>
     have := h2 e he hb
     have hlt : e.on < ops.size := by
      rcases Nat.lt_or_ge e.on ops.size with h | h
      ·exact h
      ·simp [Array.getD_eq_getD_getElem?, Array.getElem?_eq_none (show listed.size ≤ e.on by omega)] at this
     simp only [Bool.not_true, Bool.false_or, Bool.and_eq_true, Bool.not_eq_true']
     refine ⟨?_, by simpa [Nat.blt_eq] using hlt⟩
     cases hin2 : inL e.on rem with
     | false => rfl
     | true =>
       exfalso
       have hm := PZ.1 hin2
       have e1 : listed[e.on]? = some (listed[e.on]'(by omega)) := by simp [hsz, hlt]
       simp only [Array.getD_eq_getD_getElem?, e1, Option.getD_some] at this
       rw [this] at e1
       exact (hl e.on hlt).1 e1 hm
 have apU : ∀ (rem : List Nat) (listed : Array Bool), listed.size = ops.size → (∀ i, i < ops.size → (listed[i]? = some true ↔ i ∉ rem)) → (∀ i ∈ rem, i < ops.size) → rem.any (NQ ops.toList rem) = true → Region.ready .any ops listed ≠ [] := by
  intro rem listed hsz hl hr hany hnil
  rw [List.any_eq_true] at hany
  obtain ⟨i, hi, hm⟩ := hany
  have hin := hr i hi
  have : i ∈ Region.ready .any ops listed := by
   rw [lD]
   unfold NQ at hm
   rw [hat] at hm
   split at hm
   ·rename_i o ho
    refine ⟨o, ho, ?_, fun e he hb => ?_⟩
    ·have e1 : listed[i]? = some (listed[i]'(by omega)) := by simp [hsz, hin]
     simp only [Array.getD_eq_getD_getElem?, e1, Option.getD_some]
     cases hb : listed[i]'(by omega) with
     | false => rfl
     | true =>
       rw [hb] at e1
       exact absurd hi ((hl i hin).1 e1)
    ·rw [List.all_eq_true] at hm
     have := hm e he
     rw [hb] at this
     simp only [Bool.not_true, Bool.false_or, Bool.and_eq_true, Bool.not_eq_true'] at this
     obtain ⟨this, hlt⟩ := this
     have hlt : e.on < ops.size := by simpa [Nat.blt_eq] using hlt
     have hnot : e.on ∉ rem := fun h => by rw [PZ.2 h] at this; simp at this
     have := (hl e.on hlt).2 hnot
     simp [Array.getD_eq_getD_getElem?, this]
   ·simp at hm
  rw [hnil] at this
  simp at this
 induction n with
 | zero =>
   intro rem S H E a w listed h hρ r sr ha hsz hl hr hq
   simp only [UF] at h
   split at h
   ·simp only [Bool.and_eq_true] at h
    obtain ⟨⟨⟨h1, h2⟩, h3⟩, h4⟩ := h
    have e1 := DN nT _ _ h1
    have e2 := DN (fun _ _ => Vt) _ _ h2
    have e3 := Nat.eq_of_beq_eq_true h3
    have e4 : H.res = none := by
     split at h4
     ·assumption
     ·simp at h4
    have eH : H = tH := by
     obtain ⟨m1, n1, r1⟩ := H
     obtain ⟨m2, n2, r2⟩ := tH
     simp only at e2 e3 e4 htr
     subst e2 e3 e4 htr
     rfl
    subst e1 eH
    refine ⟨?_, hq a w E (Stp.refl _ _ _) r sr ha rfl⟩
    rw [List.eq_nil_iff_forall_not_mem]
    intro i hi
    have := (acM [] listed hsz hl i hi).1
    simp at this
   ·simp at h
 | succ n ih =>
   intro rem S H E a w listed h hρ r sr ha hsz hl hr hq
   simp only [UF] at h
   split at h
   ·simp at h
   ·rename_i hne
    simp only [Bool.and_eq_true] at h
    refine ⟨fun h0 => absurd h0 (apU rem listed hsz hl hr h.1), fun i hi => ?_⟩
    obtain ⟨g1, g2, g3⟩ := acM rem listed hsz hl i hi
    have hi2 := (List.all_eq_true.1 h.2) i g1
    rw [g2] at hi2
    simp only at hi2
    split at hi2
    ·rename_i o ho
     have ho' : ops[i]? = some o := by rw [← hat]; exact ho
     split at hi2
     ·rename_i v s' hev
      have hact := QZ htt hc (ops := ops) (o := o) (s := ⟨S, H, pc⟩) (s' := s') (v := v) (ρ := ρ) hpc (by rw [hev]; rfl)
      refine hact.wpOp hρ r sr ho' fun u E' w' st r' hv => ?_
      have hdo : ∀ t, o.dst = some t → t < a.tmps.size := by
       intro t ht
       rw [ha]
       exact hd o (Array.mem_toList_iff.2 (Array.mem_of_getElem? ho')) t ht
      have sr' : SR E' w'.heap (zF S o.dst v) (a.put o.dst u) := acA (sr.keep (st.keeps r)) hdo hv
      refine ih (without i rem) _ _ E' (a.put o.dst u) w' (listed.setIfInBounds i true) hi2 (st.ρ.trans hρ) r' sr' (by rw [Jw]; exact ha) (by simpa using hsz) ?_ ?_ ?_
      ·intro k hk
       rw [Array.getElem?_setIfInBounds, uU]
       by_cases hik : i = k
       ·subst hik
        rw [if_pos rfl, if_pos (by omega)]
        simp
       ·rw [if_neg hik, hl k hk]
        constructor
        ·intro h1 h2; exact h1 h2.1
        ·intro h1 h2; exact h1 ⟨h2, fun e => hik e.symm⟩
      ·intro k hk
       exact hr k (uU.1 hk).1
      ·intro a' w2 E2 st2 r2 sr2 hs2 hd2
       exact hq a' w2 E2 (st.trans st2) r2 sr2 hs2 (by rw [hd2, As.put_defers])
     ·simp at hi2
    ·simp at hi2
end
end
end Go.As
end
section
namespace Go.As
noncomputable section
def KU (o : Oper) (j : Nat) : Bool := o.after.toList.any fun e => Region.binds .any e && Nat.beq e.on j
def Pg (n1 : Nat) (all : List Oper) : Bool :=
 Nat.blt 0 n1 && Nat.ble n1 all.length &&
 (List.range all.length).all (fun j => match gG all j with
  | some o => match Nat.blt j n1 with
    | true => (o.after.toList.all fun e => !Region.binds .any e || Nat.blt e.on j) && (match o.guard with | some (k, _) => Nat.blt k n1 | none => true)
    | false => KU o (n1 - 1)
  | none => false) &&
 (match gG all (n1 - 1) with
  | some o => (List.range (n1 - 1)).all fun i => KU o i
  | none => false)
structure W9 (n1 : Nat) (ops : Array Oper) : Prop where
 pos : 0 < n1
 le : n1 ≤ ops.size
 back : ∀ (i : Nat) (o : Oper), i < n1 → ops[i]? = some o → ∀ e ∈ o.after.toList, Region.binds .any e = true → e.on < i
 guard : ∀ (i : Nat) (o : Oper), i < n1 → ops[i]? = some o → ∀ k b, o.guard = some (k, b) → k < n1
 late : ∀ (i : Nat) (o : Oper), n1 ≤ i → ops[i]? = some o → ∃ e ∈ o.after.toList, Region.binds .any e = true ∧ e.on = n1 - 1
 last : ∀ (o : Oper), ops[n1 - 1]? = some o → ∀ i, i < n1 - 1 → ∃ e ∈ o.after.toList, Region.binds .any e = true ∧ e.on = i
theorem Oq {o : Oper} {j : Nat} (h : KU o j = true) : ∃ e ∈ o.after.toList, Region.binds .any e = true ∧ e.on = j := by
 unfold KU at h
 rw [List.any_eq_true] at h
 obtain ⟨e, he, h⟩ := h
 simp only [Bool.and_eq_true] at h
 exact ⟨e, he, h.1, Nat.eq_of_beq_eq_true h.2⟩
theorem Vq {n1 : Nat} {ops : Array Oper} (h : Pg n1 ops.toList = true) : W9 n1 ops := by
 have hat : ∀ (i : Nat), gG ops.toList i = ops[i]? := fun i => by rw [bU, Array.getElem?_toList]
 unfold Pg at h
 simp only [Bool.and_eq_true] at h
 obtain ⟨⟨⟨h1, h2⟩, h3⟩, h4⟩ := h
 have h1 : 0 < n1 := by simpa [Nat.blt_eq] using h1
 have h2 : n1 ≤ ops.size := by simpa using Nat.le_of_ble_eq_true h2
 rw [List.all_eq_true] at h3
 have h3 : ∀ (i : Nat) (o : Oper), ops[i]? = some o → (match Nat.blt i n1 with
  | true => (o.after.toList.all fun e => !Region.binds .any e || Nat.blt e.on i) && (match o.guard with | some (k, _) => Nat.blt k n1 | none => true)
  | false => KU o (n1 - 1)) = true := by
  intro i o ho
  have hi : i < ops.size := (Array.getElem?_eq_some_iff.1 ho).1
  have := h3 i (List.mem_range.2 (by simpa using hi))
  rw [hat, ho] at this
  exact this
 refine ⟨h1, h2, ?_, ?_, ?_, ?_⟩
 ·intro i o hi ho e he hb
  have := h3 i o ho
  rw [show Nat.blt i n1 = true by simpa [Nat.blt_eq] using hi] at this
  simp only [Bool.and_eq_true] at this
  have := (List.all_eq_true.1 this.1) e he
  rw [hb] at this
  simpa [Nat.blt_eq] using this
 ·intro i o hi ho k b hg
  have := h3 i o ho
  rw [show Nat.blt i n1 = true by simpa [Nat.blt_eq] using hi] at this
  simp only [Bool.and_eq_true, hg] at this
  simpa [Nat.blt_eq] using this.2
 ·intro i o hi ho
  have := h3 i o ho
  rw [show Nat.blt i n1 = false by
   cases hb : Nat.blt i n1 with
   | false => rfl
   | true => rw [Nat.blt_eq] at hb; omega] at this
  exact Oq this
 ·intro o ho i hi
  rw [hat, ho] at h4
  exact Oq ((List.all_eq_true.1 h4) i (List.mem_range.2 hi))
section
variable {P : Program}
theorem wp_exit {o : Oper} {a : Act} {w : World} {K : Act → World → Prop} {Q1 Q : Exit → Act → World → Prop} (h : ∀ e a w, e ≠ .normal → Q1 e a w → Q e a w) (hh : o.wp P a w K Q1) : o.wp P a w K Q := by
 have hl : LetsOut Q1 → LetsOut Q := fun ⟨a, w, h1⟩ => ⟨a, w, h _ _ _ (by simp) h1⟩
 unfold Oper.wp at *
 generalize (execOp a.eval o).run P w = r at *
 cases r with
 | ok n w' =>
   cases n <;> simp only [Oper.upon] at hh ⊢ <;>
    first
     | exact hh
     | exact Calls.mono hh (fun e w'' he => by cases e <;> first | exact he | exact h _ _ _ (by simp) he | exact hl he)
 | halt x w' => cases x <;> simp only [Oper.upon] at hh ⊢ <;> first | exact hh | exact h _ _ _ (by simp) hh
theorem Tm {l l' : Nat → Bool} {i : Nat} (h1 : l i = false) (h2 : l' i = true) (h : ∀ j, j ≠ i → l' j = l j) : ∀ n, i < n → left l' n + 1 = left l n
 | 0, hi => by omega
 | n + 1, hi => by
   simp only [left]
   by_cases hin : i = n
   ·subst hin
    have : ∀ m, m ≤ i → left l' m = left l m := by
     intro m
     induction m with
     | zero => intro _; rfl
     | succ m ih =>
       intro hm
       simp only [left]
       rw [ih (by omega), h m (by omega)]
    rw [this i (Nat.le_refl _)]
    simp [h1, h2]
   ·have := Tm h1 h2 h n (by omega)
    rw [h n (fun e => hin e.symm)]
    omega
theorem JU {l : Nat → Bool} : ∀ n, (∀ i, i < n → l i = true) → left l n = 0
 | 0, _ => rfl
 | n + 1, h => by
   simp only [left]
   rw [JU n (fun i hi => h i (by omega)), h n (by omega)]
   rfl
def firstT (n1 n : Nat) : Array Bool := (Array.range n).map fun i => decide (i < n1)
theorem RQ {n1 : Nat} {ops : Array Oper} (sf : W9 n1 ops) {Q Q1 : Exit → Act → World → Prop} (hq : ∀ e a w, e ≠ .normal → Q1 e a w → Q e a w) (hn : ∀ a w, Q1 .normal a w → wpAny P .any ops Q (ops.size - n1) (firstT n1 ops.size) a w) :
 ∀ (f : Nat) (l1 l : Array Bool) (a : Act) (w : World), l1.size = n1 → l.size = ops.size → (∀ i, i < n1 → l[i]? = l1[i]?) → (∀ i, n1 ≤ i → i < ops.size → l[i]? = some false) → left (fun i => l1.getD i true) n1 = f → (l1[n1 - 1]? = some true → f = 0) →
  wpAny P .any (ops.toList.take n1).toArray Q1 f l1 a w → wpAny P .any ops Q (f + (ops.size - n1)) l a w := by
 have hR : ∀ i, i < n1 → (ops.toList.take n1).toArray[i]? = ops[i]? := by
  intro i hi
  rw [List.getElem?_toArray, List.getElem?_take, if_pos hi, Array.getElem?_toList]
 have hRs : (ops.toList.take n1).toArray.size = n1 := by
  have := sf.le
  simp
  omega
 have hlf : LetsOut Q1 → LetsOut Q := fun ⟨a, w, h1⟩ => ⟨a, w, hq _ _ _ (by simp) h1⟩
 have hget : ∀ (l : Array Bool) (i : Nat), i < l.size → (l.getD i true = true ↔ l[i]? = some true) ∧ (l.getD i false = true ↔ l[i]? = some true) := by
  intro l i hi
  have e : l[i]? = some (l[i]'hi) := by simp
  simp only [Array.getD_eq_getD_getElem?, e, Option.getD_some]
  simp
 intro f
 induction f with
 | zero =>
   intro l1 l a w h1 h2 h3 h4 h5 h6 hw
   have hall := F8 n1 h5
   have : l = firstT n1 ops.size := by
    apply Array.ext_getElem?
    intro i
    unfold firstT
    rcases Nat.lt_or_ge i ops.size with hi | hi
    ·rw [Array.getElem?_map, Array.getElem?_range, if_pos hi]
     rcases Nat.lt_or_ge i n1 with hi1 | hi1
     ·rw [h3 i hi1, ((hget l1 i (by omega)).1.1 (hall i hi1))]
      simp [hi1]
     ·rw [h4 i hi1 hi]
      simp
      omega
    ·rw [Array.getElem?_eq_none (by omega), Array.getElem?_eq_none (by simp; omega)]
   rw [this, Nat.zero_add]
   exact hn a w hw.2
 | succ f ih =>
   intro l1 l a w h1 h2 h3 h4 h5 h6 hw
   rw [show f + 1 + (ops.size - n1) = (f + (ops.size - n1)) + 1 by omega]
   have hle := sf.le
   have hpos := sf.pos
   have hlast : l1[n1 - 1]? = some true → False := fun h => by have := h6 h; omega
   refine ⟨fun hnil => ?_, fun i hi => ?_⟩
   ·exfalso
    have hall : ∀ i, i < n1 → l[i]? = some true := by
     intro i
     induction i using Nat.strongRecOn with
     | _ i ih2 =>
       intro hi
       apply Classical.byContradiction
       intro hno
       have hio : ops[i]? = some (ops[i]'(by omega)) := by simp
       have : i ∈ Region.ready .any ops l := by
        rw [lD]
        refine ⟨_, hio, ?_, fun e he hb => ?_⟩
        ·cases hb : l.getD i true with
         | false => rfl
         | true => exact absurd ((hget l i (by omega)).1.1 hb) hno
        ·have hlt := sf.back i _ hi hio e he hb
         exact (hget l e.on (by omega)).2.2 (ih2 e.on hlt (by omega))
       rw [hnil] at this
       simp at this
    have := JU (l := fun i => l1.getD i true) n1 (fun i hi => (hget l1 i (by omega)).1.2 (by rw [← h3 i hi]; exact hall i hi))
    omega
   ·obtain ⟨o, ho, g1, g2⟩ := lD.1 hi
    have hin : i < ops.size := (Array.getElem?_eq_some_iff.1 ho).1
    have hi1 : i < n1 := by
     rcases Nat.lt_or_ge i n1 with h | h
     ·exact h
     ·exfalso
      obtain ⟨e, e1, e2, e3⟩ := sf.late i o h ho
      have := g2 e e1 e2
      rw [e3] at this
      have := (hget l (n1 - 1) (by omega)).2.1 this
      rw [h3 _ (by omega)] at this
      exact hlast this
    have hl1 : l1.getD i true = false := by
     cases hb : l1.getD i true with
     | false => rfl
     | true =>
       have := (hget l1 i (by omega)).1.1 hb
       rw [← h3 i hi1] at this
       have := (hget l i (by omega)).1.2 this
       rw [g1] at this
       simp at this
    have hed : ∀ e ∈ o.after.toList, Region.binds .any e = true → l1.getD e.on false = true := by
     intro e he hb
     have hlt := sf.back i o hi1 ho e he hb
     have := (hget l e.on (by omega)).2.1 (g2 e he hb)
     rw [h3 _ (by omega)] at this
     exact (hget l1 e.on (by omega)).2.2 this
    have hr1 : i ∈ Region.ready .any (ops.toList.take n1).toArray l1 := by
     rw [lD]
     exact ⟨o, by rw [hR i hi1]; exact ho, hl1, hed⟩
    have hop := hw.2 i hr1
    have hnext : ∀ a w, wpAny P .any (ops.toList.take n1).toArray Q1 f (l1.setIfInBounds i true) a w → wpAny P .any ops Q (f + (ops.size - n1)) (l.setIfInBounds i true) a w := by
     intro a w hw2
     have hleft : left (fun j => (l1.setIfInBounds i true).getD j true) n1 = f := by
      have := Tm (l := fun j => l1.getD j true) (l' := fun j => (l1.setIfInBounds i true).getD j true) (i := i) hl1 (by
       simp only [Array.getD_eq_getD_getElem?, Array.getElem?_setIfInBounds_self]
       split <;> rfl) (fun j hj => by
       simp only [Array.getD_eq_getD_getElem?]
       rw [Array.getElem?_setIfInBounds_ne (fun e => hj e.symm)]) n1 hi1
      omega
     refine ih _ _ a w (by simpa using h1) (by simpa using h2) (fun k hk => ?_) (fun k hk1 hk2 => ?_) hleft (fun hlt => ?_) hw2
     ·rw [Array.getElem?_setIfInBounds, Array.getElem?_setIfInBounds, h3 k hk, h1, h2]
      by_cases hik : i = k
      ·rw [if_pos hik, if_pos hik, if_pos hin, if_pos hi1]
      ·rw [if_neg hik, if_neg hik]
     ·rw [Array.getElem?_setIfInBounds_ne (by omega)]
      exact h4 k hk1 hk2
     ·by_cases hil : i = n1 - 1
      ·rw [← hleft]
       refine JU n1 fun k hk => ?_
       by_cases hk2 : k = i
       ·subst hk2
        simp only [Array.getD_eq_getD_getElem?, Array.getElem?_setIfInBounds_self]
        split <;> rfl
       ·obtain ⟨e, e1, e2, e3⟩ := sf.last o (by rw [← hil]; exact ho) k (by omega)
        have := hed e e1 e2
        rw [e3] at this
        have := (hget l1 k (by omega)).2.1 this
        simp only [Array.getD_eq_getD_getElem?]
        rw [Array.getElem?_setIfInBounds_ne (fun e => hk2 e.symm), this]
        rfl
      ·rw [Array.getElem?_setIfInBounds_ne hil] at hlt
       exact absurd hlt hlast
    have hop := wpOp_mono hnext hop
    unfold wpOp at hop ⊢
    rw [hR i hi1, ho] at hop
    rw [ho]
    simp only at hop ⊢
    have hwant : Region.wanted o (yielded (ops.toList.take n1).toArray a.tmps) = Region.wanted o (yielded ops a.tmps) := by
     unfold Region.wanted
     cases hg : o.guard with
     | none => rfl
     | some g =>
       obtain ⟨k, b⟩ := g
       simp only
       have := sf.guard i o hi1 ho k b hg
       unfold yielded
       rw [hR k this]
    rw [hwant] at hop
    split
    ·rename_i hwt
     rw [if_pos hwt] at hop
     rcases hop with h | ⟨h, h'⟩
     ·exact .inl (wp_exit hq h)
     ·exact .inr ⟨h, hlf h'⟩
    ·rename_i hwt
     rw [if_neg hwt] at hop
     exact hop
end
end
end Go.As
end
section
namespace Go.As
noncomputable section
def Ju (n1 n : Nat) : List Nat := (List.range (n - n1)).map fun k => k + n1
def avP : AV → List Nat
 | .ptr i _ => [i]
 | .slice i _ _ _ => [i]
 | _ => []
def aqN (S : Tr AV) : List Nat → List Nat
 | [] => []
 | t :: ts => match S.get t with
   | some v => avP v ++ aqN S ts
   | none => aqN S ts
def X5 (all : List Oper) (S : Tr AV) : List Nat → List Nat
 | [] => []
 | i :: is => match gG all i with
   | some o => aqN S (JE o.op) ++ X5 all S is
   | none => X5 all S is
def acD (tt : TT) (call : dM) (all : List Oper) (pc : List (SB × Bool)) : List Nat → Tr AV → Hp → Option (Tr AV × Hp)
 | [], S, H => some (S, H)
 | i :: is, S, H => match gG all i with
   | some o => match ev1 tt call all o ⟨S, H, pc⟩ with
     | .ret (v, s') => acD tt call all pc is (zF S o.dst v) s'.h
     | _ => none
   | none => none
def Rl (tt : TT) (call : dM) (all : List Oper) (n1 : Nat) (s1 : St) : T St :=
 match s1.h.res with
 | some _ => .fail
 | none => match (⟨Nu s1.h (X5 all s1.slots (Ju n1 all.length)) .nil, s1.h.next, none⟩ : Hp) with
   | small => match acD tt call all s1.pc (Ju n1 all.length) s1.slots small with
     | some (S, H) => match H.res with
       | none => match Nat.beq H.next s1.h.next && UF tt call all s1.pc S H (all.length - n1) (Ju n1 all.length) s1.slots small with
         | true => .ret ⟨S, ⟨Tr.over H.m (Tr.minus small.m s1.h.m), s1.h.next, none⟩, s1.pc⟩
         | false => .fail
       | some _ => .fail
     | none => .fail
structure OI where
 ord : List Nat
 n1 : Nat
 h : Ic
def Uk (tt : TT) (H : Nat → Nat → Option OI) (call : dM) (g id : Nat) (all : List Oper) (s : St) : T St := match H g id with
 | some p => match p.n1 with
   | 0 => match p.ord with
     | [] => Ht tt call all (statOf all p.h) s
     | o :: os => match gZ (o :: os) all with
       | all' => Ht tt call all' (statOf all' p.h) s
   | n1 => (Ht tt call (all.take n1) (statOf (all.take n1) p.h) s).bind (Rl tt call all n1)
 | none => .fail
def Rt (tt : TT) (H : Nat → Nat → Option OI) (g id : Nat) (all : List Oper) : Bool := match H g id with
 | some p => match p.n1 with
   | 0 => match p.ord with
     | [] => xZ tt all p.h
     | o :: os => Px (o :: os) all.length && xZ tt (gZ (o :: os) all) p.h
   | n1 => Pg n1 all && xZ tt (all.take n1) p.h
 | none => true
section
variable {P : Program}
theorem NP {n1 n i : Nat} (h : n1 ≤ n) : i ∈ Ju n1 n ↔ n1 ≤ i ∧ i < n := by
 unfold Ju
 rw [List.mem_map]
 constructor
 ·rintro ⟨k, hk, rfl⟩
  rw [List.mem_range] at hk
  omega
 ·rintro ⟨h1, h2⟩
  exact ⟨i - n1, List.mem_range.2 (by omega), by omega⟩
theorem Zn (n : Nat) : ∀ m, m ≤ n → left (fun i => (Array.replicate n false).getD i true) m = m := by
 intro m
 induction m with
 | zero => intro _; rfl
 | succ m ih =>
   intro hm
   have hlt : m < n := by omega
   simp only [left]
   rw [ih (by omega)]
   simp [hlt]
theorem WS [Glob] {tt : TT} (htt : dW P tt) {call : dM} (hc : jE P call) {ops : Array Oper} {n1 : Nat} (sf : W9 n1 ops) {E : En} {s s1 s' : St} {a a1 : Act} {w w1 : World} {Q : Exit → Act → World → Prop}
 (hd : ∀ o ∈ ops.toList, ∀ d, o.dst = some d → d < a.tmps.size) (ht : Then E s a w s1 a1 w1) (h : (Rl tt call ops.toList n1 s1).leaf E.ρ = some s') (hq : ∀ a' w', Then E s a w s' a' w' → Q .normal a' w') :
 wpAny P .any ops Q (ops.size - n1) (firstT n1 ops.size) a1 w1 := by
 obtain ⟨d1, z1, E1, st1, f1⟩ := ht
 have hlen : ops.toList.length = ops.size := Array.length_toList
 unfold Rl at h
 split at h
 ·simp [T.leaf] at h
 ·rename_i hres
  simp only at h
  split at h
  ·rename_i S H hseq
   split at h
   ·rename_i hHr
    split at h
    ·rename_i hall
     simp only [Bool.and_eq_true] at hall
     have hnx := Nat.eq_of_beq_eq_true hall.1
     have := aF h
     subst this
     have hsub : ∀ id o, (⟨Nu s1.h (X5 ops.toList s1.slots (Ju n1 ops.toList.length)) .nil, s1.h.next, none⟩ : Hp).get id = some o → s1.h.get id = some o :=
      fun id o hg => FV _ _ (fun _ _ hh => by simp [Tr.get] at hh) id o hg
     have rs := f1.rel.part hsub (Nat.le_refl _) (by simp)
     have hpc : aZ E1.ρ s1.pc := f1.pc
     have hal := hall.2
     rw [hlen] at hal
     refine ahO htt hc (ops := ops) (ρ := E1.ρ) (pc := s1.pc) hpc hHr (m := a.tmps.size) hd (ops.size - n1) (Ju n1 ops.size) s1.slots _ E1 a1 w1 (firstT n1 ops.size) hal rfl (by rw [hlen] at rs; exact rs) f1.sr z1 (by simp [firstT]) ?_ ?_ ?_
     ·intro i hi
      rw [NP sf.le]
      unfold firstT
      rw [Array.getElem?_map, Array.getElem?_range, if_pos hi]
      simp only [Option.map_some, Option.some.injEq, decide_eq_true_eq]
      omega
     ·intro i hi
      exact ((NP sf.le).1 hi).2
     ·intro a2 w2 E2 st2 r2 sr2 z2 d2
      rw [hlen] at hsub
      obtain ⟨Hc, e0, _, _, r3, UR⟩ := aeN f1.rel hsub st2 r2 s1.h.next (fun id hid => r2.fresh id (by omega))
      have dV := UR.strong (by rw [e0]; exact Nat.le_refl _) (by rw [e0]) (fun id hdm => by
       rcases st2.dmn id hdm with h1 | h1 | h1
       ·exact .inl h1
       ·have h1' : s1.h.next ≤ id ∧ id < H.next := h1
        omega
       ·simp at h1)
      subst e0
      refine hq a2 w2 ⟨d2.trans d1, z2, E2, st1.trans ?_, ?_⟩
      ·rw [hlen]; exact dV
      ·refine ⟨by rw [hlen]; exact r3, sr2, ?_⟩
       show aZ E2.ρ s1.pc
       rw [st2.ρ]
       exact hpc
    ·simp [T.leaf] at h
   ·simp [T.leaf] at h
  ·simp [T.leaf] at h
theorem KY [Glob] {tt : TT} (htt : dW P tt) (hm : P.follows .mixedOrders = true) {H : Nat → Nat → Option OI} {call : dM} (hc : jE P call) (g : Nat) : yR P (Rt tt H g) (Uk tt H call g) := by
 intro id ops hk E s s' a w Q hd fit h hq
 unfold Rt at hk
 unfold Uk at h
 split at hk
 ·rename_i p hp
  rw [hp] at h
  simp only at h
  split at hk
  ·rename_i hn
   rw [hn] at h
   simp only at h
   have hP := agL (P := P) htt hm (H := fun _ _ => some ⟨p.ord, p.h⟩) hc g id ops (by
    unfold atY
    exact hk) E s s' a w Q hd fit (by
    unfold agM
    exact h) hq
   exact hP
  ·rename_i n1 hn
   split at h
   ·rename_i h0
    exact absurd h0 hn
   ·rename_i n1' _
    simp only [Bool.and_eq_true] at hk
    have sf := Vq hk.1
    have hst := Bo hk.2
    obtain ⟨s1, h1, h2⟩ := T.fB h
    refine wp_region_any hm ?_
    have hle := sf.le
    have hRs : (ops.toList.take p.n1).toArray.size = p.n1 := by simp; omega
    have hd1 : ∀ o ∈ (ops.toList.take p.n1).toArray.toList, ∀ d, o.dst = some d → d < a.tmps.size := by
     intro o ho
     exact hd o (List.mem_of_mem_take (by simpa using ho))
    have key := KX (P := P) (ops := (ops.toList.take p.n1).toArray) (Q := fun e a' w' => match e with | .normal => wpAny P .any ops Q (ops.size - p.n1) (firstT p.n1 ops.size) a' w' | e => Q e a' w') htt hc hd1 fit (s' := s1) (by
     unfold draw
     rw [List.toList_toArray, hst]
     exact h1) (fun a' w' ht => WS htt hc sf hd ht h2 hq)
    rw [hRs] at key
    have := RQ sf (Q := Q) (fun e a w hne hh => by
     cases e with
     | normal => exact absurd rfl hne
     | _ => exact hh) (fun a w hh => hh) p.n1 (Array.replicate p.n1 false) (Array.replicate ops.size false) a _ (by simp) (by simp) (fun i hi => by
     rw [Array.getElem?_replicate, Array.getElem?_replicate, if_pos hi, if_pos (by omega)]) (fun i _ hi => by
     rw [Array.getElem?_replicate, if_pos hi]) (by
     exact Zn p.n1 p.n1 (Nat.le_refl _)) (fun hh => by
     rw [Array.getElem?_replicate, if_pos (by have := sf.pos; omega)] at hh
     simp at hh) key
    rw [show p.n1 + (ops.size - p.n1) = ops.size by omega] at this
    exact this
 ·rename_i hh
  rw [hh] at h
  simp [T.leaf] at h
end
end
end Go.As
end
section
namespace Go.As
noncomputable section
def lim {α : Type} (n : Nat) (t : Tr α) (k : Nat) : Option α := match Nat.ble n k with
 | true => none
 | false => t.get k
theorem XR {α : Type} {n : Nat} {t : Tr α} {f : Nat → Option α} (h : (List.range n).map t.get = (List.range n).map f) {k : Nat} {x : α} (hk : lim n t k = some x) : f k = some x := by
 unfold lim at hk
 split at hk
 ·simp at hk
 ·rename_i hle
  have hlt : k < n := by
   have : ¬ (n ≤ k) := by
    intro h
    rw [Nat.ble_eq_true_of_le h] at hle
    simp at hle
   omega
  have := congrArg (fun l => l[k]?) h
  simp only [List.getElem?_map, List.getElem?_range hlt, Option.map_some, Option.some.injEq] at this
  rw [← this]
  exact hk
section
variable {P : Program}
theorem aiB {n : Nat} {tab : Tr TI} (h : (List.range n).map tab.get = (List.range n).map (aiG P)) : dW P (lim n tab) := fun _ _ hk => aiF (XR h hk)
def apX (chk : Nat → List Oper → Bool) (f : Func) : Bool := !(f.name == "runtime.NumGoroutine") && (match f.body with | some c => iQ chk f.ntmps c | none => true)
def hAt {α : Type} (t : Tr (Tr α)) (g id : Nat) : Option α := match t.get g with
 | some u => u.get id
 | none => none
theorem akQ {n : Nat} {P8 : Tr Func} (h : (List.range n).map P8.get = (List.range n).map (fun g => P.funcs[g]?)) {chk : Nat → Nat → List Oper → Bool} (hc : (List.range n).all (fun g => match P8.get g with | some f => apX (chk g) f | none => true) = true) : ZY P chk (lim n P8) := by
 intro g fn hk
 have h1 := XR h hk
 refine ⟨h1, ?_⟩
 have hlt : g < n := by
  unfold lim at hk
  split at hk
  ·simp at hk
  ·rename_i hle
   rcases Nat.lt_or_ge g n with h | h
   ·exact h
   ·rw [Nat.ble_eq_true_of_le h] at hle; simp at hle
 have hget : P8.get g = some fn := by
  unfold lim at hk
  split at hk
  ·simp at hk
  ·exact hk
 have := List.all_eq_true.1 hc g (List.mem_range.2 hlt)
 rw [hget] at this
 simp only [apX, Bool.and_eq_true, Bool.not_eq_true'] at this
 refine ⟨this.1, fun c hb => ?_⟩
 rw [hb] at this
 exact this.2
end
end
end Go.As
end
section
namespace Go.As
noncomputable section
structure Ren where
 ns : List SE
 bl : List Nat
 sh : List Nat
def Ren.se (r : Ren) : SE → SE
 | .lit n => .lit n
 | .aA i => match gG r.ns i with | some e => e | none => .aA i
 | .add a b => .add (r.se a) (r.se b)
 | .sub a b => .sub (r.se a) (r.se b)
 | .mul a b => .mul (r.se a) (r.se b)
 | .quo a b => .quo (r.se a) (r.se b)
 | .rem a b => .rem (r.se a) (r.se b)
 | .wrap k a => .wrap k (r.se a)
 | .inp b e => .inp b (r.se e)
 | .dat d => .dat d
 | .op o a b => match o with
   | .len => dZ (r.se a)
   | o => .op o (r.se a) (r.se b)
 | .ap f a => .ap f (r.se a)
def Ren.sb (r : Ren) : SB → SB
 | .lit b => .lit b
 | .lt a b => jY (r.se a) (r.se b)
 | .le a b => .le (r.se a) (r.se b)
 | .eq a b => BL (r.se a) (r.se b)
 | .not s => .not (r.sb s)
 | .and a b => .and (r.sb a) (r.sb b)
def Ren.id (r : Ren) (i : Nat) : Nat := match gG r.bl i with | some j => j | none => 0
def Ren.yZ (r : Ren) (i : Nat) : Nat := match gG r.sh i with | some j => j | none => 0
mutual
def Ren.av (r : Ren) : AV → AV
 | .bool b => .bool (r.sb b)
 | .int k e => .int k (r.se e)
 | .str s => .str s
 | .ptr i o => .ptr (r.id i) (r.yZ i + o)
 | .jW => .jW
 | .qI cs => .qI (r.Ik cs)
 | .slice i o l c => .slice (r.id i) (r.yZ i + o) l c
 | .aP => .aP
 | .ro cs n f => .ro (r.Ik cs) n f
 | .map i => .map (r.id i)
 | .oZ => .oZ
 | .func f a b => .func f (r.Ik a) (r.Ik b)
 | .BO => .BO
 | .iface t v => .iface t (r.av v)
 | .D8 => .D8
 | .agg cs => .agg (r.Ik cs)
 | .tuple cs => .tuple (r.Ik cs)
 | .opq i => .opq i
 | .inp k ks => .inp k ks
 | .emp => .emp
 | .dat e t => .dat (r.se e) t
 | .lJ e => .lJ (r.se e)
 | .uM i n t => match r.yZ i with
   | 0 => .uM (r.id i) (r.se n) t
   | _ => .opq 0
 | .nY i es x o => match r.yZ i with
   | 0 => .nY (r.id i) es (r.se x) o
   | _ => .opq 0
 | .yX i lo n t => match r.yZ i with
   | 0 => .yX (r.id i) (r.se lo) (r.se n) t
   | _ => .opq 0
 | .any => .any
 | .Fv z t => .Fv (r.se z) t
def Ren.Ik (r : Ren) : List AV → List AV
 | [] => []
 | x :: xs => r.av x :: r.Ik xs
end
mutual
def oN (n : Nat) : AV → Bool
 | .ptr i _ => Nat.blt i n
 | .slice i _ _ _ => Nat.blt i n
 | .map i => Nat.blt i n
 | .uM i _ _ => Nat.blt i n
 | .nY i _ _ _ => Nat.blt i n
 | .yX i _ _ _ => Nat.blt i n
 | .qI cs => rH n cs
 | .ro cs _ _ => rH n cs
 | .func _ a b => rH n a && rH n b
 | .iface _ v => oN n v
 | .agg cs => rH n cs
 | .tuple cs => rH n cs
 | _ => true
def rH (n : Nat) : List AV → Bool
 | [] => true
 | x :: xs => oN n x && rH n xs
end
def Ren.env (r : Ren) (ρ : Nat → Int) (i : Nat) : Int := match gG r.ns i with | some e => e.den ρ | none => ρ i
theorem NI {α : Type} : ∀ {l : List α} {i : Nat}, l.length ≤ i → gG l i = none
 | [], _, _ => rfl
 | _ :: _, 0, h => by simp at h
 | _ :: l, i + 1, h => by simp only [gG]; exact NI (by simpa using h)
theorem Ren.nK {r : Ren} (h : r.ns.length ≤ 900) {ρ : Nat → Int} {i : Nat} (hi : 900 ≤ i) : r.env ρ i = ρ i := by
 unfold Ren.env
 rw [NI (by omega)]
theorem Ren.dR {r : Ren} (h : r.ns.length ≤ 900) (ρ : Nat → Int) : ∀ e : SE, (r.se e).den ρ = e.den (r.env ρ)
 | .lit n => rfl
 | .aA i => by
   simp only [Ren.se, SE.den, Ren.env]
   split <;> rfl
 | .add a b => by simp only [Ren.se, SE.den, Ren.dR h ρ a, Ren.dR h ρ b]
 | .sub a b => by simp only [Ren.se, SE.den, Ren.dR h ρ a, Ren.dR h ρ b]
 | .mul a b => by simp only [Ren.se, SE.den, Ren.dR h ρ a, Ren.dR h ρ b]
 | .quo a b => by simp only [Ren.se, SE.den, Ren.dR h ρ a, Ren.dR h ρ b]
 | .rem a b => by simp only [Ren.se, SE.den, Ren.dR h ρ a, Ren.dR h ρ b]
 | .wrap k a => by simp only [Ren.se, SE.den, Ren.dR h ρ a]
 | .inp b e => by
   simp only [Ren.se, SE.den, Ren.dR h ρ e]
   rw [Ren.nK h (by omega)]
 | .dat d => rfl
 | .op o a b => by
   cases o with
   | len =>
     simp only [Ren.se, dB, Ren.dR h ρ a]
     simp [SE.den, aN.den]
   | _ => simp only [Ren.se, SE.den, Ren.dR h ρ a, Ren.dR h ρ b]
 | .ap f a => by
   simp only [Ren.se, SE.den, Ren.dR h ρ a]
   rw [Ren.nK h (by unfold jT; omega)]
theorem Ren.FN {r : Ren} (h : r.ns.length ≤ 900) (ρ : Nat → Int) : ∀ c : SB, (r.sb c).den ρ = c.den (r.env ρ)
 | .lit b => rfl
 | .lt a b => by simp only [Ren.sb, dS, SB.den, Ren.dR h]
 | .le a b => by simp only [Ren.sb, SB.den, Ren.dR h]
 | .eq a b => by simp only [Ren.sb, kZ, SB.den, Ren.dR h]
 | .not s => by simp only [Ren.sb, SB.den, Ren.FN h ρ s]
 | .and a b => by simp only [Ren.sb, SB.den, Ren.FN h ρ a, Ren.FN h ρ b]
def En.ren (E : En) (r : Ren) : En := { ρ := r.env E.ρ, θ := fun i => ((E.θ (r.id i)).1, (E.θ (r.id i)).2 + r.yZ i), κ := fun i => E.κ (r.id i) - r.yZ i, dm := fun i => i < r.bl.length ∧ E.dm (r.id i), ro := E.ro }
theorem Aq {i n : Nat} (h : Nat.blt i n = true) : i < n := by
 have := Nat.le_of_ble_eq_true h
 omega
mutual
theorem VR.ren {E : En} {r : Ren} {h : Array Obj} (hl : r.ns.length ≤ 900) : ∀ (x : AV) (u : Value), oN r.bl.length x = true → VR E h (r.av x) u → VR (E.ren r) h x u
 | .bool b, u, _, hv => by simp only [Ren.av, VR, En.ren, Ren.FN hl] at *; exact hv
 | .int k e, u, _, hv => by simp only [Ren.av, VR, En.ren, Ren.dR hl] at *; exact hv
 | .str s, u, _, hv => by simp only [Ren.av, VR] at *; exact hv
 | .ptr i o, u, hi, hv => by simp only [Ren.av, VR, En.ren, oN] at *; exact ⟨by rw [hv.1, Nat.add_assoc], Aq hi, hv.2⟩
 | .jW, u, _, hv => by simp only [Ren.av, VR] at *; exact hv
 | .qI cs, u, hi, hv => by
   simp only [Ren.av, VR, oN] at *
   obtain ⟨b, o, us, h1, h2, h3, h4⟩ := hv
   exact ⟨b, o, us, h1, h2, bD.ren hl cs us hi h3, h4⟩
 | .slice i o l c, u, hi, hv => by
   simp only [Ren.av, VR, oN] at *
   obtain ⟨h1, a, cap, h2, h3, h4⟩ := hv
   refine ⟨⟨Aq hi, h1⟩, a, cap, h2, h3, ?_⟩
   cases c with
   | exact k =>
     simp only [fE, En.ren] at *
     exact ⟨h4.1, h4.2.imp (fun h => by rw [h, Nat.add_assoc]) id⟩
   | rest es =>
     simp only [fE, En.ren] at *
     rcases h4 with ⟨q1, q2⟩ | ⟨q1, q2, q3⟩
     ·exact .inl ⟨by rw [q1, Nat.add_assoc], by omega⟩
     ·exact .inr ⟨q1, q2, by omega⟩
 | .aP, u, _, hv => by simp only [Ren.av, VR] at *; exact hv
 | .ro cs n f, u, hi, hv => by
   simp only [Ren.av, VR, oN] at *
   obtain ⟨b, o, cap, us, h1, h2, h3, h4, h5, h6⟩ := hv
   exact ⟨b, o, cap, us, h1, h2, h3, h4, bD.ren hl cs us hi h5, h6⟩
 | .map i, u, hi, hv => by simp only [Ren.av, VR, En.ren, oN] at *; exact ⟨hv.1, Aq hi, hv.2⟩
 | .oZ, u, _, hv => by simp only [Ren.av, VR] at *; exact hv
 | .func f a b, u, hi, hv => by
   simp only [Ren.av, VR, oN, Bool.and_eq_true] at *
   obtain ⟨us, ws, h1, h2, h3⟩ := hv
   exact ⟨us, ws, h1, bD.ren hl a us hi.1 h2, bD.ren hl b ws hi.2 h3⟩
 | .BO, u, _, hv => by simp only [Ren.av, VR] at *; exact hv
 | .iface t v, u, hi, hv => by
   simp only [Ren.av, VR, oN] at *
   obtain ⟨y, h1, h2⟩ := hv
   exact ⟨y, h1, VR.ren hl v y hi h2⟩
 | .D8, u, _, hv => by simp only [Ren.av, VR] at *; exact hv
 | .agg cs, u, hi, hv => by
   simp only [Ren.av, VR, oN] at *
   obtain ⟨us, h1, h2⟩ := hv
   exact ⟨us, h1, bD.ren hl cs us hi h2⟩
 | .tuple cs, u, hi, hv => by
   simp only [Ren.av, VR, oN] at *
   obtain ⟨us, h1, h2⟩ := hv
   exact ⟨us, h1, bD.ren hl cs us hi h2⟩
 | .opq i, u, _, hv => by simp only [Ren.av, VR] at hv
 | .inp k ks, u, _, hv => by
   simp only [Ren.av, VR, En.ren] at *
   rw [Ren.nK hl (by omega)]
   rcases hv with hv | ⟨b, o, n, cap, h1, h2, h3, h4, h5⟩
   ·exact .inl hv
   ·refine .inr ⟨b, o, n, cap, h1, h2, h3, h4, fun i j kd hi hj => ?_⟩
    rw [Ren.nK hl (by omega)]
    exact h5 i j kd hi hj
 | .emp, u, _, hv => by simp only [Ren.av, VR] at *; exact hv
 | .dat e t, u, _, hv => by simp only [Ren.av, VR, En.ren, Ren.dR hl] at *; exact hv
 | .lJ e, u, _, hv => by simp only [Ren.av, VR, En.ren, Ren.dR hl] at *; exact hv
 | .uM i n t, u, hi, hv => by
   simp only [Ren.av] at hv
   split at hv
   ·rename_i hs
    simp only [VR, En.ren, oN, Ren.dR hl] at *
    obtain ⟨h1, k, a, cap, h2, h3, h4, h5⟩ := hv
    refine ⟨⟨Aq hi, h1⟩, k, a, cap, h2, h3, h4, ?_⟩
    simp only [fE, hs] at *
    simpa using h5
   ·simp [VR] at hv
 | .any, u, _, _ => by simp only [VR]
 | .Fv z t, u, _, hv => by simp only [Ren.av, VR, En.ren, Ren.dR hl] at *; exact hv
 | .yX i lo n t, u, hi, hv => by
   simp only [Ren.av] at hv
   split at hv
   ·rename_i hs
    simp only [VR, En.ren, oN, Ren.dR hl] at *
    obtain ⟨h1, l, k, a, cap, h2, h3, h4, h5, h6⟩ := hv
    refine ⟨⟨Aq hi, h1⟩, l, k, a, cap, h2, h3, h4, h5, ?_⟩
    simp only [fE, hs] at *
    simpa using h6
   ·simp [VR] at hv
 | .nY i es x o, u, hi, hv => by
   simp only [Ren.av] at hv
   split at hv
   ·rename_i hs
    simp only [VR, En.ren, oN, Ren.dR hl] at *
    obtain ⟨h1, k, h2, h3⟩ := hv
    exact ⟨⟨Aq hi, h1⟩, k, h2, by rw [h3, hs, Nat.add_zero]⟩
   ·simp [VR] at hv
theorem bD.ren {E : En} {r : Ren} {h : Array Obj} (hl : r.ns.length ≤ 900) : ∀ (xs : List AV) (us : List Value), rH r.bl.length xs = true → bD E h (r.Ik xs) us → bD (E.ren r) h xs us
 | [], us, _, hv => by simp only [Ren.Ik, bD] at *; exact hv
 | x :: xs, us, hi, hv => by
   simp only [Ren.Ik, bD, rH, Bool.and_eq_true] at *
   obtain ⟨u, vs, h1, h2, h3⟩ := hv
   exact ⟨u, vs, h1, VR.ren hl x u hi.1 h2, bD.ren hl xs vs hi.2 h3⟩
end
theorem amT {E : En} {r : Ren} {h : Array Obj} {xs ys : List AV} {us : List Value} (hs : jM (r.Ik xs) ys = true) (hv : bD E h ys us) : bD E h (r.Ik xs) us := by
 rw [fZ _ _ hs]; exact hv
def wH (r : Ren) : List (AV × AV × Nat) → List (AV × AV × Nat) → Bool
 | [], [] => true
 | (k, v, _) :: xs, (k', v', _) :: ys => match eG (r.av k) k' with
   | true => match eG (r.av v) v' with
     | true => wH r xs ys
     | false => false
   | false => false
 | _, _ => false
def Rf (n : Nat) : List (AV × AV × Nat) → Bool
 | [] => true
 | (k, v, _) :: xs => oN n k && oN n v && Rf n xs
def SY (n : Nat) : List (SE × List AV) → Bool
 | [] => true
 | (_, cs) :: l => rH n cs && SY n l
def oI (r : Ren) : List (SE × List AV) → List (SE × List AV) → Bool
 | [], [] => true
 | (i, a) :: x, (j, b) :: y => fK (r.se i) j && jM (r.Ik a) b && oI r x y
 | _, _ => false
def Zi (n : Nat) : dP → Bool
 | .vec _ _ _ ov => SY n ov
 | .cells cs _ => rH n cs
 | .map es _ => Rf n es
 | .mM _ _ => true
 | .iI _ _ => true
def gX (r : Ren) (k : Nat) : dP → dP → Bool
 | .cells cs e, .cells ds f => match Nat.beq e f with
   | true => match eY k ds with
     | some ds => jM (r.Ik cs) ds
     | none => false
   | false => false
 | .map es _, .map fs _ => wH r es fs
 | .mM s p, .mM t q => jC s t && Nat.beq p q && Nat.beq k 0
 | .iI e t, .iI e' t' => fK (r.se e) e' && Nat.beq t t' && Nat.beq k 0
 | .vec e t ty ov, .vec e' t' ty' uO => fK (r.se e) e' && Nat.beq t t' && Nat.beq ty ty' && oI r ov uO && Nat.beq k 0
 | _, _ => false
theorem eF.ren {E : En} {r : Ren} {h : Array Obj} (hl : r.ns.length ≤ 900) : ∀ {xs ys : List (AV × AV × Nat)} {es : List MapEntry}, Rf r.bl.length xs = true → wH r xs ys = true → eF E h ys es → eF (E.ren r) h xs es
 | [], [], es, _, _, h => by simp only [eF] at *; exact h
 | [], _ :: _, _, _, hs, _ => by simp [wH] at hs
 | (_, _, _) :: _, [], _, _, hs, _ => by simp [wH] at hs
 | (k, v, b) :: xs, (k', v', b') :: ys, es, hi, hs, h => by
   simp only [Rf, Bool.and_eq_true] at hi
   simp only [wH] at hs
   simp only [eF] at *
   obtain ⟨e, rr, rfl, h1, h2, _, h4⟩ := h
   split at hs
   ·rename_i e1
    split at hs
    ·rename_i e2
     refine ⟨e, rr, rfl, VR.ren hl k _ hi.1.1 (by rw [nT _ _ e1]; exact h1), VR.ren hl v _ hi.1.2 (by rw [nT _ _ e2]; exact h2), trivial, eF.ren hl hi.2 hs h4⟩
    ·simp at hs
   ·simp at hs
theorem uH {r : Ren} : ∀ xs : List AV, (r.Ik xs).length = xs.length
 | [] => rfl
 | _ :: xs => by simp [Ren.Ik, uH xs]
theorem Nw {r : Ren} (hl : r.ns.length ≤ 900) {ρ : Nat → Int} {i : Nat} : ∀ {ov uO : List (SE × List AV)}, oI r ov uO = true → dO ρ i uO = (dO (r.env ρ) i ov).map r.Ik
 | [], [], _ => rfl
 | [], _ :: _, h => by simp [oI] at h
 | _ :: _, [], h => by simp [oI] at h
 | (j, a) :: x, (k, b) :: y, h => by
   simp only [oI, Bool.and_eq_true] at h
   have h1 := bK _ _ h.1.1
   have h2 := fZ _ _ h.1.2
   simp only [dO]
   rw [← h1, Ren.dR hl, ← h2, Nw hl h.2]
   split <;> rfl
theorem Nv {n : Nat} : ∀ {ov : List (SE × List AV)}, SY n ov = true → ∀ p ∈ ov, rH n p.2 = true
 | [], _, p, hp => by simp at hp
 | (j, a) :: x, h, p, hp => by
   simp only [SY, Bool.and_eq_true] at h
   rcases List.mem_cons.1 hp with rfl | hp
   ·exact h.1
   ·exact Nv h.2 p hp
theorem EP {E : En} {r : Ren} {h : Array Obj} (hl : r.ns.length ≤ 900) {row : Row} {ov uO : List (SE × List AV)} (hs : oI r ov uO = true) (hi : SY r.bl.length ov = true) : ∀ (ds : List D) (i : Nat) {us : List Value},
 bD E h (aG E.ρ row uO ds i) us → bD (E.ren r) h (aG (E.ren r).ρ row ov ds i) us
 | [], _, us, hv => by simp only [aG, bD] at *; exact hv
 | d :: ds, i, us, hv => by
   simp only [aG] at *
   obtain ⟨a, b, rfl, h1, h2⟩ := hv.split
   refine bD.append ?_ (EP hl hs hi ds (i + 1) h2)
   rw [Nw hl hs] at h1
   show bD (E.ren r) h (match dO (r.env E.ρ) i ov with | some cs => cs | none => iR row (.dat d)) a
   cases ho : dO (r.env E.ρ) i ov with
   | none =>
     rw [ho] at h1
     simp only [Option.map_none] at h1
     exact (iE (E := E.ren r)).2 (show BX E.ro h row (dec (enc d)) a from (iE (E := E)).1 h1)
   | some cs =>
     rw [ho] at h1
     simp only [Option.map_some] at h1
     obtain ⟨p, p1, p2, _⟩ := mG ho
     exact bD.ren hl cs a (by rw [← p2]; exact Nv hi p p1) h1
theorem Jq {r : Ren} {row : Row} : ∀ {ov uO : List (SE × List AV)}, oI r ov uO = true → DY row uO → DY row ov
 | [], [], _, h => h
 | [], _ :: _, h, _ => by simp [oI] at h
 | _ :: _, [], h, _ => by simp [oI] at h
 | (j, a) :: x, (k, b) :: y, h, ho => by
   simp only [oI, Bool.and_eq_true] at h
   intro p hp
   rcases List.mem_cons.1 hp with rfl | hp
   ·have := congrArg List.length (fZ _ _ h.1.2)
    rw [uH] at this
    simp only
    rw [this]
    exact ho (k, b) (by simp)
   ·exact Jq h.2 (fun q hq => ho q (by simp [hq])) p hp
theorem OR.ren {E : En} {r : Ren} {h : Array Obj} (hl : r.ns.length ≤ 900) {id : Nat} {o o' : dP} (hi : Zi r.bl.length o = true) (hs : gX r (r.yZ id) o o' = true) (ho : OR E h (r.id id) o') : OR (E.ren r) h id o := by
 cases o with
 | cells cs e =>
   cases o' with
   | cells ds f =>
     simp only [gX] at hs
     simp only [Zi] at hi
     split at hs
     ·rename_i he
      have he := Nat.eq_of_beq_eq_true he
      subst he
      split at hs
      ·rename_i ds' hdr
       simp only [OR] at *
       obtain ⟨arr, lo, hi', us, h1, h2, h3, h4, h5, h6, h7⟩ := ho
       obtain ⟨g1, g2, g3⟩ := h2.eY hdr
       have hlen := congrArg List.length (fZ _ _ hs)
       rw [uH] at hlen
       refine ⟨arr, lo, hi', us.drop (r.yZ id), h1, bD.ren hl cs _ hi (amT hs g1), fun i u hu => ?_, ?_, ?_, h6, fun u hu => h7 u (List.mem_of_mem_drop hu)⟩
       ·rw [List.getElem?_drop] at hu
        have := h3 _ u hu
        show arr[(E.θ (r.id id)).2 + r.yZ id + i]? = some u
        rw [Nat.add_assoc]
        exact this
       ·show cs.length ≤ E.κ (r.id id) - r.yZ id
        omega
       ·show (E.θ (r.id id)).2 + r.yZ id + (E.κ (r.id id) - r.yZ id) = arr.size
        omega
      ·simp at hs
     ·simp at hs
   | map _ _ => simp [gX] at hs
   | mM _ _ => simp [gX] at hs
   | vec _ _ _ _ => simp [gX] at hs
   | iI _ _ => simp [gX] at hs
 | map es c =>
   cases o' with
   | map fs d =>
     simp only [gX] at hs
     simp only [Zi] at hi
     simp only [OR] at *
     obtain ⟨ents, c', h1, h2⟩ := ho
     exact ⟨ents, c', h1, eF.ren hl hi hs h2⟩
   | cells _ _ => simp [gX] at hs
   | mM _ _ => simp [gX] at hs
   | vec _ _ _ _ => simp [gX] at hs
   | iI _ _ => simp [gX] at hs
 | mM s p =>
   cases o' with
   | mM t q =>
     simp only [gX, Bool.and_eq_true] at hs
     have h1 := (pR _ _).1 hs.1.1
     have h2 := Nat.eq_of_beq_eq_true hs.1.2
     have h3 := Nat.eq_of_beq_eq_true hs.2
     subst h1 h2
     simp only [OR, En.ren, h3] at *
     exact ho
   | cells _ _ => simp [gX] at hs
   | map _ _ => simp [gX] at hs
   | vec _ _ _ _ => simp [gX] at hs
   | iI _ _ => simp [gX] at hs
 | iI e t =>
   cases o' with
   | cells _ _ => simp [gX] at hs
   | map _ _ => simp [gX] at hs
   | mM _ _ => simp [gX] at hs
   | vec _ _ _ _ => simp [gX] at hs
   | iI e' t' =>
     simp only [gX, Bool.and_eq_true] at hs
     have h1 := bK _ _ hs.1.1
     have h2 := Nat.eq_of_beq_eq_true hs.1.2
     subst h1 h2
     simp only [OR] at *
     have hden : e.den (E.ren r).ρ = (r.se e).den E.ρ := (Ren.dR hl E.ρ e).symm
     rw [hden]
     exact ho
 | vec e t ty ov =>
   cases o' with
   | cells _ _ => simp [gX] at hs
   | map _ _ => simp [gX] at hs
   | mM _ _ => simp [gX] at hs
   | iI _ _ => simp [gX] at hs
   | vec e' t' ty' uO =>
     simp only [gX, Bool.and_eq_true] at hs
     simp only [Zi] at hi
     have h1 := bK _ _ hs.1.1.1.1
     have h2 := Nat.eq_of_beq_eq_true hs.1.1.1.2
     have h3 := Nat.eq_of_beq_eq_true hs.1.1.2
     have h4 := Nat.eq_of_beq_eq_true hs.2
     have hov := hs.1.2
     subst h1 h2 h3
     simp only [OR] at *
     obtain ⟨h0, arr, lo, hi', us, q1, q2, q3, q4, q5, q6, q7⟩ := ho
     have hok := Jq hov h0.1
     have hden : e.den (E.ren r).ρ = (r.se e).den E.ρ := (Ren.dR hl E.ρ e).symm
     rw [hden]
     refine ⟨⟨hok, h0.2⟩, arr, lo, hi', us, q1, EP hl hov hi _ _ q2, ?_, ?_, ?_, q6, q7⟩
     ·intro i u hu
      show arr[(E.θ (r.id id)).2 + r.yZ id + i]? = some u
      rw [h4, Nat.add_zero]
      exact q3 i u hu
     ·show _ ≤ E.κ (r.id id) - r.yZ id
      rw [bQ hok, h4, Nat.sub_zero, ← bQ (ρ := E.ρ) h0.1]
      exact q4
     ·show (E.θ (r.id id)).2 + r.yZ id + (E.κ (r.id id) - r.yZ id) = arr.size
      rw [h4, Nat.add_zero, Nat.sub_zero]
      exact q5
end
end Go.As
end

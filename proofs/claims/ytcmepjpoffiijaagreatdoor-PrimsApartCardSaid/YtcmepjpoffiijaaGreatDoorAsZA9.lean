import GoSem.Claim
import Derived.Orders
import Derived.Scope
import Derived.LoopN
import Derived.Below
import GoSem.Core.View
import GoSem.Core.Layout
import GoSem.Op.Equal
import Derived.WalkKit
import Derived.Lib.Strings
import Derived.Laws.IdiomStrings
import Derived.Laws.RangeString
import Derived.Laws.StructEq
import Derived.Lib.Bytealg
import Derived.Lib.IndexMore
import Derived.Deep.LoopGhost
import Derived.IntWalk
import Derived.ChangeArms
import Derived.DataReads
import GoSem.ClaimJoined
import Derived.KernelRfl
import Derived.Test.YtcmepjpoffiijaaGreatDoorProg
import Derived.Shelf.Strings.Search3
import Derived.Shelf.LaysM
import Derived.Shelf.Strings.Shaped
import Derived.Test.YtcmepjpoffiijaaGreatDoorCards
import Derived.Test.YtcmepjpoffiijaaGreatDoorTie
import Derived.ProofKit
import Derived.OpenShut
import Derived.Deep.DeepHandedRow
import Derived.LaidLaws
import Derived.Test.YtcmepjpoffiijaaGreatDoorAsZA8
set_option linter.unusedSectionVars false
set_option linter.unusedVariables false
set_option linter.unusedSimpArgs false
section
namespace Go.As.Try
open Go hiding Stat Spec shape
open Go.As
set_option maxRecDepth 100000
theorem set_self {d : D} (hd : d = dL d.l) {i : Nat} (hi : i < d.l.length) : dL (iC d.l (i : Int) d.l[i]) = d := by
 rw [wC, List.set_getElem_self, ← hd]
theorem SC (a b c d e f x : D) : iC [a, b, c, d, e, f] 4 x = [a, b, c, d, x, f] := rfl
theorem SA (a b c d e f x : D) : iC [a, b, c, d, e, f] 5 x = [a, b, c, d, e, x] := rfl
theorem Ea : ¬ (enc (.i 2) = enc (.i 1)) := fun h => by have := oO h; simp at this
theorem len1 : (((D.i 1).l.length : Nat) : Int) = 0 := rfl
theorem len2 : (((D.i 2).l.length : Nat) : Int) = 0 := rfl
theorem PK : ¬ ((0 : Int) < 0) := by omega
theorem fA {r : D} (h : Wd (.sl 0) r) : r = .i 1 ∨ r = .i 2 ∨ ((0 : Int) < (r.l.length : Int) ∧ (r.l.length : Int) < 17592186044416) := by
 rcases h.sh with h1 | h1 | ⟨h1, h2⟩
 ·exact .inl h1
 ·exact .inr (.inl h1)
 ·have hr := h.room
  have h3 : EY 0 = 8 := rfl
  rw [h3] at hr
  have := List.length_pos_iff.2 h2
  exact .inr (.inr ⟨by omega, by omega⟩)
structure Th (d : D) : Prop where
 wd : Wd (.sl 7) d
 sh : d = dL d.l
 few : d.l.length ≤ 1759218604390
theorem Si {d : D} (h : Wd (.sl 7) d) (hn : 0 < d.l.length) : Th d := by
 refine ⟨h, ?_, ?_⟩
 ·rcases h.sh with rfl | rfl | ⟨h1, _⟩
  ·simp [D.l] at hn
  ·simp [D.l] at hn
  ·exact h1
 ·have hr := h.room
  have h3 : EY 7 = 80 := rfl
  rw [h3] at hr
  omega
theorem Ox (d : D) (h : Th d) : ∀ (j i : Nat), i + j = d.l.length → L 551 [enc d, (d.l.length : Int), (i : Int)] = some [enc d]
 | 0, i, hi => by
   have c1 : ¬ (i : Int) < (d.l.length : Int) := by omega
   rw [bM, atI]
   simp only [aiQ, zz, aN.den, Nat.reduceLT, c1, fin]
 | j + 1, i, hi => by
   have hl := h.few
   have hil : i < d.l.length := by omega
   have c1 : (i : Int) < (d.l.length : Int) := by omega
   have c2 : ¬ ((i : Int) < 0) := by omega
   have w := bJ (n := i) (by omega)
   have ih := Ox d h j (i + 1) (by omega)
   obtain ⟨o, c, dn, g, r, v, he, _, _, _, _, hr, hv⟩ := h.wd.thing _ (List.getElem_mem hil)
   have hs := set_self h.sh hil
   rw [he] at hs
   rw [bM, atI]
   rcases fA hr with rfl | rfl | ⟨r1, r2⟩ <;> rcases fA hv with rfl | rfl | ⟨v1, v2⟩
   all_goals
    simp only [aiQ, zz, aN.den, Nat.reduceLT, c1, c2, w, bV hil, he, jA, bC, List.getElem?_cons_zero, List.getElem?_cons_succ, SC, SA, hs, len1, len2, PK, Ea]
    try simp only [r1, r2, zz]
    try simp only [v1, v2, zz]
    try simp only [fin]
    exact ih
theorem agW (d : D) (h : Wd (.sl 7) d) : L 550 [enc d] = some [enc d] := by
 rw [bM, ayR]
 rcases h.sh with rfl | rfl | ⟨h1, h2⟩
 ·simp only [aaY, zz, aN.den, Nat.reduceLT, len1, PK, fin]
  rw [bM, ayQ]
  rfl
 ·simp only [aaY, zz, aN.den, Nat.reduceLT, len2, PK, Ea, fin]
  rw [bM, ayP]
  rfl
 ·have hp := List.length_pos_iff.2 h2
  have ht := Si h hp
  have hl := ht.few
  have c1 : (0 : Int) < (d.l.length : Int) := by omega
  have c2 : (d.l.length : Int) < 1759218604441 := by omega
  simp only [aaY, zz, aN.den, Nat.reduceLT, c1, c2, fin]
  exact Ox d ht d.l.length 0 (by omega)
theorem OB (d : D) (h : Th d) (gi : Nat) (x4 x5 x6 x7 x8 x9 : Int) : ∀ (j i : Nat), gi < i → i + j = d.l.length → L 9004 [(gi : Int), enc d, (d.l.length : Int), (i : Int), x4, x5, x6, x7, x8, x9] = some [3, (gi : Int), enc d, x4, x5, x6, x7, x8, x9]
 | 0, i, hg, hi => by
   have c1 : ¬ (i : Int) < (d.l.length : Int) := by omega
   have c0 : ¬ ((i : Int) = (gi : Int)) := by omega
   rw [bM, afF]
   simp only [Xo, zz, aN.den, Nat.reduceLT, c0, c1, fin]
 | j + 1, i, hg, hi => by
   have hl := h.few
   have hil : i < d.l.length := by omega
   have c1 : (i : Int) < (d.l.length : Int) := by omega
   have c2 : ¬ ((i : Int) < 0) := by omega
   have c0 : ¬ ((i : Int) = (gi : Int)) := by omega
   have w := bJ (n := i) (by omega)
   have ih := OB d h gi x4 x5 x6 x7 x8 x9 j (i + 1) (by omega) (by omega)
   obtain ⟨o, c, dn, g, r, v, he, _, _, _, _, hr, hv⟩ := h.wd.thing _ (List.getElem_mem hil)
   have hs := set_self h.sh hil
   rw [he] at hs
   rw [bM, afF]
   rcases fA hr with rfl | rfl | ⟨r1, r2⟩ <;> rcases fA hv with rfl | rfl | ⟨v1, v2⟩
   all_goals
    simp only [Xo, zz, aN.den, Nat.reduceLT, c0, c1, c2, w, bV hil, he, jA, bC, List.getElem?_cons_zero, List.getElem?_cons_succ, SC, SA, hs, len1, len2, PK, Ea]
    try simp only [r1, r2, zz]
    try simp only [v1, v2, zz]
    try simp only [fin]
    exact ih
theorem OA (d : D) (h : Th d) (gi : Nat) (x4 x5 x6 x7 x8 x9 : Int) : ∀ (j i : Nat), gi < i → i + j = d.l.length → L 9005 [(gi : Int), enc d, (d.l.length : Int), (i : Int), x4, x5, x6, x7, x8, x9] = some [4, (gi : Int), enc d, x4, x5, x6, x7, x8, x9]
 | 0, i, hg, hi => by
   have c1 : ¬ (i : Int) < (d.l.length : Int) := by omega
   have c0 : ¬ ((i : Int) = (gi : Int)) := by omega
   rw [bM, afE]
   simp only [Xn, zz, aN.den, Nat.reduceLT, c0, c1, fin]
 | j + 1, i, hg, hi => by
   have hl := h.few
   have hil : i < d.l.length := by omega
   have c1 : (i : Int) < (d.l.length : Int) := by omega
   have c2 : ¬ ((i : Int) < 0) := by omega
   have c0 : ¬ ((i : Int) = (gi : Int)) := by omega
   have w := bJ (n := i) (by omega)
   have ih := OA d h gi x4 x5 x6 x7 x8 x9 j (i + 1) (by omega) (by omega)
   obtain ⟨o, c, dn, g, r, v, he, _, _, _, _, hr, hv⟩ := h.wd.thing _ (List.getElem_mem hil)
   have hs := set_self h.sh hil
   rw [he] at hs
   rw [bM, afE]
   rcases fA hr with rfl | rfl | ⟨r1, r2⟩ <;> rcases fA hv with rfl | rfl | ⟨v1, v2⟩
   all_goals
    simp only [Xn, zz, aN.den, Nat.reduceLT, c0, c1, c2, w, bV hil, he, jA, bC, List.getElem?_cons_zero, List.getElem?_cons_succ, SC, SA, hs, len1, len2, PK, Ea]
    try simp only [r1, r2, zz]
    try simp only [v1, v2, zz]
    try simp only [fin]
    exact ih
theorem Oz (d : D) (h : Th d) (gi : Nat) (x4 x5 x6 x7 x8 x9 : Int) : ∀ (j i : Nat), gi < i → i + j = d.l.length → L 9006 [(gi : Int), enc d, (d.l.length : Int), (i : Int), x4, x5, x6, x7, x8, x9] = some [5, (gi : Int), enc d, x4, x5, x6, x7, x8, x9]
 | 0, i, hg, hi => by
   have c1 : ¬ (i : Int) < (d.l.length : Int) := by omega
   have c0 : ¬ ((i : Int) = (gi : Int)) := by omega
   rw [bM, afD]
   simp only [Xm, zz, aN.den, Nat.reduceLT, c0, c1, fin]
 | j + 1, i, hg, hi => by
   have hl := h.few
   have hil : i < d.l.length := by omega
   have c1 : (i : Int) < (d.l.length : Int) := by omega
   have c2 : ¬ ((i : Int) < 0) := by omega
   have c0 : ¬ ((i : Int) = (gi : Int)) := by omega
   have w := bJ (n := i) (by omega)
   have ih := Oz d h gi x4 x5 x6 x7 x8 x9 j (i + 1) (by omega) (by omega)
   obtain ⟨o, c, dn, g, r, v, he, _, _, _, _, hr, hv⟩ := h.wd.thing _ (List.getElem_mem hil)
   have hs := set_self h.sh hil
   rw [he] at hs
   rw [bM, afD]
   rcases fA hr with rfl | rfl | ⟨r1, r2⟩ <;> rcases fA hv with rfl | rfl | ⟨v1, v2⟩
   all_goals
    simp only [Xm, zz, aN.den, Nat.reduceLT, c0, c1, c2, w, bV hil, he, jA, bC, List.getElem?_cons_zero, List.getElem?_cons_succ, SC, SA, hs, len1, len2, PK, Ea]
    try simp only [r1, r2, zz]
    try simp only [v1, v2, zz]
    try simp only [fin]
    exact ih
theorem Oy (d : D) (h : Th d) (gi : Nat) (x4 x5 x6 x7 x8 x9 : Int) : ∀ (j i : Nat), gi < i → i + j = d.l.length → L 9007 [(gi : Int), enc d, (d.l.length : Int), (i : Int), x4, x5, x6, x7, x8, x9] = some [6, (gi : Int), enc d, x4, x5, x6, x7, x8, x9]
 | 0, i, hg, hi => by
   have c1 : ¬ (i : Int) < (d.l.length : Int) := by omega
   have c0 : ¬ ((i : Int) = (gi : Int)) := by omega
   rw [bM, afC]
   simp only [Xl, zz, aN.den, Nat.reduceLT, c0, c1, fin]
 | j + 1, i, hg, hi => by
   have hl := h.few
   have hil : i < d.l.length := by omega
   have c1 : (i : Int) < (d.l.length : Int) := by omega
   have c2 : ¬ ((i : Int) < 0) := by omega
   have c0 : ¬ ((i : Int) = (gi : Int)) := by omega
   have w := bJ (n := i) (by omega)
   have ih := Oy d h gi x4 x5 x6 x7 x8 x9 j (i + 1) (by omega) (by omega)
   obtain ⟨o, c, dn, g, r, v, he, _, _, _, _, hr, hv⟩ := h.wd.thing _ (List.getElem_mem hil)
   have hs := set_self h.sh hil
   rw [he] at hs
   rw [bM, afC]
   rcases fA hr with rfl | rfl | ⟨r1, r2⟩ <;> rcases fA hv with rfl | rfl | ⟨v1, v2⟩
   all_goals
    simp only [Xl, zz, aN.den, Nat.reduceLT, c0, c1, c2, w, bV hil, he, jA, bC, List.getElem?_cons_zero, List.getElem?_cons_succ, SC, SA, hs, len1, len2, PK, Ea]
    try simp only [r1, r2, zz]
    try simp only [v1, v2, zz]
    try simp only [fin]
    exact ih
def nM (r v : D) : Int := if 0 < r.l.length then (if 0 < v.l.length then 3 else 4) else (if 0 < v.l.length then 5 else 6)
theorem aoO (d : D) (h : Th d) (gi : Nat) (hgi : gi < d.l.length) (o c dn g : Int) (r v : D) (he' : d.l[gi] = dL [.i o, .i c, .i dn, .i g, r, v]) : ∀ (j i : Nat), i ≤ gi → i + j = gi →
 L 9001 [(gi : Int), enc d, (d.l.length : Int), (i : Int)] = some [nM r v, (gi : Int), enc d, o, c, dn, g, enc r, enc v]
 | 0, i, hg, hi => by
   obtain rfl : i = gi := by omega
   have hl := h.few
   have c1 : (i : Int) < (d.l.length : Int) := by omega
   have c2 : ¬ ((i : Int) < 0) := by omega
   have w := bJ (n := i) (by omega)
   obtain ⟨o', c', dn', g', r', v', he, _, _, _, _, hr, hv⟩ := h.wd.thing _ (List.getElem_mem hgi)
   rw [he'] at he
   have he := Gv he
   simp only [List.cons.injEq, D.i.injEq, and_true] at he
   obtain ⟨rfl, rfl, rfl, rfl, rfl, rfl⟩ := he
   have b4 := fun a b => OB d h i o c dn g a b (d.l.length - (i + 1)) (i + 1) (by omega) (by omega)
   have b5 := fun a b => OA d h i o c dn g a b (d.l.length - (i + 1)) (i + 1) (by omega) (by omega)
   have b6 := fun a b => Oz d h i o c dn g a b (d.l.length - (i + 1)) (i + 1) (by omega) (by omega)
   have b7 := fun a b => Oy d h i o c dn g a b (d.l.length - (i + 1)) (i + 1) (by omega) (by omega)
   rw [bM, Uj]
   rcases fA hr with rfl | rfl | ⟨r1, r2⟩
   ·rcases fA hv with rfl | rfl | ⟨v1, v2⟩
    ·simp only [sW, zz, aN.den, Nat.reduceLT, c1, c2, w, bV hgi, he', jA, bC, List.getElem?_cons_zero, List.getElem?_cons_succ, len1, PK, fin, b7]
     rw [nM, if_neg (by simp [D.l]), if_neg (by simp [D.l])]
    ·simp only [sW, zz, aN.den, Nat.reduceLT, c1, c2, w, bV hgi, he', jA, bC, List.getElem?_cons_zero, List.getElem?_cons_succ, len1, PK, len2, Ea, fin, b7]
     rw [nM, if_neg (by simp [D.l]), if_neg (by simp [D.l])]
    ·simp only [sW, zz, aN.den, Nat.reduceLT, c1, c2, w, bV hgi, he', jA, bC, List.getElem?_cons_zero, List.getElem?_cons_succ, len1, PK, v1, v2, fin, b6]
     rw [nM, if_neg (by simp [D.l]), if_pos (by omega)]
   ·rcases fA hv with rfl | rfl | ⟨v1, v2⟩
    ·simp only [sW, zz, aN.den, Nat.reduceLT, c1, c2, w, bV hgi, he', jA, bC, List.getElem?_cons_zero, List.getElem?_cons_succ, len2, PK, Ea, len1, fin, b7]
     rw [nM, if_neg (by simp [D.l]), if_neg (by simp [D.l])]
    ·simp only [sW, zz, aN.den, Nat.reduceLT, c1, c2, w, bV hgi, he', jA, bC, List.getElem?_cons_zero, List.getElem?_cons_succ, len2, PK, Ea, fin, b7]
     rw [nM, if_neg (by simp [D.l]), if_neg (by simp [D.l])]
    ·simp only [sW, zz, aN.den, Nat.reduceLT, c1, c2, w, bV hgi, he', jA, bC, List.getElem?_cons_zero, List.getElem?_cons_succ, len2, PK, Ea, v1, v2, fin, b6]
     rw [nM, if_neg (by simp [D.l]), if_pos (by omega)]
   ·rcases fA hv with rfl | rfl | ⟨v1, v2⟩
    ·simp only [sW, zz, aN.den, Nat.reduceLT, c1, c2, w, bV hgi, he', jA, bC, List.getElem?_cons_zero, List.getElem?_cons_succ, r1, r2, len1, PK, fin, b5]
     rw [nM, if_pos (by omega), if_neg (by simp [D.l])]
    ·simp only [sW, zz, aN.den, Nat.reduceLT, c1, c2, w, bV hgi, he', jA, bC, List.getElem?_cons_zero, List.getElem?_cons_succ, r1, r2, len2, PK, Ea, fin, b5]
     rw [nM, if_pos (by omega), if_neg (by simp [D.l])]
    ·simp only [sW, zz, aN.den, Nat.reduceLT, c1, c2, w, bV hgi, he', jA, bC, List.getElem?_cons_zero, List.getElem?_cons_succ, r1, r2, v1, v2, fin, b4]
     rw [nM, if_pos (by omega), if_pos (by omega)]
 | j + 1, i, hg, hi => by
   have hl := h.few
   have hil : i < d.l.length := by omega
   have c1 : (i : Int) < (d.l.length : Int) := by omega
   have c2 : ¬ ((i : Int) < 0) := by omega
   have c0 : ¬ ((i : Int) = (gi : Int)) := by omega
   have w := bJ (n := i) (by omega)
   have ih := aoO d h gi hgi o c dn g r v he' j (i + 1) (by omega) (by omega)
   clear he'
   obtain ⟨o2, c2', dn2, g2, r2', v2', he, _, _, _, _, hr, hv⟩ := h.wd.thing _ (List.getElem_mem hil)
   have hs := set_self h.sh hil
   rw [he] at hs
   rw [bM, Uj]
   rcases fA hr with rfl | rfl | ⟨r1, r2⟩ <;> rcases fA hv with rfl | rfl | ⟨v1, v2⟩
   all_goals
    simp only [sW, zz, aN.den, Nat.reduceLT, c0, c1, c2, w, bV hil, he, jA, bC, List.getElem?_cons_zero, List.getElem?_cons_succ, SC, SA, hs, len1, len2, PK, Ea]
    try simp only [r1, r2, zz]
    try simp only [v1, v2, zz]
    try simp only [fin]
    exact ih
theorem aoN (d : D) (h : Th d) (gi : Nat) (hgi : gi < d.l.length) (o c dn g : Int) (r v : D) (he' : d.l[gi] = dL [.i o, .i c, .i dn, .i g, r, v]) :
 L 9000 [(gi : Int), enc d] = some [nM r v, (gi : Int), enc d, o, c, dn, g, enc r, enc v] := by
 have hl := h.few
 have c1 : (0 : Int) < (d.l.length : Int) := by omega
 have c2 : (d.l.length : Int) < 1759218604441 := by omega
 rw [bM, afG]
 simp only [MH, zz, aN.den, Nat.reduceLT, c1, c2, fin]
 exact aoO d h gi hgi o c dn g r v he' gi 0 (by omega) (by omega)
def aAQ (d : D) (ys : List Int) : Prop := ∃ g, ys = [0, g, enc d] ∨ (ys = [1, g] ∧ d = .i 1) ∨ (ys = [2, g] ∧ d = .i 2)
theorem Lm (d : D) (h : Th d) (x : Int) (hx : x < 0 ∨ (d.l.length : Int) ≤ x) : ∀ (j i : Nat), i + j = d.l.length → L 9001 [x, enc d, (d.l.length : Int), (i : Int)] = some [0, x, enc d]
 | 0, i, hi => by
   have c1 : ¬ (i : Int) < (d.l.length : Int) := by omega
   rw [bM, Uj]
   by_cases c0 : (i : Int) = x
   ·simp only [sW, zz, aN.den, Nat.reduceLT, c0, fin]
    have c1 : ¬ x < (d.l.length : Int) := by omega
    simp only [if_neg c1]
   ·simp only [sW, zz, aN.den, Nat.reduceLT, c0, c1, fin]
 | j + 1, i, hi => by
   have hl := h.few
   have hil : i < d.l.length := by omega
   have c1 : (i : Int) < (d.l.length : Int) := by omega
   have c2 : ¬ ((i : Int) < 0) := by omega
   have c0 : ¬ ((i : Int) = x) := by omega
   have w := bJ (n := i) (by omega)
   have ih := Lm d h x hx j (i + 1) (by omega)
   obtain ⟨o, c, dn, g, r, v, he, _, _, _, _, hr, hv⟩ := h.wd.thing _ (List.getElem_mem hil)
   have hs := set_self h.sh hil
   rw [he] at hs
   rw [bM, Uj]
   rcases fA hr with rfl | rfl | ⟨r1, r2⟩ <;> rcases fA hv with rfl | rfl | ⟨v1, v2⟩
   all_goals
    simp only [sW, zz, aN.den, Nat.reduceLT, c0, c1, c2, w, bV hil, he, jA, bC, List.getElem?_cons_zero, List.getElem?_cons_succ, SC, SA, hs, len1, len2, PK, Ea]
    try simp only [r1, r2, zz]
    try simp only [v1, v2, zz]
    try simp only [fin]
    exact ih
theorem copyN (d : D) (h : Wd (.sl 7) d) (x : Int) (hx : x < 0 ∨ (d.l.length : Int) ≤ x) : Tot 9000 [x, enc d] (fun ys => ys = [0, x, enc d] ∨ (ys = [1, x] ∧ d = .i 1) ∨ (ys = [2, x] ∧ d = .i 2)) := by
 refine Tot.of ?_
 rw [afG]
 rcases h.sh with rfl | rfl | ⟨h1, h2⟩
 ·simp only [MH, zz, aN.den, Nat.reduceLT, len1, PK]
  refine .jump (Tot.of ?_)
  rw [anK]
  simp only [aaT, zz, aN.den, Nat.reduceLT]
  exact .ite (fun _ => .out (.inr (.inl rfl))) fun _ => .out (.inr (.inl rfl))
 ·simp only [MH, zz, aN.den, Nat.reduceLT, len2, PK, Ea]
  refine .jump (Tot.of ?_)
  rw [anJ]
  simp only [aaS, zz, aN.den, Nat.reduceLT]
  exact .ite (fun _ => .out (.inr (.inr rfl))) fun _ => .out (.inr (.inr rfl))
 ·have hp := List.length_pos_iff.2 h2
  have ht := Si h hp
  have hl := ht.few
  have c1 : (0 : Int) < (d.l.length : Int) := by omega
  have c2 : (d.l.length : Int) < 1759218604441 := by omega
  simp only [MH, zz, aN.den, Nat.reduceLT, c1, c2]
  exact .jump ⟨_, Lm d ht x hx d.l.length 0 (by omega), .inl rfl⟩
end Go.As.Try
end
section
namespace Go.As.Try
open Go hiding Stat Spec shape
open Go.As
set_option maxRecDepth 100000
def firstAt (t : Int) : List D → Nat → Int
 | [], _ => -1
 | x :: l, i => if x.n = t then (i : Int) else firstAt t l (i + 1)
def place (r : D) (t : Int) : Int := firstAt t r.l 0
def wo (t : Int) (l : List D) : List D := l.filter fun x => decide (x.n ≠ t)
theorem CB (t : Int) : ∀ (l : List D) (i : Nat), (firstAt t l i = -1 ∧ ∀ x ∈ l, x.n ≠ t) ∨ ∃ (k : Nat) (h : k < l.length), firstAt t l i = ((i + k : Nat) : Int) ∧ (l[k]).n = t ∧ ∀ x ∈ l.take k, x.n ≠ t
 | [], _ => .inl ⟨rfl, fun x h => absurd h (by simp)⟩
 | x :: l, i => by
   unfold firstAt
   by_cases hx : x.n = t
   ·rw [if_pos hx]
    exact .inr ⟨0, by simp, by simp, hx, by simp⟩
   ·rw [if_neg hx]
    rcases CB t l (i + 1) with ⟨h1, h2⟩ | ⟨k, hk, h1, h2, h3⟩
    ·exact .inl ⟨h1, fun y hy => by rcases List.mem_cons.1 hy with rfl | hy; exact hx; exact h2 y hy⟩
    ·refine .inr ⟨k + 1, by simp; omega, by rw [h1]; congr 1; omega, by simpa using h2, fun y hy => ?_⟩
     rw [List.take_succ_cons] at hy
     rcases List.mem_cons.1 hy with rfl | hy
     ·exact hx
     ·exact h3 y hy
theorem uS (r : D) (t : Int) : (place r t = -1 ∧ ∀ x ∈ r.l, x.n ≠ t) ∨ ∃ (k : Nat) (h : k < r.l.length), place r t = (k : Int) ∧ (r.l[k]).n = t ∧ ∀ x ∈ r.l.take k, x.n ≠ t := by
 have := CB t r.l 0
 simp only [Nat.zero_add] at this
 exact this
theorem iK (r : D) (t : Int) : -1 ≤ place r t ∧ place r t < (r.l.length : Int) := by
 rcases uS r t with ⟨h, _⟩ | ⟨k, hk, h, _⟩ <;> rw [h] <;> omega
theorem Ir {t : Int} {l : List D} (h : ∀ x ∈ l, x.n ≠ t) : wo t l = l := List.filter_eq_self.2 fun x hx => by simpa using h x hx
theorem yD {r : D} {t : Int} {i : Nat} (h : i < r.l.length) : firstAt t (r.l.drop i) i = if (r.at (i : Int)).n = t then (i : Int) else firstAt t (r.l.drop (i + 1)) (i + 1) := by
 rw [List.drop_eq_getElem_cons h, bV h]
 rfl
theorem adT (r : D) (t : Int) (hl : r.l.length ≤ 140737488351232) : ∀ (j i : Nat), i + j = r.l.length → L 851 [enc r, t, (r.l.length : Int), (i : Int)] = some [firstAt t (r.l.drop i) i]
 | 0, i, hi => by
   have c1 : ¬ (i : Int) < (r.l.length : Int) := by omega
   rw [List.drop_of_length_le (by omega), bM, afH]
   simp only [U5, zz, aN.den, Nat.reduceLT, c1, fin, firstAt]
 | j + 1, i, hi => by
   have c1 : (i : Int) < (r.l.length : Int) := by omega
   have c2 : ¬ ((i : Int) < 0) := by omega
   have w := bJ (n := i) (by omega)
   have ih := adT r t hl j (i + 1) (by omega)
   rw [yD (by omega), bM, afH]
   by_cases he : (r.at (i : Int)).n = t
   ·simp only [U5, zz, aN.den, Nat.reduceLT, c1, c2, he, fin]
   ·have he' : ¬ t = (r.at (i : Int)).n := fun h => he h.symm
    simp only [U5, zz, aN.den, Nat.reduceLT, c1, c2, if_neg he, if_neg he', w, fin, ih]
theorem dH (r : D) (t : Int) (hl : r.l.length ≤ 140737488351232) : L 850 [enc r, t] = some [place r t] := by
 have h := adT r t hl r.l.length 0 (by omega)
 rw [bM, atF]
 simp only [aiN, zz, aN.den, Nat.reduceLT, fin]
 exact h
theorem has_is (r : D) (t : Int) (hl : r.l.length ≤ 140737488351232) : L 900 [enc r, t] = some [if place r t < 0 then 0 else 1] := by
 rw [bM, atE]
 simp only [aiM, zz, aN.den, Nat.reduceLT, dH r t hl]
 split <;> rfl
theorem Eh (r : D) (t : Int) (hl : r.l.length ≤ 140737488351232) (y2 y3 y4 y5 y6 y7 y8 y9 oD oC nZ : Int) : ∀ (j i : Nat), i + j = r.l.length →
 L 12051 [enc r, t, y2, y3, y4, y5, y6, y7, y8, y9, oD, oC, nZ, (r.l.length : Int), (i : Int)] = some [0, enc r, t, y2, y3, y4, y5, y6, y7, y8, y9, oD, oC, nZ, firstAt t (r.l.drop i) i]
 | 0, i, hi => by
   have c1 : ¬ (i : Int) < (r.l.length : Int) := by omega
   rw [List.drop_of_length_le (by omega), bM, WO]
   simp only [Jh, zz, aN.den, Nat.reduceLT, c1, fin, firstAt]
 | j + 1, i, hi => by
   have c1 : (i : Int) < (r.l.length : Int) := by omega
   have c2 : ¬ ((i : Int) < 0) := by omega
   have w := bJ (n := i) (by omega)
   have ih := Eh r t hl y2 y3 y4 y5 y6 y7 y8 y9 oD oC nZ j (i + 1) (by omega)
   rw [yD (by omega), bM, WO]
   by_cases he : (r.at (i : Int)).n = t
   ·simp only [Jh, zz, aN.den, Nat.reduceLT, c1, c2, he, fin]
   ·simp only [Jh, zz, aN.den, Nat.reduceLT, c1, c2, if_neg he, w, fin, ih]
theorem akH (r : D) (t : Int) (hl : r.l.length ≤ 140737488351232) (y2 y3 y4 y5 y6 y7 y8 y9 oD oC nZ : Int) : L 12050 [enc r, t, y2, y3, y4, y5, y6, y7, y8, y9, oD, oC, nZ] = some [0, enc r, t, y2, y3, y4, y5, y6, y7, y8, y9, oD, oC, nZ, place r t] := by
 have h := Eh r t hl y2 y3 y4 y5 y6 y7 y8 y9 oD oC nZ r.l.length 0 (by omega)
 rw [bM, agI]
 simp only [Vp, zz, aN.den, Nat.reduceLT, fin]
 exact h
theorem Ef (r : D) (t : Int) (hl : r.l.length ≤ 140737488351232) (y2 y3 y4 y5 y6 y7 y8 y9 oD oC nZ : Int) : ∀ (j i : Nat), i + j = r.l.length →
 L 12151 [enc r, t, y2, y3, y4, y5, y6, y7, y8, y9, oD, oC, nZ, (r.l.length : Int), (i : Int)] = some [0, enc r, t, y2, y3, y4, y5, y6, y7, y8, y9, oD, oC, nZ, firstAt t (r.l.drop i) i]
 | 0, i, hi => by
   have c1 : ¬ (i : Int) < (r.l.length : Int) := by omega
   rw [List.drop_of_length_le (by omega), bM, WL]
   simp only [Jf, zz, aN.den, Nat.reduceLT, c1, fin, firstAt]
 | j + 1, i, hi => by
   have c1 : (i : Int) < (r.l.length : Int) := by omega
   have c2 : ¬ ((i : Int) < 0) := by omega
   have w := bJ (n := i) (by omega)
   have ih := Ef r t hl y2 y3 y4 y5 y6 y7 y8 y9 oD oC nZ j (i + 1) (by omega)
   rw [yD (by omega), bM, WL]
   by_cases he : (r.at (i : Int)).n = t
   ·simp only [Jf, zz, aN.den, Nat.reduceLT, c1, c2, he, fin]
   ·simp only [Jf, zz, aN.den, Nat.reduceLT, c1, c2, if_neg he, w, fin, ih]
theorem akG (r : D) (t : Int) (hl : r.l.length ≤ 140737488351232) (y2 y3 y4 y5 y6 y7 y8 y9 oD oC nZ : Int) : L 12150 [enc r, t, y2, y3, y4, y5, y6, y7, y8, y9, oD, oC, nZ] = some [0, enc r, t, y2, y3, y4, y5, y6, y7, y8, y9, oD, oC, nZ, place r t] := by
 have h := Ef r t hl y2 y3 y4 y5 y6 y7 y8 y9 oD oC nZ r.l.length 0 (by omega)
 rw [bM, agH]
 simp only [Vo, zz, aN.den, Nat.reduceLT, fin]
 exact h
theorem AO {t : Int} {l : List D} {j : Nat} (h : j < l.length) : wo t (l.take (j + 1)) = if (l[j]).n = t then wo t (l.take j) else wo t (l.take j) ++ [l[j]] := by
 unfold wo
 rw [List.take_succ_eq_append_getElem h, List.filter_append]
 by_cases he : (l[j]).n = t
 ·simp [he]
 ·simp [he]
theorem aaH (t : Int) (l : List D) : (wo t l).length ≤ l.length := List.length_filter_le _ _
theorem yK (r0 : D) (t : Int) (l0 : List D) (hl : l0.length ≤ 140737488351232) (hn : ∀ x ∈ l0, x = .i x.n) (y2 y3 y4 y5 y6 y7 y8 y9 oD oC nZ : Int) : ∀ (m i j : Nat) (r : D), r.l.length = l0.length → i < j → j + m = l0.length → r.l.drop j = l0.drop j → r.l.take i = wo t (l0.take j) →
 ∃ (n : Nat) (r' : D), n < l0.length ∧ r'.l.length = l0.length ∧ r'.l.take n = wo t l0 ∧ L 12001 [enc r0, t, y2, y3, y4, y5, y6, y7, y8, y9, oD, oC, nZ, enc r, (i : Int), (j : Int)] = some [1, enc r0, t, y2, y3, y4, y5, y6, y7, y8, y9, oD, oC, nZ, (n : Int), enc r', (l0.length : Int)]
 | 0, i, j, r, hr, h1, h2, h3, h4 => by
   have c1 : ¬ (j : Int) < (l0.length : Int) := by omega
   have c2 : ¬ ((i : Int) < 0) := by omega
   have c3 : ¬ ((l0.length : Int) < (i : Int)) := by omega
   have c4 : ¬ ((l0.length : Int) - (i : Int) < 0) := by omega
   have c5 : (i : Int) + ((l0.length : Int) - (i : Int)) = (l0.length : Int) := by omega
   refine ⟨i, dL (r.l.take i ++ List.replicate (r.l.length - i) (.i 0)), by omega, by rw [bC]; simp only [List.length_append, List.length_take, List.length_replicate]; omega, ?_, ?_⟩
   ·rw [bC, List.take_append_of_le_length (by rw [List.length_take]; omega), List.take_take, Nat.min_self, h4, List.take_of_length_le (by omega)]
   ·rw [bM, Rj]
    simp only [Ji, zz, aN.den, Nat.reduceLT, c1, c2, c3, c4, c5, Int.toNat_natCast, fin, hr]
 | m + 1, i, j, r, hr, h1, h2, h3, h4 => by
   have c1 : (j : Int) < (l0.length : Int) := by omega
   have c2 : ¬ ((j : Int) < 0) := by omega
   have w := bJ (n := j) (by omega)
   have hj : j < r.l.length := by omega
   have hj0 : j < l0.length := by omega
   have hx : r.at (j : Int) = l0[j] := by
    rw [bV hj]
    rw [List.drop_eq_getElem_cons hj, List.drop_eq_getElem_cons hj0] at h3
    exact (List.cons.inj h3).1
   have h3' : r.l.drop (j + 1) = l0.drop (j + 1) := by
    rw [List.drop_eq_getElem_cons hj, List.drop_eq_getElem_cons hj0] at h3
    exact (List.cons.inj h3).2
   by_cases he : (r.at (j : Int)).n = t
   ·obtain ⟨n, r', q1, q2, q3, ih⟩ := yK r0 t l0 hl hn y2 y3 y4 y5 y6 y7 y8 y9 oD oC nZ m i (j + 1) r hr (by omega) (by omega) h3' (by rw [AO hj0, ← hx, if_pos he, h4])
    refine ⟨n, r', q1, q2, q3, ?_⟩
    rw [bM, Rj]
    simp only [Ji, zz, aN.den, Nat.reduceLT, c1, c2, he, w, hr, fin, ih]
   ·have c3 : ¬ ((i : Int) < 0) := by omega
    have c4 : (i : Int) < (l0.length : Int) := by omega
    have w2 := bJ (n := i) (by omega)
    have hs : iC r.l (i : Int) (.i (r.at (j : Int)).n) = r.l.set i l0[j] := by rw [wC, hx, ← hn _ (List.getElem_mem hj0)]
    obtain ⟨n, r', q1, q2, q3, ih⟩ := yK r0 t l0 hl hn y2 y3 y4 y5 y6 y7 y8 y9 oD oC nZ m (i + 1) (j + 1) (dL (iC r.l (i : Int) (.i (r.at (j : Int)).n))) (by rw [bC, iM, hr]) (by omega) (by omega)
     (by rw [bC, hs, List.drop_set_of_lt (by omega), h3'])
     (by rw [bC, hs, List.take_succ_eq_append_getElem (by rw [List.length_set]; omega), List.take_set_of_le (Nat.le_refl _), List.getElem_set_self, h4, AO hj0, ← hx, if_neg he])
    refine ⟨n, r', q1, q2, q3, ?_⟩
    rw [bM, Rj]
    simp only [Ji, zz, aN.den, Nat.reduceLT, c1, c2, c3, c4, if_neg he, w, w2, hr, fin, ih]
theorem amF (r : D) (t : Int) (hl : r.l.length ≤ 140737488351232) (hn : ∀ x ∈ r.l, x = .i x.n) : (wo t r.l = r.l ∧ ∀ y2 y3 y4 y5 y6 y7 y8 y9 oD oC nZ : Int, L 12000 [enc r, t, y2, y3, y4, y5, y6, y7, y8, y9, oD, oC, nZ] = some [0, enc r, t, y2, y3, y4, y5, y6, y7, y8, y9, oD, oC, nZ]) ∨
 ∀ y2 y3 y4 y5 y6 y7 y8 y9 oD oC nZ : Int, ∃ (n : Nat) (r' : D), n < r.l.length ∧ r'.l.length = r.l.length ∧ r'.l.take n = wo t r.l ∧ L 12000 [enc r, t, y2, y3, y4, y5, y6, y7, y8, y9, oD, oC, nZ] = some [1, enc r, t, y2, y3, y4, y5, y6, y7, y8, y9, oD, oC, nZ, (n : Int), enc r', (r.l.length : Int)] := by
 have h := akH r t hl
 rcases uS r t with ⟨hp, hno⟩ | ⟨i, hi, hp, hat, hno⟩
 ·refine .inl ⟨Ir hno, fun y2 y3 y4 y5 y6 y7 y8 y9 oD oC nZ => ?_⟩
  have h' := h y2 y3 y4 y5 y6 y7 y8 y9 oD oC nZ
  clear h
  rw [hp] at h'
  rw [bM, WQ, O7, dN, if_pos, dN, if_pos, dN, if_pos]
  ·simp only [jH, List.map, bF, aY, aH, aK, Nat.reduceLT, fin]
  ·simp only [Qm3, iD, bF, fQ, gY, List.map, aY, Nat.reduceLT, aH, aK]
   rw [h']
   simp only [aH, aK, Option.isSome_some, Option.getD_some, if_true]
  ·simp only [iD, bF, fQ, gY, List.map, aY, Nat.reduceLT, aH, aK]
   rw [h']
   simp only [aH, aK, Option.isSome_some, Option.getD_some, if_true]
  ·simp only [iD, bF, fQ, gY, List.map, aY, Nat.reduceLT, aH, aK]
   rw [h']
   simp only [aH, aK, Option.isSome_some, Option.getD_some, if_true]
 ·refine .inr fun y2 y3 y4 y5 y6 y7 y8 y9 oD oC nZ => ?_
  have h' := h y2 y3 y4 y5 y6 y7 y8 y9 oD oC nZ
  clear h
  rw [hp] at h'
  have w := bJ (n := i) (by omega)
  have h0 : r.l.take i = wo t (r.l.take (i + 1)) := by rw [AO hi, if_pos hat, Ir hno]
  obtain ⟨n, r', q1, q2, q3, ih⟩ := yK r t r.l hl hn y2 y3 y4 y5 y6 y7 y8 y9 oD oC nZ (r.l.length - (i + 1)) i (i + 1) r rfl (by omega) (by omega) rfl h0
  refine ⟨n, r', q1, q2, q3, ?_⟩
  rw [bM, WQ, O7, dN, if_pos, dN, if_pos, dN, if_neg]
  ·simp only [jI, List.map, Qm3, bF, fQ, Ah, den_add, aY, aH, aK, Nat.reduceLT]
   rw [h']
   simp only [aH, aK, Option.getD_some, w, fin]
   rw [ih]
  ·simp only [Qm3, iD, bF, fQ, gY, List.map, aY, Nat.reduceLT, aH, aK]
   rw [h']
   simp only [aH, aK, Option.isSome_some, Option.getD_some, if_true]
   omega
  ·simp only [iD, bF, fQ, gY, List.map, aY, Nat.reduceLT, aH, aK]
   rw [h']
   simp only [aH, aK, Option.isSome_some, Option.getD_some, if_true]
  ·simp only [iD, bF, fQ, gY, List.map, aY, Nat.reduceLT, aH, aK]
   rw [h']
   simp only [aH, aK, Option.isSome_some, Option.getD_some, if_true]
theorem yJ (r0 : D) (t : Int) (l0 : List D) (hl : l0.length ≤ 140737488351232) (hn : ∀ x ∈ l0, x = .i x.n) (y2 y3 y4 y5 y6 y7 y8 y9 oD oC nZ : Int) : ∀ (m i j : Nat) (r : D), r.l.length = l0.length → i < j → j + m = l0.length → r.l.drop j = l0.drop j → r.l.take i = wo t (l0.take j) →
 ∃ (n : Nat) (r' : D), n < l0.length ∧ r'.l.length = l0.length ∧ r'.l.take n = wo t l0 ∧ L 12101 [enc r0, t, y2, y3, y4, y5, y6, y7, y8, y9, oD, oC, nZ, enc r, (i : Int), (j : Int)] = some [1, enc r0, t, y2, y3, y4, y5, y6, y7, y8, y9, oD, oC, nZ, (n : Int), enc r', (l0.length : Int)]
 | 0, i, j, r, hr, h1, h2, h3, h4 => by
   have c1 : ¬ (j : Int) < (l0.length : Int) := by omega
   have c2 : ¬ ((i : Int) < 0) := by omega
   have c3 : ¬ ((l0.length : Int) < (i : Int)) := by omega
   have c4 : ¬ ((l0.length : Int) - (i : Int) < 0) := by omega
   have c5 : (i : Int) + ((l0.length : Int) - (i : Int)) = (l0.length : Int) := by omega
   refine ⟨i, dL (r.l.take i ++ List.replicate (r.l.length - i) (.i 0)), by omega, by rw [bC]; simp only [List.length_append, List.length_take, List.length_replicate]; omega, ?_, ?_⟩
   ·rw [bC, List.take_append_of_le_length (by rw [List.length_take]; omega), List.take_take, Nat.min_self, h4, List.take_of_length_le (by omega)]
   ·rw [bM, Ri]
    simp only [Jg, zz, aN.den, Nat.reduceLT, c1, c2, c3, c4, c5, Int.toNat_natCast, fin, hr]
 | m + 1, i, j, r, hr, h1, h2, h3, h4 => by
   have c1 : (j : Int) < (l0.length : Int) := by omega
   have c2 : ¬ ((j : Int) < 0) := by omega
   have w := bJ (n := j) (by omega)
   have hj : j < r.l.length := by omega
   have hj0 : j < l0.length := by omega
   have hx : r.at (j : Int) = l0[j] := by
    rw [bV hj]
    rw [List.drop_eq_getElem_cons hj, List.drop_eq_getElem_cons hj0] at h3
    exact (List.cons.inj h3).1
   have h3' : r.l.drop (j + 1) = l0.drop (j + 1) := by
    rw [List.drop_eq_getElem_cons hj, List.drop_eq_getElem_cons hj0] at h3
    exact (List.cons.inj h3).2
   by_cases he : (r.at (j : Int)).n = t
   ·obtain ⟨n, r', q1, q2, q3, ih⟩ := yJ r0 t l0 hl hn y2 y3 y4 y5 y6 y7 y8 y9 oD oC nZ m i (j + 1) r hr (by omega) (by omega) h3' (by rw [AO hj0, ← hx, if_pos he, h4])
    refine ⟨n, r', q1, q2, q3, ?_⟩
    rw [bM, Ri]
    simp only [Jg, zz, aN.den, Nat.reduceLT, c1, c2, he, w, hr, fin, ih]
   ·have c3 : ¬ ((i : Int) < 0) := by omega
    have c4 : (i : Int) < (l0.length : Int) := by omega
    have w2 := bJ (n := i) (by omega)
    have hs : iC r.l (i : Int) (.i (r.at (j : Int)).n) = r.l.set i l0[j] := by rw [wC, hx, ← hn _ (List.getElem_mem hj0)]
    obtain ⟨n, r', q1, q2, q3, ih⟩ := yJ r0 t l0 hl hn y2 y3 y4 y5 y6 y7 y8 y9 oD oC nZ m (i + 1) (j + 1) (dL (iC r.l (i : Int) (.i (r.at (j : Int)).n))) (by rw [bC, iM, hr]) (by omega) (by omega)
     (by rw [bC, hs, List.drop_set_of_lt (by omega), h3'])
     (by rw [bC, hs, List.take_succ_eq_append_getElem (by rw [List.length_set]; omega), List.take_set_of_le (Nat.le_refl _), List.getElem_set_self, h4, AO hj0, ← hx, if_neg he])
    refine ⟨n, r', q1, q2, q3, ?_⟩
    rw [bM, Ri]
    simp only [Jg, zz, aN.den, Nat.reduceLT, c1, c2, c3, c4, if_neg he, w, w2, hr, fin, ih]
theorem amE (r : D) (t : Int) (hl : r.l.length ≤ 140737488351232) (hn : ∀ x ∈ r.l, x = .i x.n) : (wo t r.l = r.l ∧ ∀ y2 y3 y4 y5 y6 y7 y8 y9 oD oC nZ : Int, L 12100 [enc r, t, y2, y3, y4, y5, y6, y7, y8, y9, oD, oC, nZ] = some [0, enc r, t, y2, y3, y4, y5, y6, y7, y8, y9, oD, oC, nZ]) ∨
 ∀ y2 y3 y4 y5 y6 y7 y8 y9 oD oC nZ : Int, ∃ (n : Nat) (r' : D), n < r.l.length ∧ r'.l.length = r.l.length ∧ r'.l.take n = wo t r.l ∧ L 12100 [enc r, t, y2, y3, y4, y5, y6, y7, y8, y9, oD, oC, nZ] = some [1, enc r, t, y2, y3, y4, y5, y6, y7, y8, y9, oD, oC, nZ, (n : Int), enc r', (r.l.length : Int)] := by
 have h := akG r t hl
 rcases uS r t with ⟨hp, hno⟩ | ⟨i, hi, hp, hat, hno⟩
 ·refine .inl ⟨Ir hno, fun y2 y3 y4 y5 y6 y7 y8 y9 oD oC nZ => ?_⟩
  have h' := h y2 y3 y4 y5 y6 y7 y8 y9 oD oC nZ
  clear h
  rw [hp] at h'
  rw [bM, WM, O6, dN, if_pos, dN, if_pos, dN, if_pos]
  ·simp only [jH, List.map, bF, aY, aH, aK, Nat.reduceLT, fin]
  ·simp only [Qnf, iD, bF, fQ, gY, List.map, aY, Nat.reduceLT, aH, aK]
   rw [h']
   simp only [aH, aK, Option.isSome_some, Option.getD_some, if_true]
  ·simp only [iD, bF, fQ, gY, List.map, aY, Nat.reduceLT, aH, aK]
   rw [h']
   simp only [aH, aK, Option.isSome_some, Option.getD_some, if_true]
  ·simp only [iD, bF, fQ, gY, List.map, aY, Nat.reduceLT, aH, aK]
   rw [h']
   simp only [aH, aK, Option.isSome_some, Option.getD_some, if_true]
 ·refine .inr fun y2 y3 y4 y5 y6 y7 y8 y9 oD oC nZ => ?_
  have h' := h y2 y3 y4 y5 y6 y7 y8 y9 oD oC nZ
  clear h
  rw [hp] at h'
  have w := bJ (n := i) (by omega)
  have h0 : r.l.take i = wo t (r.l.take (i + 1)) := by rw [AO hi, if_pos hat, Ir hno]
  obtain ⟨n, r', q1, q2, q3, ih⟩ := yJ r t r.l hl hn y2 y3 y4 y5 y6 y7 y8 y9 oD oC nZ (r.l.length - (i + 1)) i (i + 1) r rfl (by omega) (by omega) rfl h0
  refine ⟨n, r', q1, q2, q3, ?_⟩
  rw [bM, WM, O6, dN, if_pos, dN, if_pos, dN, if_neg]
  ·simp only [jI, List.map, Qnf, bF, fQ, Ah, den_add, aY, aH, aK, Nat.reduceLT]
   rw [h']
   simp only [aH, aK, Option.getD_some, w, fin]
   rw [ih]
  ·simp only [Qnf, iD, bF, fQ, gY, List.map, aY, Nat.reduceLT, aH, aK]
   rw [h']
   simp only [aH, aK, Option.isSome_some, Option.getD_some, if_true]
   omega
  ·simp only [iD, bF, fQ, gY, List.map, aY, Nat.reduceLT, aH, aK]
   rw [h']
   simp only [aH, aK, Option.isSome_some, Option.getD_some, if_true]
  ·simp only [iD, bF, fQ, gY, List.map, aY, Nat.reduceLT, aH, aK]
   rw [h']
   simp only [aH, aK, Option.isSome_some, Option.getD_some, if_true]
theorem amD (r : D) (t : Int) : ∀ y2 y3 y4 y5 y6 y7 y8 y9 oD oC nZ : Int, L 12200 [enc r, t, y2, y3, y4, y5, y6, y7, y8, y9, oD, oC, nZ] = some [0, enc r, t, y2, y3, y4, y5, y6, y7, y8, y9, oD, oC, nZ] := by
 intro y2 y3 y4 y5 y6 y7 y8 y9 oD oC nZ
 have h : L 12250 [enc r, t, y2, y3, y4, y5, y6, y7, y8, y9, oD, oC, nZ] = some [0, enc r, t, y2, y3, y4, y5, y6, y7, y8, y9, oD, oC, nZ] := by
  rw [bM, agF]
  simp only [Vl, zz, aN.den, Nat.reduceLT, fin]
  rw [bM, agE]
  simp only [Vk, zz, aN.den, Nat.reduceLT, fin]
 have h' := h
 clear h
 rw [bM, agG, Vm, dN, if_pos, dN, if_pos]
 ·simp only [jH, List.map, bF, aY, aH, aK, Nat.reduceLT, fin]
 ·simp only [iD, bF, fQ, gY, List.map, aY, Nat.reduceLT, aH, aK]
  rw [h']
  simp only [aH, aK, Option.isSome_some, Option.getD_some, if_true]
 ·simp only [iD, bF, fQ, gY, List.map, aY, Nat.reduceLT, aH, aK]
  rw [h']
  simp only [aH, aK, Option.isSome_some, Option.getD_some, if_true]
theorem amC (r : D) (t : Int) : ∀ y2 y3 y4 y5 y6 y7 y8 y9 oD oC nZ : Int, L 12300 [enc r, t, y2, y3, y4, y5, y6, y7, y8, y9, oD, oC, nZ] = some [0, enc r, t, y2, y3, y4, y5, y6, y7, y8, y9, oD, oC, nZ] := by
 intro y2 y3 y4 y5 y6 y7 y8 y9 oD oC nZ
 have h : L 12350 [enc r, t, y2, y3, y4, y5, y6, y7, y8, y9, oD, oC, nZ] = some [0, enc r, t, y2, y3, y4, y5, y6, y7, y8, y9, oD, oC, nZ] := by
  rw [bM, agC]
  simp only [Vh, zz, aN.den, Nat.reduceLT, fin]
  rw [bM, agB]
  simp only [Vg, zz, aN.den, Nat.reduceLT, fin]
 have h' := h
 clear h
 rw [bM, agD, Vj, dN, if_pos, dN, if_pos]
 ·simp only [jH, List.map, bF, aY, aH, aK, Nat.reduceLT, fin]
 ·simp only [iD, bF, fQ, gY, List.map, aY, Nat.reduceLT, aH, aK]
  rw [h']
  simp only [aH, aK, Option.isSome_some, Option.getD_some, if_true]
 ·simp only [iD, bF, fQ, gY, List.map, aY, Nat.reduceLT, aH, aK]
  rw [h']
  simp only [aH, aK, Option.isSome_some, Option.getD_some, if_true]
end Go.As.Try
end
section
namespace Go.As.Try
open Go hiding Stat Spec shape
open Go.As
set_option maxRecDepth 100000
def apO (d x : D) (m : Nat) : List Int := [(d.hd 0).n, enc (d.hd 1), (d.hd 2).n, enc (d.hd 3), (d.hd 4).n, (x.hd 0).n, (x.hd 1).n, (if (x.hd 2).n = 0 then 0 else 1), (x.hd 3).n, enc (x.hd 4), enc (x.hd 5), (m : Int)]
def Snd (d x : D) (m : Nat) : Prop := L 500 (apO d x m) = some [1]
theorem ajJ (d x : D) (m : Nat) (h : (x.hd 4).l.length ≤ 140737488351232) : ∃ c, L 500 (apO d x m) = some [c] ∧ (c = 0 ∨ c = 1) := by
 obtain ⟨ys, h1, c, rfl, hc⟩ := Vs (d.hd 0).n (enc (d.hd 1)) (d.hd 2).n (enc (d.hd 3)) (d.hd 4).n (x.hd 0).n (x.hd 1).n (if (x.hd 2).n = 0 then 0 else 1) (x.hd 3).n (m : Int) (x.hd 4) (x.hd 5) h
 exact ⟨c, h1, hc⟩
theorem aO : ((1 : Int) = 0) = False := by simp
def Vu (s : D) : Prop := ∀ x ∈ s.l, (x.hd 4).l.length ≤ 140737488351232
section
variable {d0 d1 s : D} (hr : Vu s) (hle : s.l.length = d0.l.length) (hlen : d0.l.length ≤ 140737488351232)
include hr hle hlen
theorem Jt : ∀ (j i : Nat), i + j = s.l.length → ∃ b : Int, L 351 [enc s, (s.l.length : Int), (i : Int), enc d0, enc d1] = some [b] ∧ (b = 0 ∨ b = 1) ∧
 (b = 1 ↔ ∀ (k : Nat) (hk : k < s.l.length), i ≤ k → Snd (d0.l[k]'(hle ▸ hk)) s.l[k] d1.l.length)
 | 0, i, hi => by
   have c1 : ¬ (i : Int) < (s.l.length : Int) := by omega
   refine ⟨1, ?_, .inr rfl, fun _ k hk h => absurd hk (by omega), fun _ => rfl⟩
   rw [bM, alT]
   simp only [U6, zz, aN.den, Nat.reduceLT, c1, fin]
 | j + 1, i, hi => by
   have hil : i < s.l.length := by omega
   have hid : i < d0.l.length := by omega
   have c1 : (i : Int) < (s.l.length : Int) := by omega
   have c2 : ¬ ((i : Int) < 0) := by omega
   have c3 : (i : Int) < (d0.l.length : Int) := by omega
   have w := bJ (n := i) (by omega)
   obtain ⟨c, hS, hc⟩ := ajJ d0.l[i] s.l[i] d1.l.length (hr _ (List.getElem_mem hil))
   obtain ⟨b, hb1, hb2, ih⟩ := Jt j (i + 1) (by omega)
   have hS' := hS
   unfold apO at hS
   by_cases hc0 : c = 0
   ·subst hc0
    refine ⟨0, ?_, .inl rfl, fun h => absurd h (by omega), fun h => ?_⟩
    ·rw [bM, alT]
     by_cases hn : ((s.l[i]).hd 2).n = 0
     ·rw [if_pos hn] at hS
      simp only [U6, zz, aN.den, Nat.reduceLT, c1, c2, c3, w, bV hil, bV hid, hn, hS, fin]
     ·rw [if_neg hn] at hS
      simp only [U6, zz, aN.den, Nat.reduceLT, c1, c2, c3, w, bV hil, bV hid, hn, hS, fin]
    ·have := h i hil (Nat.le_refl i)
     unfold Snd at this
     rw [hS'] at this
     simp at this
   ·have hc1 : c = 1 := by omega
    subst hc1
    refine ⟨b, ?_, hb2, fun h k hk hik => ?_, fun h => ih.2 fun k hk hik => h k hk (by omega)⟩
    ·rw [bM, alT]
     by_cases hn : ((s.l[i]).hd 2).n = 0
     ·rw [if_pos hn] at hS
      simp only [U6, zz, aN.den, Nat.reduceLT, c1, c2, c3, w, bV hil, bV hid, hn, hS, fin, aO, hb1]
     ·rw [if_neg hn] at hS
      simp only [U6, zz, aN.den, Nat.reduceLT, c1, c2, c3, w, bV hil, bV hid, hn, hS, fin, aO, hb1]
    ·by_cases hke : k = i
     ·subst hke
      exact hS'
     ·exact ih.1 h k hk (by omega)
end
theorem tC {d0 d1 s : D} (h0 : Wd (.sl 3) d0) (h1 : Wd (.sl 4) d1) (hr : Vu s) : ∃ b : Int, L 350 [enc d0, enc d1, enc s] = some [b] ∧ (b = 0 ∨ b = 1) ∧
 (b = 1 ↔ L 450 [enc d0, enc d1] = some [0] ∧ ∃ hle : s.l.length = d0.l.length, ∀ (k : Nat) (hk : k < s.l.length), Snd (d0.l[k]'(hle ▸ hk)) s.l[k] d1.l.length) := by
 obtain ⟨ys, hC, c, rfl, hc, hok⟩ := Gx h0 h1
 by_cases hc0 : c = 0
 ·subst hc0
  by_cases hl : s.l.length = d0.l.length
  ·have hlen := h0.len
   obtain ⟨b, hb1, hb2, hb3⟩ := Jt (d1 := d1) hr hl hlen s.l.length 0 (by omega)
   refine ⟨b, ?_, hb2, fun h => ⟨hC, hl, fun k hk => hb3.1 h k hk (by omega)⟩, fun ⟨_, _, h⟩ => hb3.2 fun k hk _ => h k hk⟩
   have hl' : (s.l.length : Int) = (d0.l.length : Int) := by omega
   rw [bM, alU, abM, dN, if_pos, dN, if_pos, dN, if_pos, jI]
   ·simp only [List.map, bF, gI, iG, aY, Nat.reduceLT, aH, aK, aC, fin]
    exact hb1
   ·simp only [iD, mO, bF, fQ, gY, gI, List.map, iG, aY, Nat.reduceLT, aH, aK, aC]
    exact hl'
   ·simp only [iD, mO, bF, fQ, gY, gI, List.map, iG, aY, Nat.reduceLT, aH, aK, aC]
    rw [hC]
    simp only [aH, aK, Option.isSome_some, Option.getD_some, if_true]
   ·simp only [iD, mO, bF, fQ, gY, gI, List.map, iG, aY, Nat.reduceLT, aH, aK, aC]
    rw [hC]
    simp only [aH, aK, Option.isSome_some, Option.getD_some, if_true]
  ·refine ⟨0, ?_, .inl rfl, fun h => absurd h (by omega), fun ⟨_, h, _⟩ => absurd h hl⟩
   have hl' : ¬ (s.l.length : Int) = (d0.l.length : Int) := by omega
   rw [bM, alU, abM, dN, if_pos, dN, if_pos, dN, if_neg]
   ·simp only [jH, List.map, bF, fin]
   ·simp only [iD, mO, bF, fQ, gY, gI, List.map, iG, aY, Nat.reduceLT, aH, aK, aC]
    exact hl'
   ·simp only [iD, mO, bF, fQ, gY, gI, List.map, iG, aY, Nat.reduceLT, aH, aK, aC]
    rw [hC]
    simp only [aH, aK, Option.isSome_some, Option.getD_some, if_true]
   ·simp only [iD, mO, bF, fQ, gY, gI, List.map, iG, aY, Nat.reduceLT, aH, aK, aC]
    rw [hC]
    simp only [aH, aK, Option.isSome_some, Option.getD_some, if_true]
 ·refine ⟨0, ?_, .inl rfl, fun h => absurd h (by omega), fun ⟨h, _⟩ => ?_⟩
  ·rw [bM, alU, abM, dN, if_pos, dN, if_neg]
   ·simp only [jH, List.map, bF, fin]
   ·simp only [iD, mO, bF, fQ, gY, gI, List.map, iG, aY, Nat.reduceLT, aH, aK, aC]
    rw [hC]
    simp only [aH, aK, Option.isSome_some, Option.getD_some, if_true]
    exact hc0
   ·simp only [iD, mO, bF, fQ, gY, gI, List.map, iG, aY, Nat.reduceLT, aH, aK, aC]
    rw [hC]
    simp only [aH, aK, Option.isSome_some, Option.getD_some, if_true]
  ·rw [hC] at h
   simp at h
   exact absurd h hc0
end Go.As.Try
end
section
namespace Go.As.Try
open Go hiding Stat Spec shape
open Go.As
set_option maxRecDepth 100000
abbrev Mx (d0 : D) (obj : Int) : Int := ((d0.at obj).hd 2).n
abbrev Mo (d0 s : D) (obj : Int) : Int := ((s.at ((d0.at obj).hd 2).n).hd 0).n
inductive Act where
 | blk
 | mis
 | res (o c dn g : Int) (r v : D) (m : Option Int) (a oc : Int)
def act (M mo th op arg tries o c dn g : Int) (r v : D) : Act :=
 if op = 1 then (if o = th then .mis else if place r th < 0 then (if o < 0 then .res th c dn g r v none 0 2 else .blk) else .mis)
 else if op = 2 then (if o = th then .res (-1) c dn g r v none 0 2 else .mis)
 else if op = 8 then (if o = th then .res (-1) c dn g r v none 0 2 else .mis)
 else if op = 3 then (if o < 0 then .res th c dn g r v none 1 2 else .res o c dn g r v none 0 2)
 else if op = 4 then (if o < 0 then .res th c dn g r v none 1 2 else if tries < arg then .blk else .res o c dn g r v none 0 2)
 else if op = 5 then (if o = th then .mis else if place r th < 0 then (if o < 0 then .res o c dn g (dL (r.l ++ [.i th])) v none 0 2 else .blk) else .mis)
 else if op = 6 then (if place r th < 0 then .mis else .res o c dn g (gV (.i 2) (r.l.take (place r th).toNat ++ r.l.drop ((place r th).toNat + 1))) v none 0 2)
 else if op = 7 then (if o = th then .mis else if place r th < 0 then (if (r.l.length : Int) = 0 then (if o < 0 then .res th c dn g r v none 0 2 else .blk) else .blk) else .mis)
 else if op = 9 then (if 0 < c then .res o (IntKind.i64.wrap (c - 1)) dn g r v none 0 2 else .blk)
 else if op = 11 then (if 0 < c then .res o (IntKind.i64.wrap (c - 1)) dn g r v none 1 2 else .res o c dn g r v none 0 2)
 else if op = 10 then (if c < M then .res o (IntKind.i64.wrap (c + 1)) dn g r v none 0 2 else .mis)
 else if op = 17 then (if arg < IntKind.i64.wrap (0 - c) then .mis else if IntKind.i64.wrap (1099511627776 - c) < arg then .mis else .res o (IntKind.i64.wrap (c + arg)) dn g r v none (IntKind.i64.wrap (c + arg)) 2)
 else if op = 18 then (if 0 < c then .res o (IntKind.i64.wrap (c - 1)) dn g r v none (IntKind.i64.wrap (c - 1)) 2 else .mis)
 else if op = 19 then (if c = 0 then .res o c dn g r v none 0 2 else .blk)
 else if op = 22 then .res o c dn g r v none c 2
 else if op = 23 then .res o arg dn g r v none arg 2
 else if op = 20 then (if (v.l.length : Int) < M then .res o c dn g r (dL (v.l ++ [.i arg])) none arg 2 else .blk)
 else if op = 21 then (if (v.l.length : Int) = 0 then .blk else .res o c dn g r (gV v (v.l.drop 1)) none (v.at 0).n 2)
 else if op = 12 then (if mo = th then .res o c dn g (dL (wo th r.l ++ [.i th])) v (some (-1)) 0 3 else .mis)
 else if op = 13 then (if (r.l.length : Int) = 0 then .res o c dn g r v none 0 2 else .res o c dn g (gV r (r.l.drop 1)) v none (IntKind.i64.wrap ((r.at 0).n + 1)) 2)
 else if op = 14 then .res o c dn g (.i 1) v none (r.l.length : Int) 2
 else if op = 24 then (if place r th < 0 then (if mo < 0 then .res o c dn g r v (some th) 0 2 else .blk) else .blk)
 else if op = 15 then (if g < 4611686018427387904 then (if IntKind.i64.wrap (c + 1) = M then .res o 0 dn (IntKind.i64.wrap (g + 1)) r v none g 3 else .res o (IntKind.i64.wrap (c + 1)) dn g r v none g 3) else .mis)
 else if op = 25 then (if arg < g then .res o c dn g r v none arg 2 else .blk)
 else if op = 16 then (if dn = 0 then (if o = th then .mis else if o < 0 then .res th c dn g r v none 1 2 else .blk) else .res o c dn g r v none 0 2)
 else (if o = th then .res (-1) c 1 g r v none 0 2 else .mis)
def nH (s : D) (obj M : Int) : Act → D
 | .res o c dn g r v m _ _ => dL (iC (match m with | none => s.l | some q => iC s.l M (dL (iC (s.at M).l 0 (.i q)))) obj (dL [.i o, .i c, .i (if dn = 0 then 0 else 1), .i g, r, v]))
 | _ => s
def outA (s : D) (th op obj M : Int) : Act → List Int
 | .blk => [enc s, 0, 0, 0, 0, 0, 0]
 | .mis => [enc s, th, 27, obj, IntKind.i64.wrap op, 0, 2]
 | .res o c dn g r v m a oc => [enc (nH s obj M (.res o c dn g r v m a oc)), th, op, obj, a, 0, oc]
structure TH (d0 d1 s : D) (th op obj arg tries o c dn g : Int) (r v : D) : Prop where
 hcp : L 9000 [obj, enc s] = some [nM r v, obj, enc s, o, c, dn, g, enc r, enc v]
 iP : L 550 [enc s] = some [enc s]
 hR : L 350 [enc d0, enc d1, enc s] = some [1]
 Et : 0 ≤ th
 Es : th < (d1.l.length : Int)
 zV : 0 ≤ obj
 zT : obj < (s.l.length : Int)
 hlen : s.l.length = d0.l.length
 hk : L 600 [op] = some [((d0.at obj).hd 0).n]
 hr : (r.l.length : Int) < 17592186044415
 hv : (v.l.length : Int) < 17592186044415
 hn : ∀ x ∈ r.l, x = .i x.n
 hM : op = 12 ∨ op = 24 → 0 ≤ ((d0.at obj).hd 2).n ∧ ((d0.at obj).hd 2).n < (s.l.length : Int) ∧ ((d0.at obj).hd 2).n ≠ obj
noncomputable abbrev bZ (d0 d1 s : D) (th op obj arg tries : Int) : Nat → Int := dF L (low [enc d0, enc d1, enc s, th, op, obj, arg, tries])
abbrev aT (k : Nat) : SE := rr 9000 [.aA 5, .aA 2] k
abbrev VL : SE := nm (ce 2 (el (.aA 0) (.aA 5)))
abbrev kK : SE := rr 850 [aT 7, .aA 3] 0
abbrev Y0 (q : SE) : SE := .op .set (aT 2) (cn (mk VL) (.op .set (el (aT 2) VL) (cn (.dat (.i 0)) q)))
abbrev vW : List SE := [aT 7, .aA 3, .aA 5, VL, Y0 (.dat (.i (-1))), .aA 4, .aA 6, .aA 7, aT 3, aT 4, aT 5, aT 6, aT 8]
abbrev thg (o c d g r v : SE) : SE := cn (mk (.aA 5)) (cn o (cn c (cn d (cn g (cn r (cn v (.dat (.i 0))))))))
abbrev vJ : T Lf := ou [rr 550 [.aA 2] 0, .aA 3, .lit 27, .aA 5, wr (.aA 4), .lit 0, .lit 2]
abbrev BN : T Lf := ou [rr 550 [.aA 2] 0, .lit 0, .lit 0, .lit 0, .lit 0, .lit 0, .lit 0]
abbrev lC (z o c d g r v a : SE) (oc : Int) : T Lf := ou [.op .set z (thg o c d g r v), .aA 3, .aA 4, .aA 5, a, .lit 0, .lit oc]
theorem Bd {r : D} (h : r.l = []) (t : Int) : place r t = -1 := by unfold place; rw [h]; rfl
theorem apF {r : D} (h : r.l = []) (t : Int) : wo t r.l = [] := by rw [h]; rfl
theorem alt3 {r v : D} (h : 0 < r.l.length) (h' : 0 < v.l.length) : nM r v = 3 := by simp [nM, h, h']
theorem aAC {r v : D} (h : 0 < r.l.length) (h' : v.l = []) : nM r v = 4 := by simp [nM, h, h']
theorem aAB {r v : D} (h : r.l = []) (h' : 0 < v.l.length) : nM r v = 5 := by simp [nM, h, h']
theorem aAA {r v : D} (h : r.l = []) (h' : v.l = []) : nM r v = 6 := by simp [nM, h, h']
abbrev Gl (d0 s : D) (th op obj arg tries o c dn g : Int) (r v : D) : RS := .out (outA s th op obj (Mx d0 obj) (act (Mx d0 obj) (Mo d0 s obj) th op arg tries o c dn g r v))
theorem bY (s : D) (th op obj M : Int) : outA s th op obj M .blk = [enc s, 0, 0, 0, 0, 0, 0] := rfl
theorem bW (s : D) (th op obj M : Int) : outA s th op obj M .mis = [enc s, th, 27, obj, IntKind.i64.wrap op, 0, 2] := rfl
theorem bH (s : D) (th op obj M o c dn g : Int) (r v : D) (a oc : Int) : outA s th op obj M (.res o c dn g r v none a oc) = [enc (dL (iC s.l obj (dL [.i o, .i c, .i (if dn = 0 then 0 else 1), .i g, r, v]))), th, op, obj, a, 0, oc] := rfl
theorem bG (s : D) (th op obj M o c dn g : Int) (r v : D) (q a oc : Int) : outA s th op obj M (.res o c dn g r v (some q) a oc) = [enc (dL (iC (iC s.l M (dL (iC (s.at M).l 0 (.i q)))) obj (dL [.i o, .i c, .i (if dn = 0 then 0 else 1), .i g, r, v]))), th, op, obj, a, 0, oc] := rfl
section
variable {s : D} {th op obj M : Int}
theorem eP {c : Prop} [Decidable c] {a b : Act} : RS.out (outA s th op obj M (if c then a else b)) = if c then RS.out (outA s th op obj M a) else RS.out (outA s th op obj M b) := by split <;> rfl
end
theorem zA {p : Prop} [Decidable p] : ((if p then (0 : Int) else 1) = 0) = p := by by_cases h : p <;> simp [h]
theorem jZ (l : List D) : l = [] ∨ 0 < l.length := by cases l <;> simp
theorem z2 {ρ : Nat → Int} {a b c d : List SB} (h : zY ρ a ∧ zW ρ b) (h' : zY ρ c ∧ zW ρ d) : zY ρ (a ++ c) ∧ zW ρ (b ++ d) := ⟨aaC h.1 h'.1, aaF h.2 h'.2⟩
end Go.As.Try
end
section
namespace Go.As.Try
open Go hiding Stat Spec shape
open Go.As
set_option maxRecDepth 100000
abbrev bt : SE := .op .bit (mk (aT 5)) (.lit 0)
abbrev kW : SE := wr (.add kK (.lit 1))
abbrev kL : SE := .sub (ln (aT 7)) kW
abbrev kD : SE := .add kK kL
abbrev kC : SE := .op .cat (.op .cat (.op .take (aT 7) kK) (.op .drop (.op .take (aT 7) (.add kW kL)) kW)) (.op .drop (aT 7) kD)
abbrev kF : SE := .op .fill kC (cn (mk kD) (.dat (.i 0)))
section
variable {d0 d1 s r v : D} {th op obj arg tries o c dn g : Int}
abbrev YG : List SB := [.eq (a0 9000 [.aA 5, .aA 2]) (.lit 1), .eq (a0 350 [.aA 0, .aA 1, .aA 2]) (.lit 1), .eq (a0 600 [.aA 4]) (.lit 1), .eq (a0 550 [.aA 2]) (.lit 1), .eq (a0 900 [aT 7, .aA 3]) (.lit 1), .eq (a0 850 [aT 7, .aA 3]) (.lit 1), .lt (.aA 3) (ln (.aA 1)), .lt (.aA 5) (ln (.aA 0)), .lt (.aA 5) (ln (aT 2)), .eq (rr 600 [.aA 4] 0) (nm (ce 0 (el (.aA 0) (.aA 5)))), .lt (ln (aT 7)) (.lit 17592186044415), .lt (ln (aT 8)) (.lit 17592186044415)]
abbrev NG : List SB := [.lt (.aA 5) (.lit 0), .eq (rr 350 [.aA 0, .aA 1, .aA 2] 0) (.lit 0), .lt (.aA 3) (.lit 0), .lt (ln (aT 7)) (ln (aT 7)), .lt (ln (aT 8)) (.add (.lit 1) (.sub (ln (aT 8)) (.lit 1))), .lt (ln (aT 7)) (.add (.lit 1) (.sub (ln (aT 7)) (.lit 1)))]
theorem fG (H : TH d0 d1 s th op obj arg tries o c dn g r v) : zY (bZ d0 d1 s th op obj arg tries) YG ∧ zW (bZ d0 d1 s th op obj arg tries) NG := by
 have hb : r.l.length ≤ 140737488351232 := by have := H.hr; omega
 have h1 := H.Et; have h2 := H.Es; have h3 := H.zV; have h4 := H.zT; have h5 := H.hlen; have h6 := H.hr; have h7 := H.hv; have hp := iK r th
 simp only [zz, aN.den, Nat.reduceLT, H.hcp, H.iP, H.hR, H.hk, has_is r th hb, dH r th hb] <;> omega
abbrev YA3 : List SB := [.eq (aT 0) (.lit 3)]
abbrev NA3 : List SB := [.eq (aT 0) (.lit 0), .eq (aT 0) (.lit 1), .eq (aT 0) (.lit 2), .eq (aT 0) (.lit 4), .eq (aT 0) (.lit 5), .eq (aT 0) (.lit 6), .lt (.sub (ln (aT 7)) (.lit 1)) (.lit 0), .lt (.sub (ln (aT 8)) (.lit 1)) (.lit 0)]
theorem fA3 (H : TH d0 d1 s th op obj arg tries o c dn g r v) (hr : 0 < r.l.length) (hv : 0 < v.l.length) : zY (bZ d0 d1 s th op obj arg tries) YA3 ∧ zW (bZ d0 d1 s th op obj arg tries) NA3 := by
 have hb : r.l.length ≤ 140737488351232 := by have := H.hr; omega
 have h1 := H.Et; have h2 := H.Es; have h3 := H.zV; have h4 := H.zT; have h5 := H.hlen; have h6 := H.hr; have h7 := H.hv; have hp := iK r th
 simp only [zz, aN.den, Nat.reduceLT, H.hcp, H.iP, H.hR, H.hk, has_is r th hb, dH r th hb, alt3 hr hv] <;> omega
abbrev YA4 : List SB := [.eq (aT 0) (.lit 4)]
abbrev NA4 : List SB := [.eq (aT 0) (.lit 0), .eq (aT 0) (.lit 1), .eq (aT 0) (.lit 2), .eq (aT 0) (.lit 3), .eq (aT 0) (.lit 5), .eq (aT 0) (.lit 6), .lt (.sub (ln (aT 7)) (.lit 1)) (.lit 0)]
theorem fA4 (H : TH d0 d1 s th op obj arg tries o c dn g r v) (hr : 0 < r.l.length) (hv : v.l = []) : zY (bZ d0 d1 s th op obj arg tries) YA4 ∧ zW (bZ d0 d1 s th op obj arg tries) NA4 := by
 have hb : r.l.length ≤ 140737488351232 := by have := H.hr; omega
 have h1 := H.Et; have h2 := H.Es; have h3 := H.zV; have h4 := H.zT; have h5 := H.hlen; have h6 := H.hr; have h7 := H.hv; have hp := iK r th
 simp only [zz, aN.den, Nat.reduceLT, H.hcp, H.iP, H.hR, H.hk, has_is r th hb, dH r th hb, aAC hr hv] <;> omega
abbrev YA5 : List SB := [.eq (aT 0) (.lit 5), .lt kK (.lit 0)]
abbrev NA5 : List SB := [.eq (aT 0) (.lit 0), .eq (aT 0) (.lit 1), .eq (aT 0) (.lit 2), .eq (aT 0) (.lit 3), .eq (aT 0) (.lit 4), .eq (aT 0) (.lit 6), .lt (.sub (ln (aT 8)) (.lit 1)) (.lit 0)]
theorem fA5 (H : TH d0 d1 s th op obj arg tries o c dn g r v) (hr : r.l = []) (hv : 0 < v.l.length) : zY (bZ d0 d1 s th op obj arg tries) YA5 ∧ zW (bZ d0 d1 s th op obj arg tries) NA5 := by
 have hb : r.l.length ≤ 140737488351232 := by have := H.hr; omega
 have h1 := H.Et; have h2 := H.Es; have h3 := H.zV; have h4 := H.zT; have h5 := H.hlen; have h6 := H.hr; have h7 := H.hv; have hp := iK r th
 simp only [zz, aN.den, Nat.reduceLT, H.hcp, H.iP, H.hR, H.hk, has_is r th hb, dH r th hb, aAB hr hv, Bd hr] <;> omega
abbrev YA6 : List SB := [.eq (aT 0) (.lit 6), .lt kK (.lit 0)]
abbrev NA6 : List SB := [.eq (aT 0) (.lit 0), .eq (aT 0) (.lit 1), .eq (aT 0) (.lit 2), .eq (aT 0) (.lit 3), .eq (aT 0) (.lit 4), .eq (aT 0) (.lit 5)]
theorem fA6 (H : TH d0 d1 s th op obj arg tries o c dn g r v) (hr : r.l = []) (hv : v.l = []) : zY (bZ d0 d1 s th op obj arg tries) YA6 ∧ zW (bZ d0 d1 s th op obj arg tries) NA6 := by
 have hb : r.l.length ≤ 140737488351232 := by have := H.hr; omega
 have h1 := H.Et; have h2 := H.Es; have h3 := H.zV; have h4 := H.zT; have h5 := H.hlen; have h6 := H.hr; have h7 := H.hv; have hp := iK r th
 simp only [zz, aN.den, Nat.reduceLT, H.hcp, H.iP, H.hR, H.hk, has_is r th hb, dH r th hb, aAA hr hv, Bd hr] <;> omega
abbrev YM : List SB := [.lt VL (ln (aT 2))]
abbrev NM : List SB := [.lt VL (.lit 0), .eq VL (.aA 5)]
theorem fM (H : TH d0 d1 s th op obj arg tries o c dn g r v) (ho : op = 12 ∨ op = 24) : zY (bZ d0 d1 s th op obj arg tries) YM ∧ zW (bZ d0 d1 s th op obj arg tries) NM := by
 have hb : r.l.length ≤ 140737488351232 := by have := H.hr; omega
 have h1 := H.Et; have h2 := H.Es; have h3 := H.zV; have h4 := H.zT; have h5 := H.hlen; have h6 := H.hr; have h7 := H.hv; have hp := iK r th; have hm := H.hM ho
 simp only [zz, aN.den, Nat.reduceLT, H.hcp, H.iP, H.hR, H.hk, has_is r th hb, dH r th hb] <;> omega
abbrev YK0 : List SB := [.lt kK (.lit 0)]
abbrev NK0 : List SB := []
theorem fK0 (H : TH d0 d1 s th op obj arg tries o c dn g r v) (hk : place r th < 0) : zY (bZ d0 d1 s th op obj arg tries) YK0 ∧ zW (bZ d0 d1 s th op obj arg tries) NK0 := by
 have hb : r.l.length ≤ 140737488351232 := by have := H.hr; omega
 have h1 := H.Et; have h2 := H.Es; have h3 := H.zV; have h4 := H.zT; have h5 := H.hlen; have h6 := H.hr; have h7 := H.hv; have hp := iK r th
 simp only [zz, aN.den, Nat.reduceLT, H.hcp, H.iP, H.hR, H.hk, has_is r th hb, dH r th hb] <;> omega
abbrev YK1 : List SB := [.lt kD (ln (aT 7)), .eq (.add kD (.sub (ln (aT 7)) kD)) (ln kC)]
abbrev NK1 : List SB := [.lt kK (.lit 0), .lt kW kK, .lt (ln (aT 7)) kW, .eq kK kW, .lt (ln (aT 7)) kK, .lt kW (.lit 0), .lt kL (.lit 0), .lt (ln (aT 7)) (.add kW kL), .lt (ln (aT 7)) kD, .lt kD (.lit 0), .lt (ln kC) (ln (aT 7)), .lt (.sub (ln (aT 7)) kD) (.lit 0), .lt (ln kF) kD]
theorem fK1 (H : TH d0 d1 s th op obj arg tries o c dn g r v) (hk : ¬ place r th < 0) : zY (bZ d0 d1 s th op obj arg tries) YK1 ∧ zW (bZ d0 d1 s th op obj arg tries) NK1 := by
 have hb : r.l.length ≤ 140737488351232 := by have := H.hr; omega
 have h1 := H.Et; have h2 := H.Es; have h3 := H.zV; have h4 := H.zT; have h5 := H.hlen; have h6 := H.hr; have h7 := H.hv; have hp := iK r th; have hw : IntKind.i64.wrap (place r th + 1) = place r th + 1 := lM (by omega) (by omega)
 simp only [zz, aN.den, Nat.reduceLT, H.hcp, H.iP, H.hR, H.hk, has_is r th hb, dH r th hb, kU, bC, List.length_append, List.length_take, List.length_drop, List.length_replicate, hw] <;> omega
abbrev dA (d0 s r v : D) (th op obj arg tries o c dn g : Int) : List Int := [enc r, th, obj, Mx d0 obj, enc (dL (iC s.l (Mx d0 obj) (dL (iC (s.at (Mx d0 obj)).l 0 (.i (-1)))))), op, arg, tries, o, c, dn, g, enc v]
abbrev aAH : List SB := [.eq (a0 12000 vW) (.lit 1), .eq (rr 12000 vW 0) (.lit 0)]
abbrev aAN : List SB := []
theorem aAx (H : TH d0 d1 s th op obj arg tries o c dn g r v) (hd : L 12000 (dA d0 s r v th op obj arg tries o c dn g) = some (0 :: (dA d0 s r v th op obj arg tries o c dn g))) : zY (bZ d0 d1 s th op obj arg tries) aAH ∧ zW (bZ d0 d1 s th op obj arg tries) aAN := by
 have hb : r.l.length ≤ 140737488351232 := by have := H.hr; omega
 have h1 := H.Et; have h2 := H.Es; have h3 := H.zV; have h4 := H.zT; have h5 := H.hlen; have h6 := H.hr; have h7 := H.hv; have hp := iK r th
 simp only [zz, aN.den, Nat.reduceLT, H.hcp, H.iP, H.hR, H.hk, has_is r th hb, dH r th hb, hd] <;> omega
abbrev aAI : List SB := [.eq (a0 12000 vW) (.lit 1), .eq (rr 12000 vW 0) (.lit 1)]
abbrev aAO : List SB := [.eq (rr 12000 vW 0) (.lit 0), .lt (rr 12000 vW 14) (.lit 0), .lt (ln (rr 12000 vW 15)) (.add (rr 12000 vW 14) (.lit 1)), .lt (.add (rr 12000 vW 14) (.lit 1)) (.lit 0), .lt (ln (.op .cat (.op .cat (.op .take (rr 12000 vW 15) (rr 12000 vW 14)) (.op .snoc (.dat (.i 0)) (mk (.aA 3)))) (.op .drop (rr 12000 vW 15) (.add (rr 12000 vW 14) (.lit 1))))) (.add (rr 12000 vW 14) (.lit 1))]
theorem aAy (H : TH d0 d1 s th op obj arg tries o c dn g r v) {n : Nat} {r1 : D} (hn : n < r.l.length) (hl : r1.l.length = r.l.length) (hd : L 12000 (dA d0 s r v th op obj arg tries o c dn g) = some (1 :: ((dA d0 s r v th op obj arg tries o c dn g) ++ [(n : Int), enc r1, (r.l.length : Int)]))) : zY (bZ d0 d1 s th op obj arg tries) aAI ∧ zW (bZ d0 d1 s th op obj arg tries) aAO := by
 have hb : r.l.length ≤ 140737488351232 := by have := H.hr; omega
 have h1 := H.Et; have h2 := H.Es; have h3 := H.zV; have h4 := H.zT; have h5 := H.hlen; have h6 := H.hr; have h7 := H.hv; have hp := iK r th
 simp only [zz, aN.den, Nat.reduceLT, H.hcp, H.iP, H.hR, H.hk, has_is r th hb, dH r th hb, hd, kU, bC, Ee, List.cons_append, List.nil_append, List.length_append, List.length_take, List.length_drop, List.length_cons, List.length_nil] <;> omega
abbrev aAF : List SB := [.eq (a0 12100 vW) (.lit 1), .eq (rr 12100 vW 0) (.lit 0)]
abbrev aAL : List SB := []
theorem aAv (H : TH d0 d1 s th op obj arg tries o c dn g r v) (hd : L 12100 (dA d0 s r v th op obj arg tries o c dn g) = some (0 :: (dA d0 s r v th op obj arg tries o c dn g))) : zY (bZ d0 d1 s th op obj arg tries) aAF ∧ zW (bZ d0 d1 s th op obj arg tries) aAL := by
 have hb : r.l.length ≤ 140737488351232 := by have := H.hr; omega
 have h1 := H.Et; have h2 := H.Es; have h3 := H.zV; have h4 := H.zT; have h5 := H.hlen; have h6 := H.hr; have h7 := H.hv; have hp := iK r th
 simp only [zz, aN.den, Nat.reduceLT, H.hcp, H.iP, H.hR, H.hk, has_is r th hb, dH r th hb, hd] <;> omega
abbrev aAG : List SB := [.eq (a0 12100 vW) (.lit 1), .eq (rr 12100 vW 0) (.lit 1)]
abbrev aAM : List SB := [.eq (rr 12100 vW 0) (.lit 0), .lt (rr 12100 vW 14) (.lit 0), .lt (ln (rr 12100 vW 15)) (.add (rr 12100 vW 14) (.lit 1)), .lt (.add (rr 12100 vW 14) (.lit 1)) (.lit 0), .lt (ln (.op .cat (.op .cat (.op .take (rr 12100 vW 15) (rr 12100 vW 14)) (.op .snoc (.dat (.i 0)) (mk (.aA 3)))) (.op .drop (rr 12100 vW 15) (.add (rr 12100 vW 14) (.lit 1))))) (.add (rr 12100 vW 14) (.lit 1))]
theorem aAw (H : TH d0 d1 s th op obj arg tries o c dn g r v) {n : Nat} {r1 : D} (hn : n < r.l.length) (hl : r1.l.length = r.l.length) (hd : L 12100 (dA d0 s r v th op obj arg tries o c dn g) = some (1 :: ((dA d0 s r v th op obj arg tries o c dn g) ++ [(n : Int), enc r1, (r.l.length : Int)]))) : zY (bZ d0 d1 s th op obj arg tries) aAG ∧ zW (bZ d0 d1 s th op obj arg tries) aAM := by
 have hb : r.l.length ≤ 140737488351232 := by have := H.hr; omega
 have h1 := H.Et; have h2 := H.Es; have h3 := H.zV; have h4 := H.zT; have h5 := H.hlen; have h6 := H.hr; have h7 := H.hv; have hp := iK r th
 simp only [zz, aN.den, Nat.reduceLT, H.hcp, H.iP, H.hR, H.hk, has_is r th hb, dH r th hb, hd, kU, bC, Ee, List.cons_append, List.nil_append, List.length_append, List.length_take, List.length_drop, List.length_cons, List.length_nil] <;> omega
abbrev aAE : List SB := [.eq (a0 12200 vW) (.lit 1), .eq (rr 12200 vW 0) (.lit 0)]
abbrev aAK : List SB := []
theorem aAu (H : TH d0 d1 s th op obj arg tries o c dn g r v) (hd : L 12200 (dA d0 s r v th op obj arg tries o c dn g) = some (0 :: (dA d0 s r v th op obj arg tries o c dn g))) : zY (bZ d0 d1 s th op obj arg tries) aAE ∧ zW (bZ d0 d1 s th op obj arg tries) aAK := by
 have hb : r.l.length ≤ 140737488351232 := by have := H.hr; omega
 have h1 := H.Et; have h2 := H.Es; have h3 := H.zV; have h4 := H.zT; have h5 := H.hlen; have h6 := H.hr; have h7 := H.hv; have hp := iK r th
 simp only [zz, aN.den, Nat.reduceLT, H.hcp, H.iP, H.hR, H.hk, has_is r th hb, dH r th hb, hd] <;> omega
abbrev aAD : List SB := [.eq (a0 12300 vW) (.lit 1), .eq (rr 12300 vW 0) (.lit 0)]
abbrev aAJ : List SB := []
theorem aAt (H : TH d0 d1 s th op obj arg tries o c dn g r v) (hd : L 12300 (dA d0 s r v th op obj arg tries o c dn g) = some (0 :: (dA d0 s r v th op obj arg tries o c dn g))) : zY (bZ d0 d1 s th op obj arg tries) aAD ∧ zW (bZ d0 d1 s th op obj arg tries) aAJ := by
 have hb : r.l.length ≤ 140737488351232 := by have := H.hr; omega
 have h1 := H.Et; have h2 := H.Es; have h3 := H.zV; have h4 := H.zT; have h5 := H.hlen; have h6 := H.hr; have h7 := H.hv; have hp := iK r th
 simp only [zz, aN.den, Nat.reduceLT, H.hcp, H.iP, H.hR, H.hk, has_is r th hb, dH r th hb, hd] <;> omega
end
end Go.As.Try
end
section
namespace Go.As.Try
open Go hiding Stat Spec shape
open Go.As
set_option maxRecDepth 100000
theorem Lh (l m : List D) : gV (dL l) m = gV (.i 2) m := by
 cases m with
 | cons a m => rfl
 | nil => cases l <;> rfl
theorem Xk (d : D) (h : 0 < d.l.length) : gV (gV d (d.l.take (1 + ((d.l.length : Int) - 1)).toNat)) ((gV d (d.l.take (1 + ((d.l.length : Int) - 1)).toNat)).l.drop (1 : Int).toNat) = gV d (d.l.drop 1) := by
 rw [yO (fun e => by rw [e]; rfl), kU, List.take_of_length_le (by omega)]
 rfl
theorem atW (l : List D) (k : Nat) (hk : k < l.length) (R B : List D) : ((l.take k ++ (l.take l.length).drop (k + 1) ++ B).take (l.length - 1) ++ R).take (l.length - 1) = l.take k ++ l.drop (k + 1) ∨ B.length = 0 := by
 by_cases hB : B.length = 0
 ·exact .inr hB
 ·left
  have e : (l.take k ++ (l.take l.length).drop (k + 1)).length = l.length - 1 := by simp only [List.length_append, List.length_take, List.length_drop]; omega
  rw [List.take_append_of_le_length (by rw [List.length_take, List.length_append, e]; omega), List.take_take, Nat.min_self, List.take_append_of_le_length (by omega), List.take_of_length_le (by omega), List.take_length]
section
variable {d0 d1 s r v : D} {th op obj arg tries o c dn g : Int}
abbrev zt0 : T Lf := (sp (.eq (aT 3) (.aA 3)) vJ (sp (.eq (rr 900 [aT 7, .aA 3] 0) (.lit 0)) (sp (.lt (aT 3) (.lit 0)) (lC (aT 2) (mk (.aA 3)) (mk (aT 4)) bt (mk (aT 6)) (aT 7) (aT 8) (.lit 0) 2) BN) vJ))
theorem sm0 (H : TH d0 d1 s th 1 obj arg tries o c dn g r v) : dV (bZ d0 d1 s th 1 obj arg tries) zt0 = Gl d0 s th 1 obj arg tries o c dn g r v := by
 have hb : r.l.length ≤ 140737488351232 := by have := H.hr; omega
 simp only [zz, aN.den, Nat.reduceLT, H.hcp, H.iP, H.hR, H.hk, has_is r th hb, dH r th hb, aO, zA, eP, bY, bW, bH, bG, dL, act, Int.reduceEq, Gl] <;> (repeat' split) <;> first | rfl | (exfalso; omega)
abbrev zt1 : T Lf := (sp (.eq (aT 3) (.aA 3)) (lC (aT 2) (.dat (.i (-1))) (mk (aT 4)) bt (mk (aT 6)) (aT 7) (aT 8) (.lit 0) 2) vJ)
theorem sm1 (H : TH d0 d1 s th 2 obj arg tries o c dn g r v) : dV (bZ d0 d1 s th 2 obj arg tries) zt1 = Gl d0 s th 2 obj arg tries o c dn g r v := by
 have hb : r.l.length ≤ 140737488351232 := by have := H.hr; omega
 simp only [zz, aN.den, Nat.reduceLT, H.hcp, H.iP, H.hR, H.hk, has_is r th hb, dH r th hb, aO, zA, eP, bY, bW, bH, bG, dL, act, Int.reduceEq, Gl] <;> (repeat' split) <;> first | rfl | (exfalso; omega)
theorem sm2 (H : TH d0 d1 s th 8 obj arg tries o c dn g r v) : dV (bZ d0 d1 s th 8 obj arg tries) zt1 = Gl d0 s th 8 obj arg tries o c dn g r v := by
 have hb : r.l.length ≤ 140737488351232 := by have := H.hr; omega
 simp only [zz, aN.den, Nat.reduceLT, H.hcp, H.iP, H.hR, H.hk, has_is r th hb, dH r th hb, aO, zA, eP, bY, bW, bH, bG, dL, act, Int.reduceEq, Gl] <;> (repeat' split) <;> first | rfl | (exfalso; omega)
abbrev zt2 : T Lf := (sp (.lt (aT 3) (.lit 0)) (lC (aT 2) (mk (.aA 3)) (mk (aT 4)) bt (mk (aT 6)) (aT 7) (aT 8) (.lit 1) 2) (lC (aT 2) (mk (aT 3)) (mk (aT 4)) bt (mk (aT 6)) (aT 7) (aT 8) (.lit 0) 2))
theorem sm3 (H : TH d0 d1 s th 3 obj arg tries o c dn g r v) : dV (bZ d0 d1 s th 3 obj arg tries) zt2 = Gl d0 s th 3 obj arg tries o c dn g r v := by
 have hb : r.l.length ≤ 140737488351232 := by have := H.hr; omega
 simp only [zz, aN.den, Nat.reduceLT, H.hcp, H.iP, H.hR, H.hk, has_is r th hb, dH r th hb, aO, zA, eP, bY, bW, bH, bG, dL, act, Int.reduceEq, Gl] <;> (repeat' split) <;> first | rfl | (exfalso; omega)
abbrev zt3 : T Lf := (sp (.lt (aT 3) (.lit 0)) (lC (aT 2) (mk (.aA 3)) (mk (aT 4)) bt (mk (aT 6)) (aT 7) (aT 8) (.lit 1) 2) (sp (.lt (.aA 7) (.aA 6)) BN (lC (aT 2) (mk (aT 3)) (mk (aT 4)) bt (mk (aT 6)) (aT 7) (aT 8) (.lit 0) 2)))
theorem sm4 (H : TH d0 d1 s th 4 obj arg tries o c dn g r v) : dV (bZ d0 d1 s th 4 obj arg tries) zt3 = Gl d0 s th 4 obj arg tries o c dn g r v := by
 have hb : r.l.length ≤ 140737488351232 := by have := H.hr; omega
 simp only [zz, aN.den, Nat.reduceLT, H.hcp, H.iP, H.hR, H.hk, has_is r th hb, dH r th hb, aO, zA, eP, bY, bW, bH, bG, dL, act, Int.reduceEq, Gl] <;> (repeat' split) <;> first | rfl | (exfalso; omega)
abbrev zt4 : T Lf := (sp (.eq (aT 3) (.aA 3)) vJ (sp (.eq (rr 900 [aT 7, .aA 3] 0) (.lit 0)) (sp (.lt (aT 3) (.lit 0)) (lC (aT 2) (mk (aT 3)) (mk (aT 4)) bt (mk (aT 6)) (.op .snoc (aT 7) (mk (.aA 3))) (aT 8) (.lit 0) 2) BN) vJ))
theorem sm5 (H : TH d0 d1 s th 5 obj arg tries o c dn g r v) (hr : 0 < r.l.length) : dV (bZ d0 d1 s th 5 obj arg tries) zt4 = Gl d0 s th 5 obj arg tries o c dn g r v := by
 have hb : r.l.length ≤ 140737488351232 := by have := H.hr; omega
 simp only [zz, aN.den, Nat.reduceLT, H.hcp, H.iP, H.hR, H.hk, has_is r th hb, dH r th hb, Ee, List.nil_append, aO, zA, eP, bY, bW, bH, bG, dL, act, Int.reduceEq, Gl] <;> (repeat' split) <;> first | rfl | (exfalso; omega)
abbrev zt5 : T Lf := vJ
theorem sm6 (H : TH d0 d1 s th 6 obj arg tries o c dn g r v) (hk : place r th < 0) : dV (bZ d0 d1 s th 6 obj arg tries) zt5 = Gl d0 s th 6 obj arg tries o c dn g r v := by
 have hb : r.l.length ≤ 140737488351232 := by have := H.hr; omega
 simp only [zz, aN.den, Nat.reduceLT, H.hcp, H.iP, H.hR, H.hk, has_is r th hb, dH r th hb, hk, aO, zA, eP, bY, bW, bH, bG, dL, act, Int.reduceEq, Gl] <;> (repeat' split) <;> first | rfl | (exfalso; omega)
abbrev zt6 : T Lf := (lC (aT 2) (mk (aT 3)) (mk (aT 4)) bt (mk (aT 6)) (.op .take kF kD) (aT 8) (.lit 0) 2)
theorem sm7 (H : TH d0 d1 s th 6 obj arg tries o c dn g r v) (hr : 0 < r.l.length) (hk : ¬ place r th < 0) : dV (bZ d0 d1 s th 6 obj arg tries) zt6 = Gl d0 s th 6 obj arg tries o c dn g r v := by
 have hb : r.l.length ≤ 140737488351232 := by have := H.hr; omega
 rcases uS r th with ⟨hp, _⟩ | ⟨k, hkl, hp, _⟩
 ·exact absurd hk (by rw [hp]; omega)
 have hw : IntKind.i64.wrap ((k : Int) + 1) = (k : Int) + 1 := lM (by omega) (by omega)
 have e1 : ((k : Int) + 1 + ((r.l.length : Int) - ((k : Int) + 1))).toNat = r.l.length := by omega
 have e2 : ((k : Int) + ((r.l.length : Int) - ((k : Int) + 1))).toNat = r.l.length - 1 := by omega
 have e3 : ((k : Int) + 1).toNat = k + 1 := by omega
 have h0 : ¬ ((k : Int) < 0) := by omega
 have hd := fun R => (atW r.l k hkl R (r.l.drop (r.l.length - 1))).resolve_right (by rw [List.length_drop]; omega)
 simp only [zz, aN.den, Nat.reduceLT, H.hcp, H.iP, H.hR, H.hk, has_is r th hb, dH r th hb, hp, hw, e1, e2, e3, h0, kU, bC, Int.toNat_natCast, hd, Lh, aO, zA, eP, bY, bW, bH, bG, dL, act, Int.reduceEq, Gl] <;> (repeat' split) <;> first | rfl | (exfalso; omega)
abbrev zt7 : T Lf := (sp (.eq (aT 3) (.aA 3)) vJ (sp (.eq (rr 900 [aT 7, .aA 3] 0) (.lit 0)) (sp (.eq (ln (aT 7)) (.lit 0)) (sp (.lt (aT 3) (.lit 0)) (lC (aT 2) (mk (.aA 3)) (mk (aT 4)) bt (mk (aT 6)) (aT 7) (aT 8) (.lit 0) 2) BN) BN) vJ))
theorem sm8 (H : TH d0 d1 s th 7 obj arg tries o c dn g r v) (hr : 0 < r.l.length) : dV (bZ d0 d1 s th 7 obj arg tries) zt7 = Gl d0 s th 7 obj arg tries o c dn g r v := by
 have hb : r.l.length ≤ 140737488351232 := by have := H.hr; omega
 simp only [zz, aN.den, Nat.reduceLT, H.hcp, H.iP, H.hR, H.hk, has_is r th hb, dH r th hb, aO, zA, eP, bY, bW, bH, bG, dL, act, Int.reduceEq, Gl] <;> (repeat' split) <;> first | rfl | (exfalso; omega)
abbrev zt8 : T Lf := (sp (.lt (.lit 0) (aT 4)) (lC (aT 2) (mk (aT 3)) (mk (wr (.sub (aT 4) (.lit 1)))) bt (mk (aT 6)) (aT 7) (aT 8) (.lit 0) 2) BN)
theorem sm9 (H : TH d0 d1 s th 9 obj arg tries o c dn g r v) : dV (bZ d0 d1 s th 9 obj arg tries) zt8 = Gl d0 s th 9 obj arg tries o c dn g r v := by
 have hb : r.l.length ≤ 140737488351232 := by have := H.hr; omega
 simp only [zz, aN.den, Nat.reduceLT, H.hcp, H.iP, H.hR, H.hk, has_is r th hb, dH r th hb, aO, zA, eP, bY, bW, bH, bG, dL, act, Int.reduceEq, Gl] <;> (repeat' split) <;> first | rfl | (exfalso; omega)
abbrev zt9 : T Lf := (sp (.lt (.lit 0) (aT 4)) (lC (aT 2) (mk (aT 3)) (mk (wr (.sub (aT 4) (.lit 1)))) bt (mk (aT 6)) (aT 7) (aT 8) (.lit 1) 2) (lC (aT 2) (mk (aT 3)) (mk (aT 4)) bt (mk (aT 6)) (aT 7) (aT 8) (.lit 0) 2))
theorem azQ (H : TH d0 d1 s th 11 obj arg tries o c dn g r v) : dV (bZ d0 d1 s th 11 obj arg tries) zt9 = Gl d0 s th 11 obj arg tries o c dn g r v := by
 have hb : r.l.length ≤ 140737488351232 := by have := H.hr; omega
 simp only [zz, aN.den, Nat.reduceLT, H.hcp, H.iP, H.hR, H.hk, has_is r th hb, dH r th hb, aO, zA, eP, bY, bW, bH, bG, dL, act, Int.reduceEq, Gl] <;> (repeat' split) <;> first | rfl | (exfalso; omega)
abbrev auP : T Lf := (sp (.lt (aT 4) VL) (lC (aT 2) (mk (aT 3)) (mk (wr (.add (aT 4) (.lit 1)))) bt (mk (aT 6)) (aT 7) (aT 8) (.lit 0) 2) vJ)
theorem azP (H : TH d0 d1 s th 10 obj arg tries o c dn g r v) : dV (bZ d0 d1 s th 10 obj arg tries) auP = Gl d0 s th 10 obj arg tries o c dn g r v := by
 have hb : r.l.length ≤ 140737488351232 := by have := H.hr; omega
 simp only [zz, aN.den, Nat.reduceLT, H.hcp, H.iP, H.hR, H.hk, has_is r th hb, dH r th hb, aO, zA, eP, bY, bW, bH, bG, dL, act, Int.reduceEq, Gl] <;> (repeat' split) <;> first | rfl | (exfalso; omega)
abbrev auO : T Lf := (sp (.lt (.aA 6) (wr (.sub (.lit 0) (aT 4)))) vJ (sp (.lt (wr (.sub (.lit 1099511627776) (aT 4))) (.aA 6)) vJ (lC (aT 2) (mk (aT 3)) (mk (wr (.add (aT 4) (.aA 6)))) bt (mk (aT 6)) (aT 7) (aT 8) (wr (.add (aT 4) (.aA 6))) 2)))
theorem azO (H : TH d0 d1 s th 17 obj arg tries o c dn g r v) : dV (bZ d0 d1 s th 17 obj arg tries) auO = Gl d0 s th 17 obj arg tries o c dn g r v := by
 have hb : r.l.length ≤ 140737488351232 := by have := H.hr; omega
 simp only [zz, aN.den, Nat.reduceLT, H.hcp, H.iP, H.hR, H.hk, has_is r th hb, dH r th hb, aO, zA, eP, bY, bW, bH, bG, dL, act, Int.reduceEq, Gl] <;> (repeat' split) <;> first | rfl | (exfalso; omega)
abbrev auN : T Lf := (sp (.lt (.lit 0) (aT 4)) (lC (aT 2) (mk (aT 3)) (mk (wr (.sub (aT 4) (.lit 1)))) bt (mk (aT 6)) (aT 7) (aT 8) (wr (.sub (aT 4) (.lit 1))) 2) vJ)
theorem azN (H : TH d0 d1 s th 18 obj arg tries o c dn g r v) : dV (bZ d0 d1 s th 18 obj arg tries) auN = Gl d0 s th 18 obj arg tries o c dn g r v := by
 have hb : r.l.length ≤ 140737488351232 := by have := H.hr; omega
 simp only [zz, aN.den, Nat.reduceLT, H.hcp, H.iP, H.hR, H.hk, has_is r th hb, dH r th hb, aO, zA, eP, bY, bW, bH, bG, dL, act, Int.reduceEq, Gl] <;> (repeat' split) <;> first | rfl | (exfalso; omega)
abbrev auM : T Lf := (sp (.eq (aT 4) (.lit 0)) (lC (aT 2) (mk (aT 3)) (mk (aT 4)) bt (mk (aT 6)) (aT 7) (aT 8) (.lit 0) 2) BN)
theorem azM (H : TH d0 d1 s th 19 obj arg tries o c dn g r v) : dV (bZ d0 d1 s th 19 obj arg tries) auM = Gl d0 s th 19 obj arg tries o c dn g r v := by
 have hb : r.l.length ≤ 140737488351232 := by have := H.hr; omega
 simp only [zz, aN.den, Nat.reduceLT, H.hcp, H.iP, H.hR, H.hk, has_is r th hb, dH r th hb, aO, zA, eP, bY, bW, bH, bG, dL, act, Int.reduceEq, Gl] <;> (repeat' split) <;> first | rfl | (exfalso; omega)
abbrev auL : T Lf := (lC (aT 2) (mk (aT 3)) (mk (aT 4)) bt (mk (aT 6)) (aT 7) (aT 8) (aT 4) 2)
theorem azL (H : TH d0 d1 s th 22 obj arg tries o c dn g r v) : dV (bZ d0 d1 s th 22 obj arg tries) auL = Gl d0 s th 22 obj arg tries o c dn g r v := by
 have hb : r.l.length ≤ 140737488351232 := by have := H.hr; omega
 simp only [zz, aN.den, Nat.reduceLT, H.hcp, H.iP, H.hR, H.hk, has_is r th hb, dH r th hb, aO, zA, eP, bY, bW, bH, bG, dL, act, Int.reduceEq, Gl] <;> (repeat' split) <;> first | rfl | (exfalso; omega)
abbrev auK : T Lf := (lC (aT 2) (mk (aT 3)) (mk (.aA 6)) bt (mk (aT 6)) (aT 7) (aT 8) (.aA 6) 2)
theorem azK (H : TH d0 d1 s th 23 obj arg tries o c dn g r v) : dV (bZ d0 d1 s th 23 obj arg tries) auK = Gl d0 s th 23 obj arg tries o c dn g r v := by
 have hb : r.l.length ≤ 140737488351232 := by have := H.hr; omega
 simp only [zz, aN.den, Nat.reduceLT, H.hcp, H.iP, H.hR, H.hk, has_is r th hb, dH r th hb, aO, zA, eP, bY, bW, bH, bG, dL, act, Int.reduceEq, Gl] <;> (repeat' split) <;> first | rfl | (exfalso; omega)
abbrev apE : T Lf := (sp (.lt (ln (aT 8)) VL) (lC (aT 2) (mk (aT 3)) (mk (aT 4)) bt (mk (aT 6)) (aT 7) (.op .snoc (aT 8) (mk (.aA 6))) (.aA 6) 2) BN)
theorem avN (H : TH d0 d1 s th 20 obj arg tries o c dn g r v) (hv : 0 < v.l.length) : dV (bZ d0 d1 s th 20 obj arg tries) apE = Gl d0 s th 20 obj arg tries o c dn g r v := by
 have hb : r.l.length ≤ 140737488351232 := by have := H.hr; omega
 simp only [zz, aN.den, Nat.reduceLT, H.hcp, H.iP, H.hR, H.hk, has_is r th hb, dH r th hb, Ee, List.nil_append, aO, zA, eP, bY, bW, bH, bG, dL, act, Int.reduceEq, Gl] <;> (repeat' split) <;> first | rfl | (exfalso; omega)
abbrev apD : T Lf := (sp (.eq (ln (aT 8)) (.lit 0)) BN (lC (aT 2) (mk (aT 3)) (mk (aT 4)) bt (mk (aT 6)) (aT 7) (.op .drop (.op .take (aT 8) (.add (.lit 1) (.sub (ln (aT 8)) (.lit 1)))) (.lit 1)) (nm (el (aT 8) (.lit 0))) 2))
theorem avM (H : TH d0 d1 s th 21 obj arg tries o c dn g r v) (hv : 0 < v.l.length) : dV (bZ d0 d1 s th 21 obj arg tries) apD = Gl d0 s th 21 obj arg tries o c dn g r v := by
 have hb : r.l.length ≤ 140737488351232 := by have := H.hr; omega
 simp only [zz, aN.den, Nat.reduceLT, H.hcp, H.iP, H.hR, H.hk, has_is r th hb, dH r th hb, Xk v hv, aO, zA, eP, bY, bW, bH, bG, dL, act, Int.reduceEq, Gl] <;> (repeat' split) <;> first | rfl | (exfalso; omega)
abbrev apC : T Lf := (sp (.eq (nm (ce 0 (el (aT 2) VL))) (.aA 3)) (lC (Y0 (.dat (.i (-1)))) (mk (aT 3)) (mk (aT 4)) bt (mk (aT 6)) (.op .snoc (aT 7) (mk (.aA 3))) (aT 8) (.lit 0) 3) vJ)
theorem avL (H : TH d0 d1 s th 12 obj arg tries o c dn g r v) (hr : 0 < r.l.length) (hw : wo th r.l = r.l) : dV (bZ d0 d1 s th 12 obj arg tries) apC = Gl d0 s th 12 obj arg tries o c dn g r v := by
 have hb : r.l.length ≤ 140737488351232 := by have := H.hr; omega
 simp only [zz, aN.den, Nat.reduceLT, H.hcp, H.iP, H.hR, H.hk, has_is r th hb, dH r th hb, hw, bC, Ee, List.nil_append, aO, zA, eP, bY, bW, bH, bG, dL, act, Int.reduceEq, Gl] <;> (repeat' split) <;> first | rfl | (exfalso; omega)
abbrev auJ : T Lf := (sp (.eq (nm (ce 0 (el (aT 2) VL))) (.aA 3)) (lC (Y0 (.dat (.i (-1)))) (mk (aT 3)) (mk (aT 4)) bt (mk (aT 6)) (.op .take (.op .cat (.op .cat (.op .take (rr 12000 vW 15) (rr 12000 vW 14)) (.op .snoc (.dat (.i 0)) (mk (.aA 3)))) (.op .drop (rr 12000 vW 15) (.add (rr 12000 vW 14) (.lit 1)))) (.add (rr 12000 vW 14) (.lit 1))) (aT 8) (.lit 0) 3) vJ)
theorem azJ (H : TH d0 d1 s th 12 obj arg tries o c dn g r v) (hr : 0 < r.l.length) (hv : 0 < v.l.length) {n : Nat} {r1 : D} (hn : n < r.l.length) (hl : r1.l.length = r.l.length) (hw : r1.l.take n = wo th r.l) (hd : L 12000 (dA d0 s r v th 12 obj arg tries o c dn g) = some (1 :: ((dA d0 s r v th 12 obj arg tries o c dn g) ++ [(n : Int), enc r1, (r.l.length : Int)]))) : dV (bZ d0 d1 s th 12 obj arg tries) auJ = Gl d0 s th 12 obj arg tries o c dn g r v := by
 have hb : r.l.length ≤ 140737488351232 := by have := H.hr; omega
 have e3 : ((n : Int) + 1).toNat = n + 1 := by omega
 have hA : ∀ B, (wo th r.l ++ [D.i th] ++ B).take (n + 1) = wo th r.l ++ [.i th] := fun B => by
  have : (wo th r.l ++ [D.i th]).length = n + 1 := by rw [← hw]; simp only [List.length_append, List.length_take, List.length_cons, List.length_nil]; omega
  rw [List.take_append_of_le_length (by omega), List.take_of_length_le (by omega)]
 have hB : wo th r.l ++ [D.i th] ≠ [] := by simp
 simp only [zz, aN.den, Nat.reduceLT, H.hcp, H.iP, H.hR, H.hk, has_is r th hb, dH r th hb, hd, List.cons_append, e3, l_p, kU, bC, Ee, List.nil_append, Int.toNat_natCast, hw, hA, Lh, EN hB, aO, zA, eP, bY, bW, bH, bG, dL, act, Int.reduceEq, Gl] <;> (repeat' split) <;> first | rfl | (exfalso; omega)
abbrev apB : T Lf := (sp (.eq (ln (aT 7)) (.lit 0)) (lC (aT 2) (mk (aT 3)) (mk (aT 4)) bt (mk (aT 6)) (aT 7) (aT 8) (.lit 0) 2) (lC (aT 2) (mk (aT 3)) (mk (aT 4)) bt (mk (aT 6)) (.op .drop (.op .take (aT 7) (.add (.lit 1) (.sub (ln (aT 7)) (.lit 1)))) (.lit 1)) (aT 8) (wr (.add (nm (el (aT 7) (.lit 0))) (.lit 1))) 2))
theorem avK (H : TH d0 d1 s th 13 obj arg tries o c dn g r v) (hr : 0 < r.l.length) : dV (bZ d0 d1 s th 13 obj arg tries) apB = Gl d0 s th 13 obj arg tries o c dn g r v := by
 have hb : r.l.length ≤ 140737488351232 := by have := H.hr; omega
 simp only [zz, aN.den, Nat.reduceLT, H.hcp, H.iP, H.hR, H.hk, has_is r th hb, dH r th hb, Xk r hr, Ee, List.nil_append, aO, zA, eP, bY, bW, bH, bG, dL, act, Int.reduceEq, Gl] <;> (repeat' split) <;> first | rfl | (exfalso; omega)
abbrev apA : T Lf := (lC (aT 2) (mk (aT 3)) (mk (aT 4)) bt (mk (aT 6)) (.dat (.i 1)) (aT 8) (ln (aT 7)) 2)
theorem avJ (H : TH d0 d1 s th 14 obj arg tries o c dn g r v) (hr : 0 < r.l.length) : dV (bZ d0 d1 s th 14 obj arg tries) apA = Gl d0 s th 14 obj arg tries o c dn g r v := by
 have hb : r.l.length ≤ 140737488351232 := by have := H.hr; omega
 simp only [zz, aN.den, Nat.reduceLT, H.hcp, H.iP, H.hR, H.hk, has_is r th hb, dH r th hb, Ee, List.nil_append, aO, zA, eP, bY, bW, bH, bG, dL, act, Int.reduceEq, Gl] <;> (repeat' split) <;> first | rfl | (exfalso; omega)
abbrev aaA : T Lf := (sp (.eq (rr 900 [aT 7, .aA 3] 0) (.lit 0)) (sp (.lt (nm (ce 0 (el (aT 2) VL))) (.lit 0)) (lC (Y0 (mk (.aA 3))) (mk (aT 3)) (mk (aT 4)) bt (mk (aT 6)) (aT 7) (aT 8) (.lit 0) 2) BN) BN)
theorem ajK (H : TH d0 d1 s th 24 obj arg tries o c dn g r v) : dV (bZ d0 d1 s th 24 obj arg tries) aaA = Gl d0 s th 24 obj arg tries o c dn g r v := by
 have hb : r.l.length ≤ 140737488351232 := by have := H.hr; omega
 simp only [zz, aN.den, Nat.reduceLT, H.hcp, H.iP, H.hR, H.hk, has_is r th hb, dH r th hb, bC, Ee, List.nil_append, aO, zA, eP, bY, bW, bH, bG, dL, act, Int.reduceEq, Gl] <;> (repeat' split) <;> first | rfl | (exfalso; omega)
abbrev auI : T Lf := (sp (.lt (aT 6) (.lit 4611686018427387904)) (sp (.eq (wr (.add (aT 4) (.lit 1))) VL) (lC (aT 2) (mk (aT 3)) (.dat (.i 0)) bt (mk (wr (.add (aT 6) (.lit 1)))) (aT 7) (aT 8) (aT 6) 3) (lC (aT 2) (mk (aT 3)) (mk (wr (.add (aT 4) (.lit 1)))) bt (mk (aT 6)) (aT 7) (aT 8) (aT 6) 3)) vJ)
theorem azI (H : TH d0 d1 s th 15 obj arg tries o c dn g r v) : dV (bZ d0 d1 s th 15 obj arg tries) auI = Gl d0 s th 15 obj arg tries o c dn g r v := by
 have hb : r.l.length ≤ 140737488351232 := by have := H.hr; omega
 simp only [zz, aN.den, Nat.reduceLT, H.hcp, H.iP, H.hR, H.hk, has_is r th hb, dH r th hb, aO, zA, eP, bY, bW, bH, bG, dL, act, Int.reduceEq, Gl] <;> (repeat' split) <;> first | rfl | (exfalso; omega)
abbrev auH : T Lf := (sp (.lt (.aA 6) (aT 6)) (lC (aT 2) (mk (aT 3)) (mk (aT 4)) bt (mk (aT 6)) (aT 7) (aT 8) (.aA 6) 2) BN)
theorem azH (H : TH d0 d1 s th 25 obj arg tries o c dn g r v) : dV (bZ d0 d1 s th 25 obj arg tries) auH = Gl d0 s th 25 obj arg tries o c dn g r v := by
 have hb : r.l.length ≤ 140737488351232 := by have := H.hr; omega
 simp only [zz, aN.den, Nat.reduceLT, H.hcp, H.iP, H.hR, H.hk, has_is r th hb, dH r th hb, aO, zA, eP, bY, bW, bH, bG, dL, act, Int.reduceEq, Gl] <;> (repeat' split) <;> first | rfl | (exfalso; omega)
abbrev auG : T Lf := (sp (.eq (aT 5) (.lit 0)) (sp (.eq (aT 3) (.aA 3)) vJ (sp (.lt (aT 3) (.lit 0)) (lC (aT 2) (mk (.aA 3)) (mk (aT 4)) bt (mk (aT 6)) (aT 7) (aT 8) (.lit 1) 2) BN)) (lC (aT 2) (mk (aT 3)) (mk (aT 4)) bt (mk (aT 6)) (aT 7) (aT 8) (.lit 0) 2))
theorem azG (H : TH d0 d1 s th 16 obj arg tries o c dn g r v) : dV (bZ d0 d1 s th 16 obj arg tries) auG = Gl d0 s th 16 obj arg tries o c dn g r v := by
 have hb : r.l.length ≤ 140737488351232 := by have := H.hr; omega
 simp only [zz, aN.den, Nat.reduceLT, H.hcp, H.iP, H.hR, H.hk, has_is r th hb, dH r th hb, aO, zA, eP, bY, bW, bH, bG, dL, act, Int.reduceEq, Gl] <;> (repeat' split) <;> first | rfl | (exfalso; omega)
abbrev auF : T Lf := (sp (.eq (aT 3) (.aA 3)) (lC (aT 2) (.dat (.i (-1))) (mk (aT 4)) (.dat (.i 1)) (mk (aT 6)) (aT 7) (aT 8) (.lit 0) 2) vJ)
theorem azF (H : TH d0 d1 s th 26 obj arg tries o c dn g r v) : dV (bZ d0 d1 s th 26 obj arg tries) auF = Gl d0 s th 26 obj arg tries o c dn g r v := by
 have hb : r.l.length ≤ 140737488351232 := by have := H.hr; omega
 simp only [zz, aN.den, Nat.reduceLT, H.hcp, H.iP, H.hR, H.hk, has_is r th hb, dH r th hb, aO, zA, eP, bY, bW, bH, bG, dL, act, Int.reduceEq, Gl] <;> (repeat' split) <;> first | rfl | (exfalso; omega)
abbrev aoZ : T Lf := (sp (.lt (.lit 0) VL) (lC (aT 2) (mk (aT 3)) (mk (aT 4)) bt (mk (aT 6)) (aT 7) (.op .snoc (.dat (.i 0)) (mk (.aA 6))) (.aA 6) 2) BN)
theorem avI (H : TH d0 d1 s th 20 obj arg tries o c dn g r v) (hv : v.l = []) : dV (bZ d0 d1 s th 20 obj arg tries) aoZ = Gl d0 s th 20 obj arg tries o c dn g r v := by
 have hb : r.l.length ≤ 140737488351232 := by have := H.hr; omega
 have hz2 : ((0 : Nat) : Int) = 0 := rfl
 simp only [zz, aN.den, Nat.reduceLT, H.hcp, H.iP, H.hR, H.hk, has_is r th hb, dH r th hb, hv, List.length_nil, List.nil_append, hz2, Ee, aO, zA, eP, bY, bW, bH, bG, dL, act, Int.reduceEq, Gl] <;> (repeat' split) <;> first | rfl | (exfalso; omega)
abbrev aoY : T Lf := BN
theorem avH (H : TH d0 d1 s th 21 obj arg tries o c dn g r v) (hv : v.l = []) : dV (bZ d0 d1 s th 21 obj arg tries) aoY = Gl d0 s th 21 obj arg tries o c dn g r v := by
 have hb : r.l.length ≤ 140737488351232 := by have := H.hr; omega
 have hz2 : ((0 : Nat) : Int) = 0 := rfl
 simp only [zz, aN.den, Nat.reduceLT, H.hcp, H.iP, H.hR, H.hk, has_is r th hb, dH r th hb, hv, List.length_nil, List.nil_append, hz2, aO, zA, eP, bY, bW, bH, bG, dL, act, Int.reduceEq, Gl] <;> (repeat' split) <;> first | rfl | (exfalso; omega)
abbrev auE : T Lf := (sp (.eq (nm (ce 0 (el (aT 2) VL))) (.aA 3)) (lC (Y0 (.dat (.i (-1)))) (mk (aT 3)) (mk (aT 4)) bt (mk (aT 6)) (.op .take (.op .cat (.op .cat (.op .take (rr 12100 vW 15) (rr 12100 vW 14)) (.op .snoc (.dat (.i 0)) (mk (.aA 3)))) (.op .drop (rr 12100 vW 15) (.add (rr 12100 vW 14) (.lit 1)))) (.add (rr 12100 vW 14) (.lit 1))) (aT 8) (.lit 0) 3) vJ)
theorem azE (H : TH d0 d1 s th 12 obj arg tries o c dn g r v) (hr : 0 < r.l.length) (hv : v.l = []) {n : Nat} {r1 : D} (hn : n < r.l.length) (hl : r1.l.length = r.l.length) (hw : r1.l.take n = wo th r.l) (hd : L 12100 (dA d0 s r v th 12 obj arg tries o c dn g) = some (1 :: ((dA d0 s r v th 12 obj arg tries o c dn g) ++ [(n : Int), enc r1, (r.l.length : Int)]))) : dV (bZ d0 d1 s th 12 obj arg tries) auE = Gl d0 s th 12 obj arg tries o c dn g r v := by
 have hb : r.l.length ≤ 140737488351232 := by have := H.hr; omega
 have hz2 : ((0 : Nat) : Int) = 0 := rfl
 have e3 : ((n : Int) + 1).toNat = n + 1 := by omega
 have hA : ∀ B, (wo th r.l ++ [D.i th] ++ B).take (n + 1) = wo th r.l ++ [.i th] := fun B => by
  have : (wo th r.l ++ [D.i th]).length = n + 1 := by rw [← hw]; simp only [List.length_append, List.length_take, List.length_cons, List.length_nil]; omega
  rw [List.take_append_of_le_length (by omega), List.take_of_length_le (by omega)]
 have hB : wo th r.l ++ [D.i th] ≠ [] := by simp
 simp only [zz, aN.den, Nat.reduceLT, H.hcp, H.iP, H.hR, H.hk, has_is r th hb, dH r th hb, hv, List.length_nil, List.nil_append, hz2, hd, List.cons_append, e3, l_p, kU, bC, Ee, Int.toNat_natCast, hw, hA, Lh, EN hB, aO, zA, eP, bY, bW, bH, bG, dL, act, Int.reduceEq, Gl] <;> (repeat' split) <;> first | rfl | (exfalso; omega)
abbrev aoX : T Lf := (sp (.eq (aT 3) (.aA 3)) vJ (sp (.eq (rr 900 [aT 7, .aA 3] 0) (.lit 0)) (sp (.lt (aT 3) (.lit 0)) (lC (aT 2) (mk (aT 3)) (mk (aT 4)) bt (mk (aT 6)) (.op .snoc (.dat (.i 0)) (mk (.aA 3))) (aT 8) (.lit 0) 2) BN) vJ))
theorem avG (H : TH d0 d1 s th 5 obj arg tries o c dn g r v) (hr : r.l = []) : dV (bZ d0 d1 s th 5 obj arg tries) aoX = Gl d0 s th 5 obj arg tries o c dn g r v := by
 have hb : r.l.length ≤ 140737488351232 := by have := H.hr; omega
 have hz : ((0 : Nat) : Int) = 0 := rfl
 simp only [zz, aN.den, Nat.reduceLT, H.hcp, H.iP, H.hR, H.hk, has_is r th hb, dH r th hb, hr, List.length_nil, List.nil_append, hz, Ee, aO, zA, eP, bY, bW, bH, bG, dL, act, Int.reduceEq, Gl] <;> (repeat' split) <;> first | rfl | (exfalso; omega)
theorem avF (H : TH d0 d1 s th 7 obj arg tries o c dn g r v) (hr : r.l = []) : dV (bZ d0 d1 s th 7 obj arg tries) zt0 = Gl d0 s th 7 obj arg tries o c dn g r v := by
 have hb : r.l.length ≤ 140737488351232 := by have := H.hr; omega
 have hz : ((0 : Nat) : Int) = 0 := rfl
 simp only [zz, aN.den, Nat.reduceLT, H.hcp, H.iP, H.hR, H.hk, has_is r th hb, dH r th hb, hr, List.length_nil, List.nil_append, hz, aO, zA, eP, bY, bW, bH, bG, dL, act, Int.reduceEq, Gl] <;> (repeat' split) <;> first | rfl | (exfalso; omega)
abbrev aoW : T Lf := (sp (.eq (nm (ce 0 (el (aT 2) VL))) (.aA 3)) (lC (Y0 (.dat (.i (-1)))) (mk (aT 3)) (mk (aT 4)) bt (mk (aT 6)) (.op .snoc (.dat (.i 0)) (mk (.aA 3))) (aT 8) (.lit 0) 3) vJ)
theorem avE (H : TH d0 d1 s th 12 obj arg tries o c dn g r v) (hr : r.l = []) : dV (bZ d0 d1 s th 12 obj arg tries) aoW = Gl d0 s th 12 obj arg tries o c dn g r v := by
 have hb : r.l.length ≤ 140737488351232 := by have := H.hr; omega
 have hz : ((0 : Nat) : Int) = 0 := rfl
 simp only [zz, aN.den, Nat.reduceLT, H.hcp, H.iP, H.hR, H.hk, has_is r th hb, dH r th hb, hr, List.length_nil, List.nil_append, hz, apF hr, bC, Ee, aO, zA, eP, bY, bW, bH, bG, dL, act, Int.reduceEq, Gl] <;> (repeat' split) <;> first | rfl | (exfalso; omega)
abbrev aoV : T Lf := (lC (aT 2) (mk (aT 3)) (mk (aT 4)) bt (mk (aT 6)) (aT 7) (aT 8) (.lit 0) 2)
theorem avD (H : TH d0 d1 s th 13 obj arg tries o c dn g r v) (hr : r.l = []) : dV (bZ d0 d1 s th 13 obj arg tries) aoV = Gl d0 s th 13 obj arg tries o c dn g r v := by
 have hb : r.l.length ≤ 140737488351232 := by have := H.hr; omega
 have hz : ((0 : Nat) : Int) = 0 := rfl
 simp only [zz, aN.den, Nat.reduceLT, H.hcp, H.iP, H.hR, H.hk, has_is r th hb, dH r th hb, hr, List.length_nil, List.nil_append, hz, Ee, aO, zA, eP, bY, bW, bH, bG, dL, act, Int.reduceEq, Gl] <;> (repeat' split) <;> first | rfl | (exfalso; omega)
abbrev aoU : T Lf := (lC (aT 2) (mk (aT 3)) (mk (aT 4)) bt (mk (aT 6)) (.dat (.i 1)) (aT 8) (.lit 0) 2)
theorem avC (H : TH d0 d1 s th 14 obj arg tries o c dn g r v) (hr : r.l = []) : dV (bZ d0 d1 s th 14 obj arg tries) aoU = Gl d0 s th 14 obj arg tries o c dn g r v := by
 have hb : r.l.length ≤ 140737488351232 := by have := H.hr; omega
 have hz : ((0 : Nat) : Int) = 0 := rfl
 simp only [zz, aN.den, Nat.reduceLT, H.hcp, H.iP, H.hR, H.hk, has_is r th hb, dH r th hb, hr, List.length_nil, List.nil_append, hz, Ee, aO, zA, eP, bY, bW, bH, bG, dL, act, Int.reduceEq, Gl] <;> (repeat' split) <;> first | rfl | (exfalso; omega)
end
end Go.As.Try
end
section
namespace Go.As.Try
open Go hiding Stat Spec shape
open Go.As
set_option maxRecDepth 100000
def ops : List Int := [1, 2, 8, 3, 4, 5, 6, 7, 9, 11, 10, 17, 18, 19, 22, 23, 20, 21, 12, 13, 14, 24, 15, 25, 16, 26]
abbrev Yo (k : Int) : List SB := [.eq (.aA 4) (.lit k)]
abbrev No (k : Int) : List SB := (ops.filter fun j => !(j == k)).map fun j => .eq (.aA 4) (.lit j)
abbrev p3 : T Lf := prune (YG ++ YA3) (NG ++ NA3) jU
abbrev p4 : T Lf := prune (YG ++ YA4) (NG ++ NA4) jU
abbrev p5 : T Lf := prune (YG ++ YA5) (NG ++ NA5) jU
abbrev p6 : T Lf := prune (YG ++ YA6) (NG ++ NA6) jU
section
variable {d0 d1 s r v : D} {th op obj arg tries o c dn g : Int}
theorem aaD {ρ : Nat → Int} : ∀ {l : List SB}, (∀ c ∈ l, ¬ c.den ρ = true) → zW ρ l
 | [], _ => trivial
 | c :: l, h => ⟨h c (by simp), aaD fun x hx => h x (List.mem_cons_of_mem _ hx)⟩
theorem fO (k : Int) : zY (bZ d0 d1 s th k obj arg tries) (Yo k) ∧ zW (bZ d0 d1 s th k obj arg tries) (No k) := by
 refine ⟨by simp only [zz, aN.den, Nat.reduceLT], aaD fun c hc => ?_⟩
 obtain ⟨j, hj, rfl⟩ := List.mem_map.1 hc
 have := (List.mem_filter.1 hj).2
 simp only [zz, aN.den, Nat.reduceLT]
 intro h
 subst h
 simp at this
theorem Z7 (H : TH d0 d1 s th op obj arg tries o c dn g r v) (hr : 0 < r.l.length) (hv : 0 < v.l.length) : dV (bZ d0 d1 s th op obj arg tries) p3 = dV (bZ d0 d1 s th op obj arg tries) jU := dD (z2 (fG H) (fA3 H hr hv)) jU
theorem Z5 (H : TH d0 d1 s th op obj arg tries o c dn g r v) (hr : 0 < r.l.length) (hv : v.l = []) : dV (bZ d0 d1 s th op obj arg tries) p4 = dV (bZ d0 d1 s th op obj arg tries) jU := dD (z2 (fG H) (fA4 H hr hv)) jU
theorem sp5 (H : TH d0 d1 s th op obj arg tries o c dn g r v) (hr : r.l = []) (hv : 0 < v.l.length) : dV (bZ d0 d1 s th op obj arg tries) p5 = dV (bZ d0 d1 s th op obj arg tries) jU := dD (z2 (fG H) (fA5 H hr hv)) jU
theorem sp6 (H : TH d0 d1 s th op obj arg tries o c dn g r v) (hr : r.l = []) (hv : v.l = []) : dV (bZ d0 d1 s th op obj arg tries) p6 = dV (bZ d0 d1 s th op obj arg tries) jU := dD (z2 (fG H) (fA6 H hr hv)) jU
theorem jR {k : Int} {t u : T Lf} {Q : RS} (e : prune (Yo k) (No k) t = u) (h : dV (bZ d0 d1 s th k obj arg tries) u = Q) : dV (bZ d0 d1 s th k obj arg tries) t = Q := by rw [← dD (fO k) t, e, h]
theorem jS (H : TH d0 d1 s th op obj arg tries o c dn g r v) {u : T Lf} {Q : RS} (e3 : prune (Yo op) (No op) p3 = u) (e4 : prune (Yo op) (No op) p4 = u) (e5 : prune (Yo op) (No op) p5 = u) (e6 : prune (Yo op) (No op) p6 = u) (h : dV (bZ d0 d1 s th op obj arg tries) u = Q) : dV (bZ d0 d1 s th op obj arg tries) jU = Q := by
 rcases jZ r.l with hr | hr <;> rcases jZ v.l with hv | hv
 ·exact (sp6 H hr hv).symm.trans (jR e6 h)
 ·exact (sp5 H hr hv).symm.trans (jR e5 h)
 ·exact (Z5 H hr hv).symm.trans (jR e4 h)
 ·exact (Z7 H hr hv).symm.trans (jR e3 h)
theorem o1 (H : TH d0 d1 s th 1 obj arg tries o c dn g r v) : dV (bZ d0 d1 s th 1 obj arg tries) jU = Gl d0 s th 1 obj arg tries o c dn g r v := jS H (u := zt0) (by kernel_rfl) (by kernel_rfl) (by kernel_rfl) (by kernel_rfl) (sm0 H)
theorem o2 (H : TH d0 d1 s th 2 obj arg tries o c dn g r v) : dV (bZ d0 d1 s th 2 obj arg tries) jU = Gl d0 s th 2 obj arg tries o c dn g r v := jS H (u := zt1) (by kernel_rfl) (by kernel_rfl) (by kernel_rfl) (by kernel_rfl) (sm1 H)
theorem o8 (H : TH d0 d1 s th 8 obj arg tries o c dn g r v) : dV (bZ d0 d1 s th 8 obj arg tries) jU = Gl d0 s th 8 obj arg tries o c dn g r v := jS H (u := zt1) (by kernel_rfl) (by kernel_rfl) (by kernel_rfl) (by kernel_rfl) (sm2 H)
theorem o3 (H : TH d0 d1 s th 3 obj arg tries o c dn g r v) : dV (bZ d0 d1 s th 3 obj arg tries) jU = Gl d0 s th 3 obj arg tries o c dn g r v := jS H (u := zt2) (by kernel_rfl) (by kernel_rfl) (by kernel_rfl) (by kernel_rfl) (sm3 H)
theorem o4 (H : TH d0 d1 s th 4 obj arg tries o c dn g r v) : dV (bZ d0 d1 s th 4 obj arg tries) jU = Gl d0 s th 4 obj arg tries o c dn g r v := jS H (u := zt3) (by kernel_rfl) (by kernel_rfl) (by kernel_rfl) (by kernel_rfl) (sm4 H)
theorem o5 (H : TH d0 d1 s th 5 obj arg tries o c dn g r v) : dV (bZ d0 d1 s th 5 obj arg tries) jU = Gl d0 s th 5 obj arg tries o c dn g r v := by
 rcases jZ r.l with hr | hr <;> rcases jZ v.l with hv | hv
 ·exact (sp6 H hr hv).symm.trans (jR (u := aoX) (by kernel_rfl) (avG H hr))
 ·exact (sp5 H hr hv).symm.trans (jR (u := aoX) (by kernel_rfl) (avG H hr))
 ·exact (Z5 H hr hv).symm.trans (jR (u := zt4) (by kernel_rfl) (sm5 H hr))
 ·exact (Z7 H hr hv).symm.trans (jR (u := zt4) (by kernel_rfl) (sm5 H hr))
theorem o6 (H : TH d0 d1 s th 6 obj arg tries o c dn g r v) : dV (bZ d0 d1 s th 6 obj arg tries) jU = Gl d0 s th 6 obj arg tries o c dn g r v := by
 rcases jZ r.l with hr | hr <;> rcases jZ v.l with hv | hv
 ·exact (sp6 H hr hv).symm.trans (jR (u := zt5) (by kernel_rfl) (sm6 H (by rw [Bd hr]; omega)))
 ·exact (sp5 H hr hv).symm.trans (jR (u := zt5) (by kernel_rfl) (sm6 H (by rw [Bd hr]; omega)))
 ·by_cases hk : place r th < 0
  ·exact (Z5 H hr hv).symm.trans ((dD (fK0 H hk) _).symm.trans (jR (u := zt5) (by kernel_rfl) (sm6 H hk)))
  ·exact (Z5 H hr hv).symm.trans ((dD (fK1 H hk) _).symm.trans (jR (u := zt6) (by kernel_rfl) (sm7 H hr hk)))
 ·by_cases hk : place r th < 0
  ·exact (Z7 H hr hv).symm.trans ((dD (fK0 H hk) _).symm.trans (jR (u := zt5) (by kernel_rfl) (sm6 H hk)))
  ·exact (Z7 H hr hv).symm.trans ((dD (fK1 H hk) _).symm.trans (jR (u := zt6) (by kernel_rfl) (sm7 H hr hk)))
theorem o7 (H : TH d0 d1 s th 7 obj arg tries o c dn g r v) : dV (bZ d0 d1 s th 7 obj arg tries) jU = Gl d0 s th 7 obj arg tries o c dn g r v := by
 rcases jZ r.l with hr | hr <;> rcases jZ v.l with hv | hv
 ·exact (sp6 H hr hv).symm.trans (jR (u := zt0) (by kernel_rfl) (avF H hr))
 ·exact (sp5 H hr hv).symm.trans (jR (u := zt0) (by kernel_rfl) (avF H hr))
 ·exact (Z5 H hr hv).symm.trans (jR (u := zt7) (by kernel_rfl) (sm8 H hr))
 ·exact (Z7 H hr hv).symm.trans (jR (u := zt7) (by kernel_rfl) (sm8 H hr))
theorem o9 (H : TH d0 d1 s th 9 obj arg tries o c dn g r v) : dV (bZ d0 d1 s th 9 obj arg tries) jU = Gl d0 s th 9 obj arg tries o c dn g r v := jS H (u := zt8) (by kernel_rfl) (by kernel_rfl) (by kernel_rfl) (by kernel_rfl) (sm9 H)
theorem o11 (H : TH d0 d1 s th 11 obj arg tries o c dn g r v) : dV (bZ d0 d1 s th 11 obj arg tries) jU = Gl d0 s th 11 obj arg tries o c dn g r v := jS H (u := zt9) (by kernel_rfl) (by kernel_rfl) (by kernel_rfl) (by kernel_rfl) (azQ H)
theorem o10 (H : TH d0 d1 s th 10 obj arg tries o c dn g r v) : dV (bZ d0 d1 s th 10 obj arg tries) jU = Gl d0 s th 10 obj arg tries o c dn g r v := jS H (u := auP) (by kernel_rfl) (by kernel_rfl) (by kernel_rfl) (by kernel_rfl) (azP H)
theorem o17 (H : TH d0 d1 s th 17 obj arg tries o c dn g r v) : dV (bZ d0 d1 s th 17 obj arg tries) jU = Gl d0 s th 17 obj arg tries o c dn g r v := jS H (u := auO) (by kernel_rfl) (by kernel_rfl) (by kernel_rfl) (by kernel_rfl) (azO H)
theorem o18 (H : TH d0 d1 s th 18 obj arg tries o c dn g r v) : dV (bZ d0 d1 s th 18 obj arg tries) jU = Gl d0 s th 18 obj arg tries o c dn g r v := jS H (u := auN) (by kernel_rfl) (by kernel_rfl) (by kernel_rfl) (by kernel_rfl) (azN H)
theorem o19 (H : TH d0 d1 s th 19 obj arg tries o c dn g r v) : dV (bZ d0 d1 s th 19 obj arg tries) jU = Gl d0 s th 19 obj arg tries o c dn g r v := jS H (u := auM) (by kernel_rfl) (by kernel_rfl) (by kernel_rfl) (by kernel_rfl) (azM H)
theorem o22 (H : TH d0 d1 s th 22 obj arg tries o c dn g r v) : dV (bZ d0 d1 s th 22 obj arg tries) jU = Gl d0 s th 22 obj arg tries o c dn g r v := jS H (u := auL) (by kernel_rfl) (by kernel_rfl) (by kernel_rfl) (by kernel_rfl) (azL H)
theorem o23 (H : TH d0 d1 s th 23 obj arg tries o c dn g r v) : dV (bZ d0 d1 s th 23 obj arg tries) jU = Gl d0 s th 23 obj arg tries o c dn g r v := jS H (u := auK) (by kernel_rfl) (by kernel_rfl) (by kernel_rfl) (by kernel_rfl) (azK H)
theorem o20 (H : TH d0 d1 s th 20 obj arg tries o c dn g r v) : dV (bZ d0 d1 s th 20 obj arg tries) jU = Gl d0 s th 20 obj arg tries o c dn g r v := by
 rcases jZ r.l with hr | hr <;> rcases jZ v.l with hv | hv
 ·exact (sp6 H hr hv).symm.trans (jR (u := aoZ) (by kernel_rfl) (avI H hv))
 ·exact (sp5 H hr hv).symm.trans (jR (u := apE) (by kernel_rfl) (avN H hv))
 ·exact (Z5 H hr hv).symm.trans (jR (u := aoZ) (by kernel_rfl) (avI H hv))
 ·exact (Z7 H hr hv).symm.trans (jR (u := apE) (by kernel_rfl) (avN H hv))
theorem o21 (H : TH d0 d1 s th 21 obj arg tries o c dn g r v) : dV (bZ d0 d1 s th 21 obj arg tries) jU = Gl d0 s th 21 obj arg tries o c dn g r v := by
 rcases jZ r.l with hr | hr <;> rcases jZ v.l with hv | hv
 ·exact (sp6 H hr hv).symm.trans (jR (u := aoY) (by kernel_rfl) (avH H hv))
 ·exact (sp5 H hr hv).symm.trans (jR (u := apD) (by kernel_rfl) (avM H hv))
 ·exact (Z5 H hr hv).symm.trans (jR (u := aoY) (by kernel_rfl) (avH H hv))
 ·exact (Z7 H hr hv).symm.trans (jR (u := apD) (by kernel_rfl) (avM H hv))
theorem o12 (H : TH d0 d1 s th 12 obj arg tries o c dn g r v) : dV (bZ d0 d1 s th 12 obj arg tries) jU = Gl d0 s th 12 obj arg tries o c dn g r v := by
 rcases jZ r.l with hr | hr <;> rcases jZ v.l with hv | hv
 ·have hd := amC r th obj (Mx d0 obj) (enc (dL (iC s.l (Mx d0 obj) (dL (iC (s.at (Mx d0 obj)).l 0 (.i (-1))))))) 12 arg tries o c dn g (enc v)
  exact (sp6 H hr hv).symm.trans ((dD (fM H (by omega)) _).symm.trans ((dD (aAt H hd) _).symm.trans (jR (u := aoW) (by kernel_rfl) (avE H hr))))
 ·have hd := amD r th obj (Mx d0 obj) (enc (dL (iC s.l (Mx d0 obj) (dL (iC (s.at (Mx d0 obj)).l 0 (.i (-1))))))) 12 arg tries o c dn g (enc v)
  exact (sp5 H hr hv).symm.trans ((dD (fM H (by omega)) _).symm.trans ((dD (aAu H hd) _).symm.trans (jR (u := aoW) (by kernel_rfl) (avE H hr))))
 ·rcases amE r th (by have := H.hr; omega) H.hn with ⟨hw, hd⟩ | hd
  ·have hd := hd obj (Mx d0 obj) (enc (dL (iC s.l (Mx d0 obj) (dL (iC (s.at (Mx d0 obj)).l 0 (.i (-1))))))) 12 arg tries o c dn g (enc v)
   exact (Z5 H hr hv).symm.trans ((dD (fM H (by omega)) _).symm.trans ((dD (aAv H hd) _).symm.trans (jR (u := apC) (by kernel_rfl) (avL H hr hw))))
  ·obtain ⟨n, r1, hn, hl, hw, hd⟩ := hd obj (Mx d0 obj) (enc (dL (iC s.l (Mx d0 obj) (dL (iC (s.at (Mx d0 obj)).l 0 (.i (-1))))))) 12 arg tries o c dn g (enc v)
   exact (Z5 H hr hv).symm.trans ((dD (fM H (by omega)) _).symm.trans ((dD (aAw H hn hl hd) _).symm.trans (jR (u := auE) (by kernel_rfl) (azE H hr hv hn hl hw hd))))
 ·rcases amF r th (by have := H.hr; omega) H.hn with ⟨hw, hd⟩ | hd
  ·have hd := hd obj (Mx d0 obj) (enc (dL (iC s.l (Mx d0 obj) (dL (iC (s.at (Mx d0 obj)).l 0 (.i (-1))))))) 12 arg tries o c dn g (enc v)
   exact (Z7 H hr hv).symm.trans ((dD (fM H (by omega)) _).symm.trans ((dD (aAx H hd) _).symm.trans (jR (u := apC) (by kernel_rfl) (avL H hr hw))))
  ·obtain ⟨n, r1, hn, hl, hw, hd⟩ := hd obj (Mx d0 obj) (enc (dL (iC s.l (Mx d0 obj) (dL (iC (s.at (Mx d0 obj)).l 0 (.i (-1))))))) 12 arg tries o c dn g (enc v)
   exact (Z7 H hr hv).symm.trans ((dD (fM H (by omega)) _).symm.trans ((dD (aAy H hn hl hd) _).symm.trans (jR (u := auJ) (by kernel_rfl) (azJ H hr hv hn hl hw hd))))
theorem o13 (H : TH d0 d1 s th 13 obj arg tries o c dn g r v) : dV (bZ d0 d1 s th 13 obj arg tries) jU = Gl d0 s th 13 obj arg tries o c dn g r v := by
 rcases jZ r.l with hr | hr <;> rcases jZ v.l with hv | hv
 ·exact (sp6 H hr hv).symm.trans (jR (u := aoV) (by kernel_rfl) (avD H hr))
 ·exact (sp5 H hr hv).symm.trans (jR (u := aoV) (by kernel_rfl) (avD H hr))
 ·exact (Z5 H hr hv).symm.trans (jR (u := apB) (by kernel_rfl) (avK H hr))
 ·exact (Z7 H hr hv).symm.trans (jR (u := apB) (by kernel_rfl) (avK H hr))
theorem o14 (H : TH d0 d1 s th 14 obj arg tries o c dn g r v) : dV (bZ d0 d1 s th 14 obj arg tries) jU = Gl d0 s th 14 obj arg tries o c dn g r v := by
 rcases jZ r.l with hr | hr <;> rcases jZ v.l with hv | hv
 ·exact (sp6 H hr hv).symm.trans (jR (u := aoU) (by kernel_rfl) (avC H hr))
 ·exact (sp5 H hr hv).symm.trans (jR (u := aoU) (by kernel_rfl) (avC H hr))
 ·exact (Z5 H hr hv).symm.trans (jR (u := apA) (by kernel_rfl) (avJ H hr))
 ·exact (Z7 H hr hv).symm.trans (jR (u := apA) (by kernel_rfl) (avJ H hr))
theorem o24 (H : TH d0 d1 s th 24 obj arg tries o c dn g r v) : dV (bZ d0 d1 s th 24 obj arg tries) jU = Gl d0 s th 24 obj arg tries o c dn g r v := by
 rcases jZ r.l with hr | hr <;> rcases jZ v.l with hv | hv
 ·exact (sp6 H hr hv).symm.trans ((dD (fM H (by omega)) _).symm.trans (jR (u := aaA) (by kernel_rfl) (ajK H)))
 ·exact (sp5 H hr hv).symm.trans ((dD (fM H (by omega)) _).symm.trans (jR (u := aaA) (by kernel_rfl) (ajK H)))
 ·exact (Z5 H hr hv).symm.trans ((dD (fM H (by omega)) _).symm.trans (jR (u := aaA) (by kernel_rfl) (ajK H)))
 ·exact (Z7 H hr hv).symm.trans ((dD (fM H (by omega)) _).symm.trans (jR (u := aaA) (by kernel_rfl) (ajK H)))
theorem o15 (H : TH d0 d1 s th 15 obj arg tries o c dn g r v) : dV (bZ d0 d1 s th 15 obj arg tries) jU = Gl d0 s th 15 obj arg tries o c dn g r v := jS H (u := auI) (by kernel_rfl) (by kernel_rfl) (by kernel_rfl) (by kernel_rfl) (azI H)
theorem o25 (H : TH d0 d1 s th 25 obj arg tries o c dn g r v) : dV (bZ d0 d1 s th 25 obj arg tries) jU = Gl d0 s th 25 obj arg tries o c dn g r v := jS H (u := auH) (by kernel_rfl) (by kernel_rfl) (by kernel_rfl) (by kernel_rfl) (azH H)
theorem o16 (H : TH d0 d1 s th 16 obj arg tries o c dn g r v) : dV (bZ d0 d1 s th 16 obj arg tries) jU = Gl d0 s th 16 obj arg tries o c dn g r v := jS H (u := auG) (by kernel_rfl) (by kernel_rfl) (by kernel_rfl) (by kernel_rfl) (azG H)
theorem o26 (H : TH d0 d1 s th 26 obj arg tries o c dn g r v) : dV (bZ d0 d1 s th 26 obj arg tries) jU = Gl d0 s th 26 obj arg tries o c dn g r v := jS H (u := auF) (by kernel_rfl) (by kernel_rfl) (by kernel_rfl) (by kernel_rfl) (azF H)
theorem aiC (H : TH d0 d1 s th op obj arg tries o c dn g r v) (hop : op ∈ ops) : L 400 [enc d0, enc d1, enc s, th, op, obj, arg, tries] = some (outA s th op obj (Mx d0 obj) (act (Mx d0 obj) (Mo d0 s obj) th op arg tries o c dn g r v)) := by
 rw [bM, atQ]
 suffices h : dV (bZ d0 d1 s th op obj arg tries) jU = Gl d0 s th op obj arg tries o c dn g r v by rw [h]; rfl
 unfold ops at hop
 simp only [List.mem_cons, List.not_mem_nil, or_false] at hop
 rcases hop with rfl | rfl | rfl | rfl | rfl | rfl | rfl | rfl | rfl | rfl | rfl | rfl | rfl | rfl | rfl | rfl | rfl | rfl | rfl | rfl | rfl | rfl | rfl | rfl | rfl | rfl
 ·exact o1 H
 ·exact o2 H
 ·exact o8 H
 ·exact o3 H
 ·exact o4 H
 ·exact o5 H
 ·exact o6 H
 ·exact o7 H
 ·exact o9 H
 ·exact o11 H
 ·exact o10 H
 ·exact o17 H
 ·exact o18 H
 ·exact o19 H
 ·exact o22 H
 ·exact o23 H
 ·exact o20 H
 ·exact o21 H
 ·exact o12 H
 ·exact o13 H
 ·exact o14 H
 ·exact o24 H
 ·exact o15 H
 ·exact o25 H
 ·exact o16 H
 ·exact o26 H
end
end Go.As.Try
end
section
namespace Go.As.Try
open Go hiding Stat Spec shape
open Go.As
set_option maxRecDepth 100000
abbrev acZ : T Lf := ou [.op .set (aT 2) (thg (mk (aT 3)) (mk (aT 4)) bt (mk (aT 6)) (aT 7) (aT 8)), .lit 0, .lit 0, .lit 0, .lit 0, .lit 0, .lit 0]
abbrev Ya (a : Int) : List SB := [.eq (a0 9000 [.aA 5, .aA 2]) (.lit 1), .eq (aT 0) (.lit a), .eq (a0 350 [.aA 0, .aA 1, .aA 2]) (.lit 1)]
abbrev Na (a : Int) : List SB := ([0, 1, 2, 3, 4, 5].filter fun j => !(j == a)).map fun j => .eq (aT 0) (.lit j)
abbrev r3 : SB := .eq (rr 350 [.aA 0, .aA 1, .aA 2] 0) (.lit 0)
abbrev t3 : SB := .lt (.aA 3) (.lit 0)
abbrev u3 : SB := .lt (.aA 3) (ln (.aA 1))
section
variable {d0 d1 s r v : D} {th op obj arg tries o c dn g b kop a : Int} (hR : L 350 [enc d0, enc d1, enc s] = some [b])
include hR
theorem fa {l : List Int} (hc : L 9000 [obj, enc s] = some (a :: l)) : zY (bZ d0 d1 s th op obj arg tries) (Ya a) ∧ zW (bZ d0 d1 s th op obj arg tries) (Na a) := by
 refine ⟨by simp only [zz, aN.den, Nat.reduceLT, hc, hR], aaD fun c hc' => ?_⟩
 obtain ⟨j, hj, rfl⟩ := List.mem_map.1 hc'
 have := (List.mem_filter.1 hj).2
 simp only [zz, aN.den, Nat.reduceLT, hc]
 intro h
 subst h
 simp at this
theorem vO (k : dV (bZ d0 d1 s th op obj arg tries) jU = .out [enc s, 0, 0, 0, 0, 0, 0]) : L 400 [enc d0, enc d1, enc s, th, op, obj, arg, tries] = some [enc s, 0, 0, 0, 0, 0, 0] := by
 rw [bM, atQ]
 exact congrArg (fin L) k
section
variable (ha : a = 3 ∨ a = 4 ∨ a = 5 ∨ a = 6) (hcp : L 9000 [obj, enc s] = some [a, obj, enc s, o, c, dn, g, enc r, enc v]) (zV : 0 ≤ obj) (zT : obj < (s.l.length : Int)) (hd : dn = 0 ∨ dn = 1) (hs : s = dL (iC s.l obj (dL [.i o, .i c, .i dn, .i g, r, v])))
include ha hcp zV zT hd hs
omit ha hR zV zT in
theorem IC : dV (bZ d0 d1 s th op obj arg tries) acZ = .out [enc s, 0, 0, 0, 0, 0, 0] := by
 have e : (if dn = 0 then (0 : Int) else 1) = dn := by rcases hd with rfl | rfl <;> rfl
 simp only [dL] at hs
 simp only [zz, aN.den, Nat.reduceLT, hcp, e, ← hs]
theorem azV (h : b = 0) : L 400 [enc d0, enc d1, enc s, th, op, obj, arg, tries] = some [enc s, 0, 0, 0, 0, 0, 0] :=
 vO hR (bI (Ya a ++ [r3]) (Na a ++ []) acZ (z2 (fa hR hcp) (by simp only [zz, aN.den, Nat.reduceLT, hcp, hR] <;> omega)) (by rcases ha with rfl | rfl | rfl | rfl <;> kernel_rfl) (IC hcp hd hs))
theorem azU (hb : b ≠ 0) (h : th < 0) : L 400 [enc d0, enc d1, enc s, th, op, obj, arg, tries] = some [enc s, 0, 0, 0, 0, 0, 0] :=
 vO hR (bI (Ya a ++ [t3]) (Na a ++ [r3]) acZ (z2 (fa hR hcp) (by simp only [zz, aN.den, Nat.reduceLT, hcp, hR] <;> omega)) (by rcases ha with rfl | rfl | rfl | rfl <;> kernel_rfl) (IC hcp hd hs))
theorem azT (hb : b ≠ 0) (h0 : 0 ≤ th) (h : ¬ th < (d1.l.length : Int)) : L 400 [enc d0, enc d1, enc s, th, op, obj, arg, tries] = some [enc s, 0, 0, 0, 0, 0, 0] :=
 vO hR (bI (Ya a ++ []) (Na a ++ [r3, t3, u3]) acZ (z2 (fa hR hcp) (by simp only [zz, aN.den, Nat.reduceLT, hcp, hR] <;> omega)) (by rcases ha with rfl | rfl | rfl | rfl <;> kernel_rfl) (IC hcp hd hs))
theorem azW (hb : b ≠ 0) (h0 : 0 ≤ th) (h : th < (d1.l.length : Int)) (hk : L 600 [op] = some [kop]) (hlen : s.l.length = d0.l.length) (hne : ¬ kop = ((d0.at obj).hd 0).n) : L 400 [enc d0, enc d1, enc s, th, op, obj, arg, tries] = some [enc s, 0, 0, 0, 0, 0, 0] :=
 vO hR (bI (Ya a ++ [u3, .lt (.aA 5) (ln (aT 2)), .eq (a0 600 [.aA 4]) (.lit 1), .lt (.aA 5) (ln (.aA 0))]) (Na a ++ [r3, t3, .lt (.aA 5) (.lit 0), .eq (rr 600 [.aA 4] 0) (nm (ce 0 (el (.aA 0) (.aA 5))))]) acZ (z2 (fa hR hcp) (by simp only [zz, aN.den, Nat.reduceLT, hcp, hR, hk] <;> omega)) (by rcases ha with rfl | rfl | rfl | rfl <;> kernel_rfl) (IC hcp hd hs))
end
theorem avW (hcp : L 9000 [obj, enc s] = some [0, obj, enc s]) (h : obj < 0) : L 400 [enc d0, enc d1, enc s, th, op, obj, arg, tries] = some [enc s, 0, 0, 0, 0, 0, 0] :=
 vO hR (bI (Ya 0 ++ [.lt (.aA 5) (.lit 0)]) (Na 0 ++ []) (sp r3 (ou [aT 2, .lit 0, .lit 0, .lit 0, .lit 0, .lit 0, .lit 0]) (sp t3 (ou [aT 2, .lit 0, .lit 0, .lit 0, .lit 0, .lit 0, .lit 0]) (sp u3 (ou [aT 2, .lit 0, .lit 0, .lit 0, .lit 0, .lit 0, .lit 0]) (ou [aT 2, .lit 0, .lit 0, .lit 0, .lit 0, .lit 0, .lit 0])))) (z2 (fa hR hcp) (by simp only [zz, aN.den, Nat.reduceLT, hcp] <;> omega)) (by kernel_rfl) (by simp only [zz, aN.den, Nat.reduceLT, hcp, hR, ite_self]))
theorem avV (hcp : L 9000 [obj, enc s] = some [0, obj, enc s]) (h0 : 0 ≤ obj) (h : ¬ obj < (s.l.length : Int)) : L 400 [enc d0, enc d1, enc s, th, op, obj, arg, tries] = some [enc s, 0, 0, 0, 0, 0, 0] :=
 vO hR (bI (Ya 0 ++ []) (Na 0 ++ [.lt (.aA 5) (.lit 0), .lt (.aA 5) (ln (aT 2))]) (sp r3 (ou [aT 2, .lit 0, .lit 0, .lit 0, .lit 0, .lit 0, .lit 0]) (sp t3 (ou [aT 2, .lit 0, .lit 0, .lit 0, .lit 0, .lit 0, .lit 0]) (sp u3 (ou [aT 2, .lit 0, .lit 0, .lit 0, .lit 0, .lit 0, .lit 0]) (ou [aT 2, .lit 0, .lit 0, .lit 0, .lit 0, .lit 0, .lit 0])))) (z2 (fa hR hcp) (by simp only [zz, aN.den, Nat.reduceLT, hcp] <;> omega)) (by kernel_rfl) (by simp only [zz, aN.den, Nat.reduceLT, hcp, hR, ite_self]))
theorem avU (hcp : L 9000 [obj, enc s] = some [1, obj]) (h : obj < 0) (hs : s = .i 1) : L 400 [enc d0, enc d1, enc s, th, op, obj, arg, tries] = some [enc s, 0, 0, 0, 0, 0, 0] :=
 vO hR (bI (Ya 1 ++ [.lt (.aA 5) (.lit 0)]) (Na 1 ++ []) (sp r3 (ou [.dat (.i 1), .lit 0, .lit 0, .lit 0, .lit 0, .lit 0, .lit 0]) (sp t3 (ou [.dat (.i 1), .lit 0, .lit 0, .lit 0, .lit 0, .lit 0, .lit 0]) (sp u3 (ou [.dat (.i 1), .lit 0, .lit 0, .lit 0, .lit 0, .lit 0, .lit 0]) (ou [.dat (.i 1), .lit 0, .lit 0, .lit 0, .lit 0, .lit 0, .lit 0])))) (z2 (fa hR hcp) (by simp only [zz, aN.den, Nat.reduceLT, hcp] <;> omega)) (by kernel_rfl) (by simp only [zz, aN.den, Nat.reduceLT, hcp, hR, hs, ite_self]))
theorem avT (hcp : L 9000 [obj, enc s] = some [1, obj]) (h0 : 0 ≤ obj) (h : ¬ obj < (s.l.length : Int)) (hs : s = .i 1) : L 400 [enc d0, enc d1, enc s, th, op, obj, arg, tries] = some [enc s, 0, 0, 0, 0, 0, 0] :=
 vO hR (bI (Ya 1 ++ []) (Na 1 ++ [.lt (.aA 5) (.lit 0)]) (sp r3 (ou [.dat (.i 1), .lit 0, .lit 0, .lit 0, .lit 0, .lit 0, .lit 0]) (sp t3 (ou [.dat (.i 1), .lit 0, .lit 0, .lit 0, .lit 0, .lit 0, .lit 0]) (sp u3 (ou [.dat (.i 1), .lit 0, .lit 0, .lit 0, .lit 0, .lit 0, .lit 0]) (ou [.dat (.i 1), .lit 0, .lit 0, .lit 0, .lit 0, .lit 0, .lit 0])))) (z2 (fa hR hcp) (by simp only [zz, aN.den, Nat.reduceLT, hcp] <;> omega)) (by kernel_rfl) (by simp only [zz, aN.den, Nat.reduceLT, hcp, hR, hs, ite_self]))
theorem avS (hcp : L 9000 [obj, enc s] = some [2, obj]) (h : obj < 0) (hs : s = .i 2) : L 400 [enc d0, enc d1, enc s, th, op, obj, arg, tries] = some [enc s, 0, 0, 0, 0, 0, 0] :=
 vO hR (bI (Ya 2 ++ [.lt (.aA 5) (.lit 0)]) (Na 2 ++ []) (sp r3 (ou [.dat (.i 2), .lit 0, .lit 0, .lit 0, .lit 0, .lit 0, .lit 0]) (sp t3 (ou [.dat (.i 2), .lit 0, .lit 0, .lit 0, .lit 0, .lit 0, .lit 0]) (sp u3 (ou [.dat (.i 2), .lit 0, .lit 0, .lit 0, .lit 0, .lit 0, .lit 0]) (ou [.dat (.i 2), .lit 0, .lit 0, .lit 0, .lit 0, .lit 0, .lit 0])))) (z2 (fa hR hcp) (by simp only [zz, aN.den, Nat.reduceLT, hcp] <;> omega)) (by kernel_rfl) (by simp only [zz, aN.den, Nat.reduceLT, hcp, hR, hs, ite_self]))
theorem avR (hcp : L 9000 [obj, enc s] = some [2, obj]) (h0 : 0 ≤ obj) (h : ¬ obj < (s.l.length : Int)) (hs : s = .i 2) : L 400 [enc d0, enc d1, enc s, th, op, obj, arg, tries] = some [enc s, 0, 0, 0, 0, 0, 0] :=
 vO hR (bI (Ya 2 ++ []) (Na 2 ++ [.lt (.aA 5) (.lit 0)]) (sp r3 (ou [.dat (.i 2), .lit 0, .lit 0, .lit 0, .lit 0, .lit 0, .lit 0]) (sp t3 (ou [.dat (.i 2), .lit 0, .lit 0, .lit 0, .lit 0, .lit 0, .lit 0]) (sp u3 (ou [.dat (.i 2), .lit 0, .lit 0, .lit 0, .lit 0, .lit 0, .lit 0]) (ou [.dat (.i 2), .lit 0, .lit 0, .lit 0, .lit 0, .lit 0, .lit 0])))) (z2 (fa hR hcp) (by simp only [zz, aN.den, Nat.reduceLT, hcp] <;> omega)) (by kernel_rfl) (by simp only [zz, aN.den, Nat.reduceLT, hcp, hR, hs, ite_self]))
end
end Go.As.Try
end
section
namespace Go.As.Try
open Go hiding Stat Spec shape
open Go.As
set_option maxRecDepth 100000
def kindOf (o : Int) : Int := if o < 27 then (if o = 0 then 0 else if o = 1 then 1 else if o = 2 then 1 else if o = 3 then 1 else if o = 4 then 1 else if o = 5 then 2 else if o = 6 then 2 else if o = 7 then 2 else if o = 8 then 2 else if o = 9 then 3 else if o = 10 then 3 else if o = 11 then 3 else if o = 12 then 4 else if o = 13 then 4 else if o = 14 then 4 else if o = 15 then 5 else if o = 16 then 6 else if o = 17 then 7 else if o = 18 then 7 else if o = 19 then 7 else if o = 20 then 8 else if o = 21 then 8 else if o = 22 then 9 else if o = 23 then 9 else if o = 24 then 4 else if o = 25 then 5 else 6) else 0
theorem Tn (o : Int) (h : rG .u8 o) : L 600 [o] = some [kindOf o] := by
 have h1 := h.1
 have w := amW h
 have c1 : ¬ (o < 0) := by omega
 rw [bM, atH]
 simp only [aiP, zz, aN.den, Nat.reduceLT, w, c1]
 by_cases h27 : o < 27
 ·simp only [if_pos h27]
  have : o = 0 ∨ o = 1 ∨ o = 2 ∨ o = 3 ∨ o = 4 ∨ o = 5 ∨ o = 6 ∨ o = 7 ∨ o = 8 ∨ o = 9 ∨ o = 10 ∨ o = 11 ∨ o = 12 ∨ o = 13 ∨ o = 14 ∨ o = 15 ∨ o = 16 ∨ o = 17 ∨ o = 18 ∨ o = 19 ∨ o = 20 ∨ o = 21 ∨ o = 22 ∨ o = 23 ∨ o = 24 ∨ o = 25 ∨ o = 26 := by omega
  rcases this with rfl | rfl | rfl | rfl | rfl | rfl | rfl | rfl | rfl | rfl | rfl | rfl | rfl | rfl | rfl | rfl | rfl | rfl | rfl | rfl | rfl | rfl | rfl | rfl | rfl | rfl | rfl
  all_goals rfl
 ·simp only [if_neg h27]
  unfold kindOf
  rw [if_neg h27]
  rfl
theorem adK {o : Int} (h0 : 0 ≤ o) (h : kindOf o ≠ 0) : o ∈ ops := by
 have h27 : o < 27 := by
  refine Decidable.byContradiction fun hn => h ?_
  unfold kindOf
  rw [if_neg hn]
 have : o = 0 ∨ o = 1 ∨ o = 2 ∨ o = 3 ∨ o = 4 ∨ o = 5 ∨ o = 6 ∨ o = 7 ∨ o = 8 ∨ o = 9 ∨ o = 10 ∨ o = 11 ∨ o = 12 ∨ o = 13 ∨ o = 14 ∨ o = 15 ∨ o = 16 ∨ o = 17 ∨ o = 18 ∨ o = 19 ∨ o = 20 ∨ o = 21 ∨ o = 22 ∨ o = 23 ∨ o = 24 ∨ o = 25 ∨ o = 26 := by omega
 rcases this with rfl | rfl | rfl | rfl | rfl | rfl | rfl | rfl | rfl | rfl | rfl | rfl | rfl | rfl | rfl | rfl | rfl | rfl | rfl | rfl | rfl | rfl | rfl | rfl | rfl | rfl | rfl
 all_goals first | exact absurd rfl h | decide
structure Acc (d0 d1 s : D) (th op obj : Int) : Prop where
 r : L 350 [enc d0, enc d1, enc s] = some [1]
 t0 : 0 ≤ th
 t1 : th < (d1.l.length : Int)
 o0 : 0 ≤ obj
 o1 : obj < (s.l.length : Int)
 k : kindOf op = ((d0.at obj).hd 0).n
structure Tg (x : D) (o c dn g : Int) (r v : D) : Prop where
 is : x = dL [.i o, .i c, .i dn, .i g, r, v]
 ho : rG .i64 o
 hc : rG .i64 c
 hd : dn = 0 ∨ dn = 1
 hg : rG .i64 g
 hr : Wd (.sl 0) r
 hv : Wd (.sl 0) v
theorem RZ {x : D} (h : xR x) : ∃ o c dn g r v, Tg x o c dn g r v := by
 obtain ⟨o, c, d, g, r, v, h1, h2, h3, h4, h5, h6, h7⟩ := h
 exact ⟨o, c, d, g, r, v, h1, h2, h3, h4, h5, h6, h7⟩
theorem ahZ {r : D} (h : Wd (.sl 0) r) : ∀ x ∈ r.l, x = .i x.n := by
 intro x hx
 obtain ⟨n, rfl, _⟩ := (h.el1 rfl x hx).i
 rfl
def few (s : D) : Prop := ∀ x ∈ s.l, (x.hd 4).l.length < 17592186044415 ∧ (x.hd 5).l.length < 17592186044415
theorem few.rows {s : D} (h : few s) : Vu s := fun x hx => by have := (h x hx).1; omega
section
variable {d0 d1 s : D} {th op obj arg tries : Int} (h0 : Wd (.sl 3) d0) (h1 : Wd (.sl 4) d1) (hs : Wd (.sl 7) s) (hf : few s) (hop : rG .u8 op)
include h0 h1 hf in
theorem wJ (h : L 350 [enc d0, enc d1, enc s] = some [1]) : VG d0 d1 ∧ s.l.length = d0.l.length := by
 obtain ⟨b, hb, _, hi⟩ := tC h0 h1 hf.rows
 rw [h] at hb
 simp only [Option.some.injEq, List.cons.injEq, and_true] at hb
 obtain ⟨hC, hle, _⟩ := hi.1 hb.symm
 obtain ⟨ys, hC', c, rfl, _, hok⟩ := Gx h0 h1
 rw [hC] at hC'
 simp only [Option.some.injEq, List.cons.injEq, and_true] at hC'
 exact ⟨hok hC'.symm, hle⟩
include h0 h1 hf in
theorem YD (A : Acc d0 d1 s th op obj) : XK d0 (d0.at obj) ∧ s.l.length = d0.l.length := by
 obtain ⟨hok, hle⟩ := wJ h0 h1 hf A.r
 refine ⟨?_, hle⟩
 have a1 := A.o0; have a2 := A.o1
 obtain ⟨i, rfl⟩ : ∃ i : Nat, obj = (i : Int) := ⟨obj.toNat, by omega⟩
 have hi : i < d0.l.length := by omega
 rw [bV hi]
 exact hok.2.2 _ (List.getElem_mem hi)
include h0 h1 hs hf hop
theorem Fg (A : Acc d0 d1 s th op obj) (h : op = 12 ∨ op = 24) : 0 ≤ Mx d0 obj ∧ Mx d0 obj < (s.l.length : Int) ∧ Mx d0 obj ≠ obj := by
 obtain ⟨ho, hle⟩ := YD h0 h1 hf A
 have h4 : ((d0.at obj).hd 0).n = 4 := by
  rw [← A.k]
  rcases h with rfl | rfl <;> rfl
 obtain ⟨m1, m2, m3⟩ := ho.2.2.2.2.2 h4
 refine ⟨m1, by rw [hle]; exact m2, fun he => ?_⟩
 have he : ((d0.at obj).hd 2).n = obj := he
 rw [he, h4] at m3
 omega
theorem Xj (A : Acc d0 d1 s th op obj) : op ∈ ops ∧ ∃ o c dn g r v, Tg (s.at obj) o c dn g r v ∧
 L 400 [enc d0, enc d1, enc s, th, op, obj, arg, tries] = some (outA s th op obj (Mx d0 obj) (act (Mx d0 obj) (Mo d0 s obj) th op arg tries o c dn g r v)) := by
 obtain ⟨ho, hle⟩ := YD h0 h1 hf A
 have hin : op ∈ ops := adK hop.1 (by rw [A.k]; have := ho.1; omega)
 have a1 := A.o0; have a2 := A.o1
 obtain ⟨i, rfl⟩ : ∃ i : Nat, obj = (i : Int) := ⟨obj.toNat, by omega⟩
 have hi : i < s.l.length := by omega
 have ht := Si hs (by omega)
 obtain ⟨o, c, dn, g, r, v, T⟩ := RZ (hs.thing _ (List.getElem_mem hi))
 have hfx := hf _ (List.getElem_mem hi)
 rw [T.is] at hfx
 have hkk : L 600 [op] = some [((d0.at (i : Int)).hd 0).n] := by rw [Tn op hop, A.k]
 refine ⟨hin, o, c, dn, g, r, v, by rw [bV hi]; exact T, ?_⟩
 refine aiC ⟨aoN s ht i hi o c dn g r v T.is, agW s hs, A.r, A.t0, A.t1, A.o0, A.o1, hle, hkk, ?_, ?_, (ahZ T.hr), fun h => Fg h0 h1 hs hf hop A h⟩ hin
 ·have : (r.l.length : Int) < 17592186044415 := Int.ofNat_lt.2 hfx.1
  exact this
 ·have : (v.l.length : Int) < 17592186044415 := Int.ofNat_lt.2 hfx.2
  exact this
theorem apG (A : ¬ Acc d0 d1 s th op obj) : L 400 [enc d0, enc d1, enc s, th, op, obj, arg, tries] = some [enc s, 0, 0, 0, 0, 0, 0] := by
 obtain ⟨b, hb, hb2, _⟩ := tC h0 h1 hf.rows
 by_cases ho : 0 ≤ obj ∧ obj < (s.l.length : Int)
 ·obtain ⟨i, rfl⟩ : ∃ i : Nat, obj = (i : Int) := ⟨obj.toNat, by omega⟩
  have hi : i < s.l.length := by omega
  have ht := Si hs (by omega)
  obtain ⟨o, c, dn, g, r, v, T⟩ := RZ (hs.thing _ (List.getElem_mem hi))
  have hcp := aoN s ht i hi o c dn g r v T.is
  have hss : s = dL (iC s.l (i : Int) (dL [.i o, .i c, .i dn, .i g, r, v])) := by
   have := set_self ht.sh hi
   rw [T.is] at this
   exact this.symm
  have hkk := Tn op hop
  have key : ∀ alt : Int, (alt = 3 ∨ alt = 4 ∨ alt = 5 ∨ alt = 6) → L 9000 [(i : Int), enc s] = some [alt, (i : Int), enc s, o, c, dn, g, enc r, enc v] → L 400 [enc d0, enc d1, enc s, th, op, (i : Int), arg, tries] = some [enc s, 0, 0, 0, 0, 0, 0] := by
   intro alt ha hcp
   by_cases hb0 : b = 0
   ·exact azV hb ha hcp ho.1 ho.2 T.hd hss hb0
   ·have hb1 : b = 1 := by omega
    by_cases t0 : th < 0
    ·exact azU hb ha hcp ho.1 ho.2 T.hd hss hb0 t0
    ·by_cases t1 : th < (d1.l.length : Int)
     ·have hne : ¬ kindOf op = ((d0.at (i : Int)).hd 0).n := fun hk => A ⟨by rw [hb, hb1], by omega, t1, ho.1, ho.2, hk⟩
      obtain ⟨_, hle⟩ := wJ h0 h1 hf (by rw [hb, hb1])
      exact azW hb ha hcp ho.1 ho.2 T.hd hss hb0 (by omega) t1 hkk hle hne
     ·exact azT hb ha hcp ho.1 ho.2 T.hd hss hb0 (by omega) t1
  refine key _ ?_ hcp
  unfold nM
  split <;> split <;> simp
 ·obtain ⟨ys, hc, hys⟩ := copyN s hs obj (by omega)
  by_cases hn : obj < 0
  ·rcases hys with rfl | ⟨rfl, he⟩ | ⟨rfl, he⟩
   ·exact avW hb hc hn
   ·exact avU hb hc hn he
   ·exact avS hb hc hn he
  ·rcases hys with rfl | ⟨rfl, he⟩ | ⟨rfl, he⟩
   ·exact avV hb hc (by omega) (by omega)
   ·exact avT hb hc (by omega) (by omega) he
   ·exact avR hb hc (by omega) (by omega) he
end
end Go.As.Try
end
section
namespace Go.As.Try
open Go hiding Stat Spec shape
open Go.As
set_option maxRecDepth 100000
theorem Iu {d : D} {l : List D} (h : ∀ x ∈ l, ∃ n, x = .i n ∧ rG .i64 n) (hl : l.length ≤ 17592186043904) : Wd (.sl 0) (gV d l) := by
 cases l with
 | nil =>
   show Wd (.sl 0) (if d = .i 1 then .i 1 else .i 2)
   split
   ·exact .nil 0
   ·exact .non 0
 | cons a l =>
   refine .one 0 (.int .i64) (a :: l) rfl (by simp) (by have : EY 0 = 8 := rfl; rw [this]; omega) fun x hx => ?_
   obtain ⟨n, rfl, hn⟩ := h x hx
   exact .int _ _ hn
theorem OM {l : List D} (h : ∀ x ∈ l, ∃ n, x = .i n ∧ rG .i64 n) (hn : l ≠ []) (hl : l.length ≤ 17592186043904) : Wd (.sl 0) (dL l) := by
 rw [← EN (d := .i 2) hn]
 exact Iu h hl
theorem xC {r : D} (h : Wd (.sl 0) r) : ∀ x ∈ r.l, ∃ n, x = .i n ∧ rG .i64 n := fun x hx => (h.el1 rfl x hx).i
theorem wrap_in (z : Int) : rG .i64 (IntKind.i64.wrap z) := by
 constructor <;> (rw [IntKind.wrap_i64]; omega)
def CQ (n : Nat) : Act → Prop
 | .res o c dn g r v m _ oc => rG .i64 o ∧ rG .i64 c ∧ (dn = 0 ∨ dn = 1) ∧ rG .i64 g ∧ Wd (.sl 0) r ∧ r.l.length ≤ n ∧ Wd (.sl 0) v ∧ v.l.length ≤ n ∧ (∀ q, m = some q → rG .i64 q) ∧ (oc = 2 ∨ oc = 3)
 | _ => True
theorem CQ.ite {n : Nat} {p : Prop} [Decidable p] {a b : Act} (ha : CQ n a) (hb : CQ n b) : CQ n (if p then a else b) := by
 split
 ·exact ha
 ·exact hb
def NoM : Act → Prop
 | .res _ _ _ _ _ _ m _ _ => m = none
 | _ => True
theorem NoM.ite {p : Prop} [Decidable p] {a b : Act} (ha : NoM a) (hb : NoM b) : NoM (if p then a else b) := by
 split
 ·exact ha
 ·exact hb
section
variable {x : D} {M mo th op arg tries o c dn g : Int} {r v : D}
theorem ahP (T : Tg x o c dn g r v) {n : Nat} (hr : r.l.length ≤ n) (hv : v.l.length ≤ n) (hn : n < 17592186043904) (ht : rG .i64 th) (ha : rG .i64 arg) : CQ (n + 1) (act M mo th op arg tries o c dn g r v) := by
 have hm : rG .i64 (-1) := ⟨by omega, by omega⟩
 have hz : rG .i64 0 := ⟨by omega, by omega⟩
 have e1 : ∀ q : Int, (none : Option Int) = some q → rG .i64 q := fun q h => by simp at h
 have e2 : ∀ {p : Int}, rG .i64 p → ∀ q : Int, some p = some q → rG .i64 q := fun hp q h => by simp only [Option.some.injEq] at h; exact h ▸ hp
 have hr1 : r.l.length ≤ n + 1 := by omega
 have hv1 : v.l.length ≤ n + 1 := by omega
 have w := @wrap_in
 have sn : ∀ {l : List D} {t : Int}, (∀ x ∈ l, ∃ n, x = .i n ∧ rG .i64 n) → rG .i64 t → ∀ x ∈ l ++ [.i t], ∃ n, x = .i n ∧ rG .i64 n := fun h ht x hx => by
  rcases List.mem_append.1 hx with hx | hx
  ·exact h x hx
  ·simp only [List.mem_cons, List.not_mem_nil, or_false] at hx
   exact ⟨_, hx, ht⟩
 have r5 : Wd (.sl 0) (dL (r.l ++ [.i th])) := OM (sn (xC T.hr) ht) (by simp) (by simp; omega)
 have l5 : (dL (r.l ++ [.i th])).l.length ≤ n + 1 := by rw [bC]; simp; omega
 have r20 : Wd (.sl 0) (dL (v.l ++ [.i arg])) := OM (sn (xC T.hv) ha) (by simp) (by simp; omega)
 have l20 : (dL (v.l ++ [.i arg])).l.length ≤ n + 1 := by rw [bC]; simp; omega
 have r12 : Wd (.sl 0) (dL (wo th r.l ++ [.i th])) := OM (sn (fun x hx => (xC T.hr) x (List.mem_filter.1 hx).1) ht) (by simp) (by have := aaH th r.l; simp; omega)
 have l12 : (dL (wo th r.l ++ [.i th])).l.length ≤ n + 1 := by have := aaH th r.l; rw [bC]; simp; omega
 have r6 : ∀ k, Wd (.sl 0) (gV (.i 2) (r.l.take k ++ r.l.drop (k + 1))) := fun k => Iu (fun x hx => by
  rcases List.mem_append.1 hx with hx | hx
  ·exact (xC T.hr) x (List.mem_of_mem_take hx)
  ·exact (xC T.hr) x (List.mem_of_mem_drop hx)) (by simp only [List.length_append, List.length_take, List.length_drop]; omega)
 have l6 : ∀ k, (gV (.i 2) (r.l.take k ++ r.l.drop (k + 1))).l.length ≤ n + 1 := fun k => by rw [kU]; simp only [List.length_append, List.length_take, List.length_drop]; omega
 have r21 : Wd (.sl 0) (gV v (v.l.drop 1)) := Iu (fun x hx => (xC T.hv) x (List.mem_of_mem_drop hx)) (by simp; omega)
 have l21 : (gV v (v.l.drop 1)).l.length ≤ n + 1 := by rw [kU]; simp; omega
 have r13 : Wd (.sl 0) (gV r (r.l.drop 1)) := Iu (fun x hx => (xC T.hr) x (List.mem_of_mem_drop hx)) (by simp; omega)
 have l13 : (gV r (r.l.drop 1)).l.length ≤ n + 1 := by rw [kU]; simp; omega
 have r14 : Wd (.sl 0) (.i 1) := .nil 0
 have l14 : (D.i 1).l.length ≤ n + 1 := by simp [D.l]
 unfold act
 repeat' refine CQ.ite ?_ ?_
 all_goals first
  | trivial
  | exact ⟨by first | exact T.ho | exact ht | exact hm, by first | exact T.hc | exact w _ | exact ha | exact hz, by first | exact T.hd | exact .inr rfl, by first | exact T.hg | exact w _, by first | exact T.hr | exact r5 | exact r6 _ | exact r12 | exact r13 | exact r14, by first | exact hr1 | exact l5 | exact l6 _ | exact l12 | exact l13 | exact l14, by first | exact T.hv | exact r20 | exact r21, by first | exact hv1 | exact l20 | exact l21, by first | exact e1 | exact e2 hm | exact e2 ht, by first | exact .inl rfl | exact .inr rfl⟩
theorem GH (h12 : op ≠ 12) (h24 : op ≠ 24) : NoM (act M mo th op arg tries o c dn g r v) := by
 unfold act
 rw [if_neg h12, if_neg h24]
 repeat' refine NoM.ite ?_ ?_
 all_goals first
  | exact rfl
  | trivial
theorem auB (h12 : op ≠ 12) (h24 : op ≠ 24) (mo' : Int) : act M mo th op arg tries o c dn g r v = act M mo' th op arg tries o c dn g r v := by
 unfold act
 rw [if_neg h12, if_neg h24, if_neg h12, if_neg h24]
end
end Go.As.Try
end
section
namespace Go.As.Try
open Go hiding Stat Spec shape
open Go.As
set_option maxRecDepth 100000
def Z4 (a b : D) (i : Nat) : Prop := ∀ (k : Nat) (h1 : k < a.l.length) (h2 : k < b.l.length), i ≤ k → (a.l[k]).n = (b.l[k]).n
theorem Z4.step {a b : D} {i : Nat} (h1 : i < a.l.length) (h2 : i < b.l.length) (h : (a.l[i]).n = (b.l[i]).n) : Z4 a b i ↔ Z4 a b (i + 1) := by
 constructor
 ·intro q k x y z
  exact q k x y (by omega)
 ·intro q k x y z
  by_cases hk : k = i
  ·subst hk
   exact h
  ·exact q k x y (by omega)
theorem Z4.end' {a b : D} {i : Nat} (h : a.l.length ≤ i) : Z4 a b i := fun k h1 _ h3 => absurd h1 (by omega)
section
variable {a b : D} (hle : a.l.length = b.l.length) (hlen : a.l.length ≤ 140737488351232)
include hle hlen
theorem NY : ∀ (j i : Nat), i + j = a.l.length → ∃ c : Int, L 251 [enc a, enc b, (i : Int)] = some [c] ∧ (c = 0 ∨ c = 1) ∧ (c = 1 ↔ Z4 a b i)
 | 0, i, hi => by
   have c1 : ¬ (i : Int) < (a.l.length : Int) := by omega
   refine ⟨1, ?_, .inr rfl, fun _ => Z4.end' (by omega), fun _ => rfl⟩
   rw [bM, e251]
   simp only [abO, zz, aN.den, Nat.reduceLT, c1, fin]
 | j + 1, i, hi => by
   have hil : i < a.l.length := by omega
   have hib : i < b.l.length := by omega
   have c1 : (i : Int) < (a.l.length : Int) := by omega
   have c2 : ¬ ((i : Int) < 0) := by omega
   have c3 : (i : Int) < (b.l.length : Int) := by omega
   have w := bJ (n := i) (by omega)
   obtain ⟨c, h1, h2, h3⟩ := NY j (i + 1) (by omega)
   by_cases he : (a.l[i]).n = (b.l[i]).n
   ·refine ⟨c, ?_, h2, h3.trans (Z4.step hil hib he).symm⟩
    rw [bM, e251]
    simp only [abO, zz, aN.den, Nat.reduceLT, c1, c2, c3, w, bV hil, bV hib, he, fin, h1]
   ·refine ⟨0, ?_, .inl rfl, fun h => absurd h (by omega), fun h => absurd (h i hil hib (Nat.le_refl i)) he⟩
    rw [bM, e251]
    simp only [abO, zz, aN.den, Nat.reduceLT, c1, c2, c3, w, bV hil, bV hib, he, fin]
end
def ahS (a b : D) : Prop := a.l.length = b.l.length ∧ Z4 a b 0
theorem Zp (a b : D) (hlen : a.l.length ≤ 140737488351232) : ∃ c : Int, L 250 [enc a, enc b] = some [c] ∧ (c = 0 ∨ c = 1) ∧ (c = 1 ↔ ahS a b) := by
 by_cases hl : a.l.length = b.l.length
 ·obtain ⟨c, h1, h2, h3⟩ := NY hl hlen a.l.length 0 (by omega)
  refine ⟨c, ?_, h2, h3.trans ⟨fun h => ⟨hl, h⟩, fun h => h.2⟩⟩
  have hl' : (a.l.length : Int) = (b.l.length : Int) := by omega
  rw [bM, e250, ajE, dN, if_pos, jI]
  ·simp only [List.map, bF, aY, Nat.reduceLT, aH, aK, fin]
   exact h1
  ·simp only [iD, gI, aY, Nat.reduceLT, aH, aK, aC, iG]
   exact hl'
 ·refine ⟨0, ?_, .inl rfl, fun h => absurd h (by omega), fun h => absurd h.1 hl⟩
  have hl' : ¬ (a.l.length : Int) = (b.l.length : Int) := by omega
  rw [bM, e250, ajE, dN, if_neg]
  ·simp only [jH, List.map, bF, fin]
  ·simp only [iD, gI, aY, Nat.reduceLT, aH, aK, aC, iG]
   exact hl'
theorem MC (x y : D) (hle : x.l.length = y.l.length) (hlen : x.l.length ≤ 140737488351232) (x0 x1 x2 : Int) (i : Nat) (hi : i < 9223372036854775807) (c : Int) (hc : c = 0 ∨ c = 1) (h : L 201 [x0, x1, x2, ((i + 1 : Nat) : Int)] = some [c]) (x6 x7 x8 x9 x10 x12 x13 x14 x15 x16 : Int) :
 ∀ (j k : Nat), k + j = x.l.length → ∃ e : Int, L 202 [x0, x1, x2, (i : Int), (x.l.length : Int), (k : Int), x6, x7, x8, x9, x10, enc x, x12, x13, x14, x15, x16, enc y] = some [e] ∧ (e = 0 ∨ e = 1) ∧ (e = 1 ↔ Z4 x y k ∧ c = 1)
 | 0, k, hk => by
   have c1 : ¬ (k : Int) < (x.l.length : Int) := by omega
   have w := bJ (n := i) (by omega)
   refine ⟨c, ?_, hc, fun h => ⟨Z4.end' (by omega), h⟩, fun h => h.2⟩
   rw [bM, alV]
   simp only [abP, zz, aN.den, Nat.reduceLT, c1, w, fin, h]
 | j + 1, k, hk => by
   have hil : k < x.l.length := by omega
   have hib : k < y.l.length := by omega
   have c1 : (k : Int) < (x.l.length : Int) := by omega
   have c2 : ¬ ((k : Int) < 0) := by omega
   have c3 : (k : Int) < (y.l.length : Int) := by omega
   have w := bJ (n := k) (by omega)
   obtain ⟨e, h1, h2, h3⟩ := MC x y hle hlen x0 x1 x2 i hi c hc h x6 x7 x8 x9 x10 x12 x13 x14 x15 x16 j (k + 1) (by omega)
   by_cases he : (x.l[k]).n = (y.l[k]).n
   ·refine ⟨e, ?_, h2, h3.trans ⟨fun q => ⟨(Z4.step hil hib he).2 q.1, q.2⟩, fun q => ⟨(Z4.step hil hib he).1 q.1, q.2⟩⟩⟩
    rw [bM, alV]
    simp only [abP, zz, aN.den, Nat.reduceLT, c1, c2, c3, w, bV hil, bV hib, he, fin, h1]
   ·refine ⟨0, ?_, .inl rfl, fun h => absurd h (by omega), fun h => absurd (h.1 k hil hib (Nat.le_refl k)) he⟩
    rw [bM, alV]
    simp only [abP, zz, aN.den, Nat.reduceLT, c1, c2, c3, w, bV hil, bV hib, he, fin]
end Go.As.Try
end
section
namespace Go.As.Try
open Go hiding Stat Spec shape
open Go.As
set_option maxRecDepth 100000
theorem CY (ρ) (a b : SB) : ((SB.and a b).den ρ = true) = (a.den ρ = true ∧ b.den ρ = true) := by simp [SB.den]
structure ayX (x y : D) : Prop where
 o : (x.hd 0).n = (y.hd 0).n
 c : (x.hd 1).n = (y.hd 1).n
 d : (x.hd 2).n = 0 ↔ (y.hd 2).n = 0
 g : (x.hd 3).n = (y.hd 3).n
 r : ahS (x.hd 4) (y.hd 4)
 v : ahS (x.hd 5) (y.hd 5)
def UH (a b : D) (i : Nat) : Prop := ∀ (k : Nat) (h1 : k < a.l.length) (h2 : k < b.l.length), i ≤ k → ayX a.l[k] b.l[k]
theorem bits {p q : Int} : ((¬ (¬ p = 0 ∧ ¬ q = 0)) ∧ ¬ (¬ ¬ p = 0 ∧ ¬ ¬ q = 0)) ↔ ¬ (p = 0 ↔ q = 0) := by omega
def XC (s : D) : Prop := ∀ x ∈ s.l, (x.hd 4).l.length ≤ 140737488351232 ∧ (x.hd 5).l.length ≤ 140737488351232
section
variable {a b : D} (hle : a.l.length = b.l.length) (hlen : a.l.length ≤ 140737488351232) (hr : XC a)
include hle hlen hr
theorem MW : ∀ (j i : Nat), i + j = a.l.length → ∃ c : Int, L 201 [enc a, enc b, (a.l.length : Int), (i : Int)] = some [c] ∧ (c = 0 ∨ c = 1) ∧ (c = 1 ↔ UH a b i)
 | 0, i, hi => by
   have c1 : ¬ (i : Int) < (a.l.length : Int) := by omega
   refine ⟨1, ?_, .inr rfl, fun _ k h1 _ h3 => absurd h1 (by omega), fun _ => rfl⟩
   rw [bM, Rh]
   simp only [t201, zz, aN.den, Nat.reduceLT, c1, fin]
 | j + 1, i, hi => by
   have hil : i < a.l.length := by omega
   have hib : i < b.l.length := by omega
   have c1 : (i : Int) < (a.l.length : Int) := by omega
   have c2 : ¬ ((i : Int) < 0) := by omega
   have c3 : (i : Int) < (b.l.length : Int) := by omega
   obtain ⟨c, h1, h2, h3⟩ := MW j (i + 1) (by omega)
   have hb := hr _ (List.getElem_mem hil)
   by_cases b0 : ((a.l[i]).hd 0).n = ((b.l[i]).hd 0).n
   case neg =>
    refine ⟨0, ?_, .inl rfl, fun h => absurd h (by omega), fun h => absurd (h i hil hib (Nat.le_refl i)).o b0⟩
    rw [bM, Rh]
    simp only [t201, zz, aN.den, Nat.reduceLT, c1, c2, c3, bV hil, bV hib, b0, fin]
   by_cases b1 : ((a.l[i]).hd 1).n = ((b.l[i]).hd 1).n
   case neg =>
    refine ⟨0, ?_, .inl rfl, fun h => absurd h (by omega), fun h => absurd (h i hil hib (Nat.le_refl i)).c b1⟩
    rw [bM, Rh]
    simp only [t201, zz, aN.den, Nat.reduceLT, c1, c2, c3, bV hil, bV hib, b0, b1, fin]
   by_cases b2 : (((a.l[i]).hd 2).n = 0 ↔ ((b.l[i]).hd 2).n = 0)
   case neg =>
    refine ⟨0, ?_, .inl rfl, fun h => absurd h (by omega), fun h => absurd (h i hil hib (Nat.le_refl i)).d b2⟩
    rw [bM, Rh]
    have b2' := bits.2 b2
    simp only [t201, zz, aN.den, Nat.reduceLT, CY, Jp, c1, c2, c3, bV hil, bV hib, b0, b1, if_pos b2', fin]
   have b2' : ¬ _ := fun h => bits.1 h b2
   by_cases b3 : ((a.l[i]).hd 3).n = ((b.l[i]).hd 3).n
   case neg =>
    refine ⟨0, ?_, .inl rfl, fun h => absurd h (by omega), fun h => absurd (h i hil hib (Nat.le_refl i)).g b3⟩
    rw [bM, Rh]
    simp only [t201, zz, aN.den, Nat.reduceLT, CY, Jp, c1, c2, c3, bV hil, bV hib, b0, b1, if_neg b2', b3, fin]
   obtain ⟨e, g1, g2, g3⟩ := Zp ((a.l[i]).hd 4) ((b.l[i]).hd 4) hb.1
   by_cases b4 : e = 0
   ·subst b4
    refine ⟨0, ?_, .inl rfl, fun h => absurd h (by omega), fun h => absurd (g3.2 (h i hil hib (Nat.le_refl i)).r) (by omega)⟩
    rw [bM, Rh]
    simp only [t201, zz, aN.den, Nat.reduceLT, CY, Jp, c1, c2, c3, bV hil, bV hib, b0, b1, if_neg b2', b3, g1, fin]
   have he : e = 1 := by omega
   subst he
   by_cases b5 : ((a.l[i]).hd 5).l.length = ((b.l[i]).hd 5).l.length
   case neg =>
    have b5' : ¬ (((a.l[i]).hd 5).l.length : Int) = (((b.l[i]).hd 5).l.length : Int) := by omega
    refine ⟨0, ?_, .inl rfl, fun h => absurd h (by omega), fun h => absurd (h i hil hib (Nat.le_refl i)).v.1 b5⟩
    rw [bM, Rh]
    simp only [t201, zz, aN.den, Nat.reduceLT, CY, Jp, c1, c2, c3, bV hil, bV hib, b0, b1, if_neg b2', b3, g1, aO, b5', fin]
   have b5' : (((a.l[i]).hd 5).l.length : Int) = (((b.l[i]).hd 5).l.length : Int) := by omega
   obtain ⟨f, f1, f2, f3⟩ := MC ((a.l[i]).hd 5) ((b.l[i]).hd 5) b5 hb.2 (enc a) (enc b) (a.l.length : Int) i (by omega) c h2 h1 ((b.l[i]).hd 0).n ((b.l[i]).hd 1).n ((a.l[i]).hd 2).n ((b.l[i]).hd 3).n (enc ((a.l[i]).hd 4)) ((b.l[i]).hd 0).n ((b.l[i]).hd 1).n ((b.l[i]).hd 2).n ((b.l[i]).hd 3).n (enc ((b.l[i]).hd 4)) ((a.l[i]).hd 5).l.length 0 (by omega)
   refine ⟨f, ?_, f2, fun h k k1 k2 k3 => ?_, fun h => f3.2 ⟨(h i hil hib (Nat.le_refl i)).v.2, h3.2 fun k k1 k2 k3 => h k k1 k2 (by omega)⟩⟩
   ·rw [bM, Rh]
    rw [b5'] at f1
    simp only [t201, zz, aN.den, Nat.reduceLT, CY, Jp, c1, c2, c3, bV hil, bV hib, b0, b1, if_neg b2', b3, g1, aO, b5', fin]
    exact f1
   ·by_cases hk : k = i
    ·subst hk
     exact ⟨b0, b1, b2, b3, g3.1 rfl, b5, (f3.1 h).1⟩
    ·exact h3.1 (f3.1 h).2 k k1 k2 (by omega)
end
theorem Y4 (a b : D) (hlen : a.l.length ≤ 140737488351232) (hr : XC a) : ∃ c : Int, L 200 [enc a, enc b] = some [c] ∧ (c = 0 ∨ c = 1) ∧ (c = 1 ↔ a.l.length = b.l.length ∧ UH a b 0) := by
 by_cases hl : a.l.length = b.l.length
 ·obtain ⟨c, h1, h2, h3⟩ := MW hl hlen hr a.l.length 0 (by omega)
  refine ⟨c, ?_, h2, h3.trans ⟨fun h => ⟨hl, h⟩, fun h => h.2⟩⟩
  have hl' : (a.l.length : Int) = (b.l.length : Int) := by omega
  rw [bM, atS, ajF, dN, if_pos, jI]
  ·simp only [List.map, bF, gI, iG, aY, Nat.reduceLT, aH, aK, aC, fin]
   exact h1
  ·simp only [iD, gI, aY, Nat.reduceLT, aH, aK, aC, iG]
   exact hl'
 ·refine ⟨0, ?_, .inl rfl, fun h => absurd h (by omega), fun h => absurd h.1 hl⟩
  have hl' : ¬ (a.l.length : Int) = (b.l.length : Int) := by omega
  rw [bM, atS, ajF, dN, if_neg]
  ·simp only [jH, List.map, bF, fin]
  ·simp only [iD, gI, aY, Nat.reduceLT, aH, aK, aC, iG]
   exact hl'
end Go.As.Try
end
section
namespace Go.As.Try
open Go hiding Stat Spec shape
open Go.As
set_option maxRecDepth 100000
theorem afB (x0 x4 x5 x6 x7 x8 x10 x11 x12 x14 : Int) : Tot 501 [x0, enc (.i 1), 0, 0, x4, x5, x6, x7, x8, -1, x10, x11, x12, enc (.i 1), x14] (fun ys => ys = [1]) := by
 refine Tot.of ?_
 rw [alS, abK, dN, if_neg]
 ·simp only [zz, aN.den, Nat.reduceLT, Ee, List.length_nil]
  repeat' first
   | exact .out rfl
   | (exfalso; omega)
   | refine .ite (fun _ => ?_) (fun _ => ?_)
 ·simp only [mO, aY, Nat.reduceLT, aH, aK]
  omega
theorem YX (k n x1 x3 x4 : Int) (m : Nat) (h3 : k = 3 → 1 ≤ n) (h5 : k = 5 → 1 ≤ n ∧ n ≤ 16) :
 Tot 500 [k, x1, n, x3, x4, -1, (if k = 3 ∨ k = 9 then n else 0), 0, 0, enc (.i 1), enc (.i 1), (m : Int)] (fun ys => ys = [1]) := by
 have w : k = 5 → IntKind.i64.wrap (n - 1) = n - 1 := fun h => lM (by have := h5 h; omega) (by have := h5 h; omega)
 have aAq : ∃ a b : Int, L 650 [k, x1, n, x3, x4] = some [a, b] ∧ (b = 0 ∨ b = 1) ∧ (b ≠ 0 → k ≠ 9 ∧ 0 ≤ (if k = 3 ∨ k = 9 then n else 0) ∧ (if k = 3 ∨ k = 9 then n else 0) ≤ a) := by
  have : Tot 650 [k, x1, n, x3, x4] (fun ys => ∃ a b : Int, ys = [a, b] ∧ (b = 0 ∨ b = 1) ∧ (b ≠ 0 → k ≠ 9 ∧ 0 ≤ (if k = 3 ∨ k = 9 then n else 0) ∧ (if k = 3 ∨ k = 9 then n else 0) ≤ a)) := by
   refine Tot.of ?_
   rw [atG]
   simp only [aiO, zz, aN.den, Nat.reduceLT]
   repeat' first
    | exact .out ⟨_, _, rfl, by omega, fun h => ⟨by omega, by split <;> omega, by split <;> omega⟩⟩
    | refine .ite (fun _ => ?_) (fun _ => ?_)
   all_goals exact .out ⟨_, _, rfl, by omega, fun h => ⟨by omega, by split <;> omega, by rw [w (by assumption)]; have := h5 (by assumption); split <;> omega⟩⟩
  obtain ⟨ys, h, a, b, rfl, h2⟩ := this
  exact ⟨a, b, h, h2⟩
 obtain ⟨a, b, hm, hb, hr⟩ := aAq
 refine Tot.of ?_
 rw [atJ]
 simp only [aiR, zz, aN.den, Nat.reduceLT, hm, Ee, List.length_nil]
 repeat' first
  | exact .out rfl
  | exact .jump (afB _ _ _ _ _ _ _ _ _ _)
  | (exfalso; omega)
  | refine .ite (fun _ => ?_) (fun _ => ?_)
end Go.As.Try
end
section
namespace Go.As.Try
open Go hiding Stat Spec shape
open Go.As
set_option maxRecDepth 100000
theorem ZO {d0 : D} (hl : d0.l.length ≤ 64) (hn : 0 < d0.l.length) : L 301 [enc d0, (d0.l.length : Int)] = some [enc (dL (d0.l.map iY))] := by
 have e0 := LJ d0 hl (d0.l.length - 1) 1 [iY (d0.l[0]'hn)] (by omega) rfl
 have e1 : [iY (d0.l[0]'hn)] ++ (d0.l.drop 1).map iY = d0.l.map iY := by
  conv => rhs; rw [← List.drop_zero (l := d0.l), List.drop_eq_getElem_cons hn]
  rfl
 rw [e1] at e0
 have a0 : d0.at 0 = d0.l[0]'hn := bV (i := 0) hn
 have c1 : (0 : Int) < (d0.l.length : Int) := by omega
 have key : ∀ q : Int, q = (if (((d0.l[0]'hn)).hd 0).n = 3 ∨ ((d0.l[0]'hn).hd 0).n = 9 then ((d0.l[0]'hn).hd 2).n else 0) → enc (dL [iY (d0.l[0]'hn)]) = enc (.p (.p (.i (-1)) (.p (.i q) (.p (.i 0) (.p (.i 0) (.p (.i 1) (.p (.i 1) (.i 0))))))) (.i 0)) := fun q hq => by rw [hq]; rfl
 have k : dV (dF L (low [enc d0, (d0.l.length : Int)])) U7 = .jump 302 [enc (dL [iY (d0.l[0]'hn)]), enc d0, (d0.l.length : Int), 1] := by
  by_cases h3 : ((d0.l[0]'hn).hd 0).n = 3
  ·rw [key _ (by rw [if_pos (.inl h3)])]
   simp only [U7, zz, aN.den, Nat.reduceLT, c1, a0, Ee, List.nil_append, h3, dL]
  ·by_cases h9 : ((d0.l[0]'hn).hd 0).n = 9
   ·rw [key _ (by rw [if_pos (.inr h9)])]
    simp only [U7, zz, aN.den, Nat.reduceLT, c1, a0, Ee, List.nil_append, if_neg h3, if_pos h9, dL]
   ·rw [key 0 (by rw [if_neg (by omega)])]
    simp only [U7, zz, aN.den, Nat.reduceLT, c1, a0, Ee, List.nil_append, if_neg h3, if_neg h9, dL]
 rw [bM, e301]
 exact (congrArg (fin L) k).trans e0
theorem Uz {d0 d1 : D} (hc : L 450 [enc d0, enc d1] = some [0]) (hl : d0.l.length ≤ 64) (hn : 0 < d0.l.length) : L 300 [enc d0, enc d1] = some [enc (dL (d0.l.map iY))] := by
 have k : dV (dF L (low [enc d0, enc d1])) abN = .jump 301 [enc d0, (d0.l.length : Int)] := by
  refine bI [.eq (a0 450 [.aA 0, .aA 1]) (.lit 1), .eq (rr 450 [.aA 0, .aA 1] 0) (.lit 0)] [] (ju 301 [.aA 0, ln (.aA 0)]) (by simp only [zz, aN.den, Nat.reduceLT, hc]) (by kernel_rfl) ?_
  simp only [jI, List.map, aY, gI, Nat.reduceLT, aH, aK, aC]
 rw [bM, e300]
 exact (congrArg (fin L) k).trans (ZO hl hn)
theorem ahH {d0 d1 : D} {c : Int} (hc : L 450 [enc d0, enc d1] = some [c]) (h : c ≠ 0 ∨ d0.l.length = 0) : L 300 [enc d0, enc d1] = some [enc (.i 1)] := by
 by_cases h0 : c = 0
 ·subst h0
  have hz : d0.l.length = 0 := h.resolve_left (fun h => h rfl)
  have k : dV (dF L (low [enc d0, enc d1])) abN = .jump 301 [enc d0, 0] := by
   refine bI [.eq (a0 450 [.aA 0, .aA 1]) (.lit 1), .eq (rr 450 [.aA 0, .aA 1] 0) (.lit 0)] [] (ju 301 [.aA 0, ln (.aA 0)]) (by simp only [zz, aN.den, Nat.reduceLT, hc]) (by kernel_rfl) ?_
   simp only [jI, List.map, aY, gI, Nat.reduceLT, aH, aK, aC, hz]
   rfl
  have k1 : dV (dF L (low [enc d0, 0])) U7 = .out [enc (.i 1)] := by
   refine bI [] [.lt (.lit 0) (.aA 1)] (ou [.dat (.i 1)]) (by simp only [zz, aN.den, Nat.reduceLT] <;> omega) (by kernel_rfl) rfl
  rw [bM, e300]
  refine (congrArg (fin L) k).trans ?_
  show L 301 [enc d0, 0] = _
  rw [bM, e301]
  exact congrArg (fin L) k1
 ·have k : dV (dF L (low [enc d0, enc d1])) abN = .out [enc (.i 1)] := by
   refine bI [.eq (a0 450 [.aA 0, .aA 1]) (.lit 1)] [.eq (rr 450 [.aA 0, .aA 1] 0) (.lit 0)] (ou [.dat (.i 1)]) (by simp only [zz, aN.den, Nat.reduceLT, hc] <;> omega) (by kernel_rfl) rfl
  rw [bM, e300]
  exact congrArg (fin L) k
structure Gs (s : D) (n : Nat) : Prop where
 wd : Wd (.sl 7) s
 rows : ∀ x ∈ s.l, (x.hd 4).l.length ≤ n ∧ (x.hd 5).l.length ≤ n
theorem Gs.few {s : D} {n : Nat} (h : Gs s n) (hn : n < 17592186044415) : few s := fun x hx => by have := h.rows x hx; omega
theorem Gs.mono {s : D} {n m : Nat} (h : Gs s n) (hm : n ≤ m) : Gs s m := ⟨h.wd, fun x hx => by have := h.rows x hx; omega⟩
theorem Me {l : List D} (h : ∀ x ∈ l, xR x) (hn : l ≠ []) (hl : l.length ≤ 1759218604390) : Wd (.sl 7) (dL l) := by
 have e : (l.map fun x => x.l).map dL = l := by
  rw [List.map_map]
  conv => rhs; rw [← List.map_id l]
  apply List.map_congr_left
  intro x hx
  obtain ⟨o, c, d, g, r, v, rfl, _⟩ := h x hx
  rfl
 rw [← e]
 refine .many 7 [.int .i64, .int .i64, .bool, .int .i64, .sl 0, .sl 0] _ rfl (by simpa using hn) (by have : EY 7 = 80 := rfl; rw [this, List.length_map]; omega) (fun r hr => ?_) fun r hr j d c h1 h2 => ?_
 ·obtain ⟨x, hx, rfl⟩ := List.mem_map.1 hr
  obtain ⟨o, c, d, g, r, v, rfl, _⟩ := h x hx
  rfl
 ·obtain ⟨x, hx, rfl⟩ := List.mem_map.1 hr
  obtain ⟨o, c', d', g, r, v, rfl, ho, hc, hd, hg, hr, hv⟩ := h x hx
  rw [bC] at h1
  match j with
  | 0 => simp at h1 h2; subst h1 h2; exact .int _ _ ho
  | 1 => simp at h1 h2; subst h1 h2; exact .int _ _ hc
  | 2 =>
    simp at h1 h2; subst h1 h2
    rcases hd with rfl | rfl
    ·exact .bool false
    ·exact .bool true
  | 3 => simp at h1 h2; subst h1 h2; exact .int _ _ hg
  | 4 => simp at h1 h2; subst h1 h2; exact hr
  | 5 => simp at h1 h2; subst h1 h2; exact hv
  | j + 6 => simp at h1
theorem Tg.thing {x : D} {o c dn g : Int} {r v : D} (T : Tg x o c dn g r v) : xR x := ⟨o, c, dn, g, r, v, T.is, T.ho, T.hc, T.hd, T.hg, T.hr, T.hv⟩
theorem Tf {l : List D} {z : Int} {y x : D} (h : x ∈ iC l z y) : x ∈ l ∨ x = y := by
 unfold iC at h
 split at h
 ·exact .inl h
 ·exact List.mem_or_eq_of_mem_set h
theorem qQ {l : List D} {z : Int} {y : D} {k : Nat} (h : (k : Int) ≠ z) : (iC l z y)[k]? = l[k]? := by
 unfold iC
 split
 ·rfl
 ·rw [List.getElem?_set, if_neg (by omega)]
theorem zX {l : List D} {k : Nat} {y : D} (h : k < l.length) : (iC l (k : Int) y)[k]? = some y := by
 rw [wC, List.getElem?_set, if_pos rfl, if_pos h]
theorem P6 {s : D} {n : Nat} (G : Gs s n) {z : Int} {y : D} (hy : xR y) (h4 : (y.hd 4).l.length ≤ n) (h5 : (y.hd 5).l.length ≤ n) (hn : 0 < s.l.length) : Gs (dL (iC s.l z y)) n := by
 have ht := Si G.wd hn
 refine ⟨Me (fun x hx => ?_) (fun he => ?_) (by rw [iM]; exact ht.few), fun x hx => ?_⟩
 ·rcases Tf hx with h | rfl
  ·exact G.wd.thing x h
  ·exact hy
 ·have := iM s.l z y
  rw [he] at this
  simp at this
  omega
 ·rw [bC] at hx
  rcases Tf hx with h | rfl
  ·exact G.rows x h
  ·exact ⟨h4, h5⟩
theorem SL (s : D) (obj M : Int) (A : Act) : (nH s obj M A).l.length = s.l.length := by
 cases A with
 | blk => rfl
 | mis => rfl
 | res o c dn g r v m a oc =>
   unfold nH
   rw [bC, iM]
   cases m with
   | none => rfl
   | some q => exact iM _ _ _
theorem XE {s : D} {n : Nat} (G : Gs s n) {obj M : Int} {A : Act} (hA : CQ (n + 1) A) (ho0 : 0 ≤ obj) (ho1 : obj < (s.l.length : Int)) (hM : NoM A ∨ 0 ≤ M ∧ M < (s.l.length : Int)) : Gs (nH s obj M A) (n + 1) := by
 have G1 := G.mono (Nat.le_succ n)
 cases A with
 | blk => exact G1
 | mis => exact G1
 | res o c dn g r v m a oc =>
   obtain ⟨h1, h2, h3, h4, h5, h6, h7, h8, h9, _⟩ := hA
   have hd : (if dn = 0 then (0 : Int) else 1) = dn := by rcases h3 with rfl | rfl <;> rfl
   have hy : xR (dL [.i o, .i c, .i (if dn = 0 then 0 else 1), .i g, r, v]) := ⟨o, c, _, g, r, v, rfl, h1, h2, by rw [hd]; exact h3, h4, h5, h7⟩
   cases m with
   | none => exact P6 G1 hy h6 h8 (by omega)
   | some q =>
     have hM : 0 ≤ M ∧ M < (s.l.length : Int) := hM.resolve_left (fun h => by simp [NoM] at h)
     obtain ⟨k, rfl⟩ : ∃ k : Nat, M = (k : Int) := ⟨M.toNat, by omega⟩
     have hk : k < s.l.length := by omega
     obtain ⟨o', c', d', g', r', v', he, q1, q2, q3, q4, q5, q6⟩ := G.wd.thing _ (List.getElem_mem hk)
     have hrw := G1.rows _ (List.getElem_mem hk)
     rw [he] at hrw
     have hz : dL (iC (s.at (k : Int)).l 0 (.i q)) = dL [.i q, .i c', .i d', .i g', r', v'] := by rw [bV hk, he]; rfl
     have G2 : Gs (dL (iC s.l (k : Int) (dL (iC (s.at (k : Int)).l 0 (.i q))))) (n + 1) := by
      rw [hz]
      exact P6 G1 ⟨q, c', d', g', r', v', rfl, h9 q rfl, q2, q3, q4, q5, q6⟩ hrw.1 hrw.2 (by omega)
     have := P6 (z := obj) G2 hy h6 h8 (by rw [bC, iM]; omega)
     rw [bC] at this
     exact this
theorem acR {s : D} {obj M : Int} {A : Act} {k : Nat} (h : (k : Int) ≠ obj) (hM : NoM A ∨ (k : Int) ≠ M) : (nH s obj M A).l[k]? = s.l[k]? := by
 cases A with
 | blk => rfl
 | mis => rfl
 | res o c dn g r v m a oc =>
   unfold nH
   rw [bC, qQ h]
   cases m with
   | none => rfl
   | some q =>
     have hM : (k : Int) ≠ M := hM.resolve_left (fun h => by simp [NoM] at h)
     exact qQ hM
theorem ajV {s s' : D} {i : Nat} {M : Int} {A : Act} (hl : s.l.length = s'.l.length) (hi : i < s.l.length) (he : s.l[i]? = s'.l[i]?) : (nH s (i : Int) M A).l[i]? = (nH s' (i : Int) M A).l[i]? := by
 cases A with
 | blk => exact he
 | mis => exact he
 | res o c dn g r v m a oc =>
   unfold nH
   rw [bC, bC]
   cases m with
   | none => exact (zX hi).trans (zX (l := s'.l) (by omega)).symm
   | some q => exact (zX (l := iC s.l M _) (by rw [iM]; exact hi)).trans (zX (l := iC s'.l M _) (by rw [iM]; omega)).symm
def evA (th op obj : Int) : Act → List Int
 | .blk => [0, 0, 0, 0, 0, 0]
 | .mis => [th, 27, obj, IntKind.i64.wrap op, 0, 2]
 | .res _ _ _ _ _ _ _ a oc => [th, op, obj, a, 0, oc]
theorem XJ (s : D) (th op obj M : Int) (A : Act) : outA s th op obj M A = enc (nH s obj M A) :: evA th op obj A := by cases A <;> rfl
theorem aeU (th op obj : Int) {n : Nat} {A : Act} (hA : CQ n A) : evA th op obj A = [0, 0, 0, 0, 0, 0] ∨ ∃ e2 e4 e6, evA th op obj A = [th, e2, obj, e4, 0, e6] ∧ e6 ≠ 0 := by
 cases A with
 | blk => exact .inl rfl
 | mis => exact .inr ⟨27, IntKind.i64.wrap op, 2, rfl, by omega⟩
 | res o c dn g r v m a oc => exact .inr ⟨op, a, oc, rfl, by have := hA.2.2.2.2.2.2.2.2.2; omega⟩
end Go.As.Try
end

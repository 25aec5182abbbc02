/-
  Proved: the given card of the law PrimsApart: whatever the input, the call returns true and each argument reads afterwards as it did. Conditions: those of the given row alone (its listed package-level variables start as the program's text lays them; each string, slice and map that is handed in lies within a process's addresses).
-/
import GoSem.Claim
import Derived.Orders
import Derived.Scope
import Derived.LoopN
import Derived.Below
import GoSem.Core.View
import GoSem.Core.Layout
import GoSem.Op.Equal
import Derived.WalkKit
import Derived.Lib.Strings
import Derived.Laws.IdiomStrings
import Derived.Laws.RangeString
import Derived.Laws.StructEq
import Derived.Lib.Bytealg
import Derived.Lib.IndexMore
import Derived.Deep.LoopGhost
import Derived.IntWalk
import Derived.ChangeArms
import Derived.DataReads
import GoSem.ClaimJoined
import Derived.KernelRfl
import Derived.Test.YtcmepjpoffiijaaGreatDoorProg
import Derived.Shelf.Strings.Search3
import Derived.Shelf.LaysM
import Derived.Shelf.Strings.Shaped
import Derived.Test.YtcmepjpoffiijaaGreatDoorCards
import Derived.Test.YtcmepjpoffiijaaGreatDoorTie
import Derived.ProofKit
import Derived.OpenShut
import Derived.Deep.DeepHandedRow
import Derived.LaidLaws
import Derived.Test.YtcmepjpoffiijaaGreatDoorAsZA9
set_option linter.unusedSectionVars false
set_option linter.unusedVariables false
set_option linter.unusedSimpArgs false
section
namespace Go.As.Try
open Go hiding Stat Spec shape
open Go.As
set_option maxRecDepth 100000
def S2 : SE := .op .set (.aA 1) (cn (mk (.aA 6)) (.op .set (.op .set (.op .set (.op .set (.op .set (.op .set (el (.aA 1) (.aA 6)) (cn (.dat (.i 0)) (mk (nm (ce 0 (el (rr 300 [.aA 7, .aA 8] 0) (.aA 6))))))) (cn (.dat (.i 1)) (mk (nm (ce 1 (el (rr 300 [.aA 7, .aA 8] 0) (.aA 6))))))) (cn (.dat (.i 2)) (.op .bit (mk (nm (ce 2 (el (rr 300 [.aA 7, .aA 8] 0) (.aA 6))))) (.lit 0)))) (cn (.dat (.i 3)) (mk (nm (ce 3 (el (rr 300 [.aA 7, .aA 8] 0) (.aA 6))))))) (cn (.dat (.i 4)) (ce 4 (el (rr 300 [.aA 7, .aA 8] 0) (.aA 6))))) (cn (.dat (.i 5)) (ce 5 (el (rr 300 [.aA 7, .aA 8] 0) (.aA 6))))))
def A2 : List SE := [.aA 7, .aA 8, S2, nm (ce 0 (el (.aA 0) (.aA 2))), nm (ce 1 (el (.aA 0) (.aA 2))), nm (ce 2 (el (.aA 0) (.aA 2))), nm (ce 3 (el (.aA 0) (.aA 2))), nm (ce 4 (el (.aA 0) (.aA 2)))]
def W2 : List SE := [.op .drop (.op .take (.aA 1) (wr (.add (.aA 6) (.lit 1)))) (.aA 6), .op .drop (.op .take (.aA 3) (wr (.add (.aA 6) (.lit 1)))) (.aA 6)]
def V2 : List SE := [.op .drop (.op .take (rr 400 A2 0) (wr (.add (.aA 11) (.lit 1)))) (.aA 11), .op .drop (.op .take (.aA 3) (wr (.add (.aA 11) (.lit 1)))) (.aA 11)]
section
variable {d0 d1 s m m' b0 X Y Z W tr : D} {i k len kind mu oc e1 e2 ob e4 e5 : Int} {args : List Int}
noncomputable abbrev L6 (tr s m d0 d1 : D) (i oc len k e1 e2 ob e4 e5 : Int) : Nat → Int := dF L (low [enc tr, enc s, i, enc m, oc, len, k, enc d0, enc d1, e1, e2, ob, e4, e5])
theorem apM (hk0 : 0 ≤ k) (hk1 : ¬ k < len) (hl : k ≤ 64) (hi0 : 0 ≤ i) (hi1 : i ≤ 64) : dV (L6 tr s m d0 d1 i oc len k e1 e2 ob e4 e5) t2 = .jump 1 [enc tr, enc m, i + 1, enc d0, enc d1] := by
 have hw : IntKind.i64.wrap (k + 1) = k + 1 := lM (by omega) (by omega)
 have hw2 : IntKind.i64.wrap (i + 1) = i + 1 := lM (by omega) (by omega)
 refine bI [] [.lt (.aA 6) (.aA 5)] (ju 1 [.aA 0, .aA 3, wr (.add (.aA 2) (.lit 1)), .aA 7, .aA 8]) (by simp only [zz, aN.den, Nat.reduceLT, hw] <;> omega) (by kernel_rfl) ?_
 simp only [jI, zz, aN.den, Nat.reduceLT, hw, hw2]
theorem ajA (hk0 : 0 ≤ k) (hk1 : k < len) (hl : len ≤ 64) (ho0 : 0 ≤ ob) (ho1 : ob < (d0.l.length : Int)) (hkd : ((d0.at ob).hd 0).n = kind) (h4 : kind = 4) (he : k = ob) : dV (L6 tr s m d0 d1 i oc len k e1 e2 ob e4 e5) t2 = .jump 2 [enc tr, enc s, i, enc m, oc, len, k + 1, enc d0, enc d1, e1, e2, ob, e4, e5] := by
 have hw : IntKind.i64.wrap (k + 1) = k + 1 := lM (by omega) (by omega)
 refine bI [.lt (.aA 6) (.aA 5), .lt (.aA 11) (ln (.aA 7)), .eq (nm (ce 0 (el (.aA 7) (.aA 11)))) (.lit 4), .eq (.aA 6) (.aA 11)] [.lt (.aA 11) (.lit 0)] (ju 2 [.aA 0, .aA 1, .aA 2, .aA 3, .aA 4, .aA 5, wr (.add (.aA 6) (.lit 1)), .aA 7, .aA 8, .aA 9, .aA 10, .aA 11, .aA 12, .aA 13]) (by simp only [zz, aN.den, Nat.reduceLT, hkd, hw, h4] <;> omega) (by kernel_rfl) ?_
 simp only [jI, zz, aN.den, Nat.reduceLT, hw]
theorem ajB (hk0 : 0 ≤ k) (hk1 : k < len) (hl : len ≤ 64) (ho0 : 0 ≤ ob) (ho1 : ob < (d0.l.length : Int)) (hkd : ((d0.at ob).hd 0).n = kind) (h4 : kind = 4) (hne : k ≠ ob) (he : ((d0.at ob).hd 2).n = k) : dV (L6 tr s m d0 d1 i oc len k e1 e2 ob e4 e5) t2 = .jump 2 [enc tr, enc s, i, enc m, oc, len, k + 1, enc d0, enc d1, e1, e2, ob, e4, e5] := by
 have hw : IntKind.i64.wrap (k + 1) = k + 1 := lM (by omega) (by omega)
 refine bI [.lt (.aA 6) (.aA 5), .lt (.aA 11) (ln (.aA 7)), .eq (nm (ce 0 (el (.aA 7) (.aA 11)))) (.lit 4), .eq (nm (ce 2 (el (.aA 7) (.aA 11)))) (.aA 6)] [.lt (.aA 11) (.lit 0), .eq (.aA 6) (.aA 11)] (ju 2 [.aA 0, .aA 1, .aA 2, .aA 3, .aA 4, .aA 5, wr (.add (.aA 6) (.lit 1)), .aA 7, .aA 8, .aA 9, .aA 10, .aA 11, .aA 12, .aA 13]) (by simp only [zz, aN.den, Nat.reduceLT, hkd, hw, h4] <;> omega) (by kernel_rfl) ?_
 simp only [jI, zz, aN.den, Nat.reduceLT, hw]
theorem aiZ (hk0 : 0 ≤ k) (hk1 : k < len) (hl : len ≤ 64) (ho0 : 0 ≤ ob) (ho1 : ob < (d0.l.length : Int)) (hkd : ((d0.at ob).hd 0).n = kind) (h4 : kind ≠ 4) (he : k = ob) : dV (L6 tr s m d0 d1 i oc len k e1 e2 ob e4 e5) t2 = .jump 2 [enc tr, enc s, i, enc m, oc, len, k + 1, enc d0, enc d1, e1, e2, ob, e4, e5] := by
 have hw : IntKind.i64.wrap (k + 1) = k + 1 := lM (by omega) (by omega)
 refine bI [.lt (.aA 6) (.aA 5), .lt (.aA 11) (ln (.aA 7)), .eq (.aA 6) (.aA 11)] [.lt (.aA 11) (.lit 0), .eq (nm (ce 0 (el (.aA 7) (.aA 11)))) (.lit 4)] (ju 2 [.aA 0, .aA 1, .aA 2, .aA 3, .aA 4, .aA 5, wr (.add (.aA 6) (.lit 1)), .aA 7, .aA 8, .aA 9, .aA 10, .aA 11, .aA 12, .aA 13]) (by simp only [zz, aN.den, Nat.reduceLT, hkd, hw] <;> omega) (by kernel_rfl) ?_
 simp only [jI, zz, aN.den, Nat.reduceLT, hw]
theorem ajD (hk0 : 0 ≤ k) (hk1 : k < len) (hl : len ≤ 64) (ho0 : 0 ≤ ob) (ho1 : ob < (d0.l.length : Int)) (hkd : ((d0.at ob).hd 0).n = kind) (h4 : kind = 4) (hmu : ((d0.at ob).hd 2).n ≠ k) (hne : k ≠ ob) (hi0 : 0 ≤ i) (hi1 : i < (tr.l.length : Int)) (hs : (s.l.length : Int) = len) (hm : (m.l.length : Int) = len) (hm' : (m'.l.length : Int) = len) (hd : (d0.l.length : Int) = len) (hb : (b0.l.length : Int) = len) (hA2 : A2.map (SE.den (L6 tr s m d0 d1 i oc len k e1 e2 ob e4 e5)) = args) (aqX : L 400 args = some [enc m', e1, e2, ob, e4, e5, oc]) (hW2 : W2.map (SE.den (L6 tr s m d0 d1 i oc len k e1 e2 ob e4 e5)) = [enc X, enc Y]) (Zu : L 200 [enc X, enc Y] = some [1]) (hV2 : V2.map (SE.den (L6 tr s m d0 d1 i oc len k e1 e2 ob e4 e5)) = [enc Z, enc W]) (N8 : L 200 [enc Z, enc W] = some [1]) (V4 : L 300 [enc d0, enc d1] = some [enc b0]) : dV (L6 tr s m d0 d1 i oc len k e1 e2 ob e4 e5) t2 = .jump 2 [enc tr, enc s, i, enc m, oc, len, k + 1, enc d0, enc d1, e1, e2, ob, e4, e5] := by
 have hw : IntKind.i64.wrap (k + 1) = k + 1 := lM (by omega) (by omega)
 have hwo : IntKind.i64.wrap (ob + 1) = ob + 1 := lM (by omega) (by omega)
 refine bI [.lt (.aA 6) (.aA 5), .lt (.aA 11) (ln (.aA 7)), .eq (nm (ce 0 (el (.aA 7) (.aA 11)))) (.lit 4), .eq (a0 200 W2) (.lit 1), .lt (ln (.aA 1)) (.lit 1759218604441), .eq (a0 300 [.aA 7, .aA 8]) (.lit 1), .lt (.aA 6) (ln (rr 300 [.aA 7, .aA 8] 0)), .lt (.aA 6) (ln (.aA 1)), .lt (.aA 2) (ln (.aA 0)), .eq (a0 400 A2) (.lit 1), .and (.eq (rr 400 A2 1) (.aA 9)) (.and (.eq (rr 400 A2 2) (.aA 10)) (.and (.eq (rr 400 A2 3) (.aA 11)) (.and (.eq (rr 400 A2 4) (.aA 12)) (.eq (rr 400 A2 5) (.aA 13))))), .eq (rr 400 A2 6) (.aA 4), .eq (a0 200 V2) (.lit 1)] [.lt (.aA 11) (.lit 0), .eq (.aA 6) (.aA 11), .eq (nm (ce 2 (el (.aA 7) (.aA 11)))) (.aA 6), .lt (ln (.aA 1)) (wr (.add (.aA 6) (.lit 1))), .lt (.aA 6) (.lit 0), .lt (wr (.add (.aA 6) (.lit 1))) (.aA 6), .lt (ln (.aA 3)) (wr (.add (.aA 6) (.lit 1))), .eq (rr 200 W2 0) (.lit 0), .eq (ln (.aA 1)) (.lit 0), .lt (.aA 2) (.lit 0), .lt (ln (rr 400 A2 0)) (wr (.add (.aA 11) (.lit 1))), .lt (wr (.add (.aA 11) (.lit 1))) (.aA 11), .lt (ln (.aA 3)) (wr (.add (.aA 11) (.lit 1))), .eq (rr 200 V2 0) (.lit 0)] (ju 2 [.aA 0, .aA 1, .aA 2, .aA 3, .aA 4, .aA 5, wr (.add (.aA 6) (.lit 1)), .aA 7, .aA 8, .aA 9, .aA 10, .aA 11, .aA 12, .aA 13]) (by simp only [zz, aN.den, Nat.reduceLT, CY, hkd, hw, hwo, hA2, aqX, hW2, Zu, hV2, N8, V4, and_self, h4] <;> omega) (by kernel_rfl) ?_
 simp only [jI, zz, aN.den, Nat.reduceLT, hw]
theorem ajC (hk0 : 0 ≤ k) (hk1 : k < len) (hl : len ≤ 64) (ho0 : 0 ≤ ob) (ho1 : ob < (d0.l.length : Int)) (hkd : ((d0.at ob).hd 0).n = kind) (h4 : kind ≠ 4) (hne : k ≠ ob) (hi0 : 0 ≤ i) (hi1 : i < (tr.l.length : Int)) (hs : (s.l.length : Int) = len) (hm : (m.l.length : Int) = len) (hm' : (m'.l.length : Int) = len) (hd : (d0.l.length : Int) = len) (hb : (b0.l.length : Int) = len) (hA2 : A2.map (SE.den (L6 tr s m d0 d1 i oc len k e1 e2 ob e4 e5)) = args) (aqX : L 400 args = some [enc m', e1, e2, ob, e4, e5, oc]) (hW2 : W2.map (SE.den (L6 tr s m d0 d1 i oc len k e1 e2 ob e4 e5)) = [enc X, enc Y]) (Zu : L 200 [enc X, enc Y] = some [1]) (hV2 : V2.map (SE.den (L6 tr s m d0 d1 i oc len k e1 e2 ob e4 e5)) = [enc Z, enc W]) (N8 : L 200 [enc Z, enc W] = some [1]) (V4 : L 300 [enc d0, enc d1] = some [enc b0]) : dV (L6 tr s m d0 d1 i oc len k e1 e2 ob e4 e5) t2 = .jump 2 [enc tr, enc s, i, enc m, oc, len, k + 1, enc d0, enc d1, e1, e2, ob, e4, e5] := by
 have hw : IntKind.i64.wrap (k + 1) = k + 1 := lM (by omega) (by omega)
 have hwo : IntKind.i64.wrap (ob + 1) = ob + 1 := lM (by omega) (by omega)
 refine bI [.lt (.aA 6) (.aA 5), .lt (.aA 11) (ln (.aA 7)), .eq (a0 200 W2) (.lit 1), .lt (ln (.aA 1)) (.lit 1759218604441), .eq (a0 300 [.aA 7, .aA 8]) (.lit 1), .lt (.aA 6) (ln (rr 300 [.aA 7, .aA 8] 0)), .lt (.aA 6) (ln (.aA 1)), .lt (.aA 2) (ln (.aA 0)), .eq (a0 400 A2) (.lit 1), .and (.eq (rr 400 A2 1) (.aA 9)) (.and (.eq (rr 400 A2 2) (.aA 10)) (.and (.eq (rr 400 A2 3) (.aA 11)) (.and (.eq (rr 400 A2 4) (.aA 12)) (.eq (rr 400 A2 5) (.aA 13))))), .eq (rr 400 A2 6) (.aA 4), .eq (a0 200 V2) (.lit 1)] [.lt (.aA 11) (.lit 0), .eq (nm (ce 0 (el (.aA 7) (.aA 11)))) (.lit 4), .eq (.aA 6) (.aA 11), .lt (ln (.aA 1)) (wr (.add (.aA 6) (.lit 1))), .lt (.aA 6) (.lit 0), .lt (wr (.add (.aA 6) (.lit 1))) (.aA 6), .lt (ln (.aA 3)) (wr (.add (.aA 6) (.lit 1))), .eq (rr 200 W2 0) (.lit 0), .eq (ln (.aA 1)) (.lit 0), .lt (.aA 2) (.lit 0), .lt (ln (rr 400 A2 0)) (wr (.add (.aA 11) (.lit 1))), .lt (wr (.add (.aA 11) (.lit 1))) (.aA 11), .lt (ln (.aA 3)) (wr (.add (.aA 11) (.lit 1))), .eq (rr 200 V2 0) (.lit 0)] (ju 2 [.aA 0, .aA 1, .aA 2, .aA 3, .aA 4, .aA 5, wr (.add (.aA 6) (.lit 1)), .aA 7, .aA 8, .aA 9, .aA 10, .aA 11, .aA 12, .aA 13]) (by simp only [zz, aN.den, Nat.reduceLT, CY, hkd, hw, hwo, hA2, aqX, hW2, Zu, hV2, N8, V4, and_self] <;> omega) (by kernel_rfl) ?_
 simp only [jI, zz, aN.den, Nat.reduceLT, hw]
end
end Go.As.Try
end
section
namespace Go.As.Try
open Go hiding Stat Spec shape
open Go.As
set_option maxRecDepth 100000
theorem Tot.jmp {j k : Nat} {xs ys : List Int} {t : T Lf} {p : List Int → Prop} (e : S.tree j = t) (h : dV (dF L (low xs)) t = .jump k ys) (q : Tot k ys p) : Tot j xs p := by
 refine Tot.of ?_
 rw [e, h]
 exact .jump q
theorem Tot.ret {j : Nat} {xs ys : List Int} {t : T Lf} {p : List Int → Prop} (e : S.tree j = t) (h : dV (dF L (low xs)) t = .out ys) (q : p ys) : Tot j xs p := by
 refine Tot.of ?_
 rw [e, h]
 exact .out q
theorem MO (m : Nat) (hm : m ≤ 60) (ih : ∀ (k n : Int) (s kids : D), Wd .str s → Wd (.sl 6) kids → Tot 150 [k, enc s, n, enc kids, (m : Int)] one) (x3 x4 x5 : Int) (kids : D) (hk : Wd (.sl 6) kids) :
 ∀ (j i : Nat) (x1 : Int), i + j = kids.l.length → Tot 151 [((m + 1 : Nat) : Int), x1, (i : Int), x3, x4, x5, enc kids] one
 | 0, i, x1, hi => Tot.ret alW (ys := [x1]) (bI [] [.lt (.aA 2) (ln (.aA 6))] (ou [.aA 1]) (by simp only [zz, aN.den, Nat.reduceLT] <;> omega) (by kernel_rfl) (by simp only [zz, aN.den, Nat.reduceLT])) ⟨x1, rfl⟩
 | j + 1, i, x1, hi => by
   have hl := hk.len
   have hil : i < kids.l.length := by omega
   have hw := bJ (n := i) (by omega)
   obtain ⟨k, s, n, ks, he, _, hs, _, hks⟩ := IV hk hil
   have ha : kids.at (i : Int) = dL [.i k, s, .i n, ks] := by rw [bV hil]; exact he
   obtain ⟨ys, V5, z, rfl⟩ := ih k n s ks hs hks
   have hw2 : IntKind.i64.wrap (((m + 1 : Nat) : Int) - 1) = (m : Int) := by rw [lM (by omega) (by omega)]; omega
   by_cases hx : 10000 < x1
   ·exact Tot.ret alW (ys := [x1]) (bI [.lt (.aA 2) (ln (.aA 6)), .lt (.lit 10000) (.aA 1)] [] (ou [.aA 1]) (by simp only [zz, aN.den, Nat.reduceLT] <;> omega) (by kernel_rfl) (by simp only [zz, aN.den, Nat.reduceLT])) ⟨x1, rfl⟩
   ·exact Tot.jmp alW (bI [.lt (.aA 2) (ln (.aA 6)), .eq (a0 150 [nm (ce 0 (el (.aA 6) (.aA 2))), ce 1 (el (.aA 6) (.aA 2)), nm (ce 2 (el (.aA 6) (.aA 2))), ce 3 (el (.aA 6) (.aA 2)), wr (.sub (.aA 0) (.lit 1))]) (.lit 1)] [.lt (.lit 10000) (.aA 1), .lt (.aA 2) (.lit 0)] (ju 151 [.aA 0, wr (.add (.aA 1) (rr 150 [nm (ce 0 (el (.aA 6) (.aA 2))), ce 1 (el (.aA 6) (.aA 2)), nm (ce 2 (el (.aA 6) (.aA 2))), ce 3 (el (.aA 6) (.aA 2)), wr (.sub (.aA 0) (.lit 1))] 0)), wr (.add (.aA 2) (.lit 1)), .aA 3, .aA 4, .aA 5, .aA 6]) (by simp only [zz, aN.den, Nat.reduceLT, ha, jA, List.getElem?_cons_zero, List.getElem?_cons_succ, hw2, V5] <;> omega) (by kernel_rfl) (by simp only [zz, aN.den, Nat.reduceLT, ha, jA, List.getElem?_cons_zero, List.getElem?_cons_succ, hw2, V5, hw] <;> rfl)) (MO m hm ih x3 x4 x5 kids hk j (i + 1) (IntKind.i64.wrap (x1 + z)) (by omega))
theorem Sr : ∀ (m : Nat), m ≤ 60 → ∀ (k n : Int) (s kids : D), Wd .str s → Wd (.sl 6) kids → Tot 150 [k, enc s, n, enc kids, (m : Int)] one
 | 0, _, k, n, s, kids, _, _ => Tot.ret atT (ys := [10000]) (bI [.lt (.aA 4) (.lit 1)] [] (ou [.lit 10000]) (by simp only [zz, aN.den, Nat.reduceLT] <;> omega) (by kernel_rfl) (by simp only [zz, aN.den, Nat.reduceLT])) ⟨_, rfl⟩
 | m + 1, hm, k, n, s, kids, hs, hk => Tot.jmp atT (ys := [((m + 1 : Nat) : Int), _, (0 : Nat), k, enc s, n, enc kids]) (bI [] [.lt (.aA 4) (.lit 1)] (ju 151 [.aA 4, wr (.add (.lit 1) (wr (.quo (ln (.aA 1)) (.lit 100)))), .lit 0, .aA 0, .aA 1, .aA 2, .aA 3]) (by simp only [zz, aN.den, Nat.reduceLT] <;> omega) (by kernel_rfl) (by simp only [jI, List.map, aY, Nat.reduceLT, aH, aK] <;> rfl)) (MO m (by omega) (Sr m (by omega)) k (enc s) n kids hk kids.l.length 0 _ (by omega))
section
variable {d0 d1 : D} (h1 : Wd (.sl 4) d1)
include h1
theorem J9 (x1 x2 x3 : Int) (OG : D) (ha : Wd (.sl 6) OG) (q : ∀ x0, Tot 102 [x0, x1, IntKind.i64.wrap (x2 + 1), x3, enc d0, enc d1] pK) : ∀ (j i : Nat) (x0 : Int), i + j = OG.l.length → Tot 103 [x0, x1, x2, x3, enc OG, (OG.l.length : Int), (i : Int), enc d0, enc d1] pK
 | 0, i, x0, hi => Tot.jmp atU (bI [] [.lt (.aA 6) (.aA 5)] (ju 102 [.aA 0, .aA 1, wr (.add (.aA 2) (.lit 1)), .aA 3, .aA 7, .aA 8]) (by simp only [zz, aN.den, Nat.reduceLT] <;> omega) (by kernel_rfl) (by simp only [zz, aN.den, Nat.reduceLT])) (q x0)
 | j + 1, i, x0, hi => by
   have hl := ha.len
   have hil : i < OG.l.length := by omega
   have hw := bJ (n := i) (by omega)
   obtain ⟨k, s, n, ks, he, _, hs, _, hks⟩ := IV ha hil
   have hat : OG.at (i : Int) = dL [.i k, s, .i n, ks] := by rw [bV hil]; exact he
   obtain ⟨ys, V5, z, rfl⟩ := Sr 60 (by omega) k n s ks hs hks
   have V5 : L 150 [k, enc s, n, enc ks, 60] = some [z] := V5
   exact Tot.jmp atU (bI [.lt (.aA 6) (.aA 5), .lt (.aA 6) (ln (.aA 4)), .eq (a0 150 [nm (ce 0 (el (.aA 4) (.aA 6))), ce 1 (el (.aA 4) (.aA 6)), nm (ce 2 (el (.aA 4) (.aA 6))), ce 3 (el (.aA 4) (.aA 6)), .lit 60]) (.lit 1)] [.lt (.aA 6) (.lit 0)] (ju 103 [wr (.add (.aA 0) (rr 150 [nm (ce 0 (el (.aA 4) (.aA 6))), ce 1 (el (.aA 4) (.aA 6)), nm (ce 2 (el (.aA 4) (.aA 6))), ce 3 (el (.aA 4) (.aA 6)), .lit 60] 0)), .aA 1, .aA 2, .aA 3, .aA 4, .aA 5, wr (.add (.aA 6) (.lit 1)), .aA 7, .aA 8]) (by simp only [zz, aN.den, Nat.reduceLT, hat, jA, List.getElem?_cons_zero, List.getElem?_cons_succ, V5] <;> omega) (by kernel_rfl) (by simp only [zz, aN.den, Nat.reduceLT, hat, jA, List.getElem?_cons_zero, List.getElem?_cons_succ, V5, hw] <;> rfl)) (J9 x1 x2 x3 OG ha q j (i + 1) (IntKind.i64.wrap (x0 + z)) (by omega))
theorem Zw (i : Nat) (hi : i < d1.l.length) (q : ∀ x0, Tot 101 [x0, (d1.l.length : Int), ((i + 1 : Nat) : Int), enc d0, enc d1] pK) : ∀ (j k : Nat) (x0 : Int), (∀ nm' lc cd, d1.l[i] = dL [nm', lc, cd] → k + j = cd.l.length) → Tot 102 [x0, (i : Int), (k : Int), (d1.l.length : Int), enc d0, enc d1] pK := by
 have hl := h1.len
 have hw := bJ (n := i) (by omega)
 obtain ⟨nm', lc, cd, he, _, _, hcd⟩ := OW h1 hi
 have hat : d1.at (i : Int) = dL [nm', lc, cd] := by rw [bV hi]; exact he
 have hcl := hcd.len
 intro j
 induction j with
 | zero =>
   intro k x0 hk
   have hk := hk _ _ _ he
   exact Tot.jmp alX (bI [.lt (.aA 1) (ln (.aA 5))] [.lt (.aA 1) (.lit 0), .lt (.aA 2) (ln (ce 2 (el (.aA 5) (.aA 1))))] (ju 101 [.aA 0, .aA 3, wr (.add (.aA 1) (.lit 1)), .aA 4, .aA 5]) (by simp only [zz, aN.den, Nat.reduceLT, hat, jA, List.getElem?_cons_zero, List.getElem?_cons_succ] <;> omega) (by kernel_rfl) (by simp only [zz, aN.den, Nat.reduceLT, hw] <;> rfl)) (q x0)
 | succ j ih =>
   intro k x0 hk
   have hk' := hk _ _ _ he
   by_cases h6 : 6000 < x0
   ·exact Tot.jmp alX (bI [.lt (.aA 1) (ln (.aA 5)), .lt (.aA 2) (ln (ce 2 (el (.aA 5) (.aA 1)))), .lt (.lit 6000) (.aA 0)] [.lt (.aA 1) (.lit 0)] (ju 101 [.aA 0, .aA 3, wr (.add (.aA 1) (.lit 1)), .aA 4, .aA 5]) (by simp only [zz, aN.den, Nat.reduceLT, hat, jA, List.getElem?_cons_zero, List.getElem?_cons_succ] <;> omega) (by kernel_rfl) (by simp only [zz, aN.den, Nat.reduceLT, hw] <;> rfl)) (q x0)
   ·have hkl : k < cd.l.length := by omega
    have hw2 := bJ (n := k) (by omega)
    obtain ⟨a, b, c, e, f, g, OG, hin, _, _, _, _, _, _, has⟩ := adQ hcd hkl
    have aAn : cd.at (k : Int) = dL [.i a, .i b, .i c, .i e, .i f, .i g, OG] := by rw [bV hkl]; exact hin
    refine Tot.jmp alX (bI [.lt (.aA 1) (ln (.aA 5)), .lt (.aA 2) (ln (ce 2 (el (.aA 5) (.aA 1))))] [.lt (.aA 1) (.lit 0), .lt (.lit 6000) (.aA 0), .lt (.aA 2) (.lit 0)] (ju 103 [.aA 0, .aA 1, .aA 2, .aA 3, ce 6 (el (ce 2 (el (.aA 5) (.aA 1))) (.aA 2)), ln (ce 6 (el (ce 2 (el (.aA 5) (.aA 1))) (.aA 2))), .lit 0, .aA 4, .aA 5]) (by simp only [zz, aN.den, Nat.reduceLT, hat, jA, List.getElem?_cons_zero, List.getElem?_cons_succ] <;> omega) (by kernel_rfl) (by simp only [zz, aN.den, Nat.reduceLT, hat, aAn, jA, List.getElem?_cons_zero, List.getElem?_cons_succ] <;> rfl)) (J9 h1 (i : Int) (k : Int) (d1.l.length : Int) OG has (fun x0 => ?_) OG.l.length 0 x0 (by omega))
    rw [hw2]
    exact ih (k + 1) x0 fun nm' lc cd he => by have := hk nm' lc cd he; omega
theorem J8 : ∀ (j i : Nat) (x0 : Int), i + j = d1.l.length → Tot 101 [x0, (d1.l.length : Int), (i : Int), enc d0, enc d1] pK
 | 0, i, x0, hi => by
   by_cases h6 : 6000 < x0
   ·exact Tot.ret alY (bI [.lt (.lit 6000) (.aA 0)] [.lt (.aA 2) (.aA 1)] (ou [.lit 1]) (by simp only [zz, aN.den, Nat.reduceLT] <;> omega) (by kernel_rfl) (by simp only [zz, aN.den, Nat.reduceLT])) dY
   ·exact Tot.ret alY (bI [] [.lt (.aA 2) (.aA 1), .lt (.lit 6000) (.aA 0)] (ou [.lit 0]) (by simp only [zz, aN.den, Nat.reduceLT] <;> omega) (by kernel_rfl) (by simp only [zz, aN.den, Nat.reduceLT])) bT
 | j + 1, i, x0, hi => by
   have hil : i < d1.l.length := by omega
   obtain ⟨nm', lc, cd, he, _, _, hcd⟩ := OW h1 hil
   refine Tot.jmp alY (ys := [_, (i : Int), ((0 : Nat) : Int), (d1.l.length : Int), enc d0, enc d1]) (bI [.lt (.aA 2) (.aA 1), .lt (.aA 2) (ln (.aA 4))] [.lt (.aA 2) (.lit 0)] (ju 102 [wr (.add (.aA 0) (wr (.add (ln (ce 1 (el (.aA 4) (.aA 2)))) (ln (ce 2 (el (.aA 4) (.aA 2))))))), .aA 2, .lit 0, .aA 1, .aA 3, .aA 4]) (by simp only [zz, aN.den, Nat.reduceLT] <;> omega) (by kernel_rfl) (by simp only [zz, aN.den, Nat.reduceLT] <;> rfl)) (Zw h1 i hil (fun x0 => J8 j (i + 1) x0 (by omega)) cd.l.length 0 _ fun n' l' c' he' => ?_)
   rw [he] at he'
   have := Gv he'
   simp only [List.cons.injEq, and_true] at this
   rw [this.2.2]
   omega
theorem Zv : Tot 100 [enc d0, enc d1] pK :=
 Tot.jmp e100 (ys := [_, (d1.l.length : Int), ((0 : Nat) : Int), enc d0, enc d1]) (bI [] [] (ju 101 [wr (.add (ln (.aA 0)) (ln (.aA 1))), ln (.aA 1), .lit 0, .aA 0, .aA 1]) (by simp only [zz, aN.den, Nat.reduceLT] <;> omega) (by kernel_rfl) (by simp only [zz, aN.den, Nat.reduceLT] <;> rfl)) (J8 h1 d1.l.length 0 _ (by omega))
end
end Go.As.Try
end
section
namespace Go.As.Try
open Go hiding Stat Spec shape
open Go.As
set_option maxRecDepth 100000
theorem set0 (a b c d e f x : D) : iC [a, b, c, d, e, f] 0 x = [x, b, c, d, e, f] := rfl
theorem set1 (a b c d e f x : D) : iC [a, b, c, d, e, f] 1 x = [a, x, c, d, e, f] := rfl
theorem set2 (a b c d e f x : D) : iC [a, b, c, d, e, f] 2 x = [a, b, x, d, e, f] := rfl
theorem azR (a b c d e f x : D) : iC [a, b, c, d, e, f] 3 x = [a, b, c, x, e, f] := rfl
theorem DW {d : D} {k : Nat} (h : k < d.l.length) : gV (gV d (d.l.take (k + 1))) ((gV d (d.l.take (k + 1))).l.drop k) = dL [d.l[k]] := by
 rw [yO (fun e => by rw [e]; rfl), kU]
 have : (d.l.take (k + 1)).drop k = [d.l[k]] := by
  rw [List.take_succ_eq_append_getElem h, List.drop_append_of_le_length (by rw [List.length_take]; omega), List.drop_of_length_le (by rw [List.length_take]; omega)]
  rfl
 rw [this]
 rfl
theorem akE {d : D} (h : Wd (.sl 9) d) {i : Nat} (hi : i < d.l.length) : ∃ th op obj arg tries, d.l[i] = dL [.i th, .i op, .i obj, .i arg, .i tries] ∧ rG .i64 th ∧ rG .u8 op ∧ rG .i64 obj ∧ rG .i64 arg ∧ rG .i64 tries := by
 obtain ⟨r, h1, hl, hc⟩ := h.elN (cs := [.int .i64, .int .u8, .int .i64, .int .i64, .int .i64]) rfl _ (List.getElem_mem hi)
 obtain ⟨a, b, c, e, f, rfl⟩ := five hl
 obtain ⟨a, rfl, ha⟩ := (hc 0 _ _ rfl rfl).i
 obtain ⟨b, rfl, hb⟩ := (hc 1 _ _ rfl rfl).i
 obtain ⟨c, rfl, hc'⟩ := (hc 2 _ _ rfl rfl).i
 obtain ⟨e, rfl, he⟩ := (hc 3 _ _ rfl rfl).i
 obtain ⟨f, rfl, hf⟩ := (hc 4 _ _ rfl rfl).i
 exact ⟨a, b, c, e, f, h1, ha, hb, hc', he, hf⟩
theorem MV {x : D} (h4 : (x.hd 4).l.length ≤ 140737488351232) (h5 : (x.hd 5).l.length ≤ 140737488351232) : L 200 [enc (dL [x]), enc (dL [x])] = some [1] := by
 obtain ⟨c, h, _, hi⟩ := Y4 (dL [x]) (dL [x]) (by rw [bC]; simp) (fun y hy => by rw [bC] at hy; simp only [List.mem_cons, List.not_mem_nil, or_false] at hy; subst hy; exact ⟨h4, h5⟩)
 rw [h, hi.2 ⟨rfl, fun k h1 h2 _ => ⟨rfl, rfl, .rfl, rfl, ⟨rfl, fun _ _ _ _ => rfl⟩, ⟨rfl, fun _ _ _ _ => rfl⟩⟩⟩]
theorem MF (x : D) (h : rG .i64 (x.hd 2).n) : xR (iY x) := by
 refine ⟨-1, _, 0, 0, .i 1, .i 1, rfl, ⟨by omega, by omega⟩, ?_, .inl rfl, ⟨by omega, by omega⟩, .nil 0, .nil 0⟩
 split
 ·exact h
 ·exact ⟨by omega, by omega⟩
theorem U4 (d0 x : D) (m : Nat) (h : XK d0 x) : Snd x (iY x) m := by
 obtain ⟨ys, h1, h2⟩ := YX (x.hd 0).n (x.hd 2).n (enc (x.hd 1)) (enc (x.hd 3)) (x.hd 4).n m (fun e => (h.2.2.2.1 (.inl e)).1) h.2.2.2.2.1
 rw [h2] at h1
 exact h1
section
variable {d0 d1 s tr : D} (h0 : Wd (.sl 3) d0) (h1 : Wd (.sl 4) d1) (htr : Wd (.sl 9) tr)
def reset (d0 s : D) (k : Nat) : D := dL (iC s.l (k : Int) (iY (d0.at (k : Int))))
include h0 in
theorem SH {n : Nat} (G : Gs s n) {k : Nat} (hk : k < s.l.length) (hle : s.l.length = d0.l.length) : Gs (reset d0 s k) n := by
 refine P6 G ?_ (by show (D.i 1).l.length ≤ n; simp [D.l]) (by show (D.i 1).l.length ≤ n; simp [D.l]) (by omega)
 rw [bV (by omega)]
 obtain ⟨kd, nm', ln, s1, s2, he, _, hn, _⟩ := h0.decl _ (List.getElem_mem (show k < d0.l.length by omega))
 rw [he]
 exact MF _ hn
include h0 h1 in
theorem SG {n : Nat} (G : Gs s n) (hn : n < 17592186044415) {k : Nat} (hk : k < s.l.length) (hR : L 350 [enc d0, enc d1, enc s] = some [1]) : L 350 [enc d0, enc d1, enc (reset d0 s k)] = some [1] := by
 obtain ⟨b, hb, _, hi⟩ := tC h0 h1 (G.few hn).rows
 rw [hR] at hb
 simp only [Option.some.injEq, List.cons.injEq, and_true] at hb
 obtain ⟨hC, hle, hS⟩ := hi.1 hb.symm
 obtain ⟨hok, _⟩ := wJ h0 h1 (G.few hn) hR
 have G' := SH h0 G hk hle
 obtain ⟨b', hb', _, hi'⟩ := tC h0 h1 (G'.few hn).rows
 rw [hb']
 have hl : (reset d0 s k).l.length = d0.l.length := by unfold reset; rw [bC, iM, hle]
 refine congrArg (fun z => some [z]) (hi'.2 ⟨hC, hl, fun q hq => ?_⟩)
 have hq0 : q < d0.l.length := by omega
 by_cases hqk : q = k
 ·subst hqk
  have e : (reset d0 s q).l[q]? = some (iY d0.l[q]) := by
   unfold reset
   rw [bC, zX hk, bV hq0]
  rw [List.getElem?_eq_getElem hq] at e
  rw [Option.some.inj e]
  exact U4 d0 _ _ (hok.2.2 _ (List.getElem_mem hq0))
 ·have e : (reset d0 s k).l[q]? = s.l[q]? := by
   unfold reset
   rw [bC, qQ (by omega)]
  have hq1 : q < s.l.length := by omega
  rw [List.getElem?_eq_getElem hq, List.getElem?_eq_getElem hq1] at e
  rw [Option.some.inj e]
  exact hS q hq1
include h0 h1 in
theorem Y7 {n : Nat} (G : Gs s n) (hn : n < 17592186044415) {th op obj arg tries : Int} (hop : rG .u8 op) (A : Acc d0 d1 s th op obj) {o c dn g : Int} {r v : D} (T : Tg (s.at obj) o c dn g r v) {k : Nat} (hk : k < s.l.length) (hne : (k : Int) ≠ obj) (hmu : ((d0.at obj).hd 0).n = 4 → Mx d0 obj ≠ (k : Int)) :
 L 400 [enc d0, enc d1, enc (reset d0 s k), th, op, obj, arg, tries] = some (outA (reset d0 s k) th op obj (Mx d0 obj) (act (Mx d0 obj) (Mo d0 s obj) th op arg tries o c dn g r v)) := by
 obtain ⟨hok, hle⟩ := wJ h0 h1 (G.few hn) A.r
 have G' := SH h0 G hk hle
 have hl : (reset d0 s k).l.length = s.l.length := by unfold reset; rw [bC, iM]
 have A' : Acc d0 d1 (reset d0 s k) th op obj := ⟨SG h0 h1 G hn hk A.r, A.t0, A.t1, A.o0, by rw [hl]; exact A.o1, A.k⟩
 have hat : ∀ q : Int, 0 ≤ q → (k : Int) ≠ q → (reset d0 s k).at q = s.at q := fun q h0 h1 => by
  obtain ⟨q, rfl⟩ : ∃ i : Nat, q = (i : Int) := ⟨q.toNat, by omega⟩
  show ((reset d0 s k).l[q]?).getD (.i 0) = (s.l[q]?).getD (.i 0)
  unfold reset
  rw [bC, qQ (by omega)]
 obtain ⟨_, o', c', dn', g', r', v', T', hL⟩ := Xj (arg := arg) (tries := tries) h0 h1 G'.wd (G'.few hn) hop A'
 rw [hL]
 have he := T'.is
 rw [hat obj A.o0 hne, T.is] at he
 have he := Gv he
 simp only [List.cons.injEq, D.i.injEq, and_true] at he
 obtain ⟨rfl, rfl, rfl, rfl, rfl, rfl⟩ := he
 by_cases h12 : op = 12 ∨ op = 24
 ·have h4 : ((d0.at obj).hd 0).n = 4 := by
   rw [← A.k]
   rcases h12 with rfl | rfl <;> rfl
  have hm := Fg h0 h1 G.wd (G.few hn) hop A h12
  have : Mo d0 (reset d0 s k) obj = Mo d0 s obj := by
   unfold Mo
   rw [hat _ hm.1 (hmu h4).symm]
  rw [this]
 ·rw [auB (fun h => h12 (.inl h)) (fun h => h12 (.inr h)) (Mo d0 s obj)]
include h0 h1 htr
theorem ahL {n : Nat} (G : Gs s n) (hn : n ≤ 40) (hC : L 450 [enc d0, enc d1] = some [0]) {i : Nat} (hi : i < tr.l.length) {th op obj arg tries : Int} (hmv : tr.at (i : Int) = dL [.i th, .i op, .i obj, .i arg, .i tries]) (hop : rG .u8 op) (hth : rG .i64 th) (harg : rG .i64 arg)
 (aAV : i < 40) (A : Acc d0 d1 s th op obj) {o c dn g : Int} {r v : D} (T : Tg (s.at obj) o c dn g r v) (B : Act) (hB : B = act (Mx d0 obj) (Mo d0 s obj) th op arg tries o c dn g r v) {e2 e4 oc : Int} (hev : evA th op obj B = [th, e2, obj, e4, 0, oc])
 (q : L 1 [enc tr, enc (nH s obj (Mx d0 obj) B), ((i + 1 : Nat) : Int), enc d0, enc d1] = some [1]) :
 ∀ (j k : Nat), k + j = s.l.length → L 2 [enc tr, enc s, (i : Int), enc (nH s obj (Mx d0 obj) B), oc, (s.l.length : Int), (k : Int), enc d0, enc d1, th, e2, obj, e4, 0] = some [1] := by
 have hn' : n < 17592186044415 := by omega
 obtain ⟨hok, hle⟩ := wJ h0 h1 (G.few hn') A.r
 have h64 := hok.1
 have a1 := A.o0; have a2 := A.o1
 have hpl := SL s obj (Mx d0 obj) B
 have hrw := fun (x : D) (hx : x ∈ s.l) => G.rows x hx
 have step : ∀ k : Nat, k < s.l.length → L 2 [enc tr, enc s, (i : Int), enc (nH s obj (Mx d0 obj) B), oc, (s.l.length : Int), ((k + 1 : Nat) : Int), enc d0, enc d1, th, e2, obj, e4, 0] = some [1] → L 2 [enc tr, enc s, (i : Int), enc (nH s obj (Mx d0 obj) B), oc, (s.l.length : Int), (k : Int), enc d0, enc d1, th, e2, obj, e4, 0] = some [1] := by
  intro k hk ih
  have go : dV (L6 tr s (nH s obj (Mx d0 obj) B) d0 d1 (i : Int) oc (s.l.length : Int) (k : Int) th e2 obj e4 0) t2 = .jump 2 [enc tr, enc s, (i : Int), enc (nH s obj (Mx d0 obj) B), oc, (s.l.length : Int), (k : Int) + 1, enc d0, enc d1, th, e2, obj, e4, 0] → L 2 [enc tr, enc s, (i : Int), enc (nH s obj (Mx d0 obj) B), oc, (s.l.length : Int), (k : Int), enc d0, enc d1, th, e2, obj, e4, 0] = some [1] := fun h => by
   rw [bM, Try.e2]
   exact (congrArg (fin L) h).trans ih
  by_cases hown : (k : Int) = obj
  ·by_cases h4 : ((d0.at obj).hd 0).n = 4
   ·exact go (ajA (by omega) (by omega) (by omega) a1 (by omega) rfl h4 hown)
   ·exact go (aiZ (by omega) (by omega) (by omega) a1 (by omega) rfl h4 hown)
  ·by_cases aqT : ((d0.at obj).hd 0).n = 4 ∧ Mx d0 obj = (k : Int)
   ·exact go (ajB (by omega) (by omega) (by omega) a1 (by omega) rfl aqT.1 hown aqT.2)
   ·
    have hmu : ((d0.at obj).hd 0).n = 4 → Mx d0 obj ≠ (k : Int) := fun h e => aqT ⟨h, e⟩
    have hk0 : k < d0.l.length := by omega
    have hd0 : d0.l.length > 0 := by omega
    have V4 := Uz hC h64 hd0
    have hbl : ((dL (d0.l.map iY)).l.length : Int) = (s.l.length : Int) := by rw [bC, List.length_map, hle]
    have aAm : (dL (d0.l.map iY)).at (k : Int) = iY (d0.at (k : Int)) := by rw [ahK, bV hk0, bC, List.getElem?_map, List.getElem?_eq_getElem hk0]; rfl
    obtain ⟨o1, c1, d1', g1, r1, v1, hst, _⟩ := G.wd.thing _ (List.getElem_mem hk)
    have aAe : s.at (k : Int) = dL [.i o1, .i c1, .i d1', .i g1, r1, v1] := by rw [bV hk]; exact hst
    have hw : IntKind.i64.wrap ((k : Int) + 1) = ((k + 1 : Nat) : Int) := bJ (by omega)
    have hL := Y7 (arg := arg) (tries := tries) h0 h1 G hn' hop A T hk hown hmu
    rw [← hB, XJ, hev] at hL
    have hA2 : A2.map (SE.den (L6 tr s (nH s obj (Mx d0 obj) B) d0 d1 (i : Int) oc (s.l.length : Int) (k : Int) th e2 obj e4 0)) = [enc d0, enc d1, enc (reset d0 s k), th, op, obj, arg, tries] := by
     unfold reset iY at *
     simp only [A2, S2, zz, aN.den, Nat.reduceLT, V4, aAm, aAe, hmv, jA, bC, set0, set1, set2, azR, SC, SA, List.getElem?_cons_zero, List.getElem?_cons_succ]
    have hget : (nH s obj (Mx d0 obj) B).l[k]? = s.l[k]? := by
     refine acR hown ?_
     by_cases h12 : op = 12 ∨ op = 24
     ·have h4 : ((d0.at obj).hd 0).n = 4 := by
       rw [← A.k]
       rcases h12 with rfl | rfl <;> rfl
      exact .inr (hmu h4).symm
     ·rw [hB]
      exact .inl (GH (fun h => h12 (.inl h)) (fun h => h12 (.inr h)))
    have hkp : k < (nH s obj (Mx d0 obj) B).l.length := by omega
    have hgk : (nH s obj (Mx d0 obj) B).l[k] = s.l[k] := by
     rw [List.getElem?_eq_getElem hkp, List.getElem?_eq_getElem hk] at hget
     exact Option.some.inj hget
    have en : ((k + 1 : Nat) : Int).toNat = k + 1 := by omega
    have hW2 : W2.map (SE.den (L6 tr s (nH s obj (Mx d0 obj) B) d0 d1 (i : Int) oc (s.l.length : Int) (k : Int) th e2 obj e4 0)) = [enc (dL [s.l[k]]), enc (dL [s.l[k]])] := by
     simp only [W2, zz, aN.den, Nat.reduceLT, hw, en, Int.toNat_natCast, DW hk, DW hkp, hgk]
    obtain ⟨ob, rfl⟩ : ∃ i : Nat, obj = (i : Int) := ⟨obj.toNat, by omega⟩
    have hob : ob < s.l.length := by omega
    have hrl : (reset d0 s k).l.length = s.l.length := by unfold reset; rw [bC, iM]
    have hpl' := SL (reset d0 s k) (ob : Int) (Mx d0 (ob : Int)) B
    have awT : (nH (reset d0 s k) (ob : Int) (Mx d0 (ob : Int)) B).l[ob]? = (nH s (ob : Int) (Mx d0 (ob : Int)) B).l[ob]? := by
     refine ajV hrl (by omega) ?_
     unfold reset
     rw [bC, qQ (by omega)]
    have hop1 : ob < (nH s (ob : Int) (Mx d0 (ob : Int)) B).l.length := by omega
    have hop2 : ob < (nH (reset d0 s k) (ob : Int) (Mx d0 (ob : Int)) B).l.length := by omega
    have hgo : (nH (reset d0 s k) (ob : Int) (Mx d0 (ob : Int)) B).l[ob] = (nH s (ob : Int) (Mx d0 (ob : Int)) B).l[ob] := by
     rw [List.getElem?_eq_getElem hop1, List.getElem?_eq_getElem hop2] at awT
     exact Option.some.inj awT
    have hwo : IntKind.i64.wrap ((ob : Int) + 1) = ((ob + 1 : Nat) : Int) := bJ (by omega)
    have eno : ((ob + 1 : Nat) : Int).toNat = ob + 1 := by omega
    have hV2 : V2.map (SE.den (L6 tr s (nH s (ob : Int) (Mx d0 (ob : Int)) B) d0 d1 (i : Int) oc (s.l.length : Int) (k : Int) th e2 (ob : Int) e4 0)) = [enc (dL [(nH s (ob : Int) (Mx d0 (ob : Int)) B).l[ob]]), enc (dL [(nH s (ob : Int) (Mx d0 (ob : Int)) B).l[ob]])] := by
     simp only [V2, zz, aN.den, Nat.reduceLT, hA2, hL, hwo, eno, Int.toNat_natCast, DW hop1, DW hop2, hgo]
    have hM : NoM B ∨ 0 ≤ Mx d0 (ob : Int) ∧ Mx d0 (ob : Int) < (s.l.length : Int) := by
     by_cases h12 : op = 12 ∨ op = 24
     ·have := Fg h0 h1 G.wd (G.few hn') hop A h12
      exact .inr ⟨this.1, this.2.1⟩
     ·rw [hB]
      exact .inl (GH (fun h => h12 (.inl h)) (fun h => h12 (.inr h)))
    have hrx := G.rows _ (List.getElem_mem hob)
    have aAp : s.at (ob : Int) = s.l[ob] := bV hob
    have hAO : CQ (n + 1) B := by
     rw [hB]
     rw [← aAp, T.is] at hrx
     exact ahP T hrx.1 hrx.2 (by omega) hth harg
    have Gp := XE G hAO a1 a2 hM
    have hp1 := Gp.rows _ (List.getElem_mem hop1)
    have hk1 := G.rows _ (List.getElem_mem hk)
    have Zu := MV (x := s.l[k]) (by omega) (by omega)
    have N8 := MV (x := (nH s (ob : Int) (Mx d0 (ob : Int)) B).l[ob]) (by omega) (by omega)
    by_cases h4 : ((d0.at (ob : Int)).hd 0).n = 4
    ·exact go (ajD (by omega) (by omega) (by omega) a1 (by omega) rfl h4 (hmu h4) hown (by omega) (by omega) rfl (by omega) (by omega) (by omega) hbl hA2 hL hW2 Zu hV2 N8 V4)
    ·exact go (ajC (by omega) (by omega) (by omega) a1 (by omega) rfl h4 hown (by omega) (by omega) rfl (by omega) (by omega) (by omega) hbl hA2 hL hW2 Zu hV2 N8 V4)
 intro j
 induction j with
 | zero =>
   intro k hk
   rw [bM, Try.e2]
   refine (congrArg (fin L) (apM (by omega) (by omega) (by omega) (by omega) (by omega))).trans ?_
   exact q
 | succ j ih =>
   intro k hk
   exact step k (by omega) (ih (k + 1) (by omega))
end
end Go.As.Try
end
section
namespace Go.As.Try
open Go hiding Stat Spec shape
open Go.As
set_option maxRecDepth 100000
section
variable {d0 d1 s tr : D} (h0 : Wd (.sl 3) d0) (h1 : Wd (.sl 4) d1) (htr : Wd (.sl 9) tr)
def A1 : List SE := [.aA 3, .aA 4, .aA 1, nm (ce 0 (el (.aA 0) (.aA 2))), nm (ce 1 (el (.aA 0) (.aA 2))), nm (ce 2 (el (.aA 0) (.aA 2))), nm (ce 3 (el (.aA 0) (.aA 2))), nm (ce 4 (el (.aA 0) (.aA 2)))]
noncomputable abbrev loA (tr s d0 d1 : D) (i : Int) : Nat → Int := dF L (low [enc tr, enc s, i, enc d0, enc d1])
theorem XV {i : Int} (h : ¬ i < (tr.l.length : Int) ∨ ¬ i < 40) : L 1 [enc tr, enc s, i, enc d0, enc d1] = some [1] := by
 have k : dV (loA tr s d0 d1 i) t1 = .out [1] := by
  by_cases ha : i < (tr.l.length : Int)
  ·exact bI [.lt (.aA 2) (ln (.aA 0))] [.lt (.aA 2) (.lit 40)] (ou [.lit 1]) (by simp only [zz, aN.den, Nat.reduceLT] <;> omega) (by kernel_rfl) (by simp only [zz, aN.den, Nat.reduceLT])
  ·exact bI [] [.lt (.aA 2) (ln (.aA 0))] (ou [.lit 1]) (by simp only [zz, aN.den, Nat.reduceLT] <;> omega) (by kernel_rfl) (by simp only [zz, aN.den, Nat.reduceLT])
 rw [bM, Try.e1]
 exact congrArg (fin L) k
include htr in
theorem law_no {i : Nat} (hi : i < tr.l.length) (h40 : i < 40) {th op obj arg tries : Int} (hmv : tr.at (i : Int) = dL [.i th, .i op, .i obj, .i arg, .i tries]) {z e1 e2 e3 e4 e5 : Int} (hL : L 400 [enc d0, enc d1, enc s, th, op, obj, arg, tries] = some [z, e1, e2, e3, e4, e5, 0])
 (q : L 1 [enc tr, enc s, ((i + 1 : Nat) : Int), enc d0, enc d1] = some [1]) : L 1 [enc tr, enc s, (i : Int), enc d0, enc d1] = some [1] := by
 have hl := htr.len
 have hw := bJ (n := i) (by omega)
 have hA : A1.map (SE.den (loA tr s d0 d1 (i : Int))) = [enc d0, enc d1, enc s, th, op, obj, arg, tries] := by
  simp only [A1, zz, aN.den, Nat.reduceLT, hmv, jA, List.getElem?_cons_zero, List.getElem?_cons_succ]
 have k : dV (loA tr s d0 d1 (i : Int)) t1 = .jump 1 [enc tr, enc s, ((i + 1 : Nat) : Int), enc d0, enc d1] := by
  refine bI [.lt (.aA 2) (ln (.aA 0)), .lt (.aA 2) (.lit 40), .eq (a0 400 A1) (.lit 1), .eq (rr 400 A1 6) (.lit 0)] [.lt (.aA 2) (.lit 0)]
   (ju 1 [.aA 0, .aA 1, wr (.add (.aA 2) (.lit 1)), .aA 3, .aA 4]) (by simp only [zz, aN.den, Nat.reduceLT, hA, hL] <;> omega) (by kernel_rfl) (by simp only [zz, aN.den, Nat.reduceLT, hw])
 rw [bM, Try.e1]
 exact (congrArg (fin L) k).trans q
include htr in
theorem law_yes {i : Nat} (hi : i < tr.l.length) (h40 : i < 40) {th op obj arg tries : Int} (hmv : tr.at (i : Int) = dL [.i th, .i op, .i obj, .i arg, .i tries]) {z e1 e2 e3 e4 e5 e6 : Int} (hL : L 400 [enc d0, enc d1, enc s, th, op, obj, arg, tries] = some [z, e1, e2, e3, e4, e5, e6]) (he : e6 ≠ 0)
 (q : L 2 [enc tr, enc s, (i : Int), z, e6, (s.l.length : Int), 0, enc d0, enc d1, e1, e2, e3, e4, e5] = some [1]) : L 1 [enc tr, enc s, (i : Int), enc d0, enc d1] = some [1] := by
 have hA : A1.map (SE.den (loA tr s d0 d1 (i : Int))) = [enc d0, enc d1, enc s, th, op, obj, arg, tries] := by
  simp only [A1, zz, aN.den, Nat.reduceLT, hmv, jA, List.getElem?_cons_zero, List.getElem?_cons_succ]
 have k : dV (loA tr s d0 d1 (i : Int)) t1 = .jump 2 [enc tr, enc s, (i : Int), z, e6, (s.l.length : Int), 0, enc d0, enc d1, e1, e2, e3, e4, e5] := by
  refine bI [.lt (.aA 2) (ln (.aA 0)), .lt (.aA 2) (.lit 40), .eq (a0 400 A1) (.lit 1)] [.lt (.aA 2) (.lit 0), .eq (rr 400 A1 6) (.lit 0)]
   (ju 2 [.aA 0, .aA 1, .aA 2, rr 400 A1 0, rr 400 A1 6, ln (.aA 1), .lit 0, .aA 3, .aA 4, rr 400 A1 1, rr 400 A1 2, rr 400 A1 3, rr 400 A1 4, rr 400 A1 5]) (by simp only [zz, aN.den, Nat.reduceLT, hA, hL] <;> omega) (by kernel_rfl) (by simp only [zz, aN.den, Nat.reduceLT, hA, hL])
 rw [bM, Try.e1]
 exact (congrArg (fin L) k).trans q
include h0 h1 htr
theorem BJ : ∀ (j i : Nat) (s : D), i + j = 40 → Gs s i → L 1 [enc tr, enc s, (i : Int), enc d0, enc d1] = some [1]
 | 0, i, s, hi, _ => XV (.inr (by omega))
 | j + 1, i, s, hi, G => by
   by_cases hil : i < tr.l.length
   ·obtain ⟨th, op, obj, arg, tries, hm, hth, hop, akL, harg, _⟩ := akE htr hil
    have hmv : tr.at (i : Int) = dL [.i th, .i op, .i obj, .i arg, .i tries] := by rw [bV hil]; exact hm
    have hfew := G.few (by omega)
    by_cases hA : Acc d0 d1 s th op obj
    ·obtain ⟨_, o, c, dn, g, r, v, T, hL⟩ := Xj (arg := arg) (tries := tries) h0 h1 G.wd hfew hop hA
     obtain ⟨hok, hle⟩ := wJ h0 h1 hfew hA.r
     have a1 := hA.o0; have a2 := hA.o1
     have hCC : L 450 [enc d0, enc d1] = some [0] := by
      obtain ⟨b, hb, _, hb2⟩ := tC h0 h1 hfew.rows
      rw [hA.r] at hb
      simp only [Option.some.injEq, List.cons.injEq, and_true] at hb
      exact (hb2.1 hb.symm).1
     generalize hB : act (Mx d0 obj) (Mo d0 s obj) th op arg tries o c dn g r v = B at hL
     have hM : NoM B ∨ 0 ≤ Mx d0 obj ∧ Mx d0 obj < (s.l.length : Int) := by
      by_cases h12 : op = 12 ∨ op = 24
      ·have := Fg h0 h1 G.wd hfew hop hA h12
       exact .inr ⟨this.1, this.2.1⟩
      ·rw [← hB]
       exact .inl (GH (fun h => h12 (.inl h)) (fun h => h12 (.inr h)))
     have hAO : CQ (i + 1) B := by
      obtain ⟨ob, rfl⟩ : ∃ i : Nat, obj = (i : Int) := ⟨obj.toNat, by omega⟩
      have hob : ob < s.l.length := by omega
      have hrx := G.rows _ (List.getElem_mem hob)
      rw [← bV hob, T.is] at hrx
      rw [← hB]
      exact ahP T hrx.1 hrx.2 (by omega) hth harg
     have G' := XE G hAO a1 a2 hM
     rw [XJ] at hL
     rcases aeU th op obj hAO with he | ⟨e2, e4, e6, he, h6⟩
     ·rw [he] at hL
      exact law_no htr hil (by omega) hmv hL (BJ j (i + 1) s (by omega) (G.mono (by omega)))
     ·rw [he] at hL
      exact law_yes htr hil (by omega) hmv hL h6 (ahL h0 h1 htr G (by omega) hCC hil hmv hop hth harg (by omega) hA T B hB.symm he (BJ j (i + 1) _ (by omega) G') s.l.length 0 (by omega))
    ·exact law_no htr hil (by omega) hmv (apG h0 h1 G.wd hfew hop hA) (BJ j (i + 1) s (by omega) (G.mono (by omega)))
   ·exact XV (.inl (by omega))
theorem ZQ : L 0 [enc d0, enc d1, enc tr] = some [1] := by
 obtain ⟨ys, hG, b, rfl, hb⟩ := Zv (d0 := d0) h1
 by_cases hb0 : b = 0
 ·subst hb0
  obtain ⟨ys, hC, c, rfl, _, hok⟩ := Gx h0 h1
  have go : ∀ b0 : D, L 300 [enc d0, enc d1] = some [enc b0] → Gs b0 0 → L 0 [enc d0, enc d1, enc tr] = some [1] := by
   intro b0 h3 G
   have k : dV (dF L (low [enc d0, enc d1, enc tr])) t0 = .jump 1 [enc tr, enc b0, ((0 : Nat) : Int), enc d0, enc d1] :=
    bI [.eq (a0 100 [.aA 0, .aA 1]) (.lit 1), .eq (rr 100 [.aA 0, .aA 1] 0) (.lit 0), .eq (a0 300 [.aA 0, .aA 1]) (.lit 1)] [] (ju 1 [.aA 2, rr 300 [.aA 0, .aA 1] 0, .lit 0, .aA 0, .aA 1]) (by simp only [zz, aN.den, Nat.reduceLT, hG, h3] <;> omega) (by kernel_rfl) (by simp only [zz, aN.den, Nat.reduceLT, h3] <;> rfl)
   rw [bM, Try.e0]
   exact (congrArg (fin L) k).trans (BJ h0 h1 htr 40 0 b0 (by omega) G)
  by_cases hn : c = 0 ∧ 0 < d0.l.length
  ·have hc0 := hn.1
   subst hc0
   have ok := hok rfl
   refine go _ (Uz hC ok.1 hn.2) ⟨Me (fun x hx => ?_) (by simp; exact List.length_pos_iff.1 hn.2) (by rw [List.length_map]; have := ok.1; omega), fun x hx => ?_⟩
   ·obtain ⟨y, hy, rfl⟩ := List.mem_map.1 hx
    obtain ⟨kd, nm', ln, s1, s2, he, _, hnn, _⟩ := h0.decl y hy
    rw [he]
    exact MF _ hnn
   ·rw [bC] at hx
    obtain ⟨y, hy, rfl⟩ := List.mem_map.1 hx
    exact ⟨Nat.le_refl 0, Nat.le_refl 0⟩
  ·exact go _ (ahH hC (by omega)) ⟨.nil 7, fun x hx => by simp [D.l] at hx⟩
 ·have k : dV (dF L (low [enc d0, enc d1, enc tr])) t0 = .out [1] :=
   bI [.eq (a0 100 [.aA 0, .aA 1]) (.lit 1)] [.eq (rr 100 [.aA 0, .aA 1] 0) (.lit 0)] (ou [.lit 1]) (by simp only [zz, aN.den, Nat.reduceLT, hG] <;> omega) (by kernel_rfl) (by simp only [zz, aN.den, Nat.reduceLT])
  rw [bM, Try.e0]
  exact congrArg (fin L) k
end
end Go.As.Try
end
section
namespace Go.Proofs.YtcmepjpoffiijaaGreatDoor.fnPrimsApart
open Go hiding Stat
open Go.As Go.As.Try Go.Proofs Go.RowKit Go.ChangeShapes Go.WideShapes Go.ChangeAt
set_option maxRecDepth 100000
theorem arE : Cm Tryz.prog akA 8 25 = some [.sl 3, .sl 4] := by kernel_rfl
theorem arD : Cm Tryz.prog akA 8 27 = some [.sl 9] := by kernel_rfl
theorem Uw {H : Type} {enc : TypeId × Value → H} {W : World} {t : TypeId} {v : Value} {d : DataW H} {p : List MemPlace} {Mc : List CK} (hf : Cm Tryz.prog akA 8 t = some Mc) (h : DataW.Trod enc Tryz.prog W 0 (fun _ => true) true t v d p) (hw : (d.weights Tryz.prog t).all (·≤ reachBytes) = true) :
 ∃ ds, Rs (XD W) W.heap Mc ds v.cells.toList := by
 obtain ⟨fuel, hx⟩ := h
 exact VB ajZ fuel t 8 Mc v.cells.toList (d, p) hf hx hw
theorem avY : 0 ∈ S.nums 13 := by
 have h : S.nums 13 = [0] := by kernel_rfl
 rw [h]
 simp
theorem contract (H : Type) (enc : TypeId × Value → H) (W : World) (base : Nat) (args : Array Value) (ds gs : List (DataW H)) (before : List MemPlace)
 (hval : ∀ (j : Nat) t v, Tryz.f13.params[j]? = some t → args[j]? = some v → Value.okWide Tryz.prog W .any base t v)
 (hW : DataW.Whole enc Tryz.prog Tryz.f13.params.toList Rows.primsApartSpec.vars false W args.toList ds gs before)
 (hsz : (DataW.weightsEach Tryz.prog (Tryz.f13.params.toList ++ []) (ds ++ gs)).all (·≤ reachBytes) = true) (hsh : W.ShapedOpen Tryz.prog) :
 Calls Tryz.prog 13 args W fun e W' => ∃ v, e = .returned v ∧ Rows.primsApartSpec.post enc Tryz.prog Tryz.f13 false true false false W args v W' := by
 have hW' := hW
 obtain ⟨p, q, hA0, hV, rfl, hfz, hnd⟩ := hW
 have hA : DataW.TrodAll enc Tryz.prog W 0 (fun _ => true) true Tryz.f13.params.toList args.toList ds p := hA0
 rw [Tryz.params13] at hA hval hsz
 obtain ⟨v0, vs0, d0, ds0, p0, q0, hargs, rfl, rfl, h0, r0⟩ := trodAll_cons hA
 obtain ⟨v1, vs1, d1, ds1, p1, q1, rfl, rfl, rfl, h1, r1⟩ := trodAll_cons r0
 obtain ⟨rfl, rfl, rfl⟩ := trodAll_nil r1
 obtain rfl : args = #[v0, v1] := by cases args; simp_all
 obtain ⟨rfl, rfl⟩ := trodVars_none hV
 clear hA0
 simp only [List.append_nil] at hW'
 have hlt : ∀ x ∈ p0 ++ p1, x.block < W.heap.size := fun x hx => by simpa using hW'.lt x (by simpa using hx)
 have hlt0 : ∀ x ∈ p0, x.block < W.heap.size := fun x hx => hlt x (List.mem_append_left _ hx)
 have hlt1 : ∀ x ∈ p1, x.block < W.heap.size := fun x hx => hlt x (List.mem_append_right _ hx)
 have hsz' : (d0.weights Tryz.prog 25).all (·≤ reachBytes) = true ∧ (d1.weights Tryz.prog 27).all (·≤ reachBytes) = true := by
  have : (DataW.weightsEach Tryz.prog [25, 27] [d0, d1]).all (·≤ reachBytes) = true := hsz
  simp only [DataW.weightsEach, List.all_append, Bool.and_eq_true] at this
  exact ⟨this.1, this.2.1⟩
 obtain ⟨es0, R0⟩ := Uw arE h0 hsz'.1
 obtain ⟨es1, R1⟩ := Uw arD h1 hsz'.2
 obtain ⟨cs, rfl, _⟩ := okWide_struct Tryz.underlying25 (hval 0 25 v0 rfl rfl)
 obtain ⟨a0, len, cap, rfl⟩ := okWide_slice Tryz.underlying27 (hval 1 27 v1 rfl rfl)
 have e0 : (Value.agg cs).cells.toList = cs.toList := rfl
 have e1 : (Value.slice a0 len cap).cells.toList = [.slice a0 len cap] := rfl
 rw [e0] at R0
 rw [e1] at R1
 match es0, hcs : cs.toList, R0 with
 | [x0, x1], [u0, u1], .cons r0 w0 (.cons r1 w1 .nil) =>
   match es1, R1 with
   | [x2], .cons r2 w2 .nil =>
     obtain rfl : cs = #[u0, u1] := by rw [← Array.toArray_toList (xs := cs), hcs]
     have hL := ZQ w0 w1 w2
     refine (ahB (g := 13) (j := 0) (e := fe0.ent) avY (by kernel_rfl) rfl rfl hL hsh (vals := [.agg [u0, u1].toArray, .slice a0 len cap]) (fl := [u0, u1, .slice a0 len cap]) (.agg _ [u0, u1] rfl (.one _ _ .nil)) ⟨_, _, _, _, rfl, rfl, LC r0, _, _, _, _, rfl, rfl, LC r1, _, _, _, _, rfl, rfl, LC r2, rfl, rfl⟩).mono fun e W' ⟨he, hb⟩ => ?_
     subst he
     exact ⟨_, rfl, ⟨_, _, _, [], _, [], hW', trodAll_mk1 (shut_bool Tryz.underlying4 _), trodAll_mk2 (Below.trod laidOut (by kernel_rfl) (of_decide_eq_true (by kernel_rfl)) h0 hb hlt0) (Below.trod laidOut (by kernel_rfl) (of_decide_eq_true (by kernel_rfl)) h1 hb hlt1), rfl, hb.frame _, fun h => by cases h⟩⟩
abbrev Xg : Array Value := #[.agg #[.slice none 0 0, .slice none 0 0], .slice none 0 0]
theorem laid_met (os : Os) : laidMet Tryz.prog Rows.primsApartRow.laid ((laidWorld os).forCall (fun _ _ => 0) ⟨#[], Xg, []⟩).memory :=
 laidMet_of_run' 8 (by kernel_rfl) (by kernel_rfl)
theorem reads (os : Os) {H : Type} (enc : TypeId × Value → H) : ∃ places, DataW.whole enc Tryz.prog ((laidWorld os).forCall (fun _ _ => 0) ⟨#[], Xg, []⟩).memory Tryz.f13.params.toList [] false Xg.toList 8 = some ([.agg [.nil, .nil], .nil], [], places) :=
 ⟨[], by kernel_rfl⟩
set_option maxHeartbeats 400000 in
theorem lifted (os : Os) (started : os.Started) (H : Type) (enc : TypeId × Value → H) (F : Stop.Interp) :
 ReturnsInHanded {} Tryz.checked os 13 .any ((OpenSpec.ofChange Rows.primsApartSpec).preRow enc Tryz.prog Tryz.f13 Rows.primsApartRow.domain false Rows.primsApartRow.laid) (((OpenSpec.ofChange Rows.primsApartSpec).at F).post enc Tryz.prog Tryz.f13 false true false false) := by
 obtain ⟨places, hx⟩ := reads os enc
 refine returnsInHanded_of_row (C := Tryz.checked) (s := OpenSpec.ofChange Rows.primsApartSpec) Try.own started (by kernel_rfl) Tryz.func13
  (witness_row_at (enc := enc) (C := Tryz.checked) false (laidWorld os) Xg rfl (by kernel_rfl) (by kernel_rfl) (by kernel_rfl)
   (OpenSpec.preRow_of_cond 8 hx (by kernel_rfl) (fun k hk => by cases hk) (by kernel_rfl) (laid_met os))) ?_
 intro W base args ds gs before hval hW _ _ hsz _ hsh _
 exact contract H enc W base args ds gs before hval hW hsz hsh
theorem jD {a b : Bool} (h1 : a = true) (h2 : b = true) : (a && b) = true := by rw [h1, h2]; rfl
theorem ayG : Rows.primsApartRow.wf (OpenSpec.ofChange (OpenSpec.ofChange Rows.primsApartSpec).bare) = true := by kernel_rfl
theorem ayF : laidOutB Tryz.pinned.checked.prog = true := by kernel_rfl
theorem ayE : mapsRowed Tryz.pinned.checked.prog = true := by kernel_rfl
theorem ayD : Tryz.f13.params.all (Tryz.pinned.checked.prog.readableRec ·) = true := by kernel_rfl
theorem ayC : namedTie Tryz.pinned.checked.prog Rows.primsApartRow.named (OpenSpec.ofChange Rows.primsApartSpec).bare.vars = true := by kernel_rfl
theorem ayB : (Rows.primsApartRow.stops == []) = true := by kernel_rfl
theorem ayA : (Tryz.pinned.checked.prog.stops == []) = true := by kernel_rfl
theorem axZ : (Rows.primsApartRow.knobs == []) = true := by kernel_rfl
theorem axY : (Tryz.pinned.checked.prog.stopKnobs == []) = true := by kernel_rfl
theorem axX : (Rows.primsApartRow.inPlace == Tryz.pinned.checked.prog.inPlace 13) = true := by kernel_rfl
theorem asY : (Rows.primsApartRow.unfollowed == Tryz.pinned.checked.prog.unfollowed 13) = true := by kernel_rfl
theorem asX : (Rows.primsApartRow.recurses == Tryz.pinned.checked.prog.recurses 13) = true := by kernel_rfl
theorem asW : (Rows.primsApartRow.named == Tryz.pinned.checked.prog.varsNamed 13) = true := by kernel_rfl
theorem asV : (Rows.primsApartRow.maps == (Tryz.f13.params.toList ++ (OpenSpec.ofChange Rows.primsApartSpec).bare.plain.varTypes Tryz.pinned.checked.prog).any (Tryz.pinned.checked.prog.mapsRec ·)) = true := by kernel_rfl
theorem asU : (Rows.primsApartRow.ifaces == (Tryz.f13.params.toList ++ (OpenSpec.ofChange Rows.primsApartSpec).bare.plain.varTypes Tryz.pinned.checked.prog).any (Tryz.pinned.checked.prog.ifacesRec ·)) = true := by kernel_rfl
theorem asT : (Rows.primsApartRow.mapsOut == Tryz.pinned.checked.prog.mapsAmong Tryz.f13.resultTypes.toList) = true := by kernel_rfl
theorem asR : (Rows.primsApartRow.loops == (Tryz.f13.params.toList ++ (OpenSpec.ofChange Rows.primsApartSpec).bare.plain.varTypes Tryz.pinned.checked.prog).any (Tryz.pinned.checked.prog.loopsFrom ·)) = true := by kernel_rfl
theorem asQ : (Rows.primsApartRow.wideKeys == (Tryz.f13.params.toList ++ (OpenSpec.ofChange Rows.primsApartSpec).bare.plain.varTypes Tryz.pinned.checked.prog ++ Tryz.f13.resultTypes.toList).any (Tryz.pinned.checked.prog.wideKeysFrom ·)) = true := by kernel_rfl
theorem asP : (OpenSpec.ofChange Rows.primsApartSpec).bare.vars.all (Tryz.pinned.checked.prog.varReadable ·) = true := by kernel_rfl
theorem asO : Tryz.f13.resultTypes.all (fun t => Tryz.pinned.checked.prog.readableRec t && decide (t < Tryz.pinned.checked.prog.types.size)) = true := by kernel_rfl
theorem asN : (Rows.primsApartRow.ifacesOut == Tryz.f13.resultTypes.toList.any (Tryz.pinned.checked.prog.ifacesRec ·)) = true := by kernel_rfl
theorem asM : (Rows.primsApartRow.loopsOut == Tryz.f13.resultTypes.toList.any (Tryz.pinned.checked.prog.loopsFrom ·)) = true := by kernel_rfl
theorem asL : (Rows.primsApartRow.plainKeys == Tryz.pinned.checked.prog.plainKeys) = true := by kernel_rfl
theorem asK : Rows.primsApartRow.shortTexts.isNone = true := by kernel_rfl
theorem asJ : Tryz.pinned.checked.prog.stopsHeard = true := by kernel_rfl
theorem asI : Tryz.pinned.checked.prog.mayEnter = true := by kernel_rfl
theorem asH : (Rows.primsApartRow.lifted == Tryz.pinned.checked.prog.liftsFinal) = true := by kernel_rfl
theorem asG : (Tryz.pinned.checked.prog.make == some Rows.primsApartRow.make) = true := by kernel_rfl
theorem asF : (Rows.primsApartRow.kinds == (if Rows.primsApartRow.domain.isEmpty then [] else Tryz.f13.params.toList.map fun t => match Tryz.pinned.checked.prog.underlying t with | some (.int k) => some k | _ => none)) = true := by kernel_rfl
theorem asE : (Rows.primsApartRow.pinned == Rows.primsApartRow.pinnedBy) = true := by kernel_rfl
theorem asD : (Rows.primsApartRow.veiled == (Tryz.f13.params.toList ++ (OpenSpec.ofChange Rows.primsApartSpec).bare.plain.varTypes Tryz.pinned.checked.prog ++ Tryz.f13.resultTypes.toList).any (Tryz.pinned.checked.prog.veiledRec ·)) = true := by kernel_rfl
theorem asC : Rows.primsApartRow.veiledFits Tryz.pinned.checked.prog Tryz.f13.params.toList (Tryz.f13.params.toList ++ (OpenSpec.ofChange Rows.primsApartSpec).bare.plain.varTypes Tryz.pinned.checked.prog ++ Tryz.f13.resultTypes.toList) = true := by kernel_rfl
theorem closed : joinedFacts Tryz.pinned.checked.prog 13 Tryz.f13 (OpenSpec.ofChange Rows.primsApartSpec).bare Rows.primsApartRow = true := (jD (jD (jD (jD (jD (jD (jD (jD (jD (jD (jD (jD (jD (jD (jD (jD (jD (jD (jD (jD (jD (jD (jD (jD (jD (jD (jD (jD (jD (jD (jD ayG ayF) ayE) ayD) ayC) ayB) ayA) axZ) axY) axX) asY) asX) asW) asV) asU) asT) asR) asQ) asP) asO) asN) asM) asL) asK) asJ) asI) asH) asG) asF) asE) asD) asC)
theorem said : Rows.PrimsApartSaid :=
 OpenClaim.holds_of_cond 13 Tryz.f13 rfl rfl rfl rfl rfl rfl rfl ⟨rfl, rfl, rfl, rfl, rfl⟩ rfl rfl rfl rfl rfl (by kernel_rfl) Tryz.func13 closed
  (of_decide_eq_true (by kernel_rfl)) (by unfold Func.isWrapper; first | (rw [if_pos (by decide +kernel)]; kernel_rfl) | (rw [if_neg (by decide +kernel)]; exact ⟨rfl, rfl⟩))
  (fun os started H enc _ F => by rw [OpenClaim.pre_eq_preRow]; exact lifted os started H enc F)
theorem plain (f : FuncId) (fn : Func) (hf : Tryz.pinned.checked.prog.funcNamed "amanuensis/amanuensislaw12.PrimsApart" = some f) (hfn : Tryz.pinned.checked.prog.funcs[f]? = some fn) :
 false = Tryz.pinned.checked.prog.looks [] ∧ ∀ (j : Nat) t, fn.params[j]? = some t → Tryz.pinned.checked.prog.wantsStandIn t = false := by
 obtain rfl : f = 13 := Option.some.inj ((show Tryz.prog.funcNamed "amanuensis/amanuensislaw12.PrimsApart" = some 13 by kernel_rfl).symm.trans hf) |>.symm
 obtain rfl : fn = Tryz.f13 := (Option.some.inj (Tryz.func13.symm.trans hfn)).symm
 refine ⟨by kernel_rfl, fun j t ht => ?_⟩
 rw [Tryz.params13] at ht
 have hm := Array.mem_of_getElem? ht
 simp only [List.mem_toArray, List.mem_cons, List.not_mem_nil, or_false] at hm
 rcases hm with rfl | rfl
 all_goals exact (by kernel_rfl : Tryz.prog.wantsStandIn _ = false)
theorem card : Rows.PrimsApartCardSaid :=
 Claim7.holds_tied_plain_at .later [] _ _ _ _ said (fun _ h => by cases h) (by kernel_rfl) (fun _ h => by cases h) primsApart_row_tie rfl ⟨rfl, rfl⟩ (by kernel_rfl) rfl plain (by kernel_rfl)
end Go.Proofs.YtcmepjpoffiijaaGreatDoor.fnPrimsApart
end

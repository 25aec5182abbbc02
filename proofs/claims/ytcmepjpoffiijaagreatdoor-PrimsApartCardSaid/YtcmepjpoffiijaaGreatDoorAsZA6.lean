import GoSem.Claim
import Derived.Orders
import Derived.Scope
import Derived.LoopN
import Derived.Below
import GoSem.Core.View
import GoSem.Core.Layout
import GoSem.Op.Equal
import Derived.WalkKit
import Derived.Lib.Strings
import Derived.Laws.IdiomStrings
import Derived.Laws.RangeString
import Derived.Laws.StructEq
import Derived.Lib.Bytealg
import Derived.Lib.IndexMore
import Derived.Deep.LoopGhost
import Derived.IntWalk
import Derived.ChangeArms
import Derived.DataReads
import GoSem.ClaimJoined
import Derived.KernelRfl
import Derived.Test.YtcmepjpoffiijaaGreatDoorProg
import Derived.Test.YtcmepjpoffiijaaGreatDoorAsZA5
set_option linter.unusedSectionVars false
set_option linter.unusedVariables false
set_option linter.unusedSimpArgs false
section
namespace Go.As
open Go.RowKit
def Ren.ents (r : Ren) : List (AV × AV × Nat) → List (AV × AV × Nat)
 | [] => []
 | (k, v, n) :: l => (r.av k, r.av v, n) :: r.ents l
def Ren.ovs (r : Ren) : List (SE × List AV) → List (SE × List AV)
 | [] => []
 | (i, cs) :: l => (r.se i, r.Ik cs) :: r.ovs l
def Ren.ob (r : Ren) : dP → dP
 | .cells cs e => .cells (r.Ik cs) e
 | .map es n => .map (r.ents es) n
 | .mM s p => .mM s p
 | .vec e t ty ov => .vec (r.se e) t ty (r.ovs ov)
 | .iI e t => .iI (r.se e) t
noncomputable def lS (r : Ren) : List dP → Nat → Hp → Hp
 | [], _, h => h
 | o :: os, i, h => lS r os (i + 1) (h.put (r.id i) (r.ob o))
def NJ (r : Ren) : Bool := r.sh.all fun i => Nat.beq i 0
def Xz (r : SE) (n : Nat) : List SE := (List.range n).map (rO r)
noncomputable def adY (j : Nat) (c : CS) (nC : List RK) (dU : List dP) (ko : Nat) : List AV → St → T (AV × St) := fun args s =>
 match Nat.beq args.length c.slots.length && c.fits prv ⟨aW args 0 .nil, s.h, s.pc⟩ (c.guess ⟨aW args 0 .nil, s.h, s.pc⟩) && NJ (c.guess ⟨aW args 0 .nil, s.h, s.pc⟩) with
 | true => oV s (.eq (.ap (2 * j) (gW (c.guess ⟨aW args 0 .nil, s.h, s.pc⟩).ns)) (.lit 1)) fun s' b => match b with
   | true => .ret (match tN nC (rO (.ap (2 * j + 1) (gW (c.guess ⟨aW args 0 .nil, s.h, s.pc⟩).ns))) ko with | [v] => v | vs => .tuple vs,
    { s' with h := lS ⟨Xz (.ap (2 * j + 1) (gW (c.guess ⟨aW args 0 .nil, s.h, s.pc⟩).ns)) ko, (c.guess ⟨aW args 0 .nil, s.h, s.pc⟩).bl, []⟩ dU 0 s'.h })
   | false => .fail
 | false => .fail
noncomputable def axB (s : St) (t c : Nat) : SE := match s.slots.get t with
 | some v => match v with
   | .int _ e => e
   | .agg cs => match gG cs c with
     | some v => match v with
       | .int _ e => e
       | _ => .lit 0
     | none => .lit 0
   | _ => .lit 0
 | none => .lit 0
noncomputable def aeJ (s : St) : List (Nat × Nat) → List SE → List SE
 | [], ns => ns
 | _ :: _, [] => []
 | (t, c) :: l, _ :: ns => axB s t c :: aeJ s l ns
noncomputable def ghR (s : St) (gh : List (Nat × Nat)) (r : Ren) : Ren := { r with ns := aeJ s gh r.ns }
noncomputable def axA (s : St) (gh : List (Nat × Nat)) : Option SE := match gh with
 | (t, c) :: _ => some (axB s t c)
 | [] => none
noncomputable def vS (q : SE) (jJ : Nat) (ns : List SE) (c : CS) (bl : List Nat) (s : St) : Ren := ⟨(List.range c.k).map fun a => match Nat.blt a jJ with | true => (match gG ns a with | some e => e | none => .lit 0) | false => rO q (a + 1), (List.range c.objs.length).map fun i => match gG bl i with | some j => j | none => s.h.next + (i - bl.length), []⟩
noncomputable def aeI (g n : SE) (s : St) (k : St → T (AV × St)) : T (AV × St) := oV s (jY g (.lit 0)) fun s b => match b with
 | true => k s
 | false => oV s (jY g n) fun s b => match b with
   | true => .fail
   | false => k s
noncomputable def ghT (q : SE) (jJ : Nat) (ns : List SE) (g : Option SE) (c : CS) (bl : List Nat) (s : St) (k : St → T (AV × St)) : T (AV × St) := match g with
 | none => k s
 | some g => match c.m with
   | .aA _ => k s
   | _ => match c.slots with
     | [] => k s
     | (_, v) :: _ => match v with
       | .uM _ n _ => aeI g ((vS q jJ ns c bl s).se n) s k
       | _ => k s
noncomputable def ahN (q : SE) (jJ : Nat) (ns : List SE) (g : Option SE) (bl : List Nat) : List CS → Nat → St → T (AV × St)
 | [], _, _ => .fail
 | c :: l, i, s => oV s (BL (rO q 0) (.lit (Int.ofNat i))) fun s b => match b with
   | true => ghT q jJ ns g c bl s fun s => .ret (resV ((vS q jJ ns c bl s).Ik (c.slots.map fun p => p.2)),
    { s with h := ⟨(lS (vS q jJ ns c bl s) c.objs 0 s.h).m, s.h.next + (c.objs.length - bl.length), s.h.res⟩ })
   | false => ahN q jJ ns g bl l (i + 1) s
noncomputable def adW (j jJ : Nat) (c : CS) (gh : List (Nat × Nat)) (uN : List CS) : List AV → St → T (AV × St) := fun args s =>
 match Nat.beq args.length c.slots.length && c.fits prv ⟨aW args 0 .nil, s.h, s.pc⟩ (ghR s gh (c.guess ⟨aW args 0 .nil, s.h, s.pc⟩)) && NJ (ghR s gh (c.guess ⟨aW args 0 .nil, s.h, s.pc⟩)) with
 | true => oV s (.eq (.ap (2 * j) (gW (ghR s gh (c.guess ⟨aW args 0 .nil, s.h, s.pc⟩)).ns)) (.lit 1)) fun s' b => match b with
   | true => ahN (.ap (2 * j + 1) (gW (ghR s gh (c.guess ⟨aW args 0 .nil, s.h, s.pc⟩)).ns)) jJ (ghR s gh (c.guess ⟨aW args 0 .nil, s.h, s.pc⟩)).ns (axA s gh) (ghR s gh (c.guess ⟨aW args 0 .nil, s.h, s.pc⟩)).bl uN 0 s'
   | false => .fail
 | false => .fail
section
variable {Eo E2 : En} {r : Ren} {h : Array Obj} (hl : r.ns.length ≤ 900) (hsh : r.sh = []) (hρ : Eo.ρ = r.env E2.ρ) (hid : ∀ i, Eo.dm i → E2.dm (r.id i) ∧ E2.θ (r.id i) = Eo.θ i ∧ E2.κ (r.id i) = Eo.κ i) (hro : Eo.ro = E2.ro)
include hl hsh hρ hid hro
theorem acB (i : Nat) : r.yZ i = 0 := by unfold Ren.yZ; rw [hsh]; rfl
theorem fE.back {id off len : Nat} {a : Addr} {cap : Nat} {c : UQ} (hd : Eo.dm id) (hc : fE Eo id off len a cap c) : fE E2 (r.id id) off len a cap c := by
 obtain ⟨_, h2, h3⟩ := hid id hd
 cases c <;> simp only [fE] at * <;> rw [h2]
 ·exact hc
 ·rw [h3]; exact hc
mutual
theorem VR.back : ∀ (x : AV) (u : Value), VR Eo h x u → VR E2 h (r.av x) u
 | .bool b, u, hv => by simp only [VR, Ren.av] at *; rw [Ren.FN hl, ← hρ]; exact hv
 | .int _ e, u, hv => by simp only [VR, Ren.av] at *; rw [Ren.dR hl, ← hρ]; exact hv
 | .str s, u, hv => by simp only [VR, Ren.av] at *; exact hv
 | .ptr id off, u, hv => by
   simp only [VR, Ren.av, acB hl hsh hρ hid hro, Nat.zero_add] at *
   obtain ⟨h1, h2, _⟩ := hid id hv.2
   rw [h2]; exact ⟨hv.1, h1⟩
 | .jW, u, hv => by simp only [VR, Ren.av] at *; exact hv
 | .qI cs, u, hv => by
   simp only [VR, Ren.av] at *
   obtain ⟨b, o, us, h1, h2, h3, h4, h5⟩ := hv
   exact ⟨b, o, us, h1, by rw [← hro]; exact h2, bD.back cs us h3, h4, h5⟩
 | .slice id off len c, u, hv => by
   simp only [VR, Ren.av, acB hl hsh hρ hid hro, Nat.zero_add] at *
   obtain ⟨h1, a, cap, h2, h3, h4⟩ := hv
   exact ⟨(hid id h1).1, a, cap, h2, h3, fE.back hl hsh hρ hid hro h1 h4⟩
 | .aP, u, hv => by simp only [VR, Ren.av] at *; exact hv
 | .ro cs n full, u, hv => by
   simp only [VR, Ren.av] at *
   obtain ⟨b, o, cap, us, h1, h2, h3, h4, h5, h6, h7⟩ := hv
   exact ⟨b, o, cap, us, h1, h2, h3, by rw [← hro]; exact h4, bD.back cs us h5, h6, h7⟩
 | .map id, u, hv => by
   simp only [VR, Ren.av] at *
   obtain ⟨h1, h2, _⟩ := hid id hv.2
   rw [h2]; exact ⟨hv.1, h1⟩
 | .oZ, u, hv => by simp only [VR, Ren.av] at *; exact hv
 | .func fn fs cs, u, hv => by
   simp only [VR, Ren.av] at *
   obtain ⟨us, ws, h1, h2, h3⟩ := hv
   exact ⟨us, ws, h1, bD.back fs us h2, bD.back cs ws h3⟩
 | .BO, u, hv => by simp only [VR, Ren.av] at *; exact hv
 | .iface t x, u, hv => by
   simp only [VR, Ren.av] at *
   obtain ⟨y, h1, h2⟩ := hv
   exact ⟨y, h1, VR.back x y h2⟩
 | .D8, u, hv => by simp only [VR, Ren.av] at *; exact hv
 | .agg cs, u, hv => by
   simp only [VR, Ren.av] at *
   obtain ⟨us, h1, h2⟩ := hv
   exact ⟨us, h1, bD.back cs us h2⟩
 | .tuple cs, u, hv => by
   simp only [VR, Ren.av] at *
   obtain ⟨us, h1, h2⟩ := hv
   exact ⟨us, h1, bD.back cs us h2⟩
 | .opq _, u, hv => by simp only [VR] at hv
 | .inp k ks, u, hv => by
   simp only [VR, Ren.av] at *
   rw [hρ, Ren.nK hl (by omega), hro] at hv
   rcases hv with hv | ⟨b, o, n, cap, h1, h2, h3, h4, h5⟩
   ·exact .inl hv
   ·refine .inr ⟨b, o, n, cap, h1, h2, h3, h4, fun i j kd hi hj => ?_⟩
    have := h5 i j kd hi hj
    first
     | exact this
     | (rw [Ren.nK hl (by omega)] at this; exact this)
     | (rw [hρ, Ren.nK hl (by omega)] at this; exact this)
 | .emp, u, hv => by simp only [VR, Ren.av] at *; exact hv
 | .dat e t, u, hv => by simp only [VR, Ren.av] at *; rw [Ren.dR hl, ← hρ, ← hro]; exact hv
 | .lJ e, u, hv => by simp only [VR, Ren.av] at *; rw [Ren.dR hl, ← hρ, ← hro]; exact hv
 | .uM id n t, u, hv => by
   simp only [Ren.av, acB hl hsh hρ hid hro]
   simp only [VR] at *
   obtain ⟨h1, k, a, cap, h2, h3, h4, h5⟩ := hv
   exact ⟨(hid id h1).1, k, a, cap, by rw [Ren.dR hl, ← hρ]; exact h2, h3, h4, fE.back hl hsh hρ hid hro h1 h5⟩
 | .nY id es i off, u, hv => by
   simp only [Ren.av, acB hl hsh hρ hid hro]
   simp only [VR] at *
   obtain ⟨h1, k, h2, h3⟩ := hv
   obtain ⟨g1, g2, _⟩ := hid id h1
   exact ⟨g1, k, by rw [Ren.dR hl, ← hρ]; exact h2, by rw [g2]; exact h3⟩
 | .any, u, _ => by simp only [VR, Ren.av]
 | .Fv z t, u, hv => by simp only [VR, Ren.av] at *; rw [Ren.dR hl, ← hρ, ← hro]; exact hv
 | .yX id lo n t, u, hv => by
   simp only [Ren.av, acB hl hsh hρ hid hro]
   simp only [VR] at *
   obtain ⟨h1, l, k, a, cap, h2, h3, h4, h5, h6⟩ := hv
   exact ⟨(hid id h1).1, l, k, a, cap, by rw [Ren.dR hl, ← hρ]; exact h2, by rw [Ren.dR hl, ← hρ]; exact h3, h4, h5, fE.back hl hsh hρ hid hro h1 h6⟩
theorem bD.back : ∀ (xs : List AV) (us : List Value), bD Eo h xs us → bD E2 h (r.Ik xs) us
 | [], us, hv => by simp only [bD, Ren.Ik] at *; exact hv
 | x :: xs, us, hv => by
   simp only [bD, Ren.Ik] at *
   obtain ⟨u, vs, h1, h2, h3⟩ := hv
   exact ⟨u, vs, h1, VR.back x u h2, bD.back xs vs h3⟩
end
theorem eF.back : ∀ {es : List (AV × AV × Nat)} {ents : List MapEntry}, eF Eo h es ents → eF E2 h (r.ents es) ents
 | [], _, hv => by simp only [eF, Ren.ents] at *; exact hv
 | (k, v, b) :: es, ents, hv => by
   simp only [eF, Ren.ents] at *
   obtain ⟨e, rr, h1, h2, h3, h4, h5⟩ := hv
   exact ⟨e, rr, h1, VR.back hl hsh hρ hid hro k _ h2, VR.back hl hsh hρ hid hro v _ h3, h4, eF.back h5⟩
theorem JC {i : Nat} : ∀ {ov : List (SE × List AV)}, dO E2.ρ i (r.ovs ov) = (dO Eo.ρ i ov).map r.Ik
 | [] => rfl
 | (j, cs) :: l => by
   simp only [dO, Ren.ovs]
   rw [Ren.dR hl, ← hρ, JC]
   split <;> rfl
theorem CJ {row : Row} {ov : List (SE × List AV)} : ∀ (ds : List D) (i : Nat) {us : List Value}, bD Eo h (aG Eo.ρ row ov ds i) us → bD E2 h (aG E2.ρ row (r.ovs ov) ds i) us
 | [], _, us, hv => by simp only [aG, bD] at *; exact hv
 | d :: ds, i, us, hv => by
   simp only [aG] at *
   obtain ⟨a, b, rfl, h1, h2⟩ := hv.split
   refine bD.append ?_ (CJ ds (i + 1) h2)
   rw [JC hl hsh hρ hid hro]
   cases ho : dO Eo.ρ i ov with
   | none =>
     rw [ho] at h1
     simp only [Option.map_none]
     rw [iE] at h1 ⊢
     rw [← hro]
     exact h1
   | some cs =>
     rw [ho] at h1
     exact bD.back hl hsh hρ hid hro cs a h1
theorem Nz {row : Row} : ∀ {ov : List (SE × List AV)}, DY row ov → DY row (r.ovs ov)
 | [], h => h
 | (i, cs) :: l, h => by
   intro p hp
   simp only [Ren.ovs] at hp
   rcases List.mem_cons.1 hp with rfl | hp
   ·simp only [uH]; exact h (i, cs) (by simp)
   ·exact Nz (fun q hq => h q (by simp [hq])) p hp
theorem OR.back {id : Nat} {o : dP} (hd : Eo.dm id) (ho : OR Eo h id o) : OR E2 h (r.id id) (r.ob o) := by
 obtain ⟨_, h2, h3⟩ := hid id hd
 cases o with
 | cells cs e =>
   simp only [OR, Ren.ob] at *
   obtain ⟨arr, lo, hi, us, q1, q2, q3, q4, q5, q6, q7⟩ := ho
   rw [h2, h3]
   exact ⟨arr, lo, hi, us, q1, bD.back hl hsh hρ hid hro cs us q2, q3, by rw [uH]; exact q4, q5, q6, q7⟩
 | map es c =>
   simp only [OR, Ren.ob] at *
   obtain ⟨ents, c', q1, q2⟩ := ho
   rw [h2]
   exact ⟨ents, c', q1, eF.back hl hsh hρ hid hro q2⟩
 | mM s p => simp only [OR, Ren.ob] at *; rw [h2]; exact ho
 | iI e t =>
   simp only [OR, Ren.ob] at *
   obtain ⟨ents, c', q1, q2⟩ := ho
   have he : (r.se e).den E2.ρ = e.den Eo.ρ := by rw [Ren.dR hl, ← hρ]
   rw [h2, he, ← hro]
   exact ⟨ents, c', q1, q2⟩
 | vec e t ty ov =>
   simp only [OR, Ren.ob] at *
   obtain ⟨⟨q0, qw⟩, arr, lo, hi, us, q1, q2, q3, q4, q5, q6, q7⟩ := ho
   have he : (r.se e).den E2.ρ = e.den Eo.ρ := by rw [Ren.dR hl, ← hρ]
   have q0' := Nz hl hsh hρ hid hro q0
   rw [h2, h3, he]
   refine ⟨⟨q0', qw⟩, arr, lo, hi, us, q1, CJ hl hsh hρ hid hro _ _ q2, q3, ?_, q5, q6, q7⟩
   rw [bQ q0']
   rw [bQ q0] at q4
   exact q4
end
theorem Dc {r : Ren} : ∀ {os : List dP} {i : Nat} {h : Hp}, (∀ a b, i ≤ a → a < i + os.length → i ≤ b → b < i + os.length → r.id a = r.id b → a = b) →
 (∀ k o, os[k]? = some o → (lS r os i h).get (r.id (i + k)) = some (r.ob o)) ∧ (∀ id, (∀ k, k < os.length → r.id (i + k) ≠ id) → (lS r os i h).get id = h.get id) ∧ (lS r os i h).next = h.next ∧ (lS r os i h).res = h.res
 | [], i, h, _ => ⟨fun k o hk => by simp at hk, fun _ _ => rfl, rfl, rfl⟩
 | o :: os, i, h, hinj => by
   obtain ⟨h1, h2, h3, h4⟩ := Dc (r := r) (os := os) (i := i + 1) (h := h.put (r.id i) (r.ob o)) fun a b h1 h2 h3 h4 => hinj a b (by omega) (by simp only [List.length_cons]; omega) (by omega) (by simp only [List.length_cons]; omega)
   refine ⟨fun k x hk => ?_, fun id hn => ?_, h3, h4⟩
   ·cases k with
    | zero =>
      simp at hk
      subst hk
      simp only [lS]
      show (lS r os (i + 1) (h.put (r.id i) (r.ob o))).get (r.id i) = some (r.ob o)
      rw [h2 (r.id i) fun k hk he => ?_, Hp.get_put, if_pos rfl]
      have := hinj (i + 1 + k) i (by omega) (by simp only [List.length_cons]; omega) (by omega) (by simp) he
      omega
    | succ k =>
      simp only [lS]
      have := h1 k x (by simpa using hk)
      rw [show i + (k + 1) = i + 1 + k by omega]
      exact this
   ·simp only [lS]
    rw [h2 id fun k hk => ?_, Hp.get_put, if_neg ?_]
    ·have := hn 0 (by simp)
     rw [Nat.add_zero] at this
     exact fun q => this q.symm
    ·have := hn (k + 1) (by simp only [List.length_cons]; omega)
     rw [show i + (k + 1) = i + 1 + k by omega] at this
     exact this
theorem Cj (c : CS) (s : St) : (c.guess s).ns.length = c.k := by
 unfold CS.guess
 split
 exact qA _ _ _
section
variable {P : Program}
def aoS (P : Program) (GB : (Nat → Prop) → Array Obj → Prop) (g : FuncId) (c : CS) (nC : List RK) (dU : List dP) (ko : Nat) (f : List Int → Option (List Int)) : Prop :=
 ∀ xs ys, f xs = some ys → ∀ (E : En) (w : World) (vals : List Value), (∀ i x, xs[i]? = some x → E.ρ i = x) → xs.length = c.k → Fh E c.st { tmps := vals.toArray, defers := [] } w → GB E.ro w.heap →
  Calls P g vals.toArray w (QE ⟨w, E.ro, c.objs.length, E.θ, E.κ⟩ nC dU ko ys)
theorem adX [Glob] {GB : (Nat → Prop) → Array Obj → Prop} (hgb : ∀ ρ ro h, Glob.ok ρ ro h → GB ro h) {F : Fz} (hgood : ∀ ρ ro h, Glob.ok ρ ro h → Good F ρ) {g : FuncId} {j : Nat} {c : CS} {nC : List RK} {dU : List dP} {ko : Nat} (hlo : oM ko dU = true) (hko : ko ≤ 900) (hom : dU.length = c.objs.length)
 (hs : aoS P GB g c nC dU ko (F j)) (hrun : ∀ (args : Array Value) (w : World), (callFunc g args).run P w = .ok (.enter g args) w) : mY P g (adY j c nC dU ko) := by
 intro aAX s E w vals v s' r hv hp hl
 unfold adY at hl
 split at hl
 ·rename_i hcond
  simp only [Bool.and_eq_true] at hcond
  obtain ⟨⟨_, hfit⟩, hns⟩ := hcond
  have hlen := Cj c ⟨aW aAX 0 .nil, s.h, s.pc⟩
  generalize hr : c.guess ⟨aW aAX 0 .nil, s.h, s.pc⟩ = rn at hl hfit hns hlen
  have f0 : Fit E ⟨aW aAX 0 .nil, s.h, s.pc⟩ { tmps := vals.toArray, defers := [] } w := by
   refine ⟨r, ?_, hp⟩
   have := Ej hv 0
   simpa using this
  obtain ⟨hle, f1, ho⟩ := ED VD f0 hfit
  obtain ⟨pc1, hp1, q1⟩ := cO hp hl
  split at q1
  ·rename_i ht
   have hg := hgood _ _ _ r.glob
   have hg1 := (hg j (rn.ns.map (SE.den E.ρ))).1
   have hg2 := (hg j (rn.ns.map (SE.den E.ρ))).2
   simp only [SB.den, SE.den, kN, hg1, beq_iff_eq] at ht
   have hsome : (F j (rn.ns.map (SE.den E.ρ))).isSome = true := by
    cases hh : (F j (rn.ns.map (SE.den E.ρ))).isSome with
    | true => rfl
    | false => rw [hh] at ht; simp at ht
   obtain ⟨ys, hys⟩ := Option.isSome_iff_exists.1 hsome
   have hrd : (SE.ap (2 * j + 1) (gW rn.ns)).den E.ρ = nX ys := by
    show E.ρ _ = _
    rw [kN, hg2, hys]
    rfl
   have := aF q1
   simp only [Prod.mk.injEq] at this
   obtain ⟨rfl, rfl⟩ := this
   refine ⟨rfl, hp1, ?_⟩
   unfold uK uJ
   rw [hrun]
   have hxs : ∀ i x, (rn.ns.map (SE.den E.ρ))[i]? = some x → (E.ren rn).ρ i = x := by
    intro i x hi
    rw [List.getElem?_map, Option.map_eq_some_iff] at hi
    obtain ⟨e, he, rfl⟩ := hi
    show rn.env E.ρ i = _
    unfold Ren.env
    rw [bU, he]
   refine Calls.mono (hs _ ys hys (E.ren rn) w vals hxs (by simpa using hlen) f1.x (hgb _ _ _ f1.rel.glob)) fun e w' ⟨u, he, hb, ro', k1, k2, k3, k4, k5, k6⟩ => ⟨u, he, ?_⟩
   have xU := hfit
   unfold CS.fits at xU
   simp only [Bool.and_eq_true] at xU
   obtain ⟨⟨⟨⟨⟨_, hbl⟩, hdis⟩, _⟩, akL⟩, _⟩ := xU
   have hbl := Nat.eq_of_beq_eq_true hbl
   have TF : ∀ i, rn.yZ i = 0 := by
    intro i
    unfold Ren.yZ
    split
    ·rename_i x hx
     rw [bU] at hx
     unfold NJ at hns
     rw [List.all_eq_true] at hns
     exact Nat.eq_of_beq_eq_true (hns x (List.mem_of_getElem? hx))
    ·rfl
   have Ig : ∀ i, i < c.objs.length → ∃ o, s.h.get (rn.id i) = some o := by
    intro i hi
    obtain ⟨o', g1, _⟩ := kR akL (List.getElem?_eq_getElem hi)
    rw [Nat.zero_add] at g1
    exact ⟨o', g1⟩
   have hinj : ∀ a b, a < c.objs.length → b < c.objs.length → rn.id a = rn.id b → a = b := by
    intro a b ha hb he
    have hla : a < rn.bl.length := by omega
    have hlb : b < rn.bl.length := by omega
    unfold Ren.id at he
    rw [bU, bU, List.getElem?_eq_getElem hla, List.getElem?_eq_getElem hlb] at he
    simp only at he
    exact sD hdis (i := a) (j := b) (x := rn.bl[a]) (by rw [bU, List.getElem?_eq_getElem hla]) (by rw [bU, List.getElem?_eq_getElem hlb, he])
   generalize hR : (⟨Xz (.ap (2 * j + 1) (gW rn.ns)) ko, rn.bl, []⟩ : Ren) = R
   have P5 : ∀ i, R.id i = rn.id i := by intro i; rw [← hR]; rfl
   have hRl : R.ns.length = ko := by rw [← hR]; simp [Xz]
   obtain ⟨p1, p2, p3, p4⟩ := Dc (r := R) (os := dU) (i := 0) (h := s.h) fun a b _ h2 _ h4 he => by
    rw [P5, P5] at he
    exact hinj a b (by omega) (by omega) he
   have hfp : ∀ b, (oU.mk w (E.ren rn).ro c.objs.length (E.ren rn).θ (E.ren rn).κ).fp b → ∃ id o, s.h.get id = some o ∧ (E.θ id).1 = b := by
    rintro b ⟨i, hi, he⟩
    obtain ⟨o, h1⟩ := Ig i hi
    exact ⟨_, o, h1, he⟩
   have akJ : ∀ b, E.ro b → w'.heap[b]? = w.heap[b]? := by
    intro b hbr
    refine hb.blk b (r.A8 b hbr) fun hf => ?_
    obtain ⟨id, o, h1, h2⟩ := hfp b hf
    exact (r.live id o h1).2.2 (by rw [h2]; exact hbr)
   have hkeep : Keeps E w.heap { E with ro := ro' } w'.heap := ⟨rfl, fun _ h => h, fun _ _ => rfl, fun _ _ => rfl, k1, akJ⟩
   have VY : ∀ id o, (lS R dU 0 s.h).get id = some o → ∃ o', s.h.get id = some o' := by
    intro id o hg
    by_cases hex : ∃ k, k < dU.length ∧ R.id (0 + k) = id
    ·obtain ⟨k, hk, rfl⟩ := hex
     rw [Nat.zero_add, P5]
     exact Ig k (by omega)
    ·rw [p2 id fun k hk he => hex ⟨k, hk, he⟩] at hg
     exact ⟨o, hg⟩
   have st2 : Stp E s.h w { E with ro := ro' } (lS R dU 0 s.h) w' := by
    refine ⟨rfl, fun _ h => h, fun _ _ => rfl, fun _ _ => rfl, k1, fun b hbr => (k2 b hbr).imp id .inr, by rw [p3]; exact Nat.le_refl _, by rw [p4]; exact .inr rfl, fun _ h => .inl h, hb.os, hb.tape, hb.output, hb.size, fun b hbl hn => hb.blk b hbl fun hf => ?_, fun id o hg _ => ?_⟩
    ·obtain ⟨id, o, h1, h2⟩ := hfp b hf
     exact hn id o h1 h2
    ·obtain ⟨o', h1⟩ := VY id o hg
     exact ⟨id, o', h1, rfl⟩
   have X9 : ∀ i, i < ko → R.env E.ρ i = low ys i := by
    intro i hi
    unfold Ren.env low
    have hn : gG R.ns i = some (rO (.ap (2 * j + 1) (gW rn.ns)) i) := by
     rw [← hR, bU]
     simp [Xz, hi]
    rw [hn]
    simp only
    rw [List.getD_eq_getElem?_getD]
    simp only [rO, SE.den, aN.den, aC]
    have awL : (SE.ap (2 * j + 1) (gW rn.ns)).den E.ρ = nX ys := hrd
    simp only [SE.den] at awL
    rw [awL]
    simp only [nX, aC, D.hd, bC, List.getElem?_map]
    cases ys[i]? <;> rfl
   have r2 : aX { E with ro := ro' } (lS R dU 0 s.h) w' := by
    refine ⟨fun id hid => r.fresh id (by rw [← p3]; exact hid), fun q hq => by rw [p3]; exact r.res q (by rw [← p4]; exact hq), fun id o hg => ?_, fun i1 i2 o1 o2 h1 h2 he => ?_, k3, Glob.keep r.glob k1 akJ⟩
    ·by_cases hex : ∃ k, k < dU.length ∧ R.id (0 + k) = id
     ·obtain ⟨k, hk, rfl⟩ := hex
      rw [Nat.zero_add]
      have hx := List.getElem?_eq_getElem hk
      have := p1 k _ hx
      rw [hg] at this
      simp only [Option.some.injEq] at this
      subst this
      obtain ⟨o', h1⟩ := Ig k (by omega)
      obtain ⟨d1, d2, d3⟩ := r.live _ _ h1
      refine ⟨by rw [P5]; exact d1, ?_, ?_⟩
      ·have ho2 := k5 k _ hx
       have ho3 := OR.low (K := ko) (E := (oU.mk w (E.ren rn).ro c.objs.length (E.ren rn).θ (E.ren rn).κ).out ys ro') (E' := { ρ := R.env E.ρ, θ := (E.ren rn).θ, κ := (E.ren rn).κ, dm := fun i => i < c.objs.length, ro := ro' })
        (fun i hi => X9 i hi) rfl rfl rfl rfl (xO hlo hx) ho2
       refine OR.back (Eo := { ρ := R.env E.ρ, θ := (E.ren rn).θ, κ := (E.ren rn).κ, dm := fun i => i < c.objs.length, ro := ro' }) (E2 := { E with ro := ro' }) (r := R) (by rw [hRl]; exact hko) (by rw [← hR]) rfl (fun i hi => ?_) rfl (show k < c.objs.length by omega) ho3
       obtain ⟨o2, h2⟩ := Ig i hi
       refine ⟨by rw [P5]; exact (r.live _ _ h2).1, ?_, ?_⟩
       ·show E.θ (R.id i) = ((E.θ (rn.id i)).1, (E.θ (rn.id i)).2 + rn.yZ i)
        rw [P5, TF, Nat.add_zero]
       ·show E.κ (R.id i) = E.κ (rn.id i) - rn.yZ i
        rw [P5, TF, Nat.sub_zero]
      ·rw [P5]
       exact k4 k (by show k < c.objs.length; omega)
     ·rw [p2 id fun k hk he => hex ⟨k, hk, he⟩] at hg
      obtain ⟨d1, d2, d3⟩ := r.live id o hg
      have hblk : w'.heap[(E.θ id).1]? = w.heap[(E.θ id).1]? := by
       refine hb.blk _ (iV r hg) ?_
       rintro ⟨i, hi, he⟩
       obtain ⟨o', h1⟩ := Ig i hi
       have := r.inj _ id o' o h1 hg he
       exact hex ⟨i, by show i < dU.length; rw [hom]; exact hi, by rw [Nat.zero_add, P5]; exact this⟩
      refine ⟨d1, d2.keep hkeep d1 hblk, fun hr => ?_⟩
      rcases k2 _ hr with hr | hr
      ·exact d3 hr
      ·have hlt : (E.θ id).1 < w.heap.size := iV r hg
       have hge : w.heap.size ≤ (E.θ id).1 := hr
       omega
    ·obtain ⟨a1, b1⟩ := VY _ _ h1
     obtain ⟨a2, b2⟩ := VY _ _ h2
     exact r.inj _ _ _ _ b1 b2 he
   refine ⟨{ E with ro := ro' }, st2, r2, ?_⟩
   obtain ⟨us, fl', sh', c1, rfl⟩ := k6
   have hvr : bD { E with ro := ro' } w'.heap (tN nC (rO (.ap (2 * j + 1) (gW rn.ns))) ko) us := by
    refine wO sh' c1 fun k n hk => ?_
    rw [List.getElem?_drop] at hk
    exact AZ (ys := ys) hrd hk
   have := Iz hvr
   unfold resV at this
   exact this
  ·simp [T.leaf] at q1
 ·simp [T.leaf] at hl
theorem He (s : St) : ∀ (gh : List (Nat × Nat)) (ns : List SE), (aeJ s gh ns).length = ns.length
 | [], _ => rfl
 | _ :: _, [] => rfl
 | (t, c) :: l, _ :: ns => by simp only [aeJ, List.length_cons, He s l ns]
theorem aeH {g n : SE} {ρ : Nat → Int} {s : St} {k : St → T (AV × St)} {r : AV × St} (hp : aZ ρ s.pc) (h : (aeI g n s k).leaf ρ = some r) : ∃ pc, aZ ρ pc ∧ (k { s with pc := pc }).leaf ρ = some r := by
 unfold aeI at h
 obtain ⟨pc1, hp1, h1⟩ := cO hp h
 split at h1
 ·exact ⟨pc1, hp1, h1⟩
 ·obtain ⟨pc2, hp2, h2⟩ := cO (s := { s with pc := pc1 }) hp1 h1
  split at h2
  ·simp [T.leaf] at h2
  ·exact ⟨pc2, hp2, h2⟩
theorem aqY {q : SE} {jJ : Nat} {ns : List SE} {g : Option SE} {c : CS} {bl : List Nat} {ρ : Nat → Int} {s : St} {k : St → T (AV × St)} {r : AV × St} (hp : aZ ρ s.pc) (h : (ghT q jJ ns g c bl s k).leaf ρ = some r) : ∃ pc, aZ ρ pc ∧ (k { s with pc := pc }).leaf ρ = some r := by
 unfold ghT at h
 split at h
 ·exact ⟨s.pc, hp, h⟩
 ·split at h
  ·exact ⟨s.pc, hp, h⟩
  ·split at h
   ·exact ⟨s.pc, hp, h⟩
   ·split at h
    ·exact aeH hp h
    ·exact ⟨s.pc, hp, h⟩
theorem YC {q : SE} {jJ : Nat} {ns : List SE} {g : Option SE} {bl : List Nat} {ρ : Nat → Int} {v : AV} {s' : St} : ∀ {l : List CS} {k : Nat} {s : St}, aZ ρ s.pc → (ahN q jJ ns g bl l k s).leaf ρ = some (v, s') →
 ∃ i c pc', l[i - k]? = some c ∧ k ≤ i ∧ (rO q 0).den ρ = (i : Int) ∧ aZ ρ pc' ∧ v = resV ((vS q jJ ns c bl s).Ik (c.slots.map fun p => p.2)) ∧ s' = { s with h := ⟨(lS (vS q jJ ns c bl s) c.objs 0 s.h).m, s.h.next + (c.objs.length - bl.length), s.h.res⟩, pc := pc' }
 | [], k, s, _, h => by simp [ahN, T.leaf] at h
 | c :: l, k, s, hp, h => by
   simp only [ahN] at h
   obtain ⟨pc', hp', h1⟩ := cO hp h
   split at h1
   ·rename_i hb
    rw [kZ, beq_iff_eq] at hb
    obtain ⟨pc2, hp2, h2⟩ := aqY (s := { s with pc := pc' }) hp' h1
    have := aF h2
    simp only [Prod.mk.injEq] at this
    exact ⟨k, c, pc2, by simp, Nat.le_refl _, hb, hp2, this.1.symm, this.2.symm⟩
   ·obtain ⟨i, c', pc2, q1, q2, q3, q4, q5, q6⟩ := YC (s := { s with pc := pc' }) hp' h1
    refine ⟨i, c', pc2, ?_, by omega, q3, q4, q5, q6⟩
    rw [show i - k = (i - (k + 1)) + 1 by omega, List.getElem?_cons_succ]
    exact q1
def Dk : List (Nat × AV) → Nat → Bool
 | [], _ => true
 | (t, _) :: l, i => Nat.beq t i && Dk l (i + 1)
theorem GR : ∀ {l : List (Nat × AV)} {i t : Nat} {tr : Tr AV}, Dk l i = true → t < i → (pX l tr).get t = tr.get t
 | [], _, _, _, _, _ => rfl
 | (j, v) :: l, i, t, tr, h, ht => by
   simp only [Dk, Bool.and_eq_true] at h
   have hj := Nat.eq_of_beq_eq_true h.1
   simp only [pX]
   rw [GR h.2 (by omega), Tr.get_put, if_neg (by omega)]
theorem DK : ∀ {l : List (Nat × AV)} {i : Nat} {tr : Tr AV}, Dk l i = true → ∀ k v, (l.map fun p => p.2)[k]? = some v → (pX l tr).get (i + k) = some v
 | [], _, _, _, k, v, hk => by simp at hk
 | (j, x) :: l, i, tr, h, k, v, hk => by
   simp only [Dk, Bool.and_eq_true] at h
   have hj := Nat.eq_of_beq_eq_true h.1
   subst hj
   simp only [pX]
   cases k with
   | zero =>
     simp only [List.map_cons, List.getElem?_cons_zero, Option.some.injEq] at hk
     subst hk
     rw [Nat.add_zero, GR h.2 (by omega), Tr.get_put, if_pos rfl]
   | succ k =>
     have := DK (tr := tr.put j (some x)) h.2 k v (by simpa using hk)
     rw [show j + (k + 1) = j + 1 + k by omega]
     exact this
theorem bD.of {E : En} {h : Array Obj} : ∀ {vs : List AV} {us : List Value}, us.length = vs.length → (∀ (k : Nat) (v : AV), vs[k]? = some v → ∃ u, us[k]? = some u ∧ VR E h v u) → bD E h vs us
 | [], us, hl, _ => by rw [jG]; exact List.eq_nil_of_length_eq_zero hl
 | v :: vs, [], hl, _ => by simp at hl
 | v :: vs, u :: us, hl, hh => by
   rw [aQ]
   refine ⟨u, us, rfl, ?_, bD.of (by simpa using hl) fun k x hk => ?_⟩
   ·obtain ⟨y, h1, h2⟩ := hh 0 v rfl
    simp at h1
    subst h1
    exact h2
   ·exact hh (k + 1) x (by simpa using hk)
def aoR (P : Program) (GB : (Nat → Prop) → Array Obj → Prop) (g : FuncId) (c : CS) (uN : List CS) (f : List Int → Option (List Int)) : Prop :=
 ∀ xs ys, f xs = some ys → ∀ (E : En) (w : World) (vals : List Value), (∀ i x, xs[i]? = some x → E.ρ i = x) → xs.length = c.k → Fh E c.st { tmps := vals.toArray, defers := [] } w → GB E.ro w.heap →
  Calls P g vals.toArray w (QR ⟨w, E.ro, c.objs.length, E.θ, E.κ⟩ uN ys)
def Nh : List CS → Bool
 | [] => true
 | c :: l => Ai c.k c && Dk c.slots 0 && Nat.ble c.k 900 && Nh l
theorem Nc : ∀ {l : List CS}, Nh l = true → ∀ {i : Nat} {c : CS}, l[i]? = some c → Ai c.k c = true ∧ Dk c.slots 0 = true ∧ c.k ≤ 900
 | [], _, i, c, h => by simp at h
 | c0 :: l, hs, i, c, h => by
   simp only [Nh, Bool.and_eq_true] at hs
   cases i with
   | zero => simp at h; subst h; exact ⟨hs.1.1.1, hs.1.1.2, Nat.le_of_ble_eq_true hs.1.2⟩
   | succ i => exact Nc hs.2 (by simpa using h)
theorem adV [Glob] {GB : (Nat → Prop) → Array Obj → Prop} (hgb : ∀ ρ ro h, Glob.ok ρ ro h → GB ro h) {F : Fz} (hgood : ∀ ρ ro h, Glob.ok ρ ro h → Good F ρ) {g : FuncId} {j : Nat} {c : CS} {gh : List (Nat × Nat)} {jJ : Nat} {uN : List CS} (hrp : Nh uN = true) (hgat : ∀ xs ys, F j xs = some ys → ∀ a y, a < jJ → ys[a + 1]? = some y → y = low xs a)
 (hs : aoR P GB g c uN (F j)) (hrun : ∀ (args : Array Value) (w : World), (callFunc g args).run P w = .ok (.enter g args) w) : mY P g (adW j jJ c gh uN) := by
 intro aAX s E w vals v s' r hv hp hl
 unfold adW at hl
 split at hl
 ·rename_i hcond
  simp only [Bool.and_eq_true] at hcond
  obtain ⟨⟨_, hfit⟩, hns⟩ := hcond
  have hlen := Cj c ⟨aW aAX 0 .nil, s.h, s.pc⟩
  have hlen2 : (ghR s gh (c.guess ⟨aW aAX 0 .nil, s.h, s.pc⟩)).ns.length = c.k := by
   show (aeJ s gh _).length = c.k
   rw [He, hlen]
  generalize hr : ghR s gh (c.guess ⟨aW aAX 0 .nil, s.h, s.pc⟩) = rn at hl hfit hlen2 hns
  have f0 : Fit E ⟨aW aAX 0 .nil, s.h, s.pc⟩ { tmps := vals.toArray, defers := [] } w := by
   refine ⟨r, ?_, hp⟩
   have := Ej hv 0
   simpa using this
  obtain ⟨hle, f1, ho⟩ := ED VD f0 hfit
  obtain ⟨pc1, hp1, q1⟩ := cO hp hl
  split at q1
  ·rename_i ht
   have hg := hgood _ _ _ r.glob
   have hg1 := (hg j (rn.ns.map (SE.den E.ρ))).1
   have hg2 := (hg j (rn.ns.map (SE.den E.ρ))).2
   simp only [SB.den, SE.den, kN, hg1, beq_iff_eq] at ht
   have hsome : (F j (rn.ns.map (SE.den E.ρ))).isSome = true := by
    cases hh : (F j (rn.ns.map (SE.den E.ρ))).isSome with
    | true => rfl
    | false => rw [hh] at ht; simp at ht
   obtain ⟨ys, hys⟩ := Option.isSome_iff_exists.1 hsome
   have hrd : (SE.ap (2 * j + 1) (gW rn.ns)).den E.ρ = nX ys := by
    show E.ρ _ = _
    rw [kN, hg2, hys]
    rfl
   obtain ⟨i, c', pc2, a1, _, a3, a4, rfl, rfl⟩ := YC (s := { s with pc := pc1 }) hp1 q1
   rw [Nat.sub_zero] at a1
   refine ⟨rfl, a4, ?_⟩
   unfold uK uJ
   rw [hrun]
   have hxs : ∀ i x, (rn.ns.map (SE.den E.ρ))[i]? = some x → (E.ren rn).ρ i = x := by
    intro i x hi
    rw [List.getElem?_map, Option.map_eq_some_iff] at hi
    obtain ⟨e, he, rfl⟩ := hi
    show rn.env E.ρ i = _
    unfold Ren.env
    rw [bU, he]
   refine Calls.mono (hs _ ys hys (E.ren rn) w vals hxs (by simpa using hlen2) f1.x (hgb _ _ _ f1.rel.glob)) fun e w' ⟨us, i2, c2, E', he, hb, b1, b2, b3, b4, b5, b6, b7, b8, amO, b9⟩ => ⟨Y6 us, he, ?_⟩
   have hi : i2 = i := by
    have := AZ hrd b2
    rw [a3] at this
    omega
   subst hi
   rw [b1] at a1
   simp only [Option.some.injEq] at a1
   subst a1
   obtain ⟨k1, k2, k3⟩ := Nc hrp b1
   have xU := hfit
   unfold CS.fits at xU
   simp only [Bool.and_eq_true] at xU
   obtain ⟨⟨⟨⟨⟨_, hbl⟩, hdis⟩, _⟩, akL⟩, _⟩ := xU
   have hbl := Nat.eq_of_beq_eq_true hbl
   have TF : ∀ i, rn.yZ i = 0 := by
    intro i
    unfold Ren.yZ
    split
    ·rename_i x hx
     rw [bU] at hx
     unfold NJ at hns
     rw [List.all_eq_true] at hns
     exact Nat.eq_of_beq_eq_true (hns x (List.mem_of_getElem? hx))
    ·rfl
   have Ig : ∀ i, i < c.objs.length → ∃ o, s.h.get (rn.id i) = some o := by
    intro i hi
    obtain ⟨o', g1, _⟩ := kR akL (List.getElem?_eq_getElem hi)
    rw [Nat.zero_add] at g1
    exact ⟨o', g1⟩
   have hinj : ∀ a b, a < c.objs.length → b < c.objs.length → rn.id a = rn.id b → a = b := by
    intro a b ha hb he
    have hla : a < rn.bl.length := by omega
    have hlb : b < rn.bl.length := by omega
    unfold Ren.id at he
    rw [bU, bU, List.getElem?_eq_getElem hla, List.getElem?_eq_getElem hlb] at he
    simp only at he
    exact sD hdis (i := a) (j := b) (x := rn.bl[a]) (by rw [bU, List.getElem?_eq_getElem hla]) (by rw [bU, List.getElem?_eq_getElem hlb, he])
   have J7 : ∀ id, E.dm id → id < s.h.next := by
    intro id hd
    rcases Nat.lt_or_ge id s.h.next with h | h
    ·exact h
    ·exact absurd hd (r.fresh id h)
   have TL : ∀ i, i < c.objs.length → rn.id i < s.h.next := by
    intro i hi
    obtain ⟨o, h1⟩ := Ig i hi
    exact J7 _ (r.live _ _ h1).1
   have hθr : ∀ i, (E.ren rn).θ i = E.θ (rn.id i) := by
    intro i
    show ((E.θ (rn.id i)).1, (E.θ (rn.id i)).2 + rn.yZ i) = _
    rw [TF, Nat.add_zero]
   have hκr : ∀ i, (E.ren rn).κ i = E.κ (rn.id i) := by
    intro i
    show E.κ (rn.id i) - rn.yZ i = _
    rw [TF, Nat.sub_zero]
   have hm2 : c.objs.length ≤ c2.objs.length := by
    rcases Nat.eq_zero_or_pos c.objs.length with h | h
    ·omega
    ·have := (amO (c.objs.length - 1) (by show c.objs.length - 1 < c.objs.length; omega)).1
     omega
   have hfp : ∀ b, (oU.mk w (E.ren rn).ro c.objs.length (E.ren rn).θ (E.ren rn).κ).fp b → ∃ id o, s.h.get id = some o ∧ (E.θ id).1 = b := by
    rintro b ⟨i, hi, he⟩
    obtain ⟨o, h1⟩ := Ig i hi
    refine ⟨_, o, h1, ?_⟩
    have he' : ((E.ren rn).θ i).1 = b := he
    rw [hθr] at he'
    exact he'
   have akJ : ∀ b, E.ro b → w'.heap[b]? = w.heap[b]? := by
    intro b hbr
    refine hb.blk b (r.A8 b hbr) fun hf => ?_
    obtain ⟨id, o, h1, h2⟩ := hfp b hf
    exact (r.live id o h1).2.2 (by rw [h2]; exact hbr)
   generalize hR : vS (.ap (2 * j + 1) (gW rn.ns)) jJ rn.ns c2 rn.bl { s with pc := pc1 } = R
   have L8 : ∀ i, i < c.objs.length → R.id i = rn.id i := by
    intro i hi
    have hla : i < rn.bl.length := by omega
    rw [← hR]
    unfold vS Ren.id
    simp only [bU, List.getElem?_map, List.getElem?_range (show i < c2.objs.length by omega), Option.map_some, List.getElem?_eq_getElem hla]
   have V3 : ∀ i, i < c2.objs.length → c.objs.length ≤ i → R.id i = s.h.next + (i - c.objs.length) := by
    intro i hi hge
    have hla : rn.bl.length ≤ i := by omega
    rw [← hR]
    unfold vS Ren.id
    simp only [bU, List.getElem?_map, List.getElem?_range hi, Option.map_some, List.getElem?_eq_none hla]
    rw [hbl]
   have awV : ∀ a b, a < c2.objs.length → b < c2.objs.length → R.id a = R.id b → a = b := by
    intro a b ha hb he
    rcases Nat.lt_or_ge a c.objs.length with h1 | h1 <;> rcases Nat.lt_or_ge b c.objs.length with h2 | h2
    ·rw [L8 a h1, L8 b h2] at he
     exact hinj a b h1 h2 he
    ·rw [L8 a h1, V3 b hb h2] at he
     have := TL a h1
     omega
    ·rw [V3 a ha h1, L8 b h2] at he
     have := TL b h2
     omega
    ·rw [V3 a ha h1, V3 b hb h2] at he
     omega
   have hRl : R.ns.length = c2.k := by rw [← hR]; simp [vS]
   have awU : R.sh = [] := by rw [← hR]; rfl
   have X9 : ∀ a, a < c2.k → R.env E.ρ a = E'.ρ a := by
    intro a ha
    unfold Ren.env
    have hn : gG R.ns a = some (match Nat.blt a jJ with | true => (match gG rn.ns a with | some e => e | none => .lit 0) | false => rO (.ap (2 * j + 1) (gW rn.ns)) (a + 1)) := by
     rw [← hR, bU]
     simp [vS, ha]
    rw [hn]
    simp only
    have hy : ys[a + 1]? = some ys[a + 1] := List.getElem?_eq_getElem (by omega)
    rw [b4 a _ hy]
    split
    ·rename_i hb
     have hlt : a < jJ := Nat.lt_of_succ_le (by simpa [Nat.blt] using hb)
     rw [hgat _ _ hys a _ hlt hy]
     unfold low
     rw [List.getD_eq_getElem?_getD, List.getElem?_map, bU]
     cases rn.ns[a]? <;> rfl
    ·exact AZ hrd hy
   have aAj : ∀ id o, c2.st.h.get id = some o → id < c2.objs.length ∧ c2.objs[id]? = some o := by
    intro id o ho
    have : (tK c2.objs 0 .nil).get id = some o := ho
    rw [lT] at this
    split at this
    ·exact ⟨by omega, this⟩
    ·simp [Tr.get] at this
   have J6 : ∀ id o, c2.objs[id]? = some o → c2.st.h.get id = some o := by
    intro id o ho
    show (tK c2.objs 0 .nil).get id = _
    have hlt := (List.getElem?_eq_some_iff.1 ho).1
    rw [lT, if_pos (by omega)]
    exact ho
   have awN : ∀ i, E'.dm i → i < c2.objs.length := by
    intro i hd
    rcases Nat.lt_or_ge i c2.objs.length with h | h
    ·exact h
    ·exact absurd hd (b6.fresh i h)
   obtain ⟨p1, p2, p3, p4⟩ := Dc (r := R) (os := c2.objs) (i := 0) (h := s.h) fun a b _ h2 _ h4 he => awV a b (by omega) (by omega) he
   generalize hH2 : (⟨(lS R c2.objs 0 s.h).m, s.h.next + (c2.objs.length - rn.bl.length), s.h.res⟩ : Hp) = H2
   have awX : ∀ id, H2.get id = (lS R c2.objs 0 s.h).get id := by intro id; rw [← hH2]; rfl
   have akO : H2.next = s.h.next + (c2.objs.length - c.objs.length) := by rw [← hH2, hbl]
   have awW : H2.res = s.h.res := by rw [← hH2]
   have hnew : ∀ k o, c2.objs[k]? = some o → H2.get (R.id k) = some (R.ob o) := by
    intro k o hk
    have := p1 k o hk
    rw [Nat.zero_add] at this
    rw [awX]; exact this
   have hold : ∀ id, (∀ k, k < c2.objs.length → R.id k ≠ id) → H2.get id = s.h.get id := by
    intro id hid
    rw [awX]
    exact p2 id fun k hk he => by rw [Nat.zero_add] at he; exact hid k hk he
   have hcase : ∀ id o, H2.get id = some o → (∃ k o', id = R.id k ∧ c2.objs[k]? = some o' ∧ o = R.ob o') ∨ (s.h.get id = some o ∧ ∀ k, k < c2.objs.length → R.id k ≠ id) := by
    intro id o hg
    by_cases hex : ∃ k, k < c2.objs.length ∧ R.id k = id
    ·obtain ⟨k, hk, rfl⟩ := hex
     have hx := List.getElem?_eq_getElem hk
     have := hnew k _ hx
     rw [hg] at this
     simp only [Option.some.injEq] at this
     exact .inl ⟨k, _, rfl, hx, this⟩
    ·have hne : ∀ k, k < c2.objs.length → R.id k ≠ id := fun k hk he => hex ⟨k, hk, he⟩
     rw [hold id hne] at hg
     exact .inr ⟨hg, hne⟩
   let E2 : En := { ρ := E.ρ, θ := fun id => if id < s.h.next then E.θ id else E'.θ (id - s.h.next + c.objs.length), κ := fun id => if id < s.h.next then E.κ id else E'.κ (id - s.h.next + c.objs.length), dm := fun id => E.dm id ∨ (s.h.next ≤ id ∧ id < s.h.next + (c2.objs.length - c.objs.length)), ro := E'.ro }
   have hθo : ∀ id, id < s.h.next → E2.θ id = E.θ id := fun id h => by show (if id < s.h.next then _ else _) = _; rw [if_pos h]
   have hκo : ∀ id, id < s.h.next → E2.κ id = E.κ id := fun id h => by show (if id < s.h.next then _ else _) = _; rw [if_pos h]
   have hθn : ∀ k, k < c2.objs.length → E2.θ (R.id k) = E'.θ k := by
    intro k hk
    rcases Nat.lt_or_ge k c.objs.length with h | h
    ·rw [L8 k h, hθo _ (TL k h), ← hθr, (amO k h).2.2.1]
    ·rw [V3 k hk h]
     show (if s.h.next + (k - c.objs.length) < s.h.next then _ else _) = _
     rw [if_neg (by omega), Nat.add_sub_cancel_left, Nat.sub_add_cancel h]
   have hκn : ∀ k, k < c2.objs.length → E2.κ (R.id k) = E'.κ k := by
    intro k hk
    rcases Nat.lt_or_ge k c.objs.length with h | h
    ·rw [L8 k h, hκo _ (TL k h), ← hκr, (amO k h).2.2.2]
    ·rw [V3 k hk h]
     show (if s.h.next + (k - c.objs.length) < s.h.next then _ else _) = _
     rw [if_neg (by omega), Nat.add_sub_cancel_left, Nat.sub_add_cancel h]
   have awP : ∀ k, k < c2.objs.length → E2.dm (R.id k) := by
    intro k hk
    rcases Nat.lt_or_ge k c.objs.length with h | h
    ·obtain ⟨o, h1⟩ := Ig k h
     rw [L8 k h]
     exact .inl (r.live _ _ h1).1
    ·rw [V3 k hk h]
     exact .inr ⟨by omega, by omega⟩
   have hkeep : Keeps E w.heap E2 w'.heap := ⟨rfl, fun _ h => .inl h, fun id h => hθo id (J7 id h), fun id h => hκo id (J7 id h), b7, akJ⟩
   have aeC : ∀ i, E'.dm i → E2.dm (R.id i) ∧ E2.θ (R.id i) = E'.θ i ∧ E2.κ (R.id i) = E'.κ i := by
    intro i hd
    have hi := awN i hd
    exact ⟨awP i hi, hθn i hi, hκn i hi⟩
   unfold Ai at k1
   simp only [Bool.and_eq_true] at k1
   obtain ⟨⟨ks, ko⟩, _⟩ := k1
   have st2 : Stp E s.h w E2 H2 w' := by
    refine ⟨rfl, fun _ h => .inl h, fun id h => hθo id (J7 id h), fun id h => hκo id (J7 id h), b7, fun b hbr => (b8 b hbr).imp id .inr, by rw [akO]; omega, by rw [awW]; exact .inr rfl, fun id h => ?_, hb.os, hb.tape, hb.output, hb.size, fun b aqW hn => hb.blk b aqW fun hf => ?_, fun id o hg hlt => ?_⟩
    ·rcases h with h | h
     ·exact .inl h
     ·exact .inr (.inl ⟨h.1, by rw [akO]; exact h.2⟩)
    ·obtain ⟨id, o, h1, h2⟩ := hfp b hf
     exact hn id o h1 h2
    ·rcases hcase id o hg with ⟨k, o', rfl, hk, _⟩ | ⟨h1, _⟩
     ·have hkl := (List.getElem?_eq_some_iff.1 hk).1
      rcases Nat.lt_or_ge k c.objs.length with h | h
      ·obtain ⟨o2, h2⟩ := Ig k h
       exact ⟨_, o2, h2, by rw [L8 k h, hθo _ (TL k h)]⟩
      ·rw [hθn k hkl] at hlt
       have hh : w.heap.size ≤ (E'.θ k).1 := b9 k o' (J6 k o' hk) h
       omega
     ·exact ⟨id, o, h1, (by rw [hθo id (J7 id (r.live _ _ h1).1)])⟩
   have r2 : aX E2 H2 w' := by
    refine ⟨fun id hid => ?_, fun q hq => ?_, fun id o hg => ?_, fun i1 i2 o1 o2 h1 h2 he => ?_, b6.A8, Glob.keep r.glob b7 hkeep.Js⟩
    ·rw [akO] at hid
     rintro (h | h)
     ·exact r.fresh id (by omega) h
     ·omega
    ·rw [awW] at hq
     obtain ⟨g1, g2⟩ := r.res q hq
     refine ⟨by rw [akO]; omega, ?_⟩
     rintro (h | h)
     ·exact g2 h
     ·omega
    ·rcases hcase id o hg with ⟨k, o', rfl, hk, rfl⟩ | ⟨h2, hne⟩
     ·have hkl := (List.getElem?_eq_some_iff.1 hk).1
      obtain ⟨g1, g2, g3⟩ := b6.live k o' (J6 k o' hk)
      refine ⟨awP k hkl, ?_, by rw [hθn k hkl]; exact g3⟩
      have ho3 := OR.low (K := c2.k) (E := E') (E' := { E' with ρ := R.env E.ρ }) (fun a ha => X9 a ha) rfl rfl rfl rfl (zM ko hk) g2
      exact OR.back (Eo := { E' with ρ := R.env E.ρ }) (E2 := E2) (r := R) (by rw [hRl]; exact k3) awU rfl (fun i hd => aeC i hd) rfl (id := k) g1 ho3
     ·obtain ⟨g1, g2, g3⟩ := r.live id o h2
      have h1 := J7 id g1
      refine ⟨.inl g1, g2.keep hkeep g1 (hb.blk _ (iV r h2) ?_), ?_⟩
      ·rintro ⟨i, hi, he⟩
       obtain ⟨o', h3⟩ := Ig i hi
       have he' : ((E.ren rn).θ i).1 = (E.θ id).1 := he
       rw [hθr] at he'
       have := r.inj _ id o' o h3 h2 he'
       have hi' : i < c.objs.length := hi
       exact hne i (by omega) (by rw [L8 i hi']; exact this)
      ·rw [hθo id h1]
       intro hr
       rcases b8 _ hr with hr | hr
       ·exact g3 hr
       ·have hlt : (E.θ id).1 < w.heap.size := iV r h2
        have hge : w.heap.size ≤ (E.θ id).1 := hr
        omega
    ·have mix : ∀ (k : Nat) (o' : dP) (id : Nat) (o : dP), c2.objs[k]? = some o' → s.h.get id = some o → (∀ k, k < c2.objs.length → R.id k ≠ id) → (E'.θ k).1 = (E.θ id).1 → False := by
      intro k o' id o hk h2 hne he
      have hkl := (List.getElem?_eq_some_iff.1 hk).1
      rcases Nat.lt_or_ge k c.objs.length with h | h
      ·obtain ⟨o3, h3⟩ := Ig k h
       have hb3 : E'.θ k = (E.ren rn).θ k := (amO k h).2.2.1
       rw [hb3, hθr] at he
       have := r.inj _ id o3 o h3 h2 he
       exact hne k hkl (by rw [L8 k h]; exact this)
      ·have h3 := iV r h2
       have h4 : w.heap.size ≤ (E'.θ k).1 := b9 k o' (J6 k o' hk) h
       omega
     rcases hcase i1 o1 h1 with ⟨m1, y1, rfl, z1, _⟩ | ⟨x2, x3⟩
     ·have hm1 := (List.getElem?_eq_some_iff.1 z1).1
      rcases hcase i2 o2 h2 with ⟨m2, y2, rfl, z2, _⟩ | ⟨x4, x5⟩
      ·have hm2 := (List.getElem?_eq_some_iff.1 z2).1
       rw [hθn m1 hm1, hθn m2 hm2] at he
       have := b6.inj _ _ _ _ (J6 m1 y1 z1) (J6 m2 y2 z2) he
       rw [this]
      ·rw [hθn m1 hm1, hθo _ (J7 _ (r.live _ _ x4).1)] at he
       exact (mix m1 y1 i2 o2 z1 x4 x5 he).elim
     ·rcases hcase i2 o2 h2 with ⟨m2, y2, rfl, z2, _⟩ | ⟨x4, x5⟩
      ·have hm2 := (List.getElem?_eq_some_iff.1 z2).1
       rw [hθn m2 hm2, hθo _ (J7 _ (r.live _ _ x2).1)] at he
       exact (mix m2 y2 i1 o1 z2 x2 x3 he.symm).elim
      ·rw [hθo _ (J7 _ (r.live _ _ x2).1), hθo _ (J7 _ (r.live _ _ x4).1)] at he
       exact r.inj _ _ _ _ x2 x4 he
   refine ⟨E2, st2, r2, ?_⟩
   have hvs : bD E' w'.heap (c2.slots.map fun p => p.2) us := by
    refine bD.of (by rw [b5]; simp) fun k x hk => ?_
    have := DK (tr := .nil) k2 k x hk
    rw [Nat.zero_add] at this
    obtain ⟨u, h1, h2⟩ := b6.sr k x this
    exact ⟨u, by simpa using h1, h2⟩
   have awM : nR c2.k (c2.slots.map fun p => p.2) = true := by
    have : ∀ {l : List (Nat × AV)}, wB c2.k l = true → nR c2.k (l.map fun p => p.2) = true := by
     intro l
     induction l with
     | nil => intro _; rfl
     | cons p l ih =>
       intro h
       simp only [wB, Bool.and_eq_true] at h
       simp only [List.map_cons, nR, Bool.and_eq_true]
       exact ⟨h.1, ih h.2⟩
    exact this ks
   have aAb := bD.low (K := c2.k) (E := E') (E' := { E' with ρ := R.env E.ρ }) (fun a ha => X9 a ha) rfl rfl rfl rfl _ _ awM hvs
   have aAa := bD.back (Eo := { E' with ρ := R.env E.ρ }) (E2 := E2) (r := R) (by rw [hRl]; exact k3) awU rfl (fun i hd => aeC i hd) rfl _ _ aAb
   exact Iz aAa
  ·simp [T.leaf] at q1
 ·simp [T.leaf] at hl
end
end Go.As
end
section
namespace Go.As
open Go.RowKit
structure UO where
 ok : (Nat → Prop) → Array Obj → Prop
 keep : ∀ {ro ro' : Nat → Prop} {h h' : Array Obj}, ok ro h → (∀ b, ro b → ro' b) → (∀ b, ro b → h'[b]? = h[b]?) → ok ro' h'
@[reducible] def UO.glob (G : UO) (F : Fz) : Glob where
 ok ρ ro h := G.ok ro h ∧ Good F ρ
 keep h1 h2 h3 := ⟨G.keep h1.1 h2 h3, h1.2⟩
 ren h1 h2 := ⟨h1.1, h1.2.ren h2⟩
structure FB where
 g : Nat
 LK : List RK
 nC : List RK
 tabs : Il
 pos : Option (List Nat × CS)
 pat : Option (CS × List dP × Nat) := none
 uN : List CS := []
 gh : List (Nat × Nat) := []
 wh : List Nat := []
 jJ : Nat := 0
 tst : List (Nat × Nat) := []
def FB.dU (e : FB) : List dP := match e.pat with
 | none => []
 | some (_, o, _) => o
def FB.ko (e : FB) : Nat := match e.pat with
 | none => 0
 | some (_, _, k) => k
structure Sys where
 P : Program
 G : UO
 tt : TT
 ft : Nat → Option Func
 chk : Nat → Nat → List Oper → Bool
 draw : dM → Nat → Nat → List Oper → St → T St
 Ci : Nat → Option (List AV → St → T (AV × St))
 lf : Nat
 depth : Nat
 nums : Nat → List Nat
 ents : Nat → Option FB
noncomputable section
def ajX (c : CS) (args : List AV) (s : St) : Bool := match quick (aW args 0 .nil) c.slots with
 | false => false
 | true => Nat.beq args.length c.slots.length && c.fits prv ⟨aW args 0 .nil, s.h, s.pc⟩ (c.guess ⟨aW args 0 .nil, s.h, s.pc⟩) && NJ (c.guess ⟨aW args 0 .nil, s.h, s.pc⟩)
def unset (s : St) : List Nat → Bool
 | [] => true
 | t :: l => match s.slots.get t with
   | some _ => false
   | none => unset s l
def awY (s : St) : List (Nat × Nat) → Bool
 | [] => true
 | (t, _) :: l => match s.slots.get t with
   | some _ => awY s l
   | none => false
def acS (c : CS) (gh : List (Nat × Nat)) (wh : List Nat) (args : List AV) (s : St) : Bool := match quick (aW args 0 .nil) c.slots with
 | false => false
 | true => unset s wh && awY s gh && Nat.beq args.length c.slots.length && c.fits prv ⟨aW args 0 .nil, s.h, s.pc⟩ (ghR s gh (c.guess ⟨aW args 0 .nil, s.h, s.pc⟩)) && NJ (ghR s gh (c.guess ⟨aW args 0 .nil, s.h, s.pc⟩))
def Sys.J5 (S : Sys) : List Nat → List AV → St → T (AV × St)
 | [], _, _ => .fail
 | j :: l, args, s => match S.ents j with
   | none => .fail
   | some e => match e.pat with
     | none => aeA j e.LK e.nC args s
     | some (c, dU, ko) => match e.uN with
       | [] => match ajX c args s with
         | true => adY j c e.nC dU ko args s
         | false => S.J5 l args s
       | r :: rs => match acS c e.gh e.wh args s with
         | true => adW j e.jJ c e.gh (r :: rs) args s
         | false => S.J5 l args s
def Sys.hook (S : Sys) (g : Nat) : Option (List AV → St → T (AV × St)) := match S.nums g with
 | [] => S.Ci g
 | j :: l => some (match S.Ci g with
   | none => S.J5 (j :: l)
   | some h => orElse h (S.J5 (j :: l)))
def Sys.call (S : Sys) : dM := Uc S.tt S.ft S.hook S.draw S.lf S.depth
def Sys.cfg (S : Sys) (e : FB) (fn : Func) : GL := ⟨S.tt, S.call, S.draw S.call e.g, S.lf, fn.results.toList, e.nC, e.dU, e.ko, e.uN, e.jJ⟩
def qC (S : Sys) (e : FB) : T Lf := match S.ft e.g with
 | none => .fail
 | some fn => match fn.body with
   | none => .fail
   | some body => match e.pos with
     | none => match e.pat with
       | none => BQ (S.cfg e fn) e.tabs 1000 [] body [] ⟨aW (tN e.LK .aA 0) 0 .nil, Hp.zero, []⟩
       | some (c, _, _) => BQ (S.cfg e fn) e.tabs 1000 [] body [] c.st
     | some (p, c) => match rV body p with
       | some (b, fr) => match b with
         | .loop b => U3 (fun s => BQ (S.cfg e fn) e.tabs 1000 (0 :: p) b (.loop p b :: fr) s) e.tst c.st
         | _ => .fail
       | none => .fail
def Sys.tree (S : Sys) (j : Nat) : T Lf := match S.ents j with
 | none => .fail
 | some e => qC S e
end
def aiI (S : Sys) (e : FB) (body : Code) : Prop := ∀ p l, e.tabs p = some l → (∃ b fr, rV body p = some (.loop b, fr)) ∧ ∀ j c, (j, c) ∈ l → S.ents j = some { e with pos := some (p, c) } ∧ Ai c.k c = true ∧ c.k ≤ 900 ∧ e.jJ ≤ c.k
structure LP (S : Sys) : Prop where
 tt : dW S.P S.tt
 ft : ZY S.P S.chk S.ft
 draw : ∀ (I : Glob) call, @jE I S.P call → ∀ g, @yR I S.P (S.chk g) (S.draw call g)
 Ci : ∀ (I : Glob), (∀ ρ ro h, I.ok ρ ro h → S.G.ok ro h) → ∀ g h, S.Ci g = some h → @mY I S.P g h
 run : ∀ g j, j ∈ S.nums g → ∀ (args : Array Value) (w : World), (callFunc g args).run S.P w = .ok (.enter g args) w
 num : ∀ g j e, j ∈ S.nums g → S.ents j = some e → e.g = g ∧ e.pos = none ∧ (match e.pat with
  | none => (rQ e.LK).length ≤ 900 ∧ e.uN = []
  | some (c, dU, _) => Ai c.k c = true ∧ c.k ≤ 900 ∧ dU.length = c.objs.length ∧ (e.uN ≠ [] → Nh e.uN = true))
 outs : ∀ j e, S.ents j = some e → oM e.ko e.dU = true ∧ e.ko ≤ 900 ∧ e.jJ ≤ 900
 ents : ∀ j e, S.ents j = some e → ∀ fn body, S.ft e.g = some fn → fn.body = some body → aiI S e body
section
variable {S : Sys}
def aoT (S : Sys) (n : Nat) : Prop := ∀ g j e, j ∈ S.nums g → S.ents j = some e → match e.pat with
 | none => ahR S.P S.G.ok g e.LK e.nC (dX S.tree n j)
 | some (c, dU, ko) => match e.uN with
   | [] => aoS S.P S.G.ok g c e.nC dU ko (dX S.tree n j)
   | r :: rs => aoR S.P S.G.ok g c (r :: rs) (dX S.tree n j)
def LoopN (S : Sys) (n : Nat) : Prop := ∀ j e p c, S.ents j = some e → e.pos = some (p, c) → Ai c.k c = true → c.k ≤ 900 → ∀ fn body b fr, S.ft e.g = some fn → fn.body = some body → rV body p = some (.loop b, fr) →
 ∀ (B : oU) (E : En) (a : Act) (w : World) (xs ys : List Int), e.dU.length = B.m → dX S.tree n j xs = some ys → (∀ i x, xs[i]? = some x → E.ρ i = x) → xs.length = c.k → rD B E c.st a w → S.G.ok E.ro w.heap → fn.ntmps ≤ a.tmps.size → a.defers = [] →
  LV S.P b (KE S.P (bodyPost S.P fn (QX B e.nC e.dU e.ko e.uN ys)) fr) a w
def LfG (jJ : Nat) (tabs : Il) : Lf → Prop
 | .out es => ∀ a e, a < jJ → es[a + 1]? = some e → e = .aA a
 | .jump j es => (∃ p l c, tabs p = some l ∧ (j, c) ∈ l ∧ es.length = c.k) ∧ ∀ a e, a < jJ → es[a]? = some e → e = .aA a
theorem Oa : ∀ {n i : Nat} {ns : List SE} {a : Nat} {e : SE}, a < n → (Hf n i ns)[a]? = some e → e = .aA (i + a)
 | 0, _, _, a, _, h, _ => by omega
 | n + 1, i, [], a, e, _, h => by simp [Hf] at h
 | n + 1, i, x :: ns, 0, e, _, h => by simp [Hf] at h; rw [← h]; rfl
 | n + 1, i, x :: ns, a + 1, e, ha, h => by
   simp only [Hf, List.getElem?_cons_succ] at h
   rw [Oa (n := n) (by omega) h]
   congr 1; omega
theorem TQ {jJ : Nat} {r : Ren} {a : Nat} {e : SE} (ha : a < jJ) (h : (vN jJ r).ns[a]? = some e) : e = .aA a := by
 unfold vN at h
 split at h
 ·omega
 ·have := Oa ha h
  rw [this, Nat.zero_add]
theorem aeY {n m jJ : Nat} {s : St} {ρ : Nat → Int} {lf : Lf} {tabs : Il} {l : List CS} {k : Nat} (h : (Ui n m jJ s l k).leaf ρ = some lf) : LfG jJ tabs lf := by
 obtain ⟨i, c, _, _, _, rfl, _⟩ := I7 h
 intro a e ha he
 rw [List.getElem?_cons_succ] at he
 exact TQ ha he
theorem xP {m jJ : Nat} {s : St} {ρ : Nat → Int} {lf : Lf} {tabs : Il} {p : List Nat} {l0 : List (Nat × CS)} (hp : tabs p = some l0) : ∀ {l : List (Nat × CS)}, (∀ x ∈ l, x ∈ l0) → (vK m jJ s l).leaf ρ = some lf → LfG jJ tabs lf
 | [], _, h => by simp [vK, T.leaf] at h
 | (j, c) :: l, hsub, h => by
   simp only [vK] at h
   split at h
   ·exact xP hp (fun x hx => hsub x (by simp [hx])) h
   ·split at h
    ·have := aF h
     subst this
     exact ⟨⟨p, l0, c, hp, hsub _ (by simp), by rw [Aa, yA]⟩, fun a e ha he => TQ ha he⟩
    ·exact xP hp (fun x hx => hsub x (by simp [hx])) h
theorem vC {α : Type} {k : St → T α} {ρ : Nat → Int} {x : α} : ∀ {ts : List Nat} {s : St}, (Ap k ts s).leaf ρ = some x → ∃ s', (k s').leaf ρ = some x
 | [], s, h => ⟨s, h⟩
 | i :: ts, s, h => by
   simp only [Ap] at h
   split at h
   ·obtain ⟨pc, b, h1⟩ := oL h
    exact vC h1
   ·exact vC h
theorem FI {α : Type} {k : St → T α} {ρ : Nat → Int} {x : α} : ∀ {ts : List (Nat × Nat)} {s : St}, (U3 k ts s).leaf ρ = some x → ∃ s', (k s').leaf ρ = some x
 | [], s, h => ⟨s, h⟩
 | (t, g) :: ts, s, h => by
   simp only [U3] at h
   split at h
   ·obtain ⟨pc, b, h1⟩ := oL h
    exact FI h1
   ·exact FI h
theorem aeZ {g : GL} {tabs : Il} {e : Ex} {s : St} {ρ : Nat → Int} {lf : Lf} (hr : g.uN ≠ []) (h : (afA g e s).leaf ρ = some lf) : LfG g.jJ tabs lf := by
 unfold afA at h
 split at h
 ·simp [T.leaf] at h
 ·split at h
  ·simp [T.leaf] at h
  ·split at h
   ·rename_i h0; exact absurd h0 hr
   ·exact aeY h
theorem Yb {g : GL} {tabs : Il} {ρ : Nat → Int} (hr : g.uN ≠ []) : ∀ n : Nat,
 (∀ p c fr s lf, (BQ g tabs n p c fr s).leaf ρ = some lf → LfG g.jJ tabs lf) ∧
 (∀ fr e s lf, (yB g tabs n fr e s).leaf ρ = some lf → LfG g.jJ tabs lf)
 | 0 => ⟨fun _ _ _ _ _ h => by simp [BQ, T.leaf] at h, fun _ _ _ _ h => by simp [yB, T.leaf] at h⟩
 | n + 1 => by
   obtain ⟨ih1, ih2⟩ := Yb hr n
   have lfc : ∀ (c : Code) fr s lf, ((g.ev c s).bind fun (e, s') => yB g tabs n fr e s').leaf ρ = some lf → LfG g.jJ tabs lf := by
    intro c fr s lf h
    obtain ⟨⟨e, s'⟩, _, h2⟩ := T.fB h
    exact ih2 _ _ _ _ h2
   constructor
   ·intro p c fr s lf h
    unfold BQ at h
    split at h
    ·rename_i l hl
     obtain ⟨s', h1⟩ := vC h
     exact xP hl (fun _ h => h) h1
    ·split at h
     ·exact ih1 _ _ _ _ _ h
     ·exact ih1 _ _ _ _ _ h
     ·exact ih1 _ _ _ _ _ h
     ·split at h
      ·obtain ⟨pc, b, h1⟩ := oL h
       split at h1
       ·exact ih1 _ _ _ _ _ h1
       ·exact ih1 _ _ _ _ _ h1
      ·simp [T.leaf] at h
     ·exact lfc _ _ _ _ h
   ·intro fr e s lf h
    unfold yB at h
    split at h
    ·exact aeZ hr h
    ·split at h
     ·exact ih1 _ _ _ _ _ h
     ·exact ih2 _ _ _ _ h
    ·split at h
     ·split at h
      ·exact ih2 _ _ _ _ h
      ·exact ih2 _ _ _ _ h
     ·exact ih2 _ _ _ _ h
    ·split at h
     ·split at h
      ·rename_i l hl
       obtain ⟨s', h1⟩ := vC h
       exact xP hl (fun _ h => h) h1
      ·simp [T.leaf] at h
     ·exact ih2 _ _ _ _ h
    ·exact ih2 _ _ _ _ h
theorem Hr {e : FB} {ρ : Nat → Int} {lf : Lf} (hr : e.uN ≠ []) (h : (qC S e).leaf ρ = some lf) : ∃ fn body, S.ft e.g = some fn ∧ fn.body = some body ∧ LfG e.jJ e.tabs lf := by
 unfold qC at h
 split at h
 ·simp [T.leaf] at h
 ·rename_i fn hfn
  split at h
  ·simp [T.leaf] at h
  ·rename_i body hb
   refine ⟨fn, body, hfn, hb, ?_⟩
   have key : ∀ n p c fr s, (BQ (S.cfg e fn) e.tabs n p c fr s).leaf ρ = some lf → LfG e.jJ e.tabs lf := fun n p c fr s h => (Yb (g := S.cfg e fn) hr n).1 _ _ _ _ _ h
   split at h
   ·split at h
    ·exact key _ _ _ _ _ h
    ·exact key _ _ _ _ _ h
   ·split at h
    ·split at h
     ·obtain ⟨s', h1⟩ := FI h
      exact key _ _ _ _ _ h1
     ·simp [T.leaf] at h
    ·simp [T.leaf] at h
theorem XA (hs : LP S) : ∀ (n j : Nat) (e : FB) (xs ys : List Int), S.ents j = some e → e.uN ≠ [] → dX S.tree n j xs = some ys → ∀ a y, a < e.jJ → ys[a + 1]? = some y → y = low xs a
 | 0, _, _, _, _, _, _, h => by simp [dX] at h
 | n + 1, j, e, xs, ys, he, hr, h => by
   intro a y ha hy
   obtain ⟨_, _, hg⟩ := hs.outs j e he
   have N7 : S.tree j = qC S e := by unfold Sys.tree; rw [he]
   simp only [dX, N7] at h
   split at h
   ·simp at h
   ·rename_i es hl
    obtain ⟨_, _, _, _, hlf⟩ := Hr hr hl
    simp only [Option.some.injEq] at h
    subst h
    rw [List.getElem?_map, Option.map_eq_some_iff] at hy
    obtain ⟨x, hx, rfl⟩ := hy
    rw [hlf a x ha hx]
    show dF _ _ a = _
    rw [uD (by omega)]
   ·rename_i j' es hl
    obtain ⟨fn, body, hfn, hb, ⟨p, l, c, hp, hc, hlen⟩, hlf⟩ := Hr hr hl
    obtain ⟨_, hh⟩ := hs.ents j e he fn body hfn hb p l hp
    obtain ⟨q1, _, _, q4⟩ := hh j' c hc
    have := XA hs n j' _ _ ys q1 hr h a y ha hy
    rw [this]
    have hal : a < es.length := by omega
    have hx := List.getElem?_eq_getElem hal
    unfold low
    rw [List.getD_eq_getElem?_getD, List.getElem?_map, hx]
    show (es[a]).den _ = _
    rw [hlf a _ ha hx]
    show dF _ _ a = _
    rw [uD (by omega)]
theorem amM (hs : LP S) {n : Nat} (h : aoT S n) : @jE (S.G.glob (dX S.tree n)) S.P S.call := by
 letI I := S.G.glob (dX S.tree n)
 have a1 : ∀ ρ ro h, I.ok ρ ro h → S.G.ok ro h := fun _ _ _ h => h.1
 have a2 : ∀ ρ ro h, I.ok ρ ro h → Good (dX S.tree n) ρ := fun _ _ _ h => h.2
 refine IX hs.tt hs.ft (hook := S.hook) ?_ (fun call hc g => hs.draw I call hc g) S.lf S.depth
 have hL : ∀ g l, (∀ j ∈ l, j ∈ S.nums g) → @mY I S.P g (S.J5 l) := by
  intro g l
  induction l with
  | nil =>
    intro _ aAX s E w vals v s' r hv hp hl
    simp [Sys.J5, T.leaf] at hl
  | cons j l ih =>
    intro hsub aAX s E w vals v s' r hv hp hl
    have hj := hsub j (by simp)
    simp only [Sys.J5] at hl
    split at hl
    ·simp [T.leaf] at hl
    ·rename_i e he
     have hspec := h g j e hj he
     obtain ⟨_, _, hnum⟩ := hs.num g j e hj he
     obtain ⟨ho1, ho2, _⟩ := hs.outs j e he
     cases hpat : e.pat with
     | none =>
       rw [hpat] at hl hspec
       exact @adZ S.P I S.G.ok a1 (dX S.tree n) a2 g j e.LK e.nC hspec (hs.run g j hj) aAX s E w vals v s' r hv hp hl
     | some q =>
       obtain ⟨c, dU, ko⟩ := q
       rw [hpat] at hl hspec hnum
       simp only at hl hspec hnum
       unfold FB.dU FB.ko at ho1
       unfold FB.ko at ho2
       rw [hpat] at ho1 ho2
       cases Ie : e.uN with
       | nil =>
         rw [Ie] at hl hspec
         simp only at hl hspec
         split at hl
         ·exact @adX S.P I S.G.ok a1 (dX S.tree n) a2 g j c e.nC dU ko ho1 ho2 hnum.2.2.1 hspec (hs.run g j hj) aAX s E w vals v s' r hv hp hl
         ·exact ih (fun j hj => hsub j (by simp [hj])) aAX s E w vals v s' r hv hp hl
       | cons r0 rs =>
         rw [Ie] at hl hspec
         simp only at hl hspec
         have hrp := hnum.2.2.2 (by rw [Ie]; simp)
         rw [Ie] at hrp
         split at hl
         ·exact @adV S.P I S.G.ok a1 (dX S.tree n) a2 g j c e.gh e.jJ (r0 :: rs) hrp (fun xs ys h => XA hs n j e xs ys he (by rw [Ie]; simp) h) hspec (hs.run g j hj) aAX s E w vals v s' r hv hp hl
         ·exact ih (fun j hj => hsub j (by simp [hj])) aAX s E w vals v s' r hv hp hl
 intro g f hf
 unfold Sys.hook at hf
 split at hf
 ·exact hs.Ci I a1 g f hf
 ·rename_i j l hj
  simp only [Option.some.injEq] at hf
  subst hf
  have h2 := hL g (j :: l) (by rw [hj]; exact fun _ h => h)
  split
  ·exact h2
  ·rename_i h0 hh
   exact ND (hs.Ci I a1 g h0 hh) h2
theorem VU (hs : LP S) {n : Nat} (h : LoopN S n) {j : Nat} {e : FB} (he : S.ents j = some e) {fn : Func} {body : Code} (hfn : S.ft e.g = some fn) (hb : fn.body = some body) (B : oU) (hm : e.dU.length = B.m) (ys : List Int) :
 @ahV (S.G.glob (dX S.tree n)) S.P body fn.ntmps B (bodyPost S.P fn (QX B e.nC e.dU e.ko e.uN ys)) (dX S.tree n) ys e.tabs := by
 intro p l hp
 obtain ⟨⟨b, fr, hl⟩, hh⟩ := hs.ents j e he fn body hfn hb p l hp
 refine ⟨b, fr, hl, fun j' c hc E a w t hg ⟨xs, h1, h2, h3, h4⟩ hN hd => ?_⟩
 obtain ⟨q1, q2, q3, _⟩ := hh j' c hc
 exact h j' { e with pos := some (p, c) } p c q1 rfl q2 q3 fn body b fr hfn hb hl B E a w xs ys hm h4 h1 h2 t hg.1 hN hd
theorem adH {F : Fz} {E : En} {xs : List Int} {k : Nat} (h : ∀ i x, xs[i]? = some x → E.ρ i = x) (hk : xs.length = k) (h9 : k ≤ 900) : ∀ i, i < k → dF F (low xs) i = E.ρ i := by
 intro i hi
 rw [uD (by omega)]
 have hx : xs[i]? = some xs[i] := List.getElem?_eq_getElem (by omega)
 unfold low
 rw [h i _ hx, List.getD_eq_getElem?_getD, hx]
 rfl
theorem PX {tree : Nat → T Lf} {n j : Nat} {xs ys : List Int} (h : dX tree (n + 1) j xs = some ys) : ∃ lf, (tree j).leaf (dF (dX tree n) (low xs)) = some lf ∧ UM (dX tree n) (dF (dX tree n) (low xs)) ys lf := by
 simp only [dX] at h
 split at h
 ·simp at h
 ·rename_i es hl
  simp only [Option.some.injEq] at h
  exact ⟨_, hl, h⟩
 ·rename_i j' es hl
  exact ⟨_, hl, h⟩
theorem QE.spec {w : World} {ro : Nat → Prop} {θ : Nat → Nat × Nat} {κ : Nat → Nat} {nC : List RK} {ys : List Int} {e : Ending} {w' : World} (h : QE ⟨w, ro, 0, θ, κ⟩ nC [] 0 ys e w') :
 ∃ u, e = .returned u ∧ Below w.heap.size w w' ∧ ∃ ro' : Nat → Prop, (∀ b, ro b → ro' b) ∧ (∀ b, ro' b → ro b ∨ w.heap.size ≤ b) ∧ (∀ b, ro' b → b < w'.heap.size) ∧ amV nC ys ro' w'.heap u := by
 obtain ⟨u, q1, q2, ro', q3, q4, q5, _, _, q6⟩ := h
 exact ⟨u, q1, ⟨q2.os, q2.tape, q2.output, q2.size, fun k hk => q2.blk k hk fun ⟨i, hi, _⟩ => absurd hi (by show ¬ i < 0; omega)⟩, ro', q3, q4, q5, q6⟩
theorem Bel.refl {B : oU} : Bel B B.w0 := ⟨rfl, rfl, rfl, Nat.le_refl _, fun _ _ _ => rfl⟩
theorem Fh.grow {E : En} {s : St} {w : World} {vals : List Value} (f : Fh E s { tmps := vals.toArray, defers := [] } w) (n : Nat) : Fh E s { tmps := vals.toArray ++ Array.replicate n undef, defers := [] } w := by
 refine ⟨f.fresh, f.res, f.live, f.inj, f.A8, fun t v ht => ?_, f.pc⟩
 obtain ⟨u, h1, h2⟩ := f.sr t v ht
 refine ⟨u, ?_, h2⟩
 have hlt := (Array.getElem?_eq_some_iff.1 h1).1
 show (vals.toArray ++ Array.replicate n undef)[t]? = some u
 rw [Array.getElem?_append_left hlt]
 exact h1
theorem abX (hs : LP S) : ∀ n : Nat, aoT S n ∧ LoopN S n
 | 0 => ⟨fun g j e _ _ => by
  cases e.pat with
  | none => exact fun xs ys h => by simp [dX] at h
  | some q =>
    obtain ⟨c, dU, ko⟩ := q
    cases e.uN with
    | nil => exact fun xs ys h => by simp [dX] at h
    | cons r rs => exact fun xs ys h => by simp [dX] at h, fun j e p c _ _ _ _ fn body b fr _ _ _ B E a w xs ys _ h => by simp [dX] at h⟩
 | n + 1 => by
   obtain ⟨ih1, ih2⟩ := abX hs n
   letI I := S.G.glob (dX S.tree n)
   have hcall := amM hs ih1
   have agZ : ∀ (e : FB) (fn : Func), Xe S.P (S.cfg e fn) (S.chk e.g) := fun e fn => ⟨hs.tt, hcall, hs.draw I S.call hcall e.g⟩
   constructor
   ·intro g j e hn he
    obtain ⟨hg, hpos, hnum⟩ := hs.num g j e hn he
    obtain ⟨hlo, hko, _⟩ := hs.outs j e he
    have N7 : S.tree j = qC S e := by unfold Sys.tree; rw [he]
    cases hpat : e.pat with
    | none =>
      rw [hpat] at hnum
      simp only at hnum ⊢
      intro xs ys hx ro w vals fl hro hgb sh hc
      obtain ⟨lf, h1, h2⟩ := PX hx
      rw [N7] at h1
      unfold qC at h1
      cases hfn : S.ft e.g with
      | none => rw [hfn] at h1; simp [T.leaf] at h1
      | some fn =>
        rw [hfn] at h1
        cases hb : fn.body with
        | none => simp only [hb] at h1; simp [T.leaf] at h1
        | some body =>
          simp only [hb, hpos, hpat] at h1
          obtain ⟨hf, _, hd⟩ := hs.ft e.g fn hfn
          rw [hg] at hf
          have hdst := hd body hb
          have hlx := hc.length.1
          have hob : e.dU = [] := by unfold FB.dU; rw [hpat]
          have hk0 : e.ko = 0 := by unfold FB.ko; rw [hpat]
          have hvr : bD (En.zero (dF (dX S.tree n) (low xs)) ro) w.heap (tN e.LK .aA 0) vals := by
           refine wO sh hc fun k x hk => ?_
           have hkl := (List.getElem?_eq_some_iff.1 hk).1
           rw [Nat.zero_add]
           show dF _ _ k = x
           rw [uD (by omega)]
           unfold low
           rw [List.getD_eq_getElem?_getD, hk]
           rfl
          have hgl : I.ok (dF (dX S.tree n) (low xs)) ro w.heap := ⟨hgb, mJ _ _⟩
          let B : oU := ⟨w, ro, 0, fun _ => (0, 0), fun _ => 0⟩
          have t0 : rD B (En.zero (dF (dX S.tree n) (low xs)) ro) ⟨aW (tN e.LK .aA 0) 0 .nil, Hp.zero, []⟩ { tmps := vals.toArray ++ Array.replicate (fn.ntmps - vals.toArray.size) undef, defers := [] } w := by
           have fit : Fit (En.zero (dF (dX S.tree n) (low xs)) ro) ⟨aW (tN e.LK .aA 0) 0 .nil, Hp.zero, []⟩ { tmps := vals.toArray ++ Array.replicate (fn.ntmps - vals.toArray.size) undef, defers := [] } w :=
            ⟨RP _ ro w hro hgl, Ej hvr _, by intro c b h; simp at h⟩
           exact ⟨fit.x, fun _ h => h, fun _ h => .inl h, Bel.refl, fun id o h => by simp [Hp.zero, Hp.get, Tr.get] at h, fun i hi => absurd hi (by show ¬ i < 0; omega)⟩
          refine Calls.mono (calls_of_wp (R := QX B e.nC e.dU e.ko e.uN ys) hf hb ?_) fun e' w' hq => QE.spec (w := w) (ro := ro) (θ := fun _ => (0, 0)) (κ := fun _ => 0) (by rw [hob, hk0, hnum.2] at hq; exact hq)
          exact (P7 (B := B) (agZ e fn) hdst rfl (by show e.dU.length = 0; rw [hob]; rfl) hlo hko (VU hs ih2 he hfn hb B (by show e.dU.length = 0; rw [hob]; rfl) ys) 1000).1 [] body [] _ lf _ _ w rfl h1 h2 t0 hgl (by simp; omega) rfl
    | some q =>
      obtain ⟨c, dU, ko⟩ := q
      rw [hpat] at hnum
      simp only at hnum ⊢
      obtain ⟨awR, hc9, hom, hrp⟩ := hnum
      have main : ∀ xs ys, dX S.tree (n + 1) j xs = some ys → ∀ (E : En) (w : World) (vals : List Value), (∀ i x, xs[i]? = some x → E.ρ i = x) → xs.length = c.k → Fh E c.st { tmps := vals.toArray, defers := [] } w → S.G.ok E.ro w.heap →
       Calls S.P g vals.toArray w (QX ⟨w, E.ro, c.objs.length, E.θ, E.κ⟩ e.nC dU ko e.uN ys) := ?_
      ·cases Ie : e.uN with
       | nil =>
         simp only
         intro xs ys hx E w vals hxs hlen fx hgb
         have := main xs ys hx E w vals hxs hlen fx hgb
         rw [Ie] at this
         exact this
       | cons r0 rs =>
         simp only
         intro xs ys hx E w vals hxs hlen fx hgb
         have := main xs ys hx E w vals hxs hlen fx hgb
         rw [Ie] at this
         exact this
      intro xs ys hx E w vals hxs hlen fx hgb
      obtain ⟨lf, h1, h2⟩ := PX hx
      rw [N7] at h1
      unfold qC at h1
      cases hfn : S.ft e.g with
      | none => rw [hfn] at h1; simp [T.leaf] at h1
      | some fn =>
        rw [hfn] at h1
        cases hb : fn.body with
        | none => simp only [hb] at h1; simp [T.leaf] at h1
        | some body =>
          simp only [hb, hpos, hpat] at h1
          obtain ⟨hf, _, hd⟩ := hs.ft e.g fn hfn
          rw [hg] at hf
          have hdst := hd body hb
          have hob : e.dU = dU := by unfold FB.dU; rw [hpat]
          have hk0 : e.ko = ko := by unfold FB.ko; rw [hpat]
          let B : oU := ⟨w, E.ro, c.objs.length, E.θ, E.κ⟩
          have aAi : ∀ id o, c.st.h.get id = some o → id < c.objs.length := by
           intro id o ho
           have : (tK c.objs 0 .nil).get id = some o := ho
           rw [lT] at this
           split at this
           ·omega
           ·simp [Tr.get] at this
          have aAg : ∀ id, id < c.objs.length → ∃ o, c.st.h.get id = some o := by
           intro id hid
           refine ⟨c.objs[id], ?_⟩
           show (tK c.objs 0 .nil).get id = _
           rw [lT, if_pos (by omega)]
           simp
          have t1 : rD B E c.st { tmps := vals.toArray ++ Array.replicate (fn.ntmps - vals.toArray.size) undef, defers := [] } w := by
           refine ⟨fx.grow _, fun _ h => h, fun _ h => .inl h, Bel.refl, fun id o h => .inr ⟨id, aAi id o h, rfl⟩, fun i hi => ?_⟩
           obtain ⟨o, ho⟩ := aAg i hi
           exact ⟨(fx.live i o ho).1, rfl, rfl⟩
          have t0 := t1.low (ρ' := dF (dX S.tree n) (low xs)) awR (adH hxs hlen hc9)
          have hgl : I.ok (dF (dX S.tree n) (low xs)) E.ro w.heap := ⟨hgb, mJ _ _⟩
          have hm : e.dU.length = B.m := by rw [hob]; exact hom
          have hw := (P7 (B := B) (agZ e fn) hdst rfl hm hlo hko (VU hs ih2 he hfn hb B hm ys) 1000).1 [] body [] _ lf { E with ρ := dF (dX S.tree n) (low xs) } _ w rfl h1 h2 t0 hgl (by simp; omega) rfl
          have hw' := calls_of_wp (R := QX B e.nC e.dU e.ko e.uN ys) hf hb hw
          rw [hob, hk0] at hw'
          exact hw'
   ·intro j e p c he hpos hlow h9 fn body b fr hfn hb hl B E a w xs ys hm hx hxs hlen t hgb hN hdf
    obtain ⟨hlo, hko, _⟩ := hs.outs j e he
    obtain ⟨lf, h1, h2⟩ := PX hx
    have N7 : S.tree j = qC S e := by unfold Sys.tree; rw [he]
    rw [N7] at h1
    unfold qC at h1
    simp only [hfn, hb, hpos, hl] at h1
    obtain ⟨hf, _, hd⟩ := hs.ft e.g fn hfn
    have hdst := hd body hb
    have t' := t.low (ρ' := dF (dX S.tree n) (low xs)) hlow (adH hxs hlen h9)
    have hgl : I.ok (dF (dX S.tree n) (low xs)) E.ro w.heap := ⟨hgb, mJ _ _⟩
    refine VN ?_
    obtain ⟨s2, t2, h1'⟩ := OQ (E := { E with ρ := dF (dX S.tree n) (low xs) }) h1 t'
    exact (P7 (B := B) (agZ e fn) hdst rfl hm hlo hko (VU hs ih2 he hfn hb B hm ys) 1000).1 (0 :: p) b (.loop p b :: fr) s2 lf { E with ρ := dF (dX S.tree n) (low xs) } a w (by simp only [rV, hl]) h1' h2 t2 hgl hN hdf
theorem abW (hs : LP S) {g j : Nat} {e : FB} (hn : j ∈ S.nums g) (he : S.ents j = some e) (hp : e.pat = none) (n : Nat) : ahR S.P S.G.ok g e.LK e.nC (dX S.tree n j) := by
 have := (abX hs n).1 g j e hn he
 rw [hp] at this
 exact this
end
end Go.As
end
section
namespace Go.As
open Go.RowKit
def Hg : List (Nat × Nat) → Nat → Option Nat
 | [], _ => none
 | (t, k) :: l, x => match Nat.beq t x with
   | true => some k
   | false => Hg l x
def SX (l : List (Nat × Nat)) (tt : TT) : TT := fun t => match tt t with
 | some i => some { i with own := Hg l t }
 | none => none
section
variable {P : Program}
theorem ajY {l : List (Nat × Nat)} {tt : TT} (h : dW P tt) : dW P (SX l tt) := by
 intro t i hi
 unfold SX at hi
 split at hi
 ·rename_i j hj
  simp only [Option.some.injEq] at hi
  subst hi
  obtain ⟨h1, h2⟩ := h t j hj
  exact ⟨h1, h2⟩
 ·simp at hi
theorem VQ (l : List (Nat × Nat)) (tt : TT) : kindOf (SX l tt) = kindOf tt := by
 funext op
 cases op
 case convert t u x =>
  simp only [kindOf, SX]
  cases ht : tt t with
  | none => rfl
  | some i =>
    simp only
    cases i.kind with
    | slice e =>
      simp only
      cases hu : tt u with
      | none => rfl
      | some j => rfl
    | _ => rfl
 all_goals rfl
theorem NV (l : List (Nat × Nat)) (tt : TT) (all : List Oper) (ms : List Nat) : ∀ (os : List Oper) (i n : Nat), items (SX l tt) all ms os i n = items tt all ms os i n
 | [], _, _ => rfl
 | o :: os, i, n => by simp only [items, VQ, NV l tt all ms os]
theorem abZ (l : List (Nat × Nat)) (tt : TT) (all : List Oper) : stat (SX l tt) all = stat tt all := by
 unfold stat
 simp only [NV]
theorem agY (l : List (Nat × Nat)) (tt : TT) (H : Nat → Nat → Option OI) : Rt (SX l tt) H = Rt tt H := by
 funext g id all
 unfold Rt
 simp only [xZ, abZ]
end
end Go.As
end
section
namespace Go.As
open Go.RowKit
structure FE where
 no : Nat
 g : Nat
 LK : List RK
 nC : List RK
 pat : Option (CS × List dP × Nat) := none
 uN : List CS := []
 gh : List (Nat × Nat) := []
 wh : List Nat := []
 jJ : Nat := 0
 tst : List (Nat × Nat) := []
 loops : List (List Nat × CS) := []
def idxs (p : List Nat) : List (List Nat × CS) → Nat → List (Nat × CS)
 | [], _ => []
 | (q, c) :: l, j => match jC q p with
   | true => (j, c) :: idxs p l (j + 1)
   | false => idxs p l (j + 1)
def FE.tabs (f : FE) : Il := fun p => match idxs p f.loops (f.no + 1) with
 | [] => none
 | x :: l => some (x :: l)
def FE.ent (f : FE) : FB := ⟨f.g, f.LK, f.nC, f.tabs, none, f.pat, f.uN, f.gh, f.wh, f.jJ, f.tst⟩
def yU (t : Nat → Option FE) (j : Nat) : Option FB := match t (j / 50) with
 | none => none
 | some f => match j % 50 with
   | 0 => some f.ent
   | i + 1 => match gG f.loops i with
     | some x => some { f.ent with pos := some x }
     | none => none
def adO : Option (Code × List FrE) → Bool
 | some (c, _) => match c with
   | .loop _ => true
   | _ => false
 | none => false
def PS (jJ : Nat) (body : Code) (x : List Nat × CS) : Bool := adO (rV body x.1) && Ai x.2.k x.2 && Nat.ble x.2.k 900 && Nat.ble jJ x.2.k
def avZ {α : Type} : List α → Bool
 | [] => true
 | _ => false
def aeO (ft : Nat → Option Func) (k : Nat) (f : FE) : Bool := Nat.beq f.no (50 * k) && Nat.blt f.loops.length 50 && Nat.ble f.jJ 900 &&
 (match f.pat with
  | none => Nat.ble (rQ f.LK).length 900 && avZ f.uN
  | some (c, dU, ko) => Ai c.k c && Nat.ble c.k 900 && Nat.beq dU.length c.objs.length && Nh f.uN && oM ko dU && Nat.ble ko 900) &&
 (match ft f.g with
  | some fn => match fn.body with
    | some body => f.loops.all (PS f.jJ body)
    | none => false
  | none => false)
def Tc (ft : Nat → Option Func) (t : Nat → Option FE) (g : Nat) (l : List Nat) : Bool :=
 l.all fun j => Nat.beq (j % 50) 0 && match t (j / 50) with
  | some f => Nat.beq f.g g && (match ft g with
    | some fn => fn.body.isSome
    | none => false)
  | none => false
theorem KP : ∀ {a b : List Nat}, jC a b = true → a = b
 | [], [], _ => rfl
 | [], _ :: _, h => by simp [jC] at h
 | _ :: _, [], h => by simp [jC] at h
 | a :: x, b :: y, h => by
   simp only [jC] at h
   split at h
   ·rename_i h1
    rw [Nat.eq_of_beq_eq_true h1, KP h]
   ·simp at h
theorem Ep {p : List Nat} : ∀ {l : List (List Nat × CS)} {n j : Nat} {c : CS}, (j, c) ∈ idxs p l n → ∃ i, l[i]? = some (p, c) ∧ j = n + i
 | [], n, j, c, h => by simp [idxs] at h
 | (q, c0) :: l, n, j, c, h => by
   simp only [idxs] at h
   split at h
   ·rename_i hq
    rcases List.mem_cons.1 h with h | h
    ·simp only [Prod.mk.injEq] at h
     obtain ⟨rfl, rfl⟩ := h
     exact ⟨0, by rw [KP hq]; rfl, rfl⟩
    ·obtain ⟨i, h1, h2⟩ := Ep h
     exact ⟨i + 1, by simpa using h1, by omega⟩
   ·obtain ⟨i, h1, h2⟩ := Ep h
    exact ⟨i + 1, by simpa using h1, by omega⟩
structure ZR where
 P : Program
 G : UO
 tt : TT
 ft : Nat → Option Func
 chk : Nat → Nat → List Oper → Bool
 draw : dM → Nat → Nat → List Oper → St → T St
 Ci : Nat → Option (List AV → St → T (AV × St))
 t : Nat → Option FE
 nums : Nat → List Nat
noncomputable def ZR.sys (S : ZR) : Sys := ⟨S.P, S.G, S.tt, S.ft, S.chk, S.draw, S.Ci, 40, 60, S.nums, yU S.t⟩
theorem KR {t : Nat → Option FE} {j : Nat} {e : FB} (h : yU t j = some e) : ∃ f pos, t (j / 50) = some f ∧ e = { f.ent with pos := pos } := by
 unfold yU at h
 split at h
 ·simp at h
 ·rename_i f hf
  split at h
  ·simp only [Option.some.injEq] at h
   exact ⟨f, none, hf, h.symm⟩
  ·split at h
   ·rename_i x hx
    simp only [Option.some.injEq] at h
    exact ⟨f, some x, hf, h.symm⟩
   ·simp at h
theorem ajG {S : ZR} (h1 : dW S.P S.tt) (h2 : ZY S.P S.chk S.ft) (h3 : ∀ (I : Glob) call, @jE I S.P call → ∀ g, @yR I S.P (S.chk g) (S.draw call g)) (h4 : ∀ (I : Glob), (∀ ρ ro h, I.ok ρ ro h → S.G.ok ro h) → ∀ g h, S.Ci g = some h → @mY I S.P g h)
 (h5 : ∀ k f, S.t k = some f → aeO S.ft k f = true) (h6 : ∀ g, Tc S.ft S.t g (S.nums g) = true) : LP S.sys where
 tt := h1
 ft := h2
 draw := h3
 Ci := h4
 run := by
  intro g j hj args w
  have hn := h6 g
  unfold Tc at hn
  have := List.all_eq_true.1 hn j hj
  simp only [Bool.and_eq_true] at this
  obtain ⟨_, h⟩ := this
  split at h
  ·simp only [Bool.and_eq_true] at h
   obtain ⟨_, h⟩ := h
   split at h
   ·rename_i fn hfn
    obtain ⟨q1, q2, _⟩ := h2 g fn hfn
    obtain ⟨c, hb⟩ := Option.isSome_iff_exists.1 h
    unfold callFunc
    simp [ZR.sys, q1, hb, by simpa using q2]
   ·simp at h
  ·simp at h
 num := by
  intro g j e hj he
  have hn := h6 g
  unfold Tc at hn
  have := List.all_eq_true.1 hn j hj
  simp only [Bool.and_eq_true] at this
  obtain ⟨hm, h⟩ := this
  have hm := Nat.eq_of_beq_eq_true hm
  have he' : yU S.t j = some e := he
  unfold yU at he'
  split at h
  ·rename_i f hf
   rw [hf, hm] at he'
   simp only [Option.some.injEq] at he'
   subst he'
   simp only [Bool.and_eq_true] at h
   have hok := h5 _ _ hf
   unfold aeO at hok
   simp only [Bool.and_eq_true] at hok
   obtain ⟨⟨_, hp⟩, _⟩ := hok
   refine ⟨Nat.eq_of_beq_eq_true h.1, rfl, ?_⟩
   show (match f.pat with
    | none => _
    | some (c, dU, _) => _)
   cases hpat : f.pat with
   | none =>
     rw [hpat] at hp
     simp only [Bool.and_eq_true] at hp
     refine ⟨Nat.le_of_ble_eq_true hp.1, ?_⟩
     show f.uN = []
     cases hr : f.uN with
     | nil => rfl
     | cons a l => rw [hr] at hp; simp [avZ] at hp
   | some q =>
     obtain ⟨c, dU, ko⟩ := q
     rw [hpat] at hp
     simp only [Bool.and_eq_true] at hp
     obtain ⟨⟨⟨⟨⟨p1, p2⟩, p3⟩, p4⟩, _⟩, _⟩ := hp
     exact ⟨p1, Nat.le_of_ble_eq_true p2, Nat.eq_of_beq_eq_true p3, fun _ => p4⟩
  ·simp at h
 outs := by
  intro j e he
  obtain ⟨f, pos, hf, rfl⟩ := KR he
  have hok := h5 _ _ hf
  unfold aeO at hok
  simp only [Bool.and_eq_true] at hok
  obtain ⟨⟨⟨_, hg⟩, hp⟩, _⟩ := hok
  refine ⟨?_, ?_, Nat.le_of_ble_eq_true hg⟩
  ·unfold FB.dU FB.ko
   show oM (match f.pat with | none => 0 | some (_, _, k) => k) (match f.pat with | none => [] | some (_, o, _) => o) = true
   cases hpat : f.pat with
   | none => rfl
   | some q =>
     obtain ⟨c, dU, ko⟩ := q
     rw [hpat] at hp
     simp only [Bool.and_eq_true] at hp
     exact hp.1.2
  ·unfold FB.ko
   show (match f.pat with | none => 0 | some (_, _, k) => k) ≤ 900
   cases hpat : f.pat with
   | none => exact Nat.zero_le _
   | some q =>
     obtain ⟨c, dU, ko⟩ := q
     rw [hpat] at hp
     simp only [Bool.and_eq_true] at hp
     exact Nat.le_of_ble_eq_true hp.2
 ents := by
  intro j e he fn body hfn hb
  obtain ⟨f, pos, hf, rfl⟩ := KR he
  have hok := h5 _ _ hf
  unfold aeO at hok
  simp only [Bool.and_eq_true] at hok
  obtain ⟨⟨⟨⟨hno, hlen⟩, _⟩, _⟩, hl⟩ := hok
  have hno := Nat.eq_of_beq_eq_true hno
  have hlen : f.loops.length < 50 := Nat.lt_of_succ_le (by simpa [Nat.blt] using hlen)
  have hfn' : S.ft f.g = some fn := hfn
  rw [hfn'] at hl
  simp only [hb] at hl
  intro p l hp
  have hp' : f.tabs p = some l := hp
  have hl0 : l = idxs p f.loops (f.no + 1) ∧ l ≠ [] := by
   unfold FE.tabs at hp'
   split at hp'
   ·simp at hp'
   ·rename_i x l' hx
    simp only [Option.some.injEq] at hp'
    rw [hx, hp']
    exact ⟨rfl, by rw [← hp']; simp⟩
  have hat : ∀ i c, f.loops[i]? = some (p, c) → PS f.jJ body (p, c) = true := fun i c hi => List.all_eq_true.1 hl _ (List.mem_of_getElem? hi)
  constructor
  ·obtain ⟨hl1, hl2⟩ := hl0
   cases hc : l with
   | nil => exact absurd hc hl2
   | cons x l' =>
     obtain ⟨j', c⟩ := x
     have : (j', c) ∈ idxs p f.loops (f.no + 1) := by rw [← hl1, hc]; simp
     obtain ⟨i, hi, _⟩ := Ep this
     have := hat i c hi
     unfold PS at this
     simp only [Bool.and_eq_true] at this
     have hi := this.1.1.1
     unfold adO at hi
     split at hi
     ·rename_i c' fr heq
      split at hi
      ·rename_i b
       exact ⟨b, fr, heq⟩
      ·simp at hi
     ·simp at hi
  ·intro j' c hc
   rw [hl0.1] at hc
   obtain ⟨i, hi, rfl⟩ := Ep hc
   have hil := (List.getElem?_eq_some_iff.1 hi).1
   have := hat i c hi
   unfold PS at this
   simp only [Bool.and_eq_true] at this
   obtain ⟨⟨⟨_, q1⟩, q2⟩, q3⟩ := this
   refine ⟨?_, q1, Nat.le_of_ble_eq_true q2, Nat.le_of_ble_eq_true q3⟩
   show yU S.t (f.no + 1 + i) = _
   have hd : (f.no + 1 + i) / 50 = j / 50 := by rw [hno]; omega
   have hm : (f.no + 1 + i) % 50 = i + 1 := by rw [hno]; omega
   unfold yU
   rw [hd, hf, hm]
   simp only
   rw [bU, hi]
end Go.As
end
section
namespace Go.As
open Go.RowKit
def u8L (l : List Int) : List AV := l.map fun n => .int .u8 (.lit n)
noncomputable section
def a0 (j : Nat) (l : List SE) : SE := .ap (2 * j) (gW l)
def a1 (j : Nat) (l : List SE) : SE := .ap (2 * j + 1) (gW l)
def rr (j : Nat) (l : List SE) (i : Nat) : SE := rO (.ap (2 * j + 1) (gW l)) i
def nm (x : SE) : SE := .op .num x (.lit 0)
def mk (x : SE) : SE := .op .mk x (.lit 0)
def ln (x : SE) : SE := .op .len x (.lit 0)
def ce (j : Nat) (x : SE) : SE := .op (.cell j) x (.lit 0)
def el (x y : SE) : SE := .op .at x y
def cn (x y : SE) : SE := .op .cons x y
def wr (x : SE) : SE := .wrap .i64 x
def sp (c : SB) (a b : T Lf) : T Lf := .split c a b
def ou (l : List SE) : T Lf := .ret (.out l)
def ju (j : Nat) (l : List SE) : T Lf := .ret (.jump j l)
def fl : T Lf := .fail
end
end Go.As
end
section
namespace Go.As
open Go.RowKit
def BM (kn : List (Nat × SE)) : SE → Bool
 | .ap f a => BM kn a && kn.any fun p => Nat.beq f (2 * p.1 + 1) && fK a p.2
 | .op _ a b => BM kn a && BM kn b
 | .add a b => BM kn a && BM kn b
 | .sub a b => BM kn a && BM kn b
 | .mul a b => BM kn a && BM kn b
 | .quo a b => BM kn a && BM kn b
 | .rem a b => BM kn a && BM kn b
 | .wrap _ a => BM kn a
 | .inp _ _ => false
 | .lit _ => true
 | .dat _ => true
 | .aA i => Nat.blt i 900
def okC (kn : List (Nat × SE)) : SB → Bool
 | .lit _ => true
 | .lt a b => BM kn a && BM kn b
 | .le a b => BM kn a && BM kn b
 | .eq a b => BM kn a && BM kn b
 | .not a => okC kn a
 | .and a b => okC kn a && okC kn b
def callOf : SB → Option (Nat × SE)
 | .eq x y => match x with
   | .ap f a => match y with
     | .lit n => match zQ n 1 && Nat.beq (f % 2) 0 with
       | true => some (f / 2, a)
       | false => none
     | _ => none
   | _ => none
 | _ => none
def aqL : T Lf → Bool
 | .fail => true
 | _ => false
def acT (kn : List (Nat × SE)) : List SE → Bool
 | [] => true
 | e :: l => BM kn e && acT kn l
def UU (kn : List (Nat × SE)) : T Lf → Bool
 | .fail => true
 | .ret l => match l with
   | .out es => acT kn es
   | .jump _ es => acT kn es
 | .split c x y => match callOf c with
   | some p => BM kn p.2 && UU (p :: kn) x && aqL y
   | none => okC kn c && UU kn x && UU kn y
inductive RS where
 | no
 | out (ys : List Int)
 | jump (j : Nat) (xs : List Int)
noncomputable def dV (ρ : Nat → Int) : T Lf → RS
 | .fail => .no
 | .ret l => match l with
   | .out es => .out (es.map (SE.den ρ))
   | .jump j es => .jump j (es.map (SE.den ρ))
 | .split c x y => if c.den ρ = true then dV ρ x else dV ρ y
theorem DT {tree : Nat → T Lf} {n j : Nat} {xs : List Int} : dX tree (n + 1) j xs = match dV (dF (dX tree n) (low xs)) (tree j) with
 | .no => none
 | .out ys => some ys
 | .jump j' xs' => dX tree n j' xs' := by
 have : ∀ t : T Lf, (match t.leaf (dF (dX tree n) (low xs)) with
  | none => none
  | some (.out es) => some (es.map (SE.den (dF (dX tree n) (low xs))))
  | some (.jump j' es) => dX tree n j' (es.map (SE.den (dF (dX tree n) (low xs))))) = match dV (dF (dX tree n) (low xs)) t with
  | .no => none
  | .out ys => some ys
  | .jump j' xs' => dX tree n j' xs' := by
  intro t
  induction t with
  | fail => rfl
  | ret l => cases l <;> rfl
  | split c x y ihx ihy =>
    simp only [T.leaf, dV]
    cases hc : c.den (dF (dX tree n) (low xs)) with
    | true => simpa [hc] using ihx
    | false => simpa [hc] using ihy
 exact this (tree j)
def Fle (F F' : Fz) : Prop := ∀ j xs ys, F j xs = some ys → F' j xs = some ys
def Kn (F F' : Fz) (lo : Nat → Int) (kn : List (Nat × SE)) : Prop := ∀ p ∈ kn, p.2.den (dF F lo) = p.2.den (dF F' lo) ∧ ∃ xs ys, p.2.den (dF F lo) = nX xs ∧ F p.1 xs = some ys
theorem Ol {F : Fz} {lo : Nat → Int} {j : Nat} {z : Int} (h : dF F lo (jT (2 * j) z) = 1) : ∃ xs ys, z = nX xs ∧ F j xs = some ys := by
 have h1 := Az (2 * j) z
 unfold dF at h
 rw [if_neg (by omega)] at h
 split at h
 ·rename_i hp
  obtain ⟨q1, q2⟩ := wY hp.choose_spec
  have q1 : hp.choose.1 = j := by omega
  split at h
  ·rename_i hs
   obtain ⟨ys, hy⟩ := Option.isSome_iff_exists.1 hs
   refine ⟨hp.choose.2, ys, q2, ?_⟩
   generalize hp.choose = q at q1 hy
   subst q1
   exact hy
  ·omega
 ·split at h
  ·rename_i hp
   have := (wY hp.choose_spec).1
   omega
  ·omega
section
variable {F F' : Fz} {lo : Nat → Int}
theorem gB (hF : Fle F F') {kn : List (Nat × SE)} (hk : Kn F F' lo kn) : ∀ {e : SE}, BM kn e = true → e.den (dF F lo) = e.den (dF F' lo)
 | .ap f a, h => by
   simp only [BM, Bool.and_eq_true] at h
   have ha := gB hF hk h.1
   obtain ⟨p, hp, hq⟩ := List.any_eq_true.1 h.2
   simp only [Bool.and_eq_true] at hq
   have h1 := Nat.eq_of_beq_eq_true hq.1
   have h2 := bK _ _ hq.2
   subst h2
   obtain ⟨k1, xs, ys, k2, k3⟩ := hk p hp
   simp only [SE.den]
   rw [← k1, k2, h1, (mJ F lo p.1 xs).2, (mJ F' lo p.1 xs).2, k3, hF _ _ _ k3]
 | .op o a b, h => by simp only [BM, Bool.and_eq_true] at h; simp only [SE.den, gB hF hk h.1, gB hF hk h.2]
 | .add a b, h => by simp only [BM, Bool.and_eq_true] at h; simp only [SE.den, gB hF hk h.1, gB hF hk h.2]
 | .sub a b, h => by simp only [BM, Bool.and_eq_true] at h; simp only [SE.den, gB hF hk h.1, gB hF hk h.2]
 | .mul a b, h => by simp only [BM, Bool.and_eq_true] at h; simp only [SE.den, gB hF hk h.1, gB hF hk h.2]
 | .quo a b, h => by simp only [BM, Bool.and_eq_true] at h; simp only [SE.den, gB hF hk h.1, gB hF hk h.2]
 | .rem a b, h => by simp only [BM, Bool.and_eq_true] at h; simp only [SE.den, gB hF hk h.1, gB hF hk h.2]
 | .wrap k a, h => by simp only [BM] at h; simp only [SE.den, gB hF hk h]
 | .inp _ _, h => by simp [BM] at h
 | .lit _, _ => rfl
 | .dat _, _ => rfl
 | .aA i, h => by
   have hi : i < 900 := Nat.lt_of_succ_le (by simpa [BM, Nat.blt] using h)
   simp only [SE.den]
   rw [uD hi, uD hi]
theorem D6 (hF : Fle F F') {kn : List (Nat × SE)} (hk : Kn F F' lo kn) : ∀ {c : SB}, okC kn c = true → c.den (dF F lo) = c.den (dF F' lo)
 | .lit _, _ => rfl
 | .lt a b, h => by simp only [okC, Bool.and_eq_true] at h; simp only [SB.den, gB hF hk h.1, gB hF hk h.2]
 | .le a b, h => by simp only [okC, Bool.and_eq_true] at h; simp only [SB.den, gB hF hk h.1, gB hF hk h.2]
 | .eq a b, h => by simp only [okC, Bool.and_eq_true] at h; simp only [SB.den, gB hF hk h.1, gB hF hk h.2]
 | .not a, h => by simp only [okC] at h; simp only [SB.den, D6 hF hk h]
 | .and a b, h => by simp only [okC, Bool.and_eq_true] at h; simp only [SB.den, D6 hF hk h.1, D6 hF hk h.2]
theorem zL (hF : Fle F F') {kn : List (Nat × SE)} (hk : Kn F F' lo kn) : ∀ {es : List SE}, acT kn es = true → es.map (SE.den (dF F lo)) = es.map (SE.den (dF F' lo))
 | [], _ => rfl
 | e :: l, h => by
   simp only [acT, Bool.and_eq_true] at h
   simp only [List.map_cons, gB hF hk h.1, zL hF hk h.2]
theorem Hy {c : SB} {p : Nat × SE} (h : callOf c = some p) : c = .eq (.ap (2 * p.1) p.2) (.lit 1) := by
 cases c with
 | eq x y =>
   cases x with
   | ap f a =>
     cases y with
     | lit n =>
       simp only [callOf] at h
       split at h
       ·rename_i hb
        simp only [Option.some.injEq] at h
        simp only [Bool.and_eq_true] at hb
        have h1 := Bl hb.1
        have h2 := Nat.eq_of_beq_eq_true hb.2
        subst h
        show SB.eq (.ap f a) (.lit n) = .eq (.ap (2 * (f / 2)) a) (.lit 1)
        rw [show 2 * (f / 2) = f by omega, h1]
       ·simp at h
     | _ => simp [callOf] at h
   | _ => simp [callOf] at h
 | _ => simp [callOf] at h
theorem DJ (hF : Fle F F') : ∀ {t : T Lf} {kn : List (Nat × SE)}, Kn F F' lo kn → UU kn t = true → dV (dF F lo) t ≠ .no → dV (dF F' lo) t = dV (dF F lo) t
 | .fail, _, _, _, h => absurd rfl h
 | .ret (.out es), _, hk, ho, _ => by simp only [UU] at ho; simp only [dV, zL hF hk ho]
 | .ret (.jump j es), _, hk, ho, _ => by simp only [UU] at ho; simp only [dV, zL hF hk ho]
 | .split c x y, kn, hk, ho, h => by
   simp only [UU] at ho
   split at ho
   ·rename_i p hp
    simp only [Bool.and_eq_true] at ho
    obtain ⟨⟨h1, h2⟩, h3⟩ := ho
    have hc := Hy hp
    subst hc
    have hy : y = .fail := by
     cases y <;> simp [aqL] at h3 <;> rfl
    subst hy
    have hd := gB hF hk h1
    simp only [dV, SB.den, SE.den] at h ⊢
    by_cases h4 : dF F lo (jT (2 * p.1) (p.2.den (dF F lo))) = 1
    ·obtain ⟨xs, ys, e1, e2⟩ := Ol h4
     have e3 := hF _ _ _ e2
     have h5 : dF F' lo (jT (2 * p.1) (p.2.den (dF F' lo))) = 1 := by
      rw [← hd, e1, (mJ F' lo p.1 xs).1, e3]
      rfl
     have c4 : (dF F lo (jT (2 * p.1) (p.2.den (dF F lo))) == 1) = true := by rw [h4]; rfl
     have c5 : (dF F' lo (jT (2 * p.1) (p.2.den (dF F' lo))) == 1) = true := by rw [h5]; rfl
     simp only [c4, c5, if_true] at h ⊢
     refine DJ hF (kn := p :: kn) ?_ h2 h
     intro q hq
     rcases List.mem_cons.1 hq with rfl | hq
     ·exact ⟨hd, xs, ys, e1, e2⟩
     ·exact hk q hq
    ·have c4 : (dF F lo (jT (2 * p.1) (p.2.den (dF F lo))) == 1) = false := by simpa using h4
     simp only [c4, Bool.false_eq_true, if_false] at h
     exact absurd rfl h
   ·simp only [Bool.and_eq_true] at ho
    obtain ⟨⟨h1, h2⟩, h3⟩ := ho
    have hc := D6 hF hk h1
    simp only [dV] at h ⊢
    rw [← hc]
    by_cases h4 : c.den (dF F lo) = true
    ·rw [if_pos h4] at h ⊢
     rw [if_pos h4]
     exact DJ hF hk h2 h
    ·rw [if_neg h4] at h ⊢
     rw [if_neg h4]
     exact DJ hF hk h3 h
end
section
variable {tree : Nat → T Lf} (hok : ∀ j, UU [] (tree j) = true)
include hok
theorem MZ {n : Nat} {F' : Fz} (hF : Fle (dX tree n) F') {j : Nat} {xs ys : List Int} (h : dX tree (n + 1) j xs = some ys) :
 (match dV (dF F' (low xs)) (tree j) with
 | .no => none
 | .out ys => some ys
 | .jump j' xs' => F' j' xs') = some ys := by
 rw [DT] at h
 have hne : dV (dF (dX tree n) (low xs)) (tree j) ≠ .no := by
  intro he
  rw [he] at h
  simp at h
 rw [DJ hF (kn := []) (by intro p hp; simp at hp) (hok j) hne]
 split at h
 ·simp at h
 ·rename_i heq; exact h
 ·rename_i heq; exact hF _ _ _ h
theorem Nb : ∀ n, Fle (dX tree n) (dX tree (n + 1))
 | 0 => fun j xs ys h => by simp [dX] at h
 | n + 1 => fun j xs ys h => by
   rw [DT (n := n + 1)]
   exact MZ hok (Nb n) h
theorem DU {n m : Nat} (h : n ≤ m) : Fle (dX tree n) (dX tree m) := by
 induction h with
 | refl => exact fun _ _ _ h => h
 | step _ ih => exact fun j xs ys h => Nb hok _ _ _ _ (ih _ _ _ h)
end
open Classical in
noncomputable def lim' (tree : Nat → T Lf) : Fz := fun j xs => if h : ∃ n ys, dX tree n j xs = some ys then some h.choose_spec.choose else none
section
variable {tree : Nat → T Lf} (hok : ∀ j, UU [] (tree j) = true)
include hok
theorem VP {n j : Nat} {xs ys : List Int} (h : dX tree n j xs = some ys) : lim' tree j xs = some ys := by
 unfold lim'
 have he : ∃ n ys, dX tree n j xs = some ys := ⟨n, ys, h⟩
 rw [dif_pos he]
 have h2 := he.choose_spec.choose_spec
 have h3 := DU hok (Nat.le_max_left n he.choose) _ _ _ h
 have h4 := DU hok (Nat.le_max_right n he.choose) _ _ _ h2
 rw [h3] at h4
 exact h4.symm
omit hok in
theorem PW {j : Nat} {xs ys : List Int} (h : lim' tree j xs = some ys) : ∃ n, dX tree n j xs = some ys := by
 unfold lim' at h
 split at h
 ·rename_i he
  simp only [Option.some.injEq] at h
  exact ⟨he.choose, by rw [← h]; exact he.choose_spec.choose_spec⟩
 ·simp at h
theorem JR (n : Nat) : Fle (dX tree n) (lim' tree) := fun _ _ _ h => VP hok h
def KnS (tree : Nat → T Lf) (n0 : Nat) (lo : Nat → Int) (kn : List (Nat × SE)) : Prop := ∀ m, n0 ≤ m → Kn (dX tree m) (lim' tree) lo kn
theorem zC {lo : Nat → Int} : ∀ {t : T Lf} {kn : List (Nat × SE)} (n0 : Nat), KnS tree n0 lo kn → UU kn t = true → dV (dF (lim' tree) lo) t ≠ .no → ∃ n, ∀ m, n ≤ m → dV (dF (dX tree m) lo) t = dV (dF (lim' tree) lo) t
 | .fail, _, _, _, _, h => absurd rfl h
 | .ret (.out es), _, n0, hk, ho, _ => ⟨n0, fun m hm => by simp only [UU] at ho; simp only [dV, zL (JR hok m) (hk m hm) ho]⟩
 | .ret (.jump j es), _, n0, hk, ho, _ => ⟨n0, fun m hm => by simp only [UU] at ho; simp only [dV, zL (JR hok m) (hk m hm) ho]⟩
 | .split c x y, kn, n0, hk, ho, h => by
   simp only [UU] at ho
   split at ho
   ·rename_i p hp
    simp only [Bool.and_eq_true] at ho
    obtain ⟨⟨h1, h2⟩, h3⟩ := ho
    have hc := Hy hp
    subst hc
    have hy : y = .fail := by
     cases y <;> simp [aqL] at h3 <;> rfl
    subst hy
    have hd : ∀ m, n0 ≤ m → p.2.den (dF (dX tree m) lo) = p.2.den (dF (lim' tree) lo) := fun m hm => gB (JR hok m) (hk m hm) h1
    simp only [dV, SB.den, SE.den] at h ⊢
    by_cases h4 : dF (lim' tree) lo (jT (2 * p.1) (p.2.den (dF (lim' tree) lo))) = 1
    ·have c4 : (dF (lim' tree) lo (jT (2 * p.1) (p.2.den (dF (lim' tree) lo))) == 1) = true := by rw [h4]; rfl
     obtain ⟨xs, ys, e1, e2⟩ := Ol h4
     obtain ⟨n1, e3⟩ := PW e2
     simp only [c4, if_true] at h ⊢
     have hk2 : KnS tree (max n0 n1) lo (p :: kn) := by
      intro m hm q hq
      rcases List.mem_cons.1 hq with rfl | hq
      ·refine ⟨hd m (by omega), xs, ys, by rw [hd m (by omega)]; exact e1, DU hok (show n1 ≤ m by omega) _ _ _ e3⟩
      ·exact hk m (by omega) q hq
     obtain ⟨n2, h5⟩ := zC (max n0 n1) hk2 h2 h
     refine ⟨max (max n0 n1) n2, fun m hm => ?_⟩
     have c5 : (dF (dX tree m) lo (jT (2 * p.1) (p.2.den (dF (dX tree m) lo))) == 1) = true := by
      rw [hd m (by omega), e1, (mJ (dX tree m) lo p.1 xs).1, DU hok (show n1 ≤ m by omega) _ _ _ e3]
      rfl
     simp only [c5, if_true]
     exact h5 m (by omega)
    ·have c4 : (dF (lim' tree) lo (jT (2 * p.1) (p.2.den (dF (lim' tree) lo))) == 1) = false := by simpa using h4
     simp only [c4, Bool.false_eq_true, if_false] at h
     exact absurd rfl h
   ·simp only [Bool.and_eq_true] at ho
    obtain ⟨⟨h1, h2⟩, h3⟩ := ho
    have hc : ∀ m, n0 ≤ m → c.den (dF (dX tree m) lo) = c.den (dF (lim' tree) lo) := fun m hm => D6 (JR hok m) (hk m hm) h1
    simp only [dV] at h ⊢
    by_cases h4 : c.den (dF (lim' tree) lo) = true
    ·rw [if_pos h4] at h
     obtain ⟨n2, h5⟩ := zC n0 hk h2 h
     refine ⟨max n0 n2, fun m hm => ?_⟩
     rw [hc m (by omega), if_pos h4, if_pos h4]
     exact h5 m (by omega)
    ·rw [if_neg h4] at h
     obtain ⟨n2, h5⟩ := zC n0 hk h3 h
     refine ⟨max n0 n2, fun m hm => ?_⟩
     rw [hc m (by omega), if_neg h4, if_neg h4]
     exact h5 m (by omega)
noncomputable def fin (F : Fz) : RS → Option (List Int)
 | .no => none
 | .out ys => some ys
 | .jump j xs => F j xs
theorem aqG (j : Nat) (xs : List Int) : lim' tree j xs = fin (lim' tree) (dV (dF (lim' tree) (low xs)) (tree j)) := by
 cases h : lim' tree j xs with
 | some ys =>
   obtain ⟨n, hn⟩ := PW h
   cases n with
   | zero => simp [dX] at hn
   | succ n =>
     have := MZ hok (JR hok n) hn
     rw [← this]
     cases dV (dF (lim' tree) (low xs)) (tree j) <;> rfl
 | none =>
   cases hs : dV (dF (lim' tree) (low xs)) (tree j) with
   | no => rfl
   | out ys =>
     exfalso
     obtain ⟨n, hn⟩ := zC hok (lo := low xs) (t := tree j) (kn := []) 0 (by intro m _ p hp; simp at hp) (hok j) (by rw [hs]; simp)
     have : dX tree (n + 1) j xs = some ys := by rw [DT, hn n (Nat.le_refl _), hs]
     rw [VP hok this] at h
     simp at h
   | jump j' xs' =>
     show none = lim' tree j' xs'
     cases h2 : lim' tree j' xs' with
     | none => rfl
     | some ys =>
       exfalso
       obtain ⟨n, hn⟩ := zC hok (lo := low xs) (t := tree j) (kn := []) 0 (by intro m _ p hp; simp at hp) (hok j) (by rw [hs]; simp)
       obtain ⟨n2, h3⟩ := PW h2
       have : dX tree (max n n2 + 1) j xs = some ys := by
        rw [DT, hn _ (Nat.le_max_left _ _), hs]
        exact DU hok (Nat.le_max_right n n2) _ _ _ h3
       rw [VP hok this] at h
       simp at h
end
end Go.As
end
section
namespace Go.As
open Go.RowKit
theorem YR {S : ZR} {j : Nat} (h : yU S.t j = none) : UU [] (S.sys.tree j) = true := by
 have : S.sys.tree j = .fail := by
  unfold Sys.tree
  show (match yU S.t j with | none => T.fail | some e => qC S.sys e) = _
  rw [h]
 rw [this]
 rfl
def adS (j : Nat) : List Nat → Bool
 | [] => false
 | i :: l => match Nat.beq i j with
   | true => true
   | false => adS j l
theorem TB {j : Nat} : ∀ {l : List Nat}, adS j l = true → j ∈ l
 | [], h => by simp [adS] at h
 | i :: l, h => by
   simp only [adS] at h
   split at h
   ·rename_i hb
    rw [Nat.eq_of_beq_eq_true hb]
    simp
   ·exact List.mem_cons_of_mem _ (TB h)
def aoM (t : Nat → Option FE) (N : Nat) (l : List Nat) : Bool := (List.range N).all fun k => match t k with
 | none => true
 | some f => (List.range (f.loops.length + 1)).all fun i => adS (50 * k + i) l
theorem cov {t : Nat → Option FE} {N : Nat} {l : List Nat} (h : aoM t N l = true) (hN : ∀ k, N ≤ k → t k = none) {j : Nat} {e : FB} (he : yU t j = some e) : j ∈ l := by
 unfold yU at he
 split at he
 ·simp at he
 ·rename_i f hf
  have hk : j / 50 < N := by
   rcases Nat.lt_or_ge (j / 50) N with h1 | h1
   ·exact h1
   ·rw [hN _ h1] at hf; simp at hf
  have := List.all_eq_true.1 h _ (List.mem_range.2 hk)
  rw [hf] at this
  have hm : j % 50 < f.loops.length + 1 := by
   split at he
   ·omega
   ·rename_i i hi
    split at he
    ·rename_i x hx
     rw [bU] at hx
     have := (List.getElem?_eq_some_iff.1 hx).1
     omega
    ·simp at he
  have := TB (List.all_eq_true.1 this _ (List.mem_range.2 hm))
  rwa [show 50 * (j / 50) + j % 50 = j by omega] at this
theorem adJ {α : Type} {n : Nat} {t : Tr α} {k : Nat} (h : n ≤ k) : lim n t k = none := by
 unfold lim
 rw [Nat.ble_eq_true_of_le h]
section
variable {F : Fz} {lo : Nat → Int} {ρ : Nat → Int} {xs : List Int}
theorem dN (c : SB) (a b : T Lf) : dV ρ (sp c a b) = if c.den ρ = true then dV ρ a else dV ρ b := rfl
theorem jH (l : List SE) : dV ρ (ou l) = .out (l.map (SE.den ρ)) := rfl
theorem jI (j : Nat) (l : List SE) : dV ρ (ju j l) = .jump j (l.map (SE.den ρ)) := rfl
theorem xH : dV ρ fl = .no := rfl
theorem aY {i : Nat} (h : i < 900) : (SE.aA i).den (dF F lo) = lo i := uD h
theorem aH (x : Int) : low (x :: xs) 0 = x := rfl
theorem aK (x : Int) (i : Nat) : low (x :: xs) (i + 1) = low xs i := rfl
theorem bF (n : Int) : (SE.lit n).den ρ = n := rfl
theorem iG (d : D) : (SE.dat d).den ρ = enc d := rfl
theorem den_add (a b : SE) : (SE.add a b).den ρ = a.den ρ + b.den ρ := rfl
theorem amG (a b : SE) : (SE.sub a b).den ρ = a.den ρ - b.den ρ := rfl
theorem den_mul (a b : SE) : (SE.mul a b).den ρ = a.den ρ * b.den ρ := rfl
theorem Ah (a : SE) : (wr a).den ρ = IntKind.i64.wrap (a.den ρ) := rfl
theorem Gt (a : SE) : (nm a).den ρ = (dec (a.den ρ)).n := rfl
theorem La (a : SE) : (mk a).den ρ = enc (.i (a.den ρ)) := rfl
theorem gI (a : SE) : (ln a).den ρ = ((dec (a.den ρ)).l.length : Int) := rfl
theorem agN (j : Nat) (a : SE) : (ce j a).den ρ = enc ((dec (a.den ρ)).hd j) := rfl
theorem Gu (a b : SE) : (el a b).den ρ = enc ((dec (a.den ρ)).at (b.den ρ)) := rfl
theorem Lc (a b : SE) : (cn a b).den ρ = enc (.p (dec (a.den ρ)) (dec (b.den ρ))) := rfl
theorem KZ (o : aN) (a b : SE) : (SE.op o a b).den ρ = o.den (a.den ρ) (b.den ρ) := rfl
theorem gY (j : Nat) (l : List SE) : (a0 j l).den (dF F lo) = if (F j (l.map (SE.den (dF F lo)))).isSome = true then 1 else 0 := by
 unfold a0
 show dF F lo (jT (2 * j) ((gW l).den (dF F lo))) = _
 rw [kN, (mJ F lo j _).1]
theorem fQ (j : Nat) (l : List SE) (i : Nat) : (rr j l i).den (dF F lo) = low ((F j (l.map (SE.den (dF F lo)))).getD []) i := by
 unfold rr rO
 show (dec (enc ((dec (dF F lo (jT (2 * j + 1) ((gW l).den (dF F lo))))).hd i))).n = _
 rw [kN, (mJ F lo j _).2, aC]
 simp only [nX, aC, D.hd, bC, List.getElem?_map]
 unfold low
 rw [List.getD_eq_getElem?_getD]
 cases ((F j (l.map (SE.den (dF F lo)))).getD [])[i]? <;> rfl
theorem iD (a b : SE) : ((SB.eq a b).den ρ = true) = (a.den ρ = b.den ρ) := by simp [SB.den]
theorem mO (a b : SE) : ((SB.lt a b).den ρ = true) = (a.den ρ < b.den ρ) := by simp [SB.den]
theorem Jp (a : SB) : ((SB.not a).den ρ = true) = ¬ (a.den ρ = true) := by simp [SB.den]
end
end Go.As
end
section
namespace Go.As
open Go.RowKit
def rG : IntKind → Int → Prop
 | .i64, n => -9223372036854775808 ≤ n ∧ n ≤ 9223372036854775807
 | .u8, n => 0 ≤ n ∧ n ≤ 255
 | _, _ => True
def EY : Nat → Nat
 | 0 => 8
 | 1 => 8
 | 2 => 16
 | 3 => 56
 | 4 => 64
 | 5 => 64
 | 6 => 56
 | 7 => 80
 | 8 => 64
 | 9 => 40
 | 10 => 24
 | 11 => 24
 | 12 => 16
 | 13 => 40
 | 14 => 1
 | 15 => 24
 | _ => 1
theorem ahC (t : Nat) : 1 ≤ EY t := by
 unfold EY
 split <;> omega
inductive Wd : CK → D → Prop where
 | int (k : IntKind) (n : Int) (h : rG k n) : Wd (.int k) (.i n)
 | bool (b : Bool) : Wd .bool (.i (if b then 1 else 0))
 | str (s : ByteArray) (h : s.size ≤ 140737488351232) : Wd .str (yN s)
 | nil (t : Nat) : Wd (.sl t) (.i 1)
 | non (t : Nat) : Wd (.sl t) (.i 2)
 | one (t : Nat) (c : CK) (ds : List D) (hr : rowOf t = .one c) (hn : ds ≠ []) (hm : ds.length * EY t ≤ 140737488351232) (h : ∀ d ∈ ds, Wd c d) : Wd (.sl t) (dL ds)
 | many (t : Nat) (cs : List CK) (rows : List (List D)) (hr : rowOf t = .many cs) (hn : rows ≠ []) (hm : rows.length * EY t ≤ 140737488351232) (hl : ∀ r ∈ rows, r.length = cs.length)
  (h : ∀ r ∈ rows, ∀ (j : Nat) (d : D) (c : CK), r[j]? = some d → cs[j]? = some c → Wd c d) : Wd (.sl t) (dL (rows.map dL))
def Sh (d : D) : Prop := d = .i 1 ∨ d = .i 2 ∨ (d = dL d.l ∧ d.l ≠ [])
theorem Wd.sh {t : Nat} {d : D} (h : Wd (.sl t) d) : Sh d := by
 cases h with
 | nil => exact .inl rfl
 | non => exact .inr (.inl rfl)
 | one _ c ds hr hn hm h => exact .inr (.inr ⟨by rw [bC], by rw [bC]; exact hn⟩)
 | many _ cs rows hr hn hm hl h => exact .inr (.inr ⟨by rw [bC], by rw [bC]; simpa using hn⟩)
theorem Wd.i {k : IntKind} {d : D} (h : Wd (.int k) d) : ∃ n, d = .i n ∧ rG k n := by
 cases h with
 | int _ n h => exact ⟨n, rfl, h⟩
theorem Wd.b {d : D} (h : Wd .bool d) : d = .i 0 ∨ d = .i 1 := by
 cases h with
 | bool b => cases b <;> simp
theorem Wd.s {d : D} (h : Wd .str d) : ∃ s, d = yN s := by
 cases h with
 | str s => exact ⟨s, rfl⟩
theorem Wd.room {t : Nat} {d : D} (h : Wd (.sl t) d) : d.l.length * EY t ≤ 140737488351232 := by
 cases h with
 | nil => simp [D.l]
 | non => simp [D.l]
 | one _ c ds hr hn hm h => rw [bC]; exact hm
 | many _ cs rows hr hn hm hl h => rw [bC, List.length_map]; exact hm
theorem Wd.len {t : Nat} {d : D} (h : Wd (.sl t) d) : d.l.length ≤ 140737488351232 :=
 Nat.le_trans (Nat.le_mul_of_pos_right _ (ahC t)) h.room
theorem Wd.el1 {t : Nat} {c : CK} {d : D} (h : Wd (.sl t) d) (hr : rowOf t = .one c) : ∀ x ∈ d.l, Wd c x := by
 cases h with
 | nil => intro x hx; simp [D.l] at hx
 | non => intro x hx; simp [D.l] at hx
 | one _ c' ds hr' hn hm h =>
   rw [hr] at hr'
   simp only [Row.one.injEq] at hr'
   subst hr'
   intro x hx
   rw [bC] at hx
   exact h x hx
 | many _ cs rows hr' hn hm hl h => rw [hr] at hr'; simp at hr'
theorem Wd.elN {t : Nat} {cs : List CK} {d : D} (h : Wd (.sl t) d) (hr : rowOf t = .many cs) : ∀ x ∈ d.l, ∃ r, x = dL r ∧ r.length = cs.length ∧ ∀ (j : Nat) (y : D) (c : CK), r[j]? = some y → cs[j]? = some c → Wd c y := by
 cases h with
 | nil => intro x hx; simp [D.l] at hx
 | non => intro x hx; simp [D.l] at hx
 | one _ c' ds hr' hn hm h => rw [hr] at hr'; simp at hr'
 | many _ cs' rows hr' hn hm hl h =>
   rw [hr] at hr'
   simp only [Row.many.injEq] at hr'
   subst hr'
   intro x hx
   rw [bC] at hx
   obtain ⟨r, h1, rfl⟩ := List.mem_map.1 hx
   exact ⟨r, rfl, hl r h1, fun j y c h2 h3 => h r h1 j y c h2 h3⟩
def isDecl (x : D) : Prop := ∃ (k n ln : Int) (s s' : ByteArray), x = dL [.i k, yN s, .i n, yN s', .i ln] ∧ rG .u8 k ∧ rG .i64 n ∧ rG .i64 ln
def xR (x : D) : Prop := ∃ (o c d g : Int) (r v : D), x = dL [.i o, .i c, .i d, .i g, r, v] ∧ rG .i64 o ∧ rG .i64 c ∧ (d = 0 ∨ d = 1) ∧ rG .i64 g ∧ Wd (.sl 0) r ∧ Wd (.sl 0) v
theorem five {α : Type} {r : List α} (h : r.length = 5) : ∃ a b c d e, r = [a, b, c, d, e] := by
 match r, h with
 | [a, b, c, d, e], _ => exact ⟨a, b, c, d, e, rfl⟩
theorem six {α : Type} {r : List α} (h : r.length = 6) : ∃ a b c d e f, r = [a, b, c, d, e, f] := by
 match r, h with
 | [a, b, c, d, e, f], _ => exact ⟨a, b, c, d, e, f, rfl⟩
theorem Wd.decl {d : D} (h : Wd (.sl 3) d) : ∀ x ∈ d.l, isDecl x := by
 intro x hx
 obtain ⟨r, rfl, hl, hc⟩ := h.elN (cs := [.int .u8, .str, .int .i64, .str, .int .i64]) rfl x hx
 obtain ⟨a, b, c, d, e, rfl⟩ := five hl
 obtain ⟨k, rfl, hk⟩ := (hc 0 _ _ rfl rfl).i
 obtain ⟨s, rfl⟩ := (hc 1 _ _ rfl rfl).s
 obtain ⟨n, rfl, hn⟩ := (hc 2 _ _ rfl rfl).i
 obtain ⟨s', rfl⟩ := (hc 3 _ _ rfl rfl).s
 obtain ⟨ln, rfl, hln⟩ := (hc 4 _ _ rfl rfl).i
 exact ⟨k, n, ln, s, s', rfl, hk, hn, hln⟩
theorem Wd.thing {d : D} (h : Wd (.sl 7) d) : ∀ x ∈ d.l, xR x := by
 intro x hx
 obtain ⟨r, rfl, hl, hc⟩ := h.elN (cs := [.int .i64, .int .i64, .bool, .int .i64, .sl 0, .sl 0]) rfl x hx
 obtain ⟨a, b, c, d, e, f, rfl⟩ := six hl
 obtain ⟨o, rfl, ho⟩ := (hc 0 _ _ rfl rfl).i
 obtain ⟨k, rfl, hk⟩ := (hc 1 _ _ rfl rfl).i
 obtain ⟨g, rfl, hg⟩ := (hc 3 _ _ rfl rfl).i
 rcases (hc 2 _ _ rfl rfl).b with rfl | rfl
 ·exact ⟨o, k, 0, g, e, f, rfl, ho, hk, .inl rfl, hg, hc 4 _ _ rfl rfl, hc 5 _ _ rfl rfl⟩
 ·exact ⟨o, k, 1, g, e, f, rfl, ho, hk, .inr rfl, hg, hc 4 _ _ rfl rfl, hc 5 _ _ rfl rfl⟩
theorem lM {z : Int} (h1 : -9223372036854775808 ≤ z) (h2 : z ≤ 9223372036854775807) : IntKind.i64.wrap z = z := IntWalk.i64_in z ⟨h1, h2⟩
theorem azC {n : Nat} (h : n ≤ 9223372036854775807) : IntKind.i64.wrap (n : Int) = n := lM (by omega) (by omega)
theorem bJ {n : Nat} (h : n < 9223372036854775807) : IntKind.i64.wrap ((n : Int) + 1) = ((n + 1 : Nat) : Int) := by rw [lM (by omega) (by omega)]; omega
theorem n_i (n : Int) : (D.i n).n = n := rfl
theorem l_p (a b : D) : (D.p a b).l = a :: b.l := rfl
theorem Ee (n : Int) : (D.i n).l = [] := rfl
theorem jA (l : List D) (j : Nat) : (dL l).hd j = (l[j]?).getD (.i 0) := by unfold D.hd; rw [bC]
theorem ahK (d : D) (i : Nat) : d.at (i : Int) = (d.l[i]?).getD (.i 0) := rfl
theorem bV {d : D} {i : Nat} (h : i < d.l.length) : d.at (i : Int) = d.l[i] := by
 rw [ahK, List.getElem?_eq_getElem h]
 rfl
end Go.As
end
section
namespace Go.As
open Go Go.RowKit
theorem add_add (a : Addr) (m n : Nat) : (a.add m).add n = a.add (m + n) := by
 unfold Addr.add
 by_cases h1 : m = 0
 ·subst h1; simp
 ·by_cases h2 : n = 0
  ·subst h2; simp
  ·simp [h1, h2, Nat.add_assoc]
def mP (i : Nat) : List CK := match rowOf i with
 | .one c => [c]
 | .many cs => cs
def Kt (F : TypeId → Option (List CK)) (P : Program) : List Field → Nat → Nat → Option (List CK)
 | [], o, tot => if o = tot then some [] else none
 | f :: fs, o, tot => match F f.type with
   | none => none
   | some cs => if f.offset = o ∧ P.cellsOf f.type = cs.length then (match Kt F P fs (o + cs.length) tot with
     | none => none
     | some l => some (cs ++ l)) else none
def Cm (P : Program) (own : TypeId → Option Nat) : Nat → TypeId → Option (List CK)
 | 0, _ => none
 | n + 1, t => match P.underlying t with
   | some .bool => some [.bool]
   | some (.int k) => some [.int k]
   | some .string => some [.str]
   | some (.slice _) => match own t with
     | some i => some [.sl i]
     | none => none
   | some (.struct fs) => Kt (Cm P own n) P fs.toList 0 (P.cellsOf t)
   | _ => none
def ahU (P : Program) (own : TypeId → Option Nat) : Prop := ∀ t i, own t = some i → ∃ e n, P.underlying t = some (.slice e) ∧ Cm P own n e = some (mP i) ∧ P.cellsOf e = (mP i).length ∧ EY i ≤ P.bytesOf e ∧ 0 < (mP i).length
inductive Rs (ro : Nat → Prop) (h : Array Obj) : List CK → List D → List Value → Prop where
 | nil : Rs ro h [] [] []
 | cons {c : CK} {d : D} {v : Value} {cs : List CK} {ds : List D} {vs : List Value} (r : Rd ro h c d v) (w : Wd c d) (t : Rs ro h cs ds vs) : Rs ro h (c :: cs) (d :: ds) (v :: vs)
section
variable {ro : Nat → Prop} {h : Array Obj}
theorem Rs.append {cs cs' : List CK} {ds ds' : List D} {vs vs' : List Value} (a : Rs ro h cs ds vs) (b : Rs ro h cs' ds' vs') : Rs ro h (cs ++ cs') (ds ++ ds') (vs ++ vs') := by
 induction a with
 | nil => exact b
 | cons r w _ ih => exact .cons r w ih
theorem Rs.len {cs : List CK} {ds : List D} {vs : List Value} (a : Rs ro h cs ds vs) : ds.length = cs.length ∧ vs.length = cs.length := by
 induction a with
 | nil => exact ⟨rfl, rfl⟩
 | cons r w _ ih => exact ⟨by simp [ih.1], by simp [ih.2]⟩
theorem Rs.at {cs : List CK} {ds : List D} {vs : List Value} (a : Rs ro h cs ds vs) : ∀ {j : Nat} {d : D} {c : CK}, ds[j]? = some d → cs[j]? = some c → ∃ v, vs[j]? = some v ∧ Rd ro h c d v ∧ Wd c d := by
 induction a with
 | nil => intro j d c h1 _; simp at h1
 | cons r w _ ih =>
   intro j d c h1 h2
   cases j with
   | zero =>
     simp only [List.getElem?_cons_zero, Option.some.injEq] at h1 h2
     subst h1 h2
     exact ⟨_, rfl, r, w⟩
   | succ j =>
     simp only [List.getElem?_cons_succ] at h1 h2
     obtain ⟨v, h3, h4⟩ := ih h1 h2
     exact ⟨v, by simpa using h3, h4⟩
end
theorem amS {l : List Nat} {m : Nat} (h : l.all (·≤ m) = true) : ∀ x ∈ l, x ≤ m := fun x hx => by simpa using List.all_eq_true.1 h x hx
theorem VH {l : List Nat} {m : Nat} (h : ∀ x ∈ l, x ≤ m) : l.all (·≤ m) = true := List.all_eq_true.2 fun x hx => by simpa using h x hx
theorem amR {l l' : List Nat} {m : Nat} (h : l.all (·≤ m) = true) (s : ∀ x ∈ l', x ∈ l) : l'.all (·≤ m) = true := VH fun x hx => amS h x (s x hx)
theorem weightsAll_mem {H : Type} {P : Program} {e : TypeId} : ∀ {l : List (DataW H)} {d : DataW H}, d ∈ l → ∀ x ∈ d.weights P e, x ∈ DataW.weightsAll P e l
 | [], _, h, _, _ => by simp at h
 | d' :: l, d, h, x, hx => by
   simp only [DataW.weightsAll, List.mem_append]
   rcases List.mem_cons.1 h with rfl | h
   ·exact .inl hx
   ·exact .inr (weightsAll_mem h x hx)
section
variable {P : Program} {own : TypeId → Option Nat} (ok : ahU P own) {H : Type} {en : TypeId × Value → H} {W : World}
abbrev XD (W : World) : Nat → Prop := fun b => b < W.heap.size
theorem Yv {b o : Nat} {v : Value} (h : W.cell? ⟨b, o, none⟩ = some v) : b < W.heap.size := by
 rw [qY] at h
 unfold hcell at h
 split at h
 ·rename_i hb
  exact (Array.getElem?_eq_some_iff.1 hb).1
 ·simp at h
def Reads (P : Program) (own : TypeId → Option Nat) (en : TypeId × Value → H) (W : World) (fuel : Nat) : Prop :=
 ∀ (t : TypeId) (n : Nat) (Mc : List CK) (cs : List Value) (x : DataW H × List MemPlace), Cm P own n t = some Mc → DataW.trod en P W 0 (fun _ => true) true fuel t cs = some x → (x.1.weights P t).all (·≤ reachBytes) = true → ∃ ds, Rs (XD W) W.heap Mc ds cs
theorem G5 {fuel : Nat} (ih : Reads P own en W fuel) {n : Nat} {cs : List Value} {tot : Nat} (hl : cs.length = tot) : ∀ (fs : List Field) (o : Nat) (Mc : List CK) (xs : List (DataW H × List MemPlace)), Kt (Cm P own n) P fs o tot = some Mc → xs.length = fs.length →
 (∀ (i : Nat) (f : Field), fs[i]? = some f → DataW.trod en P W 0 (fun _ => true) true fuel f.type ((cs.drop f.offset).take (P.cellsOf f.type)) = xs[i]?) →
 (DataW.weightsEach P (fs.map (·.type)) (xs.map (·.1))).all (·≤ reachBytes) = true → ∃ ds, Rs (XD W) W.heap Mc ds (cs.drop o)
 | [], o, Mc, xs, hf, _, _, _ => by
   simp only [Kt] at hf
   split at hf
   ·rename_i ho
    simp only [Option.some.injEq] at hf
    subst hf
    rw [List.drop_of_length_le (by omega)]
    exact ⟨[], .nil⟩
   ·simp at hf
 | f :: fs, o, Mc, [], _, hx, _, _ => by simp at hx
 | f :: fs, o, Mc, x :: xs, hf, hx, ht, hw => by
   simp only [Kt] at hf
   split at hf
   ·simp at hf
   ·rename_i c1 h1
    split at hf
    ·rename_i ho
     split at hf
     ·simp at hf
     ·rename_i l hl2
      simp only [Option.some.injEq] at hf
      subst hf
      have h0 := ht 0 f rfl
      rw [ho.1, ho.2] at h0
      simp only [List.map_cons, DataW.weightsEach, List.all_append, Bool.and_eq_true] at hw
      obtain ⟨ds, r1⟩ := ih f.type n c1 _ x h1 h0 hw.1
      obtain ⟨ds', r2⟩ := G5 ih hl fs (o + c1.length) l xs hl2 (by simpa using hx) (fun i g hg => ht (i + 1) g (by simpa using hg)) hw.2
      refine ⟨ds ++ ds', ?_⟩
      have e : cs.drop o = (cs.drop o).take c1.length ++ cs.drop (o + c1.length) := by
       rw [← List.drop_drop, List.take_append_drop]
      rw [e]
      exact r1.append r2
    ·simp at hf
include ok in
theorem SI {fuel : Nat} (ih : Reads P own en W fuel) {t e : TypeId} {i : Nat} (ht : P.underlying t = some (.slice e)) (ho : own t = some i) {cs : List Value} {x : DataW H × List MemPlace} (hx : DataW.trod en P W 0 (fun _ => true) true (fuel + 1) t cs = some x) (hw : (x.1.weights P t).all (·≤ reachBytes) = true) :
 ∃ d v, cs = [v] ∧ Rd (XD W) W.heap (.sl i) d v ∧ Wd (.sl i) d := by
 obtain ⟨e', nf, ht', hfl, hce, hby, hpos⟩ := ok t i ho
 rw [ht] at ht'
 simp only [Option.some.injEq, TypeDesc.slice.injEq] at ht'
 subst ht'
 rcases DataW.trod_slice ht hx with ⟨rfl, rfl⟩ | ⟨a, len, cap, elems, rest, n, hn, rfl, rfl, _, hlc, _, hlen, hel, _, _⟩
 ·exact ⟨.i 1, _, rfl, .nil i, .nil i⟩
 ·simp only [Nat.succ.injEq] at hn
  subst hn
  rcases Nat.eq_zero_or_pos len with h0 | h0
  ·subst h0
   exact ⟨.i 2, _, rfl, .non i a cap, .non i⟩
  ·simp only [DataW.weights, ht, List.all_cons, List.all_append, Bool.and_eq_true, decide_eq_true_eq, List.length_map] at hw
   have row : ∀ k, k < len → ∃ cs ds, W.cells? 0 (a.add (k * (mP i).length)) (mP i).length = some cs ∧ Rs (XD W) W.heap (mP i) ds cs := by
    intro k hk
    have he := hel k hk
    rw [List.getElem?_eq_getElem (by omega), hce, Option.bind_eq_some_iff] at he
    obtain ⟨cs, h1, h2⟩ := he
    obtain ⟨ds, hr⟩ := ih e nf (mP i) cs _ hfl h2 (amR hw.2.1 (weightsAll_mem (List.mem_map_of_mem (List.getElem_mem _))))
    exact ⟨cs, ds, h1, hr⟩
   obtain ⟨b, o, spot⟩ := a
   have hspot : spot = none := by
    obtain ⟨cs, ds, h1, hr⟩ := row 0 h0
    obtain ⟨_, h4, h5⟩ := World.cells?_some h1
    have := h5 0 hpos
    rw [List.getElem?_eq_getElem (by omega)] at this
    simpa [Addr.add] using World.cell?_spot this
   subst hspot
   have cell : ∀ k, k < len → ∃ ds vs, Rs (XD W) W.heap (mP i) ds vs ∧ ∀ j, j < (mP i).length → hcell W.heap b (o + k * (mP i).length + j) = vs[j]? := by
    intro k hk
    obtain ⟨cs, ds, h1, hr⟩ := row k hk
    obtain ⟨_, h4, h5⟩ := World.cells?_some h1
    refine ⟨ds, cs, hr, fun j hj => ?_⟩
    have := h5 j hj
    rw [add_add] at this
    have e2 : (Addr.mk b o none).add (k * (mP i).length + j) = ⟨b, o + k * (mP i).length + j, none⟩ := by simp [Addr.add, Nat.add_assoc]
    rw [e2, qY] at this
    exact this
   have hb : b < W.heap.size := by
    obtain ⟨ds, vs, hr, hc⟩ := cell 0 h0
    have := hc 0 hpos
    rw [List.getElem?_eq_getElem (by rw [hr.len.2]; exact hpos), ← qY] at this
    exact Yv this
   have anH : len * EY i ≤ 140737488351232 := by
    have h1 : (elems.length + rest.length) * P.bytesOf e ≤ reachBytes := hw.1
    have h2 : len * EY i ≤ (elems.length + rest.length) * P.bytesOf e := Nat.mul_le_mul (by omega) hby
    have h3 : reachBytes = 140737488351232 := rfl
    omega
   classical
   let ds : Nat → List D := fun k => if h : k < len then (cell k h).choose else []
   let vs : Nat → List Value := fun k => if h : k < len then (cell k h).choose_spec.choose else []
   have spec : ∀ k, k < len → Rs (XD W) W.heap (mP i) (ds k) (vs k) ∧ ∀ j, j < (mP i).length → hcell W.heap b (o + k * (mP i).length + j) = (vs k)[j]? := by
    intro k hk
    have e1 : ds k = (cell k hk).choose := dif_pos hk
    have e2 : vs k = (cell k hk).choose_spec.choose := dif_pos hk
    rw [e1, e2]
    exact (cell k hk).choose_spec.choose_spec
   have get : ∀ {k : Nat} {r : List D}, ((List.range len).map ds)[k]? = some r → k < len ∧ r = ds k := by
    intro k r hk
    rw [List.getElem?_map] at hk
    have hk' : k < len := by
     rcases Nat.lt_or_ge k len with h | h
     ·exact h
     ·rw [List.getElem?_eq_none (by simpa using h)] at hk; simp at hk
    rw [List.getElem?_range hk'] at hk
    simp only [Option.map_some, Option.some.injEq] at hk
    exact ⟨hk', hk.symm⟩
   cases hrow : rowOf i with
   | one c =>
     have hks : mP i = [c] := by unfold mP; rw [hrow]
     have axC : ∀ {k : Nat} {d : D}, ((List.range len).map fun k => (ds k).headD (.i 0))[k]? = some d → k < len ∧ d = (ds k).headD (.i 0) := by
      intro k d hk
      rw [List.getElem?_map] at hk
      have hk' : k < len := by
       rcases Nat.lt_or_ge k len with h | h
       ·exact h
       ·rw [List.getElem?_eq_none (by simpa using h)] at hk; simp at hk
      rw [List.getElem?_range hk'] at hk
      simp only [Option.map_some, Option.some.injEq] at hk
      exact ⟨hk', hk.symm⟩
     have sp1 : ∀ k, k < len → ∃ d v, ds k = [d] ∧ hcell W.heap b (o + k) = some v ∧ Rd (XD W) W.heap c d v ∧ Wd c d := by
      intro k hk
      obtain ⟨hr, hc⟩ := spec k hk
      rw [hks] at hr hc
      match hdk : ds k, hvk : vs k, hr with
      | [d], [v], .cons r w .nil =>
        have := hc 0 (by simp)
        rw [hvk] at this
        exact ⟨d, v, rfl, by simpa using this, r, w⟩
     have e : len = ((List.range len).map fun k => (ds k).headD (.i 0)).length := by simp
     have r := Rd.one (ro := XD W) (h := W.heap) i c b o cap ((List.range len).map fun k => (ds k).headD (.i 0)) (fun k => (vs k).headD undef) hrow (by rw [← e]; exact hlc) hb
      (fun k d hd => by
       obtain ⟨hk, rfl⟩ := axC hd
       obtain ⟨hr, hc⟩ := spec k hk
       rw [hks] at hr hc
       have := hc 0 (by simp)
       match hdk : ds k, hvk : vs k, hr with
       | [d], [v], .cons r w .nil =>
         rw [hvk] at this
         simpa using this)
      (fun k d hd => by
       obtain ⟨hk, rfl⟩ := axC hd
       obtain ⟨hr, hc⟩ := spec k hk
       rw [hks] at hr
       match hdk : ds k, hvk : vs k, hr with
       | [d], [v], .cons r w .nil => exact r)
     rw [← e] at r
     refine ⟨_, _, rfl, r, .one i c _ hrow (fun h => by have := congrArg List.length h; simp at this; omega) (by rw [← e]; exact anH) fun d hd => ?_⟩
     obtain ⟨k, hk, rfl⟩ := List.mem_map.1 hd
     obtain ⟨d, v, h1, _, _, w⟩ := sp1 k (by simpa using hk)
     rw [h1]
     exact w
   | many Mc =>
     have hks : mP i = Mc := by unfold mP; rw [hrow]
     have e : len = ((List.range len).map ds).length := by simp
     have hlr : ∀ r ∈ (List.range len).map ds, r.length = Mc.length := by
      intro r hr
      obtain ⟨k, hk, rfl⟩ := List.mem_map.1 hr
      have := (spec k (by simpa using hk)).1.len.1
      rw [hks] at this
      exact this
     have r := Rd.many (ro := XD W) (h := W.heap) i Mc b o cap ((List.range len).map ds) (fun k j => ((vs k)[j]?).getD undef) hrow (by rw [← e]; exact hlc) hb hlr
      (fun k r j d hr hj => by
       obtain ⟨hk, rfl⟩ := get hr
       obtain ⟨hrs, hc⟩ := spec k hk
       rw [hks] at hrs hc
       have hj' : j < Mc.length := by
        have := (List.getElem?_eq_some_iff.1 hj).1
        rw [hrs.len.1] at this
        exact this
       rw [hc j hj', List.getElem?_eq_getElem (by rw [hrs.len.2]; exact hj')]
       rfl)
      (fun k r j d c hr hj hcj => by
       obtain ⟨hk, rfl⟩ := get hr
       obtain ⟨hrs, hc⟩ := spec k hk
       rw [hks] at hrs
       obtain ⟨v, h1, h2, _⟩ := hrs.at hj hcj
       show Rd (XD W) W.heap c d (((vs k)[j]?).getD undef)
       rw [h1]
       exact h2)
     rw [← e] at r
     refine ⟨_, _, rfl, r, .many i Mc _ hrow (fun h => by have := congrArg List.length h; simp at this; omega) (by rw [← e]; exact anH) hlr fun r hr j d c hj hcj => ?_⟩
     obtain ⟨k, hk, rfl⟩ := List.mem_map.1 hr
     have hrs := (spec k (by simpa using hk)).1
     rw [hks] at hrs
     obtain ⟨v, _, _, h3⟩ := hrs.at hj hcj
     exact h3
include ok in
theorem VB : ∀ fuel : Nat, Reads P own en W fuel
 | 0 => fun t n Mc cs x _ hx _ => by simp [DataW.trod] at hx
 | fuel + 1 => fun t n Mc cs x hf hx hw => by
   cases n with
   | zero => simp [Cm] at hf
   | succ n =>
     unfold Cm at hf
     split at hf
     ·rename_i ht
      simp only [Option.some.injEq] at hf
      subst hf
      obtain ⟨b, rfl, _⟩ := DataW.trod_bool ht hx
      exact ⟨_, .cons (.bool b) (.bool b) .nil⟩
     ·rename_i k ht
      simp only [Option.some.injEq] at hf
      subst hf
      obtain ⟨z, rfl, _, hwf⟩ := DataW.trod_int ht hx
      refine ⟨_, .cons (.int k z) (.int k z ?_) .nil⟩
      simp only [Lit.wf, Bool.and_eq_true, decide_eq_true_eq] at hwf
      cases k <;> first | exact hwf | trivial
     ·rename_i ht
      simp only [Option.some.injEq] at hf
      subst hf
      obtain ⟨s, rfl, rfl, _⟩ := DataW.trod_string ht hx
      refine ⟨_, .cons (.str s) (.str s ?_) .nil⟩
      simp only [DataW.weights, List.all_cons, List.all_nil, Bool.and_true, decide_eq_true_eq] at hw
      exact hw
     ·rename_i e ht
      split at hf
      ·rename_i i ho
       simp only [Option.some.injEq] at hf
       subst hf
       obtain ⟨d, v, rfl, r, w⟩ := SI ok (VB fuel) ht ho hx hw
       exact ⟨_, .cons r w .nil⟩
      ·simp at hf
     ·rename_i fs ht
      obtain ⟨xs, m, hm, rfl, hl, hxl, hxs⟩ := DataW.trod_struct ht hx
      simp only [Nat.succ.injEq] at hm
      subst hm
      have hw' : (DataW.weightsEach P (fs.toList.map (·.type)) (xs.map (·.1))).all (·≤ reachBytes) = true := by
       simp only [DataW.weights, ht] at hw
       exact hw
      have := G5 (VB fuel) hl fs.toList 0 Mc xs hf (by simpa using hxl) (fun i f hi => hxs i f (by simpa using hi)) hw'
      simpa using this
     ·simp at hf
end
end Go.As
end

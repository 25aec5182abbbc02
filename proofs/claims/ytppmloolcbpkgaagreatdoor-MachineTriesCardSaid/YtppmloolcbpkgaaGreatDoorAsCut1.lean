import Derived.Test.YtppmloolcbpkgaaGreatDoorAsMemo
/-
  AS, part 31: states at the head of a loop: other names for blocks and numbers.
-/
namespace Go.As
noncomputable section

/-! ### names -/
/-- what the atoms and the blocks of a state stand for in another one -/
structure Ren where
  ns : List SE
  bl : List Nat
  sh : List Nat

def Ren.se (r : Ren) : SE → SE
  | .lit n => .lit n
  | .atm i => match nth? r.ns i with | some e => e | none => .atm i
  | .add a b => .add (r.se a) (r.se b)
  | .sub a b => .sub (r.se a) (r.se b)
  | .mul a b => .mul (r.se a) (r.se b)
  | .quo a b => .quo (r.se a) (r.se b)
  | .rem a b => .rem (r.se a) (r.se b)
  | .wrap k a => .wrap k (r.se a)
  | .inp b e => .inp b (r.se e)

def Ren.sb (r : Ren) : SB → SB
  | .lit b => .lit b
  | .lt a b => sbLt (r.se a) (r.se b)
  | .le a b => .le (r.se a) (r.se b)
  | .eq a b => sbEq (r.se a) (r.se b)
  | .not s => .not (r.sb s)
  | .and a b => .and (r.sb a) (r.sb b)

def Ren.id (r : Ren) (i : Nat) : Nat := match nth? r.bl i with | some j => j | none => 0
/-- so many cells at a block's head are let go -/
def Ren.sft (r : Ren) (i : Nat) : Nat := match nth? r.sh i with | some j => j | none => 0

mutual
def Ren.av (r : Ren) : AV → AV
  | .bool b => .bool (r.sb b)
  | .int k e => .int k (r.se e)
  | .str s => .str s
  | .ptr i o => .ptr (r.id i) (r.sft i + o)
  | .nilp => .nilp
  | .rptr cs => .rptr (r.avs cs)
  | .slice i o l c => .slice (r.id i) (r.sft i + o) l c
  | .nils => .nils
  | .ro cs n f => .ro (r.avs cs) n f
  | .map i => .map (r.id i)
  | .nilm => .nilm
  | .func f a b => .func f (r.avs a) (r.avs b)
  | .nilf => .nilf
  | .iface t v => .iface t (r.av v)
  | .nili => .nili
  | .agg cs => .agg (r.avs cs)
  | .tuple cs => .tuple (r.avs cs)
  | .opq i => .opq i
  | .inp k ks => .inp k ks
def Ren.avs (r : Ren) : List AV → List AV
  | [] => []
  | x :: xs => r.av x :: r.avs xs
end

/-! ### numbers of blocks below a bound -/
mutual
def idsOk (n : Nat) : AV → Bool
  | .ptr i _ => Nat.blt i n
  | .slice i _ _ _ => Nat.blt i n
  | .map i => Nat.blt i n
  | .rptr cs => idsOks n cs
  | .ro cs _ _ => idsOks n cs
  | .func _ a b => idsOks n a && idsOks n b
  | .iface _ v => idsOk n v
  | .agg cs => idsOks n cs
  | .tuple cs => idsOks n cs
  | _ => true
def idsOks (n : Nat) : List AV → Bool
  | [] => true
  | x :: xs => idsOk n x && idsOks n xs
end

def Ren.env (r : Ren) (ρ : Nat → Int) (i : Nat) : Int := match nth? r.ns i with | some e => e.den ρ | none => ρ i

theorem nth?_none {α : Type} : ∀ {l : List α} {i : Nat}, l.length ≤ i → nth? l i = none
  | [], _, _ => rfl
  | _ :: _, 0, h => by simp at h
  | _ :: l, i + 1, h => by simp only [nth?]; exact nth?_none (by simpa using h)

theorem Ren.env_high {r : Ren} (h : r.ns.length ≤ 900) {ρ : Nat → Int} {i : Nat} (hi : 900 ≤ i) : r.env ρ i = ρ i := by
  unfold Ren.env
  rw [nth?_none (by omega)]

theorem Ren.se_den {r : Ren} (h : r.ns.length ≤ 900) (ρ : Nat → Int) : ∀ e : SE, (r.se e).den ρ = e.den (r.env ρ)
  | .lit n => rfl
  | .atm i => by
    simp only [Ren.se, SE.den, Ren.env]
    split <;> rfl
  | .add a b => by simp only [Ren.se, SE.den, Ren.se_den h ρ a, Ren.se_den h ρ b]
  | .sub a b => by simp only [Ren.se, SE.den, Ren.se_den h ρ a, Ren.se_den h ρ b]
  | .mul a b => by simp only [Ren.se, SE.den, Ren.se_den h ρ a, Ren.se_den h ρ b]
  | .quo a b => by simp only [Ren.se, SE.den, Ren.se_den h ρ a, Ren.se_den h ρ b]
  | .rem a b => by simp only [Ren.se, SE.den, Ren.se_den h ρ a, Ren.se_den h ρ b]
  | .wrap k a => by simp only [Ren.se, SE.den, Ren.se_den h ρ a]
  | .inp b e => by
    simp only [Ren.se, SE.den, Ren.se_den h ρ e]
    rw [Ren.env_high h (by omega)]

theorem Ren.sb_den {r : Ren} (h : r.ns.length ≤ 900) (ρ : Nat → Int) : ∀ c : SB, (r.sb c).den ρ = c.den (r.env ρ)
  | .lit b => rfl
  | .lt a b => by simp only [Ren.sb, sbLt_den, SB.den, Ren.se_den h]
  | .le a b => by simp only [Ren.sb, SB.den, Ren.se_den h]
  | .eq a b => by simp only [Ren.sb, sbEq_den, SB.den, Ren.se_den h]
  | .not s => by simp only [Ren.sb, SB.den, Ren.sb_den h ρ s]
  | .and a b => by simp only [Ren.sb, SB.den, Ren.sb_den h ρ a, Ren.sb_den h ρ b]

/-- what is known, told by the other names -/
def En.ren (E : En) (r : Ren) : En := { ρ := r.env E.ρ, θ := fun i => ((E.θ (r.id i)).1, (E.θ (r.id i)).2 + r.sft i), κ := fun i => E.κ (r.id i) - r.sft i, dm := fun i => i < r.bl.length ∧ E.dm (r.id i), ro := E.ro }

theorem blt_lt {i n : Nat} (h : Nat.blt i n = true) : i < n := by
  have := Nat.le_of_ble_eq_true h
  omega

mutual
theorem VR.ren {E : En} {r : Ren} {h : Array Obj} (hl : r.ns.length ≤ 900) : ∀ (x : AV) (u : Value), idsOk r.bl.length x = true → VR E h (r.av x) u → VR (E.ren r) h x u
  | .bool b, u, _, hv => by simp only [Ren.av, VR, En.ren, Ren.sb_den hl] at *; exact hv
  | .int k e, u, _, hv => by simp only [Ren.av, VR, En.ren, Ren.se_den hl] at *; exact hv
  | .str s, u, _, hv => by simp only [Ren.av, VR] at *; exact hv
  | .ptr i o, u, hi, hv => by simp only [Ren.av, VR, En.ren, idsOk] at *; exact ⟨by rw [hv.1, Nat.add_assoc], blt_lt hi, hv.2⟩
  | .nilp, u, _, hv => by simp only [Ren.av, VR] at *; exact hv
  | .rptr cs, u, hi, hv => by
    simp only [Ren.av, VR, idsOk] at *
    obtain ⟨b, o, us, h1, h2, h3, h4⟩ := hv
    exact ⟨b, o, us, h1, h2, VRs.ren hl cs us hi h3, h4⟩
  | .slice i o l c, u, hi, hv => by
    simp only [Ren.av, VR, idsOk] at *
    obtain ⟨h1, a, cap, h2, h3, h4⟩ := hv
    refine ⟨⟨blt_lt hi, h1⟩, a, cap, h2, h3, ?_⟩
    cases c with
    | exact k =>
      simp only [CapR, En.ren] at *
      exact ⟨h4.1, h4.2.imp (fun h => by rw [h, Nat.add_assoc]) id⟩
    | rest es =>
      simp only [CapR, En.ren] at *
      rcases h4 with ⟨q1, q2⟩ | ⟨q1, q2, q3⟩
      · exact .inl ⟨by rw [q1, Nat.add_assoc], by omega⟩
      · exact .inr ⟨q1, q2, by omega⟩
  | .nils, u, _, hv => by simp only [Ren.av, VR] at *; exact hv
  | .ro cs n f, u, hi, hv => by
    simp only [Ren.av, VR, idsOk] at *
    obtain ⟨b, o, cap, us, h1, h2, h3, h4, h5, h6⟩ := hv
    exact ⟨b, o, cap, us, h1, h2, h3, h4, VRs.ren hl cs us hi h5, h6⟩
  | .map i, u, hi, hv => by simp only [Ren.av, VR, En.ren, idsOk] at *; exact ⟨hv.1, blt_lt hi, hv.2⟩
  | .nilm, u, _, hv => by simp only [Ren.av, VR] at *; exact hv
  | .func f a b, u, hi, hv => by
    simp only [Ren.av, VR, idsOk, Bool.and_eq_true] at *
    obtain ⟨us, ws, h1, h2, h3⟩ := hv
    exact ⟨us, ws, h1, VRs.ren hl a us hi.1 h2, VRs.ren hl b ws hi.2 h3⟩
  | .nilf, u, _, hv => by simp only [Ren.av, VR] at *; exact hv
  | .iface t v, u, hi, hv => by
    simp only [Ren.av, VR, idsOk] at *
    obtain ⟨y, h1, h2⟩ := hv
    exact ⟨y, h1, VR.ren hl v y hi h2⟩
  | .nili, u, _, hv => by simp only [Ren.av, VR] at *; exact hv
  | .agg cs, u, hi, hv => by
    simp only [Ren.av, VR, idsOk] at *
    obtain ⟨us, h1, h2⟩ := hv
    exact ⟨us, h1, VRs.ren hl cs us hi h2⟩
  | .tuple cs, u, hi, hv => by
    simp only [Ren.av, VR, idsOk] at *
    obtain ⟨us, h1, h2⟩ := hv
    exact ⟨us, h1, VRs.ren hl cs us hi h2⟩
  | .opq i, u, _, hv => by simp only [Ren.av, VR] at hv
  | .inp k ks, u, _, hv => by
    simp only [Ren.av, VR, En.ren] at *
    rw [Ren.env_high hl (by omega)]
    rcases hv with hv | ⟨b, o, n, cap, h1, h2, h3, h4, h5⟩
    · exact .inl hv
    · refine .inr ⟨b, o, n, cap, h1, h2, h3, h4, fun i j kd hi hj => ?_⟩
      rw [Ren.env_high hl (by omega)]
      exact h5 i j kd hi hj
theorem VRs.ren {E : En} {r : Ren} {h : Array Obj} (hl : r.ns.length ≤ 900) : ∀ (xs : List AV) (us : List Value), idsOks r.bl.length xs = true → VRs E h (r.avs xs) us → VRs (E.ren r) h xs us
  | [], us, _, hv => by simp only [Ren.avs, VRs] at *; exact hv
  | x :: xs, us, hi, hv => by
    simp only [Ren.avs, VRs, idsOks, Bool.and_eq_true] at *
    obtain ⟨u, vs, h1, h2, h3⟩ := hv
    exact ⟨u, vs, h1, VR.ren hl x u hi.1 h2, VRs.ren hl xs vs hi.2 h3⟩
end

theorem VRs_avs {E : En} {r : Ren} {h : Array Obj} {xs ys : List AV} {us : List Value} (hs : sameAVs (r.avs xs) ys = true) (hv : VRs E h ys us) : VRs E h (r.avs xs) us := by
  rw [sameAVs_eq _ _ hs]; exact hv

/-! ### objects -/
def sameEnts (r : Ren) : List (AV × AV × Nat) → List (AV × AV × Nat) → Bool
  | [], [] => true
  | (k, v, _) :: xs, (k', v', _) :: ys => match sameAV (r.av k) k' with
    | true => match sameAV (r.av v) v' with
      | true => sameEnts r xs ys
      | false => false
    | false => false
  | _, _ => false

def entsOk (n : Nat) : List (AV × AV × Nat) → Bool
  | [] => true
  | (k, v, _) :: xs => idsOk n k && idsOk n v && entsOk n xs

def obOk (n : Nat) : AObj → Bool
  | .cells cs _ => idsOks n cs
  | .map es _ => entsOk n es
  | .siter _ _ => true

def sameOb (r : Ren) (k : Nat) : AObj → AObj → Bool
  | .cells cs e, .cells ds f => match Nat.beq e f with
    | true => match drop? k ds with
      | some ds => sameAVs (r.avs cs) ds
      | none => false
    | false => false
  | .map es _, .map fs _ => sameEnts r es fs
  | .siter s p, .siter t q => eqNats s t && Nat.beq p q && Nat.beq k 0
  | _, _ => false

theorem EntR.ren {E : En} {r : Ren} {h : Array Obj} (hl : r.ns.length ≤ 900) : ∀ {xs ys : List (AV × AV × Nat)} {es : List MapEntry}, entsOk r.bl.length xs = true → sameEnts r xs ys = true → EntR E h ys es → EntR (E.ren r) h xs es
  | [], [], es, _, _, h => by simp only [EntR] at *; exact h
  | [], _ :: _, _, _, hs, _ => by simp [sameEnts] at hs
  | (_, _, _) :: _, [], _, _, hs, _ => by simp [sameEnts] at hs
  | (k, v, b) :: xs, (k', v', b') :: ys, es, hi, hs, h => by
    simp only [entsOk, Bool.and_eq_true] at hi
    simp only [sameEnts] at hs
    simp only [EntR] at *
    obtain ⟨e, rr, rfl, h1, h2, _, h4⟩ := h
    split at hs
    · rename_i e1
      split at hs
      · rename_i e2
        refine ⟨e, rr, rfl, VR.ren hl k _ hi.1.1 (by rw [sameAV_eq _ _ e1]; exact h1), VR.ren hl v _ hi.1.2 (by rw [sameAV_eq _ _ e2]; exact h2), trivial, EntR.ren hl hi.2 hs h4⟩
      · simp at hs
    · simp at hs

theorem avs_length {r : Ren} : ∀ xs : List AV, (r.avs xs).length = xs.length
  | [] => rfl
  | _ :: xs => by simp [Ren.avs, avs_length xs]

theorem OR.ren {E : En} {r : Ren} {h : Array Obj} (hl : r.ns.length ≤ 900) {id : Nat} {o o' : AObj} (hi : obOk r.bl.length o = true) (hs : sameOb r (r.sft id) o o' = true) (ho : OR E h (r.id id) o') : OR (E.ren r) h id o := by
  cases o with
  | cells cs e =>
    cases o' with
    | cells ds f =>
      simp only [sameOb] at hs
      simp only [obOk] at hi
      split at hs
      · rename_i he
        have he := Nat.eq_of_beq_eq_true he
        subst he
        split at hs
        · rename_i ds' hdr
          simp only [OR] at *
          obtain ⟨arr, lo, hi', us, h1, h2, h3, h4, h5, h6, h7⟩ := ho
          obtain ⟨g1, g2, g3⟩ := h2.drop? hdr
          have hlen := congrArg List.length (sameAVs_eq _ _ hs)
          rw [avs_length] at hlen
          refine ⟨arr, lo, hi', us.drop (r.sft id), h1, VRs.ren hl cs _ hi (VRs_avs hs g1), fun i u hu => ?_, ?_, ?_, h6, fun u hu => h7 u (List.mem_of_mem_drop hu)⟩
          · rw [List.getElem?_drop] at hu
            have := h3 _ u hu
            show arr[(E.θ (r.id id)).2 + r.sft id + i]? = some u
            rw [Nat.add_assoc]
            exact this
          · show cs.length ≤ E.κ (r.id id) - r.sft id
            omega
          · show (E.θ (r.id id)).2 + r.sft id + (E.κ (r.id id) - r.sft id) = arr.size
            omega
        · simp at hs
      · simp at hs
    | map _ _ => simp [sameOb] at hs
    | siter _ _ => simp [sameOb] at hs
  | map es c =>
    cases o' with
    | map fs d =>
      simp only [sameOb] at hs
      simp only [obOk] at hi
      simp only [OR] at *
      obtain ⟨ents, c', h1, h2⟩ := ho
      exact ⟨ents, c', h1, EntR.ren hl hi hs h2⟩
    | cells _ _ => simp [sameOb] at hs
    | siter _ _ => simp [sameOb] at hs
  | siter s p =>
    cases o' with
    | siter t q =>
      simp only [sameOb, Bool.and_eq_true] at hs
      have h1 := (eqNats_iff _ _).1 hs.1.1
      have h2 := Nat.eq_of_beq_eq_true hs.1.2
      have h3 := Nat.eq_of_beq_eq_true hs.2
      subst h1 h2
      simp only [OR, En.ren, h3] at *
      exact ho
    | cells _ _ => simp [sameOb] at hs
    | map _ _ => simp [sameOb] at hs

end
end Go.As

import Derived.Test.YtbmkacliajebmaaGreatDoorAsZL7
set_option linter.unusedSectionVars false
set_option linter.unusedVariables false
set_option linter.unusedSimpArgs false
section
namespace Go.As.Try
open Go Go.As Go.Proofs Go.RowKit
set_option maxRecDepth 100000
def W6:List (List W×W):=[(W9,.bool (.lit false)),(Ij,.bool (.lit true)),(Ii,.bool (.lit true))]
noncomputable def QF (g:Nat):Option (List W->St->T (W×St)):=
 match Nat.beq g 9 with
 |true=>some (orElse (ym W6) (Wl 9))
 |false=>QG g
theorem KJ (I:bI) (hI: ∀ρ ro h,I.ok ρ ro h->base.ok ro h): ∀(g:Nat) (h:List W->St->T (W×St)),QF g=some h->@iE I Tryz.prog g h:=by
 intro g h hh;letI:=I;unfold QF at hh;split at hh
 ·rename_i hg;have:=aq hg;subst this;simp only [ag] at hh;subst hh;obtain⟨c,Y⟩:=oA (f:=Tryz.f9) aa;refine mV (yl (Pt I hI 9) (fn:=Tryz.f9) (tA aa ae) aa Y fun p hp=>?_) (Pt I hI 9);simp only [W6,ax,alU,or_false] at hp;rcases hp with rfl|rfl|rfl
  ·exact aj9
  ·exact aj8
  ·exact aj7
 ·exact KK I hI g h hh
noncomputable def C! (g:Nat):List W->St->T (W×St):=D3 Sa ft QF (Bw Sa hints) 100000 60 g
theorem Ps (I:bI) (hI: ∀ρ ro h,I.ok ρ ro h->base.ok ro h) (g:Nat):@iE I Tryz.prog g (C! g):=@sS _ I _ tQ _ _ GF _ (KJ I hI) _ (fun _ hc=>@rJ _ I _ tQ mixed _ _ hc) 100000 60 g
end Go.As.Try
end

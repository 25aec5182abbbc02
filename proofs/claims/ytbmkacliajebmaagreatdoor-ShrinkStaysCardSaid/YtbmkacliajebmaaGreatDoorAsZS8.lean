import Derived.Test.YtbmkacliajebmaaGreatDoorAsZS7
set_option linter.unusedSectionVars false
set_option linter.unusedVariables false
set_option linter.unusedSimpArgs false
section
namespace Go.As.Try
open Go Go.As Go.Proofs Go.RowKit
set_option maxRecDepth 100000
def XF:List (List W×W):=[(XI,.bool (.lit false)),(IA,.bool (.lit true)),(Iz,.bool (.lit true))]
noncomputable def Rl (g:Nat):Option (List W->St->T (W×St)):=
 match Nat.beq g 9 with
 |true=>some (orElse (yB XF) (WW 9))
 |false=>Rm g
theorem K7 (I:bI) (hI: ∀ρ ro h,I.ok ρ ro h->base.ok ro h): ∀(g:Nat) (h:List W->St->T (W×St)),Rl g=some h->@iE I Tryz.prog g h:=by
 intro g h hh;letI:=I;unfold Rl at hh;split at hh
 ·rename_i hg;have:=aq hg;subst this;simp only [ag] at hh;subst hh;obtain⟨c,Y⟩:=oG (f:=Tryz.f9) aa;refine mZ (yA (PU I hI 9) (fn:=Tryz.f9) (tG aa ae) aa Y fun p hp=>?_) (PU I hI 9);simp only [XF,aw,amn,or_false] at hp;rcases hp with rfl|rfl|rfl
  ·exact akA
  ·exact akz
  ·exact aky
 ·exact K8 I hI g h hh
noncomputable def M' (g:Nat):List W->St->T (W×St):=Ee SM ft Rl (BK SM hints) 100000 60 g
theorem PR (I:bI) (hI: ∀ρ ro h,I.ok ρ ro h->base.ok ro h) (g:Nat):@iE I Tryz.prog g (M' g):=@s5 _ I _ tW _ _ GS _ (K7 I hI) _ (fun _ hc=>@rQ _ I _ tW mixed _ _ hc) 100000 60 g
end Go.As.Try
end

import Derived.Test.YtbmkacliajebmaaGreatDoorAsZL10
set_option linter.unusedSectionVars false
set_option linter.unusedVariables false
set_option linter.unusedSimpArgs false
section
namespace Go.As.Try
open Go Go.As Go.Proofs Go.RowKit
set_option maxRecDepth 100000
def W7:List (List W×W):=[(Ij,.ro [.int .i64 (.lit 1),.int .i64 (.lit 1),.int .i64 (.lit 1)] 3 false),(Ii,.ro [.int .i64 (.lit 1),.int .i64 (.lit 0)] 2 false)]
noncomputable def Xs (g:Nat):Option (List W->St->T (W×St)):=
 match Nat.beq g 7 with
 |true=>some (orElse (ym W7) (C! 7))
 |false=>QF g
theorem Xr (I:bI) (hI: ∀ρ ro h,I.ok ρ ro h->base.ok ro h): ∀(g:Nat) (h:List W->St->T (W×St)),Xs g=some h->@iE I Tryz.prog g h:=by
 intro g h hh;letI:=I;unfold Xs at hh;split at hh
 ·rename_i hg;have:=aq hg;subst this;simp only [ag] at hh;subst hh;obtain⟨c,Y⟩:=oA (f:=Tryz.f7) aa;refine mV (WU (Ps I hI 7) (fn:=Tryz.f7) (tA aa ae) aa Y fun p hp=>?_) (Ps I hI 7);simp only [W7,ax,alU,or_false] at hp;rcases hp with rfl|rfl
  ·exact akb
  ·exact aka
 ·exact KJ I hI g h hh
noncomputable def ahs (g:Nat):List W->St->T (W×St):=D3 Sa ft Xs (Bw Sa hints) 100000 60 g
theorem C_ (I:bI) (hI: ∀ρ ro h,I.ok ρ ro h->base.ok ro h) (g:Nat):@iE I Tryz.prog g (ahs g):=@sS _ I _ tQ _ _ GF _ (Xr I hI) _ (fun _ hc=>@rJ _ I _ tQ mixed _ _ hc) 100000 60 g
theorem OX:GD [] (.bool (.lit true)) (ahs 6)=true:=aa
end Go.As.Try
end

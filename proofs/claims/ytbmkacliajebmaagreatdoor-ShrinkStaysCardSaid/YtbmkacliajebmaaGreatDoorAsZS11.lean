import Derived.Test.YtbmkacliajebmaaGreatDoorAsZS10
set_option linter.unusedSectionVars false
set_option linter.unusedVariables false
set_option linter.unusedSimpArgs false
section
namespace Go.As.Try
open Go Go.As Go.Proofs Go.RowKit
set_option maxRecDepth 100000
def XG:List (List W×W):=[(IA,.ro [.int .i64 (.lit 1),.int .i64 (.lit 1),.int .i64 (.lit 1)] 3 false),(Iz,.ro [.int .i64 (.lit 1),.int .i64 (.lit 0)] 2 false)]
noncomputable def X1 (g:Nat):Option (List W->St->T (W×St)):=
 match Nat.beq g 7 with
 |true=>some (orElse (yB XG) (M' 7))
 |false=>Rl g
theorem X0 (I:bI) (hI: ∀ρ ro h,I.ok ρ ro h->base.ok ro h): ∀(g:Nat) (h:List W->St->T (W×St)),X1 g=some h->@iE I Tryz.prog g h:=by
 intro g h hh;letI:=I;unfold X1 at hh;split at hh
 ·rename_i hg;have:=aq hg;subst this;simp only [ag] at hh;subst hh;obtain⟨c,Y⟩:=oG (f:=Tryz.f7) aa;refine mZ (Xs (PR I hI 7) (fn:=Tryz.f7) (tG aa ae) aa Y fun p hp=>?_) (PR I hI 7);simp only [XG,aw,amn,or_false] at hp;rcases hp with rfl|rfl
  ·exact akC
  ·exact akB
 ·exact K7 I hI g h hh
noncomputable def ahS (g:Nat):List W->St->T (W×St):=Ee SM ft X1 (BK SM hints) 100000 60 g
theorem M_ (I:bI) (hI: ∀ρ ro h,I.ok ρ ro h->base.ok ro h) (g:Nat):@iE I Tryz.prog g (ahS g):=@s5 _ I _ tW _ _ GS _ (X0 I hI) _ (fun _ hc=>@rQ _ I _ tW mixed _ _ hc) 100000 60 g
theorem Ph:GR [] (.bool (.lit true)) (ahS 6)=true:=aa
end Go.As.Try
end

import Derived.Test.YtniglnbdppnhoaaGreatDoorCards
import Derived.Test.YtniglnbdppnhoaaGreatDoorTie
import Derived.ProofKit
import Derived.Deep.DeepHandedRow
import Derived.LaidLaws
import Derived.Test.YtniglnbdppnhoaaGreatDoorAsZR2
set_option linter.unusedSectionVars false
set_option linter.unusedVariables false
set_option linter.unusedSimpArgs false
section
namespace Go.As.Try
open Go Go.As Go.Proofs Go.RowKit
set_option maxRecDepth 100000
def maxLen:Nat:=Tryz.laysM144_ren.g 1
def base:wK where
 ok ro h:=ro maxLen/\∃m,eN h maxLen 0=some (.int .i64 m)
 bw:=by intro ro jW h h' R O U;obtain⟨a,m,hm⟩:=R;refine⟨O _ a,m,?_⟩;unfold eN at *;rw [U _ a];exact hm
noncomputable def Gh:TT:=Dd 241 F2
noncomputable def AQ:TT:=vq [(101,4)] Gh
noncomputable def ft:Nat->Option Func:=Dd 169 tW
def IV:List (Nat×Nat):=[(101,4)]
noncomputable def hints:Nat->Nat->Option tk:=K1 Hh
theorem oq:bV Tryz.prog AQ:=C3 (tt:=Gh) (CC AO)
theorem y9:DP Tryz.prog (x8 AQ hints) ft:=by unfold AQ; rw [Cc]; exact Du vU BM
def b (n:Nat):Z:=.int .u8 (.lit (.ofNat n))
def rp:Z:=.agg [b 0,b 0,b 0,b 0,b 0,b 0,b 0,b 0,b 0,b 1,b 1,b 0,b 0,b 1,b 0,b 0,b 0,b 0,b 0,b 0,b 0,b 0,b 0,b 0,b 0,b 0,b 0,b 0,b 0,b 0,b 0,b 0,b 1,b 0,b 0,b 2,b 0,b 0,b 0,b 0,b 5,b 5,b 5,b 5,b 0,b 5,b 0,b 0,b 3,b 3,b 3,b 3,b 3,b 3,b 3,b 3,b 3,b 3,b 0,b 5,b 5,b 5,b 0,b 0,b 0,b 4,b 4,b 4,b 4,b 4,b 4,b 4,b 4,b 4,b 4,b 4,b 4,b 4,b 4,b 4,b 4,b 4,b 4,b 4,b 4,b 4,b 4,b 4,b 4,b 4,b 4,b 0,b 0,b 0,b 0,b 4,b 0,b 4,b 4,b 4,b 4,b 4,b 4,b 4,b 4,b 4,b 4,b 4,b 4,b 4,b 4,b 4,b 4,b 4,b 4,b 4,b 4,b 4,b 4,b 4,b 4,b 4,b 4,b 5,b 0,b 5,b 0,b 0,b 0,b 0,b 0,b 0,b 0,b 0,b 0,b 0,b 0,b 0,b 0,b 0,b 0,b 0,b 0,b 0,b 0,b 0,b 0,b 0,b 0,b 0,b 0,b 0,b 0,b 0,b 0,b 0,b 0,b 0,b 0,b 0,b 0,b 0,b 0,b 0,b 0,b 0,b 0,b 0,b 0,b 0,b 0,b 0,b 0,b 0,b 0,b 0,b 0,b 0,b 0,b 0,b 0,b 0,b 0,b 0,b 0,b 0,b 0,b 0,b 0,b 0,b 0,b 0,b 0,b 0,b 0,b 0,b 0,b 0,b 0,b 0,b 0,b 0,b 0,b 0,b 0,b 0,b 0,b 0,b 0,b 0,b 0,b 0,b 0,b 0,b 0,b 0,b 0,b 0,b 0,b 0,b 0,b 0,b 0,b 0,b 0,b 0,b 0,b 0,b 0,b 0,b 0,b 0,b 0,b 0,b 0,b 0,b 0,b 0,b 0,b 0,b 0,b 0,b 0,b 0,b 0,b 0,b 0,b 0,b 0,b 0,b 0,b 0,b 0,b 0,b 0,b 0]
theorem oL {g:Nat} {f:Func} (h:tW.get g=some f) (hg:g<169):Tryz.prog.funcs[g]?=some f:=by have:=congrArg (fun l=>l[g]?) vU;simp only [bc,abu hg,aR,af] at this;rw [<- this];exact h
theorem EC {g:Nat} {f:Func} (hf:Tryz.prog.funcs[g]?=some f) (hn:(f.name == "runtime.NumGoroutine")=false) (K:f.body.isNone=false): ∀(args:Array Value) (w:World),(callFunc g args).run Tryz.prog w= .ok (.enter g args) w:=by intro args w;unfold callFunc;simp only [Sem.run_bind,run_program,Result.andThen_ok,hf];rw [hn,K];simp
def y5 (g:Nat):Option (List Z->St->T (Z×St)):=
 match Nat.beq g 116 with
 |true=>some ji
 |false=>match Nat.beq g 136 with
  |true=>some jh
  |false=>match Nat.beq g 85 with
   |true=>some fN
   |false=>none
theorem GJ:Tryz.laysM144_ren.f 144=85:=aa
section
variable (Y?:bp) (hI: ∀ρ ro h,Y?.ok ρ ro h->base.ok ro h)
theorem f116:@fh Y? Tryz.prog 116 ji:=@Ay _ Y? 116 Tryz.f116 (oL aa ae) aa aa aa aa
theorem f136:@fh Y? Tryz.prog 136 jh:=@Ab _ Y? 136 Tryz.f136 (oL aa ae) aa aa aa aa
include hI in
theorem f85:@fh Y? Tryz.prog 85 fN:=by letI:=Y?;refine uM ?_ (EC (f:=Tryz.f85) (oL aa ae) aa aa);intro ρ ro w hw s sub hs;obtain⟨_,m,hm⟩:=hI _ _ _ hw;have:=Any.strings_Contains { Tryz.laysM144 with } s sub m w hs (by rw [gj]; exact hm);rw [GJ] at this;exact this
include hI in
theorem vO: ∀(g:Nat) (h:List Z->St->T (Z×St)),y5 g=some h->@fh Y? Tryz.prog g h:=by
 intro g h hh;unfold y5 at hh;split at hh
 ·rename_i hg;have:=aq hg;subst this;simp at hh;subst hh;exact f116 Y?
 ·split at hh
  ·rename_i hg;have:=aq hg;subst this;simp at hh;subst hh;exact f136 Y?
  ·split at hh
   ·rename_i hg;have:=aq hg;subst this;simp at hh;subst hh;exact f85 Y? hI
   ·simp at hh
end
noncomputable def Gq (g:Nat):List Z->St->T (Z×St):=rO AQ ft y5 (tb AQ hints) 100000 60 g
theorem CU (Y?:bp) (hI: ∀ρ ro h,Y?.ok ρ ro h->base.ok ro h) (g:Nat):@fh Y? Tryz.prog g (Gq g):=@mN _ Y? _ oq _ _ y9 _ (vO Y? hI) _ (fun _ B=>@mT _ Y? _ oq mixed _ _ B) 100000 60 g
theorem wC:sM [] rp (Gq 80)=true:=aa
theorem mY {f:Func} (h:f.body.isSome=true): ∃c,f.body=some c:=abf.1 h
theorem x7 (Y?:bp) (hI: ∀ρ ro h,Y?.ok ρ ro h->base.ok ro h):@fh Y? Tryz.prog 80 (z6 [] rp):=by letI:=Y?;obtain⟨c,K⟩:=mY (f:=Tryz.f80) aa;exact yF (CU Y? hI 80) (fn:=Tryz.f80) (oL aa ae) aa K wC
def y4 (g:Nat):Option (List Z->St->T (Z×St)):=
 match Nat.beq g 80 with
 |true=>some (z6 [] rp)
 |false=>y5 g
theorem vN (Y?:bp) (hI: ∀ρ ro h,Y?.ok ρ ro h->base.ok ro h): ∀(g:Nat) (h:List Z->St->T (Z×St)),y4 g=some h->@fh Y? Tryz.prog g h:=by
 intro g h hh;unfold y4 at hh;split at hh
 ·rename_i hg;have:=aq hg;subst this;simp at hh;subst hh;exact x7 Y? hI
 ·exact vO Y? hI g h hh
noncomputable def wZ (g:Nat):List Z->St->T (Z×St):=rO AQ ft y4 (tb AQ hints) 100000 60 g
theorem pd (Y?:bp) (hI: ∀ρ ro h,Y?.ok ρ ro h->base.ok ro h) (g:Nat):@fh Y? Tryz.prog g (wZ g):=@mN _ Y? _ oq _ _ y9 _ (vN Y? hI) _ (fun _ B=>@mT _ Y? _ oq mixed _ _ B) 100000 60 g
def yV:List Z:=[.agg [.ro [.int .u8 (.lit 1),.str [109],.int .i64 (.lit 0),.str [],.int .i64 (.lit 1),.int .u8 (.lit 9),.str [118],.int .i64 (.lit 0),.str [],.int .i64 (.lit 1)] 2 false,.ro [.str [97],.ro [.int .u8 (.lit 1),.int .u8 (.lit 1),.str [109],.str [],.int .i64 (.lit 0),.bE,.bE,.bE,.int .i64 (.lit 1),.int .u8 (.lit 1),.int .u8 (.lit 22),.str [118],.str [120],.int .i64 (.lit 0),.bE,.bE,.bE,.int .i64 (.lit 1),.int .u8 (.lit 1),.int .u8 (.lit 2),.str [109],.str [],.int .i64 (.lit 0),.bE,.bE,.bE,.int .i64 (.lit 1)] 3 false,.int .i64 (.lit 1),.str [98],.ro [.int .u8 (.lit 1),.int .u8 (.lit 23),.str [118],.str [],.int .i64 (.lit 0),.ro [.int .u8 (.lit 1),.str [],.int .i64 (.lit 1),.bE] 1 false,.bE,.bE,.int .i64 (.lit 1)] 1 false,.int .i64 (.lit 1)] 2 false]]
theorem G5:n3 yV (.agg [.int .i64 (.lit 0),.int .i64 (.lit 0)]) (wZ 26)=true:=aa
def yU:List Z:=[.agg [.ro [.int .u8 (.lit 2),.str [119],.int .i64 (.lit 0),.str [],.int .i64 (.lit 1),.int .u8 (.lit 9),.str [118],.int .i64 (.lit 0),.str [],.int .i64 (.lit 1)] 2 false,.ro [.str [97],.ro [.int .u8 (.lit 1),.int .u8 (.lit 7),.str [119],.str [],.int .i64 (.lit 0),.bE,.bE,.bE,.int .i64 (.lit 1),.int .u8 (.lit 1),.int .u8 (.lit 23),.str [118],.str [],.int .i64 (.lit 0),.ro [.int .u8 (.lit 1),.str [],.int .i64 (.lit 1),.bE] 1 false,.bE,.bE,.int .i64 (.lit 1),.int .u8 (.lit 1),.int .u8 (.lit 8),.str [119],.str [],.int .i64 (.lit 0),.bE,.bE,.bE,.int .i64 (.lit 1)] 3 false,.int .i64 (.lit 1),.str [98],.ro [.int .u8 (.lit 1),.int .u8 (.lit 5),.str [119],.str [],.int .i64 (.lit 0),.bE,.bE,.bE,.int .i64 (.lit 1),.int .u8 (.lit 1),.int .u8 (.lit 22),.str [118],.str [120],.int .i64 (.lit 0),.bE,.bE,.bE,.int .i64 (.lit 1),.int .u8 (.lit 1),.int .u8 (.lit 6),.str [119],.str [],.int .i64 (.lit 0),.bE,.bE,.bE,.int .i64 (.lit 1)] 3 false,.int .i64 (.lit 1)] 2 false]]
theorem G4:n3 yU (.agg [.int .i64 (.lit 0),.int .i64 (.lit 0)]) (wZ 26)=true:=aa
def yP:List (List Z×Z):=[(yV,.agg [.int .i64 (.lit 0),.int .i64 (.lit 0)]),(yU,.agg [.int .i64 (.lit 0),.int .i64 (.lit 0)])]
def yT:List Z:=[.agg [.ro [.int .u8 (.lit 1),.str [109],.int .i64 (.lit 0),.str [],.int .i64 (.lit 1),.int .u8 (.lit 9),.str [118],.int .i64 (.lit 0),.str [],.int .i64 (.lit 1)] 2 false,.ro [.str [97],.ro [.str [120]] 1 false,.ro [.int .u8 (.lit 1),.int .u8 (.lit 1),.int .i64 (.lit 0),.int .i64 (.lit (-1)),.int .i64 (.lit 0),.int .i64 (.lit 0),.bE,.int .u8 (.lit 1),.int .u8 (.lit 22),.int .i64 (.lit 1),.int .i64 (.lit 0),.int .i64 (.lit 0),.int .i64 (.lit 0),.bE,.int .u8 (.lit 1),.int .u8 (.lit 2),.int .i64 (.lit 0),.int .i64 (.lit (-1)),.int .i64 (.lit 0),.int .i64 (.lit 0),.bE] 3 false,.str [98],.bE,.ro [.int .u8 (.lit 1),.int .u8 (.lit 23),.int .i64 (.lit 1),.int .i64 (.lit (-1)),.int .i64 (.lit 0),.int .i64 (.lit 0),.ro [.int .u8 (.lit 1),.str [],.int .i64 (.lit 1),.bE] 1 false] 1 false] 2 false]]
theorem G3:n3 yT (.int .i64 (.lit 0)) (wZ 30)=true:=aa
def yS:List Z:=[.agg [.ro [.int .u8 (.lit 2),.str [119],.int .i64 (.lit 0),.str [],.int .i64 (.lit 1),.int .u8 (.lit 9),.str [118],.int .i64 (.lit 0),.str [],.int .i64 (.lit 1)] 2 false,.ro [.str [97],.bE,.ro [.int .u8 (.lit 1),.int .u8 (.lit 7),.int .i64 (.lit 0),.int .i64 (.lit (-1)),.int .i64 (.lit 0),.int .i64 (.lit 0),.bE,.int .u8 (.lit 1),.int .u8 (.lit 23),.int .i64 (.lit 1),.int .i64 (.lit (-1)),.int .i64 (.lit 0),.int .i64 (.lit 0),.ro [.int .u8 (.lit 1),.str [],.int .i64 (.lit 1),.bE] 1 false,.int .u8 (.lit 1),.int .u8 (.lit 8),.int .i64 (.lit 0),.int .i64 (.lit (-1)),.int .i64 (.lit 0),.int .i64 (.lit 0),.bE] 3 false,.str [98],.ro [.str [120]] 1 false,.ro [.int .u8 (.lit 1),.int .u8 (.lit 5),.int .i64 (.lit 0),.int .i64 (.lit (-1)),.int .i64 (.lit 0),.int .i64 (.lit 0),.bE,.int .u8 (.lit 1),.int .u8 (.lit 22),.int .i64 (.lit 1),.int .i64 (.lit 0),.int .i64 (.lit 0),.int .i64 (.lit 0),.bE,.int .u8 (.lit 1),.int .u8 (.lit 6),.int .i64 (.lit 0),.int .i64 (.lit (-1)),.int .i64 (.lit 0),.int .i64 (.lit 0),.bE] 3 false] 2 false]]
theorem G2:n3 yS (.int .i64 (.lit 0)) (wZ 30)=true:=aa
def yO:List (List Z×Z):=[(yT,.int .i64 (.lit 0)),(yS,.int .i64 (.lit 0))]
noncomputable def y3 (g:Nat):Option (List Z->St->T (Z×St)):=
 match Nat.beq g 26 with
 |true=>some (orElse (yG yP) (wZ 26))
 |false=>match Nat.beq g 30 with
 |true=>some (orElse (yG yO) (wZ 30))
 |false=>y4 g
theorem vM (Y?:bp) (hI: ∀ρ ro h,Y?.ok ρ ro h->base.ok ro h): ∀(g:Nat) (h:List Z->St->T (Z×St)),y3 g=some h->@fh Y? Tryz.prog g h:=by
 intro g h hh;letI:=Y?;unfold y3 at hh;split at hh
 ·rename_i hg;have:=aq hg;subst this;simp only [af] at hh;subst hh;obtain⟨c,K⟩:=mY (f:=Tryz.f26) aa;refine ss (vA (pd Y? hI 26) (fn:=Tryz.f26) (oL aa ae) aa K fun p F=>?_) (pd Y? hI 26);simp only [yP,aw,aaJ,or_false] at F;rcases F with rfl|rfl
  ·exact G5
  ·exact G4
 ·skip;split at hh
  ·rename_i hg;have:=aq hg;subst this;simp only [af] at hh;subst hh;obtain⟨c,K⟩:=mY (f:=Tryz.f30) aa;refine ss (vA (pd Y? hI 30) (fn:=Tryz.f30) (oL aa ae) aa K fun p F=>?_) (pd Y? hI 30);simp only [yO,aw,aaJ,or_false] at F;rcases F with rfl|rfl
   ·exact G3
   ·exact G2
  ·skip;exact vN Y? hI g h hh
noncomputable def Gp (g:Nat):List Z->St->T (Z×St):=rO AQ ft y3 (tb AQ hints) 100000 60 g
theorem CT (Y?:bp) (hI: ∀ρ ro h,Y?.ok ρ ro h->base.ok ro h) (g:Nat):@fh Y? Tryz.prog g (Gp g):=@mN _ Y? _ oq _ _ y9 _ (vM Y? hI) _ (fun _ B=>@mT _ Y? _ oq mixed _ _ B) 100000 60 g
theorem x9:sM [] (.bool (.lit true)) (Gp 7)=true:=aa
section
variable (Y?:bp) (hI: ∀ρ ro h,Y?.ok ρ ro h->base.ok ro h)
include hI
theorem Az:@fh Y? Tryz.prog 7 (z6 [] (.bool (.lit true))):=by letI:=Y?;obtain⟨c,K⟩:=mY (f:=Tryz.f7) aa;exact yF (CT Y? hI 7) (fn:=Tryz.f7) (oL aa ae) aa K x9
end
end Go.As.Try
end
section
namespace Go.As.Try
open Go hiding Stat
open Go.As Go.Proofs Go.RowKit Go.ChangeShapes Go.WideShapes Go.ChangeAt
open Go.Proofs.YtniglnbdppnhoaaGreatDoor
set_option maxRecDepth 100000
theorem own:ownKnob Tryz.prog.godebug=none:=aa
theorem laidOut:laidOutB Tryz.prog=true:=aa
def EI:TypeId->Option Nat:=oM (IV.take 0)
def IW (P:Program) (own:TypeId->Option Nat) (l:List (Nat×Nat)):Bool:=l.all fun p=>match P.underlying p.1 with
 |some (.slice e)=>decide (ke P own 8 e=some (eB p.2))&&Nat.beq (P.cellsOf e) (eB p.2).length&&Nat.ble (uP p.2) (P.bytesOf e)&&Nat.ble 1 (eB p.2).length
 |_=>false
theorem sU {t i:Nat}: ∀{l:List (Nat×Nat)},oM l t=some i->(t,i)∈l
 |[],h=>by simp [oM] at h
 |(a,k)::l,h=>by
  unfold oM at h;split at h
  ·rename_i K;have:=aq K;simp only [af] at h;subst this h;simp
  ·exact List.mem_cons_of_mem _ (sU h)
theorem C6 {P:Program} {l:List (Nat×Nat)} (h:IW P (oM l) l=true):Cq P (oM l):=by
 intro t i cN;have:=aE.1 h _ (sU cN);simp only at this;split at this
 ·rename_i e he;simp only [an,decide_eq_true_eq] at this;exact⟨e,8,he,this.1.1.1,aq this.1.1.2,aaZ this.1.2,aaZ this.2⟩
 ·simp at this
theorem C4:Cq Tryz.prog EI:=C6 aa
theorem Ds {Z':World} (h:Z'.ShapedOpen Tryz.prog):base.ok (w5 Z') Z'.heap:=by obtain⟨m,hm⟩:=LaysM.n144.s1_3 Tryz.laysM144 Z' h;exact⟨zt hm,m,by rw [<- gj]; exact hm⟩
def yK:DataW Unit->Value
 | .lit (.int k n)=> .int k n
 |_=>undef
def FV:DataW Unit->Array Value
 | .agg l=>(l.map yK).toArray
 |d=> #[yK d]
def GX (d:DataW Unit):Obj->Obj
 | .cells _ t f=> .cells (FV d) t f
 |o=>o
noncomputable def ES (h:Array Obj) (x:String×DataW Unit):Array Obj:=match Tryz.prog.globalNamed x.1 with
 |some g=>h.modify g (GX x.2)
 |none=>h
noncomputable def nM (os:Os):World:=
 { World.holding Tryz.prog os ⟨#[],#[],[]⟩ with heap:=Rows.heldReadsRow.laid.foldl ES (World.holding Tryz.prog os ⟨#[],#[],[]⟩).heap }
end Go.As.Try
end
section
namespace Go.As.Try
open Go hiding Stat
open Go.As Go.Proofs Go.RowKit
set_option maxRecDepth 100000
noncomputable def BA (g:Nat):Option (List Z->St->T (Z×St)):=
 match Nat.beq g 7 with
 |true=>some (z6 [] (.bool (.lit true)))
 |false=>y3 g
theorem Bz (Y?:bp) (hI: ∀ρ ro h,Y?.ok ρ ro h->base.ok ro h): ∀(g:Nat) (h:List Z->St->T (Z×St)),BA g=some h->@fh Y? Tryz.prog g h:=by
 intro g h hh;unfold BA at hh;split at hh
 ·rename_i hg;have:=aq hg;subst this;simp at hh;subst hh;exact Az Y? hI
 ·exact vM Y? hI g h hh
noncomputable def Gn (g:Nat):List Z->St->T (Z×St):=rO AQ ft BA (tb AQ hints) 100000 60 g
theorem CR (Y?:bp) (hI: ∀ρ ro h,Y?.ok ρ ro h->base.ok ro h) (g:Nat):@fh Y? Tryz.prog g (Gn g):=@mN _ Y? _ oq _ _ y9 _ (Bz Y? hI) _ (fun _ B=>@mT _ Y? _ oq mixed _ _ B) 100000 60 g
def two (a b:Bool):Z:=.agg [.bool (.lit a),.bool (.lit b)]
def runs (a b c d:Bool):Prop:=sM [two a b,two c d] (.bool (.lit true)) (Gn 3)=true
end Go.As.Try
end

import Derived.Test.YtbmkacliajebmaaGreatDoorAsZS3
set_option linter.unusedSectionVars false
set_option linter.unusedVariables false
set_option linter.unusedSimpArgs false
section
namespace Go.As.Try
open Go Go.As Go.Proofs Go.RowKit
set_option maxRecDepth 100000
def maxLen:Nat:=Tryz.laysM144_ren.g 1
def base:Mm where
 ok ro h:=ro maxLen/\∃m,jE h maxLen 0=some (.int .i64 m)
 bX:=by intro ro mb h h' hk U Z;obtain⟨a,m,hm⟩:=hk;refine⟨U _ a,m,?_⟩;unfold jE at *;rw [Z _ a];exact hm
noncomputable def SM:TT:=Gx 300 tab
noncomputable def ft:Nat->Option Func:=Gx 228 IQ
def ah5:List (Nat×Nat):=[(22,3),(23,4),(26,0),(34,2),(35,5),(47,6),(66,9),(67,7),(68,8),(75,11),(130,10),(138,0),(224,12),(231,14),(238,14),(108,1),(242,0),(266,1),(184,2),(132,100),(185,5),(133,6)]
noncomputable def ttE:TT:=KD ah5 SM
noncomputable def hints:Nat->Nat->Option zF:=hAt aiv
theorem tW:ep Tryz.prog SM:=F_ Vq
theorem Vs:ep Tryz.prog ttE:=Q! tW
theorem GS:Ux Tryz.prog (JC SM hints) ft:=aad Lm Yw
theorem afi:Ux Tryz.prog (JC ttE hints) ft:=by unfold ttE; rw [a!]; exact GS
def b (n:Nat):W:=.int .u8 (.lit (.ofNat n))
def EI:W:=.agg [b 0,b 0,b 0,b 0,b 0,b 0,b 0,b 0,b 0,b 1,b 1,b 0,b 0,b 1,b 0,b 0,b 0,b 0,b 0,b 0,b 0,b 0,b 0,b 0,b 0,b 0,b 0,b 0,b 0,b 0,b 0,b 0,b 1,b 0,b 0,b 2,b 0,b 0,b 0,b 0,b 5,b 5,b 5,b 5,b 0,b 5,b 0,b 0,b 3,b 3,b 3,b 3,b 3,b 3,b 3,b 3,b 3,b 3,b 0,b 5,b 5,b 5,b 0,b 0,b 0,b 4,b 4,b 4,b 4,b 4,b 4,b 4,b 4,b 4,b 4,b 4,b 4,b 4,b 4,b 4,b 4,b 4,b 4,b 4,b 4,b 4,b 4,b 4,b 4,b 4,b 4,b 0,b 0,b 0,b 0,b 4,b 0,b 4,b 4,b 4,b 4,b 4,b 4,b 4,b 4,b 4,b 4,b 4,b 4,b 4,b 4,b 4,b 4,b 4,b 4,b 4,b 4,b 4,b 4,b 4,b 4,b 4,b 4,b 5,b 0,b 5,b 0,b 0,b 0,b 0,b 0,b 0,b 0,b 0,b 0,b 0,b 0,b 0,b 0,b 0,b 0,b 0,b 0,b 0,b 0,b 0,b 0,b 0,b 0,b 0,b 0,b 0,b 0,b 0,b 0,b 0,b 0,b 0,b 0,b 0,b 0,b 0,b 0,b 0,b 0,b 0,b 0,b 0,b 0,b 0,b 0,b 0,b 0,b 0,b 0,b 0,b 0,b 0,b 0,b 0,b 0,b 0,b 0,b 0,b 0,b 0,b 0,b 0,b 0,b 0,b 0,b 0,b 0,b 0,b 0,b 0,b 0,b 0,b 0,b 0,b 0,b 0,b 0,b 0,b 0,b 0,b 0,b 0,b 0,b 0,b 0,b 0,b 0,b 0,b 0,b 0,b 0,b 0,b 0,b 0,b 0,b 0,b 0,b 0,b 0,b 0,b 0,b 0,b 0,b 0,b 0,b 0,b 0,b 0,b 0,b 0,b 0,b 0,b 0,b 0,b 0,b 0,b 0,b 0,b 0,b 0,b 0,b 0,b 0,b 0,b 0,b 0,b 0,b 0,b 0,b 0]
theorem tG {g:Nat} {f:Func} (h:IQ.get g=some f) (hg:g<228):Tryz.prog.funcs[g]?=some f:=by have:=congrArg (fun l=>l[g]?) Lm;simp only [bn,am8 hg,bw,ag] at this;rw [<- this];exact h
theorem aef {g:Nat} {f:Func} (hf:Tryz.prog.funcs[g]?=some f) (hn:(f.name == "runtime.NumGoroutine")=false) (Y:f.body.isNone=false): ∀(args:Array Value) (w:World),(callFunc g args).run Tryz.prog w= .ok (.enter g args) w:=by intro args w;unfold callFunc;simp only [Sem.run_bind,run_program,Result.andThen_ok,hf];rw [hn,Y];simp
def Rn (g:Nat):Option (List W->St->T (W×St)):=
 match Nat.beq g 125 with
 |true=>some sI
 |false=>match Nat.beq g 193 with
  |true=>some sH
  |false=>match Nat.beq g 92 with
   |true=>some nv
   |false=>none
theorem ahV:Tryz.laysM144_ren.f 144=92:=aa
section
variable (I:bI) (hI: ∀ρ ro h,I.ok ρ ro h->base.ok ro h)
theorem f125:@iE I Tryz.prog 125 sI:=@Ui _ I 125 Tryz.f125 (tG aa ae) aa aa aa aa
theorem f193:@iE I Tryz.prog 193 sH:=@TG _ I 193 Tryz.f193 (tG aa ae) aa aa aa aa
include hI in
theorem f92:@iE I Tryz.prog 92 nv:=by letI:=I;refine Jz ?_ (aef (f:=Tryz.f92) (tG aa ae) aa aa);intro ρ ro w hw s sub hs;obtain⟨_,m,hm⟩:=hI _ _ _ hw;have:=Any.strings_Contains { Tryz.laysM144 with } s sub m w hs (by rw [nQ]; exact hm);rw [ahV] at this;exact this
include hI in
theorem La: ∀(g:Nat) (h:List W->St->T (W×St)),Rn g=some h->@iE I Tryz.prog g h:=by
 intro g h hh;unfold Rn at hh;split at hh
 ·rename_i hg;have:=aq hg;subst this;simp at hh;subst hh;exact f125 I
 ·split at hh
  ·rename_i hg;have:=aq hg;subst this;simp at hh;subst hh;exact f193 I
  ·split at hh
   ·rename_i hg;have:=aq hg;subst this;simp at hh;subst hh;exact f92 I hI
   ·simp at hh
end
noncomputable def ahT (g:Nat):List W->St->T (W×St):=Ee SM ft Rn (BK SM hints) 100000 60 g
theorem M! (I:bI) (hI: ∀ρ ro h,I.ok ρ ro h->base.ok ro h) (g:Nat):@iE I Tryz.prog g (ahT g):=@s5 _ I _ tW _ _ GS _ (La I hI) _ (fun _ hc=>@rQ _ I _ tW mixed _ _ hc) 100000 60 g
theorem L1:GR [] EI (ahT 87)=true:=aa
theorem oG {f:Func} (h:f.body.isSome=true): ∃c,f.body=some c:=amy.1 h
theorem Pd (I:bI) (hI: ∀ρ ro h,I.ok ρ ro h->base.ok ro h):@iE I Tryz.prog 87 (Fe [] EI):=by letI:=I;obtain⟨c,Y⟩:=oG (f:=Tryz.f87) aa;exact Cm (M! I hI 87) (fn:=Tryz.f87) (tG aa ae) aa Y L1
def K9 (g:Nat):Option (List W->St->T (W×St)):=
 match Nat.beq g 87 with
 |true=>some (Fe [] EI)
 |false=>Rn g
theorem DJ (I:bI) (hI: ∀ρ ro h,I.ok ρ ro h->base.ok ro h): ∀(g:Nat) (h:List W->St->T (W×St)),K9 g=some h->@iE I Tryz.prog g h:=by
 intro g h hh;unfold K9 at hh;split at hh
 ·rename_i hg;have:=aq hg;subst this;simp at hh;subst hh;exact Pd I hI
 ·exact La I hI g h hh
noncomputable def C5 (g:Nat):List W->St->T (W×St):=Ee SM ft K9 (BK SM hints) 100000 60 g
theorem pR (I:bI) (hI: ∀ρ ro h,I.ok ρ ro h->base.ok ro h) (g:Nat):@iE I Tryz.prog g (C5 g):=@s5 _ I _ tW _ _ GS _ (DJ I hI) _ (fun _ hc=>@rQ _ I _ tW mixed _ _ hc) 100000 60 g
def Ca:List Nat:=[109,117,116,101,120,32,109,59,32,116,104,114,101,97,100,32,97,32,123,32,108,111,99,107,32,109,59,32,125,32,116,104,114,101,97,100,32,98,32,123,32,108,111,99,107,32,109,59,32,117,110,108,111,99,107,32,109,59,32,117,110,108,111,99,107,32,109,59,32,125]
def AZ:List Nat:=[118,97,114,32,118,32,48,59,32,116,104,114,101,97,100,32,97,32,123,32,119,114,105,116,101,32,118,32,49,59,32,125,32,116,104,114,101,97,100,32,98,32,123,32,114,101,97,100,32,118,32,45,62,32,120,59,32,115,101,116,32,120,32,50,59,32,125]
abbrev wN (t:List Nat) (n:Int):List W:=[.str t,.int .i64 (.lit n)]
abbrev wV (k:Int) (s:List Nat) (a b c d:Int):W:=.tuple [.agg [.int .u8 (.lit k),.str s,.int .i64 (.lit a),.int .i64 (.lit b),.int .i64 (.lit c),.int .i64 (.lit d)],.agg [.int .i64 (.lit 0),.int .i64 (.lit 0)]]
theorem aey:GR [.str [97]] (.bool (.lit true)) (C5 65)=true:=aa
theorem aex:GR [.str [98]] (.bool (.lit true)) (C5 65)=true:=aa
def QP:List (List W×W):=[(wN Ca 0,wV 3 [109,117,116,101,120] 0 1 0 5),(wN Ca 5,wV 2 [109] 0 1 6 7),(wN Ca 7,wV 4 [59] 0 1 7 8),(wN Ca 8,wV 3 [116,104,114,101,97,100] 0 1 9 15),(wN Ca 15,wV 2 [97] 0 1 16 17),(wN Ca 17,wV 4 [123] 0 1 18 19),(wN Ca 19,wV 3 [108,111,99,107] 0 1 20 24),(wN Ca 24,wV 2 [109] 0 1 25 26),(wN Ca 26,wV 4 [59] 0 1 26 27),(wN Ca 27,wV 4 [125] 0 1 28 29),(wN Ca 29,wV 3 [116,104,114,101,97,100] 0 1 30 36),(wN Ca 36,wV 2 [98] 0 1 37 38),(wN Ca 38,wV 4 [123] 0 1 39 40),(wN Ca 40,wV 3 [108,111,99,107] 0 1 41 45),(wN Ca 45,wV 2 [109] 0 1 46 47),(wN Ca 47,wV 4 [59] 0 1 47 48),(wN Ca 48,wV 3 [117,110,108,111,99,107] 0 1 49 55),(wN Ca 55,wV 2 [109] 0 1 56 57),(wN Ca 57,wV 4 [59] 0 1 57 58),(wN Ca 58,wV 3 [117,110,108,111,99,107] 0 1 59 65),(wN Ca 65,wV 2 [109] 0 1 66 67),(wN Ca 67,wV 4 [59] 0 1 67 68),(wN Ca 68,wV 4 [125] 0 1 69 70),(wN Ca 70,wV 5 [] 0 1 70 70),(wN AZ 0,wV 3 [118,97,114] 0 1 0 3),(wN AZ 3,wV 2 [118] 0 1 4 5),(wN AZ 5,wV 1 [] 0 1 6 7),(wN AZ 7,wV 4 [59] 0 1 7 8),(wN AZ 8,wV 3 [116,104,114,101,97,100] 0 1 9 15),(wN AZ 15,wV 2 [97] 0 1 16 17),(wN AZ 17,wV 4 [123] 0 1 18 19),(wN AZ 19,wV 3 [119,114,105,116,101] 0 1 20 25),(wN AZ 25,wV 2 [118] 0 1 26 27),(wN AZ 27,wV 1 [] 1 1 28 29),(wN AZ 29,wV 4 [59] 0 1 29 30),(wN AZ 30,wV 4 [125] 0 1 31 32),(wN AZ 32,wV 3 [116,104,114,101,97,100] 0 1 33 39),(wN AZ 39,wV 2 [98] 0 1 40 41),(wN AZ 41,wV 4 [123] 0 1 42 43),(wN AZ 43,wV 3 [114,101,97,100] 0 1 44 48),(wN AZ 48,wV 2 [118] 0 1 49 50),(wN AZ 50,wV 4 [45,62] 0 1 51 53),(wN AZ 53,wV 2 [120] 0 1 54 55),(wN AZ 55,wV 4 [59] 0 1 55 56),(wN AZ 56,wV 3 [115,101,116] 0 1 57 60),(wN AZ 60,wV 2 [120] 0 1 61 62),(wN AZ 62,wV 1 [] 2 1 63 64),(wN AZ 64,wV 4 [59] 0 1 64 65),(wN AZ 65,wV 4 [125] 0 1 66 67),(wN AZ 67,wV 5 [] 0 1 67 67)]
theorem akx:QP.all (fun p=>qQ p.1 p.2 (C5 56))=true:=aa
def QW:List W:=[.agg [.ro [.int .u8 (.lit 1),.str [109],.int .i64 (.lit 0),.str [],.int .i64 (.lit 1)] 1 false,.ro [.str [97],.ro [.int .u8 (.lit 1),.int .u8 (.lit 1),.str [109],.str [],.int .i64 (.lit 0),.eg,.eg,.eg,.int .i64 (.lit 1)] 1 false,.int .i64 (.lit 1),.str [98],.ro [.int .u8 (.lit 1),.int .u8 (.lit 1),.str [109],.str [],.int .i64 (.lit 0),.eg,.eg,.eg,.int .i64 (.lit 1),.int .u8 (.lit 1),.int .u8 (.lit 2),.str [109],.str [],.int .i64 (.lit 0),.eg,.eg,.eg,.int .i64 (.lit 1),.int .u8 (.lit 1),.int .u8 (.lit 2),.str [109],.str [],.int .i64 (.lit 0),.eg,.eg,.eg,.int .i64 (.lit 1)] 3 false,.int .i64 (.lit 1)] 2 false]]
theorem ail:qQ QW (.agg [.int .i64 (.lit 0),.int .i64 (.lit 0)]) (C5 40)=true:=aa
def QV:List W:=[.agg [.ro [.int .u8 (.lit 9),.str [118],.int .i64 (.lit 0),.str [],.int .i64 (.lit 1)] 1 false,.ro [.str [97],.ro [.int .u8 (.lit 1),.int .u8 (.lit 23),.str [118],.str [],.int .i64 (.lit 0),.ro [.int .u8 (.lit 1),.str [],.int .i64 (.lit 1),.eg] 1 false,.eg,.eg,.int .i64 (.lit 1)] 1 false,.int .i64 (.lit 1),.str [98],.ro [.int .u8 (.lit 1),.int .u8 (.lit 22),.str [118],.str [120],.int .i64 (.lit 0),.eg,.eg,.eg,.int .i64 (.lit 1),.int .u8 (.lit 2),.int .u8 (.lit 0),.str [],.str [120],.int .i64 (.lit 0),.ro [.int .u8 (.lit 1),.str [],.int .i64 (.lit 2),.eg] 1 false,.eg,.eg,.int .i64 (.lit 1)] 2 false,.int .i64 (.lit 1)] 2 false]]
theorem aik:qQ QV (.agg [.int .i64 (.lit 0),.int .i64 (.lit 0)]) (C5 40)=true:=aa
def QQ:List (List W×W):=[(QW,.agg [.int .i64 (.lit 0),.int .i64 (.lit 0)]),(QV,.agg [.int .i64 (.lit 0),.int .i64 (.lit 0)])]
def QZ:List W:=[.agg [.ro [.int .u8 (.lit 1),.str [109],.int .i64 (.lit 0),.str [],.int .i64 (.lit 1)] 1 false,.ro [.str [97],.eg,.ro [.int .u8 (.lit 1),.int .u8 (.lit 1),.int .i64 (.lit 0),.int .i64 (.lit (-1)),.int .i64 (.lit 0),.int .i64 (.lit 0),.eg] 1 false,.str [98],.eg,.ro [.int .u8 (.lit 1),.int .u8 (.lit 1),.int .i64 (.lit 0),.int .i64 (.lit (-1)),.int .i64 (.lit 0),.int .i64 (.lit 0),.eg,.int .u8 (.lit 1),.int .u8 (.lit 2),.int .i64 (.lit 0),.int .i64 (.lit (-1)),.int .i64 (.lit 0),.int .i64 (.lit 0),.eg,.int .u8 (.lit 1),.int .u8 (.lit 2),.int .i64 (.lit 0),.int .i64 (.lit (-1)),.int .i64 (.lit 0),.int .i64 (.lit 0),.eg] 3 false] 2 false]]
theorem ain:qQ QZ (.int .i64 (.lit 0)) (C5 15)=true:=aa
def QY:List W:=[.agg [.ro [.int .u8 (.lit 9),.str [118],.int .i64 (.lit 0),.str [],.int .i64 (.lit 1)] 1 false,.ro [.str [97],.eg,.ro [.int .u8 (.lit 1),.int .u8 (.lit 23),.int .i64 (.lit 0),.int .i64 (.lit (-1)),.int .i64 (.lit 0),.int .i64 (.lit 0),.ro [.int .u8 (.lit 1),.str [],.int .i64 (.lit 1),.eg] 1 false] 1 false,.str [98],.ro [.str [120]] 1 false,.ro [.int .u8 (.lit 1),.int .u8 (.lit 22),.int .i64 (.lit 0),.int .i64 (.lit 0),.int .i64 (.lit 0),.int .i64 (.lit 0),.eg,.int .u8 (.lit 3),.int .u8 (.lit 0),.int .i64 (.lit 0),.int .i64 (.lit 0),.int .i64 (.lit 0),.int .i64 (.lit 0),.ro [.int .u8 (.lit 1),.str [],.int .i64 (.lit 2),.eg] 1 false] 2 false] 2 false]]
theorem aim:qQ QY (.int .i64 (.lit 0)) (C5 15)=true:=aa
def QS:List (List W×W):=[(QZ,.int .i64 (.lit 0)),(QY,.int .i64 (.lit 0))]
noncomputable def Rm (g:Nat):Option (List W->St->T (W×St)):=
 match Nat.beq g 56 with
 |true=>some (orElse (yB QP) (C5 56))
 |false=>match Nat.beq g 40 with
 |true=>some (orElse (yB QQ) (C5 40))
 |false=>match Nat.beq g 15 with
 |true=>some (orElse (yB QS) (C5 15))
 |false=>K9 g
theorem K8 (I:bI) (hI: ∀ρ ro h,I.ok ρ ro h->base.ok ro h): ∀(g:Nat) (h:List W->St->T (W×St)),Rm g=some h->@iE I Tryz.prog g h:=by
 intro g h hh;letI:=I;unfold Rm at hh;split at hh
 ·rename_i hg;have:=aq hg;subst this;simp only [ag] at hh;subst hh;obtain⟨c,Y⟩:=oG (f:=Tryz.f56) aa;refine mZ (yA (pR I hI 56) (fn:=Tryz.f56) (tG aa ae) aa Y fun p hp=>?_) (pR I hI 56);exact aR.1 akx p hp
 ·skip;split at hh
  ·rename_i hg;have:=aq hg;subst this;simp only [ag] at hh;subst hh;obtain⟨c,Y⟩:=oG (f:=Tryz.f40) aa;refine mZ (yA (pR I hI 40) (fn:=Tryz.f40) (tG aa ae) aa Y fun p hp=>?_) (pR I hI 40);simp only [QQ,aw,amn,or_false] at hp;rcases hp with rfl|rfl
   ·exact ail
   ·exact aik
  ·skip;split at hh
   ·rename_i hg;have:=aq hg;subst this;simp only [ag] at hh;subst hh;obtain⟨c,Y⟩:=oG (f:=Tryz.f15) aa;refine mZ (yA (pR I hI 15) (fn:=Tryz.f15) (tG aa ae) aa Y fun p hp=>?_) (pR I hI 15);simp only [QS,aw,amn,or_false] at hp;rcases hp with rfl|rfl
    ·exact ain
    ·exact aim
   ·skip;exact DJ I hI g h hh
noncomputable def WW (g:Nat):List W->St->T (W×St):=Ee SM ft Rm (BK SM hints) 100000 60 g
theorem PU (I:bI) (hI: ∀ρ ro h,I.ok ρ ro h->base.ok ro h) (g:Nat):@iE I Tryz.prog g (WW g):=@s5 _ I _ tW _ _ GS _ (K8 I hI) _ (fun _ hc=>@rQ _ I _ tW mixed _ _ hc) 100000 60 g
end Go.As.Try
end

import Derived.Test.YtbmkacliajebmaaGreatDoorAsZL3
set_option linter.unusedSectionVars false
set_option linter.unusedVariables false
set_option linter.unusedSimpArgs false
section
namespace Go.As.Try
open Go Go.As Go.Proofs Go.RowKit
set_option maxRecDepth 100000
def maxLen:Nat:=Tryz.laysM144_ren.g 1
def base:LZ where
 ok ro h:=ro maxLen/\∃m,jB h maxLen 0=some (.int .i64 m)
 bX:=by intro ro l8 h h' hk U Z;obtain⟨a,m,hm⟩:=hk;refine⟨U _ a,m,?_⟩;unfold jB at *;rw [Z _ a];exact hm
noncomputable def Sa:TT:=Gi 300 tab
noncomputable def ft:Nat->Option Func:=Gi 228 Iy
def ahF:List (Nat×Nat):=[(22,3),(23,4),(26,0),(34,2),(35,5),(47,6),(66,9),(67,7),(68,8),(75,11),(130,10),(138,0),(224,12),(231,14),(238,14),(108,1),(242,0),(266,1),(184,2),(132,100),(185,5),(133,6)]
noncomputable def ttE:TT:=Kf ahF Sa
noncomputable def hints:Nat->Nat->Option zq:=hAt ah4
theorem tQ:ew Tryz.prog Sa:=t? UR
theorem UT:ew Tryz.prog ttE:=H_ tQ
theorem GF:T0 Tryz.prog (Jk Sa hints) ft:=S! K0 XT
theorem aeS:T0 Tryz.prog (Jk ttE hints) ft:=by unfold ttE; rw [ZC]; exact GF
def b (n:Nat):W:=.int .u8 (.lit (.ofNat n))
def Ev:W:=.agg [b 0,b 0,b 0,b 0,b 0,b 0,b 0,b 0,b 0,b 1,b 1,b 0,b 0,b 1,b 0,b 0,b 0,b 0,b 0,b 0,b 0,b 0,b 0,b 0,b 0,b 0,b 0,b 0,b 0,b 0,b 0,b 0,b 1,b 0,b 0,b 2,b 0,b 0,b 0,b 0,b 5,b 5,b 5,b 5,b 0,b 5,b 0,b 0,b 3,b 3,b 3,b 3,b 3,b 3,b 3,b 3,b 3,b 3,b 0,b 5,b 5,b 5,b 0,b 0,b 0,b 4,b 4,b 4,b 4,b 4,b 4,b 4,b 4,b 4,b 4,b 4,b 4,b 4,b 4,b 4,b 4,b 4,b 4,b 4,b 4,b 4,b 4,b 4,b 4,b 4,b 4,b 0,b 0,b 0,b 0,b 4,b 0,b 4,b 4,b 4,b 4,b 4,b 4,b 4,b 4,b 4,b 4,b 4,b 4,b 4,b 4,b 4,b 4,b 4,b 4,b 4,b 4,b 4,b 4,b 4,b 4,b 4,b 4,b 5,b 0,b 5,b 0,b 0,b 0,b 0,b 0,b 0,b 0,b 0,b 0,b 0,b 0,b 0,b 0,b 0,b 0,b 0,b 0,b 0,b 0,b 0,b 0,b 0,b 0,b 0,b 0,b 0,b 0,b 0,b 0,b 0,b 0,b 0,b 0,b 0,b 0,b 0,b 0,b 0,b 0,b 0,b 0,b 0,b 0,b 0,b 0,b 0,b 0,b 0,b 0,b 0,b 0,b 0,b 0,b 0,b 0,b 0,b 0,b 0,b 0,b 0,b 0,b 0,b 0,b 0,b 0,b 0,b 0,b 0,b 0,b 0,b 0,b 0,b 0,b 0,b 0,b 0,b 0,b 0,b 0,b 0,b 0,b 0,b 0,b 0,b 0,b 0,b 0,b 0,b 0,b 0,b 0,b 0,b 0,b 0,b 0,b 0,b 0,b 0,b 0,b 0,b 0,b 0,b 0,b 0,b 0,b 0,b 0,b 0,b 0,b 0,b 0,b 0,b 0,b 0,b 0,b 0,b 0,b 0,b 0,b 0,b 0,b 0,b 0,b 0,b 0,b 0,b 0,b 0,b 0,b 0]
theorem tA {g:Nat} {f:Func} (h:Iy.get g=some f) (hg:g<228):Tryz.prog.funcs[g]?=some f:=by have:=congrArg (fun l=>l[g]?) K0;simp only [bn,amJ hg,alE,ag] at this;rw [<- this];exact h
theorem adO {g:Nat} {f:Func} (hf:Tryz.prog.funcs[g]?=some f) (hn:(f.name == "runtime.NumGoroutine")=false) (Y:f.body.isNone=false): ∀(args:Array Value) (w:World),(callFunc g args).run Tryz.prog w= .ok (.enter g args) w:=by intro args w;unfold callFunc;simp only [Sem.run_bind,run_program,Result.andThen_ok,hf];rw [hn,Y];simp
def QH (g:Nat):Option (List W->St->T (W×St)):=
 match Nat.beq g 125 with
 |true=>some sA
 |false=>match Nat.beq g 193 with
  |true=>some sv
  |false=>match Nat.beq g 92 with
   |true=>some nq
   |false=>none
theorem ahv:Tryz.laysM144_ren.f 144=92:=aa
section
variable (I:bI) (hI: ∀ρ ro h,I.ok ρ ro h->base.ok ro h)
theorem f125:@iE I Tryz.prog 125 sA:=@TL _ I 125 Tryz.f125 (tA aa ae) aa aa aa aa
theorem f193:@iE I Tryz.prog 193 sv:=@S6 _ I 193 Tryz.f193 (tA aa ae) aa aa aa aa
include hI in
theorem f92:@iE I Tryz.prog 92 nq:=by letI:=I;refine Jh ?_ (adO (f:=Tryz.f92) (tA aa ae) aa aa);intro ρ ro w hw s sub hs;obtain⟨_,m,hm⟩:=hI _ _ _ hw;have:=Any.strings_Contains { Tryz.laysM144 with } s sub m w hs (by rw [nM]; exact hm);rw [ahv] at this;exact this
include hI in
theorem KM: ∀(g:Nat) (h:List W->St->T (W×St)),QH g=some h->@iE I Tryz.prog g h:=by
 intro g h hh;unfold QH at hh;split at hh
 ·rename_i hg;have:=aq hg;subst this;simp at hh;subst hh;exact f125 I
 ·split at hh
  ·rename_i hg;have:=aq hg;subst this;simp at hh;subst hh;exact f193 I
  ·split at hh
   ·rename_i hg;have:=aq hg;subst this;simp at hh;subst hh;exact f92 I hI
   ·simp at hh
end
noncomputable def aht (g:Nat):List W->St->T (W×St):=D3 Sa ft QH (Bw Sa hints) 100000 60 g
theorem C? (I:bI) (hI: ∀ρ ro h,I.ok ρ ro h->base.ok ro h) (g:Nat):@iE I Tryz.prog g (aht g):=@sS _ I _ tQ _ _ GF _ (KM I hI) _ (fun _ hc=>@rJ _ I _ tQ mixed _ _ hc) 100000 60 g
theorem LD:GD [] Ev (aht 87)=true:=aa
theorem oA {f:Func} (h:f.body.isSome=true): ∃c,f.body=some c:=al8.1 h
theorem OT (I:bI) (hI: ∀ρ ro h,I.ok ρ ro h->base.ok ro h):@iE I Tryz.prog 87 (EX [] Ev):=by letI:=I;obtain⟨c,Y⟩:=oA (f:=Tryz.f87) aa;exact B8 (C? I hI 87) (fn:=Tryz.f87) (tA aa ae) aa Y LD
def KL (g:Nat):Option (List W->St->T (W×St)):=
 match Nat.beq g 87 with
 |true=>some (EX [] Ev)
 |false=>QH g
theorem Dy (I:bI) (hI: ∀ρ ro h,I.ok ρ ro h->base.ok ro h): ∀(g:Nat) (h:List W->St->T (W×St)),KL g=some h->@iE I Tryz.prog g h:=by
 intro g h hh;unfold KL at hh;split at hh
 ·rename_i hg;have:=aq hg;subst this;simp at hh;subst hh;exact OT I hI
 ·exact KM I hI g h hh
noncomputable def CU (g:Nat):List W->St->T (W×St):=D3 Sa ft KL (Bw Sa hints) 100000 60 g
theorem pK (I:bI) (hI: ∀ρ ro h,I.ok ρ ro h->base.ok ro h) (g:Nat):@iE I Tryz.prog g (CU g):=@sS _ I _ tQ _ _ GF _ (Dy I hI) _ (fun _ hc=>@rJ _ I _ tQ mixed _ _ hc) 100000 60 g
def BW:List Nat:=[109,117,116,101,120,32,109,59,32,116,104,114,101,97,100,32,97,32,123,32,108,111,99,107,32,109,59,32,125,32,116,104,114,101,97,100,32,98,32,123,32,108,111,99,107,32,109,59,32,117,110,108,111,99,107,32,109,59,32,117,110,108,111,99,107,32,109,59,32,125]
def AL:List Nat:=[118,97,114,32,118,32,48,59,32,116,104,114,101,97,100,32,97,32,123,32,119,114,105,116,101,32,118,32,49,59,32,125,32,116,104,114,101,97,100,32,98,32,123,32,114,101,97,100,32,118,32,45,62,32,120,59,32,115,101,116,32,120,32,50,59,32,125]
abbrev wN (t:List Nat) (n:Int):List W:=[.str t,.int .i64 (.lit n)]
abbrev wV (k:Int) (s:List Nat) (a b c d:Int):W:=.tuple [.agg [.int .u8 (.lit k),.str s,.int .i64 (.lit a),.int .i64 (.lit b),.int .i64 (.lit c),.int .i64 (.lit d)],.agg [.int .i64 (.lit 0),.int .i64 (.lit 0)]]
theorem ad8:GD [.str [97]] (.bool (.lit true)) (CU 65)=true:=aa
theorem ad7:GD [.str [98]] (.bool (.lit true)) (CU 65)=true:=aa
def PW:List (List W×W):=[(wN BW 0,wV 3 [109,117,116,101,120] 0 1 0 5),(wN BW 5,wV 2 [109] 0 1 6 7),(wN BW 7,wV 4 [59] 0 1 7 8),(wN BW 8,wV 3 [116,104,114,101,97,100] 0 1 9 15),(wN BW 15,wV 2 [97] 0 1 16 17),(wN BW 17,wV 4 [123] 0 1 18 19),(wN BW 19,wV 3 [108,111,99,107] 0 1 20 24),(wN BW 24,wV 2 [109] 0 1 25 26),(wN BW 26,wV 4 [59] 0 1 26 27),(wN BW 27,wV 4 [125] 0 1 28 29),(wN BW 29,wV 3 [116,104,114,101,97,100] 0 1 30 36),(wN BW 36,wV 2 [98] 0 1 37 38),(wN BW 38,wV 4 [123] 0 1 39 40),(wN BW 40,wV 3 [108,111,99,107] 0 1 41 45),(wN BW 45,wV 2 [109] 0 1 46 47),(wN BW 47,wV 4 [59] 0 1 47 48),(wN BW 48,wV 3 [117,110,108,111,99,107] 0 1 49 55),(wN BW 55,wV 2 [109] 0 1 56 57),(wN BW 57,wV 4 [59] 0 1 57 58),(wN BW 58,wV 3 [117,110,108,111,99,107] 0 1 59 65),(wN BW 65,wV 2 [109] 0 1 66 67),(wN BW 67,wV 4 [59] 0 1 67 68),(wN BW 68,wV 4 [125] 0 1 69 70),(wN BW 70,wV 5 [] 0 1 70 70),(wN AL 0,wV 3 [118,97,114] 0 1 0 3),(wN AL 3,wV 2 [118] 0 1 4 5),(wN AL 5,wV 1 [] 0 1 6 7),(wN AL 7,wV 4 [59] 0 1 7 8),(wN AL 8,wV 3 [116,104,114,101,97,100] 0 1 9 15),(wN AL 15,wV 2 [97] 0 1 16 17),(wN AL 17,wV 4 [123] 0 1 18 19),(wN AL 19,wV 3 [119,114,105,116,101] 0 1 20 25),(wN AL 25,wV 2 [118] 0 1 26 27),(wN AL 27,wV 1 [] 1 1 28 29),(wN AL 29,wV 4 [59] 0 1 29 30),(wN AL 30,wV 4 [125] 0 1 31 32),(wN AL 32,wV 3 [116,104,114,101,97,100] 0 1 33 39),(wN AL 39,wV 2 [98] 0 1 40 41),(wN AL 41,wV 4 [123] 0 1 42 43),(wN AL 43,wV 3 [114,101,97,100] 0 1 44 48),(wN AL 48,wV 2 [118] 0 1 49 50),(wN AL 50,wV 4 [45,62] 0 1 51 53),(wN AL 53,wV 2 [120] 0 1 54 55),(wN AL 55,wV 4 [59] 0 1 55 56),(wN AL 56,wV 3 [115,101,116] 0 1 57 60),(wN AL 60,wV 2 [120] 0 1 61 62),(wN AL 62,wV 1 [] 2 1 63 64),(wN AL 64,wV 4 [59] 0 1 64 65),(wN AL 65,wV 4 [125] 0 1 66 67),(wN AL 67,wV 5 [] 0 1 67 67)]
theorem aj6:PW.all (fun p=>qK p.1 p.2 (CU 56))=true:=aa
def P2:List W:=[.agg [.ro [.int .u8 (.lit 1),.str [109],.int .i64 (.lit 0),.str [],.int .i64 (.lit 1)] 1 false,.ro [.str [97],.ro [.int .u8 (.lit 1),.int .u8 (.lit 1),.str [109],.str [],.int .i64 (.lit 0),.eg,.eg,.eg,.int .i64 (.lit 1)] 1 false,.int .i64 (.lit 1),.str [98],.ro [.int .u8 (.lit 1),.int .u8 (.lit 1),.str [109],.str [],.int .i64 (.lit 0),.eg,.eg,.eg,.int .i64 (.lit 1),.int .u8 (.lit 1),.int .u8 (.lit 2),.str [109],.str [],.int .i64 (.lit 0),.eg,.eg,.eg,.int .i64 (.lit 1),.int .u8 (.lit 1),.int .u8 (.lit 2),.str [109],.str [],.int .i64 (.lit 0),.eg,.eg,.eg,.int .i64 (.lit 1)] 3 false,.int .i64 (.lit 1)] 2 false]]
theorem ahU:qK P2 (.agg [.int .i64 (.lit 0),.int .i64 (.lit 0)]) (CU 40)=true:=aa
def P1:List W:=[.agg [.ro [.int .u8 (.lit 9),.str [118],.int .i64 (.lit 0),.str [],.int .i64 (.lit 1)] 1 false,.ro [.str [97],.ro [.int .u8 (.lit 1),.int .u8 (.lit 23),.str [118],.str [],.int .i64 (.lit 0),.ro [.int .u8 (.lit 1),.str [],.int .i64 (.lit 1),.eg] 1 false,.eg,.eg,.int .i64 (.lit 1)] 1 false,.int .i64 (.lit 1),.str [98],.ro [.int .u8 (.lit 1),.int .u8 (.lit 22),.str [118],.str [120],.int .i64 (.lit 0),.eg,.eg,.eg,.int .i64 (.lit 1),.int .u8 (.lit 2),.int .u8 (.lit 0),.str [],.str [120],.int .i64 (.lit 0),.ro [.int .u8 (.lit 1),.str [],.int .i64 (.lit 2),.eg] 1 false,.eg,.eg,.int .i64 (.lit 1)] 2 false,.int .i64 (.lit 1)] 2 false]]
theorem ahT:qK P1 (.agg [.int .i64 (.lit 0),.int .i64 (.lit 0)]) (CU 40)=true:=aa
def PX:List (List W×W):=[(P2,.agg [.int .i64 (.lit 0),.int .i64 (.lit 0)]),(P1,.agg [.int .i64 (.lit 0),.int .i64 (.lit 0)])]
def P4:List W:=[.agg [.ro [.int .u8 (.lit 1),.str [109],.int .i64 (.lit 0),.str [],.int .i64 (.lit 1)] 1 false,.ro [.str [97],.eg,.ro [.int .u8 (.lit 1),.int .u8 (.lit 1),.int .i64 (.lit 0),.int .i64 (.lit (-1)),.int .i64 (.lit 0),.int .i64 (.lit 0),.eg] 1 false,.str [98],.eg,.ro [.int .u8 (.lit 1),.int .u8 (.lit 1),.int .i64 (.lit 0),.int .i64 (.lit (-1)),.int .i64 (.lit 0),.int .i64 (.lit 0),.eg,.int .u8 (.lit 1),.int .u8 (.lit 2),.int .i64 (.lit 0),.int .i64 (.lit (-1)),.int .i64 (.lit 0),.int .i64 (.lit 0),.eg,.int .u8 (.lit 1),.int .u8 (.lit 2),.int .i64 (.lit 0),.int .i64 (.lit (-1)),.int .i64 (.lit 0),.int .i64 (.lit 0),.eg] 3 false] 2 false]]
theorem ahW:qK P4 (.int .i64 (.lit 0)) (CU 15)=true:=aa
def P3:List W:=[.agg [.ro [.int .u8 (.lit 9),.str [118],.int .i64 (.lit 0),.str [],.int .i64 (.lit 1)] 1 false,.ro [.str [97],.eg,.ro [.int .u8 (.lit 1),.int .u8 (.lit 23),.int .i64 (.lit 0),.int .i64 (.lit (-1)),.int .i64 (.lit 0),.int .i64 (.lit 0),.ro [.int .u8 (.lit 1),.str [],.int .i64 (.lit 1),.eg] 1 false] 1 false,.str [98],.ro [.str [120]] 1 false,.ro [.int .u8 (.lit 1),.int .u8 (.lit 22),.int .i64 (.lit 0),.int .i64 (.lit 0),.int .i64 (.lit 0),.int .i64 (.lit 0),.eg,.int .u8 (.lit 3),.int .u8 (.lit 0),.int .i64 (.lit 0),.int .i64 (.lit 0),.int .i64 (.lit 0),.int .i64 (.lit 0),.ro [.int .u8 (.lit 1),.str [],.int .i64 (.lit 2),.eg] 1 false] 2 false] 2 false]]
theorem ahV:qK P3 (.int .i64 (.lit 0)) (CU 15)=true:=aa
def PY:List (List W×W):=[(P4,.int .i64 (.lit 0)),(P3,.int .i64 (.lit 0))]
noncomputable def QG (g:Nat):Option (List W->St->T (W×St)):=
 match Nat.beq g 56 with
 |true=>some (orElse (ym PW) (CU 56))
 |false=>match Nat.beq g 40 with
 |true=>some (orElse (ym PX) (CU 40))
 |false=>match Nat.beq g 15 with
 |true=>some (orElse (ym PY) (CU 15))
 |false=>KL g
theorem KK (I:bI) (hI: ∀ρ ro h,I.ok ρ ro h->base.ok ro h): ∀(g:Nat) (h:List W->St->T (W×St)),QG g=some h->@iE I Tryz.prog g h:=by
 intro g h hh;letI:=I;unfold QG at hh;split at hh
 ·rename_i hg;have:=aq hg;subst this;simp only [ag] at hh;subst hh;obtain⟨c,Y⟩:=oA (f:=Tryz.f56) aa;refine mV (yl (pK I hI 56) (fn:=Tryz.f56) (tA aa ae) aa Y fun p hp=>?_) (pK I hI 56);exact aR.1 aj6 p hp
 ·skip;split at hh
  ·rename_i hg;have:=aq hg;subst this;simp only [ag] at hh;subst hh;obtain⟨c,Y⟩:=oA (f:=Tryz.f40) aa;refine mV (yl (pK I hI 40) (fn:=Tryz.f40) (tA aa ae) aa Y fun p hp=>?_) (pK I hI 40);simp only [PX,ax,alU,or_false] at hp;rcases hp with rfl|rfl
   ·exact ahU
   ·exact ahT
  ·skip;split at hh
   ·rename_i hg;have:=aq hg;subst this;simp only [ag] at hh;subst hh;obtain⟨c,Y⟩:=oA (f:=Tryz.f15) aa;refine mV (yl (pK I hI 15) (fn:=Tryz.f15) (tA aa ae) aa Y fun p hp=>?_) (pK I hI 15);simp only [PY,ax,alU,or_false] at hp;rcases hp with rfl|rfl
    ·exact ahW
    ·exact ahV
   ·skip;exact Dy I hI g h hh
noncomputable def Wl (g:Nat):List W->St->T (W×St):=D3 Sa ft QG (Bw Sa hints) 100000 60 g
theorem Pt (I:bI) (hI: ∀ρ ro h,I.ok ρ ro h->base.ok ro h) (g:Nat):@iE I Tryz.prog g (Wl g):=@sS _ I _ tQ _ _ GF _ (KK I hI) _ (fun _ hc=>@rJ _ I _ tQ mixed _ _ hc) 100000 60 g
end Go.As.Try
end

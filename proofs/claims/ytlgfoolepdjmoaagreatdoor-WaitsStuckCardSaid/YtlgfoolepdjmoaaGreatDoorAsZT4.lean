import Derived.Test.YtlgfoolepdjmoaaGreatDoorAsZT3
set_option linter.unusedSectionVars false
set_option linter.unusedVariables false
set_option linter.unusedSimpArgs false
section
namespace Go.As.Try
open Go Go.As Go.Proofs Go.RowKit
set_option maxRecDepth 100000
def maxLen:Nat:=Tryz.laysM144_ren.g 1
def base:MO where
 ok ro h:=ro maxLen/\∃m,iX h maxLen 0=some (.int .i64 m)
 keep:=by intro ro me h h' hk U Z;obtain⟨a,m,hm⟩:=hk;refine⟨U _ a,m,?_⟩;unfold iX at *;rw [Z _ a];exact hm
noncomputable def VP:TT:=lim 296 tab
noncomputable def ft:Nat->Option Func:=lim 242 Jh
def aiK:List (Nat×Nat):=[(22,3),(23,4),(26,0),(30,7),(31,8),(46,9),(54,2),(55,5),(59,6),(94,0),(175,14),(263,14),(51,0),(70,2),(164,1),(182,1)]
noncomputable def ttE:TT:=K3 aiK VP
noncomputable def hints:Nat->Nat->Option Ag:=hAt ajk
theorem yk:eC Tryz.prog VP:=L? VM
theorem VO:eC Tryz.prog ttE:=Y? yk
theorem LS:UY Tryz.prog (J3 VP hints) ft:=aaA LR YU
theorem afP:UY Tryz.prog (J3 ttE hints) ft:=by unfold ttE; rw [m?]; exact LS
def b (n:Nat):W:=.int .u8 (.lit (.ofNat n))
def Fh:W:=.agg [b 0,b 0,b 0,b 0,b 0,b 0,b 0,b 0,b 0,b 1,b 1,b 0,b 0,b 1,b 0,b 0,b 0,b 0,b 0,b 0,b 0,b 0,b 0,b 0,b 0,b 0,b 0,b 0,b 0,b 0,b 0,b 0,b 1,b 0,b 0,b 2,b 0,b 0,b 0,b 0,b 5,b 5,b 5,b 5,b 0,b 5,b 0,b 0,b 3,b 3,b 3,b 3,b 3,b 3,b 3,b 3,b 3,b 3,b 0,b 5,b 5,b 5,b 0,b 0,b 0,b 4,b 4,b 4,b 4,b 4,b 4,b 4,b 4,b 4,b 4,b 4,b 4,b 4,b 4,b 4,b 4,b 4,b 4,b 4,b 4,b 4,b 4,b 4,b 4,b 4,b 4,b 0,b 0,b 0,b 0,b 4,b 0,b 4,b 4,b 4,b 4,b 4,b 4,b 4,b 4,b 4,b 4,b 4,b 4,b 4,b 4,b 4,b 4,b 4,b 4,b 4,b 4,b 4,b 4,b 4,b 4,b 4,b 4,b 5,b 0,b 5,b 0,b 0,b 0,b 0,b 0,b 0,b 0,b 0,b 0,b 0,b 0,b 0,b 0,b 0,b 0,b 0,b 0,b 0,b 0,b 0,b 0,b 0,b 0,b 0,b 0,b 0,b 0,b 0,b 0,b 0,b 0,b 0,b 0,b 0,b 0,b 0,b 0,b 0,b 0,b 0,b 0,b 0,b 0,b 0,b 0,b 0,b 0,b 0,b 0,b 0,b 0,b 0,b 0,b 0,b 0,b 0,b 0,b 0,b 0,b 0,b 0,b 0,b 0,b 0,b 0,b 0,b 0,b 0,b 0,b 0,b 0,b 0,b 0,b 0,b 0,b 0,b 0,b 0,b 0,b 0,b 0,b 0,b 0,b 0,b 0,b 0,b 0,b 0,b 0,b 0,b 0,b 0,b 0,b 0,b 0,b 0,b 0,b 0,b 0,b 0,b 0,b 0,b 0,b 0,b 0,b 0,b 0,b 0,b 0,b 0,b 0,b 0,b 0,b 0,b 0,b 0,b 0,b 0,b 0,b 0,b 0,b 0,b 0,b 0,b 0,b 0,b 0,b 0,b 0,b 0]
theorem qH {g:Nat} {f:Func} (h:Jh.get g=some f) (hg:g<242):Tryz.prog.funcs[g]?=some f:=by have:=congrArg (fun l=>l[g]?) LR;simp only [bp,an4 hg,br,ah] at this;rw [<- this];exact h
theorem NN {g:Nat} {f:Func} (hf:Tryz.prog.funcs[g]?=some f) (hn:(f.name == "runtime.NumGoroutine")=false) (hb:f.body.isNone=false): ∀(args:Array Value) (w:World),(callFunc g args).run Tryz.prog w= .ok (.enter g args) w:=by intro args w;unfold callFunc;simp only [Sem.run_bind,run_program,Result.andThen_ok,hf];rw [hn,hb];simp
def RE (g:Nat):Option (List W->St->T (W×St)):=
 match Nat.beq g 190 with
 |true=>some sX
 |false=>match Nat.beq g 209 with
  |true=>some sW
  |false=>match Nat.beq g 173 with
   |true=>some nB
   |false=>none
theorem aeV:Tryz.laysM144_ren.f 144=173:=aa
section
variable (I:bH) (hI: ∀ρ ro h,I.ok ρ ro h->base.ok ro h)
theorem f190:@ik I Tryz.prog 190 sX:=@UK _ I 190 Tryz.f190 (qH aa ae) aa aa aa aa
theorem f209:@ik I Tryz.prog 209 sW:=@Ua _ I 209 Tryz.f209 (qH aa ae) aa aa aa aa
include hI in
theorem f173:@ik I Tryz.prog 173 nB:=by letI:=I;refine JY ?_ (NN (f:=Tryz.f173) (qH aa ae) aa aa);intro ρ ro w hw s sub hs;obtain⟨_,m,hm⟩:=hI _ _ _ hw;have:=Any.strings_Contains { Tryz.laysM144 with } s sub m w hs (by rw [lF]; exact hm);rw [aeV] at this;exact this
include hI in
theorem LD: ∀(g:Nat) (h:List W->St->T (W×St)),RE g=some h->@ik I Tryz.prog g h:=by
 intro g h hh;unfold RE at hh;split at hh
 ·rename_i hg;have:=aq hg;subst this;simp at hh;subst hh;exact f190 I
 ·split at hh
  ·rename_i hg;have:=aq hg;subst this;simp at hh;subst hh;exact f209 I
  ·split at hh
   ·rename_i hg;have:=aq hg;subst this;simp at hh;subst hh;exact f173 I hI
   ·simp at hh
end
noncomputable def aiw (g:Nat):List W->St->T (W×St):=FX VP ft RE (EY VP hints) 100000 60 g
theorem U? (I:bH) (hI: ∀ρ ro h,I.ok ρ ro h->base.ok ro h) (g:Nat):@ik I Tryz.prog g (aiw g):=@wq _ I _ yk _ _ LS _ (LD I hI) _ (fun _ hc=>@vt _ I _ yk mixed _ _ hc) 100000 60 g
theorem Mz:El [] Fh (aiw 168)=true:=aa
theorem oQ {f:Func} (h:f.body.isSome=true): ∃c,f.body=some c:=ant.1 h
theorem Pp (I:bH) (hI: ∀ρ ro h,I.ok ρ ro h->base.ok ro h):@ik I Tryz.prog 168 (Ch [] Fh):=by letI:=I;obtain⟨c,hb⟩:=oQ (f:=Tryz.f168) aa;exact yW (U? I hI 168) (fn:=Tryz.f168) (qH aa ae) aa hb Mz
def LC (g:Nat):Option (List W->St->T (W×St)):=
 match Nat.beq g 168 with
 |true=>some (Ch [] Fh)
 |false=>RE g
theorem Ed (I:bH) (hI: ∀ρ ro h,I.ok ρ ro h->base.ok ro h): ∀(g:Nat) (h:List W->St->T (W×St)),LC g=some h->@ik I Tryz.prog g h:=by
 intro g h hh;unfold LC at hh;split at hh
 ·rename_i hg;have:=aq hg;subst this;simp at hh;subst hh;exact Pp I hI
 ·exact LD I hI g h hh
noncomputable def yF (g:Nat):List W->St->T (W×St):=FX VP ft LC (EY VP hints) 100000 60 g
theorem oJ (I:bH) (hI: ∀ρ ro h,I.ok ρ ro h->base.ok ro h) (g:Nat):@ik I Tryz.prog g (yF g):=@wq _ I _ yk _ _ LS _ (Ed I hI) _ (fun _ hc=>@vt _ I _ yk mixed _ _ hc) 100000 60 g
def Ar:List Nat:=[109,117,116,101,120,32,109,59,32,109,117,116,101,120,32,110,59,32,116,104,114,101,97,100,32,97,32,123,32,108,111,99,107,32,109,59,32,108,111,99,107,32,110,59,32,125,32,116,104,114,101,97,100,32,98,32,123,32,108,111,99,107,32,110,59,32,108,111,99,107,32,109,59,32,125]
def Kf:List Nat:=[109,117,116,101,120,32,109,59,32,116,104,114,101,97,100,32,97,32,123,32,108,111,99,107,32,109,59,32,125,32,116,104,114,101,97,100,32,98,32,123,32,108,111,99,107,32,109,59,32,125]
def FL:List Nat:=[109,117,116,101,120,32,109,59,32,116,104,114,101,97,100,32,97,32,123,32,108,111,99,107,32,109,59,32,125,32,116,104,114,101,97,100,32,98,32,123,32,108,111,99,107,102,111,114,32,109,32,51,32,45,62,32,120,59,32,125]
abbrev wN (t:List Nat) (n:Int):List W:=[.str t,.int .i64 (.lit n)]
abbrev wV (k:Int) (s:List Nat) (a b c d:Int):W:=.tuple [.agg [.int .u8 (.lit k),.str s,.int .i64 (.lit a),.int .i64 (.lit b),.int .i64 (.lit c),.int .i64 (.lit d)],.agg [.int .i64 (.lit 0),.int .i64 (.lit 0)]]
theorem afb:El [.str [97]] (.bool (.lit true)) (yF 147)=true:=aa
theorem afa:El [.str [98]] (.bool (.lit true)) (yF 147)=true:=aa
def Ln:List (List W×W):=[(wN Ar 0,wV 3 [109,117,116,101,120] 0 1 0 5),(wN Ar 5,wV 2 [109] 0 1 6 7),(wN Ar 7,wV 4 [59] 0 1 7 8),(wN Ar 8,wV 3 [109,117,116,101,120] 0 1 9 14),(wN Ar 14,wV 2 [110] 0 1 15 16),(wN Ar 16,wV 4 [59] 0 1 16 17),(wN Ar 17,wV 3 [116,104,114,101,97,100] 0 1 18 24),(wN Ar 24,wV 2 [97] 0 1 25 26),(wN Ar 26,wV 4 [123] 0 1 27 28),(wN Ar 28,wV 3 [108,111,99,107] 0 1 29 33),(wN Ar 33,wV 2 [109] 0 1 34 35),(wN Ar 35,wV 4 [59] 0 1 35 36),(wN Ar 36,wV 3 [108,111,99,107] 0 1 37 41),(wN Ar 41,wV 2 [110] 0 1 42 43),(wN Ar 43,wV 4 [59] 0 1 43 44),(wN Ar 44,wV 4 [125] 0 1 45 46),(wN Ar 46,wV 3 [116,104,114,101,97,100] 0 1 47 53),(wN Ar 53,wV 2 [98] 0 1 54 55),(wN Ar 55,wV 4 [123] 0 1 56 57),(wN Ar 57,wV 3 [108,111,99,107] 0 1 58 62),(wN Ar 62,wV 2 [110] 0 1 63 64),(wN Ar 64,wV 4 [59] 0 1 64 65),(wN Ar 65,wV 3 [108,111,99,107] 0 1 66 70),(wN Ar 70,wV 2 [109] 0 1 71 72),(wN Ar 72,wV 4 [59] 0 1 72 73),(wN Ar 73,wV 4 [125] 0 1 74 75),(wN Ar 75,wV 5 [] 0 1 75 75),(wN Kf 0,wV 3 [109,117,116,101,120] 0 1 0 5),(wN Kf 5,wV 2 [109] 0 1 6 7),(wN Kf 7,wV 4 [59] 0 1 7 8),(wN Kf 8,wV 3 [116,104,114,101,97,100] 0 1 9 15),(wN Kf 15,wV 2 [97] 0 1 16 17),(wN Kf 17,wV 4 [123] 0 1 18 19),(wN Kf 19,wV 3 [108,111,99,107] 0 1 20 24),(wN Kf 24,wV 2 [109] 0 1 25 26),(wN Kf 26,wV 4 [59] 0 1 26 27),(wN Kf 27,wV 4 [125] 0 1 28 29),(wN Kf 29,wV 3 [116,104,114,101,97,100] 0 1 30 36),(wN Kf 36,wV 2 [98] 0 1 37 38),(wN Kf 38,wV 4 [123] 0 1 39 40),(wN Kf 40,wV 3 [108,111,99,107] 0 1 41 45),(wN Kf 45,wV 2 [109] 0 1 46 47),(wN Kf 47,wV 4 [59] 0 1 47 48),(wN Kf 48,wV 4 [125] 0 1 49 50),(wN Kf 50,wV 5 [] 0 1 50 50),(wN FL 0,wV 3 [109,117,116,101,120] 0 1 0 5),(wN FL 5,wV 2 [109] 0 1 6 7),(wN FL 7,wV 4 [59] 0 1 7 8),(wN FL 8,wV 3 [116,104,114,101,97,100] 0 1 9 15),(wN FL 15,wV 2 [97] 0 1 16 17),(wN FL 17,wV 4 [123] 0 1 18 19),(wN FL 19,wV 3 [108,111,99,107] 0 1 20 24),(wN FL 24,wV 2 [109] 0 1 25 26),(wN FL 26,wV 4 [59] 0 1 26 27),(wN FL 27,wV 4 [125] 0 1 28 29),(wN FL 29,wV 3 [116,104,114,101,97,100] 0 1 30 36),(wN FL 36,wV 2 [98] 0 1 37 38),(wN FL 38,wV 4 [123] 0 1 39 40),(wN FL 40,wV 3 [108,111,99,107,102,111,114] 0 1 41 48),(wN FL 48,wV 2 [109] 0 1 49 50),(wN FL 50,wV 1 [] 3 1 51 52),(wN FL 52,wV 4 [45,62] 0 1 53 55),(wN FL 55,wV 2 [120] 0 1 56 57),(wN FL 57,wV 4 [59] 0 1 57 58),(wN FL 58,wV 4 [125] 0 1 59 60),(wN FL 60,wV 5 [] 0 1 60 60)]
theorem ai6:Ln.all (fun p=>tb p.1 p.2 (yF 138))=true:=aa
def Rj:List W:=[.agg [.ro [.int .u8 (.lit 1),.str [109],.int .i64 (.lit 0),.str [],.int .i64 (.lit 1),.int .u8 (.lit 1),.str [110],.int .i64 (.lit 0),.str [],.int .i64 (.lit 1)] 2 false,.ro [.str [97],.ro [.int .u8 (.lit 1),.int .u8 (.lit 1),.str [109],.str [],.int .i64 (.lit 0),.dq,.dq,.dq,.int .i64 (.lit 1),.int .u8 (.lit 1),.int .u8 (.lit 1),.str [110],.str [],.int .i64 (.lit 0),.dq,.dq,.dq,.int .i64 (.lit 1)] 2 false,.int .i64 (.lit 1),.str [98],.ro [.int .u8 (.lit 1),.int .u8 (.lit 1),.str [110],.str [],.int .i64 (.lit 0),.dq,.dq,.dq,.int .i64 (.lit 1),.int .u8 (.lit 1),.int .u8 (.lit 1),.str [109],.str [],.int .i64 (.lit 0),.dq,.dq,.dq,.int .i64 (.lit 1)] 2 false,.int .i64 (.lit 1)] 2 false]]
theorem ai9:tb Rj (.agg [.int .i64 (.lit 0),.int .i64 (.lit 0)]) (yF 82)=true:=aa
def Ri:List W:=[.agg [.ro [.int .u8 (.lit 1),.str [109],.int .i64 (.lit 0),.str [],.int .i64 (.lit 1)] 1 false,.ro [.str [97],.ro [.int .u8 (.lit 1),.int .u8 (.lit 1),.str [109],.str [],.int .i64 (.lit 0),.dq,.dq,.dq,.int .i64 (.lit 1)] 1 false,.int .i64 (.lit 1),.str [98],.ro [.int .u8 (.lit 1),.int .u8 (.lit 1),.str [109],.str [],.int .i64 (.lit 0),.dq,.dq,.dq,.int .i64 (.lit 1)] 1 false,.int .i64 (.lit 1)] 2 false]]
theorem ai8:tb Ri (.agg [.int .i64 (.lit 0),.int .i64 (.lit 0)]) (yF 82)=true:=aa
def Rh:List W:=[.agg [.ro [.int .u8 (.lit 1),.str [109],.int .i64 (.lit 0),.str [],.int .i64 (.lit 1)] 1 false,.ro [.str [97],.ro [.int .u8 (.lit 1),.int .u8 (.lit 1),.str [109],.str [],.int .i64 (.lit 0),.dq,.dq,.dq,.int .i64 (.lit 1)] 1 false,.int .i64 (.lit 1),.str [98],.ro [.int .u8 (.lit 1),.int .u8 (.lit 4),.str [109],.str [120],.int .i64 (.lit 0),.ro [.int .u8 (.lit 1),.str [],.int .i64 (.lit 3),.dq] 1 false,.dq,.dq,.int .i64 (.lit 1)] 1 false,.int .i64 (.lit 1)] 2 false]]
theorem ai7:tb Rh (.agg [.int .i64 (.lit 0),.int .i64 (.lit 0)]) (yF 82)=true:=aa
def Rc:List (List W×W):=[(Rj,.agg [.int .i64 (.lit 0),.int .i64 (.lit 0)]),(Ri,.agg [.int .i64 (.lit 0),.int .i64 (.lit 0)]),(Rh,.agg [.int .i64 (.lit 0),.int .i64 (.lit 0)])]
def Rm:List W:=[.agg [.ro [.int .u8 (.lit 1),.str [109],.int .i64 (.lit 0),.str [],.int .i64 (.lit 1),.int .u8 (.lit 1),.str [110],.int .i64 (.lit 0),.str [],.int .i64 (.lit 1)] 2 false,.ro [.str [97],.dq,.ro [.int .u8 (.lit 1),.int .u8 (.lit 1),.int .i64 (.lit 0),.int .i64 (.lit (-1)),.int .i64 (.lit 0),.int .i64 (.lit 0),.dq,.int .u8 (.lit 1),.int .u8 (.lit 1),.int .i64 (.lit 1),.int .i64 (.lit (-1)),.int .i64 (.lit 0),.int .i64 (.lit 0),.dq] 2 false,.str [98],.dq,.ro [.int .u8 (.lit 1),.int .u8 (.lit 1),.int .i64 (.lit 1),.int .i64 (.lit (-1)),.int .i64 (.lit 0),.int .i64 (.lit 0),.dq,.int .u8 (.lit 1),.int .u8 (.lit 1),.int .i64 (.lit 0),.int .i64 (.lit (-1)),.int .i64 (.lit 0),.int .i64 (.lit 0),.dq] 2 false] 2 false]]
theorem ajc:tb Rm (.int .i64 (.lit 0)) (yF 61)=true:=aa
def Rl:List W:=[.agg [.ro [.int .u8 (.lit 1),.str [109],.int .i64 (.lit 0),.str [],.int .i64 (.lit 1)] 1 false,.ro [.str [97],.dq,.ro [.int .u8 (.lit 1),.int .u8 (.lit 1),.int .i64 (.lit 0),.int .i64 (.lit (-1)),.int .i64 (.lit 0),.int .i64 (.lit 0),.dq] 1 false,.str [98],.dq,.ro [.int .u8 (.lit 1),.int .u8 (.lit 1),.int .i64 (.lit 0),.int .i64 (.lit (-1)),.int .i64 (.lit 0),.int .i64 (.lit 0),.dq] 1 false] 2 false]]
theorem ajb:tb Rl (.int .i64 (.lit 0)) (yF 61)=true:=aa
def Rk:List W:=[.agg [.ro [.int .u8 (.lit 1),.str [109],.int .i64 (.lit 0),.str [],.int .i64 (.lit 1)] 1 false,.ro [.str [97],.dq,.ro [.int .u8 (.lit 1),.int .u8 (.lit 1),.int .i64 (.lit 0),.int .i64 (.lit (-1)),.int .i64 (.lit 0),.int .i64 (.lit 0),.dq] 1 false,.str [98],.ro [.str [120]] 1 false,.ro [.int .u8 (.lit 1),.int .u8 (.lit 4),.int .i64 (.lit 0),.int .i64 (.lit 0),.int .i64 (.lit 0),.int .i64 (.lit 0),.ro [.int .u8 (.lit 1),.str [],.int .i64 (.lit 3),.dq] 1 false] 1 false] 2 false]]
theorem aja:tb Rk (.int .i64 (.lit 0)) (yF 61)=true:=aa
def Re:List (List W×W):=[(Rm,.int .i64 (.lit 0)),(Rl,.int .i64 (.lit 0)),(Rk,.int .i64 (.lit 0))]
noncomputable def RD (g:Nat):Option (List W->St->T (W×St)):=
 match Nat.beq g 138 with
 |true=>some (orElse (BI Ln) (yF 138))
 |false=>match Nat.beq g 82 with
 |true=>some (orElse (BI Rc) (yF 82))
 |false=>match Nat.beq g 61 with
 |true=>some (orElse (BI Re) (yF 61))
 |false=>LC g
theorem LB (I:bH) (hI: ∀ρ ro h,I.ok ρ ro h->base.ok ro h): ∀(g:Nat) (h:List W->St->T (W×St)),RD g=some h->@ik I Tryz.prog g h:=by
 intro g h hh;letI:=I;unfold RD at hh;split at hh
 ·rename_i hg;have:=aq hg;subst this;simp only [ah] at hh;subst hh;obtain⟨c,hb⟩:=oQ (f:=Tryz.f138) aa;refine ni (DW (oJ I hI 138) (fn:=Tryz.f138) (qH aa ae) aa hb fun p hp=>?_) (oJ I hI 138);exact aZ.1 ai6 p hp
 ·skip;split at hh
  ·rename_i hg;have:=aq hg;subst this;simp only [ah] at hh;subst hh;obtain⟨c,hb⟩:=oQ (f:=Tryz.f82) aa;refine ni (DW (oJ I hI 82) (fn:=Tryz.f82) (qH aa ae) aa hb fun p hp=>?_) (oJ I hI 82);simp only [Rc,ax,amY,or_false] at hp;rcases hp with rfl|rfl|rfl
   ·exact ai9
   ·exact ai8
   ·exact ai7
  ·skip;split at hh
   ·rename_i hg;have:=aq hg;subst this;simp only [ah] at hh;subst hh;obtain⟨c,hb⟩:=oQ (f:=Tryz.f61) aa;refine ni (DW (oJ I hI 61) (fn:=Tryz.f61) (qH aa ae) aa hb fun p hp=>?_) (oJ I hI 61);simp only [Re,ax,amY,or_false] at hp;rcases hp with rfl|rfl|rfl
    ·exact ajc
    ·exact ajb
    ·exact aja
   ·skip;exact Ed I hI g h hh
noncomputable def Xk (g:Nat):List W->St->T (W×St):=FX VP ft RD (EY VP hints) 100000 60 g
theorem QC (I:bH) (hI: ∀ρ ro h,I.ok ρ ro h->base.ok ro h) (g:Nat):@ik I Tryz.prog g (Xk g):=@wq _ I _ yk _ _ LS _ (LB I hI) _ (fun _ hc=>@vt _ I _ yk mixed _ _ hc) 100000 60 g
end Go.As.Try
end
section
namespace Go.As
noncomputable section
open Go.RowKit
mutual
def fk (h:Hp):W->W->Bool
 | .bool (.lit a),v=>match v with
   | .bool (.lit b)=>a == b
   |_=>false
 | .int k (.lit a),v=>match v with
   | .int k' (.lit b)=>decide (k=k')&&decide (a=b)
   |_=>false
 | .str s,v=>match v with
   | .str t=>gC s t
   |_=>false
 | .dq,v=>match v with
   | .dq=>true
   |_=>false
 | .emp,v=>match v with
   | .slice _ _ len c=>match c with
     | .exact k=>Nat.beq len 0&&Nat.beq k 0
     |_=>false
   | .emp=>true
   |_=>false
 | .agg ks,v=>match v with
   | .agg cs=>Nat.beq ks.length cs.length&&vT h ks cs
   |_=>false
 | .ro ks n false,v=>match v with
   | .slice id off len _=>match Nat.beq n len with
     |true=>match n with
      |0=>false
      |_=>match h.get id with
       |some (.cells cs _)=>match eF off cs with
        |some l=>vT h ks l
        |none=>false
       |_=>false
     |false=>false
   |_=>false
 |_,_=>false
def vT (h:Hp):List W->List W->Bool
 |[],_=>true
 |k::ks,l=>match l with
  |v::vs=>match fk h k v with
   |true=>vT h ks vs
   |false=>false
  |[]=>false
end
def A2 (key:List W) (v:W) (f:List W->St->T (W×St)):Bool:=match f key ⟨.nil,Hp.zero,[]⟩ with
 | .ret (u,s)=>fk s.h v u
 |_=>false
section
variable {P:Program}
mutual
theorem GX [bH] {E E2:En} {H:Hp} {w:World} (r:bO E H w) (jx: ∀id ob,H.get id=some ob->E2.ro (E.θ id).1): ∀(key v:W) (u:Value),fk H key v=true->VR E w.heap v u->VR E2 w.heap key u
 | .bool b,v,u,hm,hv=>by
   cases b<;>simp only [fk,aP] at hm;split at hm
   ·simp only [beq_iff_eq] at hm;subst hm;simpa [VR,SB.den] using hv
   ·simp at hm
 | .int k e,v,u,hm,hv=>by
   cases e<;>simp only [fk,aP] at hm;split at hm
   ·simp only [an,decide_eq_true_eq] at hm;obtain⟨rfl,rfl⟩:=hm;simpa [VR,V.den] using hv
   ·simp at hm
 | .str s,v,u,hm,hv=>by
   simp only [fk] at hm;split at hm
   ·have:=(ku _ _).1 hm;subst this;simpa only [VR] using hv
   ·simp at hm
 | .dq,v,u,hm,hv=>by
   simp only [fk] at hm;split at hm
   ·simpa only [VR] using hv
   ·simp at hm
 | .emp,v,u,hm,hv=>by
   simp only [fk] at hm;split at hm
   ·split at hm
    ·simp only [an] at hm;have U:=aq hm.1;have Z:=aq hm.2;subst U Z;simp only [VR,eD] at hv ⊢;obtain⟨_,a,cap,rfl,_,rfl,_⟩:=hv;exact⟨_,rfl⟩
    ·simp at hm
   ·simpa only [VR] using hv
   ·simp at hm
 | .agg ks,v,u,hm,hv=>by
   simp only [fk] at hm;split at hm
   ·rename_i cs;simp only [an] at hm;simp only [VR] at hv ⊢;obtain⟨us,rfl,Z⟩:=hv;obtain⟨h3,h4⟩:=xB r jx ks cs us hm.2 Z;have e:=aq hm.1;rw [e,<- Z.length,anE] at h3;exact⟨us,rfl,h3⟩
   ·simp at hm
 | .ro ks n true,v,u,hm,hv=>by simp [fk] at hm
 | .ro ks n false,v,u,hm,hv=>by
   simp only [fk] at hm;split at hm
   ·rename_i id off len c;split at hm
    ·rename_i hn;have hn:=aq hn;subst hn;split at hm
     ·simp at hm
     ·rename_i hn0;split at hm
      ·rename_i cs e hg;split at hm
       ·rename_i l Y;simp only [VR] at hv ⊢;obtain⟨hd,a,cap,rfl,hle,fW⟩:=hv;obtain⟨_,ho,_⟩:=r.live id _ hg;simp only [OR] at ho;obtain⟨arr,lo,hi,us,hb,Z,h3,_,_,_,h7⟩:=ho;obtain⟨q1,q2,q3⟩:=Z.eF Y;obtain⟨p1,p2⟩:=xB r jx ks l _ hm q1
        have ha:a=⟨(E.θ id).1,(E.θ id).2+off,none⟩:=by
         cases c with
         |exact c=>
          simp only [eD] at fW;rcases fW.2 with h|h
          ·exact h
          ·exact absurd J hn0
         |rest es=>
          simp only [eD] at fW;rcases fW with h|h
          ·exact h.1
          ·exact absurd J hn0
        subst ha;refine⟨_,_,cap,_,rfl,hle,ad,jx id _ hg,p1,?_,?_⟩
        ·intro i x hx
         have I6:us[off+i]?=some x:=by
          rw [anq] at hx;split at hx
          ·rw [anp] at hx; exact hx
          ·simp at hx
         have:=h3 _ _ I6;unfold iX;rw [hb];simp only;rw [<- this];congr 1;omega
        ·intro x hx;exact h7 x (bu (amV hx))
       ·simp at hm
      ·simp at hm
    ·simp at hm
   ·simp at hm
 | .ptr _ _,v,u,hm,_=>by simp [fk] at hm
 | .sL,v,u,hm,_=>by simp [fk] at hm
 | .mK _,v,u,hm,_=>by simp [fk] at hm
 | .slice _ _ _ _,v,u,hm,_=>by simp [fk] at hm
 | .map _,v,u,hm,_=>by simp [fk] at hm
 | .qX,v,u,hm,_=>by simp [fk] at hm
 | .func _ _ _,v,u,hm,_=>by simp [fk] at hm
 | .uR,v,u,hm,_=>by simp [fk] at hm
 | .iface _ _,v,u,hm,_=>by simp [fk] at hm
 | .wI,v,u,hm,_=>by simp [fk] at hm
 | .tuple _,v,u,hm,_=>by simp [fk] at hm
 | .Kh _,v,u,hm,_=>by simp [fk] at hm
 | .v7 _ _,v,u,hm,_=>by simp [fk] at hm
 | .ei _ _,v,u,hm,_=>by simp [fk] at hm
 | .jC _,v,u,hm,_=>by simp [fk] at hm
 | .ow _ _ _,v,u,hm,_=>by simp [fk] at hm
 | .yi _ _ _ _,v,u,hm,_=>by simp [fk] at hm
 | .any,v,u,hm,_=>by simp [fk] at hm
 | .wL _ _,v,u,hm,_=>by simp [fk] at hm
 | .sk _ _ _ _,v,u,hm,_=>by simp [fk] at hm
theorem xB [bH] {E E2:En} {H:Hp} {w:World} (r:bO E H w) (jx: ∀id ob,H.get id=some ob->E2.ro (E.θ id).1): ∀(ks vs:List W) (us:List Value),vT H ks vs=true->ct E w.heap vs us->
 ct E2 w.heap ks (us.take ks.length)/\ks.length<=us.length
 |[],vs,us,_,_=>by simp [ct]
 |k::ks,[],us,hm,_=>by simp [vT] at hm
 |k::ks,v::vs,us,hm,hv=>by
  simp only [vT] at hm;split at hm
  ·rename_i U;rw [bP] at hv;obtain⟨u,gx,rfl,hu,BL⟩:=hv;obtain⟨p1,p2⟩:=xB r jx ks vs gx hm BL;rw [aM,anC,bP];exact⟨⟨u,_,rfl,GX r jx k v u U hu,p1⟩,by simp; exact p2⟩
  ·simp at hm
end
theorem LQ {key:List W} {v:W} {f:List W->St->T (W×St)} (h:A2 key v f=true): ∃u s1,f key ⟨.nil,Hp.zero,[]⟩ = .ret (u,s1)/\fk s1.h v u=true:=by
 unfold A2 at h;split at h
 ·exact⟨_,_,by assumption,h⟩
 ·simp at h
theorem XR [bH] {g:FuncId} {f:List W->St->T (W×St)} (hf:ik P g f) {fn:Func} (tR:P.funcs[g]?=some fn) (ke:(fn.name == "runtime.NumGoroutine")=false) {c:Code} (hb:fn.body=some c)
 {B?:List (List W×W)} (h: ∀p∈B?,A2 p.1 p.2 f=true):ik P g (BI B?):=by
 intro amP s E w vals v s' r hv hp Y;unfold BI at Y;split at Y
 ·rename_i v' Yz;have:=bD Y;simp only [ak] at this;obtain⟨rfl,rfl⟩:=this;obtain⟨k,qZ,hlen,afw⟩:=yY Yz;have hk:=h _ qZ;obtain⟨u,s1,jw,h3⟩:=LQ hk;obtain⟨p1,_⟩:=oT r E.ρ k amP vals afw hv;rw [hlen,<- hv.length,anE] at p1;have oA:bH.ok E.ρ (fun b=>b<w.heap.size) w.heap:=bH.keep r.iY r.qt fun _ _=>rfl;obtain⟨_,_,h4⟩:=hf k ⟨.nil,Hp.zero,[]⟩ (En.zero E.ρ (fun b=>b<w.heap.size)) w vals u s1 (C8 E.ρ _ w (fun _ h=>h) oA) p1 (by simp [bV]) (by rw [jw]; rfl)
  have RL:(callFunc g vals.toArray).run P w= .ok (.enter g vals.toArray) w:=by unfold callFunc;simp [tR,hb,by simpa using ke]
  refine⟨rfl,hp,?_⟩;unfold jD lI at h4 ⊢;rw [RL] at h4 ⊢;refine Calls.mono h4 fun e w' ⟨x,he,E',st,rel,hx⟩=> ⟨x,he,?_⟩;obtain⟨MW,r1⟩:=nv r st.below;let E2:En:={ E with ro:=fun x=>E.ro x\/(w.heap.size<=x/\x<w'.heap.size) }
  have afv: ∀id ob,s1.h.get id=some ob->E2.ro (E'.θ id).1:=fun id ob hg=>by
   refine .inr ⟨?_,fq rel hg⟩;rcases aW (E'.θ id).1 w.heap.size with ff|Ow
   ·obtain⟨rv,o0,g1,_⟩:=st.own id _ hg ff;simp [Hp.zero,Hp.get,Tr.get] at g1
   ·exact Ow
  have hm:=GX (E2:=E2) rel afv _ u x h3 hx;have kp:fy E w'.heap E2 w'.heap:=⟨rfl,fun _ h=>h,fun _ _=>rfl,fun _ _=>rfl,fun _ h=> .inl h,fun _ _=>rfl⟩;refine⟨E2,⟨MW.ρ,MW.dm,MW.θ,MW.κ,fun x hx=> .inl (MW.ro x hx),fun x hx=>?_,MW.N3,MW.rsm,MW.f_,MW.os,MW.tape,MW.output,MW.size,MW.keep,MW.own,MW.hd⟩,⟨r1.fresh,r1.res,fun i ob hi=>?_,r1.inj,fun x hx=>?_,bH.keep r1.iY (fun _ h=> .inl h) fun _ _=>rfl,fun x y hx=>?_⟩,hm⟩
  ·rcases hx with hx|hx
   ·exact MW.ru x hx
   ·exact .inr (.inr hx.1)
  ·obtain⟨g1,g2,g3⟩:=r1.live i ob hi;refine⟨g1,g2.keep kp g1 rfl (r1.Uj (E':=E2) rfl (fun _ _ _=>rfl) _),fun hr=>?_⟩;rcases hr with hr|hr
   ·exact g3 hr
   ·have:=fq r hi;have FQ:w.heap.size<=(E.θ i).1:=hr.1;omega
  ·rcases hx with hx|hx
   ·exact r1.qt x hx
   ·exact hx.2
  ·obtain⟨g1,g2,g3⟩:=r1.hid x y hx;refine⟨g1,fun hr=>?_,g3⟩;rcases hr with hr|hr
   ·exact g2 hr
   ·have:=(r.hid x y hx).1;omega
 ·simp [T.leaf] at Y
end
end
end Go.As
end

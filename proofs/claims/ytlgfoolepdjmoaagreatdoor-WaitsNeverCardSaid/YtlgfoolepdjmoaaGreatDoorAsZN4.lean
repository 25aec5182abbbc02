import Derived.Test.YtlgfoolepdjmoaaGreatDoorAsZN3
set_option linter.unusedSectionVars false
set_option linter.unusedVariables false
set_option linter.unusedSimpArgs false
section
namespace Go.As.Try
open Go Go.As Go.Proofs Go.RowKit
set_option maxRecDepth 100000
def maxLen:Nat:=Tryz.laysM144_ren.g 1
def base:MJ where
 ok ro h:=ro maxLen/\∃m,iW h maxLen 0=some (.int .i64 m)
 keep:=by intro ro mg h h' hk U Z;obtain⟨a,m,hm⟩:=hk;refine⟨U _ a,m,?_⟩;unfold iW at *;rw [Z _ a];exact hm
noncomputable def VG:TT:=lim 296 tab
noncomputable def ft:Nat->Option Func:=lim 242 Jc
def aif:List (Nat×Nat):=[(22,3),(23,4),(26,0),(30,7),(31,8),(46,9),(54,2),(55,5),(59,6),(94,0),(175,14),(263,14),(51,0),(70,2),(164,1),(182,1)]
noncomputable def ttE:TT:=KY aif VG
noncomputable def hints:Nat->Nat->Option Ao:=hAt aiO
theorem yx:eB Tryz.prog VG:=D' VD
theorem VF:eB Tryz.prog ttE:=Q' yx
theorem LN:UK Tryz.prog (JV VG hints) ft:=aac LM Yv
theorem ae7:UK Tryz.prog (JV ttE hints) ft:=by unfold ttE; rw [Z9]; exact LN
def b (n:Nat):W:=.int .u8 (.lit (.ofNat n))
def Fg:W:=.agg [b 0,b 0,b 0,b 0,b 0,b 0,b 0,b 0,b 0,b 1,b 1,b 0,b 0,b 1,b 0,b 0,b 0,b 0,b 0,b 0,b 0,b 0,b 0,b 0,b 0,b 0,b 0,b 0,b 0,b 0,b 0,b 0,b 1,b 0,b 0,b 2,b 0,b 0,b 0,b 0,b 5,b 5,b 5,b 5,b 0,b 5,b 0,b 0,b 3,b 3,b 3,b 3,b 3,b 3,b 3,b 3,b 3,b 3,b 0,b 5,b 5,b 5,b 0,b 0,b 0,b 4,b 4,b 4,b 4,b 4,b 4,b 4,b 4,b 4,b 4,b 4,b 4,b 4,b 4,b 4,b 4,b 4,b 4,b 4,b 4,b 4,b 4,b 4,b 4,b 4,b 4,b 0,b 0,b 0,b 0,b 4,b 0,b 4,b 4,b 4,b 4,b 4,b 4,b 4,b 4,b 4,b 4,b 4,b 4,b 4,b 4,b 4,b 4,b 4,b 4,b 4,b 4,b 4,b 4,b 4,b 4,b 4,b 4,b 5,b 0,b 5,b 0,b 0,b 0,b 0,b 0,b 0,b 0,b 0,b 0,b 0,b 0,b 0,b 0,b 0,b 0,b 0,b 0,b 0,b 0,b 0,b 0,b 0,b 0,b 0,b 0,b 0,b 0,b 0,b 0,b 0,b 0,b 0,b 0,b 0,b 0,b 0,b 0,b 0,b 0,b 0,b 0,b 0,b 0,b 0,b 0,b 0,b 0,b 0,b 0,b 0,b 0,b 0,b 0,b 0,b 0,b 0,b 0,b 0,b 0,b 0,b 0,b 0,b 0,b 0,b 0,b 0,b 0,b 0,b 0,b 0,b 0,b 0,b 0,b 0,b 0,b 0,b 0,b 0,b 0,b 0,b 0,b 0,b 0,b 0,b 0,b 0,b 0,b 0,b 0,b 0,b 0,b 0,b 0,b 0,b 0,b 0,b 0,b 0,b 0,b 0,b 0,b 0,b 0,b 0,b 0,b 0,b 0,b 0,b 0,b 0,b 0,b 0,b 0,b 0,b 0,b 0,b 0,b 0,b 0,b 0,b 0,b 0,b 0,b 0,b 0,b 0,b 0,b 0,b 0,b 0]
theorem qP {g:Nat} {f:Func} (h:Jc.get g=some f) (hg:g<242):Tryz.prog.funcs[g]?=some f:=by have:=congrArg (fun l=>l[g]?) LM;simp only [bp,anQ hg,bq,ag] at this;rw [<- this];exact h
theorem NH {g:Nat} {f:Func} (hf:Tryz.prog.funcs[g]?=some f) (hn:(f.name == "runtime.NumGoroutine")=false) (hb:f.body.isNone=false): ∀(args:Array Value) (w:World),(callFunc g args).run Tryz.prog w= .ok (.enter g args) w:=by intro args w;unfold callFunc;simp only [Sem.run_bind,run_program,Result.andThen_ok,hf];rw [hn,hb];simp
def Rr (g:Nat):Option (List W->St->T (W×St)):=
 match Nat.beq g 190 with
 |true=>some ta
 |false=>match Nat.beq g 209 with
  |true=>some s9
  |false=>match Nat.beq g 173 with
   |true=>some nz
   |false=>none
theorem aee:Tryz.laysM144_ren.f 144=173:=aa
section
variable (I:bG) (hI: ∀ρ ro h,I.ok ρ ro h->base.ok ro h)
theorem f190:@ik I Tryz.prog 190 ta:=@Ux _ I 190 Tryz.f190 (qP aa ae) aa aa aa aa
theorem f209:@ik I Tryz.prog 209 s9:=@TZ _ I 209 Tryz.f209 (qP aa ae) aa aa aa aa
include hI in
theorem f173:@ik I Tryz.prog 173 nz:=by letI:=I;refine JS ?_ (NH (f:=Tryz.f173) (qP aa ae) aa aa);intro ρ ro w hw s sub hs;obtain⟨_,m,hm⟩:=hI _ _ _ hw;have:=Any.strings_Contains { Tryz.laysM144 with } s sub m w hs (by rw [lF]; exact hm);rw [aee] at this;exact this
include hI in
theorem Ly: ∀(g:Nat) (h:List W->St->T (W×St)),Rr g=some h->@ik I Tryz.prog g h:=by
 intro g h hh;unfold Rr at hh;split at hh
 ·rename_i hg;have:=aq hg;subst this;simp at hh;subst hh;exact f190 I
 ·split at hh
  ·rename_i hg;have:=aq hg;subst this;simp at hh;subst hh;exact f209 I
  ·split at hh
   ·rename_i hg;have:=aq hg;subst this;simp at hh;subst hh;exact f173 I hI
   ·simp at hh
end
noncomputable def ah1 (g:Nat):List W->St->T (W×St):=FV VG ft Rr (EX VG hints) 100000 60 g
theorem L? (I:bG) (hI: ∀ρ ro h,I.ok ρ ro h->base.ok ro h) (g:Nat):@ik I Tryz.prog g (ah1 g):=@wI _ I _ yx _ _ LN _ (Ly I hI) _ (fun _ hc=>@vF _ I _ yx mixed _ _ hc) 100000 60 g
theorem Mt:Er [] Fg (ah1 168)=true:=aa
theorem oT {f:Func} (h:f.body.isSome=true): ∃c,f.body=some c:=am9.1 h
theorem Ph (I:bG) (hI: ∀ρ ro h,I.ok ρ ro h->base.ok ro h):@ik I Tryz.prog 168 (Cn [] Fg):=by letI:=I;obtain⟨c,hb⟩:=oT (f:=Tryz.f168) aa;exact zf (L? I hI 168) (fn:=Tryz.f168) (qP aa ae) aa hb Mt
def Lx (g:Nat):Option (List W->St->T (W×St)):=
 match Nat.beq g 168 with
 |true=>some (Cn [] Fg)
 |false=>Rr g
theorem Ef (I:bG) (hI: ∀ρ ro h,I.ok ρ ro h->base.ok ro h): ∀(g:Nat) (h:List W->St->T (W×St)),Lx g=some h->@ik I Tryz.prog g h:=by
 intro g h hh;unfold Lx at hh;split at hh
 ·rename_i hg;have:=aq hg;subst this;simp at hh;subst hh;exact Ph I hI
 ·exact Ly I hI g h hh
noncomputable def yP (g:Nat):List W->St->T (W×St):=FV VG ft Lx (EX VG hints) 100000 60 g
theorem oM (I:bG) (hI: ∀ρ ro h,I.ok ρ ro h->base.ok ro h) (g:Nat):@ik I Tryz.prog g (yP g):=@wI _ I _ yx _ _ LN _ (Ef I hI) _ (fun _ hc=>@vF _ I _ yx mixed _ _ hc) 100000 60 g
def AA:List Nat:=[109,117,116,101,120,32,109,59,32,109,117,116,101,120,32,110,59,32,116,104,114,101,97,100,32,97,32,123,32,108,111,99,107,32,109,59,32,108,111,99,107,32,110,59,32,125,32,116,104,114,101,97,100,32,98,32,123,32,108,111,99,107,32,110,59,32,108,111,99,107,32,109,59,32,125]
def Ka:List Nat:=[109,117,116,101,120,32,109,59,32,116,104,114,101,97,100,32,97,32,123,32,108,111,99,107,32,109,59,32,125,32,116,104,114,101,97,100,32,98,32,123,32,108,111,99,107,32,109,59,32,125]
def FG:List Nat:=[109,117,116,101,120,32,109,59,32,116,104,114,101,97,100,32,97,32,123,32,108,111,99,107,32,109,59,32,125,32,116,104,114,101,97,100,32,98,32,123,32,108,111,99,107,102,111,114,32,109,32,51,32,45,62,32,120,59,32,125]
abbrev wN (t:List Nat) (n:Int):List W:=[.str t,.int .i64 (.lit n)]
abbrev wV (k:Int) (s:List Nat) (a b c d:Int):W:=.tuple [.agg [.int .u8 (.lit k),.str s,.int .i64 (.lit a),.int .i64 (.lit b),.int .i64 (.lit c),.int .i64 (.lit d)],.agg [.int .i64 (.lit 0),.int .i64 (.lit 0)]]
theorem aet:Er [.str [97]] (.bool (.lit true)) (yP 147)=true:=aa
theorem aes:Er [.str [98]] (.bool (.lit true)) (yP 147)=true:=aa
def Li:List (List W×W):=[(wN AA 0,wV 3 [109,117,116,101,120] 0 1 0 5),(wN AA 5,wV 2 [109] 0 1 6 7),(wN AA 7,wV 4 [59] 0 1 7 8),(wN AA 8,wV 3 [109,117,116,101,120] 0 1 9 14),(wN AA 14,wV 2 [110] 0 1 15 16),(wN AA 16,wV 4 [59] 0 1 16 17),(wN AA 17,wV 3 [116,104,114,101,97,100] 0 1 18 24),(wN AA 24,wV 2 [97] 0 1 25 26),(wN AA 26,wV 4 [123] 0 1 27 28),(wN AA 28,wV 3 [108,111,99,107] 0 1 29 33),(wN AA 33,wV 2 [109] 0 1 34 35),(wN AA 35,wV 4 [59] 0 1 35 36),(wN AA 36,wV 3 [108,111,99,107] 0 1 37 41),(wN AA 41,wV 2 [110] 0 1 42 43),(wN AA 43,wV 4 [59] 0 1 43 44),(wN AA 44,wV 4 [125] 0 1 45 46),(wN AA 46,wV 3 [116,104,114,101,97,100] 0 1 47 53),(wN AA 53,wV 2 [98] 0 1 54 55),(wN AA 55,wV 4 [123] 0 1 56 57),(wN AA 57,wV 3 [108,111,99,107] 0 1 58 62),(wN AA 62,wV 2 [110] 0 1 63 64),(wN AA 64,wV 4 [59] 0 1 64 65),(wN AA 65,wV 3 [108,111,99,107] 0 1 66 70),(wN AA 70,wV 2 [109] 0 1 71 72),(wN AA 72,wV 4 [59] 0 1 72 73),(wN AA 73,wV 4 [125] 0 1 74 75),(wN AA 75,wV 5 [] 0 1 75 75),(wN Ka 0,wV 3 [109,117,116,101,120] 0 1 0 5),(wN Ka 5,wV 2 [109] 0 1 6 7),(wN Ka 7,wV 4 [59] 0 1 7 8),(wN Ka 8,wV 3 [116,104,114,101,97,100] 0 1 9 15),(wN Ka 15,wV 2 [97] 0 1 16 17),(wN Ka 17,wV 4 [123] 0 1 18 19),(wN Ka 19,wV 3 [108,111,99,107] 0 1 20 24),(wN Ka 24,wV 2 [109] 0 1 25 26),(wN Ka 26,wV 4 [59] 0 1 26 27),(wN Ka 27,wV 4 [125] 0 1 28 29),(wN Ka 29,wV 3 [116,104,114,101,97,100] 0 1 30 36),(wN Ka 36,wV 2 [98] 0 1 37 38),(wN Ka 38,wV 4 [123] 0 1 39 40),(wN Ka 40,wV 3 [108,111,99,107] 0 1 41 45),(wN Ka 45,wV 2 [109] 0 1 46 47),(wN Ka 47,wV 4 [59] 0 1 47 48),(wN Ka 48,wV 4 [125] 0 1 49 50),(wN Ka 50,wV 5 [] 0 1 50 50),(wN FG 0,wV 3 [109,117,116,101,120] 0 1 0 5),(wN FG 5,wV 2 [109] 0 1 6 7),(wN FG 7,wV 4 [59] 0 1 7 8),(wN FG 8,wV 3 [116,104,114,101,97,100] 0 1 9 15),(wN FG 15,wV 2 [97] 0 1 16 17),(wN FG 17,wV 4 [123] 0 1 18 19),(wN FG 19,wV 3 [108,111,99,107] 0 1 20 24),(wN FG 24,wV 2 [109] 0 1 25 26),(wN FG 26,wV 4 [59] 0 1 26 27),(wN FG 27,wV 4 [125] 0 1 28 29),(wN FG 29,wV 3 [116,104,114,101,97,100] 0 1 30 36),(wN FG 36,wV 2 [98] 0 1 37 38),(wN FG 38,wV 4 [123] 0 1 39 40),(wN FG 40,wV 3 [108,111,99,107,102,111,114] 0 1 41 48),(wN FG 48,wV 2 [109] 0 1 49 50),(wN FG 50,wV 1 [] 3 1 51 52),(wN FG 52,wV 4 [45,62] 0 1 53 55),(wN FG 55,wV 2 [120] 0 1 56 57),(wN FG 57,wV 4 [59] 0 1 57 58),(wN FG 58,wV 4 [125] 0 1 59 60),(wN FG 60,wV 5 [] 0 1 60 60)]
theorem aiA:Li.all (fun p=>tl p.1 p.2 (yP 138))=true:=aa
def QW:List W:=[.agg [.ro [.int .u8 (.lit 1),.str [109],.int .i64 (.lit 0),.str [],.int .i64 (.lit 1),.int .u8 (.lit 1),.str [110],.int .i64 (.lit 0),.str [],.int .i64 (.lit 1)] 2 false,.ro [.str [97],.ro [.int .u8 (.lit 1),.int .u8 (.lit 1),.str [109],.str [],.int .i64 (.lit 0),.dv,.dv,.dv,.int .i64 (.lit 1),.int .u8 (.lit 1),.int .u8 (.lit 1),.str [110],.str [],.int .i64 (.lit 0),.dv,.dv,.dv,.int .i64 (.lit 1)] 2 false,.int .i64 (.lit 1),.str [98],.ro [.int .u8 (.lit 1),.int .u8 (.lit 1),.str [110],.str [],.int .i64 (.lit 0),.dv,.dv,.dv,.int .i64 (.lit 1),.int .u8 (.lit 1),.int .u8 (.lit 1),.str [109],.str [],.int .i64 (.lit 0),.dv,.dv,.dv,.int .i64 (.lit 1)] 2 false,.int .i64 (.lit 1)] 2 false]]
theorem aiD:tl QW (.agg [.int .i64 (.lit 0),.int .i64 (.lit 0)]) (yP 82)=true:=aa
def QV:List W:=[.agg [.ro [.int .u8 (.lit 1),.str [109],.int .i64 (.lit 0),.str [],.int .i64 (.lit 1)] 1 false,.ro [.str [97],.ro [.int .u8 (.lit 1),.int .u8 (.lit 1),.str [109],.str [],.int .i64 (.lit 0),.dv,.dv,.dv,.int .i64 (.lit 1)] 1 false,.int .i64 (.lit 1),.str [98],.ro [.int .u8 (.lit 1),.int .u8 (.lit 1),.str [109],.str [],.int .i64 (.lit 0),.dv,.dv,.dv,.int .i64 (.lit 1)] 1 false,.int .i64 (.lit 1)] 2 false]]
theorem aiC:tl QV (.agg [.int .i64 (.lit 0),.int .i64 (.lit 0)]) (yP 82)=true:=aa
def QU:List W:=[.agg [.ro [.int .u8 (.lit 1),.str [109],.int .i64 (.lit 0),.str [],.int .i64 (.lit 1)] 1 false,.ro [.str [97],.ro [.int .u8 (.lit 1),.int .u8 (.lit 1),.str [109],.str [],.int .i64 (.lit 0),.dv,.dv,.dv,.int .i64 (.lit 1)] 1 false,.int .i64 (.lit 1),.str [98],.ro [.int .u8 (.lit 1),.int .u8 (.lit 4),.str [109],.str [120],.int .i64 (.lit 0),.ro [.int .u8 (.lit 1),.str [],.int .i64 (.lit 3),.dv] 1 false,.dv,.dv,.int .i64 (.lit 1)] 1 false,.int .i64 (.lit 1)] 2 false]]
theorem aiB:tl QU (.agg [.int .i64 (.lit 0),.int .i64 (.lit 0)]) (yP 82)=true:=aa
def QP:List (List W×W):=[(QW,.agg [.int .i64 (.lit 0),.int .i64 (.lit 0)]),(QV,.agg [.int .i64 (.lit 0),.int .i64 (.lit 0)]),(QU,.agg [.int .i64 (.lit 0),.int .i64 (.lit 0)])]
def Ra:List W:=[.agg [.ro [.int .u8 (.lit 1),.str [109],.int .i64 (.lit 0),.str [],.int .i64 (.lit 1),.int .u8 (.lit 1),.str [110],.int .i64 (.lit 0),.str [],.int .i64 (.lit 1)] 2 false,.ro [.str [97],.dv,.ro [.int .u8 (.lit 1),.int .u8 (.lit 1),.int .i64 (.lit 0),.int .i64 (.lit (-1)),.int .i64 (.lit 0),.int .i64 (.lit 0),.dv,.int .u8 (.lit 1),.int .u8 (.lit 1),.int .i64 (.lit 1),.int .i64 (.lit (-1)),.int .i64 (.lit 0),.int .i64 (.lit 0),.dv] 2 false,.str [98],.dv,.ro [.int .u8 (.lit 1),.int .u8 (.lit 1),.int .i64 (.lit 1),.int .i64 (.lit (-1)),.int .i64 (.lit 0),.int .i64 (.lit 0),.dv,.int .u8 (.lit 1),.int .u8 (.lit 1),.int .i64 (.lit 0),.int .i64 (.lit (-1)),.int .i64 (.lit 0),.int .i64 (.lit 0),.dv] 2 false] 2 false]]
theorem aiG:tl Ra (.int .i64 (.lit 0)) (yP 61)=true:=aa
def QZ:List W:=[.agg [.ro [.int .u8 (.lit 1),.str [109],.int .i64 (.lit 0),.str [],.int .i64 (.lit 1)] 1 false,.ro [.str [97],.dv,.ro [.int .u8 (.lit 1),.int .u8 (.lit 1),.int .i64 (.lit 0),.int .i64 (.lit (-1)),.int .i64 (.lit 0),.int .i64 (.lit 0),.dv] 1 false,.str [98],.dv,.ro [.int .u8 (.lit 1),.int .u8 (.lit 1),.int .i64 (.lit 0),.int .i64 (.lit (-1)),.int .i64 (.lit 0),.int .i64 (.lit 0),.dv] 1 false] 2 false]]
theorem aiF:tl QZ (.int .i64 (.lit 0)) (yP 61)=true:=aa
def QY:List W:=[.agg [.ro [.int .u8 (.lit 1),.str [109],.int .i64 (.lit 0),.str [],.int .i64 (.lit 1)] 1 false,.ro [.str [97],.dv,.ro [.int .u8 (.lit 1),.int .u8 (.lit 1),.int .i64 (.lit 0),.int .i64 (.lit (-1)),.int .i64 (.lit 0),.int .i64 (.lit 0),.dv] 1 false,.str [98],.ro [.str [120]] 1 false,.ro [.int .u8 (.lit 1),.int .u8 (.lit 4),.int .i64 (.lit 0),.int .i64 (.lit 0),.int .i64 (.lit 0),.int .i64 (.lit 0),.ro [.int .u8 (.lit 1),.str [],.int .i64 (.lit 3),.dv] 1 false] 1 false] 2 false]]
theorem aiE:tl QY (.int .i64 (.lit 0)) (yP 61)=true:=aa
def QQ:List (List W×W):=[(Ra,.int .i64 (.lit 0)),(QZ,.int .i64 (.lit 0)),(QY,.int .i64 (.lit 0))]
noncomputable def Rq (g:Nat):Option (List W->St->T (W×St)):=
 match Nat.beq g 138 with
 |true=>some (orElse (BP Li) (yP 138))
 |false=>match Nat.beq g 82 with
 |true=>some (orElse (BP QP) (yP 82))
 |false=>match Nat.beq g 61 with
 |true=>some (orElse (BP QQ) (yP 61))
 |false=>Lx g
theorem Lw (I:bG) (hI: ∀ρ ro h,I.ok ρ ro h->base.ok ro h): ∀(g:Nat) (h:List W->St->T (W×St)),Rq g=some h->@ik I Tryz.prog g h:=by
 intro g h hh;letI:=I;unfold Rq at hh;split at hh
 ·rename_i hg;have:=aq hg;subst this;simp only [ag] at hh;subst hh;obtain⟨c,hb⟩:=oT (f:=Tryz.f138) aa;refine ng (DY (oM I hI 138) (fn:=Tryz.f138) (qP aa ae) aa hb fun p hp=>?_) (oM I hI 138);exact aX.1 aiA p hp
 ·skip;split at hh
  ·rename_i hg;have:=aq hg;subst this;simp only [ag] at hh;subst hh;obtain⟨c,hb⟩:=oT (f:=Tryz.f82) aa;refine ng (DY (oM I hI 82) (fn:=Tryz.f82) (qP aa ae) aa hb fun p hp=>?_) (oM I hI 82);simp only [QP,aw,amI,or_false] at hp;rcases hp with rfl|rfl|rfl
   ·exact aiD
   ·exact aiC
   ·exact aiB
  ·skip;split at hh
   ·rename_i hg;have:=aq hg;subst this;simp only [ag] at hh;subst hh;obtain⟨c,hb⟩:=oT (f:=Tryz.f61) aa;refine ng (DY (oM I hI 61) (fn:=Tryz.f61) (qP aa ae) aa hb fun p hp=>?_) (oM I hI 61);simp only [QQ,aw,amI,or_false] at hp;rcases hp with rfl|rfl|rfl
    ·exact aiG
    ·exact aiF
    ·exact aiE
   ·skip;exact Ef I hI g h hh
noncomputable def W4 (g:Nat):List W->St->T (W×St):=FV VG ft Rq (EX VG hints) 100000 60 g
theorem PZ (I:bG) (hI: ∀ρ ro h,I.ok ρ ro h->base.ok ro h) (g:Nat):@ik I Tryz.prog g (W4 g):=@wI _ I _ yx _ _ LN _ (Lw I hI) _ (fun _ hc=>@vF _ I _ yx mixed _ _ hc) 100000 60 g
end Go.As.Try
end
section
namespace Go.As
noncomputable section
open Go.RowKit
mutual
def fj (h:Hp):W->W->Bool
 | .bool (.lit a),v=>match v with
   | .bool (.lit b)=>a == b
   |_=>false
 | .int k (.lit a),v=>match v with
   | .int k' (.lit b)=>decide (k=k')&&decide (a=b)
   |_=>false
 | .str s,v=>match v with
   | .str t=>gC s t
   |_=>false
 | .dv,v=>match v with
   | .dv=>true
   |_=>false
 | .emp,v=>match v with
   | .slice _ _ len c=>match c with
     | .exact k=>Nat.beq len 0&&Nat.beq k 0
     |_=>false
   | .emp=>true
   |_=>false
 | .agg ks,v=>match v with
   | .agg cs=>Nat.beq ks.length cs.length&&wi h ks cs
   |_=>false
 | .ro ks n false,v=>match v with
   | .slice id off len _=>match Nat.beq n len with
     |true=>match n with
      |0=>false
      |_=>match h.get id with
       |some (.cells cs _)=>match eE off cs with
        |some l=>wi h ks l
        |none=>false
       |_=>false
     |false=>false
   |_=>false
 |_,_=>false
def wi (h:Hp):List W->List W->Bool
 |[],_=>true
 |k::ks,l=>match l with
  |v::vs=>match fj h k v with
   |true=>wi h ks vs
   |false=>false
  |[]=>false
end
def Ba (key:List W) (v:W) (f:List W->St->T (W×St)):Bool:=match f key ⟨.nil,Hp.zero,[]⟩ with
 | .ret (u,s)=>fj s.h v u
 |_=>false
section
variable {P:Program}
mutual
theorem GP [bG] {E E2:En} {H:Hp} {w:World} (r:bN E H w) (jy: ∀id ob,H.get id=some ob->E2.ro (E.θ id).1): ∀(key v:W) (u:Value),fj H key v=true->VR E w.heap v u->VR E2 w.heap key u
 | .bool b,v,u,hm,hv=>by
   cases b<;>simp only [fj,aQ] at hm;split at hm
   ·simp only [beq_iff_eq] at hm;subst hm;simpa [VR,SB.den] using hv
   ·simp at hm
 | .int k e,v,u,hm,hv=>by
   cases e<;>simp only [fj,aQ] at hm;split at hm
   ·simp only [an,decide_eq_true_eq] at hm;obtain⟨rfl,rfl⟩:=hm;simpa [VR,V.den] using hv
   ·simp at hm
 | .str s,v,u,hm,hv=>by
   simp only [fj] at hm;split at hm
   ·have:=(kr _ _).1 hm;subst this;simpa only [VR] using hv
   ·simp at hm
 | .dv,v,u,hm,hv=>by
   simp only [fj] at hm;split at hm
   ·simpa only [VR] using hv
   ·simp at hm
 | .emp,v,u,hm,hv=>by
   simp only [fj] at hm;split at hm
   ·split at hm
    ·simp only [an] at hm;have U:=aq hm.1;have Z:=aq hm.2;subst U Z;simp only [VR,eC] at hv ⊢;obtain⟨_,a,cap,rfl,_,rfl,_⟩:=hv;exact⟨_,rfl⟩
    ·simp at hm
   ·simpa only [VR] using hv
   ·simp at hm
 | .agg ks,v,u,hm,hv=>by
   simp only [fj] at hm;split at hm
   ·rename_i cs;simp only [an] at hm;simp only [VR] at hv ⊢;obtain⟨us,rfl,Z⟩:=hv;obtain⟨h3,h4⟩:=xP r jy ks cs us hm.2 Z;have e:=aq hm.1;rw [e,<- Z.length,anj] at h3;exact⟨us,rfl,h3⟩
   ·simp at hm
 | .ro ks n true,v,u,hm,hv=>by simp [fj] at hm
 | .ro ks n false,v,u,hm,hv=>by
   simp only [fj] at hm;split at hm
   ·rename_i id off len c;split at hm
    ·rename_i hn;have hn:=aq hn;subst hn;split at hm
     ·simp at hm
     ·rename_i hn0;split at hm
      ·rename_i cs e hg;split at hm
       ·rename_i l Y;simp only [VR] at hv ⊢;obtain⟨hd,a,cap,rfl,hle,fV⟩:=hv;obtain⟨_,ho,_⟩:=r.live id _ hg;simp only [OR] at ho;obtain⟨arr,lo,hi,us,hb,Z,h3,_,_,_,h7⟩:=ho;obtain⟨q1,q2,q3⟩:=Z.eE Y;obtain⟨p1,p2⟩:=xP r jy ks l _ hm q1
        have ha:a=⟨(E.θ id).1,(E.θ id).2+off,none⟩:=by
         cases c with
         |exact c=>
          simp only [eC] at fV;rcases fV.2 with h|h
          ·exact h
          ·exact absurd J hn0
         |rest es=>
          simp only [eC] at fV;rcases fV with h|h
          ·exact h.1
          ·exact absurd J hn0
        subst ha;refine⟨_,_,cap,_,rfl,hle,ad,jy id _ hg,p1,?_,?_⟩
        ·intro i x hx
         have I1:us[off+i]?=some x:=by
          rw [am5] at hx;split at hx
          ·rw [am4] at hx; exact hx
          ·simp at hx
         have:=h3 _ _ I1;unfold iW;rw [hb];simp only;rw [<- this];congr 1;omega
        ·intro x hx;exact h7 x (bw (amG hx))
       ·simp at hm
      ·simp at hm
    ·simp at hm
   ·simp at hm
 | .ptr _ _,v,u,hm,_=>by simp [fj] at hm
 | .sV,v,u,hm,_=>by simp [fj] at hm
 | .mJ _,v,u,hm,_=>by simp [fj] at hm
 | .slice _ _ _ _,v,u,hm,_=>by simp [fj] at hm
 | .map _,v,u,hm,_=>by simp [fj] at hm
 | .ri,v,u,hm,_=>by simp [fj] at hm
 | .func _ _ _,v,u,hm,_=>by simp [fj] at hm
 | .u4,v,u,hm,_=>by simp [fj] at hm
 | .iface _ _,v,u,hm,_=>by simp [fj] at hm
 | .wY,v,u,hm,_=>by simp [fj] at hm
 | .tuple _,v,u,hm,_=>by simp [fj] at hm
 | .Kc _,v,u,hm,_=>by simp [fj] at hm
 | .wy _ _,v,u,hm,_=>by simp [fj] at hm
 | .eg _ _,v,u,hm,_=>by simp [fj] at hm
 | .jD _,v,u,hm,_=>by simp [fj] at hm
 | .oq _ _ _,v,u,hm,_=>by simp [fj] at hm
 | .yu _ _ _ _,v,u,hm,_=>by simp [fj] at hm
 | .any,v,u,hm,_=>by simp [fj] at hm
 | .w4 _ _,v,u,hm,_=>by simp [fj] at hm
 | .sD _ _ _ _,v,u,hm,_=>by simp [fj] at hm
theorem xP [bG] {E E2:En} {H:Hp} {w:World} (r:bN E H w) (jy: ∀id ob,H.get id=some ob->E2.ro (E.θ id).1): ∀(ks vs:List W) (us:List Value),wi H ks vs=true->cw E w.heap vs us->
 cw E2 w.heap ks (us.take ks.length)/\ks.length<=us.length
 |[],vs,us,_,_=>by simp [cw]
 |k::ks,[],us,hm,_=>by simp [wi] at hm
 |k::ks,v::vs,us,hm,hv=>by
  simp only [wi] at hm;split at hm
  ·rename_i U;rw [bO] at hv;obtain⟨u,gw,rfl,hu,BS⟩:=hv;obtain⟨p1,p2⟩:=xP r jy ks vs gw hm BS;rw [aL,anh,bO];exact⟨⟨u,_,rfl,GP r jy k v u U hu,p1⟩,by simp; exact p2⟩
  ·simp at hm
end
theorem LL {key:List W} {v:W} {f:List W->St->T (W×St)} (h:Ba key v f=true): ∃u s1,f key ⟨.nil,Hp.zero,[]⟩ = .ret (u,s1)/\fj s1.h v u=true:=by
 unfold Ba at h;split at h
 ·exact⟨_,_,by assumption,h⟩
 ·simp at h
theorem Xy [bG] {g:FuncId} {f:List W->St->T (W×St)} (hf:ik P g f) {fn:Func} (ua:P.funcs[g]?=some fn) (kc:(fn.name == "runtime.NumGoroutine")=false) {c:Code} (hb:fn.body=some c)
 {r?:List (List W×W)} (h: ∀p∈r?,Ba p.1 p.2 f=true):ik P g (BP r?):=by
 intro amB s E w vals v s' r hv hp Y;unfold BP at Y;split at Y
 ·rename_i v' Yb;have:=bC Y;simp only [ak] at this;obtain⟨rfl,rfl⟩:=this;obtain⟨k,rq,hlen,aeO⟩:=zi Yb;have hk:=h _ rq;obtain⟨u,s1,jx,h3⟩:=LL hk;obtain⟨p1,_⟩:=oW r E.ρ k amB vals aeO hv;rw [hlen,<- hv.length,anj] at p1;have oB:bG.ok E.ρ (fun b=>b<w.heap.size) w.heap:=bG.keep r.iX r.qC fun _ _=>rfl;obtain⟨_,_,h4⟩:=hf k ⟨.nil,Hp.zero,[]⟩ (En.zero E.ρ (fun b=>b<w.heap.size)) w vals u s1 (Dd E.ρ _ w (fun _ h=>h) oB) p1 (by simp [bT]) (by rw [jx]; rfl)
  have RD:(callFunc g vals.toArray).run P w= .ok (.enter g vals.toArray) w:=by unfold callFunc;simp [ua,hb,by simpa using kc]
  refine⟨rfl,hp,?_⟩;unfold jE lI at h4 ⊢;rw [RD] at h4 ⊢;refine Calls.mono h4 fun e w' ⟨x,he,E',st,rel,hx⟩=> ⟨x,he,?_⟩;obtain⟨MQ,r1⟩:=nt r st.below;let E2:En:={ E with ro:=fun x=>E.ro x\/(w.heap.size<=x/\x<w'.heap.size) }
  have aeN: ∀id ob,s1.h.get id=some ob->E2.ro (E'.θ id).1:=fun id ob hg=>by
   refine .inr ⟨?_,fm rel hg⟩;rcases aT (E'.θ id).1 w.heap.size with fD|On
   ·obtain⟨rG,o0,g1,_⟩:=st.own id _ hg fD;simp [Hp.zero,Hp.get,Tr.get] at g1
   ·exact On
  have hm:=GP (E2:=E2) rel aeN _ u x h3 hx;have kp:fw E w'.heap E2 w'.heap:=⟨rfl,fun _ h=>h,fun _ _=>rfl,fun _ _=>rfl,fun _ h=> .inl h,fun _ _=>rfl⟩;refine⟨E2,⟨MQ.ρ,MQ.dm,MQ.θ,MQ.κ,fun x hx=> .inl (MQ.ro x hx),fun x hx=>?_,MQ.NW,MQ.rsm,MQ.ZT,MQ.os,MQ.tape,MQ.output,MQ.size,MQ.keep,MQ.own,MQ.hd⟩,⟨r1.fresh,r1.res,fun i ob hi=>?_,r1.inj,fun x hx=>?_,bG.keep r1.iX (fun _ h=> .inl h) fun _ _=>rfl,fun x y hx=>?_⟩,hm⟩
  ·rcases hx with hx|hx
   ·exact MQ.rF x hx
   ·exact .inr (.inr hx.1)
  ·obtain⟨g1,g2,g3⟩:=r1.live i ob hi;refine⟨g1,g2.keep kp g1 rfl (r1.T8 (E':=E2) rfl (fun _ _ _=>rfl) _),fun hr=>?_⟩;rcases hr with hr|hr
   ·exact g3 hr
   ·have:=fm r hi;have FO:w.heap.size<=(E.θ i).1:=hr.1;omega
  ·rcases hx with hx|hx
   ·exact r1.qC x hx
   ·exact hx.2
  ·obtain⟨g1,g2,g3⟩:=r1.hid x y hx;refine⟨g1,fun hr=>?_,g3⟩;rcases hr with hr|hr
   ·exact g2 hr
   ·have:=(r.hid x y hx).1;omega
 ·simp [T.leaf] at Y
end
end
end Go.As
end
